/- flat's task by contract. (under way) -/
import Derived.Test.YtcnmaplopbbmaaaGreatMBo
namespace Go.Proofs.YtcnmaplopbbmaaaGreat
open Go.RowKit
theorem Fl.FM.err {W w:World} {B:Nat} {nm:Fl.S} {c1 c2 c3 c4 gp gm gn ge:Value} {pl ml:List Fl.S} {ns:List Gr.Nd} {es:List Gr.Ed} {er:Int} (h:Fl.FM W w B nm c1 c2 c3 c4 gp gm gn ge pl ml ns es er) (e:Int):Fl.FM W (w.setCell ⟨B,9,none⟩ (.int .i64 e)) B nm c1 c2 c3 c4 gp gm gn ge pl ml ns es e:=by
 have t:=TY.blk h.box
 have k:=by_set w B 9 (.int .i64 e)
 exact ⟨(set_cells h.box 9 _).trans rfl,h.lo,set_grow h.grow h.lo 9 _,t.keep_own k h.parts (by decide),t.keep_own k h.msgs (by decide),h.ne,t.keep_own k h.nodes (by decide),t.keep_own k h.edges (by decide)⟩
theorem m7_cells {w:World} {X:Nat} {T:TypeId} {b0 b1 b2 b3 b4 b5 b6:Value} (h:w.heap[X]? = some (.cells #[b0,b1,b2,b3,b4,b5,b6] T (0,0))):w.cell? ⟨X,0,none⟩=some b0∧w.cell? ⟨X,1,none⟩=some b1∧w.cell? ⟨X,2,none⟩=some b2∧w.cell? ⟨X,3,none⟩=some b3∧w.cell? ⟨X,4,none⟩=some b4∧w.cell? ⟨X,5,none⟩=some b5∧w.cell? ⟨X,6,none⟩=some b6∧∀ k,w.frozen? ⟨X,k,none⟩=false :=
 ⟨(cell_of_row w X 0 _ _ _ h).trans rfl,(cell_of_row w X 1 _ _ _ h).trans rfl,(cell_of_row w X 2 _ _ _ h).trans rfl,(cell_of_row w X 3 _ _ _ h).trans rfl,(cell_of_row w X 4 _ _ _ h).trans rfl,(cell_of_row w X 5 _ _ _ h).trans rfl,(cell_of_row w X 6 _ _ _ h).trans rfl,fun k=>frozen_of_row w X k _ _ h⟩
theorem Fl.place_lt (l:List Fl.S) (x:Fl.S):Fl.place l x < (l.length:Int):=by
 unfold Fl.place Gr.idx
 split
 ·rename_i i h
  rw [List.findIdx?_eq_some_iff_findIdx_eq] at h
  have:=h.1
  omega
 ·omega
set_option maxRecDepth 100000 in
set_option maxHeartbeats 8000000 in
theorem flTask_any (W:World) (B:Nat) (nm:ByteArray) (c1 c2 c3 c4 gp ge:Value) (pl:List Fl.S) (es:List Gr.Ed) (fs:List Ch.Fl) (hfs:fs.length≤10000) (hpl:pl.length≤10000) (hc:Gr.Recs 4 Ch.fcells W c2 fs) (hs:(∃ a n c,c1=.slice a n c)∧(∃ a n c,c3=.slice a n c)∧∃ a n c,c4=.slice a n c) :
  Fl.TaskSpec W B nm c1 c2 c3 c4 gp ge pl es fs:=by
 intro w gm gn xp xf ml ns er it h hm hn hxp hxf
 have H:=Lib.hid h
 have HC:=Lib.hid hc
 have HS:=Lib.hid hs
 have HXS:=Lib.hid hxf
 obtain ⟨x0,x1,rfl⟩:=own_form hxp
 obtain ⟨y0,y1,rfl⟩:=own_form hxf
 obtain ⟨fo,fc,rfl⟩:=Gr.Recs.form hc
 obtain ⟨⟨ca,cn,cc,rfl⟩,⟨da,dn,dc,rfl⟩,⟨ea,en,ec,rfl⟩⟩:=hs
 obtain ⟨ga,gc,rfl⟩:=own_form h.parts
 clear h hc hxp hxf
 obtain ⟨fl,hfl⟩:∃ n,n=it.flows.length:=⟨_,rfl⟩
 have Hfl:=Lib.hid hfl
 simp only [Ch.ic]
 rw [← hfl]
 clear hfl
 go_enter Tryz.func60,Tryz.ntmps60
 go_upto_region 1 with fail
 go_upto_region 2 with fail
 have HBw10:Hid (((w.alloc (.cells #[.int .i64 it.kind,.string it.id,.string it.first,.slice x0 it.parts.length x1,.slice y0 fl y1,.bool it.loop,.string ⟨#[]⟩,.slice none 0 0,.slice none 0 0,.slice none 0 0] 116)).alloc (.cells #[.int .i64 3,.string it.id,.int .i64 (-1),.int .i64 (-1),.int .i64 0,.int .i64 (-1),.bool it.loop] 52)).heap[w.heap.size]? = some (.cells #[.int .i64 it.kind,.string it.id,.string it.first,.slice x0 it.parts.length x1,.slice y0 fl y1,.bool it.loop,.string ⟨#[]⟩,.slice none 0 0,.slice none 0 0,.slice none 0 0] 116 (0,0))):=Lib.hid (lay2_0 _ _ _)
 have HBw11:Hid (((w.alloc (.cells #[.int .i64 it.kind,.string it.id,.string it.first,.slice x0 it.parts.length x1,.slice y0 fl y1,.bool it.loop,.string ⟨#[]⟩,.slice none 0 0,.slice none 0 0,.slice none 0 0] 116)).alloc (.cells #[.int .i64 3,.string it.id,.int .i64 (-1),.int .i64 (-1),.int .i64 0,.int .i64 (-1),.bool it.loop] 52)).heap[w.heap.size+1]? = some (.cells #[.int .i64 3,.string it.id,.int .i64 (-1),.int .i64 (-1),.int .i64 0,.int .i64 (-1),.bool it.loop] 52 (0,0))):=Lib.hid (lay2_1 _ _ _)
 have HGw1:Hid (Flow.Grow w ((w.alloc (.cells #[.int .i64 it.kind,.string it.id,.string it.first,.slice x0 it.parts.length x1,.slice y0 fl y1,.bool it.loop,.string ⟨#[]⟩,.slice none 0 0,.slice none 0 0,.slice none 0 0] 116)).alloc (.cells #[.int .i64 3,.string it.id,.int .i64 (-1),.int .i64 (-1),.int .i64 0,.int .i64 (-1),.bool it.loop] 52))):=Lib.hid (lay2_g _ _ _)
 have HSw1:Hid (((w.alloc (.cells #[.int .i64 it.kind,.string it.id,.string it.first,.slice x0 it.parts.length x1,.slice y0 fl y1,.bool it.loop,.string ⟨#[]⟩,.slice none 0 0,.slice none 0 0,.slice none 0 0] 116)).alloc (.cells #[.int .i64 3,.string it.id,.int .i64 (-1),.int .i64 (-1),.int .i64 0,.int .i64 (-1),.bool it.loop] 52)).heap.size=w.heap.size+1+1):=Lib.hid (by simp)
 generalize (w.alloc (.cells #[.int .i64 it.kind,.string it.id,.string it.first,.slice x0 it.parts.length x1,.slice y0 fl y1,.bool it.loop,.string ⟨#[]⟩,.slice none 0 0,.slice none 0 0,.slice none 0 0] 116)).alloc (.cells #[.int .i64 3,.string it.id,.int .i64 (-1),.int .i64 (-1),.int .i64 0,.int .i64 (-1),.bool it.loop] 52)=w1 at *
 obtain ⟨X,hX⟩:∃ X,X=w.heap.size:=⟨_,rfl⟩
 rw [← hX] at HBw10 HBw11 HSw1 ⊢
 have HXw1:=Lib.hid hX
 clear hX
 have CXw1:Hid (∀ wq,Flow.Grow w1 wq→wq.cell? ⟨X,0,none⟩=some (.int .i64 it.kind)∧wq.cell? ⟨X,1,none⟩=some (.string it.id)∧wq.cell? ⟨X,2,none⟩=some (.string it.first)∧wq.cell? ⟨X,3,none⟩=some (.slice x0 it.parts.length x1)∧wq.cell? ⟨X,4,none⟩=some (.slice y0 fl y1)∧wq.cell? ⟨X,5,none⟩=some (.bool it.loop)∧wq.cell? ⟨X,6,none⟩=some (.string ⟨#[]⟩)∧wq.cell? ⟨X,7,none⟩=some (.slice none 0 0)∧wq.cell? ⟨X,8,none⟩=some (.slice none 0 0)∧wq.cell? ⟨X,9,none⟩=some (.slice none 0 0)∧wq.cell? ⟨X+1,0,none⟩=some (.int .i64 3)∧wq.cell? ⟨X+1,1,none⟩=some (.string it.id)∧wq.cell? ⟨X+1,2,none⟩=some (.int .i64 (-1))∧wq.cell? ⟨X+1,3,none⟩=some (.int .i64 (-1))∧wq.cell? ⟨X+1,4,none⟩=some (.int .i64 0)∧wq.cell? ⟨X+1,5,none⟩=some (.int .i64 (-1))∧wq.cell? ⟨X+1,6,none⟩=some (.bool it.loop)):=Lib.hid (fun wq g=>⟨lay_cell g HBw10.out rfl,lay_cell g HBw10.out rfl,lay_cell g HBw10.out rfl,lay_cell g HBw10.out rfl,lay_cell g HBw10.out rfl,lay_cell g HBw10.out rfl,lay_cell g HBw10.out rfl,lay_cell g HBw10.out rfl,lay_cell g HBw10.out rfl,lay_cell g HBw10.out rfl,lay_cell g HBw11.out rfl,lay_cell g HBw11.out rfl,lay_cell g HBw11.out rfl,lay_cell g HBw11.out rfl,lay_cell g HBw11.out rfl,lay_cell g HBw11.out rfl,lay_cell g HBw11.out rfl⟩)
 have FXw1:Hid (∀ wq,Flow.Grow w1 wq→(∀ k,wq.frozen? ⟨X,k,none⟩=false)∧(∀ k,wq.frozen? ⟨X+1,k,none⟩=false)):=Lib.hid (fun wq g=>⟨fun k=>lay_frozen g HBw10.out k,fun k=>lay_frozen g HBw11.out k⟩)
 obtain ⟨z0,z1,z2,z3,z4,z5,z6,z7,z8,z9,zf⟩:=m10_cells HBw10.out
 have HF1:=Lib.hid (H.out.keep HGw1.out)
 have hX:w.heap.size≤X:=by rw [HXw1.out];exact Nat.le_refl _
 have HX1:Hid (W.heap.size≤X+1):=Lib.hid (by have h2:=H.out.grow.size;omega)
 go_wp2_with fail
 have HN1:=Lib.hid HBw11.out
 have HK1:Hid (Fl.Kept w w1 [79,52,9]):=Lib.hid (Fl.Kept.grow HGw1.out _)
 have hX1w:w.heap.size≤X+1:=by omega
 have HgB:Hid (gn.ownBlock=none∨gn.ownBlock≠some (X+1)):=Lib.hid (by
  cases hb:gn.ownBlock with
  | none=>exact .inl rfl
  | some b =>
   right
   intro e
   have h1:=(H.out.nodes.lt b hb).2
   cases e
   omega)
 clear z0 z1 z2 z3 z4 z5 z6 z7 z8 z9 zf
 go_loopw [6,7,8,9,18] (fun v6 v7 v8 v9 vk wr=>∃ (k:Nat) (gm':Value) (nd:Gr.Nd) (ml':List Fl.S),k≤fl∧vk=.int .i64 (k:Int)∧ml'.length≤ml.length+k∧Hid (Fl.flowsT fs pl 0 it.flows (Fl.nd0 it,ml)=Fl.flowsT fs pl k (it.flows.drop k) (nd,ml'))∧Hid (Fl.FM W wr B nm (.slice ca cn cc) (.slice fo fs.length fc) (.slice da dn dc) (.slice ea en ec) (.slice ga pl.length gc) gm' gn ge pl ml' ns es er)∧Hid (wr.heap[X+1]? = some (.cells #[.int .i64 nd.kind,.string nd.id,.int .i64 nd.fr,.int .i64 nd.to,.int .i64 nd.msg,.int .i64 nd.rep,.bool nd.loop] 52 (0,0)))∧Hid (Fl.Kept w wr [79,52,9])) (fun v6 v7 v8 v9 vk _=>fl - (intOf vk).toNat)
 case atStart=>exact ⟨0,gm,Fl.nd0 it,ml,by omega,rfl,by omega,Lib.hid rfl,HF1,HN1,HK1⟩
 case round =>
  obtain ⟨k,gm',nd,ml',hk,rfl,hml,HEq,HF,HN,HKt⟩:=hrel
  rename World=>wr
  by_cases hkf:k < fl
  ·have d1:decide ((k:Int) < (fl:Int))=true:=by simp;omega
   obtain ⟨f,hf⟩:∃ f,it.flows[k]? = some f:=⟨_,List.getElem?_eq_getElem (by rw [← Hfl.out];exact hkf)⟩
   have hxs:=own_keep HXS.out HF.out.grow
   rw [← Hfl.out] at hxs
   obtain ⟨yb,rfl⟩:=Ch.own_at hxs (by omega)
   have q0:=Ch.own_cell hxs (j:=k) (u:=.string f) (by rw [List.getElem?_map,hf];rfl)
   have HDr:Hid (it.flows.drop k=f :: it.flows.drop (k+1)):=Lib.hid (by
    have h1:=(List.getElem?_eq_some_iff.1 hf)
    rw [List.drop_eq_getElem_cons h1.1,h1.2])
   clear hxs hf
   rw [HDr.out,Fl.flowsT] at HEq
   obtain ⟨P,hP⟩:∃ P,P=Fl.place (fs.map (·.1)) f:=⟨_,rfl⟩
   have HP:=Lib.hid hP
   have HIf:=Lib.hid (idsFlow_any nm f (.slice ca cn cc) (.slice fo fs.length fc) (.slice da dn dc) (.slice ea en ec) fs wr (by omega) (HC.out.grow HF.out.grow) HS.out)
   rw [← hP] at HIf
   clear hP
   obtain ⟨x0,x1,x2,x3,x4,x5,x6,x7,x8,x9,xf⟩:=m10_cells HF.out.box
   go_upto_region 6 with (go_at_call 83;refine HIf.out.mono ?_;rintro e w2 ⟨rfl,hg⟩;have HG2:=Lib.hid hg;have HF2:=Lib.hid (HF.out.keep hg);have HN2:=Lib.hid (heap_keep hg HN.out);have HKt2:=Lib.hid (HKt.out.trans (Fl.Kept.grow hg _));clear hg)
   clear x0 x1 x2 x3 x4 x5 x6 x7 x8 x9 xf q0
   have hXB:X+1≠B:=by
    intro e
    have h1:=HF2.out.box
    rw [← e,HN2.out] at h1
    cases h1
   by_cases hP0:P < 0
   ·have d2:decide (P < 0)=true:=by simp [hP0]
    have HEr:Hid (Fl.flowStep fs pl k f (nd,ml')=none):=Lib.hid (by unfold Fl.flowStep;rw [← HP.out,if_pos (.inl hP0)])
    clear hP0
    have HTk:Hid (Fl.taskT fs pl ml it=(nd,ml',true)):=Lib.hid (by
     unfold Fl.taskT
     simp only [HEq.out,HEr.out]
     rfl)
    obtain ⟨x0,x1,x2,x3,x4,x5,x6,x7,x8,x9,xf⟩:=m10_cells HF2.out.box
    go_upto_region 8 with fail
    have HF3:=Lib.hid (HF2.out.err 6)
    have HN3:=Lib.hid (set_other (g:=B) (q:=9) (u:=.int .i64 6) HN2.out hXB)
    have HK3:Hid (Fl.Kept w (w2.setCell ⟨B,9,none⟩ (.int .i64 6)) [79,52,9]):=Lib.hid (HKt2.out.trans (Fl.Kept.ty (TY.blk HF2.out.box) (by_set w2 B 9 (.int .i64 6)) (by simp)))
    rw [show w2.setCell ⟨B,9,none⟩ (.int .i64 6)=w2.setCell ⟨B,9,none⟩ (.int .i64 6) from rfl]
    generalize w2.setCell ⟨B,9,none⟩ (.int .i64 6)=w3 at *
    clear x0 x1 x2 x3 x4 x5 x6 x7 x8 x9 xf
    obtain ⟨u0,u1,u2,u3,u4,u5,u6,uf⟩:=m7_cells HN3.out
    have HNd:=Lib.hid (flNode_any W w3 B nm _ _ _ _ _ _ _ _ pl ml' ns es 6 nd (by omega) HF3.out)
    go_wp2_with (go_at_call 61;refine HNd.out.mono ?_;rintro e w4 ⟨gn',rfl,hf,hk⟩;have HF4:=Lib.hid hf;have HK4:=Lib.hid (HK3.out.trans (hk.wide (by simp)));clear hf hk)
    go_ret
    exact ⟨_,_,rfl,by rw [HTk.out];exact HF4.out,HK4.out⟩
   ·have d2:decide (P < 0)=false:=by simp;omega
    by_cases hk1:1 < k
    ·have d3:decide ((k:Int) > 1)=true:=by simp;omega
     have HEr:Hid (Fl.flowStep fs pl k f (nd,ml')=none):=Lib.hid (by unfold Fl.flowStep;rw [if_pos (.inr hk1)])
     clear hk1
     have HTk:Hid (Fl.taskT fs pl ml it=(nd,ml',true)):=Lib.hid (by
      unfold Fl.taskT
      simp only [HEq.out,HEr.out]
      rfl)
     obtain ⟨x0,x1,x2,x3,x4,x5,x6,x7,x8,x9,xf⟩:=m10_cells HF2.out.box
     go_upto_region 8 with fail
     have HF3:=Lib.hid (HF2.out.err 6)
     have HN3:=Lib.hid (set_other (g:=B) (q:=9) (u:=.int .i64 6) HN2.out hXB)
     have HK3:Hid (Fl.Kept w (w2.setCell ⟨B,9,none⟩ (.int .i64 6)) [79,52,9]):=Lib.hid (HKt2.out.trans (Fl.Kept.ty (TY.blk HF2.out.box) (by_set w2 B 9 (.int .i64 6)) (by simp)))
     rw [show w2.setCell ⟨B,9,none⟩ (.int .i64 6)=w2.setCell ⟨B,9,none⟩ (.int .i64 6) from rfl]
     generalize w2.setCell ⟨B,9,none⟩ (.int .i64 6)=w3 at *
     clear x0 x1 x2 x3 x4 x5 x6 x7 x8 x9 xf
     obtain ⟨u0,u1,u2,u3,u4,u5,u6,uf⟩:=m7_cells HN3.out
     have HNd:=Lib.hid (flNode_any W w3 B nm _ _ _ _ _ _ _ _ pl ml' ns es 6 nd (by omega) HF3.out)
     go_wp2_with (go_at_call 61;refine HNd.out.mono ?_;rintro e w4 ⟨gn',rfl,hf,hk⟩;have HF4:=Lib.hid hf;have HK4:=Lib.hid (HK3.out.trans (hk.wide (by simp)));clear hf hk)
     go_ret
     exact ⟨_,_,rfl,by rw [HTk.out];exact HF4.out,HK4.out⟩
    ·have d3:decide ((k:Int) > 1)=false:=by simp;omega
     have hPl:P < (fs.length:Int):=by rw [HP.out];have:=Fl.place_lt (fs.map (·.1)) f;rwa [List.length_map] at this
     obtain ⟨p,hp⟩:∃ p:Nat,P=(p:Int):=⟨P.toNat,by omega⟩
     obtain ⟨y,hy⟩:∃ y,fs[p]? = some y:=⟨_,List.getElem?_eq_getElem (by omega)⟩
     have HFo:Hid (Fl.flowOf fs f=y):=Lib.hid (by unfold Fl.flowOf;rw [← HP.out,hp,Int.toNat_natCast,List.getD_eq_getElem?_getD,hy];rfl)
     have HPn:Hid (¬ (Fl.place (fs.map (·.1)) f < 0∨1 < k)):=Lib.hid (by rw [← HP.out];intro h;rcases h with h | h;exact hP0 h;exact hk1 h)
     obtain ⟨fb,foff,hfo,c0⟩:=Gr.Recs.at Ch.fcells_len (by decide) (HC.out.grow HF2.out.grow) hy
     subst hfo
     have q0:=c0 0 _ rfl
     have q1:=c0 1 _ rfl
     have q2:=c0 2 _ rfl
     have q3:=c0 3 _ rfl
     simp only [Nat.add_zero] at q0
     simp only [← Nat.add_assoc] at q1 q2 q3
     have hpf:p < fs.length:=by omega
     subst hp
     clear c0 hy hP0 hPl
     obtain ⟨x0,x1,x2,x3,x4,x5,x6,x7,x8,x9,xf⟩:=m10_cells HF2.out.box
     go_upto_region 10 with fail
     have HBw30:Hid ((w2.alloc (.cells #[.string y.1,.string y.2.1,.string y.2.2.1,.string y.2.2.2] 163)).heap[w2.heap.size]? = some (.cells #[.string y.1,.string y.2.1,.string y.2.2.1,.string y.2.2.2] 163 (0,0))):=Lib.hid (lay1_0 _ _)
     have HGw3:Hid (Flow.Grow w2 (w2.alloc (.cells #[.string y.1,.string y.2.1,.string y.2.2.1,.string y.2.2.2] 163))):=Lib.hid (lay1_g _ _)
     have HSw3:Hid ((w2.alloc (.cells #[.string y.1,.string y.2.1,.string y.2.2.1,.string y.2.2.2] 163)).heap.size=w2.heap.size+1):=Lib.hid (by simp)
     generalize w2.alloc (.cells #[.string y.1,.string y.2.1,.string y.2.2.1,.string y.2.2.2] 163)=w3 at *
     obtain ⟨Y,hY⟩:∃ X,X=w2.heap.size:=⟨_,rfl⟩
     rw [← hY] at HBw30 HSw3 ⊢
     have HXw3:=Lib.hid hY
     clear hY
     have CXw3:Hid (∀ wq,Flow.Grow w3 wq→wq.cell? ⟨Y,0,none⟩=some (.string y.1)∧wq.cell? ⟨Y,1,none⟩=some (.string y.2.1)∧wq.cell? ⟨Y,2,none⟩=some (.string y.2.2.1)∧wq.cell? ⟨Y,3,none⟩=some (.string y.2.2.2)):=Lib.hid (fun wq g=>⟨lay_cell g HBw30.out rfl,lay_cell g HBw30.out rfl,lay_cell g HBw30.out rfl,lay_cell g HBw30.out rfl⟩)
     have FXw3:Hid (∀ wq,Flow.Grow w3 wq→(∀ k,wq.frozen? ⟨Y,k,none⟩=false)):=Lib.hid (fun wq g=>fun k=>lay_frozen g HBw30.out k)
     clear x0 x1 x2 x3 x4 x5 x6 x7 x8 x9 xf q0 q1 q2 q3
     have HF3:=Lib.hid (HF2.out.keep HGw3.out)
     have HN3:=Lib.hid (heap_keep HGw3.out HN2.out)
     have HKt3:=Lib.hid (HKt2.out.trans (Fl.Kept.grow HGw3.out _))
     have HMs:=Lib.hid fun w' (h:Fl.FM W w' B nm (.slice ca cn cc) (.slice (some ⟨fb,foff,none⟩) fs.length fc) (.slice da dn dc) (.slice ea en ec) (.slice ga pl.length gc) gm' gn ge pl ml' ns es er)=>flMsg_any W w' B nm _ _ _ _ _ _ _ _ pl ml' ns es er y.2.2.2 (by omega) h
     obtain ⟨u0,u1,u2,u3,u4,u5,u6,uf⟩:=m7_cells HN3.out
     obtain ⟨d00,d01,d02,d03⟩:=CXw3.out w3 (Flow.grow_refl _)
     by_cases hk2:k=1
     ·have d4:((k:Int) == 1)=true:=by simp [hk2]
      have Hk2:=Lib.hid hk2
      clear hk2
      go_upto_region 13 with (go_at_call 84;refine (HMs.out w3 HF3.out).mono ?_;rintro e w4 ⟨gm2,rfl,hf,hk3⟩;have HF4:=Lib.hid hf;have HN4:=Lib.hid (hk3 (X+1) _ _ _ HN3.out (by decide));have HK4:=Lib.hid (HKt3.out.trans (hk3.wide (by simp)));obtain ⟨v0,v1,v2,v3,v4,v5,v6,vf⟩:=m7_cells HN4.out;clear hf hk3)
      obtain ⟨mv,hmv⟩:∃ v,v=(Fl.msgT ml' y.2.2.2).1:=⟨_,rfl⟩
      rw [← hmv]
      have HEs:Hid (Fl.flowStep fs pl k f (nd,ml')=some (⟨nd.kind,nd.id,nd.fr,nd.to,nd.msg,mv,nd.loop⟩,(Fl.msgT ml' y.2.2.2).2)):=Lib.hid (by
       unfold Fl.flowStep
       rw [if_neg HPn.out,if_pos Hk2.out,HFo.out,hmv])
      rw [HEs.out] at HEq
      clear hmv
      have HF5:=Lib.hid (HF4.out.nbox (q:=5) (u:=.int .i64 mv) HN4.out HX1.out HgB.out)
      have HN5:Hid ((w4.setCell ⟨X+1,5,none⟩ (.int .i64 mv)).heap[X+1]? = some (.cells #[.int .i64 nd.kind,.string nd.id,.int .i64 nd.fr,.int .i64 nd.to,.int .i64 nd.msg,.int .i64 mv,.bool nd.loop] 52 (0,0))):=Lib.hid ((set_cells HN4.out 5 (.int .i64 mv)).trans rfl)
      have HK5:=Lib.hid (HK4.out.own (by_set w4 (X+1) 5 (.int .i64 mv)) hX1w)
      rw [show w4.setCell ⟨X+1,5,none⟩ (.int .i64 mv)=w4.setCell ⟨X+1,5,none⟩ (.int .i64 mv) from rfl]
      generalize w4.setCell ⟨X+1,5,none⟩ (.int .i64 mv)=w5 at *
      have hlen:=Fl.msgT_len ml' y.2.2.2
      generalize (Fl.msgT ml' y.2.2.2).2=ml2 at *
      go_wp2_with fail
      go_roundw
      case rel=>exact ⟨k+1,_,⟨nd.kind,nd.id,nd.fr,nd.to,nd.msg,mv,nd.loop⟩,ml2,by omega,by go_num,by omega,HEq,HF5,HN5,HK5⟩
      case measure=>simp [intOf];omega
     ·have d4:((k:Int) == 1)=false:=by simp;omega
      have Hk2:=Lib.hid hk2
      clear hk2
      go_upto_region 12 with fail
      have HPl:=Lib.hid fun w' (s:ByteArray) (gm':Value) (ml':List Fl.S) (h:Fl.FM W w' B nm (.slice ca cn cc) (.slice (some ⟨fb,foff,none⟩) fs.length fc) (.slice da dn dc) (.slice ea en ec) (.slice ga pl.length gc) gm' gn ge pl ml' ns es er)=>place_any (.slice ga pl.length gc) pl s w' (by omega) (show Fl.Txs w' _ pl from Seg.of_own h.parts)
      obtain ⟨mv,hmv⟩:∃ v,v=(Fl.msgT ml' y.2.2.2).1:=⟨_,rfl⟩
      obtain ⟨ml2,hml2⟩:∃ v,v=(Fl.msgT ml' y.2.2.2).2:=⟨_,rfl⟩
      have hlen:=Fl.msgT_len ml' y.2.2.2
      rw [← hml2] at hlen
      have HEs:Hid (Fl.flowStep fs pl k f (nd,ml')=some (⟨nd.kind,nd.id,Fl.place pl y.2.1,Fl.place pl y.2.2.1,mv,nd.rep,nd.loop⟩,ml2)):=Lib.hid (by
       unfold Fl.flowStep
       rw [if_neg HPn.out,if_neg Hk2.out,HFo.out,hmv,hml2])
      rw [HEs.out] at HEq
      rw [← hmv,← hml2] at HMs
      clear hmv hml2
      clear u0 u1 u2 u3 u4 u5 u6 uf
      have HT0:Hid (Fl.TC W w3 B (X+1) Y nm (.slice ca cn cc) (.slice (some ⟨fb,foff,none⟩) fs.length fc) (.slice da dn dc) (.slice ea en ec) (.slice ga pl.length gc) gm' gn ge pl ml' ns es er #[.string y.1,.string y.2.1,.string y.2.2.1,.string y.2.2.2] #[.int .i64 nd.kind,.string nd.id,.int .i64 nd.fr,.int .i64 nd.to,.int .i64 nd.msg,.int .i64 nd.rep,.bool nd.loop] (fun _=>false) w3.drew):=Lib.hid ⟨Fl.Kept.grow (Flow.grow_drew _) _,heap_keep (Flow.grow_drew _) HBw30.out,⟨_,_,HF3.out.keep (Flow.grow_drew _)⟩,⟨_,heap_keep (Flow.grow_drew _) HN3.out,rfl⟩,fun _=>HF3.out.keep (Flow.grow_drew _),fun _ _ _=>heap_keep (Flow.grow_drew _) HN3.out⟩
      refine Flow.regionG (C:=Fl.TC W w3 B (X+1) Y nm (.slice ca cn cc) (.slice (some ⟨fb,foff,none⟩) fs.length fc) (.slice da dn dc) (.slice ea en ec) (.slice ga pl.length gc) gm' gn ge pl ml' ns es er #[.string y.1,.string y.2.1,.string y.2.2.1,.string y.2.2.2] #[.int .i64 nd.kind,.string nd.id,.int .i64 nd.fr,.int .i64 nd.to,.int .i64 nd.msg,.int .i64 nd.rep,.bool nd.loop]) (Fs:=[.inl ((.pointer (some ⟨B,0,none⟩))),.inl ((.pointer (some ⟨B,0,none⟩))),.inl ((.pointer (some ⟨B,5,none⟩))),.inl ((.pointer (some ⟨B,5,none⟩))),.inl ((.slice ga pl.length gc)),.inl ((.pointer (some ⟨Y,1,none⟩))),.inl ((.string y.2.1)),.inl ((.int .i64 (Fl.place pl y.2.1))),.inl ((.pointer (some ⟨B,0,none⟩))),.inl ((.pointer (some ⟨B,0,none⟩))),.inl ((.pointer (some ⟨B,5,none⟩))),.inl ((.pointer (some ⟨B,5,none⟩))),.inl ((.slice ga pl.length gc)),.inl ((.pointer (some ⟨Y,2,none⟩))),.inl ((.string y.2.2.1)),.inl ((.int .i64 (Fl.place pl y.2.2.1))),.inl ((.pointer (some ⟨B,0,none⟩))),.inl ((.pointer (some ⟨Y,3,none⟩))),.inl ((.string y.2.2.2)),.inr (fun v w=>v=.int .i64 mv∧∃ gm2,Fl.FM W w B nm (.slice ca cn cc) (.slice (some ⟨fb,foff,none⟩) fs.length fc) (.slice da dn dc) (.slice ea en ec) (.slice ga pl.length gc) gm2 gn ge pl ml2 ns es er),.inl ((.pointer (some ⟨X+1,2,none⟩))),.inr (fun _ w=>w.heap[X+1]? = some (.cells #[.int .i64 nd.kind,.string nd.id,.int .i64 (Fl.place pl y.2.1),.int .i64 (nd.to),.int .i64 (nd.msg),.int .i64 nd.rep,.bool nd.loop] 52 (0,0))),.inl ((.pointer (some ⟨X+1,3,none⟩))),.inr (fun _ w=>w.heap[X+1]? = some (.cells #[.int .i64 nd.kind,.string nd.id,.int .i64 (Fl.place pl y.2.1),.int .i64 (Fl.place pl y.2.2.1),.int .i64 (nd.msg),.int .i64 nd.rep,.bool nd.loop] 52 (0,0))),.inl ((.pointer (some ⟨X+1,4,none⟩))),.inr (fun _ w=>w.heap[X+1]? = some (.cells #[.int .i64 nd.kind,.string nd.id,.int .i64 (Fl.place pl y.2.1),.int .i64 (Fl.place pl y.2.2.1),.int .i64 (mv),.int .i64 nd.rep,.bool nd.loop] 52 (0,0)))])
       [[],[0],[1],[2],[3],[],[5],[4,6],[],[8],[9],[10],[11],[],[13],[12,14],[],[],[17],[16,18],[],[20,7,19],[],[22,15,21],[],[24,19,23]] [[],[0],[0,1],[0,1,2],[0,1,2,3],[],[5],[0,1,2,3,4,5,6],[],[8],[8,9],[8,9,10],[8,9,10,11],[],[13],[8,9,10,11,12,13,14],[],[],[17],[16,17,18],[],[0,1,2,3,4,5,6,7,16,17,18,19,20],[],[0,1,2,3,4,5,6,7,8,9,10,11,12,13,14,15,16,17,18,19,20,21,22],[],[0,1,2,3,4,5,6,7,8,9,10,11,12,13,14,15,16,17,18,19,20,21,22,23,24]] [19,25] (by kernel_rfl) (by kernel_rfl) (by kernel_rfl) rfl (HT0.out) ?ones12 ?ends12
      case ones12 =>
       refine Flow.OnesG.start (by exact ⟨fun _ _ _ g h=>⟨h.1,h.2.imp fun _ h=>h.keep g⟩,fun _ _ _ g h=>heap_keep g h,fun _ _ _ g h=>heap_keep g h,fun _ _ _ g h=>heap_keep g h,trivial⟩) (fun L w w' i h g=>h.more g i) fun HST HCG=>?_
       refine Flow.oq rfl HST HCG ?_ ?_
       ·intro L a w hC hLi hoff _
        exact Flow.gs rfl (Flow.exec_move (.inl rfl) (hoff.at2 0 0 hLi (by kernel_rfl)))
       refine Flow.oq rfl HST HCG ?_ ?_
       ·rintro L a w hC hLi hoff ⟨k0,-⟩
        have e56:=Flow.kv k0 rfl rfl
        refine Flow.gs rfl ?_
        generalize a.eval=ρ at e56 ⊢
        simp [execOp,e56,go_sem]
       refine Flow.oq rfl HST HCG ?_ ?_
       ·rintro L a w hC hLi hoff ⟨k1,-⟩
        have e57:=Flow.kv k1 rfl rfl
        refine Flow.gs rfl ?_
        generalize a.eval=ρ at e57 ⊢
        simp [execOp,e57,go_sem]
       refine Flow.oq rfl HST HCG ?_ ?_
       ·rintro L a w hC hLi hoff ⟨k2,-⟩
        have e58:=Flow.kv k2 rfl rfl
        refine Flow.gs rfl ?_
        generalize a.eval=ρ at e58 ⊢
        simp [execOp,e58,go_sem]
       refine Flow.oq rfl HST HCG ?_ ?_
       ·rintro L a w hC hLi hoff ⟨k3,-⟩
        have e59:=Flow.kv k3 rfl rfl
        refine Flow.gs rfl ?_
        generalize a.eval=ρ at e59 ⊢
        have hB:=hC.any.choose_spec.choose_spec.box
        have h0:=(cell_of_row w B 5 _ _ _ hB).trans rfl
        simp [execOp,e59,h0,go_sem]
       refine Flow.oq rfl HST HCG ?_ ?_
       ·intro L a w hC hLi hoff _
        have e9:a.eval (.tmp 9)=(.pointer (some ⟨Y,0,none⟩)):=hoff.at2 9 5 hLi (by kernel_rfl)
        refine Flow.gs rfl ?_
        generalize a.eval=ρ at e9 ⊢
        simp [execOp,e9,go_sem]
       refine Flow.oq rfl HST HCG ?_ ?_
       ·rintro L a w hC hLi hoff ⟨k5,-⟩
        have e61:=Flow.kv k5 rfl rfl
        refine Flow.gs rfl ?_
        generalize a.eval=ρ at e61 ⊢
        have h0:=(cell_of_row w Y 1 _ _ _ hC.y).trans rfl
        simp [execOp,e61,h0,go_sem]
       refine Flow.oq rfl HST HCG ?_ ?_
       ·rintro L a w hC hLi hoff ⟨k4,k6,-⟩
        have e60:=Flow.kv k4 rfl rfl
        have e62:=Flow.kv k6 rfl rfl
        exact .inl ⟨Flow.want_none rfl,Flow.run_call (Flow.exec_call rfl Tryz.func85 (by kernel_rfl) (by kernel_rfl) (by simp only [List.map_toArray,List.map_cons,List.map_nil,e60,e62] <;> rfl)) ((HPl.out w _ _ _ hC.any.choose_spec.choose_spec).mono fun e w' h=>⟨_,h.1,h.2 ▸ Flow.grow_refl w,rfl⟩)⟩
       refine Flow.oq rfl HST HCG ?_ ?_
       ·intro L a w hC hLi hoff _
        exact Flow.gs rfl (Flow.exec_move (.inl rfl) (hoff.at2 0 8 hLi (by kernel_rfl)))
       refine Flow.oq rfl HST HCG ?_ ?_
       ·rintro L a w hC hLi hoff ⟨k8,-⟩
        have e64:=Flow.kv k8 rfl rfl
        refine Flow.gs rfl ?_
        generalize a.eval=ρ at e64 ⊢
        simp [execOp,e64,go_sem]
       refine Flow.oq rfl HST HCG ?_ ?_
       ·rintro L a w hC hLi hoff ⟨k9,-⟩
        have e65:=Flow.kv k9 rfl rfl
        refine Flow.gs rfl ?_
        generalize a.eval=ρ at e65 ⊢
        simp [execOp,e65,go_sem]
       refine Flow.oq rfl HST HCG ?_ ?_
       ·rintro L a w hC hLi hoff ⟨k10,-⟩
        have e66:=Flow.kv k10 rfl rfl
        refine Flow.gs rfl ?_
        generalize a.eval=ρ at e66 ⊢
        simp [execOp,e66,go_sem]
       refine Flow.oq rfl HST HCG ?_ ?_
       ·rintro L a w hC hLi hoff ⟨k11,-⟩
        have e67:=Flow.kv k11 rfl rfl
        refine Flow.gs rfl ?_
        generalize a.eval=ρ at e67 ⊢
        have hB:=hC.any.choose_spec.choose_spec.box
        have h0:=(cell_of_row w B 5 _ _ _ hB).trans rfl
        simp [execOp,e67,h0,go_sem]
       refine Flow.oq rfl HST HCG ?_ ?_
       ·intro L a w hC hLi hoff _
        have e9:a.eval (.tmp 9)=(.pointer (some ⟨Y,0,none⟩)):=hoff.at2 9 13 hLi (by kernel_rfl)
        refine Flow.gs rfl ?_
        generalize a.eval=ρ at e9 ⊢
        simp [execOp,e9,go_sem]
       refine Flow.oq rfl HST HCG ?_ ?_
       ·rintro L a w hC hLi hoff ⟨k13,-⟩
        have e69:=Flow.kv k13 rfl rfl
        refine Flow.gs rfl ?_
        generalize a.eval=ρ at e69 ⊢
        have h0:=(cell_of_row w Y 2 _ _ _ hC.y).trans rfl
        simp [execOp,e69,h0,go_sem]
       refine Flow.oq rfl HST HCG ?_ ?_
       ·rintro L a w hC hLi hoff ⟨k12,k14,-⟩
        have e68:=Flow.kv k12 rfl rfl
        have e70:=Flow.kv k14 rfl rfl
        exact .inl ⟨Flow.want_none rfl,Flow.run_call (Flow.exec_call rfl Tryz.func85 (by kernel_rfl) (by kernel_rfl) (by simp only [List.map_toArray,List.map_cons,List.map_nil,e68,e70] <;> rfl)) ((HPl.out w _ _ _ hC.any.choose_spec.choose_spec).mono fun e w' h=>⟨_,h.1,h.2 ▸ Flow.grow_refl w,rfl⟩)⟩
       refine Flow.oq rfl HST HCG ?_ ?_
       ·intro L a w hC hLi hoff _
        exact Flow.gs rfl (Flow.exec_move (.inl rfl) (hoff.at2 0 16 hLi (by kernel_rfl)))
       refine Flow.oq rfl HST HCG ?_ ?_
       ·intro L a w hC hLi hoff _
        have e9:a.eval (.tmp 9)=(.pointer (some ⟨Y,0,none⟩)):=hoff.at2 9 17 hLi (by kernel_rfl)
        refine Flow.gs rfl ?_
        generalize a.eval=ρ at e9 ⊢
        simp [execOp,e9,go_sem]
       refine Flow.oq rfl HST HCG ?_ ?_
       ·rintro L a w hC hLi hoff ⟨k17,-⟩
        have e73:=Flow.kv k17 rfl rfl
        refine Flow.gs rfl ?_
        generalize a.eval=ρ at e73 ⊢
        have h0:=(cell_of_row w Y 3 _ _ _ hC.y).trans rfl
        simp [execOp,e73,h0,go_sem]
       refine Flow.OnesG.cons (Flow.OneG.w (by kernel_rfl) ?_) ?_
       ·rintro L a w hC hLi hoff ⟨k16,k18,-⟩
        have e72:=Flow.kv k16 rfl rfl
        have e74:=Flow.kv k18 rfl rfl
        refine ⟨Flow.want_none rfl,?_⟩
        refine wp_callG rfl (Flow.exec_call rfl Tryz.func84 (by kernel_rfl) (by kernel_rfl) (args:=#[.pointer (some ⟨B,0,none⟩),.string y.2.2.2]) (by simp only [List.map_toArray,List.map_cons,List.map_nil,e72,e74] <;> rfl)) ((HMs.out w (hC.fm hLi)).mono ?_)
        rintro e w' ⟨gm2,rfl,hf,hk⟩
        exact ⟨_,rfl,hC.msg hk hf,rfl,gm2,hf⟩
       refine Flow.oq rfl HST HCG ?_ ?_
       ·intro L a w hC hLi hoff _
        have e5:a.eval (.tmp 5)=(.pointer (some ⟨X+1,0,none⟩)):=hoff.at2 5 20 hLi (by kernel_rfl)
        refine Flow.gs rfl ?_
        generalize a.eval=ρ at e5 ⊢
        simp [execOp,e5,go_sem]
       refine Flow.OnesG.cons (Flow.OneG.k (fun w w'=>∀ gm2 ml2,Fl.FM W w B nm (.slice ca cn cc) (.slice (some ⟨fb,foff,none⟩) fs.length fc) (.slice da dn dc) (.slice ea en ec) (.slice ga pl.length gc) gm2 gn ge pl ml2 ns es er→Fl.FM W w' B nm (.slice ca cn cc) (.slice (some ⟨fb,foff,none⟩) fs.length fc) (.slice da dn dc) (.slice ea en ec) (.slice ga pl.length gc) gm2 gn ge pl ml2 ns es er) (by exact ⟨.inr fun _ _ K u h=>⟨h.1,h.2.imp fun _=>K _ _⟩,.inl rfl,.inl rfl,.inl rfl,trivial⟩) ?_) ?_
       ·rintro L a w hC hLi hoff ⟨k20,k7,k19,-⟩
        have e76:=Flow.kv k20 rfl rfl
        have e63:=Flow.kv k7 rfl rfl
        have e75:=Flow.kr k19 rfl rfl
        refine ⟨Flow.want_none rfl,?_⟩
        have hb:=hC.b0 hLi (hoff.notyet hLi 23 (by kernel_rfl)) (hoff.notyet hLi 25 (by kernel_rfl))
        have hc:=(cell_of_row w (X+1) 2 _ _ _ hb).trans rfl
        have hf:=frozen_of_row w (X+1) 2 _ _ hb
        refine wp_sto1 rfl (w':=w.setCell ⟨X+1,2,none⟩ (.int .i64 (Fl.place pl y.2.1))) ?_ ⟨undef,rfl,hC.sto 21 2 (by simp) _ HX1.out HgB.out,fun gm2 ml2 h=>h.nbox hb HX1.out HgB.out,fun s _=>(set_cells hb 2 _).trans rfl⟩
        generalize a.eval=ρ at e76 e63 ⊢
        simp [execOp,e76,e63,hc,hf,go_sem]
       refine Flow.oq rfl HST HCG ?_ ?_
       ·intro L a w hC hLi hoff _
        have e5:a.eval (.tmp 5)=(.pointer (some ⟨X+1,0,none⟩)):=hoff.at2 5 22 hLi (by kernel_rfl)
        refine Flow.gs rfl ?_
        generalize a.eval=ρ at e5 ⊢
        simp [execOp,e5,go_sem]
       refine Flow.OnesG.cons (Flow.OneG.k (fun w w'=>∀ gm2 ml2,Fl.FM W w B nm (.slice ca cn cc) (.slice (some ⟨fb,foff,none⟩) fs.length fc) (.slice da dn dc) (.slice ea en ec) (.slice ga pl.length gc) gm2 gn ge pl ml2 ns es er→Fl.FM W w' B nm (.slice ca cn cc) (.slice (some ⟨fb,foff,none⟩) fs.length fc) (.slice da dn dc) (.slice ea en ec) (.slice ga pl.length gc) gm2 gn ge pl ml2 ns es er) (by exact ⟨.inr fun _ _ K u h=>⟨h.1,h.2.imp fun _=>K _ _⟩,.inl rfl,.inl rfl,.inl rfl,trivial⟩) ?_) ?_
       ·rintro L a w hC hLi hoff ⟨k22,k15,k21,-⟩
        have e77:=Flow.kv k22 rfl rfl
        have e71:=Flow.kv k15 rfl rfl
        have eS21:=Flow.kr k21 rfl rfl
        refine ⟨Flow.want_none rfl,?_⟩
        have hb:=eS21
        have hc:=(cell_of_row w (X+1) 3 _ _ _ hb).trans rfl
        have hf:=frozen_of_row w (X+1) 3 _ _ hb
        refine wp_sto1 rfl (w':=w.setCell ⟨X+1,3,none⟩ (.int .i64 (Fl.place pl y.2.2.1))) ?_ ⟨undef,rfl,hC.sto 23 3 (by simp) _ HX1.out HgB.out,fun gm2 ml2 h=>h.nbox hb HX1.out HgB.out,fun s _=>(set_cells hb 3 _).trans rfl⟩
        generalize a.eval=ρ at e77 e71 ⊢
        simp [execOp,e77,e71,hc,hf,go_sem]
       refine Flow.oq rfl HST HCG ?_ ?_
       ·intro L a w hC hLi hoff _
        have e5:a.eval (.tmp 5)=(.pointer (some ⟨X+1,0,none⟩)):=hoff.at2 5 24 hLi (by kernel_rfl)
        refine Flow.gs rfl ?_
        generalize a.eval=ρ at e5 ⊢
        simp [execOp,e5,go_sem]
       refine Flow.OnesG.cons (Flow.OneG.k (fun w w'=>∀ gm2 ml2,Fl.FM W w B nm (.slice ca cn cc) (.slice (some ⟨fb,foff,none⟩) fs.length fc) (.slice da dn dc) (.slice ea en ec) (.slice ga pl.length gc) gm2 gn ge pl ml2 ns es er→Fl.FM W w' B nm (.slice ca cn cc) (.slice (some ⟨fb,foff,none⟩) fs.length fc) (.slice da dn dc) (.slice ea en ec) (.slice ga pl.length gc) gm2 gn ge pl ml2 ns es er) (by exact ⟨.inr fun _ _ K u h=>⟨h.1,h.2.imp fun _=>K _ _⟩,.inl rfl,.inl rfl,.inl rfl,trivial⟩) ?_) ?_
       ·rintro L a w hC hLi hoff ⟨k24,k19,k23,-⟩
        have e78:=Flow.kv k24 rfl rfl
        have e75:=Flow.kr k19 rfl rfl
        have eS23:=Flow.kr k23 rfl rfl
        refine ⟨Flow.want_none rfl,?_⟩
        replace e75:=e75.1
        have hb:=eS23
        have hc:=(cell_of_row w (X+1) 4 _ _ _ hb).trans rfl
        have hf:=frozen_of_row w (X+1) 4 _ _ hb
        refine wp_sto1 rfl (w':=w.setCell ⟨X+1,4,none⟩ (.int .i64 (mv))) ?_ ⟨undef,rfl,hC.sto 25 4 (by simp) _ HX1.out HgB.out,fun gm2 ml2 h=>h.nbox hb HX1.out HgB.out,fun s _=>(set_cells hb 4 _).trans rfl⟩
        generalize a.eval=ρ at e78 e75 ⊢
        simp [execOp,e78,e75,hc,hf,go_sem]
       exact trivial
      case ends12 =>
       intro LL wx hLL hC
       iterate 19 refine Flow.endsG_v rfl ?_
       refine Flow.endsG_r rfl fun v75 hE75=>?_
       replace hE75:=hE75 rfl
       refine Flow.endsG_v rfl ?_
       refine Flow.endsG_n rfl ?_
       refine Flow.endsG_v rfl ?_
       refine Flow.endsG_n rfl ?_
       refine Flow.endsG_v rfl ?_
       refine Flow.endsG_s rfl rfl rfl fun hE25=>?_
       refine Flow.endsG_nil ?_
       simp only [Act.put,List.setIfInBounds_toArray,List.set_cons_succ,List.set_cons_zero]
       obtain ⟨hv75,gm2,hF⟩:=hE75
       subst hv75
       have HF5:=Lib.hid hF
       have HN5:=Lib.hid hE25
       have HK5:=Lib.hid (HKt3.out.trans hC.kept)
       clear hF hE25 hC
       go_wp2_with fail
       go_roundw
       case rel=>exact ⟨k+1,_,⟨nd.kind,nd.id,Fl.place pl y.2.1,Fl.place pl y.2.2.1,mv,nd.rep,nd.loop⟩,ml2,by omega,by go_num,by omega,HEq,HF5,HN5,HK5⟩
       case measure=>simp [intOf];omega
  ·obtain rfl:k=fl:=by omega
   have d1:decide ((k:Int) < (k:Int))=false:=by simp
   rw [Hfl.out,List.drop_length,Fl.flowsT] at HEq
   have HF2:=HF
   have HN2:=HN
   have HKt2:=HKt
   have hXB:X+1≠B:=by
    intro e
    have h1:=HF2.out.box
    rw [← e,HN2.out] at h1
    cases h1
   generalize wr=w2 at *
   by_cases b1:nd.fr < 0
   ·have d2:decide (nd.fr < 0)=true:=by simp [b1]
    have HEr:Hid ((decide (nd.fr < 0) || decide (nd.to < 0) || decide (nd.fr=nd.to))=true):=Lib.hid (by simp [b1])
    clear b1
    have HTk:Hid (Fl.taskT fs pl ml it=(nd,ml',true)):=Lib.hid (by
     unfold Fl.taskT
     simp only [HEq.out,Bool.false_or]
     rw [HEr.out])
    obtain ⟨x0,x1,x2,x3,x4,x5,x6,x7,x8,x9,xf⟩:=m10_cells HF2.out.box
    obtain ⟨v0,v1,v2,v3,v4,v5,v6,vf⟩:=m7_cells HN2.out
    go_upto_region 16 with fail
    have HF3:=Lib.hid (HF2.out.err 6)
    have HN3:=Lib.hid (set_other (g:=B) (q:=9) (u:=.int .i64 6) HN2.out hXB)
    have HK3:Hid (Fl.Kept w (w2.setCell ⟨B,9,none⟩ (.int .i64 6)) [79,52,9]):=Lib.hid (HKt2.out.trans (Fl.Kept.ty (TY.blk HF2.out.box) (by_set w2 B 9 (.int .i64 6)) (by simp)))
    rw [show w2.setCell ⟨B,9,none⟩ (.int .i64 6)=w2.setCell ⟨B,9,none⟩ (.int .i64 6) from rfl]
    generalize w2.setCell ⟨B,9,none⟩ (.int .i64 6)=w3 at *
    clear x0 x1 x2 x3 x4 x5 x6 x7 x8 x9 xf v0 v1 v2 v3 v4 v5 v6 vf
    obtain ⟨u0,u1,u2,u3,u4,u5,u6,uf⟩:=m7_cells HN3.out
    have HNd:=Lib.hid (flNode_any W w3 B nm _ _ _ _ _ _ _ _ pl ml' ns es 6 nd (by omega) HF3.out)
    go_wp2_with (go_at_call 61;refine HNd.out.mono ?_;rintro e w4 ⟨gn',rfl,hf,hk⟩;have HF4:=Lib.hid hf;have HK4:=Lib.hid (HK3.out.trans (hk.wide (by simp)));clear hf hk)
    go_ret
    exact ⟨_,_,rfl,by rw [HTk.out];exact HF4.out,HK4.out⟩
   ·have d2:decide (nd.fr < 0)=false:=by simp;omega
    by_cases b2:nd.to < 0
    ·have d3:decide (nd.to < 0)=true:=by simp [b2]
     have HEr:Hid ((decide (nd.fr < 0) || decide (nd.to < 0) || decide (nd.fr=nd.to))=true):=Lib.hid (by simp [b2])
     clear b1 b2
     have HTk:Hid (Fl.taskT fs pl ml it=(nd,ml',true)):=Lib.hid (by
      unfold Fl.taskT
      simp only [HEq.out,Bool.false_or]
      rw [HEr.out])
     obtain ⟨x0,x1,x2,x3,x4,x5,x6,x7,x8,x9,xf⟩:=m10_cells HF2.out.box
     obtain ⟨v0,v1,v2,v3,v4,v5,v6,vf⟩:=m7_cells HN2.out
     go_upto_region 16 with fail
     have HF3:=Lib.hid (HF2.out.err 6)
     have HN3:=Lib.hid (set_other (g:=B) (q:=9) (u:=.int .i64 6) HN2.out hXB)
     have HK3:Hid (Fl.Kept w (w2.setCell ⟨B,9,none⟩ (.int .i64 6)) [79,52,9]):=Lib.hid (HKt2.out.trans (Fl.Kept.ty (TY.blk HF2.out.box) (by_set w2 B 9 (.int .i64 6)) (by simp)))
     rw [show w2.setCell ⟨B,9,none⟩ (.int .i64 6)=w2.setCell ⟨B,9,none⟩ (.int .i64 6) from rfl]
     generalize w2.setCell ⟨B,9,none⟩ (.int .i64 6)=w3 at *
     clear x0 x1 x2 x3 x4 x5 x6 x7 x8 x9 xf v0 v1 v2 v3 v4 v5 v6 vf
     obtain ⟨u0,u1,u2,u3,u4,u5,u6,uf⟩:=m7_cells HN3.out
     have HNd:=Lib.hid (flNode_any W w3 B nm _ _ _ _ _ _ _ _ pl ml' ns es 6 nd (by omega) HF3.out)
     go_wp2_with (go_at_call 61;refine HNd.out.mono ?_;rintro e w4 ⟨gn',rfl,hf,hk⟩;have HF4:=Lib.hid hf;have HK4:=Lib.hid (HK3.out.trans (hk.wide (by simp)));clear hf hk)
     go_ret
     exact ⟨_,_,rfl,by rw [HTk.out];exact HF4.out,HK4.out⟩
    ·have d3:decide (nd.to < 0)=false:=by simp;omega
     by_cases b3:nd.fr=nd.to
     ·have d4:(nd.fr == nd.to)=true:=by simp [b3]
      have HEr:Hid ((decide (nd.fr < 0) || decide (nd.to < 0) || decide (nd.fr=nd.to))=true):=Lib.hid (by simp [b3])
      clear b1 b2 b3
      have HTk:Hid (Fl.taskT fs pl ml it=(nd,ml',true)):=Lib.hid (by
       unfold Fl.taskT
       simp only [HEq.out,Bool.false_or]
       rw [HEr.out])
      obtain ⟨x0,x1,x2,x3,x4,x5,x6,x7,x8,x9,xf⟩:=m10_cells HF2.out.box
      obtain ⟨v0,v1,v2,v3,v4,v5,v6,vf⟩:=m7_cells HN2.out
      go_upto_region 16 with fail
      have HF3:=Lib.hid (HF2.out.err 6)
      have HN3:=Lib.hid (set_other (g:=B) (q:=9) (u:=.int .i64 6) HN2.out hXB)
      have HK3:Hid (Fl.Kept w (w2.setCell ⟨B,9,none⟩ (.int .i64 6)) [79,52,9]):=Lib.hid (HKt2.out.trans (Fl.Kept.ty (TY.blk HF2.out.box) (by_set w2 B 9 (.int .i64 6)) (by simp)))
      rw [show w2.setCell ⟨B,9,none⟩ (.int .i64 6)=w2.setCell ⟨B,9,none⟩ (.int .i64 6) from rfl]
      generalize w2.setCell ⟨B,9,none⟩ (.int .i64 6)=w3 at *
      clear x0 x1 x2 x3 x4 x5 x6 x7 x8 x9 xf v0 v1 v2 v3 v4 v5 v6 vf
      obtain ⟨u0,u1,u2,u3,u4,u5,u6,uf⟩:=m7_cells HN3.out
      have HNd:=Lib.hid (flNode_any W w3 B nm _ _ _ _ _ _ _ _ pl ml' ns es 6 nd (by omega) HF3.out)
      go_wp2_with (go_at_call 61;refine HNd.out.mono ?_;rintro e w4 ⟨gn',rfl,hf,hk⟩;have HF4:=Lib.hid hf;have HK4:=Lib.hid (HK3.out.trans (hk.wide (by simp)));clear hf hk)
      go_ret
      exact ⟨_,_,rfl,by rw [HTk.out];exact HF4.out,HK4.out⟩
     ·have d4:(nd.fr == nd.to)=false:=by simp [b3]
      have HEr:Hid ((decide (nd.fr < 0) || decide (nd.to < 0) || decide (nd.fr=nd.to))=false):=Lib.hid (by simp [b3];omega)
      clear b1 b2 b3
      have HTk:Hid (Fl.taskT fs pl ml it=(nd,ml',false)):=Lib.hid (by
       unfold Fl.taskT
       simp only [HEq.out,Bool.false_or]
       rw [HEr.out])
      obtain ⟨v0,v1,v2,v3,v4,v5,v6,vf⟩:=m7_cells HN2.out
      have HNd:=Lib.hid (flNode_any W w2 B nm _ _ _ _ _ _ _ _ pl ml' ns es er nd (by omega) HF2.out)
      go_wp2_with (go_at_call 61;refine HNd.out.mono ?_;rintro e w4 ⟨gn',rfl,hf,hk⟩;have HF4:=Lib.hid hf;have HK4:=Lib.hid (HKt2.out.trans (hk.wide (by simp)));clear hf hk)
      go_ret
      exact ⟨_,_,rfl,by rw [HTk.out];exact HF4.out,HK4.out⟩
end Go.Proofs.YtcnmaplopbbmaaaGreat
