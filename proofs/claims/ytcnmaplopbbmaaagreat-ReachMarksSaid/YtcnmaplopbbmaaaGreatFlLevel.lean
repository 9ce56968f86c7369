/- flat's level by contract: elements, then what follows what. -/
import Derived.Test.YtcnmaplopbbmaaaGreatMBq
namespace Go.Proofs.YtcnmaplopbbmaaaGreat
open Go.RowKit
theorem info_edge12:(Tryz.prog.info? 56).map (fun i=>(i.zero,i.size,i.bytes))=some (some (.agg #[.int .i64 0,.int .i64 0]),2,16):=by kernel_rfl
theorem flLevel_res (tmps:Array Value) (w:World) (X:Nat) (c0 c1:Value) (h2:tmps.getD 8 undef=.pointer (some ⟨X,0,none⟩)) (hx:w.heap[X]? = some (.cells #[c0,c1] 83 (0,0))) :
  (results Tryz.f21 tmps).run Tryz.prog w=.ok (.agg #[c0,c1]) w:=by
 have x0:=(cell_of_row w X 0 _ _ _ hx).trans rfl
 have x1:=(cell_of_row w X 1 _ _ _ hx).trans rfl
 simp at x0 x1
 simp only [Array.getD_eq_getD_getElem?] at h2
 simp [results,Tryz.results21,h2,x0,x1,go_sem]
set_option maxRecDepth 100000 in
set_option maxHeartbeats 8000000 in
theorem flLevel_any (W:World) (B:Nat) (nm:ByteArray) (c1 c2 gp gm gn ge vi vs:Value) (pl:List Fl.S) (fs:List Ch.Fl) (its:List Ch.It) (qs:List Ch.Sq) (w:World) (HT:Fl.TaskSpec W B nm c1 c2 vi vs gp ge pl [] fs) (hk:Ch.Kd its) (hn:its.length≤1000) (hq:qs.length≤1000)
  (h:Fl.FM W w B nm c1 c2 vi vs gp gm gn ge pl [] [] [] 0) (hvi:Ch.Its W vi its) (hvs:Gr.Recs 3 Ch.scells W vs qs) :
  Calls Tryz.prog 21 #[.pointer (some ⟨B,0,none⟩),vi,vs,.bool false] w fun e w'=>∃ v gm' gn' ge',e=.returned v∧Fl.FM W w' B nm c1 c2 vi vs gp gm' gn' ge' pl (Fl.itemsT fs pl its ([],[],0)).2.1 (Fl.itemsT fs pl its ([],[],0)).1 (Fl.edgesT (its.map (·.id)) qs ([],(Fl.itemsT fs pl its ([],[],0)).2.2)).1 (Fl.edgesT (its.map (·.id)) qs ([],(Fl.itemsT fs pl its ([],[],0)).2.2)).2:=by
 have H:=Lib.hid h
 have HKd:=Lib.hid hk
 have HI:=Lib.hid hvi
 have HQs:=Lib.hid hvs
 have HTk:=Lib.hid HT
 obtain ⟨ys,hys,hyo,hyt⟩:=hvi
 have HYs:=Lib.hid hys
 have HYo:=Lib.hid hyo
 have HYt:=Lib.hid hyt
 obtain ⟨i0,i1,rfl⟩:=own_form hyo
 obtain ⟨s0,s1,rfl⟩:=Gr.Recs.form hvs
 obtain ⟨n,hnn⟩:∃ n,n=its.length:=⟨_,rfl⟩
 obtain ⟨m,hmm⟩:∃ n,n=qs.length:=⟨_,rfl⟩
 have Hn:=Lib.hid hnn
 have Hm:=Lib.hid hmm
 clear h hk hvs HT hys hyo hyt
 rw [← hnn] at H HI HYo HTk hn ⊢
 rw [← hmm] at H HQs HTk hq ⊢
 clear hnn hmm
 have Hmk:=Lib.hid (make_ends n (by omega))
 go_enter Tryz.func21,Tryz.ntmps21
 go_upto_region 1 with fail
 have HBw10:Hid ((w.alloc (.cells #[.int .i64 0,.int .i64 0] 83)).heap[w.heap.size]? = some (.cells #[.int .i64 0,.int .i64 0] 83 (0,0))):=Lib.hid (lay1_0 _ _)
 have HGw1:Hid (Flow.Grow w (w.alloc (.cells #[.int .i64 0,.int .i64 0] 83))):=Lib.hid (lay1_g _ _)
 have HSw1:Hid ((w.alloc (.cells #[.int .i64 0,.int .i64 0] 83)).heap.size=w.heap.size+1):=Lib.hid (by simp)
 generalize w.alloc (.cells #[.int .i64 0,.int .i64 0] 83)=w1 at *
 obtain ⟨X,hX⟩:∃ X,X=w.heap.size:=⟨_,rfl⟩
 rw [← hX] at HBw10 HSw1 ⊢
 have HXw1:=Lib.hid hX
 clear hX
 have CXw1:Hid (∀ wq,Flow.Grow w1 wq→wq.cell? ⟨X,0,none⟩=some (.int .i64 0)∧wq.cell? ⟨X,1,none⟩=some (.int .i64 0)):=Lib.hid (fun wq g=>⟨lay_cell g HBw10.out rfl,lay_cell g HBw10.out rfl⟩)
 have FXw1:Hid (∀ wq,Flow.Grow w1 wq→(∀ k,wq.frozen? ⟨X,k,none⟩=false)):=Lib.hid (fun wq g=>fun k=>lay_frozen g HBw10.out k)
 obtain ⟨w2,hm2,hat,hg2,hs2⟩:=Hmk.out w1
 go_upto_region 2 with fail
 rw [HSw1.out] at hm2 hat hs2
 clear hm2
 have HA2:=Lib.hid hat
 have HG2:=Lib.hid hg2
 have HS2:=Lib.hid hs2
 clear hat hg2 hs2 Hmk
 rw [HSw1.out]
 go_upto_region 3 with fail
 have HBw30:Hid ((w2.alloc (.cells #[.int .i64 (-1),.int .i64 (-1)] 83)).heap[w2.heap.size]? = some (.cells #[.int .i64 (-1),.int .i64 (-1)] 83 (0,0))):=Lib.hid (lay1_0 _ _)
 have HGw3:Hid (Flow.Grow w2 (w2.alloc (.cells #[.int .i64 (-1),.int .i64 (-1)] 83))):=Lib.hid (lay1_g _ _)
 have HSw3:Hid ((w2.alloc (.cells #[.int .i64 (-1),.int .i64 (-1)] 83)).heap.size=w2.heap.size+1):=Lib.hid (by simp)
 generalize w2.alloc (.cells #[.int .i64 (-1),.int .i64 (-1)] 83)=w3 at *
 obtain ⟨O,hO⟩:∃ X,X=w2.heap.size:=⟨_,rfl⟩
 rw [← hO] at HBw30 HSw3 ⊢
 have HXw3:=Lib.hid hO
 clear hO
 have CXw3:Hid (∀ wq,Flow.Grow w3 wq→wq.cell? ⟨O,0,none⟩=some (.int .i64 (-1))∧wq.cell? ⟨O,1,none⟩=some (.int .i64 (-1))):=Lib.hid (fun wq g=>⟨lay_cell g HBw30.out rfl,lay_cell g HBw30.out rfl⟩)
 have FXw3:Hid (∀ wq,Flow.Grow w3 wq→(∀ k,wq.frozen? ⟨O,k,none⟩=false)):=Lib.hid (fun wq g=>fun k=>lay_frozen g HBw30.out k)
 have HG3:=Lib.hid (HGw1.out.trans (HG2.out.trans HGw3.out))
 have HO:Hid (O=X+1+1):=Lib.hid (by rw [HXw3.out];exact HS2.out)
 have hXW:Hid (W.heap.size≤X):=Lib.hid (by rw [HXw1.out];exact H.out.grow.size)
 have HF3:Hid (Fl.FM W w3 B nm c1 c2 (.slice i0 n i1) (.slice s0 m s1) gp gm gn ge pl [] [] [] 0):=Lib.hid (H.out.keep HG3.out)
 have HA3:=Lib.hid (HA2.out.grow HGw3.out)
 have HX3:=Lib.hid (heap_keep (HG2.out.trans HGw3.out) HBw10.out)
 have HO3:=Lib.hid HBw30.out
 clear HGw1 HSw1 HBw10 HXw1 CXw1 FXw1 HGw3 HSw3 HBw30 HXw3 CXw3 FXw3 HA2 HG2 HS2 HG3 H
 have hOX:O≠X:=by have:=HO.out;omega
 have hAX:X+1≠X:=by omega
 have hAO:X+1≠O:=by have:=HO.out;omega
 go_upto_region 4 with fail
 go_loopw [11,12,23,37,45] (fun v11 v12 vk v37 v45 wr=>∃ (k:Nat) (gm' gn':Value) (ns:List Gr.Nd) (ml:List Fl.S) (er:Int),k≤n∧vk=.int .i64 (k:Int)∧ns.length=k∧ml.length≤2 * k∧Hid (Fl.itemsT fs pl (its.take k) ([],[],0)=(ns,ml,er))∧Hid (Fl.FM W wr B nm c1 c2 (.slice i0 n i1) (.slice s0 m s1) gp gm' gn' ge pl ml ns [] er)∧Hid (Fl.At wr (X+1) n k)∧Hid (wr.heap[X]? = some (.cells #[.int .i64 0,.int .i64 0] 83 (0,0)))∧∃ a b:Int,Hid (wr.heap[O]? = some (.cells #[.int .i64 a,.int .i64 b] 83 (0,0)))) (fun v11 v12 vk v37 v45 _=>n - (intOf vk).toNat)
 case atStart=>exact ⟨0,gm,gn,[],[],0,by omega,rfl,rfl,by simp,Lib.hid rfl,HF3,HA3,HX3,_,_,HO3⟩
 case round =>
  obtain ⟨k,gm',gn',ns,ml,er,hk,rfl,hnl,hml,HEq,HF,HA,HX,oa,ob,HOb⟩:=hrel
  rename World=>wr
  by_cases hkn:k < n
  ·have d1:decide ((k:Int) < (n:Int))=true:=by simp;omega
   obtain ⟨y,hy⟩:∃ y,ys[k]? = some y:=⟨_,List.getElem?_eq_getElem (by have:=congrArg List.length HYs.out;rw [List.length_map] at this;have:=Hn.out;omega)⟩
   have hyl:n=ys.length:=by have:=congrArg List.length HYs.out;rw [List.length_map] at this;have:=Hn.out;omega
   obtain ⟨b,off,hb,c0⟩:=Gr.Recs.at Ch.icells_len (by decide) (show Gr.Recs 10 Ch.icells wr (.slice i0 n i1) ys from by have k:=Seg.of_own (own_keep HYo.out HF.out.grow);rw [hyl] at k;unfold Gr.Recs;rw [← hyl];rw [← hyl] at k;exact k) hy
   subst hb
   obtain ⟨it,xp,xf⟩:=y
   have HIt:Hid (its[k]? = some it):=Lib.hid (by rw [← HYs.out,List.getElem?_map,hy];rfl)
   have HSt:=Lib.hid (HYt.out _ (List.mem_of_getElem? hy))
   simp only at HSt
   obtain ⟨x0,x1,hxp⟩:=own_form HSt.out.1
   obtain ⟨y0,y1,hxf⟩:=own_form HSt.out.2
   have HEk:Hid (Fl.itemsT fs pl (its.take (k+1)) ([],[],0)=Fl.itemT fs pl it (ns,ml,er)):=Lib.hid (by rw [Fl.itemsT_take fs pl HIt.out,HEq.out])
   have h7:it.kind≠7:=by have:=HKd.out it (List.mem_of_getElem? HIt.out);omega
   have HIm:=Lib.hid fun w' k=>flItem_any W w' B nm c1 c2 _ (.slice s0 m s1) gp gm' gn' ge xp xf pl ml ns [] er fs it HTk.out h7 (by omega) (by omega) k HSt.out.1 HSt.out.2
   have q0:=c0 0 _ rfl
   have q1:=c0 1 _ rfl
   have q2:=c0 2 _ rfl
   have q3:=c0 3 _ rfl
   have q4:=c0 4 _ rfl
   have q5:=c0 5 _ rfl
   have q6:=c0 6 _ rfl
   have q7:=c0 7 _ rfl
   have q8:=c0 8 _ rfl
   have q9:=c0 9 _ rfl
   subst hxp hxf
   simp only [Nat.add_zero] at q0
   simp only [← Nat.add_assoc] at q1 q2 q3 q4 q5 q6 q7 q8 q9
   rw [hnl] at HIm
   simp only [Ch.ic,Ch.nE] at HIm q6
   have Hnl:=Lib.hid hnl
   have Hyl:=Lib.hid hyl
   have H7:=Lib.hid h7
   clear hy c0 h7 HSt hnl hyl
   go_upto_region 6 with fail
   have HBw40:Hid ((wr.alloc (.cells #[.int .i64 it.kind,.string it.id,.string it.first,.slice x0 it.parts.length x1,.slice y0 it.flows.length y1,.bool it.loop,.string ⟨#[]⟩,.slice none 0 0,.slice none 0 0,.slice none 0 0] 116)).heap[wr.heap.size]? = some (.cells #[.int .i64 it.kind,.string it.id,.string it.first,.slice x0 it.parts.length x1,.slice y0 it.flows.length y1,.bool it.loop,.string ⟨#[]⟩,.slice none 0 0,.slice none 0 0,.slice none 0 0] 116 (0,0))):=Lib.hid (lay1_0 _ _)
   have HGw4:Hid (Flow.Grow wr (wr.alloc (.cells #[.int .i64 it.kind,.string it.id,.string it.first,.slice x0 it.parts.length x1,.slice y0 it.flows.length y1,.bool it.loop,.string ⟨#[]⟩,.slice none 0 0,.slice none 0 0,.slice none 0 0] 116))):=Lib.hid (lay1_g _ _)
   have HSw4:Hid ((wr.alloc (.cells #[.int .i64 it.kind,.string it.id,.string it.first,.slice x0 it.parts.length x1,.slice y0 it.flows.length y1,.bool it.loop,.string ⟨#[]⟩,.slice none 0 0,.slice none 0 0,.slice none 0 0] 116)).heap.size=wr.heap.size+1):=Lib.hid (by simp)
   generalize wr.alloc (.cells #[.int .i64 it.kind,.string it.id,.string it.first,.slice x0 it.parts.length x1,.slice y0 it.flows.length y1,.bool it.loop,.string ⟨#[]⟩,.slice none 0 0,.slice none 0 0,.slice none 0 0] 116)=w4 at *
   obtain ⟨Y,hY⟩:∃ X,X=wr.heap.size:=⟨_,rfl⟩
   rw [← hY] at HBw40 HSw4 ⊢
   have HXw4:=Lib.hid hY
   clear hY
   have CXw4:Hid (∀ wq,Flow.Grow w4 wq→wq.cell? ⟨Y,0,none⟩=some (.int .i64 it.kind)∧wq.cell? ⟨Y,1,none⟩=some (.string it.id)∧wq.cell? ⟨Y,2,none⟩=some (.string it.first)∧wq.cell? ⟨Y,3,none⟩=some (.slice x0 it.parts.length x1)∧wq.cell? ⟨Y,4,none⟩=some (.slice y0 it.flows.length y1)∧wq.cell? ⟨Y,5,none⟩=some (.bool it.loop)∧wq.cell? ⟨Y,6,none⟩=some (.string ⟨#[]⟩)∧wq.cell? ⟨Y,7,none⟩=some (.slice none 0 0)∧wq.cell? ⟨Y,8,none⟩=some (.slice none 0 0)∧wq.cell? ⟨Y,9,none⟩=some (.slice none 0 0)):=Lib.hid (fun wq g=>⟨lay_cell g HBw40.out rfl,lay_cell g HBw40.out rfl,lay_cell g HBw40.out rfl,lay_cell g HBw40.out rfl,lay_cell g HBw40.out rfl,lay_cell g HBw40.out rfl,lay_cell g HBw40.out rfl,lay_cell g HBw40.out rfl,lay_cell g HBw40.out rfl,lay_cell g HBw40.out rfl⟩)
   have FXw4:Hid (∀ wq,Flow.Grow w4 wq→(∀ k,wq.frozen? ⟨Y,k,none⟩=false)):=Lib.hid (fun wq g=>fun k=>lay_frozen g HBw40.out k)
   clear q0 q1 q2 q3 q4 q5 q6 q7 q8 q9
   have HF4:=Lib.hid (HF.out.keep HGw4.out)
   have HA4:=Lib.hid (HA.out.grow HGw4.out)
   have HX4:=Lib.hid (heap_keep HGw4.out HX.out)
   have HO4:=Lib.hid (heap_keep HGw4.out HOb.out)
   clear HF HA HX HOb
   obtain ⟨c00,c01,c02,c03,c04,c05,c06,c07,c08,c09⟩:=CXw4.out w4 (Flow.grow_refl _)
   go_upto_region 7 with (go_at_call 39;refine (HIm.out w4 HF4.out).mono ?_;rintro e w5 ⟨gm2,gn2,rfl,hf,hk5⟩;have HF5:=Lib.hid hf;have HK5:=Lib.hid hk5;have HA5:=Lib.hid (HA4.out.kept hk5 (by decide));obtain ⟨⟨u0,r0⟩,u1,r1⟩:=HA5.out.room hkn;have rf:=HA5.out.frz;clear hf hk5)
   have HY5:=Lib.hid (HK5.out _ _ _ _ HBw40.out (by decide))
   have HX5:=Lib.hid (HK5.out _ _ _ _ HX4.out (by decide))
   have HO5:=Lib.hid (HK5.out _ _ _ _ HO4.out (by decide))
   have hYA:Y≠X+1:=by
    intro e
    obtain ⟨cs,h1,_⟩:=HA4.out
    have h2:=HBw40.out
    rw [e,h1] at h2
    cases h2
   have HA6:=Lib.hid (HA5.out.sto hkn)
   have HY6:=Lib.hid (set_other (q:=k * 2+1) (u:=.int .i64 (k:Int)) (set_other (q:=k * 2) (u:=.int .i64 (k:Int)) HY5.out hYA) hYA)
   have HX6:=Lib.hid (set_other (q:=k * 2+1) (u:=.int .i64 (k:Int)) (set_other (q:=k * 2) (u:=.int .i64 (k:Int)) HX5.out (Ne.symm hAX)) (Ne.symm hAX))
   have HO6:=Lib.hid (set_other (q:=k * 2+1) (u:=.int .i64 (k:Int)) (set_other (q:=k * 2) (u:=.int .i64 (k:Int)) HO5.out (Ne.symm hAO)) (Ne.symm hAO))
   have HF6:=Lib.hid (by
    obtain ⟨cs,h1,_⟩:=HA5.out
    exact HF5.out.ty (TY.blk h1) (by_trans (by_set w5 (X+1) (k * 2) (.int .i64 (k:Int))) (by_set _ (X+1) (k * 2+1) (.int .i64 (k:Int)))) (by have:=hXW.out;omega) (by decide) (by decide) (by decide) (by decide))
   rw [show (w5.setCell ⟨X+1,k * 2,none⟩ (.int .i64 (k:Int))).setCell ⟨X+1,k * 2+1,none⟩ (.int .i64 (k:Int))=(w5.setCell ⟨X+1,k * 2,none⟩ (.int .i64 (k:Int))).setCell ⟨X+1,k * 2+1,none⟩ (.int .i64 (k:Int)) from rfl]
   generalize (w5.setCell ⟨X+1,k * 2,none⟩ (.int .i64 (k:Int))).setCell ⟨X+1,k * 2+1,none⟩ (.int .i64 (k:Int))=w6 at *
   clear HA5 HX5 HO5 HF5 HK5 HY5 r0 r1 rf c00 c01 c02 c03 c04 c05 c06 c07 c08 c09 HF4 HA4 HX4 HO4
   have hnl6:=(Fl.itemT_one fs pl it (ns,ml,er)).1
   have hml6:=(Fl.itemT_one fs pl it (ns,ml,er)).2
   simp only at hnl6 hml6
   rw [Hnl.out] at hnl6
   obtain ⟨r,hr⟩:∃ r,r=Fl.itemT fs pl it (ns,ml,er):=⟨_,rfl⟩
   rw [← hr] at HF6 hnl6 hml6 HEk
   clear hr
   obtain ⟨ns6,ml6,er6⟩:=r
   simp only at HF6 hnl6 hml6
   have Hnl6:=Lib.hid hnl6
   have Hml6:Hid (ml6.length≤2 * (k+1)):=Lib.hid (by omega)
   clear hnl6 hml6
   have a0:=(HA6.out.cell (j:=k) (by omega)).1
   have a1:=(HA6.out.cell (j:=k) (by omega)).2
   have y0c:=(cell_of_row w6 Y 0 _ _ _ HY6.out).trans rfl
   have o0:=(cell_of_row w6 O 0 _ _ _ HO6.out).trans rfl
   have o1:=(cell_of_row w6 O 1 _ _ _ HO6.out).trans rfl
   have of:=fun j=>frozen_of_row w6 O j _ _ HO6.out
   simp at y0c o0 o1
   by_cases h1:it.kind=1
   ·have e1:(it.kind == 1)=true:=by simp [h1]
    have e2:(it.kind == 2)=false:=by simp [h1]
    clear h1
    go_wp2_with fail
    have HF7:=Lib.hid (HF6.out.ty (TY.blk HO6.out) (by_set w6 O 0 (.int .i64 (k:Int))) (by have:=hXW.out;have:=HO.out;omega) (by decide) (by decide) (by decide) (by decide))
    have HA7:=Lib.hid (HA6.out.other (q:=0) (u:=.int .i64 (k:Int)) hAO)
    have HX7:=Lib.hid (set_other (q:=0) (u:=.int .i64 (k:Int)) HX6.out (Ne.symm hOX))
    have HO7:Hid ((w6.setCell ⟨O,0,none⟩ (.int .i64 (k:Int))).heap[O]? = some (.cells #[.int .i64 (k:Int),.int .i64 ob] 83 (0,0))):=Lib.hid ((set_cells HO6.out 0 _).trans rfl)
    go_roundw
    case rel=>exact ⟨k+1,gm2,gn2,ns6,ml6,er6,by omega,by go_num,Hnl6.out,Hml6.out,HEk,HF7,HA7,HX7,_,_,HO7⟩
    case measure=>simp [intOf];omega
   ·have e1:(it.kind == 1)=false:=by simp [h1]
    by_cases h2:it.kind=2
    ·have e2:(it.kind == 2)=true:=by simp [h2]
     clear h1 h2
     go_wp2_with fail
     have HF7:=Lib.hid (HF6.out.ty (TY.blk HO6.out) (by_set w6 O 1 (.int .i64 (k:Int))) (by have:=hXW.out;have:=HO.out;omega) (by decide) (by decide) (by decide) (by decide))
     have HA7:=Lib.hid (HA6.out.other (q:=1) (u:=.int .i64 (k:Int)) hAO)
     have HX7:=Lib.hid (set_other (q:=1) (u:=.int .i64 (k:Int)) HX6.out (Ne.symm hOX))
     have HO7:Hid ((w6.setCell ⟨O,1,none⟩ (.int .i64 (k:Int))).heap[O]? = some (.cells #[.int .i64 oa,.int .i64 (k:Int)] 83 (0,0))):=Lib.hid ((set_cells HO6.out 1 _).trans rfl)
     go_roundw
     case rel=>exact ⟨k+1,gm2,gn2,ns6,ml6,er6,by omega,by go_num,Hnl6.out,Hml6.out,HEk,HF7,HA7,HX7,_,_,HO7⟩
     case measure=>simp [intOf];omega
    ·have e2:(it.kind == 2)=false:=by simp [h2]
     clear h1 h2
     go_wp2_with fail
     go_roundw
     case rel=>exact ⟨k+1,gm2,gn2,ns6,ml6,er6,by omega,by go_num,Hnl6.out,Hml6.out,HEk,HF6,HA6,HX6,_,_,HO6⟩
     case measure=>simp [intOf];omega
  ·obtain rfl:k=n:=by omega
   have d1:decide ((k:Int) < (k:Int))=false:=by simp
   rw [Hn.out,List.take_length] at HEq
   have HIds:=Lib.hid fun x w' (g:Flow.Grow W w')=>idsItem_any x _ its w' (by have:=Hn.out;omega) (HI.out.grow g)
   obtain ⟨ids,hids⟩:∃ l,l=its.map (·.id):=⟨_,rfl⟩
   have Hids:Hid (ids.length=k):=Lib.hid (by rw [hids,List.length_map];exact Hn.out.symm)
   rw [← hids] at HIds
   have HId:=Lib.hid hids
   clear hids
   go_upto_region 14 with fail
   have HF1:=HF
   have HA1:=HA
   have HX1:=HX
   have HO1:=HOb
   clear HF HA HX HOb
   go_loopw [14,15,16,56] (fun v14 v15 v16 vj wz=>∃ (j:Nat) (ge':Value) (es:List Gr.Ed) (er':Int),j≤m∧vj=.int .i64 (j:Int)∧es.length≤j∧Hid (Fl.edgesT ids (qs.take j) ([],er)=(es,er'))∧Hid (Fl.FM W wz B nm c1 c2 (.slice i0 k i1) (.slice s0 m s1) gp gm' gn' ge' pl ml ns es er')∧Hid (Fl.At wz (X+1) k k)∧Hid (wz.heap[X]? = some (.cells #[.int .i64 0,.int .i64 0] 83 (0,0)))∧∃ a b:Int,Hid (wz.heap[O]? = some (.cells #[.int .i64 a,.int .i64 b] 83 (0,0)))) (fun v14 v15 v16 vj _=>m - (intOf vj).toNat)
   case atStart=>exact ⟨0,ge,[],er,by omega,rfl,by simp,Lib.hid rfl,HF1,HA1,HX1,_,_,HO1⟩
   case round =>
    obtain ⟨j,ge',es,er',hj,rfl,hel,HEs,HF,HA,HX,pa,pb,HOb⟩:=hrel
    rename World=>wz
    clear HF1 HA1 HX1 HO1
    by_cases hjm:j < m
    ·have d2:decide ((j:Int) < (m:Int))=true:=by simp;omega
     obtain ⟨q,hqj⟩:∃ q,qs[j]? = some q:=⟨_,List.getElem?_eq_getElem (by rw [← Hm.out];exact hjm)⟩
     have HEk:Hid (Fl.edgesT ids (qs.take (j+1)) ([],er)=Fl.edgeT ids q (es,er')):=Lib.hid (by rw [Fl.edgesT_take ids hqj,HEs.out])
     obtain ⟨sb,soff,hsb,c0⟩:=Gr.Recs.at Fl.scells_len (by decide) (show Gr.Recs 3 Ch.scells wz (.slice s0 qs.length s1) qs from by rw [← Hm.out];exact HQs.out.grow HF.out.grow) hqj
     subst hsb
     have q0:=c0 0 _ rfl
     have q1:=c0 1 _ rfl
     have q2:=c0 2 _ rfl
     simp only [Nat.add_zero] at q0
     simp only [← Nat.add_assoc] at q1 q2
     clear c0 hqj
     obtain ⟨P1,hP1⟩:∃ P,P=Fl.place ids q.2.1:=⟨_,rfl⟩
     obtain ⟨P2,hP2⟩:∃ P,P=Fl.place ids q.2.2:=⟨_,rfl⟩
     have HI1:=Lib.hid (HIds.out q.2.1)
     have HI2:=Lib.hid (HIds.out q.2.2)
     rw [← hP1] at HI1
     rw [← hP2] at HI2
     have HP1:=Lib.hid hP1
     have HP2:=Lib.hid hP2
     clear hP1 hP2
     go_upto_region 16 with fail
     have HBw80:Hid ((wz.alloc (.cells #[.string q.1,.string q.2.1,.string q.2.2] 119)).heap[wz.heap.size]? = some (.cells #[.string q.1,.string q.2.1,.string q.2.2] 119 (0,0))):=Lib.hid (lay1_0 _ _)
     have HGw8:Hid (Flow.Grow wz (wz.alloc (.cells #[.string q.1,.string q.2.1,.string q.2.2] 119))):=Lib.hid (lay1_g _ _)
     have HSw8:Hid ((wz.alloc (.cells #[.string q.1,.string q.2.1,.string q.2.2] 119)).heap.size=wz.heap.size+1):=Lib.hid (by simp)
     generalize wz.alloc (.cells #[.string q.1,.string q.2.1,.string q.2.2] 119)=w8 at *
     obtain ⟨Z,hZ⟩:∃ X,X=wz.heap.size:=⟨_,rfl⟩
     rw [← hZ] at HBw80 HSw8 ⊢
     have HXw8:=Lib.hid hZ
     clear hZ
     have CXw8:Hid (∀ wq,Flow.Grow w8 wq→wq.cell? ⟨Z,0,none⟩=some (.string q.1)∧wq.cell? ⟨Z,1,none⟩=some (.string q.2.1)∧wq.cell? ⟨Z,2,none⟩=some (.string q.2.2)):=Lib.hid (fun wq g=>⟨lay_cell g HBw80.out rfl,lay_cell g HBw80.out rfl,lay_cell g HBw80.out rfl⟩)
     have FXw8:Hid (∀ wq,Flow.Grow w8 wq→(∀ k,wq.frozen? ⟨Z,k,none⟩=false)):=Lib.hid (fun wq g=>fun k=>lay_frozen g HBw80.out k)
     clear q0 q1 q2
     have HF8:=Lib.hid (HF.out.keep HGw8.out)
     have HG8:=Lib.hid HGw8.out
     obtain ⟨c00,c01,c02⟩:=CXw8.out w8 (Flow.grow_refl _)
     refine Flow.region_grown (Fs:=[.inl ((.slice i0 k i1)),.inl ((.pointer (some ⟨Z,1,none⟩))),.inl ((.string q.2.1)),.inl ((.int .i64 P1)),.inl ((.slice i0 k i1)),.inl ((.pointer (some ⟨Z,2,none⟩))),.inl ((.string q.2.2)),.inl ((.int .i64 P2)),.inl ((.int .i64 P1)),.inl ((.int .i64 P2))])
      (S:=[[],[],[1],[0,2],[],[],[5],[4,6],[3],[7]]) (by kernel_rfl) (by kernel_rfl) (by kernel_rfl) rfl ?stab16 ?ones16 ?ends16
     case ones16 =>
      refine Flow.Ones.cons ?_ ?_
      ·intro a w hC hoff _
       have e1:a.eval (.tmp 1)=(.slice i0 k i1):=hoff.at 1 (by kernel_rfl)
       refine .inl ⟨Flow.want_none rfl,?_⟩
       exact Flow.run_same (Flow.exec_move (.inl rfl) e1) Flow.grow_refl
      refine Flow.Ones.cons ?_ ?_
      ·intro a w hC hoff _
       have e14:a.eval (.tmp 14)=(.pointer (some ⟨Z,0,none⟩)):=hoff.at 14 (by kernel_rfl)
       refine .inl ⟨Flow.want_none rfl,?_⟩
       refine Flow.run_same ?_ Flow.grow_refl
       have ec:=Flow.eval_const a
       generalize a.eval=ρ at e14 ec ⊢
       simp [execOp,e14,go_sem]
      refine Flow.Ones.cons ?_ ?_
      ·rintro a w hC hoff ⟨k1,-⟩
       have e61:a.eval (.tmp 61)=(.pointer (some ⟨Z,1,none⟩)):=k1 61 rfl
       refine .inl ⟨Flow.want_none rfl,?_⟩
       refine Flow.run_same ?_ Flow.grow_refl
       have ec:=Flow.eval_const a
       generalize a.eval=ρ at e61 ec ⊢
       have h0:=Xm2.cell_grow hC c01
       simp [execOp,e61,h0,go_sem]
      refine Flow.Ones.cons ?_ ?_
      ·rintro a w hC hoff ⟨k0,k2,-⟩
       have e60:a.eval (.tmp 60)=(.slice i0 k i1):=k0 60 rfl
       have e62:a.eval (.tmp 62)=(.string q.2.1):=k2 62 rfl
       refine .inl ⟨Flow.want_none rfl,?_⟩
       exact Flow.run_call (Flow.exec_call (args:=#[((.slice i0 k i1)),((.string q.2.1))]) rfl Tryz.func40 (by kernel_rfl) (by kernel_rfl) (by simp only [List.map_toArray,List.map_cons,List.map_nil,e60,e62] <;> rfl)) ((HI1.out w (HF8.out.grow.trans hC)).mono fun e w' h=>⟨_,h.1,h.2,rfl⟩)
      refine Flow.Ones.cons ?_ ?_
      ·intro a w hC hoff _
       have e1:a.eval (.tmp 1)=(.slice i0 k i1):=hoff.at 1 (by kernel_rfl)
       refine .inl ⟨Flow.want_none rfl,?_⟩
       exact Flow.run_same (Flow.exec_move (.inl rfl) e1) Flow.grow_refl
      refine Flow.Ones.cons ?_ ?_
      ·intro a w hC hoff _
       have e14:a.eval (.tmp 14)=(.pointer (some ⟨Z,0,none⟩)):=hoff.at 14 (by kernel_rfl)
       refine .inl ⟨Flow.want_none rfl,?_⟩
       refine Flow.run_same ?_ Flow.grow_refl
       have ec:=Flow.eval_const a
       generalize a.eval=ρ at e14 ec ⊢
       simp [execOp,e14,go_sem]
      refine Flow.Ones.cons ?_ ?_
      ·rintro a w hC hoff ⟨k5,-⟩
       have e65:a.eval (.tmp 65)=(.pointer (some ⟨Z,2,none⟩)):=k5 65 rfl
       refine .inl ⟨Flow.want_none rfl,?_⟩
       refine Flow.run_same ?_ Flow.grow_refl
       have ec:=Flow.eval_const a
       generalize a.eval=ρ at e65 ec ⊢
       have h0:=Xm2.cell_grow hC c02
       simp [execOp,e65,h0,go_sem]
      refine Flow.Ones.cons ?_ ?_
      ·rintro a w hC hoff ⟨k4,k6,-⟩
       have e64:a.eval (.tmp 64)=(.slice i0 k i1):=k4 64 rfl
       have e66:a.eval (.tmp 66)=(.string q.2.2):=k6 66 rfl
       refine .inl ⟨Flow.want_none rfl,?_⟩
       exact Flow.run_call (Flow.exec_call (args:=#[((.slice i0 k i1)),((.string q.2.2))]) rfl Tryz.func40 (by kernel_rfl) (by kernel_rfl) (by simp only [List.map_toArray,List.map_cons,List.map_nil,e64,e66] <;> rfl)) ((HI2.out w (HF8.out.grow.trans hC)).mono fun e w' h=>⟨_,h.1,h.2,rfl⟩)
      refine Flow.Ones.cons ?_ ?_
      ·rintro a w hC hoff ⟨k3,-⟩
       have e63:a.eval (.tmp 63)=(.int .i64 P1):=k3 63 rfl
       refine .inl ⟨Flow.want_none rfl,?_⟩
       exact Flow.run_same (Flow.exec_move (.inr rfl) e63) Flow.grow_refl
      refine Flow.Ones.cons ?_ ?_
      ·rintro a w hC hoff ⟨k7,-⟩
       have e67:a.eval (.tmp 67)=(.int .i64 P2):=k7 67 rfl
       refine .inl ⟨Flow.want_none rfl,?_⟩
       exact Flow.run_same (Flow.exec_move (.inr rfl) e67) Flow.grow_refl
      exact trivial
     case stab16=>exact trivial
     case ends16 =>
      intro w9 hg
      simp only [Flow.ends]
      simp only [Act.put,List.setIfInBounds_toArray,List.set_cons_succ,List.set_cons_zero]
      have HF9:=Lib.hid (HF8.out.keep hg)
      have HA9:=Lib.hid (HA.out.grow (HG8.out.trans hg))
      have HX9:=Lib.hid (heap_keep (HG8.out.trans hg) HX.out)
      have HO9:=Lib.hid (heap_keep (HG8.out.trans hg) HOb.out)
      clear hg HGw8 HSw8 HBw80 HXw8 CXw8 FXw8 HF8 HG8 HF HA HX HOb c00 c01 c02 HI1 HI2
      by_cases p1:P1 < 0
      ·have d3:decide (P1 < 0)=true:=by simp [p1]
       have HEr:Hid (Fl.edgeT ids q (es,er')=(es,6)):=Lib.hid (by unfold Fl.edgeT;rw [← HP1.out,if_pos (.inl p1)])
       clear p1
       obtain ⟨x0,x1,x2,x3,x4,x5,x6,x7,x8,x9,xf⟩:=m10_cells HF9.out.box
       have HF10:=Lib.hid (HF9.out.err 6)
       have HA10:=Lib.hid (HA9.out.kept (Fl.Kept.ty (Ts:=[79]) (TY.blk HF9.out.box) (by_set w9 B 9 (.int .i64 6)) (by simp)) (by decide))
       have HX10:=Lib.hid ((Fl.Kept.ty (Ts:=[79]) (TY.blk HF9.out.box) (by_set w9 B 9 (.int .i64 6)) (by simp)) _ _ _ _ HX9.out (by decide))
       have HO10:=Lib.hid ((Fl.Kept.ty (Ts:=[79]) (TY.blk HF9.out.box) (by_set w9 B 9 (.int .i64 6)) (by simp)) _ _ _ _ HO9.out (by decide))
       go_wp2_with fail
       go_roundw
       case rel=>exact ⟨j+1,ge',es,6,by omega,by go_num,by omega,Lib.hid (HEk.out.trans HEr.out),HF10,HA10,HX10,_,_,HO10⟩
       case measure=>simp [intOf];omega
      ·have d3:decide (P1 < 0)=false:=by simp;omega
       by_cases p2:P2 < 0
       ·have d4:decide (P2 < 0)=true:=by simp [p2]
        have HEr:Hid (Fl.edgeT ids q (es,er')=(es,6)):=Lib.hid (by unfold Fl.edgeT;rw [← HP2.out,if_pos (.inr p2)])
        clear p1 p2
        obtain ⟨x0,x1,x2,x3,x4,x5,x6,x7,x8,x9,xf⟩:=m10_cells HF9.out.box
        have HF10:=Lib.hid (HF9.out.err 6)
        have HA10:=Lib.hid (HA9.out.kept (Fl.Kept.ty (Ts:=[79]) (TY.blk HF9.out.box) (by_set w9 B 9 (.int .i64 6)) (by simp)) (by decide))
        have HX10:=Lib.hid ((Fl.Kept.ty (Ts:=[79]) (TY.blk HF9.out.box) (by_set w9 B 9 (.int .i64 6)) (by simp)) _ _ _ _ HX9.out (by decide))
        have HO10:=Lib.hid ((Fl.Kept.ty (Ts:=[79]) (TY.blk HF9.out.box) (by_set w9 B 9 (.int .i64 6)) (by simp)) _ _ _ _ HO9.out (by decide))
        go_wp2_with fail
        go_roundw
        case rel=>exact ⟨j+1,ge',es,6,by omega,by go_num,by omega,Lib.hid (HEk.out.trans HEr.out),HF10,HA10,HX10,_,_,HO10⟩
        case measure=>simp [intOf];omega
       ·have d4:decide (P2 < 0)=false:=by simp;omega
        have HEr:Hid (Fl.edgeT ids q (es,er')=(es++[(P1,P2)],er')):=Lib.hid (by unfold Fl.edgeT;rw [← HP1.out,← HP2.out,if_neg (by rintro (h | h);exact p1 h;exact p2 h)])
        have l1:P1 < (k:Int):=by rw [HP1.out,← Hids.out];exact Fl.place_lt _ _
        have l2:P2 < (k:Int):=by rw [HP2.out,← Hids.out];exact Fl.place_lt _ _
        clear HP1 HP2
        obtain ⟨a,ha⟩:∃ p:Nat,P1=(p:Int):=⟨P1.toNat,by omega⟩
        obtain ⟨b,hb⟩:∃ p:Nat,P2=(p:Int):=⟨P2.toNat,by omega⟩
        subst ha hb
        have hak:a < k:=by omega
        have hbk:b < k:=by omega
        have d5:decide ((a:Int) < 0)=false:=by simp
        have d6:decide ((b:Int) < 0)=false:=by simp
        clear p1 p2 l1 l2
        have a0:=(HA9.out.cell hak).1
        have a1:=(HA9.out.cell hak).2
        have b0:=(HA9.out.cell hbk).1
        have b1:=(HA9.out.cell hbk).2
        go_upto_region 19 with fail
        obtain ⟨g0,g1,hge⟩:=own_form HF9.out.edges
        subst hge
        obtain ⟨el,hel'⟩:∃ e,e=es.length:=⟨_,rfl⟩
        have Hel:=Lib.hid hel'
        rw [← hel'] at HF9 hel
        clear hel'
        obtain ⟨i9,hi,hz,hs,hb'⟩:=info_parts08 info_edge12
        have HIn:=Lib.hid (And.intro hi (And.intro hz (And.intro hs hb')))
        clear hi hz hs hb'
        obtain ⟨x0,x1,x2,x3,x4,x5,x6,x7,x8,x9,xf⟩:=m10_cells HF9.out.box
        have Hgr:Hid (∀ wz:World,Flow.Grow w9 wz→wz.ownsRow W.heap.size 56 2 (.slice g0 el g1) el (es.flatMap Gr.ecells)):=Lib.hid fun wz g=>by
         have k:=(HF9.out.keep g).edges
         rw [← Hel.out] at k
         exact k
        have Hend:Hid (∀ wz wy:World,Flow.Grow w9 wz→∀ v',wy.ownsRow W.heap.size 56 2 v' (el+1) (es.flatMap Gr.ecells++Gr.ecells ((a:Int),(b:Int)))→wz.grownBy wy (Value.slice g0 el g1).ownBlock→Fl.FM W (wy.setCell ⟨B,8,none⟩ v') B nm c1 c2 (.slice i0 k i1) (.slice (some ⟨sb,soff,none⟩) m s1) gp gm' gn' v' pl ml ns (es++[((a:Int),(b:Int))]) er'∧Fl.Kept w9 (wy.setCell ⟨B,8,none⟩ v') [79,56]∧wy.heap[B]? = some (.cells #[.string nm,c1,c2,.slice i0 k i1,.slice (some ⟨sb,soff,none⟩) m s1,gp,gm',gn',.slice g0 el g1,.int .i64 er'] 79 (0,0))):=Lib.hid fun wz wy g v' o k =>
         have hb:=(TY.own (Hgr.out wz g)).keep_blk k (heap_keep g HF9.out.box) (by decide)
         ⟨(HF9.out.keep g).edge ((a:Int),(b:Int)) (by rw [← Hel.out];exact o) k,((Fl.Kept.grow g _).trans (Fl.Kept.ty (TY.own (Hgr.out wz g)) k (by simp))).trans (Fl.Kept.ty (TY.blk hb) (by_set wy B 8 v') (by simp)),hb⟩
        have Hsz:Hid (∀ wz:World,Flow.Grow w9 wz→W.heap.size≤wz.heap.size):=Lib.hid fun wz g=>(HF9.out.grow.trans g).size
        have x8a:∀ x,(w9.alloc x).cell? ⟨B,8,none⟩=some (.slice g0 el g1):=fun x=>Xm2.cell_grow (Flow.grow_alloc _ _) x8
        clear x0 x1 x2 x3 x4 x5 x6 x7 x9
        go_region_law (
         go_loud (refine step_append_lies _ rfl _ _ 25 rfl W.heap.size 56 i9 (.agg #[.int .i64 0,.int .i64 0]) 2 16 Tryz.underlying25 HIn.out.1 HIn.out.2.1 HIn.out.2.2.1 HIn.out.2.2.2 rfl (by decide) (.slice g0 el g1) el (es.flatMap Gr.ecells) rfl (Hgr.out _ (by first | exact (Flow.grow_alloc _ _).trans (Flow.grow_drew _) | exact (Flow.grow_drew _).trans (Flow.grow_alloc _ _))) ⟨w9.heap.size,0,none⟩ 1 1 (Gr.ecells ((a:Int),(b:Int))) rfl rfl (fun j u hj=>by rw [Addr.add_lit,Nat.zero_add];exact cells_of (heap_alloc_new _ _) j u hj) (by intro u hu;simp [Gr.ecells] at hu;rcases hu with rfl | rfl <;> rfl) (by decide) (by unfold maxLen;omega) (by omega) (Hsz.out _ (by first | exact (Flow.grow_alloc _ _).trans (Flow.grow_drew _) | exact (Flow.grow_drew _).trans (Flow.grow_alloc _ _))) _ rfl ?_);
         intro g4 c4' w4 hown4 hgrow4 hat4 hlt4;
         have He:=Lib.hid (Hend.out _ w4 (by first | exact (Flow.grow_alloc _ _).trans (Flow.grow_drew _) | exact (Flow.grow_drew _).trans (Flow.grow_alloc _ _)) _ hown4 hgrow4);
         obtain ⟨z0,z1,z2,z3,z4,z5,z6,z7,z8,z9,zf⟩:=m10_cells He.out.2.2;
         have HF:=Lib.hid He.out.1;
         have HKt:=Lib.hid He.out.2.1;
         clear hown4 hgrow4 hat4 hlt4 He z0 z1 z2 z3 z4 z5 z6 z7 z9)
        all_goals
         clear x8 x8a xf z8 zf a0 a1 b0 b1
         generalize w4.setCell ⟨B,8,none⟩ (.slice (some ⟨g4,0,none⟩) (el+1) c4')=w5 at *
         have HA10:=Lib.hid (HA9.out.kept HKt.out (by decide))
         have HX10:=Lib.hid (HKt.out _ _ _ _ HX9.out (by decide))
         have HO10:=Lib.hid (HKt.out _ _ _ _ HO9.out (by decide))
         go_wp2_with fail
         go_roundw
         case rel=>exact ⟨j+1,_,es++[((a:Int),(b:Int))],er',by omega,by go_num,by rw [List.length_append,← Hel.out];simp;omega,Lib.hid (HEk.out.trans HEr.out),HF,HA10,HX10,_,_,HO10⟩
         case measure=>simp [intOf];omega
    ·obtain rfl:j=m:=by omega
     have d2:decide ((j:Int) < (j:Int))=false:=by simp
     rw [Hm.out,List.take_length] at HEs
     have o0:=(cell_of_row wz O 0 _ _ _ HOb.out).trans rfl
     have o1:=(cell_of_row wz O 1 _ _ _ HOb.out).trans rfl
     have z0:=(cell_of_row wz X 0 _ _ _ HX.out).trans rfl
     have z1:=(cell_of_row wz X 1 _ _ _ HX.out).trans rfl
     have zf:=fun j=>frozen_of_row wz X j _ _ HX.out
     simp at o0 o1 z0 z1
     go_wp2_with fail
     have hx:=m2_set (w:=wz) (X:=X) (.int .i64 pa) (.int .i64 pb) HX.out
     have kb:=m2_by wz X (.int .i64 pa) (.int .i64 pb)
     exact bodyPost_ret (flLevel_res _ _ X _ _ rfl hx) rfl ⟨_,gm',gn',ge',rfl,by rw [HEq.out];simp only;rw [← HId.out,HEs.out];exact HF.out.ty (TY.blk HX.out) kb hXW.out (by decide) (by decide) (by decide) (by decide)⟩
end Go.Proofs.YtcnmaplopbbmaaaGreat
