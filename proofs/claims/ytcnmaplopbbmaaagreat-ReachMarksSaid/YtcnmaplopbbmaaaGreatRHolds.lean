/- galliardlaw17.holds by its contract: it is true on any graph that may be. -/
import Derived.Test.YtcnmaplopbbmaaaGreatMBx
namespace Go.Proofs.YtcnmaplopbbmaaaGreat
open Go.RowKit Go.Maps
theorem guard_mov (w:World) (op:BinOp) (x y:Operand) (xs ys:Array Value):(eqGuard op 76 x y (.agg xs) (.agg ys)).run Tryz.prog w=.ok () w :=
 run_eqGuard_agg w op _ x y xs ys (by kernel_rfl)
theorem Rs.NS.at_row {w:World} {B:Nat} {vf vm:Value} {fin:List Bool} {rows:List (List (Int × Int))} {vs:List Value} (h:Rs.NS w B vf vm fin rows vs) {j:Nat} (hj:j < rows.length) :
  ∃ ra rc,vs[j]? = some (.slice ra (rows.getD j []).length rc)∧w.ownsRow B 76 2 (.slice ra (rows.getD j []).length rc) (rows.getD j []).length (Rs.flat2 (rows.getD j [])):=by
 have k:=h.row j hj
 obtain ⟨ra,rc,e⟩:=own_form k
 rw [e] at k
 refine ⟨ra,rc,?_,k⟩
 have hv:j < vs.length:=by rw [h.len];exact hj
 rw [← e,List.getD_eq_getElem?_getD,List.getElem?_eq_getElem hv]
 rfl
theorem own_cell {w:World} {bs e sz n g c j:Nat} {xs:List Value} {u:Value} (h:w.ownsRow bs e sz (.slice (some ⟨g,0,none⟩) n c) n xs) (hj:xs[j]? = some u):w.cell? ⟨g,j,none⟩=some u:=by
 have k:=h.cells (g:=g) rfl j u hj
 rwa [Addr.add_lit,Nat.zero_add] at k
set_option maxRecDepth 100000 in
set_option maxHeartbeats 16000000 in
theorem holds_any (v0 v1 v2 v3:Value) (g:Gr.G) (W:World) (hf:g.Few) (hns:g.ns.length≤200) (hc:g.check=0) (hnm:g.nm≤1000) (h:Gr.GAt W v0 v1 v2 v3 g) :
  Calls Tryz.prog 8 #[.agg #[v0,v1,v2,v3]] W fun e w'=>e=.returned (.bool true)∧Flow.Grow W w':=by
 have hMay:=Gr.G.check_may hc
 have hF:=hMay.fit hf
 have HA:=Lib.hid h
 have hLl:g.labels.length≤1000000:=by
  refine Nat.le_trans (g.la_len g.np) ?_
  have h0:=hMay.np
  have h1:g.np * g.nm≤16 * 1000:=Nat.mul_le_mul h0 hnm
  have h2:=Nat.mul_le_mul h0 h1
  omega
 obtain ⟨f,hfe⟩:∃ f:Rs.M→List Gr.Tn,f=fun l=>g.turns g.labels (l,false):=⟨_,rfl⟩
 obtain ⟨m0,hm0⟩:∃ m0,m0=g.firstL g.es.length:=⟨_,rfl⟩
 have hG:Rs.Good f g.labels.length:=by rw [hfe];exact g.good g.labels
 have h64:m0.length=64:=by rw [hm0];exact g.firstL_len _
 have HSt:=Lib.hid (Rs.stage_ok hG h64)
 have HRl:Hid (∀ i,∀ r∈(Rs.stage f m0 i).2,r.length≤1000000):=Lib.hid fun i=>Rs.stage_rowlen (N:=1000000) (fun l=>by
  rw [hfe]
  have k:=flat_len_le (fun i=>g.nodeT g.labels i (l,false)) 4096 (fun i=>Gr.G.nodeT_len hF g.labels i (l,false)) (List.range g.ns.length)
  rw [List.length_range] at k
  refine Nat.le_trans k ?_
  have:=Nat.mul_le_mul_right 4096 hns
  omega) m0 i
 have HNew:Hid (∀ w,Flow.Grow W w→Calls Tryz.prog 15 #[.agg #[v0,v1,v2,v3]] w fun e w'=>(∃ B lv,e=.returned (.tuple #[.pointer (some ⟨B,0,none⟩),.int .i64 0])∧Gr.Gm w' B v0 v1 v2 v3 lv g g.labels 0∧Gr.Srt g.labels∧w.heap.size≤B)∧Flow.Grow w w'):=Lib.hid fun w hg=>(new_any v0 v1 v2 v3 g w hf (by omega) (h.grow hg)).mono fun e w' ⟨a,b⟩=>by
  rcases a with ⟨hne,_⟩ | ⟨_,B,lv,L,he,h1,h2,h3⟩
  ·exact absurd hc hne
  ·have e1:=hMay.labels h2
   subst e1
   exact ⟨⟨B,lv,he,h1,h2.srt,h3⟩,b⟩
 have HMa:Hid (∀ w B lv,Gr.Srt g.labels→Gr.Gm w B v0 v1 v2 v3 lv g g.labels 0→Calls Tryz.prog 16 #[.pointer (some ⟨B,0,none⟩)] w fun e w'=>∃ am nm cm K fa fn fc ma mn mc er,e=.returned (.tuple #[.slice am nm cm,.agg #[.int .i64 K,.int .i64 0,.slice fa fn fc,.slice ma mn mc],.int .i64 er])∧Hid (Rs.Left w w' B v0 v1 v2 v3 lv g g.labels f m0 (.returned (.tuple #[.slice am nm cm,.agg #[.int .i64 K,.int .i64 0,.slice fa fn fc,.slice ma mn mc],.int .i64 er])))):=Lib.hid fun w B lv hs hg=>(marks_any B v0 v1 v2 v3 lv g g.labels f m0 w hF hfe (by rw [hm0,hMay.firstL hf]) h64 hG hLl hs hMay.zero (by omega) hg).mono fun e w' hl=>by
  obtain ⟨am,nm,cm,K,fa,fn,fc,ma,mn,mc,er,rfl⟩:=hl.form
  exact ⟨_,_,_,_,_,_,_,_,_,_,_,rfl,Lib.hid hl⟩
 have HAl:Hid (∀ w,Flow.Grow W w→Calls Tryz.prog 19 #[.agg #[v0,v1,v2,v3]] w fun e w'=>∃ al nl cl K fa fn fc ma mn mc ok,e=.returned (.tuple #[.slice al nl cl,.agg #[.int .i64 K,.int .i64 0,.slice fa fn fc,.slice ma mn mc],.bool ok])∧Hid (Rs.LeftL w w' g.labels.length f m0 (.returned (.tuple #[.slice al nl cl,.agg #[.int .i64 K,.int .i64 0,.slice fa fn fc,.slice ma mn mc],.bool ok])))):=Lib.hid fun w hg=>(allL_any v0 v1 v2 v3 g f m0 w hf (by omega) hc hnm hfe hm0 hG (h.grow hg)).mono fun e w' hl=>by
  obtain ⟨am,nm,cm,K,fa,fn,fc,ma,mn,mc,er,rfl⟩:=hl.form
  exact ⟨_,_,_,_,_,_,_,_,_,_,_,rfl,Lib.hid hl⟩
 have HMk:Hid (∀ w (t:Gr.Tk),t.1.length=64→Calls Tryz.prog 20 #[.agg (Gr.tcs t)] w fun e w'=>e=.returned (.int .u64 (Mark.ofBools t.1:Int))∧Flow.Grow w w'):=Lib.hid fun w t ht=>tkMark_any t w ht
 obtain ⟨a0,c0,rfl⟩:=h.parts
 obtain ⟨a1,c1,rfl⟩:=h.msgs
 obtain ⟨an,cn,rfl⟩:=Gr.Recs.form h.nodes
 obtain ⟨ae,ce,rfl⟩:=Gr.Recs.form h.edges
 clear h hc hf hMay hF hfe hm0 hG h64
 generalize g.ns.length=nl at *
 generalize g.es.length=E at *
 generalize hgl:g.labels=L at *
 go_enter Tryz.func8,Tryz.ntmps8
 go_upto_region 1 with fail
 have HBw10:Hid ((W.alloc (.cells #[.slice a0 g.np c0,.slice a1 g.nm c1,.slice an nl cn,.slice ae E ce] 27)).heap[W.heap.size]? = some (.cells #[.slice a0 g.np c0,.slice a1 g.nm c1,.slice an nl cn,.slice ae E ce] 27 (0,0))):=Lib.hid (lay1_0 _ _)
 have HGw1:Hid (Flow.Grow W (W.alloc (.cells #[.slice a0 g.np c0,.slice a1 g.nm c1,.slice an nl cn,.slice ae E ce] 27))):=Lib.hid (lay1_g _ _)
 have HSw1:Hid ((W.alloc (.cells #[.slice a0 g.np c0,.slice a1 g.nm c1,.slice an nl cn,.slice ae E ce] 27)).heap.size=W.heap.size+1):=Lib.hid (by simp)
 generalize W.alloc (.cells #[.slice a0 g.np c0,.slice a1 g.nm c1,.slice an nl cn,.slice ae E ce] 27)=w1 at *
 obtain ⟨X,hX⟩:∃ X,X=W.heap.size:=⟨_,rfl⟩
 rw [← hX] at HBw10 HSw1 ⊢
 have HXw1:=Lib.hid hX
 clear hX
 have CXw1:Hid (∀ wq,Flow.Grow w1 wq→wq.cell? ⟨X,0,none⟩=some (.slice a0 g.np c0)∧wq.cell? ⟨X,1,none⟩=some (.slice a1 g.nm c1)∧wq.cell? ⟨X,2,none⟩=some (.slice an nl cn)∧wq.cell? ⟨X,3,none⟩=some (.slice ae E ce)):=Lib.hid (fun wq g=>⟨lay_cell g HBw10.out rfl,lay_cell g HBw10.out rfl,lay_cell g HBw10.out rfl,lay_cell g HBw10.out rfl⟩)
 have FXw1:Hid (∀ wq,Flow.Grow w1 wq→(∀ k,wq.frozen? ⟨X,k,none⟩=false)):=Lib.hid (fun wq g=>fun k=>lay_frozen g HBw10.out k)
 obtain ⟨c00,c01,c02,c03⟩:=CXw1.out w1 (Flow.grow_refl _)
 go_upto_region 2 with (go_at_call 15;refine (HNew.out _ HGw1.out).mono ?_;rintro e w2 ⟨⟨B,lv,rfl,hgm,hs,hB⟩,hg⟩;have HG2:=Lib.hid hg;have HGm:=Lib.hid hgm;have HB:=Lib.hid hB;have HS:=Lib.hid hs;clear hg hgm hB hs)
 clear c00 c01 c02 c03
 go_upto_region 3 with (go_at_call 16;refine (HMa.out _ B lv HS.out HGm.out).mono ?_;rintro e w3 ⟨am,nm,cm,K,fa,fn,fc,ma,mn,mc,er,rfl,HL⟩)
 have HG3:Hid (Flow.Grow w1 w3):=Lib.hid (grow_row HG2.out HL.out.1 (fun b e=>by cases e;exact HB.out))
 have HBw40:Hid ((w3.alloc (.cells #[.int .i64 K,.int .i64 0,.slice fa fn fc,.slice ma mn mc] 34)).heap[w3.heap.size]? = some (.cells #[.int .i64 K,.int .i64 0,.slice fa fn fc,.slice ma mn mc] 34 (0,0))):=Lib.hid (lay1_0 _ _)
 have HGw4:Hid (Flow.Grow w3 (w3.alloc (.cells #[.int .i64 K,.int .i64 0,.slice fa fn fc,.slice ma mn mc] 34))):=Lib.hid (lay1_g _ _)
 have HSw4:Hid ((w3.alloc (.cells #[.int .i64 K,.int .i64 0,.slice fa fn fc,.slice ma mn mc] 34)).heap.size=w3.heap.size+1):=Lib.hid (by simp)
 generalize w3.alloc (.cells #[.int .i64 K,.int .i64 0,.slice fa fn fc,.slice ma mn mc] 34)=w4 at *
 obtain ⟨N,hN⟩:∃ X,X=w3.heap.size:=⟨_,rfl⟩
 rw [← hN] at HBw40 HSw4 ⊢
 have HXw4:=Lib.hid hN
 clear hN
 have CXw4:Hid (∀ wq,Flow.Grow w4 wq→wq.cell? ⟨N,0,none⟩=some (.int .i64 K)∧wq.cell? ⟨N,1,none⟩=some (.int .i64 0)∧wq.cell? ⟨N,2,none⟩=some (.slice fa fn fc)∧wq.cell? ⟨N,3,none⟩=some (.slice ma mn mc)):=Lib.hid (fun wq g=>⟨lay_cell g HBw40.out rfl,lay_cell g HBw40.out rfl,lay_cell g HBw40.out rfl,lay_cell g HBw40.out rfl⟩)
 have FXw4:Hid (∀ wq,Flow.Grow w4 wq→(∀ k,wq.frozen? ⟨N,k,none⟩=false)):=Lib.hid (fun wq g=>fun k=>lay_frozen g HBw40.out k)
 have HG4:Hid (Flow.Grow w1 w4):=Lib.hid (HG3.out.trans HGw4.out)
 obtain ⟨c00,c01,c02,c03⟩:=CXw1.out w4 (HG4.out)
 go_upto_region 4 with (go_at_call 19;refine (HAl.out _ (HGw1.out.trans HG4.out)).mono ?_;rintro e w5 ⟨al,ln,cl,K2,ga,gn,gc,na,nn,nc,ok,rfl,HM⟩)
 clear c00 c01 c02 c03
 have HBw60:Hid ((w5.alloc (.cells #[.int .i64 K2,.int .i64 0,.slice ga gn gc,.slice na nn nc] 34)).heap[w5.heap.size]? = some (.cells #[.int .i64 K2,.int .i64 0,.slice ga gn gc,.slice na nn nc] 34 (0,0))):=Lib.hid (lay1_0 _ _)
 have HGw6:Hid (Flow.Grow w5 (w5.alloc (.cells #[.int .i64 K2,.int .i64 0,.slice ga gn gc,.slice na nn nc] 34))):=Lib.hid (lay1_g _ _)
 have HSw6:Hid ((w5.alloc (.cells #[.int .i64 K2,.int .i64 0,.slice ga gn gc,.slice na nn nc] 34)).heap.size=w5.heap.size+1):=Lib.hid (by simp)
 generalize w5.alloc (.cells #[.int .i64 K2,.int .i64 0,.slice ga gn gc,.slice na nn nc] 34)=w6 at *
 obtain ⟨P,hP⟩:∃ X,X=w5.heap.size:=⟨_,rfl⟩
 rw [← hP] at HBw60 HSw6 ⊢
 have HXw6:=Lib.hid hP
 clear hP
 have CXw6:Hid (∀ wq,Flow.Grow w6 wq→wq.cell? ⟨P,0,none⟩=some (.int .i64 K2)∧wq.cell? ⟨P,1,none⟩=some (.int .i64 0)∧wq.cell? ⟨P,2,none⟩=some (.slice ga gn gc)∧wq.cell? ⟨P,3,none⟩=some (.slice na nn nc)):=Lib.hid (fun wq g=>⟨lay_cell g HBw60.out rfl,lay_cell g HBw60.out rfl,lay_cell g HBw60.out rfl,lay_cell g HBw60.out rfl⟩)
 have FXw6:Hid (∀ wq,Flow.Grow w6 wq→(∀ k,wq.frozen? ⟨P,k,none⟩=false)):=Lib.hid (fun wq g=>fun k=>lay_frozen g HBw60.out k)
 have HG5:Hid (Flow.Grow w4 w5):=Lib.hid HM.out.1
 have HG6:Hid (Flow.Grow w4 w6):=Lib.hid (HG5.out.trans HGw6.out)
 have HG36:Hid (Flow.Grow w3 w6):=Lib.hid (HGw4.out.trans HG6.out)
 have HGW6:Hid (Flow.Grow W w6):=Lib.hid (HGw1.out.trans (HG4.out.trans HG6.out))
 obtain ⟨_,i,hR,hcase⟩:=HM.out
 have HR:=Lib.hid hR
 clear HM hR HNew HMa HAl HGm HS HG2 HG3 HG4 HG5 HBw10 CXw1 FXw1
 rcases hcase with ⟨hi,hle,vl,vf,vm,vs,he,hpo,hns2⟩ | ⟨l,hl,hb,h60,he⟩
 ·by_cases hbig:60 < (Rs.stage f m0 i).1.length
  ·have hln:ln=(Rs.stage f m0 i).1.length:=by
    obtain ⟨_,_,e⟩:=own_form hpo
    subst e
    simp at he
    exact he.1.2.1
   have hok:ok=true:=by simp at he;exact he.2.2
   subst hok
   clear hi hle he hpo hns2 HL
   rw [← hln] at hbig
   have d1:decide (60 < (ln:Int))=true:=by simp;omega
   go_wp2_with fail
   go_ret
   exact ⟨rfl,HGW6.out⟩
  ·have h60:(Rs.stage f m0 i).1.length≤60:=by omega
   have hil:i=(Rs.stage f m0 i).1.length:=by
    rcases hi with h | h
    ·exact h
    ·exact absurd h hbig
   have h1i:1≤i:=by
    have k:=Rs.stage_mono f m0 (j:=0) (k:=i) (Nat.zero_le _)
    rw [hil]
    exact k
   obtain ⟨wl,wf,wm,us,he2,hml,hnf⟩:=HL.out.fine HR.out hil h60
   have HSo:Hid (Rs.Ok (L.length:Int) ((Rs.stage f m0 i).1,(Rs.stage f m0 i).2)):=Lib.hid (HSt.out i)
   have HRi:=Lib.hid (HRl.out i)
   have hrows:(Rs.stage f m0 i).2.length=i:=Rs.stage_rows f m0 i hle (fun j hj=>by
    obtain ⟨l,hl,_⟩:=HR.out j hj
    exact (List.getElem?_eq_some_iff.1 hl).1)
   clear hi hle hbig HL HR HSt HRl
   generalize (Rs.stage f m0 i).2=rows at *
   generalize (Rs.stage f m0 i).1=ls at *
   have htk:((ls.take i).map Rs.over).length=i:=by rw [List.length_map,List.length_take];omega
   have hta:ls.take i=ls:=by rw [hil];exact List.take_length
   have hmp:(ls.map Rs.over).length=i:=by rw [List.length_map];exact hil.symm
   have hxf:=hns2.finals
   rw [htk] at hxf
   have hxm:=hns2.moves
   rw [hrows] at hxm
   have hyf:=hnf.finals
   rw [hmp] at hyf
   have hym:=hnf.moves
   rw [hrows] at hym
   unfold Rs.Po at hpo
   rw [← hil] at hpo
   obtain ⟨la,lc,rfl⟩:=own_form hpo
   obtain ⟨xa,xc,rfl⟩:=own_form hxf
   obtain ⟨ya,yc,rfl⟩:=own_form hxm
   obtain ⟨qa,qc,rfl⟩:=own_form hml
   obtain ⟨xb,xd,rfl⟩:=own_form hyf
   obtain ⟨yb,yd,rfl⟩:=own_form hym
   rw [hta] at hns2
   simp at he he2
   obtain ⟨⟨e1,e2,e3⟩,⟨e4,⟨e5,e6,e7⟩,e8,e9,e10⟩,e11⟩:=he
   subst e1 e2 e3 e4 e5 e6 e7 e8 e9 e10 e11
   obtain ⟨⟨e1,e2,e3⟩,⟨e4,⟨e5,e6,e7⟩,e8,e9,e10⟩,e11⟩:=he2
   subst e1 e2 e3 e4 e5 e6 e7 e8 e9 e10 e11
   have Hil:=Lib.hid hil
   have Hrows:=Lib.hid hrows
   have HV:=Lib.hid (own_keep hml HG36.out)
   have HNf:=Lib.hid (hnf.grow HG36.out)
   have HNl:=Lib.hid (hns2.grow HGw6.out)
   have HPo:=Lib.hid (own_keep hpo HGw6.out)
   have HYf:=Lib.hid (own_keep hyf HG36.out)
   rw [hta] at hxf
   have HXf:=Lib.hid (own_keep hxf HGw6.out)
   have HYm:=Lib.hid (own_keep hym HG36.out)
   have HXm:=Lib.hid (own_keep hxm HGw6.out)
   have hmn:mn≤60:=by omega
   have HMay:Hid (∀ w,Flow.Grow w6 w→1≤mn→Calls Tryz.prog 18 #[.agg #[.int .i64 (L.length:Int),.int .i64 0,.slice fa mn fc,.slice ma mn mc]] w fun e w'=>e=.returned (.bool true)∧Flow.Grow w w'):=Lib.hid fun w hg h1=>by
    have k:=mayN_any (.slice fa mn fc) (.slice ma mn mc) L.length 0 mn (ls.map Rs.over) rows w (by omega) hmp hrows h1 (by omega) (by omega) (by omega) HRi.out ?_ ((Pr.NS_rowsM HNf.out).grow hg)
    ·have hb:=Rs.none_bad HSo.out
     simp only at hb
     rw [← hil] at hb
     rw [hb] at k
     exact k
    ·have hs:=Seg.of_own (own_keep HYf.out hg)
     unfold Bools
     rw [hmp]
     exact hs
   clear hil hrows htk hta hmp hpo hxf hxm hyf hym hns2 hml hnf h60 hns hnm
   have HRm:=HRi
   clear HRi
   generalize L.length=Kn at *
   obtain ⟨d00,d01,d02,d03⟩:=CXw4.out w6 (HG6.out)
   obtain ⟨e00,e01,e02,e03⟩:=CXw6.out w6 (Flow.grow_refl _)
   go_upto_region 11 with fail
   clear d00 d01 d02 d03 e00 e01 e02 e03
   go_loopw [11] (fun vi wr=>∃ j:Nat,j≤mn∧vi=.int .i64 (j:Int)∧Hid (Flow.Grow w6 wr)) (fun vi _=>mn - (intOf vi).toNat)
   case atStart=>exact ⟨0,by omega,rfl,Lib.hid (Flow.grow_refl _)⟩
   case round =>
    obtain ⟨j,hj,rfl,HGr⟩:=hrel
    rename World=>wz
    by_cases hjm:j < mn
    ·have d1:decide ((j:Int) < (mn:Int))=true:=by simp;omega
     obtain ⟨mb,rfl⟩:=own_at HV.out (by omega)
     obtain ⟨lb,rfl⟩:=own_at HPo.out (by omega)
     obtain ⟨fb,rfl⟩:=own_at HYf.out (by omega)
     obtain ⟨gb,rfl⟩:=own_at HXf.out (by omega)
     obtain ⟨rb,rfl⟩:=own_at HYm.out (by omega)
     obtain ⟨sb,rfl⟩:=own_at HXm.out (by omega)
     obtain ⟨l,hl⟩:∃ l,ls[j]? = some l:=⟨_,List.getElem?_eq_getElem (by rw [← Hil.out];exact hjm)⟩
     have Hl64:=Lib.hid (HSo.out.2.1 l (List.mem_of_getElem? hl))
     have HSl:=Lib.hid (tk_sz (t:=(l,false)) Hl64.out)
     have HRg:Hid (wz.rangeAt lb (j * 65) (Gr.tcs (l,false)).toList):=Lib.hid (by
      have r:=own_range (f:=fun l=>Gr.kc (l,false)) (fun l=>Gr.kc_len _) HPo.out hl
      rw [Gr.kc_eq (t:=(l,false)) Hl64.out] at r
      exact range_grow r HGr.out)
     have q0:wz.cell? ⟨mb,j,none⟩=some (.int .u64 (Mark.ofBools l:Int)):=Xm2.cell_grow HGr.out (own_cell HV.out (by rw [List.getElem?_map,hl];rfl))
     have q1:wz.cell? ⟨fb,j,none⟩=some (.bool (Rs.over l)):=Xm2.cell_grow HGr.out (own_cell HYf.out (by rw [List.getElem?_map,List.getElem?_map,hl];rfl))
     have q2:wz.cell? ⟨gb,j,none⟩=some (.bool (Rs.over l)):=Xm2.cell_grow HGr.out (own_cell HXf.out (by rw [List.getElem?_map,List.getElem?_map,hl];rfl))
     obtain ⟨ra,rc,hr1,hr2⟩:=HNf.out.at_row (j:=j) (by rw [Hrows.out];exact hjm)
     obtain ⟨sa,sc,hs1,hs2⟩:=HNl.out.at_row (j:=j) (by rw [Hrows.out];exact hjm)
     have q3:=Xm2.cell_grow HGr.out (own_cell HYm.out hr1)
     have q4:=Xm2.cell_grow HGr.out (own_cell HXm.out hs1)
     have hRr:rows.getD j []∈rows:=by
      have hq:j < rows.length:=by rw [Hrows.out];exact hjm
      rw [List.getD_eq_getElem?_getD,List.getElem?_eq_getElem hq]
      exact List.getElem_mem hq
     generalize hRd:rows.getD j []=R at *
     have HRi:Hid (R∈rows):=Lib.hid hRr
     have HQ3:=Lib.hid hr1
     have HQ4:=Lib.hid hs1
     have HR1:=Lib.hid hr2
     have HR2:=Lib.hid hs2
     clear hr1 hs1 hr2 hs2 hl
     obtain ⟨rn,hrn⟩:∃ n,n=R.length:=⟨_,rfl⟩
     have Hrn:=Lib.hid hrn
     rw [← hrn] at q3 q4 HR1 HR2 HQ3 HQ4
     clear hrn hRd hRr
     obtain ⟨d00,d01,d02,d03⟩:=CXw4.out wz (HG6.out.trans HGr.out)
     obtain ⟨e00,e01,e02,e03⟩:=CXw6.out wz (HGr.out)
     go_upto_region 13 with fail
     refine Flow.region_grown (Fs:=[.inl ((.slice (some ⟨mb,0,none⟩) mn cm)),.inl ((.int .i64 (j:Int))),.inl ((.pointer (some ⟨mb,j,none⟩))),.inl ((.int .u64 (Mark.ofBools l:Int))),.inl ((.slice (some ⟨lb,0,none⟩) mn cl)),.inl ((.int .i64 (j:Int))),.inl ((.pointer (some ⟨lb,j * 65,none⟩))),.inl ((.agg (Gr.tcs (l,false)))),.inl ((.int .u64 (Mark.ofBools l:Int))),.inl ((.bool false)),.inl ((.bool false)),.inl ((.pointer (some ⟨N,2,none⟩))),.inl ((.slice (some ⟨fb,0,none⟩) mn fc)),.inl ((.int .i64 (j:Int))),.inl ((.pointer (some ⟨fb,j,none⟩))),.inl ((.bool (Rs.over l))),.inl ((.pointer (some ⟨P,2,none⟩))),.inl ((.slice (some ⟨gb,0,none⟩) mn gc)),.inl ((.int .i64 (j:Int))),.inl ((.pointer (some ⟨gb,j,none⟩))),.inl ((.bool (Rs.over l))),.inl ((.bool false)),.inl ((.bool false)),.inl ((.bool false)),.inl ((.pointer (some ⟨N,3,none⟩))),.inl ((.slice (some ⟨rb,0,none⟩) mn mc)),.inl ((.int .i64 (j:Int))),.inl ((.pointer (some ⟨rb,j,none⟩))),.inl ((.slice ra rn rc)),.inl ((.int .i64 (rn:Int))),.inl ((.pointer (some ⟨P,3,none⟩))),.inl ((.slice (some ⟨sb,0,none⟩) mn nc)),.inl ((.int .i64 (j:Int))),.inl ((.pointer (some ⟨sb,j,none⟩))),.inl ((.slice sa rn sc)),.inl ((.int .i64 (rn:Int))),.inl ((.bool false)),.inl ((.bool false))])
      (S:=[[],[],[0,1],[2],[],[],[4,5],[6],[7],[3,8],[9],[10],[11,10],[10],[12,13,10],[14,10],[10],[16,10],[10],[17,18,10],[19,10],[15,20,10],[10,21],[22],[23],[24,23],[23],[25,26,23],[27,23],[28,23],[23],[30,23],[23],[31,32,23],[33,23],[34,23],[29,35,23],[23,36]]) (by kernel_rfl) (by kernel_rfl) (by kernel_rfl) rfl ?stab13 ?ones13 ?ends13
     case ones13 =>
      refine Flow.Ones.cons ?_ ?_
      ·intro a w hC hoff _
       have e5:a.eval (.tmp 5)=(.slice (some ⟨mb,0,none⟩) mn cm):=hoff.at 5 (by kernel_rfl)
       refine .inl ⟨Flow.want_none rfl,?_⟩
       exact Flow.run_same (Flow.exec_move (.inl rfl) e5) Flow.grow_refl
      refine Flow.Ones.cons ?_ ?_
      ·intro a w hC hoff _
       have e11:a.eval (.tmp 11)=(.int .i64 (j:Int)):=hoff.at 11 (by kernel_rfl)
       refine .inl ⟨Flow.want_none rfl,?_⟩
       exact Flow.run_same (Flow.exec_move (.inl rfl) e11) Flow.grow_refl
      refine Flow.Ones.cons ?_ ?_
      ·rintro a w hC hoff ⟨k0,k1,-⟩
       have e89:a.eval (.tmp 89)=(.slice (some ⟨mb,0,none⟩) mn cm):=k0 89 rfl
       have e90:a.eval (.tmp 90)=(.int .i64 (j:Int)):=k1 90 rfl
       refine .inl ⟨Flow.want_none rfl,?_⟩
       refine Flow.run_same ?_ Flow.grow_refl
       have ec:=Flow.eval_const a
       generalize a.eval=ρ at e89 e90 ec ⊢
       simp [execOp,e89,e90,go_sem];intro hh;omega
      refine Flow.Ones.cons ?_ ?_
      ·rintro a w hC hoff ⟨k2,-⟩
       have e91:a.eval (.tmp 91)=(.pointer (some ⟨mb,j,none⟩)):=k2 91 rfl
       refine .inl ⟨Flow.want_none rfl,?_⟩
       refine Flow.run_same ?_ Flow.grow_refl
       have ec:=Flow.eval_const a
       generalize a.eval=ρ at e91 ec ⊢
       have h0:=Xm2.cell_grow hC q0
       simp [execOp,e91,h0,go_sem]
      refine Flow.Ones.cons ?_ ?_
      ·intro a w hC hoff _
       have e8:a.eval (.tmp 8)=(.slice (some ⟨lb,0,none⟩) mn cl):=hoff.at 8 (by kernel_rfl)
       refine .inl ⟨Flow.want_none rfl,?_⟩
       exact Flow.run_same (Flow.exec_move (.inl rfl) e8) Flow.grow_refl
      refine Flow.Ones.cons ?_ ?_
      ·intro a w hC hoff _
       have e11:a.eval (.tmp 11)=(.int .i64 (j:Int)):=hoff.at 11 (by kernel_rfl)
       refine .inl ⟨Flow.want_none rfl,?_⟩
       exact Flow.run_same (Flow.exec_move (.inl rfl) e11) Flow.grow_refl
      refine Flow.Ones.cons ?_ ?_
      ·rintro a w hC hoff ⟨k4,k5,-⟩
       have e93:a.eval (.tmp 93)=(.slice (some ⟨lb,0,none⟩) mn cl):=k4 93 rfl
       have e94:a.eval (.tmp 94)=(.int .i64 (j:Int)):=k5 94 rfl
       refine .inl ⟨Flow.want_none rfl,?_⟩
       refine Flow.run_same ?_ Flow.grow_refl
       have ec:=Flow.eval_const a
       generalize a.eval=ρ at e93 e94 ec ⊢
       simp [execOp,e93,e94,go_sem];intro hh;omega
      refine Flow.Ones.cons ?_ ?_
      ·rintro a w hC hoff ⟨k6,-⟩
       have e95:a.eval (.tmp 95)=(.pointer (some ⟨lb,j * 65,none⟩)):=k6 95 rfl
       refine .inl ⟨Flow.want_none rfl,?_⟩
       refine Flow.run_same ?_ Flow.grow_refl
       have ec:=Flow.eval_const a
       generalize a.eval=ρ at e95 ec ⊢
       exact exec_load_mid 72 _ rfl lb (j * 65) e95 (Gr.tcs (l,false)).toList _ (range_grow HRg.out hC) Tryz.underlying72 rfl (by rw [Array.length_toList];exact HSl.out.1)
      refine Flow.Ones.cons ?_ ?_
      ·rintro a w hC hoff ⟨k7,-⟩
       have e96:a.eval (.tmp 96)=(.agg (Gr.tcs (l,false))):=k7 96 rfl
       refine .inl ⟨Flow.want_none rfl,?_⟩
       exact Flow.run_call (Flow.exec_call (args:=#[((.agg (Gr.tcs (l,false))))]) rfl Tryz.func20 (by kernel_rfl) (by kernel_rfl) (by simp only [List.map_toArray,List.map_cons,List.map_nil,e96] <;> rfl)) ((HMk.out w (l,false) Hl64.out).mono fun e w' ⟨he,hg⟩=>⟨_,he,hg,rfl⟩)
      refine Flow.Ones.cons ?_ ?_
      ·rintro a w hC hoff ⟨k3,k8,-⟩
       have e92:a.eval (.tmp 92)=(.int .u64 (Mark.ofBools l:Int)):=k3 92 rfl
       have e97:a.eval (.tmp 97)=(.int .u64 (Mark.ofBools l:Int)):=k8 97 rfl
       refine .inl ⟨Flow.want_none rfl,?_⟩
       refine Flow.run_same ?_ Flow.grow_refl
       have ec:=Flow.eval_const a
       generalize a.eval=ρ at e92 e97 ec ⊢
       simp [execOp,e92,e97,go_sem]
      refine Flow.Ones.cons ?_ ?_
      ·rintro a w hC hoff ⟨k9,-⟩
       have e98:a.eval (.tmp 98)=(.bool false):=k9 98 rfl
       refine .inl ⟨Flow.want_none rfl,?_⟩
       exact Flow.run_same (Flow.exec_move (.inl rfl) e98) Flow.grow_refl
      refine Flow.Ones.cons ?_ ?_
      ·rintro a w hC hoff ⟨k10,-⟩
       have e99:a.eval (.tmp 99)=(.bool false):=k10 99 rfl
       have e6:a.eval (.tmp 6)=(.pointer (some ⟨N,0,none⟩)):=hoff.at 6 (by kernel_rfl)
       refine .inl ⟨Flow.want_yes rfl rfl e99,?_⟩
       refine Flow.run_same ?_ Flow.grow_refl
       have ec:=Flow.eval_const a
       generalize a.eval=ρ at e6 ec ⊢
       simp [execOp,e6,go_sem]
      refine Flow.Ones.cons ?_ ?_
      ·rintro a w hC hoff ⟨k11,k10,-⟩
       have e100:a.eval (.tmp 100)=(.pointer (some ⟨N,2,none⟩)):=k11 100 rfl
       have e99:a.eval (.tmp 99)=(.bool false):=k10 99 rfl
       refine .inl ⟨Flow.want_yes rfl rfl e99,?_⟩
       refine Flow.run_same ?_ Flow.grow_refl
       have ec:=Flow.eval_const a
       generalize a.eval=ρ at e100 ec ⊢
       have h0:=Xm2.cell_grow hC d02
       simp [execOp,e100,h0,go_sem]
      refine Flow.Ones.cons ?_ ?_
      ·rintro a w hC hoff ⟨k10,-⟩
       have e99:a.eval (.tmp 99)=(.bool false):=k10 99 rfl
       have e11:a.eval (.tmp 11)=(.int .i64 (j:Int)):=hoff.at 11 (by kernel_rfl)
       refine .inl ⟨Flow.want_yes rfl rfl e99,?_⟩
       exact Flow.run_same (Flow.exec_move (.inl rfl) e11) Flow.grow_refl
      refine Flow.Ones.cons ?_ ?_
      ·rintro a w hC hoff ⟨k12,k13,k10,-⟩
       have e101:a.eval (.tmp 101)=(.slice (some ⟨fb,0,none⟩) mn fc):=k12 101 rfl
       have e102:a.eval (.tmp 102)=(.int .i64 (j:Int)):=k13 102 rfl
       have e99:a.eval (.tmp 99)=(.bool false):=k10 99 rfl
       refine .inl ⟨Flow.want_yes rfl rfl e99,?_⟩
       refine Flow.run_same ?_ Flow.grow_refl
       have ec:=Flow.eval_const a
       generalize a.eval=ρ at e101 e102 ec ⊢
       simp [execOp,e101,e102,go_sem];intro hh;omega
      refine Flow.Ones.cons ?_ ?_
      ·rintro a w hC hoff ⟨k14,k10,-⟩
       have e103:a.eval (.tmp 103)=(.pointer (some ⟨fb,j,none⟩)):=k14 103 rfl
       have e99:a.eval (.tmp 99)=(.bool false):=k10 99 rfl
       refine .inl ⟨Flow.want_yes rfl rfl e99,?_⟩
       refine Flow.run_same ?_ Flow.grow_refl
       have ec:=Flow.eval_const a
       generalize a.eval=ρ at e103 ec ⊢
       have h0:=Xm2.cell_grow hC q1
       simp [execOp,e103,h0,go_sem]
      refine Flow.Ones.cons ?_ ?_
      ·rintro a w hC hoff ⟨k10,-⟩
       have e99:a.eval (.tmp 99)=(.bool false):=k10 99 rfl
       have e9:a.eval (.tmp 9)=(.pointer (some ⟨P,0,none⟩)):=hoff.at 9 (by kernel_rfl)
       refine .inl ⟨Flow.want_yes rfl rfl e99,?_⟩
       refine Flow.run_same ?_ Flow.grow_refl
       have ec:=Flow.eval_const a
       generalize a.eval=ρ at e9 ec ⊢
       simp [execOp,e9,go_sem]
      refine Flow.Ones.cons ?_ ?_
      ·rintro a w hC hoff ⟨k16,k10,-⟩
       have e105:a.eval (.tmp 105)=(.pointer (some ⟨P,2,none⟩)):=k16 105 rfl
       have e99:a.eval (.tmp 99)=(.bool false):=k10 99 rfl
       refine .inl ⟨Flow.want_yes rfl rfl e99,?_⟩
       refine Flow.run_same ?_ Flow.grow_refl
       have ec:=Flow.eval_const a
       generalize a.eval=ρ at e105 ec ⊢
       have h0:=Xm2.cell_grow hC e02
       simp [execOp,e105,h0,go_sem]
      refine Flow.Ones.cons ?_ ?_
      ·rintro a w hC hoff ⟨k10,-⟩
       have e99:a.eval (.tmp 99)=(.bool false):=k10 99 rfl
       have e11:a.eval (.tmp 11)=(.int .i64 (j:Int)):=hoff.at 11 (by kernel_rfl)
       refine .inl ⟨Flow.want_yes rfl rfl e99,?_⟩
       exact Flow.run_same (Flow.exec_move (.inl rfl) e11) Flow.grow_refl
      refine Flow.Ones.cons ?_ ?_
      ·rintro a w hC hoff ⟨k17,k18,k10,-⟩
       have e106:a.eval (.tmp 106)=(.slice (some ⟨gb,0,none⟩) mn gc):=k17 106 rfl
       have e107:a.eval (.tmp 107)=(.int .i64 (j:Int)):=k18 107 rfl
       have e99:a.eval (.tmp 99)=(.bool false):=k10 99 rfl
       refine .inl ⟨Flow.want_yes rfl rfl e99,?_⟩
       refine Flow.run_same ?_ Flow.grow_refl
       have ec:=Flow.eval_const a
       generalize a.eval=ρ at e106 e107 ec ⊢
       simp [execOp,e106,e107,go_sem];intro hh;omega
      refine Flow.Ones.cons ?_ ?_
      ·rintro a w hC hoff ⟨k19,k10,-⟩
       have e108:a.eval (.tmp 108)=(.pointer (some ⟨gb,j,none⟩)):=k19 108 rfl
       have e99:a.eval (.tmp 99)=(.bool false):=k10 99 rfl
       refine .inl ⟨Flow.want_yes rfl rfl e99,?_⟩
       refine Flow.run_same ?_ Flow.grow_refl
       have ec:=Flow.eval_const a
       generalize a.eval=ρ at e108 ec ⊢
       have h0:=Xm2.cell_grow hC q2
       simp [execOp,e108,h0,go_sem]
      refine Flow.Ones.cons ?_ ?_
      ·rintro a w hC hoff ⟨k15,k20,k10,-⟩
       have e104:a.eval (.tmp 104)=(.bool (Rs.over l)):=k15 104 rfl
       have e109:a.eval (.tmp 109)=(.bool (Rs.over l)):=k20 109 rfl
       have e99:a.eval (.tmp 99)=(.bool false):=k10 99 rfl
       refine .inl ⟨Flow.want_yes rfl rfl e99,?_⟩
       refine Flow.run_same ?_ Flow.grow_refl
       have ec:=Flow.eval_const a
       generalize a.eval=ρ at e104 e109 ec ⊢
       simp [execOp,e104,e109,go_sem]
      refine Flow.Ones.cons ?_ ?_
      ·rintro a w hC hoff ⟨k10,k21,-⟩
       have e99:a.eval (.tmp 99)=(.bool false):=k10 99 rfl
       have e110:a.eval (.tmp 110)=(.bool false):=k21 110 rfl
       refine .inl ⟨Flow.want_none rfl,?_⟩
       exact Flow.run_same (Flow.exec_pick_no rfl e99 e110) Flow.grow_refl
      refine Flow.Ones.cons ?_ ?_
      ·rintro a w hC hoff ⟨k22,-⟩
       have e111:a.eval (.tmp 111)=(.bool false):=k22 111 rfl
       refine .inl ⟨Flow.want_none rfl,?_⟩
       exact Flow.run_same (Flow.exec_move (.inl rfl) e111) Flow.grow_refl
      refine Flow.Ones.cons ?_ ?_
      ·rintro a w hC hoff ⟨k23,-⟩
       have e112:a.eval (.tmp 112)=(.bool false):=k23 112 rfl
       have e6:a.eval (.tmp 6)=(.pointer (some ⟨N,0,none⟩)):=hoff.at 6 (by kernel_rfl)
       refine .inl ⟨Flow.want_yes rfl rfl e112,?_⟩
       refine Flow.run_same ?_ Flow.grow_refl
       have ec:=Flow.eval_const a
       generalize a.eval=ρ at e6 ec ⊢
       simp [execOp,e6,go_sem]
      refine Flow.Ones.cons ?_ ?_
      ·rintro a w hC hoff ⟨k24,k23,-⟩
       have e113:a.eval (.tmp 113)=(.pointer (some ⟨N,3,none⟩)):=k24 113 rfl
       have e112:a.eval (.tmp 112)=(.bool false):=k23 112 rfl
       refine .inl ⟨Flow.want_yes rfl rfl e112,?_⟩
       refine Flow.run_same ?_ Flow.grow_refl
       have ec:=Flow.eval_const a
       generalize a.eval=ρ at e113 ec ⊢
       have h0:=Xm2.cell_grow hC d03
       simp [execOp,e113,h0,go_sem]
      refine Flow.Ones.cons ?_ ?_
      ·rintro a w hC hoff ⟨k23,-⟩
       have e112:a.eval (.tmp 112)=(.bool false):=k23 112 rfl
       have e11:a.eval (.tmp 11)=(.int .i64 (j:Int)):=hoff.at 11 (by kernel_rfl)
       refine .inl ⟨Flow.want_yes rfl rfl e112,?_⟩
       exact Flow.run_same (Flow.exec_move (.inl rfl) e11) Flow.grow_refl
      refine Flow.Ones.cons ?_ ?_
      ·rintro a w hC hoff ⟨k25,k26,k23,-⟩
       have e114:a.eval (.tmp 114)=(.slice (some ⟨rb,0,none⟩) mn mc):=k25 114 rfl
       have e115:a.eval (.tmp 115)=(.int .i64 (j:Int)):=k26 115 rfl
       have e112:a.eval (.tmp 112)=(.bool false):=k23 112 rfl
       refine .inl ⟨Flow.want_yes rfl rfl e112,?_⟩
       refine Flow.run_same ?_ Flow.grow_refl
       have ec:=Flow.eval_const a
       generalize a.eval=ρ at e114 e115 ec ⊢
       simp [execOp,e114,e115,go_sem];intro hh;omega
      refine Flow.Ones.cons ?_ ?_
      ·rintro a w hC hoff ⟨k27,k23,-⟩
       have e116:a.eval (.tmp 116)=(.pointer (some ⟨rb,j,none⟩)):=k27 116 rfl
       have e112:a.eval (.tmp 112)=(.bool false):=k23 112 rfl
       refine .inl ⟨Flow.want_yes rfl rfl e112,?_⟩
       refine Flow.run_same ?_ Flow.grow_refl
       have ec:=Flow.eval_const a
       generalize a.eval=ρ at e116 ec ⊢
       have h0:=Xm2.cell_grow hC q3
       simp [execOp,e116,h0,go_sem]
      refine Flow.Ones.cons ?_ ?_
      ·rintro a w hC hoff ⟨k28,k23,-⟩
       have e117:a.eval (.tmp 117)=(.slice ra rn rc):=k28 117 rfl
       have e112:a.eval (.tmp 112)=(.bool false):=k23 112 rfl
       refine .inl ⟨Flow.want_yes rfl rfl e112,?_⟩
       refine Flow.run_same ?_ Flow.grow_refl
       have ec:=Flow.eval_const a
       generalize a.eval=ρ at e117 ec ⊢
       simp [e117,go_sem]
      refine Flow.Ones.cons ?_ ?_
      ·rintro a w hC hoff ⟨k23,-⟩
       have e112:a.eval (.tmp 112)=(.bool false):=k23 112 rfl
       have e9:a.eval (.tmp 9)=(.pointer (some ⟨P,0,none⟩)):=hoff.at 9 (by kernel_rfl)
       refine .inl ⟨Flow.want_yes rfl rfl e112,?_⟩
       refine Flow.run_same ?_ Flow.grow_refl
       have ec:=Flow.eval_const a
       generalize a.eval=ρ at e9 ec ⊢
       simp [execOp,e9,go_sem]
      refine Flow.Ones.cons ?_ ?_
      ·rintro a w hC hoff ⟨k30,k23,-⟩
       have e119:a.eval (.tmp 119)=(.pointer (some ⟨P,3,none⟩)):=k30 119 rfl
       have e112:a.eval (.tmp 112)=(.bool false):=k23 112 rfl
       refine .inl ⟨Flow.want_yes rfl rfl e112,?_⟩
       refine Flow.run_same ?_ Flow.grow_refl
       have ec:=Flow.eval_const a
       generalize a.eval=ρ at e119 ec ⊢
       have h0:=Xm2.cell_grow hC e03
       simp [execOp,e119,h0,go_sem]
      refine Flow.Ones.cons ?_ ?_
      ·rintro a w hC hoff ⟨k23,-⟩
       have e112:a.eval (.tmp 112)=(.bool false):=k23 112 rfl
       have e11:a.eval (.tmp 11)=(.int .i64 (j:Int)):=hoff.at 11 (by kernel_rfl)
       refine .inl ⟨Flow.want_yes rfl rfl e112,?_⟩
       exact Flow.run_same (Flow.exec_move (.inl rfl) e11) Flow.grow_refl
      refine Flow.Ones.cons ?_ ?_
      ·rintro a w hC hoff ⟨k31,k32,k23,-⟩
       have e120:a.eval (.tmp 120)=(.slice (some ⟨sb,0,none⟩) mn nc):=k31 120 rfl
       have e121:a.eval (.tmp 121)=(.int .i64 (j:Int)):=k32 121 rfl
       have e112:a.eval (.tmp 112)=(.bool false):=k23 112 rfl
       refine .inl ⟨Flow.want_yes rfl rfl e112,?_⟩
       refine Flow.run_same ?_ Flow.grow_refl
       have ec:=Flow.eval_const a
       generalize a.eval=ρ at e120 e121 ec ⊢
       simp [execOp,e120,e121,go_sem];intro hh;omega
      refine Flow.Ones.cons ?_ ?_
      ·rintro a w hC hoff ⟨k33,k23,-⟩
       have e122:a.eval (.tmp 122)=(.pointer (some ⟨sb,j,none⟩)):=k33 122 rfl
       have e112:a.eval (.tmp 112)=(.bool false):=k23 112 rfl
       refine .inl ⟨Flow.want_yes rfl rfl e112,?_⟩
       refine Flow.run_same ?_ Flow.grow_refl
       have ec:=Flow.eval_const a
       generalize a.eval=ρ at e122 ec ⊢
       have h0:=Xm2.cell_grow hC q4
       simp [execOp,e122,h0,go_sem]
      refine Flow.Ones.cons ?_ ?_
      ·rintro a w hC hoff ⟨k34,k23,-⟩
       have e123:a.eval (.tmp 123)=(.slice sa rn sc):=k34 123 rfl
       have e112:a.eval (.tmp 112)=(.bool false):=k23 112 rfl
       refine .inl ⟨Flow.want_yes rfl rfl e112,?_⟩
       refine Flow.run_same ?_ Flow.grow_refl
       have ec:=Flow.eval_const a
       generalize a.eval=ρ at e123 ec ⊢
       simp [e123,go_sem]
      refine Flow.Ones.cons ?_ ?_
      ·rintro a w hC hoff ⟨k29,k35,k23,-⟩
       have e118:a.eval (.tmp 118)=(.int .i64 (rn:Int)):=k29 118 rfl
       have e124:a.eval (.tmp 124)=(.int .i64 (rn:Int)):=k35 124 rfl
       have e112:a.eval (.tmp 112)=(.bool false):=k23 112 rfl
       refine .inl ⟨Flow.want_yes rfl rfl e112,?_⟩
       refine Flow.run_same ?_ Flow.grow_refl
       have ec:=Flow.eval_const a
       generalize a.eval=ρ at e118 e124 ec ⊢
       simp [execOp,e118,e124,go_sem]
      refine Flow.Ones.cons ?_ ?_
      ·rintro a w hC hoff ⟨k23,k36,-⟩
       have e112:a.eval (.tmp 112)=(.bool false):=k23 112 rfl
       have e125:a.eval (.tmp 125)=(.bool false):=k36 125 rfl
       refine .inl ⟨Flow.want_none rfl,?_⟩
       exact Flow.run_same (Flow.exec_pick_no rfl e112 e125) Flow.grow_refl
      exact trivial
     case stab13=>exact trivial
     case ends13 =>
      intro wt hC
      simp only [Flow.ends]
      simp only [Act.put,List.setIfInBounds_toArray,List.set_cons_succ,List.set_cons_zero]
      have HGt:=Lib.hid (HGr.out.trans hC)
      clear hC q0 q1 q2 q3 q4 d00 d01 d02 d03 e00 e01 e02 e03
      have q3:=own_cell HYm.out HQ3.out
      have q4:=own_cell HXm.out HQ4.out
      have hrm:rn≤1000000:=by rw [Hrn.out];exact HRm.out R HRi.out
      go_wp2_with fail
      go_loopw [12] (fun vk wk=>∃ k:Nat,k≤rn∧vk=.int .i64 (k:Int)∧Hid (Flow.Grow w6 wk)) (fun vk _=>rn - (intOf vk).toNat)
      case atStart=>exact ⟨0,by omega,rfl,HGt⟩
      case round =>
       obtain ⟨k,hk,rfl,HGk⟩:=hrel
       rename World=>wk
       have p3:=Xm2.cell_grow HGk.out q3
       have p4:=Xm2.cell_grow HGk.out q4
       clear q3 q4
       obtain ⟨d00,d01,d02,d03⟩:=CXw4.out wk (HG6.out.trans HGk.out)
       obtain ⟨e00,e01,e02,e03⟩:=CXw6.out wk (HGk.out)
       have hi1:(j:Int) < (mn:Int):=by omega
       by_cases hkn:k < rn
       ·have d1:decide ((k:Int) < (rn:Int))=true:=by simp;omega
        obtain ⟨ub,rfl⟩:=own_at HR1.out (by omega)
        obtain ⟨vb,rfl⟩:=own_at HR2.out (by omega)
        obtain ⟨y0,y1⟩:=Pr.flat2_get R k (by rw [← Hrn.out];exact hkn)
        have u0:=Xm2.cell_grow HGk.out (own_cell HR1.out y0)
        have u1:=Xm2.cell_grow HGk.out (own_cell HR1.out y1)
        have u2:=Xm2.cell_grow HGk.out (own_cell HR2.out y0)
        have u3:=Xm2.cell_grow HGk.out (own_cell HR2.out y1)
        clear y0 y1
        generalize (R.getD k (0,0)).1=x at *
        generalize (R.getD k (0,0)).2=y at *
        go_upto_region 18 with fail
        refine Flow.region_grown (Fs:=[.inl ((.pointer (some ⟨N,3,none⟩))),.inl ((.slice (some ⟨rb,0,none⟩) mn mc)),.inl ((.int .i64 (j:Int))),.inl ((.pointer (some ⟨rb,j,none⟩))),.inl ((.slice (some ⟨ub,0,none⟩) rn rc)),.inl ((.int .i64 (k:Int))),.inl ((.pointer (some ⟨ub,k * 2,none⟩))),.inl ((.agg #[.int .i64 x,.int .i64 y])),.inl ((.pointer (some ⟨P,3,none⟩))),.inl ((.slice (some ⟨sb,0,none⟩) mn nc)),.inl ((.int .i64 (j:Int))),.inl ((.pointer (some ⟨sb,j,none⟩))),.inl ((.slice (some ⟨vb,0,none⟩) rn sc)),.inl ((.int .i64 (k:Int))),.inl ((.pointer (some ⟨vb,k * 2,none⟩))),.inl ((.agg #[.int .i64 x,.int .i64 y])),.inl ((.bool false))])
         (S:=[[],[0],[],[1,2],[3],[],[4,5],[6],[],[8],[],[9,10],[11],[],[12,13],[14],[7,15]]) (by kernel_rfl) (by kernel_rfl) (by kernel_rfl) rfl ?stab18 ?ones18 ?ends18
        case ones18 =>
         refine Flow.Ones.cons ?_ ?_
         ·intro a w hC hoff _
          have e6:a.eval (.tmp 6)=(.pointer (some ⟨N,0,none⟩)):=hoff.at 6 (by kernel_rfl)
          refine .inl ⟨Flow.want_none rfl,?_⟩
          refine Flow.run_same ?_ Flow.grow_refl
          have ec:=Flow.eval_const a
          generalize a.eval=ρ at e6 ec ⊢
          simp [execOp,e6,go_sem]
         refine Flow.Ones.cons ?_ ?_
         ·rintro a w hC hoff ⟨k0,-⟩
          have e137:a.eval (.tmp 137)=(.pointer (some ⟨N,3,none⟩)):=k0 137 rfl
          refine .inl ⟨Flow.want_none rfl,?_⟩
          refine Flow.run_same ?_ Flow.grow_refl
          have ec:=Flow.eval_const a
          generalize a.eval=ρ at e137 ec ⊢
          have h0:=Xm2.cell_grow hC d03
          simp [execOp,e137,h0,go_sem]
         refine Flow.Ones.cons ?_ ?_
         ·intro a w hC hoff _
          have e11:a.eval (.tmp 11)=(.int .i64 (j:Int)):=hoff.at 11 (by kernel_rfl)
          refine .inl ⟨Flow.want_none rfl,?_⟩
          exact Flow.run_same (Flow.exec_move (.inl rfl) e11) Flow.grow_refl
         refine Flow.Ones.cons ?_ ?_
         ·rintro a w hC hoff ⟨k1,k2,-⟩
          have e138:a.eval (.tmp 138)=(.slice (some ⟨rb,0,none⟩) mn mc):=k1 138 rfl
          have e139:a.eval (.tmp 139)=(.int .i64 (j:Int)):=k2 139 rfl
          refine .inl ⟨Flow.want_none rfl,?_⟩
          refine Flow.run_same ?_ Flow.grow_refl
          have ec:=Flow.eval_const a
          generalize a.eval=ρ at e138 e139 ec ⊢
          simp [execOp,e138,e139,go_sem];intro hh;omega
         refine Flow.Ones.cons ?_ ?_
         ·rintro a w hC hoff ⟨k3,-⟩
          have e140:a.eval (.tmp 140)=(.pointer (some ⟨rb,j,none⟩)):=k3 140 rfl
          refine .inl ⟨Flow.want_none rfl,?_⟩
          refine Flow.run_same ?_ Flow.grow_refl
          have ec:=Flow.eval_const a
          generalize a.eval=ρ at e140 ec ⊢
          have h0:=Xm2.cell_grow hC p3
          simp [execOp,e140,h0,go_sem]
         refine Flow.Ones.cons ?_ ?_
         ·intro a w hC hoff _
          have e12:a.eval (.tmp 12)=(.int .i64 (k:Int)):=hoff.at 12 (by kernel_rfl)
          refine .inl ⟨Flow.want_none rfl,?_⟩
          exact Flow.run_same (Flow.exec_move (.inl rfl) e12) Flow.grow_refl
         refine Flow.Ones.cons ?_ ?_
         ·rintro a w hC hoff ⟨k4,k5,-⟩
          have e141:a.eval (.tmp 141)=(.slice (some ⟨ub,0,none⟩) rn rc):=k4 141 rfl
          have e142:a.eval (.tmp 142)=(.int .i64 (k:Int)):=k5 142 rfl
          refine .inl ⟨Flow.want_none rfl,?_⟩
          refine Flow.run_same ?_ Flow.grow_refl
          have ec:=Flow.eval_const a
          generalize a.eval=ρ at e141 e142 ec ⊢
          simp [execOp,e141,e142,go_sem];intro hh;omega
         refine Flow.Ones.cons ?_ ?_
         ·rintro a w hC hoff ⟨k6,-⟩
          have e143:a.eval (.tmp 143)=(.pointer (some ⟨ub,k * 2,none⟩)):=k6 143 rfl
          refine .inl ⟨Flow.want_none rfl,?_⟩
          refine Flow.run_same ?_ Flow.grow_refl
          have ec:=Flow.eval_const a
          generalize a.eval=ρ at e143 ec ⊢
          have h0:=Xm2.cell_grow hC u0
          have h1:=Xm2.cell_grow hC u1
          simp [execOp,e143,h0,h1,go_sem]
         refine Flow.Ones.cons ?_ ?_
         ·intro a w hC hoff _
          have e9:a.eval (.tmp 9)=(.pointer (some ⟨P,0,none⟩)):=hoff.at 9 (by kernel_rfl)
          refine .inl ⟨Flow.want_none rfl,?_⟩
          refine Flow.run_same ?_ Flow.grow_refl
          have ec:=Flow.eval_const a
          generalize a.eval=ρ at e9 ec ⊢
          simp [execOp,e9,go_sem]
         refine Flow.Ones.cons ?_ ?_
         ·rintro a w hC hoff ⟨k8,-⟩
          have e145:a.eval (.tmp 145)=(.pointer (some ⟨P,3,none⟩)):=k8 145 rfl
          refine .inl ⟨Flow.want_none rfl,?_⟩
          refine Flow.run_same ?_ Flow.grow_refl
          have ec:=Flow.eval_const a
          generalize a.eval=ρ at e145 ec ⊢
          have h0:=Xm2.cell_grow hC e03
          simp [execOp,e145,h0,go_sem]
         refine Flow.Ones.cons ?_ ?_
         ·intro a w hC hoff _
          have e11:a.eval (.tmp 11)=(.int .i64 (j:Int)):=hoff.at 11 (by kernel_rfl)
          refine .inl ⟨Flow.want_none rfl,?_⟩
          exact Flow.run_same (Flow.exec_move (.inl rfl) e11) Flow.grow_refl
         refine Flow.Ones.cons ?_ ?_
         ·rintro a w hC hoff ⟨k9,k10,-⟩
          have e146:a.eval (.tmp 146)=(.slice (some ⟨sb,0,none⟩) mn nc):=k9 146 rfl
          have e147:a.eval (.tmp 147)=(.int .i64 (j:Int)):=k10 147 rfl
          refine .inl ⟨Flow.want_none rfl,?_⟩
          refine Flow.run_same ?_ Flow.grow_refl
          have ec:=Flow.eval_const a
          generalize a.eval=ρ at e146 e147 ec ⊢
          simp [execOp,e146,e147,go_sem];intro hh;omega
         refine Flow.Ones.cons ?_ ?_
         ·rintro a w hC hoff ⟨k11,-⟩
          have e148:a.eval (.tmp 148)=(.pointer (some ⟨sb,j,none⟩)):=k11 148 rfl
          refine .inl ⟨Flow.want_none rfl,?_⟩
          refine Flow.run_same ?_ Flow.grow_refl
          have ec:=Flow.eval_const a
          generalize a.eval=ρ at e148 ec ⊢
          have h0:=Xm2.cell_grow hC p4
          simp [execOp,e148,h0,go_sem]
         refine Flow.Ones.cons ?_ ?_
         ·intro a w hC hoff _
          have e12:a.eval (.tmp 12)=(.int .i64 (k:Int)):=hoff.at 12 (by kernel_rfl)
          refine .inl ⟨Flow.want_none rfl,?_⟩
          exact Flow.run_same (Flow.exec_move (.inl rfl) e12) Flow.grow_refl
         refine Flow.Ones.cons ?_ ?_
         ·rintro a w hC hoff ⟨k12,k13,-⟩
          have e149:a.eval (.tmp 149)=(.slice (some ⟨vb,0,none⟩) rn sc):=k12 149 rfl
          have e150:a.eval (.tmp 150)=(.int .i64 (k:Int)):=k13 150 rfl
          refine .inl ⟨Flow.want_none rfl,?_⟩
          refine Flow.run_same ?_ Flow.grow_refl
          have ec:=Flow.eval_const a
          generalize a.eval=ρ at e149 e150 ec ⊢
          simp [execOp,e149,e150,go_sem];intro hh;omega
         refine Flow.Ones.cons ?_ ?_
         ·rintro a w hC hoff ⟨k14,-⟩
          have e151:a.eval (.tmp 151)=(.pointer (some ⟨vb,k * 2,none⟩)):=k14 151 rfl
          refine .inl ⟨Flow.want_none rfl,?_⟩
          refine Flow.run_same ?_ Flow.grow_refl
          have ec:=Flow.eval_const a
          generalize a.eval=ρ at e151 ec ⊢
          have h0:=Xm2.cell_grow hC u2
          have h1:=Xm2.cell_grow hC u3
          simp [execOp,e151,h0,h1,go_sem]
         refine Flow.Ones.cons ?_ ?_
         ·rintro a w hC hoff ⟨k7,k15,-⟩
          have e144:a.eval (.tmp 144)=(.agg #[.int .i64 x,.int .i64 y]):=k7 144 rfl
          have e152:a.eval (.tmp 152)=(.agg #[.int .i64 x,.int .i64 y]):=k15 152 rfl
          refine .inl ⟨Flow.want_none rfl,?_⟩
          refine Flow.run_same ?_ Flow.grow_refl
          have ec:=Flow.eval_const a
          generalize a.eval=ρ at e144 e152 ec ⊢
          simp [execOp,e144,e152,guard_mov,run_neq_struct,go_sem]
         exact trivial
        case stab18=>exact trivial
        case ends18 =>
         intro wu hC
         simp only [Flow.ends]
         simp only [Act.put,List.setIfInBounds_toArray,List.set_cons_succ,List.set_cons_zero]
         have HGu:=Lib.hid (HGk.out.trans hC)
         clear hC u0 u1 u2 u3 p3 p4 d00 d01 d02 d03 e00 e01 e02 e03
         go_wp2_with fail
         go_roundw
         case rel=>exact ⟨k+1,by omega,by go_num,HGu⟩
         case measure=>simp [intOf];omega
       ·obtain rfl:k=rn:=by omega
        have d1:decide ((k:Int) < (k:Int))=false:=by simp
        go_wp2_with fail
        go_roundw
        case rel=>exact ⟨j+1,by omega,by go_num,HGk⟩
        case measure=>simp [intOf];omega
    ·obtain rfl:j=mn:=by omega
     have d1:decide ((j:Int) < (j:Int))=false:=by simp
     obtain ⟨d00,d01,d02,d03⟩:=CXw4.out wz (HG6.out.trans HGr.out)
     go_wp2_with (go_at_call 18;refine (HMay.out _ HGr.out h1i).mono ?_;rintro e w7 ⟨rfl,hg⟩;have HG7:=Lib.hid (HGr.out.trans hg);clear hg)
     go_ret
     exact ⟨rfl,HGW6.out.trans HG7.out⟩
 ·have he2:=HL.out.evil HR.out hl hb h60
  clear HL HR hl hb h60
  simp at he he2
  obtain ⟨⟨rfl,rfl,rfl⟩,⟨rfl,⟨rfl,rfl,rfl⟩,rfl,rfl,rfl⟩,rfl⟩:=he
  obtain ⟨⟨rfl,rfl,rfl⟩,⟨rfl,⟨rfl,rfl,rfl⟩,rfl,rfl,rfl⟩,rfl⟩:=he2
  obtain ⟨d00,d01,d02,d03⟩:=CXw4.out w6 (HG6.out)
  go_wp2_with fail
  go_ret
  exact ⟨rfl,HGW6.out⟩
end Go.Proofs.YtcnmaplopbbmaaaGreat
