/- det.Nfa by its contract. -/
import Derived.Test.YtcpodmjcgfgmnaaGreatMAct
import Derived.Test.YtcpodmjcgfgmnaaGreatMClo
import Derived.Deep.RegionHeld3
namespace Go.Proofs.YtcpodmjcgfgmnaaGreat
open Go.RowKit
theorem Qad (w:World) (g q:Nat) (u:Value):w.grownBy (w.setCell ⟨g,q,none⟩ u) (some g) :=
 ⟨rfl,rfl,rfl,by simp [World.setCell],fun i hi hne=>Below.heap_setCell _ _ _ _ (by intro e;exact hne (by rw [e]))⟩
theorem set4 {w:World} {X e:Nat} {a b c d:Value} (a' b' c' d':Value) (h:w.heap[X]?=some (.cells #[a,b,c,d] e (0,0))) :
  ((((w.setCell ⟨X,0,none⟩ a').setCell ⟨X,1,none⟩ b').setCell ⟨X,2,none⟩ c').setCell ⟨X,3,none⟩ d').heap[X]?=some (.cells #[a',b',c',d'] e (0,0)):=by
 have h0:=heap_setCell_same w X 0 _ e a' h;have h1:=heap_setCell_same _ X 1 _ e b' h0;have h2:=heap_setCell_same _ X 2 _ e c' h1;have h3:=heap_setCell_same _ X 3 _ e d' h2;exact h3
theorem Qan {w:World} {B e sz n:Nat} {v:Value} {xs:List Value} {b T:Nat} {cs:Array Value} {fr:Nat × Nat} (h:w.ownsRow B e sz v n xs) (hb:w.heap[b]?=some (.cells cs T fr)) (hTe:T≠e):v.ownBlock≠some b:=by
 rcases h.2 with ⟨rfl,_⟩ | ⟨g,cap,cur,rfl,_,hg,_⟩
 ·simp [Value.ownBlock]
 ·intro h;simp only [Value.ownBlock,Option.some.injEq] at h;subst h;rw [hg] at hb;injection hb with hb;injection hb with _ hb _;exact hTe hb.symm
namespace Pr
theorem NfaSt.by {w w1:World} {B:Nat} {vf vm:Value} {fin:List Bool} {rows:List (List (Int × Int))} {vs:List Value} {g e:Nat} {cs:Array Value} (h:NfaSt w B vf vm fin rows vs) (k:w.grownBy w1 (some g)) (hg:w.heap[g]?=some (.cells cs e (0,0)))
  (h1:e≠4) (h2:e≠129) (h3:e≠131):NfaSt w1 B vf vm fin rows vs where
 finals:=h.finals.kept k (.inr (Qan h.finals hg h1))
 moves:=h.moves.kept k (.inr (Qan h.moves hg h2))
 len:=h.len
 row:=fun j hj=>(h.row j hj).kept k (.inr (Qan (h.row j hj) hg h3))
 inj:=h.inj
theorem NfaSt.set4 {w:World} {B:Nat} {vf vm:Value} {fin:List Bool} {rows:List (List (Int × Int))} {vs:List Value} {g e:Nat} {a b c d:Value} (a' b' c' d':Value) (h:NfaSt w B vf vm fin rows vs) (hg:w.heap[g]?=some (.cells #[a,b,c,d] e (0,0)))
  (h1:e≠4) (h2:e≠129) (h3:e≠131):NfaSt ((((w.setCell ⟨g,0,none⟩ a').setCell ⟨g,1,none⟩ b').setCell ⟨g,2,none⟩ c').setCell ⟨g,3,none⟩ d') B vf vm fin rows vs:=by
 have g0:=heap_setCell_same w g 0 _ e a' hg;have g1:=heap_setCell_same _ g 1 _ e b' g0;have g2:=heap_setCell_same _ g 2 _ e c' g1;exact (((h.by (Qad _ _ _ _) hg h1 h2 h3).by (Qad _ _ _ _) g0 h1 h2 h3).by (Qad _ _ _ _) g1 h1 h2 h3).by (Qad _ _ _ _) g2 h1 h2 h3
theorem NfaSt.begin {w:World} {B B':Nat} {vf:Value} {fin:List Bool} (h:w.ownsRow B' 4 1 vf fin.length (fin.map Value.bool)) (hB:B≤B'):NfaSt w B vf (.slice none 0 0) fin [] [] where
 finals:=own_mono h hB
 moves:=World.ownsRow_nil _ _ _ _
 len:=rfl
 row:=fun j hj=>by simp at hj
 inj:=fun i j hi=>by simp at hi
theorem NfaSt.mono {w:World} {B B':Nat} {vf vm:Value} {fin:List Bool} {rows:List (List (Int × Int))} {vs:List Value} (h:NfaSt w B vf vm fin rows vs) (hB:B'≤B):NfaSt w B' vf vm fin rows vs where
 finals:=own_mono h.finals hB
 moves:=own_mono h.moves hB
 len:=h.len
 row:=fun j hj=>own_mono (h.row j hj) hB
 inj:=h.inj
end Pr
theorem Qwj:(Tryz.prog.info? 131).map (fun i=>(i.zero,i.size,i.bytes))=some (some (.agg #[.int .i64 0,.int .i64 0]),2,16):=by kernel_rfl
theorem Qt0:(Tryz.prog.info? 129).map (fun i=>(i.zero,i.size,i.bytes))=some (some (.slice none 0 0),1,24):=by kernel_rfl
set_option maxRecDepth 100000 in
set_option maxHeartbeats 2000000 in
theorem Que (L S:Int) (vF vN:Value) (fin:List Bool) (rows:List (List Int)) (W:World) (hf0:fin≠[]) (hf1:fin.length≤1000000) (hr1:rows.length≤1000000) (hr2:∀ r∈rows,r.length≤1000000) (hF:Bools W vF fin) (hN:Rows2 W vN rows) :
  Calls Tryz.prog 58 #[.agg #[.int .i64 L,.int .i64 S,vF,vN]] W fun e w'=>(∃ vf vm vs,e=.returned (.agg #[.int .i64 L,.int .i64 S,vf,vm])∧Pr.NfaSt w' W.heap.size vf vm fin (rows.map Pr.rowM) vs)∧Flow.Grow W w':=by
 have HF:=Lib.hid hF;have HN:=Lib.hid hN;have HR2:=Lib.hid hr2;obtain ⟨af,cf,rfl,_⟩:=id hF;obtain ⟨an,cn,rfl⟩:=hN.val;clear hF hN hr2;obtain ⟨n,hn⟩:∃ n,n=rows.length:=⟨_,rfl⟩;obtain ⟨k,hk⟩:∃ k,k=fin.length:=⟨_,rfl⟩;have Hn:=Lib.hid hn;have Hk:=Lib.hid hk;rw [← hn] at hr1 HN ⊢;rw [← hk] at hf1 HF ⊢;clear hn hk;obtain ⟨i0,hi,hz0,hz1,hz2⟩:=info_parts Qwj;have HI:=Lib.hid (And.intro hi (And.intro hz0 (And.intro hz1 hz2)));clear hi hz0 hz1 hz2;obtain ⟨i1,hi,hz0,hz1,hz2⟩:=info_parts Qt0;have HJ:=Lib.hid (And.intro hi (And.intro hz0 (And.intro hz1 hz2)));clear hi hz0 hz1 hz2;go_enter Tryz.func58,Tryz.ntmps58;go_upto_region 1 with fail;have HB0:Hid (((W.alloc (.cells #[.int .i64 L,.int .i64 S,.slice af k cf,.slice an n cn] 27)).alloc (.cells #[.int .i64 0,.int .i64 0,.slice none 0 0,.slice none 0 0] 99)).heap[W.heap.size]?=some (.cells #[.int .i64 L,.int .i64 S,.slice af k cf,.slice an n cn] 27 (0,0))):=Lib.hid (by
  rw [Below.heap_alloc _ _ _ (by simp)];exact heap_alloc_new _ _)
 have HR0:Hid (((W.alloc (.cells #[.int .i64 L,.int .i64 S,.slice af k cf,.slice an n cn] 27)).alloc (.cells #[.int .i64 0,.int .i64 0,.slice none 0 0,.slice none 0 0] 99)).heap[W.heap.size+1]?=some (.cells #[.int .i64 0,.int .i64 0,.slice none 0 0,.slice none 0 0] 99 (0,0))):=Lib.hid (Qbl _ _ _);have HG0:Hid (Flow.Grow W ((W.alloc (.cells #[.int .i64 L,.int .i64 S,.slice af k cf,.slice an n cn] 27)).alloc (.cells #[.int .i64 0,.int .i64 0,.slice none 0 0,.slice none 0 0] 99))):=Lib.hid ((Flow.grow_alloc _ _).trans (Flow.grow_alloc _ _));have HZ0:Hid (((W.alloc (.cells #[.int .i64 L,.int .i64 S,.slice af k cf,.slice an n cn] 27)).alloc (.cells #[.int .i64 0,.int .i64 0,.slice none 0 0,.slice none 0 0] 99)).heap.size=W.heap.size+2):=Lib.hid (by simp);generalize (W.alloc (.cells #[.int .i64 L,.int .i64 S,.slice af k cf,.slice an n cn] 27)).alloc (.cells #[.int .i64 0,.int .i64 0,.slice none 0 0,.slice none 0 0] 99)=w2 at *;have CX:Hid (∀ wq,Flow.Grow w2 wq→wq.cell? ⟨W.heap.size,0,none⟩=some (.int .i64 L)∧wq.cell? ⟨W.heap.size,1,none⟩=some (.int .i64 S)∧wq.cell? ⟨W.heap.size,2,none⟩=some (.slice af k cf)∧wq.cell? ⟨W.heap.size,3,none⟩=some (.slice an n cn)):=Lib.hid (fun wq g=>by
  have hb:wq.heap[W.heap.size]?=_:=(g.block _ (by have:=HZ0.out;omega) (by simp)).trans HB0.out;exact ⟨(cell_of_row wq _ 0 _ _ _ hb).trans rfl,(cell_of_row wq _ 1 _ _ _ hb).trans rfl,(cell_of_row wq _ 2 _ _ _ hb).trans rfl,(cell_of_row wq _ 3 _ _ _ hb).trans rfl⟩)
 have HCL:Hid (∀ wq,Flow.Grow w2 wq→Calls Tryz.prog 82 #[.slice af k cf] wq fun e w'=>(∃ v',e=.returned v'∧w'.ownsRow wq.heap.size 4 1 v' k (fin.map Value.bool))∧Flow.Grow wq w'):=Lib.hid (fun wq g=>by
  have:=Qj3 (.slice af k cf) fin wq (by rw [← Hk.out];exact hf1) hf0 (HF.out.grow (HG0.out.trans g));rw [← Hk.out] at this;exact this)
 have HA:Hid (∀ (z:Obj) (wq:World),Flow.Grow ((w2.drew).alloc z) wq→wq.heap[w2.heap.size]?=some z):=Lib.hid (fun z wq g=>(g.block _ (by simp) (by simp)).trans (heap_alloc_new _ _));have HAc:Hid (∀ wq:World,Flow.Grow ((w2.drew).alloc (.cells #[.int .i64 0,.int .i64 0,.slice none 0 0,.slice none 0 0] 99)) wq→wq.cell? ⟨w2.heap.size,0,none⟩=some (.int .i64 0)∧wq.cell? ⟨w2.heap.size,1,none⟩=some (.int .i64 0)∧wq.cell? ⟨w2.heap.size,2,none⟩=some (.slice none 0 0)∧wq.cell? ⟨w2.heap.size,3,none⟩=some (.slice none 0 0) ∧
   wq.frozen? ⟨w2.heap.size,0,none⟩=false∧wq.frozen? ⟨w2.heap.size,1,none⟩=false∧wq.frozen? ⟨w2.heap.size,2,none⟩=false∧wq.frozen? ⟨w2.heap.size,3,none⟩=false):=Lib.hid (fun wq g=>by
  have hb:=HA.out _ wq g;exact ⟨(cell_of_row wq _ 0 _ _ _ hb).trans rfl,(cell_of_row wq _ 1 _ _ _ hb).trans rfl,(cell_of_row wq _ 2 _ _ _ hb).trans rfl,(cell_of_row wq _ 3 _ _ _ hb).trans rfl,frozen_of_row wq _ _ _ _ hb,frozen_of_row wq _ _ _ _ hb,frozen_of_row wq _ _ _ _ hb,frozen_of_row wq _ _ _ _ hb⟩)
 obtain ⟨c0,c1,c2,c3⟩:=CX.out w2 (Flow.grow_refl _);go_cut [3] (fun v3 wx=>∃ (G:Nat) (vf:Value),v3=.pointer (some ⟨G,0,none⟩)∧Hid (wx.heap[G]?=some (.cells #[.int .i64 L,.int .i64 S,vf,.slice none 0 0] 99 (0,0)))∧W.heap.size+2≤G∧Hid (Pr.NfaSt wx w2.heap.size vf (.slice none 0 0) fin [] [])∧Hid (Flow.Grow w2 wx))
 case first =>
  go_region_held3 (fun w'=>w'.cell? ⟨W.heap.size,0,none⟩=some (.int .i64 L)∧w'.cell? ⟨W.heap.size,1,none⟩=some (.int .i64 S)∧w'.cell? ⟨W.heap.size,2,none⟩=some (.slice af k cf)∧w'.cell? ⟨W.heap.size,3,none⟩=some (.slice an n cn))
   (first
     | exact CX.out _ (Flow.grow_refl _)
     | exact CX.out _ (Flow.grow_drew _)
     | exact CX.out _ ((Flow.grow_drew _).trans (Flow.grow_alloc _ _))
     | exact CX.out _ (hcg.out.trans (Flow.grow_alloc _ _))
     | exact CX.out _ hcg.out
     | exact CX.out _ (Qag (Qag (Qag (Qag hcg.out (Nat.le_refl _) 0 _) (Nat.le_refl _) 1 _) (Nat.le_refl _) 2 _) (Nat.le_refl _) 3 _))
   (first
     | (go_at_call 82;refine (HCL.out _ (Flow.grow_drew _)).mono ?_;rintro e wc ⟨⟨vf,rfl,ho⟩,hg⟩;obtain ⟨ac,cc,rfl⟩:=Qah ho;have hco:=Lib.hid ho;have hcg:=Lib.hid ((Flow.grow_drew _).trans hg);have hcg2:=Lib.hid hg;clear ho hg;obtain ⟨d0,d1,d2,d3⟩:=CX.out wc hcg.out)
     | (go_at_call 82;refine (HCL.out _ ((Flow.grow_drew _).trans (Flow.grow_alloc _ _))).mono ?_;rintro e wc ⟨⟨vf,rfl,ho⟩,hg⟩;obtain ⟨ac,cc,rfl⟩:=Qah ho;have hco:=Lib.hid ho;have hcg:=Lib.hid (((Flow.grow_drew _).trans (Flow.grow_alloc _ _)).trans hg);have hcg2:=Lib.hid hg;obtain ⟨d0,d1,d2,d3⟩:=CX.out wc hcg.out;obtain ⟨a0,a1,a2,a3,f0,f1,f2,f3⟩:=HAc.out wc hg;clear ho hg))
  all_goals
   go_wp2_with fail;go_meet
  case rel =>
   refine ⟨wc.heap.size,_,rfl,Lib.hid (heap_alloc_new _ _),by have:=hcg.out.size;have:=HZ0.out;omega,Lib.hid (Pr.NfaSt.begin (B':=w2.heap.size) ?_ (Nat.le_refl _)),Lib.hid (hcg.out.trans (Flow.grow_alloc _ _))⟩;rw [← Hk.out];exact Qab hco.out (Flow.grow_alloc _ _)
  case rel =>
   have hb:=HA.out _ wc hcg2.out;refine ⟨w2.heap.size,_,rfl,Lib.hid (set4 _ _ _ _ hb),by have:=HZ0.out;omega,Lib.hid ((Pr.NfaSt.begin (B':=w2.heap.size) ?_ (Nat.le_refl _)).set4 _ _ _ _ hb (by decide) (by decide) (by decide)),Lib.hid (Qag (Qag (Qag (Qag hcg.out (Nat.le_refl _) 0 _) (Nat.le_refl _) 1 _) (Nat.le_refl _) 2 _) (Nat.le_refl _) 3 _)⟩;rw [← Hk.out];have:=Pr.own_mono hco.out (B':=w2.heap.size) (by simp);exact this
 case rest =>
  obtain ⟨G,vf,rfl,HB,hGz,HS,HG⟩:=hcut
  rename World=>wc
  obtain ⟨_,_,_,y3⟩:=CX.out wc HG.out;clear c0 c1 c2 c3 HA HAc HCL CX HB0 HF;go_wp2_with fail;clear y3;go_loopw [20] (fun i wr=>∃ (j:Nat) (vm:Value) (vs:List Value),j≤n∧i=.int .i64 j∧Hid (wr.heap[G]?=some (.cells #[.int .i64 L,.int .i64 S,vf,vm] 99 (0,0)))∧Hid (Pr.NfaSt wr w2.heap.size vf vm fin ((rows.take j).map Pr.rowM) vs)∧Hid (Flow.Grow w2 wr)) (fun i _=>n - (intOf i).toNat)
  case atStart=>exact ⟨0,_,[],by omega,rfl,HB,HS,HG⟩
  case round =>
   clear HB HS HG;obtain ⟨j,vm,vs,hj,rfl,HB,HS,HG⟩:=hrel
   rename World=>wr
   by_cases hjn:j < n
   ·have hrne:rows≠[]:=by intro e;have:=Hn.out;rw [e] at this;simp at this;omega
    obtain ⟨b,off,cp,hv,hbW,hc⟩:=HN.out.shape hrne;injection hv with hv1 hv2 hv3;subst hv1;clear hv2 hv3 hrne;obtain ⟨u,huc,hux⟩:=hc j (by rw [← Hn.out];exact hjn);have hjr:rows.getD j []∈rows:=by
     have h2:j < rows.length:=by rw [← Hn.out];exact hjn
     rw [List.getD_eq_getElem?_getD,List.getElem?_eq_getElem h2];exact List.getElem_mem h2
    have hm:=HR2.out _ hjr;have HRT:Hid (rows.take (j+1)=rows.take j++[rows.getD j []]):=Lib.hid (by
     have h2:j < rows.length:=by rw [← Hn.out];exact hjn
     rw [List.take_add_one,List.getElem?_eq_getElem h2,List.getD_eq_getElem?_getD,List.getElem?_eq_getElem h2];rfl)
    clear hc hjr;generalize rows.getD j []=x at *;have HUX:=Lib.hid hux;obtain ⟨ru,rc,rfl,_⟩:=id hux;clear hux;obtain ⟨m,hmx⟩:∃ m,m=x.length:=⟨_,rfl⟩;have Hm:=Lib.hid hmx;rw [← hmx] at hm HUX;rw [← hmx] at huc;clear hmx;have huc2:=Xm2.cell_grow (HG0.out.trans HG.out) huc;clear huc;go_wp2_with fail;go_loopw [6,26] (fun va q wi=>∃ c:Nat,c≤m∧q=.int .i64 c∧Hid (wi.ownsRow wr.heap.size 131 2 va (Pr.mvs x c).length (Pr.flat2 (Pr.mvs x c)))∧Hid (Flow.Grow wr wi)) (fun _ q _=>m - (intOf q).toNat)
    case atStart=>exact ⟨0,by omega,rfl,Lib.hid (World.ownsRow_nil _ _ _ _),Lib.hid (Flow.grow_refl _)⟩
    case round =>
     obtain ⟨c,hcm,rfl,HO,HGi⟩:=hrel
     rename World=>wi
     obtain ⟨va,hva⟩:∃ va,va=u6:=⟨_,rfl⟩;obtain ⟨oa,oc,hoa⟩:=Qah HO.out;subst hoa;clear hva;by_cases hcx:c < m
     ·have hxne:x≠[]:=by intro e;have:=Hm.out;rw [e] at this;simp at this;omega
      obtain ⟨rb,ro,rc',hv,hrb,hzc⟩:=HUX.out.shape hxne;injection hv with hv1 hv2 hv3;subst hv1;clear hv2 hv3 hxne;have hz:=Xm2.cell_grow ((HG0.out.trans HG.out).trans HGi.out) (hzc c (by rw [← Hm.out];exact hcx));clear hzc;have HA:Hid (Pr.mvs x (c+1)=Pr.mvs x c++(if 0≤x.getD c 0 then [((c:Int),x.getD c 0)] else [])):=Lib.hid rfl;generalize x.getD c 0=z at *;have hal:=Pr.mvs_len x c;have Hal:=Lib.hid hal;clear hal;generalize Pr.mvs x c=l at *;generalize hLl:l.length=t at *;have HLl:=Lib.hid hLl;clear hLl;by_cases h0:0≤z
      ·have d0:decide (z≥0)=true:=by simp;omega
       have HE:Hid (Pr.mvs x (c+1)=l++[((c:Int),z)]):=Lib.hid (by rw [HA.out,if_pos h0]);clear h0;go_wp2_with (at_builtin;refine Qbq (W:=wr) rfl _ _ 129 rfl 131 i0 (.agg #[.int .i64 0,.int .i64 0]) 2 16 Tryz.underlying129 HI.out.1 HI.out.2.1 HI.out.2.2.1 HI.out.2.2.2 rfl (by decide) _ t (Pr.flat2 l) rfl (Qab HO.out (Flow.grow_alloc _ _)) (HGi.out.trans (Flow.grow_alloc _ _)) _ #[.int .i64 c,.int .i64 z] 131 rfl (heap_alloc_new _ _) rfl (by intro u hu;simp at hu;rcases hu with rfl | rfl <;> rfl) (by have:=Hal.out;omega) (by decide) ?_;intro v' w' hO hG hf _;have HO2:=Lib.hid hO;have HG2:=Lib.hid hG;obtain ⟨g',c',rfl,_⟩:=hf;clear hO hG);go_roundw
       case rel=>exact ⟨c+1,by omega,by go_num,Lib.hid (by rw [HE.out,List.length_append,HLl.out,Pr.flat2_app];exact HO2.out),HG2⟩
       case measure=>simp [intOf];omega
      ·have d0:decide (z≥0)=false:=by simp;omega
       have HE:Hid (Pr.mvs x (c+1)=l):=Lib.hid (by rw [HA.out,if_neg h0,List.append_nil]);clear h0;go_wp2_with fail;go_roundw
       case rel=>exact ⟨c+1,by omega,by go_num,Lib.hid (by rw [HE.out,HLl.out];exact HO.out),HGi⟩
       case measure=>simp [intOf];omega
     ·obtain rfl:c=m:=by omega
      have HRow:Hid (Pr.mvs x c=Pr.rowM x):=Lib.hid (by rw [Pr.rowM,Hm.out]);rw [HRow.out] at HO ⊢;have HS1:=Lib.hid (HS.out.grow HGi.out);have hb1:wi.heap[G]?=_:=(HGi.out.block _ (Array.getElem?_eq_some_iff.1 HB.out).1 (by simp)).trans HB.out;have HB1:=Lib.hid hb1;have q3:wi.cell? ⟨G,3,none⟩=some vm:=(cell_of_row wi _ 3 _ _ _ hb1).trans rfl;obtain ⟨ma,mc,hvm⟩:=Qah HS.out.moves;subst hvm;have hlj:((rows.take j).map Pr.rowM).length=j:=by rw [List.length_map,List.length_take,← Hn.out];omega
      rw [hlj] at q3 HB1 HS1;clear hb1;have hmv:=HS1.out.moves;rw [hlj] at hmv;have Hmv:=Lib.hid hmv;have Hlj:=Lib.hid hlj;clear hmv hlj;have HGw:=Lib.hid (HG.out.trans HGi.out);go_wp2_with (at_builtin;refine Qbq (W:=w2) rfl _ _ 97 rfl 129 i1 (.slice none 0 0) 1 24 Tryz.underlying97 HJ.out.1 HJ.out.2.1 HJ.out.2.2.1 HJ.out.2.2.2 rfl (by decide) _ j vs rfl (Qab Hmv.out (Flow.grow_alloc _ _)) (HGw.out.trans (Flow.grow_alloc _ _)) _ #[.slice oa (Pr.rowM x).length oc] 129 rfl (heap_alloc_new _ _) rfl (by intro u hu;simp at hu;subst hu;rfl) (by omega) (by decide) ?_;intro v' w' hO hG hf hk;have HO2:=Lib.hid hO;have HG2:=Lib.hid hG;have HK:=Lib.hid hk;obtain ⟨g',c',rfl,_⟩:=hf;clear hO hG hk;have hb2:w'.heap[G]?=_:=(HK.out.block G (by have:=(Array.getElem?_eq_some_iff.1 HB1.out).1;simp;omega) (fun e=>Qan Hmv.out HB1.out (by decide) e.symm)).trans ((Below.heap_alloc _ _ _ (by have:=(Array.getElem?_eq_some_iff.1 HB1.out).1;omega)).trans HB1.out);have HB2:=Lib.hid hb2;have q4:w'.cell? ⟨G,3,none⟩=some (.slice ma j mc):=(cell_of_row w' _ 3 _ _ _ hb2).trans rfl;have f4:w'.frozen? ⟨G,3,none⟩=false:=frozen_of_row w' _ _ _ _ hb2;clear hb2);go_roundw
      case rel =>
       refine ⟨j+1,.slice (some ⟨g',0,none⟩) (j+1) c',vs++[.slice oa (Pr.rowM x).length oc],by omega,by go_num,Lib.hid ?_,Lib.hid ?_,Lib.hid (Qag HG2.out (by have:=HZ0.out;omega) _ _)⟩
       ·exact heap_setCell_same w' G 3 _ _ _ HB2.out
       ·rw [HRT.out,List.map_append];refine Pr.NfaSt.by ?_ (Qad _ _ _ _) HB2.out (by decide) (by decide) (by decide);exact HS.out.push (w:=wi.alloc (.cells #[.slice oa (Pr.rowM x).length oc] 129)) (HGi.out.trans (Flow.grow_alloc _ _)) (Qab HO.out (Flow.grow_alloc _ _)) HG.out.size (by rw [Hlj.out];exact HO2.out) (by rw [Hlj.out];exact HK.out)
      case measure=>simp [intOf];omega
   ·obtain rfl:j=n:=by omega
    have hlj:((rows.take j).map Pr.rowM)=rows.map Pr.rowM:=by rw [Hn.out,List.take_length]
    rw [hlj] at HS;clear hlj;have hrl:(rows.map Pr.rowM).length=j:=by rw [List.length_map,Hn.out]
    have hmv:=HS.out.moves;rw [hrl] at hmv;obtain ⟨ma,mc,hvm⟩:=Qah hmv;subst hvm;clear hmv hrl;obtain ⟨fa,fc,hvf⟩:=Qah HS.out.finals;subst hvf;have hb:=HB.out;have q0:wr.cell? ⟨G,0,none⟩=_:=(cell_of_row wr _ 0 _ _ _ hb).trans rfl;have q1:wr.cell? ⟨G,1,none⟩=_:=(cell_of_row wr _ 1 _ _ _ hb).trans rfl;have q2:wr.cell? ⟨G,2,none⟩=_:=(cell_of_row wr _ 2 _ _ _ hb).trans rfl;have q3:wr.cell? ⟨G,3,none⟩=_:=(cell_of_row wr _ 3 _ _ _ hb).trans rfl;have hx:wr.heap[W.heap.size+1]?=_:=(HG.out.block _ (by have:=HZ0.out;omega) (by simp)).trans HR0.out;have HX:=Lib.hid hx;have x0:wr.cell? ⟨W.heap.size+1,0,none⟩=_:=(cell_of_row wr _ 0 _ _ _ hx).trans rfl;have x1:wr.cell? ⟨W.heap.size+1,1,none⟩=_:=(cell_of_row wr _ 1 _ _ _ hx).trans rfl;have x2:wr.cell? ⟨W.heap.size+1,2,none⟩=_:=(cell_of_row wr _ 2 _ _ _ hx).trans rfl;have x3:wr.cell? ⟨W.heap.size+1,3,none⟩=_:=(cell_of_row wr _ 3 _ _ _ hx).trans rfl;have f0:wr.frozen? ⟨W.heap.size+1,0,none⟩=false:=frozen_of_row wr _ _ _ _ hx;have f1:wr.frozen? ⟨W.heap.size+1,1,none⟩=false:=frozen_of_row wr _ _ _ _ hx;have f2:wr.frozen? ⟨W.heap.size+1,2,none⟩=false:=frozen_of_row wr _ _ _ _ hx;have f3:wr.frozen? ⟨W.heap.size+1,3,none⟩=false:=frozen_of_row wr _ _ _ _ hx;clear hb hx;have Hend:Hid (_∧_∧_):=Lib.hid (And.intro (set4 (.int .i64 L) (.int .i64 S) (.slice fa fin.length fc) (.slice ma j mc) HX.out) (And.intro (((HS.out.mono (B':=W.heap.size) (by have:=HZ0.out;omega)).set4 (.int .i64 L) (.int .i64 S) (.slice fa fin.length fc) (.slice ma j mc) HX.out (by decide) (by decide) (by decide)))
     (Qag (Qag (Qag (Qag (HG0.out.trans HG.out) (g:=W.heap.size+1) (by omega) 0 (.int .i64 L)) (g:=W.heap.size+1) (by omega) 1 (.int .i64 S)) (g:=W.heap.size+1) (by omega) 2 (.slice fa fin.length fc)) (g:=W.heap.size+1) (by omega) 3 (.slice ma j mc))))
    have hres:∀ (tm:Array Value),tm.getD 2 undef=.pointer (some ⟨W.heap.size+1,0,none⟩)→(results Tryz.f58 tm).run Tryz.prog _=_:=fun tm htm=>results_cell_row (by kernel_rfl) tm _ (W.heap.size+1) _ _ _ _ htm Hend.out.1 Tryz.underlying99 rfl (by kernel_rfl);have Hres:=Lib.hid hres;clear hres;go_wp2_with fail;refine bodyPost_ret (Hres.out _ rfl) rfl ?_;exact ⟨⟨_,_,_,rfl,Hend.out.2.1⟩,Hend.out.2.2⟩
end Go.Proofs.YtcpodmjcgfgmnaaGreat
