/- det.Of by its contract. -/
import Derived.Test.YtcpodmjcgfgmnaaGreatMDet
import Derived.Test.YtcpodmjcgfgmnaaGreatMKey
import Derived.Test.YtcpodmjcgfgmnaaGreatEpsClose
import Derived.Test.YtcpodmjcgfgmnaaGreatMNm
import Derived.Test.YtcpodmjcgfgmnaaGreatMFlow
import Derived.Deep.RegionHeld3
namespace Go.Proofs.YtcpodmjcgfgmnaaGreat
open Go.RowKit Go.Maps
theorem Ql3 {w:World} {B g e:Nat} {v:Value} (hB:B≤g) (h:w.heap[g]?=some (.cells #[v] e (0,0))):w.ownsRow B e 1 (.slice (some ⟨g,0,none⟩) 1 1) 1 [v] :=
 ⟨rfl,.inr ⟨g,1,#[v],rfl,hB,h,Nat.le_refl _,by decide,rfl,rfl⟩⟩
theorem Qbz {w:World} {B n:Nat} {v:Value} {zs:List Int} (h:w.ownsRow B 3 1 v n (zs.map (Value.int .i64))) (hn:n=zs.length):Ints w v zs:=by
 subst hn;exact Seg.of_own h
theorem Qed (l:List UInt8) (h:l.length≤1000000):keyOf Tryz.prog 9 (.string (str l))=some (Mo.kl (str l)) :=
 WideMaps.keyOf_string_mk Tryz.underlying9 (by rw [Qlo];unfold maxLen;omega)
theorem Qj1 (tmps:Array Value) (w:World) (X:Nat) (c0 c1 c2 c3 v:Value) (h2:tmps.getD 2 undef=.pointer (some ⟨X,0,none⟩)) (h3:tmps.getD 3 undef=v) (hx:w.heap[X]?=some (.cells #[c0,c1,c2,c3] 27 (0,0))) :
  (results Tryz.f56 tmps).run Tryz.prog w=.ok (.tuple #[.agg #[c0,c1,c2,c3],v]) w:=by
 have x0:=(cell_of_row w X 0 _ _ _ hx).trans rfl;have x1:=(cell_of_row w X 1 _ _ _ hx).trans rfl;have x2:=(cell_of_row w X 2 _ _ _ hx).trans rfl;have x3:=(cell_of_row w X 3 _ _ _ hx).trans rfl;simp at x0 x1 x2 x3;simp only [Array.getD_eq_getD_getElem?] at h2 h3;simp [results,Tryz.results56,h2,h3,x0,x1,x2,x3,go_sem]
section
end
theorem Pr.SetSt.at_ {w:World} {B m:Nat} {sa:Option Addr} {sn sc:Nat} {vs:List Value} (h:Pr.SetSt w B m (.slice sa sn sc) vs) {j:Nat} (hj:j < vs.length):∃ (g:Nat) (a:Option Addr) (c:Nat) (zs:List Int),sa=some ⟨g,0,none⟩∧w.cell? ⟨g,j,none⟩=some (.slice a zs.length c)∧vs.getD j undef=.slice a zs.length c∧zs.length≤m∧Ints w (.slice a zs.length c) zs:=by
 obtain ⟨zs,hz,hr⟩:=h.row j hj;obtain ⟨a,c,e⟩:=Qah hr;obtain ⟨g,hg⟩:∃ g,sa=some ⟨g,0,none⟩:=by
  rcases h.own.2 with ⟨h1,h2⟩ | ⟨g,cap,cur,h1,_⟩
  ·omega
  ·injection h1 with h1;exact ⟨g,h1⟩
 obtain rfl:sn=vs.length:=by
  rcases h.own.2 with ⟨h1,h2⟩ | ⟨g,cap,cur,h1,_⟩
  ·injection h1 with _ h1 _;omega
  ·injection h1
 subst hg;have hc:=h.own.cellAt j (by omega);rw [List.getElem?_eq_getElem hj] at hc;have e2:vs[j]=vs.getD j undef:=by simp [hj]
 refine ⟨g,a,c,zs,rfl,by rw [hc,e2,e],e,hz,?_⟩;rw [← e];exact Qbz hr rfl
theorem Pr.SetSt.cell {w:World} {B m g n c:Nat} {vs:List Value} {v:Value} (h:Pr.SetSt w B m (.slice (some ⟨g,0,none⟩) n c) vs) {j:Nat} (hj:j < vs.length) (he:vs.getD j undef=v):w.cell? ⟨g,j,none⟩=some v:=by
 obtain ⟨g',a,c',zs,e,h1,h2,_⟩:=h.at_ hj;cases e;rw [h1,← h2,he]
set_option maxRecDepth 100000 in
set_option maxHeartbeats 4000000 in
theorem Qw8 (K S:Nat) (vf vm:Value) (fin:List Bool) (rows:List (List (Int × Int))) (W:World) (hK:K≤100) (h1:1≤rows.length) (hr1:rows.length≤100) (hfn:fin.length=rows.length) (hr2:∀ r∈rows,r.length≤100) (hS:S < rows.length) (hB:Pr.Below K rows) (hf:Bools W vf fin) (hv:Pr.RowsM W vm rows) :
  Calls Tryz.prog 56 #[.agg #[.int .i64 K,.int .i64 S,vf,vm]] W fun e w'=>(∃ (d:Value) (c:Int),e=.returned (.tuple #[d,.int .i64 c])∧Pr.DfaRes W.heap.size K w' d c)∧Flow.Grow W w':=by
 have HF:=Lib.hid hf;have HV:=Lib.hid hv;have HBe:=Lib.hid hB;have HR2:=Lib.hid hr2;obtain ⟨af,cf,rfl,_⟩:=id hf;obtain ⟨am,cm,rfl⟩:=hv.val;clear hf hv hB hr2;rw [hfn] at HF ⊢;have Hfn:=Lib.hid hfn;clear hfn;obtain ⟨n,hn⟩:∃ n,n=rows.length:=⟨_,rfl⟩;have Hn:=Lib.hid hn;rw [← hn] at hr1 h1 hS HF HV ⊢;clear hn;have Hmake:=Lib.hid (Qe2 K (by omega));obtain ⟨i0,hi,hz0,hz1,hz2⟩:=info_parts Qe7;obtain ⟨i1,hi1,hy0,hy1,hy2⟩:=info_parts Qd2;go_enter Tryz.func56,Tryz.ntmps56;go_upto_region 1 with fail;have HB0:Hid (((W.alloc (.cells #[.int .i64 K,.int .i64 S,.slice af n cf,.slice am n cm] 99)).alloc (.cells #[.int .i64 0,.int .i64 0,.slice none 0 0,.slice none 0 0] 27)).heap[W.heap.size]?=some (.cells #[.int .i64 K,.int .i64 S,.slice af n cf,.slice am n cm] 99 (0,0))):=Lib.hid (by
  rw [Below.heap_alloc _ _ _ (by simp)];exact heap_alloc_new _ _)
 have HB1:Hid (((W.alloc (.cells #[.int .i64 K,.int .i64 S,.slice af n cf,.slice am n cm] 99)).alloc (.cells #[.int .i64 0,.int .i64 0,.slice none 0 0,.slice none 0 0] 27)).heap[W.heap.size+1]?=some (.cells #[.int .i64 0,.int .i64 0,.slice none 0 0,.slice none 0 0] 27 (0,0))):=Lib.hid (Qbl _ _ _);have HG0:Hid (Flow.Grow W ((W.alloc (.cells #[.int .i64 K,.int .i64 S,.slice af n cf,.slice am n cm] 99)).alloc (.cells #[.int .i64 0,.int .i64 0,.slice none 0 0,.slice none 0 0] 27))):=Lib.hid ((Flow.grow_alloc _ _).trans (Flow.grow_alloc _ _));generalize (W.alloc (.cells #[.int .i64 K,.int .i64 S,.slice af n cf,.slice am n cm] 99)).alloc (.cells #[.int .i64 0,.int .i64 0,.slice none 0 0,.slice none 0 0] 27)=w1 at *;obtain ⟨X,hX⟩:∃ X,X=W.heap.size:=⟨_,rfl⟩;rw [← hX] at HB0 HB1 ⊢;have HX:=Lib.hid hX;clear hX;have CX:Hid (∀ wq,Flow.Grow w1 wq→wq.cell? ⟨X,0,none⟩=some (.int .i64 K)∧wq.cell? ⟨X,1,none⟩=some (.int .i64 S)∧wq.cell? ⟨X,2,none⟩=some (.slice af n cf)∧wq.cell? ⟨X,3,none⟩=some (.slice am n cm)):=Lib.hid (fun wq g=>by
  have hb:wq.heap[X]?=_:=(g.block _ (Array.getElem?_eq_some_iff.1 HB0.out).1 (by simp)).trans HB0.out;exact ⟨(cell_of_row wq _ 0 _ _ _ hb).trans rfl,(cell_of_row wq _ 1 _ _ _ hb).trans rfl,(cell_of_row wq _ 2 _ _ _ hb).trans rfl,(cell_of_row wq _ 3 _ _ _ hb).trans rfl⟩)
 have CR:Hid (∀ wq,Flow.Grow w1 wq→wq.heap[X+1]?=some (.cells #[.int .i64 0,.int .i64 0,.slice none 0 0,.slice none 0 0] 27 (0,0))):=Lib.hid (fun wq g=>(g.block _ (Array.getElem?_eq_some_iff.1 HB1.out).1 (by simp)).trans HB1.out);obtain ⟨c0,c1,c2,c3⟩:=CX.out w1 (Flow.grow_refl _);have HMay:Hid (Calls Tryz.prog 75 #[.agg #[.int .i64 K,.int .i64 S,.slice af n cf,.slice am n cm]] w1 fun e w'=>e=.returned (.bool (!rows.any (Pr.badMoves K n)))∧Flow.Grow w1 w'):=Lib.hid
  (Qyi _ _ K S n fin rows w1 (by omega) (by rw [Hfn.out,← Hn.out]) Hn.out.symm h1 (by omega) (by omega) (by omega) (fun r hr=>by have:=HR2.out r hr;omega) (HF.out.grow HG0.out) (HV.out.grow HG0.out))
 cases hbad:rows.any (Pr.badMoves K n) with
 | true =>
  rw [hbad] at HMay;clear hbad;go_wp2_with (go_at_call 75;refine HMay.out.mono ?_;rintro e w2 ⟨rfl,hg⟩;have HG2:=Lib.hid hg;clear hg;have r2:=CR.out w2 HG2.out;have q0:=(cell_of_row w2 _ 0 _ _ _ r2).trans rfl;have q1:=(cell_of_row w2 _ 1 _ _ _ r2).trans rfl;have q2:=(cell_of_row w2 _ 2 _ _ _ r2).trans rfl;have q3:=(cell_of_row w2 _ 3 _ _ _ r2).trans rfl;have f0:=frozen_of_row w2 (X+1) 0 _ _ r2;have f1:=frozen_of_row w2 (X+1) 1 _ _ r2;have f2:=frozen_of_row w2 (X+1) 2 _ _ r2;have f3:=frozen_of_row w2 (X+1) 3 _ _ r2;clear r2);refine bodyPost_ret (Qj1 _ _ (X+1) _ _ _ _ _ rfl rfl (Qba _ _ _ _ (CR.out w2 HG2.out))) rfl ⟨⟨_,_,rfl,.inl ⟨by decide,rfl⟩⟩,?_⟩;exact Qa2 _ _ _ _ (HG0.out.trans HG2.out) (by rw [HX.out];omega)
 | false =>
  rw [hbad] at HMay;clear hbad;go_upto_region 3 with (go_at_call 75;refine HMay.out.mono ?_;rintro e w2 ⟨rfl,hg⟩;have HG2:=Lib.hid hg;clear hg);clear c0 c1 c2 c3 HMay;obtain ⟨c0,c1,c2,c3⟩:=CX.out w2 HG2.out;have HI1:Hid (Ints (w2.alloc (.cells #[.int .i64 S] 3)) (.slice (some ⟨w2.heap.size,0,none⟩) 1 1) [(S:Int)]):=Lib.hid (Qbz (Ql3 (Nat.le_refl _) (heap_alloc_new _ _)) rfl);have HGc:Hid (Flow.Grow W (w2.alloc (.cells #[.int .i64 S] 3))):=Lib.hid ((HG0.out.trans HG2.out).trans (Flow.grow_alloc _ _));go_upto_region 4 with (go_at_call 76;refine (Qh1 K S (.slice af n cf) (.slice am n cm) _ rows [(S:Int)] _ (by rw [← Hn.out];exact hr1) HR2.out (by simp) ⟨_,_,_,rfl⟩ (HV.out.grow HGc.out) HI1.out).mono ?_;rintro e w3 ⟨⟨v0,z0,rfl,ho,hl⟩,hg⟩;rw [← Hn.out] at hl;obtain ⟨a0,k0,rfl⟩:=Qah ho;have HO:=Lib.hid ho;have HG3:=Lib.hid hg;clear ho hg);obtain ⟨y0,hy0⟩:∃ y,y=z0.length:=⟨_,rfl⟩;have Hy0:=Lib.hid hy0;rw [← hy0] at HO hl ⊢;clear hy0 c0 c1 c2 c3 HI1;have HSb:Hid ((w3.alloc (.cells #[.slice a0 y0 k0] 49)).heap[w3.heap.size]?=some (.cells #[.slice a0 y0 k0] 49 (0,0))):=Lib.hid (heap_alloc_new _ _);have HMb:Hid (Pr.MapW ((w3.alloc (.cells #[.slice a0 y0 k0] 49)).alloc (.map #[] 0)) (w3.heap.size+1) 0 (.map [])):=Lib.hid (by simpa using World.ownsMap_made (w3.alloc (.cells #[.slice a0 y0 k0] 49)) Tryz.prog 9 (plainElem (H:=Unit) Tryz.prog 3));have HG4:Hid (Flow.Grow w3 ((w3.alloc (.cells #[.slice a0 y0 k0] 49)).alloc (.map #[] 0))):=Lib.hid ((Flow.grow_alloc _ _).trans (Flow.grow_alloc _ _));have HI0:Hid (Ints ((w3.alloc (.cells #[.slice a0 y0 k0] 49)).alloc (.map #[] 0)) (.slice a0 y0 k0) z0):=Lib.hid (by
   exact Qbz (Qab HO.out HG4.out) Hy0.out)
  have s0:((w3.alloc (.cells #[.slice a0 y0 k0] 49)).alloc (.map #[] 0)).cell? ⟨w3.heap.size,0,none⟩=some (.slice a0 y0 k0):=(cell_of_row _ _ 0 _ _ _ (((Flow.grow_alloc _ _).block _ (by simp) (by simp)).trans HSb.out)).trans rfl;have hmm:=@run_makeMap Tryz.prog;go_upto_region 5 with (first
   | (go_at_call 77;refine (Qlf _ z0 _ (by rw [← Hy0.out];omega) HI0.out).mono ?_;rintro e w4 ⟨rfl,hg⟩;have HG5:=Lib.hid hg;clear hg)
   | (have hmk:=HG5;clear hmk;refine Qci _ rfl _ _ _ 81 rfl 9 3 Qbg Tryz.underlying81 _ (w3.heap.size+1) 0 (.map []) rfl (World.ownsMap.kept (row:=none) HMb.out HG5.out (by simp)) (by unfold maxLen;omega) (.string (str (Pr.kbs z0 z0.length))) (.int .i64 0) _ rfl rfl (Qed _ (by rw [Pr.kbs_len];have:=Hy0.out;omega)) _ [] (plainElem_int Tryz.underlying3 (by decide)) ?_;intro w5 hm5 hk5;have HM5:=Lib.hid hm5;have HK5:=Lib.hid hk5;clear hm5 hk5))
  clear hmm s0 HMb HI0;obtain ⟨M,hM⟩:∃ M,M=w3.heap.size+1:=⟨_,rfl⟩;have HG6:Hid (Flow.Grow w3 w4):=Lib.hid (HG4.out.trans HG5.out);have HSb5:Hid (w5.heap[w3.heap.size]?=some (.cells #[.slice a0 y0 k0] 49 (0,0))):=Lib.hid (by
   have h2:=HG5.out.size;rw [HK5.out.block _ (by simp at h2 ⊢;omega) (by simp),HG5.out.block _ (by simp;omega) (by simp),Below.heap_alloc _ _ _ (by simp)];exact HSb.out)
  rw [← hM] at HM5 HK5 ⊢;have HMs:=Lib.hid hM;clear hM HSb HG4 HG5;have HG3w:Hid (Flow.Grow w1 w3):=Lib.hid ((HG2.out.trans (Flow.grow_alloc _ _)).trans HG3.out);have HG5w:Hid (Flow.Grow w1 w5):=Lib.hid (Qap (HG3w.out.trans HG6.out) HK5.out (fun b e=>by injection e with e;have h1:=HG3w.out.size;have h2:=HMs.out;omega));obtain ⟨c0,_,_,_⟩:=CX.out w5 HG5w.out;have HI5:Hid (Ints w5 (.slice a0 y0 k0) z0):=Lib.hid (Qbz (Qab HO.out HG6.out |> fun h=>h.kept HK5.out (by
   cases hb:(Value.slice a0 y0 k0).ownBlock with
   | none=>exact .inl rfl
   | some b=>right;intro e;injection e with e;have h1:=(HO.out.lt b hb).2;have h2:=HMs.out;omega)) Hy0.out)
  have HO5:Hid (w5.ownsRow w2.heap.size 3 1 (.slice a0 y0 k0) y0 (z0.map (Value.int .i64))):=Lib.hid (Pr.own_mono ((Qab HO.out HG6.out).kept HK5.out (by
   cases hb:(Value.slice a0 y0 k0).ownBlock with
   | none=>exact .inl rfl
   | some b=>right;intro e;injection e with e;have h1:=(HO.out.lt b hb).2;have h2:=HMs.out;omega)) (by simp))
  go_upto_region 6 with fail;have HGa:Hid (Flow.Grow w5 (w5.alloc (.cells #[.int .i64 K,.int .i64 0,.slice none 0 0,.slice none 0 0] 27))):=Lib.hid (Flow.grow_alloc _ _);have HDO:Hid (Pr.DetOf w1 (w5.alloc (.cells #[.int .i64 K,.int .i64 0,.slice none 0 0,.slice none 0 0] 27)) w2.heap.size w5.heap.size M K 1 (.slice (some ⟨w3.heap.size,0,none⟩) 1 1) (.slice none 0 0) (.slice none 0 0) [.slice a0 y0 k0] [] [] [] ((DataW.map []).put (Mo.kl (str (Pr.kbs z0 z0.length))) (.lit (.int .i64 0)))):=Lib.hid
   { d:=⟨heap_alloc_new _ _,World.ownsRow_nil _ _ _ _,World.ownsRow_nil _ _ _ _,rfl,by simp,by simp⟩
     s:=⟨Ql3 (by have h1:=HG3.out.size;simp at h1;omega) ((HGa.out.block _ (Array.getElem?_eq_some_iff.1 HSb5.out).1 (by simp)).trans HSb5.out),fun j hj=>by
      obtain rfl:j=0:=by simpa using hj
      refine ⟨z0,by rw [← Hy0.out];omega,?_⟩;have h1:=Qab HO5.out HGa.out;rw [Hy0.out] at h1;rw [Hy0.out];exact h1⟩
     m:=World.ownsMap.kept (row:=none) HM5.out HGa.out (by simp)
     apart:=.inr (by simp [Value.ownBlock])
     g:=HG5w.out.trans HGa.out
     hB:=HG2.out.size
     hG:=HG5w.out.size
     hM:=by have h1:=HG3w.out.size;have h2:=HMs.out;omega }
  clear HI5 HO5 HM5 HK5 HSb5 HG6 c0;generalize w5.alloc (.cells #[.int .i64 K,.int .i64 0,.slice none 0 0,.slice none 0 0] 27)=w6 at *;obtain ⟨G,hG⟩:∃ G,G=w5.heap.size:=⟨_,rfl⟩;obtain ⟨B,hB⟩:∃ B,B=w2.heap.size:=⟨_,rfl⟩;rw [← hG,← hB] at HDO;rw [← hG];have HGs:=Lib.hid hG;generalize ((DataW.map []).put (Mo.kl (str (Pr.kbs z0 z0.length))) (.lit (.int .i64 0)):DataW Unit)=D0 at *;clear hG hB HGa HMs HO Hy0;go_wp2_with fail;go_loopw [4,7] (fun vs i wr=>∃ (j:Nat) (vf vn:Value) (ss:List Value) (fin':List Bool) (rows':List (List Int)) (rs:List Nat) (D:DataW Unit),j≤ss.length∧1≤ss.length∧ss.length≤2000∧i=.int .i64 j∧fin'.length=j∧rows'.length=j∧Hid (Pr.DetOf w1 wr B G M K ss.length vs vf vn ss fin' rows' rs D)) (fun _ i _=>2001 - (intOf i).toNat)
  case atStart=>exact ⟨0,_,_,[.slice a0 y0 k0],[],[],[],_,by simp,by simp,by simp,rfl,rfl,rfl,HDO⟩
  case round =>
   obtain ⟨j,vf,vn,ss,fin',rows',rs,D,hj,hs1,hs2,rfl,hf',hr',HD⟩:=hrel
   rename World=>wo
   obtain ⟨vq,hvq⟩:∃ v,v=u4:=⟨_,rfl⟩;obtain ⟨sa,sc,hsa⟩:=Qah HD.out.s.own;subst hsa;clear hvq;obtain ⟨sn,hsn⟩:∃ sn,sn=ss.length:=⟨_,rfl⟩;have Hsn:=Lib.hid hsn;rw [← hsn] at hj hs1 hs2 HD ⊢;clear hsn;by_cases hjs:j < sn
   ·obtain ⟨c0,_,_,_⟩:=CX.out wo HD.out.g;have hmake:=Hmake.out wo;go_wp2_with fail;clear hmake c0;have HR:Hid (∃ row,Pr.DetIn w1 (wo.alloc (.cells (Qaj (List.replicate K 0)) 3)) B G M K sn (.slice sa sn sc) vf vn ss fin' rows' rs D wo.heap.size row):=Lib.hid ⟨_,HD.out.mkRow (heap_alloc_new _ _) (by simp)⟩;obtain ⟨R,hR⟩:∃ R,R=wo.heap.size:=⟨_,rfl⟩;rw [← hR] at HR ⊢;clear hR;generalize wo.alloc (.cells (Qaj (List.replicate K 0)) 3)=w8 at *;clear HD;go_loopw [45] (fun i wr=>∃ c:Nat,c≤K∧i=.int .i64 c∧Hid (∃ row,Pr.DetIn w1 wr B G M K sn (.slice sa sn sc) vf vn ss fin' rows' rs D R row)) (fun i _=>K - (intOf i).toNat)
    case atStart=>exact ⟨0,by omega,rfl,HR⟩
    case round =>
     clear HR;obtain ⟨c,hc,rfl,HR⟩:=hrel;obtain ⟨row,hrow⟩:=HR.out;have HRo:=Lib.hid hrow;have hlr:=hrow.rl;by_cases hcK:c < K
     ·have y0:=(cell_of_row _ R c _ _ _ hrow.hb).trans (Qa1 (by omega));have f0:=frozen_of_row _ R c _ _ hrow.hb;clear hrow hlr HR;go_wp2_with fail;go_roundw
      case rel=>exact ⟨c+1,by omega,by go_num,Lib.hid ⟨_,HRo.out.set c (-1)⟩⟩
      case measure=>simp [intOf];omega
     ·obtain rfl:K=c:=by omega
      clear hrow hlr HR;go_upto_region 15 with fail;obtain ⟨g0,a1,k1,zs,rfl,hcs,_,hzl,hzi⟩:=HRo.out.s.at_ (j:=j) (by rw [← Hsn.out];exact hjs);have HKS:Hid (∀ wq,Flow.Grow wr wq→wq.cell? ⟨X,0,none⟩=some (.int .i64 K)∧wq.cell? ⟨X,1,none⟩=some (.int .i64 S)∧wq.cell? ⟨X,2,none⟩=some (.slice af n cf)∧wq.cell? ⟨X,3,none⟩=some (.slice am n cm)∧wq.cell? ⟨g0,j,none⟩=some (.slice a1 zs.length k1)):=Lib.hid (fun wq g=>by
       obtain ⟨h1,h2,h3,h4⟩:=CX.out wq (HRo.out.g.trans g);exact ⟨h1,h2,h3,h4,Xm2.cell_grow g hcs⟩)
      have HEO:Hid (∀ wq,Flow.Grow wr wq→Calls Tryz.prog 78 #[.agg #[.int .i64 K,.int .i64 S,.slice af n cf,.slice am n cm],.slice a1 zs.length k1] wq fun e w'=>(∃ (v':Value) (zs:List Int),e=.returned v'∧w'.ownsRow wq.heap.size 3 1 v' zs.length (zs.map (Value.int .i64))∧zs.length≤10000∧∀ z∈zs,0≤z∧z < K)∧Flow.Grow wq w'):=Lib.hid (fun wq g =>
       Qud K S K _ _ _ rows zs wq (by rw [← Hn.out];exact hr1) HR2.out hzl HBe.out ⟨_,_,_,rfl⟩ (HV.out.grow (HG0.out.trans (HRo.out.g.trans g))) (hzi.grow g))
      generalize zs.length=m at *;obtain ⟨d0,d1,d2,d3,d4⟩:=HKS.out wr (Flow.grow_refl _);go_region_held3 (fun w'=>w'.cell? ⟨X,0,none⟩=some (.int .i64 K)∧w'.cell? ⟨X,1,none⟩=some (.int .i64 S)∧w'.cell? ⟨X,2,none⟩=some (.slice af n cf)∧w'.cell? ⟨X,3,none⟩=some (.slice am n cm)∧w'.cell? ⟨g0,j,none⟩=some (.slice a1 m k1))
       (first
         | (with_reducible exact HKS.out _ (Flow.grow_refl _))
         | (with_reducible exact HKS.out _ (Flow.grow_drew _))
         | (with_reducible exact HKS.out _ ((Flow.grow_drew _).trans HG9.out)))
       ((go_at_call 78;refine (HEO.out _ (by first | with_reducible exact Flow.grow_refl _ | with_reducible exact Flow.grow_drew _)).mono ?_;rintro e w9 ⟨⟨v9,z9,rfl,ho,hl9,hz9⟩,hg⟩;obtain ⟨a9,k9,rfl⟩:=Qah ho;have HO9:=Lib.hid ho;have HZ9:=Lib.hid hz9;have HG9:=Lib.hid hg;clear ho hz9 hg))
      have HN9:Hid ((Value.slice a9 z9.length k9).ownBlock≠some R):=Lib.hid (fun e=>by
       have h1:=(HO9.out.lt _ e).1;have h2:=(Array.getElem?_eq_some_iff.1 HRo.out.hb).1;simp at h1;omega)
      have HR9:Hid (∃ row,Pr.DetIn w1 w9 B G M K sn (.slice (some ⟨g0,0,none⟩) sn sc) vf vn ss fin' rows' rs D R row):=Lib.hid ⟨_,HRo.out.grow ((Flow.grow_drew _).trans HG9.out)⟩;have HO9':Hid (w9.ownsRow B 3 1 (.slice a9 z9.length k9) z9.length (z9.map (Value.int .i64))):=Lib.hid (Pr.own_mono HO9.out (by
       have h1:=(HRo.out.s.own.lt g0 rfl);simp;omega))
      obtain ⟨on,hon⟩:∃ on,on=z9.length:=⟨_,rfl⟩;have Hon:=Lib.hid hon;rw [← hon] at hl9 HN9 HO9' ⊢;clear hon HO9 HG9 HKS HEO d0 d1 d2 d3 d4 hcs hzi hzl HRo;go_wp2_with fail;go_loopw [4,59] (fun vs i wr=>∃ (c:Nat) (ss':List Value) (D':DataW Unit),c≤on∧i=.int .i64 c∧sn≤ss'.length∧ss'.length≤sn+c∧Hid (∃ row,Pr.DetIn w1 wr B G M K ss'.length vs vf vn ss' fin' rows' rs D' R row)∧Hid (wr.ownsRow B 3 1 (.slice a9 on k9) on (z9.map (Value.int .i64)))) (fun _ i _=>on - (intOf i).toNat)
      case atStart=>exact ⟨0,ss,D,by omega,rfl,by rw [← Hsn.out];omega,by rw [← Hsn.out];omega,by rw [← Hsn.out];exact HR9,HO9'⟩
      case round =>
       clear HR9 HO9';obtain ⟨c,ss',D',hc',rfl,hs3,hs4,HR,HO⟩:=hrel
       rename World=>wi
       obtain ⟨row',hrow⟩:=HR.out;have HRo:=Lib.hid hrow;obtain ⟨vq',hvq⟩:∃ v,v=u4:=⟨_,rfl⟩;obtain ⟨sa,sc',hsa⟩:=Qah HRo.out.s.own;subst hsa;clear hvq hrow HR;by_cases hco:c < on
       ·obtain ⟨kb,ko,rfl,q0⟩:=Qa8 (Qbz HO.out Hon.out) (j:=c) (by rw [← Hon.out];exact hco);have hkr:=HZ9.out (z9.getD c 0) (Qa5 (by rw [← Hon.out];exact hco));generalize z9.getD c 0=ks at *;obtain ⟨x,rfl⟩:∃ x:Nat,ks=(x:Int):=⟨ks.toNat,by omega⟩;have hxK:x < K:=by omega
        clear hkr;obtain ⟨g1,a2,k2,zt,rfl,hcs,_,hzl,hzi⟩:=HRo.out.s.at_ (j:=j) (by omega);obtain ⟨tn,htn⟩:∃ tn,tn=ss'.length:=⟨_,rfl⟩;have Htn:=Lib.hid htn;rw [← htn] at hs3 hs4 HRo ⊢;clear htn;have hjt:j < tn:=by omega
        go_upto_region 18 with fail;clear q0;have HKS:Hid (∀ wq,Flow.Grow wi wq→wq.cell? ⟨X,0,none⟩=some (.int .i64 K)∧wq.cell? ⟨X,1,none⟩=some (.int .i64 S)∧wq.cell? ⟨X,2,none⟩=some (.slice af n cf)∧wq.cell? ⟨X,3,none⟩=some (.slice am n cm)∧wq.cell? ⟨g1,j,none⟩=some (.slice a2 zt.length k2)):=Lib.hid (fun wq g=>by
         obtain ⟨h1,h2,h3,h4⟩:=CX.out wq (HRo.out.g.trans g);exact ⟨h1,h2,h3,h4,Xm2.cell_grow g hcs⟩)
        have HES:Hid (∀ wq,Flow.Grow wi wq→Calls Tryz.prog 79 #[.agg #[.int .i64 K,.int .i64 S,.slice af n cf,.slice am n cm],.slice a2 zt.length k2,.int .i64 (x:Int)] wq fun e w'=>(∃ (v':Value) (zs:List Int),e=.returned v'∧w'.ownsRow wq.heap.size 3 1 v' zs.length (zs.map (Value.int .i64))∧zs.length≤10000)∧Flow.Grow wq w'):=Lib.hid (fun wq g =>
         Qq1 K S x _ _ _ rows zt wq (by rw [← Hn.out];exact hr1) HR2.out hzl ⟨_,_,_,rfl⟩ (HV.out.grow (HG0.out.trans (HRo.out.g.trans g))) (hzi.grow g))
        have HEC:Hid (∀ wq vq zq,Flow.Grow wi wq→Ints wq vq zq→zq.length≤10000→Calls Tryz.prog 76 #[.agg #[.int .i64 K,.int .i64 S,.slice af n cf,.slice am n cm],vq] wq fun e w'=>(∃ (v':Value) (zs:List Int),e=.returned v'∧w'.ownsRow wq.heap.size 3 1 v' zs.length (zs.map (Value.int .i64))∧zs.length≤rows.length)∧Flow.Grow wq w'):=Lib.hid (fun wq vq zq g hi hl =>
         Qh1 K S _ _ _ rows zq wq (by rw [← Hn.out];exact hr1) HR2.out (by omega) ⟨_,_,_,rfl⟩ (HV.out.grow (HG0.out.trans (HRo.out.g.trans g))) hi)
        generalize zt.length=m at *;obtain ⟨d0,d1,d2,d3,d4⟩:=HKS.out wi (Flow.grow_refl _);go_region_held3 (fun w'=>w'.cell? ⟨X,0,none⟩=some (.int .i64 K)∧w'.cell? ⟨X,1,none⟩=some (.int .i64 S)∧w'.cell? ⟨X,2,none⟩=some (.slice af n cf)∧w'.cell? ⟨X,3,none⟩=some (.slice am n cm)∧w'.cell? ⟨g1,j,none⟩=some (.slice a2 m k2))
         (first
           | (with_reducible exact HKS.out _ (Flow.grow_refl _))
           | (with_reducible exact HKS.out _ (Flow.grow_drew _))
           | (with_reducible exact HKS.out _ ((Flow.grow_drew _).trans HGa.out))
           | (with_reducible exact HKS.out _ (((Flow.grow_drew _).trans HGa.out).trans HGb.out)))
         (first
           | (go_at_call 79;refine (HES.out _ (by first | with_reducible exact Flow.grow_refl _ | with_reducible exact Flow.grow_drew _)).mono ?_;rintro e wa ⟨⟨va,za,rfl,ho,hla⟩,hg⟩;obtain ⟨aa,ka,rfl⟩:=Qah ho;have HIa:=Lib.hid (Qbz ho rfl);have HGa:=Lib.hid hg;clear ho hg)
           | (go_at_call 76;refine (HEC.out _ _ _ (by first | with_reducible exact (Flow.grow_drew _).trans HGa.out) HIa.out hla).mono ?_;rintro e wb ⟨⟨vb,zb,rfl,ho,hlb⟩,hg⟩;obtain ⟨ab,ek,rfl⟩:=Qah ho;have HOb:=Lib.hid ho;have HGb:=Lib.hid hg;clear ho hg))
        have HGw:Hid (Flow.Grow wi wb):=Lib.hid (((Flow.grow_drew _).trans HGa.out).trans HGb.out);have HRb:=Lib.hid (HRo.out.grow HGw.out);have HObB:Hid (wb.ownsRow B 3 1 (.slice ab zb.length ek) zb.length (zb.map (Value.int .i64))):=Lib.hid (Pr.own_mono HOb.out (by
         have h1:=(HRo.out.s.own.lt g1 rfl);have h2:=((Flow.grow_drew wi).trans HGa.out).size;omega))
        have HObR:Hid ((Value.slice ab zb.length ek).ownBlock≠some R):=Lib.hid (fun e=>by
         have h1:=(HOb.out.lt _ e).1;have h2:=(Array.getElem?_eq_some_iff.1 HRo.out.hb).1;have h3:=((Flow.grow_drew wi).trans HGa.out).size;omega)
        have HOo:Hid (wb.ownsRow B 3 1 (.slice (some ⟨kb,ko,none⟩) on k9) on (z9.map (Value.int .i64))):=Lib.hid (Qab HO.out HGw.out);rw [← Hn.out] at hlb;clear HO HRo HOb HGa HGb HGw HIa hla HES HEC HKS d0 d1 d2 d3 d4 hcs hzi hzl;obtain ⟨bn,hbn⟩:∃ bn,bn=zb.length:=⟨_,rfl⟩;have Hbn:=Lib.hid hbn;rw [← hbn] at hlb HObB HObR ⊢;clear hbn;have HDK:Hid (∀ wq,Flow.Grow wb wq→Calls Tryz.prog 77 #[.slice ab bn ek] wq fun e w'=>e=.returned (.string (str (Pr.kbs zb bn)))∧Flow.Grow wq w'):=Lib.hid (fun wq g=>by
         rw [Hbn.out];exact Qlf _ zb _ (by rw [← Hbn.out];omega) (Qbz (Qab HObB.out g) Hbn.out |> fun h=>by rw [Hbn.out] at h;exact h))
        have HKL:Hid ((Pr.kbs zb bn).length≤1000000):=Lib.hid (by rw [Pr.kbs_len];omega);generalize Pr.kbs zb bn=kt at *;cases hh:Maps.has D' (Mo.kl (str kt)) with
        | true =>
         have Hh:=Lib.hid hh;clear hh;go_upto_region 24 with (first
          | (go_at_call 77;refine (HDK.out _ (Flow.grow_refl _)).mono ?_;rintro e wk ⟨rfl,hg⟩;have HGk:=Lib.hid hg;have HMk:=Lib.hid (HRb.out.grow hg).m;clear hg)
          | (at_lookup;refine wpList_lookup_own_ok_int _ rfl _ _ 81 rfl 9 3 .i64 Qbg Tryz.underlying81 Tryz.underlying3 (Qdh _) M tn D' rfl HMk.out (.string (str kt)) _ rfl (Qed _ HKL.out) ?_;intro cc hat hwc;rw [Hh.out];clear hat))
         have HRk:=Lib.hid (HRb.out.grow HGk.out);have y0:=(cell_of_row _ R x _ _ _ HRk.out.hb).trans (Qa1 (by rw [HRk.out.rl];exact hxK));have f0:=frozen_of_row _ R x _ _ HRk.out.hb;have HOk:=Lib.hid ((Qab HOo.out HGk.out).kept (Qad wk R x (.int .i64 cc)) (.inr HN9.out));clear HDK HMk HGk HRb HOo;go_wp2_with fail;go_roundw
         case rel=>exact ⟨c+1,ss',D',by omega,by go_num,by rw [← Htn.out];omega,by rw [← Htn.out];omega,by rw [← Htn.out];exact Lib.hid ⟨_,HRk.out.set x cc⟩,HOk⟩
         case measure=>simp [intOf];omega
        | false =>
         have Hh:=Lib.hid hh;clear hh;go_upto_region 23 with (first
          | (have hmk:=HGk;go_at_call 77;refine (HDK.out _ HGk.out).mono ?_;rintro e wk2 ⟨rfl,hg⟩;have HGk2:=Lib.hid (HGk.out.trans hg);have HMk2:=Lib.hid (HRb.out.grow (HGk.out.trans hg)).m;clear hg)
          | (go_at_call 77;refine (HDK.out _ (Flow.grow_refl _)).mono ?_;rintro e wk ⟨rfl,hg⟩;have HGk:=Lib.hid hg;have HMk:=Lib.hid (HRb.out.grow hg).m;clear hg)
          | (at_lookup;refine wpList_lookup_own_ok_int _ rfl _ _ 81 rfl 9 3 .i64 Qbg Tryz.underlying81 Tryz.underlying3 (Qdh _) M tn D' rfl HMk.out (.string (str kt)) _ rfl (Qed _ HKL.out) ?_;intro cc hat hwc;rw [Hh.out];clear hat)
          | (at_mapUpdate;refine wpList_mapUpdate_own _ rfl _ _ _ 81 rfl 9 3 Qbg Tryz.underlying81 _ M tn D' rfl HMk2.out (by unfold maxLen;omega) (.string (str kt)) (.int .i64 (tn:Int)) _ rfl rfl (Qed _ HKL.out) _ [] (plainElem_int Tryz.underlying3 (WalkArith.wf_i64 (by omega))) ?_;intro wm hm hk;have HRm:=Lib.hid ((HRb.out.grow HGk2.out).upd hk hm);have HKm:=Lib.hid hk;clear hm hk))
         have HOm:Hid (wm.ownsRow B 3 1 (.slice ab bn ek) bn (zb.map (Value.int .i64))):=Lib.hid ((Qab HObB.out HGk2.out).kept HKm.out (.inr (by
          obtain ⟨es,cl,hb⟩:=World.ownsMap.at_ HMk2.out;exact Pr.own_map (Qab HObB.out HGk2.out) hb)))
         have HO9m:Hid (wm.ownsRow B 3 1 (.slice (some ⟨kb,ko,none⟩) on k9) on (z9.map (Value.int .i64))):=Lib.hid ((Qab HOo.out HGk2.out).kept HKm.out (.inr (by
          obtain ⟨es,cl,hb⟩:=World.ownsMap.at_ HMk2.out;exact Pr.own_map (Qab HOo.out HGk2.out) hb)))
         have HSm:Hid (wm.ownsRow B 49 1 (.slice (some ⟨g1,0,none⟩) tn sc') tn ss'):=Lib.hid (by have h1:=HRm.out.s.own;rw [← Htn.out] at h1;exact h1);have hBm:B≤wm.heap.size:=by have h1:=(HSm.out.lt g1 rfl);omega
         clear HDK HMk HMk2 HGk HGk2 HRb HOo HKm HObB;go_upto_region 24 with (at_builtin;refine Qbp B rfl _ _ 25 rfl 49 i0 (.slice none 0 0) 24 Tryz.underlying25 hi hz0 hz1 hz2 rfl _ tn ss' rfl (Qab HSm.out (Flow.grow_alloc _ _)) (by simp;omega) _ (.slice ab bn ek) 49 rfl (heap_alloc_new _ _) rfl (by omega) (by decide) ?_;intro g c2 w' hO hk hat;have HOp:=Lib.hid hO;have HKp:=Lib.hid hk;have HAp:=Lib.hid hat;clear hO hk hat);have HRp:Hid (Pr.DetIn w1 w' B G M K (tn+1) (.slice (some ⟨g,0,none⟩) (tn+1) c2) vf vn (ss'++[.slice ab bn ek]) fin' rows' rs _ R row'):=Lib.hid (by
          have h1:=HRm.out.grow (Flow.grow_alloc wm (.cells #[.slice ab bn ek] 49));have h2:=Qab HOm.out (Flow.grow_alloc wm (.cells #[.slice ab bn ek] 49));have h3:=HOp.out;rw [Hbn.out] at h1 h2 h3;rw [Htn.out] at h3;have h4:=h1.app (zs:=zb) (v:=.slice ab zb.length ek) (by rw [← Hbn.out];omega) h2 (by rw [← Hbn.out];exact HObR.out) h3 (by have h5:=HKp.out;rw [Hbn.out] at h5;exact h5) (by have h5:=HAp.out;rw [Hbn.out] at h5;exact h5);rw [← Htn.out,← Hbn.out] at h4;exact h4)
         have HO9p:Hid (w'.ownsRow B 3 1 (.slice (some ⟨kb,ko,none⟩) on k9) on (z9.map (Value.int .i64))):=Lib.hid ((Qab HO9m.out (Flow.grow_alloc _ _)).kept HKp.out (Pr.own_apart HO9m.out HSm.out (by decide)));clear HRm HOm HO9m HSm HOp HKp HAp;have y0:=(cell_of_row _ R x _ _ _ HRp.out.hb).trans (Qa1 (by rw [HRp.out.rl];exact hxK));have f0:=frozen_of_row _ R x _ _ HRp.out.hb;have HOk:=Lib.hid (HO9p.out.kept (Qad w' R x (.int .i64 (tn:Int))) (.inr HN9.out));have HRq:=Lib.hid (HRp.out.set x (tn:Int));clear HRp HO9p;go_wp2_with fail;go_roundw
         case rel=>exact ⟨c+1,ss'++[.slice ab bn ek],_,by omega,by go_num,by rw [List.length_append,← Htn.out];omega,by rw [List.length_append,← Htn.out];simp;omega,by rw [List.length_append,← Htn.out];exact Lib.hid ⟨_,HRq.out⟩,HOk⟩
         case measure=>simp [intOf];omega
       ·obtain rfl:c=on:=by omega
        clear HO;obtain ⟨tn,htn⟩:∃ tn,tn=ss'.length:=⟨_,rfl⟩;have Htn:=Lib.hid htn;rw [← htn] at hs3 hs4 HRo ⊢;clear htn;by_cases h2000:tn≤2000
        ·have d0:decide ((tn:Int) > 2000)=false:=by simp;omega
         go_upto_region 28 with fail;obtain ⟨na,nc,rfl⟩:=Qaw HRo.out.d.nexts;have c3:=HRo.out.d.cell 3;have HOn:Hid (wi.ownsRow (G+1) 49 1 (.slice na j nc) j (rs.map fun g=>Value.slice (some ⟨g,0,none⟩) K K)):=Lib.hid (by have h1:=HRo.out.d.nexts;rw [hr'] at h1;exact h1);have Hr':=Lib.hid hr';have Hf':=Lib.hid hf';rw [hr'] at HRo c3;have hjb:j≤2000:=by omega
         have hGb:G+1≤wi.heap.size:=HRo.out.d.lt;clear hr' hf';go_upto_region 29 with (at_builtin;refine Qbp (G+1) rfl _ _ 25 rfl 49 i0 (.slice none 0 0) 24 Tryz.underlying25 hi hz0 hz1 hz2 rfl (.slice na j nc) j _ rfl (Qab HOn.out (Flow.grow_alloc _ _)) (by simp;omega) _ (.slice (some ⟨R,0,none⟩) K K) 49 rfl (heap_alloc_new _ _) rfl (by omega) (by decide) ?_;intro g c2 w' hO hk hat;have HOp:=Lib.hid hO;have HKp:=Lib.hid hk;have HAp:=Lib.hid hat;have hb1:=HRo.out.d.after hk (fun b e=>(HOn.out.lt b e).1);have y0:=(cell_of_row w' _ 3 _ _ _ hb1).trans rfl;have f0:=frozen_of_row w' G 3 _ _ hb1;clear hO hk hat hb1);have HD:Hid (Pr.DetOf w1 (w'.setCell ⟨G,3,none⟩ (.slice (some ⟨g,0,none⟩) (j+1) c2)) B G M K tn (.slice sa tn sc') vf (.slice (some ⟨g,0,none⟩) (j+1) c2) ss' fin' (rows'++[row']) (rs++[R]) D'):=Lib.hid (by
          have h1:=HOp.out;have h2:=HRo.out;have h3:=HKp.out;have h4:=HAp.out;rw [← Hr'.out] at h1 h2 h3 h4 ⊢;exact h2.done h1 h3 h4)
         generalize w'.setCell ⟨G,3,none⟩ (.slice (some ⟨g,0,none⟩) (j+1) c2)=wz at *;clear HRo HOn HOp HKp HAp y0 f0 c3;obtain ⟨fa,fc,rfl⟩:=Qaw HD.out.d.finals;have HFn:Hid (wz.ownsRow (G+1) 4 1 (.slice fa j fc) j (fin'.map Value.bool)):=Lib.hid (by have h1:=HD.out.d.finals;rw [Hf'.out] at h1;exact h1);rw [Hf'.out] at HD;obtain ⟨g1,a2,cz2,zt,rfl,hcs,hcv,hzl,hzi⟩:=HD.out.s.at_ (j:=j) (by rw [← Htn.out];omega);have hjl:j < ss'.length:=by rw [← Htn.out];omega
         have HKS:Hid (∀ wq,Flow.Grow wz wq→wq.cell? ⟨X,0,none⟩=some (.int .i64 K)∧wq.cell? ⟨X,1,none⟩=some (.int .i64 S)∧wq.cell? ⟨X,2,none⟩=some (.slice af n cf)∧wq.cell? ⟨X,3,none⟩=some (.slice am n cm)∧wq.cell? ⟨g1,j,none⟩=some (.slice a2 zt.length cz2)∧wq.cell? ⟨G,2,none⟩=some (.slice fa j fc)∧wq.frozen? ⟨G,2,none⟩=false):=Lib.hid (fun wq g=>by
          obtain ⟨h1,h2,h3,h4⟩:=CX.out wq (HD.out.g.trans g);have h5:=(HD.out.grow g).d.block;exact ⟨h1,h2,h3,h4,Xm2.cell_grow g hcs,(cell_of_row wq G 2 _ _ _ h5).trans rfl,frozen_of_row wq G 2 _ _ h5⟩)
         have HEF:Hid (∀ wq,Flow.Grow wz wq→Calls Tryz.prog 80 #[.agg #[.int .i64 K,.int .i64 S,.slice af n cf,.slice am n cm],.slice a2 zt.length cz2] wq fun e w'=>(∃ b,e=.returned (.bool b))∧Flow.Grow wq w'):=Lib.hid (fun wq g =>
          Qo8 K S _ _ _ fin zt wq (by omega) ⟨_,_,_,rfl⟩ (HF.out.grow (HG0.out.trans (HD.out.g.trans g))) (hzi.grow g))
         generalize zt.length=m2 at *;have hjt:(j:Int) < (tn:Int):=by omega
         have hGz:G+1≤wz.heap.size:=HD.out.d.lt;have HI1:=Lib.hid (And.intro hi1 (And.intro hy0 (And.intro hy1 hy2)));refine Flow.region_tail3 (R:=Flow.Grow) (C:=fun wq=>Flow.Grow wz wq) (Fs:=[.inl (.pointer (some ⟨G,2,none⟩)),.inl (.slice fa j fc),.inl (.agg #[.int .i64 K,.int .i64 S,.slice af n cf,.slice am n cm]),.inl ((.slice (some ⟨g1,0,none⟩) tn sc')),.inl ((.int .i64 (j:Int))),.inl (.pointer (some ⟨g1,j,none⟩)),.inl (.slice a2 m2 cz2),.inr (fun v w=>∃ b,v=.bool b),.inr (fun v w=>∃ b q,v=.slice (some ⟨q,0,none⟩) 1 1∧w.heap[q]?=some (.cells #[.bool b] 4 (0,0)))]) (T:=fun v w'=>∃ gp cp b,v=.slice (some ⟨gp,0,none⟩) (j+1) cp∧Hid (w'.heap[G]?=some (.cells #[.int .i64 K,.int .i64 0,.slice fa j fc,.slice (some ⟨g,0,none⟩) (j+1) c2] 27 (0,0))∧Pr.DetOf w1 (w'.setCell ⟨G,2,none⟩ v) B G M K tn (.slice (some ⟨g1,0,none⟩) tn sc') v (.slice (some ⟨g,0,none⟩) (j+1) c2) ss' (fin'++[b]) (rows'++[row']) (rs++[R]) D')) (c:=.pointer (some ⟨G,2,none⟩))
          (S:=[[],[0],[],[],[],[3,4],[3,4,5],[2,3,4,5,6],[2,3,4,5,6,7],[0,1,2,3,4,5,6,7,8]]) 9 (by kernel_rfl) rfl rfl rfl (by kernel_rfl) (by kernel_rfl) rfl ?stab29 Flow.grow_refl (fun _ _ h k=>h.trans k) (Flow.grow_drew _) ?ones29 ?app29 ?place29 ?ends29
         case ones29 =>
          refine Flow.Ones.cons ?_ ?_
          ·intro a w hC hoff _;have e6:a.eval (.tmp 6)=(.pointer (some ⟨G,0,none⟩)):=hoff.at 6 (by kernel_rfl);refine .inl ⟨Flow.want_none rfl,?_⟩;refine Flow.run_same ?_ Flow.grow_refl;have ec:=Flow.eval_const a;generalize a.eval=ρ at e6 ec ⊢;simp [execOp,e6,go_sem]
          refine Flow.Ones.cons ?_ ?_
          ·rintro a w hC hoff ⟨k0,-⟩;have e106:a.eval (.tmp 106)=.pointer (some ⟨G,2,none⟩):=k0 106 rfl;refine .inl ⟨Flow.want_none rfl,?_⟩;refine Flow.run_same ?_ Flow.grow_refl;have ec:=Flow.eval_const a;generalize a.eval=ρ at e106 ec ⊢;have hc:=(HKS.out w hC).2.2.2.2.2.1;simp [execOp,e106,hc,go_sem]
          refine Flow.Ones.cons ?_ ?_
          ·intro a w hC hoff _;have e1:a.eval (.tmp 1)=(.pointer (some ⟨X,0,none⟩)):=hoff.at 1 (by kernel_rfl);refine .inl ⟨Flow.want_none rfl,?_⟩;refine Flow.run_same ?_ Flow.grow_refl;have ec:=Flow.eval_const a;generalize a.eval=ρ at e1 ec ⊢;obtain ⟨p0,p1,p2,p3,_⟩:=HKS.out w hC;simp [execOp,e1,p0,p1,p2,p3,go_sem]
          refine Flow.Ones.cons ?_ ?_
          ·intro a w hC hoff _;have e4:a.eval (.tmp 4)=(.slice (some ⟨g1,0,none⟩) tn sc'):=hoff.at 4 (by kernel_rfl);refine .inl ⟨Flow.want_none rfl,?_⟩;exact Flow.run_same (Flow.exec_move (.inl rfl) e4) Flow.grow_refl
          refine Flow.Ones.cons ?_ ?_
          ·intro a w hC hoff _;have e7:a.eval (.tmp 7)=(.int .i64 (j:Int)):=hoff.at 7 (by kernel_rfl);refine .inl ⟨Flow.want_none rfl,?_⟩;exact Flow.run_same (Flow.exec_move (.inl rfl) e7) Flow.grow_refl
          refine Flow.Ones.cons ?_ ?_
          ·rintro a w hC hoff ⟨k3,k4,-⟩;have e109:a.eval (.tmp 109)=(.slice (some ⟨g1,0,none⟩) tn sc'):=k3 109 rfl;have e110:a.eval (.tmp 110)=(.int .i64 (j:Int)):=k4 110 rfl;refine .inl ⟨Flow.want_none rfl,?_⟩;refine Flow.run_same ?_ Flow.grow_refl;have ec:=Flow.eval_const a;generalize a.eval=ρ at e109 e110 ec ⊢;simp [execOp,e109,e110,go_sem];intro hh;omega
          refine Flow.Ones.cons ?_ ?_
          ·rintro a w hC hoff ⟨_,_,k5,-⟩;have e111:a.eval (.tmp 111)=.pointer (some ⟨g1,j,none⟩):=k5 111 rfl;refine .inl ⟨Flow.want_none rfl,?_⟩;refine Flow.run_same ?_ Flow.grow_refl;have ec:=Flow.eval_const a;generalize a.eval=ρ at e111 ec ⊢;have hc:=(HKS.out w hC).2.2.2.2.1;simp [execOp,e111,hc,go_sem]
          refine Flow.Ones.cons ?_ ?_
          ·rintro a w hC hoff ⟨k2,_,_,_,k6,-⟩;have e108:a.eval (.tmp 108)=.agg #[.int .i64 K,.int .i64 S,.slice af n cf,.slice am n cm]:=k2 108 rfl;have e112:a.eval (.tmp 112)=.slice a2 m2 cz2:=k6 112 rfl;refine .inl ⟨Flow.want_none rfl,?_⟩;exact Flow.run_call (Flow.exec_call (args:=#[(.agg #[.int .i64 K,.int .i64 S,.slice af n cf,.slice am n cm]),(.slice a2 m2 cz2)]) rfl Tryz.func80 (by kernel_rfl) (by kernel_rfl) (by simp only [List.map_toArray,List.map_cons,List.map_nil,e108,e112] <;> rfl)) ((HEF.out w hC).mono fun e w' ⟨⟨b,he⟩,hg⟩=>⟨_,he,hg,b,rfl⟩)
          refine Flow.Ones.cons ?_ ?_
          ·rintro a w hC hoff ⟨_,_,_,_,_,k7,-⟩;have e113:(fun v w=>∃ b,v=.bool b) (a.eval (.tmp 113)) w:=k7 113 rfl;refine .inl ⟨Flow.want_none rfl,?_⟩;obtain ⟨b,hb⟩:=e113;refine Flow.run_val (v:=.slice (some ⟨w.heap.size,0,none⟩) 1 1) (w':=w.alloc (.cells #[.bool b] 4)) ?_ (Flow.grow_alloc _ _) ⟨b,_,rfl,heap_alloc_new _ _⟩;generalize a.eval=ρ at hb ⊢;simp [execOp,hb,go_sem]
          exact trivial
         case place29 =>
          intro a w hoff;have e6:a.eval (.tmp 6)=(.pointer (some ⟨G,0,none⟩)):=hoff.at 6 (by kernel_rfl);generalize a.eval=ρ at e6 ⊢;simp [execOp,e6,go_sem]
         case app29 =>
          intro a w hC hoff hk;have e107:a.eval (.tmp 107)=.slice fa j fc:=hk 1 (by decide) 107 rfl;have e114:(fun v w=>∃ b q,v=.slice (some ⟨q,0,none⟩) 1 1∧w.heap[q]?=some (.cells #[.bool b] 4 (0,0))) (a.eval (.tmp 114)) w:=hk 8 (by decide) 114 rfl;obtain ⟨bx,q,hq,hrow⟩:=e114;have hd:=HD.out.grow hC;have hown:=Qab HFn.out hC;have Q:=HI1.out;refine Qg0 (P:=Tryz.prog) (.tmp 107) (.tmp 114) 24 rfl 4 i1 (.bool false) 1 1 Tryz.underlying24 Q.1 Q.2.1 Q.2.2.1 Q.2.2.2 rfl (by decide) (.slice fa j fc) j (fin'.map Value.bool) e107 (Qhs hown) ⟨q,0,none⟩ 1 1 [.bool bx] hq rfl
           (by
             intro i u hi;have c0:=(cell_of_row w q 0 _ _ _ hrow).trans rfl
             match i,hi with
             | 0,hi=>rw [← hi,Addr.add_lit];exact c0)
           (by intro u hu;simp at hu;subst hu;rfl) (by unfold maxLen;omega) (by omega) (fun v' w' h2 h3 h4=>?_)
          have h5:w'.ownsRow (G+1) 4 1 v' (j+1) (fin'.map Value.bool++[.bool bx]):=Qht h2 (fun g hg=>by
           rcases h4 with h4 | ⟨g',h4,h6⟩
           ·rw [h4] at hg;exact (hown.lt g hg).1
           ·rw [h4] at hg;injection hg with hg;have:=hC.size;omega)
          have h7:=hd.addFin' (x:=bx) (v':=v') (by rw [Hf'.out];exact h5) h3;obtain ⟨gp,cp,hv'⟩:∃ g c,v'=.slice (some ⟨g,0,none⟩) (j+1) c:=by
           rcases h2.2 with ⟨h,h0⟩ | ⟨g,cap,cur,h,_⟩
           ·omega
           ·exact ⟨g,cap,h⟩
          exact ⟨gp,cp,bx,hv',Lib.hid h7⟩
         case stab29=>exact ⟨fun v w w' hR h=>h,fun v w w' hR ⟨b,q,h1,h2⟩=>⟨b,q,h1,(hR.block q (Array.getElem?_eq_some_iff.1 h2).1 (by simp)).trans h2⟩,trivial⟩
         case ends29 =>
          intro wy;simp only [List.take_succ_cons,List.take_zero,List.replicate,List.cons_append,List.nil_append,Flow.ends];simp only [Act.put,List.setIfInBounds_toArray,List.set_cons_succ,List.set_cons_zero]
          iterate 9 (intro _ _)
          intro v115 h115;obtain ⟨gp,cp,bx,rfl,hT⟩:=h115;have y2:=(cell_of_row wy G 2 _ _ _ hT.out.1).trans rfl;have yf:=frozen_of_row wy G 2 _ _ hT.out.1;unfold Oper.wp;simp [execOp,y2,yf,go_sem];have HD2:=Lib.hid hT.out.2;clear hT y2 yf HD HFn HKS HEF hcs hzi hcv hzl hjl;go_wp2_with fail;go_roundw
          case rel=>exact ⟨j+1,_,_,ss',fin'++[bx],rows'++[row'],rs++[R],D',by rw [← Htn.out];omega,by rw [← Htn.out];omega,by rw [← Htn.out];exact h2000,by go_num,by rw [List.length_append,Hf'.out];rfl,by rw [List.length_append,Hr'.out];rfl,by rw [← Htn.out];exact HD2⟩
          case measure=>simp [intOf];omega
        ·have d0:decide ((tn:Int) > 2000)=true:=by simp;omega
         have r2:=CR.out wi HRo.out.g;have q0:=(cell_of_row wi _ 0 _ _ _ r2).trans rfl;have q1:=(cell_of_row wi _ 1 _ _ _ r2).trans rfl;have q2:=(cell_of_row wi _ 2 _ _ _ r2).trans rfl;have q3:=(cell_of_row wi _ 3 _ _ _ r2).trans rfl;have f0:=frozen_of_row wi (X+1) 0 _ _ r2;have f1:=frozen_of_row wi (X+1) 1 _ _ r2;have f2:=frozen_of_row wi (X+1) 2 _ _ r2;have f3:=frozen_of_row wi (X+1) 3 _ _ r2;clear r2;go_wp2_with fail;refine bodyPost_ret (Qj1 _ _ (X+1) _ _ _ _ _ rfl rfl (Qba _ _ _ _ (CR.out wi HRo.out.g))) rfl ⟨⟨_,_,rfl,.inl ⟨by decide,rfl⟩⟩,?_⟩;exact Qa2 _ _ _ _ (HG0.out.trans HRo.out.g) (by rw [HX.out];omega)
   ·obtain rfl:j=sn:=by omega
    have hG:=HD.out.d.block;have c0:=(cell_of_row wo G 0 _ _ _ hG).trans rfl;have c1:=(cell_of_row wo G 1 _ _ _ hG).trans rfl;have c2:=(cell_of_row wo G 2 _ _ _ hG).trans rfl;have c3:=(cell_of_row wo G 3 _ _ _ hG).trans rfl;have r2:=CR.out wo HD.out.g;have q0:=(cell_of_row wo _ 0 _ _ _ r2).trans rfl;have q1:=(cell_of_row wo _ 1 _ _ _ r2).trans rfl;have q2:=(cell_of_row wo _ 2 _ _ _ r2).trans rfl;have q3:=(cell_of_row wo _ 3 _ _ _ r2).trans rfl;have f0:=frozen_of_row wo (X+1) 0 _ _ r2;have f1:=frozen_of_row wo (X+1) 1 _ _ r2;have f2:=frozen_of_row wo (X+1) 2 _ _ r2;have f3:=frozen_of_row wo (X+1) 3 _ _ r2;obtain ⟨fa,fc,rfl⟩:=Qaw HD.out.d.finals;obtain ⟨na,nc,rfl⟩:=Qaw HD.out.d.nexts;have Hf':=Lib.hid hf';have Hr':=Lib.hid hr';clear hf' hr';have hXG:X+1 < G:=by have h1:=(Array.getElem?_eq_some_iff.1 HB1.out).1;have h2:=HD.out.hG;omega
    clear r2 hG;go_wp2_with fail;refine bodyPost_ret (Qj1 _ _ (X+1) _ _ _ _ _ rfl rfl (Qba _ _ _ _ (CR.out wo HD.out.g))) rfl ⟨⟨_,_,rfl,.inr ⟨rfl,G,_,_,fin',rows',rs,rfl,((((HD.out.d.old hXG _ _).old hXG _ _).old hXG _ _).old hXG _ _),by rw [Hf'.out,Hr'.out],by rw [Hr'.out];exact hs1,by rw [Hr'.out];exact hs2,by have h1:=HG0.out.size;have h2:=HD.out.hG;omega⟩⟩,?_⟩;exact Qa2 _ _ _ _ (HG0.out.trans HD.out.g) (by rw [HX.out];omega)
end Go.Proofs.YtcpodmjcgfgmnaaGreat
