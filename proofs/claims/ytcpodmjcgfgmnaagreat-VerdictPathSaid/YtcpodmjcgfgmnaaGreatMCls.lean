/- Classes of states, numbered by their keys: the number never falls. No program. -/
import Derived.Test.YtcpodmjcgfgmnaaGreatMLive
import Derived.Test.YtcpodmjcgfgmnaaGreatMDet
import Derived.Test.YtcpodmjcgfgmnaaGreatDetOf
namespace Go.Proofs.YtcpodmjcgfgmnaaGreat
open Go.RowKit Go.Maps
namespace Pr
def keyB (cl:List Int) (lv:List Bool) (rows:List (List Int)) (i:Nat):List UInt8:=kb (cl.getD i 0)++mks cl lv (rows.getD i []) (rows.getD i []).length
def Many (n:Nat) (lv:List Bool) (cl:List Int) (m:Nat):Prop:=∀ q,q < m→∃ i,i < n∧lv.getD i false=true∧cl.getD i 0=(q:Int)
open Classical in
theorem classes_le {n m:Nat} {cl:List Int} {lv:List Bool} {rows:List (List Int)} {order:List Lit} (h:Many n lv cl m) (hr:∀ i,i < n→-1≤cl.getD i 0∧cl.getD i 0 < 60000)
  (hin:∀ i,i < n→lv.getD i false=true→Mo.kl (str (keyB cl lv rows i))∈order):m≤order.length:=by
 have hx:∀ q,∃ i,q < m→i < n∧lv.getD i false=true∧cl.getD i 0=(q:Int):=fun q=>by
  by_cases hq:q < m
  ·obtain ⟨i,hi⟩:=h q hq;exact ⟨i,fun _=>hi⟩
  ·exact ⟨0,fun e=>(hq e).elim⟩
 let f:Nat→Nat:=fun q=>Classical.choose (hx q);have hf:∀ q,q < m→f q < n∧lv.getD (f q) false=true∧cl.getD (f q) 0=(q:Int):=fun q hq=>Classical.choose_spec (hx q) hq;have hn:((List.range m).map fun q=>Mo.kl (str (keyB cl lv rows (f q)))).Nodup:=by
  rw [List.nodup_iff_pairwise_ne,List.pairwise_map];refine List.Pairwise.imp_of_mem ?_ List.nodup_range;intro a b ha hb hab e;have ha':=hf a (List.mem_range.1 ha);have hb':=hf b (List.mem_range.1 hb);have e2:=Mo.kl_inj e;have e3:keyB cl lv rows (f a)=keyB cl lv rows (f b):=by
   have:=congrArg (fun x:ByteArray=>x.data.toList) e2;simpa [str] using this
  have e4:=Qwg (hr _ ha'.1) (hr _ hb'.1) e3;rw [ha'.2.2,hb'.2.2] at e4;exact hab (by omega)
 have:=Mo.nodup_le hn (m:=order) (fun x hx=>by
  obtain ⟨q,hq,rfl⟩:=List.mem_map.1 hx;have hq':=hf q (List.mem_range.1 hq);exact hin _ hq'.1 hq'.2.1)
 simpa using this
structure Cls (n:Nat) (lv:List Bool) (cl:List Int) (rows:List (List Int)) (j:Nat) (nx:List Int) (order:List Lit) (D:DataW Unit):Prop where
 ord:Mo.Ord D order
 len:nx.length=n
 le:order.length≤j
 rng:∀ i,i < n→-1≤nx.getD i 0∧nx.getD i 0 < n
 many:∀ q,q < order.length→∃ i,i < j∧lv.getD i false=true∧nx.getD i 0=(q:Int)
 all:∀ i,i < j→lv.getD i false=true→Mo.kl (str (keyB cl lv rows i))∈order
variable {n j:Nat} {lv:List Bool} {cl nx:List Int} {rows:List (List Int)} {order:List Lit} {D:DataW Unit}
theorem Qeh (nx:List Int) (j i:Nat) (z:Int) (h:j < nx.length):(nx.set j z).getD i 0=if i=j then z else nx.getD i 0:=by
 by_cases e:i=j
 ·subst e;simp [h]
 ·rw [if_neg e];simp [List.getD_eq_getElem?_getD,List.getElem?_set_ne (Ne.symm e)]
theorem Cls.start (h0:nx.length=n) (h1:∀ i,nx.getD i 0=0) (hn:1≤n):Cls n lv cl rows 0 nx [] (.map []) where
 ord:=Mo.ord_nil
 len:=h0
 le:=Nat.le_refl _
 rng:=fun i _=>by rw [h1 i];omega
 many:=fun q hq=>by simp at hq
 all:=fun i hi=>by omega
theorem Cls.dead (h:Cls n lv cl rows j nx order D) (hj:j < n) (hl:lv.getD j false=false):Cls n lv cl rows (j+1) (nx.set j (-1)) order D where
 ord:=h.ord
 len:=by rw [List.length_set];exact h.len
 le:=Nat.le_succ_of_le h.le
 rng:=fun i hi=>by
  rw [Qeh _ _ _ _ (by rw [h.len];exact hj)];split
  ·omega
  ·exact h.rng i hi
 many:=fun q hq=>by
  obtain ⟨i,h1,h2,h3⟩:=h.many q hq;exact ⟨i,by omega,h2,by rw [Qeh _ _ _ _ (by rw [h.len];exact hj),if_neg (by omega)];exact h3⟩
 all:=fun i hi hv=>by
  by_cases e:i=j
  ·subst e;rw [hl] at hv;cases hv
  ·exact h.all i (by omega) hv
theorem Cls.old {q:Nat} (h:Cls n lv cl rows j nx order D) (hj:j < n) (hq:order[q]?=some (Mo.kl (str (keyB cl lv rows j)))):Cls n lv cl rows (j+1) (nx.set j (q:Int)) order D where
 ord:=h.ord
 len:=by rw [List.length_set];exact h.len
 le:=Nat.le_succ_of_le h.le
 rng:=fun i hi=>by
  rw [Qeh _ _ _ _ (by rw [h.len];exact hj)];have h1:=(List.getElem?_eq_some_iff.1 hq).1;have h2:=h.le;split
  ·omega
  ·exact h.rng i hi
 many:=fun q hq=>by
  obtain ⟨i,h1,h2,h3⟩:=h.many q hq;exact ⟨i,by omega,h2,by rw [Qeh _ _ _ _ (by rw [h.len];exact hj),if_neg (by omega)];exact h3⟩
 all:=fun i hi hv=>by
  by_cases e:i=j
  ·subst e;exact List.mem_of_getElem? hq
  ·exact h.all i (by omega) hv
theorem Cls.new (h:Cls n lv cl rows j nx order D) (hj:j < n) (hl:lv.getD j false=true) (hk:Mo.kl (str (keyB cl lv rows j))∉order):Cls n lv cl rows (j+1) (nx.set j (order.length:Int)) (order++[Mo.kl (str (keyB cl lv rows j))]) (D.put (Mo.kl (str (keyB cl lv rows j))) (.lit (.int .i64 (order.length:Int)))) where
 ord:=h.ord.push (Mo.kl_is _) hk
 len:=by rw [List.length_set];exact h.len
 le:=by rw [List.length_append];have:=h.le;simp;omega
 rng:=fun i hi=>by
  rw [Qeh _ _ _ _ (by rw [h.len];exact hj)];have h2:=h.le;split
  ·omega
  ·exact h.rng i hi
 many:=fun q hq=>by
  rw [List.length_append,List.length_singleton] at hq;by_cases e:q < order.length
  ·obtain ⟨i,h1,h2,h3⟩:=h.many q e;exact ⟨i,by omega,h2,by rw [Qeh _ _ _ _ (by rw [h.len];exact hj),if_neg (by omega)];exact h3⟩
  ·obtain rfl:q=order.length:=by omega
   exact ⟨j,by omega,hl,by rw [Qeh _ _ _ _ (by rw [h.len];exact hj),if_pos rfl]⟩
 all:=fun i hi hv=>by
  by_cases e:i=j
  ·subst e;simp
  ·exact List.mem_append_left _ (h.all i (by omega) hv)
end Pr
end Go.Proofs.YtcpodmjcgfgmnaaGreat
namespace Go.Proofs.YtcpodmjcgfgmnaaGreat
open Go.RowKit Go.Maps
theorem Qn3 {w:World} {B C n:Nat} {cl:List Int} (h:w.heap[C]?=some (.cells (Qaj cl) 3 (0,0))) (hn:cl.length=n) (hB:B≤C) (hm:n≤1000000):w.ownsRow B 3 1 (.slice (some ⟨C,0,none⟩) n n) n (cl.map (Value.int .i64)) :=
 ⟨by simp [hn],.inr ⟨C,n,Qaj cl,rfl,hB,h,Nat.le_refl _,by unfold maxLen;omega,by simp [Qms,hn],by subst hn;rw [Nat.mul_one];exact List.take_of_length_le (by simp [Qaj])⟩⟩
set_option maxRecDepth 100000 in
set_option maxHeartbeats 4000000 in
theorem Qq5 (L S:Int) (vf vn:Value) (fin:List Bool) (rows:List (List Int)) (W:World) (hD:DfaAt W #[.int .i64 L,.int .i64 S,vf,vn] L S fin rows) (hF:Bools W vf fin) (hN:Rows2 W vn rows) (hfn:fin.length=rows.length) (h1:1≤rows.length) (h2:rows.length≤2000) (hmay:Det.may L S fin.length rows=true) (hr2:∀ r∈rows,r.length≤100000) (hrt:∀ r∈rows,∀ t∈r,t < rows.length) :
  Calls Tryz.prog 81 #[.agg #[.int .i64 L,.int .i64 S,vf,vn]] W fun e w'=>(∃ (v':Value) (cl:List Int),e=.returned v'∧w'.ownsRow W.heap.size 3 1 v' rows.length (cl.map (Value.int .i64))∧cl.length=rows.length∧∀ i,i < rows.length→-1≤cl.getD i 0∧cl.getD i 0 < rows.length)∧Flow.Grow W w':=by
 have HD:=Lib.hid hD;have HF:=Lib.hid hF;have HN:=Lib.hid hN;have HR2:=Lib.hid hr2;have HRT:=Lib.hid hrt;have HM:=Lib.hid hmay;obtain ⟨af,cf,rfl,_⟩:=id hF;obtain ⟨an,cn,rfl⟩:=hN.val;clear hD hF hN hr2 hrt hmay;rw [hfn] at HD HF HM ⊢;obtain ⟨n,hn⟩:∃ n,n=rows.length:=⟨_,rfl⟩;have Hn:=Lib.hid hn;have Hfn:=Lib.hid hfn;rw [← hn] at HD HF HM HN HRT h1 h2 ⊢;clear hn hfn;have Hmake:=Lib.hid (Qe2 n (by omega));have hmm:=Lib.hid (@run_makeMap Tryz.prog);go_enter Tryz.func81,Tryz.ntmps81;go_upto_region 1 with fail;have HB0:Hid ((W.alloc (.cells #[.int .i64 L,.int .i64 S,.slice af n cf,.slice an n cn] 27)).heap[W.heap.size]?=some (.cells #[.int .i64 L,.int .i64 S,.slice af n cf,.slice an n cn] 27 (0,0))):=Lib.hid (heap_alloc_new _ _);have HG0:Hid (Flow.Grow W (W.alloc (.cells #[.int .i64 L,.int .i64 S,.slice af n cf,.slice an n cn] 27))):=Lib.hid (Flow.grow_alloc _ _);generalize W.alloc (.cells #[.int .i64 L,.int .i64 S,.slice af n cf,.slice an n cn] 27)=w1 at *;obtain ⟨X,hX⟩:∃ X,X=W.heap.size:=⟨_,rfl⟩;rw [← hX] at HB0 ⊢;have HX:=Lib.hid hX;clear hX;have CX:Hid (∀ wq,Flow.Grow w1 wq→wq.cell? ⟨X,0,none⟩=some (.int .i64 L)∧wq.cell? ⟨X,1,none⟩=some (.int .i64 S)∧wq.cell? ⟨X,2,none⟩=some (.slice af n cf)∧wq.cell? ⟨X,3,none⟩=some (.slice an n cn)):=Lib.hid (fun wq g=>by
  have hb:wq.heap[X]?=_:=(g.block _ (Array.getElem?_eq_some_iff.1 HB0.out).1 (by simp)).trans HB0.out;exact ⟨(cell_of_row wq _ 0 _ _ _ hb).trans rfl,(cell_of_row wq _ 1 _ _ _ hb).trans rfl,(cell_of_row wq _ 2 _ _ _ hb).trans rfl,(cell_of_row wq _ 3 _ _ _ hb).trans rfl⟩)
 obtain ⟨c0,c1,c2,c3⟩:=CX.out w1 (Flow.grow_refl _);go_upto_region 3 with (go_at_call 34;refine (Qjd _ L S fin rows w1 (HD.out.grow HG0.out)).mono ?_;rintro e w' ⟨rfl,rfl⟩;rw [show Det.may L S fin.length rows=true by rw [Hfn.out,← Hn.out];exact HM.out]);have HG1:Hid (Flow.Grow w1 (w1.alloc (.cells #[.int .i64 L,.int .i64 S,.slice af n cf,.slice an n cn] 27))):=Lib.hid (Flow.grow_alloc _ _);generalize w1.alloc (.cells #[.int .i64 L,.int .i64 S,.slice af n cf,.slice an n cn] 27)=w2 at *;clear c0 c1 c2 c3;obtain ⟨c0,c1,c2,c3⟩:=CX.out w2 HG1.out;have HLv:Hid (Calls Tryz.prog 99 #[.agg #[.int .i64 L,.int .i64 S,.slice af n cf,.slice an n cn]] w2 fun e w'=>(∃ (v':Value) (lv:List Bool),e=.returned v'∧w'.ownsRow w2.heap.size 4 1 v' n (lv.map Value.bool)∧lv.length=n)∧Flow.Grow w2 w'):=Lib.hid (by
  have h:=Qyj L S (.slice af n cf) (.slice an n cn) fin rows w2 (HD.out.grow (HG0.out.trans HG1.out)) (HF.out.grow (HG0.out.trans HG1.out)) (HN.out.grow (HG0.out.trans HG1.out)) (by rw [Hfn.out]) (by rw [← Hn.out];exact h1) (by rw [← Hn.out];exact h2) (by rw [Hfn.out,← Hn.out];exact HM.out) (fun r hr=>by have:=HR2.out r hr;omega) (by rw [← Hn.out];exact HRT.out);rw [← Hn.out] at h;exact h)
 go_upto_region 4 with (go_at_call 99;refine HLv.out.mono ?_;rintro e w3 ⟨⟨vl,lv,rfl,ho,hl⟩,hg⟩;obtain ⟨al,cl0,rfl⟩:=Qah ho;have HLL:=Lib.hid hl;have HBl:=Lib.hid (show Bools w3 (.slice al n cl0) lv by subst hl;exact Seg.of_own ho);have HG2:=Lib.hid (HG1.out.trans hg);clear ho hl hg);clear c0 c1 c2 c3 HLv HG1;obtain ⟨_,_,_,c3⟩:=CX.out w3 HG2.out;have hmake:=Hmake.out w3;go_upto_region 5 with fail;clear hmake c3;have HC0:Hid ((w3.alloc (.cells (Qaj (List.replicate n 0)) 3)).heap[w3.heap.size]?=some (.cells (Qaj (List.replicate n 0)) 3 (0,0))):=Lib.hid (heap_alloc_new _ _);have HGw:Hid (Flow.Grow w3 (w3.alloc (.cells (Qaj (List.replicate n 0)) 3))):=Lib.hid (Flow.grow_alloc _ _);have HCl:Hid ((List.replicate n (0:Int)).length=n∧∀ i,i < n→-1≤(List.replicate n (0:Int)).getD i 0∧(List.replicate n (0:Int)).getD i 0 < 60000):=Lib.hid ⟨by simp,fun i hi=>by simp [hi]⟩;have HZ0:Hid ((List.replicate n (0:Int)).length=n∧∀ i,(List.replicate n (0:Int)).getD i 0=0):=Lib.hid ⟨by simp,fun i=>by
  by_cases hi:i < n
  ·simp [hi]
  ·simp [List.getD_eq_getElem?_getD,show ¬ i < n from hi]⟩
 obtain ⟨C,hC⟩:∃ C,C=w3.heap.size:=⟨_,rfl⟩;have HCs:=Lib.hid hC;rw [← hC] at HC0 ⊢;generalize List.replicate n (0:Int)=z0 at *;generalize w3.alloc (.cells (Qaj z0) 3)=w4 at *;clear hC;go_wp2_with fail;go_loopw [24] (fun i wr=>∃ (j:Nat) (cl:List Int),j≤n∧i=.int .i64 j∧Hid (Flow.Grow w3 wr)∧Hid (wr.heap[C]?=some (.cells (Qaj cl) 3 (0,0)))∧Hid (cl.length=n∧∀ i,i < n→-1≤cl.getD i 0∧cl.getD i 0 < 60000)) (fun i _=>n - (intOf i).toNat)
 case atStart=>exact ⟨0,z0,by omega,rfl,HGw,HC0,HCl⟩
 case round =>
  clear HC0 HGw HCl;obtain ⟨j,cl,hj,rfl,HG,HC,HCl⟩:=hrel
  rename World=>wo
  have hset:∀ q (z:Int),-1≤z→z < 60000→Hid ((cl.set q z).length=n∧∀ i,i < n→-1≤(cl.set q z).getD i 0∧(cl.set q z).getD i 0 < 60000):=fun q z hz1 hz2=>Lib.hid ⟨by rw [List.length_set];exact HCl.out.1,fun i hi=>by
   by_cases e:q=i
   ·subst e;have:(cl.set q z).getD q 0=z:=by have:=HCl.out.1;simp [show q < cl.length by omega]
    rw [this];exact ⟨hz1,hz2⟩
   ·have:(cl.set q z).getD i 0=cl.getD i 0:=by simp [List.getD_eq_getElem?_getD,List.getElem?_set_ne e]
    rw [this];exact HCl.out.2 i hi⟩
  have HSet:=Lib.hid hset;clear hset;by_cases hjn:j < n
  ·obtain ⟨lb,lo,rfl,q0⟩:=Qep (HBl.out.grow HG.out) (j:=j) (by rw [HLL.out];exact hjn);obtain ⟨fb,fo,rfl,q1⟩:=Qep (HF.out.grow (HG0.out.trans (HG2.out.trans HG.out))) (j:=j) (by rw [Hfn.out,← Hn.out];exact hjn);generalize lv.getD j false=lx at *;generalize fin.getD j false=fx at *;obtain ⟨_,_,c2,_⟩:=CX.out wo (HG2.out.trans HG.out);have y0:=(cell_of_row _ C j _ _ _ HC.out).trans (Qa1 (by rw [HCl.out.1];exact hjn));have f0:=frozen_of_row _ C j _ _ HC.out;have hCs:w3.heap.size≤C:=by have:=HCs.out;omega
   cases lx with
   | false =>
    go_wp2_with fail;go_roundw
    case rel=>exact ⟨j+1,_,by omega,by go_num,Lib.hid (Qag HG.out hCs j _),Lib.hid (Qcc HC.out),HSet.out j (-1) (by omega) (by omega)⟩
    case measure=>simp [intOf];omega
   | true =>
    cases fx with
    | true =>
     go_wp2_with fail;go_roundw
     case rel=>exact ⟨j+1,_,by omega,by go_num,Lib.hid (Qag HG.out hCs j _),Lib.hid (Qcc HC.out),HSet.out j 1 (by omega) (by omega)⟩
     case measure=>simp [intOf];omega
    | false =>
     go_wp2_with fail;go_roundw
     case rel=>exact ⟨j+1,cl,by omega,by go_num,HG,HC,HCl⟩
     case measure=>simp [intOf];omega
  ·obtain rfl:n=j:=by omega
   clear HSet hj hjn;go_wp2_with fail;have hCs:w3.heap.size≤C:=by have:=HCs.out;omega
   go_loopw [4,6] (fun cv m wr=>∃ (C:Nat) (cl:List Int) (mz:Int),cv=.slice (some ⟨C,0,none⟩) n n∧m=.int .i64 mz∧w3.heap.size≤C∧Hid (Flow.Grow w3 wr)∧Hid (wr.heap[C]?=some (.cells (Qaj cl) 3 (0,0)))∧Hid (cl.length=n∧∀ i,i < n→-1≤cl.getD i 0∧cl.getD i 0 < 60000)∧Hid (mz=-1∨∃ k:Nat,mz=(k:Int)∧k≤n∧Pr.Many n lv cl k)) (fun _ m _=>((n:Int) - intOf m).toNat)
   case atStart=>exact ⟨C,cl,-1,rfl,rfl,hCs,HG,HC,HCl,Lib.hid (.inl rfl)⟩
   case round =>
    clear HG HC HCl hCs HCs;obtain ⟨C,cl,mz,rfl,rfl,hCs,HG,HC,HCl,HMz⟩:=hrel
    rename World=>wo
    have hmm':=hmm.out;have hmake:=Hmake.out (wo.alloc (.map #[] 0));go_upto_region 16 with fail;clear hmm' hmake;have HMb:Hid (Pr.MapW ((wo.alloc (.map #[] 0)).alloc (.cells (Qaj z0) 3)) wo.heap.size 0 (.map [])):=Lib.hid ((World.ownsMap_made wo Tryz.prog 9 (plainElem (H:=Unit) Tryz.prog 3)).kept (row:=none) (Flow.grow_alloc _ _) (by simp));have HNb:Hid (((wo.alloc (.map #[] 0)).alloc (.cells (Qaj z0) 3)).heap[wo.heap.size+1]?=some (.cells (Qaj z0) 3 (0,0))):=Lib.hid (Qbl _ _ _);have HGo:Hid (Flow.Grow wo ((wo.alloc (.map #[] 0)).alloc (.cells (Qaj z0) 3))):=Lib.hid ((Flow.grow_alloc _ _).trans (Flow.grow_alloc _ _));have hClt:=(Array.getElem?_eq_some_iff.1 HC.out).1;have HCn:=Lib.hid ((HGo.out.block C hClt (by simp)).trans HC.out);have HGn:=Lib.hid (HG.out.trans HGo.out);obtain ⟨M,hM⟩:∃ M,M=wo.heap.size:=⟨_,rfl⟩;have hMs:w3.heap.size≤M:=by have:=HG.out.size;omega
    rw [← hM] at HMb HNb hClt ⊢;generalize (wo.alloc (.map #[] 0)).alloc (.cells (Qaj z0) 3)=w6 at *;clear hM HGo HC HG;have HCls:=Lib.hid (Pr.Cls.start (lv:=lv) (cl:=cl) (rows:=rows) HZ0.out.1 HZ0.out.2 h1);go_wp2_with fail;go_loopw [52] (fun i wr=>∃ (j:Nat) (nx:List Int) (order:List Lit) (D:DataW Unit),j≤n∧i=.int .i64 j∧Hid (Flow.Grow w3 wr)∧Hid (wr.heap[C]?=some (.cells (Qaj cl) 3 (0,0)))∧Hid (wr.heap[M+1]?=some (.cells (Qaj nx) 3 (0,0)))∧Hid (Pr.MapW wr M order.length D)∧Hid (Pr.Cls n lv cl rows j nx order D)) (fun i _=>n - (intOf i).toNat)
    case atStart=>exact ⟨0,z0,[],_,by omega,rfl,HGn,HCn,HNb,HMb,HCls⟩
    case round =>
     clear HGn HCn HNb HMb HCls;obtain ⟨j,nx,order,D,hj,rfl,HG,HC,HNx,HMp,HCls⟩:=hrel
     rename World=>wi
     by_cases hjn:j < n
     ·obtain ⟨lb,lo,rfl,q0⟩:=Qep (HBl.out.grow HG.out) (j:=j) (by rw [HLL.out];exact hjn);have y0:=(cell_of_row _ (M+1) j _ _ _ HNx.out).trans (Qa1 (by rw [HCls.out.len];exact hjn));have f0:=frozen_of_row _ (M+1) j _ _ HNx.out;cases hlv:lv.getD j false with
      | false =>
       have HL:=Lib.hid hlv;rw [hlv] at q0;clear hlv;go_wp2_with fail;go_roundw
       case rel=>exact ⟨j+1,_,order,D,by omega,by go_num,Lib.hid (Qag HG.out (by omega) j _),Lib.hid ((Below.heap_setCell _ _ _ _ (by show C≠M+1;omega)).trans HC.out),Lib.hid (Qcc HNx.out),Lib.hid (World.ownsMap.keptC HMp.out (Qad wi (M+1) j _) HNx.out),Lib.hid (HCls.out.dead hjn HL.out)⟩
       case measure=>simp [intOf];omega
      | true =>
       have HL:=Lib.hid hlv;rw [hlv] at q0;clear hlv y0 f0;obtain ⟨c0,c1,c2,c3⟩:=CX.out wi (HG2.out.trans HG.out);have HKy:Hid (Calls Tryz.prog 100 #[.agg #[.int .i64 L,.int .i64 S,.slice af n cf,.slice an n cn],.slice (some ⟨C,0,none⟩) n n,.slice (some ⟨lb,lo,none⟩) n cl0,.int .i64 (j:Int)] wi fun e w'=>e=.returned (.string (str (Pr.keyB cl lv rows j)))∧Flow.Grow wi w'):=Lib.hid
        (Qp9 L S _ _ _ _ rows cl lv j wi (by rw [← Hn.out];omega) (by rw [← Hn.out];exact hjn) (by rw [HCl.out.1,Hn.out]) (by rw [HLL.out,Hn.out]) (fun t ht=>by have:=HRT.out _ (Qa5 (d:=[]) (by rw [← Hn.out];exact hjn)) t ht;rw [← Hn.out];exact this)
          (HR2.out _ (Qa5 (by rw [← Hn.out];exact hjn))) ⟨_,_,_,rfl⟩ (HN.out.grow (HG0.out.trans (HG2.out.trans HG.out))) (Qbz (Qn3 (B:=0) HC.out HCl.out.1 (Nat.zero_le _) (by omega)) HCl.out.1.symm) (HBl.out.grow HG.out))
       have HKL:Hid ((Pr.keyB cl lv rows j).length≤1000000):=Lib.hid (by
        rw [Pr.keyB,List.length_append,Pr.mks_len];have h3:=HR2.out _ (Qa5 (d:=[]) (show j < rows.length by rw [← Hn.out];exact hjn));rw [show ∀ z,(Pr.kb z).length=2 from fun _=>rfl];omega)
       have hOl:order.length≤n:=by have:=HCls.out.le;omega
       cases hh:Maps.has D (Mo.kl (str (Pr.keyB cl lv rows j))) with
       | true =>
        have Hh:=Lib.hid hh;obtain ⟨q,hq,hqe⟩:=List.mem_iff_getElem.1 ((HCls.out.ord.hs _).1 hh);have hqo:order[q]?=some (Mo.kl (str (Pr.keyB cl lv rows j))):=by rw [List.getElem?_eq_getElem hq,hqe]
        have HQ:Hid (∀ c:Int,D.atKey (Mo.kl (str (Pr.keyB cl lv rows j))) (.lit (.int .i64 0))=.lit (.int .i64 c)→c=(q:Int)):=Lib.hid (fun c hc=>by
         have:=(HCls.out.ord.at_ q _ hqo).symm.trans hc;injection this with this;injection this with _ this;exact this.symm)
        have HOld:=Lib.hid (HCls.out.old hjn hqo);have hnl:=HCls.out.len;clear hh hq hqe hqo HCls;generalize Pr.keyB cl lv rows j=kt at *;go_upto_region 26 with (first
         | (go_at_call 100;refine HKy.out.mono ?_;rintro e wk ⟨rfl,hg⟩;have HGk:=Lib.hid hg;have HMk:=Lib.hid (HMp.out.kept (row:=none) hg (by simp));clear hg)
         | (at_lookup;refine wpList_lookup_own_ok_int _ rfl _ _ 81 rfl 9 3 .i64 Qbg Tryz.underlying81 Tryz.underlying3 (Qdh _) M order.length D rfl HMk.out (.string (str kt)) _ rfl (Qed _ HKL.out) ?_;intro cc hat hwc;rw [Hh.out];obtain rfl:=HQ.out cc hat;clear hat))
        have HNk:=Lib.hid ((HGk.out.block _ (Array.getElem?_eq_some_iff.1 HNx.out).1 (by simp)).trans HNx.out);have HCk:=Lib.hid ((HGk.out.block _ (Array.getElem?_eq_some_iff.1 HC.out).1 (by simp)).trans HC.out);have y0:=(cell_of_row _ (M+1) j _ _ _ HNk.out).trans (Qa1 (by rw [hnl];exact hjn));have f0:=frozen_of_row _ (M+1) j _ _ HNk.out;clear c0 c1 c2 c3 q0 HKy HNx HC HMp;go_wp2_with fail;go_roundw
        case rel=>exact ⟨j+1,_,order,D,by omega,by go_num,Lib.hid (Qag (HG.out.trans HGk.out) (by omega) j _),Lib.hid ((Below.heap_setCell _ _ _ _ (by show C≠M+1;omega)).trans HCk.out),Lib.hid (Qcc HNk.out),Lib.hid (World.ownsMap.keptC HMk.out (Qad wk (M+1) j _) HNk.out),HOld⟩
        case measure=>simp [intOf];omega
       | false =>
        have Hh:=Lib.hid hh;have hno:Mo.kl (str (Pr.keyB cl lv rows j))∉order:=fun e=>by have:=(HCls.out.ord.hs _).2 e;rw [hh] at this;cases this
        have HNew:=Lib.hid (HCls.out.new hjn HL.out hno);have hnl:=HCls.out.len;have HSz:=Lib.hid HCls.out.ord.size;clear hh hno HCls;generalize Pr.keyB cl lv rows j=kt at *;obtain ⟨on,hon⟩:∃ on,on=order.length:=⟨_,rfl⟩;have Hon:=Lib.hid hon;rw [← hon] at HMp HSz hOl HNew;clear hon;go_upto_region 26 with (first
         | (go_at_call 100;refine HKy.out.mono ?_;rintro e wk ⟨rfl,hg⟩;have HGk:=Lib.hid hg;have HMk:=Lib.hid (HMp.out.kept (row:=none) hg (by simp));clear hg)
         | (at_lookup;refine wpList_lookup_own_ok_int _ rfl _ _ 81 rfl 9 3 .i64 Qbg Tryz.underlying81 Tryz.underlying3 (Qdh _) M on D rfl HMk.out (.string (str kt)) _ rfl (Qed _ HKL.out) ?_;intro cc hat hwc;rw [Hh.out];clear hat)
         | (at_len;refine wpList_len_own _ rfl _ 81 rfl 9 3 Tryz.underlying81 _ M on D rfl HMk.out ?_;rw [HSz.out])
         | (at_mapUpdate;refine wpList_mapUpdate_own _ rfl _ _ _ 81 rfl 9 3 Qbg Tryz.underlying81 _ M on D rfl HMk.out (by unfold maxLen;omega) (.string (str kt)) (.int .i64 (on:Int)) _ rfl rfl (Qed _ HKL.out) _ [] (plainElem_int Tryz.underlying3 (WalkArith.wf_i64 (by omega))) ?_;intro wm hm hk;have HMm:=Lib.hid hm;have HKm:=Lib.hid hk;clear hm hk))
        have HNk:=Lib.hid ((HKm.out.block _ (by have h3:=HGk.out.size;have h4:=(Array.getElem?_eq_some_iff.1 HNx.out).1;omega) (by simp)).trans ((HGk.out.block _ (Array.getElem?_eq_some_iff.1 HNx.out).1 (by simp)).trans HNx.out));have HCk:=Lib.hid ((HKm.out.block _ (by have h3:=HGk.out.size;have h4:=(Array.getElem?_eq_some_iff.1 HC.out).1;omega) (by simp;omega)).trans ((HGk.out.block _ (Array.getElem?_eq_some_iff.1 HC.out).1 (by simp)).trans HC.out));have HGm:Hid (Flow.Grow w3 wm):=Lib.hid (Qap (HG.out.trans HGk.out) HKm.out (fun b e=>by injection e with e;omega));have y0:=(cell_of_row _ (M+1) j _ _ _ HNk.out).trans (Qa1 (by rw [hnl];exact hjn));have f0:=frozen_of_row _ (M+1) j _ _ HNk.out;clear c0 c1 c2 c3 q0 HKy HNx HC HMp HKm HGk HMk HG;go_wp2_with fail;go_roundw
        case rel=>exact ⟨j+1,_,order++[Mo.kl (str kt)],_,by omega,by go_num,Lib.hid (Qag HGm.out (by omega) j _),Lib.hid ((Below.heap_setCell _ _ _ _ (by show C≠M+1;omega)).trans HCk.out),Lib.hid (Qcc HNk.out),by rw [List.length_append,← Hon.out];exact Lib.hid (World.ownsMap.keptC HMm.out (Qad wm (M+1) j _) HNk.out),HNew⟩
        case measure=>simp [intOf];omega
     ·obtain rfl:n=j:=by omega
      obtain ⟨on,hon⟩:∃ on,on=order.length:=⟨_,rfl⟩;have Hon:=Lib.hid hon;have HSz:Hid (Maps.size D=on):=Lib.hid (by rw [HCls.out.ord.size,hon]);rw [← hon] at HMp;have hOl:on≤n:=by have:=HCls.out.le;omega
      clear hon hj hjn;by_cases hem:(on:Int)=mz
      ·have d0:((on:Int) == mz)=true:=by simp [hem]
       clear hem;go_wp2_with (at_len;refine wpList_len_own _ rfl _ 81 rfl 9 3 Tryz.underlying81 _ M on D rfl HMp.out ?_;rw [HSz.out]);go_ret;refine ⟨⟨_,nx,rfl,Qn3 HNx.out HCls.out.len (by have h3:=HG0.out.size;have h4:=HG2.out.size;omega) (by omega),HCls.out.len,HCls.out.rng⟩,(HG0.out.trans HG2.out).trans HG.out⟩
      ·have d0:((on:Int) == mz)=false:=by simp [hem]
       go_wp2_with (at_len;refine wpList_len_own _ rfl _ 81 rfl 9 3 Tryz.underlying81 _ M on D rfl HMp.out ?_;rw [HSz.out]);go_roundw
       case rel=>exact ⟨M+1,nx,on,rfl,rfl,by omega,HG,HNx,Lib.hid ⟨HCls.out.len,fun i hi=>by have:=HCls.out.rng i hi;omega⟩,Lib.hid (.inr ⟨on,rfl,hOl,by have h3:=HCls.out.many;rw [← Hon.out] at h3;exact h3⟩)⟩
       case measure =>
        simp only [intOf];rcases HMz.out with h3 | ⟨k,h3,h4,h5⟩
        ·omega
        ·have h6:=Pr.classes_le h5 HCl.out.2 HCls.out.all;rw [← Hon.out] at h6;omega
end Go.Proofs.YtcpodmjcgfgmnaaGreat
