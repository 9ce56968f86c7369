/- Classes of states, numbered by their keys: the number never falls. No program. -/
import Derived.Test.YtcpodmjcgfgmnaaMLive
import Derived.Test.YtcpodmjcgfgmnaaMDet
namespace Go.Proofs.Ytcpodmjcgfgmnaa
open Go.RowKit Go.Maps
namespace Pr
def keyB (cl:List Int) (lv:List Bool) (rows:List (List Int)) (i:Nat):List UInt8:=kb (cl.getD i 0)++mks cl lv (rows.getD i []) (rows.getD i []).length
def Many (n:Nat) (lv:List Bool) (cl:List Int) (m:Nat):Prop:=∀ q,q < m→∃ i,i < n∧lv.getD i false=true∧cl.getD i 0=(q:Int)
open Classical in
theorem classes_le {n m:Nat} {cl:List Int} {lv:List Bool} {rows:List (List Int)} {order:List Lit} (h:Many n lv cl m) (hr:∀ i,i < n→-1≤cl.getD i 0∧cl.getD i 0 < 60000)
  (hin:∀ i,i < n→lv.getD i false=true→Mo.kl (str (keyB cl lv rows i))∈order):m≤order.length:=by
 have hx:∀ q,∃ i,q < m→i < n∧lv.getD i false=true∧cl.getD i 0=(q:Int):=fun q=>by
  by_cases hq:q < m
  ·obtain ⟨i,hi⟩:=h q hq
   exact ⟨i,fun _=>hi⟩
  ·exact ⟨0,fun e=>(hq e).elim⟩
 let f:Nat→Nat:=fun q=>Classical.choose (hx q)
 have hf:∀ q,q < m→f q < n∧lv.getD (f q) false=true∧cl.getD (f q) 0=(q:Int):=fun q hq=>Classical.choose_spec (hx q) hq
 have hn:((List.range m).map fun q=>Mo.kl (str (keyB cl lv rows (f q)))).Nodup:=by
  rw [List.nodup_iff_pairwise_ne,List.pairwise_map]
  refine List.Pairwise.imp_of_mem ?_ List.nodup_range
  intro a b ha hb hab e
  have ha':=hf a (List.mem_range.1 ha)
  have hb':=hf b (List.mem_range.1 hb)
  have e2:=Mo.kl_inj e
  have e3:keyB cl lv rows (f a)=keyB cl lv rows (f b):=by
   have:=congrArg (fun x:ByteArray=>x.data.toList) e2
   simpa [str] using this
  have e4:=key_class (hr _ ha'.1) (hr _ hb'.1) e3
  rw [ha'.2.2,hb'.2.2] at e4
  exact hab (by omega)
 have:=Mo.nodup_le hn (m:=order) (fun x hx=>by
  obtain ⟨q,hq,rfl⟩:=List.mem_map.1 hx
  have hq':=hf q (List.mem_range.1 hq)
  exact hin _ hq'.1 hq'.2.1)
 simpa using this
structure Cls (n:Nat) (lv:List Bool) (cl:List Int) (rows:List (List Int)) (j:Nat) (nx:List Int) (order:List Lit) (D:DataW Unit):Prop where
 ord:Mo.Ord D order
 len:nx.length=n
 le:order.length≤j
 rng:∀ i,i < n→-1≤nx.getD i 0∧nx.getD i 0 < n
 many:∀ q,q < order.length→∃ i,i < j∧lv.getD i false=true∧nx.getD i 0=(q:Int)
 all:∀ i,i < j→lv.getD i false=true→Mo.kl (str (keyB cl lv rows i))∈order
variable {n j:Nat} {lv:List Bool} {cl nx:List Int} {rows:List (List Int)} {order:List Lit} {D:DataW Unit}
theorem getD_set (nx:List Int) (j i:Nat) (z:Int) (h:j < nx.length):(nx.set j z).getD i 0=if i=j then z else nx.getD i 0:=by
 by_cases e:i=j
 ·subst e
  simp [h]
 ·rw [if_neg e]
  simp [List.getD_eq_getElem?_getD,List.getElem?_set_ne (Ne.symm e)]
theorem Cls.start (h0:nx.length=n) (h1:∀ i,nx.getD i 0=0) (hn:1≤n):Cls n lv cl rows 0 nx [] (.map []) where
 ord:=Mo.ord_nil
 len:=h0
 le:=Nat.le_refl _
 rng:=fun i _=>by rw [h1 i];omega
 many:=fun q hq=>by simp at hq
 all:=fun i hi=>by omega
theorem Cls.dead (h:Cls n lv cl rows j nx order D) (hj:j < n) (hl:lv.getD j false=false):Cls n lv cl rows (j+1) (nx.set j (-1)) order D where
 ord:=h.ord
 len:=by rw [List.length_set];exact h.len
 le:=Nat.le_succ_of_le h.le
 rng:=fun i hi=>by
  rw [getD_set _ _ _ _ (by rw [h.len];exact hj)]
  split
  ·omega
  ·exact h.rng i hi
 many:=fun q hq=>by
  obtain ⟨i,h1,h2,h3⟩:=h.many q hq
  exact ⟨i,by omega,h2,by rw [getD_set _ _ _ _ (by rw [h.len];exact hj),if_neg (by omega)];exact h3⟩
 all:=fun i hi hv=>by
  by_cases e:i=j
  ·subst e;rw [hl] at hv;cases hv
  ·exact h.all i (by omega) hv
theorem Cls.old {q:Nat} (h:Cls n lv cl rows j nx order D) (hj:j < n) (hq:order[q]?=some (Mo.kl (str (keyB cl lv rows j)))):Cls n lv cl rows (j+1) (nx.set j (q:Int)) order D where
 ord:=h.ord
 len:=by rw [List.length_set];exact h.len
 le:=Nat.le_succ_of_le h.le
 rng:=fun i hi=>by
  rw [getD_set _ _ _ _ (by rw [h.len];exact hj)]
  have h1:=(List.getElem?_eq_some_iff.1 hq).1
  have h2:=h.le
  split
  ·omega
  ·exact h.rng i hi
 many:=fun q hq=>by
  obtain ⟨i,h1,h2,h3⟩:=h.many q hq
  exact ⟨i,by omega,h2,by rw [getD_set _ _ _ _ (by rw [h.len];exact hj),if_neg (by omega)];exact h3⟩
 all:=fun i hi hv=>by
  by_cases e:i=j
  ·subst e;exact List.mem_of_getElem? hq
  ·exact h.all i (by omega) hv
theorem Cls.new (h:Cls n lv cl rows j nx order D) (hj:j < n) (hl:lv.getD j false=true) (hk:Mo.kl (str (keyB cl lv rows j))∉order):Cls n lv cl rows (j+1) (nx.set j (order.length:Int)) (order++[Mo.kl (str (keyB cl lv rows j))]) (D.put (Mo.kl (str (keyB cl lv rows j))) (.lit (.int .i64 (order.length:Int)))) where
 ord:=h.ord.push (Mo.kl_is _) hk
 len:=by rw [List.length_set];exact h.len
 le:=by rw [List.length_append];have:=h.le;simp;omega
 rng:=fun i hi=>by
  rw [getD_set _ _ _ _ (by rw [h.len];exact hj)]
  have h2:=h.le
  split
  ·omega
  ·exact h.rng i hi
 many:=fun q hq=>by
  rw [List.length_append,List.length_singleton] at hq
  by_cases e:q < order.length
  ·obtain ⟨i,h1,h2,h3⟩:=h.many q e
   exact ⟨i,by omega,h2,by rw [getD_set _ _ _ _ (by rw [h.len];exact hj),if_neg (by omega)];exact h3⟩
  ·obtain rfl:q=order.length:=by omega
   exact ⟨j,by omega,hl,by rw [getD_set _ _ _ _ (by rw [h.len];exact hj),if_pos rfl]⟩
 all:=fun i hi hv=>by
  by_cases e:i=j
  ·subst e;simp
  ·exact List.mem_append_left _ (h.all i (by omega) hv)
end Pr
end Go.Proofs.Ytcpodmjcgfgmnaa
