/- The whole text of TreeBack is read as the element. No program. -/
import Derived.Test.YtfkdjdmbgednkaaDoorBack3
namespace Go.Proofs.YtfkdjdmbgednkaaDoor
namespace Xm
theorem lt_lit {l : List UInt8} (h : l.all (fun c => decide (32 ≤ c.toNat) && decide (c.toNat < 127) || c == 9 || c == 10 || c == 13) = true) : Lt l := Lt.asc fun c hc => by
  have := List.all_eq_true.1 h c hc
  simp only [Bool.or_eq_true, Bool.and_eq_true, decide_eq_true_eq, beq_iff_eq] at this
  exact asc_of c (by
    rcases this with ((h | h) | h) | h
    · exact .inl h
    · exact .inr (.inl h)
    · exact .inr (.inr (.inl h))
    · exact .inr (.inr (.inr h)))
theorem lt_cons {c : UInt8} {l : List UInt8} (h : Lt l) (hc : Lt [c]) : Lt (c :: l) := hc.append h
theorem atD_lt : ∀ (al : List (List UInt8 × List UInt8)), (∀ a ∈ al, Nl a.1 ∧ Vt a.2) → Lt (atD (bsA al))
  | [], _ => Lt.nil
  | a :: al, h => by
    have ih := atD_lt al fun b hb => h b (List.mem_cons_of_mem _ hb)
    have ha := h a List.mem_cons_self
    have e : atD (bsA (a :: al)) = (32 :: (a.1 ++ ([61, 34] ++ (clL a.2 ++ [34])))) ++ atD (bsA al) := rfl
    rw [e]
    exact (lt_cons (ha.1.lt.append ((lt_lit (by decide)).append (ha.2.close.append (lt_lit (by decide))))) (lt_lit (by decide))).append ih
theorem spD_lt {v : List UInt8} (hv : v ∈ spaces) (space : ByteArray) : Lt (spD (str v) space) := by
  unfold spD
  split
  · exact Lt.nil
  · rw [bl_str]
    exact (lt_lit (by decide)).append ((space_vt hv).close.append (lt_lit (by decide)))
theorem docN_lt : ∀ (d : Nat) (y : Nod) (space : ByteArray) (pad : List UInt8), Nice d y → Bl pad → Lt (docN y space pad)
  | 0, _, _, _, h, _ => by cases h
  | d + 1, .mk sp nm l ks tx, space, pad, h, hp => by
    obtain ⟨⟨v, hv, rfl⟩, ⟨n, rfl, hn, hn7⟩, ⟨al, rfl, ha⟩, hk3, hks, ⟨t, rfl, ht, ht12, _⟩, _⟩ := h
    have hh : Lt (headD (str v) (str n) (bsA al) space pad) := by
      unfold headD
      rw [bl_str]
      exact hp.lt.append (lt_cons (hn.lt.append ((spD_lt hv space).append (atD_lt al fun a h => niceA_mem ha h))) (lt_lit (by decide)))
    have hb : Lt ([60, 47] ++ (n ++ [62, 10])) := (lt_lit (by decide)).append (hn.lt.append (lt_lit (by decide)))
    by_cases h0 : ks = []
    · subst h0
      rw [docN_nil]
      refine hh.append ?_
      split
      · exact lt_lit (by decide)
      · rw [bl_str, bl_str]
        exact lt_cons (ht.close.append hb) (lt_lit (by decide))
    · rw [docN_kids _ _ _ _ _ _ _ h0, bl_str]
      have hall : ∀ (ys : List Nod), (∀ y ∈ ys, Nice d y) → Lt (docL ys (str v) (pad ++ [32])) := by
        intro ys
        induction ys with
        | nil => intro _; exact Lt.nil
        | cons y ys ih =>
          intro hy
          rw [docL]
          exact (docN_lt d y _ _ (hy y List.mem_cons_self) (bl_app hp (by intro c hc; rw [List.mem_singleton] at hc; subst hc; decide))).append (ih fun z hz => hy z (List.mem_cons_of_mem _ hz))
      exact hh.append ((lt_lit (by decide)).append ((hall ks hks).append (hp.lt.append hb)))
/-- the text of TreeBack -/
def backU (v : List UInt8) (y : Nod) : List UInt8 := [32] ++ (comB v ++ ([10] ++ (docN y ByteArray.empty [] ++ ([9] ++ insB [120]))))
theorem backU_new {v : List UInt8} {d : Nat} {y : Nod} (hv : Lt v) (hy : Nice d y) (hl : (backU v y).length ≤ 200000) : newT (str (backU v y)) = ⟨0, 0, 0⟩ :=
  new_lt ((lt_lit (by decide)).append (((lt_lit (by decide)).append (hv.append (lt_lit (by decide)))).append ((lt_lit (by decide)).append ((docN_lt d y _ _ hy (by intro c hc; cases hc)).append ((lt_lit (by decide)).append (lt_lit (by decide))))))) hl
theorem doc_text {s : ByteArray} {f : Nat} {o : Option Nod} {st st2 : P3} {R : List Bd} {d n : Nat} {q : Pc} (h : nextR s st = (q, st2)) (he : st2.e = 0) (hq : q.kind = 4) (ht : (trim q.text).size = 0) : docT s (f + 1) o ⟨st, R, d, n⟩ = docT s f o ⟨st2, R, d, n⟩ := by
  rw [docT]
  simp only [h]
  rw [if_neg (by simp [he])]
  cases o with
  | none => simp only; rw [if_pos ⟨hq, ht⟩]
  | some y => simp only; rw [if_neg (by omega), if_pos ⟨hq, ht⟩]
theorem doc_kid {s : ByteArray} {f : Nat} {st st2 : P3} {R : List Bd} {d n : Nat} {q : Pc} {y : Nod} {r2 : Rs} (h : nextR s st = (q, st2)) (he : st2.e = 0) (hq : q.kind = 1 ∨ q.kind = 3) (hg : goT s (2 * s.size + 2) none q ⟨st2, R, d, n⟩ = (.ok y, r2)) : docT s (f + 1) none ⟨st, R, d, n⟩ = docT s f (some y) r2 := by
  rw [docT]
  simp only [h]
  rw [if_neg (by simp [he]), if_neg (by omega), if_pos hq, hg]
theorem doc_end {s : ByteArray} {f : Nat} {st st2 : P3} {R : List Bd} {d n : Nat} {q : Pc} {y : Nod} (h : nextR s st = (q, st2)) (he : st2.e = 0) (hq : q.kind = 0) : docT s (f + 1) (some y) ⟨st, R, d, n⟩ = .ok y := by
  rw [docT]
  simp only [h]
  rw [if_neg (by simp [he]), if_pos hq]
theorem bl_one {c : UInt8} (h : blank (c.toNat : Int) = true) : Bl [c] := by intro d hd; rw [List.mem_singleton] at hd; subst hd; exact h
theorem backU_parse {v : List UInt8} {d : Nat} {y : Nod} (hv : Lt v) (hd : Lib.index (v ++ [45]) [45, 45] = -1) (hy : Nice d y) (hd32 : d ≤ 32) (hc : cnt y ≤ 2000) : parseT (str (backU v y)) = .ok y := by
  obtain ⟨s, hs⟩ : ∃ s, s = str (backU v y) := ⟨_, rfl⟩
  rw [← hs]
  have hz : s.size = (backU v y).length := by rw [hs, str_size]
  have hL : Lies s 0 (backU v y) := Lies.of (A := []) (B := []) (by rw [hs]; simp [str]) rfl
  have e : backU v y = [32] ++ (comB v ++ ([10] ++ (nodB y ByteArray.empty [] ++ ([10, 9] ++ insB [120])))) := by
    rw [backU, docN_nod]; simp
  have hlen : s.size = 1 + (comB v).length + 1 + (nodB y ByteArray.empty []).length + 2 + 5 := by rw [hz, e]; simp [insB]; omega
  rw [e] at hL
  have L1 : Lies s 1 (comB v ++ ([10] ++ (nodB y ByteArray.empty [] ++ ([10, 9] ++ insB [120])))) := by simpa using hL.right
  have L2 := L1.right
  have L3 : Lies s (1 + (comB v).length + 1) (nodB y ByteArray.empty [] ++ ([10, 9] ++ insB [120])) := L2.right
  have L4 := L3.right
  have L5 : Lies s (1 + (comB v).length + 1 + (nodB y ByteArray.empty []).length + 2) (insB [120]) := L4.right
  obtain ⟨r, hr⟩ := nodB_first y ByteArray.empty []
  have h1 : nextR s ⟨0, 0, 0⟩ = (⟨4, ByteArray.empty, [], str [32], 0⟩, ⟨0 + 1, 0, 0⟩) := next_bl (b := [32]) (r := [33, 45, 45] ++ (v ++ [45, 45, 62]) ++ ([10] ++ (nodB y ByteArray.empty [] ++ ([10, 9] ++ insB [120])))) (bl_one (by decide)) (by simp) (by simpa [comB] using hL)
  have h2 : nextR s ⟨1, 0, 0⟩ = (⟨4, ByteArray.empty, [], str [10], (1 + (comB v).length : Nat)⟩, ⟨1 + (comB v).length + 1, 0, 0⟩) := by
    rw [next_com hv hd L1.left]
    exact next_bl (b := [10]) (r := r ++ ([10, 9] ++ insB [120])) (bl_one (by decide)) (by simp) (by rw [hr] at L2; exact L2)
  obtain ⟨q, st2, g1, g2, g3, g4⟩ := node_T s d y [] [] hy (by intro c hc; cases hc) (1 + (comB v).length + 1) (2 * s.size + 2) newB 0 0 L3.left (by kernel_rfl) (by intro r hr; simp [newB, xmlB] at hr; rcases hr with rfl | rfl <;> exact Nat.le_refl _) (by show 2 + d ≤ 100; omega) (by omega) (by omega) (by omega)
  rw [show str [] = ByteArray.empty from rfl] at g4
  have h4 : nextR s ⟨1 + (comB v).length + 1 + (nodB y ByteArray.empty []).length, 0, 0⟩ = (⟨4, ByteArray.empty, [], str [10, 9], (1 + (comB v).length + 1 + (nodB y ByteArray.empty []).length : Nat)⟩, ⟨1 + (comB v).length + 1 + (nodB y ByteArray.empty []).length + 2, 0, 0⟩) :=
    next_bl (b := [10, 9]) (r := [63, 120, 63, 62]) (by intro c hc; simp at hc; rcases hc with rfl | rfl <;> decide) (by simp) L4
  have h5 : nextR s ⟨1 + (comB v).length + 1 + (nodB y ByteArray.empty []).length + 2, 0, 0⟩ = (Pc.zero, ⟨s.size, 0, 0⟩) := by
    rw [next_ins (lt_lit (by decide)) (by decide) L5, show 1 + (comB v).length + 1 + (nodB y ByteArray.empty []).length + 2 + (insB [120]).length = s.size by rw [hlen]; rfl]
    exact next_eof _
  unfold parseT r0
  obtain ⟨f, hf⟩ : ∃ f, s.size + 1 = f + 1 + 1 + 1 + 1 + 1 := ⟨s.size - 4, by omega⟩
  rw [hf, doc_text h1 rfl rfl (trim_bl (bl_one (by decide))), doc_text h2 rfl rfl (trim_bl (bl_one (by decide))), doc_kid g1 g2 g3 g4, doc_text h4 rfl rfl (trim_bl (by intro c hc; simp at hc; rcases hc with rfl | rfl <;> decide)), doc_end h5 rfl rfl]
end Xm
end Go.Proofs.YtfkdjdmbgednkaaDoor
