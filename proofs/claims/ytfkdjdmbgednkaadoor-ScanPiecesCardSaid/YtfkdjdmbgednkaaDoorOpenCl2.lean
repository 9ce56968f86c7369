/- What galliardref01.Close writes of letters is a text, and is opened to them. No program. -/
import Derived.Test.YtfkdjdmbgednkaaDoorOpenCl
import Derived.Test.YtfkdjdmbgednkaaDoorPlain
namespace Go.Proofs.YtfkdjdmbgednkaaDoor
namespace Xm
/-- a letter as it is written -/
def clR (r : Int) : List Int := if r = 38 then [38, 97, 109, 112, 59] else if r = 60 then [38, 108, 116, 59] else if r = 62 then [38, 103, 116, 59] else if r = 34 then [38, 113, 117, 111, 116, 59] else if r = 9 then [38, 35, 57, 59] else if r = 10 then [38, 35, 49, 48, 59] else if r = 13 then [38, 35, 49, 51, 59] else [r]
theorem clB_hi {c : UInt8} (h : 128 ≤ c.toNat) : clB c = [c] := by
  have n : ∀ d : UInt8, d.toNat < 128 → c ≠ d := fun d hd e => by rw [e] at h; omega
  unfold clB
  rw [if_neg (n 38 (by decide)), if_neg (n 60 (by decide)), if_neg (n 62 (by decide)), if_neg (n 34 (by decide)), if_neg (n 9 (by decide)), if_neg (n 10 (by decide)), if_neg (n 13 (by decide))]
theorem clL_hi : ∀ (l : List UInt8), (∀ c ∈ l, 128 ≤ c.toNat) → clL l = l
  | [], _ => rfl
  | c :: l, h => by
    have e : clL (c :: l) = clB c ++ clL l := by simp [clL]
    rw [e, clB_hi (h c List.mem_cons_self), clL_hi l (fun d hd => h d (List.mem_cons_of_mem _ hd))]
    rfl
theorem hi_of {x : Nat} (h : 128 ≤ x) (h2 : x < 256) : 128 ≤ (UInt8.ofNat x).toNat := by
  have := u8n h2
  omega
theorem clL_put {r : Int} (h : size r ≠ 0) : clL (put r) = cat (clR r) := by
  by_cases h1 : size r = 1
  · have hb := size1 h1
    have hp : put r = [UInt8.ofNat r.toNat] := by simp [put, h1]
    unfold clR
    by_cases h38 : r = 38
    · subst h38; first | rfl | decide
    by_cases h60 : r = 60
    · subst h60; first | rfl | decide
    by_cases h62 : r = 62
    · subst h62; first | rfl | decide
    by_cases h34 : r = 34
    · subst h34; first | rfl | decide
    by_cases h9 : r = 9
    · subst h9; first | rfl | decide
    by_cases h10 : r = 10
    · subst h10; first | rfl | decide
    by_cases h13 : r = 13
    · subst h13; first | rfl | decide
    rw [if_neg h38, if_neg h60, if_neg h62, if_neg h34, if_neg h9, if_neg h10, if_neg h13, hp]
    have n : ∀ d : Nat, d < 128 → r ≠ (d : Int) → UInt8.ofNat r.toNat ≠ UInt8.ofNat d := fun d hd hne e => by
      have e2 := congrArg UInt8.toNat e
      have a1 := u8n (x := r.toNat) (by omega)
      have a2 := u8n (x := d) (by omega)
      omega
    have e : clL [UInt8.ofNat r.toNat] = clB (UInt8.ofNat r.toNat) := by simp [clL]
    rw [e]
    unfold clB
    rw [if_neg (show ¬ UInt8.ofNat r.toNat = 38 from n 38 (by decide) h38), if_neg (show ¬ UInt8.ofNat r.toNat = 60 from n 60 (by decide) h60), if_neg (show ¬ UInt8.ofNat r.toNat = 62 from n 62 (by decide) h62), if_neg (show ¬ UInt8.ofNat r.toNat = 34 from n 34 (by decide) h34), if_neg (show ¬ UInt8.ofNat r.toNat = 9 from n 9 (by decide) h9), if_neg (show ¬ UInt8.ofNat r.toNat = 10 from n 10 (by decide) h10), if_neg (show ¬ UInt8.ofNat r.toNat = 13 from n 13 (by decide) h13)]
    simp [cat, hp]
  · have hm : ∀ c ∈ put r, 128 ≤ c.toNat := by
      have hsz : size r = 2 ∨ size r = 3 ∨ size r = 4 := by
        have h5 : size r = 0 ∨ size r = 1 ∨ size r = 2 ∨ size r = 3 ∨ size r = 4 := by
          unfold size
          repeat' split
          all_goals simp
        omega
      intro c hc
      rcases hsz with h2 | h2 | h2
      · have hb := size2 h2
        simp only [put, h2, if_neg (show ¬ (2 : Int) = 0 by decide), if_neg (show ¬ (2 : Int) = 1 by decide), if_true, List.mem_cons, List.not_mem_nil, or_false] at hc
        rcases hc with rfl | rfl <;> exact hi_of (by omega) (by omega)
      · have hb := size3 h2
        simp only [put, h2, if_neg (show ¬ (3 : Int) = 0 by decide), if_neg (show ¬ (3 : Int) = 1 by decide), if_neg (show ¬ (3 : Int) = 2 by decide), if_true, List.mem_cons, List.not_mem_nil, or_false] at hc
        rcases hc with rfl | rfl | rfl <;> exact hi_of (by omega) (by omega)
      · have hb := size4 h2
        simp only [put, h2, if_neg (show ¬ (4 : Int) = 0 by decide), if_neg (show ¬ (4 : Int) = 1 by decide), if_neg (show ¬ (4 : Int) = 2 by decide), if_neg (show ¬ (4 : Int) = 3 by decide), List.mem_cons, List.not_mem_nil, or_false] at hc
        rcases hc with rfl | rfl | rfl | rfl <;> exact hi_of (by omega) (by omega)
    have hr : clR r = [r] := by
      have n : ∀ d : Int, size d = 1 → r ≠ d := fun d hd e => h1 (by rw [e]; exact hd)
      unfold clR
      rw [if_neg (n 38 (by decide)), if_neg (n 60 (by decide)), if_neg (n 62 (by decide)), if_neg (n 34 (by decide)), if_neg (n 9 (by decide)), if_neg (n 10 (by decide)), if_neg (n 13 (by decide))]
    rw [clL_hi _ hm, hr]
    simp [cat]
theorem clL_cat : ∀ (L : List Int), (∀ r ∈ L, size r ≠ 0) → clL (cat L) = cat (L.flatMap clR)
  | [], _ => rfl
  | r :: L, h => by
    have e : clL (put r ++ cat L) = clL (put r) ++ clL (cat L) := by simp [clL]
    rw [cat_cons, e, clL_put (h r List.mem_cons_self), clL_cat L (fun x hx => h x (List.mem_cons_of_mem _ hx)), List.flatMap_cons, cat_append]
theorem clR_ok {r : Int} (h : size r ≠ 0 ∧ letter r = true) : ∀ x ∈ clR r, size x ≠ 0 ∧ letter x = true := by
  intro x hx
  unfold clR at hx
  repeat' split at hx
  all_goals simp only [List.mem_cons, List.not_mem_nil, or_false] at hx
  all_goals first
    | (subst hx; exact h)
    | (rcases hx with rfl | rfl | rfl | rfl | rfl | rfl <;> decide)
    | (rcases hx with rfl | rfl | rfl | rfl | rfl <;> decide)
    | (rcases hx with rfl | rfl | rfl | rfl <;> decide)
/-- what is written of letters is opened to them -/
theorem opened_close {L : List Int} (h : Ok L) : opened (str (clL (cat L))) = str (cat L) := by
  have hc := clL_cat L (fun r hr => (h r hr).1)
  have ht := text_cat (L.flatMap clR) [] [] (fun x hx => by
    obtain ⟨r, hr, hx⟩ := List.mem_flatMap.1 hx
    exact clR_ok ⟨(h r hr).1, ok_letter (h r hr).1 (h r hr).2⟩ x hx)
  rw [List.nil_append, List.append_nil, ← hc] at ht
  have he : text (str (clL (cat L))) 0 = -1 := by
    refine ht.trans ?_
    rw [text, dif_neg (by rw [str_size]; simp)]
  unfold opened
  rw [if_neg (by rw [he]; decide), open_clL (cat L) 0 [] (Lies.of (A := []) (B := []) (by simp [str]) rfl) (by rw [str_size]; simp)]
  rfl
end Xm
end Go.Proofs.YtfkdjdmbgednkaaDoor
