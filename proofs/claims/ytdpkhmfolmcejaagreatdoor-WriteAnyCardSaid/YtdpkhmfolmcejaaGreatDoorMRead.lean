/- What galliardref01.Close writes, entity.Open reads. No program. -/
/- What Plain answers is letters that may stand in a text. No program. -/
/- What galliardref01.Close writes of letters is a text, and is opened to them. No program. -/
/- scan: what Next reads back of what is written: tags with attributes, texts, what says nothing. No program. -/
/- scan: what says nothing, and the pieces of a text that is made of pieces. No program. -/
/- A text of letters without blanks at both ends is a text of letters. No program. -/
/- The names that are made of few letters may be names. No program. -/
import Derived.Test.YtdpkhmfolmcejaaGreatDoorMRef
import Derived.Test.YtdpkhmfolmcejaaGreatDoorMPiece
namespace Go.Proofs.YtdpkhmfolmcejaaGreatDoor
namespace Xm
theorem idx_first : ∀ (a : List UInt8) (c : UInt8) (B : List UInt8), c ∉ a → Lib.indexByte (a ++ c :: B) c = (a.length : Int)
  | [], c, B, h => by simp [Lib.indexByte]
  | x :: a, c, B, h => by
    have hx : ¬ x = c := fun e => h (by rw [e]; exact List.mem_cons_self)
    have ih := idx_first a c B (fun m => h (List.mem_cons_of_mem _ m))
    rw [List.cons_append, Lib.indexByte]
    simp [hx, ih]
    try omega
theorem far_lies {s : ByteArray} {k : Nat} {a : List UInt8} {c : UInt8} (h : Lies s k (a ++ [c])) (hn : c ∉ a) : far s k c = (a.length : Int) := by
  obtain ⟨_, B, hB⟩ := h
  unfold far cut
  rw [hB, List.append_assoc, List.singleton_append]
  exact idx_first a c B hn
/-- a name is opened -/
theorem open_name {s : ByteArray} {k : Nat} {a : List UInt8} {r : UInt8} (h : Lies s k (38 :: a ++ [59])) (hn : (59 : UInt8) ∉ a) (h1 : one (str a) = (r.toNat : Int)) (h0 : r ≠ 0) (hp : put (r.toNat : Int) = [r]) (acc : List UInt8) :
    openS s k acc = openS s (k + (a.length + 2)) (acc ++ [r]) := by
  have hl := h.le
  simp only [List.length_append, List.length_cons, List.length_nil] at hl
  have hf := far_lies (a := 38 :: a) h (by simp only [List.mem_cons, not_or]; exact ⟨by decide, hn⟩)
  have hb : bt s k = 38 := h.bt (i := 0) (by simp)
  have hc : cut s (k + 1) (k + (a.length + 1)) = str a := by
    have h2 : Lies s (k + 1) a := (Lies.right (l := [38]) (r := a ++ [59]) h).left
    have := h2.ext
    rw [show k + 1 + a.length = k + (a.length + 1) by omega] at this
    exact this
  rw [openS, dif_pos (by omega), if_pos hb, dif_neg (by rw [hf]; omega), hf]
  rw [show (((38 :: a).length : Nat) : Int).toNat = a.length + 1 from rfl, hc, h1, if_neg (by intro e; apply h0; apply UInt8.toNat_inj.1; show r.toNat = 0; omega), hp]
  rfl
theorem open_byte {s : ByteArray} {k : Nat} {c : UInt8} (h : Lies s k [c]) (hc : c ≠ 38) (acc : List UInt8) : openS s k acc = openS s (k + 1) (acc ++ [c]) := by
  have hl := h.le
  have hb : bt s k = (c.toNat : Int) := h.bt (i := 0) (by simp)
  rw [openS, dif_pos (by simp at hl; omega), if_neg (by rw [hb]; intro e; apply hc; apply UInt8.toNat_inj.1; show c.toNat = 38; omega), hb]
  simp
theorem open_clB {s : ByteArray} {k : Nat} {c : UInt8} (h : Lies s k (clB c)) (acc : List UInt8) : openS s k acc = openS s (k + (clB c).length) (acc ++ [c]) := by
  unfold clB at *
  by_cases h38 : c = 38
  · subst h38
    exact open_name (a := [97, 109, 112]) h (by decide) (by kernel_rfl) (by decide) (by kernel_rfl) acc
  by_cases h60 : c = 60
  · subst h60
    exact open_name (a := [108, 116]) h (by decide) (by kernel_rfl) (by decide) (by kernel_rfl) acc
  by_cases h62 : c = 62
  · subst h62
    exact open_name (a := [103, 116]) h (by decide) (by kernel_rfl) (by decide) (by kernel_rfl) acc
  by_cases h34 : c = 34
  · subst h34
    exact open_name (a := [113, 117, 111, 116]) h (by decide) (by kernel_rfl) (by decide) (by kernel_rfl) acc
  by_cases h9 : c = 9
  · subst h9
    exact open_name (a := [35, 57]) h (by decide) (by kernel_rfl) (by decide) (by kernel_rfl) acc
  by_cases h10 : c = 10
  · subst h10
    exact open_name (a := [35, 49, 48]) h (by decide) (by kernel_rfl) (by decide) (by kernel_rfl) acc
  by_cases h13 : c = 13
  · subst h13
    exact open_name (a := [35, 49, 51]) h (by decide) (by kernel_rfl) (by decide) (by kernel_rfl) acc
  rw [if_neg h38, if_neg h60, if_neg h62, if_neg h34, if_neg h9, if_neg h10, if_neg h13] at h ⊢
  exact open_byte h h38 acc
theorem open_clL {s : ByteArray} : ∀ (v : List UInt8) (k : Nat) (acc : List UInt8), Lies s k (clL v) → k + (clL v).length = s.size → openS s k acc = (acc ++ v, -1)
  | [], k, acc, _, hz => by
    rw [openS, dif_neg (by simp [clL] at hz; omega), List.append_nil]
  | c :: v, k, acc, h, hz => by
    have e : clL (c :: v) = clB c ++ clL v := by simp [clL]
    rw [e] at h hz
    rw [List.length_append] at hz
    rw [open_clB h.left, open_clL v _ _ h.right (by omega), List.append_assoc]
    rfl
end Xm
end Go.Proofs.YtdpkhmfolmcejaaGreatDoor
namespace Go.Proofs.YtdpkhmfolmcejaaGreatDoor
namespace Xm
/-- letters that may stand in a text -/
def Ok (L : List Int) : Prop := ∀ r ∈ L, size r ≠ 0 ∧ odd r = false
theorem rget_some (s : ByteArray) : ∀ m n, 1 ≤ n → n + m ≤ 5 → (rget s m n).2 ≠ 0 → ∃ j : Nat, n ≤ j ∧ j ≤ 4 ∧ j ≤ s.size ∧ rget s m n = (rval s j, (j : Int)) ∧ str (put (rval s j)) = s.extract 0 j ∧ ∀ i, n ≤ i → i < j → str (put (rval s i)) ≠ s.extract 0 i
  | 0, n, h1, h, h0 => by exfalso; apply h0; rfl
  | m + 1, n, h1, h, h0 => by
    rw [rget] at h0 ⊢
    split
    · rename_i hle
      rw [if_pos hle] at h0
      split
      · rename_i he
        exact ⟨n, Nat.le_refl _, by omega, hle, rfl, he, fun i h2 h3 => by omega⟩
      · rename_i he
        rw [if_neg he] at h0
        obtain ⟨j, g1, g2, g3, g4, g5, g6⟩ := rget_some s m (n + 1) (by omega) (by omega) h0
        refine ⟨j, by omega, g2, g3, g4, g5, fun i h2 h3 => ?_⟩
        by_cases hi : i = n
        · rw [hi]; exact he
        · exact g6 i (by omega) h3
    · rename_i hle
      rw [if_neg hle] at h0
      exact absurd rfl h0
theorem rget_at {v : ByteArray} : ∀ (m n j : Nat), n ≤ j → j < n + m → j ≤ v.size → str (put (rval v j)) = v.extract 0 j → (∀ i, n ≤ i → i < j → str (put (rval v i)) ≠ v.extract 0 i) → rget v m n = (rval v j, (j : Int))
  | 0, n, j, h1, h2, _, _, _ => by omega
  | m + 1, n, j, h1, h2, h3, h4, h5 => by
    rw [rget, if_pos (by omega)]
    by_cases hj : j = n
    · subst hj; rw [if_pos h4]
    · rw [if_neg (h5 n (Nat.le_refl _) (by omega))]
      exact rget_at m (n + 1) j (by omega) (by omega) h3 h4 (fun i g1 g2 => h5 i (by omega) g2)
theorem ext0 (t : ByteArray) {i j : Nat} (h : i ≤ j) : (t.extract 0 j).extract 0 i = t.extract 0 i := by
  rw [ByteArray.extract_extract]
  congr 1
  omega
theorem rval_pre {s : ByteArray} {n i : Nat} (hn : n ≤ s.size) (h1 : 1 ≤ i) (hi : i ≤ n) (hi4 : i ≤ 4) : rval (s.extract 0 n) i = rval s i := by
  have hb : ∀ q, q < n → bt (s.extract 0 n) q = bt s q := by
    intro q hq
    have hz : (s.extract 0 n).size = n := by simp; omega
    rw [← bt_eq (show q < (s.extract 0 n).size by omega), ← bt_eq (show q < s.size by omega), ByteArray.getElem_extract]
    simp only [Nat.zero_add]
  unfold rval
  rcases (show i = 1 ∨ i = 2 ∨ i = 3 ∨ i = 4 by omega) with rfl | rfl | rfl | rfl
  · simp [hb 0 (by omega)]
  · simp [hb 0 (by omega), hb 1 (by omega)]
  · simp [hb 0 (by omega), hb 1 (by omega), hb 2 (by omega)]
  · simp [hb 0 (by omega), hb 1 (by omega), hb 2 (by omega), hb 3 (by omega)]
/-- a letter that is got is got again from its own bytes -/
theorem rg_own {s : ByteArray} {k : Nat} (hk : k ≤ s.size) (h0 : (rg s k).2 ≠ 0) : rg (s.extract k (k + (rg s k).2.toNat)) 0 = rg s k ∧ s.extract k (k + (rg s k).2.toNat) = str (put (rg s k).1) ∧ size (rg s k).1 = (rg s k).2 := by
  obtain ⟨j, h1, h4, hle, he, hp, hno⟩ := rget_some (s.extract k s.size) 4 1 (by omega) (by omega) h0
  have hz : (s.extract k s.size).size = s.size - k := by simp
  have hv : s.extract k (k + j) = (s.extract k s.size).extract 0 j := by
    rw [ByteArray.extract_extract]
    congr 1
    · omega
  unfold rg at *
  rw [he]
  simp only [Int.toNat_natCast]
  rw [hv]
  generalize s.extract k s.size = t at *
  have hz2 : (t.extract 0 j).size = j := by simp; omega
  refine ⟨?_, hp.symm, ?_⟩
  · have hfull : (t.extract 0 j).extract 0 (t.extract 0 j).size = t.extract 0 j := by rw [hz2, ext0 t (Nat.le_refl _)]
    rw [hfull, rget_at 4 1 j h1 (by omega) (by omega) (by rw [rval_pre (by omega) h1 (Nat.le_refl _) h4, hp, ext0 t (Nat.le_refl _)]) (fun i g1 g2 => by
      rw [rval_pre (by omega) g1 (by omega) (by omega)]
      intro hx
      apply hno i g1 g2
      rw [hx, ext0 t (by omega)]), rval_pre (by omega) h1 (Nat.le_refl _) h4]
  · have h5 := congrArg ByteArray.size hp
    rw [str_size, hz2] at h5
    have := put_size (rval t j)
    omega
theorem rtext_own {s : ByteArray} {k : Nat} (hk : k ≤ s.size) (h0 : (rg s k).2 ≠ 0) (ht : ¬ 0 ≤ rtext (s.extract k (k + (rg s k).2.toNat)) 0) : odd (rg s k).1 = false := by
  obtain ⟨h1, h2, h3⟩ := rg_own hk h0
  have hbd := rg_bd hk
  have hz : (s.extract k (k + (rg s k).2.toNat)).size = (rg s k).2.toNat := by simp; omega
  cases ho : odd (rg s k).1
  · rfl
  · exfalso
    apply ht
    rw [rtext, dif_pos (by omega), h1, dif_pos (.inr ho)]
    simp
theorem rplain_cat (s : ByteArray) : ∀ (d k : Nat) (acc : ByteArray), s.size - k = d → k ≤ s.size → ∃ L, Ok L ∧ rplain s k acc = acc ++ str (cat L) := by
  intro d
  induction d using Nat.strongRecOn with
  | _ d ih =>
    intro k acc hd hk
    rw [rplain]
    split
    · rename_i hlt
      split
      · obtain ⟨L, hL, he⟩ := ih (s.size - (k + 1)) (by omega) (k + 1) (acc ++ ⟨#[120]⟩) rfl (by omega)
        refine ⟨120 :: L, fun r hr => ?_, ?_⟩
        · rcases List.mem_cons.1 hr with rfl | h
          · exact ⟨by decide, by decide⟩
          · exact hL r h
        · rw [he, cat_cons, ← str_append, ByteArray.append_assoc]
          rfl
      · rename_i h0
        rw [not_or] at h0
        have hbd := rg_bd hk
        obtain ⟨g1, g2, g3⟩ := rg_own hk h0.1
        have ho := rtext_own hk h0.1 h0.2
        have h00 := h0.1
        obtain ⟨L, hL, he⟩ := ih (s.size - (k + (rg s k).2.toNat)) (by omega) (k + (rg s k).2.toNat) (acc ++ s.extract k (k + (rg s k).2.toNat)) rfl (by omega)
        refine ⟨(rg s k).1 :: L, fun r hr => ?_, ?_⟩
        · rcases List.mem_cons.1 hr with rfl | h
          · exact ⟨by rw [g3]; exact h00, ho⟩
          · exact hL r h
        · rw [he, g2, cat_cons, ← str_append, ByteArray.append_assoc]
    · refine ⟨[], ?_, ?_⟩
      · intro r hr; cases hr
      · show acc = acc ++ ByteArray.empty; simp
/-- what Plain answers -/
theorem plain_cat (s : ByteArray) : ∃ L, Ok L ∧ rplain s 0 ByteArray.empty = str (cat L) := by
  obtain ⟨L, h, e⟩ := rplain_cat s _ 0 ByteArray.empty rfl (Nat.zero_le _)
  exact ⟨L, h, by rw [e]; simp⟩
theorem ok_letter {r : Int} (h0 : size r ≠ 0) (h : odd r = false) : letter r = true := by
  have hm : may r = true := by
    cases hm : may r
    · exfalso; apply h0; simp [size, hm]
    · rfl
  simp only [odd, Bool.or_eq_false_iff, Bool.and_eq_false_iff] at h
  unfold letter
  rw [hm]
  split
  · rename_i h32
    simp [h32] at h
    simp
    omega
  · simp at h ⊢
    omega
end Xm
end Go.Proofs.YtdpkhmfolmcejaaGreatDoor
namespace Go.Proofs.YtdpkhmfolmcejaaGreatDoor
namespace Xm
/-- a letter as it is written -/
def clR (r : Int) : List Int := if r = 38 then [38, 97, 109, 112, 59] else if r = 60 then [38, 108, 116, 59] else if r = 62 then [38, 103, 116, 59] else if r = 34 then [38, 113, 117, 111, 116, 59] else if r = 9 then [38, 35, 57, 59] else if r = 10 then [38, 35, 49, 48, 59] else if r = 13 then [38, 35, 49, 51, 59] else [r]
theorem clB_hi {c : UInt8} (h : 128 ≤ c.toNat) : clB c = [c] := by
  have n : ∀ d : UInt8, d.toNat < 128 → c ≠ d := fun d hd e => by rw [e] at h; omega
  unfold clB
  rw [if_neg (n 38 (by decide)), if_neg (n 60 (by decide)), if_neg (n 62 (by decide)), if_neg (n 34 (by decide)), if_neg (n 9 (by decide)), if_neg (n 10 (by decide)), if_neg (n 13 (by decide))]
theorem clL_hi : ∀ (l : List UInt8), (∀ c ∈ l, 128 ≤ c.toNat) → clL l = l
  | [], _ => rfl
  | c :: l, h => by
    have e : clL (c :: l) = clB c ++ clL l := by simp [clL]
    rw [e, clB_hi (h c List.mem_cons_self), clL_hi l (fun d hd => h d (List.mem_cons_of_mem _ hd))]
    rfl
theorem hi_of {x : Nat} (h : 128 ≤ x) (h2 : x < 256) : 128 ≤ (UInt8.ofNat x).toNat := by
  have := u8n h2
  omega
theorem clL_put {r : Int} (h : size r ≠ 0) : clL (put r) = cat (clR r) := by
  by_cases h1 : size r = 1
  · have hb := size1 h1
    have hp : put r = [UInt8.ofNat r.toNat] := by simp [put, h1]
    unfold clR
    by_cases h38 : r = 38
    · subst h38; first | rfl | decide
    by_cases h60 : r = 60
    · subst h60; first | rfl | decide
    by_cases h62 : r = 62
    · subst h62; first | rfl | decide
    by_cases h34 : r = 34
    · subst h34; first | rfl | decide
    by_cases h9 : r = 9
    · subst h9; first | rfl | decide
    by_cases h10 : r = 10
    · subst h10; first | rfl | decide
    by_cases h13 : r = 13
    · subst h13; first | rfl | decide
    rw [if_neg h38, if_neg h60, if_neg h62, if_neg h34, if_neg h9, if_neg h10, if_neg h13, hp]
    have n : ∀ d : Nat, d < 128 → r ≠ (d : Int) → UInt8.ofNat r.toNat ≠ UInt8.ofNat d := fun d hd hne e => by
      have e2 := congrArg UInt8.toNat e
      have a1 := u8n (x := r.toNat) (by omega)
      have a2 := u8n (x := d) (by omega)
      omega
    have e : clL [UInt8.ofNat r.toNat] = clB (UInt8.ofNat r.toNat) := by simp [clL]
    rw [e]
    unfold clB
    rw [if_neg (show ¬ UInt8.ofNat r.toNat = 38 from n 38 (by decide) h38), if_neg (show ¬ UInt8.ofNat r.toNat = 60 from n 60 (by decide) h60), if_neg (show ¬ UInt8.ofNat r.toNat = 62 from n 62 (by decide) h62), if_neg (show ¬ UInt8.ofNat r.toNat = 34 from n 34 (by decide) h34), if_neg (show ¬ UInt8.ofNat r.toNat = 9 from n 9 (by decide) h9), if_neg (show ¬ UInt8.ofNat r.toNat = 10 from n 10 (by decide) h10), if_neg (show ¬ UInt8.ofNat r.toNat = 13 from n 13 (by decide) h13)]
    simp [cat, hp]
  · have hm : ∀ c ∈ put r, 128 ≤ c.toNat := by
      have hsz : size r = 2 ∨ size r = 3 ∨ size r = 4 := by
        have h5 : size r = 0 ∨ size r = 1 ∨ size r = 2 ∨ size r = 3 ∨ size r = 4 := by
          unfold size
          repeat' split
          all_goals simp
        omega
      intro c hc
      rcases hsz with h2 | h2 | h2
      · have hb := size2 h2
        simp only [put, h2, if_neg (show ¬ (2 : Int) = 0 by decide), if_neg (show ¬ (2 : Int) = 1 by decide), if_true, List.mem_cons, List.not_mem_nil, or_false] at hc
        rcases hc with rfl | rfl <;> exact hi_of (by omega) (by omega)
      · have hb := size3 h2
        simp only [put, h2, if_neg (show ¬ (3 : Int) = 0 by decide), if_neg (show ¬ (3 : Int) = 1 by decide), if_neg (show ¬ (3 : Int) = 2 by decide), if_true, List.mem_cons, List.not_mem_nil, or_false] at hc
        rcases hc with rfl | rfl | rfl <;> exact hi_of (by omega) (by omega)
      · have hb := size4 h2
        simp only [put, h2, if_neg (show ¬ (4 : Int) = 0 by decide), if_neg (show ¬ (4 : Int) = 1 by decide), if_neg (show ¬ (4 : Int) = 2 by decide), if_neg (show ¬ (4 : Int) = 3 by decide), List.mem_cons, List.not_mem_nil, or_false] at hc
        rcases hc with rfl | rfl | rfl | rfl <;> exact hi_of (by omega) (by omega)
    have hr : clR r = [r] := by
      have n : ∀ d : Int, size d = 1 → r ≠ d := fun d hd e => h1 (by rw [e]; exact hd)
      unfold clR
      rw [if_neg (n 38 (by decide)), if_neg (n 60 (by decide)), if_neg (n 62 (by decide)), if_neg (n 34 (by decide)), if_neg (n 9 (by decide)), if_neg (n 10 (by decide)), if_neg (n 13 (by decide))]
    rw [clL_hi _ hm, hr]
    simp [cat]
theorem clL_cat : ∀ (L : List Int), (∀ r ∈ L, size r ≠ 0) → clL (cat L) = cat (L.flatMap clR)
  | [], _ => rfl
  | r :: L, h => by
    have e : clL (put r ++ cat L) = clL (put r) ++ clL (cat L) := by simp [clL]
    rw [cat_cons, e, clL_put (h r List.mem_cons_self), clL_cat L (fun x hx => h x (List.mem_cons_of_mem _ hx)), List.flatMap_cons, cat_append]
theorem clR_ok {r : Int} (h : size r ≠ 0 ∧ letter r = true) : ∀ x ∈ clR r, size x ≠ 0 ∧ letter x = true := by
  intro x hx
  unfold clR at hx
  repeat' split at hx
  all_goals simp only [List.mem_cons, List.not_mem_nil, or_false] at hx
  all_goals first
    | (subst hx; exact h)
    | (rcases hx with rfl | rfl | rfl | rfl | rfl | rfl <;> decide)
    | (rcases hx with rfl | rfl | rfl | rfl | rfl <;> decide)
    | (rcases hx with rfl | rfl | rfl | rfl <;> decide)
/-- what is written of letters is opened to them -/
theorem opened_close {L : List Int} (h : Ok L) : opened (str (clL (cat L))) = str (cat L) := by
  have hc := clL_cat L (fun r hr => (h r hr).1)
  have ht := text_cat (L.flatMap clR) [] [] (fun x hx => by
    obtain ⟨r, hr, hx⟩ := List.mem_flatMap.1 hx
    exact clR_ok ⟨(h r hr).1, ok_letter (h r hr).1 (h r hr).2⟩ x hx)
  rw [List.nil_append, List.append_nil, ← hc] at ht
  have he : text (str (clL (cat L))) 0 = -1 := by
    refine ht.trans ?_
    rw [text, dif_neg (by rw [str_size]; simp)]
  unfold opened
  rw [if_neg (by rw [he]; decide), open_clL (cat L) 0 [] (Lies.of (A := []) (B := []) (by simp [str]) rfl) (by rw [str_size]; simp)]
  rfl
end Xm
end Go.Proofs.YtdpkhmfolmcejaaGreatDoor
namespace Go.Proofs.YtdpkhmfolmcejaaGreatDoor
namespace Xm
theorem Lies.hd {s : ByteArray} {k : Nat} {c : UInt8} {l : List UInt8} (h : Lies s k (c :: l)) : Xm.bt s k = (c.toNat : Int) := h.bt (i := 0) (by simp)
theorem Lies.tl {s : ByteArray} {k : Nat} {c : UInt8} {l : List UInt8} (h : Lies s k (c :: l)) : Lies s (k + 1) l := Lies.right (l := [c]) (r := l) h
theorem Lies.lt {s : ByteArray} {k : Nat} {c : UInt8} {l : List UInt8} (h : Lies s k (c :: l)) : k < s.size := by have := h.le; simp at this; omega
theorem u8_eq {c d : UInt8} (h : (c.toNat : Int) = (d.toNat : Int)) : c = d := UInt8.toNat_inj.1 (by omega)
/-- what a name, with a prefix perhaps, is of -/
def Pt (c : UInt8) : Prop := part (c.toNat : Int) = true ∨ c = 58
theorem pt_bt {s : ByteArray} {k : Nat} {c : UInt8} (h : bt s k = (c.toNat : Int)) : (part (bt s k) = true ∨ bt s k = 58) ↔ Pt c := by
  rw [h]
  constructor
  · rintro (e | e)
    · exact .inl e
    · exact .inr (u8_eq (d := 58) e)
  · rintro (e | e)
    · exact .inl e
    · exact .inr (by rw [e]; rfl)
theorem nameEnd_lies {s : ByteArray} {x : UInt8} (hx : ¬ Pt x) : ∀ (l : List UInt8) (k : Nat), (∀ c ∈ l, Pt c) → Lies s k (l ++ [x]) → nameEnd s k = k + l.length
  | [], k, _, h => by
    have hb := Lies.hd (l := []) h
    rw [nameEnd]
    split
    · rw [if_neg (fun e => hx ((pt_bt hb).1 e))]; rfl
    · rfl
  | c :: l, k, hl, h => by
    have hb := Lies.hd (l := l ++ [x]) h
    rw [nameEnd, if_pos (Lies.lt (l := l ++ [x]) h), if_pos ((pt_bt hb).2 (hl c List.mem_cons_self)), nameEnd_lies hx l (k + 1) (fun d hd => hl d (List.mem_cons_of_mem _ hd)) (Lies.tl h), List.length_cons]
    omega
/-- blanks -/
def Bl (l : List UInt8) : Prop := ∀ c ∈ l, blank (c.toNat : Int) = true
theorem skip_lies {s : ByteArray} {x : UInt8} (hx : blank (x.toNat : Int) = false) : ∀ (l : List UInt8) (k : Nat), Bl l → Lies s k (l ++ [x]) → skip s k = k + l.length
  | [], k, _, h => by
    have hb := Lies.hd (l := []) h
    exact skip_stop (by rw [hb]; exact hx)
  | c :: l, k, hl, h => by
    have hb := Lies.hd (l := l ++ [x]) h
    rw [skip, if_pos (Lies.lt (l := l ++ [x]) h), if_pos (by rw [hb]; exact hl c List.mem_cons_self), skip_lies hx l (k + 1) (fun d hd => hl d (List.mem_cons_of_mem _ hd)) (Lies.tl h), List.length_cons]
    omega
theorem blank_not_pt {c : UInt8} (h : blank (c.toNat : Int) = true) : ¬ Pt c := by
  intro hp
  rcases hp with hp | rfl
  · unfold blank at h
    simp only [Bool.or_eq_true, beq_iff_eq] at h
    rcases h with ((h | h) | h) | h <;> (rw [h] at hp; exact absurd hp (by decide))
  · exact absurd h (by decide)
/-- a name that may stand in a tag -/
def Nm (l : List UInt8) : Prop := (∀ c ∈ l, Pt c) ∧ (split (str l)).2.2 = true
theorem name_lies {s : ByteArray} {k : Nat} {x : UInt8} (hx : ¬ Pt x) {l : List UInt8} (hl : Nm l) (h : Lies s k (l ++ [x])) : nameEnd s k = k + l.length ∧ nameOk s k = true ∧ nameS s k = str l := by
  have h1 := nameEnd_lies hx l k hl.1 h
  have h2 : nameOk s k = true := by unfold nameOk; rw [h1, h.left.ext]; exact hl.2
  exact ⟨h1, h2, by unfold nameS; rw [h2, if_pos rfl, h1, h.left.ext]⟩
theorem nm_pos {l : List UInt8} (h : Nm l) : ∃ c r, l = c :: r ∧ Pt c := by
  cases l with
  | nil => exact absurd h.2 (by rw [show (split (str [])).2.2 = false by kernel_rfl]; simp)
  | cons c r => exact ⟨c, r, rfl, h.1 c List.mem_cons_self⟩
/-- a text of letters -/
def Vt (v : List UInt8) : Prop := ∃ L, Ok L ∧ v = cat L
theorem clB_no {c x : UInt8} (hx : x = 60 ∨ x = 34 ∨ x = 62) : x ∉ clB c := by
  unfold clB
  rcases hx with rfl | rfl | rfl
  all_goals
    repeat' split
    all_goals first | decide | (simp only [List.mem_singleton]; intro e; simp_all)
theorem clL_no {x : UInt8} (hx : x = 60 ∨ x = 34 ∨ x = 62) (l : List UInt8) : x ∉ clL l := by
  unfold clL
  intro h
  obtain ⟨c, _, hc⟩ := List.mem_flatMap.1 h
  exact clB_no hx hc
theorem clL_nil {l : List UInt8} (h : clL l = []) : l = [] := by
  cases l with
  | nil => rfl
  | cons c l =>
    exfalso
    have e : clL (c :: l) = clB c ++ clL l := by simp [clL]
    rw [e] at h
    have := (List.append_eq_nil_iff.1 h).1
    unfold clB at this
    repeat' split at this
    all_goals cases this
theorem openT_close {v : List UInt8} (h : Vt v) (p : P3) (a : Nat) : openT p (str (clL v)) a = p ∧ opened (str (clL v)) = str v := by
  obtain ⟨L, hL, rfl⟩ := h
  refine ⟨?_, opened_close hL⟩
  have hc := clL_cat L (fun r hr => (hL r hr).1)
  have ht := text_cat (L.flatMap clR) [] [] (fun x hx => by
    obtain ⟨r, hr, hx⟩ := List.mem_flatMap.1 hx
    exact clR_ok ⟨(hL r hr).1, ok_letter (hL r hr).1 (hL r hr).2⟩ x hx)
  rw [List.nil_append, List.append_nil, ← hc] at ht
  have he : text (str (clL (cat L))) 0 = -1 := by
    refine ht.trans ?_
    rw [text, dif_neg (by rw [str_size]; simp)]
  unfold openT
  rw [if_neg (by rw [he]; decide), open_clL (cat L) 0 [] (Lies.of (A := []) (B := []) (by simp [str]) rfl) (by rw [str_size]; simp)]
  rfl
theorem idx_none : ∀ (l : List UInt8) (c : UInt8), c ∉ l → Lib.indexByte l c = -1
  | [], c, _ => rfl
  | b :: l, c, h => by
    have h1 : ¬ b = c := fun e => h (by rw [e]; exact List.mem_cons_self)
    rw [Lib.indexByte, if_neg (by simpa using h1), idx_none l c (fun m => h (List.mem_cons_of_mem _ m))]
    rfl
theorem ind_first : ∀ (a : List UInt8) (c : UInt8) (B : List UInt8), c ∉ a → Lib.index (a ++ c :: B) [c] = (a.length : Int)
  | [], c, B, h => by simp [Lib.index]
  | x :: a, c, B, h => by
    have hx : ¬ c = x := fun e => h (by rw [e]; exact List.mem_cons_self)
    have ih := ind_first a c B (fun m => h (List.mem_cons_of_mem _ m))
    rw [List.cons_append, Lib.index]
    simp [hx, ih]
    try omega
theorem farS_lies {s : ByteArray} {k : Nat} {a : List UInt8} {c : UInt8} (h : Lies s k (a ++ [c])) (hn : c ∉ a) : farS s k (str [c]) = (a.length : Int) := by
  obtain ⟨_, B, hB⟩ := h
  unfold farS
  rw [hB, List.append_assoc, List.singleton_append]
  exact ind_first a c B hn
/-- an attribute as it is written -/
def atB (a : List UInt8 × List UInt8) : List UInt8 := a.1 ++ ([61, 34] ++ (clL a.2 ++ [34]))
theorem attr_lies {s : ByteArray} {k : Nat} {a : List UInt8 × List UInt8} (h1 : Nm a.1) (h2 : Vt a.2) (h : Lies s k (atB a)) : attrT s ⟨k, 0, 0⟩ = ⟨k + (atB a).length, 0, 0⟩ ∧ attrV s ⟨k, 0, 0⟩ = str a.2 ∧ nameS s k = str a.1 := by
  obtain ⟨n, v⟩ := a
  simp only at h1 h2
  unfold atB at h
  simp only at h
  have hn : Lies s k (n ++ [61]) := by
    have : Lies s k ((n ++ [61]) ++ ([34] ++ (clL v ++ [34]))) := by simpa using h
    exact this.left
  obtain ⟨n1, n2, n3⟩ := name_lies (by unfold Pt; decide) h1 hn
  have he : Lies s (k + n.length) (61 :: 34 :: (clL v ++ [34])) := h.right
  have hq : Lies s (k + n.length + 1) (34 :: (clL v ++ [34])) := he.tl
  have hv : Lies s (k + n.length + 2) (clL v ++ [34]) := hq.tl
  have hk : skipT s (nameT s ⟨k, 0, 0⟩) eqS = ⟨k + n.length + 1, 0, 0⟩ := by
    have e1 : nameT s ⟨k, 0, 0⟩ = ⟨k + n.length, 0, 0⟩ := by
      unfold nameT
      simp only [n2, n1, if_true]
    have e2 : skip s (k + n.length) = k + n.length := skip_stop (by rw [he.hd]; rfl)
    have e3 : skip s (k + n.length + 1) = k + n.length + 1 := skip_stop (by rw [hq.hd]; rfl)
    have e4 : hasAt s (k + n.length) eqS = true := by rw [he.has (x := eqS) (by rw [show eqS.size = 1 from rfl]; simp)]; rfl
    rw [e1]
    unfold skipT
    rw [if_pos rfl]
    simp only [e2, e4, if_true]
    rw [show eqS.size = 1 from rfl, e3]
  have hqa : quoteAt s (k + n.length + 1) = true := by
    unfold quoteAt
    rw [hq.hd, decide_eq_true hq.lt]
    rfl
  have hx : s.extract (k + n.length + 1) (k + n.length + 1 + 1) = str [34] := Lies.ext (l := [34]) (Lies.left (l := [34]) (r := clL v ++ [34]) hq)
  have hf : farS s (k + n.length + 1 + 1) (str [34]) = ((clL v).length : Int) := farS_lies hv (clL_no (.inr (.inl rfl)) v)
  have hb : s.extract (k + n.length + 1 + 1) (k + n.length + 1 + 1 + (clL v).length) = str (clL v) := hv.left.ext
  have h60 : Lib.indexByte (str (clL v)).data.toList 60 = -1 := idx_none (clL v) 60 (clL_no (.inl rfl) v)
  have ho := openT_close h2
  refine ⟨?_, ?_, n3⟩
  · unfold attrT
    rw [hk]
    unfold attr2
    rw [if_neg (by simp), if_neg (by simp [hqa])]
    unfold valT
    simp only [hx, hf, Int.toNat_natCast, hb, h60]
    rw [if_neg (by omega), if_neg (by decide), (ho _ _).1]
    unfold atB
    simp only [List.length_append, List.length_cons, List.length_nil]
    congr 1
    omega
  · unfold attrV
    rw [hk]
    unfold attrV2
    rw [if_neg (by simp), if_neg (by simp [hqa])]
    unfold valV
    simp only [hx, hf, Int.toNat_natCast, hb, h60]
    rw [if_neg (by omega), if_neg (by decide), (ho ⟨0, 0, 0⟩ 0).2]
/-- attributes as they are written, blanks ahead of each -/
def atsB (bl : List UInt8) (l : List (List UInt8 × List UInt8)) : List UInt8 := l.flatMap fun a => bl ++ atB a
def bsA (l : List (List UInt8 × List UInt8)) : List (ByteArray × ByteArray) := l.map fun a => (str a.1, str a.2)
def AtOk (l : List (List UInt8 × List UInt8)) : Prop := (∀ a ∈ l, Nm a.1 ∧ Vt a.2) ∧ (l.map (·.1)).Nodup
theorem any_no {l : List (List UInt8 × List UInt8)} {n : List UInt8} (h : n ∉ l.map (·.1)) : (bsA l).any (named1 (str n)) = false := by
  rw [List.any_eq_false]
  intro x hx
  unfold bsA at hx
  obtain ⟨a, ha, rfl⟩ := List.mem_map.1 hx
  unfold named1
  simp only [beq_iff_eq, ByteArray.toList_eq]
  intro e
  exact h (List.mem_map.2 ⟨a, ha, e⟩)
/-- how a tag ends -/
def endB (one : Bool) : List UInt8 := if one then [47, 62] else [62]
theorem tagL_lies {s : ByteArray} {bl be : List UInt8} (hbl : Bl bl) (hb0 : bl ≠ []) (hbe : Bl be) (one : Bool) (hone : one = true → be = []) : ∀ (l acc : List (List UInt8 × List UInt8)) (n k : Nat), AtOk (acc ++ l) → l.length < n → (acc ++ l).length ≤ 16 → Lies s k (atsB bl l ++ (be ++ endB one)) →
    tagL n s ⟨k, 0, 0⟩ (bsA acc) = (if one then 3 else 1, bsA (acc ++ l), ⟨k + (atsB bl l).length + be.length + (endB one).length, 0, 0⟩)
  | [], acc, n + 1, k, _, _, _, h => by
    have h : Lies s k (be ++ endB one) := by simpa [atsB] using h
    have hr : Lies s (k + be.length) (endB one) := h.right
    rw [tagL, if_neg (by simp)]
    simp only
    cases one with
    | true =>
      obtain rfl := hone rfl
      have e1 : skip s k = k := skip_stop (by rw [Lies.hd (l := [62]) h]; rfl)
      rw [e1, if_pos (by rw [h.has (x := closeE) (by rw [show closeE.size = 2 from rfl]; simp [endB])]; rfl)]
      simp [atsB, endB]
    | false =>
      have e1 : skip s k = k + be.length := skip_lies (by decide) be k hbe h
      rw [e1, if_neg (by rw [hr.no (x := closeE) 0 (by simp [endB]) (by decide) (by simp [endB, closeE])]; simp), if_pos (by rw [hr.has (x := closeT) (by rw [show closeT.size = 1 from rfl]; simp [endB])]; rfl)]
      simp [atsB, endB]
  | a :: l, acc, n + 1, k, hok, hn, h16, h => by
    have hA : Lies s k (bl ++ (atB a ++ (atsB bl l ++ (be ++ endB one)))) := by simpa [atsB, List.append_assoc] using h
    obtain ⟨hn1, hv1⟩ := hok.1 a (by simp)
    obtain ⟨c, r, hc, hpt⟩ := nm_pos hn1
    have hbc : blank (c.toNat : Int) = false := by
      cases hb : blank (c.toNat : Int)
      · rfl
      · exact absurd hpt (blank_not_pt hb)
    have hB : Lies s (k + bl.length) (atB a ++ (atsB bl l ++ (be ++ endB one))) := hA.right
    have hB1 : Lies s (k + bl.length) (atB a) := hB.left
    obtain ⟨r', hr'⟩ : ∃ r', atB a = c :: r' := by unfold atB; rw [hc]; exact ⟨_, rfl⟩
    have hS : skip s k = k + bl.length := skip_lies hbc bl k hbl (by
      have : Lies s k ((bl ++ [c]) ++ (r' ++ (atsB bl l ++ (be ++ endB one)))) := by rw [hr'] at hA; simpa using hA
      exact this.left)
    have hC : Lies s (k + bl.length) (c :: r') := by rw [← hr']; exact hB1
    have hbl0 : 0 < bl.length := List.length_pos_iff.2 hb0
    obtain ⟨q1, q2, q3⟩ := attr_lies hn1 hv1 hB1
    have hno : a.1 ∉ acc.map (·.1) := by
      have := hok.2
      rw [List.map_append, List.map_cons] at this
      intro hm
      exact (List.nodup_append.1 this).2.2 _ hm _ List.mem_cons_self rfl
    have hc47 : c ≠ 47 := by rintro rfl; rcases hpt with e | e <;> exact absurd e (by decide)
    have hc62 : c ≠ 62 := by rintro rfl; rcases hpt with e | e <;> exact absurd e (by decide)
    have hlen : (acc ++ a :: l).length = acc.length + (l.length + 1) := by simp
    rw [tagL, if_neg (by simp)]
    simp only [hS]
    rw [if_neg (by rw [hC.no (x := closeE) 0 (by simp) (by decide) (by simpa [closeE] using hc47)]; simp), if_neg (by rw [hC.no (x := closeT) 0 (by simp) (by decide) (by simpa [closeT] using hc62)]; simp),
      if_neg (by simp only [bsA, List.length_map, not_or]; omega), q1, q2, q3, any_no hno]
    have e : bsA acc ++ [(str a.1, str a.2)] = bsA (acc ++ [a]) := by simp [bsA]
    have ih := tagL_lies hbl hb0 hbe one hone l (acc ++ [a]) n (k + bl.length + (atB a).length) (by simpa using hok) (by simp at hn; omega) (by simpa using h16) hB.right
    rw [e]
    simp only [Bool.false_eq_true, if_false]
    rw [ih]
    simp only [List.append_assoc, List.singleton_append]
    have : (atsB bl (a :: l)).length = bl.length + (atB a).length + (atsB bl l).length := by simp [atsB]; omega
    rw [this]
    congr 3
    omega
/-- a tag as it is written -/
def tagB (nm bl : List UInt8) (l : List (List UInt8 × List UInt8)) (be : List UInt8) (one : Bool) : List UInt8 := 60 :: (nm ++ (atsB bl l ++ (be ++ endB one)))
theorem pt_no {c : UInt8} (h : Pt c) : c ≠ 33 ∧ c ≠ 63 ∧ c ≠ 47 ∧ c ≠ 60 ∧ c ≠ 62 := by
  refine ⟨?_, ?_, ?_, ?_, ?_⟩ <;> (rintro rfl; rcases h with e | e <;> exact absurd e (by decide))
theorem next_tag {s : ByteArray} {k : Nat} {nm bl be : List UInt8} {l : List (List UInt8 × List UInt8)} {one : Bool} (hn : Nm nm) (hbl : Bl bl) (hb0 : bl ≠ []) (hbe : Bl be) (hone : one = true → be = []) (hl : AtOk l) (h16 : l.length ≤ 16) (h : Lies s k (tagB nm bl l be one)) :
    nextR s ⟨k, 0, 0⟩ = (⟨if one then 3 else 1, str nm, bsA l, ByteArray.empty, k⟩, ⟨k + (tagB nm bl l be one).length, 0, 0⟩) := by
  unfold tagB at h
  obtain ⟨c, r, hc, hpt⟩ := nm_pos hn
  have hnc := pt_no hpt
  have hr : Lies s (k + 1) (nm ++ (atsB bl l ++ (be ++ endB one))) := h.tl
  have hx : ∃ x B, atsB bl l ++ (be ++ endB one) = x :: B ∧ ¬ Pt x := by
    cases l with
    | cons a l =>
      cases bl with
      | nil => exact absurd rfl hb0
      | cons b bl => exact ⟨b, _, rfl, blank_not_pt (hbl b List.mem_cons_self)⟩
    | nil =>
      cases be with
      | cons b be => exact ⟨b, _, rfl, blank_not_pt (hbe b List.mem_cons_self)⟩
      | nil => cases one <;> exact ⟨_, _, rfl, by unfold Pt; decide⟩
  obtain ⟨x, B, hxB, hxn⟩ := hx
  obtain ⟨n1, n2, n3⟩ := name_lies hxn hn (by
    have : Lies s (k + 1) ((nm ++ [x]) ++ B) := by rw [hxB] at hr; simpa using hr
    exact this.left)
  have ht := tagL_lies hbl hb0 hbe one hone l [] 17 (k + 1 + nm.length) (by simpa using hl) (by omega) (by simpa using h16) hr.right
  have hR : tagR s ⟨k + 1, 0, 0⟩ = (if one then 3 else 1, bsA l, ⟨k + (tagB nm bl l be one).length, 0, 0⟩) := by
    unfold tagR
    have e1 : nameT s ⟨k + 1, 0, 0⟩ = ⟨k + 1 + nm.length, 0, 0⟩ := by
      unfold nameT
      simp only [n2, n1, if_true]
    rw [e1, show ([] : List (ByteArray × ByteArray)) = bsA [] from rfl, ht, List.nil_append]
    have : (tagB nm bl l be one).length = 1 + nm.length + (atsB bl l).length + be.length + (endB one).length := by simp [tagB]; omega
    rw [this]
    congr 3
    omega
  have h2 : Lies s k (60 :: c :: (r ++ (atsB bl l ++ (be ++ endB one)))) := by rw [hc] at h; simpa using h
  have hp : pieceOf s k 0 = (⟨if one then 3 else 1, str nm, bsA l, ByteArray.empty, k⟩, ⟨k + (tagB nm bl l be one).length, 0, 0⟩) := by
    unfold pieceOf
    rw [h2.no (x := cdS) 1 (by simp) (by decide) (by simpa [cdS] using hnc.1), h2.no (x := backS) 1 (by simp) (by decide) (by simpa [backS] using hnc.2.2.1), h2.has (x := ltS) (by rw [show ltS.size = 1 from rfl]; simp), hR, n3]
    rfl
  rw [nextR_of h2.lt h2 (by simp) (by simpa using hnc.1) (by simpa using hnc.2.1) (by rw [hp]), hp]
/-- a closing tag as it is written -/
def backB (nm be : List UInt8) : List UInt8 := 60 :: 47 :: (nm ++ (be ++ [62]))
theorem next_back {s : ByteArray} {k : Nat} {nm be : List UInt8} (hn : Nm nm) (hbe : Bl be) (h : Lies s k (backB nm be)) :
    nextR s ⟨k, 0, 0⟩ = (⟨2, str nm, [], ByteArray.empty, k⟩, ⟨k + (backB nm be).length, 0, 0⟩) := by
  unfold backB at h
  have hr : Lies s (k + 2) (nm ++ (be ++ [62])) := h.tl.tl
  have hx : ∃ x B, be ++ [62] = x :: B ∧ ¬ Pt x := by
    cases be with
    | nil => exact ⟨_, _, rfl, by unfold Pt; decide⟩
    | cons b be => exact ⟨b, _, rfl, blank_not_pt (hbe b List.mem_cons_self)⟩
  obtain ⟨x, B, hxB, hxn⟩ := hx
  obtain ⟨n1, n2, n3⟩ := name_lies hxn hn (by
    have : Lies s (k + 2) ((nm ++ [x]) ++ B) := by rw [hxB] at hr; simpa using hr
    exact this.left)
  have hb := hr.right
  have hg : Lies s (k + 2 + nm.length + be.length) [62] := hb.right
  have ht : backT s k 0 = ⟨k + (backB nm be).length, 0, 0⟩ := by
    have hnm : nameT s ⟨k + 2, 0, 0⟩ = ⟨k + 2 + nm.length, 0, 0⟩ := by
      unfold nameT
      simp only [n2, n1, if_true]
    have hbk : blanksT s ⟨k + 2 + nm.length, 0, 0⟩ = ⟨k + 2 + nm.length + be.length, 0, 0⟩ := by
      unfold blanksT
      simp only
      rw [skip_lies (by decide) be _ hbe hb]
    unfold backT
    rw [hnm, hbk]
    unfold gtT
    rw [if_pos (by rw [hg.has (by decide)]; rfl)]
    have : (backB nm be).length = 2 + nm.length + be.length + 1 := by simp [backB]; omega
    rw [this]
    congr 1
    simp only
    omega
  have hp : pieceOf s k 0 = (⟨2, str nm, [], ByteArray.empty, k⟩, ⟨k + (backB nm be).length, 0, 0⟩) := by
    unfold pieceOf
    rw [h.no (x := cdS) 1 (by simp) (by decide) (by simp [cdS]), h.has (x := backS) (by rw [show backS.size = 2 from rfl]; simp), ht, n3]
    rfl
  rw [nextR_of h.lt h (by simp) (by simp) (by simp) (by rw [hp]), hp]
/-- a text, up to the end or to a < -/
theorem next_text {s : ByteArray} {k : Nat} {v : List UInt8} (hv : Vt v) (hv0 : v ≠ []) (h : Lies s k (clL v)) (hend : k + (clL v).length = s.size ∨ bt s (k + (clL v).length) = 60 ∧ k + (clL v).length < s.size) :
    nextR s ⟨k, 0, 0⟩ = (⟨4, ByteArray.empty, [], str v, k⟩, ⟨k + (clL v).length, 0, 0⟩) := by
  have hno := clL_no (x := 60) (.inl rfl) v
  obtain ⟨c, r, hc⟩ : ∃ c r, clL v = c :: r := by
    cases hh : clL v with
    | nil => exact absurd (clL_nil hh) hv0
    | cons c r => exact ⟨c, r, rfl⟩
  have hc60 : c ≠ 60 := fun e => hno (by rw [hc, e]; exact List.mem_cons_self)
  have h2 : Lies s k (c :: r) := by rw [← hc]; exact h
  have hrun : runN s k = (clL v).length := by
    have hle := h.le
    obtain ⟨_, B, hB⟩ := h
    have hlen := congrArg List.length hB
    simp only [ByteArray.data_extract, Array.length_toList, Array.size_extract, List.length_append] at hlen
    have hz : s.data.size = s.size := rfl
    unfold runN far cut
    rw [hB]
    rcases hend with he | ⟨he, hlt⟩
    · have hB0 : B = [] := List.eq_nil_of_length_eq_zero (by omega)
      rw [hB0, List.append_nil, idx_none _ _ hno, if_pos (by decide)]
      omega
    · cases B with
      | nil => simp only [List.length_nil] at hlen; omega
      | cons b B =>
        have hb : b = 60 := by
          have hL : Lies s k (clL v ++ [b]) := ⟨by omega, B, by rw [hB]; simp⟩
          have := (Lies.right hL).hd
          rw [he] at this
          exact (u8_eq (c := 60) this).symm
        rw [hb, idx_first _ _ _ hno, if_neg (by omega), Int.toNat_natCast]
  have hp : pieceOf s k 0 = (⟨4, ByteArray.empty, [], str v, k⟩, ⟨k + (clL v).length, 0, 0⟩) := by
    unfold pieceOf
    rw [h2.no (x := cdS) 0 (by simp) (by decide) (by simpa [cdS] using hc60), h2.no (x := backS) 0 (by simp) (by decide) (by simpa [backS] using hc60), h2.no (x := ltS) 0 (by simp) (by decide) (by simpa [ltS] using hc60), hrun, h.ext, (openT_close hv _ _).1, (openT_close hv ⟨0, 0, 0⟩ 0).2]
    rfl
  have ha : asideB s k = false := by
    unfold asideB
    rw [h2.no (x := comS) 0 (by simp) (by decide) (by simpa [comS] using hc60), h2.no (x := insS) 0 (by simp) (by decide) (by simpa [insS] using hc60)]
    rfl
  have hk := h2.lt
  unfold nextR
  rw [asides_no (p := ⟨k, 0, 0⟩) _ ha, if_neg (by simp only; omega)]
  simp only
  rw [if_neg (by rw [hp]; simp), hp]
/-- the rounds of what says nothing: more of them than bytes are enough -/
theorem asides_more {s : ByteArray} : ∀ (n m : Nat) (p : P3), p.k ≤ s.size → s.size - p.k < n → s.size - p.k < m → asides s n p = asides s m p
  | 0, m, p, _, h, _ => by omega
  | n + 1, 0, p, _, _, h => by omega
  | n + 1, m + 1, p, hk, hn, hm => by
    rw [asides, asides]
    split
    · rename_i hc
      have hb := asideT_bd (bad := p.bad) hk hc.2.2
      exact asides_more n m _ hb.2 (by omega) (by omega)
    · rfl
theorem next_aside {s : ByteArray} {k k' : Nat} (hk : k < s.size) (h : asideB s k = true) (ht : asideT s k 0 = ⟨k', 0, 0⟩) : nextR s ⟨k, 0, 0⟩ = nextR s ⟨k', 0, 0⟩ := by
  have hb := asideT_bd (bad := 0) (Nat.le_of_lt hk) h
  rw [ht] at hb
  have e : asides s (s.size + 1) ⟨k, 0, 0⟩ = asides s (s.size + 1) ⟨k', 0, 0⟩ := by
    rw [asides, if_pos ⟨rfl, hk, h⟩, ht]
    exact asides_more _ _ _ hb.2 (by simp only at hb ⊢; omega) (by simp only at hb ⊢; omega)
  unfold nextR
  rw [e]
end Xm
end Go.Proofs.YtdpkhmfolmcejaaGreatDoor
namespace Go.Proofs.YtdpkhmfolmcejaaGreatDoor
namespace Xm
/-- a text of letters that may stand in one -/
def Lt (v : List UInt8) : Prop := ∃ L, (∀ r ∈ L, size r ≠ 0 ∧ letter r = true) ∧ v = cat L
theorem Lt.nil : Lt [] := ⟨[], by simp, rfl⟩
theorem Lt.append {a b : List UInt8} (h : Lt a) (k : Lt b) : Lt (a ++ b) := by
  obtain ⟨L, h1, rfl⟩ := h
  obtain ⟨M, h2, rfl⟩ := k
  refine ⟨L ++ M, fun r hr => ?_, (cat_append _ _).symm⟩
  rcases List.mem_append.1 hr with h | h
  · exact h1 r h
  · exact h2 r h
theorem Lt.flat {α : Type} {f : α → List UInt8} : ∀ {l : List α}, (∀ a ∈ l, Lt (f a)) → Lt (l.flatMap f)
  | [], _ => Lt.nil
  | a :: l, h => by
    rw [List.flatMap_cons]
    exact (h a List.mem_cons_self).append (Lt.flat fun b hb => h b (List.mem_cons_of_mem _ hb))
theorem Lt.text {v : List UInt8} (h : Lt v) : text (str v) 0 = -1 := by
  obtain ⟨L, h1, rfl⟩ := h
  have ht := text_cat L [] [] h1
  rw [List.nil_append, List.append_nil] at ht
  refine ht.trans ?_
  rw [Xm.text, dif_neg (by rw [str_size]; simp)]
theorem Lt.bad {v : List UInt8} (h : Lt v) : bad (str v) 0 = -1 := by
  obtain ⟨L, h1, rfl⟩ := h
  have ht := bad_cat L [] [] (fun r hr => (h1 r hr).1)
  rw [List.nil_append, List.append_nil] at ht
  refine ht.trans ?_
  rw [Xm.bad, dif_neg (by rw [str_size]; simp)]
theorem Vt.lt {v : List UInt8} (h : Vt v) : Lt v := by
  obtain ⟨L, hL, rfl⟩ := h
  exact ⟨L, fun r hr => ⟨(hL r hr).1, ok_letter (hL r hr).1 (hL r hr).2⟩, rfl⟩
theorem Vt.close {v : List UInt8} (h : Vt v) : Lt (clL v) := by
  obtain ⟨L, hL, rfl⟩ := h
  refine ⟨L.flatMap clR, fun x hx => ?_, clL_cat L fun r hr => (hL r hr).1⟩
  obtain ⟨r, hr, hx⟩ := List.mem_flatMap.1 hx
  exact clR_ok ⟨(hL r hr).1, ok_letter (hL r hr).1 (hL r hr).2⟩ x hx
/-- a byte of few, as a letter -/
def Asc (c : UInt8) : Prop := put (c.toNat : Int) = [c] ∧ size (c.toNat : Int) ≠ 0 ∧ letter (c.toNat : Int) = true
theorem asc_of : ∀ c : UInt8, (32 ≤ c.toNat ∧ c.toNat < 127 ∨ c = 9 ∨ c = 10 ∨ c = 13) → Asc c := by
  have key : ∀ n : Fin 256, (32 ≤ n.val ∧ n.val < 127 ∨ n.val = 9 ∨ n.val = 10 ∨ n.val = 13) → put (n.val : Int) = [UInt8.ofNat n.val] ∧ size (n.val : Int) ≠ 0 ∧ letter (n.val : Int) = true := by decide +kernel
  intro c h
  have := key ⟨c.toNat, c.toNat_lt⟩ (by
    rcases h with h | rfl | rfl | rfl
    · exact .inl h
    · exact .inr (.inl rfl)
    · exact .inr (.inr (.inl rfl))
    · exact .inr (.inr (.inr rfl)))
  simp only [UInt8.ofNat_toNat] at this
  exact this
theorem Lt.asc : ∀ {v : List UInt8}, (∀ c ∈ v, Asc c) → Lt v
  | [], _ => Lt.nil
  | c :: v, h => by
    have h1 := h c List.mem_cons_self
    refine Lt.append (a := [c]) ⟨[(c.toNat : Int)], by simp only [List.mem_singleton]; rintro r rfl; exact h1.2, ?_⟩ (Lt.asc fun d hd => h d (List.mem_cons_of_mem _ hd))
    rw [cat_cons, h1.1]; rfl
theorem new_lt {v : List UInt8} (h : Lt v) (hs : v.length ≤ 200000) : newT (str v) = ⟨0, 0, 0⟩ := by
  unfold newT
  rw [if_neg (by rw [str_size]; omega), if_neg (by rw [h.bad]; decide)]
theorem com_first : ∀ (v B : List UInt8), Lib.index (v ++ [45]) [45, 45] = -1 → Lib.index (v ++ ([45, 45, 62] ++ B)) [45, 45, 62] = (v.length : Int)
  | [], B, _ => by simp [Lib.index]
  | x :: v, B, h => by
    rw [List.cons_append, Lib.index] at h
    split at h
    · exact absurd h (by decide)
    rename_i h1
    have h2 : Lib.index (v ++ [45]) [45, 45] = -1 := by
      have := Lib.index_ge (v ++ [45]) [45, 45]
      split at h
      · rename_i e; simpa using e
      · omega
    have ih := com_first v B h2
    rw [List.cons_append, Lib.index, if_neg, ih]
    · have : ((v.length : Int) == -1) = false := by rw [beq_eq_false_iff_ne]; omega
      simp [this]
    · intro hp
      apply h1
      cases v with
      | nil =>
        simp at hp ⊢
        try exact hp
      | cons y v =>
        simp at hp ⊢
        exact ⟨hp.1, hp.2.1⟩
theorem ins_first : ∀ (v B : List UInt8), (63 : UInt8) ∉ v → Lib.index (v ++ ([63, 62] ++ B)) [63, 62] = (v.length : Int)
  | [], B, _ => by simp [Lib.index]
  | x :: v, B, h => by
    have hx : ¬ 63 = x := fun e => h (by rw [e]; exact List.mem_cons_self)
    have ih := ins_first v B (fun m => h (List.mem_cons_of_mem _ m))
    rw [List.cons_append, Lib.index, if_neg (by simp [hx]), ih]
    have : ((v.length : Int) == -1) = false := by rw [beq_eq_false_iff_ne]; omega
    simp [this]
/-- what says nothing -/
def comB (v : List UInt8) : List UInt8 := [60, 33, 45, 45] ++ (v ++ [45, 45, 62])
def insB (v : List UInt8) : List UInt8 := [60, 63] ++ (v ++ [63, 62])
theorem next_com {s : ByteArray} {k : Nat} {v : List UInt8} (hv : Lt v) (hd : Lib.index (v ++ [45]) [45, 45] = -1) (h : Lies s k (comB v)) : nextR s ⟨k, 0, 0⟩ = nextR s ⟨k + (comB v).length, 0, 0⟩ := by
  unfold comB at h
  have hl := h.le
  have hb : Lies s (k + 4) (v ++ [45, 45, 62]) := h.right
  have hc : hasAt s k comS = true := by rw [h.has (x := comS) (by rw [show comS.size = 4 from rfl]; simp)]; rfl
  have hf : farS s (k + 4) comE = (v.length : Int) := by
    obtain ⟨_, B, hB⟩ := hb
    unfold farS
    rw [hB, List.append_assoc]
    exact com_first v B hd
  have hx : s.extract (k + 4) (k + 4 + v.length) = str v := hb.left.ext
  refine next_aside (by simp at hl; omega) (by unfold asideB; rw [hc]; rfl) ?_
  unfold asideT
  rw [if_pos hc]
  unfold sideT
  rw [hf, Int.toNat_natCast, hx, hv.text, if_neg (by omega), if_neg (by decide)]
  have hct : Lib.contains (str v ++ dash).data.toList dashes.data.toList = false := by
    have e : (str v ++ dash).data.toList = v ++ [45] := by rw [ByteArray.data_append, Array.toList_append]; rfl
    unfold Lib.contains
    rw [e, show dashes.data.toList = [45, 45] from rfl, hd]
    rfl
  rw [hct, if_neg (by simp)]
  have e : (comB v).length = 4 + v.length + 3 := by simp [comB]; omega
  rw [e, show comE.size = 3 from rfl]
  congr 1
  omega
theorem next_ins {s : ByteArray} {k : Nat} {v : List UInt8} (hv : Lt v) (hd : (63 : UInt8) ∉ v) (h : Lies s k (insB v)) : nextR s ⟨k, 0, 0⟩ = nextR s ⟨k + (insB v).length, 0, 0⟩ := by
  unfold insB at h
  have hl := h.le
  have hb : Lies s (k + 2) (v ++ [63, 62]) := h.right
  have hc : hasAt s k comS = false := h.no (x := comS) 1 (by simp) (by decide) (by simp [comS])
  have hi : hasAt s k insS = true := by rw [h.has (x := insS) (by rw [show insS.size = 2 from rfl]; simp)]; rfl
  have hf : farS s (k + 2) insE = (v.length : Int) := by
    obtain ⟨_, B, hB⟩ := hb
    unfold farS
    rw [hB, List.append_assoc]
    exact ins_first v B hd
  have hx : s.extract (k + 2) (k + 2 + v.length) = str v := hb.left.ext
  refine next_aside (by simp at hl; omega) (by unfold asideB; rw [hi, Bool.or_true]) ?_
  unfold asideT
  rw [if_neg (by rw [hc]; simp), if_pos hi]
  unfold sideT
  rw [hf, Int.toNat_natCast, hx, hv.text, if_neg (by omega), if_neg (by decide), if_neg (by simp)]
  have e : (insB v).length = 2 + v.length + 2 := by simp [insB]; omega
  rw [e, show insE.size = 2 from rfl]
  congr 1
  omega
/-- a piece of a text that is made: its bytes, and what it is, if it says something -/
abbrev Itm : Type := List UInt8 × Option Pc
def isTx : Option Pc → Bool
  | some p => p.kind == 4
  | none => false
def Pc.put (p : Pc) (k : Nat) : Pc := ⟨p.kind, p.name, p.attrs, p.text, k⟩
/-- what is read of it -/
def ItRead (s : ByteArray) (k : Nat) (x : Itm) : Prop :=
  match x.2 with
  | none => nextR s ⟨k, 0, 0⟩ = nextR s ⟨k + x.1.length, 0, 0⟩
  | some p => nextR s ⟨k, 0, 0⟩ = (p.put k, ⟨k + x.1.length, 0, 0⟩)
def ItOk (x : Itm) : Prop :=
  (∀ s k, Lies s k x.1 → (isTx x.2 = true → k + x.1.length = s.size ∨ bt s (k + x.1.length) = 60 ∧ k + x.1.length < s.size) → ItRead s k x) ∧ (isTx x.2 = false → ∃ r, x.1 = 60 :: r)
/-- no two texts are neighbours -/
def Good : List Itm → Prop
  | [] => True
  | [x] => ItOk x
  | x :: y :: r => ItOk x ∧ ¬ (isTx x.2 = true ∧ isTx y.2 = true) ∧ Good (y :: r)
theorem Good.snoc : ∀ {l : List Itm} {x : Itm}, Good l → ItOk x → (isTx x.2 = true → ∀ y, l.getLast? = some y → isTx y.2 = false) → Good (l ++ [x])
  | [], x, _, hx, _ => hx
  | [y], x, h, hx, hn => by
    refine ⟨h, ?_, hx⟩
    intro e
    have := hn e.2 y rfl
    rw [e.1] at this
    cases this
  | y :: z :: l, x, h, hx, hn => ⟨h.1, h.2.1, Good.snoc (l := z :: l) h.2.2 hx (fun e u hu => hn e u (by simpa using hu))⟩
end Xm
end Go.Proofs.YtdpkhmfolmcejaaGreatDoor
namespace Go.Proofs.YtdpkhmfolmcejaaGreatDoor
namespace Xm
theorem put_edge {r : Int} (h : size r ≠ 0) : ∃ (m : List UInt8) (c d : UInt8) (m' : List UInt8), put r = c :: m ∧ put r = m' ++ [d] ∧ blank (c.toNat : Int) = blank r ∧ blank (d.toNat : Int) = blank r ∧ (blank r = true → m = [] ∧ m' = []) := by
  have hb : 128 ≤ r → blank r = false := fun h => by unfold blank; simp; omega
  have hc : ∀ x : Nat, 128 ≤ x → x < 256 → blank ((UInt8.ofNat x).toNat : Int) = false := fun x h1 h2 => by rw [u8n h2]; unfold blank; simp; omega
  rcases size_cases r with h0 | h1 | h2 | h3 | h4
  · exact absurd h0 h
  · have hs := size1 h1
    have hp : put r = [UInt8.ofNat r.toNat] := by simp [put, h1]
    have e : ((UInt8.ofNat r.toNat).toNat : Int) = r := by rw [u8n (by omega)]; omega
    exact ⟨[], UInt8.ofNat r.toNat, UInt8.ofNat r.toNat, [], hp, hp, by rw [e], by rw [e], fun _ => ⟨rfl, rfl⟩⟩
  all_goals
    have hb0 : blank r = false := hb (by first | (have := size2 h2; omega) | (have := size3 h3; omega) | (have := size4 h4; omega))
    rw [hb0]
  · have hs := size2 h2
    simp only [put, h2, if_neg (show ¬ (2 : Int) = 0 by decide), if_neg (show ¬ (2 : Int) = 1 by decide), if_true]
    exact ⟨_, _, _, [_], rfl, rfl, hc _ (by omega) (by omega), hc _ (by omega) (by omega), fun h => by cases h⟩
  · have hs := size3 h3
    simp only [put, h3, if_neg (show ¬ (3 : Int) = 0 by decide), if_neg (show ¬ (3 : Int) = 1 by decide), if_neg (show ¬ (3 : Int) = 2 by decide), if_true]
    exact ⟨_, _, _, [_, _], rfl, rfl, hc _ (by omega) (by omega), hc _ (by omega) (by omega), fun h => by cases h⟩
  · have hs := size4 h4
    simp only [put, h4, if_neg (show ¬ (4 : Int) = 0 by decide), if_neg (show ¬ (4 : Int) = 1 by decide), if_neg (show ¬ (4 : Int) = 2 by decide), if_neg (show ¬ (4 : Int) = 3 by decide)]
    exact ⟨_, _, _, [_, _, _], rfl, rfl, hc _ (by omega) (by omega), hc _ (by omega) (by omega), fun h => by cases h⟩
theorem skip_end {s : ByteArray} {k : Nat} (h : s.size ≤ k) : skip s k = k := by rw [skip, if_neg (by omega)]
/-- blanks at the head -/
theorem skip_cat : ∀ (L : List Int) (A : List UInt8), (∀ r ∈ L, size r ≠ 0) → ∃ M N, L = M ++ N ∧ (∀ r ∈ M, blank r = true) ∧ skip (str (A ++ cat L)) A.length = A.length + (cat M).length ∧ (∀ r N', N = r :: N' → blank r = false)
  | [], A, _ => ⟨[], [], rfl, by simp, skip_end (by rw [str_size]; simp [cat]), fun r N' h => by cases h⟩
  | r :: L, A, h => by
    obtain ⟨m, c, d, m', h1, h2, h3, h4, h5⟩ := put_edge (h r List.mem_cons_self)
    have hb : bt (str (A ++ cat (r :: L))) A.length = (c.toNat : Int) := by
      rw [bt_str, List.getD_eq_getElem?_getD, List.getElem?_append_right (Nat.le_refl _), cat_cons, h1, Nat.sub_self]; rfl
    have hz : A.length < (str (A ++ cat (r :: L))).size := by rw [str_size, List.length_append, cat_cons, h1, List.length_append, List.length_cons]; omega
    cases hbl : blank r with
    | false =>
      refine ⟨[], r :: L, rfl, by simp, ?_, fun r' N' e => by cases e; exact hbl⟩
      rw [skip_stop (by rw [hb, h3, hbl])]; rfl
    | true =>
      obtain ⟨rfl, _⟩ := h5 hbl
      obtain ⟨M, N, e1, e2, e3, e4⟩ := skip_cat L (A ++ [c]) (fun x hx => h x (List.mem_cons_of_mem _ hx))
      refine ⟨r :: M, N, by rw [e1]; rfl, fun x hx => ?_, ?_, e4⟩
      · rcases List.mem_cons.1 hx with rfl | hx
        · exact hbl
        · exact e2 x hx
      · rw [skip, if_pos hz, if_pos (by rw [hb, h3, hbl])]
        have e : A ++ cat (r :: L) = A ++ [c] ++ cat L := by rw [cat_cons, h1]; simp
        rw [List.length_append, List.length_singleton] at e3
        rw [e, e3, cat_cons, h1]
        simp; omega
/-- blanks at the end -/
theorem back_cat (s : ByteArray) : ∀ (n : Nat) (L : List Int) (A B : List UInt8), L.length = n → s = str (A ++ (cat L ++ B)) → (∀ r ∈ L, size r ≠ 0) → ∃ M N, L = M ++ N ∧ (∀ r ∈ N, blank r = true) ∧ back s A.length (A.length + (cat L).length) = A.length + (cat M).length ∧ (∀ r, M.getLast? = some r → blank r = false)
  | 0, L, A, B, hn, hs, h => by
    obtain rfl := List.eq_nil_of_length_eq_zero hn
    exact ⟨[], [], rfl, by simp, back_stop (by simp [cat]), fun r h => by cases h⟩
  | n + 1, L, A, B, hn, hs, h => by
    obtain ⟨r, L', rfl⟩ : ∃ r L', L = L' ++ [r] := by
      have hne : L ≠ [] := fun e => by rw [e] at hn; simp at hn
      exact ⟨L.getLast hne, L.dropLast, (List.dropLast_concat_getLast hne).symm⟩
    obtain ⟨m, c, d, m', h1, h2, h3, h4, h5⟩ := put_edge (h r (by simp))
    have hcat : cat (L' ++ [r]) = cat L' ++ m' ++ [d] := by rw [cat_append, cat_cons, h2]; simp [cat]
    have hlen : A.length + (cat (L' ++ [r])).length = (A.length + (cat L').length + m'.length) + 1 := by rw [hcat]; simp; omega
    have hb : bt s (A.length + (cat L').length + m'.length) = (d.toNat : Int) := by
      have e : A ++ (cat (L' ++ [r]) ++ B) = (A ++ cat L' ++ m') ++ (d :: B) := by rw [hcat]; simp
      rw [hs, e, bt_str, List.getD_eq_getElem?_getD, List.getElem?_append_right (by simp; omega)]
      have : A.length + (cat L').length + m'.length - (A ++ cat L' ++ m').length = 0 := by simp; omega
      rw [this]; rfl
    rw [hlen, back]
    cases hbl : blank r with
    | false =>
      refine ⟨L' ++ [r], [], by simp, by simp, ?_, fun x hx => ?_⟩
      · rw [if_neg (by rw [hb, h4, hbl]; simp), hlen]
      · simp at hx; rw [← hx]; exact hbl
    | true =>
      obtain ⟨_, rfl⟩ := h5 hbl
      obtain ⟨M, N, e1, e2, e3, e4⟩ := back_cat s n L' A ([d] ++ B) (by simpa using hn) (by rw [hs, hcat]; simp) (fun x hx => h x (by simp [hx]))
      refine ⟨M, N ++ [r], by rw [e1]; simp, fun x hx => ?_, ?_, e4⟩
      · rcases List.mem_append.1 hx with hx | hx
        · exact e2 x hx
        · rw [List.mem_singleton] at hx; subst hx; exact hbl
      · rw [if_pos ⟨by simp only [List.length_nil]; omega, by rw [hb, h4, hbl]⟩]
        exact e3
theorem cut_mid (A C B : List UInt8) : cut (str (A ++ (C ++ B))) A.length (A.length + C.length) = str C := by
  have hL : Lies (str (A ++ (C ++ B))) A.length C := Lies.of (A := A) (B := B) (by simp [str]) rfl
  exact hL.ext
theorem trim_v {v : List UInt8} (h : Vt v) : ∃ t, trim (str v) = str t ∧ Vt t ∧ t.length ≤ v.length ∧ trim (str t) = str t := by
  obtain ⟨L, hL, rfl⟩ := h
  have hs : ∀ r ∈ L, size r ≠ 0 := fun r hr => (hL r hr).1
  obtain ⟨M, N, rfl, m1, m2, m3⟩ := skip_cat L [] hs
  simp only [List.nil_append, List.length_nil, Nat.zero_add] at m2
  obtain ⟨P, Q, rfl, q1, q2, q3⟩ := back_cat (str (cat (M ++ N))) N.length N (cat M) [] rfl (by rw [cat_append]; simp) (fun r hr => hs r (by simp [hr]))
  have hz : (str (cat (M ++ (P ++ Q)))).size = (cat M).length + (cat (P ++ Q)).length := by rw [str_size, cat_append, List.length_append]
  have ht : trim (str (cat (M ++ (P ++ Q)))) = str (cat P) := by
    unfold trim
    rw [m2, hz, q2]
    have e : cat (M ++ (P ++ Q)) = cat M ++ (cat P ++ cat Q) := by rw [cat_append, cat_append]
    rw [e]
    exact cut_mid _ _ _
  have hP : ∀ r ∈ P, size r ≠ 0 ∧ odd r = false := fun r hr => hL r (by simp [hr])
  refine ⟨cat P, ht, ⟨P, hP, rfl⟩, by simp only [cat_append, List.length_append]; omega, ?_⟩
  -- once more
  obtain ⟨M2, N2, e1, n1, n2, n3⟩ := skip_cat P [] (fun r hr => (hP r hr).1)
  simp only [List.nil_append, List.length_nil, Nat.zero_add] at n2
  have hM2 : M2 = [] := by
    cases M2 with
    | nil => rfl
    | cons x M2 =>
      exfalso
      have := n1 x List.mem_cons_self
      rw [m3 x (M2 ++ N2 ++ Q) (by rw [e1]; simp)] at this
      cases this
  subst hM2
  rw [List.nil_append] at e1
  obtain ⟨P3, Q3, e3, r1, r2, r3⟩ := back_cat (str (cat P)) P.length P [] [] rfl (by simp) (fun r hr => (hP r hr).1)
  have hQ3 : Q3 = [] := by
    cases hq : Q3 with
    | nil => rfl
    | cons x Q' =>
      exfalso
      have hne : Q3 ≠ [] := by rw [hq]; simp
      have hl : P.getLast? = some (Q3.getLast hne) := by
        rw [e3, List.getLast?_append, List.getLast?_eq_some_getLast hne]; rfl
      have h1 := q3 _ hl
      have h2 := r1 _ (List.getLast_mem hne)
      rw [h1] at h2
      cases h2
  subst hQ3
  rw [List.append_nil] at e3
  simp only [List.length_nil, Nat.zero_add] at r2
  unfold trim
  rw [n2, str_size, show (cat ([] : List Int)).length = 0 from rfl, r2, ← e3]
  have := cut_mid [] (cat P) []
  simpa using this
end Xm
end Go.Proofs.YtdpkhmfolmcejaaGreatDoor
namespace Go.Proofs.YtdpkhmfolmcejaaGreatDoor
namespace Xm
def al : List UInt8 := [97, 98, 90, 95, 48, 45, 46, 57, 65, 66, 67]
/-- a name of few letters -/
def Nl (l : List UInt8) : Prop := ∃ r, l = 110 :: r ∧ r.length ≤ 7 ∧ ∀ c ∈ r, c ∈ al
theorem al_part : ∀ c : UInt8, c ∈ al → part (c.toNat : Int) = true ∧ c ≠ 58 ∧ c ≠ 63 ∧ c ≠ 60 ∧ Asc c := by
  intro c hc
  simp only [al, List.mem_cons, List.not_mem_nil, or_false] at hc
  unfold Asc
  rcases hc with rfl | rfl | rfl | rfl | rfl | rfl | rfl | rfl | rfl | rfl | rfl <;> decide +kernel
theorem n_part : part ((110 : UInt8).toNat : Int) = true ∧ (110 : UInt8) ≠ 58 ∧ (110 : UInt8) ≠ 63 ∧ (110 : UInt8) ≠ 60 ∧ Asc 110 := by unfold Asc; decide +kernel
theorem Nl.part {l : List UInt8} (h : Nl l) : ∀ c ∈ l, part (c.toNat : Int) = true ∧ c ≠ 58 ∧ c ≠ 63 ∧ c ≠ 60 ∧ Asc c := by
  obtain ⟨r, rfl, _, h⟩ := h
  intro c hc
  rcases List.mem_cons.1 hc with rfl | hc
  · exact n_part
  · exact al_part c (h c hc)
theorem Nl.len {l : List UInt8} (h : Nl l) : 0 < l.length ∧ l.length ≤ 8 := by
  obtain ⟨r, rfl, h, _⟩ := h
  simp; omega
theorem Nl.lt {l : List UInt8} (h : Nl l) : Lt l := Lt.asc fun c hc => (h.part c hc).2.2.2.2
theorem parts_all {l : List UInt8} (h : ∀ c ∈ l, Xm.part (c.toNat : Int) = true) : ∀ (d k : Nat), l.length - k = d → parts (str l) k = true := by
  intro d
  induction d using Nat.strongRecOn with
  | _ d ih =>
    intro k hd
    rw [parts]
    split
    · rename_i hk
      rw [str_size] at hk
      have hb : Xm.part (bt (str l) k) = true := by
        rw [bt_str, List.getD_eq_getElem?_getD, List.getElem?_eq_getElem hk]
        exact h _ (List.getElem_mem hk)
      rw [hb, ih (l.length - (k + 1)) (by omega) (k + 1) rfl]; rfl
    · rfl
theorem Nl.name {l : List UInt8} (h : Nl l) : name (str l) = true := by
  have hl := h.len
  have hb := h.lt.bad
  have hp := parts_all (fun c hc => (h.part c hc).1) _ 0 rfl
  have hs : start (bt (str l) 0) = true := by
    obtain ⟨r, rfl, _, _⟩ := h
    rw [bt_str]
    show start ((110 : UInt8).toNat : Int) = true
    decide
  unfold Xm.name
  rw [hs, hb, hp, decide_eq_true (by rw [str_size]; omega), decide_eq_true (by rw [str_size]; omega)]
  rfl
theorem col_none {s : ByteArray} (h : ∀ k, k < s.size → bt s k ≠ 58) : ∀ (d k : Nat), s.size - k = d → k ≤ s.size → col s k = s.size := by
  intro d
  induction d using Nat.strongRecOn with
  | _ d ih =>
    intro k hd hk
    rw [col]
    split
    · rename_i hlt
      rw [if_neg (h k hlt)]
      exact ih _ (by omega) _ rfl hlt
    · rfl
theorem Nl.split {l : List UInt8} (h : Nl l) : split (str l) = (ByteArray.empty, str l, true) := by
  have hc : col (str l) 0 = (str l).size := col_none (fun k hk => by
    rw [str_size] at hk
    rw [bt_str, List.getD_eq_getElem?_getD, List.getElem?_eq_getElem hk]
    intro e
    exact (h.part _ (List.getElem_mem hk)).2.1 (u8_eq (d := 58) e)) _ 0 rfl (Nat.zero_le _)
  unfold Xm.split
  rw [if_neg (by omega), h.name]
theorem Nl.nm {l : List UInt8} (h : Nl l) : Nm l := ⟨fun c hc => .inl (h.part c hc).1, by rw [h.split]⟩
theorem nmC_al (b : UInt8) : nmC b ∈ al := by
  unfold nmC
  have h : b.toNat % 8 < 8 := Nat.mod_lt _ (by decide)
  have key : ∀ j : Fin 8, nmT[j.val]'j.isLt ∈ al := by decide
  exact key ⟨b.toNat % 8, h⟩
theorem nmB_str (m : Nat) (s : ByteArray) : ∀ (d k : Nat) (a : List UInt8), m - k = d → ∃ r, nmB m s k (str a) = str (a ++ r) ∧ r.length ≤ m - k ∧ ∀ c ∈ r, c ∈ al := by
  intro d
  induction d using Nat.strongRecOn with
  | _ d ih =>
    intro k a hd
    rw [nmB]
    split
    · rename_i hk
      obtain ⟨r, h1, h2, h3⟩ := ih (m - (k + 1)) (by omega) (k + 1) (a ++ [nmC (s[k]'hk.1)]) rfl
      refine ⟨nmC (s[k]'hk.1) :: r, ?_, by simp only [List.length_cons]; omega, fun c hc => ?_⟩
      · have e : str a ++ (⟨#[nmC (s[k]'hk.1)]⟩ : ByteArray) = str (a ++ [nmC (s[k]'hk.1)]) := by rw [← str_append]; rfl
        rw [e, h1, List.append_assoc]; rfl
      · rcases List.mem_cons.1 hc with rfl | hc
        · exact nmC_al _
        · exact h3 c hc
    · exact ⟨[], by rw [List.append_nil], Nat.zero_le _, fun c hc => (by cases hc)⟩
theorem nm_nl (m : Nat) (hm : m ≤ 6) (s : ByteArray) : ∃ l, nmB m s 0 ⟨#[110]⟩ = str l ∧ Nl l ∧ l.length ≤ 7 := by
  obtain ⟨r, h1, h2, h3⟩ := nmB_str m s _ 0 [110] rfl
  exact ⟨110 :: r, h1, ⟨r, rfl, by omega, h3⟩, by simp only [List.length_cons]; omega⟩
theorem Nl.more {l : List UInt8} (h : Nl l) (hl : l.length ≤ 7) (i : Nat) (hi : i < 3) : Nl (l ++ [UInt8.ofNat (65 + i)]) := by
  obtain ⟨r, rfl, h1, h2⟩ := h
  refine ⟨r ++ [UInt8.ofNat (65 + i)], rfl, by simp at hl ⊢; omega, fun c hc => ?_⟩
  rcases List.mem_append.1 hc with hc | hc
  · exact h2 c hc
  · rw [List.mem_singleton] at hc
    subst hc
    rcases (by omega : i = 0 ∨ i = 1 ∨ i = 2) with rfl | rfl | rfl <;> decide
theorem rplain_sz (s : ByteArray) : ∀ (d k : Nat) (acc : ByteArray), s.size - k = d → k ≤ s.size → (rplain s k acc).size ≤ acc.size + (s.size - k) := by
  intro d
  induction d using Nat.strongRecOn with
  | _ d ih =>
    intro k acc hd hk
    rw [rplain]
    split
    · rename_i hlt
      have hbd := rg_bd (s := s) (k := k) hk
      split
      · have := ih (s.size - (k + 1)) (by omega) (k + 1) (acc ++ ⟨#[120]⟩) rfl (by omega)
        rw [ByteArray.size_append, show (⟨#[120]⟩ : ByteArray).size = 1 from rfl] at this
        omega
      · rename_i hn
        have hn0 : (rg s k).2 ≠ 0 := fun e => hn (.inl e)
        have hz : (s.extract k (k + (rg s k).2.toNat)).size = (rg s k).2.toNat := by simp; omega
        have := ih (s.size - (k + (rg s k).2.toNat)) (by omega) (k + (rg s k).2.toNat) (acc ++ s.extract k (k + (rg s k).2.toNat)) rfl (by omega)
        rw [ByteArray.size_append, hz] at this
        omega
    · omega
theorem plain_vt (s : ByteArray) : ∃ v, rplain s 0 ByteArray.empty = str v ∧ Vt v ∧ v.length ≤ s.size := by
  obtain ⟨L, h, e⟩ := plain_cat s
  have hz := rplain_sz s _ 0 ByteArray.empty rfl (Nat.zero_le _)
  rw [e, str_size] at hz
  exact ⟨cat L, e, ⟨L, h, rfl⟩, by simpa using hz⟩
theorem Vt.cons {v : List UInt8} (h : Vt v) : Vt (113 :: v) := by
  obtain ⟨L, hL, rfl⟩ := h
  refine ⟨113 :: L, fun r hr => ?_, by rw [cat_cons]; rfl⟩
  rcases List.mem_cons.1 hr with rfl | hr
  · decide
  · exact hL r hr
end Xm
end Go.Proofs.YtdpkhmfolmcejaaGreatDoor
