/- What galliardref01.Close writes, entity.Open reads. No program. -/
import Derived.Test.YtfkdjdmbgednkaaDoorRefClose
import Derived.Test.YtfkdjdmbgednkaaDoorPiece
namespace Go.Proofs.YtfkdjdmbgednkaaDoor
namespace Xm
theorem idx_first : ∀ (a : List UInt8) (c : UInt8) (B : List UInt8), c ∉ a → Lib.indexByte (a ++ c :: B) c = (a.length : Int)
  | [], c, B, h => by simp [Lib.indexByte]
  | x :: a, c, B, h => by
    have hx : ¬ x = c := fun e => h (by rw [e]; exact List.mem_cons_self)
    have ih := idx_first a c B (fun m => h (List.mem_cons_of_mem _ m))
    rw [List.cons_append, Lib.indexByte]
    simp [hx, ih]
    try omega
theorem far_lies {s : ByteArray} {k : Nat} {a : List UInt8} {c : UInt8} (h : Lies s k (a ++ [c])) (hn : c ∉ a) : far s k c = (a.length : Int) := by
  obtain ⟨_, B, hB⟩ := h
  unfold far cut
  rw [hB, List.append_assoc, List.singleton_append]
  exact idx_first a c B hn
/-- a name is opened -/
theorem open_name {s : ByteArray} {k : Nat} {a : List UInt8} {r : UInt8} (h : Lies s k (38 :: a ++ [59])) (hn : (59 : UInt8) ∉ a) (h1 : one (str a) = (r.toNat : Int)) (h0 : r ≠ 0) (hp : put (r.toNat : Int) = [r]) (acc : List UInt8) :
    openS s k acc = openS s (k + (a.length + 2)) (acc ++ [r]) := by
  have hl := h.le
  simp only [List.length_append, List.length_cons, List.length_nil] at hl
  have hf := far_lies (a := 38 :: a) h (by simp only [List.mem_cons, not_or]; exact ⟨by decide, hn⟩)
  have hb : bt s k = 38 := h.bt (i := 0) (by simp)
  have hc : cut s (k + 1) (k + (a.length + 1)) = str a := by
    have h2 : Lies s (k + 1) a := (Lies.right (l := [38]) (r := a ++ [59]) h).left
    have := h2.ext
    rw [show k + 1 + a.length = k + (a.length + 1) by omega] at this
    exact this
  rw [openS, dif_pos (by omega), if_pos hb, dif_neg (by rw [hf]; omega), hf]
  rw [show (((38 :: a).length : Nat) : Int).toNat = a.length + 1 from rfl, hc, h1, if_neg (by intro e; apply h0; apply UInt8.toNat_inj.1; show r.toNat = 0; omega), hp]
  rfl
theorem open_byte {s : ByteArray} {k : Nat} {c : UInt8} (h : Lies s k [c]) (hc : c ≠ 38) (acc : List UInt8) : openS s k acc = openS s (k + 1) (acc ++ [c]) := by
  have hl := h.le
  have hb : bt s k = (c.toNat : Int) := h.bt (i := 0) (by simp)
  rw [openS, dif_pos (by simp at hl; omega), if_neg (by rw [hb]; intro e; apply hc; apply UInt8.toNat_inj.1; show c.toNat = 38; omega), hb]
  simp
theorem open_clB {s : ByteArray} {k : Nat} {c : UInt8} (h : Lies s k (clB c)) (acc : List UInt8) : openS s k acc = openS s (k + (clB c).length) (acc ++ [c]) := by
  unfold clB at *
  by_cases h38 : c = 38
  · subst h38
    exact open_name (a := [97, 109, 112]) h (by decide) (by kernel_rfl) (by decide) (by kernel_rfl) acc
  by_cases h60 : c = 60
  · subst h60
    exact open_name (a := [108, 116]) h (by decide) (by kernel_rfl) (by decide) (by kernel_rfl) acc
  by_cases h62 : c = 62
  · subst h62
    exact open_name (a := [103, 116]) h (by decide) (by kernel_rfl) (by decide) (by kernel_rfl) acc
  by_cases h34 : c = 34
  · subst h34
    exact open_name (a := [113, 117, 111, 116]) h (by decide) (by kernel_rfl) (by decide) (by kernel_rfl) acc
  by_cases h9 : c = 9
  · subst h9
    exact open_name (a := [35, 57]) h (by decide) (by kernel_rfl) (by decide) (by kernel_rfl) acc
  by_cases h10 : c = 10
  · subst h10
    exact open_name (a := [35, 49, 48]) h (by decide) (by kernel_rfl) (by decide) (by kernel_rfl) acc
  by_cases h13 : c = 13
  · subst h13
    exact open_name (a := [35, 49, 51]) h (by decide) (by kernel_rfl) (by decide) (by kernel_rfl) acc
  rw [if_neg h38, if_neg h60, if_neg h62, if_neg h34, if_neg h9, if_neg h10, if_neg h13] at h ⊢
  exact open_byte h h38 acc
theorem open_clL {s : ByteArray} : ∀ (v : List UInt8) (k : Nat) (acc : List UInt8), Lies s k (clL v) → k + (clL v).length = s.size → openS s k acc = (acc ++ v, -1)
  | [], k, acc, _, hz => by
    rw [openS, dif_neg (by simp [clL] at hz; omega), List.append_nil]
  | c :: v, k, acc, h, hz => by
    have e : clL (c :: v) = clB c ++ clL v := by simp [clL]
    rw [e] at h hz
    rw [List.length_append] at hz
    rw [open_clB h.left, open_clL v _ _ h.right (by omega), List.append_assoc]
    rfl
end Xm
end Go.Proofs.YtfkdjdmbgednkaaDoor
