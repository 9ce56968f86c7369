/- galliardref06.name, galliardlaw04.name by their contracts. -/
import Derived.Test.YtfkdjdmbgednkaaDoorRefPlain
namespace Go.Proofs.YtfkdjdmbgednkaaDoor
open Go.RowKit
namespace Xm
def nmT : ByteArray := ⟨#[97, 98, 90, 95, 48, 45, 46, 57]⟩
/-- a name of few letters, from a place on -/
def nmC (b : UInt8) : UInt8 := nmT[b.toNat % 8]'(Nat.mod_lt _ (by decide))
/-- a name of few letters, from a place on -/
def nmB (m : Nat) (s : ByteArray) (k : Nat) (acc : ByteArray) : ByteArray := if h : k < s.size ∧ k < m then nmB m s (k + 1) (acc ++ ⟨#[nmC (s[k]'h.1)]⟩) else acc
  termination_by m - k
end Xm
set_option maxRecDepth 100000 in
set_option maxHeartbeats 1000000 in
theorem name6_any (s : ByteArray) (w : World) (hs : s.size ≤ 9223372036854775807) : Calls Tryd.prog 47 #[.string s] w fun e w' => e = .returned (.string (Xm.nmB 5 s 0 ⟨#[110]⟩)) ∧ Flow.Grow w w' := by
  go_enter Tryd.func47, Tryd.ntmps47
  go_wp2
  go_loopw [3, 4] (fun v3 v4 wr => ∃ (k : Nat) (acc : ByteArray), k ≤ s.size ∧ k ≤ 5 ∧ v4 = .int .i64 k ∧ v3 = .string acc ∧ acc.size = k + 1 ∧ Hid (Flow.Grow w wr) ∧ Hid (Xm.nmB 5 s 0 ⟨#[110]⟩ = Xm.nmB 5 s k acc)) (fun _ v _ => 5 - (intOf v).toNat)
  case atStart => exact ⟨0, ⟨#[110]⟩, Nat.zero_le _, Nat.zero_le _, rfl, rfl, rfl, Lib.hid (Flow.grow_refl _), Lib.hid rfl⟩
  case round =>
    obtain ⟨k, acc, hk, hk5, rfl, rfl, hacc, HG, HR⟩ := hrel
    rename World => wr
    by_cases hlt : k < s.size
    · have hd : decide ((k : Int) < (s.size : Int)) = true := by simp; omega
      have hd' : decide (k < s.size) = true := by simp; omega
      by_cases h5 : k < 5
      · have he : decide ((k : Int) < 5) = true := by simp; omega
        have HE : Hid (Xm.nmB 5 s 0 ⟨#[110]⟩ = Xm.nmB 5 s (k + 1) (acc ++ ⟨#[Xm.nmC s[k]]⟩)) := Lib.hid (by rw [HR.out, Xm.nmB, dif_pos ⟨hlt, h5⟩])
        have hB := Bytes.of_own (World.ownsRow_lit (base := 0) (e := 5) wr #[u8v (Xm.nmC s[k])] 1 (Nat.zero_le _) (by decide) rfl) (by simp : ([Xm.nmC s[k]]).length ≤ 140737488351232)
        have Hw := run_str (P := Tryd.prog) hB 41 9 5 Tryd.underlying41 Tryd.underlying5 Tryd.underlying9
        have hi : 0 ≤ ((s[k].toNat : Nat) : Int) % 8 ∧ ((s[k].toNat : Nat) : Int) % 8 < 8 := by omega
        have hX1 : (str [Xm.nmC s[k]]).size = 1 := rfl
        unfold u8v Xm.nmC Xm.nmT at Hw
        obtain ⟨X, hX⟩ : ∃ X, X = str [Xm.nmC s[k]] := ⟨_, rfl⟩
        have hX' : X = str [(⟨#[97, 98, 90, 95, 48, 45, 46, 57]⟩ : ByteArray)[s[k].toNat % 8]'(Nat.mod_lt _ (by decide))] := hX
        rw [← hX'] at Hw
        rw [← hX] at hX1
        have HX := Lib.hid hX
        have hl : ¬ 9223372036854775807 < acc.size + X.size := by omega
        clear hX hX' hB
        go_wp2
        have G2 := Lib.hid (HG.out.trans (Flow.grow_alloc wr (.cells #[.int .u8 ((Xm.nmC s[k]).toNat : Int)] 5)))
        go_roundw
        case rel => exact ⟨k + 1, acc ++ X, by omega, by omega, by first | rfl | go_num, rfl, by rw [ByteArray.size_append, hX1, hacc], G2, Lib.hid (by rw [HE.out, HX.out]; rfl)⟩
        case measure => simp only [intOf]; omega
      · have he : decide ((k : Int) < 5) = false := by simp; omega
        have HE : Hid (Xm.nmB 5 s 0 ⟨#[110]⟩ = acc) := Lib.hid (by rw [HR.out, Xm.nmB, dif_neg (by omega)])
        go_wp2
        go_ret
        exact ⟨ret_str HE.out.symm, HG.out⟩
    · have hd : decide ((k : Int) < (s.size : Int)) = false := by simp; omega
      have hd' : decide (k < s.size) = false := by simp; omega
      have HE : Hid (Xm.nmB 5 s 0 ⟨#[110]⟩ = acc) := Lib.hid (by rw [HR.out, Xm.nmB, dif_neg (by omega)])
      go_wp2
      go_ret
      exact ⟨ret_str HE.out.symm, HG.out⟩
set_option maxRecDepth 100000 in
set_option maxHeartbeats 1000000 in
theorem name4_any (s : ByteArray) (w : World) (hs : s.size ≤ 9223372036854775807) : Calls Tryd.prog 30 #[.string s] w fun e w' => e = .returned (.string (Xm.nmB 6 s 0 ⟨#[110]⟩)) ∧ Flow.Grow w w' := by
  go_enter Tryd.func30, Tryd.ntmps30
  go_wp2
  go_loopw [3, 4] (fun v3 v4 wr => ∃ (k : Nat) (acc : ByteArray), k ≤ s.size ∧ k ≤ 6 ∧ v4 = .int .i64 k ∧ v3 = .string acc ∧ acc.size = k + 1 ∧ Hid (Flow.Grow w wr) ∧ Hid (Xm.nmB 6 s 0 ⟨#[110]⟩ = Xm.nmB 6 s k acc)) (fun _ v _ => 6 - (intOf v).toNat)
  case atStart => exact ⟨0, ⟨#[110]⟩, Nat.zero_le _, Nat.zero_le _, rfl, rfl, rfl, Lib.hid (Flow.grow_refl _), Lib.hid rfl⟩
  case round =>
    obtain ⟨k, acc, hk, hk5, rfl, rfl, hacc, HG, HR⟩ := hrel
    rename World => wr
    by_cases hlt : k < s.size
    · have hd : decide ((k : Int) < (s.size : Int)) = true := by simp; omega
      have hd' : decide (k < s.size) = true := by simp; omega
      by_cases h5 : k < 6
      · have he : decide ((k : Int) < 6) = true := by simp; omega
        have HE : Hid (Xm.nmB 6 s 0 ⟨#[110]⟩ = Xm.nmB 6 s (k + 1) (acc ++ ⟨#[Xm.nmC s[k]]⟩)) := Lib.hid (by rw [HR.out, Xm.nmB, dif_pos ⟨hlt, h5⟩])
        have hB := Bytes.of_own (World.ownsRow_lit (base := 0) (e := 5) wr #[u8v (Xm.nmC s[k])] 1 (Nat.zero_le _) (by decide) rfl) (by simp : ([Xm.nmC s[k]]).length ≤ 140737488351232)
        have Hw := run_str (P := Tryd.prog) hB 41 9 5 Tryd.underlying41 Tryd.underlying5 Tryd.underlying9
        have hi : 0 ≤ ((s[k].toNat : Nat) : Int) % 8 ∧ ((s[k].toNat : Nat) : Int) % 8 < 8 := by omega
        have hX1 : (str [Xm.nmC s[k]]).size = 1 := rfl
        unfold u8v Xm.nmC Xm.nmT at Hw
        obtain ⟨X, hX⟩ : ∃ X, X = str [Xm.nmC s[k]] := ⟨_, rfl⟩
        have hX' : X = str [(⟨#[97, 98, 90, 95, 48, 45, 46, 57]⟩ : ByteArray)[s[k].toNat % 8]'(Nat.mod_lt _ (by decide))] := hX
        rw [← hX'] at Hw
        rw [← hX] at hX1
        have HX := Lib.hid hX
        have hl : ¬ 9223372036854775807 < acc.size + X.size := by omega
        clear hX hX' hB
        go_wp2
        have G2 := Lib.hid (HG.out.trans (Flow.grow_alloc wr (.cells #[.int .u8 ((Xm.nmC s[k]).toNat : Int)] 5)))
        go_roundw
        case rel => exact ⟨k + 1, acc ++ X, by omega, by omega, by first | rfl | go_num, rfl, by rw [ByteArray.size_append, hX1, hacc], G2, Lib.hid (by rw [HE.out, HX.out]; rfl)⟩
        case measure => simp only [intOf]; omega
      · have he : decide ((k : Int) < 6) = false := by simp; omega
        have HE : Hid (Xm.nmB 6 s 0 ⟨#[110]⟩ = acc) := Lib.hid (by rw [HR.out, Xm.nmB, dif_neg (by omega)])
        go_wp2
        go_ret
        exact ⟨ret_str HE.out.symm, HG.out⟩
    · have hd : decide ((k : Int) < (s.size : Int)) = false := by simp; omega
      have hd' : decide (k < s.size) = false := by simp; omega
      have HE : Hid (Xm.nmB 6 s 0 ⟨#[110]⟩ = acc) := Lib.hid (by rw [HR.out, Xm.nmB, dif_neg (by omega)])
      go_wp2
      go_ret
      exact ⟨ret_str HE.out.symm, HG.out⟩
end Go.Proofs.YtfkdjdmbgednkaaDoor
