/- galliardref01.Text, Plain by their contracts. -/
import Derived.Test.YtfkdjdmbgednkaaDoorRefGet
namespace Go.Proofs.YtfkdjdmbgednkaaDoor
open Go.RowKit
namespace Xm
theorem rget_bd (s : ByteArray) : ∀ m n, 1 ≤ n → n + m ≤ 5 → 0 ≤ (rget s m n).2 ∧ (rget s m n).2 ≤ s.size ∧ (rget s m n).2 ≤ 4
  | 0, n, h1, h => by unfold rget; exact ⟨by simp, by simp, by simp⟩
  | m + 1, n, h1, h => by
    unfold rget
    split
    · split
      · exact ⟨by simp, by simp; omega, by simp; omega⟩
      · exact rget_bd s m (n + 1) (by omega) (by omega)
    · exact ⟨by simp, by simp, by simp⟩
/-- the letter at a place, and its bytes -/
def rg (s : ByteArray) (k : Nat) : Int × Int := rget (s.extract k s.size) 4 1
theorem rg_bd {s : ByteArray} {k : Nat} (hk : k ≤ s.size) : 0 ≤ (rg s k).2 ∧ k + (rg s k).2.toNat ≤ s.size ∧ (rg s k).2 ≤ 4 := by
  have := rget_bd (s.extract k s.size) 4 1 (by omega) (by omega)
  have hz : (s.extract k s.size).size = s.size - k := by simp
  rw [hz] at this
  unfold rg
  omega
def odd (r : Int) : Bool := decide (r < 32) && r != 9 && r != 10 && r != 13 || r == 65534 || r == 65535
def rtext (s : ByteArray) (k : Nat) : Int := if h : k < s.size then (if h0 : (rg s k).2 = 0 ∨ odd (rg s k).1 = true then k else rtext s (k + (rg s k).2.toNat)) else -1
  termination_by s.size - k
  decreasing_by have := rg_bd (s := s) (k := k) (by omega); omega
end Xm
set_option maxRecDepth 100000 in
set_option maxHeartbeats 4000000 in
theorem rtext_any (s : ByteArray) (w : World) (hs : s.size ≤ 1000000000) : Calls Tryd.prog 43 #[.string s] w fun e w' => e = .returned (.int .i64 (Xm.rtext s 0)) ∧ Flow.Grow w w' := by
  go_enter Tryd.func43, Tryd.ntmps43
  go_wp2
  go_loopw [3] (fun v wr => ∃ k : Nat, k ≤ s.size ∧ v = .int .i64 k ∧ Hid (Flow.Grow w wr) ∧ Hid (Xm.rtext s 0 = Xm.rtext s k)) (fun v _ => s.size - (intOf v).toNat)
  case atStart => exact ⟨0, by omega, rfl, Lib.hid (Flow.grow_refl _), Lib.hid rfl⟩
  case round =>
    obtain ⟨k, hk, rfl, HG, HR⟩ := hrel
    rename World => wr
    by_cases hlt : k < s.size
    rotate_left
    · have HE : Hid (Xm.rtext s 0 = -1) := Lib.hid (by rw [HR.out, Xm.rtext, dif_neg hlt])
      have hd : decide ((k : Int) < (s.size : Int)) = false := by simp; omega
      have hd' : decide (k < s.size) = false := by simp; omega
      go_wp2
      go_ret
      exact ⟨ret_int HE.out.symm, HG.out⟩
    have hd : decide ((k : Int) < (s.size : Int)) = true := by simp; omega
    have hd' : decide (k < s.size) = true := by simp; omega
    have hbd := Xm.rg_bd (s := s) hk
    obtain ⟨r, n, hg0⟩ : ∃ r n, (r, n) = Xm.rg s k := ⟨_, _, rfl⟩
    rw [← hg0] at hbd
    have Hg := Lib.hid hg0
    have Hg1 : Hid (Xm.rget (s.extract k s.size) 4 1 = (r, n)) := Lib.hid hg0.symm
    have Hsz : Hid ((s.extract k s.size).size ≤ 9223372036854775807) := Lib.hid (by simp; omega)
    simp only at hbd
    clear hg0
    by_cases hn : n = 0
    · subst hn
      have HE : Hid (Xm.rtext s 0 = k) := Lib.hid (by rw [HR.out, Xm.rtext, dif_pos hlt, dif_pos]; rw [← Hg.out]; first | exact .inl rfl | (right; simp [Xm.odd, *]))
      go_wp2_with (go_at_call 42; refine (rget_any _ _ Hsz.out).mono ?_; rintro e w1 ⟨rfl, hg⟩; rw [Hg1.out])
      go_ret
      exact ⟨ret_int HE.out.symm, HG.out.trans hg⟩
    have gn : (n == 0) = false := by simpa using hn
    by_cases h32 : r < 32
    · by_cases h9 : r = 9
      · subst h9
        have HE : Hid (Xm.rtext s 0 = Xm.rtext s (k + n.toNat)) := Lib.hid (by rw [HR.out, Xm.rtext, dif_pos hlt, dif_neg (by rw [← Hg.out]; simp [Xm.odd, *]), ← Hg.out])
        go_wp2_with (go_at_call 42; refine (rget_any _ _ Hsz.out).mono ?_; rintro e w1 ⟨rfl, hg⟩; rw [Hg1.out])
        go_roundw
        case rel => exact ⟨k + n.toNat, by omega, by rw [show ((k + n.toNat : Nat) : Int) = (k : Int) + n by omega], Lib.hid (HG.out.trans hg), HE⟩
        case measure => simp only [intOf]; omega
      by_cases h10 : r = 10
      · subst h10
        have HE : Hid (Xm.rtext s 0 = Xm.rtext s (k + n.toNat)) := Lib.hid (by rw [HR.out, Xm.rtext, dif_pos hlt, dif_neg (by rw [← Hg.out]; simp [Xm.odd, *]), ← Hg.out])
        go_wp2_with (go_at_call 42; refine (rget_any _ _ Hsz.out).mono ?_; rintro e w1 ⟨rfl, hg⟩; rw [Hg1.out])
        go_roundw
        case rel => exact ⟨k + n.toNat, by omega, by rw [show ((k + n.toNat : Nat) : Int) = (k : Int) + n by omega], Lib.hid (HG.out.trans hg), HE⟩
        case measure => simp only [intOf]; omega
      by_cases h13 : r = 13
      · subst h13
        have HE : Hid (Xm.rtext s 0 = Xm.rtext s (k + n.toNat)) := Lib.hid (by rw [HR.out, Xm.rtext, dif_pos hlt, dif_neg (by rw [← Hg.out]; simp [Xm.odd, *]), ← Hg.out])
        go_wp2_with (go_at_call 42; refine (rget_any _ _ Hsz.out).mono ?_; rintro e w1 ⟨rfl, hg⟩; rw [Hg1.out])
        go_roundw
        case rel => exact ⟨k + n.toNat, by omega, by rw [show ((k + n.toNat : Nat) : Int) = (k : Int) + n by omega], Lib.hid (HG.out.trans hg), HE⟩
        case measure => simp only [intOf]; omega
      have g9 : (r != 9) = true := by simpa using h9
      have g10 : (r != 10) = true := by simpa using h10
      have g13 : (r != 13) = true := by simpa using h13
      have HE : Hid (Xm.rtext s 0 = k) := Lib.hid (by rw [HR.out, Xm.rtext, dif_pos hlt, dif_pos]; rw [← Hg.out]; first | exact .inl rfl | (right; simp [Xm.odd, *]))
      go_wp2_with (go_at_call 42; refine (rget_any _ _ Hsz.out).mono ?_; rintro e w1 ⟨rfl, hg⟩; rw [Hg1.out])
      go_ret
      exact ⟨ret_int HE.out.symm, HG.out.trans hg⟩
    by_cases h4 : r = 65534
    · subst h4
      have HE : Hid (Xm.rtext s 0 = k) := Lib.hid (by rw [HR.out, Xm.rtext, dif_pos hlt, dif_pos]; rw [← Hg.out]; first | exact .inl rfl | (right; simp [Xm.odd, *]))
      go_wp2_with (go_at_call 42; refine (rget_any _ _ Hsz.out).mono ?_; rintro e w1 ⟨rfl, hg⟩; rw [Hg1.out])
      go_ret
      exact ⟨ret_int HE.out.symm, HG.out.trans hg⟩
    by_cases h5 : r = 65535
    · subst h5
      have HE : Hid (Xm.rtext s 0 = k) := Lib.hid (by rw [HR.out, Xm.rtext, dif_pos hlt, dif_pos]; rw [← Hg.out]; first | exact .inl rfl | (right; simp [Xm.odd, *]))
      go_wp2_with (go_at_call 42; refine (rget_any _ _ Hsz.out).mono ?_; rintro e w1 ⟨rfl, hg⟩; rw [Hg1.out])
      go_ret
      exact ⟨ret_int HE.out.symm, HG.out.trans hg⟩
    have g4 : (r == 65534) = false := by simpa using h4
    have g5 : (r == 65535) = false := by simpa using h5
    have HE : Hid (Xm.rtext s 0 = Xm.rtext s (k + n.toNat)) := Lib.hid (by rw [HR.out, Xm.rtext, dif_pos hlt, dif_neg (by rw [← Hg.out]; simp [Xm.odd, *]), ← Hg.out])
    go_wp2_with (go_at_call 42; refine (rget_any _ _ Hsz.out).mono ?_; rintro e w1 ⟨rfl, hg⟩; rw [Hg1.out])
    go_roundw
    case rel => exact ⟨k + n.toNat, by omega, by rw [show ((k + n.toNat : Nat) : Int) = (k : Int) + n by omega], Lib.hid (HG.out.trans hg), HE⟩
    case measure => simp only [intOf]; omega
end Go.Proofs.YtfkdjdmbgednkaaDoor
