/- galliardref01.Text, Plain by their contracts. -/
/- galliardref01.Plain by its contract. -/
/- galliardref01.Close by its contract. -/
/- galliardref06.name, galliardlaw04.name by their contracts. -/
/- galliardref01.Trim by its contract. -/
import Derived.Test.YtdpkhmfolmcejaaGreatDoorRefGet
namespace Go.Proofs.YtdpkhmfolmcejaaGreatDoor
open Go.RowKit
namespace Xm
theorem rget_bd (s : ByteArray) : ∀ m n, 1 ≤ n → n + m ≤ 5 → 0 ≤ (rget s m n).2 ∧ (rget s m n).2 ≤ s.size ∧ (rget s m n).2 ≤ 4
  | 0, n, h1, h => by unfold rget; exact ⟨by simp, by simp, by simp⟩
  | m + 1, n, h1, h => by
    unfold rget
    split
    · split
      · exact ⟨by simp, by simp; omega, by simp; omega⟩
      · exact rget_bd s m (n + 1) (by omega) (by omega)
    · exact ⟨by simp, by simp, by simp⟩
/-- the letter at a place, and its bytes -/
def rg (s : ByteArray) (k : Nat) : Int × Int := rget (s.extract k s.size) 4 1
theorem rg_bd {s : ByteArray} {k : Nat} (hk : k ≤ s.size) : 0 ≤ (rg s k).2 ∧ k + (rg s k).2.toNat ≤ s.size ∧ (rg s k).2 ≤ 4 := by
  have := rget_bd (s.extract k s.size) 4 1 (by omega) (by omega)
  have hz : (s.extract k s.size).size = s.size - k := by simp
  rw [hz] at this
  unfold rg
  omega
def odd (r : Int) : Bool := decide (r < 32) && r != 9 && r != 10 && r != 13 || r == 65534 || r == 65535
def rtext (s : ByteArray) (k : Nat) : Int := if h : k < s.size then (if h0 : (rg s k).2 = 0 ∨ odd (rg s k).1 = true then k else rtext s (k + (rg s k).2.toNat)) else -1
  termination_by s.size - k
  decreasing_by have := rg_bd (s := s) (k := k) (by omega); omega
end Xm
set_option maxRecDepth 100000 in
set_option maxHeartbeats 4000000 in
theorem rtext_any (s : ByteArray) (w : World) (hs : s.size ≤ 1000000000) : Calls Tryz.prog 27 #[.string s] w fun e w' => e = .returned (.int .i64 (Xm.rtext s 0)) ∧ Flow.Grow w w' := by
  go_enter Tryz.func27, Tryz.ntmps27
  go_wp2
  go_loopw [3] (fun v wr => ∃ k : Nat, k ≤ s.size ∧ v = .int .i64 k ∧ Hid (Flow.Grow w wr) ∧ Hid (Xm.rtext s 0 = Xm.rtext s k)) (fun v _ => s.size - (intOf v).toNat)
  case atStart => exact ⟨0, by omega, rfl, Lib.hid (Flow.grow_refl _), Lib.hid rfl⟩
  case round =>
    obtain ⟨k, hk, rfl, HG, HR⟩ := hrel
    rename World => wr
    by_cases hlt : k < s.size
    rotate_left
    · have HE : Hid (Xm.rtext s 0 = -1) := Lib.hid (by rw [HR.out, Xm.rtext, dif_neg hlt])
      have hd : decide ((k : Int) < (s.size : Int)) = false := by simp; omega
      have hd' : decide (k < s.size) = false := by simp; omega
      go_wp2
      go_ret
      exact ⟨ret_int HE.out.symm, HG.out⟩
    have hd : decide ((k : Int) < (s.size : Int)) = true := by simp; omega
    have hd' : decide (k < s.size) = true := by simp; omega
    have hbd := Xm.rg_bd (s := s) hk
    obtain ⟨r, n, hg0⟩ : ∃ r n, (r, n) = Xm.rg s k := ⟨_, _, rfl⟩
    rw [← hg0] at hbd
    have Hg := Lib.hid hg0
    have Hg1 : Hid (Xm.rget (s.extract k s.size) 4 1 = (r, n)) := Lib.hid hg0.symm
    have Hsz : Hid ((s.extract k s.size).size ≤ 9223372036854775807) := Lib.hid (by simp; omega)
    simp only at hbd
    clear hg0
    by_cases hn : n = 0
    · subst hn
      have HE : Hid (Xm.rtext s 0 = k) := Lib.hid (by rw [HR.out, Xm.rtext, dif_pos hlt, dif_pos]; rw [← Hg.out]; first | exact .inl rfl | (right; simp [Xm.odd, *]))
      go_wp2_with (go_at_call 26; refine (rget_any _ _ Hsz.out).mono ?_; rintro e w1 ⟨rfl, hg⟩; rw [Hg1.out])
      go_ret
      exact ⟨ret_int HE.out.symm, HG.out.trans hg⟩
    have gn : (n == 0) = false := by simpa using hn
    by_cases h32 : r < 32
    · by_cases h9 : r = 9
      · subst h9
        have HE : Hid (Xm.rtext s 0 = Xm.rtext s (k + n.toNat)) := Lib.hid (by rw [HR.out, Xm.rtext, dif_pos hlt, dif_neg (by rw [← Hg.out]; simp [Xm.odd, *]), ← Hg.out])
        go_wp2_with (go_at_call 26; refine (rget_any _ _ Hsz.out).mono ?_; rintro e w1 ⟨rfl, hg⟩; rw [Hg1.out])
        go_roundw
        case rel => exact ⟨k + n.toNat, by omega, by rw [show ((k + n.toNat : Nat) : Int) = (k : Int) + n by omega], Lib.hid (HG.out.trans hg), HE⟩
        case measure => simp only [intOf]; omega
      by_cases h10 : r = 10
      · subst h10
        have HE : Hid (Xm.rtext s 0 = Xm.rtext s (k + n.toNat)) := Lib.hid (by rw [HR.out, Xm.rtext, dif_pos hlt, dif_neg (by rw [← Hg.out]; simp [Xm.odd, *]), ← Hg.out])
        go_wp2_with (go_at_call 26; refine (rget_any _ _ Hsz.out).mono ?_; rintro e w1 ⟨rfl, hg⟩; rw [Hg1.out])
        go_roundw
        case rel => exact ⟨k + n.toNat, by omega, by rw [show ((k + n.toNat : Nat) : Int) = (k : Int) + n by omega], Lib.hid (HG.out.trans hg), HE⟩
        case measure => simp only [intOf]; omega
      by_cases h13 : r = 13
      · subst h13
        have HE : Hid (Xm.rtext s 0 = Xm.rtext s (k + n.toNat)) := Lib.hid (by rw [HR.out, Xm.rtext, dif_pos hlt, dif_neg (by rw [← Hg.out]; simp [Xm.odd, *]), ← Hg.out])
        go_wp2_with (go_at_call 26; refine (rget_any _ _ Hsz.out).mono ?_; rintro e w1 ⟨rfl, hg⟩; rw [Hg1.out])
        go_roundw
        case rel => exact ⟨k + n.toNat, by omega, by rw [show ((k + n.toNat : Nat) : Int) = (k : Int) + n by omega], Lib.hid (HG.out.trans hg), HE⟩
        case measure => simp only [intOf]; omega
      have g9 : (r != 9) = true := by simpa using h9
      have g10 : (r != 10) = true := by simpa using h10
      have g13 : (r != 13) = true := by simpa using h13
      have HE : Hid (Xm.rtext s 0 = k) := Lib.hid (by rw [HR.out, Xm.rtext, dif_pos hlt, dif_pos]; rw [← Hg.out]; first | exact .inl rfl | (right; simp [Xm.odd, *]))
      go_wp2_with (go_at_call 26; refine (rget_any _ _ Hsz.out).mono ?_; rintro e w1 ⟨rfl, hg⟩; rw [Hg1.out])
      go_ret
      exact ⟨ret_int HE.out.symm, HG.out.trans hg⟩
    by_cases h4 : r = 65534
    · subst h4
      have HE : Hid (Xm.rtext s 0 = k) := Lib.hid (by rw [HR.out, Xm.rtext, dif_pos hlt, dif_pos]; rw [← Hg.out]; first | exact .inl rfl | (right; simp [Xm.odd, *]))
      go_wp2_with (go_at_call 26; refine (rget_any _ _ Hsz.out).mono ?_; rintro e w1 ⟨rfl, hg⟩; rw [Hg1.out])
      go_ret
      exact ⟨ret_int HE.out.symm, HG.out.trans hg⟩
    by_cases h5 : r = 65535
    · subst h5
      have HE : Hid (Xm.rtext s 0 = k) := Lib.hid (by rw [HR.out, Xm.rtext, dif_pos hlt, dif_pos]; rw [← Hg.out]; first | exact .inl rfl | (right; simp [Xm.odd, *]))
      go_wp2_with (go_at_call 26; refine (rget_any _ _ Hsz.out).mono ?_; rintro e w1 ⟨rfl, hg⟩; rw [Hg1.out])
      go_ret
      exact ⟨ret_int HE.out.symm, HG.out.trans hg⟩
    have g4 : (r == 65534) = false := by simpa using h4
    have g5 : (r == 65535) = false := by simpa using h5
    have HE : Hid (Xm.rtext s 0 = Xm.rtext s (k + n.toNat)) := Lib.hid (by rw [HR.out, Xm.rtext, dif_pos hlt, dif_neg (by rw [← Hg.out]; simp [Xm.odd, *]), ← Hg.out])
    go_wp2_with (go_at_call 26; refine (rget_any _ _ Hsz.out).mono ?_; rintro e w1 ⟨rfl, hg⟩; rw [Hg1.out])
    go_roundw
    case rel => exact ⟨k + n.toNat, by omega, by rw [show ((k + n.toNat : Nat) : Int) = (k : Int) + n by omega], Lib.hid (HG.out.trans hg), HE⟩
    case measure => simp only [intOf]; omega
end Go.Proofs.YtdpkhmfolmcejaaGreatDoor
namespace Go.Proofs.YtdpkhmfolmcejaaGreatDoor
open Go.RowKit
namespace Xm
/-- a text's letters that may stand in one, from a place on; others are x -/
def rplain (s : ByteArray) (k : Nat) (acc : ByteArray) : ByteArray :=
  if h : k < s.size then
    (if h0 : (rg s k).2 = 0 ∨ 0 ≤ rtext (s.extract k (k + (rg s k).2.toNat)) 0 then rplain s (k + 1) (acc ++ ⟨#[120]⟩)
    else rplain s (k + (rg s k).2.toNat) (acc ++ s.extract k (k + (rg s k).2.toNat)))
  else acc
  termination_by s.size - k
  decreasing_by
    · omega
    · have := rg_bd (s := s) (k := k) (by omega); omega
end Xm
set_option maxRecDepth 100000 in
set_option maxHeartbeats 4000000 in
theorem rplain_any (s : ByteArray) (w : World) (hs : s.size ≤ 1000000000) : Calls Tryz.prog 13 #[.string s] w fun e w' => e = .returned (.string (Xm.rplain s 0 ByteArray.empty)) ∧ Flow.Grow w w' := by
  go_enter Tryz.func13, Tryz.ntmps13
  go_wp2
  go_loopw [3, 4] (fun v3 v4 wr => ∃ (k : Nat) (acc : ByteArray), k ≤ s.size ∧ v4 = .int .i64 k ∧ v3 = .string acc ∧ acc.size ≤ k ∧ Hid (Flow.Grow w wr) ∧ Hid (Xm.rplain s 0 ByteArray.empty = Xm.rplain s k acc)) (fun _ v4 _ => s.size - (intOf v4).toNat)
  case atStart => exact ⟨0, ByteArray.empty, by omega, rfl, rfl, Nat.le_refl _, Lib.hid (Flow.grow_refl _), Lib.hid rfl⟩
  case round =>
    obtain ⟨k, acc, hk, rfl, rfl, hacc, HG, HR⟩ := hrel
    rename World => wr
    by_cases hlt : k < s.size
    rotate_left
    · have HE : Hid (Xm.rplain s 0 ByteArray.empty = acc) := Lib.hid (by rw [HR.out, Xm.rplain, dif_neg hlt])
      have hd : decide ((k : Int) < (s.size : Int)) = false := by simp; omega
      have hd' : decide (k < s.size) = false := by simp; omega
      go_wp2
      go_ret
      exact ⟨ret_str HE.out.symm, HG.out⟩
    have hd : decide ((k : Int) < (s.size : Int)) = true := by simp; omega
    have hd' : decide (k < s.size) = true := by simp; omega
    have hbd := Xm.rg_bd (s := s) hk
    obtain ⟨r, n, hg0⟩ : ∃ r n, (r, n) = Xm.rg s k := ⟨_, _, rfl⟩
    rw [← hg0] at hbd
    have Hg := Lib.hid hg0
    have Hg1 : Hid (Xm.rget (s.extract k s.size) 4 1 = (r, n)) := Lib.hid hg0.symm
    have Hsz : Hid ((s.extract k s.size).size ≤ 9223372036854775807) := Lib.hid (by simp; omega)
    simp only at hbd
    clear hg0
    have hx1 : (⟨#[120]⟩ : ByteArray).size = 1 := rfl
    have hp1 : ¬ 9223372036854775807 < acc.size + 1 := by omega
    by_cases hn : n = 0
    · subst hn
      have HE : Hid (Xm.rplain s 0 ByteArray.empty = Xm.rplain s (k + 1) (acc ++ ⟨#[120]⟩)) := Lib.hid (by rw [HR.out, Xm.rplain, dif_pos hlt, dif_pos (.inl (by rw [← Hg.out]))])
      go_wp2_with (go_at_call 26; refine (rget_any _ _ Hsz.out).mono ?_; rintro e w1 ⟨rfl, hg⟩; rw [Hg1.out])
      go_roundw
      case rel => exact ⟨k + 1, acc ++ ⟨#[120]⟩, by omega, rfl, rfl, by rw [ByteArray.size_append, hx1]; omega, Lib.hid (HG.out.trans hg), HE⟩
      case measure => simp only [intOf]; omega
    obtain ⟨m, rfl⟩ := Int.eq_ofNat_of_zero_le hbd.1
    rw [Int.toNat_natCast] at hbd
    have gn : ((m : Int) == 0) = false := by simpa using hn
    obtain ⟨v, hv⟩ : ∃ v, v = s.extract k (k + m) := ⟨_, rfl⟩
    have Hv := Lib.hid hv
    have hvs : v.size = m := by rw [hv]; simp; omega
    have hsl := run_cut s k (k + m) (by omega) (by omega) (k : Int) ((k : Int) + m) rfl (by omega)
    rw [← hv] at hsl
    have e1 : IntKind.i64.wrap ((k : Int) + m) = (k : Int) + m := IntWalk.i64_in _ (by omega)
    obtain ⟨z, hz⟩ : ∃ z, z = Xm.rtext v 0 := ⟨_, rfl⟩
    have HZ := Lib.hid hz
    clear hv hz
    by_cases hz0 : 0 ≤ z
    · have HE : Hid (Xm.rplain s 0 ByteArray.empty = Xm.rplain s (k + 1) (acc ++ ⟨#[120]⟩)) := Lib.hid (by rw [HR.out, Xm.rplain, dif_pos hlt, dif_pos (.inr (by rw [← Hg.out, Int.toNat_natCast, ← Hv.out, ← HZ.out]; exact hz0))])
      go_wp2_with (first | (go_at_call 26; refine (rget_any _ _ Hsz.out).mono ?_; rintro e w1 ⟨rfl, hg⟩; rw [Hg1.out]) | (go_at_call 27; refine (rtext_any _ _ (by omega)).mono ?_; rintro e w2 ⟨rfl, hg2⟩; rw [← HZ.out]))
      go_roundw
      case rel => exact ⟨k + 1, acc ++ ⟨#[120]⟩, by omega, rfl, rfl, by rw [ByteArray.size_append, hx1]; omega, Lib.hid ((HG.out.trans hg).trans hg2), HE⟩
      case measure => simp only [intOf]; omega
    · have HE : Hid (Xm.rplain s 0 ByteArray.empty = Xm.rplain s (k + m) (acc ++ v)) := Lib.hid (by
        rw [HR.out, Xm.rplain, dif_pos hlt, dif_neg (by
          rw [← Hg.out, Int.toNat_natCast, ← Hv.out, ← HZ.out]
          simp only [not_or]
          exact ⟨hn, hz0⟩), ← Hg.out, Int.toNat_natCast, ← Hv.out])
      have hp2 : ¬ 9223372036854775807 < acc.size + v.size := by omega
      have hm0 : 0 < m := by omega
      go_wp2_with (first | (go_at_call 26; refine (rget_any _ _ Hsz.out).mono ?_; rintro e w1 ⟨rfl, hg⟩; rw [Hg1.out]) | (go_at_call 27; refine (rtext_any _ _ (by omega)).mono ?_; rintro e w2 ⟨rfl, hg2⟩; rw [← HZ.out]))
      go_roundw
      case rel => exact ⟨k + m, acc ++ v, by omega, rfl, rfl, by rw [ByteArray.size_append]; omega, Lib.hid ((HG.out.trans hg).trans hg2), HE⟩
      case measure => simp only [intOf]; omega
end Go.Proofs.YtdpkhmfolmcejaaGreatDoor
namespace Go.Proofs.YtdpkhmfolmcejaaGreatDoor
open Go.RowKit
namespace Xm
/-- a byte as it is written -/
def clB (c : UInt8) : List UInt8 := if c = 38 then [38, 97, 109, 112, 59] else if c = 60 then [38, 108, 116, 59] else if c = 62 then [38, 103, 116, 59] else if c = 34 then [38, 113, 117, 111, 116, 59] else if c = 9 then [38, 35, 57, 59] else if c = 10 then [38, 35, 49, 48, 59] else if c = 13 then [38, 35, 49, 51, 59] else [c]
def clL (l : List UInt8) : List UInt8 := l.flatMap clB
def clS (s : ByteArray) : ByteArray := str (clL s.data.toList)
theorem clB_len (c : UInt8) : (clB c).length ≤ 6 := by
  unfold clB
  repeat' split
  all_goals simp
theorem clL_len : ∀ l, (clL l).length ≤ 6 * l.length
  | [] => Nat.zero_le _
  | c :: l => by
    have := clB_len c
    have := clL_len l
    unfold clL at *
    rw [List.flatMap_cons, List.length_append, List.length_cons]
    omega
theorem cl_step {s : ByteArray} {k : Nat} (h : k < s.size) : clL (s.data.toList.take (k + 1)) = clL (s.data.toList.take k) ++ clB s[k] := by
  have h' : k < s.data.toList.length := by simpa using h
  rw [← List.take_append_getElem h']
  unfold clL
  rw [List.flatMap_append, List.flatMap_cons, List.flatMap_nil, List.append_nil]
  rfl
end Xm
set_option maxRecDepth 100000 in
set_option maxHeartbeats 4000000 in
theorem close_any (s : ByteArray) (w : World) (hs : s.size ≤ 1000000000) : Calls Tryz.prog 25 #[.string s] w fun e w' => e = .returned (.string (Xm.clS s)) ∧ w = w' := by
  go_enter Tryz.func25, Tryz.ntmps25
  go_wp2
  go_loop [3, 4] (fun v3 v4 => ∃ (k : Nat) (acc : ByteArray), k ≤ s.size ∧ v4 = .int .i64 k ∧ v3 = .string acc ∧ acc.size ≤ 6 * k ∧ Hid (acc = str (Xm.clL (s.data.toList.take k)))) (fun _ v => s.size - (intOf v).toNat)
  case atStart => exact ⟨0, ByteArray.empty, Nat.zero_le _, rfl, rfl, Nat.le_refl _, Lib.hid rfl⟩
  case round =>
    obtain ⟨k, acc, hk, rfl, rfl, hacc, HA⟩ := hrel
    by_cases hlt : k < s.size
    rotate_left
    · have hd : decide ((k : Int) < (s.size : Int)) = false := by simp; omega
      have hd' : decide (k < s.size) = false := by simp; omega
      have HE : Hid (Xm.clS s = acc) := Lib.hid (by rw [HA.out, Xm.clS, List.take_of_length_le (by simpa using hlt)])
      go_wp2
      go_ret
      exact ⟨ret_str HE.out.symm, rfl⟩
    have hd : decide ((k : Int) < (s.size : Int)) = true := by simp; omega
    have hd' : decide (k < s.size) = true := by simp; omega
    have HS := Lib.hid (Xm.cl_step hlt)
    by_cases h38 : s[k] = 38
    · have HE : Hid (Xm.clB s[k] = [38, 97, 109, 112, 59]) := Lib.hid (by rw [h38]; rfl)
      have e38 : ((s[k].toNat : Nat) : Int) = 38 := by rw [h38]; rfl
      have hl : ¬ 9223372036854775807 < acc.size + 5 := by omega
      go_wp2
      go_round
      case rel => exact ⟨k + 1, acc ++ (⟨#[38, 97, 109, 112, 59]⟩ : ByteArray), by omega, by first | rfl | go_num, rfl, by rw [ByteArray.size_append]; show acc.size + 5 ≤ _; omega, Lib.hid (by rw [HS.out, HE.out, ← str_append, ← HA.out]; rfl)⟩
      case measure => simp only [intOf]; omega
    have e38 : ¬ ((s[k].toNat : Nat) : Int) = 38 := fun e => h38 (UInt8.toNat_inj.1 (by show s[k].toNat = 38; omega))
    by_cases h60 : s[k] = 60
    · have HE : Hid (Xm.clB s[k] = [38, 108, 116, 59]) := Lib.hid (by rw [h60]; rfl)
      have e60 : ((s[k].toNat : Nat) : Int) = 60 := by rw [h60]; rfl
      have hl : ¬ 9223372036854775807 < acc.size + 4 := by omega
      go_wp2
      go_round
      case rel => exact ⟨k + 1, acc ++ (⟨#[38, 108, 116, 59]⟩ : ByteArray), by omega, by first | rfl | go_num, rfl, by rw [ByteArray.size_append]; show acc.size + 4 ≤ _; omega, Lib.hid (by rw [HS.out, HE.out, ← str_append, ← HA.out]; rfl)⟩
      case measure => simp only [intOf]; omega
    have e60 : ¬ ((s[k].toNat : Nat) : Int) = 60 := fun e => h60 (UInt8.toNat_inj.1 (by show s[k].toNat = 60; omega))
    by_cases h62 : s[k] = 62
    · have HE : Hid (Xm.clB s[k] = [38, 103, 116, 59]) := Lib.hid (by rw [h62]; rfl)
      have e62 : ((s[k].toNat : Nat) : Int) = 62 := by rw [h62]; rfl
      have hl : ¬ 9223372036854775807 < acc.size + 4 := by omega
      go_wp2
      go_round
      case rel => exact ⟨k + 1, acc ++ (⟨#[38, 103, 116, 59]⟩ : ByteArray), by omega, by first | rfl | go_num, rfl, by rw [ByteArray.size_append]; show acc.size + 4 ≤ _; omega, Lib.hid (by rw [HS.out, HE.out, ← str_append, ← HA.out]; rfl)⟩
      case measure => simp only [intOf]; omega
    have e62 : ¬ ((s[k].toNat : Nat) : Int) = 62 := fun e => h62 (UInt8.toNat_inj.1 (by show s[k].toNat = 62; omega))
    by_cases h34 : s[k] = 34
    · have HE : Hid (Xm.clB s[k] = [38, 113, 117, 111, 116, 59]) := Lib.hid (by rw [h34]; rfl)
      have e34 : ((s[k].toNat : Nat) : Int) = 34 := by rw [h34]; rfl
      have hl : ¬ 9223372036854775807 < acc.size + 6 := by omega
      go_wp2
      go_round
      case rel => exact ⟨k + 1, acc ++ (⟨#[38, 113, 117, 111, 116, 59]⟩ : ByteArray), by omega, by first | rfl | go_num, rfl, by rw [ByteArray.size_append]; show acc.size + 6 ≤ _; omega, Lib.hid (by rw [HS.out, HE.out, ← str_append, ← HA.out]; rfl)⟩
      case measure => simp only [intOf]; omega
    have e34 : ¬ ((s[k].toNat : Nat) : Int) = 34 := fun e => h34 (UInt8.toNat_inj.1 (by show s[k].toNat = 34; omega))
    by_cases h9 : s[k] = 9
    · have HE : Hid (Xm.clB s[k] = [38, 35, 57, 59]) := Lib.hid (by rw [h9]; rfl)
      have e9 : ((s[k].toNat : Nat) : Int) = 9 := by rw [h9]; rfl
      have hl : ¬ 9223372036854775807 < acc.size + 4 := by omega
      go_wp2
      go_round
      case rel => exact ⟨k + 1, acc ++ (⟨#[38, 35, 57, 59]⟩ : ByteArray), by omega, by first | rfl | go_num, rfl, by rw [ByteArray.size_append]; show acc.size + 4 ≤ _; omega, Lib.hid (by rw [HS.out, HE.out, ← str_append, ← HA.out]; rfl)⟩
      case measure => simp only [intOf]; omega
    have e9 : ¬ ((s[k].toNat : Nat) : Int) = 9 := fun e => h9 (UInt8.toNat_inj.1 (by show s[k].toNat = 9; omega))
    by_cases h10 : s[k] = 10
    · have HE : Hid (Xm.clB s[k] = [38, 35, 49, 48, 59]) := Lib.hid (by rw [h10]; rfl)
      have e10 : ((s[k].toNat : Nat) : Int) = 10 := by rw [h10]; rfl
      have hl : ¬ 9223372036854775807 < acc.size + 5 := by omega
      go_wp2
      go_round
      case rel => exact ⟨k + 1, acc ++ (⟨#[38, 35, 49, 48, 59]⟩ : ByteArray), by omega, by first | rfl | go_num, rfl, by rw [ByteArray.size_append]; show acc.size + 5 ≤ _; omega, Lib.hid (by rw [HS.out, HE.out, ← str_append, ← HA.out]; rfl)⟩
      case measure => simp only [intOf]; omega
    have e10 : ¬ ((s[k].toNat : Nat) : Int) = 10 := fun e => h10 (UInt8.toNat_inj.1 (by show s[k].toNat = 10; omega))
    by_cases h13 : s[k] = 13
    · have HE : Hid (Xm.clB s[k] = [38, 35, 49, 51, 59]) := Lib.hid (by rw [h13]; rfl)
      have e13 : ((s[k].toNat : Nat) : Int) = 13 := by rw [h13]; rfl
      have hl : ¬ 9223372036854775807 < acc.size + 5 := by omega
      go_wp2
      go_round
      case rel => exact ⟨k + 1, acc ++ (⟨#[38, 35, 49, 51, 59]⟩ : ByteArray), by omega, by first | rfl | go_num, rfl, by rw [ByteArray.size_append]; show acc.size + 5 ≤ _; omega, Lib.hid (by rw [HS.out, HE.out, ← str_append, ← HA.out]; rfl)⟩
      case measure => simp only [intOf]; omega
    have e13 : ¬ ((s[k].toNat : Nat) : Int) = 13 := fun e => h13 (UInt8.toNat_inj.1 (by show s[k].toNat = 13; omega))
    have HE : Hid (Xm.clB s[k] = [s[k]]) := Lib.hid (by unfold Xm.clB; rw [if_neg h38, if_neg h60, if_neg h62, if_neg h34, if_neg h9, if_neg h10, if_neg h13])
    have hx1 : (s.extract k (k + 1)).size = 1 := by simp; omega
    have HX : Hid (s.extract k (k + 1) = str [s[k]]) := Lib.hid (by
      apply ByteArray.ext
      apply Array.ext'
      have h' : k < s.data.toList.length := by simpa using hlt
      rw [ByteArray.data_extract, Array.toList_extract, List.extract_eq_take_drop, Nat.add_sub_cancel_left, List.drop_eq_getElem_cons h']
      rfl)
    obtain ⟨v, hv⟩ : ∃ v, v = s.extract k (k + 1) := ⟨_, rfl⟩
    have hsl := run_cut s k (k + 1) (by omega) (by omega) (k : Int) ((k : Int) + 1) rfl (by omega)
    rw [← hv] at hsl hx1
    have HV := Lib.hid hv
    clear hv
    have hl : ¬ 9223372036854775807 < acc.size + v.size := by omega
    go_wp2
    go_round
    case rel => exact ⟨k + 1, acc ++ v, by omega, by first | rfl | go_num, rfl, by rw [ByteArray.size_append, hx1]; omega, Lib.hid (by rw [HS.out, HE.out, ← str_append, ← HA.out, HV.out, HX.out])⟩
    case measure => simp only [intOf]; omega
end Go.Proofs.YtdpkhmfolmcejaaGreatDoor
namespace Go.Proofs.YtdpkhmfolmcejaaGreatDoor
open Go.RowKit
namespace Xm
def nmT : ByteArray := ⟨#[97, 98, 90, 95, 48, 45, 46, 57]⟩
/-- a name of few letters, from a place on -/
def nmC (b : UInt8) : UInt8 := nmT[b.toNat % 8]'(Nat.mod_lt _ (by decide))
/-- a name of few letters, from a place on -/
def nmB (m : Nat) (s : ByteArray) (k : Nat) (acc : ByteArray) : ByteArray := if h : k < s.size ∧ k < m then nmB m s (k + 1) (acc ++ ⟨#[nmC (s[k]'h.1)]⟩) else acc
  termination_by m - k
end Xm
set_option maxRecDepth 100000 in
set_option maxHeartbeats 1000000 in
theorem name6_any (s : ByteArray) (w : World) (hs : s.size ≤ 9223372036854775807) : Calls Tryz.prog 12 #[.string s] w fun e w' => e = .returned (.string (Xm.nmB 5 s 0 ⟨#[110]⟩)) ∧ Flow.Grow w w' := by
  go_enter Tryz.func12, Tryz.ntmps12
  go_wp2
  go_loopw [3, 4] (fun v3 v4 wr => ∃ (k : Nat) (acc : ByteArray), k ≤ s.size ∧ k ≤ 5 ∧ v4 = .int .i64 k ∧ v3 = .string acc ∧ acc.size = k + 1 ∧ Hid (Flow.Grow w wr) ∧ Hid (Xm.nmB 5 s 0 ⟨#[110]⟩ = Xm.nmB 5 s k acc)) (fun _ v _ => 5 - (intOf v).toNat)
  case atStart => exact ⟨0, ⟨#[110]⟩, Nat.zero_le _, Nat.zero_le _, rfl, rfl, rfl, Lib.hid (Flow.grow_refl _), Lib.hid rfl⟩
  case round =>
    obtain ⟨k, acc, hk, hk5, rfl, rfl, hacc, HG, HR⟩ := hrel
    rename World => wr
    by_cases hlt : k < s.size
    · have hd : decide ((k : Int) < (s.size : Int)) = true := by simp; omega
      have hd' : decide (k < s.size) = true := by simp; omega
      by_cases h5 : k < 5
      · have he : decide ((k : Int) < 5) = true := by simp; omega
        have HE : Hid (Xm.nmB 5 s 0 ⟨#[110]⟩ = Xm.nmB 5 s (k + 1) (acc ++ ⟨#[Xm.nmC s[k]]⟩)) := Lib.hid (by rw [HR.out, Xm.nmB, dif_pos ⟨hlt, h5⟩])
        have hB := Bytes.of_own (World.ownsRow_lit (base := 0) (e := 5) wr #[u8v (Xm.nmC s[k])] 1 (Nat.zero_le _) (by decide) rfl) (by simp : ([Xm.nmC s[k]]).length ≤ 140737488351232)
        have Hw := run_str (P := Tryz.prog) hB 42 9 5 Tryz.underlying42 Tryz.underlying5 Tryz.underlying9
        have hi : 0 ≤ ((s[k].toNat : Nat) : Int) % 8 ∧ ((s[k].toNat : Nat) : Int) % 8 < 8 := by omega
        have hX1 : (str [Xm.nmC s[k]]).size = 1 := rfl
        unfold u8v Xm.nmC Xm.nmT at Hw
        obtain ⟨X, hX⟩ : ∃ X, X = str [Xm.nmC s[k]] := ⟨_, rfl⟩
        have hX' : X = str [(⟨#[97, 98, 90, 95, 48, 45, 46, 57]⟩ : ByteArray)[s[k].toNat % 8]'(Nat.mod_lt _ (by decide))] := hX
        rw [← hX'] at Hw
        rw [← hX] at hX1
        have HX := Lib.hid hX
        have hl : ¬ 9223372036854775807 < acc.size + X.size := by omega
        clear hX hX' hB
        go_wp2
        have G2 := Lib.hid (HG.out.trans (Flow.grow_alloc wr (.cells #[.int .u8 ((Xm.nmC s[k]).toNat : Int)] 5)))
        go_roundw
        case rel => exact ⟨k + 1, acc ++ X, by omega, by omega, by first | rfl | go_num, rfl, by rw [ByteArray.size_append, hX1, hacc], G2, Lib.hid (by rw [HE.out, HX.out]; rfl)⟩
        case measure => simp only [intOf]; omega
      · have he : decide ((k : Int) < 5) = false := by simp; omega
        have HE : Hid (Xm.nmB 5 s 0 ⟨#[110]⟩ = acc) := Lib.hid (by rw [HR.out, Xm.nmB, dif_neg (by omega)])
        go_wp2
        go_ret
        exact ⟨ret_str HE.out.symm, HG.out⟩
    · have hd : decide ((k : Int) < (s.size : Int)) = false := by simp; omega
      have hd' : decide (k < s.size) = false := by simp; omega
      have HE : Hid (Xm.nmB 5 s 0 ⟨#[110]⟩ = acc) := Lib.hid (by rw [HR.out, Xm.nmB, dif_neg (by omega)])
      go_wp2
      go_ret
      exact ⟨ret_str HE.out.symm, HG.out⟩
end Go.Proofs.YtdpkhmfolmcejaaGreatDoor
namespace Go.Proofs.YtdpkhmfolmcejaaGreatDoor
open Go.RowKit
theorem bt_of {s : ByteArray} {k : Nat} (h : k < s.size) : ((s[k].toNat : Nat) : Int) = Xm.bt s k := Xm.bt_eq h
namespace Xm
theorem skip_next {s : ByteArray} {k : Nat} (h : k < s.size) (hb : blank (bt s k) = true) : skip s k = skip s (k + 1) := by rw [skip, if_pos h, if_pos hb]
theorem skip_here {s : ByteArray} {k : Nat} (h : k < s.size → blank (bt s k) = false) : skip s k = k := by
  rw [skip]
  split
  · rename_i hk; rw [if_neg (by rw [h hk]; simp)]
  · rfl
theorem blank_no {c : Int} (h1 : ¬ c = 32) (h2 : ¬ c = 9) (h3 : ¬ c = 10) (h4 : ¬ c = 13) : blank c = false := by simp [blank, h1, h2, h3, h4]
end Xm
set_option maxRecDepth 100000 in
set_option maxHeartbeats 4000000 in
theorem rtrim_any (s : ByteArray) (w : World) (hs : s.size ≤ 1000000000) : Calls Tryz.prog 14 #[.string s] w fun e w' => e = .returned (.string (Xm.trim s)) ∧ w = w' := by
  go_enter Tryz.func14, Tryz.ntmps14
  go_wp2
  go_loop [3] (fun v3 => ∃ a : Nat, a ≤ s.size ∧ v3 = .int .i64 (a : Int) ∧ Hid (Xm.skip s 0 = Xm.skip s a)) (fun v => s.size - (intOf v).toNat)
  case atStart => exact ⟨0, Nat.zero_le _, rfl, Lib.hid rfl⟩
  case round =>
    obtain ⟨a, ha, rfl, HA⟩ := hrel
    by_cases hlt : a < s.size
    rotate_left
    · have hd : decide ((a : Int) < (s.size : Int)) = false := by simp; omega
      have hd' : decide (a < s.size) = false := by simp; omega
      have HS := Lib.hid (HA.out.trans (Xm.skip_here (fun h => absurd h hlt)))
      go_wp2
      go_loop [4] (fun v4 => ∃ b : Nat, b ≤ s.size ∧ v4 = .int .i64 (b : Int) ∧ a ≤ b ∧ Hid (Xm.back s a s.size = Xm.back s a b)) (fun v => (intOf v).toNat)
      case atStart => exact ⟨s.size, Nat.le_refl _, rfl, ha, Lib.hid rfl⟩
      case round =>
        obtain ⟨b, hb, rfl, hab, HB⟩ := hrel
        by_cases hgt : a < b
        rotate_left
        · obtain rfl : a = b := by omega
          have hg : decide ((a : Int) < (a : Int)) = false := by simp
          have hsl := run_cut s a a (Nat.le_refl _) hb (a : Int) (a : Int) rfl rfl
          have HE : Hid (Xm.trim s = ByteArray.empty) := Lib.hid (by rw [Xm.trim, HS.out, HB.out, Xm.back_stop (Nat.le_refl _), Xm.cut]; simp)
          go_wp2
          go_ret
          exact ⟨ret_str HE.out.symm, rfl⟩
        exfalso; omega
    have hd : decide ((a : Int) < (s.size : Int)) = true := by simp; omega
    have hd' : decide (a < s.size) = true := by simp; omega
    have hbt := bt_of hlt
    by_cases h32 : Xm.bt s a = 32
    · have HE : Hid (Xm.skip s 0 = Xm.skip s (a + 1)) := Lib.hid (HA.out.trans (Xm.skip_next hlt (by rw [h32]; rfl)))
      go_wp2
      go_round
      case rel => exact ⟨a + 1, by omega, by first | rfl | go_num, HE⟩
      case measure => simp only [intOf]; omega
    by_cases h9 : Xm.bt s a = 9
    · have HE : Hid (Xm.skip s 0 = Xm.skip s (a + 1)) := Lib.hid (HA.out.trans (Xm.skip_next hlt (by rw [h9]; rfl)))
      go_wp2
      go_round
      case rel => exact ⟨a + 1, by omega, by first | rfl | go_num, HE⟩
      case measure => simp only [intOf]; omega
    by_cases h10 : Xm.bt s a = 10
    · have HE : Hid (Xm.skip s 0 = Xm.skip s (a + 1)) := Lib.hid (HA.out.trans (Xm.skip_next hlt (by rw [h10]; rfl)))
      go_wp2
      go_round
      case rel => exact ⟨a + 1, by omega, by first | rfl | go_num, HE⟩
      case measure => simp only [intOf]; omega
    by_cases h13 : Xm.bt s a = 13
    · have HE : Hid (Xm.skip s 0 = Xm.skip s (a + 1)) := Lib.hid (HA.out.trans (Xm.skip_next hlt (by rw [h13]; rfl)))
      go_wp2
      go_round
      case rel => exact ⟨a + 1, by omega, by first | rfl | go_num, HE⟩
      case measure => simp only [intOf]; omega
    have j32 : (Xm.bt s a == 32) = false := by simpa using h32
    have j9 : (Xm.bt s a == 9) = false := by simpa using h9
    have j10 : (Xm.bt s a == 10) = false := by simpa using h10
    have j13 : (Xm.bt s a == 13) = false := by simpa using h13
    have HS := Lib.hid (HA.out.trans (Xm.skip_here (fun _ => Xm.blank_no h32 h9 h10 h13)))
    go_wp2
    go_loop [4] (fun v4 => ∃ b : Nat, b ≤ s.size ∧ v4 = .int .i64 (b : Int) ∧ a ≤ b ∧ Hid (Xm.back s a s.size = Xm.back s a b)) (fun v => (intOf v).toNat)
    case atStart => exact ⟨s.size, Nat.le_refl _, rfl, ha, Lib.hid rfl⟩
    case round =>
      obtain ⟨b, hb, rfl, hab, HB⟩ := hrel
      by_cases hgt : a < b
      rotate_left
      · obtain rfl : a = b := by omega
        have hg : decide ((a : Int) < (a : Int)) = false := by simp
        have hsl := run_cut s a a (Nat.le_refl _) hb (a : Int) (a : Int) rfl rfl
        have HE : Hid (Xm.trim s = ByteArray.empty) := Lib.hid (by rw [Xm.trim, HS.out, HB.out, Xm.back_stop (Nat.le_refl _), Xm.cut]; simp)
        go_wp2
        go_ret
        exact ⟨ret_str HE.out.symm, rfl⟩
      obtain ⟨c, rfl⟩ : ∃ c, b = c + 1 := ⟨b - 1, by omega⟩
      have hc : c < s.size := by omega
      have hcd : decide ((c : Int) < (s.size : Int)) = true := by simp; omega
      have hcd' : decide (c < s.size) = true := by simp; omega
      have hg : decide ((a : Int) < ((c + 1 : Nat) : Int)) = true := by simp; omega
      have hg2 : (a : Int) < (c : Int) + 1 := by omega
      have hcb := bt_of hc
      by_cases g32 : Xm.bt s c = 32
      · have HE : Hid (Xm.back s a s.size = Xm.back s a c) := Lib.hid (by rw [HB.out, Xm.back, if_pos ⟨by omega, by rw [g32]; rfl⟩])
        go_wp2
        go_round
        case rel => exact ⟨c, by omega, by first | rfl | go_num, by omega, HE⟩
        case measure => first | (simp only [intOf]; omega) | simp [intOf]
      by_cases g9 : Xm.bt s c = 9
      · have HE : Hid (Xm.back s a s.size = Xm.back s a c) := Lib.hid (by rw [HB.out, Xm.back, if_pos ⟨by omega, by rw [g9]; rfl⟩])
        go_wp2
        go_round
        case rel => exact ⟨c, by omega, by first | rfl | go_num, by omega, HE⟩
        case measure => first | (simp only [intOf]; omega) | simp [intOf]
      by_cases g10 : Xm.bt s c = 10
      · have HE : Hid (Xm.back s a s.size = Xm.back s a c) := Lib.hid (by rw [HB.out, Xm.back, if_pos ⟨by omega, by rw [g10]; rfl⟩])
        go_wp2
        go_round
        case rel => exact ⟨c, by omega, by first | rfl | go_num, by omega, HE⟩
        case measure => first | (simp only [intOf]; omega) | simp [intOf]
      by_cases g13 : Xm.bt s c = 13
      · have HE : Hid (Xm.back s a s.size = Xm.back s a c) := Lib.hid (by rw [HB.out, Xm.back, if_pos ⟨by omega, by rw [g13]; rfl⟩])
        go_wp2
        go_round
        case rel => exact ⟨c, by omega, by first | rfl | go_num, by omega, HE⟩
        case measure => first | (simp only [intOf]; omega) | simp [intOf]
      have k32 : (Xm.bt s c == 32) = false := by simpa using g32
      have k9 : (Xm.bt s c == 9) = false := by simpa using g9
      have k10 : (Xm.bt s c == 10) = false := by simpa using g10
      have k13 : (Xm.bt s c == 13) = false := by simpa using g13
      have HE : Hid (Xm.trim s = s.extract a (c + 1)) := Lib.hid (by rw [Xm.trim, HS.out, HB.out, Xm.back, if_neg (by rw [Xm.blank_no g32 g9 g10 g13]; simp)]; rfl)
      have hsl := run_cut s a (c + 1) (by omega) hb (a : Int) ((c : Int) + 1) rfl (by omega)
      go_wp2
      go_ret
      exact ⟨ret_str HE.out.symm, rfl⟩
end Go.Proofs.YtdpkhmfolmcejaaGreatDoor
