/- math/bits.OnesCount64, TrailingZeros64; mark.Count, mark.List by their contracts. -/
import Derived.Test.YtjapakmpnkbemaaDoorPop
import Derived.Lib.LaidTab
namespace Go.Proofs.YtjapakmpnkbemaaDoor
open Go.RowKit

namespace Mark
theorem u64_sum (a b : Nat) (h : a + b < 18446744073709551616) : IntKind.u64.wrap ((a : Int) + (b : Int)) = ((a + b : Nat) : Int) := by
  rw [IntKind.wrap_u64]; omega
theorem and_le_mask (x m : Nat) : x &&& m ≤ m := Nat.and_le_right
theorem mask85 : mask 85 8 = 6148914691236517205 := by decide
theorem mask51 : mask 51 8 = 3689348814741910323 := by decide
theorem mask15 : mask 15 8 = 1085102592571150095 := by decide
theorem X1_lt (x : Nat) : X1 8 x < 18446744073709551616 := by
  have h1 := and_le_mask (x / 2) (mask 85 8)
  have h2 := and_le_mask x (mask 85 8)
  unfold X1
  rw [mask85] at *
  omega
theorem X2_lt (x : Nat) : X2 8 x ≤ 7378697629483820646 := by
  have h1 := and_le_mask (x / 4) (mask 51 8)
  have h2 := and_le_mask x (mask 51 8)
  unfold X2
  rw [mask51] at *
  omega
theorem X3_lt (x : Nat) : X3 8 x ≤ 1085102592571150095 := by
  have h1 := and_le_mask (x / 16 + x) (mask 15 8)
  unfold X3
  rw [mask15] at *
  omega
theorem step1 (x : Nat) (hx : x < 18446744073709551616) : IntKind.u64.wrap (bits .and .u64 ((x : Int) / 2) 6148914691236517205 + bits .and .u64 (x : Int) 6148914691236517205) = ((X1 8 x : Nat) : Int) := by
  have h := X1_lt x
  have e1 := bits_and_u64_nat (x / 2) 6148914691236517205 (by omega) (by omega)
  have e2 := bits_and_u64_nat x 6148914691236517205 (by omega) (by omega)
  rw [show ((x : Int) / 2) = ((x / 2 : Nat) : Int) by omega, show (6148914691236517205 : Int) = ((6148914691236517205 : Nat) : Int) by rfl, e1, e2]
  unfold X1 at *
  rw [mask85] at *
  exact u64_sum _ _ h
theorem step2 (x : Nat) (hx : x < 18446744073709551616) : IntKind.u64.wrap (bits .and .u64 ((x : Int) / 4) 3689348814741910323 + bits .and .u64 (x : Int) 3689348814741910323) = ((X2 8 x : Nat) : Int) := by
  have h := X2_lt x
  have e1 := bits_and_u64_nat (x / 4) 3689348814741910323 (by omega) (by omega)
  have e2 := bits_and_u64_nat x 3689348814741910323 (by omega) (by omega)
  rw [show ((x : Int) / 4) = ((x / 4 : Nat) : Int) by omega, show (3689348814741910323 : Int) = ((3689348814741910323 : Nat) : Int) by rfl, e1, e2]
  unfold X2 at *
  rw [mask51] at *
  exact u64_sum _ _ (by omega)
theorem step3 (x : Nat) (hx : x ≤ 7378697629483820646) : bits .and .u64 (IntKind.u64.wrap ((x : Int) / 16 + (x : Int))) 1085102592571150095 = ((X3 8 x : Nat) : Int) := by
  have e1 := bits_and_u64_nat (x / 16 + x) 1085102592571150095 (by omega) (by omega)
  rw [show ((x : Int) / 16) = ((x / 16 : Nat) : Int) by omega, u64_sum _ _ (by omega), show (1085102592571150095 : Int) = ((1085102592571150095 : Nat) : Int) by rfl, e1]
  unfold X3
  rw [mask15]
theorem step4 (x : Nat) (hx : x ≤ 1085102592571150095) : IntKind.u64.wrap ((x : Int) + (x : Int) / 256) = ((x + x / 256 : Nat) : Int) := by
  rw [show ((x : Int) / 256) = ((x / 256 : Nat) : Int) by omega, u64_sum _ _ (by omega)]
theorem step5 (x : Nat) (hx : x ≤ 1300000000000000000) : IntKind.u64.wrap ((x : Int) + (x : Int) / 65536) = ((x + x / 65536 : Nat) : Int) := by
  rw [show ((x : Int) / 65536) = ((x / 65536 : Nat) : Int) by omega, u64_sum _ _ (by omega)]
theorem step6 (x : Nat) (hx : x ≤ 1400000000000000000) : IntKind.u64.wrap ((x : Int) + (x : Int) / 4294967296) = ((x + x / 4294967296 : Nat) : Int) := by
  rw [show ((x : Int) / 4294967296) = ((x / 4294967296 : Nat) : Int) by omega, u64_sum _ _ (by omega)]
end Mark

set_option maxRecDepth 100000 in
set_option maxHeartbeats 400000 in
theorem ones_any (x : Nat) (hx : x < 18446744073709551616) (w : World) : Calls Tryd.prog 14 #[.int .u64 (x : Int)] w fun e w' => e = .returned (.int .i64 (Mark.pop 64 x : Int)) ∧ w = w' := by
  have h1 := Mark.step1 x hx
  have h2 := Mark.step2 (Mark.X1 8 x) (Mark.X1_lt x)
  have h3 := Mark.step3 _ (Mark.X2_lt (Mark.X1 8 x))
  have h4 := Mark.step4 _ (Mark.X3_lt (Mark.X2 8 (Mark.X1 8 x)))
  have hb := Mark.X3_lt (Mark.X2 8 (Mark.X1 8 x))
  have E : Hid (Mark.fold (Mark.X3 8 (Mark.X2 8 (Mark.X1 8 x))) = Mark.pop 64 x) := Lib.hid (by
    have h := Mark.fold_bytes x
    rwa [← Mark.X3_all] at h)
  generalize Mark.X1 8 x = x1 at *
  generalize Mark.X2 8 x1 = x2 at *
  generalize Mark.X3 8 x2 = x3 at *
  have h5 := Mark.step5 (x3 + x3 / 256) (by omega)
  have hb4 : x3 + x3 / 256 ≤ 1300000000000000000 := by omega
  have E1 : Hid (_ = _) := Lib.hid (show Mark.fold x3 = ((x3 + x3 / 256) + (x3 + x3 / 256) / 65536 + ((x3 + x3 / 256) + (x3 + x3 / 256) / 65536) / 4294967296) % 128 by rfl)
  generalize x3 + x3 / 256 = x4 at *
  have h6 := Mark.step6 (x4 + x4 / 65536) (by omega)
  have hb5 : x4 + x4 / 65536 ≤ 1400000000000000000 := by omega
  generalize x4 + x4 / 65536 = x5 at *
  have hb6 : x5 + x5 / 4294967296 < 9223372036854775808 := by omega
  generalize x5 + x5 / 4294967296 = x6 at *
  have h7 : bits .and .i64 (x6 : Int) 127 = ((x6 % 128 : Nat) : Int) := by
    rw [Bits.i64_mask _ 7 (by omega) _ (by decide)]; omega
  clear hx hb hb4 hb5
  go_enter Tryd.func14, Tryd.ntmps14
  go_wp2_with (simp only [h1, h2, h3, h4, h5, h6, h7])
  go_ret
  refine ⟨?_, rfl⟩
  rw [← E.out, E1.out, Int.natCast_emod]
  rfl

set_option maxRecDepth 100000 in
set_option maxHeartbeats 400000 in
theorem count_any (x : Nat) (hx : x < 18446744073709551616) (w : World) : Calls Tryd.prog 7 #[.int .u64 (x : Int)] w fun e w' => e = .returned (.int .i64 (Mark.pop 64 x : Int)) ∧ w = w' := by
  go_enter Tryd.func7, Tryd.ntmps7
  go_wp2_with (go_at_call 14; refine (ones_any x hx _).mono ?_; rintro e w' ⟨rfl, rfl⟩)
  go_ret
  exact ⟨rfl, rfl⟩

/-- the library's table lies where the program has it -/
def Tab64 (w : World) : Prop := ∀ j, j < Lib.deBruijn64tab.length → w.cell? ⟨0, j, none⟩ = some (.int .u8 (Lib.deBruijn64tab.getD j 0))
theorem Tab64.grow {w w' : World} (h : Tab64 w) (h0 : 0 < w.heap.size) (g : Flow.Grow w w') : Tab64 w' := fun j hj => (World.cell?_of_block (g.block 0 h0 (by simp))).trans (h j hj)

theorem tz64_key (x a : Nat) (hx : x < 18446744073709551616) (hx0 : x ≠ 0) (hlow : x &&& (18446744073709551616 - x) = a) :
    IntKind.u64.wrap (bits BinOp.and IntKind.u64 (x : Int) (IntKind.u64.wrap (-(x : Int))) * 285870213051353865) / 288230376151711744 = ((a * 285870213051353865 % 18446744073709551616 / 288230376151711744 : Nat) : Int) := by
  have e1 : IntKind.u64.wrap (-(x : Int)) = ((18446744073709551616 - x : Nat) : Int) := by rw [IntKind.wrap_u64]; omega
  rw [e1, bits_and_u64_nat x _ hx (by omega), hlow, IntKind.wrap_u64]
  omega
set_option maxRecDepth 100000 in
set_option maxHeartbeats 1000000 in
theorem tz64_core (x k idx : Nat) (w : World) (hx0 : ((x : Int) == 0) = false)
    (key : IntKind.u64.wrap (bits BinOp.and IntKind.u64 (x : Int) (IntKind.u64.wrap (-(x : Int))) * 285870213051353865) / 288230376151711744 = (idx : Int))
    (hi : idx < 64) (hk : k < 64) (hcell : w.cell? ⟨0, idx, none⟩ = some (.int .u8 k)) :
    Calls Tryd.prog 11 #[.int .u64 (x : Int)] w fun e w' => e = .returned (.int .i64 (k : Int)) ∧ w = w' := by
  go_enter Tryd.func11, Tryd.ntmps11
  go_wp2_with (simp only [key])
  go_ret
  exact ⟨rfl, rfl⟩
theorem tz_any (x : Nat) (hx : x < 18446744073709551616) (h0 : x ≠ 0) (w : World) (hT : Tab64 w) :
    Calls Tryd.prog 11 #[.int .u64 (x : Int)] w fun e w' => e = .returned (.int .i64 (Lib.ctz 64 x : Int)) ∧ w = w' := by
  obtain ⟨hlow, hk⟩ := Lib.lowest_bit 64 x h0 hx
  obtain ⟨hi, htab⟩ := Lib.deBruijn64_at _ hk
  have hcell := hT _ hi
  rw [htab] at hcell
  exact tz64_core x _ _ w (by simp; omega) (tz64_key x _ hx h0 hlow) hi hk hcell

theorem info_int : (Tryd.prog.info? 3).map (fun i => (i.zero, i.size, i.bytes)) = some (some (.int .i64 0), 1, 8) := by kernel_rfl

/-- one element behind a slice of the call's own -/
theorem own_step {w wr w1 : World} {b v' : Value} {o : Obj} {n : Nat} (h : Flow.Grow w wr) (hb : b = .slice none 0 0 ∨ Fresh w b) (k : (wr.alloc o).grownBy w1 b.ownBlock) (mv : Moved (wr.alloc o) b v')
    (hF : Full b n → (wr.alloc o).grownBy w1 none ∧ Fresh (wr.alloc o) v') : Flow.Grow w w1 ∧ (v' = .slice none 0 0 ∨ Fresh w v') := by
  have ha : Flow.Grow w (wr.alloc o) := h.trans (Flow.grow_alloc _ _)
  rcases hb with hb | hb
  · obtain ⟨h1, g, h2, h3⟩ := hF (.inl hb)
    exact ⟨ha.trans h1, .inr ⟨g, h2, Nat.le_trans ha.size h3⟩⟩
  · refine ⟨grow_fresh ha hb k, .inr ?_⟩
    rcases mv with e | ⟨g, h2, h3⟩
    · obtain ⟨g, hg', hs⟩ := hb
      exact ⟨g, e.trans hg', hs⟩
    · exact ⟨g, h2, Nat.le_trans ha.size h3⟩

set_option maxRecDepth 100000 in
set_option maxHeartbeats 400000 in
theorem list_any (x : Nat) (hx : x < 18446744073709551616) (w : World) (hT : Tab64 w) (h0 : 0 < w.heap.size) : Calls Tryd.prog 5 #[.int .u64 (x : Int)] w fun e w' =>
    ∃ v', e = .returned v' ∧ (w'.ownsRow 0 3 1 v' (Mark.posL 64 0 x).length ((Mark.posL 64 0 x).map (Value.int .i64)) ∧ (v' = .slice none 0 0 ∨ Fresh w v')) ∧ Flow.Grow w w' := by
  obtain ⟨i0, hi, hz0, hz1, hz2⟩ := info_parts info_int
  have HT := Lib.hid hT
  clear hT
  go_enter Tryd.func5, Tryd.ntmps5
  go_wp2_with fail
  go_loopw [0, 3] (fun m b wr => ∃ (y : Nat) (done : List Int), m = .int .u64 (y : Int) ∧ y ≤ x ∧ Hid (Mark.posL 64 0 x = done ++ Mark.posL 64 0 y) ∧ wr.ownsRow 0 3 1 b done.length (done.map (Value.int .i64)) ∧ Hid (Flow.Grow w wr ∧ (b = .slice none 0 0 ∨ Fresh w b))) (fun m _ _ => (intOf m).toNat)
  case atStart => exact ⟨x, [], rfl, Nat.le_refl _, Lib.hid rfl, World.ownsRow_nil _ _ _ _, Lib.hid ⟨Flow.grow_refl _, .inl rfl⟩⟩
  case round =>
    obtain ⟨y, done, rfl, hy, Heq, hown, HG⟩ := hrel
    have Hlen : Hid (done.length ≤ 64) := Lib.hid (by
      have h := Mark.posL_len 64 0 x
      have h2 := Mark.pop_le 64 x
      rw [Heq.out, List.length_append] at h
      omega)
    have hdl := Hlen.out
    by_cases hy0 : y = 0
    · subst hy0
      go_wp2_with fail
      go_ret
      have e := Heq.out
      rw [Mark.posL_zero, List.append_nil] at e
      exact ⟨_, rfl, ⟨by rw [e]; exact hown, HG.out.2⟩, HG.out.1⟩
    · have hn : ((y : Int) != 0) = true := by simp; omega
      have Htz : Hid (∀ w', Tab64 w' → Calls Tryd.prog 11 #[.int .u64 (y : Int)] w' fun e w'' => e = .returned (.int .i64 (Lib.ctz 64 y : Int)) ∧ w' = w'') := Lib.hid fun w' h => tz_any y (by omega) hy0 w' h
      have HT' : Hid (Tab64 wr) := Lib.hid (HT.out.grow h0 HG.out.1)
      have Hn : Hid (_ = _) := Lib.hid (Mark.posL_next hy0 (by omega))
      have hle : y &&& (y - 1) ≤ y - 1 := Nat.and_le_right
      have hand := bits_and_u64_nat y (y - 1) (by omega) (by omega)
      have hsub : IntKind.u64.wrap ((y : Int) - 1) = ((y - 1 : Nat) : Int) := by rw [IntKind.wrap_u64]; omega
      generalize Lib.ctz 64 y = c at *
      generalize y &&& (y - 1) = y' at *
      go_wp2_with (first | (go_at_call 11; refine (Htz.out _ HT'.out).mono ?_; rintro e w' ⟨rfl, rfl⟩) | (at_builtin; refine wpList_append_base _ rfl _ _ 23 rfl 3 i0 (.int .i64 0) 1 8 Tryd.underlying23 hi hz0 hz1 hz2 rfl (by decide) _ _ _ rfl (.inl (hown.alloc _)) ⟨_, 0, none⟩ 1 1 (by decide) [_] rfl rfl one_new ?c1 ?c2 ?c3 ?_))
      case c1 => intro u hu; simp at hu; subst hu; rfl
      case c2 => unfold maxLen; omega
      case c3 => omega
      intro v' w1 hown2 hg2 hm2 hf2
      have HG' : Hid (_ ∧ _) := Lib.hid (own_step HG.out.1 HG.out.2 hg2 hm2 hf2)
      clear hown HG hg2 hm2 hf2
      go_wp2_with (simp only [hsub, hand])
      go_roundw
      case rel =>
        refine ⟨y', done ++ [(c : Int)], rfl, by omega, Lib.hid ?_, by simpa using hown2, HG'⟩
        rw [Heq.out, Hn.out]; simp
      case measure => simp [intOf]; omega
end Go.Proofs.YtjapakmpnkbemaaDoor
