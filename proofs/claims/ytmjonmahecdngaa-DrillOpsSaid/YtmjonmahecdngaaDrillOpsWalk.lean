/- galliardlaw49.DrillOps returns true, if its awake does: the walk. -/
import Derived.Test.YtmjonmahecdngaaDiceOps
import Derived.Test.YtmjonmahecdngaaBits
namespace Go.Proofs.Ytmjonmahecdngaa
open Go.RowKit
set_option maxRecDepth 100000 in
set_option maxHeartbeats 1000000 in
theorem new_any (s : Int) (h0 : 0 ≤ s) (h1 : s < 18446744073709551616) (w : World) :
    Calls Try.prog 7 #[.int .u64 s] w fun e w' => ∃ g, e = .returned (.pointer (some ⟨g, 0, none⟩)) ∧ w.heap.size ≤ g ∧ Dice.At g w' ∧ Flow.Grow w w' := by
  go_enter Try.func7, Try.ntmps7
  go_wp2_with fail
  go_ret
  exact ⟨_, rfl, Nat.le_refl _, ⟨s, _, heap_alloc_new _ _, h0, h1⟩, Flow.grow_alloc _ _⟩
theorem grow_of_rel {g : Nat} {w w1 w2 : World} (h : Flow.Grow w w1) (hg : w.heap.size ≤ g) (k : Dice.Rel g w1 w2) : Flow.Grow w w2 :=
  ⟨k.1.os.trans h.os, k.1.tape.trans h.tape, k.1.output.trans h.output, Nat.le_trans h.size k.1.size, fun i hi hne => (k.1.block i (Nat.lt_of_lt_of_le hi h.size) (by simp; omega)).trans (h.block i hi hne)⟩
theorem DOps.flat_len (l : List (Int × Int × Int × Int)) : (DOps.flat l).length = l.length * 4 := by
  induction l with
  | nil => rfl
  | cons x l ih =>
    have : (DOps.flat (x :: l)) = DOps.cells x ++ DOps.flat l := rfl
    rw [this, List.length_append, ih]
    simp [DOps.cells]
    omega
theorem DOps.flat_get : ∀ (l : List (Int × Int × Int × Int)) (i : Nat) (x : Int × Int × Int × Int), l[i]? = some x → ∀ j, j < 4 → (DOps.flat l)[i * 4 + j]? = (DOps.cells x)[j]?
  | [], i, x, h, j, hj => by simp at h
  | y :: l, 0, x, h, j, hj => by
    simp at h; subst h
    have : (DOps.flat (y :: l)) = DOps.cells y ++ DOps.flat l := rfl
    rw [this, Nat.zero_mul, Nat.zero_add, List.getElem?_append_left (by simp [DOps.cells]; omega)]
  | y :: l, i + 1, x, h, j, hj => by
    have e : (DOps.flat (y :: l)) = DOps.cells y ++ DOps.flat l := rfl
    have hl : (DOps.cells y).length = 4 := rfl
    rw [e, List.getElem?_append_right (by rw [hl]; omega), hl, show (i + 1) * 4 + j - 4 = i * 4 + j by omega]
    exact flat_get l i x (by simpa using h) j hj
set_option maxRecDepth 100000 in
set_option maxHeartbeats 4000000 in
theorem drillOps_walk (s parts many : Int) (h0 : 0 ≤ s) (h1 : s < 18446744073709551616) (hA : ∀ w, Calls Try.prog 9 #[] w fun e w' => e = .returned (.bool true) ∧ Flow.Grow w w') (w : World) :
    Calls Try.prog 3 #[.int .u64 s, .int .i64 parts, .int .i64 many] w fun e w' => e = .returned (.bool true) ∧ Flow.Grow w w' := by
  have HW := Lib.hid hA
  clear hA
  go_enter Try.func3, Try.ntmps3
  go_wp2_with fail
  refine (new_any s h0 h1 w).mono ?_
  rintro e w1 ⟨g, rfl, hg, hat, hgr⟩
  go_wp2_with fail
  obtain ⟨q, hq⟩ : ∃ q, q = wrap64 (bits .and .i64 parts 7 + 1) := ⟨_, rfl⟩
  have hq1 : 1 ≤ q ∧ q ≤ 8 := by
    rw [hq, Bits.i64_mask parts 3 (by omega) 7 (by decide)]
    unfold wrap64
    omega
  rw [← hq]
  have Hq := Lib.hid hq
  clear hq
  refine (ops_any g q many hq1.1 hq1.2 w1 hat).mono ?_
  rintro e w2 ⟨v, l, rfl, hlen, hok, hown, hfr, hrel⟩
  have hgr2 : Hid (Flow.Grow w w2) := Lib.hid (grow_of_rel hgr hg hrel)
  obtain ⟨n, hn⟩ : ∃ n, n = l.length := ⟨_, rfl⟩
  have hcount : (many < 0 ∧ n = 0) ∨ (0 ≤ many ∧ many ≤ 500 ∧ (n : Int) = many) ∨ (500 < many ∧ n = 500) := by
    rw [hn, hlen]; unfold DOps.count; omega
  obtain ⟨ao, cap, hv, Hcell⟩ : ∃ ao cap, v = .slice ao n cap ∧ Hid (∀ i, i < n → ∃ gg, ao = some ⟨gg, 0, none⟩ ∧ ∃ x : Int × Int × Int × Int, DOps.Ok q x ∧ w2.cell? ⟨gg, i * 4, none⟩ = some (.int .i64 x.1) ∧ w2.cell? ⟨gg, i * 4 + 1, none⟩ = some (.int .i64 x.2.1) ∧ w2.cell? ⟨gg, i * 4 + 2, none⟩ = some (.int .i64 x.2.2.1) ∧ w2.cell? ⟨gg, i * 4 + 3, none⟩ = some (.int .i64 x.2.2.2)) := by
    rw [← hn] at hown
    rcases hown.2 with ⟨h1, h2⟩ | ⟨gg, cap, cur, h, _⟩
    · exact ⟨none, 0, by rw [h2]; congr 1, Lib.hid fun i hi => by omega⟩
    · refine ⟨some ⟨gg, 0, none⟩, cap, h, Lib.hid fun i hi => ⟨_, rfl, ?_⟩⟩
      have hx : ∃ x, l[i]? = some x := ⟨l[i]'(by omega), by simp⟩
      obtain ⟨x, hx⟩ := hx
      refine ⟨x, hok x (List.mem_of_getElem? hx), ?_⟩
      have hc := fun j (hj : j < 4) => hown.cells (g := gg) (by rw [h]; rfl) (i * 4 + j) ((DOps.cells x).getD j undef) (by rw [DOps.flat_get l i x hx j hj]; have : j < (DOps.cells x).length := hj; simp [List.getElem?_eq_getElem this])
      simp only [Addr.add_lit, Nat.zero_add] at hc
      exact ⟨hc 0 (by omega), hc 1 (by omega), hc 2 (by omega), hc 3 (by omega)⟩
  clear hown hfr hok hlen
  have Hn := Lib.hid hn
  clear hn
  subst hv
  go_wp2_with fail
  go_loop [9] (fun i => ∃ k : Nat, k ≤ n ∧ i = .int .i64 k) (fun i => n - (intOf i).toNat)
  case atStart => exact ⟨0, by omega, rfl⟩
  case round =>
    obtain ⟨k, hk, rfl⟩ := hrel
    by_cases hlt : k < n
    · obtain ⟨gg, rfl, x, hx, c0, c1, c2, c3⟩ := Hcell.out k hlt
      obtain ⟨x1, x2, x3, x4⟩ := x
      have e1 := hx.k1
      have e2 := hx.k5
      have e3 := hx.p0
      have e4 := hx.pn
      have e5 := hx.a0
      have e6 := hx.c0
      simp only at e1 e2 e3 e4 e5 e6 c0 c1 c2 c3
      have t1 : decide (x1 < 1) = false := by simp; omega
      have t2 : decide (5 < x1) = false := by simp; omega
      have t3 : decide (x2 < 0) = false := by simp; omega
      have t4 : decide (q ≤ x2) = false := by simp; omega
      have t5 : decide (x3 < 0) = false := by simp; omega
      have t6 : decide (x4 < 0) = false := by simp; omega
      go_wp2_with fail
      go_round
      case rel => exact ⟨k + 1, by omega, by go_num⟩
      case measure => simp [intOf] <;> omega
    · go_wp2_with fail
      refine (HW.out w2).mono ?_
      rintro e w3 ⟨rfl, hg3⟩
      rcases hcount with ⟨z1, z2⟩ | ⟨z1, z2, z3⟩ | ⟨z1, z2⟩
      all_goals
        go_wp2_with fail
        go_ret
        refine ⟨?_, hgr2.out.trans hg3⟩
        first
          | rfl
          | (simp; omega)
end Go.Proofs.Ytmjonmahecdngaa
