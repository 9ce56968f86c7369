/- alpha.id, alpha.Show by their contracts. -/
import Derived.Test.YtepianllbfnpoaaProg
import Derived.Test.YtepianllbfnpoaaMBase
import Derived.Outline
import Derived.BigQuiet
import Derived.Deep.DeepCutAuto
namespace Go.Proofs.Ytepianllbfnpoaa
open Go.RowKit

/-- a slice of texts that reads as a list -/
def Strs (w : World) (v : Value) (ss : List (List UInt8)) : Prop := Seg 1 w v ss.length (ss.map fun s => Value.string (str s))
theorem Strs.grow {w w' : World} {v : Value} {ss : List (List UInt8)} (h : Strs w v ss) (g : Flow.Grow w w') : Strs w' v ss := Seg.grow h g
theorem Strs.val {w : World} {v : Value} {ss : List (List UInt8)} (h : Strs w v ss) : ∃ a cap, v = .slice a ss.length cap := by
  obtain ⟨a, cap, hv, _⟩ := h
  exact ⟨a, cap, hv⟩
theorem Strs.at {w : World} {a : Option Addr} {n cap : Nat} {ss : List (List UInt8)} (h : Strs w (.slice a n cap) ss) {k : Nat} (hk : k < ss.length) :
    ∃ b off, a = some ⟨b, off, none⟩ ∧ b < w.heap.size ∧ w.cell? ⟨b, off + k, none⟩ = some (.string (str (ss.getD k []))) := by
  obtain ⟨a', cap', e, _, _, hc⟩ := h
  cases e
  obtain ⟨b, off, h1, h2, h3⟩ := hc k (by simpa using hk)
  exact ⟨b, off, h1, h2, by rw [h3]; simp [hk]⟩

namespace Alpha
/-- a name, or a question mark -/
def id (ss : List (List UInt8)) (i : Int) : List UInt8 := if 0 ≤ i ∧ i < ss.length then ss.getD i.toNat [] else [63]
def show3 (ps ms : List (List UInt8)) (f t m : Int) : List UInt8 := id ps f ++ [62] ++ id ps t ++ [58] ++ id ms m
theorem id_in {ss : List (List UInt8)} {k : Nat} (h : k < ss.length) : id ss (k : Int) = ss.getD k [] := by
  rw [id, if_pos (by omega), Int.toNat_natCast]
theorem id_out {ss : List (List UInt8)} {i : Int} (h : ¬ (0 ≤ i ∧ i < ss.length)) : id ss i = [63] := if_neg h
end Alpha
theorem ret_str {a b : List UInt8} (h : a = b) : Ending.returned (.string (str a)) = .returned (.string (str b)) := by rw [h]

set_option maxRecDepth 100000 in
set_option maxHeartbeats 400000 in
theorem id_any (v : Value) (ss : List (List UInt8)) (i : Int) (w : World) (h : Strs w v ss) :
    Calls Try.prog 40 #[v, .int .i64 i] w fun e w' => e = .returned (.string (str (Alpha.id ss i))) ∧ w = w' := by
  obtain ⟨a, cap, rfl⟩ := h.val
  obtain ⟨n, hn⟩ : ∃ n, n = ss.length := ⟨_, rfl⟩
  by_cases hin : 0 ≤ i ∧ i < ss.length
  · obtain ⟨k, rfl⟩ := Int.eq_ofNat_of_zero_le hin.1
    have hk : k < ss.length := by omega
    obtain ⟨b, off, rfl, _, hcell⟩ := h.at hk
    have H : Hid (_ = _) := Lib.hid (Alpha.id_in hk)
    rw [← hn] at hk ⊢
    have h1 : decide ((k : Int) < 0) = false := by simp
    have h2 : decide ((k : Int) ≥ (n : Int)) = false := by simp; omega
    clear h hin hn
    generalize ss.getD k [] = s at *
    go_enter Try.func40, Try.ntmps40
    go_wp2
    go_ret
    exact ⟨ret_str (by rw [H.out]), rfl⟩
  · have H : Hid (_ = _) := Lib.hid (Alpha.id_out hin)
    rw [← hn] at hin ⊢
    by_cases h0 : i < 0
    · have h1 : decide (i < 0) = true := by simp; omega
      clear h hin hn
      go_enter Try.func40, Try.ntmps40
      go_wp2
      go_ret
      exact ⟨by rw [H.out]; rfl, rfl⟩
    · have h1 : decide (i < 0) = false := by simp; omega
      have h2 : decide (i ≥ (n : Int)) = true := by simp; omega
      clear h hin hn h0
      go_enter Try.func40, Try.ntmps40
      go_wp2
      go_ret
      exact ⟨by rw [H.out]; rfl, rfl⟩

section
variable {P : Program}
theorem exec_load {o : Oper} {ρ : Operand → Value} {x : Operand} {w : World} {a : Addr} {v : Value} {t : TypeId} (ho : o.op = .load t x) (hx : ρ x = .pointer (some a)) (hagg : (isAgg t).run P w = .ok false w) (hc : w.cell? a = some v) :
    (execOp ρ o).run P w = .ok (.value v) w := by
  simp [execOp, ho, hx, Instr.loadAt, Instr.sureAddr, loadVar, hagg, hc, go_sem]
end

set_option maxRecDepth 100000 in
set_option maxHeartbeats 1000000 in
theorem show_any (vp vm vn ve : Value) (ps ms : List (List UInt8)) (f t m : Int) (W : World) (hp : Strs W vp ps) (hm : Strs W vm ms) (hl : (Alpha.show3 ps ms f t m).length ≤ 9223372036854775807) :
    Calls Try.prog 10 #[.agg #[vp, vm, vn, ve], .agg #[.int .i64 f, .int .i64 t, .int .i64 m]] W fun e w' => e = .returned (.string (str (Alpha.show3 ps ms f t m))) ∧ Flow.Grow W w' := by
  obtain ⟨W2, hW2⟩ : ∃ W2, W2 = (W.alloc (.cells #[vp, vm, vn, ve] 35)).alloc (.cells #[.int .i64 f, .int .i64 t, .int .i64 m] 40) := ⟨_, rfl⟩
  have hg2 : Flow.Grow W W2 := by rw [hW2]; exact (Flow.grow_alloc _ _).trans (Flow.grow_alloc _ _)
  have b1 : W2.heap[W.heap.size]? = some (.cells #[vp, vm, vn, ve] 35 (0, 0)) := by
    rw [hW2, Below.heap_alloc _ _ _ (by simp)]; exact heap_alloc_new _ _
  have b2 : W2.heap[W.heap.size + 1]? = some (.cells #[.int .i64 f, .int .i64 t, .int .i64 m] 40 (0, 0)) := by
    rw [hW2]; simpa using heap_alloc_new (W.alloc (.cells #[vp, vm, vn, ve] 35)) (.cells #[.int .i64 f, .int .i64 t, .int .i64 m] 40)
  have C1 : Hid (∀ w' j, Flow.Grow W2 w' → w'.cell? ⟨W.heap.size, j, none⟩ = (#[vp, vm, vn, ve] : Array Value)[j]?) := Lib.hid fun w' j h =>
    cell_of_row w' _ j _ _ _ ((h.block _ (Array.getElem?_eq_some_iff.1 b1).1 (by simp)).trans b1)
  have C2 : Hid (∀ w' j, Flow.Grow W2 w' → w'.cell? ⟨W.heap.size + 1, j, none⟩ = (#[.int .i64 f, .int .i64 t, .int .i64 m] : Array Value)[j]?) := Lib.hid fun w' j h =>
    cell_of_row w' _ j _ _ _ ((h.block _ (Array.getElem?_eq_some_iff.1 b2).1 (by simp)).trans b2)
  have HP : Hid (∀ w', Flow.Grow W2 w' → Strs w' vp ps) := Lib.hid fun w' h => hp.grow (hg2.trans h)
  have HM : Hid (∀ w', Flow.Grow W2 w' → Strs w' vm ms) := Lib.hid fun w' h => hm.grow (hg2.trans h)
  have HG := Lib.hid hg2
  obtain ⟨A, hA⟩ : ∃ A, A = Alpha.id ps f := ⟨_, rfl⟩
  obtain ⟨B, hB⟩ : ∃ B, B = Alpha.id ps t := ⟨_, rfl⟩
  obtain ⟨C, hC⟩ : ∃ C, C = Alpha.id ms m := ⟨_, rfl⟩
  have hR : Alpha.show3 ps ms f t m = A ++ [62] ++ B ++ [58] ++ C := by rw [hA, hB, hC]; rfl
  rw [hR] at hl ⊢
  have HA := Lib.hid hA
  have HB := Lib.hid hB
  have HC := Lib.hid hC
  have hs : A.length + B.length + C.length + 2 ≤ 9223372036854775807 := by simp at hl; omega
  have Hs := Lib.hid hs
  have HW2 := Lib.hid hW2
  clear hp hm hA hB hC hl hs hR b1 b2 hg2 hW2
  go_enter Try.func10, Try.ntmps10
  go_wp2_with fail
  rw [← HW2.out]
  refine Flow.region_grown (Fs := [.inl (.pointer (some ⟨W.heap.size, 0, none⟩)), .inl (vp), .inl (.pointer (some ⟨W.heap.size + 1, 0, none⟩)), .inl (.int .i64 f), .inl (.string (str A)), .inl (.string (str (A ++ [62]))), .inl (.pointer (some ⟨W.heap.size, 0, none⟩)), .inl (vp), .inl (.pointer (some ⟨W.heap.size + 1, 1, none⟩)), .inl (.int .i64 t), .inl (.string (str B)), .inl (.string (str (A ++ [62] ++ B))), .inl (.string (str (A ++ [62] ++ B ++ [58]))), .inl (.pointer (some ⟨W.heap.size, 1, none⟩)), .inl (vm), .inl (.pointer (some ⟨W.heap.size + 1, 2, none⟩)), .inl (.int .i64 m), .inl (.string (str C)), .inl (.string (str (A ++ [62] ++ B ++ [58] ++ C))), .inl (.string (str (A ++ [62] ++ B ++ [58] ++ C)))])
    (S := [[], [0], [], [2], [1, 3], [4], [], [6], [], [8], [7, 9], [5, 10], [11], [], [13], [], [15], [14, 16], [12, 17], [18]]) (by kernel_rfl) (by kernel_rfl) (by kernel_rfl) rfl ?stab1 ?ones1 ?ends1
  case ones1 =>
    refine Flow.Ones.cons ?_ ?_
    · intro a w hC hoff _
      have e2 : a.eval (.tmp 2) = .pointer (some ⟨W.heap.size, 0, none⟩) := hoff.at 2 (by kernel_rfl)
      refine .inl ⟨Flow.want_none rfl, ?_⟩
      refine Flow.run_same ?_ Flow.grow_refl
      have ec := Flow.eval_const a
      generalize a.eval = ρ at e2 ec ⊢
      simp [execOp, e2, go_sem]
    refine Flow.Ones.cons ?_ ?_
    · rintro a w hC hoff ⟨k0, -⟩
      have e5 : a.eval (.tmp 5) = .pointer (some ⟨W.heap.size, 0, none⟩) := k0 5 rfl
      refine .inl ⟨Flow.want_none rfl, ?_⟩
      exact Flow.run_same (exec_load rfl e5 (Try.isAgg31 _) (C1.out w 0 hC)) Flow.grow_refl
    refine Flow.Ones.cons ?_ ?_
    · intro a w hC hoff _
      have e3 : a.eval (.tmp 3) = .pointer (some ⟨W.heap.size + 1, 0, none⟩) := hoff.at 3 (by kernel_rfl)
      refine .inl ⟨Flow.want_none rfl, ?_⟩
      refine Flow.run_same ?_ Flow.grow_refl
      have ec := Flow.eval_const a
      generalize a.eval = ρ at e3 ec ⊢
      simp [execOp, e3, go_sem]
    refine Flow.Ones.cons ?_ ?_
    · rintro a w hC hoff ⟨k2, -⟩
      have e7 : a.eval (.tmp 7) = .pointer (some ⟨W.heap.size + 1, 0, none⟩) := k2 7 rfl
      refine .inl ⟨Flow.want_none rfl, ?_⟩
      exact Flow.run_same (exec_load rfl e7 (Try.isAgg3 _) (C2.out w 0 hC)) Flow.grow_refl
    refine Flow.Ones.cons ?_ ?_
    · rintro a w hC hoff ⟨k1, k3, -⟩
      have e6 : a.eval (.tmp 6) = vp := k1 6 rfl
      have e8 : a.eval (.tmp 8) = .int .i64 f := k3 8 rfl
      refine .inl ⟨Flow.want_none rfl, ?_⟩
      exact Flow.run_call (Flow.exec_call (args := #[(vp), (.int .i64 f)]) rfl Try.func40 (by kernel_rfl) (by kernel_rfl) (by simp only [List.map_toArray, List.map_cons, List.map_nil, e6, e8] <;> rfl)) ((id_any vp ps f w (HP.out w hC)).mono fun e w' ⟨he, hw⟩ => ⟨_, he, hw ▸ Flow.grow_refl _, by rw [HA.out]; rfl⟩)
    refine Flow.Ones.cons ?_ ?_
    · rintro a w hC hoff ⟨k4, -⟩
      have e9 : a.eval (.tmp 9) = .string (str A) := k4 9 rfl
      refine .inl ⟨Flow.want_none rfl, ?_⟩
      exact Flow.run_same (exec_add_str Try.underlying9 rfl e9 (b := [62]) rfl rfl (by have := Hs.out; simp; omega)) Flow.grow_refl
    refine Flow.Ones.cons ?_ ?_
    · intro a w hC hoff _
      have e2 : a.eval (.tmp 2) = .pointer (some ⟨W.heap.size, 0, none⟩) := hoff.at 2 (by kernel_rfl)
      refine .inl ⟨Flow.want_none rfl, ?_⟩
      refine Flow.run_same ?_ Flow.grow_refl
      have ec := Flow.eval_const a
      generalize a.eval = ρ at e2 ec ⊢
      simp [execOp, e2, go_sem]
    refine Flow.Ones.cons ?_ ?_
    · rintro a w hC hoff ⟨k6, -⟩
      have e11 : a.eval (.tmp 11) = .pointer (some ⟨W.heap.size, 0, none⟩) := k6 11 rfl
      refine .inl ⟨Flow.want_none rfl, ?_⟩
      exact Flow.run_same (exec_load rfl e11 (Try.isAgg31 _) (C1.out w 0 hC)) Flow.grow_refl
    refine Flow.Ones.cons ?_ ?_
    · intro a w hC hoff _
      have e3 : a.eval (.tmp 3) = .pointer (some ⟨W.heap.size + 1, 0, none⟩) := hoff.at 3 (by kernel_rfl)
      refine .inl ⟨Flow.want_none rfl, ?_⟩
      refine Flow.run_same ?_ Flow.grow_refl
      have ec := Flow.eval_const a
      generalize a.eval = ρ at e3 ec ⊢
      simp [execOp, e3, go_sem]
    refine Flow.Ones.cons ?_ ?_
    · rintro a w hC hoff ⟨k8, -⟩
      have e13 : a.eval (.tmp 13) = .pointer (some ⟨W.heap.size + 1, 1, none⟩) := k8 13 rfl
      refine .inl ⟨Flow.want_none rfl, ?_⟩
      exact Flow.run_same (exec_load rfl e13 (Try.isAgg3 _) (C2.out w 1 hC)) Flow.grow_refl
    refine Flow.Ones.cons ?_ ?_
    · rintro a w hC hoff ⟨k7, k9, -⟩
      have e12 : a.eval (.tmp 12) = vp := k7 12 rfl
      have e14 : a.eval (.tmp 14) = .int .i64 t := k9 14 rfl
      refine .inl ⟨Flow.want_none rfl, ?_⟩
      exact Flow.run_call (Flow.exec_call (args := #[(vp), (.int .i64 t)]) rfl Try.func40 (by kernel_rfl) (by kernel_rfl) (by simp only [List.map_toArray, List.map_cons, List.map_nil, e12, e14] <;> rfl)) ((id_any vp ps t w (HP.out w hC)).mono fun e w' ⟨he, hw⟩ => ⟨_, he, hw ▸ Flow.grow_refl _, by rw [HB.out]; rfl⟩)
    refine Flow.Ones.cons ?_ ?_
    · rintro a w hC hoff ⟨k5, k10, -⟩
      have e10 : a.eval (.tmp 10) = .string (str (A ++ [62])) := k5 10 rfl
      have e15 : a.eval (.tmp 15) = .string (str B) := k10 15 rfl
      refine .inl ⟨Flow.want_none rfl, ?_⟩
      exact Flow.run_same (exec_add_str Try.underlying9 rfl e10 e15 rfl (by have := Hs.out; simp; omega)) Flow.grow_refl
    refine Flow.Ones.cons ?_ ?_
    · rintro a w hC hoff ⟨k11, -⟩
      have e16 : a.eval (.tmp 16) = .string (str (A ++ [62] ++ B)) := k11 16 rfl
      refine .inl ⟨Flow.want_none rfl, ?_⟩
      exact Flow.run_same (exec_add_str Try.underlying9 rfl e16 (b := [58]) rfl rfl (by have := Hs.out; simp; omega)) Flow.grow_refl
    refine Flow.Ones.cons ?_ ?_
    · intro a w hC hoff _
      have e2 : a.eval (.tmp 2) = .pointer (some ⟨W.heap.size, 0, none⟩) := hoff.at 2 (by kernel_rfl)
      refine .inl ⟨Flow.want_none rfl, ?_⟩
      refine Flow.run_same ?_ Flow.grow_refl
      have ec := Flow.eval_const a
      generalize a.eval = ρ at e2 ec ⊢
      simp [execOp, e2, go_sem]
    refine Flow.Ones.cons ?_ ?_
    · rintro a w hC hoff ⟨k13, -⟩
      have e18 : a.eval (.tmp 18) = .pointer (some ⟨W.heap.size, 1, none⟩) := k13 18 rfl
      refine .inl ⟨Flow.want_none rfl, ?_⟩
      exact Flow.run_same (exec_load rfl e18 (Try.isAgg31 _) (C1.out w 1 hC)) Flow.grow_refl
    refine Flow.Ones.cons ?_ ?_
    · intro a w hC hoff _
      have e3 : a.eval (.tmp 3) = .pointer (some ⟨W.heap.size + 1, 0, none⟩) := hoff.at 3 (by kernel_rfl)
      refine .inl ⟨Flow.want_none rfl, ?_⟩
      refine Flow.run_same ?_ Flow.grow_refl
      have ec := Flow.eval_const a
      generalize a.eval = ρ at e3 ec ⊢
      simp [execOp, e3, go_sem]
    refine Flow.Ones.cons ?_ ?_
    · rintro a w hC hoff ⟨k15, -⟩
      have e20 : a.eval (.tmp 20) = .pointer (some ⟨W.heap.size + 1, 2, none⟩) := k15 20 rfl
      refine .inl ⟨Flow.want_none rfl, ?_⟩
      exact Flow.run_same (exec_load rfl e20 (Try.isAgg3 _) (C2.out w 2 hC)) Flow.grow_refl
    refine Flow.Ones.cons ?_ ?_
    · rintro a w hC hoff ⟨k14, k16, -⟩
      have e19 : a.eval (.tmp 19) = vm := k14 19 rfl
      have e21 : a.eval (.tmp 21) = .int .i64 m := k16 21 rfl
      refine .inl ⟨Flow.want_none rfl, ?_⟩
      exact Flow.run_call (Flow.exec_call (args := #[(vm), (.int .i64 m)]) rfl Try.func40 (by kernel_rfl) (by kernel_rfl) (by simp only [List.map_toArray, List.map_cons, List.map_nil, e19, e21] <;> rfl)) ((id_any vm ms m w (HM.out w hC)).mono fun e w' ⟨he, hw⟩ => ⟨_, he, hw ▸ Flow.grow_refl _, by rw [HC.out]; rfl⟩)
    refine Flow.Ones.cons ?_ ?_
    · rintro a w hC hoff ⟨k12, k17, -⟩
      have e17 : a.eval (.tmp 17) = .string (str (A ++ [62] ++ B ++ [58])) := k12 17 rfl
      have e22 : a.eval (.tmp 22) = .string (str C) := k17 22 rfl
      refine .inl ⟨Flow.want_none rfl, ?_⟩
      exact Flow.run_same (exec_add_str Try.underlying9 rfl e17 e22 rfl (by have := Hs.out; simp; omega)) Flow.grow_refl
    refine Flow.Ones.cons ?_ ?_
    · rintro a w hC hoff ⟨k18, -⟩
      have e23 : a.eval (.tmp 23) = .string (str (A ++ [62] ++ B ++ [58] ++ C)) := k18 23 rfl
      refine .inl ⟨Flow.want_none rfl, ?_⟩
      exact Flow.run_same (Flow.exec_move (.inr rfl) e23) Flow.grow_refl
    exact trivial
  case stab1 => exact trivial
  case ends1 =>
    intro w' hg'
    simp only [Flow.ends]
    simp only [Act.put, List.setIfInBounds_toArray, List.set_cons_succ, List.set_cons_zero]
    go_wp2
    go_ret
    exact ⟨rfl, HG.out.trans hg'⟩
end Go.Proofs.Ytepianllbfnpoaa
