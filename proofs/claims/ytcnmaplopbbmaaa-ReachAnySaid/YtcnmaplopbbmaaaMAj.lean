/- Bytes in memory as lists of bytes: what reads, what is the call's own, and what they are as a text. No program. -/
/- package alpha: First, Back, Compare, Find by their contracts. -/
import Derived.Test.YtcnmaplopbbmaaaOwn
import Derived.Test.YtcnmaplopbbmaaaFlow
import Derived.Test.YtcnmaplopbbmaaaMAi
import Derived.Test.YtcnmaplopbbmaaaShelf
namespace Go.Proofs.Ytcnmaplopbbmaaa
open Go.RowKit

/-- a byte as a cell -/
def u8v (c : UInt8) : Value := .int .u8 (c.toNat : Int)
/-- a text of bytes -/
def str (l : List UInt8) : ByteArray := ⟨l.toArray⟩
theorem str_toList (l : List UInt8) : (str l).data.toList = l := rfl
theorem str_append (l m : List UInt8) : str l ++ str m = str (l ++ m) := by
  apply ByteArray.ext
  simp [str, ByteArray.data_append]
theorem str_inj {l m : List UInt8} (h : str l = str m) : l = m := by rw [← str_toList l, h, str_toList]
theorem str_size (l : List UInt8) : (str l).size = l.length := by simp [str, ByteArray.size]

/-- a slice of bytes that reads as a list -/
def Bytes (w : World) (v : Value) (l : List UInt8) : Prop :=
  ∃ a cap, v = .slice a l.length cap ∧ l.length ≤ 140737488351232 ∧ (a = none → l.length = 0 ∧ cap = 0) ∧ ∀ j, j < l.length → ∃ b off, a = some ⟨b, off, none⟩ ∧ b < w.heap.size ∧ w.cell? ⟨b, off + j, none⟩ = some (u8v (l.getD j 0))

theorem Bytes.shape {w : World} {v : Value} {l : List UInt8} (h : Bytes w v l) (hl : l ≠ []) :
    ∃ b off cap, v = .slice (some ⟨b, off, none⟩) l.length cap ∧ b < w.heap.size ∧ ∀ j, j < l.length → w.cell? ⟨b, off + j, none⟩ = some (u8v (l.getD j 0)) := by
  obtain ⟨a, cap, rfl, hm, _, hc⟩ := h
  have h0 : 0 < l.length := by cases l <;> simp_all
  obtain ⟨b, off, rfl, hb, _⟩ := hc 0 h0
  refine ⟨b, off, cap, rfl, hb, fun j hj => ?_⟩
  obtain ⟨b', off', e, _, h'⟩ := hc j hj
  cases e
  exact h'

theorem Bytes.grow {w w' : World} {v : Value} {l : List UInt8} (h : Bytes w v l) (g : Flow.Grow w w') : Bytes w' v l := by
  obtain ⟨a, cap, rfl, hm, hn, hc⟩ := h
  refine ⟨a, cap, rfl, hm, hn, fun j hj => ?_⟩
  obtain ⟨b, off, ha, hb, hcell⟩ := hc j hj
  exact ⟨b, off, ha, Nat.lt_of_lt_of_le hb g.size, (World.cell?_of_block (g.block b hb (by simp))).trans hcell⟩

theorem Bytes.of_own {w : World} {base e : Nat} {v : Value} {n : Nat} {l : List UInt8} (h : w.ownsRow base e 1 v n (l.map u8v)) (hm : l.length ≤ 140737488351232) : Bytes w v l := by
  have hlen : l.length = n := by simpa using h.1
  subst hlen
  rcases h.2 with ⟨rfl, h0⟩ | ⟨g, cap, cur, rfl, _, hg, _⟩
  · exact ⟨none, 0, by rw [h0], hm, fun _ => ⟨h0, rfl⟩, fun j hj => by omega⟩
  · refine ⟨some ⟨g, 0, none⟩, cap, rfl, hm, by simp, fun j hj => ⟨g, 0, rfl, (Array.getElem?_eq_some_iff.1 hg).1, ?_⟩⟩
    rw [Nat.zero_add, h.cellAt j (by omega)]
    simp [hj]

theorem Bytes.len {w : World} {a : Option Addr} {n cap : Nat} {l : List UInt8} (h : Bytes w (.slice a n cap) l) : n = l.length ∧ l.length ≤ 140737488351232 := by
  obtain ⟨a', cap', e, hm, _⟩ := h
  cases e
  exact ⟨rfl, hm⟩
theorem Bytes.ifNone {w : World} {a : Option Addr} {n cap : Nat} {l : List UInt8} (h : Bytes w (.slice a n cap) l) : a = none → n = 0 ∧ cap = 0 := by
  obtain ⟨a', cap', e, _, hn, _⟩ := h
  cases e
  exact hn
theorem Bytes.cells {w : World} {a : Option Addr} {n cap : Nat} {l : List UInt8} (h : Bytes w (.slice a n cap) l) : ∀ ad, a = some ad → ∀ j u, (l.map u8v)[j]? = some u → w.cell? (ad.add j) = some u := by
  obtain ⟨a', cap', e, _, _, hc⟩ := h
  cases e
  intro ad had j u hu
  have hj : j < l.length := by
    have := (List.getElem?_eq_some_iff.1 hu).1
    simpa using this
  obtain ⟨b, off, ha, _, hcell⟩ := hc j hj
  rw [ha] at had
  cases had
  rw [Addr.add_lit, hcell, ← hu]
  simp [hj]
theorem Bytes.cut {w : World} {a : Option Addr} {n cap : Nat} {l : List UInt8} (h : Bytes w (.slice a n cap) l) {m : Nat} (hm : m ≤ l.length) : Bytes w (.slice a m cap) (l.take m) := by
  obtain ⟨a', cap', e, h1, h2, h3⟩ := h
  cases e
  refine ⟨a, cap, by rw [List.length_take, Nat.min_eq_left hm], by rw [List.length_take]; omega, fun ha => ⟨by have := (h2 ha).1; rw [List.length_take]; omega, (h2 ha).2⟩, fun j hj => ?_⟩
  rw [List.length_take] at hj
  obtain ⟨b, off, ha, hb, hcell⟩ := h3 j (by omega)
  refine ⟨b, off, ha, hb, ?_⟩
  rw [hcell]
  simp [show j < m by omega]

theorem Bytes.nil (w : World) : Bytes w (.slice none 0 0) [] := ⟨none, 0, rfl, by simp, fun _ => ⟨rfl, rfl⟩, fun j hj => by simp at hj⟩

section
variable {P : Program}
theorem run_str {w : World} {v : Value} {l : List UInt8} (h : Bytes w v l) (src dst e : TypeId) (hs : P.underlying src = some (.slice e)) (he : P.underlying e = some (.int .u8)) (hd : P.underlying dst = some .string) :
    (convert src dst v).run P w = .ok (.string (str l)) w := by
  obtain ⟨a, cap, rfl, hm, hn, hc⟩ := h
  cases a with
  | none =>
    have h0 : l.length = 0 := (hn rfl).1
    have : l = [] := List.eq_nil_of_length_eq_zero h0
    subst this
    rw [run_convert_bytes_string w src dst e none _ cap hs he hd]
    simp [Conv.bytesToString]
    rfl
  | some ad =>
    refine run_convert_bytes_back w src dst e ad cap l hs he hd fun j hj => ?_
    obtain ⟨b, off, ha, hb, hcell⟩ := hc j hj
    cases ha
    rw [Addr.add_lit, hcell]
    simp [u8v, hj]

theorem exec_str {o : Oper} {ρ : Operand → Value} {x : Operand} {w : World} {v : Value} {l : List UInt8} {src dst : TypeId} (e : TypeId) (ho : o.op = .convert src dst x) (hx : ρ x = v) (h : Bytes w v l)
    (hs : P.underlying src = some (.slice e)) (he : P.underlying e = some (.int .u8)) (hd : P.underlying dst = some .string) :
    (execOp ρ o).run P w = .ok (.value (.string (str l))) w := by
  have hr := run_str (P := P) h src dst e hs he hd
  simp [execOp, ho, hx, hr]

theorem exec_add_str {o : Oper} {ρ : Operand → Value} {x y : Operand} {w : World} {a b : List UInt8} {t t' : TypeId} (_ht : P.underlying t = some .string) (ho : o.op = .binOp .add t x y t') (hx : ρ x = .string (str a)) (hy : ρ y = .string (str b))
    {c : List UInt8} (hc : a ++ b = c) (hl : a.length + b.length ≤ 9223372036854775807) : (execOp ρ o).run P w = .ok (.value (.string (str c))) w := by
  subst hc
  have hl' : ¬ 9223372036854775807 < (str a).size + (str b).size := by rw [str_size, str_size]; omega
  simp [execOp, ho, hx, hy, go_sem, hl', str_append]
theorem exec_eq_str {o : Oper} {ρ : Operand → Value} {x y : Operand} {w : World} {a b : List UInt8} {t t' : TypeId} (_ht : P.underlying t = some .string) (ho : o.op = .binOp .eql t x y t') (hx : ρ x = .string (str a)) (hy : ρ y = .string (str b)) {c : Bool} (hc : (a == b) = c) :
    (execOp ρ o).run P w = .ok (.value (.bool c)) w := by
  subst hc
  have ea : (str a).toList = a := ByteArray.toList_mk a
  have eb : (str b).toList = b := ByteArray.toList_mk b
  simp [execOp, ho, hx, hy, go_sem, ea, eb]
end
end Go.Proofs.Ytcnmaplopbbmaaa
namespace Go.Proofs.Ytcnmaplopbbmaaa
open Go.RowKit
/-- the first that is not 0 -/
def Gr.orL : List Int → Int
  | [] => 0
  | z :: l => if z = 0 then Gr.orL l else z
theorem Gr.orL_drop (l : List Int) (j : Nat) (h : j < l.length) : Gr.orL (l.drop j) = if l.getD j 0 = 0 then Gr.orL (l.drop (j + 1)) else l.getD j 0 := by
  rw [List.drop_eq_getElem_cons h]
  simp [Gr.orL, h]
set_option maxRecDepth 100000 in
set_option maxHeartbeats 1000000 in
theorem cmpOr_any (v : Value) (zs : List Int) (w : World) (hz : zs.length ≤ 1000000) (h : Ints w v zs) : Calls Try.prog 66 #[v] w fun e w' => e = .returned (.int .i64 (Gr.orL zs)) ∧ w = w' := by
  have HV := Lib.hid h
  obtain ⟨ao, ac, rfl, _⟩ := id h
  obtain ⟨n, hn⟩ : ∃ k, k = zs.length := ⟨_, rfl⟩
  have Hn := Lib.hid hn
  rw [← hn] at hz HV ⊢
  clear h hn
  go_enter Try.func66, Try.ntmps66
  go_wp2_with fail
  go_loop [8] (fun i => ∃ j : Nat, j ≤ n ∧ i = .int .i64 j ∧ Hid (Gr.orL zs = Gr.orL (zs.drop j))) (fun i => n - (intOf i).toNat)
  case atStart => exact ⟨0, by omega, rfl, Lib.hid rfl⟩
  case round =>
    obtain ⟨j, hj, rfl, HR⟩ := hrel
    by_cases hjn : j < n
    · obtain ⟨b, off, rfl, q⟩ := Ints.at1 HV.out (k := j) (by rw [← Hn.out]; exact hjn)
      have HD := Lib.hid (Gr.orL_drop zs j (by rw [← Hn.out]; exact hjn))
      generalize zs.getD j 0 = x at *
      by_cases h0 : x = 0
      · have d0 : (x != 0) = false := by simp [h0]
        have HR2 : Hid (Gr.orL zs = Gr.orL (zs.drop (j + 1))) := Lib.hid (by rw [HR.out, HD.out, if_pos h0])
        go_wp2_with fail
        go_round
        case rel => exact ⟨j + 1, by omega, by go_num, HR2⟩
        case measure => simp [intOf]; omega
      · have d0 : (x != 0) = true := by simp [h0]
        have HE : Hid (Gr.orL zs = x) := Lib.hid (by rw [HR.out, HD.out, if_neg h0])
        go_wp2_with fail
        go_ret
        exact ⟨by rw [HE.out]; rfl, rfl⟩
    · obtain rfl : j = n := by omega
      have HE : Hid (Gr.orL zs = 0) := Lib.hid (by rw [HR.out, List.drop_of_length_le (by rw [← Hn.out]; exact Nat.le_refl _)]; rfl)
      go_wp2_with fail
      go_ret
      exact ⟨by rw [HE.out]; rfl, rfl⟩
/-- how two interactions stand -/
def Gr.cmpL (a b : Gr.Lb) : Int := Gr.orL [Lib.compareInt a.1 b.1, Lib.compareInt a.2.1 b.2.1, Lib.compareInt a.2.2 b.2.2]
set_option maxRecDepth 100000 in
set_option maxHeartbeats 1000000 in
theorem compare_any (a b : Gr.Lb) (W : World) : Calls Try.prog 40 #[.agg (Gr.lcells a).toArray, .agg (Gr.lcells b).toArray] W fun e w' => e = .returned (.int .i64 (Gr.cmpL a b)) ∧ Flow.Grow W w' := by
  obtain ⟨a0, a1, a2⟩ := a
  obtain ⟨b0, b1, b2⟩ := b
  show Calls _ _ #[.agg #[.int .i64 a0, .int .i64 a1, .int .i64 a2], .agg #[.int .i64 b0, .int .i64 b1, .int .i64 b2]] W fun e w' => e = .returned (.int .i64 (Gr.orL [Lib.compareInt a0 b0, Lib.compareInt a1 b1, Lib.compareInt a2 b2])) ∧ Flow.Grow W w'
  have HC0 := Lib.hid (Try.cmp_Compare_int a0 b0)
  have HC1 := Lib.hid (Try.cmp_Compare_int a1 b1)
  have HC2 := Lib.hid (Try.cmp_Compare_int a2 b2)
  generalize Lib.compareInt a0 b0 = c0 at *
  generalize Lib.compareInt a1 b1 = c1 at *
  generalize Lib.compareInt a2 b2 = c2 at *
  go_enter Try.func40, Try.ntmps40
  go_upto_region 1 with fail
  obtain ⟨w1, hw1⟩ : ∃ w1, w1 = (W.alloc (.cells #[.int .i64 a0, .int .i64 a1, .int .i64 a2] 45)).alloc (.cells #[.int .i64 b0, .int .i64 b1, .int .i64 b2] 45) := ⟨_, rfl⟩
  have HG1 : Hid (Flow.Grow W w1) := Lib.hid (by rw [hw1]; exact (Flow.grow_alloc _ _).trans (Flow.grow_alloc _ _))
  obtain ⟨X, hX⟩ : ∃ X, X = W.heap.size := ⟨_, rfl⟩
  have HX : Hid (w1.heap[X]? = some (.cells #[.int .i64 a0, .int .i64 a1, .int .i64 a2] 45 (0, 0))) := Lib.hid (by rw [hw1, hX]; exact ((Flow.grow_alloc _ _).block _ (by simp) (by simp)).trans (heap_alloc_new W _))
  have HY : Hid (w1.heap[X + 1]? = some (.cells #[.int .i64 b0, .int .i64 b1, .int .i64 b2] 45 (0, 0))) := Lib.hid (by rw [hw1, hX]; exact hp_new2 W _ _)
  rw [← hw1, ← hX]
  clear hw1 hX
  have q0 : w1.cell? ⟨X, 0, none⟩ = some (.int .i64 a0) := (cell_of_row w1 X 0 _ _ _ HX.out).trans rfl
  have q1 : w1.cell? ⟨X, 1, none⟩ = some (.int .i64 a1) := (cell_of_row w1 X 1 _ _ _ HX.out).trans rfl
  have q2 : w1.cell? ⟨X, 2, none⟩ = some (.int .i64 a2) := (cell_of_row w1 X 2 _ _ _ HX.out).trans rfl
  have p0 : w1.cell? ⟨X + 1, 0, none⟩ = some (.int .i64 b0) := (cell_of_row w1 (X + 1) 0 _ _ _ HY.out).trans rfl
  have p1 : w1.cell? ⟨X + 1, 1, none⟩ = some (.int .i64 b1) := (cell_of_row w1 (X + 1) 1 _ _ _ HY.out).trans rfl
  have p2 : w1.cell? ⟨X + 1, 2, none⟩ = some (.int .i64 b2) := (cell_of_row w1 (X + 1) 2 _ _ _ HY.out).trans rfl
  refine Flow.region_grown (Fs := [.inl ((.pointer (some ⟨X, 0, none⟩))), .inl ((.int .i64 a0)), .inl ((.pointer (some ⟨X + 1, 0, none⟩))), .inl ((.int .i64 b0)), .inl ((.int .i64 c0)), .inl ((.pointer (some ⟨X, 1, none⟩))), .inl ((.int .i64 a1)), .inl ((.pointer (some ⟨X + 1, 1, none⟩))), .inl ((.int .i64 b1)), .inl ((.int .i64 c1)), .inl ((.pointer (some ⟨X, 2, none⟩))), .inl ((.int .i64 a2)), .inl ((.pointer (some ⟨X + 1, 2, none⟩))), .inl ((.int .i64 b2)), .inl ((.int .i64 c2)), .inr (fun v w => Ints w v [c0, c1, c2]), .inl ((.int .i64 (Gr.orL [c0, c1, c2]))), .inl ((.int .i64 (Gr.orL [c0, c1, c2])))])
    (S := [[], [0], [], [2], [1, 3], [], [5], [], [7], [6, 8], [], [10], [], [12], [11, 13], [4, 9, 14], [15], [16]]) (by kernel_rfl) (by kernel_rfl) (by kernel_rfl) rfl ?stab1 ?ones1 ?ends1
  case ones1 =>
    refine Flow.Ones.cons ?_ ?_
    · intro a w hC hoff _
      have e2 : a.eval (.tmp 2) = (.pointer (some ⟨X, 0, none⟩)) := hoff.at 2 (by kernel_rfl)
      refine .inl ⟨Flow.want_none rfl, ?_⟩
      refine Flow.run_same ?_ Flow.grow_refl
      have ec := Flow.eval_const a
      generalize a.eval = ρ at e2 ec ⊢
      simp [execOp, e2, go_sem]
    refine Flow.Ones.cons ?_ ?_
    · rintro a w hC hoff ⟨k0, -⟩
      have e5 : a.eval (.tmp 5) = (.pointer (some ⟨X, 0, none⟩)) := k0 5 rfl
      refine .inl ⟨Flow.want_none rfl, ?_⟩
      refine Flow.run_same ?_ Flow.grow_refl
      have ec := Flow.eval_const a
      generalize a.eval = ρ at e5 ec ⊢
      have h0 := Xm2.cell_grow hC q0
      simp [execOp, e5, h0, go_sem]
    refine Flow.Ones.cons ?_ ?_
    · intro a w hC hoff _
      have e3 : a.eval (.tmp 3) = (.pointer (some ⟨X + 1, 0, none⟩)) := hoff.at 3 (by kernel_rfl)
      refine .inl ⟨Flow.want_none rfl, ?_⟩
      refine Flow.run_same ?_ Flow.grow_refl
      have ec := Flow.eval_const a
      generalize a.eval = ρ at e3 ec ⊢
      simp [execOp, e3, go_sem]
    refine Flow.Ones.cons ?_ ?_
    · rintro a w hC hoff ⟨k2, -⟩
      have e7 : a.eval (.tmp 7) = (.pointer (some ⟨X + 1, 0, none⟩)) := k2 7 rfl
      refine .inl ⟨Flow.want_none rfl, ?_⟩
      refine Flow.run_same ?_ Flow.grow_refl
      have ec := Flow.eval_const a
      generalize a.eval = ρ at e7 ec ⊢
      have h0 := Xm2.cell_grow hC p0
      simp [execOp, e7, h0, go_sem]
    refine Flow.Ones.cons ?_ ?_
    · rintro a w hC hoff ⟨k1, k3, -⟩
      have e6 : a.eval (.tmp 6) = (.int .i64 a0) := k1 6 rfl
      have e8 : a.eval (.tmp 8) = (.int .i64 b0) := k3 8 rfl
      refine .inl ⟨Flow.want_none rfl, ?_⟩
      exact Flow.run_call (Flow.exec_call rfl Try.func67 (by kernel_rfl) (by kernel_rfl) (by simp [e6, e8])) ((HC0.out _).mono fun e w' ⟨he, hg⟩ => ⟨_, he, by rw [hg]; exact Flow.grow_refl _, rfl⟩)
    refine Flow.Ones.cons ?_ ?_
    · intro a w hC hoff _
      have e2 : a.eval (.tmp 2) = (.pointer (some ⟨X, 0, none⟩)) := hoff.at 2 (by kernel_rfl)
      refine .inl ⟨Flow.want_none rfl, ?_⟩
      refine Flow.run_same ?_ Flow.grow_refl
      have ec := Flow.eval_const a
      generalize a.eval = ρ at e2 ec ⊢
      simp [execOp, e2, go_sem]
    refine Flow.Ones.cons ?_ ?_
    · rintro a w hC hoff ⟨k5, -⟩
      have e10 : a.eval (.tmp 10) = (.pointer (some ⟨X, 1, none⟩)) := k5 10 rfl
      refine .inl ⟨Flow.want_none rfl, ?_⟩
      refine Flow.run_same ?_ Flow.grow_refl
      have ec := Flow.eval_const a
      generalize a.eval = ρ at e10 ec ⊢
      have h0 := Xm2.cell_grow hC q1
      simp [execOp, e10, h0, go_sem]
    refine Flow.Ones.cons ?_ ?_
    · intro a w hC hoff _
      have e3 : a.eval (.tmp 3) = (.pointer (some ⟨X + 1, 0, none⟩)) := hoff.at 3 (by kernel_rfl)
      refine .inl ⟨Flow.want_none rfl, ?_⟩
      refine Flow.run_same ?_ Flow.grow_refl
      have ec := Flow.eval_const a
      generalize a.eval = ρ at e3 ec ⊢
      simp [execOp, e3, go_sem]
    refine Flow.Ones.cons ?_ ?_
    · rintro a w hC hoff ⟨k7, -⟩
      have e12 : a.eval (.tmp 12) = (.pointer (some ⟨X + 1, 1, none⟩)) := k7 12 rfl
      refine .inl ⟨Flow.want_none rfl, ?_⟩
      refine Flow.run_same ?_ Flow.grow_refl
      have ec := Flow.eval_const a
      generalize a.eval = ρ at e12 ec ⊢
      have h0 := Xm2.cell_grow hC p1
      simp [execOp, e12, h0, go_sem]
    refine Flow.Ones.cons ?_ ?_
    · rintro a w hC hoff ⟨k6, k8, -⟩
      have e11 : a.eval (.tmp 11) = (.int .i64 a1) := k6 11 rfl
      have e13 : a.eval (.tmp 13) = (.int .i64 b1) := k8 13 rfl
      refine .inl ⟨Flow.want_none rfl, ?_⟩
      exact Flow.run_call (Flow.exec_call rfl Try.func67 (by kernel_rfl) (by kernel_rfl) (by simp [e11, e13])) ((HC1.out _).mono fun e w' ⟨he, hg⟩ => ⟨_, he, by rw [hg]; exact Flow.grow_refl _, rfl⟩)
    refine Flow.Ones.cons ?_ ?_
    · intro a w hC hoff _
      have e2 : a.eval (.tmp 2) = (.pointer (some ⟨X, 0, none⟩)) := hoff.at 2 (by kernel_rfl)
      refine .inl ⟨Flow.want_none rfl, ?_⟩
      refine Flow.run_same ?_ Flow.grow_refl
      have ec := Flow.eval_const a
      generalize a.eval = ρ at e2 ec ⊢
      simp [execOp, e2, go_sem]
    refine Flow.Ones.cons ?_ ?_
    · rintro a w hC hoff ⟨k10, -⟩
      have e15 : a.eval (.tmp 15) = (.pointer (some ⟨X, 2, none⟩)) := k10 15 rfl
      refine .inl ⟨Flow.want_none rfl, ?_⟩
      refine Flow.run_same ?_ Flow.grow_refl
      have ec := Flow.eval_const a
      generalize a.eval = ρ at e15 ec ⊢
      have h0 := Xm2.cell_grow hC q2
      simp [execOp, e15, h0, go_sem]
    refine Flow.Ones.cons ?_ ?_
    · intro a w hC hoff _
      have e3 : a.eval (.tmp 3) = (.pointer (some ⟨X + 1, 0, none⟩)) := hoff.at 3 (by kernel_rfl)
      refine .inl ⟨Flow.want_none rfl, ?_⟩
      refine Flow.run_same ?_ Flow.grow_refl
      have ec := Flow.eval_const a
      generalize a.eval = ρ at e3 ec ⊢
      simp [execOp, e3, go_sem]
    refine Flow.Ones.cons ?_ ?_
    · rintro a w hC hoff ⟨k12, -⟩
      have e17 : a.eval (.tmp 17) = (.pointer (some ⟨X + 1, 2, none⟩)) := k12 17 rfl
      refine .inl ⟨Flow.want_none rfl, ?_⟩
      refine Flow.run_same ?_ Flow.grow_refl
      have ec := Flow.eval_const a
      generalize a.eval = ρ at e17 ec ⊢
      have h0 := Xm2.cell_grow hC p2
      simp [execOp, e17, h0, go_sem]
    refine Flow.Ones.cons ?_ ?_
    · rintro a w hC hoff ⟨k11, k13, -⟩
      have e16 : a.eval (.tmp 16) = (.int .i64 a2) := k11 16 rfl
      have e18 : a.eval (.tmp 18) = (.int .i64 b2) := k13 18 rfl
      refine .inl ⟨Flow.want_none rfl, ?_⟩
      exact Flow.run_call (Flow.exec_call rfl Try.func67 (by kernel_rfl) (by kernel_rfl) (by simp [e16, e18])) ((HC2.out _).mono fun e w' ⟨he, hg⟩ => ⟨_, he, by rw [hg]; exact Flow.grow_refl _, rfl⟩)
    refine Flow.Ones.cons ?_ ?_
    · rintro a w hC hoff ⟨k4, k9, k14, -⟩
      have e9 : a.eval (.tmp 9) = (.int .i64 c0) := k4 9 rfl
      have e14 : a.eval (.tmp 14) = (.int .i64 c1) := k9 14 rfl
      have e19 : a.eval (.tmp 19) = (.int .i64 c2) := k14 19 rfl
      refine .inl ⟨Flow.want_none rfl, ?_⟩
      refine Flow.run_val (v := .slice (some ⟨w.heap.size, 0, none⟩) 3 3) (w' := w.alloc (.cells #[.int .i64 c0, .int .i64 c1, .int .i64 c2] 3)) ?_ (Flow.grow_alloc _ _) ?_
      · generalize a.eval = ρ at e9 e14 e19 ⊢; simp [execOp, e9, e14, e19, go_sem]
      · exact ⟨_, 3, rfl, by simp, by simp, fun j hj => ⟨w.heap.size, 0, rfl, by simp, by rw [Nat.zero_add, World.cell?_alloc_new]; simp⟩⟩
    refine Flow.Ones.cons ?_ ?_
    · rintro a w hC hoff ⟨k15, -⟩
      have e20 : (fun v w => Ints w v [c0, c1, c2]) (a.eval (.tmp 20)) w := k15 20 rfl
      refine .inl ⟨Flow.want_none rfl, ?_⟩
      exact Flow.run_call (Flow.exec_call rfl Try.func66 (by kernel_rfl) (by kernel_rfl) (by simp)) ((cmpOr_any _ _ w (by simp) e20).mono fun e w' ⟨he, hg⟩ => ⟨_, he, by rw [← hg]; exact Flow.grow_refl _, rfl⟩)
    refine Flow.Ones.cons ?_ ?_
    · rintro a w hC hoff ⟨k16, -⟩
      have e21 : a.eval (.tmp 21) = (.int .i64 (Gr.orL [c0, c1, c2])) := k16 21 rfl
      refine .inl ⟨Flow.want_none rfl, ?_⟩
      exact Flow.run_same (Flow.exec_move (.inr rfl) e21) Flow.grow_refl
    exact trivial
  case stab1 => exact ⟨fun v w w' hR h => Ints.grow h hR, trivial⟩
  case ends1 =>
    intro w' hg
    simp only [Flow.ends]
    intro v20 _
    simp only [Act.put, List.setIfInBounds_toArray, List.set_cons_succ, List.set_cons_zero]
    go_wp2
    go_ret
    exact ⟨rfl, HG1.out.trans hg⟩
end Go.Proofs.Ytcnmaplopbbmaaa
