/- WriteAny: the walk. -/
import Derived.Test.YtdpkhmfolmcejaaGreatDoorMAny
import Derived.Test.YtdpkhmfolmcejaaGreatDoorWBack
import Derived.Test.YtdpkhmfolmcejaaGreatDoorMCt
import Derived.Deep.DeepCutAuto
import Derived.BigRegion
import Derived.Deep.RegionHeld3
namespace Go.Proofs.YtdpkhmfolmcejaaGreatDoor
open Go.RowKit
namespace Xm
def atL : Nod → List (ByteArray × ByteArray)
  | .mk _ _ l _ _ => l
end Xm
theorem run_cutE (s : ByteArray) (a : Nat) (h2 : a ≤ s.size) (x : Int) (hx : x = a) (w : World) :
    (Instr.slice 9 (.string s) (some (.int .i64 x)) none none).run Tryz.prog w = .ok (.string (s.extract a s.size)) w := by
  subst hx
  simp [Instr.slice, run_underlying Tryz.underlying9, Sem.run_bind, Instr.sliceBounds, Instr.sliceBound, asIntOf, h2]
/-- a new element's block -/
theorem grow_nd (w : World) : Flow.Grow w (w.alloc (.cells #[.string ⟨#[]⟩, .string ⟨#[]⟩, .slice none 0 0, .slice none 0 0, .string ⟨#[]⟩] 25)).drew := (Flow.grow_alloc _ _).trans (Flow.grow_drew _)
theorem cell_set5 {w : World} {N X : Nat} {a b c d e : Value} (h : X ≠ N) : (((((w.setCell ⟨N, 0, none⟩ a).setCell ⟨N, 1, none⟩ b).setCell ⟨N, 2, none⟩ c).setCell ⟨N, 3, none⟩ d).setCell ⟨N, 4, none⟩ e).cell? ⟨X, 1, none⟩ = w.cell? ⟨X, 1, none⟩ := by
  unfold World.cell?
  rw [Below.heap_setCell _ _ _ _ (show X ≠ N from h), Below.heap_setCell _ _ _ _ (show X ≠ N from h), Below.heap_setCell _ _ _ _ (show X ≠ N from h), Below.heap_setCell _ _ _ _ (show X ≠ N from h), Below.heap_setCell _ _ _ _ (show X ≠ N from h)]
theorem grow_set5 {W w : World} {N : Nat} {a b c d e : Value} (h : Flow.Grow W w) (hN : W.heap.size ≤ N) : Flow.Grow W (((((w.setCell ⟨N, 0, none⟩ a).setCell ⟨N, 1, none⟩ b).setCell ⟨N, 2, none⟩ c).setCell ⟨N, 3, none⟩ d).setCell ⟨N, 4, none⟩ e) := by
  have key : ∀ (w : World) (q : Nat) (v : Value), Flow.Grow W w → Flow.Grow W (w.setCell ⟨N, q, none⟩ v) := fun w q v h =>
    ⟨h.os, h.tape, h.output, by simpa [World.setCell] using h.size, fun i hi hne => by rw [Below.heap_setCell _ _ _ _ (by show i ≠ N; omega)]; exact h.block i hi hne⟩
  exact key _ 4 e (key _ 3 d (key _ 2 c (key _ 1 b (key _ 0 a h))))
theorem grow_late {W w : World} {o : Obj} (h : Flow.Grow W w) : Hid (Flow.Grow W (w.alloc o)) := Lib.hid (h.trans (Flow.grow_alloc _ _))
theorem grow_early {W w : World} {N : Nat} {a b c d e : Value} (h : Flow.Grow W w) (hN : W.heap.size ≤ N) : Hid (Flow.Grow W (((((w.setCell ⟨N, 0, none⟩ a).setCell ⟨N, 1, none⟩ b).setCell ⟨N, 2, none⟩ c).setCell ⟨N, 3, none⟩ d).setCell ⟨N, 4, none⟩ e)) := Lib.hid (grow_set5 h hN)
theorem grow_new5 {w3 w5 : World} (h : Flow.Grow (w3.alloc (.cells #[.string ⟨#[]⟩, .string ⟨#[]⟩, .slice none 0 0, .slice none 0 0, .string ⟨#[]⟩] 25)).drew w5) : Flow.Grow (w3.alloc (.cells #[.string ⟨#[]⟩, .string ⟨#[]⟩, .slice none 0 0, .slice none 0 0, .string ⟨#[]⟩] 25)).drew w5 := h
theorem nd_cells {w : World} {N : Nat} {a b c d e : Value} (h : Xm.RowN w N #[a, b, c, d, e]) : w.cell? ⟨N, 0, none⟩ = some a ∧ w.cell? ⟨N, 1, none⟩ = some b ∧ w.cell? ⟨N, 2, none⟩ = some c ∧ w.cell? ⟨N, 3, none⟩ = some d ∧ w.cell? ⟨N, 4, none⟩ = some e ∧ ∀ q, w.frozen? ⟨N, q, none⟩ = false :=
  ⟨(cell_of_row w N 0 _ _ _ h).trans rfl, (cell_of_row w N 1 _ _ _ h).trans rfl, (cell_of_row w N 2 _ _ _ h).trans rfl, (cell_of_row w N 3 _ _ _ h).trans rfl, (cell_of_row w N 4 _ _ _ h).trans rfl, fun q => frozen_of_row w N _ _ _ h⟩
theorem nd_new {w w' : World} (h : Flow.Grow (w.alloc (.cells #[.string ⟨#[]⟩, .string ⟨#[]⟩, .slice none 0 0, .slice none 0 0, .string ⟨#[]⟩] 25)).drew w') :
    w'.cell? ⟨w.heap.size, 0, none⟩ = some (.string ⟨#[]⟩) ∧ w'.cell? ⟨w.heap.size, 1, none⟩ = some (.string ⟨#[]⟩) ∧ w'.cell? ⟨w.heap.size, 2, none⟩ = some (.slice none 0 0) ∧ w'.cell? ⟨w.heap.size, 3, none⟩ = some (.slice none 0 0) ∧ w'.cell? ⟨w.heap.size, 4, none⟩ = some (.string ⟨#[]⟩) ∧ ∀ q, w'.frozen? ⟨w.heap.size, q, none⟩ = false :=
  nd_cells (((Flow.grow_drew _).trans h).block w.heap.size (by simp) (by simp) |>.trans (heap_alloc_new w _))
theorem nd_set5 {w w' : World} {F : Nat → Prop} {N : Nat} {a b c d e v0 v1 v2 v3 v4 : Value} {z : Xm.Nod} (h : Xm.NodAt F w (.agg #[a, b, c, d, e]) z) (hF : ∀ g, F g → g ≠ N) (hlt : ∀ g, F g → g < w.heap.size) (g : Flow.Grow w w') (hN : Xm.RowN w' N #[v0, v1, v2, v3, v4]) {w0 : World} (g0 : Flow.Grow w0 w') (h0 : w0.heap.size ≤ N) :
    Hid (Xm.RowN (((((w'.setCell ⟨N, 0, none⟩ a).setCell ⟨N, 1, none⟩ b).setCell ⟨N, 2, none⟩ c).setCell ⟨N, 3, none⟩ d).setCell ⟨N, 4, none⟩ e) N #[a, b, c, d, e]) ∧ Hid (Xm.NodAt (fun q => q ≠ N) (((((w'.setCell ⟨N, 0, none⟩ a).setCell ⟨N, 1, none⟩ b).setCell ⟨N, 2, none⟩ c).setCell ⟨N, 3, none⟩ d).setCell ⟨N, 4, none⟩ e) (.agg #[a, b, c, d, e]) z) ∧
    Hid (Flow.Grow w0 (((((w'.setCell ⟨N, 0, none⟩ a).setCell ⟨N, 1, none⟩ b).setCell ⟨N, 2, none⟩ c).setCell ⟨N, 3, none⟩ d).setCell ⟨N, 4, none⟩ e)) := by
  refine ⟨Lib.hid (setN hN a b c d e), Lib.hid ?_, Lib.hid (Xm.Mv.grow g0 Xm.Mv.set5 h0)⟩
  refine h.keep (Nat.le_trans g.size Xm.Mv.set5.size) (fun q hq hl => ?_) (fun q hq _ => hF q hq) hlt
  exact (Xm.Mv.set5.block q (Nat.lt_of_lt_of_le hl g.size) (by simpa using hF q hq)).trans (g.block q hl (by simp))
theorem nd_late {w w0 w5 : World} {a b c d e : Value} {z : Xm.Nod} (h : Xm.NodAt (fun g => w0.heap.size ≤ g ∧ g < w5.heap.size) w5 (.agg #[a, b, c, d, e]) z) (g : Flow.Grow w w5) :
    Hid (Xm.RowN (w5.alloc (.cells #[a, b, c, d, e] 25)) w5.heap.size #[a, b, c, d, e]) ∧ Hid (Xm.NodAt (fun q => q ≠ w5.heap.size) (w5.alloc (.cells #[a, b, c, d, e] 25)) (.agg #[a, b, c, d, e]) z) ∧ Hid (Flow.Grow w (w5.alloc (.cells #[a, b, c, d, e] 25))) := by
  refine ⟨Lib.hid (heap_alloc_new w5 _), Lib.hid ?_, Lib.hid (g.trans (Flow.grow_alloc _ _))⟩
  exact h.keep (by simp) (fun q hq hl => Below.heap_alloc _ _ _ hl) (fun q hq _ => by omega) (fun q hq => hq.2)
theorem nd_early {w w3 w5 : World} {a b c d e : Value} {z : Xm.Nod} (h : Xm.NodAt (fun g => (w3.alloc (.cells #[.string ⟨#[]⟩, .string ⟨#[]⟩, .slice none 0 0, .slice none 0 0, .string ⟨#[]⟩] 25)).drew.heap.size ≤ g ∧ g < w5.heap.size) w5 (.agg #[a, b, c, d, e]) z) (hg : Flow.Grow (w3.alloc (.cells #[.string ⟨#[]⟩, .string ⟨#[]⟩, .slice none 0 0, .slice none 0 0, .string ⟨#[]⟩] 25)).drew w5) (g : Flow.Grow w w3) :
    Hid (Xm.RowN ((((((w5).setCell ⟨w3.heap.size, 0, none⟩ a).setCell ⟨w3.heap.size, 1, none⟩ b).setCell ⟨w3.heap.size, 2, none⟩ c).setCell ⟨w3.heap.size, 3, none⟩ d).setCell ⟨w3.heap.size, 4, none⟩ e) w3.heap.size #[a, b, c, d, e]) ∧ Hid (Xm.NodAt (fun q => q ≠ w3.heap.size) ((((((w5).setCell ⟨w3.heap.size, 0, none⟩ a).setCell ⟨w3.heap.size, 1, none⟩ b).setCell ⟨w3.heap.size, 2, none⟩ c).setCell ⟨w3.heap.size, 3, none⟩ d).setCell ⟨w3.heap.size, 4, none⟩ e) (.agg #[a, b, c, d, e]) z) ∧ Hid (Flow.Grow w ((((((w5).setCell ⟨w3.heap.size, 0, none⟩ a).setCell ⟨w3.heap.size, 1, none⟩ b).setCell ⟨w3.heap.size, 2, none⟩ c).setCell ⟨w3.heap.size, 3, none⟩ d).setCell ⟨w3.heap.size, 4, none⟩ e)) := by
  have hs : (w3.alloc (.cells #[.string ⟨#[]⟩, .string ⟨#[]⟩, .slice none 0 0, .slice none 0 0, .string ⟨#[]⟩] 25)).drew.heap.size = w3.heap.size + 1 := by simp
  exact nd_set5 (N := w3.heap.size) h (fun q hq => by omega) (fun q hq => hq.2) (Flow.grow_refl _) (((Flow.grow_drew _).trans hg).block w3.heap.size (by simp) (by simp) |>.trans (heap_alloc_new w3 _)) ((g.trans (grow_nd w3)).trans hg) g.size
set_option maxRecDepth 100000 in
set_option maxHeartbeats 8000000 in
theorem writeAny_walk (v0 : Value) (a b : Int) (s : ByteArray) (w : World) (hx : Xm.ArgN w v0) (hs : s.size ≤ 9223372036854775807) (hT : Xm.Tab w) (hm : Xm.Max w) :
    Calls Tryz.prog 4 #[v0, .agg #[.int .i64 a, .int .i64 b], .string s] w fun e w' => e = .returned (.bool true) ∧ Flow.Grow w w' := by
  have HT := Lib.hid hT
  have HM := Lib.hid hm
  have HX := Lib.hid hx
  clear hT hm
  obtain ⟨sp, nm, tx, a1, a2, n1, c1, n2, c2, rfl⟩ := hx.form
  clear hx
  go_enter Tryz.func4, Tryz.ntmps4
  go_upto_region 1 with fail
  have G1 : Hid (Flow.Grow w ((w.alloc (.cells #[.string sp, .string nm, .slice a1 n1 c1, .slice a2 n2 c2, .string tx] 25)).alloc (.cells #[.int .i64 a, .int .i64 b] 36))) := Lib.hid ((Flow.grow_alloc _ _).trans (Flow.grow_alloc _ _))
  have X1 : Hid (Xm.RowN ((w.alloc (.cells #[.string sp, .string nm, .slice a1 n1 c1, .slice a2 n2 c2, .string tx] 25)).alloc (.cells #[.int .i64 a, .int .i64 b] 36)) w.heap.size #[.string sp, .string nm, .slice a1 n1 c1, .slice a2 n2 c2, .string tx]) := Lib.hid (Xm.RowN.grow (heap_alloc_new w _) (Flow.grow_alloc _ _))
  have A1 : Hid (((w.alloc (.cells #[.string sp, .string nm, .slice a1 n1 c1, .slice a2 n2 c2, .string tx] 25)).alloc (.cells #[.int .i64 a, .int .i64 b] 36)).heap[w.heap.size + 1]? = some (.cells #[.int .i64 a, .int .i64 b] 36 (0, 0))) := Lib.hid (by
    have h := heap_alloc_new (w.alloc (.cells #[.string sp, .string nm, .slice a1 n1 c1, .slice a2 n2 c2, .string tx] 25)) (.cells #[.int .i64 a, .int .i64 b] 36)
    rw [show (w.alloc (.cells #[.string sp, .string nm, .slice a1 n1 c1, .slice a2 n2 c2, .string tx] 25)).heap.size = w.heap.size + 1 by simp] at h
    exact h)
  obtain ⟨X, hX⟩ : ∃ X, X = w.heap.size := ⟨_, rfl⟩
  rw [← hX] at X1 A1 ⊢
  clear hX
  generalize (w.alloc (.cells #[.string sp, .string nm, .slice a1 n1 c1, .slice a2 n2 c2, .string tx] 25)).alloc (.cells #[.int .i64 a, .int .i64 b] 36) = w1 at *
  have x0 := (cell_of_row w1 X 0 _ _ _ X1.out).trans rfl
  have x1 := (cell_of_row w1 X 1 _ _ _ X1.out).trans rfl
  have x2 := (cell_of_row w1 X 2 _ _ _ X1.out).trans rfl
  have x3 := (cell_of_row w1 X 3 _ _ _ X1.out).trans rfl
  have x4 := (cell_of_row w1 X 4 _ _ _ X1.out).trans rfl
  simp at x0 x1 x2 x3 x4
  have HN := Lib.hid (near_any 3 _ w1 (by omega) (by omega) (HX.out.grow G1.out))
  go_upto_region 2 with (first
    | (go_at_call 5; refine HN.out.mono ?_; rintro e w2 ⟨u, y, rfl, hn, hny, hg⟩; have hdb := Xm.doc3 hny)
    | (go_at_call 10; refine (text6_any 13 y _ u ByteArray.empty [] w2 (Xm.nice_cnt3 y hny) hn (by omega)).mono ?_; rintro e w3 ⟨rfl, hg3⟩))
  have G3 := Lib.hid ((G1.out.trans hg).trans hg3)
  have A3 : Hid (w3.heap[X + 1]? = some (.cells #[.int .i64 a, .int .i64 b] 36 (0, 0))) := Lib.hid (((hg.trans hg3).block (X + 1) (Array.getElem?_eq_some_iff.1 A1.out).1 (by simp)).trans A1.out)
  have y0 := (cell_of_row w3 (X + 1) 0 _ _ _ A3.out).trans rfl
  have y1 := (cell_of_row w3 (X + 1) 1 _ _ _ A3.out).trans rfl
  simp at y0 y1
  have hX1 : X + 1 < w3.heap.size := (Array.getElem?_eq_some_iff.1 A3.out).1
  obtain ⟨T, hTT⟩ : ∃ T, T = str (Xm.docN y ByteArray.empty []) := ⟨_, rfl⟩
  have hTz : T.size ≤ 10000 := by rw [hTT, str_size]; exact hdb.1
  have hT6 := Lib.hid (show T.data.toList.count 60 ≤ 26 by rw [hTT]; exact hdb.2)
  have HNY := Lib.hid hny
  have HTT := Lib.hid hTT
  rw [← hTT]
  clear hTT hdb hn hny x0 x1 x2 x3 x4 X1 A1 HN hg hg3 G1 HX A3
  clear w1 w2
  have b1 := Bits.i64_mask a 16 (by omega) 65535 (by decide)
  obtain ⟨ja, hja⟩ : ∃ j : Nat, a % 2 ^ 16 = (j : Int) := ⟨(a % 2 ^ 16).toNat, by omega⟩
  have ha6 : ja < 65536 := by omega
  rw [hja] at b1
  have b2 := Bits.i64_mask b 3 (by omega) 7 (by decide)
  obtain ⟨jb, hjb⟩ : ∃ j : Nat, b % 2 ^ 3 = (j : Int) := ⟨(b % 2 ^ 3).toNat, by omega⟩
  have hb8 : jb < 8 := by omega
  rw [hjb] at b2
  clear hja hjb
  obtain ⟨k, hk, hkT⟩ : ∃ k : Nat, (ja : Int) % ((T.size : Int) + 1) = k ∧ k ≤ T.size := ⟨((ja : Int) % ((T.size : Int) + 1)).toNat, by
    have h1 := Int.emod_nonneg (ja : Int) (show (T.size : Int) + 1 ≠ 0 by omega)
    omega, by
    have h1 := Int.emod_nonneg (ja : Int) (show (T.size : Int) + 1 ≠ 0 by omega)
    have h2 := Int.emod_lt_of_pos (ja : Int) (show 0 < (T.size : Int) + 1 by omega)
    omega⟩
  go_upto_region 3 with fail
  rw [hk]
  clear hk b1
  obtain ⟨m, hm, hms, hm6⟩ : ∃ m : Nat, min (s.size : Int) 6 = m ∧ m ≤ s.size ∧ m ≤ 6 := ⟨(min (s.size : Int) 6).toNat, by omega, by omega, by omega⟩
  obtain ⟨j, hj, hkj, hjT, hj7⟩ : ∃ j : Nat, min ((k : Int) + jb) (T.size : Int) = j ∧ k ≤ j ∧ j ≤ T.size ∧ j ≤ k + 7 := ⟨(min ((k : Int) + jb) (T.size : Int)).toNat, by omega, by omega, by omega, by omega⟩
  have q1 := run_cut T 0 k (by omega) (by omega) 0 (k : Int) rfl rfl
  have q2 := run_cut s 0 m (by omega) (by omega) 0 (m : Int) rfl rfl
  have q3 := run_cut T j T.size (by omega) (by omega) (j : Int) (T.size : Int) rfl rfl
  have z1 : (T.extract 0 k).size = k := by simp; omega
  have z2 : (s.extract 0 m).size = m := by simp; omega
  have z3 : (T.extract j T.size).size = T.size - j := by simp
  have z4 : (T.extract 0 k ++ s.extract 0 m).size = k + m := by rw [ByteArray.size_append, z1, z2]
  have n1 : ¬ 9223372036854775807 < (T.extract 0 k).size + (s.extract 0 m).size := by omega
  have n2 : ¬ 9223372036854775807 < (T.extract 0 k ++ s.extract 0 m).size + (T.extract j T.size).size := by omega
  have eW : IntKind.i64.wrap ((k : Int) + (jb : Int)) = (k : Int) + (jb : Int) := IntWalk.i64_in _ (by omega)
  have q4 := run_cutE T j (by omega) (j : Int) rfl
  have q5 := run_cut0 T k (by omega) (k : Int) rfl
  have q6 := run_cut0 s m (by omega) (m : Int) rfl
  have n3 : ¬ 9223372036854775807 < k + m := by omega
  have n4 : ¬ 9223372036854775807 < k + m + (T.size - j) := by omega
  have hU6 := Lib.hid (Xm.mixed_c60 T s k m j T.size hkj hm6 hT6.out)
  have hUz : (T.extract 0 k ++ s.extract 0 m ++ T.extract j T.size).size ≤ 30000 := by rw [ByteArray.size_append, z4, z3]; omega
  obtain ⟨U, hU⟩ : ∃ U, U = T.extract 0 k ++ s.extract 0 m ++ T.extract j T.size := ⟨_, rfl⟩
  have HUC : Hid (∀ y', Xm.parseT U = .ok y' → Xm.cnt y' ≤ 33 → Xm.mxA y' ≤ 15 ∧ (Xm.docN y' ByteArray.empty []).length ≤ 200000) := Lib.hid (fun y' h1 h2 => Xm.cut_ok y y' T s k m j HNY.out HTT.out hkj hjT hj7 hm6 hms (by rw [← hU]; exact h1) h2)
  rw [← hU] at hU6 hUz
  have HPL := Lib.hid (parse_law2 U (by omega) hU6.out)
  have HU := Lib.hid hU
  clear hU
  have hHU := HU.out
  rcases HPL.out with ⟨e1, e2, ⟨hz, h0, h1⟩, hP⟩ | ⟨y', hpT, hnd, hdp, hcn, hP⟩
  · have HP := Lib.hid hP
    unfold zeroNode at HP
    clear hP HPL
    have he : (e1 == 0) = false := by simp only at hz; rcases hz with rfl | rfl | rfl | rfl <;> rfl
    have he2 : (e1 != 0) = true := by simp only at hz; rcases hz with rfl | rfl | rfl | rfl <;> rfl
    have he3 : ¬ e1 = 0 := by simp only at hz; rcases hz with rfl | rfl | rfl | rfl <;> decide
    clear hz h0 h1
    have HPW := Lib.hid (fun (wq : World) (g : Flow.Grow w3 wq) => HP.out wq (HT.out.grow (G3.out.trans g)) (HM.out.grow (G3.out.trans g)))
    have G3s : Hid (w.heap.size ≤ w3.heap.size) := Lib.hid G3.out.size
    have hXne : X + 1 ≠ w3.heap.size := by omega
    have y1d : w3.drew.cell? ⟨X + 1, 1, none⟩ = some (.int .i64 b) := y1
    have ya : (w3.alloc (.cells #[.string ⟨#[]⟩, .string ⟨#[]⟩, .slice none 0 0, .slice none 0 0, .string ⟨#[]⟩] 25)).cell? ⟨X + 1, 1, none⟩ = some (.int .i64 b) := (Xm.cell_grow (Flow.grow_alloc _ _) hX1).trans y1
    have yb : (w3.alloc (.cells #[.string ⟨#[]⟩, .string ⟨#[]⟩, .slice none 0 0, .slice none 0 0, .string ⟨#[]⟩] 25)).drew.cell? ⟨X + 1, 1, none⟩ = some (.int .i64 b) := ya
    go_cut [9, 10, 11] (fun v9 v10 v11 wx => (∃ N, v9 = .pointer (some ⟨N, 0, none⟩)) ∧ v10 = .int .i64 e2 ∧ v11 = .int .i64 e1 ∧ Hid (Flow.Grow w wx))
    case first =>
      go_region_held3 (fun w' => w'.cell? ⟨X + 1, 1, none⟩ = some (.int .i64 b))
        (first | with_reducible exact y1 | with_reducible exact y1d | with_reducible exact ya | with_reducible exact yb | with_reducible exact y5 | with_reducible exact (Xm.cell_grow (Flow.grow_alloc _ _) x5).trans y5 | with_reducible exact (cell_set5 hXne).trans y5 | with_reducible exact (cell_set5 (Nat.ne_of_lt x5)).trans ((Xm.cell_grow (Flow.grow_alloc _ _) x5).trans y5))
        (first
          | (go_at_call 7; rw [← hHU];
              refine (HPW.out _ (by first | with_reducible exact Flow.grow_drew _ | with_reducible exact grow_nd _)).mono ?_;
              rintro e w5 ⟨rfl, hg5⟩;
              first
              | (have hgA : Flow.Grow w3.drew w5 := by with_reducible exact hg5
                 have G5 := Lib.hid ((G3.out.trans (Flow.grow_drew w3)).trans hgA)
                 have y5 := (Xm.cell_grow ((Flow.grow_drew w3).trans hgA) hX1).trans y1
                 have x5 := Nat.lt_of_lt_of_le hX1 ((Flow.grow_drew w3).trans hgA).size
                 clear hgA hg5)
              | (have hgB : Flow.Grow (w3.alloc (.cells #[.string ⟨#[]⟩, .string ⟨#[]⟩, .slice none 0 0, .slice none 0 0, .string ⟨#[]⟩] 25)).drew w5 := by with_reducible exact hg5
                 have G5 := Lib.hid ((G3.out.trans (grow_nd w3)).trans hgB)
                 have y5 := (Xm.cell_grow ((grow_nd w3).trans hgB) hX1).trans y1
                 have x5 := Nat.lt_of_lt_of_le hX1 ((grow_nd w3).trans hgB).size
                 obtain ⟨z0, z1, z2, z3, z4, zf⟩ := nd_new hgB
                 clear hgB hg5)))
      all_goals
        go_wp2_with fail
        go_meet
        case rel =>
          refine ⟨⟨_, rfl⟩, rfl, rfl, ?_⟩
          first
          | with_reducible exact grow_late G5.out
          | with_reducible exact grow_early G5.out G3s.out
    case rest =>
      obtain ⟨⟨N, rfl⟩, rfl, rfl, HG6⟩ := hcut
      rename World => w6
      go_wp2_with (go_at_call 8; refine (awake7 _).mono ?_; rintro e w7 ⟨rfl, hg7⟩)
      go_ret
      exact ⟨rfl, HG6.out.trans hg7⟩
  · obtain ⟨ysp, ynm, yl, yks, ytx⟩ := y'
    have HP := Lib.hid hP
    have HPT := Lib.hid hpT
    have HND := Lib.hid hnd
    have HDP := Lib.hid hdp
    have HCN := Lib.hid hcn
    clear hP HPL hpT hnd hdp hcn
    have HPW := Lib.hid (fun (wq : World) (g : Flow.Grow w3 wq) => HP.out wq (HT.out.grow (G3.out.trans g)) (HM.out.grow (G3.out.trans g)))
    have hXne : X + 1 ≠ w3.heap.size := by omega
    have y1d : w3.drew.cell? ⟨X + 1, 1, none⟩ = some (.int .i64 b) := y1
    have ya : (w3.alloc (.cells #[.string ⟨#[]⟩, .string ⟨#[]⟩, .slice none 0 0, .slice none 0 0, .string ⟨#[]⟩] 25)).cell? ⟨X + 1, 1, none⟩ = some (.int .i64 b) := (Xm.cell_grow (Flow.grow_alloc _ _) hX1).trans y1
    have yb : (w3.alloc (.cells #[.string ⟨#[]⟩, .string ⟨#[]⟩, .slice none 0 0, .slice none 0 0, .string ⟨#[]⟩] 25)).drew.cell? ⟨X + 1, 1, none⟩ = some (.int .i64 b) := ya
    go_cut [9, 10, 11] (fun v9 v10 v11 wx => ∃ N p1 p2 p3 p4, v9 = .pointer (some ⟨N, 0, none⟩) ∧ v10 = .int .i64 0 ∧ v11 = .int .i64 0 ∧ Hid (Xm.RowN wx N #[.string ysp, .string ynm, .slice p1 yl.length p2, .slice p3 yks.length p4, .string ytx]) ∧ Hid (Xm.NodAt (fun q => q ≠ N) wx (.agg #[.string ysp, .string ynm, .slice p1 yl.length p2, .slice p3 yks.length p4, .string ytx]) (.mk ysp ynm yl yks ytx)) ∧ Hid (Flow.Grow w wx))
    case first =>
      go_region_held3 (fun w' => w'.cell? ⟨X + 1, 1, none⟩ = some (.int .i64 b))
        (first | with_reducible exact y1 | with_reducible exact y1d | with_reducible exact ya | with_reducible exact yb | with_reducible exact y5 | with_reducible exact (Xm.cell_grow (Flow.grow_alloc _ _) x5).trans y5 | with_reducible exact (cell_set5 hXne).trans y5 | with_reducible exact (cell_set5 (Nat.ne_of_lt x5)).trans ((Xm.cell_grow (Flow.grow_alloc _ _) x5).trans y5))
        (first
          | (go_at_call 7; rw [← hHU];
              refine (HPW.out _ (by first | with_reducible exact Flow.grow_drew _ | with_reducible exact grow_nd _)).mono ?_;
              rintro e w5 ⟨v, rfl, hy, hg5⟩; obtain ⟨p1, p2, p3, p4, rfl⟩ := hy.parts;
              first
              | (have hgA : Flow.Grow w3.drew w5 := by with_reducible exact hg5
                 have G5 := Lib.hid ((G3.out.trans (Flow.grow_drew w3)).trans hgA)
                 have H5 := Lib.hid hy
                 clear hy
                 have y5 := (Xm.cell_grow ((Flow.grow_drew w3).trans hgA) hX1).trans y1
                 have x5 := Nat.lt_of_lt_of_le hX1 ((Flow.grow_drew w3).trans hgA).size
                 clear hgA hg5)
              | (have hgB : Flow.Grow (w3.alloc (.cells #[.string ⟨#[]⟩, .string ⟨#[]⟩, .slice none 0 0, .slice none 0 0, .string ⟨#[]⟩] 25)).drew w5 := by with_reducible exact hg5
                 have G5 := Lib.hid hgB
                 have H5 : Hid (Xm.NodAt (fun g => (w3.alloc (.cells #[.string ⟨#[]⟩, .string ⟨#[]⟩, .slice none 0 0, .slice none 0 0, .string ⟨#[]⟩] 25)).drew.heap.size ≤ g ∧ g < w5.heap.size) w5 _ _) := Lib.hid (by with_reducible exact hy)
                 clear hy
                 have y5 := (Xm.cell_grow ((grow_nd w3).trans hgB) hX1).trans y1
                 have x5 := Nat.lt_of_lt_of_le hX1 ((grow_nd w3).trans hgB).size
                 obtain ⟨z0, z1, z2, z3, z4, zf⟩ := nd_new hgB
                 clear hgB hg5)))
      all_goals
        go_wp2_with fail
        go_meet
        case rel => exact ⟨_, p1, p2, p3, p4, rfl, rfl, rfl, by first | with_reducible exact nd_late H5.out G5.out | with_reducible exact nd_early H5.out G5.out G3.out⟩
    case rest =>
      obtain ⟨N, p1, p2, p3, p4, rfl, rfl, rfl, HR6, HN6, HG6⟩ := hcut
      rename World => w6
      clear ya yb y0 y1 hX1
      obtain ⟨r0, r1, r2, r3, r4, rf⟩ := nd_cells HR6.out
      by_cases h16 : yl.length < 16
      case neg =>
        have h16a : (16 : Int) ≤ (yl.length : Int) := by omega
        have h16b : ¬ (yl.length : Int) < 16 := by omega
        go_wp2_with (go_at_call 8; refine (awake7 _).mono ?_; rintro e w7 ⟨rfl, hg7⟩)
        go_ret
        exact ⟨rfl, HG6.out.trans hg7⟩
      case pos =>
        have h16a : ¬ (16 : Int) ≤ (yl.length : Int) := by omega
        have h16b : (yl.length : Int) < 16 := by omega
        obtain ⟨hmx, hdl⟩ := HUC.out _ HPT.out HCN.out
        obtain ⟨Y, hY⟩ : ∃ Y, Y = Xm.Nod.mk ysp ynm yl yks ytx := ⟨_, rfl⟩
        rw [← hY] at HN6 HND HDP HCN hmx hdl
        have HY := Lib.hid hY
        clear hY HPT HUC HP HU hHU
        have hsz : Xm.Szd Y := Xm.docN_szd (M := 200000) (by omega) HND.out ByteArray.empty [] hdl (by decide)
        have hmay : Xm.mayB Y = true := by
          have h1 := HDP.out
          have h2 := HCN.out
          unfold Xm.mayB
          rw [decide_eq_true h1, decide_eq_true (show Xm.cnt Y ≤ 2000 by omega), Xm.ndI_all HND.out hmx]
          rfl
        have hwt : Xm.wtext Y = str (Xm.docN Y ByteArray.empty []) := by
          unfold Xm.wtext
          rw [if_pos ⟨hmay, hdl⟩]
          rfl
        have HTx : Hid (∀ wq, Flow.Grow w6 wq → Calls Tryz.prog 6 #[.agg #[.string ysp, .string ynm, .slice p1 yl.length p2, .slice p3 yks.length p4, .string ytx]] wq fun e w' => e = .returned (.string (str (Xm.docN Y ByteArray.empty []))) ∧ Flow.Grow wq w') := Lib.hid (fun wq hq => by
          have h := wtext_any Y _ _ wq (by have := HCN.out; omega) (HN6.out.grow hq) hsz (Nat.le_trans hdl (by omega))
          rw [hwt] at h
          exact h)
        have HMa : Hid (∀ wq, Flow.Grow w6 wq → Calls Tryz.prog 9 #[.agg #[.string ysp, .string ynm, .slice p1 yl.length p2, .slice p3 yks.length p4, .string ytx]] wq fun e w' => e = .returned (.bool true) ∧ Flow.Grow wq w') := Lib.hid (fun wq hq => by
          have h := may_any Y _ _ wq (by have := HCN.out; omega) (HN6.out.grow hq) hsz
          rw [hmay] at h
          exact h)
        have HPT : Hid (Xm.parseT (str (Xm.docN Y ByteArray.empty [])) = .ok Y) := Lib.hid (Xm.docN_parseW HND.out hmx HDP.out (by have := HCN.out; omega))
        have HPC : Hid (∀ wq, Flow.Grow w6 wq → Calls Tryz.prog 7 #[.string (str (Xm.docN Y ByteArray.empty []))] wq (ParsePost (str (Xm.docN Y ByteArray.empty [])) wq)) := Lib.hid (fun wq hq =>
          parse_any _ (by rw [str_size]; omega) (Xm.docN_newW HND.out hdl) wq (HT.out.grow (HG6.out.trans hq)) (HM.out.grow (HG6.out.trans hq)))
        obtain ⟨V, hV⟩ : ∃ V, V = str (Xm.docN Y ByteArray.empty []) := ⟨_, rfl⟩
        rw [← hV] at HTx HPT HPC
        clear hV hsz hmay hwt hmx hdl HND HDP
        have RX : Hid (∀ wq, Flow.Grow w6 wq → wq.cell? ⟨N, 0, none⟩ = some (.string ysp) ∧ wq.cell? ⟨N, 1, none⟩ = some (.string ynm) ∧ wq.cell? ⟨N, 2, none⟩ = some (.slice p1 yl.length p2) ∧ wq.cell? ⟨N, 3, none⟩ = some (.slice p3 yks.length p4) ∧ wq.cell? ⟨N, 4, none⟩ = some (.string ytx)) := Lib.hid (fun wq h => by
          obtain ⟨g0, g1, g2, g3, g4, _⟩ := nd_cells (HR6.out.grow h)
          exact ⟨g0, g1, g2, g3, g4⟩)
        go_upto_region 6 with fail
        go_upto_region 7 with (first
          | (go_at_call 6; refine (HTx.out w6 (Flow.grow_refl _)).mono ?_; rintro e w7 ⟨rfl, hg7⟩; have K7 := Lib.hid hg7; clear hg7)
          | (go_at_call 7; refine (HPC.out w7 K7.out).mono ?_; rintro e w8 ⟨hg8, hp⟩; rw [HPT.out] at hp; obtain ⟨u, rfl, hu⟩ := hp; have hu' := hu; rw [HY.out] at hu'; obtain ⟨s1, s3, s2, s4, s5, s6, rfl⟩ := node_known hu'; clear hu'))
        have gB := Flow.grow_alloc w8 (.cells #[.string ysp, .string ynm, .slice s1 s2 s5, .slice s3 s4 s6, .string ytx] 25)
        have Y7 : Hid (Xm.RowN (w8.alloc (.cells #[.string ysp, .string ynm, .slice s1 s2 s5, .slice s3 s4 s6, .string ytx] 25)) w8.heap.size #[.string ysp, .string ynm, .slice s1 s2 s5, .slice s3 s4 s6, .string ytx]) := Lib.hid (heap_alloc_new w8 _)
        have U7 := Lib.hid (hu.grow gB)
        have K9 := Lib.hid ((K7.out.trans hg8).trans gB)
        obtain ⟨M, hM⟩ : ∃ M, M = w8.heap.size := ⟨_, rfl⟩
        rw [← hM] at Y7 ⊢
        clear hM gB hu hg8
        generalize w8.alloc (.cells #[.string ysp, .string ynm, .slice s1 s2 s5, .slice s3 s4 s6, .string ytx] 25) = w9 at *
        have RY : Hid (∀ wq, Flow.Grow w9 wq → wq.cell? ⟨M, 0, none⟩ = some (.string ysp) ∧ wq.cell? ⟨M, 1, none⟩ = some (.string ynm) ∧ wq.cell? ⟨M, 2, none⟩ = some (.slice s1 s2 s5) ∧ wq.cell? ⟨M, 3, none⟩ = some (.slice s3 s4 s6) ∧ wq.cell? ⟨M, 4, none⟩ = some (.string ytx)) := Lib.hid (fun wq h =>
          ⟨(cell_of_row wq M 0 _ _ _ (Y7.out.grow h)).trans rfl, (cell_of_row wq M 1 _ _ _ (Y7.out.grow h)).trans rfl, (cell_of_row wq M 2 _ _ _ (Y7.out.grow h)).trans rfl, (cell_of_row wq M 3 _ _ _ (Y7.out.grow h)).trans rfl, (cell_of_row wq M 4 _ _ _ (Y7.out.grow h)).trans rfl⟩)
        have HC : Hid (Xm.cnt Y ≤ 40) := Lib.hid (by have := HCN.out; omega)
        go_wp2_with (first
          | (go_at_call 8; refine (awake7 _).mono ?_; rintro e w10 ⟨rfl, hg10⟩; have K10 := Lib.hid hg10; clear hg10; obtain ⟨r0, r1, r2, r3, r4⟩ := RX.out w10 (K9.out.trans K10.out))
          | (go_at_call 9; refine (HMa.out w10 (K9.out.trans K10.out)).mono ?_; rintro e w11 ⟨rfl, hg11⟩; have K11 := Lib.hid (K10.out.trans hg11); clear hg11; obtain ⟨t0, t1, t2, t3, t4⟩ := RX.out w11 (K9.out.trans K11.out); obtain ⟨s0', s1', s2', s3', s4'⟩ := RY.out w11 K11.out)
          | (go_at_call 11; refine (same6_true 40 Y _ _ _ _ w11 HC.out (by omega) (HN6.out.grow (K9.out.trans K11.out)) (U7.out.grow K11.out)).mono ?_; rintro e w13 ⟨rfl, hg13⟩))
        go_ret
        exact ⟨rfl, ((HG6.out.trans K9.out).trans K11.out).trans hg13⟩
end Go.Proofs.YtdpkhmfolmcejaaGreatDoor
