/- drill.Dice.Below by its contract: it writes the dice's own cell alone. -/
import Derived.Test.YtmjonmahecdngaaOwn
import Derived.Test.YtmjonmahecdngaaFlow
import Derived.Test.YtmjonmahecdngaaBytes
import Derived.Test.YtmjonmahecdngaaProg
namespace Go.Proofs.Ytmjonmahecdngaa
open Go.RowKit

namespace Dice
/-- a dice lies in block g, at its head -/
def At (g : Nat) (w : World) : Prop := ∃ (x : Int) (t : TypeId), w.heap[g]? = some (.cells #[.int .u64 x] t (0, 0)) ∧ 0 ≤ x ∧ x < 18446744073709551616
/-- nothing turns but the dice's cell -/
def Rel (g : Nat) (w w' : World) : Prop := w.grownBy w' (some g) ∧ (At g w → At g w')
theorem rel_refl (g : Nat) (w : World) : Rel g w w := ⟨World.grownBy.refl w _, id⟩
theorem grow_row {w w' : World} (h : Flow.Grow w w') (r : Option Nat) : w.grownBy w' r := ⟨h.os, h.tape, h.output, h.size, fun i hi _ => h.block i hi (by simp)⟩
theorem rel_grow {g : Nat} {w w' : World} (h : Flow.Grow w w') : Rel g w w' := by
  refine ⟨grow_row h _, fun ⟨x, t, hx, h1, h2⟩ => ⟨x, t, ?_, h1, h2⟩⟩
  have hlt := (Array.getElem?_eq_some_iff.1 hx).1
  exact (h.block _ hlt (by simp)).trans hx
theorem rel_trans {g : Nat} {a b c : World} (h : Rel g a b) (k : Rel g b c) : Rel g a c :=
  ⟨⟨k.1.os.trans h.1.os, k.1.tape.trans h.1.tape, k.1.output.trans h.1.output, Nat.le_trans h.1.size k.1.size, fun i hi hne => (k.1.block i (Nat.lt_of_lt_of_le hi h.1.size) hne).trans (h.1.block i hi hne)⟩, fun h0 => k.2 (h.2 h0)⟩
theorem rel_heap {g b : Nat} {o : Obj} {w w' : World} (h : Rel g w w') (hb : b ≠ g) (hc : w.heap[b]? = some o) : w'.heap[b]? = some o := by
  have hlt := (Array.getElem?_eq_some_iff.1 hc).1
  exact (h.1.block _ hlt (by simpa using hb)).trans hc
theorem rel_cell {g b j : Nat} {v : Value} {w w' : World} (h : Rel g w w') (hb : b ≠ g) (hc : w.cell? ⟨b, j, none⟩ = some v) : w'.cell? ⟨b, j, none⟩ = some v := by
  have hlt := World.block_lt_of_cell? w _ hc
  exact (World.cell?_of_block (h.1.block _ hlt (by simpa using hb))).trans hc
end Dice

theorem heap_set0 {W : World} {B : Nat} {t : TypeId} {v : Value} (h : W.heap[B]? = some (.cells #[v] t (0, 0))) (v' : Value) : (W.setCell ⟨B, 0, none⟩ v').heap[B]? = some (.cells #[v'] t (0, 0)) := by
  obtain ⟨hlt, hk⟩ := Array.getElem?_eq_some_iff.1 h
  show (W.heap.modify B _)[B]? = _
  rw [Array.getElem?_eq_getElem (by rw [Array.size_modify]; exact hlt), Array.getElem_modify_self, hk]
  rfl
theorem grownBy_set0 (W : World) (b : Nat) (v : Value) : W.grownBy (W.setCell ⟨b, 0, none⟩ v) (some b) :=
  ⟨rfl, rfl, rfl, by simp [World.setCell], fun k _ hk => Below.heap_setCell _ _ _ k (fun e => hk (by rw [e]))⟩

set_option maxRecDepth 100000 in
set_option maxHeartbeats 400000 in
theorem below_any (g : Nat) (n : Int) (hn1 : 1 ≤ n) (hn2 : n ≤ 100000) (w : World) (h : Dice.At g w) :
    Calls Try.prog 23 #[.pointer (some ⟨g, 0, none⟩), .int .i64 n] w fun e w' => ∃ r : Int, e = .returned (.int .i64 r) ∧ 0 ≤ r ∧ r < n ∧ Dice.Rel g w w' := by
  obtain ⟨x, t, hb, h1, h2⟩ := h
  have hx : w.cell? ⟨g, 0, none⟩ = some (.int .u64 x) := by simp [World.cell?, hb]
  have hf : w.frozen? ⟨g, 0, none⟩ = false := by simp [World.frozen?, hb]
  have Hb := Lib.hid hb
  clear hb
  go_enter Try.func23, Try.ntmps23
  go_wp2_with fail
  go_ret
  have hy : ∀ y : Int, 0 ≤ IntKind.u64.wrap y ∧ IntKind.u64.wrap y < 18446744073709551616 := fun y => by
    simp only [IntKind.wrap, IntKind.bits, IntKind.signed]
    constructor
    · simp; omega
    · simp; omega
  have hz := hy (IntKind.u64.wrap (x * 6364136223846793005) + 1442695040888963407)
  generalize IntKind.u64.wrap (IntKind.u64.wrap (x * 6364136223846793005) + 1442695040888963407) = y at hz ⊢
  have hd : 0 ≤ y / 8589934592 ∧ y / 8589934592 < 2147483648 := by omega
  have hm1 : 0 ≤ (y / 8589934592).tmod n := Int.tmod_nonneg _ hd.1
  have hm2 : (y / 8589934592).tmod n < n := Int.tmod_lt_of_pos _ (by omega)
  have hw : wrap64 ((y / 8589934592).tmod n) = (y / 8589934592).tmod n := by
    generalize (y / 8589934592).tmod n = z at hm1 hm2 ⊢
    simp only [wrap64]
    omega
  rw [hw]
  refine ⟨_, rfl, hm1, hm2, ⟨grownBy_set0 _ _ _, fun _ => ⟨_, t, heap_set0 Hb.out _, hz.1, hz.2⟩⟩⟩
end Go.Proofs.Ytmjonmahecdngaa
