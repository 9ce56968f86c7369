/- entity.Open by its contract. -/
import Derived.Test.YtdpkhmfolmcejaaUput
import Derived.Test.YtdpkhmfolmcejaaBuilder2
namespace Go.Proofs.Ytdpkhmfolmcejaa
open Go.RowKit
namespace Xm
end Xm
theorem run_cut (s : ByteArray) (a b : Nat) (h1 : a ≤ b) (h2 : b ≤ s.size) (x y : Int) (hx : x = a) (hy : y = b) (w : World) :
    (Instr.slice 9 (.string s) (some (.int .i64 x)) (some (.int .i64 y)) none).run Try.prog w = .ok (.string (s.extract a b)) w := by
  subst hx hy
  simp [Instr.slice, run_underlying Try.underlying9, Sem.run_bind, Instr.sliceBounds, Instr.sliceBound, asIntOf, h1, h2]
theorem bat_grow {T e : TypeId} {B b : Nat} {p : Value} {bs : List Value} {w w' : World} (h : Lib.BuilderAt T e B b p bs w) (g : Flow.Grow w w') : Lib.BuilderAt T e B b p bs w' := by
  have hlt := h.lt
  obtain ⟨hB, v, hb, hown, hne⟩ := h
  exact ⟨hB, v, by rw [g.block b hlt (by simp)]; exact hb, hown.kept (row := none) g (by cases h : v.ownBlock with | none => exact .inl rfl | some b => exact .inr (by simp)), hne⟩
theorem isB_grow {T e : TypeId} {B b : Nat} {bs : List Value} {w w' : World} (h : Lib.IsBuilder T e B b bs w) (g : Flow.Grow w w') : Lib.IsBuilder T e B b bs w' := h.imp (fun h => bat_grow h g) (fun h => bat_grow h g)
theorem strCells_str (l : List UInt8) : Lib.strCells (str l) = Lib.byteCells l := rfl
end Go.Proofs.Ytdpkhmfolmcejaa
