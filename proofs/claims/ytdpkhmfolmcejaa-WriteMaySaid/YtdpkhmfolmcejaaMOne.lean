/- chars.Split by its contract. -/
/- entity.digit, number, named, One by their contracts. -/
/- entity.number, One by their contracts. -/
import Derived.Test.YtdpkhmfolmcejaaName
import Derived.Test.YtdpkhmfolmcejaaMFlow
namespace Go.Proofs.Ytdpkhmfolmcejaa
open Go.RowKit
namespace Xm
/-- where the first colon stands, from a place on -/
def col (s : ByteArray) (k : Nat) : Nat := if k < s.size then (if bt s k = 58 then k else col s (k + 1)) else s.size
  termination_by s.size - k
def split (s : ByteArray) : ByteArray × ByteArray × Bool :=
  if col s 0 < s.size then (cut s 0 (col s 0), cut s (col s 0 + 1) s.size, name (cut s 0 (col s 0)) && name (cut s (col s 0 + 1) s.size)) else (ByteArray.empty, s, name s)
end Xm
end Go.Proofs.Ytdpkhmfolmcejaa
namespace Go.Proofs.Ytdpkhmfolmcejaa
open Go.RowKit
namespace Xm
theorem ne_f {a b : ByteArray} (h : ¬ a = b) : (a.toList == b.toList) = false := by
  rw [beq_eq_false_iff_ne]
  intro e
  rw [ByteArray.toList_eq, ByteArray.toList_eq] at e
  exact h (ByteArray.ext (Array.ext' e))
def tabN : List (ByteArray × Int) := [(⟨#[97, 109, 112]⟩, 38), (⟨#[108, 116]⟩, 60), (⟨#[103, 116]⟩, 62), (⟨#[113, 117, 111, 116]⟩, 34), (⟨#[97, 112, 111, 115]⟩, 39)]
def tabV : List Value := tabN.flatMap fun p => [.string p.1, .int .i64 p.2]
/-- the table of names is there -/
def Tab (w : World) : Prop := 1 < w.heap.size ∧ ∀ j v, tabV[j]? = some v → w.cell? ⟨1, j, none⟩ = some v
def find (s : ByteArray) : List (ByteArray × Int) → Int
  | [] => 0
  | p :: l => if p.1 = s then p.2 else find s l
def named (s : ByteArray) : Int := find s tabN
theorem Tab.grow {w w' : World} (h : Tab w) (g : Flow.Grow w w') : Tab w' := ⟨Nat.lt_of_lt_of_le h.1 g.size, fun j v hv => by
  have := h.2 j v hv
  unfold World.cell? at this ⊢
  rw [g.block 1 h.1 (by simp)]
  exact this⟩
end Xm
namespace Xm
def digit (c base : Int) : Int := if 48 ≤ c ∧ c ≤ 57 then c - 48 else if base = 16 ∧ 97 ≤ c ∧ c ≤ 102 then c - 87 else if base = 16 ∧ 65 ≤ c ∧ c ≤ 70 then c - 55 else -1
/-- the number of digits, from a place on; -1: one is none -/
def digits (s : ByteArray) (base : Int) (k : Nat) (n : Int) : Int := if k < s.size then (if digit (bt s k) base < 0 then -1 else digits s base (k + 1) (n * base + digit (bt s k) base)) else n
  termination_by s.size - k
def num1 (s : ByteArray) (base : Int) : Int := if s.size = 0 ∨ 8 < s.size then 0 else if digits s base 0 0 < 0 then 0 else if letter (digits s base 0 0) = true then digits s base 0 0 else 0
def number (s : ByteArray) : Int := if 0 < s.size ∧ bt s 0 = 120 then num1 (cut s 1 s.size) 16 else num1 s 10
def one (s : ByteArray) : Int := if 0 < s.size ∧ bt s 0 = 35 then number (cut s 1 s.size) else named s
end Xm

end Go.Proofs.Ytdpkhmfolmcejaa
namespace Go.Proofs.Ytdpkhmfolmcejaa
open Go.RowKit
theorem Flow.grow_drewN (w : World) (n : Nat) : Flow.Grow w (w.drewN n) := ⟨rfl, rfl, rfl, Nat.le_refl _, fun _ _ _ => rfl⟩
namespace Xm
end Xm
end Go.Proofs.Ytdpkhmfolmcejaa
