/- galliardlaw06.TreeBad: what is no document; the law's awake; the walk. -/
/- galliardlaw06.TreeBack: the walk. -/
import Derived.Test.YtdpkhmfolmcejaaGreatDoorMTr
import Derived.Test.YtdpkhmfolmcejaaGreatDoorMBack
import Derived.Test.YtdpkhmfolmcejaaGreatDoorNear
import Derived.Test.YtdpkhmfolmcejaaGreatDoorMDo
import Derived.Test.YtdpkhmfolmcejaaGreatDoorSame6
import Derived.Test.YtdpkhmfolmcejaaGreatDoorTSame
import Derived.Deep.DeepCutAuto
namespace Go.Proofs.YtdpkhmfolmcejaaGreatDoor
open Go.RowKit
namespace Xm
def tbDocs : List ByteArray := [⟨#[]⟩, ⟨#[97]⟩, ⟨#[60, 97, 62]⟩, ⟨#[60, 97, 47, 62, 60, 98, 47, 62]⟩, ⟨#[60, 97, 62, 60, 47, 98, 62]⟩, ⟨#[60, 97, 62, 120, 60, 98, 47, 62, 60, 47, 97, 62]⟩, ⟨#[60, 112, 58, 97, 47, 62]⟩, ⟨#[60, 97, 32, 112, 58, 98, 61, 39, 39, 47, 62]⟩, ⟨#[60, 47, 97, 62]⟩, ⟨#[60, 97, 47, 62, 120]⟩, ⟨#[60, 97, 32, 120, 109, 108, 110, 115, 58, 112, 61, 39, 39, 47, 62]⟩, ⟨#[60, 97, 62, 38, 60, 47, 97, 62]⟩, ⟨#[60, 97, 32, 120, 109, 108, 110, 115, 58, 120, 109, 108, 61, 39, 117, 39, 47, 62]⟩, ⟨#[60, 97, 32, 98, 61, 39, 49, 39, 32, 98, 61, 39, 50, 39, 47, 62]⟩, ⟨#[60, 97, 62, 60, 98, 62]⟩, ⟨#[60, 97, 62, 0, 60, 47, 97, 62]⟩]
def tbAts : List Int := [0, 0, 3, 4, 3, 0, 0, 0, 0, 4, 0, 3, 0, 9, 6, 3]
def tbErrs : List Int := [3, 3, 3, 3, 3, 3, 3, 3, 3, 3, 3, 3, 3, 7, 3, 3]
def tbDoc (j : Nat) : ByteArray := tbDocs.getD j ByteArray.empty
def tbAt (j : Nat) : Int := tbAts.getD j 0
def tbErr (j : Nat) : Int := tbErrs.getD j 0
structure TbRows (w : World) (A : Nat) : Prop where
  doc : ∀ j, j < 16 → w.cell? ⟨A, j, none⟩ = some (.string (tbDoc j))
  at' : ∀ j, j < 16 → w.cell? ⟨A + 1, j, none⟩ = some (.int .i64 (tbAt j))
  err : ∀ j, j < 16 → w.cell? ⟨A + 1 + 1, j, none⟩ = some (.int .i64 (tbErr j))
  lt : A + 1 + 1 < w.heap.size
theorem TbRows.grow {w w' : World} {A : Nat} (h : TbRows w A) (g : Flow.Grow w w') : TbRows w' A := by
  have hl := h.lt
  exact ⟨fun j hj => (cell_grow g (by show A < _; omega)).trans (h.doc j hj), fun j hj => (cell_grow g (by show A + 1 < _; omega)).trans (h.at' j hj), fun j hj => (cell_grow g hl).trans (h.err j hj), Nat.lt_of_lt_of_le hl g.size⟩
end Xm
theorem node_known {F : Nat → Prop} {w : World} {v : Value} {sp nm tx : ByteArray} {l : List (ByteArray × ByteArray)} {ks : List Xm.Nod} (h : Xm.NodAt F w v (.mk sp nm l ks tx)) : ∃ (a1 a2 : Option Addr) (n1 n2 c1 c2 : Nat), v = .agg #[.string sp, .string nm, .slice a1 n1 c1, .slice a2 n2 c2, .string tx] := by
  cases h with
  | mk sp nm tx av kv l ks vs g off hA haF hk hl hc hn =>
    obtain ⟨ao, cap, rfl⟩ := hA.shape
    rcases hk with ⟨_, a, c, rfl⟩ | ⟨cap2, rfl, _⟩
    · exact ⟨_, _, _, _, _, _, rfl⟩
    · exact ⟨_, _, _, _, _, _, rfl⟩
end Go.Proofs.YtdpkhmfolmcejaaGreatDoor
namespace Go.Proofs.YtdpkhmfolmcejaaGreatDoor
open Go.RowKit
namespace Xm
theorem nice_le : ∀ (d : Nat) (y : Nod), d ≤ 4 → Nice d y → cnt y ≤ 40 := by
  intro d y hd h
  rcases (show d = 0 ∨ d = 1 ∨ d = 2 ∨ d = 3 ∨ d = 4 by omega) with rfl | rfl | rfl | rfl | rfl
  · cases h
  · have := nice_cnt1 y h; omega
  · have := nice_cnt2 y h; omega
  · have := nice_cnt3 y h; omega
  · obtain ⟨sp, nm, l, ks, tx⟩ := y
    obtain ⟨_, _, _, hk, hks, _⟩ := h
    have := nice_cntL 13 ks fun y hy => nice_cnt3 y (hks y hy)
    rw [cnt]; omega
def atN : Nod → List (ByteArray × ByteArray)
  | .mk _ _ l _ _ => l
theorem NodAt.attrs {F : Nat → Prop} {w : World} {v : Value} {x : Nod} (h : NodAt F w v x) (sp nm tx : ByteArray) (av kv : Value) (e : v = .agg #[.string sp, .string nm, av, kv, .string tx]) : AttrsAt w av (atN x) ∧ ∃ a n c, kv = .slice a n c := by
  cases h with
  | mk sp' nm' tx' av' kv' l ks vs g off hA haF hk hl hc hn =>
    simp at e
    obtain ⟨rfl, rfl, rfl, rfl, rfl⟩ := e
    refine ⟨hA, ?_⟩
    rcases hk with ⟨_, a, c, rfl⟩ | ⟨c, rfl, _⟩
    · exact ⟨_, _, _, rfl⟩
    · exact ⟨_, _, _, rfl⟩
end Xm
end Go.Proofs.YtdpkhmfolmcejaaGreatDoor
