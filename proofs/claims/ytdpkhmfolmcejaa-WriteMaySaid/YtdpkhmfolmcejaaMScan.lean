/- scan.Scanner: what it is in a world; has, Wrong, Err, At, blanks, until by their contracts. -/
/- scan.Scanner: blanks, until, New by their contracts. -/
/- scan.Scanner: skip, attr by their contracts. -/
/- scan.Scanner: attr by its contract. -/
/- scan.Scanner: is a name among attributes. -/
/- scan.Scanner: tag by its contract. -/
/- scan.Scanner: Next by its contract. -/
/- scan: New, and what is told of no scanner, by their contracts; the law's awake. -/
/- space.Spaces: what it is in a world; Depth, Leave by their contracts. -/
/- space.Spaces: Enter by its contract. -/
/- tree: what a reader is in a world; space.New, tree.stop, next by their contracts. -/
/- tree: begin by its contract. -/
/- scan: the plain law of the scanner's contract: its pieces come to an end, or to an error at one of the bytes. -/
/- tree: what is read, as a plain function; how large it is. No program. -/
/- tree: what an element is in a world; Leave as it is deferred. -/
/- tree: element by its contract. -/
import Derived.Test.YtdpkhmfolmcejaaOpen
import Derived.Deep.QuietTactic
import Derived.BigQuiet
import Derived.Deep.DeepCutAuto
import Derived.StillTailTactics
import Derived.Deep.AppendLies
import Derived.Deep.RegionLaw
import Derived.WalkLawsBesides
namespace Go.Proofs.Ytdpkhmfolmcejaa
open Go.RowKit
namespace Xm
/-- nothing turns but a block -/
def Mv (w : World) (b : Nat) (w' : World) : Prop := w.grownBy w' (some b)
theorem Mv.refl (w : World) (b : Nat) : Mv w b w := ⟨rfl, rfl, rfl, Nat.le_refl _, fun _ _ _ => rfl⟩
theorem Mv.of {w w' : World} (b : Nat) (g : Flow.Grow w w') : Mv w b w' := ⟨g.os, g.tape, g.output, g.size, fun i hi _ => g.block i hi (by simp)⟩
theorem Mv.trans {w w1 w2 : World} {b : Nat} (h : Mv w b w1) (k : Mv w1 b w2) : Mv w b w2 :=
  ⟨k.os.trans h.os, k.tape.trans h.tape, k.output.trans h.output, Nat.le_trans h.size k.size, fun i hi hne => (k.block i (Nat.lt_of_lt_of_le hi h.size) hne).trans (h.block i hi hne)⟩
theorem Mv.set {w : World} {b q : Nat} {v : Value} : Mv w b (w.setCell ⟨b, q, none⟩ v) := ⟨rfl, rfl, rfl, by simp [World.setCell], fun i hi hne => Below.heap_setCell _ _ _ _ (fun e => hne (by rw [e]))⟩
theorem Tab.mv {w w' : World} {b : Nat} (h : Tab w) (g : Mv w b w') (hb : 1 < b) : Tab w' := ⟨Nat.lt_of_lt_of_le h.1 g.size, fun j v hv => by
  have := h.2 j v hv
  unfold World.cell? at this ⊢
  rw [g.block 1 h.1 (by simp; omega)]
  exact this⟩
/-- does a text begin with another one; .. at a place -/
def pre (t x : ByteArray) : Bool := decide (x.size ≤ t.size) && (t.extract 0 x.size).toList == x.toList
end Xm

end Go.Proofs.Ytdpkhmfolmcejaa
namespace Go.Proofs.Ytdpkhmfolmcejaa
open Go.RowKit
namespace Xm
/-- the library's variable is some number -/
def Max (w : World) : Prop := 0 < w.heap.size ∧ ∃ m, w.cell? ⟨0, 0, none⟩ = some (.int .i64 m)
theorem Max.mv {w w' : World} {b : Nat} (h : Max w) (g : Mv w b w') (hb : 1 < b) : Max w' := ⟨Nat.lt_of_lt_of_le h.1 g.size, by
  obtain ⟨m, hm⟩ := h.2
  refine ⟨m, ?_⟩
  unfold World.cell? at hm ⊢
  rw [g.block 0 h.1 (by simp; omega)]
  exact hm⟩
theorem Max.grow {w w' : World} (h : Max w) (g : Flow.Grow w w') : Max w' := h.mv (b := 2) (Mv.of 2 g) (by omega)
end Xm
end Go.Proofs.Ytdpkhmfolmcejaa
namespace Go.Proofs.Ytdpkhmfolmcejaa
open Go.RowKit
namespace Xm
/-- where a scanner is, what was wrong first, and where -/
structure P3 where
  k : Nat
  e : Int
  bad : Int
end Xm
end Go.Proofs.Ytdpkhmfolmcejaa
namespace Go.Proofs.Ytdpkhmfolmcejaa
open Go.RowKit
namespace Xm
theorem Mv.block' {w w' : World} {b q : Nat} (h : Mv w b w') (hq : q < w.heap.size) (hb : q ≠ b) : w'.heap[q]? = w.heap[q]? := h.block q hq (by simpa using hb)
theorem Mv.alloc {w w' : World} {b : Nat} (h : Mv w b w') (o : Obj) : Mv w b (w'.alloc o) := h.trans (Mv.of b (Flow.grow_alloc _ _))
end Xm

end Go.Proofs.Ytdpkhmfolmcejaa
namespace Go.Proofs.Ytdpkhmfolmcejaa
open Go.RowKit
namespace Xm
/-- attributes as cells -/
def attrCells (l : List (ByteArray × ByteArray)) : List Value := l.flatMap fun a => [.string a.1, .string a.2]
theorem attrCells_append (l m : List (ByteArray × ByteArray)) : attrCells (l ++ m) = attrCells l ++ attrCells m := by simp [attrCells]
theorem attrCells_get : ∀ (l : List (ByteArray × ByteArray)) (j : Nat) (a : ByteArray × ByteArray), l[j]? = some a → (attrCells l)[j * 2]? = some (.string a.1) ∧ (attrCells l)[j * 2 + 1]? = some (.string a.2)
  | [], j, a, h => by simp at h
  | x :: l, 0, a, h => by simp at h; subst h; exact ⟨rfl, rfl⟩
  | x :: l, j + 1, a, h => by
    have := attrCells_get l j a (by simpa using h)
    have e : attrCells (x :: l) = [.string x.1, .string x.2] ++ attrCells l := by simp [attrCells]
    rw [e, show (j + 1) * 2 = j * 2 + 2 by omega]
    exact ⟨by rw [List.getElem?_append_right (by simp)]; simpa using this.1, by rw [List.getElem?_append_right (by simp)]; simpa using this.2⟩
/-- a slice of attributes that can be read -/
def AttrsAt (w : World) (v : Value) (l : List (ByteArray × ByteArray)) : Prop :=
  (v = .slice none 0 0 ∧ l = []) ∨ ∃ g off cap, v = .slice (some ⟨g, off, none⟩) l.length cap ∧ l.length ≤ cap ∧ cap ≤ maxLen ∧ g < w.heap.size ∧ ∀ j u, (attrCells l)[j]? = some u → w.cell? ⟨g, off + j, none⟩ = some u
def named1 (na : ByteArray) (a : ByteArray × ByteArray) : Bool := a.1.toList == na.toList
theorem cell_grow {w w' : World} (g : Flow.Grow w w') {b o : Nat} (hb : b < w.heap.size) : w'.cell? ⟨b, o, none⟩ = w.cell? ⟨b, o, none⟩ := by
  unfold World.cell?
  rw [g.block b hb (by simp)]
end Xm
end Go.Proofs.Ytdpkhmfolmcejaa
namespace Go.Proofs.Ytdpkhmfolmcejaa
open Go.RowKit
namespace Xm
theorem Mv.row {w w1 w2 : World} {b : Nat} {row : Option Nat} (h : Mv w b w1) (k : w1.grownBy w2 row) (hr : ∀ g, row = some g → w.heap.size ≤ g) : Mv w b w2 :=
  ⟨k.os.trans h.os, k.tape.trans h.tape, k.output.trans h.output, Nat.le_trans h.size k.size, fun i hi hne => (k.block i (Nat.lt_of_lt_of_le hi h.size) (fun e => by have := hr i e.symm; omega)).trans (h.block i hi hne)⟩
def OwnA (w : World) (B : Nat) (v : Value) (l : List (ByteArray × ByteArray)) : Prop := w.ownsRow B 31 2 v l.length (attrCells l)
theorem OwnA.nil (w : World) (B : Nat) : OwnA w B (.slice none 0 0) [] := World.ownsRow_nil _ _ _ _
theorem OwnA.blk {w : World} {B : Nat} {v : Value} {l : List (ByteArray × ByteArray)} (h : OwnA w B v l) (q : Nat) (hq : q < B) : v.ownBlock ≠ some q := by
  rcases h.2 with ⟨rfl, _⟩ | ⟨g, cap, cur, rfl, hg, _⟩
  · simp [Value.ownBlock]
  · simp [Value.ownBlock]; omega
theorem OwnA.mv {w w' : World} {B b : Nat} {v : Value} {l : List (ByteArray × ByteArray)} (h : OwnA w B v l) (hm : Mv w b w') (hb : b < B) : OwnA w' B v l := World.ownsRow.kept h hm (.inr (h.blk b hb))
theorem OwnA.grow {w w' : World} {B : Nat} {v : Value} {l : List (ByteArray × ByteArray)} (h : OwnA w B v l) (hm : Flow.Grow w w') : OwnA w' B v l := World.ownsRow.kept h (row := none) hm (by cases v.ownBlock <;> simp)
theorem OwnA.set {w : World} {B q j : Nat} {v u : Value} {l : List (ByteArray × ByteArray)} (h : OwnA w B v l) (hb : q < B) : OwnA (w.setCell ⟨q, j, none⟩ u) B v l := h.mv Mv.set hb
theorem OwnA.at' {w : World} {B : Nat} {v : Value} {l : List (ByteArray × ByteArray)} (h : OwnA w B v l) : AttrsAt w v l := by
  rcases h.2 with ⟨hv, hn⟩ | ⟨g, cap, cur, hv, hg, hb, hnc, hcm, hcs, htake⟩
  · exact .inl ⟨by simpa using hv, List.eq_nil_of_length_eq_zero hn⟩
  · refine .inr ⟨g, 0, cap, hv, hnc, hcm, (Array.getElem?_eq_some_iff.1 hb).1, fun j u hu => ?_⟩
    have := World.ownsRow.cells h (g := g) (by rw [hv]; rfl) j u hu
    rw [Addr.add_lit, Nat.zero_add] at this
    rw [Nat.zero_add]; exact this
theorem OwnA.shape {w : World} {B : Nat} {v : Value} {l : List (ByteArray × ByteArray)} (h : OwnA w B v l) : ∃ ao cap, v = .slice ao l.length cap := by
  rcases h.2 with ⟨hv, hn⟩ | ⟨g, cap, cur, hv, _⟩
  · exact ⟨none, 0, by rw [hn]; simpa using hv⟩
  · exact ⟨_, cap, hv⟩
theorem AttrsAt.set {w : World} {v u : Value} {l : List (ByteArray × ByteArray)} {R j : Nat} (h : AttrsAt w v l) (hR : v.ownBlock ≠ some R) : AttrsAt (w.setCell ⟨R, j, none⟩ u) v l := by
  rcases h with h | ⟨g, off, cap, rfl, hlc, hcm, hg, hcell⟩
  · exact .inl h
  · refine .inr ⟨g, off, cap, rfl, hlc, hcm, by simpa [World.setCell] using hg, fun j' u' hu => ?_⟩
    have h1 := hcell j' u' hu
    have hne : g ≠ R := fun e => hR (by rw [e]; rfl)
    unfold World.cell? at h1 ⊢
    rw [Below.heap_setCell _ _ _ _ (by show g ≠ R; exact hne)]
    exact h1
theorem AttrsAt.shape {w : World} {v : Value} {l : List (ByteArray × ByteArray)} (h : AttrsAt w v l) : ∃ ao cap, v = .slice ao l.length cap := by
  rcases h with ⟨rfl, rfl⟩ | ⟨g, off, cap, rfl, _⟩
  · exact ⟨none, 0, rfl⟩
  · exact ⟨_, cap, rfl⟩
end Xm
theorem info_attr : (Try.prog.info? 31).map (fun i => (i.zero, i.size, i.bytes)) = some (some (.agg #[.string ByteArray.empty, .string ByteArray.empty]), 2, 32) := by kernel_rfl
end Go.Proofs.Ytdpkhmfolmcejaa
namespace Go.Proofs.Ytdpkhmfolmcejaa
open Go.RowKit
namespace Xm
/-- a piece -/
structure Pc where
  kind : Int
  name : ByteArray
  attrs : List (ByteArray × ByteArray)
  text : ByteArray
  at' : Int
def Pc.zero : Pc := ⟨0, ByteArray.empty, [], ByteArray.empty, 0⟩
/-- a piece as a value -/
def Pc.cells (x : Pc) (va : Value) : Array Value := #[.int .i64 x.kind, .string x.name, va, .string x.text, .int .i64 x.at']
end Xm
end Go.Proofs.Ytdpkhmfolmcejaa
namespace Go.Proofs.Ytdpkhmfolmcejaa
open Go.RowKit
namespace Xm
theorem Mv.grow {w w1 w2 : World} {b : Nat} (g : Flow.Grow w w1) (h : Mv w1 b w2) (hb : w.heap.size ≤ b) : Flow.Grow w w2 :=
  ⟨h.os.trans g.os, h.tape.trans g.tape, h.output.trans g.output, Nat.le_trans g.size h.size, fun i hi _ => (h.block i (Nat.lt_of_lt_of_le hi g.size) (by simp; omega)).trans (g.block i hi (by simp))⟩
theorem Mv.below {w w2 : World} {b : Nat} (h : Mv w b w2) {B : Nat} (hB : B ≤ w.heap.size) (hb : B ≤ b) : Below B w w2 := ⟨h.os, h.tape, h.output, h.size, fun i hi => h.block i (by omega) (by simp; omega)⟩
end Xm

end Go.Proofs.Ytdpkhmfolmcejaa
namespace Go.Proofs.Ytdpkhmfolmcejaa
open Go.RowKit
namespace Xm
/-- what a prefix stands for, from a depth on; the newest first -/
abbrev Bd := ByteArray × ByteArray × Nat
/-- what a step turns: some blocks, and the row of a slice of its own -/
structure Fr (S : Nat → Prop) (w : World) (lv : Value) (w' : World) (lv' : Value) : Prop where
  os : w'.os = w.os
  tape : w'.tape = w.tape
  output : w'.output = w.output
  size : w.heap.size ≤ w'.heap.size
  block : ∀ i, i < w.heap.size → ¬ S i → lv.ownBlock ≠ some i → w'.heap[i]? = w.heap[i]?
  mv : Moved w lv lv'
theorem Fr.refl (S : Nat → Prop) (w : World) (lv : Value) : Fr S w lv w lv := ⟨rfl, rfl, rfl, Nat.le_refl _, fun _ _ _ _ => rfl, .inl rfl⟩
theorem Fr.trans {S : Nat → Prop} {w w1 w2 : World} {a b c : Value} (h : Fr S w a w1 b) (k : Fr S w1 b w2 c) : Fr S w a w2 c :=
  ⟨k.os.trans h.os, k.tape.trans h.tape, k.output.trans h.output, Nat.le_trans h.size k.size, fun i hi hS ha => (k.block i (Nat.lt_of_lt_of_le hi h.size) hS (by
    rcases h.mv with e | ⟨g, e, hg⟩
    · rw [e]; exact ha
    · rw [e]; intro e2; cases e2; omega)).trans (h.block i hi hS ha), h.mv.trans k.mv h.size⟩
theorem Fr.mono {S T : Nat → Prop} {w w1 : World} {a b : Value} (h : Fr S w a w1 b) (hT : ∀ i, S i → T i) : Fr T w a w1 b :=
  ⟨h.os, h.tape, h.output, h.size, fun i hi hS ha => h.block i hi (fun s => hS (hT i s)) ha, h.mv⟩
theorem Fr.of {S : Nat → Prop} {w w1 : World} {a : Value} (g : Flow.Grow w w1) : Fr S w a w1 a := ⟨g.os, g.tape, g.output, g.size, fun i hi _ _ => g.block i hi (by simp), .inl rfl⟩
end Xm
end Go.Proofs.Ytdpkhmfolmcejaa
namespace Go.Proofs.Ytdpkhmfolmcejaa
open Go.RowKit
namespace Xm
/-- two slices that share no row -/
def Two (a b : Value) : Prop := ∀ g, a.ownBlock = some g → b.ownBlock ≠ some g
theorem Two.symm {a b : Value} (h : Two a b) : Two b a := fun g h1 h2 => h g h2 h1
theorem AttrsAt.fr {S : Nat → Prop} {w w' : World} {lv lv' v : Value} {l : List (ByteArray × ByteArray)} (h : AttrsAt w v l) (f : Fr S w lv w' lv') (hS : ∀ g, v.ownBlock = some g → ¬ S g ∧ lv.ownBlock ≠ some g) : AttrsAt w' v l := by
  rcases h with h | ⟨g, off, cap, rfl, hlc, hcm, hg, hcell⟩
  · exact .inl h
  · obtain ⟨h1, h2⟩ := hS g rfl
    refine .inr ⟨g, off, cap, rfl, hlc, hcm, Nat.lt_of_lt_of_le hg f.size, fun j u hu => ?_⟩
    have := hcell j u hu
    unfold World.cell? at this ⊢
    rw [f.block g hg h1 h2]
    exact this
def OwnL (w : World) (v : Value) (l : List (ByteArray × ByteArray)) : Prop := w.ownsRow 0 31 2 v l.length (attrCells l)
theorem OwnL.lt {w : World} {lv : Value} {l : List (ByteArray × ByteArray)} (h : OwnL w lv l) : ∀ g, lv.ownBlock = some g → g < w.heap.size := by
  intro g hg
  rcases h.2 with ⟨hv, _⟩ | ⟨g', cap, cur, hv, _, hgg, _⟩
  · rw [hv] at hg; cases hg
  · rw [hv] at hg; cases hg; exact (Array.getElem?_eq_some_iff.1 hgg).1
theorem OwnL.nil (w : World) : OwnL w (.slice none 0 0) [] := World.ownsRow_nil _ _ _ _
theorem OwnL.at' {w : World} {v : Value} {l : List (ByteArray × ByteArray)} (h : OwnL w v l) : AttrsAt w v l := OwnA.at' (B := 0) h
theorem OwnL.kept {w w' : World} {row : Option Nat} {v : Value} {l : List (ByteArray × ByteArray)} (h : OwnL w v l) (g : w.grownBy w' row) (hr : v.ownBlock = none ∨ v.ownBlock ≠ row) : OwnL w' v l := World.ownsRow.kept h g hr
theorem OwnL.grow {w w' : World} {v : Value} {l : List (ByteArray × ByteArray)} (h : OwnL w v l) (g : Flow.Grow w w') : OwnL w' v l := h.kept (row := none) g (by cases v.ownBlock <;> simp)
theorem Fr.row {S : Nat → Prop} {w w1 w2 : World} {a b : Value} {row : Option Nat} (h : Fr S w a w1 b) (k : w1.grownBy w2 row) (hr : ∀ g, row = some g → w.heap.size ≤ g) : Fr S w a w2 b :=
  ⟨k.os.trans h.os, k.tape.trans h.tape, k.output.trans h.output, Nat.le_trans h.size k.size, fun i hi hS ha => (k.block i (Nat.lt_of_lt_of_le hi h.size) (fun e => by have := hr i e.symm; omega)).trans (h.block i hi hS ha), h.mv⟩
theorem Fr.own {S : Nat → Prop} {w w1 w2 : World} {a b c : Value} (h : Fr S w a w1 b) (k : w1.grownBy w2 b.ownBlock) (m : Moved w1 b c) : Fr S w a w2 c :=
  h.trans ⟨k.os, k.tape, k.output, k.size, fun i hi _ hb => k.block i hi (fun e => hb e.symm), m⟩
theorem OwnL.shape {w : World} {v : Value} {l : List (ByteArray × ByteArray)} (h : OwnL w v l) : ∃ ao cap, v = .slice ao l.length cap := OwnA.shape (B := 0) h
end Xm
end Go.Proofs.Ytdpkhmfolmcejaa
namespace Go.Proofs.Ytdpkhmfolmcejaa
open Go.RowKit
namespace Xm
def xmlB : Bd := (⟨#[120, 109, 108]⟩, ⟨#[104, 116, 116, 112, 58, 47, 47, 119, 119, 119, 46, 119, 51, 46, 111, 114, 103, 47, 88, 77, 76, 47, 49, 57, 57, 56, 47, 110, 97, 109, 101, 115, 112, 97, 99, 101]⟩, 0)
def newB : List Bd := [(ByteArray.empty, ByteArray.empty, 0), xmlB]
theorem Mv.set5 {w : World} {q : Nat} {a b c d e : Value} : Mv w q (((((w.setCell ⟨q, 0, none⟩ a).setCell ⟨q, 1, none⟩ b).setCell ⟨q, 2, none⟩ c).setCell ⟨q, 3, none⟩ d).setCell ⟨q, 4, none⟩ e) :=
  (((Mv.set.trans Mv.set).trans Mv.set).trans Mv.set).trans Mv.set
theorem Fr.grow {S : Nat → Prop} {w w1 w2 : World} {a b : Value} (h : Fr S w a w1 b) (g : Flow.Grow w1 w2) : Fr S w a w2 b := h.trans (Fr.of g)
theorem AttrsAt.grow {w w' : World} {v : Value} {l : List (ByteArray × ByteArray)} (h : AttrsAt w v l) (g : Flow.Grow w w') : AttrsAt w' v l := h.fr (S := fun _ => False) (lv := .int .i64 0) (lv' := .int .i64 0) (Fr.of g) (fun _ _ => ⟨fun h => h, by simp [Value.ownBlock]⟩)
end Xm
end Go.Proofs.Ytdpkhmfolmcejaa
namespace Go.Proofs.Ytdpkhmfolmcejaa
open Go.RowKit
namespace Xm
def RowN (w : World) (q : Nat) (cs : Array Value) : Prop := w.heap[q]? = some (.cells cs 25 (0, 0))
theorem RowN.lt {w : World} {q : Nat} {cs : Array Value} (h : RowN w q cs) : q < w.heap.size := (Array.getElem?_eq_some_iff.1 h).1
theorem RowN.grow {w w' : World} {q : Nat} {cs : Array Value} (h : RowN w q cs) (hm : Flow.Grow w w') : RowN w' q cs := (hm.block q h.lt (by simp)).trans h
theorem RowN.mv {w w' : World} {b q : Nat} {cs : Array Value} (h : RowN w q cs) (hm : Mv w b w') (hb : q ≠ b) : RowN w' q cs := (hm.block' h.lt hb).trans h
theorem RowN.set {w : World} {q : Nat} {cs : Array Value} (h : RowN w q cs) (j : Nat) (v : Value) : RowN (w.setCell ⟨q, j, none⟩ v) q (cs.setIfInBounds j v) := heap_setCell_same w q j _ _ v h
end Xm
theorem setN {w : World} {R : Nat} {x0 x1 x2 x3 x4 : Value} (h : Xm.RowN w R #[x0, x1, x2, x3, x4]) (a b c d e : Value) :
    Xm.RowN (((((w.setCell ⟨R, 0, none⟩ a).setCell ⟨R, 1, none⟩ b).setCell ⟨R, 2, none⟩ c).setCell ⟨R, 3, none⟩ d).setCell ⟨R, 4, none⟩ e) R #[a, b, c, d, e] := by
  have h0 : Xm.RowN (w.setCell ⟨R, 0, none⟩ a) R #[a, x1, x2, x3, x4] := h.set 0 a
  have h1 : Xm.RowN ((w.setCell ⟨R, 0, none⟩ a).setCell ⟨R, 1, none⟩ b) R #[a, b, x2, x3, x4] := h0.set 1 b
  have h2 : Xm.RowN (((w.setCell ⟨R, 0, none⟩ a).setCell ⟨R, 1, none⟩ b).setCell ⟨R, 2, none⟩ c) R #[a, b, c, x3, x4] := h1.set 2 c
  have h3 : Xm.RowN ((((w.setCell ⟨R, 0, none⟩ a).setCell ⟨R, 1, none⟩ b).setCell ⟨R, 2, none⟩ c).setCell ⟨R, 3, none⟩ d) R #[a, b, c, d, x4] := h2.set 3 d
  exact h3.set 4 e
end Go.Proofs.Ytdpkhmfolmcejaa
namespace Go.Proofs.Ytdpkhmfolmcejaa
namespace Xm
/-- what may be wrong, and where -/
def OkE (s : ByteArray) (p : P3) : Prop := p.e = 0 ∨ ((p.e = 2 ∨ p.e = 3 ∨ p.e = 7) ∧ 0 ≤ p.bad ∧ p.bad ≤ s.size)
def St (s : ByteArray) (lo : Nat) (p : P3) : Prop := lo ≤ p.k ∧ p.k ≤ s.size ∧ OkE s p
theorem St.at' {s : ByteArray} {lo : Nat} {p : P3} (h : St s lo p) {k : Nat} (h0 : lo ≤ k) (h1 : k ≤ s.size) : St s lo ⟨k, p.e, p.bad⟩ := ⟨h0, h1, h.2.2⟩
end Xm
end Go.Proofs.Ytdpkhmfolmcejaa
namespace Go.Proofs.Ytdpkhmfolmcejaa
namespace Xm
/-- an element -/
inductive Nod where
  | mk (space name : ByteArray) (attrs : List (ByteArray × ByteArray)) (kids : List Nod) (text : ByteArray)
/-- what a reading knows -/
structure Rs where
  st : P3
  R : List Bd
  d : Nat
  n : Nat
structure Sized (s : ByteArray) (q : Pc) : Prop where
  name : q.name.size ≤ s.size
  len : q.attrs.length ≤ 17
  attrs : ∀ a ∈ q.attrs, a.1.size ≤ s.size
  text : q.text.size ≤ 4 * s.size
theorem Sized.zero (s : ByteArray) : Sized s Pc.zero := ⟨Nat.zero_le _, Nat.zero_le _, fun a h => (by cases h), Nat.zero_le _⟩
end Xm
end Go.Proofs.Ytdpkhmfolmcejaa
namespace Go.Proofs.Ytdpkhmfolmcejaa
open Go.RowKit
namespace Xm
/-- five cells of an element -/
abbrev V5 := Value × Value × Value × Value × Value
def V5.agg (v : V5) : Value := .agg #[v.1, v.2.1, v.2.2.1, v.2.2.2.1, v.2.2.2.2]
def V5.cells (v : V5) : List Value := [v.1, v.2.1, v.2.2.1, v.2.2.2.1, v.2.2.2.2]
def flat (vs : List V5) : List Value := vs.flatMap V5.cells
theorem flat_append (a b : List V5) : flat (a ++ b) = flat a ++ flat b := by simp [flat]
/-- an element in a world, its rows in blocks of a kind -/
inductive NodAt (F : Nat → Prop) (w : World) : Value → Nod → Prop
  | mk (sp nm tx : ByteArray) (av kv : Value) (l : List (ByteArray × ByteArray)) (ks : List Nod) (vs : List V5) (g off : Nat) (ha : AttrsAt w av l) (haF : ∀ q, av.ownBlock = some q → F q)
      (hk : (ks = [] ∧ ∃ a c, kv = .slice a 0 c) ∨ ∃ cap, kv = .slice (some ⟨g, off, none⟩) ks.length cap ∧ ks.length ≤ cap ∧ cap ≤ maxLen ∧ g < w.heap.size ∧ F g)
      (hl : vs.length = ks.length) (hc : ks ≠ [] → ∀ j u, (flat vs)[j]? = some u → w.cell? ⟨g, off + j, none⟩ = some u)
      (hn : ∀ (j : Nat) (y : Nod) (v : V5), ks[j]? = some y → vs[j]? = some v → NodAt F w (V5.agg v) y) : NodAt F w (.agg #[.string sp, .string nm, av, kv, .string tx]) (.mk sp nm l ks tx)
theorem AttrsAt.keep {w w' : World} {v : Value} {l : List (ByteArray × ByteArray)} (h : AttrsAt w v l) (hs : w.heap.size ≤ w'.heap.size) (hb : ∀ g, v.ownBlock = some g → g < w.heap.size → w'.heap[g]? = w.heap[g]?) : AttrsAt w' v l := by
  rcases h with h | ⟨g, off, cap, rfl, hlc, hcm, hg, hcell⟩
  · exact .inl h
  · refine .inr ⟨g, off, cap, rfl, hlc, hcm, Nat.lt_of_lt_of_le hg hs, fun j u hu => ?_⟩
    have := hcell j u hu
    unfold World.cell? at this ⊢
    rw [hb g rfl hg]
    exact this
theorem NodAt.keep {F F' : Nat → Prop} {w w' : World} {v : Value} {x : Nod} (h : NodAt F w v x) (hs : w.heap.size ≤ w'.heap.size) (hb : ∀ g, F g → g < w.heap.size → w'.heap[g]? = w.heap[g]?) (hF : ∀ g, F g → g < w.heap.size → F' g) (ha : ∀ g, F g → g < w.heap.size) : NodAt F' w' v x := by
  induction h with
  | mk sp nm tx av kv l ks vs g off hA haF hk hl hc hn ih =>
    refine .mk sp nm tx av kv l ks vs g off (hA.keep hs (fun q hq hlt => hb q (haF q hq) hlt)) (fun q hq => hF q (haF q hq) (ha q (haF q hq))) ?_ hl ?_ ih
    · rcases hk with hk | ⟨cap, h1, h2, h3, h4, h5⟩
      · exact .inl hk
      · exact .inr ⟨cap, h1, h2, h3, Nat.lt_of_lt_of_le h4 hs, hF g h5 h4⟩
    · intro hne j u hu
      rcases hk with ⟨h0, _⟩ | ⟨cap, h1, h2, h3, h4, h5⟩
      · exact absurd h0 hne
      · have := hc hne j u hu
        unfold World.cell? at this ⊢
        rw [hb g h5 h4]
        exact this
/-- kids that a row of the call's own holds -/
def OwnK (w : World) (kv : Value) (vs : List V5) : Prop := w.ownsRow 0 25 5 kv vs.length (flat vs)
def Kids (F : Nat → Prop) (w : World) (ks : List Nod) (vs : List V5) : Prop := vs.length = ks.length ∧ ∀ (j : Nat) (y : Nod) (v : V5), ks[j]? = some y → vs[j]? = some v → NodAt F w (V5.agg v) y
theorem Kids.keep {F F' : Nat → Prop} {w w' : World} {ks : List Nod} {vs : List V5} (h : Kids F w ks vs) (hs : w.heap.size ≤ w'.heap.size) (hb : ∀ g, F g → g < w.heap.size → w'.heap[g]? = w.heap[g]?) (hF : ∀ g, F g → g < w.heap.size → F' g) (ha : ∀ g, F g → g < w.heap.size) : Kids F' w' ks vs :=
  ⟨h.1, fun j y v h1 h2 => (h.2 j y v h1 h2).keep hs hb hF ha⟩
theorem Kids.nil (F : Nat → Prop) (w : World) : Kids F w [] [] := ⟨rfl, fun j y v h => by simp at h⟩
theorem Kids.push {F : Nat → Prop} {w : World} {ks : List Nod} {vs : List V5} {y : Nod} {v : V5} (h : Kids F w ks vs) (hv : NodAt F w (V5.agg v) y) : Kids F w (ks ++ [y]) (vs ++ [v]) := by
  refine ⟨by simp [h.1], fun j y' v' h1 h2 => ?_⟩
  by_cases hj : j < ks.length
  · rw [List.getElem?_append_left hj] at h1
    rw [List.getElem?_append_left (by rw [h.1]; exact hj)] at h2
    exact h.2 j y' v' h1 h2
  · rw [List.getElem?_append_right (by omega)] at h1
    rw [List.getElem?_append_right (by rw [h.1]; omega), h.1] at h2
    obtain ⟨rfl, hj0⟩ : y' = y ∧ j - ks.length = 0 := by
      cases hz : j - ks.length with
      | zero => rw [hz] at h1; simp at h1; exact ⟨h1.symm, rfl⟩
      | succ m => rw [hz] at h1; simp at h1
    rw [hj0] at h2
    simp at h2
    rw [← h2]
    exact hv
theorem OwnK.nil (w : World) : OwnK w (.slice none 0 0) [] := World.ownsRow_nil _ _ _ _
theorem OwnK.kept {w w' : World} {row : Option Nat} {kv : Value} {vs : List V5} (h : OwnK w kv vs) (g : w.grownBy w' row) (hr : kv.ownBlock = none ∨ kv.ownBlock ≠ row) : OwnK w' kv vs := World.ownsRow.kept h g hr
theorem OwnK.grow {w w' : World} {kv : Value} {vs : List V5} (h : OwnK w kv vs) (g : Flow.Grow w w') : OwnK w' kv vs := h.kept (row := none) g (by cases kv.ownBlock <;> simp)
theorem OwnK.mv {w w' : World} {kv : Value} {vs : List V5} {q : Nat} (h : OwnK w kv vs) (g : Mv w q w') (hq : kv.ownBlock ≠ some q) : OwnK w' kv vs := h.kept g (.inr hq)
theorem OwnK.lt {w : World} {kv : Value} {vs : List V5} (h : OwnK w kv vs) : ∀ g, kv.ownBlock = some g → g < w.heap.size := by
  intro g hg
  rcases h.2 with ⟨hv, _⟩ | ⟨g', cap, cur, hv, _, hgg, _⟩
  · rw [hv] at hg; cases hg
  · rw [hv] at hg; cases hg; exact (Array.getElem?_eq_some_iff.1 hgg).1
theorem OwnK.shape {w : World} {kv : Value} {vs : List V5} (h : OwnK w kv vs) : ∃ a cap, kv = .slice a vs.length cap := by
  rcases h.2 with ⟨hv, hn⟩ | ⟨g, cap, cur, hv, _⟩
  · exact ⟨none, 0, by rw [hn]; exact hv⟩
  · exact ⟨_, cap, hv⟩
/-- an element out of its parts -/
theorem NodAt.of {F : Nat → Prop} {w : World} {sp nm tx : ByteArray} {av kv : Value} {l : List (ByteArray × ByteArray)} {ks : List Nod} {vs : List V5} (ha : AttrsAt w av l) (haF : ∀ q, av.ownBlock = some q → F q) (hO : OwnK w kv vs) (hk : ∀ q, kv.ownBlock = some q → F q) (hK : Kids F w ks vs) :
    NodAt F w (.agg #[.string sp, .string nm, av, kv, .string tx]) (.mk sp nm l ks tx) := by
  have hlen := hK.1
  rcases hO.2 with ⟨hv, hn⟩ | ⟨g, cap, cur, hv, _, hgg, hnc, hcm, hcs, htake⟩
  · have h0 : ks = [] := List.eq_nil_of_length_eq_zero (by omega)
    subst h0
    exact .mk sp nm tx av kv l [] vs 0 0 ha haF (.inl ⟨rfl, none, 0, hv⟩) hlen (fun h => absurd rfl h) hK.2
  · refine .mk sp nm tx av kv l ks vs g 0 ha haF (.inr ⟨cap, by rw [← hlen]; exact hv, by omega, hcm, (Array.getElem?_eq_some_iff.1 hgg).1, hk g (by rw [hv]; rfl)⟩) hlen (fun _ j u hu => ?_) hK.2
    have := World.ownsRow.cells hO (g := g) (by rw [hv]; rfl) j u hu
    rw [Addr.add_lit, Nat.zero_add] at this
    rw [Nat.zero_add]; exact this
end Xm
end Go.Proofs.Ytdpkhmfolmcejaa
namespace Go.Proofs.Ytdpkhmfolmcejaa
open Go.RowKit
namespace Xm
theorem NodAt.form {F : Nat → Prop} {w : World} {v : Value} {x : Nod} (h : NodAt F w v x) : ∃ (sp nm tx : ByteArray) (a1 a2 : Option Addr) (n1 n2 c1 c2 : Nat), v = V5.agg (.string sp, .string nm, .slice a1 n1 c1, .slice a2 n2 c2, .string tx) := by
  cases h with
  | mk sp nm tx av kv l ks vs g off hA haF hk hl hc hn =>
    obtain ⟨ao, cap, rfl⟩ := hA.shape
    rcases hk with ⟨_, a, c, rfl⟩ | ⟨cap2, rfl, _⟩
    · exact ⟨sp, nm, tx, ao, a, _, _, _, _, rfl⟩
    · exact ⟨sp, nm, tx, ao, _, _, _, _, _, rfl⟩
theorem AttrsAt.lt {w : World} {v : Value} {l : List (ByteArray × ByteArray)} (h : AttrsAt w v l) : ∀ g, v.ownBlock = some g → g < w.heap.size := by
  intro g hg
  rcases h with ⟨rfl, _⟩ | ⟨g', off, cap, rfl, _, _, hlt, _⟩
  · cases hg
  · cases hg; exact hlt
end Xm
namespace Xm
section
end
end Xm
end Go.Proofs.Ytdpkhmfolmcejaa
