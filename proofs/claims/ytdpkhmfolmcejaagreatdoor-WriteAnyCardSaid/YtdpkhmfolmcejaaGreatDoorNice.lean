/- An element that comes in, as far as it is read; elements of few of each. No program. -/
import Derived.Test.YtdpkhmfolmcejaaGreatDoorMT3
import Derived.Test.YtdpkhmfolmcejaaGreatDoorMRead
import Derived.Test.YtdpkhmfolmcejaaGreatDoorMRef
import Derived.Test.YtdpkhmfolmcejaaGreatDoorMFlow
import Derived.Deep.DeepCutAuto
namespace Go.Proofs.YtdpkhmfolmcejaaGreatDoor
open Go.RowKit
namespace Xm
/-- an element that came in -/
inductive ArgN (w : World) : Value → Prop
  | mk (sp nm tx : ByteArray) (a1 a2 : Option Addr) (n1 c1 n2 c2 : Nat) (f : Nat → ByteArray × ByteArray) (h : Nat → V5) (hsp : sp.size ≤ 9223372036854775807) (hnm : nm.size ≤ 9223372036854775807) (htx : tx.size ≤ 9223372036854775807)
      (h1 : ∀ i, i < n1 → ∃ (g off : Nat), a1 = some ⟨g, off, none⟩ ∧ g < w.heap.size ∧ w.cell? ⟨g, off + i * 2, none⟩ = some (.string (f i).1) ∧ w.cell? ⟨g, off + i * 2 + 1, none⟩ = some (.string (f i).2) ∧ (f i).1.size ≤ 9223372036854775807 ∧ (f i).2.size ≤ 9223372036854775807)
      (h2 : ∀ i, i < n2 → ∃ (g off : Nat), a2 = some ⟨g, off, none⟩ ∧ g < w.heap.size ∧ w.cell? ⟨g, off + i * 5, none⟩ = some (h i).1 ∧ w.cell? ⟨g, off + i * 5 + 1, none⟩ = some (h i).2.1 ∧ w.cell? ⟨g, off + i * 5 + 2, none⟩ = some (h i).2.2.1 ∧ w.cell? ⟨g, off + i * 5 + 3, none⟩ = some (h i).2.2.2.1 ∧ w.cell? ⟨g, off + i * 5 + 4, none⟩ = some (h i).2.2.2.2)
      (h3 : ∀ i, i < n2 → ArgN w (V5.agg (h i))) : ArgN w (.agg #[.string sp, .string nm, .slice a1 n1 c1, .slice a2 n2 c2, .string tx])
theorem ArgN.grow {w w' : World} {v : Value} (h : ArgN w v) (g : Flow.Grow w w') : ArgN w' v := by
  induction h with
  | mk sp nm tx a1 a2 n1 c1 n2 c2 f k hsp hnm htx h1 h2 h3 ih =>
    refine .mk sp nm tx a1 a2 n1 c1 n2 c2 f k hsp hnm htx (fun i hi => ?_) (fun i hi => ?_) ih
    · obtain ⟨b, off, e1, e2, e3, e4, e5⟩ := h1 i hi
      exact ⟨b, off, e1, Nat.lt_of_lt_of_le e2 g.size, (cell_grow g e2).trans e3, (cell_grow g e2).trans e4, e5⟩
    · obtain ⟨b, off, e1, e2, e3, e4, e5, e6, e7⟩ := h2 i hi
      exact ⟨b, off, e1, Nat.lt_of_lt_of_le e2 g.size, (cell_grow g e2).trans e3, (cell_grow g e2).trans e4, (cell_grow g e2).trans e5, (cell_grow g e2).trans e6, (cell_grow g e2).trans e7⟩
theorem ArgN.form {w : World} {v : Value} (h : ArgN w v) : ∃ (sp nm tx : ByteArray) (a1 a2 : Option Addr) (n1 c1 n2 c2 : Nat), v = .agg #[.string sp, .string nm, .slice a1 n1 c1, .slice a2 n2 c2, .string tx] := by
  cases h
  exact ⟨_, _, _, _, _, _, _, _, _, rfl⟩
/-- attributes of few letters -/
def NiceA (l : List (List UInt8 × List UInt8)) : Prop := l.length ≤ 3 ∧ ∀ j a, l[j]? = some a → ∃ n, a.1 = n ++ [UInt8.ofNat (65 + j)] ∧ Nl n ∧ n.length ≤ 7 ∧ Vt a.2 ∧ a.2.length ≤ 9
theorem NiceA.nil : NiceA [] := ⟨Nat.zero_le _, fun j a h => by simp at h⟩
theorem NiceA.snoc {l : List (List UInt8 × List UInt8)} {n v : List UInt8} (h : NiceA l) (hl : l.length < 3) (hn : Nl n) (hn7 : n.length ≤ 7) (hv : Vt v) (hv9 : v.length ≤ 9) : NiceA (l ++ [(n ++ [UInt8.ofNat (65 + l.length)], v)]) := by
  refine ⟨by simp; omega, fun j a hj => ?_⟩
  by_cases e : j < l.length
  · rw [List.getElem?_append_left e] at hj
    exact h.2 j a hj
  · have : j = l.length := by
      have := (List.getElem?_eq_some_iff.1 hj).1
      simp at this
      omega
    subst this
    rw [List.getElem?_append_right (Nat.le_refl _), Nat.sub_self] at hj
    have hj : (n ++ [UInt8.ofNat (65 + l.length)], v) = a := Option.some.inj hj
    subst hj
    exact ⟨n, rfl, hn, hn7, hv, hv9⟩
def spaces : List (List UInt8) := [[], [117], [118, 38, 60], [119]]
/-- an element of few of each, so deep -/
def Nice : Nat → Nod → Prop
  | 0, _ => False
  | d + 1, .mk sp nm l ks tx => (∃ v ∈ spaces, sp = str v) ∧ (∃ n, nm = str n ∧ Nl n ∧ n.length ≤ 7) ∧ (∃ al, l = bsA al ∧ NiceA al) ∧ ks.length ≤ 3 ∧ (∀ y ∈ ks, Nice d y) ∧ (∃ t, tx = str t ∧ Vt t ∧ t.length ≤ 12 ∧ trim (str t) = str t) ∧ (ks ≠ [] → tx = ByteArray.empty)
/-- what is made of Near, its blocks new -/
def NearPost (d : Nat) (w : World) (e : Ending) (w' : World) : Prop :=
  ∃ u y, e = .returned u ∧ NodAt (fun g => w.heap.size ≤ g ∧ g < w'.heap.size) w' u y ∧ Nice d y ∧ Flow.Grow w w'
/-- the element under way -/
structure Und (w : World) (B N : Nat) (wr : World) (sp nm : ByteArray) (av kv : Value) (al : List (List UInt8 × List UInt8)) (ks : List Nod) (vs : List V5) : Prop where
  row : RowN wr N #[.string sp, .string nm, av, kv, .string ⟨#[]⟩]
  att : OwnA wr B av (bsA al)
  own : OwnK wr kv vs
  kid : Kids (fun g => B ≤ g ∧ kv.ownBlock ≠ some g ∧ g < wr.heap.size) wr ks vs
  knew : ∀ g, kv.ownBlock = some g → B ≤ g
  apart : ∀ g, av.ownBlock = some g → kv.ownBlock ≠ some g
  grow : Flow.Grow w wr
  bd : B ≤ wr.heap.size
theorem Und.more {w wr wy : World} {B N : Nat} {sp nm : ByteArray} {av kv : Value} {al : List (List UInt8 × List UInt8)} {ks : List Nod} {vs : List V5} (h : Und w B N wr sp nm av kv al ks vs) (g : Flow.Grow wr wy) : Und w B N wy sp nm av kv al ks vs :=
  ⟨h.row.grow g, h.att.grow g, h.own.grow g, h.kid.keep g.size (fun q _ hlt => g.block q hlt (by simp)) (fun q hq _ => ⟨hq.1, hq.2.1, Nat.lt_of_lt_of_le hq.2.2 g.size⟩) (fun q hq => hq.2.2), h.knew, h.apart, h.grow.trans g, Nat.le_trans h.bd g.size⟩
/-- one more attribute -/
theorem Und.attr {w wr wa w' : World} {B N X i : Nat} {sp nm : ByteArray} {ao : Option Addr} {ac : Nat} {av' : Value} {al : List (List UInt8 × List UInt8)} {a : List UInt8 × List UInt8} {xs : Array Value} (h : Und w B N wr sp nm (.slice ao i ac) (.slice none 0 0) al [] []) (g : Flow.Grow wr wa) (hx : RowN wr X xs) (hX : X < B) (hN : N < B)
    (hal : al.length = i) (h2 : w'.ownsRow 0 41 2 av' (i + 1) (attrCells (bsA al) ++ [.string (str a.1), .string (str a.2)])) (h3 : wa.grownBy w' (Value.slice ao i ac).ownBlock) (h4 : Moved wa (.slice ao i ac) av') (hw : w.heap.size ≤ B) :
    RowN w' N #[.string sp, .string nm, .slice ao i ac, .slice none 0 0, .string ⟨#[]⟩] ∧ RowN w' X xs ∧ OwnA w' B av' (bsA (al ++ [a])) ∧ Flow.Grow w w' ∧ B ≤ w'.heap.size := by
  have U := h.more g
  have hblk : ∀ q, q < B → (Value.slice ao i ac).ownBlock ≠ some q := fun q hq => U.att.blk q hq
  refine ⟨(h3.block N U.row.lt (Ne.symm (hblk N hN))).trans U.row, (h3.block X (hx.grow g).lt (Ne.symm (hblk X hX))).trans (hx.grow g), ?_, ?_, Nat.le_trans U.bd h3.size⟩
  · unfold OwnA
    have e : bsA (al ++ [a]) = bsA al ++ [(str a.1, str a.2)] := by simp [bsA]
    have el : (bsA al).length = i := by simp [bsA, hal]
    rw [e, attrCells_append, List.length_append, el]
    refine ownsRow_base h2 fun q hq => ?_
    rcases h4 with h4 | ⟨u, hu, hle⟩
    · rw [h4] at hq
      rcases Nat.lt_or_ge q B with hlt | hge
      · exact absurd hq (hblk q hlt)
      · exact hge
    · rw [hu] at hq; cases hq
      exact Nat.le_trans U.bd hle
  · refine ⟨h3.os.trans U.grow.os, h3.tape.trans U.grow.tape, h3.output.trans U.grow.output, Nat.le_trans U.grow.size h3.size, fun q hq _ => ?_⟩
    exact (h3.block q (Nat.lt_of_lt_of_le hq U.grow.size) (Ne.symm (hblk q (by omega)))).trans (U.grow.block q hq (by simp))
theorem Und.attr2 {w w' : World} {B N X : Nat} {sp nm : ByteArray} {av av' : Value} {al : List (List UInt8 × List UInt8)} {xs : Array Value} (h : RowN w' N #[.string sp, .string nm, av, .slice none 0 0, .string ⟨#[]⟩] ∧ RowN w' X xs ∧ OwnA w' B av' (bsA al) ∧ Flow.Grow w w' ∧ B ≤ w'.heap.size) (hN : N < B) (hX : X ≠ N) (hw : w.heap.size ≤ N) :
    Und w B N (w'.setCell ⟨N, 2, none⟩ av') sp nm av' (.slice none 0 0) al [] [] ∧ RowN (w'.setCell ⟨N, 2, none⟩ av') X xs := by
  obtain ⟨h1, h2, h3, h4, h5⟩ := h
  exact ⟨⟨h1.set 2 av', h3.set hN, OwnK.nil _, Kids.nil _ _, fun g hg => (by simp [Value.ownBlock] at hg), fun g hg => (by simp [Value.ownBlock]), Mv.grow h4 Mv.set hw, Nat.le_trans h5 (Mv.set (b := N)).size⟩, h2.mv Mv.set hX⟩
/-- what is known behind the append of an element within -/
structure Und3 (w : World) (B N X : Nat) (w' : World) (sp nm : ByteArray) (av kv kv' : Value) (al : List (List UInt8 × List UInt8)) (ks : List Nod) (vs : List V5) (xs : Array Value) : Prop where
  row : RowN w' N #[.string sp, .string nm, av, kv, .string ⟨#[]⟩]
  rox : RowN w' X xs
  att : OwnA w' B av (bsA al)
  own : OwnK w' kv' vs
  kid : Kids (fun g => B ≤ g ∧ kv'.ownBlock ≠ some g ∧ g < w'.heap.size) w' ks vs
  knew : ∀ g, kv'.ownBlock = some g → B ≤ g
  apart : ∀ g, av.ownBlock = some g → kv'.ownBlock ≠ some g
  grow : Flow.Grow w w'
  bd : B ≤ w'.heap.size
theorem Und.kid' {w wr wa w' : World} {B N X : Nat} {sp nm : ByteArray} {av kv kv' : Value} {al : List (List UInt8 × List UInt8)} {ks : List Nod} {vs : List V5} {xs : Array Value} {y : Nod} {u : V5} (h : Und w B N wr sp nm av kv al ks vs) (g : Flow.Grow wr wa) (hx : RowN wr X xs) (hX : X < B) (hN : N < B) (hw : w.heap.size ≤ B)
    (hn : NodAt (fun q => wr.heap.size ≤ q ∧ q < wa.heap.size) wa u.agg y)
    (h2 : w'.ownsRow 0 25 5 kv' (vs.length + 1) (flat vs ++ V5.cells u)) (h3 : wa.grownBy w' kv.ownBlock) (h4 : Moved wa kv kv') : Und3 w B N X w' sp nm av kv kv' al (ks ++ [y]) (vs ++ [u]) xs := by
  have U := h.more g
  have hblk : ∀ q, q < B → kv.ownBlock ≠ some q := fun q hq e => by have := U.knew q e; omega
  have hkr : ∀ q, kv.ownBlock = some q → q < wr.heap.size := fun q hq => h.own.lt q hq
  have hka : ∀ q, q < wa.heap.size → kv.ownBlock ≠ some q → kv'.ownBlock ≠ some q := fun q hq hne e => by
    rcases h4 with h4 | ⟨z, hz, hle⟩
    · rw [h4] at e; exact hne e
    · rw [hz] at e; cases e; omega
  have hatt : ∀ q, av.ownBlock = some q → q < wa.heap.size := fun q hq => (World.ownsRow.lt U.att q hq).2
  refine ⟨(h3.block N U.row.lt (Ne.symm (hblk N hN))).trans U.row, (h3.block X (hx.grow g).lt (Ne.symm (hblk X hX))).trans (hx.grow g), ?_, ?_, ?_, ?_, ?_, ?_, Nat.le_trans U.bd h3.size⟩
  · refine World.ownsRow.kept U.att h3 ?_
    cases hav : av.ownBlock with
    | none => exact .inl rfl
    | some q => exact .inr (fun e => (U.apart q hav) e.symm)
  · unfold OwnK
    rw [flat_append, List.length_append]
    simpa [flat] using h2
  · refine Kids.push ?_ ?_
    · exact U.kid.keep h3.size (fun q hq hlt => h3.block q hlt (Ne.symm hq.2.1)) (fun q hq hlt => ⟨hq.1, hka q hlt hq.2.1, Nat.lt_of_lt_of_le hlt h3.size⟩) (fun q hq => hq.2.2)
    · refine hn.keep h3.size (fun q hq hlt => h3.block q hlt (fun e => ?_)) (fun q hq hlt => ⟨Nat.le_trans h.bd hq.1, hka q hlt (fun e => ?_), Nat.lt_of_lt_of_le hlt h3.size⟩) (fun q hq => hq.2)
      · have := hkr q e.symm; omega
      · have := hkr q e; omega
  · intro q hq
    rcases h4 with h4 | ⟨z, hz, hle⟩
    · exact U.knew q (by rw [← h4]; exact hq)
    · rw [hz] at hq; cases hq; exact Nat.le_trans U.bd hle
  · intro q hq
    exact hka q (hatt q hq) (U.apart q hq)
  · refine ⟨h3.os.trans U.grow.os, h3.tape.trans U.grow.tape, h3.output.trans U.grow.output, Nat.le_trans U.grow.size h3.size, fun q hq _ => ?_⟩
    exact (h3.block q (Nat.lt_of_lt_of_le hq U.grow.size) (Ne.symm (hblk q (by omega)))).trans (U.grow.block q hq (by simp))
theorem Und3.put {w w' : World} {B N X : Nat} {sp nm : ByteArray} {av kv kv' : Value} {al : List (List UInt8 × List UInt8)} {ks : List Nod} {vs : List V5} {xs : Array Value} (h : Und3 w B N X w' sp nm av kv kv' al ks vs xs) (hN : N < B) (hX : X ≠ N) (hw : w.heap.size ≤ N) :
    Und w B N (w'.setCell ⟨N, 3, none⟩ kv') sp nm av kv' al ks vs ∧ RowN (w'.setCell ⟨N, 3, none⟩ kv') X xs := by
  have hkN : kv'.ownBlock ≠ some N := fun e => by have := h.knew N e; omega
  have m : Mv w' N (w'.setCell ⟨N, 3, none⟩ kv') := Mv.set
  refine ⟨⟨h.row.set 3 kv', h.att.set hN, h.own.mv m hkN, ?_, h.knew, h.apart, Mv.grow h.grow m hw, Nat.le_trans h.bd m.size⟩, h.rox.mv m hX⟩
  exact h.kid.keep m.size (fun q hq hlt => m.block q hlt (by have := hq.1; simp; omega)) (fun q hq hlt => ⟨hq.1, hq.2.1, Nat.lt_of_lt_of_le hlt m.size⟩) (fun q hq => hq.2.2)
/-- the element is made -/
theorem Und.done {w wr w' : World} {B N : Nat} {sp nm tx : ByteArray} {av kv : Value} {al : List (List UInt8 × List UInt8)} {ks : List Nod} {vs : List V5} (h : Und w B N wr sp nm av kv al ks vs) (m : Mv wr N w') (hN : N < B) (hw : w.heap.size ≤ N) (hwB : w.heap.size ≤ B) :
    NodAt (fun g => w.heap.size ≤ g ∧ g < w'.heap.size) w' (.agg #[.string sp, .string nm, av, kv, .string tx]) (.mk sp nm (bsA al) ks tx) ∧ Flow.Grow w w' := by
  have hkN : kv.ownBlock ≠ some N := fun e => by have := h.knew N e; omega
  refine ⟨NodAt.of (vs := vs) (OwnA.at' (h.att.mv m hN)) (fun q hq => ?_) (h.own.mv m hkN) (fun q hq => ?_) ?_, m.grow h.grow hw⟩
  · have h1 := (World.ownsRow.lt h.att q hq)
    have h2 : ¬ q < B := fun e => h.att.blk q e hq
    exact ⟨by omega, Nat.lt_of_lt_of_le h1.2 m.size⟩
  · exact ⟨Nat.le_trans hwB (h.knew q hq), Nat.lt_of_lt_of_le (h.own.lt q hq) m.size⟩
  · exact h.kid.keep m.size (fun q hq hlt => m.block q hlt (by have := hq.1; simp; omega)) (fun q hq hlt => ⟨Nat.le_trans hwB hq.1, Nat.lt_of_lt_of_le hlt m.size⟩) (fun q hq => hq.2.2)
end Xm
theorem info_nodeN : (Tryz.prog.info? 25).map (fun i => (i.zero, i.size, i.bytes)) = some (some (.agg #[.string ByteArray.empty, .string ByteArray.empty, .slice none 0 0, .slice none 0 0, .string ByteArray.empty]), 5, 96) := by kernel_rfl
theorem near_res (tmps : Array Value) (w : World) (R : Nat) (cs : Array Value) (hp : tmps.getD 4 undef = .pointer (some ⟨R, 0, none⟩)) (hg : Xm.RowN w R cs) (hc : cs.size = 5) :
    (results Tryz.f5 tmps).run Tryz.prog w = .ok (.agg cs) w :=
  results_cell_row (by kernel_rfl) tmps w R _ _ _ _ hp hg Tryz.underlying25 rfl (by rw [hc]; kernel_rfl)
end Go.Proofs.YtdpkhmfolmcejaaGreatDoor
