/- galliardlaw04.piece by its contract: a piece, and its text, which is read as it. -/
import Derived.Test.YtfkdjdmbgednkaaDoorNames
import Derived.Test.YtfkdjdmbgednkaaDoorScan9
import Derived.Test.YtfkdjdmbgednkaaDoorFlowTail
import Derived.Test.YtfkdjdmbgednkaaDoorBits
import Derived.BigQuiet
namespace Go.Proofs.YtfkdjdmbgednkaaDoor
open Go.RowKit
namespace Xm
def blks : List (List UInt8) := [[32], [10], [32, 32], [9]]
def blk (b : Nat) : List UInt8 := blks.getD b [32]
theorem blk_law : ∀ b, b < 4 → Bl (blk b) ∧ blk b ≠ [] ∧ (blk b).length ≤ 2 ∧ Lt (blk b) := by
  intro b hb
  have h : ∀ c ∈ blk b, blank (c.toNat : Int) = true ∧ (c = 32 ∨ c = 9 ∨ c = 10) := by
    rcases (by omega : b = 0 ∨ b = 1 ∨ b = 2 ∨ b = 3) with rfl | rfl | rfl | rfl <;> decide
  refine ⟨fun c hc => (h c hc).1, ?_, ?_, Lt.asc fun c hc => asc_of c ?_⟩
  · rcases (by omega : b = 0 ∨ b = 1 ∨ b = 2 ∨ b = 3) with rfl | rfl | rfl | rfl <;> decide
  · rcases (by omega : b = 0 ∨ b = 1 ∨ b = 2 ∨ b = 3) with rfl | rfl | rfl | rfl <;> decide
  · rcases (h c hc).2 with rfl | rfl | rfl <;> decide
/-- what comes of piece -/
def PcRet (w : World) (e : Ending) (w' : World) : Prop :=
  ∃ (x : List UInt8) (o : Option Pc) (p : Pc) (va : Value), e = .returned (.tuple #[.agg (p.cells va), .string (str x)]) ∧ Flow.Grow w w' ∧ ItOk (x, o) ∧ Lt x ∧ x.length ≤ 1000 ∧ AttrsAt w' va p.attrs ∧ p.attrs.length ≤ 3 ∧ Fresh w va ∧ (o = some p ∧ p.kind ≠ 0 ∧ p.at' = 0 ∨ o = none ∧ p = Pc.zero)
theorem item_back {nm be : List UInt8} (hn : Nm nm) (hb : Bl be) : ItOk (backB nm be, some ⟨2, str nm, [], ByteArray.empty, 0⟩) :=
  ⟨fun _ _ h _ => next_back hn hb h, fun _ => ⟨_, rfl⟩⟩
theorem item_tag {nm bl be : List UInt8} {l : List (List UInt8 × List UInt8)} {one : Bool} (hn : Nm nm) (hbl : Bl bl) (hb0 : bl ≠ []) (hbe : Bl be) (hone : one = true → be = []) (hl : AtOk l) (h16 : l.length ≤ 16) :
    ItOk (tagB nm bl l be one, some ⟨if one then 3 else 1, str nm, bsA l, ByteArray.empty, 0⟩) :=
  ⟨fun _ _ h _ => next_tag hn hbl hb0 hbe hone hl h16 h, fun _ => ⟨_, rfl⟩⟩
theorem item_text {v : List UInt8} (hv : Vt v) (h0 : v ≠ []) : ItOk (clL v, some ⟨4, ByteArray.empty, [], str v, 0⟩) :=
  ⟨fun _ _ h he => next_text hv h0 h (he rfl), fun h => by cases h⟩
theorem item_side {a b : List UInt8} (ha : Lt a) (hd : Lib.index (a ++ [45]) [45, 45] = -1) (hb : Lt b) (hq : (63 : UInt8) ∉ b) : ItOk (comB a ++ insB b, none) :=
  ⟨fun s k h _ => by
    show nextR s ⟨k, 0, 0⟩ = nextR s ⟨k + (comB a ++ insB b).length, 0, 0⟩
    rw [next_com ha hd h.left, next_ins hb hq h.right, List.length_append, Nat.add_assoc], fun _ => ⟨_, rfl⟩⟩
theorem Mv.five {w : World} {q : Nat} {a b c d e : Value} : Mv w q (((((w.setCell ⟨q, 0, none⟩ a).setCell ⟨q, 1, none⟩ b).setCell ⟨q, 2, none⟩ c).setCell ⟨q, 3, none⟩ d).setCell ⟨q, 4, none⟩ e) :=
  (((Mv.set.trans Mv.set).trans Mv.set).trans Mv.set).trans Mv.set
theorem lt_few {l : List UInt8} (h : ∀ c ∈ l, 32 ≤ c.toNat ∧ c.toNat < 127) : Lt l := Lt.asc fun c hc => asc_of c (.inl (h c hc))
/-- the attributes of a tag, so many -/
def ats (tl v : List UInt8) (i : Nat) : List (List UInt8 × List UInt8) := (List.range i).map fun j => (tl ++ [UInt8.ofNat (65 + j)], v)
theorem ats_succ (tl v : List UInt8) (i : Nat) : ats tl v (i + 1) = ats tl v i ++ [(tl ++ [UInt8.ofNat (65 + i)], v)] := by
  unfold ats
  rw [List.range_succ, List.map_append]
  rfl
theorem ats_length (tl v : List UInt8) (i : Nat) : (ats tl v i).length = i := by simp [ats]
theorem ats_ok {tl v : List UInt8} (h : Nl tl) (hl : tl.length ≤ 7) (hv : Vt v) {i : Nat} (hi : i ≤ 3) : AtOk (ats tl v i) := by
  refine ⟨fun a ha => ?_, ?_⟩
  · unfold ats at ha
    obtain ⟨j, hj, rfl⟩ := List.mem_map.1 ha
    rw [List.mem_range] at hj
    exact ⟨(h.more hl j (by omega)).nm, hv⟩
  · rcases (by omega : i = 0 ∨ i = 1 ∨ i = 2 ∨ i = 3) with rfl | rfl | rfl | rfl <;> simp [ats, List.range, List.range.loop]
theorem atsB_succ (bl tl v : List UInt8) (i : Nat) : atsB bl (ats tl v (i + 1)) = atsB bl (ats tl v i) ++ (bl ++ ((tl ++ [UInt8.ofNat (65 + i)]) ++ ([61, 34] ++ (clL v ++ [34])))) := by
  rw [ats_succ]
  simp [atsB, atB]
theorem ats_len {bl tl v : List UInt8} (hb : bl.length ≤ 2) (ht : tl.length ≤ 7) (hv : v.length ≤ 9) : ∀ i, (atsB bl (ats tl v i)).length ≤ 67 * i
  | 0 => by simp [ats, atsB]
  | i + 1 => by
    have ih := ats_len hb ht hv i
    have := clL_len v
    rw [atsB_succ]
    simp only [List.length_append, List.length_cons, List.length_nil]
    omega
theorem ats_lt {bl tl v : List UInt8} (hb : Lt bl) (ht : Nl tl) (hl : tl.length ≤ 7) (hv : Vt v) : ∀ i, i ≤ 3 → Lt (atsB bl (ats tl v i))
  | 0, _ => Lt.nil
  | i + 1, h => by
    rw [atsB_succ]
    exact (ats_lt hb ht hl hv i (by omega)).append (hb.append (((ht.more hl i (by omega)).lt).append ((lt_few (by decide)).append (hv.close.append (lt_few (by decide))))))
end Xm
theorem close_quiet (s r : ByteArray) (hr : Xm.clS s = r) (hs : s.size ≤ 1000000000) (w : World) : Calls Tryd.prog 31 #[.string s] w fun e w' => e = .returned (.string r) ∧ w' = w :=
  (close_any s w hs).mono fun _ _ ⟨h1, h2⟩ => ⟨by rw [h1, hr], h2.symm⟩
set_option maxRecDepth 100000 in
theorem pc_res {tmps : Array Value} {w : World} {Z : Nat} {x0 x4 : Int} {x1 x3 : ByteArray} {a2 : Option Addr} {n2 c2 : Nat} {X : Value} (h6 : tmps.getD 6 undef = .pointer (some ⟨Z, 0, none⟩)) (h7 : tmps.getD 7 undef = X)
    (hg : Xm.Row5 w Z #[.int .i64 x0, .string x1, .slice a2 n2 c2, .string x3, .int .i64 x4]) :
    (results Tryd.f10 tmps).run Tryd.prog w = .ok (.tuple #[.agg #[.int .i64 x0, .string x1, .slice a2 n2 c2, .string x3, .int .i64 x4], X]) w := by
  have x0 := (cell_of_row w Z 0 _ _ _ hg).trans rfl
  have x1 := (cell_of_row w Z 1 _ _ _ hg).trans rfl
  have x2 := (cell_of_row w Z 2 _ _ _ hg).trans rfl
  have x3 := (cell_of_row w Z 3 _ _ _ hg).trans rfl
  have x4 := (cell_of_row w Z 4 _ _ _ hg).trans rfl
  simp at x0 x1 x2 x3 x4
  simp only [Array.getD_eq_getD_getElem?] at h6 h7
  simp [results, Tryd.results10, h6, h7, x0, x1, x2, x3, x4, go_sem]
end Go.Proofs.YtfkdjdmbgednkaaDoor
