/- galliardlaw04.ScanPieces: the walk. -/
import Derived.Test.YtfkdjdmbgednkaaDoorPc4e
import Derived.Test.YtfkdjdmbgednkaaDoorSame4
import Derived.Test.YtfkdjdmbgednkaaDoorScan12
import Derived.Test.YtfkdjdmbgednkaaDoorFlowTail
import Derived.Deep.DeepCutAuto
namespace Go.Proofs.YtfkdjdmbgednkaaDoor
open Go.RowKit
namespace Xm
/-- texts that came in -/
def InStr (w : World) (a : Option Addr) (n : Nat) : Prop := ∀ i, i < n → ∃ (g off : Nat) (s : ByteArray), a = some ⟨g, off, none⟩ ∧ g < w.heap.size ∧ w.cell? ⟨g, off + i, none⟩ = some (.string s) ∧ s.size ≤ 9223372036854775807
/-- numbers that came in -/
def InInt (w : World) (a : Option Addr) (n : Nat) : Prop := ∀ i, i < n → ∃ (g off : Nat) (z : Int), a = some ⟨g, off, none⟩ ∧ g < w.heap.size ∧ w.cell? ⟨g, off + i, none⟩ = some (.int .i64 z)
/-- pieces as cells -/
def flatP (L : List (Pc × Value)) : List Value := L.flatMap fun x => (x.1.cells x.2).toList
theorem flatP_len (L : List (Pc × Value)) : (flatP L).length = L.length * 5 := by
  induction L with
  | nil => rfl
  | cons x L ih => simp only [flatP, List.flatMap_cons, List.length_append, List.length_cons] at ih ⊢; simp [Pc.cells] at ih ⊢; omega
theorem flatP_append (L M : List (Pc × Value)) : flatP (L ++ M) = flatP L ++ flatP M := by simp [flatP]
theorem flatP_get : ∀ (L : List (Pc × Value)) (j : Nat) (x : Pc × Value), L[j]? = some x → (flatP L)[j * 5]? = some (.int .i64 x.1.kind) ∧ (flatP L)[j * 5 + 1]? = some (.string x.1.name) ∧ (flatP L)[j * 5 + 2]? = some x.2 ∧ (flatP L)[j * 5 + 3]? = some (.string x.1.text) ∧ (flatP L)[j * 5 + 4]? = some (.int .i64 x.1.at')
  | [], j, x, h => by simp at h
  | y :: L, 0, x, h => by simp at h; subst h; exact ⟨rfl, rfl, rfl, rfl, rfl⟩
  | y :: L, j + 1, x, h => by
    have ih := flatP_get L j x (by simpa using h)
    have e : ∀ i, (flatP (y :: L))[(j + 1) * 5 + i]? = (flatP L)[j * 5 + i]? := fun i => by
      rw [show flatP (y :: L) = (y.1.cells y.2).toList ++ flatP L from rfl, List.getElem?_append_right (by simp [Pc.cells]; omega)]
      congr 1
      simp [Pc.cells]; omega
    exact ⟨(e 0).trans ih.1, (e 1).trans ih.2.1, (e 2).trans ih.2.2.1, (e 3).trans ih.2.2.2.1, (e 4).trans ih.2.2.2.2⟩
/-- a slice of pieces, of the call's own -/
def OwnP (w : World) (kv : Value) (L : List (Pc × Value)) : Prop := w.ownsRow 0 27 5 kv L.length (flatP L)
/-- their attributes lie elsewhere -/
def AtP (w : World) (kv : Value) (L : List (Pc × Value)) : Prop := ∀ x ∈ L, AttrsAt w x.2 x.1.attrs ∧ (∀ q, x.2.ownBlock = some q → q < w.heap.size ∧ kv.ownBlock ≠ some q) ∧ x.1.attrs.length ≤ 3
theorem AttrsAt.stay {w w' : World} {v : Value} {l : List (ByteArray × ByteArray)} (h : AttrsAt w v l) (hs : w.heap.size ≤ w'.heap.size) (hb : ∀ g, v.ownBlock = some g → g < w.heap.size → w'.heap[g]? = w.heap[g]?) : AttrsAt w' v l := by
  rcases h with h | ⟨g, off, cap, rfl, hlc, hcm, hg, hcell⟩
  · exact .inl h
  · refine .inr ⟨g, off, cap, rfl, hlc, hcm, Nat.lt_of_lt_of_le hg hs, fun j u hu => ?_⟩
    have := hcell j u hu
    unfold World.cell? at this ⊢
    rw [hb g rfl hg]
    exact this
theorem AttrsAt.blk {w : World} {v : Value} {l : List (ByteArray × ByteArray)} (h : AttrsAt w v l) : ∀ q, v.ownBlock = some q → q < w.heap.size := by
  rcases h with ⟨rfl, _⟩ | ⟨g, off, cap, rfl, _, _, hg, _⟩
  · intro q hq; simp [Value.ownBlock] at hq
  · intro q hq; simp [Value.ownBlock] at hq; omega
theorem AtP.step {w w' : World} {kv kv' : Value} {L : List (Pc × Value)} (h : AtP w kv L) (g : w.grownBy w' kv.ownBlock) (m : Moved w kv kv') : AtP w' kv' L := by
  intro x hx
  obtain ⟨h1, h2, h3⟩ := h x hx
  refine ⟨h1.stay g.size (fun q hq hlt => g.block q hlt (Ne.symm (h2 q hq).2)), fun q hq => ⟨Nat.lt_of_lt_of_le (h2 q hq).1 g.size, ?_⟩, h3⟩
  rcases m with e | ⟨u, hu, hle⟩
  · rw [e]; exact (h2 q hq).2
  · rw [hu]
    have := (h2 q hq).1
    simp
    omega
theorem AtP.grow {w w' : World} {kv : Value} {L : List (Pc × Value)} (h : AtP w kv L) (g : Flow.Grow w w') : AtP w' kv L := by
  intro x hx
  obtain ⟨h1, h2, h3⟩ := h x hx
  exact ⟨h1.stay g.size (fun q hq hlt => g.block q hlt (by simp)), fun q hq => ⟨Nat.lt_of_lt_of_le (h2 q hq).1 g.size, (h2 q hq).2⟩, h3⟩
theorem AtP.snoc {w : World} {kv : Value} {L : List (Pc × Value)} {p : Pc} {va : Value} (h : AtP w kv L) (ha : AttrsAt w va p.attrs) (hq : ∀ q, va.ownBlock = some q → kv.ownBlock ≠ some q) (h3 : p.attrs.length ≤ 3) : AtP w kv (L ++ [(p, va)]) := by
  intro x hx
  rcases List.mem_append.1 hx with hx | hx
  · exact h x hx
  · rw [List.mem_singleton] at hx
    subst hx
    exact ⟨ha, fun q hq' => ⟨ha.blk q hq', hq q hq'⟩, h3⟩
theorem pcs_last {y : Itm} (hy : isTx y.2 = true) : ∀ (its : List Itm) (k : Nat), its.getLast? = some y → ∃ q, (pcs k its).getLast? = some q ∧ q.kind = 4 := by
  intro its k hl
  obtain ⟨A, rfl⟩ : ∃ A, its = A ++ [y] := by
    have hne : its ≠ [] := by intro e; rw [e] at hl; cases hl
    refine ⟨its.dropLast, ?_⟩
    have := List.dropLast_concat_getLast hne
    rw [List.getLast?_eq_some_getLast hne] at hl
    cases hl
    exact this.symm
  obtain ⟨x, o⟩ := y
  cases o with
  | none => cases hy
  | some p =>
    refine ⟨p.put (k + (docB A).length), ?_, ?_⟩
    · rw [pcs_append, pcs, pcs]; simp
    · have : (p.kind == 4) = true := hy
      simpa [Pc.put] using this
theorem pcs_len_le : ∀ (its : List Itm) (k : Nat), (pcs k its).length ≤ its.length
  | [], k => Nat.le_refl _
  | (x, none) :: r, k => by rw [pcs]; have := pcs_len_le r (k + x.length); simp; omega
  | (x, some p) :: r, k => by rw [pcs]; have := pcs_len_le r (k + x.length); simp; omega
/-- what the first loop keeps -/
structure Made (w wr : World) (i : Nat) (its : List Itm) (kv : Value) (L : List (Pc × Value)) : Prop where
  good : Good its
  lt : Lt (docB its)
  len : (docB its).length ≤ 1000 * i
  most : its.length ≤ i
  same : L.map (·.1) = pcs 0 its
  own : OwnP wr kv L
  at' : AtP wr kv L
  new : ∀ q, kv.ownBlock = some q → w.heap.size ≤ q
  grow : Flow.Grow w wr
theorem Made.more {w wr wy : World} {i : Nat} {its : List Itm} {kv : Value} {L : List (Pc × Value)} (h : Made w wr i its kv L) (g : Flow.Grow wr wy) : Made w wy i its kv L :=
  ⟨h.good, h.lt, h.len, h.most, h.same, World.ownsRow.kept h.own (row := none) g (by cases kv.ownBlock <;> simp), h.at'.grow g, h.new, h.grow.trans g⟩
theorem Made.skip {w wr : World} {i : Nat} {its : List Itm} {kv : Value} {L : List (Pc × Value)} (h : Made w wr i its kv L) : Made w wr (i + 1) its kv L :=
  ⟨h.good, h.lt, by have := h.len; omega, by have := h.most; omega, h.same, h.own, h.at', h.new, h.grow⟩
theorem nil_or_snoc {α : Type} (L : List α) : L = [] ∨ ∃ L0 q, L = L0 ++ [q] := by
  by_cases h : L = []
  · exact .inl h
  · exact .inr ⟨L.dropLast, L.getLast h, (List.dropLast_concat_getLast h).symm⟩
/-- is a text to be left out? -/
def skipB (pk : Int) (L : List (Pc × Value)) : Bool := decide (pk = 4) && (match L.getLast? with | some q => q.1.kind == 4 | none => false)
theorem Made.ok {w wr : World} {i : Nat} {its : List Itm} {kv : Value} {L : List (Pc × Value)} {x : List UInt8} {p : Pc} (h : Made w wr i its kv L) (hx : ItOk (x, some p)) (hk : skipB p.kind L = false) : Good (its ++ [(x, some p)]) := by
  refine h.good.snoc hx fun ht y hy => ?_
  cases hyt : isTx y.2
  · rfl
  · exfalso
    obtain ⟨q, hq, hq4⟩ := pcs_last hyt its 0 hy
    rw [← h.same, List.getLast?_map, Option.map_eq_some_iff] at hq
    obtain ⟨u, hu, rfl⟩ := hq
    have hp : p.kind = 4 := by
      have : (p.kind == 4) = true := ht
      simpa using this
    unfold skipB at hk
    rw [hu, hp] at hk
    simp [hq4] at hk
theorem Made.mvR {w wr wy : World} {i R : Nat} {its : List Itm} {kv : Value} {L : List (Pc × Value)} (h : Made w wr i its kv L) (m : Mv wr R wy) (hk : kv.ownBlock ≠ some R) (ho : ∀ y ∈ L, ∀ q, y.2.ownBlock = some q → q < R) (hR : w.heap.size ≤ R) : Made w wy i its kv L :=
  ⟨h.good, h.lt, h.len, h.most, h.same, World.ownsRow.kept h.own m (.inr hk), fun x hx => by
    obtain ⟨h1, h2, h3⟩ := h.at' x hx
    exact ⟨h1.stay m.size (fun q hq hlt => m.block q hlt (by have := ho x hx q hq; simp; omega)), fun q hq => ⟨Nat.lt_of_lt_of_le (h2 q hq).1 m.size, (h2 q hq).2⟩, h3⟩, h.new, m.grow h.grow hR⟩
theorem Made.side {w wr : World} {i : Nat} {its : List Itm} {kv : Value} {L : List (Pc × Value)} {x : List UInt8} (h : Made w wr i its kv L) (hx : ItOk (x, none)) (hxl : Lt x) (hx1 : x.length ≤ 1000) : Made w wr (i + 1) (its ++ [(x, none)]) kv L := by
  refine ⟨h.good.snoc hx (fun ht => by cases ht), ?_, ?_, ?_, ?_, h.own, h.at', h.new, h.grow⟩
  · rw [docB_append]
    exact h.lt.append (by simpa [docB] using hxl)
  · rw [docB_append, List.length_append]
    have := h.len
    have e : docB [(x, (none : Option Pc))] = x := by simp [docB]
    rw [e]
    omega
  · have := h.most
    simp
    omega
  · rw [pcs_append, h.same]
    simp [pcs]
theorem Made.push {w wa w5 : World} {i : Nat} {its : List Itm} {kv v' va : Value} {L : List (Pc × Value)} {x : List UInt8} {p : Pc} (h : Made w wa i its kv L) (hg : wa.grownBy w5 kv.ownBlock) (hm : Moved wa kv v')
    (hown : w5.ownsRow 0 27 5 v' (L.length + 1) (flatP L ++ ((p.put (docB its).length).cells va).toList)) (hx : ItOk (x, some p)) (hxl : Lt x) (hx1 : x.length ≤ 1000) (hk : skipB p.kind L = false) (ha : AttrsAt wa va p.attrs) (hva : ∀ q, va.ownBlock = some q → kv.ownBlock ≠ some q) (h3 : p.attrs.length ≤ 3) :
    Made w w5 (i + 1) (its ++ [(x, some p)]) v' (L ++ [(p.put (docB its).length, va)]) := by
  have e : docB [(x, some p)] = x := by simp [docB]
  have hA : AtP wa kv (L ++ [(p.put (docB its).length, va)]) := h.at'.snoc ha hva h3
  refine ⟨h.ok hx hk, ?_, ?_, ?_, ?_, ?_, hA.step hg hm, fun q hq => ?_, ?_⟩
  · rw [docB_append, e]
    exact h.lt.append hxl
  · rw [docB_append, List.length_append, e]
    have := h.len
    omega
  · have := h.most
    simp
    omega
  · rw [pcs_append, List.map_append, h.same, pcs, pcs, Nat.zero_add]
    rfl
  · unfold OwnP
    rw [flatP_append, List.length_append]
    simpa [flatP] using hown
  · rcases hm with hm | ⟨u, hu, hle⟩
    · exact h.new q (by rw [← hm]; exact hq)
    · rw [hu] at hq
      cases hq
      exact Nat.le_trans h.grow.size hle
  · refine ⟨hg.os.trans h.grow.os, hg.tape.trans h.grow.tape, hg.output.trans h.grow.output, Nat.le_trans h.grow.size hg.size, fun q hq _ => ?_⟩
    refine (hg.block q (Nat.lt_of_lt_of_le hq h.grow.size) (fun e => ?_)).trans (h.grow.block q hq (by simp))
    have := h.new q e.symm
    omega
/-- what the second loop keeps -/
structure Reads (w5 wr : World) (S : Nat) (D : ByteArray) (its : List Itm) (L : List (Pc × Value)) (j k : Nat) : Prop where
  sc : Scs wr S D ⟨k, 0, 0⟩
  mv : Mv w5 S wr
  rest : ∃ A B, its = A ++ B ∧ Good B ∧ (docB A).length = k ∧ pcs k B = (L.drop j).map (·.1)
theorem Reads.le {w5 wr : World} {S : Nat} {D : ByteArray} {its : List Itm} {L : List (Pc × Value)} {j k : Nat} (h : Reads w5 wr S D its L j k) (hD : D = str (docB its)) : k ≤ D.size := by
  obtain ⟨A, B, h1, _, h2, _⟩ := h.rest
  rw [hD, str_size, h1, docB_append, List.length_append]
  omega
theorem Reads.next {w5 wr : World} {S : Nat} {D : ByteArray} {its : List Itm} {L : List (Pc × Value)} {j k : Nat} (h : Reads w5 wr S D its L j k) (hD : D = str (docB its)) {x : Pc × Value} (hx : L[j]? = some x) :
    ∃ k', nextR D ⟨k, 0, 0⟩ = (x.1, ⟨k', 0, 0⟩) ∧ ∃ A B, its = A ++ B ∧ Good B ∧ (docB A).length = k' ∧ pcs k' B = (L.drop (j + 1)).map (·.1) := by
  obtain ⟨A, B, h1, h2, rfl, h3⟩ := h.rest
  have hd : L.drop j = x :: L.drop (j + 1) := by
    obtain ⟨hj, hx⟩ := List.getElem?_eq_some_iff.1 hx
    rw [← hx]
    exact List.drop_eq_getElem_cons hj
  rw [hd, List.map_cons] at h3
  obtain ⟨A', B', g1, g2, g3, g4⟩ := (read_items hD B A h1 h2).2 _ _ h3
  exact ⟨_, g3, A', B', g1, g2, rfl, g4⟩
theorem Reads.last {w5 wr : World} {S : Nat} {D : ByteArray} {its : List Itm} {L : List (Pc × Value)} {j k : Nat} (h : Reads w5 wr S D its L j k) (hD : D = str (docB its)) (hj : L.length ≤ j) : nextR D ⟨k, 0, 0⟩ = (Pc.zero, ⟨D.size, 0, 0⟩) := by
  obtain ⟨A, B, h1, h2, rfl, h3⟩ := h.rest
  rw [List.drop_eq_nil_of_le hj, List.map_nil] at h3
  exact (read_items hD B A h1 h2).1 h3
end Xm
theorem info_piece : (Tryd.prog.info? 27).map (fun i => (i.zero, i.size, i.bytes)) = some (some (.agg #[.int .i64 0, .string ByteArray.empty, .slice none 0 0, .string ByteArray.empty, .int .i64 0]), 5, 72) := by kernel_rfl
set_option maxRecDepth 100000 in
set_option maxHeartbeats 8000000 in
theorem scanPieces_walk (a0 a1 a2 : Option Addr) (n0 c0 n1 c1 n2 c2 : Nat) (w : World) (h0 : Xm.InInt w a0 n0) (h1 : Xm.InStr w a1 n1) (h2 : Xm.InStr w a2 n2) (hT : Xm.Tab w) (hm : Xm.Max w) :
    Calls Tryd.prog 3 #[.slice a0 n0 c0, .slice a1 n1 c1, .slice a2 n2 c2] w fun r w' => r = .returned (.bool true) ∧ Flow.Grow w w' := by
  have HT := Lib.hid hT
  have HM := Lib.hid hm
  have H0 := Lib.hid h0
  have H1 := Lib.hid h1
  have H2 := Lib.hid h2
  have Hb1 : Hid (1 < w.heap.size) := Lib.hid hT.1
  obtain ⟨i0, hi, hz0, hz1, hz2⟩ := info_parts info_piece
  have HI := Lib.hid (And.intro hi (And.intro hz0 (And.intro hz1 hz2)))
  clear hT hm h0 h1 h2 hi hz0 hz1 hz2
  go_enter Tryd.func3, Tryd.ntmps3
  go_wp2_with fail
  have M0 : Hid (Xm.Made w (w.alloc (.cells #[] 27)) 0 [] (.slice (some ⟨w.heap.size, 0, none⟩) 0 0) []) := Lib.hid
    ⟨trivial, Xm.Lt.nil, by simp [Xm.docB], by simp, rfl, World.ownsRow_lit (base := 0) (e := 27) w #[] 0 (Nat.zero_le _) (by decide) rfl, fun x hx => (by cases hx), fun q hq => (by simp [Value.ownBlock] at hq; omega), Flow.grow_alloc _ _⟩
  go_loopw [7, 8, 9] (fun v7 v8 v9 wr => ∃ (i : Nat) (its : List Xm.Itm) (ko : Option Addr) (kc : Nat) (L : List (Xm.Pc × Value)), i ≤ 10 ∧ i ≤ n0 ∧ v9 = .int .i64 (i : Int) ∧ v7 = .string (str (Xm.docB its)) ∧ v8 = .slice ko L.length kc ∧ Hid (Xm.Made w wr i its (.slice ko L.length kc) L)) (fun _ _ v9 _ => 10 - (intOf v9).toNat)
  case atStart => exact ⟨0, [], _, _, [], Nat.zero_le _, Nat.zero_le _, rfl, rfl, rfl, M0⟩
  case round =>
    obtain ⟨i, its, ko, kc, L, hi10, hin, rfl, rfl, rfl, HMd⟩ := hrel
    rename World => wr
    clear M0
    have hdl := HMd.out.len
    go_upto_region 3 with fail
    go_cut [25] from 18 to 85 (fun v25 wx => v25 = .bool (decide (i < 10 ∧ i < n0)) ∧ wx = wr)
    case first =>
      by_cases hn : i < n0
      · have hd1 : decide ((i : Int) < (n0 : Int)) = true := by simp; omega
        by_cases h10 : i < 10
        · have hd2 : decide ((i : Int) < 10) = true := by simp; omega
          go_wp2_with fail
          go_meet
          case rel => exact ⟨by rw [decide_eq_true (⟨h10, hn⟩ : i < 10 ∧ i < n0)], rfl⟩
        · have hd2 : decide ((i : Int) < 10) = false := by simp; omega
          go_wp2_with fail
          go_meet
          case rel => exact ⟨by rw [decide_eq_false (fun h : i < 10 ∧ i < n0 => h10 h.1)], rfl⟩
      · have hd1 : decide ((i : Int) < (n0 : Int)) = false := by simp; omega
        go_wp2_with fail
        go_meet
        case rel => exact ⟨by rw [decide_eq_false (fun h : i < 10 ∧ i < n0 => hn h.2)], rfl⟩
    case rest =>
    obtain ⟨rfl, hwx⟩ := hcut
    have hwx := hwx.symm
    subst hwx
    by_cases hlt : i < 10 ∧ i < n0
    rotate_left
    · have hd : decide (i < 10 ∧ i < n0) = false := decide_eq_false hlt
      rw [hd]
      have HNT : Hid (Xm.newT (str (Xm.docB its)) = ⟨0, 0, 0⟩) := Lib.hid (Xm.new_lt HMd.out.lt (by omega))
      obtain ⟨D, hD⟩ : ∃ D, D = str (Xm.docB its) := ⟨_, rfl⟩
      have hDz : D.size ≤ 10000 := by rw [hD, str_size]; omega
      rw [← hD] at HNT ⊢
      have HD := Lib.hid hD
      clear hD hd hlt hdl
      go_upto_region 17 with (go_at_call 11; refine (new_T D wr (by omega)).mono ?_; rintro e w5 ⟨rfl, hs5, hg5⟩; rw [HNT.out] at hs5)
      have HM5 := Lib.hid (HMd.out.more hg5)
      have HS5 := Lib.hid hs5
      have HSl : Hid (w.heap.size ≤ wr.heap.size ∧ (∀ q, (Value.slice ko L.length kc).ownBlock = some q → q < wr.heap.size) ∧ ∀ y ∈ L, ∀ q, y.2.ownBlock = some q → q < wr.heap.size) := Lib.hid ⟨HMd.out.grow.size, fun q hq => (World.ownsRow.lt HMd.out.own q hq).2, fun y hy q hq => ((HMd.out.at' y hy).2.1 q hq).1⟩
      obtain ⟨S, hS⟩ : ∃ S, S = wr.heap.size := ⟨_, rfl⟩
      rw [← hS] at HS5 HSl ⊢
      have HS1 : Hid (1 < S) := Lib.hid (by have := Hb1.out; have := HSl.out.1; omega)
      have HT5 := Lib.hid (HT.out.grow HM5.out.grow)
      have HX5 := Lib.hid (HM.out.grow HM5.out.grow)
      have hLn : L.length ≤ 10 := by
        have h1 := congrArg List.length HM5.out.same
        have h2 := Xm.pcs_len_le its 0
        have h3 := HM5.out.most
        rw [List.length_map] at h1
        omega
      clear hS hs5 hg5 HMd HNT
      go_wp2_with fail
      go_loopw [15] (fun v15 w6 => ∃ (j k : Nat), j ≤ L.length ∧ v15 = .int .i64 (j : Int) ∧ Hid (Xm.Reads w5 w6 S D its L j k)) (fun v15 _ => L.length - (intOf v15).toNat)
      case atStart => exact ⟨0, 0, Nat.zero_le _, rfl, Lib.hid ⟨HS5.out, Xm.Mv.refl _ _, [], its, rfl, HM5.out.good, rfl, HM5.out.same.symm⟩⟩
      case round =>
        obtain ⟨j, k, hj, rfl, HRd⟩ := hrel
        rename World => w6
        have hkD := HRd.out.le HD.out
        have Hk := Lib.hid hkD
        clear hkD
        by_cases hjl : j < L.length
        · obtain ⟨qk, qn, qa, qt, qp, vb, hx⟩ : ∃ qk qn qa qt qp vb, L[j]? = some (⟨qk, qn, qa, qt, qp⟩, vb) := ⟨_, _, _, _, _, _, List.getElem?_eq_getElem hjl⟩
          obtain ⟨k', hnx, hrest⟩ := HRd.out.next HD.out hx
          have Hnx := Lib.hid hnx
          have Hrest := Lib.hid hrest
          have hmem := List.mem_of_getElem? hx
          obtain ⟨hb1, hb2, hb3⟩ := HM5.out.at' _ hmem
          have HB1 := Lib.hid hb1
          have hb3 : qa.length ≤ 3 := hb3
          have Hvb := Lib.hid (HSl.out.2.2 _ hmem)
          have Hfl := Lib.hid (Xm.flatP_get L j _ hx)
          obtain ⟨bo, bc, hvb⟩ := hb1.shape
          have hvb : vb = .slice bo qa.length bc := hvb
          subst hvb
          clear hnx hrest hmem hb1 hb2 hx
          have e1 : (j : Int) < (L.length : Int) := by omega
          go_upto_region 21 with (go_at_call 12; refine (next_T S D ⟨k, 0, 0⟩ w6 HRd.out.sc Hk.out (by omega) (HT5.out.mv HRd.out.mv HS1.out) (HX5.out.mv HRd.out.mv HS1.out) HS1.out).mono ?_; rintro e w7 ⟨va, rfl, hat, hfr, hs7, hm7⟩; rw [Hnx.out] at hat hs7 ⊢; obtain ⟨ao, ac, hva⟩ := hat.shape; subst hva; unfold Xm.Pc.cells)
          have g8 := Flow.grow_alloc w7 (.cells #[.int .i64 qk, .string qn, .slice ao qa.length ac, .string qt, .int .i64 qp] 27)
          have hm8 : Xm.Mv w5 S (w7.alloc (.cells #[.int .i64 qk, .string qn, .slice ao qa.length ac, .string qt, .int .i64 qp] 27)) := (HRd.out.mv.trans hm7).trans (Xm.Mv.of S g8)
          have HR8 : Hid (Xm.Reads w5 (w7.alloc (.cells #[.int .i64 qk, .string qn, .slice ao qa.length ac, .string qt, .int .i64 qp] 27)) S D its L (j + 1) k') := Lib.hid ⟨Xm.Sc.grow hs7 g8, hm8, Hrest.out⟩
          have HP8 : Hid (Xm.Row5 (w7.alloc (.cells #[.int .i64 qk, .string qn, .slice ao qa.length ac, .string qt, .int .i64 qp] 27)) w7.heap.size #[.int .i64 qk, .string qn, .slice ao qa.length ac, .string qt, .int .i64 qp]) := Lib.hid (heap_alloc_new _ _)
          have HA8 := Lib.hid (Xm.AttrsAt.stay hat g8.size (fun g _ hg => g8.block g hg (by simp)))
          have HBa : Hid (Xm.AttrsAt (w7.alloc (.cells #[.int .i64 qk, .string qn, .slice ao qa.length ac, .string qt, .int .i64 qp] 27)) (.slice bo qa.length bc) qa) := Lib.hid (Xm.AttrsAt.stay HB1.out hm8.size (fun g hg hlt => hm8.block g hlt (by have := Hvb.out g hg; simp; omega)))
          have hOb : (∃ g, ko = some ⟨g, 0, none⟩ ∧ ∀ o, o < L.length * 5 → (w7.alloc (.cells #[.int .i64 qk, .string qn, .slice ao qa.length ac, .string qt, .int .i64 qp] 27)).cell? ⟨g, o, none⟩ = (Xm.flatP L)[o]? ∧ g < (w7.alloc (.cells #[.int .i64 qk, .string qn, .slice ao qa.length ac, .string qt, .int .i64 qp] 27)).heap.size) := by
            have h := HM5.out.own
            unfold Xm.OwnP at h
            have hko : ∃ g, ko = some ⟨g, 0, none⟩ := by
              rcases h.2 with ⟨_, h0⟩ | ⟨g, cap, cur, h, _⟩
              · omega
              · cases h; exact ⟨g, rfl⟩
            obtain ⟨g, rfl⟩ := hko
            have hgS : g < S := HSl.out.2.1 g rfl
            have hg5 := (World.ownsRow.lt h g rfl).2
            refine ⟨g, rfl, fun o ho => ⟨?_, Nat.lt_of_lt_of_le hg5 hm8.size⟩⟩
            rw [World.cell?_of_block (hm8.block g hg5 (by simp; omega))]
            exact h.cellAt o ho
          obtain ⟨g, rfl, hOb⟩ := hOb
          have HOb := Lib.hid hOb
          obtain ⟨P, hP⟩ : ∃ P, P = w7.heap.size := ⟨_, rfl⟩
          rw [← hP] at HP8 ⊢
          clear hP hOb hm8 g8 hat hfr hs7 hm7 HB1
          generalize w7.alloc (.cells #[.int .i64 qk, .string qn, .slice ao qa.length ac, .string qt, .int .i64 qp] 27) = w8 at *
          have hcl : ∀ o v, o < 5 → (Xm.flatP L)[j * 5 + o]? = some v → ∀ wz, Flow.Grow w8 wz → wz.cell? ⟨g, j * 5 + o, none⟩ = some v := by
            intro o v ho hv wz hgz
            have h := HOb.out (j * 5 + o) (by omega)
            exact (Xm.cell_grow hgz h.2).trans (h.1.trans hv)
          have Hcl := Lib.hid hcl
          clear hcl HRd Hnx
          have e2 : ¬ (L.length : Int) ≤ (j : Int) := by omega
          refine Flow.region_grown (Fs := [.inl (.agg #[.int .i64 qk, .string qn, .slice ao qa.length ac, .string qt, .int .i64 qp]), .inl ((.slice (some ⟨g, 0, none⟩) L.length kc)), .inl ((.int .i64 (j : Int))), .inl (.pointer (some ⟨g, j * 5, none⟩)), .inl (.agg #[.int .i64 qk, .string qn, .slice bo qa.length bc, .string qt, .int .i64 qp]), .inl (.bool true), .inl (.bool false), .inl (.bool false), .inl ((.pointer (some ⟨S, 0, none⟩))), .inl (.int .i64 0), .inl (.bool false), .inl (.bool false)])
            (S := [[], [], [], [1, 2], [3], [0, 4], [5], [6], [7], [8, 7], [9, 7], [7, 10]]) (by kernel_rfl) (by kernel_rfl) (by kernel_rfl) rfl ?stab21 ?ones21 ?ends21
          case ones21 =>
            refine Flow.Ones.cons ?_ ?_
            · intro a w hC hoff _
              have e16 : a.eval (.tmp 16) = (.pointer (some ⟨P, 0, none⟩)) := hoff.at 16 (by kernel_rfl)
              refine .inl ⟨Flow.want_none rfl, ?_⟩
              refine Flow.run_same ?_ Flow.grow_refl
              have ec := Flow.eval_const a
              generalize a.eval = ρ at e16 ec ⊢
              have hr := HP8.out.grow hC
              have p0 := (cell_of_row w P 0 _ _ _ hr).trans rfl
              have p1 := (cell_of_row w P 1 _ _ _ hr).trans rfl
              have p2 := (cell_of_row w P 2 _ _ _ hr).trans rfl
              have p3 := (cell_of_row w P 3 _ _ _ hr).trans rfl
              have p4 := (cell_of_row w P 4 _ _ _ hr).trans rfl
              simp [execOp, e16, p0, p1, p2, p3, p4, go_sem]
            refine Flow.Ones.cons ?_ ?_
            · intro a w hC hoff _
              have e8 : a.eval (.tmp 8) = (.slice (some ⟨g, 0, none⟩) L.length kc) := hoff.at 8 (by kernel_rfl)
              refine .inl ⟨Flow.want_none rfl, ?_⟩
              exact Flow.run_same (Flow.exec_move (.inl rfl) e8) Flow.grow_refl
            refine Flow.Ones.cons ?_ ?_
            · intro a w hC hoff _
              have e15 : a.eval (.tmp 15) = (.int .i64 (j : Int)) := hoff.at 15 (by kernel_rfl)
              refine .inl ⟨Flow.want_none rfl, ?_⟩
              exact Flow.run_same (Flow.exec_move (.inl rfl) e15) Flow.grow_refl
            refine Flow.Ones.cons ?_ ?_
            · rintro a w hC hoff ⟨k1, k2, -⟩
              have e97 : a.eval (.tmp 97) = (.slice (some ⟨g, 0, none⟩) L.length kc) := k1 97 rfl
              have e98 : a.eval (.tmp 98) = (.int .i64 (j : Int)) := k2 98 rfl
              refine .inl ⟨Flow.want_none rfl, ?_⟩
              refine Flow.run_same ?_ Flow.grow_refl
              have ec := Flow.eval_const a
              generalize a.eval = ρ at e97 e98 ec ⊢
              simp [execOp, e97, e98, go_sem]; intro hh; omega
            refine Flow.Ones.cons ?_ ?_
            · rintro a w hC hoff ⟨k3, -⟩
              have e99 : a.eval (.tmp 99) = .pointer (some ⟨g, j * 5, none⟩) := k3 99 rfl
              refine .inl ⟨Flow.want_none rfl, ?_⟩
              refine Flow.run_same ?_ Flow.grow_refl
              have ec := Flow.eval_const a
              generalize a.eval = ρ at e99 ec ⊢
              have p0 := Hcl.out 0 _ (by omega) Hfl.out.1 w hC
              have p1 := Hcl.out 1 _ (by omega) Hfl.out.2.1 w hC
              have p2 := Hcl.out 2 _ (by omega) Hfl.out.2.2.1 w hC
              have p3 := Hcl.out 3 _ (by omega) Hfl.out.2.2.2.1 w hC
              have p4 := Hcl.out 4 _ (by omega) Hfl.out.2.2.2.2 w hC
              simp only [Nat.add_zero] at p0
              simp [execOp, e99, p0, p1, p2, p3, p4, go_sem]
            refine Flow.Ones.cons ?_ ?_
            · rintro a w hC hoff ⟨k0, k4, -⟩
              have e96 : a.eval (.tmp 96) = .agg #[.int .i64 qk, .string qn, .slice ao qa.length ac, .string qt, .int .i64 qp] := k0 96 rfl
              have e100 : a.eval (.tmp 100) = .agg #[.int .i64 qk, .string qn, .slice bo qa.length bc, .string qt, .int .i64 qp] := k4 100 rfl
              refine .inl ⟨Flow.want_none rfl, ?_⟩
              exact Flow.run_call (Flow.exec_call (args := #[(.agg #[.int .i64 qk, .string qn, .slice ao qa.length ac, .string qt, .int .i64 qp]), (.agg #[.int .i64 qk, .string qn, .slice bo qa.length bc, .string qt, .int .i64 qp])]) rfl Tryd.func13 (by kernel_rfl) (by kernel_rfl) (by simp only [List.map_toArray, List.map_cons, List.map_nil, e96, e100] <;> rfl)) ((same4_true ⟨qk, qn, qa, qt, qp⟩ (.slice ao qa.length ac) (.slice bo qa.length bc) w (Xm.AttrsAt.stay HA8.out hC.size (fun g _ hg => hC.block g hg (by simp))) (Xm.AttrsAt.stay HBa.out hC.size (fun g _ hg => hC.block g hg (by simp))) (by show qa.length ≤ 1000; omega)).mono fun e w' ⟨he, hg⟩ => ⟨_, he, hg, rfl⟩)
            refine Flow.Ones.cons ?_ ?_
            · rintro a w hC hoff ⟨k5, -⟩
              have e101 : a.eval (.tmp 101) = .bool true := k5 101 rfl
              refine .inl ⟨Flow.want_none rfl, ?_⟩
              refine Flow.run_same ?_ Flow.grow_refl
              have ec := Flow.eval_const a
              generalize a.eval = ρ at e101 ec ⊢
              simp [execOp, e101, go_sem]
            refine Flow.Ones.cons ?_ ?_
            · rintro a w hC hoff ⟨k6, -⟩
              have e102 : a.eval (.tmp 102) = .bool false := k6 102 rfl
              refine .inl ⟨Flow.want_none rfl, ?_⟩
              exact Flow.run_same (Flow.exec_move (.inl rfl) e102) Flow.grow_refl
            refine Flow.Ones.cons ?_ ?_
            · rintro a w hC hoff ⟨k7, -⟩
              have e103 : a.eval (.tmp 103) = .bool false := k7 103 rfl
              have e14 : a.eval (.tmp 14) = (.pointer (some ⟨S, 0, none⟩)) := hoff.at 14 (by kernel_rfl)
              refine .inl ⟨Flow.want_yes rfl rfl e103, ?_⟩
              exact Flow.run_same (Flow.exec_move (.inl rfl) e14) Flow.grow_refl
            refine Flow.Ones.cons ?_ ?_
            · rintro a w hC hoff ⟨k8, k7, -⟩
              have e104 : a.eval (.tmp 104) = (.pointer (some ⟨S, 0, none⟩)) := k8 104 rfl
              have e103 : a.eval (.tmp 103) = .bool false := k7 103 rfl
              refine .inl ⟨Flow.want_yes rfl rfl e103, ?_⟩
              exact Flow.run_call (Flow.exec_call (args := #[((.pointer (some ⟨S, 0, none⟩)))]) rfl Tryd.func14 (by kernel_rfl) (by kernel_rfl) (by simp only [List.map_toArray, List.map_cons, List.map_nil, e104] <;> rfl)) ((err_any _ _ _ _ _ _ (Xm.Sc.grow HR8.out.sc hC)).mono fun e w' ⟨he, hw⟩ => ⟨_, he, hw ▸ Flow.grow_refl _, rfl⟩)
            refine Flow.Ones.cons ?_ ?_
            · rintro a w hC hoff ⟨k9, k7, -⟩
              have e105 : a.eval (.tmp 105) = .int .i64 0 := k9 105 rfl
              have e103 : a.eval (.tmp 103) = .bool false := k7 103 rfl
              refine .inl ⟨Flow.want_yes rfl rfl e103, ?_⟩
              refine Flow.run_same ?_ Flow.grow_refl
              have ec := Flow.eval_const a
              generalize a.eval = ρ at e105 ec ⊢
              simp [execOp, e105, ec, go_sem]
            refine Flow.Ones.cons ?_ ?_
            · rintro a w hC hoff ⟨k7, k10, -⟩
              have e103 : a.eval (.tmp 103) = .bool false := k7 103 rfl
              have e106 : a.eval (.tmp 106) = .bool false := k10 106 rfl
              refine .inl ⟨Flow.want_none rfl, ?_⟩
              exact Flow.run_same (Flow.exec_pick_no rfl e103 e106) Flow.grow_refl
            exact trivial
          case stab21 => trivial
          case ends21 =>
            intro w9 hC
            simp only [List.toList_toArray, Flow.ends]
            simp only [Act.put, List.setIfInBounds_toArray, List.set_cons_succ, List.set_cons_zero]
            go_wp2_with fail
            go_roundw
            case rel => exact ⟨j + 1, k', by omega, by first | rfl | go_num, Lib.hid ⟨Xm.Sc.grow HR8.out.sc hC, HR8.out.mv.trans (Xm.Mv.of S hC), HR8.out.rest⟩⟩
            case measure => simp only [intOf]; omega
        · have e1 : ¬ (j : Int) < (L.length : Int) := by omega
          have hlast := HRd.out.last HD.out (by omega)
          have Hlast := Lib.hid hlast
          clear hlast
          have G6 : Hid (Flow.Grow w w6) := Lib.hid (HRd.out.mv.grow HM5.out.grow HSl.out.1)
          go_wp2_with (first
            | (go_at_call 15; refine (awake_T w6 (HT.out.grow G6.out) (HM.out.grow G6.out)).mono ?_; rintro e w7 ⟨rfl, hg7⟩)
            | (go_at_call 12; refine (next_T S D ⟨k, 0, 0⟩ w7 (Xm.Sc.grow HRd.out.sc hg7) Hk.out (by omega) ((HT.out.grow G6.out).grow hg7) ((HM.out.grow G6.out).grow hg7) HS1.out).mono ?_; rintro e w8 ⟨va, rfl, hat, hfr, hs8, hm8⟩; rw [Hlast.out] at hat hs8 ⊢; obtain ⟨ao, ac, hva⟩ := hat.shape; subst hva; unfold Xm.Pc.cells)
            | (go_at_call 13; refine (same4_true Xm.Pc.zero _ (.slice none 0 0) w8 hat (.inl ⟨rfl, rfl⟩) (by simp [Xm.Pc.zero])).mono ?_; rintro e w9 ⟨rfl, hg9⟩)
            | (go_at_call 14; refine (err_any S D D.size 0 0 w9 (Xm.Sc.grow hs8 hg9)).mono ?_; rintro e w10 ⟨rfl, rfl⟩)
            | (go_at_call 16; refine (at_any S D D.size 0 0 w9 (Xm.Sc.grow hs8 hg9)).mono ?_; rintro e w10 ⟨rfl, rfl⟩))
          go_ret
          rw [show Xm.atOf 0 (D.size : Int) 0 = (D.size : Int) from rfl, beq_self_eq_true]
          exact ⟨rfl, (Xm.Mv.grow (G6.out.trans hg7) hm8 HSl.out.1).trans hg9⟩
    have hd : decide (i < 10 ∧ i < n0) = true := decide_eq_true hlt
    rw [hd]
    have hg := HMd.out.grow
    obtain ⟨g0, off0, z, rfl, hg0, hz⟩ := H0.out i hlt.2
    have Hz := Lib.hid ((Xm.cell_grow hg hg0).trans hz)
    have hk : ∃ y : Int, bits .and .i64 z 65535 = y ∧ 0 ≤ y ∧ y < 65536 := ⟨z % 2 ^ 16, Bits.i64_mask z 16 (by omega) 65535 (by decide), by omega, by omega⟩
    obtain ⟨y, hy, hy0⟩ := hk
    clear hg0 hz hg
    go_upto_if 31 with fail
    go_cut [10] from 18 to 85 (fun v10 wx => ∃ sa : ByteArray, v10 = .string sa ∧ sa.size ≤ 9223372036854775807 ∧ wx = wr)
    case first =>
      by_cases hn : i < n1
      · have e1 : (i : Int) < (n1 : Int) := by omega
        have e2 : ¬ (n1 : Int) ≤ (i : Int) := by omega
        obtain ⟨g, off, x, rfl, hgl, hx, hxs⟩ := H1.out i hn
        have hx := (Xm.cell_grow HMd.out.grow hgl).trans hx
        go_wp2_with fail
        go_meet
        case rel => exact ⟨x, rfl, hxs, rfl⟩
      · have e1 : ¬ (i : Int) < (n1 : Int) := by omega
        go_wp2_with fail
        go_meet
        case rel => exact ⟨_, rfl, Nat.zero_le _, rfl⟩
    case rest =>
      obtain ⟨sa, rfl, hsa, hwx⟩ := hcut
      have hwx := hwx.symm
      subst hwx
      go_upto_if 39 with fail
      go_cut [11] from 18 to 85 (fun v11 wx => ∃ ta : ByteArray, v11 = .string ta ∧ ta.size ≤ 9223372036854775807 ∧ wx = wr)
      case first =>
        by_cases hn : i < n2
        · have e1 : (i : Int) < (n2 : Int) := by omega
          have e2 : ¬ (n2 : Int) ≤ (i : Int) := by omega
          obtain ⟨g, off, x, rfl, hgl, hx, hxs⟩ := H2.out i hn
          have hx := (Xm.cell_grow HMd.out.grow hgl).trans hx
          go_wp2_with fail
          go_meet
          case rel => exact ⟨x, rfl, hxs, rfl⟩
        · have e1 : ¬ (i : Int) < (n2 : Int) := by omega
          go_wp2_with fail
          go_meet
          case rel => exact ⟨_, rfl, Nat.zero_le _, rfl⟩
      case rest =>
        obtain ⟨ta, rfl, hta, hwx⟩ := hcut
        have hwx := hwx.symm
        subst hwx
        have hz := Hz.out
        have g3 : ¬ (n0 : Int) ≤ (i : Int) := by omega
        go_upto_region 11 with (go_at_call 10; refine (piece_any y sa ta wr hy0 hsa hta).mono ?_; rintro e w2 ⟨x, o, p, va, rfl, hg2, hok, hxlt, hx1, hat, ha3, hfr, hor⟩; obtain ⟨ao, ac, hva⟩ := hat.shape; subst hva; obtain ⟨pk, pn, pa, pt, pp⟩ := p; unfold Xm.Pc.cells)
        have HMd2 := Lib.hid (HMd.out.more (hg2.trans (Flow.grow_alloc w2 (.cells #[.int .i64 pk, .string pn, .slice ao pa.length ac, .string pt, .int .i64 pp] 27))))
        have HR2 : Hid (Xm.Row5 (w2.alloc (.cells #[.int .i64 pk, .string pn, .slice ao pa.length ac, .string pt, .int .i64 pp] 27)) w2.heap.size #[.int .i64 pk, .string pn, .slice ao pa.length ac, .string pt, .int .i64 pp]) := Lib.hid (heap_alloc_new _ _)
        have HA2 : Hid (Xm.AttrsAt (w2.alloc (.cells #[.int .i64 pk, .string pn, .slice ao pa.length ac, .string pt, .int .i64 pp] 27)) (.slice ao pa.length ac) pa) := Lib.hid (Xm.AttrsAt.stay hat (Flow.grow_alloc _ _).size (fun g _ hg => (Flow.grow_alloc _ _).block g hg (by simp)))
        have HF2 : Hid (∀ q, (Value.slice ao pa.length ac).ownBlock = some q → wr.heap.size ≤ q ∧ q < w2.heap.size) := Lib.hid (fun q hq => ⟨by
          rcases Nat.lt_or_ge q wr.heap.size with h | h
          · exact absurd hq (hfr q h)
          · exact h, hat.blk q hq⟩)
        have HX : Hid (Xm.ItOk (x, o) ∧ Xm.Lt x ∧ x.length ≤ 1000 ∧ pa.length ≤ 3) := Lib.hid ⟨hok, hxlt, hx1, ha3⟩
        have HO := Lib.hid hor
        have Hwr : Hid (w.heap.size ≤ wr.heap.size ∧ wr.heap.size ≤ w2.heap.size ∧ ∀ q, (Value.slice ko L.length kc).ownBlock = some q → q < wr.heap.size) := Lib.hid ⟨HMd.out.grow.size, hg2.size, fun q hq => (World.ownsRow.lt HMd.out.own q hq).2⟩
        have Hold : Hid (∀ y ∈ L, ∀ q, y.2.ownBlock = some q → q < w2.heap.size) := Lib.hid (fun y hy q hq => Nat.lt_of_lt_of_le ((HMd.out.at' y hy).2.1 q hq).1 hg2.size)
        obtain ⟨R, hR⟩ : ∃ R, R = w2.heap.size := ⟨_, rfl⟩
        rw [← hR] at HR2 HF2 Hwr Hold ⊢
        clear hR hok hxlt hx1 ha3 hfr hat hor hg2 hz HMd
        generalize w2.alloc (.cells #[.int .i64 pk, .string pn, .slice ao pa.length ac, .string pt, .int .i64 pp] 27) = w3 at *
        have r0 := (cell_of_row w3 R 0 _ _ _ HR2.out).trans rfl
        go_cut [72] from 18 to 85 (fun v72 wx => v72 = .bool (Xm.skipB pk L) ∧ wx = w3)
        case first =>
          rcases Xm.nil_or_snoc L with rfl | ⟨L0, q, rfl⟩
          · have e1 : ¬ ((([] : List (Xm.Pc × Value)).length : Nat) : Int) > 0 := by simp
            have e2 : ¬ (0 : Int) < ((([] : List (Xm.Pc × Value)).length : Nat) : Int) := by simp
            have hs : Xm.skipB pk [] = false := by simp [Xm.skipB]
            go_wp2_with fail
            go_meet
            case rel => exact ⟨by rw [hs], rfl⟩
          · have hN : (L0 ++ [q]).length = L0.length + 1 := by simp
            have hko : ∃ g, ko = some ⟨g, 0, none⟩ := by
              rcases HMd2.out.own.2 with ⟨h, h0⟩ | ⟨g, cap, cur, h, _⟩
              · rw [hN] at h0; omega
              · cases h; exact ⟨g, rfl⟩
            obtain ⟨g, rfl⟩ := hko
            have hcell : w3.cell? ⟨g, L0.length * 5, none⟩ = some (.int .i64 q.1.kind) := by
              have h := HMd2.out.own
              unfold Xm.OwnP at h
              rw [h.cellAt (L0.length * 5) (by rw [hN]; omega)]
              exact (Xm.flatP_get (L0 ++ [q]) L0.length q (by simp)).1
            have hs : Xm.skipB pk (L0 ++ [q]) = (decide (pk = 4) && (q.1.kind == 4)) := by simp [Xm.skipB]
            have HMn := Lib.hid HMd2.out.most
            have hLn : (L0 ++ [q]).length ≤ its.length := by
              have h1 := congrArg List.length HMd2.out.same
              have h2 := Xm.pcs_len_le its 0
              rw [List.length_map] at h1
              omega
            have hits := HMd2.out.most
            have Hs := Lib.hid hs
            obtain ⟨N, hN'⟩ : ∃ N, N = (L0 ++ [q]).length := ⟨_, rfl⟩
            rw [← hN'] at hN hLn ⊢
            have HN' := Lib.hid hN'
            obtain ⟨m, hm⟩ : ∃ m, m = L0.length := ⟨_, rfl⟩
            rw [← hm] at hN hcell
            clear hs hN' hm
            have e1 : (0 : Int) < (N : Int) := by omega
            have e2 : IntKind.i64.wrap ((N : Int) - 1) = (m : Int) := (IntWalk.i64_in _ (by omega)).trans (by omega)
            have e3 : ¬ (N : Int) ≤ (m : Int) := by omega
            clear hN hLn
            obtain ⟨qk, hqk⟩ : ∃ k, k = q.1.kind := ⟨_, rfl⟩
            rw [← hqk] at hcell
            have Hqk := Lib.hid hqk
            clear hqk
            by_cases p4 : pk = 4
            · have f1 : (pk == 4) = true := by simp [p4]
              by_cases q4 : qk = 4
              · have f2 : (qk == 4) = true := by simp [q4]
                go_wp2_with fail
                have eN := HN'.out
                subst eN
                go_meet
                case rel => exact ⟨by rw [Hs.out, ← Hqk.out]; simp [p4, q4], rfl⟩
              · have f2 : (qk == 4) = false := by simp [q4]
                go_wp2_with fail
                have eN := HN'.out
                subst eN
                go_meet
                case rel => exact ⟨by rw [Hs.out, ← Hqk.out]; simp [p4, q4], rfl⟩
            · have f1 : (pk == 4) = false := by simp [p4]
              go_wp2_with fail
              have eN := HN'.out
              subst eN
              go_meet
              case rel => exact ⟨by rw [Hs.out]; simp [p4], rfl⟩
        case rest =>
          obtain ⟨rfl, hwx⟩ := hcut
          have hwx := hwx.symm
          subst hwx
          cases hsk : Xm.skipB pk L
          · have hX := HX.out
            have HL3 := Lib.hid hX
            clear hX
            obtain ⟨D, hD⟩ : ∃ D, D = str (Xm.docB its) := ⟨_, rfl⟩
            obtain ⟨SX, hSX⟩ : ∃ SX, SX = str x := ⟨_, rfl⟩
            have hDz : D.size ≤ 10000 := by rw [hD, str_size]; omega
            have hSXz : SX.size ≤ 1000 := by rw [hSX, str_size]; exact HL3.out.2.2.1
            rw [← hD, ← hSX]
            have HD := Lib.hid hD
            have HSX := Lib.hid hSX
            clear hD hSX
            have hl : ¬ 9223372036854775807 < D.size + SX.size := by omega
            have r4 := (cell_of_row w3 R 4 _ _ _ HR2.out).trans rfl
            have rf : ∀ j, w3.frozen? ⟨R, j, none⟩ = false := fun j => frozen_of_row w3 R _ _ _ HR2.out
            go_upto_region 14 with fail
            have HR3 := Lib.hid (HR2.out.set 4 (.int .i64 (D.size : Int)))
            have hmv : Xm.Mv w3 R (w3.setCell ⟨R, 4, none⟩ (.int .i64 (D.size : Int))) := Xm.Mv.set
            have hRk : (Value.slice ko L.length kc).ownBlock ≠ some R := fun e => by
              have h1 := Hwr.out.2.2 R e
              have h2 := Hwr.out.2.1
              omega
            have HM4 := Lib.hid (HMd2.out.mvR hmv hRk Hold.out (Nat.le_trans Hwr.out.1 Hwr.out.2.1))
            have HA4 : Hid (Xm.AttrsAt (w3.setCell ⟨R, 4, none⟩ (.int .i64 (D.size : Int))) (.slice ao pa.length ac) pa) := Lib.hid (HA2.out.set (fun e => by have := (HF2.out R e).2; omega))
            clear HMd2 HR2 HA2 hmv hRk rf r0 r4
            generalize w3.setCell ⟨R, 4, none⟩ (.int .i64 (D.size : Int)) = w4 at *
            have r0 := (cell_of_row w4 R 0 _ _ _ HR3.out).trans rfl
            have r1 := (cell_of_row w4 R 1 _ _ _ HR3.out).trans rfl
            have r2 := (cell_of_row w4 R 2 _ _ _ HR3.out).trans rfl
            have r3 := (cell_of_row w4 R 3 _ _ _ HR3.out).trans rfl
            have r4 := (cell_of_row w4 R 4 _ _ _ HR3.out).trans rfl
            have hDs : D.size = (Xm.docB its).length := by rw [HD.out, str_size]
            rcases HO.out with ⟨rfl, hk0, hp0⟩ | ⟨rfl, hpz⟩
            · have hk0 : pk ≠ 0 := hk0
              have f0 : (pk == 0) = false := by simp [hk0]
              have f1 : (pk != 0) = true := by simp [hk0]
              have hown := HM4.out.own
              unfold Xm.OwnP at hown
              have Hown := Lib.hid hown
              have HDs := Lib.hid hDs
              clear hown hDs
              have hLn : L.length ≤ 10 := by
                have h1 := congrArg List.length HM4.out.same
                have h2 := Xm.pcs_len_le its 0
                have h3 := HM4.out.most
                rw [List.length_map] at h1
                omega
              have HI2 := HI.out
              obtain ⟨hi, hz0, hz1, hz2⟩ := HI2
              go_wp2_with (at_builtin; refine wpList_append_put _ rfl _ _ 24 rfl 27 i0 (.agg #[.int .i64 0, .string ByteArray.empty, .slice none 0 0, .string ByteArray.empty, .int .i64 0]) 5 72 Tryd.underlying24 hi hz0 hz1 hz2 rfl (by decide) _ _ _ rfl (Hown.out.alloc _) (some ⟨w4.heap.size, 0, none⟩) 1 1 [.int .i64 pk, .string pn, .slice ao pa.length ac, .string pt, .int .i64 (D.size : Int)] rfl rfl (by simp) ?c1 ?c2 ?c3 ?c4 ?_)
              case c2 => first | (intro u hu; simp at hu; rcases hu with rfl | rfl | rfl | rfl | rfl <;> rfl) | exact ⟨rfl, rfl, rfl, rfl, rfl⟩
              case c3 => unfold maxLen; omega
              case c4 => omega
              intro v' w5 hown' hgrow hmoved _
              clear hi hz0 hz1 hz2
              have ga := Flow.grow_alloc w4 (.cells #[.int .i64 pk, .string pn, .slice ao pa.length ac, .string pt, .int .i64 (D.size : Int)] 27)
              have HP5 := Lib.hid ((HM4.out.more ga).push (x := x) (p := ⟨pk, pn, pa, pt, pp⟩) (va := .slice ao pa.length ac) hgrow hmoved (by rw [HDs.out] at hown'; exact hown') HL3.out.1 HL3.out.2.1 HL3.out.2.2.1 hsk (Xm.AttrsAt.stay HA4.out ga.size (fun g _ hg => ga.block g hg (by simp))) (fun q hq e => by
                have h1 := Hwr.out.2.2 q e
                have h2 := (HF2.out q hq).1
                omega) HL3.out.2.2.2)
              obtain ⟨ko', kc', hv'⟩ : ∃ a c, v' = .slice a (L.length + 1) c := by
                rcases hown'.2 with ⟨h, h0⟩ | ⟨g, cap, cur, h, _⟩
                · omega
                · exact ⟨_, cap, h⟩
              subst hv'
              clear hown' hgrow hmoved ga Hown r0 r1 r2 r3 r4
              go_wp2_with fail
              go_roundw
              case rel => exact ⟨i + 1, its ++ [(x, some ⟨pk, pn, pa, pt, pp⟩)], ko', kc', L ++ [(Xm.Pc.put ⟨pk, pn, pa, pt, pp⟩ (Xm.docB its).length, .slice ao pa.length ac)], by omega, by omega, by first | rfl | go_num, by rw [HD.out, HSX.out, str_append, Xm.docB_append]; simp [Xm.docB], by rw [List.length_append]; rfl, by rw [List.length_append]; exact HP5⟩
              case measure => simp only [intOf]; omega
            · have hpk : pk = 0 := congrArg Xm.Pc.kind hpz
              subst hpk
              clear r1 r2 r3 r4
              go_wp2_with fail
              go_roundw
              case rel => exact ⟨i + 1, its ++ [(x, none)], ko, kc, L, by omega, by omega, by first | rfl | go_num, by rw [HD.out, HSX.out, str_append, Xm.docB_append]; simp [Xm.docB], rfl, Lib.hid (HM4.out.side HL3.out.1 HL3.out.2.1 HL3.out.2.2.1)⟩
              case measure => simp only [intOf]; omega
          · go_wp2_with fail
            go_roundw
            case rel => exact ⟨i + 1, its, ko, kc, L, by omega, by omega, by first | rfl | go_num, rfl, rfl, Lib.hid HMd2.out.skip⟩
            case measure => simp only [intOf]; omega
end Go.Proofs.YtfkdjdmbgednkaaDoor
