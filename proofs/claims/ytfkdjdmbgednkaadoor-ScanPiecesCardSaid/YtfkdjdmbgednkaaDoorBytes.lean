/- Bytes in memory as lists of bytes: what reads, what is the call's own, and what they are as a text. No program. -/
import Derived.Test.YtfkdjdmbgednkaaDoorOwn
import Derived.Test.YtfkdjdmbgednkaaDoorFlow
namespace Go.Proofs.YtfkdjdmbgednkaaDoor
open Go.RowKit

/-- a byte as a cell -/
def u8v (c : UInt8) : Value := .int .u8 (c.toNat : Int)
/-- a text of bytes -/
def str (l : List UInt8) : ByteArray := ⟨l.toArray⟩
theorem str_toList (l : List UInt8) : (str l).data.toList = l := rfl
theorem str_append (l m : List UInt8) : str l ++ str m = str (l ++ m) := by
  apply ByteArray.ext
  simp [str, ByteArray.data_append]
theorem str_inj {l m : List UInt8} (h : str l = str m) : l = m := by rw [← str_toList l, h, str_toList]
theorem str_size (l : List UInt8) : (str l).size = l.length := by simp [str, ByteArray.size]

/-- a slice of bytes that reads as a list -/
def Bytes (w : World) (v : Value) (l : List UInt8) : Prop :=
  ∃ a cap, v = .slice a l.length cap ∧ l.length ≤ 140737488351232 ∧ (a = none → l.length = 0 ∧ cap = 0) ∧ ∀ j, j < l.length → ∃ b off, a = some ⟨b, off, none⟩ ∧ b < w.heap.size ∧ w.cell? ⟨b, off + j, none⟩ = some (u8v (l.getD j 0))

theorem Bytes.shape {w : World} {v : Value} {l : List UInt8} (h : Bytes w v l) (hl : l ≠ []) :
    ∃ b off cap, v = .slice (some ⟨b, off, none⟩) l.length cap ∧ b < w.heap.size ∧ ∀ j, j < l.length → w.cell? ⟨b, off + j, none⟩ = some (u8v (l.getD j 0)) := by
  obtain ⟨a, cap, rfl, hm, _, hc⟩ := h
  have h0 : 0 < l.length := by cases l <;> simp_all
  obtain ⟨b, off, rfl, hb, _⟩ := hc 0 h0
  refine ⟨b, off, cap, rfl, hb, fun j hj => ?_⟩
  obtain ⟨b', off', e, _, h'⟩ := hc j hj
  cases e
  exact h'

theorem Bytes.grow {w w' : World} {v : Value} {l : List UInt8} (h : Bytes w v l) (g : Flow.Grow w w') : Bytes w' v l := by
  obtain ⟨a, cap, rfl, hm, hn, hc⟩ := h
  refine ⟨a, cap, rfl, hm, hn, fun j hj => ?_⟩
  obtain ⟨b, off, ha, hb, hcell⟩ := hc j hj
  exact ⟨b, off, ha, Nat.lt_of_lt_of_le hb g.size, (World.cell?_of_block (g.block b hb (by simp))).trans hcell⟩

theorem Bytes.of_own {w : World} {base e : Nat} {v : Value} {n : Nat} {l : List UInt8} (h : w.ownsRow base e 1 v n (l.map u8v)) (hm : l.length ≤ 140737488351232) : Bytes w v l := by
  have hlen : l.length = n := by simpa using h.1
  subst hlen
  rcases h.2 with ⟨rfl, h0⟩ | ⟨g, cap, cur, rfl, _, hg, _⟩
  · exact ⟨none, 0, by rw [h0], hm, fun _ => ⟨h0, rfl⟩, fun j hj => by omega⟩
  · refine ⟨some ⟨g, 0, none⟩, cap, rfl, hm, by simp, fun j hj => ⟨g, 0, rfl, (Array.getElem?_eq_some_iff.1 hg).1, ?_⟩⟩
    rw [Nat.zero_add, h.cellAt j (by omega)]
    simp [hj]

theorem Bytes.len {w : World} {a : Option Addr} {n cap : Nat} {l : List UInt8} (h : Bytes w (.slice a n cap) l) : n = l.length ∧ l.length ≤ 140737488351232 := by
  obtain ⟨a', cap', e, hm, _⟩ := h
  cases e
  exact ⟨rfl, hm⟩
theorem Bytes.ifNone {w : World} {a : Option Addr} {n cap : Nat} {l : List UInt8} (h : Bytes w (.slice a n cap) l) : a = none → n = 0 ∧ cap = 0 := by
  obtain ⟨a', cap', e, _, hn, _⟩ := h
  cases e
  exact hn
theorem Bytes.cells {w : World} {a : Option Addr} {n cap : Nat} {l : List UInt8} (h : Bytes w (.slice a n cap) l) : ∀ ad, a = some ad → ∀ j u, (l.map u8v)[j]? = some u → w.cell? (ad.add j) = some u := by
  obtain ⟨a', cap', e, _, _, hc⟩ := h
  cases e
  intro ad had j u hu
  have hj : j < l.length := by
    have := (List.getElem?_eq_some_iff.1 hu).1
    simpa using this
  obtain ⟨b, off, ha, _, hcell⟩ := hc j hj
  rw [ha] at had
  cases had
  rw [Addr.add_lit, hcell, ← hu]
  simp [hj]
theorem Bytes.cut {w : World} {a : Option Addr} {n cap : Nat} {l : List UInt8} (h : Bytes w (.slice a n cap) l) {m : Nat} (hm : m ≤ l.length) : Bytes w (.slice a m cap) (l.take m) := by
  obtain ⟨a', cap', e, h1, h2, h3⟩ := h
  cases e
  refine ⟨a, cap, by rw [List.length_take, Nat.min_eq_left hm], by rw [List.length_take]; omega, fun ha => ⟨by have := (h2 ha).1; rw [List.length_take]; omega, (h2 ha).2⟩, fun j hj => ?_⟩
  rw [List.length_take] at hj
  obtain ⟨b, off, ha, hb, hcell⟩ := h3 j (by omega)
  refine ⟨b, off, ha, hb, ?_⟩
  rw [hcell]
  simp [show j < m by omega]

theorem Bytes.nil (w : World) : Bytes w (.slice none 0 0) [] := ⟨none, 0, rfl, by simp, fun _ => ⟨rfl, rfl⟩, fun j hj => by simp at hj⟩

section
variable {P : Program}
theorem run_str {w : World} {v : Value} {l : List UInt8} (h : Bytes w v l) (src dst e : TypeId) (hs : P.underlying src = some (.slice e)) (he : P.underlying e = some (.int .u8)) (hd : P.underlying dst = some .string) :
    (convert src dst v).run P w = .ok (.string (str l)) w := by
  obtain ⟨a, cap, rfl, hm, hn, hc⟩ := h
  cases a with
  | none =>
    have h0 : l.length = 0 := (hn rfl).1
    have : l = [] := List.eq_nil_of_length_eq_zero h0
    subst this
    rw [run_convert_bytes_string w src dst e none _ cap hs he hd]
    simp [Conv.bytesToString]
    rfl
  | some ad =>
    refine run_convert_bytes_back w src dst e ad cap l hs he hd fun j hj => ?_
    obtain ⟨b, off, ha, hb, hcell⟩ := hc j hj
    cases ha
    rw [Addr.add_lit, hcell]
    simp [u8v, hj]

theorem exec_str {o : Oper} {ρ : Operand → Value} {x : Operand} {w : World} {v : Value} {l : List UInt8} {src dst : TypeId} (e : TypeId) (ho : o.op = .convert src dst x) (hx : ρ x = v) (h : Bytes w v l)
    (hs : P.underlying src = some (.slice e)) (he : P.underlying e = some (.int .u8)) (hd : P.underlying dst = some .string) :
    (execOp ρ o).run P w = .ok (.value (.string (str l))) w := by
  have hr := run_str (P := P) h src dst e hs he hd
  simp [execOp, ho, hx, hr]

theorem exec_add_str {o : Oper} {ρ : Operand → Value} {x y : Operand} {w : World} {a b : List UInt8} {t t' : TypeId} (_ht : P.underlying t = some .string) (ho : o.op = .binOp .add t x y t') (hx : ρ x = .string (str a)) (hy : ρ y = .string (str b))
    {c : List UInt8} (hc : a ++ b = c) (hl : a.length + b.length ≤ 9223372036854775807) : (execOp ρ o).run P w = .ok (.value (.string (str c))) w := by
  subst hc
  have hl' : ¬ 9223372036854775807 < (str a).size + (str b).size := by rw [str_size, str_size]; omega
  simp [execOp, ho, hx, hy, go_sem, hl', str_append]
theorem exec_eq_str {o : Oper} {ρ : Operand → Value} {x y : Operand} {w : World} {a b : List UInt8} {t t' : TypeId} (_ht : P.underlying t = some .string) (ho : o.op = .binOp .eql t x y t') (hx : ρ x = .string (str a)) (hy : ρ y = .string (str b)) {c : Bool} (hc : (a == b) = c) :
    (execOp ρ o).run P w = .ok (.value (.bool c)) w := by
  subst hc
  have ea : (str a).toList = a := ByteArray.toList_mk a
  have eb : (str b).toList = b := ByteArray.toList_mk b
  simp [execOp, ho, hx, hy, go_sem, ea, eb]
end
end Go.Proofs.YtfkdjdmbgednkaaDoor
