/- What is known of arguments that read: an element, two numbers. -/
/- entity.names as a row lists it: the table's cells; the library's variable is some number. -/
import Derived.Test.YtdpkhmfolmcejaaGreatDoorNice
import Derived.Test.YtdpkhmfolmcejaaGreatDoorRows
import Derived.Test.YtdpkhmfolmcejaaGreatDoorMOne
import Derived.Test.YtdpkhmfolmcejaaGreatDoorMScan
import Derived.Deep.Slices
import Derived.Deep.Strs
import Derived.ChangeSlices
import Derived.OpenShut
import Derived.Lib.LaidTab
import Derived.ChangeSame
namespace Go.Proofs.YtdpkhmfolmcejaaGreatDoor
open Go.ChangeShapes Go.RowKit Go.Deep
namespace Xm
theorem five_of : ∀ {l : List Value}, l.length = 5 → ∃ a b c d e, l = [a, b, c, d, e]
  | [a, b, c, d, e], _ => ⟨a, b, c, d, e, rfl⟩
  | [], h => by cases h
  | [_], h => by cases h
  | [_, _], h => by cases h
  | [_, _, _], h => by cases h
  | [_, _, _, _], h => by cases h
  | _ :: _ :: _ :: _ :: _ :: _ :: _, h => by simp at h
theorem pair_of : ∀ {l : List Value}, l.length = 2 → ∃ a b, l = [a, b]
  | [], h => by cases h
  | [_], h => by cases h
  | [a, b], _ => ⟨a, b, rfl⟩
  | _ :: _ :: _ :: _, h => by simp at h
theorem cNode : Tryz.prog.cellsOf 25 = 5 := by kernel_rfl
theorem cAttr : Tryz.prog.cellsOf 41 = 2 := by kernel_rfl
theorem cStr : Tryz.prog.cellsOf 9 = 1 := by kernel_rfl
theorem cAttrs : Tryz.prog.cellsOf 22 = 1 := by kernel_rfl
theorem cNodes : Tryz.prog.cellsOf 23 = 1 := by kernel_rfl
theorem cTwo : Tryz.prog.cellsOf 36 = 2 := by kernel_rfl
theorem cInt : Tryz.prog.cellsOf 3 = 1 := by kernel_rfl
theorem maxL : maxLen = 9223372036854775807 := rfl
theorem cell_plain {W : World} {x : Addr} {v : Value} (h : W.cell? (x.add 0) = some v) : ∃ g off, x = ⟨g, off, none⟩ ∧ g < W.heap.size := by
  obtain ⟨g, off, sp⟩ := x
  cases sp with
  | none =>
    rw [Addr.add_lit] at h
    exact ⟨g, off, rfl, World.block_lt_of_cell? W _ h⟩
  | some s =>
    exfalso
    unfold World.cell? Addr.add at h
    simp at h
    split at h
    · simp at h
    · cases h
section
variable {H : Type} {enc : TypeId × Value → H} {W : World}
theorem attr_cells {fuel : Nat} {cs : List Value} {x : DataW H × List MemPlace} (h : DataW.trod enc Tryz.prog W 0 (fun _ => true) true fuel 41 cs = some x) :
    ∃ s t : ByteArray, cs = [.string s, .string t] ∧ s.size ≤ 9223372036854775807 ∧ t.size ≤ 9223372036854775807 := by
  obtain ⟨y0, y1, m, hx, hl, h0, h1⟩ := trod_struct2 Tryz.underlying41 h
  rw [cAttr] at hl
  obtain ⟨v0, v1, rfl⟩ := pair_of hl
  obtain ⟨s, hs, _, z0⟩ := DataW.trod_string Tryz.underlying9 h0
  obtain ⟨t, ht, _, z1⟩ := DataW.trod_string Tryz.underlying9 h1
  rw [maxL] at z0 z1
  rw [cStr] at hs ht
  simp at hs ht
  exact ⟨s, t, by rw [hs, ht], z0, z1⟩
/-- the rows of a slice that reads -/
theorem rows_of {t e : TypeId} {k fuel : Nat} {v : Value} {x : DataW H × List MemPlace} (ht : Tryz.prog.underlying t = some (.slice e)) (hc : Tryz.prog.cellsOf e = k) (hk : 0 < k)
    (h : DataW.trod enc Tryz.prog W 0 (fun _ => true) true fuel t [v] = some x) :
    ∃ (a : Option Addr) (n c : Nat), v = .slice a n c ∧ ∀ i, i < n → ∃ (g off : Nat) (cs : List Value) (m : Nat) (y : DataW H × List MemPlace), a = some ⟨g, off, none⟩ ∧ g < W.heap.size ∧ cs.length = k ∧ (∀ j, j < k → W.cell? ⟨g, off + i * k + j, none⟩ = cs[j]?) ∧ m < fuel ∧
      DataW.trod enc Tryz.prog W 0 (fun _ => true) true m e cs = some y := by
  rcases DataW.trod_slice ht h with ⟨hv, _⟩ | ⟨a, len, cap, elems, rest, n, rfl, hv, _, _, _, _, hlen, hel, _, _⟩
  · simp at hv
    exact ⟨none, 0, 0, hv, fun i hi => by omega⟩
  · simp at hv
    refine ⟨some a, len, cap, hv, fun i hi => ?_⟩
    have el : ∀ i, i < len → ∃ cs y, W.cells? 0 (a.add (i * k)) k = some cs ∧ DataW.trod enc Tryz.prog W 0 (fun _ => true) true n e cs = some y := by
      intro i hi
      have h1 := hel i hi
      rw [List.getElem?_eq_getElem (show i < elems.length by omega), hc] at h1
      obtain ⟨cs, h2, h3⟩ := Option.bind_eq_some_iff.1 h1
      exact ⟨cs, _, h2, h3⟩
    obtain ⟨c0, _, h0, _⟩ := el 0 (by omega)
    obtain ⟨_, l0, f0⟩ := World.cells?_some h0
    have f00 := f0 0 hk
    rw [Nat.zero_mul, add_add, List.getElem?_eq_getElem (show 0 < c0.length by omega)] at f00
    obtain ⟨g, off, rfl, hg⟩ := cell_plain f00
    obtain ⟨cs, y, h1, h2⟩ := el i hi
    obtain ⟨_, l1, f1⟩ := World.cells?_some h1
    refine ⟨g, off, cs, n, y, rfl, hg, l1, fun j hj => ?_, Nat.lt_succ_self n, h2⟩
    have := f1 j hj
    rwa [add_add, Addr.add_lit, ← Nat.add_assoc] at this
theorem argN_cells : ∀ (fuel : Nat) (cs : List Value) (x : DataW H × List MemPlace), DataW.trod enc Tryz.prog W 0 (fun _ => true) true fuel 25 cs = some x → ArgN W (.agg cs.toArray) := by
  intro fuel
  induction fuel using Nat.strongRecOn with
  | _ fuel ih =>
    intro cs x h
    obtain ⟨xs, n, rfl, _, hl, hxl, hf⟩ := DataW.trod_struct Tryz.underlying25 h
    rw [cNode] at hl
    obtain ⟨v0, v1, v2, v3, v4, rfl⟩ := five_of hl
    have hxl : xs.length = 5 := hxl
    have s0 : DataW.trod enc Tryz.prog W 0 (fun _ => true) true n 9 (List.take (Tryz.prog.cellsOf 9) [v0, v1, v2, v3, v4]) = xs[0]? := hf 0 _ rfl
    rw [cStr, List.getElem?_eq_getElem (show 0 < xs.length by omega)] at s0
    have s1 : DataW.trod enc Tryz.prog W 0 (fun _ => true) true n 9 (List.take (Tryz.prog.cellsOf 9) [v1, v2, v3, v4]) = xs[1]? := hf 1 _ rfl
    rw [cStr, List.getElem?_eq_getElem (show 1 < xs.length by omega)] at s1
    have s2 : DataW.trod enc Tryz.prog W 0 (fun _ => true) true n 22 (List.take (Tryz.prog.cellsOf 22) [v2, v3, v4]) = xs[2]? := hf 2 _ rfl
    rw [cAttrs, List.getElem?_eq_getElem (show 2 < xs.length by omega)] at s2
    have s3 : DataW.trod enc Tryz.prog W 0 (fun _ => true) true n 23 (List.take (Tryz.prog.cellsOf 23) [v3, v4]) = xs[3]? := hf 3 _ rfl
    rw [cNodes, List.getElem?_eq_getElem (show 3 < xs.length by omega)] at s3
    have s4 : DataW.trod enc Tryz.prog W 0 (fun _ => true) true n 9 (List.take (Tryz.prog.cellsOf 9) [v4]) = xs[4]? := hf 4 _ rfl
    rw [cStr, List.getElem?_eq_getElem (show 4 < xs.length by omega)] at s4
    obtain ⟨sp, e0, _, z0⟩ := DataW.trod_string Tryz.underlying9 s0
    obtain ⟨nm, e1, _, z1⟩ := DataW.trod_string Tryz.underlying9 s1
    obtain ⟨tx, e4, _, z4⟩ := DataW.trod_string Tryz.underlying9 s4
    rw [maxL] at z0 z1 z4
    simp at e0 e1 e4
    have s2 : DataW.trod enc Tryz.prog W 0 (fun _ => true) true n 22 [v2] = some xs[2] := s2
    have s3 : DataW.trod enc Tryz.prog W 0 (fun _ => true) true n 23 [v3] = some xs[3] := s3
    obtain ⟨a1, n1, c1, e2, r1⟩ := rows_of Tryz.underlying22 cAttr (by decide) s2
    obtain ⟨a2, n2, c2, e3, r2⟩ := rows_of Tryz.underlying23 cNode (by decide) s3
    subst e0 e1 e2 e3 e4
    have A : ∀ i, i < n1 → ∃ f : ByteArray × ByteArray, ∃ (g off : Nat), a1 = some ⟨g, off, none⟩ ∧ g < W.heap.size ∧ W.cell? ⟨g, off + i * 2, none⟩ = some (.string f.1) ∧ W.cell? ⟨g, off + i * 2 + 1, none⟩ = some (.string f.2) ∧ f.1.size ≤ 9223372036854775807 ∧ f.2.size ≤ 9223372036854775807 := by
      intro i hi
      obtain ⟨g, off, cs, m, y, p1, p2, _, p4, _, p6⟩ := r1 i hi
      obtain ⟨s, t, rfl, b1, b2⟩ := attr_cells p6
      exact ⟨(s, t), g, off, p1, p2, p4 0 (by decide), p4 1 (by decide), b1, b2⟩
    have K : ∀ i, i < n2 → ∃ h : V5, (∃ (g off : Nat), a2 = some ⟨g, off, none⟩ ∧ g < W.heap.size ∧ W.cell? ⟨g, off + i * 5, none⟩ = some h.1 ∧ W.cell? ⟨g, off + i * 5 + 1, none⟩ = some h.2.1 ∧ W.cell? ⟨g, off + i * 5 + 2, none⟩ = some h.2.2.1 ∧ W.cell? ⟨g, off + i * 5 + 3, none⟩ = some h.2.2.2.1 ∧ W.cell? ⟨g, off + i * 5 + 4, none⟩ = some h.2.2.2.2) ∧ ArgN W (V5.agg h) := by
      intro i hi
      obtain ⟨g, off, cs, m, y, p1, p2, p3, p4, p5, p6⟩ := r2 i hi
      have hN := ih m (by omega) cs y p6
      obtain ⟨u0, u1, u2, u3, u4, rfl⟩ := five_of p3
      exact ⟨(u0, u1, u2, u3, u4), ⟨g, off, p1, p2, p4 0 (by decide), p4 1 (by decide), p4 2 (by decide), p4 3 (by decide), p4 4 (by decide)⟩, hN⟩
    obtain ⟨f, hfA⟩ := choose_lt A
    obtain ⟨h, hK⟩ := choose_lt K
    exact .mk sp nm tx a1 a2 n1 c1 n2 c2 f h z0 z1 z4 hfA (fun i hi => (hK i hi).1) (fun i hi => (hK i hi).2)
set_option maxRecDepth 100000 in
theorem argN_of {base : Nat} {v : Value} {d : DataW H} {ps : List MemPlace} (hv : Value.okWide Tryz.prog W .any base 25 v) (h : DataW.Trod enc Tryz.prog W 0 (fun _ => true) true 25 v d ps) : ArgN W v := by
  obtain ⟨cs, rfl⟩ : ∃ cs, v = .agg cs := by
    unfold Value.okWide at hv
    rw [Tryz.underlying25] at hv
    exact ⟨hv.choose, hv.choose_spec.1⟩
  obtain ⟨fuel, hf⟩ := h
  have := argN_cells fuel cs.toList _ hf
  simpa using this
set_option maxRecDepth 100000 in
theorem two_of {base : Nat} {v : Value} {d : DataW H} {ps : List MemPlace} (hv : Value.okWide Tryz.prog W .any base 36 v) (h : DataW.Trod enc Tryz.prog W 0 (fun _ => true) true 36 v d ps) : ∃ a b : Int, v = .agg #[.int .i64 a, .int .i64 b] := by
  simp only [Value.okWide, Tryz.underlying36] at hv
  obtain ⟨cs, rfl, _, _⟩ := hv
  obtain ⟨fuel, hf⟩ := h
  obtain ⟨xs, m, rfl, _, hl, hxl, hi⟩ := DataW.trod_array Tryz.underlying36 hf
  rw [cTwo] at hl
  have s0 := hi 0 (by decide)
  have s1 := hi 1 (by decide)
  rw [cInt] at s0 s1
  rw [List.getElem?_eq_getElem (show 0 < xs.length by omega)] at s0
  rw [List.getElem?_eq_getElem (show 1 < xs.length by omega)] at s1
  have hl : cs.toList.length = 2 := hl
  obtain ⟨u, v, huv⟩ := pair_of hl
  have hcs : (Value.agg cs).cells.toList = [u, v] := huv
  rw [hcs] at s0 s1
  obtain ⟨a, ha, _, _⟩ := DataW.trod_int Tryz.underlying3 s0
  obtain ⟨b, hb, _, _⟩ := DataW.trod_int Tryz.underlying3 s1
  simp at ha hb
  refine ⟨a, b, ?_⟩
  congr 1
  apply Array.toList_inj.1
  rw [huv, ha, hb]
end
end Xm
end Go.Proofs.YtdpkhmfolmcejaaGreatDoor
namespace Go.Proofs.YtdpkhmfolmcejaaGreatDoor
theorem gNames : Tryz.prog.globalNamed "galliard/entity.names" = some 1 := by kernel_rfl
theorem gNamesType : (Tryz.prog.globals[1]?).map (·.type) = some 131 := by kernel_rfl
theorem cellsArr : Tryz.prog.cellsOf 131 = 10 := by kernel_rfl
theorem cellsOne : Tryz.prog.cellsOf 130 = 2 := by kernel_rfl
theorem cellsStr : Tryz.prog.cellsOf 9 = 1 := by kernel_rfl
theorem cellsInt : Tryz.prog.cellsOf 3 = 1 := by kernel_rfl
theorem two_of : ∀ {l : List Value}, l.length = 2 → ∃ a b, l = [a, b]
  | [], h => by cases h
  | [_], h => by cases h
  | [a, b], _ => ⟨a, b, rfl⟩
  | _ :: _ :: _ :: _, h => by simp at h
set_option maxRecDepth 100000 in
theorem pair_cells {W : World} {H : Type} {enc : TypeId × Value → H} {base : Nat} {sp : Nat → Bool} {held : Bool} {fuel : Nat} {cs : List Value} {a : List UInt8} {n : Int} {p : List MemPlace}
    (h : DataW.trod enc Tryz.prog W base sp held fuel 130 cs = some (.agg [.lit (.string a), .lit (.int .i64 n)], p)) : cs = [.string ⟨a.toArray⟩, .int .i64 n] := by
  obtain ⟨y0, y1, m, hx, hl, h0, h1⟩ := Go.ChangeShapes.trod_struct2 Tryz.underlying130 h
  rw [cellsOne] at hl
  obtain ⟨v0, v1, rfl⟩ := two_of hl
  obtain ⟨s, hs, hy, _⟩ := DataW.trod_string Tryz.underlying9 h0
  obtain ⟨k, hk, hz, _⟩ := DataW.trod_int Tryz.underlying3 h1
  subst hy hz
  simp only [Prod.mk.injEq, DataW.agg.injEq, List.cons.injEq, DataW.lit.injEq, Lit.string.injEq, Lit.int.injEq, true_and, and_true] at hx
  obtain ⟨⟨rfl, rfl⟩, _⟩ := hx
  have e0 : v0 = .string s := by
    have h2 : [v0] = [Value.string s] := hs
    injection h2
  have e1 : v1 = .int .i64 n := by
    have h2 : [v1] = [Value.int .i64 n] := hk
    injection h2
  rw [e0, e1]
set_option maxRecDepth 100000 in
theorem tab_of_laid {W : World} (h : laidMet Tryz.prog [("galliard/entity.names", Rows.laid_galliard_entity_names)] W) : Xm.Tab W := by
  obtain ⟨ps, ⟨g', t', cs, fuel, p, q, hg', ht', hvar, hd, _, _⟩, _⟩ := h
  obtain rfl := Option.some.inj (gNames.symm.trans hg')
  obtain rfl := Option.some.inj (gNamesType.symm.trans ht')
  obtain ⟨xs, m, rfl, hx, hl, hxl, hi⟩ := DataW.trod_array Tryz.underlying131 hd
  have hfst := congrArg Prod.fst hx
  simp only [Rows.laid_galliard_entity_names, DataW.agg.injEq] at hfst
  rw [cellsOne] at hi
  have key : ∀ (i : Nat) (a : List UInt8) (n : Int), i < 5 → (xs.map (·.1))[i]? = some (.agg [.lit (.string a), .lit (.int .i64 n)]) → cs.toList[i * 2]? = some (.string ⟨a.toArray⟩) ∧ cs.toList[i * 2 + 1]? = some (.int .i64 n) := by
    intro i a n hi5 hxi
    have h1 := hi i hi5
    rw [List.getElem?_map, Option.map_eq_some_iff] at hxi
    obtain ⟨x, hxe, hx1⟩ := hxi
    rw [hxe] at h1
    obtain ⟨d, pp⟩ := x
    simp only at hx1
    subst hx1
    have h2 := pair_cells h1
    have g0 := congrArg (·[0]?) h2
    have g1 := congrArg (·[1]?) h2
    simp only [List.getElem?_take, List.getElem?_drop] at g0 g1
    exact ⟨by simpa using g0, by simpa using g1⟩
  rw [← hfst] at key
  have hc := World.var?_cell gNames hvar
  have all : ∀ j v, Xm.tabV[j]? = some v → W.cell? ⟨1, j, none⟩ = some v := by
    intro j v hv
    rw [hc j, ← Array.getElem?_toList]
    have k0 := key 0 _ _ (by decide) rfl
    have k1 := key 1 _ _ (by decide) rfl
    have k2 := key 2 _ _ (by decide) rfl
    have k3 := key 3 _ _ (by decide) rfl
    have k4 := key 4 _ _ (by decide) rfl
    match j, hv with
    | 0, hv => rw [← hv]; exact k0.1
    | 1, hv => rw [← hv]; exact k0.2
    | 2, hv => rw [← hv]; exact k1.1
    | 3, hv => rw [← hv]; exact k1.2
    | 4, hv => rw [← hv]; exact k2.1
    | 5, hv => rw [← hv]; exact k2.2
    | 6, hv => rw [← hv]; exact k3.1
    | 7, hv => rw [← hv]; exact k3.2
    | 8, hv => rw [← hv]; exact k4.1
    | 9, hv => rw [← hv]; exact k4.2
    | j + 10, hv => cases hv
  exact ⟨World.block_lt_of_cell? W _ (all 0 _ rfl), all⟩
theorem max_of_shape {W : World} (h : W.ShapedOpen Tryz.prog) (h0 : 0 < W.heap.size) : Xm.Max W := ⟨h0, Tryz.laysM143.s1_3 W h⟩
end Go.Proofs.YtdpkhmfolmcejaaGreatDoor
