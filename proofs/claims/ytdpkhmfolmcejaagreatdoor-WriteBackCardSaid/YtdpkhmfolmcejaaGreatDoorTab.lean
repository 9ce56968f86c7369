/- entity.names as a row lists it: the table's cells; the library's variable is some number. -/
import Derived.Test.YtdpkhmfolmcejaaGreatDoorRows
import Derived.Test.YtdpkhmfolmcejaaGreatDoorMOne
import Derived.Test.YtdpkhmfolmcejaaGreatDoorMScan
import Derived.Lib.LaidTab
import Derived.OpenShut
import Derived.ChangeSame
namespace Go.Proofs.YtdpkhmfolmcejaaGreatDoor
theorem gNames : Tryz.prog.globalNamed "galliard/entity.names" = some 1 := by kernel_rfl
theorem gNamesType : (Tryz.prog.globals[1]?).map (·.type) = some 131 := by kernel_rfl
theorem cellsArr : Tryz.prog.cellsOf 131 = 10 := by kernel_rfl
theorem cellsOne : Tryz.prog.cellsOf 130 = 2 := by kernel_rfl
theorem cellsStr : Tryz.prog.cellsOf 9 = 1 := by kernel_rfl
theorem cellsInt : Tryz.prog.cellsOf 3 = 1 := by kernel_rfl
theorem two_of : ∀ {l : List Value}, l.length = 2 → ∃ a b, l = [a, b]
  | [], h => by cases h
  | [_], h => by cases h
  | [a, b], _ => ⟨a, b, rfl⟩
  | _ :: _ :: _ :: _, h => by simp at h
set_option maxRecDepth 100000 in
theorem pair_cells {W : World} {H : Type} {enc : TypeId × Value → H} {base : Nat} {sp : Nat → Bool} {held : Bool} {fuel : Nat} {cs : List Value} {a : List UInt8} {n : Int} {p : List MemPlace}
    (h : DataW.trod enc Tryz.prog W base sp held fuel 130 cs = some (.agg [.lit (.string a), .lit (.int .i64 n)], p)) : cs = [.string ⟨a.toArray⟩, .int .i64 n] := by
  obtain ⟨y0, y1, m, hx, hl, h0, h1⟩ := Go.ChangeShapes.trod_struct2 Tryz.underlying130 h
  rw [cellsOne] at hl
  obtain ⟨v0, v1, rfl⟩ := two_of hl
  obtain ⟨s, hs, hy, _⟩ := DataW.trod_string Tryz.underlying9 h0
  obtain ⟨k, hk, hz, _⟩ := DataW.trod_int Tryz.underlying3 h1
  subst hy hz
  simp only [Prod.mk.injEq, DataW.agg.injEq, List.cons.injEq, DataW.lit.injEq, Lit.string.injEq, Lit.int.injEq, true_and, and_true] at hx
  obtain ⟨⟨rfl, rfl⟩, _⟩ := hx
  have e0 : v0 = .string s := by
    have h2 : [v0] = [Value.string s] := hs
    injection h2
  have e1 : v1 = .int .i64 n := by
    have h2 : [v1] = [Value.int .i64 n] := hk
    injection h2
  rw [e0, e1]
set_option maxRecDepth 100000 in
theorem tab_of_laid {W : World} (h : laidMet Tryz.prog [("galliard/entity.names", Rows.laid_galliard_entity_names)] W) : Xm.Tab W := by
  obtain ⟨ps, ⟨g', t', cs, fuel, p, q, hg', ht', hvar, hd, _, _⟩, _⟩ := h
  obtain rfl := Option.some.inj (gNames.symm.trans hg')
  obtain rfl := Option.some.inj (gNamesType.symm.trans ht')
  obtain ⟨xs, m, rfl, hx, hl, hxl, hi⟩ := DataW.trod_array Tryz.underlying131 hd
  have hfst := congrArg Prod.fst hx
  simp only [Rows.laid_galliard_entity_names, DataW.agg.injEq] at hfst
  rw [cellsOne] at hi
  have key : ∀ (i : Nat) (a : List UInt8) (n : Int), i < 5 → (xs.map (·.1))[i]? = some (.agg [.lit (.string a), .lit (.int .i64 n)]) → cs.toList[i * 2]? = some (.string ⟨a.toArray⟩) ∧ cs.toList[i * 2 + 1]? = some (.int .i64 n) := by
    intro i a n hi5 hxi
    have h1 := hi i hi5
    rw [List.getElem?_map, Option.map_eq_some_iff] at hxi
    obtain ⟨x, hxe, hx1⟩ := hxi
    rw [hxe] at h1
    obtain ⟨d, pp⟩ := x
    simp only at hx1
    subst hx1
    have h2 := pair_cells h1
    have g0 := congrArg (·[0]?) h2
    have g1 := congrArg (·[1]?) h2
    simp only [List.getElem?_take, List.getElem?_drop] at g0 g1
    exact ⟨by simpa using g0, by simpa using g1⟩
  rw [← hfst] at key
  have hc := World.var?_cell gNames hvar
  have all : ∀ j v, Xm.tabV[j]? = some v → W.cell? ⟨1, j, none⟩ = some v := by
    intro j v hv
    rw [hc j, ← Array.getElem?_toList]
    have k0 := key 0 _ _ (by decide) rfl
    have k1 := key 1 _ _ (by decide) rfl
    have k2 := key 2 _ _ (by decide) rfl
    have k3 := key 3 _ _ (by decide) rfl
    have k4 := key 4 _ _ (by decide) rfl
    match j, hv with
    | 0, hv => rw [← hv]; exact k0.1
    | 1, hv => rw [← hv]; exact k0.2
    | 2, hv => rw [← hv]; exact k1.1
    | 3, hv => rw [← hv]; exact k1.2
    | 4, hv => rw [← hv]; exact k2.1
    | 5, hv => rw [← hv]; exact k2.2
    | 6, hv => rw [← hv]; exact k3.1
    | 7, hv => rw [← hv]; exact k3.2
    | 8, hv => rw [← hv]; exact k4.1
    | 9, hv => rw [← hv]; exact k4.2
    | j + 10, hv => cases hv
  exact ⟨World.block_lt_of_cell? W _ (all 0 _ rfl), all⟩
theorem max_of_shape {W : World} (h : W.ShapedOpen Tryz.prog) (h0 : 0 < W.heap.size) : Xm.Max W := ⟨h0, Tryz.laysM143.s1_3 W h⟩
end Go.Proofs.YtdpkhmfolmcejaaGreatDoor
