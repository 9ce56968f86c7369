/- scan.Scanner: is a name among attributes. -/
import Derived.Test.YtdpkhmfolmcejaaGreatDoorScan6
namespace Go.Proofs.YtdpkhmfolmcejaaGreatDoor
open Go.RowKit
namespace Xm
/-- attributes as cells -/
def attrCells (l : List (ByteArray × ByteArray)) : List Value := l.flatMap fun a => [.string a.1, .string a.2]
theorem attrCells_append (l m : List (ByteArray × ByteArray)) : attrCells (l ++ m) = attrCells l ++ attrCells m := by simp [attrCells]
theorem attrCells_get : ∀ (l : List (ByteArray × ByteArray)) (j : Nat) (a : ByteArray × ByteArray), l[j]? = some a → (attrCells l)[j * 2]? = some (.string a.1) ∧ (attrCells l)[j * 2 + 1]? = some (.string a.2)
  | [], j, a, h => by simp at h
  | x :: l, 0, a, h => by simp at h; subst h; exact ⟨rfl, rfl⟩
  | x :: l, j + 1, a, h => by
    have := attrCells_get l j a (by simpa using h)
    have e : attrCells (x :: l) = [.string x.1, .string x.2] ++ attrCells l := by simp [attrCells]
    rw [e, show (j + 1) * 2 = j * 2 + 2 by omega]
    exact ⟨by rw [List.getElem?_append_right (by simp)]; simpa using this.1, by rw [List.getElem?_append_right (by simp)]; simpa using this.2⟩
/-- a slice of attributes that can be read -/
def AttrsAt (w : World) (v : Value) (l : List (ByteArray × ByteArray)) : Prop :=
  (v = .slice none 0 0 ∧ l = []) ∨ ∃ g off cap, v = .slice (some ⟨g, off, none⟩) l.length cap ∧ l.length ≤ cap ∧ cap ≤ maxLen ∧ g < w.heap.size ∧ ∀ j u, (attrCells l)[j]? = some u → w.cell? ⟨g, off + j, none⟩ = some u
def named1 (na : ByteArray) (a : ByteArray × ByteArray) : Bool := a.1.toList == na.toList
theorem cell_grow {w w' : World} (g : Flow.Grow w w') {b o : Nat} (hb : b < w.heap.size) : w'.cell? ⟨b, o, none⟩ = w.cell? ⟨b, o, none⟩ := by
  unfold World.cell?
  rw [g.block b hb (by simp)]
end Xm
set_option maxRecDepth 100000 in
set_option maxHeartbeats 400000 in
theorem tag1_any (x y na : ByteArray) (A : Nat) (w : World) (hA : A < w.heap.size) (hc : w.cell? ⟨A, 0, none⟩ = some (.string na)) :
    Calls Tryz.prog 87 #[.agg #[.string x, .string y], .pointer (some ⟨A, 0, none⟩)] w fun e w' => e = .returned (.bool (Xm.named1 na (x, y))) ∧ Flow.Grow w w' := by
  have hc2 : (w.alloc (.cells #[.string x, .string y] 41)).cell? ⟨A, 0, none⟩ = some (.string na) := (Xm.cell_grow (Flow.grow_alloc _ _) hA).trans hc
  go_enter Tryz.func87, Tryz.ntmps87
  go_wp2
  go_ret
  exact ⟨rfl, Flow.grow_alloc _ _⟩

set_option maxRecDepth 100000 in
set_option maxHeartbeats 1000000 in
theorem indexAttr_any (v : Value) (l : List (ByteArray × ByteArray)) (na : ByteArray) (A : Nat) (w : World) (hv : Xm.AttrsAt w v l) (hA : A < w.heap.size) (hc : w.cell? ⟨A, 0, none⟩ = some (.string na)) :
    Calls Tryz.prog 80 #[v, .func (.func 87) #[] #[.pointer (some ⟨A, 0, none⟩)]] w fun e w' => (∃ k : Int, e = .returned (.int .i64 k) ∧ decide (0 ≤ k) = l.any (Xm.named1 na)) ∧ Flow.Grow w w' := by
  rcases hv with ⟨rfl, rfl⟩ | ⟨g, off, cap, rfl, hlc, hcm, hg, hcell⟩
  · go_enter Tryz.func80, Tryz.ntmps80
    go_wp2_with fail
    refine wp_loop_rounds 1 ?_
    rw [rounds_succ]
    go_wp2_with fail
    go_ret
    exact ⟨⟨-1, rfl, rfl⟩, Flow.grow_refl _⟩
  · obtain ⟨len, hlen⟩ : ∃ len, len = l.length := ⟨_, rfl⟩
    have Hc := Lib.hid hc
    have HA := Lib.hid hA
    have Hg := Lib.hid hg
    have Hcell := Lib.hid hcell
    rw [← hlen] at hlc ⊢
    have Hlen := Lib.hid hlen
    unfold maxLen at hcm
    clear hlen hc hA hg hcell
    go_enter Tryz.func80, Tryz.ntmps80
    go_wp2_with fail
    go_loopw [8] (fun i wr => ∃ k : Nat, k ≤ len ∧ i = .int .i64 k ∧ Hid (l.any (Xm.named1 na) = (l.drop k).any (Xm.named1 na)) ∧ Hid (Flow.Grow w wr)) (fun i _ => len - (intOf i).toNat)
    case atStart => exact ⟨0, by omega, rfl, Lib.hid rfl, Lib.hid (Flow.grow_refl _)⟩
    case round =>
      obtain ⟨k, hk, rfl, Hall, HG⟩ := hrel
      by_cases hkl : k < len
      · have hk' : k < l.length := by rw [← Hlen.out]; exact hkl
        obtain ⟨x, y, hxy⟩ : ∃ x y, l[k]? = some (x, y) := ⟨l[k].1, l[k].2, List.getElem?_eq_getElem hk'⟩
        have hgc := Xm.attrCells_get l k (x, y) hxy
        have k0 := Xm.cell_grow HG.out (o := off + k * 2) Hg.out |>.trans (Hcell.out _ _ hgc.1)
        have k1 := Xm.cell_grow HG.out (o := off + k * 2 + 1) Hg.out |>.trans (Hcell.out _ _ hgc.2)
        have Hcr := Lib.hid (Xm.cell_grow HG.out (o := 0) HA.out |>.trans Hc.out)
        have HAr : Hid (A < wr.heap.size) := Lib.hid (Nat.lt_of_lt_of_le HA.out HG.out.size)
        have Hs : Hid ((l.drop k).any (Xm.named1 na) = (Xm.named1 na (x, y) || (l.drop (k + 1)).any (Xm.named1 na))) := Lib.hid (by
          rw [List.drop_eq_getElem_cons hk', List.any_cons]
          have : l[k] = (x, y) := (List.getElem?_eq_some_iff.1 hxy).2
          rw [this])
        clear hgc hxy hk'
        cases hb : Xm.named1 na (x, y) with
        | false =>
          have Hs' : Hid (l.any (Xm.named1 na) = (l.drop (k + 1)).any (Xm.named1 na)) := Lib.hid (by rw [Hall.out, Hs.out, hb]; rfl)
          have Hb := Lib.hid hb
          clear hb
          go_wp2_with (go_at_call 87; refine (tag1_any _ _ _ _ _ HAr.out Hcr.out).mono ?_; rintro e w' ⟨rfl, hg1⟩; rw [Hb.out])
          go_roundw
          case rel => exact ⟨k + 1, by omega, by go_num, Hs', Lib.hid (HG.out.trans hg1)⟩
          case measure => simp [intOf]; omega
        | true =>
          have Hs' : Hid (l.any (Xm.named1 na) = true) := Lib.hid (by rw [Hall.out, Hs.out, hb]; rfl)
          have Hb := Lib.hid hb
          clear hb
          go_wp2_with (go_at_call 87; refine (tag1_any _ _ _ _ _ HAr.out Hcr.out).mono ?_; rintro e w' ⟨rfl, hg1⟩; rw [Hb.out])
          go_ret
          exact ⟨⟨k, rfl, by rw [Hs'.out]; simp⟩, HG.out.trans hg1⟩
      · have Hs' : Hid (l.any (Xm.named1 na) = false) := Lib.hid (by
          rw [Hall.out, List.drop_eq_nil_of_le (by have := Hlen.out; omega)]; rfl)
        go_wp2
        go_ret
        exact ⟨⟨-1, rfl, by rw [Hs'.out]; rfl⟩, HG.out⟩
set_option maxRecDepth 100000 in
set_option maxHeartbeats 400000 in
theorem containsAttr_any (v : Value) (l : List (ByteArray × ByteArray)) (na : ByteArray) (A : Nat) (w : World) (hv : Xm.AttrsAt w v l) (hA : A < w.heap.size) (hc : w.cell? ⟨A, 0, none⟩ = some (.string na)) :
    Calls Tryz.prog 55 #[v, .func (.func 87) #[] #[.pointer (some ⟨A, 0, none⟩)]] w fun e w' => e = .returned (.bool (l.any (Xm.named1 na))) ∧ Flow.Grow w w' := by
  have HV := Lib.hid hv
  have HA := Lib.hid hA
  have HC := Lib.hid hc
  clear hv hA hc
  go_enter Tryz.func55, Tryz.ntmps55
  go_wp2_with (go_at_call 80; refine (indexAttr_any _ _ _ _ _ HV.out HA.out HC.out).mono ?_; rintro e w' ⟨⟨k, rfl, hk⟩, hg⟩; have HK := Lib.hid hk; clear hk)
  go_ret
  exact ⟨ret_bool HK.out, hg⟩
end Go.Proofs.YtdpkhmfolmcejaaGreatDoor
