/- tree.Get by its contract, where there is no such attribute. -/
import Derived.Test.YtfkdjdmbgednkaaDoorCount
namespace Go.Proofs.YtfkdjdmbgednkaaDoor
open Go.RowKit
set_option maxRecDepth 100000 in
set_option maxHeartbeats 400000 in
theorem get1_any (x y na : ByteArray) (A : Nat) (w : World) (hA : A < w.heap.size) (hc : w.cell? ⟨A, 0, none⟩ = some (.string na)) :
    Calls Tryd.prog 51 #[.agg #[.string x, .string y], .pointer (some ⟨A, 0, none⟩)] w fun e w' => e = .returned (.bool (Xm.named1 na (x, y))) ∧ Flow.Grow w w' := by
  have hc2 : (w.alloc (.cells #[.string x, .string y] 64)).cell? ⟨A, 0, none⟩ = some (.string na) := (Xm.cell_grow (Flow.grow_alloc _ _) hA).trans hc
  go_enter Tryd.func51, Tryd.ntmps51
  go_wp2
  go_ret
  exact ⟨rfl, Flow.grow_alloc _ _⟩

set_option maxRecDepth 100000 in
set_option maxHeartbeats 1000000 in
theorem indexGet_any (v : Value) (l : List (ByteArray × ByteArray)) (na : ByteArray) (A : Nat) (w : World) (hv : Xm.AttrsAt w v l) (hA : A < w.heap.size) (hc : w.cell? ⟨A, 0, none⟩ = some (.string na)) :
    Calls Tryd.prog 50 #[v, .func (.func 51) #[] #[.pointer (some ⟨A, 0, none⟩)]] w fun e w' => (∃ k : Int, e = .returned (.int .i64 k) ∧ decide (0 ≤ k) = l.any (Xm.named1 na)) ∧ Flow.Grow w w' := by
  rcases hv with ⟨rfl, rfl⟩ | ⟨g, off, cap, rfl, hlc, hcm, hg, hcell⟩
  · go_enter Tryd.func50, Tryd.ntmps50
    go_wp2_with fail
    refine wp_loop_rounds 1 ?_
    rw [rounds_succ]
    go_wp2_with fail
    go_ret
    exact ⟨⟨-1, rfl, rfl⟩, Flow.grow_refl _⟩
  · obtain ⟨len, hlen⟩ : ∃ len, len = l.length := ⟨_, rfl⟩
    have Hc := Lib.hid hc
    have HA := Lib.hid hA
    have Hg := Lib.hid hg
    have Hcell := Lib.hid hcell
    rw [← hlen] at hlc ⊢
    have Hlen := Lib.hid hlen
    unfold maxLen at hcm
    clear hlen hc hA hg hcell
    go_enter Tryd.func50, Tryd.ntmps50
    go_wp2_with fail
    go_loopw [8] (fun i wr => ∃ k : Nat, k ≤ len ∧ i = .int .i64 k ∧ Hid (l.any (Xm.named1 na) = (l.drop k).any (Xm.named1 na)) ∧ Hid (Flow.Grow w wr)) (fun i _ => len - (intOf i).toNat)
    case atStart => exact ⟨0, by omega, rfl, Lib.hid rfl, Lib.hid (Flow.grow_refl _)⟩
    case round =>
      obtain ⟨k, hk, rfl, Hall, HG⟩ := hrel
      by_cases hkl : k < len
      · have hk' : k < l.length := by rw [← Hlen.out]; exact hkl
        obtain ⟨x, y, hxy⟩ : ∃ x y, l[k]? = some (x, y) := ⟨l[k].1, l[k].2, List.getElem?_eq_getElem hk'⟩
        have hgc := Xm.attrCells_get l k (x, y) hxy
        have k0 := Xm.cell_grow HG.out (o := off + k * 2) Hg.out |>.trans (Hcell.out _ _ hgc.1)
        have k1 := Xm.cell_grow HG.out (o := off + k * 2 + 1) Hg.out |>.trans (Hcell.out _ _ hgc.2)
        have Hcr := Lib.hid (Xm.cell_grow HG.out (o := 0) HA.out |>.trans Hc.out)
        have HAr : Hid (A < wr.heap.size) := Lib.hid (Nat.lt_of_lt_of_le HA.out HG.out.size)
        have Hs : Hid ((l.drop k).any (Xm.named1 na) = (Xm.named1 na (x, y) || (l.drop (k + 1)).any (Xm.named1 na))) := Lib.hid (by
          rw [List.drop_eq_getElem_cons hk', List.any_cons]
          have : l[k] = (x, y) := (List.getElem?_eq_some_iff.1 hxy).2
          rw [this])
        clear hgc hxy hk'
        cases hb : Xm.named1 na (x, y) with
        | false =>
          have Hs' : Hid (l.any (Xm.named1 na) = (l.drop (k + 1)).any (Xm.named1 na)) := Lib.hid (by rw [Hall.out, Hs.out, hb]; rfl)
          have Hb := Lib.hid hb
          clear hb
          go_wp2_with (go_at_call 51; refine (get1_any _ _ _ _ _ HAr.out Hcr.out).mono ?_; rintro e w' ⟨rfl, hg1⟩; rw [Hb.out])
          go_roundw
          case rel => exact ⟨k + 1, by omega, by go_num, Hs', Lib.hid (HG.out.trans hg1)⟩
          case measure => simp [intOf]; omega
        | true =>
          have Hs' : Hid (l.any (Xm.named1 na) = true) := Lib.hid (by rw [Hall.out, Hs.out, hb]; rfl)
          have Hb := Lib.hid hb
          clear hb
          go_wp2_with (go_at_call 51; refine (get1_any _ _ _ _ _ HAr.out Hcr.out).mono ?_; rintro e w' ⟨rfl, hg1⟩; rw [Hb.out])
          go_ret
          exact ⟨⟨k, rfl, by rw [Hs'.out]; simp⟩, HG.out.trans hg1⟩
      · have Hs' : Hid (l.any (Xm.named1 na) = false) := Lib.hid (by
          rw [Hall.out, List.drop_eq_nil_of_le (by have := Hlen.out; omega)]; rfl)
        go_wp2
        go_ret
        exact ⟨⟨-1, rfl, by rw [Hs'.out]; rfl⟩, HG.out⟩
set_option maxRecDepth 100000 in
set_option maxHeartbeats 1000000 in
theorem tget_no (sp nm tx : ByteArray) (av kv : Value) (l : List (ByteArray × ByteArray)) (na : ByteArray) (w : World) (hv : Xm.AttrsAt w av l) (hk : ∃ a n c, kv = .slice a n c) (hno : l.any (Xm.named1 na) = false) :
    Calls Tryd.prog 27 #[.agg #[.string sp, .string nm, av, kv, .string tx], .string na] w fun e w' => e = .returned (.tuple #[.string ⟨#[]⟩, .bool false]) ∧ Flow.Grow w w' := by
  have HV := Lib.hid hv
  have HNO := Lib.hid hno
  obtain ⟨ao, ca, rfl⟩ := hv.shape
  obtain ⟨ka, kn, kc, rfl⟩ := hk
  clear hv hno
  go_enter Tryd.func27, Tryd.ntmps27
  go_upto_region 1 with fail
  have G2 : Hid (Flow.Grow w ((w.alloc (.cells #[.string sp, .string nm, .slice ao l.length ca, .slice ka kn kc, .string tx] 47)).alloc (.cells #[.string na] 9))) := Lib.hid ((Flow.grow_alloc _ _).trans (Flow.grow_alloc _ _))
  have c2 : ((w.alloc (.cells #[.string sp, .string nm, .slice ao l.length ca, .slice ka kn kc, .string tx] 47)).alloc (.cells #[.string na] 9)).cell? ⟨w.heap.size, 2, none⟩ = some (.slice ao l.length ca) := by simp [go_sem]
  have d0 : ((w.alloc (.cells #[.string sp, .string nm, .slice ao l.length ca, .slice ka kn kc, .string tx] 47)).alloc (.cells #[.string na] 9)).cell? ⟨w.heap.size + 1, 0, none⟩ = some (.string na) := by simp [go_sem]
  have hX2 : Hid (w.heap.size + 1 < ((w.alloc (.cells #[.string sp, .string nm, .slice ao l.length ca, .slice ka kn kc, .string tx] 47)).alloc (.cells #[.string na] 9)).heap.size) := Lib.hid (by simp)
  obtain ⟨X, hX⟩ : ∃ X, X = w.heap.size := ⟨_, rfl⟩
  rw [← hX] at c2 d0 hX2 ⊢
  clear hX
  generalize ((w.alloc (.cells #[.string sp, .string nm, .slice ao l.length ca, .slice ka kn kc, .string tx] 47)).alloc (.cells #[.string na] 9)) = w2 at *
  have V2 := Lib.hid (Xm.AttrsAt.keep HV.out G2.out.size (fun q _ hq => G2.out.block q hq (by simp)))
  go_wp2_with (go_at_call 50; (refine (indexGet_any _ l na (X + 1) w2 V2.out hX2.out d0).mono ?_; rintro e w3 ⟨⟨k, rfl, hk⟩, hg⟩; rw [HNO.out] at hk; have hk1 : k < 0 := (by simpa using hk); have hk2 : decide (k < 0) = true := (by simpa using hk1); have HG := Lib.hid hg; clear hg))
  go_ret2
  exact ⟨rfl, G2.out.trans HG.out⟩
end Go.Proofs.YtfkdjdmbgednkaaDoor
