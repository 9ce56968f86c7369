/- galliardlaw04.same by its contract: pieces that are alike. -/
import Derived.Test.YtfkdjdmbgednkaaDoorScan9
namespace Go.Proofs.YtfkdjdmbgednkaaDoor
open Go.RowKit
set_option maxRecDepth 100000 in
set_option maxHeartbeats 2000000 in
theorem same4_true (p : Xm.Pc) (va vb : Value) (w : World) (ha : Xm.AttrsAt w va p.attrs) (hb : Xm.AttrsAt w vb p.attrs) (hn : p.attrs.length ≤ 1000) :
    Calls Tryd.prog 13 #[.agg (p.cells va), .agg (p.cells vb)] w fun e w' => e = .returned (.bool true) ∧ Flow.Grow w w' := by
  obtain ⟨kd, nm, l, tx, pa⟩ := p
  obtain ⟨ao, ca, rfl⟩ := ha.shape
  obtain ⟨bo, cb, rfl⟩ := hb.shape
  have HA := Lib.hid ha
  have HB := Lib.hid hb
  clear ha hb
  unfold Xm.Pc.cells
  simp only at hn ⊢
  go_enter Tryd.func13, Tryd.ntmps13
  obtain ⟨n, hN⟩ : ∃ n, n = l.length := ⟨_, rfl⟩
  have HN := Lib.hid hN
  rw [← hN] at hn ⊢
  clear hN
  go_upto_region 3 with fail
  have G2 : Hid (Flow.Grow w ((w.alloc (.cells #[.int .i64 kd, .string nm, .slice ao n ca, .string tx, .int .i64 pa] 27)).alloc (.cells #[.int .i64 kd, .string nm, .slice bo n cb, .string tx, .int .i64 pa] 27))) := Lib.hid ((Flow.grow_alloc _ _).trans (Flow.grow_alloc _ _))
  have c1 : ((w.alloc (.cells #[.int .i64 kd, .string nm, .slice ao n ca, .string tx, .int .i64 pa] 27)).alloc (.cells #[.int .i64 kd, .string nm, .slice bo n cb, .string tx, .int .i64 pa] 27)).cell? ⟨w.heap.size, 2, none⟩ = some (.slice ao n ca) := by simp [go_sem]
  have c2 : ((w.alloc (.cells #[.int .i64 kd, .string nm, .slice ao n ca, .string tx, .int .i64 pa] 27)).alloc (.cells #[.int .i64 kd, .string nm, .slice bo n cb, .string tx, .int .i64 pa] 27)).cell? ⟨w.heap.size + 1, 2, none⟩ = some (.slice bo n cb) := by simp [go_sem]
  have hX2 : w.heap.size + 1 < ((w.alloc (.cells #[.int .i64 kd, .string nm, .slice ao n ca, .string tx, .int .i64 pa] 27)).alloc (.cells #[.int .i64 kd, .string nm, .slice bo n cb, .string tx, .int .i64 pa] 27)).heap.size := by simp
  obtain ⟨X, hX⟩ : ∃ X, X = w.heap.size := ⟨_, rfl⟩
  rw [← hX] at c1 c2 hX2 ⊢
  clear hX
  generalize ((w.alloc (.cells #[.int .i64 kd, .string nm, .slice ao n ca, .string tx, .int .i64 pa] 27)).alloc (.cells #[.int .i64 kd, .string nm, .slice bo n cb, .string tx, .int .i64 pa] 27)) = w2 at *
  go_upto_region 4 with fail
  have X2 : Hid (X + 1 < w2.heap.size) := Lib.hid hX2
  have C1 := Lib.hid c1
  have C2 := Lib.hid c2
  clear c1 c2 hX2
  go_loopw [5] (fun v wr => ∃ k : Nat, k ≤ n ∧ v = .int .i64 (k : Int) ∧ Hid (Flow.Grow w2 wr)) (fun v _ => n - (intOf v).toNat)
  case atStart => exact ⟨0, Nat.zero_le _, rfl, Lib.hid (Flow.grow_refl _)⟩
  case round =>
    obtain ⟨k, hk, rfl, HR⟩ := hrel
    rename World => wr
    have hx := X2.out
    have c1 := (Xm.cell_grow HR.out (o := 2) (show X < w2.heap.size by omega)).trans C1.out
    have c2 := (Xm.cell_grow HR.out (o := 2) hx).trans C2.out
    clear hx
    by_cases hkl : k < n
    · have hk' : k < l.length := by rw [← HN.out]; exact hkl
      have hd : decide ((k : Int) < (n : Int)) = true := by simp; omega
      obtain ⟨x, y, hxy⟩ : ∃ x y, l[k]? = some (x, y) := ⟨l[k].1, l[k].2, List.getElem?_eq_getElem hk'⟩
      have hgc := Xm.attrCells_get l k (x, y) hxy
      rcases HA.out with ⟨_, h0⟩ | ⟨g, off, cap, hva, q1, q2, hg, hcell⟩
      · have h0 : l = [] := h0
        rw [h0] at hk'; simp at hk'
      rcases HB.out with ⟨_, h0⟩ | ⟨g', off', cap', hvb, q1', q2', hg', hcell'⟩
      · have h0 : l = [] := h0
        rw [h0] at hk'; simp at hk'
      simp only [Value.slice.injEq, true_and] at hva hvb
      obtain ⟨rfl, rfl⟩ := hva
      obtain ⟨rfl, rfl⟩ := hvb
      have k0 := Xm.cell_grow (G2.out.trans HR.out) (o := off + k * 2) hg |>.trans (hcell _ _ hgc.1)
      have k1 := Xm.cell_grow (G2.out.trans HR.out) (o := off + k * 2 + 1) hg |>.trans (hcell _ _ hgc.2)
      have k2 := Xm.cell_grow (G2.out.trans HR.out) (o := off' + k * 2) hg' |>.trans (hcell' _ _ hgc.1)
      have k3 := Xm.cell_grow (G2.out.trans HR.out) (o := off' + k * 2 + 1) hg' |>.trans (hcell' _ _ hgc.2)
      have s1 : Tryd.prog.eqGuardType Tryd.prog.depth 64 = false := by kernel_rfl
      have s2 : Tryd.prog.stoodInHeld 64 = false := by kernel_rfl
      have g1 : (k : Int) < (n : Int) := by omega
      have g3 : ¬ (n : Int) ≤ (k : Int) := by omega
      clear hgc hxy hk' hcell hcell' hg hg' q1 q2 q1' q2' HA HB
      go_wp2
      go_region
      go_wp2
      go_roundw
      case rel => exact ⟨k + 1, by omega, by first | rfl | go_num, Lib.hid (HR.out.trans (Flow.grow_drew _))⟩
      case measure => simp only [intOf]; omega
    · have hd : decide ((k : Int) < (n : Int)) = false := by simp; omega
      go_wp2
      go_ret
      exact ⟨rfl, G2.out.trans HR.out⟩
end Go.Proofs.YtfkdjdmbgednkaaDoor
