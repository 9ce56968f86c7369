/- galliardref06.Same by its contract: elements that are alike. -/
import Derived.Test.YtdpkhmfolmcejaaGreatDoorMDo
import Derived.Deep.DeepCutAuto
namespace Go.Proofs.YtdpkhmfolmcejaaGreatDoor
open Go.RowKit
set_option maxRecDepth 100000 in
set_option maxHeartbeats 4000000 in
theorem same6_true : ∀ (m : Nat) (x : Xm.Nod) (F G : Nat → Prop) (va vb : Value) (w : World), Xm.cnt x ≤ m → m ≤ 1000000000 → Xm.NodAt F w va x → Xm.NodAt G w vb x → Calls Tryz.prog 11 #[va, vb] w fun e w' => e = .returned (.bool true) ∧ Flow.Grow w w' := by
  intro m
  induction m with
  | zero => intro x F G va vb w h; cases x with | mk sp nm l ks tx => rw [Xm.cnt] at h; omega
  | succ m IH =>
    intro x F G va vb w hx hm hn hn'
    have IHH := Lib.hid IH
    clear IH
    cases hn with
    | mk sp nm tx av kv l ks vs g off hA haF hk hl hc hn =>
    cases hn' with
    | mk _ _ _ av' kv' _ _ vs' g' off' hA' haF' hk' hl' hc' hn' =>
      obtain ⟨ao, ca, rfl⟩ := hA.shape
      obtain ⟨bo, cb, rfl⟩ := hA'.shape
      have HX : Hid (Xm.cnt (.mk sp nm l ks tx) = 1 + Xm.cntL ks) := Lib.hid (by rw [Xm.cnt])
      have hcm : 1 + Xm.cntL ks ≤ m + 1 := by rw [← HX.out]; exact hx
      have Hcm := Lib.hid hcm
      have Hlen := Lib.hid (Xm.len_cntL ks)
      obtain ⟨ka, kc, hkv⟩ : ∃ ka kc, kv = .slice ka ks.length kc := by
        rcases hk with ⟨rfl, a, c, rfl⟩ | ⟨c, rfl, _⟩
        · exact ⟨a, c, rfl⟩
        · exact ⟨_, c, rfl⟩
      subst hkv
      obtain ⟨kb, kd, hkv⟩ : ∃ ka kc, kv' = .slice ka ks.length kc := by
        rcases hk' with ⟨rfl, a, c, rfl⟩ | ⟨c, rfl, _⟩
        · exact ⟨a, c, rfl⟩
        · exact ⟨_, c, rfl⟩
      subst hkv
      have HA := Lib.hid hA
      have HA' := Lib.hid hA'
      have HK := Lib.hid hk
      have HC := Lib.hid hc
      have HNn := Lib.hid hn
      have Hl := Lib.hid hl
      have HK' := Lib.hid hk'
      have HC' := Lib.hid hc'
      have HNn' := Lib.hid hn'
      have Hl' := Lib.hid hl'
      clear hx hcm hA haF hk hc hn hl hA' haF' hk' hc' hn' hl'
      obtain ⟨n, hN⟩ : ∃ n, n = l.length := ⟨_, rfl⟩
      have HN := Lib.hid hN
      rw [← hN]
      clear hN
      obtain ⟨L, hL⟩ : ∃ L, L = ks.length := ⟨_, rfl⟩
      have HLk := Lib.hid hL
      rw [← hL]
      clear hL
      go_enter Tryz.func11, Tryz.ntmps11
      go_upto_region 1 with fail
      have G2 : Hid (Flow.Grow w ((w.alloc (.cells #[.string sp, .string nm, .slice ao n ca, .slice ka L kc, .string tx] 25)).alloc (.cells #[.string sp, .string nm, .slice bo n cb, .slice kb L kd, .string tx] 25))) := Lib.hid ((Flow.grow_alloc _ _).trans (Flow.grow_alloc _ _))
      have X1 : Hid (Xm.RowN ((w.alloc (.cells #[.string sp, .string nm, .slice ao n ca, .slice ka L kc, .string tx] 25)).alloc (.cells #[.string sp, .string nm, .slice bo n cb, .slice kb L kd, .string tx] 25)) w.heap.size #[.string sp, .string nm, .slice ao n ca, .slice ka L kc, .string tx]) := Lib.hid (Xm.RowN.grow (heap_alloc_new w _) (Flow.grow_alloc _ _))
      have X2 : Hid (Xm.RowN ((w.alloc (.cells #[.string sp, .string nm, .slice ao n ca, .slice ka L kc, .string tx] 25)).alloc (.cells #[.string sp, .string nm, .slice bo n cb, .slice kb L kd, .string tx] 25)) (w.heap.size + 1) #[.string sp, .string nm, .slice bo n cb, .slice kb L kd, .string tx]) := Lib.hid (by
        have h := heap_alloc_new (w.alloc (.cells #[.string sp, .string nm, .slice ao n ca, .slice ka L kc, .string tx] 25)) (.cells #[.string sp, .string nm, .slice bo n cb, .slice kb L kd, .string tx] 25)
        rw [show (w.alloc (.cells #[.string sp, .string nm, .slice ao n ca, .slice ka L kc, .string tx] 25)).heap.size = w.heap.size + 1 by simp] at h
        exact h)
      obtain ⟨X, hX⟩ : ∃ X, X = w.heap.size := ⟨_, rfl⟩
      rw [← hX] at X1 X2 ⊢
      clear hX
      generalize ((w.alloc (.cells #[.string sp, .string nm, .slice ao n ca, .slice ka L kc, .string tx] 25)).alloc (.cells #[.string sp, .string nm, .slice bo n cb, .slice kb L kd, .string tx] 25)) = w2 at *
      have rows : ∀ wr, Flow.Grow w2 wr → wr.cell? ⟨X, 0, none⟩ = some (.string sp) ∧ wr.cell? ⟨X, 1, none⟩ = some (.string nm) ∧ wr.cell? ⟨X, 2, none⟩ = some (.slice ao n ca) ∧ wr.cell? ⟨X, 3, none⟩ = some (.slice ka L kc) ∧ wr.cell? ⟨X, 4, none⟩ = some (.string tx) ∧
          wr.cell? ⟨X + 1, 0, none⟩ = some (.string sp) ∧ wr.cell? ⟨X + 1, 1, none⟩ = some (.string nm) ∧ wr.cell? ⟨X + 1, 2, none⟩ = some (.slice bo n cb) ∧ wr.cell? ⟨X + 1, 3, none⟩ = some (.slice kb L kd) ∧ wr.cell? ⟨X + 1, 4, none⟩ = some (.string tx) := fun wr h =>
        have r1 := X1.out.grow h
        have r2 := X2.out.grow h
        ⟨(cell_of_row wr X 0 _ _ _ r1).trans rfl, (cell_of_row wr X 1 _ _ _ r1).trans rfl, (cell_of_row wr X 2 _ _ _ r1).trans rfl, (cell_of_row wr X 3 _ _ _ r1).trans rfl, (cell_of_row wr X 4 _ _ _ r1).trans rfl,
          (cell_of_row wr (X + 1) 0 _ _ _ r2).trans rfl, (cell_of_row wr (X + 1) 1 _ _ _ r2).trans rfl, (cell_of_row wr (X + 1) 2 _ _ _ r2).trans rfl, (cell_of_row wr (X + 1) 3 _ _ _ r2).trans rfl, (cell_of_row wr (X + 1) 4 _ _ _ r2).trans rfl⟩
      have RW := Lib.hid rows
      clear rows
      obtain ⟨e0, e1, e2, e3, e4, f0, f1, f2, f3, f4⟩ := RW.out w2 (Flow.grow_refl _)
      go_upto_region 4 with fail
      clear e0 e1 e2 e3 e4 f0 f1 f2 f3 f4
      go_loopw [5] (fun v wr => ∃ k : Nat, k ≤ n ∧ v = .int .i64 (k : Int) ∧ Hid (Flow.Grow w2 wr)) (fun v _ => n - (intOf v).toNat)
      case atStart => exact ⟨0, Nat.zero_le _, rfl, Lib.hid (Flow.grow_refl _)⟩
      case round =>
        obtain ⟨k, hk, rfl, HR⟩ := hrel
        rename World => wr
        obtain ⟨_, _, c1, c3, _, _, _, c2, c4, _⟩ := RW.out wr HR.out
        by_cases hkl : k < n
        · have hk' : k < l.length := by rw [← HN.out]; exact hkl
          obtain ⟨x, y, hxy⟩ : ∃ x y, l[k]? = some (x, y) := ⟨l[k].1, l[k].2, List.getElem?_eq_getElem hk'⟩
          have hgc := Xm.attrCells_get l k (x, y) hxy
          rcases HA.out with ⟨_, h0⟩ | ⟨g, off, cap, hva, q1, q2, hg, hcell⟩
          · have h0 : l = [] := h0
            rw [h0] at hk'; simp at hk'
          rcases HA'.out with ⟨_, h0⟩ | ⟨g', off', cap', hvb, q1', q2', hg', hcell'⟩
          · have h0 : l = [] := h0
            rw [h0] at hk'; simp at hk'
          rw [← HN.out] at hva hvb q1 q1'
          simp only [Value.slice.injEq, true_and] at hva hvb
          obtain ⟨rfl, rfl⟩ := hva
          obtain ⟨rfl, rfl⟩ := hvb
          have k0 := Xm.cell_grow (G2.out.trans HR.out) (o := off + k * 2) hg |>.trans (hcell _ _ hgc.1)
          have k1 := Xm.cell_grow (G2.out.trans HR.out) (o := off + k * 2 + 1) hg |>.trans (hcell _ _ hgc.2)
          have k2 := Xm.cell_grow (G2.out.trans HR.out) (o := off' + k * 2) hg' |>.trans (hcell' _ _ hgc.1)
          have k3 := Xm.cell_grow (G2.out.trans HR.out) (o := off' + k * 2 + 1) hg' |>.trans (hcell' _ _ hgc.2)
          have s1 : Tryz.prog.eqGuardType Tryz.prog.depth 41 = false := by kernel_rfl
          have s2 : Tryz.prog.stoodInHeld 41 = false := by kernel_rfl
          have g1 : (k : Int) < (n : Int) := by omega
          have g3 : ¬ (n : Int) ≤ (k : Int) := by omega
          have eN : IntKind.i64.wrap ((k : Int) + 1) = (k : Int) + 1 := IntWalk.i64_in _ (by rw [maxLen] at q2; omega)
          clear hgc hxy hk' hcell hcell' hg hg' q1 q2 q1' q2' c3 c4
          go_wp2
          go_region
          go_wp2
          go_roundw
          case rel => exact ⟨k + 1, by omega, by first | rfl | go_num, Lib.hid (HR.out.trans (Flow.grow_drew _))⟩
          case measure => simp only [intOf]; omega
        · have hd : decide ((k : Int) < (n : Int)) = false := by simp; omega
          go_upto_region 9 with fail
          clear c1 c2 c3 c4 hkl hd hk
          have HG0 := HR
          clear HR
          go_loopw [6] (fun v wq => ∃ j : Nat, j ≤ L ∧ v = .int .i64 (j : Int) ∧ Hid (Flow.Grow w2 wq)) (fun v _ => L - (intOf v).toNat)
          case atStart => exact ⟨0, Nat.zero_le _, rfl, HG0⟩
          case round =>
            obtain ⟨j, hj, rfl, HR⟩ := hrel
            rename World => wq
            obtain ⟨_, _, _, c3, _, _, _, _, c4, _⟩ := RW.out wq HR.out
            by_cases hjl : j < L
            · have hj' : j < ks.length := by rw [← HLk.out]; exact hjl
              obtain ⟨y, hy⟩ : ∃ y, ks[j]? = some y := ⟨ks[j], List.getElem?_eq_getElem hj'⟩
              have Hcy : Hid (Xm.cnt y ≤ m) := Lib.hid (by have := Xm.cnt_mem hy; have := Hcm.out; omega)
              have HW := Lib.hid (G2.out.trans HR.out)
              have hLm := Hlen.out
              have hcm := Hcm.out
              rcases HK.out with ⟨h0, _⟩ | ⟨q, hkv, hkc, hcml, hgl, _⟩
              · rw [h0] at hj'; simp at hj'
              rcases HK'.out with ⟨h0, _⟩ | ⟨q', hkv', hkc', hcml', hgl', _⟩
              · rw [h0] at hj'; simp at hj'
              rw [← HLk.out] at hkv hkv' hkc hkc' hLm
              simp only [Value.slice.injEq, true_and] at hkv hkv'
              obtain ⟨rfl, rfl⟩ := hkv
              obtain ⟨rfl, rfl⟩ := hkv'
              obtain ⟨u0, u1, u4, a2, a3, n2, n3, c2, c3', k0, k1, k2, k3, k4, hny⟩ := Xm.kid_cells Hl.out HC.out HNn.out hgl HW.out hy
              obtain ⟨v0, v1, v4, b2, b3, m2, m3, d2, d3, l0, l1, l2, l3, l4, hny'⟩ := Xm.kid_cells Hl'.out HC'.out HNn'.out hgl' HW.out hy
              have g1 : (j : Int) < (L : Int) := by omega
              have g3 : ¬ (L : Int) ≤ (j : Int) := by omega
              have eN : IntKind.i64.wrap ((j : Int) + 1) = (j : Int) + 1 := IntWalk.i64_in _ (by omega)
              have HCall := Lib.hid (IHH.out y _ _ _ _ wq.drew Hcy.out (by omega) (hny.grow (HW.out.trans (Flow.grow_drew _))) (hny'.grow (HW.out.trans (Flow.grow_drew _))))
              clear hny hny' hy hj' hcml hcml' hgl hgl' hLm hcm
              go_wp2
              go_region_with (go_at_call 11; refine HCall.out.mono ?_; rintro e w9 ⟨rfl, hg9⟩)
              all_goals
                go_wp2
                go_roundw
                case rel => exact ⟨j + 1, by omega, by first | rfl | go_num, Lib.hid ((HR.out.trans (Flow.grow_drew _)).trans hg9)⟩
                case measure => simp only [intOf]; omega
            · have hd : decide ((j : Int) < (L : Int)) = false := by simp; omega
              go_wp2
              go_ret
              exact ⟨rfl, G2.out.trans HR.out⟩
end Go.Proofs.YtdpkhmfolmcejaaGreatDoor
