/- tree.Same by its contract: elements that are alike. -/
import Derived.Test.YtfkdjdmbgednkaaDoorCount
import Derived.Deep.DeepCutAuto
namespace Go.Proofs.YtfkdjdmbgednkaaDoor
open Go.RowKit
set_option maxRecDepth 100000 in
set_option maxHeartbeats 2000000 in
theorem eqAttr_true (va vb : Value) (l : List (ByteArray × ByteArray)) (w : World) (ha : Xm.AttrsAt w va l) (hb : Xm.AttrsAt w vb l) :
    Calls Tryd.prog 52 #[va, vb] w fun e w' => e = .returned (.bool true) ∧ Flow.Grow w w' := by
  obtain ⟨ao, ca, rfl⟩ := ha.shape
  obtain ⟨bo, cb, rfl⟩ := hb.shape
  have HA := Lib.hid ha
  have HB := Lib.hid hb
  clear ha hb
  obtain ⟨n, hN⟩ : ∃ n, n = l.length := ⟨_, rfl⟩
  have HN := Lib.hid hN
  rw [← hN]
  clear hN
  go_enter Tryd.func52, Tryd.ntmps52
  go_upto_region 4 with fail
  go_loopw [13] (fun v wr => ∃ k : Nat, k ≤ n ∧ v = .int .i64 (k : Int) ∧ Hid (Flow.Grow w wr)) (fun v _ => n - (intOf v).toNat)
  case atStart => exact ⟨0, Nat.zero_le _, rfl, Lib.hid (Flow.grow_refl _)⟩
  case round =>
    obtain ⟨k, hk, rfl, HR⟩ := hrel
    rename World => wr
    by_cases hkl : k < n
    · have hk' : k < l.length := by rw [← HN.out]; exact hkl
      obtain ⟨x, y, hxy⟩ : ∃ x y, l[k]? = some (x, y) := ⟨l[k].1, l[k].2, List.getElem?_eq_getElem hk'⟩
      have hgc := Xm.attrCells_get l k (x, y) hxy
      rcases HA.out with ⟨_, h0⟩ | ⟨g, off, cap, hva, q1, q2, hg, hcell⟩
      · have h0 : l = [] := h0
        rw [h0] at hk'; simp at hk'
      rcases HB.out with ⟨_, h0⟩ | ⟨g', off', cap', hvb, q1', q2', hg', hcell'⟩
      · have h0 : l = [] := h0
        rw [h0] at hk'; simp at hk'
      rw [← HN.out] at hva hvb q1 q1'
      simp only [Value.slice.injEq, true_and] at hva hvb
      obtain ⟨rfl, rfl⟩ := hva
      obtain ⟨rfl, rfl⟩ := hvb
      have k0 := Xm.cell_grow HR.out (o := off + k * 2) hg |>.trans (hcell _ _ hgc.1)
      have k1 := Xm.cell_grow HR.out (o := off + k * 2 + 1) hg |>.trans (hcell _ _ hgc.2)
      have k2 := Xm.cell_grow HR.out (o := off' + k * 2) hg' |>.trans (hcell' _ _ hgc.1)
      have k3 := Xm.cell_grow HR.out (o := off' + k * 2 + 1) hg' |>.trans (hcell' _ _ hgc.2)
      have s1 : Tryd.prog.eqGuardType Tryd.prog.depth 64 = false := by kernel_rfl
      have s2 : Tryd.prog.stoodInHeld 64 = false := by kernel_rfl
      have g1 : (k : Int) < (n : Int) := by omega
      have g3 : ¬ (n : Int) ≤ (k : Int) := by omega
      have eN : IntKind.i64.wrap ((k : Int) + 1) = (k : Int) + 1 := IntWalk.i64_in _ (by rw [maxLen] at q2; omega)
      clear hgc hxy hk' hcell hcell' hg hg' q1 q2 q1' q2' HA HB
      go_wp2
      go_region
      go_wp2
      go_roundw
      case rel => exact ⟨k + 1, by omega, by first | rfl | go_num, Lib.hid (HR.out.trans (Flow.grow_drew _))⟩
      case measure => simp only [intOf]; omega
    · have hd : decide ((k : Int) < (n : Int)) = false := by simp; omega
      go_wp2
      go_ret
      exact ⟨rfl, HR.out⟩
namespace Xm
/-- a slice of elements, where they lie -/
structure KidsAt (w : World) (kv : Value) (ks : List Nod) (L : Nat) (vs : List V5) (g off : Nat) (F : Nat → Prop) : Prop where
  len : L = ks.length
  k : (ks = [] ∧ ∃ a c, kv = .slice a 0 c) ∨ ∃ cap, kv = .slice (some ⟨g, off, none⟩) L cap ∧ L ≤ cap ∧ cap ≤ maxLen ∧ g < w.heap.size
  l : vs.length = ks.length
  c : ks ≠ [] → ∀ j u, (flat vs)[j]? = some u → w.cell? ⟨g, off + j, none⟩ = some u
  n : ∀ (j : Nat) (y : Nod) (v : V5), ks[j]? = some y → vs[j]? = some v → NodAt F w (V5.agg v) y
theorem KidsAt.grow {w w' : World} {kv : Value} {ks : List Nod} {L : Nat} {vs : List V5} {g off : Nat} {F : Nat → Prop} (h : KidsAt w kv ks L vs g off F) (gr : Flow.Grow w w') : KidsAt w' kv ks L vs g off (fun _ => True) := by
  refine ⟨h.len, ?_, h.l, fun hne j u hu => ?_, fun j y v h1 h2 => (h.n j y v h1 h2).grow gr⟩
  · rcases h.k with h | ⟨c, h1, h2, h3, h4⟩
    · exact .inl h
    · exact .inr ⟨c, h1, h2, h3, Nat.lt_of_lt_of_le h4 gr.size⟩
  · rcases h.k with h | ⟨c, h1, h2, h3, h4⟩
    · exact absurd h.1 hne
    · exact (cell_grow gr h4).trans (h.c hne j u hu)
end Xm
set_option maxRecDepth 100000 in
set_option maxHeartbeats 4000000 in
theorem eqKids_true (m : Nat) (hm : m ≤ 1000000000) (IHH : Hid (∀ (x : Xm.Nod) (F G : Nat → Prop) (va vb : Value) (w : World), Xm.cnt x ≤ m → m ≤ 1000000000 → Xm.NodAt F w va x → Xm.NodAt G w vb x → Calls Tryd.prog 29 #[va, vb] w fun e w' => e = .returned (.bool true) ∧ Flow.Grow w w'))
    (ks : List Xm.Nod) (L : Nat) (va vb : Value) (F G : Nat → Prop) (vs vs' : List Xm.V5) (g off g' off' : Nat) (w : World) (ha : Xm.KidsAt w va ks L vs g off F) (hb : Xm.KidsAt w vb ks L vs' g' off' G) (hc : Xm.cntL ks ≤ m) :
    Calls Tryd.prog 53 #[va, vb, .func (.func 29) #[] #[]] w fun e w' => e = .returned (.bool true) ∧ Flow.Grow w w' := by
  have HA := Lib.hid ha
  have HB := Lib.hid hb
  have Hc := Lib.hid hc
  have Hm := Lib.hid hm
  have HLk := Lib.hid ha.len
  obtain ⟨ka, kc, rfl⟩ : ∃ ka kc, va = .slice ka L kc := by
    rcases ha.k with ⟨h0, a, c, rfl⟩ | ⟨c, rfl, _⟩
    · have := ha.len; rw [h0] at this; exact ⟨a, c, by rw [this]; rfl⟩
    · exact ⟨_, c, rfl⟩
  obtain ⟨kb, kd, rfl⟩ : ∃ ka kc, vb = .slice ka L kc := by
    rcases hb.k with ⟨h0, a, c, rfl⟩ | ⟨c, rfl, _⟩
    · have := hb.len; rw [h0] at this; exact ⟨a, c, by rw [this]; rfl⟩
    · exact ⟨_, c, rfl⟩
  clear ha hb hc hm
  go_enter Tryd.func53, Tryd.ntmps53
  go_upto_region 4 with fail
  go_loopw [17] (fun v wq => ∃ j : Nat, j ≤ L ∧ v = .int .i64 (j : Int) ∧ Hid (Flow.Grow w wq)) (fun v _ => L - (intOf v).toNat)
  case atStart => exact ⟨0, Nat.zero_le _, rfl, Lib.hid (Flow.grow_refl _)⟩
  case round =>
    obtain ⟨j, hj, rfl, HR⟩ := hrel
    rename World => wq
    by_cases hjl : j < L
    · have hj' : j < ks.length := by rw [← HLk.out]; exact hjl
      obtain ⟨y, hy⟩ : ∃ y, ks[j]? = some y := ⟨ks[j], List.getElem?_eq_getElem hj'⟩
      have Hcy : Hid (Xm.cnt y ≤ m) := Lib.hid (Nat.le_trans (Xm.cnt_mem hy) Hc.out)
      rcases HA.out.k with ⟨h0, _⟩ | ⟨q, hkv, hkc, hcml, hgl⟩
      · rw [h0] at hj'; simp at hj'
      rcases HB.out.k with ⟨h0, _⟩ | ⟨q', hkv', hkc', hcml', hgl'⟩
      · rw [h0] at hj'; simp at hj'
      simp only [Value.slice.injEq, true_and] at hkv hkv'
      obtain ⟨rfl, rfl⟩ := hkv
      obtain ⟨rfl, rfl⟩ := hkv'
      obtain ⟨u0, u1, u4, a2, a3, n2, n3, c2, c3', k0, k1, k2, k3, k4, hny⟩ := Xm.kid_cells HA.out.l HA.out.c HA.out.n hgl HR.out hy
      have gA := Flow.grow_alloc wq (.cells #[.string u0, .string u1, .slice a2 n2 c2, .slice a3 n3 c3', .string u4] 47)
      obtain ⟨v0, v1, v4, b2, b3, m2, m3, d2, d3, l0, l1, l2, l3, l4, hny'⟩ := Xm.kid_cells HB.out.l HB.out.c HB.out.n hgl' (HR.out.trans gA) hy
      have gB := Flow.grow_alloc (wq.alloc (.cells #[.string u0, .string u1, .slice a2 n2 c2, .slice a3 n3 c3', .string u4] 47)) (.cells #[.string v0, .string v1, .slice b2 m2 d2, .slice b3 m3 d3, .string v4] 47)
      have g1 : (j : Int) < (L : Int) := by omega
      have g3 : ¬ (L : Int) ≤ (j : Int) := by omega
      have eN : IntKind.i64.wrap ((j : Int) + 1) = (j : Int) + 1 := IntWalk.i64_in _ (by rw [maxLen] at hcml; omega)
      have GX := Lib.hid ((HR.out.trans gA).trans gB)
      have X1 : Hid (Xm.RowN ((wq.alloc (.cells #[.string u0, .string u1, .slice a2 n2 c2, .slice a3 n3 c3', .string u4] 47)).alloc (.cells #[.string v0, .string v1, .slice b2 m2 d2, .slice b3 m3 d3, .string v4] 47)) wq.heap.size #[.string u0, .string u1, .slice a2 n2 c2, .slice a3 n3 c3', .string u4]) := Lib.hid (Xm.RowN.grow (heap_alloc_new wq _) gB)
      have X2 : Hid (Xm.RowN ((wq.alloc (.cells #[.string u0, .string u1, .slice a2 n2 c2, .slice a3 n3 c3', .string u4] 47)).alloc (.cells #[.string v0, .string v1, .slice b2 m2 d2, .slice b3 m3 d3, .string v4] 47)) (wq.heap.size + 1) #[.string v0, .string v1, .slice b2 m2 d2, .slice b3 m3 d3, .string v4]) := Lib.hid (by
        have h := heap_alloc_new (wq.alloc (.cells #[.string u0, .string u1, .slice a2 n2 c2, .slice a3 n3 c3', .string u4] 47)) (.cells #[.string v0, .string v1, .slice b2 m2 d2, .slice b3 m3 d3, .string v4] 47)
        rw [show (wq.alloc (.cells #[.string u0, .string u1, .slice a2 n2 c2, .slice a3 n3 c3', .string u4] 47)).heap.size = wq.heap.size + 1 by simp] at h
        exact h)
      have N1 := Lib.hid (hny.grow GX.out)
      have N2 := Lib.hid (hny'.grow GX.out)
      clear hny hny' hy hj' hcml hcml' hgl hgl' gA gB
      go_upto_region 7 with fail
      obtain ⟨X, hX⟩ : ∃ X, X = wq.heap.size := ⟨_, rfl⟩
      rw [← hX] at X1 X2 ⊢
      clear hX k0 k1 k2 k3 k4 l0 l1 l2 l3 l4
      generalize ((wq.alloc (.cells #[.string u0, .string u1, .slice a2 n2 c2, .slice a3 n3 c3', .string u4] 47)).alloc (.cells #[.string v0, .string v1, .slice b2 m2 d2, .slice b3 m3 d3, .string v4] 47)) = w2 at *
      have r0 := (cell_of_row w2 X 0 _ _ _ X1.out).trans rfl
      have r1 := (cell_of_row w2 X 1 _ _ _ X1.out).trans rfl
      have r2 := (cell_of_row w2 X 2 _ _ _ X1.out).trans rfl
      have r3 := (cell_of_row w2 X 3 _ _ _ X1.out).trans rfl
      have r4 := (cell_of_row w2 X 4 _ _ _ X1.out).trans rfl
      have q0 := (cell_of_row w2 (X + 1) 0 _ _ _ X2.out).trans rfl
      have q1 := (cell_of_row w2 (X + 1) 1 _ _ _ X2.out).trans rfl
      have q2 := (cell_of_row w2 (X + 1) 2 _ _ _ X2.out).trans rfl
      have q3 := (cell_of_row w2 (X + 1) 3 _ _ _ X2.out).trans rfl
      have q4 := (cell_of_row w2 (X + 1) 4 _ _ _ X2.out).trans rfl
      simp at r0 r1 r2 r3 r4 q0 q1 q2 q3 q4
      go_wp2_with (go_at_call 29; refine (IHH.out y _ _ _ _ w2 Hcy.out Hm.out N1.out N2.out).mono ?_; rintro e w9 ⟨rfl, hg9⟩)
      go_roundw
      case rel => exact ⟨j + 1, by omega, by first | rfl | go_num, Lib.hid (GX.out.trans hg9)⟩
      case measure => simp only [intOf]; omega
    · have hd : decide ((j : Int) < (L : Int)) = false := by simp; omega
      go_wp2
      go_ret
      exact ⟨rfl, HR.out⟩
set_option maxRecDepth 100000 in
set_option maxHeartbeats 4000000 in
theorem tsame_true : ∀ (m : Nat) (x : Xm.Nod) (F G : Nat → Prop) (va vb : Value) (w : World), Xm.cnt x ≤ m → m ≤ 1000000000 → Xm.NodAt F w va x → Xm.NodAt G w vb x → Calls Tryd.prog 29 #[va, vb] w fun e w' => e = .returned (.bool true) ∧ Flow.Grow w w' := by
  intro m
  induction m with
  | zero => intro x F G va vb w h; cases x with | mk sp nm l ks tx => rw [Xm.cnt] at h; omega
  | succ m IH =>
    intro x F G va vb w hx hm hn hn'
    have IHH := Lib.hid IH
    clear IH
    cases hn with
    | mk sp nm tx av kv l ks vs g off hA haF hk hl hc hn =>
    cases hn' with
    | mk _ _ _ av' kv' _ _ vs' g' off' hA' haF' hk' hl' hc' hn' =>
      obtain ⟨ao, ca, rfl⟩ := hA.shape
      obtain ⟨bo, cb, rfl⟩ := hA'.shape
      have hcm : Xm.cntL ks ≤ m := by rw [Xm.cnt] at hx; omega
      have Hcm := Lib.hid hcm
      have HA := Lib.hid hA
      have HA' := Lib.hid hA'
      obtain ⟨L, hL⟩ : ∃ L, L = ks.length := ⟨_, rfl⟩
      have KA : Hid (Xm.KidsAt w kv ks L vs g off F) := Lib.hid ⟨hL, by rcases hk with h | ⟨c, h1, h2, h3, h4, _⟩; exact .inl h; rw [← hL] at h1 h2; exact .inr ⟨c, h1, h2, h3, h4⟩, hl, hc, hn⟩
      have KB : Hid (Xm.KidsAt w kv' ks L vs' g' off' G) := Lib.hid ⟨hL, by rcases hk' with h | ⟨c, h1, h2, h3, h4, _⟩; exact .inl h; rw [← hL] at h1 h2; exact .inr ⟨c, h1, h2, h3, h4⟩, hl', hc', hn'⟩
      obtain ⟨ka, kc, rfl⟩ : ∃ ka kc, kv = .slice ka L kc := by
        rcases KA.out.k with ⟨h0, a, c, rfl⟩ | ⟨c, rfl, _⟩
        · rw [h0] at hL; exact ⟨a, c, by rw [hL]; rfl⟩
        · exact ⟨_, c, rfl⟩
      obtain ⟨kb, kd, rfl⟩ : ∃ ka kc, kv' = .slice ka L kc := by
        rcases KB.out.k with ⟨h0, a, c, rfl⟩ | ⟨c, rfl, _⟩
        · rw [h0] at hL; exact ⟨a, c, by rw [hL]; rfl⟩
        · exact ⟨_, c, rfl⟩
      clear hx hcm hA haF hk hc hn hl hA' haF' hk' hc' hn' hl' hL
      obtain ⟨n, hN⟩ : ∃ n, n = l.length := ⟨_, rfl⟩
      rw [← hN] at HA HA' ⊢
      clear hN
      go_enter Tryd.func29, Tryd.ntmps29
      go_upto_region 1 with fail
      have G2 : Hid (Flow.Grow w ((w.alloc (.cells #[.string sp, .string nm, .slice ao n ca, .slice ka L kc, .string tx] 47)).alloc (.cells #[.string sp, .string nm, .slice bo n cb, .slice kb L kd, .string tx] 47))) := Lib.hid ((Flow.grow_alloc _ _).trans (Flow.grow_alloc _ _))
      have X1 : Hid (Xm.RowN ((w.alloc (.cells #[.string sp, .string nm, .slice ao n ca, .slice ka L kc, .string tx] 47)).alloc (.cells #[.string sp, .string nm, .slice bo n cb, .slice kb L kd, .string tx] 47)) w.heap.size #[.string sp, .string nm, .slice ao n ca, .slice ka L kc, .string tx]) := Lib.hid (Xm.RowN.grow (heap_alloc_new w _) (Flow.grow_alloc _ _))
      have X2 : Hid (Xm.RowN ((w.alloc (.cells #[.string sp, .string nm, .slice ao n ca, .slice ka L kc, .string tx] 47)).alloc (.cells #[.string sp, .string nm, .slice bo n cb, .slice kb L kd, .string tx] 47)) (w.heap.size + 1) #[.string sp, .string nm, .slice bo n cb, .slice kb L kd, .string tx]) := Lib.hid (by
        have h := heap_alloc_new (w.alloc (.cells #[.string sp, .string nm, .slice ao n ca, .slice ka L kc, .string tx] 47)) (.cells #[.string sp, .string nm, .slice bo n cb, .slice kb L kd, .string tx] 47)
        rw [show (w.alloc (.cells #[.string sp, .string nm, .slice ao n ca, .slice ka L kc, .string tx] 47)).heap.size = w.heap.size + 1 by simp] at h
        exact h)
      obtain ⟨X, hX⟩ : ∃ X, X = w.heap.size := ⟨_, rfl⟩
      rw [← hX] at X1 X2 ⊢
      clear hX
      generalize ((w.alloc (.cells #[.string sp, .string nm, .slice ao n ca, .slice ka L kc, .string tx] 47)).alloc (.cells #[.string sp, .string nm, .slice bo n cb, .slice kb L kd, .string tx] 47)) = w2 at *
      have x0 := (cell_of_row w2 X 0 _ _ _ X1.out).trans rfl
      have x1 := (cell_of_row w2 X 1 _ _ _ X1.out).trans rfl
      have x2 := (cell_of_row w2 X 2 _ _ _ X1.out).trans rfl
      have x4 := (cell_of_row w2 X 4 _ _ _ X1.out).trans rfl
      have y0 := (cell_of_row w2 (X + 1) 0 _ _ _ X2.out).trans rfl
      have y1 := (cell_of_row w2 (X + 1) 1 _ _ _ X2.out).trans rfl
      have y2 := (cell_of_row w2 (X + 1) 2 _ _ _ X2.out).trans rfl
      have y4 := (cell_of_row w2 (X + 1) 4 _ _ _ X2.out).trans rfl
      simp at x0 x1 x2 x4 y0 y1 y2 y4
      have CE := Lib.hid (eqAttr_true _ _ l w2 (Xm.AttrsAt.keep HA.out G2.out.size (fun q _ hq => G2.out.block q hq (by simp))) (Xm.AttrsAt.keep HA'.out G2.out.size (fun q _ hq => G2.out.block q hq (by simp))))
      go_wp2_with (first
        | (go_at_call 52; refine CE.out.mono ?_; rintro e w3 ⟨rfl, hg3⟩; have z3 := (cell_of_row w3 X 3 _ _ _ (X1.out.grow hg3)).trans rfl; have t3 := (cell_of_row w3 (X + 1) 3 _ _ _ (X2.out.grow hg3)).trans rfl; have G3 := Lib.hid (G2.out.trans hg3); clear hg3)
        | (go_at_call 53; refine (eqKids_true m (by omega) IHH ks L _ _ _ _ vs vs' g off g' off' w3 (KA.out.grow G3.out) (KB.out.grow G3.out) Hcm.out).mono ?_; rintro e w4 ⟨rfl, hg4⟩))
      go_ret
      exact ⟨rfl, G3.out.trans hg4⟩
end Go.Proofs.YtfkdjdmbgednkaaDoor
