/- tree: Count, Depth by their contracts. -/
import Derived.Test.YtdpkhmfolmcejaaGreatDoorMTr
namespace Go.Proofs.YtdpkhmfolmcejaaGreatDoor
open Go.RowKit
namespace Xm
mutual
/-- how many elements there are, with itself -/
def cnt : Nod → Nat
  | .mk _ _ _ ks _ => 1 + cntL ks
def cntL : List Nod → Nat
  | [] => 0
  | y :: ys => cnt y + cntL ys
end
mutual
/-- how many are within one another at most -/
def dep : Nod → Nat
  | .mk _ _ _ ks _ => depL ks + 1
def depL : List Nod → Nat
  | [] => 0
  | y :: ys => max (dep y) (depL ys)
end
theorem cntL_append : ∀ (a b : List Nod), cntL (a ++ b) = cntL a + cntL b
  | [], b => by simp [cntL]
  | y :: a, b => by rw [List.cons_append, cntL, cntL, cntL_append a b]; omega
theorem depL_append : ∀ (a b : List Nod), depL (a ++ b) = max (depL a) (depL b)
  | [], b => by simp [depL]
  | y :: a, b => by rw [List.cons_append, depL, depL, depL_append a b]; omega
theorem cnt_mem : ∀ {ks : List Nod} {j : Nat} {y : Nod}, ks[j]? = some y → cnt y ≤ cntL ks
  | [], j, y, h => by simp at h
  | x :: ks, 0, y, h => by simp at h; subst h; rw [cntL]; omega
  | x :: ks, j + 1, y, h => by have := cnt_mem (ks := ks) (j := j) (y := y) (by simpa using h); rw [cntL]; omega
theorem len_cntL : ∀ (ks : List Nod), ks.length ≤ cntL ks
  | [] => Nat.le_refl _
  | x :: ks => by have := len_cntL ks; rw [cntL, List.length_cons]; cases x with | mk sp nm l k t => rw [cnt]; omega
mutual
theorem dep_cnt : ∀ (x : Nod), dep x ≤ cnt x
  | .mk _ _ _ ks _ => by have := depL_cntL ks; rw [dep, cnt]; omega
theorem depL_cntL : ∀ (ks : List Nod), depL ks ≤ cntL ks
  | [] => Nat.le_refl _
  | y :: ys => by have h1 := dep_cnt y; have h2 := depL_cntL ys; rw [depL, cntL]; omega
end
theorem NodAt.grow {F : Nat → Prop} {w w' : World} {v : Value} {x : Nod} (h : NodAt F w v x) (g : Flow.Grow w w') : NodAt (fun _ => True) w' v x := by
  induction h with
  | mk sp nm tx av kv l ks vs g0 off hA haF hk hl hc hn ih =>
    refine .mk sp nm tx av kv l ks vs g0 off (hA.grow g) (fun _ _ => trivial) ?_ hl ?_ ih
    · rcases hk with hk | ⟨cap, h1, h2, h3, h4, h5⟩
      · exact .inl hk
      · exact .inr ⟨cap, h1, h2, h3, Nat.lt_of_lt_of_le h4 g.size, trivial⟩
    · intro hne j u hu
      rcases hk with ⟨h0, _⟩ | ⟨cap, h1, h2, h3, h4, h5⟩
      · exact absurd h0 hne
      · exact (cell_grow g h4).trans (hc hne j u hu)
theorem flat_get : ∀ (vs : List V5) (j : Nat) (v : V5), vs[j]? = some v → (flat vs)[j * 5]? = some v.1 ∧ (flat vs)[j * 5 + 1]? = some v.2.1 ∧ (flat vs)[j * 5 + 2]? = some v.2.2.1 ∧ (flat vs)[j * 5 + 3]? = some v.2.2.2.1 ∧ (flat vs)[j * 5 + 4]? = some v.2.2.2.2
  | [], j, v, h => by simp at h
  | x :: vs, 0, v, h => by simp at h; subst h; exact ⟨rfl, rfl, rfl, rfl, rfl⟩
  | x :: vs, j + 1, v, h => by
    have ih := flat_get vs j v (by simpa using h)
    have e : ∀ i, (flat (x :: vs))[(j + 1) * 5 + i]? = (flat vs)[j * 5 + i]? := fun i => by
      rw [show flat (x :: vs) = V5.cells x ++ flat vs from rfl, List.getElem?_append_right (by simp [V5.cells]; omega)]
      congr 1
      simp [V5.cells]; omega
    exact ⟨(e 0).trans ih.1, (e 1).trans ih.2.1, (e 2).trans ih.2.2.1, (e 3).trans ih.2.2.2.1, (e 4).trans ih.2.2.2.2⟩
/-- what is read of one of the elements within an element -/
theorem kid_cells {F : Nat → Prop} {w w' : World} {vs : List V5} {g off j : Nat} {ks : List Nod} {y : Nod} (hl : vs.length = ks.length) (hc : ks ≠ [] → ∀ j u, (flat vs)[j]? = some u → w.cell? ⟨g, off + j, none⟩ = some u) (hn : ∀ (j : Nat) (y : Nod) (v : V5), ks[j]? = some y → vs[j]? = some v → NodAt F w (V5.agg v) y)
    (hg : g < w.heap.size) (gr : Flow.Grow w w') (hy : ks[j]? = some y) : ∃ (u0 u1 u4 : ByteArray) (a2 a3 : Option Addr) (n2 n3 c2 c3 : Nat), w'.cell? ⟨g, off + j * 5, none⟩ = some (.string u0) ∧ w'.cell? ⟨g, off + j * 5 + 1, none⟩ = some (.string u1) ∧ w'.cell? ⟨g, off + j * 5 + 2, none⟩ = some (.slice a2 n2 c2) ∧ w'.cell? ⟨g, off + j * 5 + 3, none⟩ = some (.slice a3 n3 c3) ∧ w'.cell? ⟨g, off + j * 5 + 4, none⟩ = some (.string u4) ∧
      NodAt F w (.agg #[.string u0, .string u1, .slice a2 n2 c2, .slice a3 n3 c3, .string u4]) y := by
  have hj : j < ks.length := (List.getElem?_eq_some_iff.1 hy).1
  have hne : ks ≠ [] := fun e => by rw [e] at hj; simp at hj
  obtain ⟨v, hv⟩ : ∃ v, vs[j]? = some v := ⟨vs[j]'(by omega), List.getElem?_eq_getElem (by omega)⟩
  have h1 := hn j y v hy hv
  have h2 := flat_get vs j v hv
  obtain ⟨u0, u1, u4, a2, a3, n2, n3, c2, c3, he⟩ := h1.form
  obtain ⟨v0, v1, v2, v3, v4⟩ := v
  have he : (#[v0, v1, v2, v3, v4] : Array Value) = #[.string u0, .string u1, .slice a2 n2 c2, .slice a3 n3 c3, .string u4] := by
    unfold V5.agg at he; injection he
  simp at he
  obtain ⟨rfl, rfl, rfl, rfl, rfl⟩ := he
  refine ⟨u0, u1, u4, a2, a3, n2, n3, c2, c3, (cell_grow gr hg).trans (hc hne _ _ h2.1), ?_, ?_, ?_, ?_, h1⟩
  · rw [Nat.add_assoc]; exact (cell_grow gr hg).trans (hc hne _ _ h2.2.1)
  · rw [Nat.add_assoc]; exact (cell_grow gr hg).trans (hc hne _ _ h2.2.2.1)
  · rw [Nat.add_assoc]; exact (cell_grow gr hg).trans (hc hne _ _ h2.2.2.2.1)
  · rw [Nat.add_assoc]; exact (cell_grow gr hg).trans (hc hne _ _ h2.2.2.2.2)
end Xm
set_option maxRecDepth 100000 in
set_option maxHeartbeats 1000000 in
theorem count_any : ∀ (m : Nat) (x : Xm.Nod) (F : Nat → Prop) (v : Value) (w : World), Xm.cnt x ≤ m → m ≤ 1000000000 → Xm.NodAt F w v x → Calls Tryz.prog 23 #[v] w fun e w' => e = .returned (.int .i64 (Xm.cnt x : Int)) ∧ Flow.Grow w w' := by
  intro m
  induction m with
  | zero => intro x F v w h; cases x with | mk sp nm l ks tx => rw [Xm.cnt] at h; omega
  | succ m IH =>
    intro x F v w hx hm hn
    have IHH := Lib.hid IH
    clear IH
    cases hn with
    | mk sp nm tx av kv l ks vs g off hA haF hk hl hc hn =>
      obtain ⟨ao, cap, rfl⟩ := hA.shape
      have HX : Hid (Xm.cnt (.mk sp nm l ks tx) = 1 + Xm.cntL ks) := Lib.hid (by rw [Xm.cnt])
      have hcm : 1 + Xm.cntL ks ≤ m + 1 := by rw [← HX.out]; exact hx
      have Hcm := Lib.hid hcm
      have Hlen := Lib.hid (Xm.len_cntL ks)
      obtain ⟨ka, kc, hkv⟩ : ∃ ka kc, kv = .slice ka ks.length kc := by
        rcases hk with ⟨rfl, a, c, rfl⟩ | ⟨c, rfl, _⟩
        · exact ⟨a, c, rfl⟩
        · exact ⟨_, c, rfl⟩
      subst hkv
      have HK := Lib.hid hk
      have HC := Lib.hid hc
      have HNn := Lib.hid hn
      have Hl := Lib.hid hl
      clear hx hcm hA haF hk hc hn hl
      go_enter Tryz.func23, Tryz.ntmps23
      go_wp2
      have G1 : Hid (Flow.Grow w (w.alloc (.cells #[.string sp, .string nm, .slice ao l.length cap, .slice ka ks.length kc, .string tx] 25))) := Lib.hid (Flow.grow_alloc _ _)
      generalize w.alloc (.cells #[.string sp, .string nm, .slice ao l.length cap, .slice ka ks.length kc, .string tx] 25) = w1 at *
      go_loopw [3, 9] (fun v3 v9 wr => ∃ a b : List Xm.Nod, ks = a ++ b ∧ v9 = .int .i64 a.length ∧ v3 = .int .i64 (1 + Xm.cntL a : Nat) ∧ Hid (Flow.Grow w wr)) (fun _ v9 _ => ks.length - (intOf v9).toNat)
      case atStart => exact ⟨[], ks, rfl, rfl, rfl, G1⟩
      case round =>
        obtain ⟨a, b, hab, rfl, rfl, HG⟩ := hrel
        rename World => wr
        have hlen := Hlen.out
        cases b with
        | nil =>
          rw [List.append_nil] at hab
          subst hab
          go_wp2
          go_ret
          exact ⟨by rw [HX.out]; rfl, HG.out⟩
        | cons y b' =>
          have hy : ks[a.length]? = some y := by rw [hab]; simp
          have hlt : a.length < ks.length := by rw [hab]; simp
          have hcy := Xm.cnt_mem hy
          have hcm := Hcm.out
          rcases HK.out with ⟨h0, _⟩ | ⟨c, hkv, hkc, hcml, hgl, _⟩
          · rw [h0] at hlt; simp at hlt
          simp only [Value.slice.injEq, true_and] at hkv
          obtain ⟨rfl, rfl⟩ := hkv
          obtain ⟨u0, u1, u4, a2, a3, n2, n3, c2, c3, k0, k1, k2, k3, k4, hny⟩ := Xm.kid_cells Hl.out HC.out HNn.out hgl HG.out hy
          have HA : Hid (ks = (a ++ [y]) ++ b') := Lib.hid (by rw [hab]; simp)
          have hsum : Xm.cntL (a ++ [y]) ≤ Xm.cntL ks := by rw [HA.out, Xm.cntL_append (a ++ [y])]; omega
          have hs2 : Xm.cntL (a ++ [y]) = Xm.cntL a + Xm.cnt y := by rw [Xm.cntL_append, Xm.cntL, Xm.cntL]; omega
          obtain ⟨N, hN⟩ : ∃ N, N = a.length := ⟨_, rfl⟩
          have HN := Lib.hid hN
          obtain ⟨L, hL⟩ : ∃ L, L = ks.length := ⟨_, rfl⟩
          have HLk := Lib.hid hL
          rw [← hN] at k0 k1 k2 k3 k4 hlt ⊢
          rw [← hL] at hlt hkc ⊢
          have gk := Flow.grow_alloc wr (.cells #[.string u0, .string u1, .slice a2 n2 c2, .slice a3 n3 c3, .string u4] 25)
          have G2 := Lib.hid (HG.out.trans gk)
          have Hny := Lib.hid hny
          have Hcy : Hid (Xm.cnt y ≤ m) := Lib.hid (by omega)
          clear gk hny hab hN hL HG hy
          have g1 : (N : Int) < (L : Int) := by omega
          have g3 : ¬ (L : Int) ≤ (N : Int) := by omega
          have HB : Hid (Xm.RowN (wr.alloc (.cells #[.string u0, .string u1, .slice a2 n2 c2, .slice a3 n3 c3, .string u4] 25)) wr.heap.size #[.string u0, .string u1, .slice a2 n2 c2, .slice a3 n3 c3, .string u4]) := Lib.hid (heap_alloc_new _ _)
          go_upto_region 5 with fail
          obtain ⟨B, hB⟩ : ∃ B, B = wr.heap.size := ⟨_, rfl⟩
          rw [← hB] at HB ⊢
          clear hB k0 k1 k2 k3 k4
          generalize wr.alloc (.cells #[.string u0, .string u1, .slice a2 n2 c2, .slice a3 n3 c3, .string u4] 25) = w2 at *
          have y0 := (cell_of_row w2 B 0 _ _ _ HB.out).trans rfl
          have y1 := (cell_of_row w2 B 1 _ _ _ HB.out).trans rfl
          have y2 := (cell_of_row w2 B 2 _ _ _ HB.out).trans rfl
          have y3 := (cell_of_row w2 B 3 _ _ _ HB.out).trans rfl
          have y4 := (cell_of_row w2 B 4 _ _ _ HB.out).trans rfl
          have eN : IntKind.i64.wrap ((N : Int) + 1) = (N : Int) + 1 := IntWalk.i64_in _ (by have := Hlen.out; rw [← HLk.out] at this; omega)
          have ew : IntKind.i64.wrap (((1 + Xm.cntL a : Nat) : Int) + (Xm.cnt y : Int)) = ((1 + Xm.cntL a + Xm.cnt y : Nat) : Int) := (IntWalk.i64_in _ (by omega)).trans (by omega)
          obtain ⟨C, hC⟩ : ∃ C, C = Xm.cnt y := ⟨_, rfl⟩
          have HCy := Lib.hid hC
          rw [← hC] at hs2 ew
          clear hC
          go_wp2_with (go_at_call 23; refine (IHH.out y _ _ w2 Hcy.out (by omega) (Hny.out.grow G2.out)).mono ?_; rintro e w3 ⟨rfl, hg3⟩; rw [← HCy.out])
          have G3 := Lib.hid (G2.out.trans hg3)
          go_roundw
          case rel => exact ⟨a ++ [y], b', HA.out, by rw [List.length_append, List.length_singleton, ← HN.out]; rfl, by rw [hs2]; congr 1; omega, G3⟩
          case measure => simp only [intOf]; omega
set_option maxRecDepth 100000 in
set_option maxHeartbeats 1000000 in
theorem depthN_any : ∀ (m : Nat) (x : Xm.Nod) (F : Nat → Prop) (v : Value) (w : World), Xm.cnt x ≤ m → m ≤ 1000000000 → Xm.NodAt F w v x → Calls Tryz.prog 22 #[v] w fun e w' => e = .returned (.int .i64 (Xm.dep x : Int)) ∧ Flow.Grow w w' := by
  intro m
  induction m with
  | zero => intro x F v w h; cases x with | mk sp nm l ks tx => rw [Xm.cnt] at h; omega
  | succ m IH =>
    intro x F v w hx hm hn
    have IHH := Lib.hid IH
    clear IH
    cases hn with
    | mk sp nm tx av kv l ks vs g off hA haF hk hl hc hn =>
      obtain ⟨ao, cap, rfl⟩ := hA.shape
      have HX : Hid (Xm.cnt (.mk sp nm l ks tx) = 1 + Xm.cntL ks) := Lib.hid (by rw [Xm.cnt])
      have HD : Hid (Xm.dep (.mk sp nm l ks tx) = Xm.depL ks + 1) := Lib.hid (by rw [Xm.dep])
      have HDc : Hid (Xm.depL ks ≤ Xm.cntL ks) := Lib.hid (Xm.depL_cntL ks)
      have hcm : 1 + Xm.cntL ks ≤ m + 1 := by rw [← HX.out]; exact hx
      have Hcm := Lib.hid hcm
      have Hlen := Lib.hid (Xm.len_cntL ks)
      obtain ⟨ka, kc, hkv⟩ : ∃ ka kc, kv = .slice ka ks.length kc := by
        rcases hk with ⟨rfl, a, c, rfl⟩ | ⟨c, rfl, _⟩
        · exact ⟨a, c, rfl⟩
        · exact ⟨_, c, rfl⟩
      subst hkv
      have HK := Lib.hid hk
      have HC := Lib.hid hc
      have HNn := Lib.hid hn
      have Hl := Lib.hid hl
      clear hx hcm hA haF hk hc hn hl
      go_enter Tryz.func22, Tryz.ntmps22
      go_wp2
      have G1 : Hid (Flow.Grow w (w.alloc (.cells #[.string sp, .string nm, .slice ao l.length cap, .slice ka ks.length kc, .string tx] 25))) := Lib.hid (Flow.grow_alloc _ _)
      generalize w.alloc (.cells #[.string sp, .string nm, .slice ao l.length cap, .slice ka ks.length kc, .string tx] 25) = w1 at *
      go_loopw [3, 9] (fun v3 v9 wr => ∃ a b : List Xm.Nod, ks = a ++ b ∧ v9 = .int .i64 a.length ∧ v3 = .int .i64 (Xm.depL a : Nat) ∧ Hid (Flow.Grow w wr)) (fun _ v9 _ => ks.length - (intOf v9).toNat)
      case atStart => exact ⟨[], ks, rfl, rfl, rfl, G1⟩
      case round =>
        obtain ⟨a, b, hab, rfl, rfl, HG⟩ := hrel
        rename World => wr
        have hlen := Hlen.out
        cases b with
        | nil =>
          rw [List.append_nil] at hab
          subst hab
          have ef : IntKind.i64.wrap ((Xm.depL ks : Int) + 1) = (Xm.depL ks : Int) + 1 := IntWalk.i64_in _ (by have := HDc.out; have := Hcm.out; omega)
          go_wp2
          go_ret
          exact ⟨by rw [HD.out]; rfl, HG.out⟩
        | cons y b' =>
          have hy : ks[a.length]? = some y := by rw [hab]; simp
          have hlt : a.length < ks.length := by rw [hab]; simp
          have hcy := Xm.cnt_mem hy
          have hcm := Hcm.out
          rcases HK.out with ⟨h0, _⟩ | ⟨c, hkv, hkc, hcml, hgl, _⟩
          · rw [h0] at hlt; simp at hlt
          simp only [Value.slice.injEq, true_and] at hkv
          obtain ⟨rfl, rfl⟩ := hkv
          obtain ⟨u0, u1, u4, a2, a3, n2, n3, c2, c3, k0, k1, k2, k3, k4, hny⟩ := Xm.kid_cells Hl.out HC.out HNn.out hgl HG.out hy
          have HA : Hid (ks = (a ++ [y]) ++ b') := Lib.hid (by rw [hab]; simp)
          have hsum : Xm.cntL (a ++ [y]) ≤ Xm.cntL ks := by rw [HA.out, Xm.cntL_append (a ++ [y])]; omega
          have hs2 : Xm.depL (a ++ [y]) = max (Xm.depL a) (Xm.dep y) := by rw [Xm.depL_append, Xm.depL, Xm.depL]; omega
          obtain ⟨N, hN⟩ : ∃ N, N = a.length := ⟨_, rfl⟩
          have HN := Lib.hid hN
          obtain ⟨L, hL⟩ : ∃ L, L = ks.length := ⟨_, rfl⟩
          have HLk := Lib.hid hL
          rw [← hN] at k0 k1 k2 k3 k4 hlt ⊢
          rw [← hL] at hlt hkc ⊢
          have gk := Flow.grow_alloc wr (.cells #[.string u0, .string u1, .slice a2 n2 c2, .slice a3 n3 c3, .string u4] 25)
          have G2 := Lib.hid (HG.out.trans gk)
          have Hny := Lib.hid hny
          have Hcy : Hid (Xm.cnt y ≤ m) := Lib.hid (by omega)
          clear gk hny hab hN hL HG hy
          have g1 : (N : Int) < (L : Int) := by omega
          have g3 : ¬ (L : Int) ≤ (N : Int) := by omega
          have HB : Hid (Xm.RowN (wr.alloc (.cells #[.string u0, .string u1, .slice a2 n2 c2, .slice a3 n3 c3, .string u4] 25)) wr.heap.size #[.string u0, .string u1, .slice a2 n2 c2, .slice a3 n3 c3, .string u4]) := Lib.hid (heap_alloc_new _ _)
          go_upto_region 5 with fail
          obtain ⟨B, hB⟩ : ∃ B, B = wr.heap.size := ⟨_, rfl⟩
          rw [← hB] at HB ⊢
          clear hB k0 k1 k2 k3 k4
          generalize wr.alloc (.cells #[.string u0, .string u1, .slice a2 n2 c2, .slice a3 n3 c3, .string u4] 25) = w2 at *
          have y0 := (cell_of_row w2 B 0 _ _ _ HB.out).trans rfl
          have y1 := (cell_of_row w2 B 1 _ _ _ HB.out).trans rfl
          have y2 := (cell_of_row w2 B 2 _ _ _ HB.out).trans rfl
          have y3 := (cell_of_row w2 B 3 _ _ _ HB.out).trans rfl
          have y4 := (cell_of_row w2 B 4 _ _ _ HB.out).trans rfl
          have eN : IntKind.i64.wrap ((N : Int) + 1) = (N : Int) + 1 := IntWalk.i64_in _ (by have := Hlen.out; rw [← HLk.out] at this; omega)
          obtain ⟨C, hC⟩ : ∃ C, C = Xm.dep y := ⟨_, rfl⟩
          have HCy := Lib.hid hC
          rw [← hC] at hs2
          clear hC
          go_wp2_with (go_at_call 22; refine (IHH.out y _ _ w2 Hcy.out (by omega) (Hny.out.grow G2.out)).mono ?_; rintro e w3 ⟨rfl, hg3⟩; rw [← HCy.out])
          have G3 := Lib.hid (G2.out.trans hg3)
          go_roundw
          case rel => exact ⟨a ++ [y], b', HA.out, by rw [List.length_append, List.length_singleton, ← HN.out]; rfl, by rw [hs2]; congr 1; omega, G3⟩
          case measure => simp only [intOf]; omega
end Go.Proofs.YtdpkhmfolmcejaaGreatDoor
