/- tree: Count, Depth by their contracts. -/
/- galliardref06.Text by its contract. -/
/- How long the document of a nice element is, and how often '<' stands in it. No program. -/
import Derived.Test.YtdpkhmfolmcejaaGreatDoorMTr
import Derived.Test.YtdpkhmfolmcejaaGreatDoorNice
import Derived.StillTailTactics
import Derived.BigQuiet
namespace Go.Proofs.YtdpkhmfolmcejaaGreatDoor
open Go.RowKit
namespace Xm
mutual
/-- how many elements there are, with itself -/
def cnt : Nod → Nat
  | .mk _ _ _ ks _ => 1 + cntL ks
def cntL : List Nod → Nat
  | [] => 0
  | y :: ys => cnt y + cntL ys
end
mutual
/-- how many are within one another at most -/
def dep : Nod → Nat
  | .mk _ _ _ ks _ => depL ks + 1
def depL : List Nod → Nat
  | [] => 0
  | y :: ys => max (dep y) (depL ys)
end
theorem cntL_append : ∀ (a b : List Nod), cntL (a ++ b) = cntL a + cntL b
  | [], b => by simp [cntL]
  | y :: a, b => by rw [List.cons_append, cntL, cntL, cntL_append a b]; omega
theorem depL_append : ∀ (a b : List Nod), depL (a ++ b) = max (depL a) (depL b)
  | [], b => by simp [depL]
  | y :: a, b => by rw [List.cons_append, depL, depL, depL_append a b]; omega
theorem cnt_mem : ∀ {ks : List Nod} {j : Nat} {y : Nod}, ks[j]? = some y → cnt y ≤ cntL ks
  | [], j, y, h => by simp at h
  | x :: ks, 0, y, h => by simp at h; subst h; rw [cntL]; omega
  | x :: ks, j + 1, y, h => by have := cnt_mem (ks := ks) (j := j) (y := y) (by simpa using h); rw [cntL]; omega
theorem len_cntL : ∀ (ks : List Nod), ks.length ≤ cntL ks
  | [] => Nat.le_refl _
  | x :: ks => by have := len_cntL ks; rw [cntL, List.length_cons]; cases x with | mk sp nm l k t => rw [cnt]; omega
mutual
theorem dep_cnt : ∀ (x : Nod), dep x ≤ cnt x
  | .mk _ _ _ ks _ => by have := depL_cntL ks; rw [dep, cnt]; omega
theorem depL_cntL : ∀ (ks : List Nod), depL ks ≤ cntL ks
  | [] => Nat.le_refl _
  | y :: ys => by have h1 := dep_cnt y; have h2 := depL_cntL ys; rw [depL, cntL]; omega
end
theorem NodAt.grow {F : Nat → Prop} {w w' : World} {v : Value} {x : Nod} (h : NodAt F w v x) (g : Flow.Grow w w') : NodAt (fun _ => True) w' v x := by
  induction h with
  | mk sp nm tx av kv l ks vs g0 off hA haF hk hl hc hn ih =>
    refine .mk sp nm tx av kv l ks vs g0 off (hA.grow g) (fun _ _ => trivial) ?_ hl ?_ ih
    · rcases hk with hk | ⟨cap, h1, h2, h3, h4, h5⟩
      · exact .inl hk
      · exact .inr ⟨cap, h1, h2, h3, Nat.lt_of_lt_of_le h4 g.size, trivial⟩
    · intro hne j u hu
      rcases hk with ⟨h0, _⟩ | ⟨cap, h1, h2, h3, h4, h5⟩
      · exact absurd h0 hne
      · exact (cell_grow g h4).trans (hc hne j u hu)
theorem flat_get : ∀ (vs : List V5) (j : Nat) (v : V5), vs[j]? = some v → (flat vs)[j * 5]? = some v.1 ∧ (flat vs)[j * 5 + 1]? = some v.2.1 ∧ (flat vs)[j * 5 + 2]? = some v.2.2.1 ∧ (flat vs)[j * 5 + 3]? = some v.2.2.2.1 ∧ (flat vs)[j * 5 + 4]? = some v.2.2.2.2
  | [], j, v, h => by simp at h
  | x :: vs, 0, v, h => by simp at h; subst h; exact ⟨rfl, rfl, rfl, rfl, rfl⟩
  | x :: vs, j + 1, v, h => by
    have ih := flat_get vs j v (by simpa using h)
    have e : ∀ i, (flat (x :: vs))[(j + 1) * 5 + i]? = (flat vs)[j * 5 + i]? := fun i => by
      rw [show flat (x :: vs) = V5.cells x ++ flat vs from rfl, List.getElem?_append_right (by simp [V5.cells]; omega)]
      congr 1
      simp [V5.cells]; omega
    exact ⟨(e 0).trans ih.1, (e 1).trans ih.2.1, (e 2).trans ih.2.2.1, (e 3).trans ih.2.2.2.1, (e 4).trans ih.2.2.2.2⟩
/-- what is read of one of the elements within an element -/
theorem kid_cells {F : Nat → Prop} {w w' : World} {vs : List V5} {g off j : Nat} {ks : List Nod} {y : Nod} (hl : vs.length = ks.length) (hc : ks ≠ [] → ∀ j u, (flat vs)[j]? = some u → w.cell? ⟨g, off + j, none⟩ = some u) (hn : ∀ (j : Nat) (y : Nod) (v : V5), ks[j]? = some y → vs[j]? = some v → NodAt F w (V5.agg v) y)
    (hg : g < w.heap.size) (gr : Flow.Grow w w') (hy : ks[j]? = some y) : ∃ (u0 u1 u4 : ByteArray) (a2 a3 : Option Addr) (n2 n3 c2 c3 : Nat), w'.cell? ⟨g, off + j * 5, none⟩ = some (.string u0) ∧ w'.cell? ⟨g, off + j * 5 + 1, none⟩ = some (.string u1) ∧ w'.cell? ⟨g, off + j * 5 + 2, none⟩ = some (.slice a2 n2 c2) ∧ w'.cell? ⟨g, off + j * 5 + 3, none⟩ = some (.slice a3 n3 c3) ∧ w'.cell? ⟨g, off + j * 5 + 4, none⟩ = some (.string u4) ∧
      NodAt F w (.agg #[.string u0, .string u1, .slice a2 n2 c2, .slice a3 n3 c3, .string u4]) y := by
  have hj : j < ks.length := (List.getElem?_eq_some_iff.1 hy).1
  have hne : ks ≠ [] := fun e => by rw [e] at hj; simp at hj
  obtain ⟨v, hv⟩ : ∃ v, vs[j]? = some v := ⟨vs[j]'(by omega), List.getElem?_eq_getElem (by omega)⟩
  have h1 := hn j y v hy hv
  have h2 := flat_get vs j v hv
  obtain ⟨u0, u1, u4, a2, a3, n2, n3, c2, c3, he⟩ := h1.form
  obtain ⟨v0, v1, v2, v3, v4⟩ := v
  have he : (#[v0, v1, v2, v3, v4] : Array Value) = #[.string u0, .string u1, .slice a2 n2 c2, .slice a3 n3 c3, .string u4] := by
    unfold V5.agg at he; injection he
  simp at he
  obtain ⟨rfl, rfl, rfl, rfl, rfl⟩ := he
  refine ⟨u0, u1, u4, a2, a3, n2, n3, c2, c3, (cell_grow gr hg).trans (hc hne _ _ h2.1), ?_, ?_, ?_, ?_, h1⟩
  · rw [Nat.add_assoc]; exact (cell_grow gr hg).trans (hc hne _ _ h2.2.1)
  · rw [Nat.add_assoc]; exact (cell_grow gr hg).trans (hc hne _ _ h2.2.2.1)
  · rw [Nat.add_assoc]; exact (cell_grow gr hg).trans (hc hne _ _ h2.2.2.2.1)
  · rw [Nat.add_assoc]; exact (cell_grow gr hg).trans (hc hne _ _ h2.2.2.2.2)
end Xm
set_option maxRecDepth 100000 in
set_option maxHeartbeats 1000000 in
theorem count_any : ∀ (m : Nat) (x : Xm.Nod) (F : Nat → Prop) (v : Value) (w : World), Xm.cnt x ≤ m → m ≤ 1000000000 → Xm.NodAt F w v x → Calls Tryz.prog 23 #[v] w fun e w' => e = .returned (.int .i64 (Xm.cnt x : Int)) ∧ Flow.Grow w w' := by
  intro m
  induction m with
  | zero => intro x F v w h; cases x with | mk sp nm l ks tx => rw [Xm.cnt] at h; omega
  | succ m IH =>
    intro x F v w hx hm hn
    have IHH := Lib.hid IH
    clear IH
    cases hn with
    | mk sp nm tx av kv l ks vs g off hA haF hk hl hc hn =>
      obtain ⟨ao, cap, rfl⟩ := hA.shape
      have HX : Hid (Xm.cnt (.mk sp nm l ks tx) = 1 + Xm.cntL ks) := Lib.hid (by rw [Xm.cnt])
      have hcm : 1 + Xm.cntL ks ≤ m + 1 := by rw [← HX.out]; exact hx
      have Hcm := Lib.hid hcm
      have Hlen := Lib.hid (Xm.len_cntL ks)
      obtain ⟨ka, kc, hkv⟩ : ∃ ka kc, kv = .slice ka ks.length kc := by
        rcases hk with ⟨rfl, a, c, rfl⟩ | ⟨c, rfl, _⟩
        · exact ⟨a, c, rfl⟩
        · exact ⟨_, c, rfl⟩
      subst hkv
      have HK := Lib.hid hk
      have HC := Lib.hid hc
      have HNn := Lib.hid hn
      have Hl := Lib.hid hl
      clear hx hcm hA haF hk hc hn hl
      go_enter Tryz.func23, Tryz.ntmps23
      go_wp2
      have G1 : Hid (Flow.Grow w (w.alloc (.cells #[.string sp, .string nm, .slice ao l.length cap, .slice ka ks.length kc, .string tx] 25))) := Lib.hid (Flow.grow_alloc _ _)
      generalize w.alloc (.cells #[.string sp, .string nm, .slice ao l.length cap, .slice ka ks.length kc, .string tx] 25) = w1 at *
      go_loopw [3, 9] (fun v3 v9 wr => ∃ a b : List Xm.Nod, ks = a ++ b ∧ v9 = .int .i64 a.length ∧ v3 = .int .i64 (1 + Xm.cntL a : Nat) ∧ Hid (Flow.Grow w wr)) (fun _ v9 _ => ks.length - (intOf v9).toNat)
      case atStart => exact ⟨[], ks, rfl, rfl, rfl, G1⟩
      case round =>
        obtain ⟨a, b, hab, rfl, rfl, HG⟩ := hrel
        rename World => wr
        have hlen := Hlen.out
        cases b with
        | nil =>
          rw [List.append_nil] at hab
          subst hab
          go_wp2
          go_ret
          exact ⟨by rw [HX.out]; rfl, HG.out⟩
        | cons y b' =>
          have hy : ks[a.length]? = some y := by rw [hab]; simp
          have hlt : a.length < ks.length := by rw [hab]; simp
          have hcy := Xm.cnt_mem hy
          have hcm := Hcm.out
          rcases HK.out with ⟨h0, _⟩ | ⟨c, hkv, hkc, hcml, hgl, _⟩
          · rw [h0] at hlt; simp at hlt
          simp only [Value.slice.injEq, true_and] at hkv
          obtain ⟨rfl, rfl⟩ := hkv
          obtain ⟨u0, u1, u4, a2, a3, n2, n3, c2, c3, k0, k1, k2, k3, k4, hny⟩ := Xm.kid_cells Hl.out HC.out HNn.out hgl HG.out hy
          have HA : Hid (ks = (a ++ [y]) ++ b') := Lib.hid (by rw [hab]; simp)
          have hsum : Xm.cntL (a ++ [y]) ≤ Xm.cntL ks := by rw [HA.out, Xm.cntL_append (a ++ [y])]; omega
          have hs2 : Xm.cntL (a ++ [y]) = Xm.cntL a + Xm.cnt y := by rw [Xm.cntL_append, Xm.cntL, Xm.cntL]; omega
          obtain ⟨N, hN⟩ : ∃ N, N = a.length := ⟨_, rfl⟩
          have HN := Lib.hid hN
          obtain ⟨L, hL⟩ : ∃ L, L = ks.length := ⟨_, rfl⟩
          have HLk := Lib.hid hL
          rw [← hN] at k0 k1 k2 k3 k4 hlt ⊢
          rw [← hL] at hlt hkc ⊢
          have gk := Flow.grow_alloc wr (.cells #[.string u0, .string u1, .slice a2 n2 c2, .slice a3 n3 c3, .string u4] 25)
          have G2 := Lib.hid (HG.out.trans gk)
          have Hny := Lib.hid hny
          have Hcy : Hid (Xm.cnt y ≤ m) := Lib.hid (by omega)
          clear gk hny hab hN hL HG hy
          have g1 : (N : Int) < (L : Int) := by omega
          have g3 : ¬ (L : Int) ≤ (N : Int) := by omega
          have HB : Hid (Xm.RowN (wr.alloc (.cells #[.string u0, .string u1, .slice a2 n2 c2, .slice a3 n3 c3, .string u4] 25)) wr.heap.size #[.string u0, .string u1, .slice a2 n2 c2, .slice a3 n3 c3, .string u4]) := Lib.hid (heap_alloc_new _ _)
          go_upto_region 5 with fail
          obtain ⟨B, hB⟩ : ∃ B, B = wr.heap.size := ⟨_, rfl⟩
          rw [← hB] at HB ⊢
          clear hB k0 k1 k2 k3 k4
          generalize wr.alloc (.cells #[.string u0, .string u1, .slice a2 n2 c2, .slice a3 n3 c3, .string u4] 25) = w2 at *
          have y0 := (cell_of_row w2 B 0 _ _ _ HB.out).trans rfl
          have y1 := (cell_of_row w2 B 1 _ _ _ HB.out).trans rfl
          have y2 := (cell_of_row w2 B 2 _ _ _ HB.out).trans rfl
          have y3 := (cell_of_row w2 B 3 _ _ _ HB.out).trans rfl
          have y4 := (cell_of_row w2 B 4 _ _ _ HB.out).trans rfl
          have eN : IntKind.i64.wrap ((N : Int) + 1) = (N : Int) + 1 := IntWalk.i64_in _ (by have := Hlen.out; rw [← HLk.out] at this; omega)
          have ew : IntKind.i64.wrap (((1 + Xm.cntL a : Nat) : Int) + (Xm.cnt y : Int)) = ((1 + Xm.cntL a + Xm.cnt y : Nat) : Int) := (IntWalk.i64_in _ (by omega)).trans (by omega)
          obtain ⟨C, hC⟩ : ∃ C, C = Xm.cnt y := ⟨_, rfl⟩
          have HCy := Lib.hid hC
          rw [← hC] at hs2 ew
          clear hC
          go_wp2_with (go_at_call 23; refine (IHH.out y _ _ w2 Hcy.out (by omega) (Hny.out.grow G2.out)).mono ?_; rintro e w3 ⟨rfl, hg3⟩; rw [← HCy.out])
          have G3 := Lib.hid (G2.out.trans hg3)
          go_roundw
          case rel => exact ⟨a ++ [y], b', HA.out, by rw [List.length_append, List.length_singleton, ← HN.out]; rfl, by rw [hs2]; congr 1; omega, G3⟩
          case measure => simp only [intOf]; omega
set_option maxRecDepth 100000 in
set_option maxHeartbeats 1000000 in
theorem depthN_any : ∀ (m : Nat) (x : Xm.Nod) (F : Nat → Prop) (v : Value) (w : World), Xm.cnt x ≤ m → m ≤ 1000000000 → Xm.NodAt F w v x → Calls Tryz.prog 22 #[v] w fun e w' => e = .returned (.int .i64 (Xm.dep x : Int)) ∧ Flow.Grow w w' := by
  intro m
  induction m with
  | zero => intro x F v w h; cases x with | mk sp nm l ks tx => rw [Xm.cnt] at h; omega
  | succ m IH =>
    intro x F v w hx hm hn
    have IHH := Lib.hid IH
    clear IH
    cases hn with
    | mk sp nm tx av kv l ks vs g off hA haF hk hl hc hn =>
      obtain ⟨ao, cap, rfl⟩ := hA.shape
      have HX : Hid (Xm.cnt (.mk sp nm l ks tx) = 1 + Xm.cntL ks) := Lib.hid (by rw [Xm.cnt])
      have HD : Hid (Xm.dep (.mk sp nm l ks tx) = Xm.depL ks + 1) := Lib.hid (by rw [Xm.dep])
      have HDc : Hid (Xm.depL ks ≤ Xm.cntL ks) := Lib.hid (Xm.depL_cntL ks)
      have hcm : 1 + Xm.cntL ks ≤ m + 1 := by rw [← HX.out]; exact hx
      have Hcm := Lib.hid hcm
      have Hlen := Lib.hid (Xm.len_cntL ks)
      obtain ⟨ka, kc, hkv⟩ : ∃ ka kc, kv = .slice ka ks.length kc := by
        rcases hk with ⟨rfl, a, c, rfl⟩ | ⟨c, rfl, _⟩
        · exact ⟨a, c, rfl⟩
        · exact ⟨_, c, rfl⟩
      subst hkv
      have HK := Lib.hid hk
      have HC := Lib.hid hc
      have HNn := Lib.hid hn
      have Hl := Lib.hid hl
      clear hx hcm hA haF hk hc hn hl
      go_enter Tryz.func22, Tryz.ntmps22
      go_wp2
      have G1 : Hid (Flow.Grow w (w.alloc (.cells #[.string sp, .string nm, .slice ao l.length cap, .slice ka ks.length kc, .string tx] 25))) := Lib.hid (Flow.grow_alloc _ _)
      generalize w.alloc (.cells #[.string sp, .string nm, .slice ao l.length cap, .slice ka ks.length kc, .string tx] 25) = w1 at *
      go_loopw [3, 9] (fun v3 v9 wr => ∃ a b : List Xm.Nod, ks = a ++ b ∧ v9 = .int .i64 a.length ∧ v3 = .int .i64 (Xm.depL a : Nat) ∧ Hid (Flow.Grow w wr)) (fun _ v9 _ => ks.length - (intOf v9).toNat)
      case atStart => exact ⟨[], ks, rfl, rfl, rfl, G1⟩
      case round =>
        obtain ⟨a, b, hab, rfl, rfl, HG⟩ := hrel
        rename World => wr
        have hlen := Hlen.out
        cases b with
        | nil =>
          rw [List.append_nil] at hab
          subst hab
          have ef : IntKind.i64.wrap ((Xm.depL ks : Int) + 1) = (Xm.depL ks : Int) + 1 := IntWalk.i64_in _ (by have := HDc.out; have := Hcm.out; omega)
          go_wp2
          go_ret
          exact ⟨by rw [HD.out]; rfl, HG.out⟩
        | cons y b' =>
          have hy : ks[a.length]? = some y := by rw [hab]; simp
          have hlt : a.length < ks.length := by rw [hab]; simp
          have hcy := Xm.cnt_mem hy
          have hcm := Hcm.out
          rcases HK.out with ⟨h0, _⟩ | ⟨c, hkv, hkc, hcml, hgl, _⟩
          · rw [h0] at hlt; simp at hlt
          simp only [Value.slice.injEq, true_and] at hkv
          obtain ⟨rfl, rfl⟩ := hkv
          obtain ⟨u0, u1, u4, a2, a3, n2, n3, c2, c3, k0, k1, k2, k3, k4, hny⟩ := Xm.kid_cells Hl.out HC.out HNn.out hgl HG.out hy
          have HA : Hid (ks = (a ++ [y]) ++ b') := Lib.hid (by rw [hab]; simp)
          have hsum : Xm.cntL (a ++ [y]) ≤ Xm.cntL ks := by rw [HA.out, Xm.cntL_append (a ++ [y])]; omega
          have hs2 : Xm.depL (a ++ [y]) = max (Xm.depL a) (Xm.dep y) := by rw [Xm.depL_append, Xm.depL, Xm.depL]; omega
          obtain ⟨N, hN⟩ : ∃ N, N = a.length := ⟨_, rfl⟩
          have HN := Lib.hid hN
          obtain ⟨L, hL⟩ : ∃ L, L = ks.length := ⟨_, rfl⟩
          have HLk := Lib.hid hL
          rw [← hN] at k0 k1 k2 k3 k4 hlt ⊢
          rw [← hL] at hlt hkc ⊢
          have gk := Flow.grow_alloc wr (.cells #[.string u0, .string u1, .slice a2 n2 c2, .slice a3 n3 c3, .string u4] 25)
          have G2 := Lib.hid (HG.out.trans gk)
          have Hny := Lib.hid hny
          have Hcy : Hid (Xm.cnt y ≤ m) := Lib.hid (by omega)
          clear gk hny hab hN hL HG hy
          have g1 : (N : Int) < (L : Int) := by omega
          have g3 : ¬ (L : Int) ≤ (N : Int) := by omega
          have HB : Hid (Xm.RowN (wr.alloc (.cells #[.string u0, .string u1, .slice a2 n2 c2, .slice a3 n3 c3, .string u4] 25)) wr.heap.size #[.string u0, .string u1, .slice a2 n2 c2, .slice a3 n3 c3, .string u4]) := Lib.hid (heap_alloc_new _ _)
          go_upto_region 5 with fail
          obtain ⟨B, hB⟩ : ∃ B, B = wr.heap.size := ⟨_, rfl⟩
          rw [← hB] at HB ⊢
          clear hB k0 k1 k2 k3 k4
          generalize wr.alloc (.cells #[.string u0, .string u1, .slice a2 n2 c2, .slice a3 n3 c3, .string u4] 25) = w2 at *
          have y0 := (cell_of_row w2 B 0 _ _ _ HB.out).trans rfl
          have y1 := (cell_of_row w2 B 1 _ _ _ HB.out).trans rfl
          have y2 := (cell_of_row w2 B 2 _ _ _ HB.out).trans rfl
          have y3 := (cell_of_row w2 B 3 _ _ _ HB.out).trans rfl
          have y4 := (cell_of_row w2 B 4 _ _ _ HB.out).trans rfl
          have eN : IntKind.i64.wrap ((N : Int) + 1) = (N : Int) + 1 := IntWalk.i64_in _ (by have := Hlen.out; rw [← HLk.out] at this; omega)
          obtain ⟨C, hC⟩ : ∃ C, C = Xm.dep y := ⟨_, rfl⟩
          have HCy := Lib.hid hC
          rw [← hC] at hs2
          clear hC
          go_wp2_with (go_at_call 22; refine (IHH.out y _ _ w2 Hcy.out (by omega) (Hny.out.grow G2.out)).mono ?_; rintro e w3 ⟨rfl, hg3⟩; rw [← HCy.out])
          have G3 := Lib.hid (G2.out.trans hg3)
          go_roundw
          case rel => exact ⟨a ++ [y], b', HA.out, by rw [List.length_append, List.length_singleton, ← HN.out]; rfl, by rw [hs2]; congr 1; omega, G3⟩
          case measure => simp only [intOf]; omega
end Go.Proofs.YtdpkhmfolmcejaaGreatDoor
namespace Go.Proofs.YtdpkhmfolmcejaaGreatDoor
open Go.RowKit
namespace Xm
def bl (s : ByteArray) : List UInt8 := s.data.toList
theorem str_bl (s : ByteArray) : str (bl s) = s := rfl
theorem bl_str (l : List UInt8) : bl (str l) = l := rfl
theorem bl_len (s : ByteArray) : (bl s).length = s.size := by simp [bl]
/-- attributes as a document has them -/
def atD (l : List (ByteArray × ByteArray)) : List UInt8 := l.flatMap fun a => 32 :: (bl a.1 ++ ([61, 34] ++ (clL (bl a.2) ++ [34])))
theorem atD_ge : ∀ l, l.length ≤ (atD l).length
  | [] => Nat.zero_le _
  | a :: l => by
    have := atD_ge l
    unfold atD at *
    rw [List.flatMap_cons, List.length_append, List.length_cons, List.length_cons]
    omega
theorem atD_snoc (l : List (ByteArray × ByteArray)) (a : ByteArray × ByteArray) : atD (l ++ [a]) = atD l ++ (32 :: (bl a.1 ++ ([61, 34] ++ (clL (bl a.2) ++ [34])))) := by simp [atD]
/-- the space, where it is another one -/
def spD (sp space : ByteArray) : List UInt8 := if sp = space then [] else [32, 120, 109, 108, 110, 115, 61, 34] ++ (clL (bl sp) ++ [34])
theorem clB_ge (c : UInt8) : 1 ≤ (clB c).length := by
  unfold clB
  repeat' split
  all_goals simp
theorem clL_ge : ∀ l, l.length ≤ (clL l).length
  | [] => Nat.zero_le _
  | c :: l => by
    have := clB_ge c
    have := clL_ge l
    unfold clL at *
    rw [List.flatMap_cons, List.length_append, List.length_cons]
    omega
mutual
/-- an element's document -/
def docN : Nod → ByteArray → List UInt8 → List UInt8
  | .mk sp nm l ks tx, space, pad =>
    pad ++ (60 :: (bl nm ++ (spD sp space ++ (atD l ++
      (match ks with
        | [] => if tx.size = 0 then [47, 62, 10] else 62 :: (clL (bl tx) ++ ([60, 47] ++ (bl nm ++ [62, 10])))
        | k :: ks => [62, 10] ++ (docN k sp (pad ++ [32]) ++ (docL ks sp (pad ++ [32]) ++ (pad ++ ([60, 47] ++ (bl nm ++ [62, 10]))))))))))
def docL : List Nod → ByteArray → List UInt8 → List UInt8
  | [], _, _ => []
  | k :: ks, sp, pad => docN k sp pad ++ docL ks sp pad
end
theorem docL_append : ∀ (a b : List Nod) (sp : ByteArray) (pad : List UInt8), docL (a ++ b) sp pad = docL a sp pad ++ docL b sp pad
  | [], b, sp, pad => rfl
  | k :: a, b, sp, pad => by rw [List.cons_append, docL, docL, docL_append a b, List.append_assoc]
/-- what stands ahead of the elements within, or of the end -/
def headD (sp nm : ByteArray) (l : List (ByteArray × ByteArray)) (space : ByteArray) (pad : List UInt8) : List UInt8 := pad ++ (60 :: (bl nm ++ (spD sp space ++ atD l)))
theorem docN_nil (sp nm : ByteArray) (l : List (ByteArray × ByteArray)) (tx space : ByteArray) (pad : List UInt8) : docN (.mk sp nm l [] tx) space pad = headD sp nm l space pad ++ (if tx.size = 0 then [47, 62, 10] else 62 :: (clL (bl tx) ++ ([60, 47] ++ (bl nm ++ [62, 10])))) := by
  rw [docN]; simp [headD]
theorem docN_kids (sp nm : ByteArray) (l : List (ByteArray × ByteArray)) (ks : List Nod) (tx space : ByteArray) (pad : List UInt8) (h : ks ≠ []) : docN (.mk sp nm l ks tx) space pad = headD sp nm l space pad ++ ([62, 10] ++ (docL ks sp (pad ++ [32]) ++ (pad ++ ([60, 47] ++ (bl nm ++ [62, 10]))))) := by
  cases ks with
  | nil => exact absurd rfl h
  | cons k ks => rw [docN, docL]; simp [headD]
theorem docN_ge (x : Nod) (space : ByteArray) (pad : List UInt8) : 1 ≤ (docN x space pad).length := by
  obtain ⟨sp, nm, l, ks, tx⟩ := x
  by_cases h : ks = []
  · subst h
    rw [docN_nil]; simp [headD]; omega
  · rw [docN_kids _ _ _ _ _ _ _ h]; simp [headD]; omega
theorem docL_ge : ∀ (ks : List Nod) (sp : ByteArray) (pad : List UInt8), ks.length ≤ (docL ks sp pad).length
  | [], sp, pad => Nat.zero_le _
  | k :: ks, sp, pad => by
    have := docN_ge k sp pad
    have := docL_ge ks sp pad
    rw [docL, List.length_append, List.length_cons]
    omega
end Xm
theorem close_q (s r : ByteArray) (hr : Xm.clS s = r) (hs : s.size ≤ 1000000000) (w : World) : Calls Tryz.prog 25 #[.string s] w fun e w' => e = .returned (.string r) ∧ w' = w :=
  (close_any s w hs).mono fun _ _ ⟨h1, h2⟩ => ⟨by rw [h1, hr], h2.symm⟩
set_option maxRecDepth 100000 in
set_option maxHeartbeats 8000000 in
theorem text6_any : ∀ (m : Nat) (x : Xm.Nod) (F : Nat → Prop) (v : Value) (space : ByteArray) (pad : List UInt8) (w : World), Xm.cnt x ≤ m → Xm.NodAt F w v x → (Xm.docN x space pad).length ≤ 1000000 →
    Calls Tryz.prog 10 #[v, .string space, .string (str pad)] w fun e w' => e = .returned (.string (str (Xm.docN x space pad))) ∧ Flow.Grow w w' := by
  intro m
  induction m with
  | zero => intro x F v space pad w h; cases x with | mk sp nm l ks tx => rw [Xm.cnt] at h; omega
  | succ m IH =>
    intro x F v space pad w hx hn hdoc
    have IHH := Lib.hid IH
    clear IH
    cases hn with
    | mk sp nm tx av kv l ks vs g off hA haF hk hl hc hn =>
      obtain ⟨ao, cap, rfl⟩ := hA.shape
      have HX : Hid (Xm.cntL ks ≤ m) := Lib.hid (by rw [Xm.cnt] at hx; omega)
      obtain ⟨ka, kc, hkv⟩ : ∃ ka kc, kv = .slice ka ks.length kc := by
        rcases hk with ⟨rfl, a, c, rfl⟩ | ⟨c, rfl, _⟩
        · exact ⟨a, c, rfl⟩
        · exact ⟨_, c, rfl⟩
      subst hkv
      have HA := Lib.hid hA
      have HK := Lib.hid hk
      have HC := Lib.hid hc
      have HNn := Lib.hid hn
      have Hl := Lib.hid hl
      have Hdoc := Lib.hid hdoc
      have hhead : (Xm.headD sp nm l space pad).length ≤ 1000000 := by
        by_cases hks : ks = []
        · subst hks
          rw [Xm.docN_nil, List.length_append] at hdoc
          omega
        · rw [Xm.docN_kids _ _ _ _ _ _ _ hks, List.length_append] at hdoc
          omega
      have hsz : pad.length + 1 + nm.size + (Xm.spD sp space).length + (Xm.atD l).length ≤ 1000000 := by
        unfold Xm.headD at hhead
        simp only [List.length_append, List.length_cons, Xm.bl_len] at hhead
        omega
      obtain ⟨PAD, hPAD⟩ : ∃ PAD, PAD = str pad := ⟨_, rfl⟩
      have hPz : PAD.size = pad.length := by rw [hPAD, str_size]
      rw [← hPAD]
      have HPAD := Lib.hid hPAD
      clear hx hA haF hk hc hn hl hdoc hhead hPAD
      go_enter Tryz.func10, Tryz.ntmps10
      go_upto_region 1 with fail
      have HR1 : Hid (Xm.RowN (w.alloc (.cells #[.string sp, .string nm, .slice ao l.length cap, .slice ka ks.length kc, .string tx] 25)) w.heap.size #[.string sp, .string nm, .slice ao l.length cap, .slice ka ks.length kc, .string tx]) := Lib.hid (heap_alloc_new _ _)
      have G1 : Hid (Flow.Grow w (w.alloc (.cells #[.string sp, .string nm, .slice ao l.length cap, .slice ka ks.length kc, .string tx] 25))) := Lib.hid (Flow.grow_alloc _ _)
      obtain ⟨X, hX⟩ : ∃ X, X = w.heap.size := ⟨_, rfl⟩
      rw [← hX] at HR1 ⊢
      clear hX
      generalize w.alloc (.cells #[.string sp, .string nm, .slice ao l.length cap, .slice ka ks.length kc, .string tx] 25) = w1 at *
      have x0 := (cell_of_row w1 X 0 _ _ _ HR1.out).trans rfl
      have x1 := (cell_of_row w1 X 1 _ _ _ HR1.out).trans rfl
      have l1 : ¬ 9223372036854775807 < PAD.size + 1 := by omega
      have l2 : ¬ 9223372036854775807 < PAD.size + 1 + nm.size := by omega
      go_upto_if 18 with fail
      go_cut [7] (fun v7 wx => v7 = .string (str (pad ++ (60 :: (Xm.bl nm ++ Xm.spD sp space)))) ∧ wx = w1)
      case first =>
        by_cases hss : sp = space
        · have hb3 : (!(sp.toList == space.toList)) = false := by rw [hss]; simp
          have hq : Xm.spD sp space = [] := by simp [Xm.spD, hss]
          rw [hb3]
          clear hb3
          go_wp2_with fail
          go_meet
          case rel => exact ⟨by rw [hq, HPAD.out, ← Xm.str_bl nm, show (⟨#[60]⟩ : ByteArray) = str [60] from rfl]; simp only [str_append]; simp [Xm.bl_str], rfl⟩
        · have hb1 := Xm.ne_f hss
          have hb3 : (!(sp.toList == space.toList)) = true := by simp [hb1]
          rw [hb3]
          clear hb3 hb1
          have hq : Xm.spD sp space = [32, 120, 109, 108, 110, 115, 61, 34] ++ (Xm.clL (Xm.bl sp) ++ [34]) := by simp [Xm.spD, hss]
          have hcz : (Xm.clL (Xm.bl sp)).length + 9 ≤ 1000000 := by rw [hq] at hsz; simp only [List.length_append, List.length_cons, List.length_nil] at hsz; omega
          have hspz : sp.size ≤ 1000000000 := by
            have h := Xm.clL_ge (Xm.bl sp)
            rw [Xm.bl_len] at h
            omega
          obtain ⟨CL, hCL⟩ : ∃ CL, CL = Xm.clS sp := ⟨_, rfl⟩
          have hCLz : CL.size + 9 ≤ 1000000 := by rw [hCL]; show (str (Xm.clL (Xm.bl sp))).size + 9 ≤ _; rw [str_size]; exact hcz
          have HCL := Lib.hid hCL
          clear hCL
          have q1 : ¬ 9223372036854775807 < 8 + CL.size := by omega
          have q2 : ¬ 9223372036854775807 < 8 + CL.size + 1 := by omega
          have q3 : ¬ 9223372036854775807 < PAD.size + 1 + nm.size + (8 + CL.size + 1) := by omega
          go_wp2_with (go_at_call 25; refine (close_q sp CL HCL.out.symm hspz w1).mono ?_; rintro e wa ⟨rfl, rfl⟩)
          go_meet
          case rel =>
            refine ⟨?_, rfl⟩
            rw [hq, HPAD.out, HCL.out, show Xm.clS sp = str (Xm.clL (Xm.bl sp)) from rfl, ← Xm.str_bl nm, show (⟨#[60]⟩ : ByteArray) = str [60] from rfl, show (⟨#[34]⟩ : ByteArray) = str [34] from rfl, show (⟨#[32, 120, 109, 108, 110, 115, 61, 34]⟩ : ByteArray) = str [32, 120, 109, 108, 110, 115, 61, 34] from rfl]
            simp only [str_append]
            simp [Xm.bl_str]
      case rest =>
        obtain ⟨rfl, hwx⟩ := hcut
        have hwx := hwx.symm
        subst hwx
        clear x0 x1 l1 l2
        have HW1 := Lib.hid HR1.out
        go_wp2_with fail
        go_loopw [7, 8] (fun v7 v8 wr => ∃ (i : Nat) (a b : List (ByteArray × ByteArray)), l = a ++ b ∧ a.length = i ∧ v8 = .int .i64 (i : Int) ∧ v7 = .string (str (Xm.headD sp nm a space pad)) ∧ Hid (Flow.Grow w wr) ∧ Hid (Xm.RowN wr X #[.string sp, .string nm, .slice ao l.length cap, .slice ka ks.length kc, .string tx])) (fun _ v8 _ => l.length - (intOf v8).toNat)
        case atStart => exact ⟨0, [], l, rfl, rfl, rfl, by simp [Xm.headD, Xm.atD], G1, HR1⟩
        case round =>
          obtain ⟨i, a, b, hab, hai, rfl, rfl, HGr, HRr⟩ := hrel
          rename World => wr
          clear HW1
          have x2 := (cell_of_row wr X 2 _ _ _ HRr.out).trans rfl
          cases b with
          | cons y b' =>
            obtain ⟨an, av⟩ := y
            have hlt : i < l.length := by rw [hab]; simp; omega
            have hy : l[i]? = some (an, av) := by rw [hab, ← hai]; simp
            have hsum : (Xm.headD sp nm a space pad).length + 1 + an.size + 2 + (Xm.clL (Xm.bl av)).length + 1 ≤ 1000000 := by
              have e : Xm.atD l = Xm.atD a ++ ((32 :: (Xm.bl an ++ ([61, 34] ++ (Xm.clL (Xm.bl av) ++ [34])))) ++ Xm.atD b') := by rw [hab]; simp [Xm.atD]
              have h := hsz
              rw [e] at h
              unfold Xm.headD
              simp only [List.length_append, List.length_cons, List.length_nil, Xm.bl_len] at h ⊢
              omega
            have hi1 : i ≤ 1000000 := by
              have h := Xm.atD_ge a
              unfold Xm.headD at hsum
              simp only [List.length_append, List.length_cons] at hsum
              omega
            have havz : av.size ≤ 1000000 := by
              have h := Xm.clL_ge (Xm.bl av)
              rw [Xm.bl_len] at h
              omega
            rcases HA.out with ⟨_, h0⟩ | ⟨ga, offa, capa, hva, q1, q2, hga, hcell⟩
            · exfalso
              rw [h0] at hlt; simp at hlt
            simp only [Value.slice.injEq, true_and] at hva
            obtain ⟨rfl, rfl⟩ := hva
            have hgc := Xm.attrCells_get l i (an, av) hy
            have k0 := (Xm.cell_grow HGr.out hga).trans (hcell _ _ hgc.1)
            have k1 := (Xm.cell_grow HGr.out hga).trans (hcell _ _ hgc.2)
            simp only at k0 k1
            rw [← Nat.add_assoc] at k1
            have HAB : Hid (l = (a ++ [(an, av)]) ++ b') := Lib.hid (by rw [hab]; simp)
            obtain ⟨L, hL⟩ : ∃ L, L = l.length := ⟨_, rfl⟩
            have HL := Lib.hid hL
            rw [← hL] at hlt x2 ⊢
            obtain ⟨S, hS⟩ : ∃ S, S = str (Xm.headD sp nm a space pad) := ⟨_, rfl⟩
            have hSz : S.size = (Xm.headD sp nm a space pad).length := by rw [hS, str_size]
            rw [← hS]
            have HS := Lib.hid hS
            obtain ⟨CL, hCL⟩ : ∃ CL, CL = Xm.clS av := ⟨_, rfl⟩
            have hCLz : CL.size = (Xm.clL (Xm.bl av)).length := by rw [hCL]; show (str (Xm.clL (Xm.bl av))).size = _; rw [str_size]
            have HCL := Lib.hid hCL
            clear hab hL hS hCL hgc hcell q1 hga
            have g1 : (i : Int) < (L : Int) := by omega
            have g3 : ¬ (L : Int) ≤ (i : Int) := by omega
            have c1 : ¬ 9223372036854775807 < 1 + an.size := by omega
            have c2 : ¬ 9223372036854775807 < 1 + an.size + 2 := by omega
            have c3 : ¬ 9223372036854775807 < 1 + an.size + 2 + CL.size := by omega
            have c4 : ¬ 9223372036854775807 < 1 + an.size + 2 + CL.size + 1 := by omega
            have c5 : ¬ 9223372036854775807 < S.size + (1 + an.size + 2 + CL.size + 1) := by omega
            have Havz : Hid (av.size ≤ 1000000000) := Lib.hid (by omega)
            have Hlt := Lib.hid hlt
            clear hsum hsz
            go_upto_region 7 with fail
            go_quiet ((go_at_call 25; exact Calls.quiet_of_same (close_q av CL HCL.out.symm Havz.out _)))
            go_wp2_with fail
            have hC : Flow.Grow wr (wr.drewN nq) := Flow.grow_drewN _ _
            generalize wr.drewN nq = w9 at *
            have eL := HL.out
            subst eL
            have eS := HS.out
            have eCL := HCL.out
            subst eS eCL
            go_roundw
            case rel =>
              refine ⟨i + 1, a ++ [(an, av)], b', HAB.out, by simp [hai], by first | rfl | go_num, ?_, Lib.hid (HGr.out.trans hC), Lib.hid (HRr.out.grow hC)⟩
              have e : Xm.headD sp nm (a ++ [(an, av)]) space pad = Xm.headD sp nm a space pad ++ (32 :: (Xm.bl an ++ ([61, 34] ++ (Xm.clL (Xm.bl av) ++ [34])))) := by
                unfold Xm.headD
                rw [Xm.atD_snoc]
                simp
              rw [e, show Xm.clS av = str (Xm.clL (Xm.bl av)) from rfl, ← Xm.str_bl an, show (⟨#[32]⟩ : ByteArray) = str [32] from rfl, show (⟨#[34]⟩ : ByteArray) = str [34] from rfl, show (⟨#[61, 34]⟩ : ByteArray) = str [61, 34] from rfl]
              simp only [str_append]
              simp [Xm.bl_str]
            case measure => have := Hlt.out; simp only [intOf]; omega
          | nil =>
            rw [List.append_nil] at hab
            subst hab
            have g1 : ¬ (i : Int) < (l.length : Int) := by omega
            have x1 := (cell_of_row wr X 1 _ _ _ HRr.out).trans rfl
            have x3 := (cell_of_row wr X 3 _ _ _ HRr.out).trans rfl
            have x4 := (cell_of_row wr X 4 _ _ _ HRr.out).trans rfl
            have hSz : (str (Xm.headD sp nm l space pad)).size ≤ 1000000 := by
              rw [str_size]
              unfold Xm.headD
              simp only [List.length_append, List.length_cons, Xm.bl_len]
              omega
            obtain ⟨S, hS⟩ : ∃ S, S = str (Xm.headD sp nm l space pad) := ⟨_, rfl⟩
            rw [← hS] at hSz ⊢
            have HS := Lib.hid hS
            clear hS
            by_cases hks : ks = []
            · have hkz : ¬ (0 : Int) < (ks.length : Int) := by rw [hks]; simp
              by_cases htz : tx.size = 0
              · have hte : tx = ⟨#[]⟩ := by
                  have h := Xm.bl_len tx
                  rw [htz] at h
                  have h2 := List.eq_nil_of_length_eq_zero h
                  rw [← Xm.str_bl tx, h2]; rfl
                have hd : Xm.docN (.mk sp nm l [] tx) space pad = Xm.headD sp nm l space pad ++ [47, 62, 10] := by rw [Xm.docN_nil, if_pos htz]
                have HDo := Lib.hid hd
                have t1 := Xm.emp_t htz
                have l1 : ¬ 9223372036854775807 < S.size + 3 := by omega
                clear hd hte
                go_wp2_with fail
                go_ret
                exact ⟨by rw [HDo.out, HS.out, show (⟨#[47, 62, 10]⟩ : ByteArray) = str [47, 62, 10] from rfl, str_append]; rfl, HGr.out⟩
              · have t1 := Xm.emp_n htz
                have t2 := Xm.emp_f htz
                have hd : Xm.docN (.mk sp nm l [] tx) space pad = Xm.headD sp nm l space pad ++ (62 :: (Xm.clL (Xm.bl tx) ++ ([60, 47] ++ (Xm.bl nm ++ [62, 10])))) := by rw [Xm.docN_nil, if_neg htz]
                have HDo := Lib.hid hd
                have hdz := Hdoc.out
                rw [hks, hd] at hdz
                simp only [List.length_append, List.length_cons, List.length_nil, Xm.bl_len] at hdz
                have hS2 : S.size = (Xm.headD sp nm l space pad).length := by rw [HS.out, str_size]
                obtain ⟨CL, hCL⟩ : ∃ CL, CL = Xm.clS tx := ⟨_, rfl⟩
                have hCLz : CL.size = (Xm.clL (Xm.bl tx)).length := by rw [hCL]; show (str (Xm.clL (Xm.bl tx))).size = _; rw [str_size]
                have HCL := Lib.hid hCL
                have Htz : Hid (tx.size ≤ 1000000000) := Lib.hid (by have h := Xm.clL_ge (Xm.bl tx); rw [Xm.bl_len] at h; omega)
                have c1 : ¬ 9223372036854775807 < S.size + 1 := by omega
                have c2 : ¬ 9223372036854775807 < S.size + 1 + CL.size := by omega
                have c3 : ¬ 9223372036854775807 < S.size + 1 + CL.size + 2 := by omega
                have c4 : ¬ 9223372036854775807 < S.size + 1 + CL.size + 2 + nm.size := by omega
                have c5 : ¬ 9223372036854775807 < S.size + 1 + CL.size + 2 + nm.size + 2 := by omega
                clear hd hCL hdz hS2 hCLz
                go_upto_region 16 with fail
                go_quiet ((go_at_call 25; exact Calls.quiet_of_same (close_q tx CL HCL.out.symm Htz.out _)))
                go_wp2_with fail
                go_ret
                refine ⟨?_, HGr.out.trans (Flow.grow_drewN _ _)⟩
                rw [HDo.out, HS.out, HCL.out, show Xm.clS tx = str (Xm.clL (Xm.bl tx)) from rfl, ← Xm.str_bl nm, show (⟨#[62]⟩ : ByteArray) = str [62] from rfl, show (⟨#[60, 47]⟩ : ByteArray) = str [60, 47] from rfl, show (⟨#[62, 10]⟩ : ByteArray) = str [62, 10] from rfl]
                simp only [str_append]
                simp [Xm.bl_str]
            · have hkz : (0 : Int) < (ks.length : Int) := by have := List.length_pos_iff.2 hks; omega
              have hd := Xm.docN_kids sp nm l ks tx space pad hks
              have HDo := Lib.hid hd
              have hdz := Hdoc.out
              rw [hd] at hdz
              simp only [List.length_append, List.length_cons, List.length_nil, Xm.bl_len] at hdz
              have hS2 : S.size = (Xm.headD sp nm l space pad).length := by rw [HS.out, str_size]
              have c1 : ¬ 9223372036854775807 < S.size + 2 := by omega
              clear hd x1 x4 hsz
              go_upto_region 10 with fail
              have hW : S ++ (⟨#[62, 10]⟩ : ByteArray) = str (Xm.headD sp nm l space pad ++ [62, 10]) := by rw [HS.out, show (⟨#[62, 10]⟩ : ByteArray) = str [62, 10] from rfl, str_append]
              rw [hW]
              clear hW c1
              go_wp2_with fail
              go_loopw [7, 9] (fun v7 v9 wz => ∃ (j : Nat) (a b : List Xm.Nod), ks = a ++ b ∧ a.length = j ∧ v9 = .int .i64 (j : Int) ∧ v7 = .string (str (Xm.headD sp nm l space pad ++ [62, 10] ++ Xm.docL a sp (pad ++ [32]))) ∧ Hid (Flow.Grow w wz) ∧ Hid (Xm.RowN wz X #[.string sp, .string nm, .slice ao l.length cap, .slice ka ks.length kc, .string tx])) (fun _ v9 _ => ks.length - (intOf v9).toNat)
              case atStart => exact ⟨0, [], ks, rfl, rfl, rfl, by simp [Xm.docL], HGr, HRr⟩
              case round =>
                obtain ⟨j, a, b, hab, haj, rfl, rfl, HG2, HR2⟩ := hrel
                rename World => wz
                have z3 := (cell_of_row wz X 3 _ _ _ HR2.out).trans rfl
                cases b with
                | cons y b' =>
                  have hy : ks[a.length]? = some y := by rw [hab]; simp
                  have hlt : j < ks.length := by rw [hab]; simp; omega
                  have hcy := Xm.cnt_mem hy
                  have hdl : (Xm.docL ks sp (pad ++ [32])).length = (Xm.docL a sp (pad ++ [32])).length + (Xm.docN y sp (pad ++ [32])).length + (Xm.docL b' sp (pad ++ [32])).length := by
                    rw [hab, Xm.docL_append, Xm.docL]
                    simp only [List.length_append]
                    omega
                  have hj1 : j ≤ 1000000 := by
                    have h := Xm.docL_ge a sp (pad ++ [32])
                    omega
                  rcases HK.out with ⟨h0, _⟩ | ⟨c, hkv, hkc, hcml, hgl, _⟩
                  · rw [h0] at hlt; simp at hlt
                  simp only [Value.slice.injEq, true_and] at hkv
                  obtain ⟨rfl, rfl⟩ := hkv
                  obtain ⟨u0, u1, u4, a2, a3, n2, n3, d2, d3, k0, k1, k2, k3, k4, hny⟩ := Xm.kid_cells Hl.out HC.out HNn.out hgl HG2.out hy
                  rw [haj] at k0 k1 k2 k3 k4
                  have hN := fun wq (hq : Flow.Grow wz wq) => IHH.out y _ _ sp (pad ++ [32]) wq (by have := HX.out; omega) (hny.grow (HG2.out.trans hq)) (by omega)
                  obtain ⟨DN, hDN⟩ : ∃ DN, DN = str (Xm.docN y sp (pad ++ [32])) := ⟨_, rfl⟩
                  rw [← hDN] at hN
                  obtain ⟨P2, hP2⟩ : ∃ P2, P2 = str (pad ++ [32]) := ⟨_, rfl⟩
                  have hPe : PAD ++ (⟨#[32]⟩ : ByteArray) = P2 := by rw [hP2, HPAD.out, show (⟨#[32]⟩ : ByteArray) = str [32] from rfl, str_append]
                  rw [← hP2] at hN
                  have hDNz : DN.size = (Xm.docN y sp (pad ++ [32])).length := by rw [hDN, str_size]
                  have HDN := Lib.hid hDN
                  have HN2 := Lib.hid hN
                  have HAB : Hid (ks = (a ++ [y]) ++ b') := Lib.hid (by rw [hab]; simp)
                  obtain ⟨S2, hS2'⟩ : ∃ S2, S2 = str (Xm.headD sp nm l space pad ++ [62, 10] ++ Xm.docL a sp (pad ++ [32])) := ⟨_, rfl⟩
                  have hS2z : S2.size + DN.size ≤ 1000000 := by
                    rw [hS2', str_size, hDNz]
                    simp only [List.length_append, List.length_cons, List.length_nil]
                    omega
                  rw [← hS2']
                  have HS2 := Lib.hid hS2'
                  obtain ⟨L, hL⟩ : ∃ L, L = ks.length := ⟨_, rfl⟩
                  have HL := Lib.hid hL
                  rw [← hL] at hlt z3 ⊢
                  have Hlt := Lib.hid hlt
                  have hpz : ¬ 9223372036854775807 < PAD.size + 1 := by omega
                  have z0 := (cell_of_row wz X 0 _ _ _ HR2.out).trans rfl
                  have s1 : ¬ 9223372036854775807 < S2.size + DN.size := by omega
                  have g1 : (j : Int) < (L : Int) := by omega
                  have g3 : ¬ (L : Int) ≤ (j : Int) := by omega
                  clear hN hDN hP2 hS2' hL hab hy hcy hdl hny hdz hkc hcml hS2z hDNz hPz
                  go_upto_region 13 with fail
                  go_region_with (go_simp; go_at_call 10; refine (HN2.out _ (Flow.grow_drew _)).mono ?_; rintro e w9 ⟨rfl, hg9⟩)
                  all_goals
                    go_wp2_with fail
                    have eL := HL.out
                    subst eL
                    have eS2 := HS2.out
                    have eDN := HDN.out
                    have G9 := Lib.hid ((Flow.grow_drew wz).trans hg9)
                    subst eS2 eDN
                    go_roundw
                    case rel =>
                      refine ⟨j + 1, a ++ [y], b', HAB.out, by simp [haj], by first | rfl | go_num, ?_, Lib.hid (HG2.out.trans G9.out), Lib.hid (HR2.out.grow G9.out)⟩
                      rw [str_append, Xm.docL_append]
                      simp [Xm.docL]
                    case measure => have := Hlt.out; simp only [intOf]; omega
                | nil =>
                  rw [List.append_nil] at hab
                  subst hab
                  have g1 : ¬ (j : Int) < (ks.length : Int) := by omega
                  have z1 := (cell_of_row wz X 1 _ _ _ HR2.out).trans rfl
                  obtain ⟨S2, hS2'⟩ : ∃ S2, S2 = str (Xm.headD sp nm l space pad ++ [62, 10] ++ Xm.docL ks sp (pad ++ [32])) := ⟨_, rfl⟩
                  have hS2z : S2.size + pad.length + nm.size + 4 ≤ 1000000 := by
                    rw [hS2', str_size]
                    simp only [List.length_append, List.length_cons, List.length_nil]
                    omega
                  rw [← hS2']
                  have HS2 := Lib.hid hS2'
                  clear hS2'
                  have c1 : ¬ 9223372036854775807 < S2.size + PAD.size := by omega
                  have c2 : ¬ 9223372036854775807 < S2.size + PAD.size + 2 := by omega
                  have c3 : ¬ 9223372036854775807 < S2.size + PAD.size + 2 + nm.size := by omega
                  have c4 : ¬ 9223372036854775807 < S2.size + PAD.size + 2 + nm.size + 2 := by omega
                  go_wp2_with fail
                  go_ret
                  refine ⟨?_, HG2.out⟩
                  rw [HDo.out, HS2.out, HPAD.out, ← Xm.str_bl nm, show (⟨#[60, 47]⟩ : ByteArray) = str [60, 47] from rfl, show (⟨#[62, 10]⟩ : ByteArray) = str [62, 10] from rfl]
                  simp only [str_append]
                  simp [Xm.bl_str]
end Go.Proofs.YtdpkhmfolmcejaaGreatDoor
namespace Go.Proofs.YtdpkhmfolmcejaaGreatDoor
namespace Xm
theorem c60_no {l : List UInt8} (h : (60 : UInt8) ∉ l) : l.count 60 = 0 := List.count_eq_zero.2 h
theorem nl_60 {n : List UInt8} (h : Nl n) : n.count 60 = 0 := c60_no fun hc => (h.part 60 hc).2.2.2.1 rfl
theorem cl_60 (l : List UInt8) : (clL l).count 60 = 0 := c60_no (clL_no (.inl rfl) l)
theorem atB_bd (n v : List UInt8) (hn : n.count 60 = 0) (hl : n.length ≤ 8) (hv : v.length ≤ 9) :
    (32 :: (n ++ ([61, 34] ++ (clL v ++ [34])))).length ≤ 66 ∧ (32 :: (n ++ ([61, 34] ++ (clL v ++ [34])))).count 60 = 0 := by
  have h1 := clL_len v
  have h2 := cl_60 v
  refine ⟨by simp; omega, ?_⟩
  rw [List.count_cons, List.count_append, List.count_append, List.count_append, hn, h2]
  rfl
theorem atD_bd : ∀ (al : List (List UInt8 × List UInt8)) (_ : ∀ a ∈ al, a.1.count 60 = 0 ∧ a.1.length ≤ 8 ∧ a.2.length ≤ 9), (atD (bsA al)).length ≤ 66 * al.length ∧ (atD (bsA al)).count 60 = 0
  | [], _ => ⟨Nat.zero_le _, rfl⟩
  | a :: al, h => by
    have ih := atD_bd al fun b hb => h b (List.mem_cons_of_mem _ hb)
    have ha := h a List.mem_cons_self
    have hb := atB_bd a.1 a.2 ha.1 ha.2.1 ha.2.2
    have e : atD (bsA (a :: al)) = (32 :: (a.1 ++ ([61, 34] ++ (clL a.2 ++ [34])))) ++ atD (bsA al) := rfl
    have e2 : (a :: al).length = al.length + 1 := rfl
    rw [e, List.length_append, List.count_append, hb.2, ih.2, e2]
    exact ⟨by omega, rfl⟩
theorem niceA_bd {al : List (List UInt8 × List UInt8)} (h : NiceA al) : ∀ a ∈ al, a.1.count 60 = 0 ∧ a.1.length ≤ 8 ∧ a.2.length ≤ 9 := by
  intro a ha
  obtain ⟨j, hj⟩ := List.mem_iff_getElem?.1 ha
  obtain ⟨n, h1, h2, h3, _, h5⟩ := h.2 j a hj
  have hj3 : j < 3 := by
    have := (List.getElem?_eq_some_iff.1 hj).1
    have := h.1
    omega
  have hm := h2.more h3 j hj3
  rw [← h1] at hm
  exact ⟨nl_60 hm, by rw [h1]; simp; omega, h5⟩
theorem spD_bd {v : List UInt8} (hv : v ∈ spaces) (space : ByteArray) : (spD (str v) space).length ≤ 27 ∧ (spD (str v) space).count 60 = 0 := by
  have hl : v.length ≤ 3 := by
    simp only [spaces, List.mem_cons, List.not_mem_nil, or_false] at hv
    rcases hv with rfl | rfl | rfl | rfl <;> decide
  have h1 := clL_len v
  have h2 := cl_60 v
  unfold spD
  split
  · exact ⟨Nat.zero_le _, rfl⟩
  · refine ⟨by rw [bl_str]; simp; omega, ?_⟩
    rw [bl_str, List.count_append, List.count_append, h2]
    rfl
theorem docN_bd (M : Nat) : ∀ (d : Nat) (y : Nod) (space : ByteArray) (pad : List UInt8), Nice d y → pad.length + d ≤ M → pad.count 60 = 0 → (docN y space pad).length ≤ (350 + 2 * M) * cnt y ∧ (docN y space pad).count 60 ≤ 2 * cnt y
  | 0, _, _, _, h, _, _ => by cases h
  | d + 1, .mk sp nm l ks tx, space, pad, h, hp, hc => by
    obtain ⟨⟨v, hv, rfl⟩, ⟨n, rfl, hn, hn7⟩, ⟨al, rfl, ha⟩, hk3, hks, ⟨t, rfl, ht, ht12, _⟩, _⟩ := h
    have b1 := spD_bd hv space
    have b2 := atD_bd al (niceA_bd ha)
    have b3 := ha.1
    have b4 := nl_60 hn
    have b5 := clL_len t
    have b6 := cl_60 t
    have hh : (headD (str v) (str n) (bsA al) space pad).length ≤ pad.length + 233 ∧ (headD (str v) (str n) (bsA al) space pad).count 60 ≤ 1 := by
      unfold headD
      rw [bl_str]
      refine ⟨by simp; omega, ?_⟩
      rw [List.count_append, List.count_cons, List.count_append, List.count_append, hc, b4, b1.2, b2.2]
      exact Nat.le_refl _
    by_cases h0 : ks = []
    · subst h0
      rw [docN_nil, List.length_append, List.count_append]
      have e : cnt (.mk (str v) (str n) (bsA al) [] (str t)) = 1 := rfl
      rw [e]
      split
      · exact ⟨by simp; omega, by have : ([47, 62, 10] : List UInt8).count 60 = 0 := rfl; omega⟩
      · rw [bl_str, bl_str]
        refine ⟨by simp; omega, ?_⟩
        rw [List.count_cons, List.count_append, List.count_append, List.count_append, b6, b4]
        have : ([60, 47] : List UInt8).count 60 = 1 := rfl
        have : ([62, 10] : List UInt8).count 60 = 0 := rfl
        have : (if (62 : UInt8) == 60 then 1 else 0) = 0 := rfl
        omega
    · rw [docN_kids _ _ _ _ _ _ _ h0, List.length_append, List.count_append]
      have hall : ∀ (ys : List Nod), (∀ y ∈ ys, Nice d y) → (docL ys (str v) (pad ++ [32])).length ≤ (350 + 2 * M) * cntL ys ∧ (docL ys (str v) (pad ++ [32])).count 60 ≤ 2 * cntL ys := by
        intro ys
        induction ys with
        | nil => intro _; exact ⟨Nat.zero_le _, Nat.zero_le _⟩
        | cons y ys ih =>
          intro hy
          have i1 := docN_bd M d y (str v) (pad ++ [32]) (hy y List.mem_cons_self) (by simp; omega) (by rw [List.count_append, hc]; rfl)
          have i2 := ih fun z hz => hy z (List.mem_cons_of_mem _ hz)
          rw [docL, List.length_append, List.count_append, cntL, Nat.mul_add]
          omega
      have hL := hall ks hks
      have e : cnt (.mk (str v) (str n) (bsA al) ks (str t)) = 1 + cntL ks := rfl
      rw [e, bl_str, Nat.mul_add]
      refine ⟨by simp; omega, ?_⟩
      rw [List.count_append, List.count_append, List.count_append, List.count_append, List.count_append, hc, b4]
      have : ([60, 47] : List UInt8).count 60 = 1 := rfl
      have : ([62, 10] : List UInt8).count 60 = 0 := rfl
      omega
theorem nice_cntL (m : Nat) : ∀ (ys : List Nod), (∀ y ∈ ys, cnt y ≤ m) → cntL ys ≤ m * ys.length
  | [], _ => Nat.zero_le _
  | y :: ys, h => by
    have := nice_cntL m ys fun z hz => h z (List.mem_cons_of_mem _ hz)
    have := h y List.mem_cons_self
    rw [cntL, List.length_cons, Nat.mul_add]
    omega
theorem nice_cnt1 : ∀ (y : Nod), Nice 1 y → cnt y ≤ 1
  | .mk sp nm l ks tx, h => by
    obtain ⟨_, _, _, _, hks, _⟩ := h
    cases ks with
    | nil => exact Nat.le_refl _
    | cons k ks => exact absurd (hks k List.mem_cons_self) id
theorem nice_cnt2 : ∀ (y : Nod), Nice 2 y → cnt y ≤ 4
  | .mk sp nm l ks tx, h => by
    obtain ⟨_, _, _, hk, hks, _⟩ := h
    have := nice_cntL 1 ks fun y hy => nice_cnt1 y (hks y hy)
    rw [cnt]; omega
theorem nice_cnt3 : ∀ (y : Nod), Nice 3 y → cnt y ≤ 13
  | .mk sp nm l ks tx, h => by
    obtain ⟨_, _, _, hk, hks, _⟩ := h
    have := nice_cntL 4 ks fun y hy => nice_cnt2 y (hks y hy)
    rw [cnt]; omega
theorem doc3 {y : Nod} (h : Nice 3 y) : (docN y ByteArray.empty []).length ≤ 10000 ∧ (docN y ByteArray.empty []).count 60 ≤ 26 := by
  have h1 := docN_bd 3 3 y ByteArray.empty [] h (by decide) rfl
  have h2 := nice_cnt3 y h
  omega
end Xm
end Go.Proofs.YtdpkhmfolmcejaaGreatDoor
