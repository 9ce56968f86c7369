/- write.all, May by their contracts. -/
import Derived.Test.YtdpkhmfolmcejaaGreatDoorMWn
import Derived.Test.YtdpkhmfolmcejaaGreatDoorTSame
namespace Go.Proofs.YtdpkhmfolmcejaaGreatDoor
open Go.RowKit
namespace Xm
mutual
/-- an element and those within it may be -/
def allB : Nod → Bool
  | .mk sp nm l ks tx => nodeB sp nm l ks.length tx && allL ks
def allL : List Nod → Bool
  | [] => true
  | y :: ys => allB y && allL ys
end
mutual
/-- no text is too long -/
def Szd : Nod → Prop
  | .mk sp nm l ks tx => sp.size ≤ 1000000000 ∧ nm.size ≤ 1000000000 ∧ tx.size ≤ 1000000000 ∧ (∀ a ∈ l, a.1.size ≤ 1000000000 ∧ a.2.size ≤ 1000000000) ∧ SzdL ks
def SzdL : List Nod → Prop
  | [] => True
  | y :: ys => Szd y ∧ SzdL ys
end
theorem SzdL.mem : ∀ {ks : List Nod}, SzdL ks → ∀ {j : Nat} {y : Nod}, ks[j]? = some y → Szd y
  | [], _, j, y, h => by simp at h
  | x :: ks, hs, 0, y, h => by rw [SzdL] at hs; simp at h; subst h; exact hs.1
  | x :: ks, hs, j + 1, y, h => by rw [SzdL] at hs; exact SzdL.mem hs.2 (j := j) (by simpa using h)
def mayB (x : Nod) : Bool := decide (dep x ≤ 32) && (decide (cnt x ≤ 2000) && allB x)
/-- what all answers -/
def AllC (m : Nat) : Prop := ∀ (x : Nod) (F : Nat → Prop) (v : Value) (w : World), cnt x ≤ m → NodAt F w v x → Szd x → Calls Tryz.prog 24 #[v] w fun e w' => e = .returned (.bool (allB x)) ∧ Flow.Grow w w'
end Xm
set_option maxRecDepth 100000 in
set_option maxHeartbeats 1000000 in
theorem all1_any (m : Nat) (IHH : Hid (Xm.AllC m)) (x : Xm.Nod) (F : Nat → Prop) (v : Value) (w : World) (hx : Xm.cnt x ≤ m) (hn : Xm.NodAt F w v x) (hs : Xm.Szd x) :
    Calls Tryz.prog 39 #[v] w fun e w' => e = .returned (.bool (!(Xm.allB x))) ∧ Flow.Grow w w' := by
  obtain ⟨u0, u1, u4, a2, a3, n2, n3, c2, c3, rfl⟩ := hn.form
  simp only [Xm.V5.agg] at hn ⊢
  have Hx := Lib.hid hx
  have Hs := Lib.hid hs
  have HN := Lib.hid (hn.grow (Flow.grow_alloc w (.cells #[.string u0, .string u1, .slice a2 n2 c2, .slice a3 n3 c3, .string u4] 25)))
  have G1 : Hid (Flow.Grow w (w.alloc (.cells #[.string u0, .string u1, .slice a2 n2 c2, .slice a3 n3 c3, .string u4] 25))) := Lib.hid (Flow.grow_alloc _ _)
  clear hx hs hn
  go_enter Tryz.func39, Tryz.ntmps39
  go_wp2_with (go_at_call 24; refine (IHH.out x _ _ _ Hx.out HN.out Hs.out).mono ?_; rintro e w3 ⟨rfl, hg3⟩)
  go_ret
  exact ⟨rfl, G1.out.trans hg3⟩
set_option maxRecDepth 100000 in
set_option maxHeartbeats 4000000 in
theorem indexAll_any (m : Nat) (IHH : Hid (Xm.AllC m)) (ks : List Xm.Nod) (L : Nat) (va : Value) (F : Nat → Prop) (vs : List Xm.V5) (g off : Nat) (w : World) (ha : Xm.KidsAt w va ks L vs g off F) (hc : Xm.cntL ks ≤ m) (hs : Xm.SzdL ks) :
    Calls Tryz.prog 57 #[va, .func (.func 39) #[] #[]] w fun e w' => (∃ k : Int, e = .returned (.int .i64 k) ∧ decide (0 ≤ k) = !(Xm.allL ks)) ∧ Flow.Grow w w' := by
  have HA := Lib.hid ha
  have Hc := Lib.hid hc
  have Hs := Lib.hid hs
  have HLk := Lib.hid ha.len
  obtain ⟨ka, kc, rfl⟩ : ∃ ka kc, va = .slice ka L kc := by
    rcases ha.k with ⟨h0, a, c, rfl⟩ | ⟨c, rfl, _⟩
    · have := ha.len; rw [h0] at this; exact ⟨a, c, by rw [this]; rfl⟩
    · exact ⟨_, c, rfl⟩
  clear ha hc hs
  go_enter Tryz.func57, Tryz.ntmps57
  go_wp2_with fail
  go_loopw [8] (fun v wq => ∃ (j : Nat) (a b : List Xm.Nod), ks = a ++ b ∧ a.length = j ∧ v = .int .i64 (j : Int) ∧ Hid (Xm.allL ks = Xm.allL b) ∧ Hid (Flow.Grow w wq)) (fun v _ => L - (intOf v).toNat)
  case atStart => exact ⟨0, [], ks, rfl, rfl, rfl, Lib.hid rfl, Lib.hid (Flow.grow_refl _)⟩
  case round =>
    obtain ⟨j, a, b, hab, haj, rfl, HAl, HR⟩ := hrel
    rename World => wq
    cases b with
    | nil =>
      rw [List.append_nil] at hab
      subst hab
      have HF : Hid (Xm.allL ks = true) := Lib.hid (by rw [HAl.out]; rfl)
      have g1 : ¬ (j : Int) < (L : Int) := by have := HLk.out; omega
      go_wp2_with fail
      go_ret
      exact ⟨⟨-1, rfl, by rw [HF.out]; rfl⟩, HR.out⟩
    | cons y b' =>
      have hj' : j < ks.length := by rw [hab]; simp; omega
      have hy : ks[j]? = some y := by rw [hab, ← haj]; simp
      have hlt : j < L := by rw [HLk.out]; exact hj'
      have Hcy : Hid (Xm.cnt y ≤ m) := Lib.hid (Nat.le_trans (Xm.cnt_mem hy) Hc.out)
      have Hsy : Hid (Xm.Szd y) := Lib.hid (Hs.out.mem hy)
      rcases HA.out.k with ⟨h0, _⟩ | ⟨q, hkv, hkc, hcml, hgl⟩
      · rw [h0] at hj'; simp at hj'
      simp only [Value.slice.injEq, true_and] at hkv
      obtain ⟨rfl, rfl⟩ := hkv
      obtain ⟨u0, u1, u4, a2, a3, n2, n3, c2, c3', k0, k1, k2, k3, k4, hny⟩ := Xm.kid_cells HA.out.l HA.out.c HA.out.n hgl HR.out hy
      have HAB : Hid (ks = (a ++ [y]) ++ b') := Lib.hid (by rw [hab]; simp)
      have HN : Hid (Xm.NodAt (fun _ => True) wq (.agg #[.string u0, .string u1, .slice a2 n2 c2, .slice a3 n3 c3', .string u4]) y) := Lib.hid (hny.grow HR.out)
      have g1 : (j : Int) < (L : Int) := by omega
      have g3 : ¬ (L : Int) ≤ (j : Int) := by omega
      have eN : IntKind.i64.wrap ((j : Int) + 1) = (j : Int) + 1 := IntWalk.i64_in _ (by rw [maxLen] at hcml; omega)
      have HA2 : Hid (Xm.allL ks = (Xm.allB y && Xm.allL b')) := Lib.hid (by rw [HAl.out, Xm.allL])
      have Hlt := Lib.hid (And.intro hlt haj)
      clear hny hab hj' hy hkc hcml hgl hlt
      cases hb : Xm.allB y with
      | false =>
        have HF : Hid (Xm.allL ks = false) := Lib.hid (by rw [HA2.out, hb]; rfl)
        have HB := Lib.hid hb
        clear hb
        go_wp2_with (go_at_call 39; refine (all1_any m IHH y _ _ _ Hcy.out HN.out Hsy.out).mono ?_; rintro e w3 ⟨rfl, hg3⟩; rw [HB.out])
        go_ret
        exact ⟨⟨j, rfl, by rw [HF.out]; simp⟩, HR.out.trans hg3⟩
      | true =>
        have HF : Hid (Xm.allL ks = Xm.allL b') := Lib.hid (by rw [HA2.out, hb]; rfl)
        have HB := Lib.hid hb
        clear hb
        go_wp2_with (go_at_call 39; refine (all1_any m IHH y _ _ _ Hcy.out HN.out Hsy.out).mono ?_; rintro e w3 ⟨rfl, hg3⟩; rw [HB.out])
        go_roundw
        case rel => exact ⟨j + 1, a ++ [y], b', HAB.out, by rw [List.length_append, Hlt.out.2]; rfl, by first | rfl | go_num, HF, Lib.hid (HR.out.trans hg3)⟩
        case measure => have := Hlt.out.1; simp only [intOf]; omega
set_option maxRecDepth 100000 in
set_option maxHeartbeats 400000 in
theorem containsAll_any (m : Nat) (IHH : Hid (Xm.AllC m)) (ks : List Xm.Nod) (L : Nat) (va : Value) (F : Nat → Prop) (vs : List Xm.V5) (g off : Nat) (w : World) (ha : Xm.KidsAt w va ks L vs g off F) (hc : Xm.cntL ks ≤ m) (hs : Xm.SzdL ks) :
    Calls Tryz.prog 38 #[va, .func (.func 39) #[] #[]] w fun e w' => e = .returned (.bool (!(Xm.allL ks))) ∧ Flow.Grow w w' := by
  have HA := Lib.hid ha
  have Hc := Lib.hid hc
  have Hs := Lib.hid hs
  clear ha hc hs
  go_enter Tryz.func38, Tryz.ntmps38
  go_wp2_with (go_at_call 57; refine (indexAll_any m IHH ks L _ F vs g off _ HA.out Hc.out Hs.out).mono ?_; rintro e w' ⟨⟨k, rfl, hk⟩, hg⟩; have HK := Lib.hid hk; clear hk)
  go_ret
  exact ⟨ret_bool HK.out, hg⟩
set_option maxRecDepth 100000 in
set_option maxHeartbeats 4000000 in
theorem all_any : ∀ (m : Nat), Xm.AllC m := by
  intro m
  induction m with
  | zero => intro x F v w h; cases x with | mk sp nm l ks tx => rw [Xm.cnt] at h; omega
  | succ m IH =>
    intro x F v w hx hn hs
    have IHH := Lib.hid IH
    clear IH
    cases hn with
    | mk sp nm tx av kv l ks vs g off hA haF hk hl hc hn =>
      obtain ⟨ao, ca, rfl⟩ := hA.shape
      have Hcm : Hid (Xm.cntL ks ≤ m) := Lib.hid (by rw [Xm.cnt] at hx; omega)
      rw [Xm.Szd] at hs
      obtain ⟨s1, s2, s3, s4, s5⟩ := hs
      have HS := Lib.hid (And.intro s1 (And.intro s2 (And.intro s3 (And.intro s4 s5))))
      have HA := Lib.hid hA
      obtain ⟨L, hL⟩ : ∃ L, L = ks.length := ⟨_, rfl⟩
      have KA : Hid (Xm.KidsAt w kv ks L vs g off F) := Lib.hid ⟨hL, by rcases hk with h | ⟨c, h1, h2, h3, h4, _⟩; exact .inl h; rw [← hL] at h1 h2; exact .inr ⟨c, h1, h2, h3, h4⟩, hl, hc, hn⟩
      obtain ⟨ka, kc, rfl⟩ : ∃ ka kc, kv = .slice ka L kc := by
        rcases KA.out.k with ⟨h0, a, c, rfl⟩ | ⟨c, rfl, _⟩
        · rw [h0] at hL; exact ⟨a, c, by rw [hL]; rfl⟩
        · exact ⟨_, c, rfl⟩
      have HB : Hid (Xm.allB (.mk sp nm l ks tx) = (Xm.nodeB sp nm l L tx && Xm.allL ks)) := Lib.hid (by rw [Xm.allB, hL])
      clear hx hA haF hk hc hn hl s1 s2 s3 s4 s5 hL
      obtain ⟨AL, hAL⟩ : ∃ n, n = l.length := ⟨_, rfl⟩
      have HAL := Lib.hid hAL
      rw [← hAL] at HA ⊢
      clear hAL
      go_enter Tryz.func24, Tryz.ntmps24
      go_upto_region 1 with fail
      have G2 : Hid (Flow.Grow w (w.alloc (.cells #[.string sp, .string nm, .slice ao AL ca, .slice ka L kc, .string tx] 25))) := Lib.hid (Flow.grow_alloc _ _)
      have HX : Hid (Xm.RowN (w.alloc (.cells #[.string sp, .string nm, .slice ao AL ca, .slice ka L kc, .string tx] 25)) w.heap.size #[.string sp, .string nm, .slice ao AL ca, .slice ka L kc, .string tx]) := Lib.hid (heap_alloc_new _ _)
      obtain ⟨X, hX⟩ : ∃ X, X = w.heap.size := ⟨_, rfl⟩
      rw [← hX] at HX ⊢
      clear hX
      generalize w.alloc (.cells #[.string sp, .string nm, .slice ao AL ca, .slice ka L kc, .string tx] 25) = w2 at *
      have x0 := (cell_of_row w2 X 0 _ _ _ HX.out).trans rfl
      have x1 := (cell_of_row w2 X 1 _ _ _ HX.out).trans rfl
      have x2 := (cell_of_row w2 X 2 _ _ _ HX.out).trans rfl
      have x3 := (cell_of_row w2 X 3 _ _ _ HX.out).trans rfl
      have x4 := (cell_of_row w2 X 4 _ _ _ HX.out).trans rfl
      simp at x0 x1 x2 x3 x4
      have HA2 : Hid (Xm.AttrsAt w2 (.slice ao AL ca) l) := Lib.hid (Xm.AttrsAt.keep HA.out G2.out.size (fun q _ hq => G2.out.block q hq (by simp)))
      have HND : Hid (Calls Tryz.prog 37 #[.agg #[.string sp, .string nm, .slice ao AL ca, .slice ka L kc, .string tx]] w2 fun e w' => e = .returned (.bool (Xm.nodeB sp nm l L tx)) ∧ Flow.Grow w2 w') := Lib.hid (by
        have e := HAL.out
        subst e
        exact node_any sp nm tx ao ka ca L kc l w2 HA2.out HS.out.1 HS.out.2.1 HS.out.2.2.1 HS.out.2.2.2.1)
      cases hb : Xm.nodeB sp nm l L tx with
      | false =>
        have HF : Hid (Xm.allB (.mk sp nm l ks tx) = false) := Lib.hid (by rw [HB.out, hb]; rfl)
        have Hb := Lib.hid hb
        clear hb
        go_wp2_with (go_at_call 37; refine HND.out.mono ?_; rintro e w3 ⟨rfl, hg3⟩; rw [Hb.out])
        go_ret
        exact ⟨ret_bool HF.out.symm, G2.out.trans hg3⟩
      | true =>
        have HF : Hid (Xm.allB (.mk sp nm l ks tx) = Xm.allL ks) := Lib.hid (by rw [HB.out, hb]; rfl)
        have Hb := Lib.hid hb
        clear hb
        go_wp2_with (first
          | (go_at_call 37; refine HND.out.mono ?_; rintro e w3 ⟨rfl, hg3⟩; rw [Hb.out]; have z3 := (cell_of_row w3 X 3 _ _ _ (HX.out.grow hg3)).trans rfl; have G3 := Lib.hid (G2.out.trans hg3); clear hg3)
          | (go_at_call 38; refine (containsAll_any m IHH ks L _ _ vs g off w3 (KA.out.grow G3.out) Hcm.out HS.out.2.2.2.2).mono ?_; rintro e w4 ⟨rfl, hg4⟩))
        go_ret
        exact ⟨by rw [HF.out]; simp, G3.out.trans hg4⟩
set_option maxRecDepth 100000 in
set_option maxHeartbeats 1000000 in
theorem may_any (x : Xm.Nod) (F : Nat → Prop) (v : Value) (w : World) (hx : Xm.cnt x ≤ 1000000000) (hn : Xm.NodAt F w v x) (hs : Xm.Szd x) :
    Calls Tryz.prog 9 #[v] w fun e w' => e = .returned (.bool (Xm.mayB x)) ∧ Flow.Grow w w' := by
  obtain ⟨u0, u1, u4, a2, a3, n2, n3, c2, c3, rfl⟩ := hn.form
  simp only [Xm.V5.agg] at hn ⊢
  have Hx := Lib.hid hx
  have Hs := Lib.hid hs
  have HN := Lib.hid (hn.grow (Flow.grow_alloc w (.cells #[.string u0, .string u1, .slice a2 n2 c2, .slice a3 n3 c3, .string u4] 25)))
  have G1 : Hid (Flow.Grow w (w.alloc (.cells #[.string u0, .string u1, .slice a2 n2 c2, .slice a3 n3 c3, .string u4] 25))) := Lib.hid (Flow.grow_alloc _ _)
  clear hx hs hn
  have HX : Hid (Xm.RowN (w.alloc (.cells #[.string u0, .string u1, .slice a2 n2 c2, .slice a3 n3 c3, .string u4] 25)) w.heap.size #[.string u0, .string u1, .slice a2 n2 c2, .slice a3 n3 c3, .string u4]) := Lib.hid (heap_alloc_new _ _)
  have HD := Lib.hid (fun w' (hg : Flow.Grow _ w') => depthN_any (Xm.cnt x) x _ _ w' (Nat.le_refl _) Hx.out (HN.out.grow hg))
  have HC := Lib.hid (fun w' (hg : Flow.Grow _ w') => count_any (Xm.cnt x) x _ _ w' (Nat.le_refl _) Hx.out (HN.out.grow hg))
  have HAl := Lib.hid (fun w' (hg : Flow.Grow _ w') => all_any (Xm.cnt x) x _ _ w' (Nat.le_refl _) (HN.out.grow hg) Hs.out)
  obtain ⟨D, hD⟩ : ∃ D, D = Xm.dep x := ⟨_, rfl⟩
  obtain ⟨C, hC⟩ : ∃ C, C = Xm.cnt x := ⟨_, rfl⟩
  have HM : Hid (Xm.mayB x = (decide (D ≤ 32) && (decide (C ≤ 2000) && Xm.allB x))) := Lib.hid (by rw [Xm.mayB, ← hD, ← hC])
  rw [← hD] at HD
  rw [← hC] at HC
  clear hD hC
  go_enter Tryz.func9, Tryz.ntmps9
  go_upto_region 1 with fail
  obtain ⟨X, hX⟩ : ∃ X, X = w.heap.size := ⟨_, rfl⟩
  rw [← hX] at HX ⊢
  clear hX
  generalize w.alloc (.cells #[.string u0, .string u1, .slice a2 n2 c2, .slice a3 n3 c3, .string u4] 25) = w2 at *
  have x0 := (cell_of_row w2 X 0 _ _ _ HX.out).trans rfl
  have x1 := (cell_of_row w2 X 1 _ _ _ HX.out).trans rfl
  have x2 := (cell_of_row w2 X 2 _ _ _ HX.out).trans rfl
  have x3 := (cell_of_row w2 X 3 _ _ _ HX.out).trans rfl
  have x4 := (cell_of_row w2 X 4 _ _ _ HX.out).trans rfl
  simp at x0 x1 x2 x3 x4
  have hrows : ∀ w' (hg : Flow.Grow w2 w'), w'.cell? ⟨X, 0, none⟩ = some (.string u0) ∧ w'.cell? ⟨X, 1, none⟩ = some (.string u1) ∧ w'.cell? ⟨X, 2, none⟩ = some (.slice a2 n2 c2) ∧ w'.cell? ⟨X, 3, none⟩ = some (.slice a3 n3 c3) ∧ w'.cell? ⟨X, 4, none⟩ = some (.string u4) := fun w' hg =>
    ⟨(cell_of_row w' X 0 _ _ _ (HX.out.grow hg)).trans rfl, (cell_of_row w' X 1 _ _ _ (HX.out.grow hg)).trans rfl, (cell_of_row w' X 2 _ _ _ (HX.out.grow hg)).trans rfl, (cell_of_row w' X 3 _ _ _ (HX.out.grow hg)).trans rfl, (cell_of_row w' X 4 _ _ _ (HX.out.grow hg)).trans rfl⟩
  have HR := Lib.hid hrows
  clear hrows
  by_cases hd : D ≤ 32
  · have i1 : (D : Int) ≤ 32 := by omega
    by_cases hc : C ≤ 2000
    · have i2 : (C : Int) ≤ 2000 := by omega
      have HF : Hid (Xm.mayB x = Xm.allB x) := Lib.hid (by rw [HM.out, decide_eq_true hd, decide_eq_true hc]; rfl)
      clear hd hc
      go_wp2_with (first
        | (go_at_call 22; refine (HD.out _ (Flow.grow_refl _)).mono ?_; rintro e w3 ⟨rfl, hg3⟩; obtain ⟨y0, y1, y2, y3, y4⟩ := HR.out w3 hg3; have G3 := Lib.hid hg3; clear hg3)
        | (go_at_call 23; refine (HC.out _ G3.out).mono ?_; rintro e w4 ⟨rfl, hg4⟩; have G4 := Lib.hid (G3.out.trans hg4); obtain ⟨z0, z1, z2, z3, z4⟩ := HR.out w4 G4.out; clear hg4)
        | (go_at_call 24; refine (HAl.out _ G4.out).mono ?_; rintro e w5 ⟨rfl, hg5⟩))
      go_ret
      exact ⟨ret_bool HF.out.symm, (G1.out.trans G4.out).trans hg5⟩
    · have i2 : ¬ (C : Int) ≤ 2000 := by omega
      have HF : Hid (Xm.mayB x = false) := Lib.hid (by rw [HM.out, decide_eq_true hd, decide_eq_false hc]; rfl)
      clear hd hc
      go_wp2_with (first
        | (go_at_call 22; refine (HD.out _ (Flow.grow_refl _)).mono ?_; rintro e w3 ⟨rfl, hg3⟩; obtain ⟨y0, y1, y2, y3, y4⟩ := HR.out w3 hg3; have G3 := Lib.hid hg3; clear hg3)
        | (go_at_call 23; refine (HC.out _ G3.out).mono ?_; rintro e w4 ⟨rfl, hg4⟩; have G4 := Lib.hid (G3.out.trans hg4); clear hg4))
      go_ret
      exact ⟨ret_bool HF.out.symm, G1.out.trans G4.out⟩
  · have i1 : ¬ (D : Int) ≤ 32 := by omega
    have HF : Hid (Xm.mayB x = false) := Lib.hid (by rw [HM.out, decide_eq_false hd]; rfl)
    clear hd
    go_wp2_with (go_at_call 22; refine (HD.out _ (Flow.grow_refl _)).mono ?_; rintro e w3 ⟨rfl, hg3⟩; have G3 := Lib.hid hg3; clear hg3)
    go_ret
    exact ⟨ret_bool HF.out.symm, G1.out.trans G3.out⟩
end Go.Proofs.YtdpkhmfolmcejaaGreatDoor
