/- galliardref06.Size by its contract. -/
import Derived.Test.YtfkdjdmbgednkaaDoorCount
namespace Go.Proofs.YtfkdjdmbgednkaaDoor
open Go.RowKit
set_option maxRecDepth 100000 in
set_option maxHeartbeats 1000000 in
theorem size6_any : ∀ (m : Nat) (x : Xm.Nod) (F : Nat → Prop) (v : Value) (w : World), Xm.cnt x ≤ m → m ≤ 1000000000 → Xm.NodAt F w v x → Calls Tryd.prog 26 #[v] w fun e w' => e = .returned (.tuple #[.int .i64 (Xm.cnt x : Int), .int .i64 (Xm.dep x : Int)]) ∧ Flow.Grow w w' := by
  intro m
  induction m with
  | zero => intro x F v w h; cases x with | mk sp nm l ks tx => rw [Xm.cnt] at h; omega
  | succ m IH =>
    intro x F v w hx hm hn
    have IHH := Lib.hid IH
    clear IH
    cases hn with
    | mk sp nm tx av kv l ks vs g off hA haF hk hl hc hn =>
      obtain ⟨ao, cap, rfl⟩ := hA.shape
      have HX : Hid (Xm.cnt (.mk sp nm l ks tx) = 1 + Xm.cntL ks) := Lib.hid (by rw [Xm.cnt])
      have HD : Hid (Xm.dep (.mk sp nm l ks tx) = Xm.depL ks + 1) := Lib.hid (by rw [Xm.dep])
      have HDc : Hid (Xm.depL ks ≤ Xm.cntL ks) := Lib.hid (Xm.depL_cntL ks)
      have hcm : 1 + Xm.cntL ks ≤ m + 1 := by rw [← HX.out]; exact hx
      have Hcm := Lib.hid hcm
      have Hlen := Lib.hid (Xm.len_cntL ks)
      obtain ⟨ka, kc, hkv⟩ : ∃ ka kc, kv = .slice ka ks.length kc := by
        rcases hk with ⟨rfl, a, c, rfl⟩ | ⟨c, rfl, _⟩
        · exact ⟨a, c, rfl⟩
        · exact ⟨_, c, rfl⟩
      subst hkv
      have HK := Lib.hid hk
      have HC := Lib.hid hc
      have HNn := Lib.hid hn
      have Hl := Lib.hid hl
      clear hx hcm hA haF hk hc hn hl
      go_enter Tryd.func26, Tryd.ntmps26
      go_wp2
      have G1 : Hid (Flow.Grow w (w.alloc (.cells #[.string sp, .string nm, .slice ao l.length cap, .slice ka ks.length kc, .string tx] 47))) := Lib.hid (Flow.grow_alloc _ _)
      have HB1 : Hid (Xm.RowN (w.alloc (.cells #[.string sp, .string nm, .slice ao l.length cap, .slice ka ks.length kc, .string tx] 47)) w.heap.size #[.string sp, .string nm, .slice ao l.length cap, .slice ka ks.length kc, .string tx]) := Lib.hid (heap_alloc_new _ _)
      obtain ⟨D, hD⟩ : ∃ D, D = w.heap.size := ⟨_, rfl⟩
      rw [← hD] at HB1 ⊢
      clear hD
      generalize w.alloc (.cells #[.string sp, .string nm, .slice ao l.length cap, .slice ka ks.length kc, .string tx] 47) = w1 at *
      go_loopw [4, 5, 6] (fun v4 v5 v6 wr => ∃ a b : List Xm.Nod, ks = a ++ b ∧ v6 = .int .i64 a.length ∧ v4 = .int .i64 ((1 + Xm.cntL a : Nat) : Int) ∧ v5 = .int .i64 (Xm.depL a : Nat) ∧ Hid (Flow.Grow w1 wr)) (fun _ _ v6 _ => ks.length - (intOf v6).toNat)
      case atStart => exact ⟨[], ks, rfl, rfl, rfl, rfl, Lib.hid (Flow.grow_refl _)⟩
      case round =>
        obtain ⟨a, b, hab, rfl, rfl, rfl, HG1⟩ := hrel
        rename World => wr
        have hlen := Hlen.out
        have HG := Lib.hid (G1.out.trans HG1.out)
        have z3 := (cell_of_row wr D 3 _ _ _ (HB1.out.grow HG1.out)).trans rfl
        simp at z3
        cases b with
        | nil =>
          rw [List.append_nil] at hab
          subst hab
          have ef : IntKind.i64.wrap ((Xm.depL ks : Int) + 1) = (Xm.depL ks : Int) + 1 := IntWalk.i64_in _ (by have := HDc.out; have := Hcm.out; omega)
          go_wp2
          go_ret2
          exact ⟨ret_int2 (by rw [HX.out]) (by rw [HD.out]; rfl), HG.out⟩
        | cons y b' =>
          have hy : ks[a.length]? = some y := by rw [hab]; simp
          have hlt : a.length < ks.length := by rw [hab]; simp
          have hcy := Xm.cnt_mem hy
          have hcm := Hcm.out
          rcases HK.out with ⟨h0, _⟩ | ⟨c, hkv, hkc, hcml, hgl, _⟩
          · rw [h0] at hlt; simp at hlt
          simp only [Value.slice.injEq, true_and] at hkv
          obtain ⟨rfl, rfl⟩ := hkv
          obtain ⟨u0, u1, u4, a2, a3, n2, n3, c2, c3, k0, k1, k2, k3, k4, hny⟩ := Xm.kid_cells Hl.out HC.out HNn.out hgl HG.out hy
          have HA : Hid (ks = (a ++ [y]) ++ b') := Lib.hid (by rw [hab]; simp)
          have hsum : Xm.cntL (a ++ [y]) ≤ Xm.cntL ks := by rw [HA.out, Xm.cntL_append (a ++ [y])]; omega
          have hs1 : Xm.cntL (a ++ [y]) = Xm.cntL a + Xm.cnt y := by rw [Xm.cntL_append, Xm.cntL, Xm.cntL]; omega
          have hs2 : Xm.depL (a ++ [y]) = max (Xm.depL a) (Xm.dep y) := by rw [Xm.depL_append, Xm.depL, Xm.depL]; omega
          obtain ⟨N, hN⟩ : ∃ N, N = a.length := ⟨_, rfl⟩
          have HN := Lib.hid hN
          obtain ⟨L, hL⟩ : ∃ L, L = ks.length := ⟨_, rfl⟩
          have HLk := Lib.hid hL
          rw [← hN] at k0 k1 k2 k3 k4 hlt ⊢
          rw [← hL] at hlt hkc z3 ⊢
          have Hny := Lib.hid hny
          have Hcy : Hid (Xm.cnt y ≤ m) := Lib.hid (by omega)
          have g1 : (N : Int) < (L : Int) := by omega
          have g3 : ¬ (L : Int) ≤ (N : Int) := by omega
          have eN : IntKind.i64.wrap ((N : Int) + 1) = (N : Int) + 1 := IntWalk.i64_in _ (by have := Hlen.out; rw [← HLk.out] at this; omega)
          obtain ⟨C, hC⟩ : ∃ C, C = Xm.dep y := ⟨_, rfl⟩
          obtain ⟨E, hE⟩ : ∃ E, E = Xm.cnt y := ⟨_, rfl⟩
          obtain ⟨ca, hca⟩ : ∃ ca, ca = Xm.cntL a := ⟨_, rfl⟩
          have HCy := Lib.hid hC
          have HEy := Lib.hid hE
          have hbd : ca + E ≤ 1000000000 := by omega
          rw [← hC] at hs2
          rw [← hE, ← hca] at hs1
          rw [← hca]
          have eS : IntKind.i64.wrap (((1 + ca : Nat) : Int) + (E : Int)) = ((1 + (ca + E) : Nat) : Int) := by rw [IntWalk.i64_in _ (by omega)]; omega
          have Hs1 := Lib.hid hs1
          have Hs2 := Lib.hid hs2
          clear hny hab hN hL hy hC hE hs1 hs2 hsum hcy hcm hca
          go_wp2_with (go_at_call 26; refine (IHH.out y _ _ wr Hcy.out (by omega) (Hny.out.grow HG.out)).mono ?_; rintro e w3 ⟨rfl, hg3⟩; rw [← HCy.out, ← HEy.out])
          have G3 := Lib.hid (HG1.out.trans hg3)
          go_roundw
          case rel => exact ⟨a ++ [y], b', HA.out, by rw [List.length_append, List.length_singleton, ← HN.out]; rfl, by rw [Hs1.out]; congr 1; omega, by rw [Hs2.out]; congr 1; omega, G3⟩
          case measure => simp only [intOf]; omega
end Go.Proofs.YtfkdjdmbgednkaaDoor
