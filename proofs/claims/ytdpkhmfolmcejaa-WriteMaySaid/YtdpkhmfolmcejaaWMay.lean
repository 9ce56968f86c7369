/- WriteMay's walk. -/
import Derived.Test.YtdpkhmfolmcejaaWMayP
import Derived.Test.YtdpkhmfolmcejaaNear
import Derived.Test.YtdpkhmfolmcejaaRefName3
import Derived.Test.YtdpkhmfolmcejaaMRef
import Derived.Deep.CutBlock
namespace Go.Proofs.Ytdpkhmfolmcejaa
open Go.RowKit
namespace Xm
theorem NodAt.leaf {F : Nat → Prop} {w : World} (sp nm tx : ByteArray) : NodAt F w (.agg #[.string sp, .string nm, .slice none 0 0, .slice none 0 0, .string tx]) (.mk sp nm [] [] tx) :=
  .mk sp nm tx _ _ [] [] [] 0 0 (.inl ⟨rfl, rfl⟩) (fun q hq => by simp [Value.ownBlock] at hq) (.inl ⟨rfl, none, 0, rfl⟩) rfl (fun h => absurd rfl h) (fun j y v h => by simp at h)
theorem NodAt.parts {F : Nat → Prop} {w : World} {u : Value} {sp nm tx : ByteArray} {l : List (ByteArray × ByteArray)} {ks : List Nod} (h : NodAt F w u (.mk sp nm l ks tx)) : ∃ ao ac ko kc, u = .agg #[.string sp, .string nm, .slice ao l.length ac, .slice ko ks.length kc, .string tx] := by
  cases h with
  | mk _ _ _ av kv _ _ vs g off hA haF hk hl hc hn =>
    obtain ⟨ao, cap, rfl⟩ := hA.shape
    rcases hk with ⟨rfl, a, c, rfl⟩ | ⟨c, rfl, _⟩
    · exact ⟨ao, cap, a, c, rfl⟩
    · exact ⟨ao, cap, _, c, rfl⟩
theorem NodAt.chg {F : Nat → Prop} {w : World} {av kv : Value} {sp nm tx : ByteArray} {l : List (ByteArray × ByteArray)} {ks : List Nod} (h : NodAt F w (.agg #[.string sp, .string nm, av, kv, .string tx]) (.mk sp nm l ks tx)) (sp' nm' tx' : ByteArray) : NodAt F w (.agg #[.string sp', .string nm', av, kv, .string tx']) (.mk sp' nm' l ks tx') := by
  cases h with
  | mk _ _ _ _ _ _ _ vs g off hA haF hk hl hc hn => exact .mk sp' nm' tx' av kv l ks vs g off hA haF hk hl hc hn
theorem NodAt.atts {F : Nat → Prop} {w : World} {av av' kv : Value} {sp nm tx : ByteArray} {l l' : List (ByteArray × ByteArray)} {ks : List Nod} (h : NodAt F w (.agg #[.string sp, .string nm, av, kv, .string tx]) (.mk sp nm l ks tx)) (ha : AttrsAt w av' l') (hF : ∀ q, av'.ownBlock = some q → F q) : NodAt F w (.agg #[.string sp, .string nm, av', kv, .string tx]) (.mk sp nm l' ks tx) := by
  cases h with
  | mk _ _ _ _ _ _ _ vs g off hA haF hk hl hc hn => exact .mk sp nm tx av' kv l' ks vs g off ha hF hk hl hc hn
theorem NodAt.kid0 {F : Nat → Prop} {w : World} {av kv : Value} {sp nm tx : ByteArray} {l : List (ByteArray × ByteArray)} {ks : List Nod} (h : NodAt F w (.agg #[.string sp, .string nm, av, kv, .string tx]) (.mk sp nm l ks tx)) : NodAt F w (.agg #[.string sp, .string nm, av, .slice none 0 0, .string tx]) (.mk sp nm l [] tx) := by
  cases h with
  | mk _ _ _ _ _ _ _ vs g off hA haF hk hl hc hn => exact .mk sp nm tx av _ l [] [] 0 0 hA haF (.inl ⟨rfl, none, 0, rfl⟩) rfl (fun h => absurd rfl h) (fun j y v h => by simp at h)
theorem NodAt.kid1 {F : Nat → Prop} {w : World} {av kv : Value} {sp nm tx a b c : ByteArray} {l : List (ByteArray × ByteArray)} {ks : List Nod} (h : NodAt F w (.agg #[.string sp, .string nm, av, kv, .string tx]) (.mk sp nm l ks tx)) {g : Nat} (hg : g < w.heap.size) (hF : F g)
    (hc : w.heap[g]? = some (.cells #[.string a, .string b, .slice none 0 0, .slice none 0 0, .string c] 25 (0, 0))) : NodAt F w (.agg #[.string sp, .string nm, av, .slice (some ⟨g, 0, none⟩) 1 1, .string tx]) (.mk sp nm l [.mk a b [] [] c] tx) := by
  cases h with
  | mk _ _ _ _ _ _ _ vs g' off hA haF hk hl hc' hn =>
    refine .mk sp nm tx av _ l [.mk a b [] [] c] [(.string a, .string b, .slice none 0 0, .slice none 0 0, .string c)] g 0 hA haF (.inr ⟨1, rfl, Nat.le_refl _, by unfold maxLen; omega, hg, hF⟩) rfl (fun _ j u hu => ?_) (fun j y v h1 h2 => ?_)
    · rw [Lib.cell_of_heap hc, Nat.zero_add]
      rw [← hu]
      match j with
      | 0 => rfl
      | 1 => rfl
      | 2 => rfl
      | 3 => rfl
      | 4 => rfl
      | j + 5 => simp [flat, V5.cells]
    · match j with
      | 0 =>
        simp at h1 h2
        subst h1 h2
        exact NodAt.leaf a b c
      | j + 1 => simp at h1
theorem lit_put {w3 wm w9 : World} {N : Nat} {cs : Array Value} {O : Obj} (m : Mv w3 N wm) (hz : wm.heap.size = w3.heap.size) (r : RowN wm N cs) (hg : Flow.Grow (wm.alloc O) w9) : Mv w3 N w9 ∧ RowN w9 N cs ∧ w9.heap[w3.heap.size]? = some O ∧ w3.heap.size < w9.heap.size := by
  have h1 := heap_alloc_new wm O
  rw [hz] at h1
  have hlt : w3.heap.size < (wm.alloc O).heap.size := by simp [hz]
  exact ⟨m.trans (Mv.of N ((Flow.grow_alloc _ _).trans hg)), r.grow ((Flow.grow_alloc _ _).trans hg), (hg.block _ hlt (by simp)).trans h1, Nat.lt_of_lt_of_le hlt hg.size⟩
theorem attrs_lit {w9 : World} {g : Nat} (l : List (ByteArray × ByteArray)) (h : w9.heap[g]? = some (.cells (attrCells l).toArray 31 (0, 0))) (hg : g < w9.heap.size) (hl : l.length ≤ 3) : AttrsAt w9 (.slice (some ⟨g, 0, none⟩) l.length l.length) l :=
  .inr ⟨g, 0, l.length, rfl, Nat.le_refl _, by unfold maxLen; omega, hg, fun j u hu => by rw [Lib.cell_of_heap h, Nat.zero_add]; simpa using hu⟩
end Xm
set_option maxRecDepth 100000 in
set_option maxHeartbeats 1000000 in
theorem awake7 (w : World) : Calls Try.prog 8 #[] w fun e w' => e = .returned (.bool true) ∧ Flow.Grow w w' := by
  have h1 : Xm.wtext (.mk ⟨#[]⟩ ⟨#[97]⟩ [] [] ⟨#[]⟩) = ⟨#[60, 97, 47, 62, 10]⟩ := by kernel_rfl
  have h2 : Xm.mayB (.mk ⟨#[]⟩ ⟨#[97]⟩ [] [] ⟨#[120]⟩) = true := by kernel_rfl
  have h3 : Xm.mayB (.mk ⟨#[]⟩ ⟨#[97]⟩ [] [] ⟨#[32, 120]⟩) = false := by kernel_rfl
  have hz : ∀ t : ByteArray, t.size ≤ 2 → Xm.Szd (.mk ⟨#[]⟩ ⟨#[97]⟩ [] [] t) := fun t ht => by rw [Xm.Szd]; exact ⟨by decide, by decide, by omega, fun a h => (by cases h), trivial⟩
  have hc : ∀ t : ByteArray, Xm.cnt (.mk ⟨#[]⟩ ⟨#[97]⟩ [] [] t) ≤ 1000000000 := fun t => by rw [Xm.cnt, Xm.cntL]; omega
  have C1 : Hid (∀ w, Calls Try.prog 10 #[.agg #[.string ⟨#[]⟩, .string ⟨#[97]⟩, .slice none 0 0, .slice none 0 0, .string ⟨#[]⟩]] w fun e w' => e = .returned (.string ⟨#[60, 97, 47, 62, 10]⟩) ∧ Flow.Grow w w') := Lib.hid (fun w => by
    rw [← h1]
    exact wtext_any _ (fun _ => True) _ w (hc _) (Xm.NodAt.leaf _ _ _) (hz _ (by decide)) (by decide +kernel))
  have CM : Hid (∀ t : ByteArray, t.size ≤ 2 → ∀ w, Calls Try.prog 9 #[.agg #[.string ⟨#[]⟩, .string ⟨#[97]⟩, .slice none 0 0, .slice none 0 0, .string t]] w fun e w' => e = .returned (.bool (Xm.mayB (.mk ⟨#[]⟩ ⟨#[97]⟩ [] [] t))) ∧ Flow.Grow w w') := Lib.hid (fun t ht w =>
    may_any _ (fun _ => True) _ w (hc _) (Xm.NodAt.leaf _ _ _) (hz _ ht))
  have H2 := Lib.hid h2
  have H3 := Lib.hid h3
  have HG := Lib.hid (Flow.grow_refl w)
  clear h1 h2 h3 hz hc
  go_enter Try.func8, Try.ntmps8
  go_wp2_with (first
    | (go_at_call 10; refine (C1.out _).mono ?_; rintro e w1 ⟨rfl, hg1⟩; have HG := Lib.hid (HG.out.trans hg1); clear hg1)
    | (go_at_call 9; refine (CM.out _ (by decide) _).mono ?_; rintro e w2 ⟨rfl, hg2⟩; (first | rw [H2.out] | rw [H3.out]); have HG := Lib.hid (HG.out.trans hg2); clear hg2))
  go_ret
  exact ⟨rfl, HG.out⟩
set_option maxRecDepth 100000 in
set_option maxHeartbeats 4000000 in
theorem writeMay_walk (v : Value) (kind : Int) (s : ByteArray) (w : World) (hv : Xm.ArgN w v) (hs : s.size ≤ 9223372036854775807) :
    Calls Try.prog 3 #[v, .int .i64 kind, .string s] w fun e w' => e = .returned (.bool true) ∧ Flow.Grow w w' := by
  obtain ⟨b, hb, hb8⟩ : ∃ b : Nat, bits .and .i64 kind 7 = (b : Int) ∧ b < 8 := ⟨(kind % 2 ^ 3).toNat, by rw [Bits.i64_mask _ 3 (by omega) 7 (by decide)]; omega, by omega⟩
  obtain ⟨sp0, nm0, tx0, b1, b2, n1, d1, n2, d2, rfl⟩ := hv.form
  have HN := Lib.hid (fun w' (hg : Flow.Grow w w') => near_any 2 _ w' (by omega) (by omega) (hv.grow hg))
  have G1 : Hid (Flow.Grow w (w.alloc (.cells #[.string sp0, .string nm0, .slice b1 n1 d1, .slice b2 n2 d2, .string tx0] 25))) := Lib.hid (Flow.grow_alloc _ _)
  have HX : Hid (Xm.RowN (w.alloc (.cells #[.string sp0, .string nm0, .slice b1 n1 d1, .slice b2 n2 d2, .string tx0] 25)) w.heap.size #[.string sp0, .string nm0, .slice b1 n1 d1, .slice b2 n2 d2, .string tx0]) := Lib.hid (heap_alloc_new _ _)
  have Hb := Lib.hid hb
  clear hv hb
  go_enter Try.func3, Try.ntmps3
  go_upto_region 1 with fail
  obtain ⟨X, hX⟩ : ∃ X, X = w.heap.size := ⟨_, rfl⟩
  rw [← hX] at HX ⊢
  clear hX
  generalize w.alloc (.cells #[.string sp0, .string nm0, .slice b1 n1 d1, .slice b2 n2 d2, .string tx0] 25) = w1 at *
  have x0 := (cell_of_row w1 X 0 _ _ _ HX.out).trans rfl
  have x1 := (cell_of_row w1 X 1 _ _ _ HX.out).trans rfl
  have x2 := (cell_of_row w1 X 2 _ _ _ HX.out).trans rfl
  have x3 := (cell_of_row w1 X 3 _ _ _ HX.out).trans rfl
  have x4 := (cell_of_row w1 X 4 _ _ _ HX.out).trans rfl
  simp at x0 x1 x2 x3 x4
  go_upto_region 2 with (go_at_call 4; refine (HN.out _ G1.out).mono ?_; rintro e w2 ⟨u, ⟨sp, nm, l, ks, tx⟩, rfl, hn, hy, hg2⟩; obtain ⟨ao, ac, ko, kc, rfl⟩ := hn.parts; have HP := Lib.hid (Xm.Prt.of hy); have HNd := Lib.hid hn; have G2 := Lib.hid (G1.out.trans hg2); clear hn hy hg2)
  have G3 : Hid (Flow.Grow w (w2.alloc (.cells #[.string sp, .string nm, .slice ao l.length ac, .slice ko ks.length kc, .string tx] 25))) := Lib.hid (G2.out.trans (Flow.grow_alloc _ _))
  have HN3 : Hid (Xm.RowN (w2.alloc (.cells #[.string sp, .string nm, .slice ao l.length ac, .slice ko ks.length kc, .string tx] 25)) w2.heap.size #[.string sp, .string nm, .slice ao l.length ac, .slice ko ks.length kc, .string tx]) := Lib.hid (heap_alloc_new _ _)
  have HNd3 := Lib.hid (Xm.NodAt.keep HNd.out (w' := w2.alloc (.cells #[.string sp, .string nm, .slice ao l.length ac, .slice ko ks.length kc, .string tx] 25)) (F' := fun q => q < w2.heap.size) (by simp) (fun q _ hlt => (Flow.grow_alloc w2 _).block q hlt (by simp)) (fun q _ hlt => hlt) (fun q hq => hq.2))
  have HNw : Hid (w.heap.size ≤ w2.heap.size) := Lib.hid G2.out.size
  obtain ⟨N, hN⟩ : ∃ N, N = w2.heap.size := ⟨_, rfl⟩
  rw [← hN] at HN3 HNd3 HNw ⊢
  clear hN HNd x0 x1 x2 x3 x4 HX HN
  generalize w2.alloc (.cells #[.string sp, .string nm, .slice ao l.length ac, .slice ko ks.length kc, .string tx] 25) = w3 at *
  have HK : Hid (∀ wx, Xm.Mv w3 N wx → Xm.NodAt (fun q => q ≠ N) wx (.agg #[.string sp, .string nm, .slice ao l.length ac, .slice ko ks.length kc, .string tx]) (.mk sp nm l ks tx)) := Lib.hid (fun wx m => Xm.NodAt.keep HNd3.out m.size (fun q hq hlt => m.block q hlt (by simp; omega)) (fun q hq _ => by omega) (fun q hq => Nat.lt_trans hq HN3.out.lt))
  have hsl := run_cut0 s (min (s.size : Int) 9).toNat (by omega) (min (s.size : Int) 9) (by omega)
  obtain ⟨t, ht⟩ : ∃ t, t = s.extract 0 (min (s.size : Int) 9).toNat := ⟨_, rfl⟩
  have htz : t.size ≤ 9 := by rw [ht, ByteArray.size_extract]; omega
  rw [← ht] at hsl
  have Hht := Lib.hid ht
  clear ht
  have yf : ∀ j, w3.frozen? ⟨N, j, none⟩ = false := fun j => frozen_of_row _ N _ _ _ HN3.out
  have y0 := (cell_of_row w3 N 0 _ _ _ HN3.out).trans rfl
  have y1 := (cell_of_row w3 N 1 _ _ _ HN3.out).trans rfl
  have y2 := (cell_of_row w3 N 2 _ _ _ HN3.out).trans rfl
  have y3 := (cell_of_row w3 N 3 _ _ _ HN3.out).trans rfl
  have y4 := (cell_of_row w3 N 4 _ _ _ HN3.out).trans rfl
  have hN3 : N < w3.heap.size := HN3.out.lt
  have hrt : Xm.rtext t 0 = Xm.text t 0 := Xm.rtext_eq _ 0 rfl
  have Hrt := Lib.hid hrt
  have hbb := Hb.out
  go_upto_block 0 with fail
  clear hrt hsl
  go_cut [9] (fun v9 wx => ∃ (W : Bool) (y : Xm.Nod) (sa sb sc : ByteArray) (oa ok : Option Addr) (na ca nk ck : Nat), v9 = .bool W ∧ Hid (Xm.Rdy W y) ∧ Hid (Flow.Grow w wx) ∧ Hid (Xm.RowN wx N #[.string sa, .string sb, .slice oa na ca, .slice ok nk ck, .string sc]) ∧ Hid (Xm.NodAt (fun q => q ≠ N) wx (.agg #[.string sa, .string sb, .slice oa na ca, .slice ok nk ck, .string sc]) y))
  case first =>
    rcases (by omega : b = 0 ∨ b = 1 ∨ b = 2 ∨ b = 3 ∨ b = 4 ∨ b = 5 ∨ b = 6 ∨ b = 7) with rfl | rfl | rfl | rfl | rfl | rfl | rfl | rfl
    · have hm : Hid (∀ w9, Flow.Grow (w3.setCell ⟨N, 1, none⟩ (.string t)) w9 → Xm.Mv w3 N w9 ∧ Xm.RowN w9 N #[.string sp, .string t, .slice ao l.length ac, .slice ko ks.length kc, .string tx]) := Lib.hid (fun w9 hg => ⟨Xm.Mv.set.trans (Xm.Mv.of N hg), (HN3.out.set 1 (.string t)).grow hg⟩)
      go_wp2_with (go_at_call 5; refine (rname_any t _ (by omega)).mono ?_; rintro e w9 ⟨rfl, hg9⟩)
      have h9 := hm.out w9 hg9
      go_meet
      case rel => exact ⟨Xm.name t, _, _, _, _, _, _, _, _, _, _, rfl, Lib.hid (Xm.rdy0 HP.out t htz), Lib.hid (h9.1.grow G3.out HNw.out), Lib.hid h9.2, Lib.hid ((HK.out w9 h9.1).chg _ _ _)⟩
    · have hm : Hid (∀ w9, Flow.Grow ((w3.setCell ⟨N, 3, none⟩ (.slice none 0 0)).setCell ⟨N, 4, none⟩ (.string t)) w9 → Xm.Mv w3 N w9 ∧ Xm.RowN w9 N #[.string sp, .string nm, .slice ao l.length ac, .slice none 0 0, .string t]) := Lib.hid (fun w9 hg => ⟨(Xm.Mv.set.trans Xm.Mv.set).trans (Xm.Mv.of N hg), ((HN3.out.set 3 (.slice none 0 0)).set 4 (.string t)).grow hg⟩)
      by_cases hr : Xm.rtext t 0 < 0
      · have HE : Hid ((decide (Xm.text t 0 < 0) && (Xm.trim t).toList == t.toList) = ((Xm.trim t).toList == t.toList)) := Lib.hid (by rw [← Hrt.out, decide_eq_true hr]; rfl)
        go_wp2_with (first | (go_at_call 6; refine (rtext_any t _ (by omega)).mono ?_; rintro e w9 ⟨rfl, hg9⟩) | (go_at_call 7; refine (rtrim_any t _ (by omega)).mono ?_; rintro e w10 ⟨rfl, rfl⟩))
        have h9 := hm.out _ hg9
        go_meet
        case rel => exact ⟨_, _, _, _, _, _, _, _, _, _, _, rfl, Lib.hid (by have h := Xm.rdy1 HP.out t htz; rw [HE.out] at h; exact h), Lib.hid (h9.1.grow G3.out HNw.out), Lib.hid h9.2, Lib.hid (((HK.out _ h9.1).kid0).chg _ _ _)⟩
      · have HE : Hid ((decide (Xm.text t 0 < 0) && (Xm.trim t).toList == t.toList) = false) := Lib.hid (by rw [← Hrt.out, decide_eq_false hr]; rfl)
        have hr2 : decide (Xm.rtext t 0 < 0) = false := decide_eq_false hr
        go_wp2_with (go_at_call 6; refine (rtext_any t _ (by omega)).mono ?_; rintro e w9 ⟨rfl, hg9⟩)
        have h9 := hm.out _ hg9
        go_meet
        case rel => exact ⟨false, _, _, _, _, _, _, _, _, _, _, by first | rfl | (simp; omega), Lib.hid (by have h := Xm.rdy1 HP.out t htz; rw [HE.out] at h; exact h), Lib.hid (h9.1.grow G3.out HNw.out), Lib.hid h9.2, Lib.hid (((HK.out _ h9.1).kid0).chg _ _ _)⟩
    · have hl : Flow.Grow w3 (w3.alloc (.cells #[.string t, .string ⟨#[118]⟩] 31)) := Flow.grow_alloc _ _
      have yb : ∀ j, (w3.alloc (.cells #[.string t, .string ⟨#[118]⟩] 31)).frozen? ⟨N, j, none⟩ = false := fun j => frozen_of_row _ N _ _ _ (HN3.out.grow hl)
      have ya := (cell_of_row (w3.alloc (.cells #[.string t, .string ⟨#[118]⟩] 31)) N 2 _ _ _ (HN3.out.grow hl)).trans rfl
      have hm : Hid (∀ w9, Flow.Grow ((w3.setCell ⟨N, 2, none⟩ (.slice (some ⟨w3.heap.size, 0, none⟩) 1 1)).alloc (.cells #[.string t, .string ⟨#[118]⟩] 31)) w9 → Xm.Mv w3 N w9 ∧ Xm.RowN w9 N #[.string sp, .string nm, (.slice (some ⟨w3.heap.size, 0, none⟩) 1 1), .slice ko ks.length kc, .string tx] ∧ Xm.NodAt (fun q => q ≠ N) w9 (.agg #[.string sp, .string nm, (.slice (some ⟨w3.heap.size, 0, none⟩) 1 1), .slice ko ks.length kc, .string tx]) (.mk sp nm [(t, ⟨#[118]⟩)] ks tx)) := Lib.hid (fun w9 hg => by
        obtain ⟨q1, q2, q3, q4⟩ := Xm.lit_put (Xm.Mv.set (q := 2) (v := (.slice (some ⟨w3.heap.size, 0, none⟩) 1 1))) (by simp [World.setCell]) (HN3.out.set 2 (.slice (some ⟨w3.heap.size, 0, none⟩) 1 1)) hg
        exact ⟨q1, q2, (HK.out w9 q1).atts (Xm.attrs_lit [(t, ⟨#[118]⟩)] q3 q4 (by simp)) (fun q hq => by simp [Value.ownBlock] at hq; omega)⟩)
      clear hl
      cases hn : Xm.name t with
      | true =>
        have Hn := Lib.hid hn
        have HE : Hid ((Xm.name t && !(t.toList == Xm.xmlns)) = !(t.toList == Xm.xmlns)) := Lib.hid (by rw [hn]; rfl)
        clear hn
        go_wp2_with (go_at_call 5; refine (rname_any t _ (by omega)).mono ?_; rintro e w9 ⟨rfl, hg9⟩; rw [Hn.out])
        have h9 := hm.out w9 hg9
        go_meet
        case rel => exact ⟨!(t.toList == Xm.xmlns), _, _, _, _, _, _, _, _, _, _, by first | rfl | (simp; done) | (simp; omega), Lib.hid (by have h := Xm.rdy2 HP.out t htz; rw [HE.out] at h; exact h), Lib.hid (h9.1.grow G3.out HNw.out), Lib.hid h9.2.1, Lib.hid h9.2.2⟩
      | false =>
        have Hn := Lib.hid hn
        have HE : Hid ((Xm.name t && !(t.toList == Xm.xmlns)) = false) := Lib.hid (by rw [hn]; rfl)
        clear hn
        go_wp2_with (go_at_call 5; refine (rname_any t _ (by omega)).mono ?_; rintro e w9 ⟨rfl, hg9⟩; rw [Hn.out])
        have h9 := hm.out w9 hg9
        go_meet
        case rel => exact ⟨false, _, _, _, _, _, _, _, _, _, _, by first | rfl | (simp; done) | (simp; omega), Lib.hid (by have h := Xm.rdy2 HP.out t htz; rw [HE.out] at h; exact h), Lib.hid (h9.1.grow G3.out HNw.out), Lib.hid h9.2.1, Lib.hid h9.2.2⟩
    · have hl : Flow.Grow w3 (w3.alloc (.cells #[.string ⟨#[98]⟩, .string t] 31)) := Flow.grow_alloc _ _
      have yb : ∀ j, (w3.alloc (.cells #[.string ⟨#[98]⟩, .string t] 31)).frozen? ⟨N, j, none⟩ = false := fun j => frozen_of_row _ N _ _ _ (HN3.out.grow hl)
      have ya := (cell_of_row (w3.alloc (.cells #[.string ⟨#[98]⟩, .string t] 31)) N 2 _ _ _ (HN3.out.grow hl)).trans rfl
      have hm : Hid (∀ w9, Flow.Grow ((w3.setCell ⟨N, 2, none⟩ (.slice (some ⟨w3.heap.size, 0, none⟩) 1 1)).alloc (.cells #[.string ⟨#[98]⟩, .string t] 31)) w9 → Xm.Mv w3 N w9 ∧ Xm.RowN w9 N #[.string sp, .string nm, (.slice (some ⟨w3.heap.size, 0, none⟩) 1 1), .slice ko ks.length kc, .string tx] ∧ Xm.NodAt (fun q => q ≠ N) w9 (.agg #[.string sp, .string nm, (.slice (some ⟨w3.heap.size, 0, none⟩) 1 1), .slice ko ks.length kc, .string tx]) (.mk sp nm [(⟨#[98]⟩, t)] ks tx)) := Lib.hid (fun w9 hg => by
        obtain ⟨q1, q2, q3, q4⟩ := Xm.lit_put (Xm.Mv.set (q := 2) (v := (.slice (some ⟨w3.heap.size, 0, none⟩) 1 1))) (by simp [World.setCell]) (HN3.out.set 2 (.slice (some ⟨w3.heap.size, 0, none⟩) 1 1)) hg
        exact ⟨q1, q2, (HK.out w9 q1).atts (Xm.attrs_lit [(⟨#[98]⟩, t)] q3 q4 (by simp)) (fun q hq => by simp [Value.ownBlock] at hq; omega)⟩)
      clear hl
      go_wp2_with (go_at_call 6; refine (rtext_any t _ (by omega)).mono ?_; rintro e w9 ⟨rfl, hg9⟩)
      have h9 := hm.out w9 hg9
      go_meet
      case rel => exact ⟨decide (Xm.rtext t 0 < 0), _, _, _, _, _, _, _, _, _, _, by first | rfl | (simp; done) | (simp; omega), Lib.hid (by have h := Xm.rdy3 HP.out t htz; rw [← Hrt.out] at h; exact h), Lib.hid (h9.1.grow G3.out HNw.out), Lib.hid h9.2.1, Lib.hid h9.2.2⟩
    · have hl : Flow.Grow w3 (w3.alloc (.cells #[.string ⟨#[98]⟩, .string ⟨#[]⟩, .string ⟨#[98]⟩, .string ⟨#[]⟩] 31)) := Flow.grow_alloc _ _
      have yb : ∀ j, (w3.alloc (.cells #[.string ⟨#[98]⟩, .string ⟨#[]⟩, .string ⟨#[98]⟩, .string ⟨#[]⟩] 31)).frozen? ⟨N, j, none⟩ = false := fun j => frozen_of_row _ N _ _ _ (HN3.out.grow hl)
      have ya := (cell_of_row (w3.alloc (.cells #[.string ⟨#[98]⟩, .string ⟨#[]⟩, .string ⟨#[98]⟩, .string ⟨#[]⟩] 31)) N 2 _ _ _ (HN3.out.grow hl)).trans rfl
      have hm : Hid (∀ w9, Flow.Grow ((w3.setCell ⟨N, 2, none⟩ (.slice (some ⟨w3.heap.size, 0, none⟩) 2 2)).alloc (.cells #[.string ⟨#[98]⟩, .string ⟨#[]⟩, .string ⟨#[98]⟩, .string ⟨#[]⟩] 31)) w9 → Xm.Mv w3 N w9 ∧ Xm.RowN w9 N #[.string sp, .string nm, (.slice (some ⟨w3.heap.size, 0, none⟩) 2 2), .slice ko ks.length kc, .string tx] ∧ Xm.NodAt (fun q => q ≠ N) w9 (.agg #[.string sp, .string nm, (.slice (some ⟨w3.heap.size, 0, none⟩) 2 2), .slice ko ks.length kc, .string tx]) (.mk sp nm [(⟨#[98]⟩, ⟨#[]⟩), (⟨#[98]⟩, ⟨#[]⟩)] ks tx)) := Lib.hid (fun w9 hg => by
        obtain ⟨q1, q2, q3, q4⟩ := Xm.lit_put (Xm.Mv.set (q := 2) (v := (.slice (some ⟨w3.heap.size, 0, none⟩) 2 2))) (by simp [World.setCell]) (HN3.out.set 2 (.slice (some ⟨w3.heap.size, 0, none⟩) 2 2)) hg
        exact ⟨q1, q2, (HK.out w9 q1).atts (Xm.attrs_lit [(⟨#[98]⟩, ⟨#[]⟩), (⟨#[98]⟩, ⟨#[]⟩)] q3 q4 (by simp)) (fun q hq => by simp [Value.ownBlock] at hq; omega)⟩)
      clear hl
      go_wp2_with fail
      have h9 := hm.out _ (Flow.grow_refl _)
      go_meet
      case rel => exact ⟨false, _, _, _, _, _, _, _, _, _, _, by first | rfl | (simp; done) | (simp; omega), Lib.hid (Xm.rdy4 HP.out), Lib.hid (h9.1.grow G3.out HNw.out), Lib.hid h9.2.1, Lib.hid h9.2.2⟩
    · have hl : Flow.Grow w3 (w3.alloc (.cells #[.string ⟨#[]⟩, .string ⟨#[107]⟩, .slice none 0 0, .slice none 0 0, .string ⟨#[]⟩] 25)) := Flow.grow_alloc _ _
      have yb : ∀ j, (w3.alloc (.cells #[.string ⟨#[]⟩, .string ⟨#[107]⟩, .slice none 0 0, .slice none 0 0, .string ⟨#[]⟩] 25)).frozen? ⟨N, j, none⟩ = false := fun j => frozen_of_row _ N _ _ _ (HN3.out.grow hl)
      have ya := (cell_of_row (w3.alloc (.cells #[.string ⟨#[]⟩, .string ⟨#[107]⟩, .slice none 0 0, .slice none 0 0, .string ⟨#[]⟩] 25)) N 3 _ _ _ (HN3.out.grow hl)).trans rfl
      have yc := (cell_of_row (w3.alloc (.cells #[.string ⟨#[]⟩, .string ⟨#[107]⟩, .slice none 0 0, .slice none 0 0, .string ⟨#[]⟩] 25)) N 4 _ _ _ (HN3.out.grow hl)).trans rfl
      have hm : Hid (∀ w9, Flow.Grow (((w3.setCell ⟨N, 3, none⟩ (.slice (some ⟨w3.heap.size, 0, none⟩) 1 1)).setCell ⟨N, 4, none⟩ (.string ⟨#[120]⟩)).alloc (.cells #[.string ⟨#[]⟩, .string ⟨#[107]⟩, .slice none 0 0, .slice none 0 0, .string ⟨#[]⟩] 25)) w9 → Xm.Mv w3 N w9 ∧ Xm.RowN w9 N #[.string sp, .string nm, .slice ao l.length ac, (.slice (some ⟨w3.heap.size, 0, none⟩) 1 1), .string ⟨#[120]⟩] ∧ Xm.NodAt (fun q => q ≠ N) w9 (.agg #[.string sp, .string nm, .slice ao l.length ac, (.slice (some ⟨w3.heap.size, 0, none⟩) 1 1), .string ⟨#[120]⟩]) (.mk sp nm l [.mk ⟨#[]⟩ ⟨#[107]⟩ [] [] ⟨#[]⟩] ⟨#[120]⟩)) := Lib.hid (fun w9 hg => by
        obtain ⟨q1, q2, q3, q4⟩ := Xm.lit_put ((Xm.Mv.set (q := 3) (v := (.slice (some ⟨w3.heap.size, 0, none⟩) 1 1))).trans (Xm.Mv.set (q := 4) (v := .string ⟨#[120]⟩))) (by simp [World.setCell]) ((HN3.out.set 3 (.slice (some ⟨w3.heap.size, 0, none⟩) 1 1)).set 4 (.string ⟨#[120]⟩)) hg
        exact ⟨q1, q2, (((HK.out w9 q1).kid1 q4 (by omega) q3)).chg _ _ _⟩)
      clear hl
      go_wp2_with fail
      have h9 := hm.out _ (Flow.grow_refl _)
      go_meet
      case rel => exact ⟨false, _, _, _, _, _, _, _, _, _, _, by first | rfl | (simp; done) | (simp; omega), Lib.hid (Xm.rdy5 HP.out), Lib.hid (h9.1.grow G3.out HNw.out), Lib.hid h9.2.1, Lib.hid h9.2.2⟩
    · have hl : Flow.Grow w3 (w3.alloc (.cells #[.string ⟨#[]⟩, .string ⟨#[]⟩, .slice none 0 0, .slice none 0 0, .string ⟨#[]⟩] 25)) := Flow.grow_alloc _ _
      have yb : ∀ j, (w3.alloc (.cells #[.string ⟨#[]⟩, .string ⟨#[]⟩, .slice none 0 0, .slice none 0 0, .string ⟨#[]⟩] 25)).frozen? ⟨N, j, none⟩ = false := fun j => frozen_of_row _ N _ _ _ (HN3.out.grow hl)
      have ya := (cell_of_row (w3.alloc (.cells #[.string ⟨#[]⟩, .string ⟨#[]⟩, .slice none 0 0, .slice none 0 0, .string ⟨#[]⟩] 25)) N 3 _ _ _ (HN3.out.grow hl)).trans rfl
      have yc := (cell_of_row (w3.alloc (.cells #[.string ⟨#[]⟩, .string ⟨#[]⟩, .slice none 0 0, .slice none 0 0, .string ⟨#[]⟩] 25)) N 4 _ _ _ (HN3.out.grow hl)).trans rfl
      have hm : Hid (∀ w9, Flow.Grow (((w3.setCell ⟨N, 3, none⟩ (.slice (some ⟨w3.heap.size, 0, none⟩) 1 1)).setCell ⟨N, 4, none⟩ (.string ⟨#[]⟩)).alloc (.cells #[.string ⟨#[]⟩, .string ⟨#[]⟩, .slice none 0 0, .slice none 0 0, .string ⟨#[]⟩] 25)) w9 → Xm.Mv w3 N w9 ∧ Xm.RowN w9 N #[.string sp, .string nm, .slice ao l.length ac, (.slice (some ⟨w3.heap.size, 0, none⟩) 1 1), .string ⟨#[]⟩] ∧ Xm.NodAt (fun q => q ≠ N) w9 (.agg #[.string sp, .string nm, .slice ao l.length ac, (.slice (some ⟨w3.heap.size, 0, none⟩) 1 1), .string ⟨#[]⟩]) (.mk sp nm l [.mk ⟨#[]⟩ ⟨#[]⟩ [] [] ⟨#[]⟩] ⟨#[]⟩)) := Lib.hid (fun w9 hg => by
        obtain ⟨q1, q2, q3, q4⟩ := Xm.lit_put ((Xm.Mv.set (q := 3) (v := (.slice (some ⟨w3.heap.size, 0, none⟩) 1 1))).trans (Xm.Mv.set (q := 4) (v := .string ⟨#[]⟩))) (by simp [World.setCell]) ((HN3.out.set 3 (.slice (some ⟨w3.heap.size, 0, none⟩) 1 1)).set 4 (.string ⟨#[]⟩)) hg
        exact ⟨q1, q2, (((HK.out w9 q1).kid1 q4 (by omega) q3)).chg _ _ _⟩)
      clear hl
      go_wp2_with fail
      have h9 := hm.out _ (Flow.grow_refl _)
      go_meet
      case rel => exact ⟨false, _, _, _, _, _, _, _, _, _, _, by first | rfl | (simp; done) | (simp; omega), Lib.hid (Xm.rdy6 HP.out), Lib.hid (h9.1.grow G3.out HNw.out), Lib.hid h9.2.1, Lib.hid h9.2.2⟩
    · have hm : Hid (∀ w9, Flow.Grow (w3.setCell ⟨N, 0, none⟩ (.string t)) w9 → Xm.Mv w3 N w9 ∧ Xm.RowN w9 N #[.string t, .string nm, .slice ao l.length ac, .slice ko ks.length kc, .string tx]) := Lib.hid (fun w9 hg => ⟨Xm.Mv.set.trans (Xm.Mv.of N hg), (HN3.out.set 0 (.string t)).grow hg⟩)
      go_wp2_with (go_at_call 6; refine (rtext_any t _ (by omega)).mono ?_; rintro e w9 ⟨rfl, hg9⟩)
      have h9 := hm.out w9 hg9
      go_meet
      case rel => exact ⟨_, _, _, _, _, _, _, _, _, _, _, rfl, Lib.hid (by have h := Xm.rdy7 HP.out t htz; rw [← Hrt.out] at h; exact h), Lib.hid (h9.1.grow G3.out HNw.out), Lib.hid h9.2, Lib.hid ((HK.out w9 h9.1).chg _ _ _)⟩
  case rest =>
    obtain ⟨W, y, sa, sb, sc, oa, ok, na, ca, nk, ck, rfl, HRd, HGx, HRx, HNx⟩ := hcut
    rename World => wx
    clear y0 y1 y2 y3 y4 yf hN3 hbb htz
    have HXt : Hid (∀ wq, Flow.Grow wx wq → wq.cell? ⟨N, 0, none⟩ = some (.string sa) ∧ wq.cell? ⟨N, 1, none⟩ = some (.string sb) ∧ wq.cell? ⟨N, 2, none⟩ = some (.slice oa na ca) ∧ wq.cell? ⟨N, 3, none⟩ = some (.slice ok nk ck) ∧ wq.cell? ⟨N, 4, none⟩ = some (.string sc)) := Lib.hid (fun w' hg =>
      ⟨(cell_of_row w' N 0 _ _ _ (HRx.out.grow hg)).trans rfl, (cell_of_row w' N 1 _ _ _ (HRx.out.grow hg)).trans rfl, (cell_of_row w' N 2 _ _ _ (HRx.out.grow hg)).trans rfl, (cell_of_row w' N 3 _ _ _ (HRx.out.grow hg)).trans rfl, (cell_of_row w' N 4 _ _ _ (HRx.out.grow hg)).trans rfl⟩)
    have HMa : Hid (∀ wq, Flow.Grow wx wq → Calls Try.prog 9 #[.agg #[.string sa, .string sb, .slice oa na ca, .slice ok nk ck, .string sc]] wq fun e w' => e = .returned (.bool W) ∧ Flow.Grow wq w') := Lib.hid (fun wq hq => by
      have h := may_any y _ _ wq (by have := HRd.out.cnt; omega) (HNx.out.grow hq) HRd.out.sz
      rw [HRd.out.may] at h
      exact h)
    have HTx : Hid (∀ wq, Flow.Grow wx wq → Calls Try.prog 10 #[.agg #[.string sa, .string sb, .slice oa na ca, .slice ok nk ck, .string sc]] wq fun e w' => e = .returned (.string (Xm.wtext y)) ∧ Flow.Grow wq w') := Lib.hid (fun wq hq =>
      wtext_any y _ _ wq (by have := HRd.out.cnt; omega) (HNx.out.grow hq) HRd.out.sz (by have := HRd.out.doc; omega))
    cases W with
    | true =>
      have hz := HRd.out.text.1 rfl
      have t1 := Xm.emp_n hz
      have t2 := Xm.emp_f hz
      clear hz
      go_wp2_with (first
        | (go_at_call 8; refine (awake7 _).mono ?_; rintro e w4 ⟨rfl, hg4⟩; obtain ⟨z0, z1, z2, z3, z4⟩ := HXt.out w4 hg4; have G4 := Lib.hid hg4; clear hg4)
        | (go_at_call 9; refine (HMa.out _ G4.out).mono ?_; rintro e w5 ⟨rfl, hg5⟩; have G5 := Lib.hid (G4.out.trans hg5); obtain ⟨z0, z1, z2, z3, z4⟩ := HXt.out w5 G5.out; clear hg5)
        | (go_at_call 10; refine (HTx.out _ G5.out).mono ?_; rintro e w6 ⟨rfl, hg6⟩))
      go_ret
      exact ⟨rfl, (HGx.out.trans G5.out).trans hg6⟩
    | false =>
      have hz := HRd.out.text.2 rfl
      have t1 := Xm.emp_t hz
      clear hz
      go_wp2_with (first
        | (go_at_call 8; refine (awake7 _).mono ?_; rintro e w4 ⟨rfl, hg4⟩; obtain ⟨z0, z1, z2, z3, z4⟩ := HXt.out w4 hg4; have G4 := Lib.hid hg4; clear hg4)
        | (go_at_call 9; refine (HMa.out _ G4.out).mono ?_; rintro e w5 ⟨rfl, hg5⟩; have G5 := Lib.hid (G4.out.trans hg5); obtain ⟨z0, z1, z2, z3, z4⟩ := HXt.out w5 G5.out; clear hg5)
        | (go_at_call 10; refine (HTx.out _ G5.out).mono ?_; rintro e w6 ⟨rfl, hg6⟩))
      go_ret
      exact ⟨rfl, (HGx.out.trans G5.out).trans hg6⟩
end Go.Proofs.Ytdpkhmfolmcejaa
