/- WriteMay's walk. -/
import Derived.Test.YtdpkhmfolmcejaaGreatDoorWMayP
import Derived.Test.YtdpkhmfolmcejaaGreatDoorNear
import Derived.Test.YtdpkhmfolmcejaaGreatDoorMRn
import Derived.Test.YtdpkhmfolmcejaaGreatDoorMRef
import Derived.Deep.CutBlock
namespace Go.Proofs.YtdpkhmfolmcejaaGreatDoor
open Go.RowKit
namespace Xm
theorem NodAt.leaf {F : Nat → Prop} {w : World} (sp nm tx : ByteArray) : NodAt F w (.agg #[.string sp, .string nm, .slice none 0 0, .slice none 0 0, .string tx]) (.mk sp nm [] [] tx) :=
  .mk sp nm tx _ _ [] [] [] 0 0 (.inl ⟨rfl, rfl⟩) (fun q hq => by simp [Value.ownBlock] at hq) (.inl ⟨rfl, none, 0, rfl⟩) rfl (fun h => absurd rfl h) (fun j y v h => by simp at h)
theorem NodAt.parts {F : Nat → Prop} {w : World} {u : Value} {sp nm tx : ByteArray} {l : List (ByteArray × ByteArray)} {ks : List Nod} (h : NodAt F w u (.mk sp nm l ks tx)) : ∃ ao ac ko kc, u = .agg #[.string sp, .string nm, .slice ao l.length ac, .slice ko ks.length kc, .string tx] := by
  cases h with
  | mk _ _ _ av kv _ _ vs g off hA haF hk hl hc hn =>
    obtain ⟨ao, cap, rfl⟩ := hA.shape
    rcases hk with ⟨rfl, a, c, rfl⟩ | ⟨c, rfl, _⟩
    · exact ⟨ao, cap, a, c, rfl⟩
    · exact ⟨ao, cap, _, c, rfl⟩
end Xm
set_option maxRecDepth 100000 in
set_option maxHeartbeats 1000000 in
theorem awake7 (w : World) : Calls Tryz.prog 8 #[] w fun e w' => e = .returned (.bool true) ∧ Flow.Grow w w' := by
  have h1 : Xm.wtext (.mk ⟨#[]⟩ ⟨#[97]⟩ [] [] ⟨#[]⟩) = ⟨#[60, 97, 47, 62, 10]⟩ := by kernel_rfl
  have h2 : Xm.mayB (.mk ⟨#[]⟩ ⟨#[97]⟩ [] [] ⟨#[120]⟩) = true := by kernel_rfl
  have h3 : Xm.mayB (.mk ⟨#[]⟩ ⟨#[97]⟩ [] [] ⟨#[32, 120]⟩) = false := by kernel_rfl
  have hz : ∀ t : ByteArray, t.size ≤ 2 → Xm.Szd (.mk ⟨#[]⟩ ⟨#[97]⟩ [] [] t) := fun t ht => by rw [Xm.Szd]; exact ⟨by decide, by decide, by omega, fun a h => (by cases h), trivial⟩
  have hc : ∀ t : ByteArray, Xm.cnt (.mk ⟨#[]⟩ ⟨#[97]⟩ [] [] t) ≤ 1000000000 := fun t => by rw [Xm.cnt, Xm.cntL]; omega
  have C1 : Hid (∀ w, Calls Tryz.prog 6 #[.agg #[.string ⟨#[]⟩, .string ⟨#[97]⟩, .slice none 0 0, .slice none 0 0, .string ⟨#[]⟩]] w fun e w' => e = .returned (.string ⟨#[60, 97, 47, 62, 10]⟩) ∧ Flow.Grow w w') := Lib.hid (fun w => by
    rw [← h1]
    exact wtext_any _ (fun _ => True) _ w (hc _) (Xm.NodAt.leaf _ _ _) (hz _ (by decide)) (by decide +kernel))
  have CM : Hid (∀ t : ByteArray, t.size ≤ 2 → ∀ w, Calls Tryz.prog 9 #[.agg #[.string ⟨#[]⟩, .string ⟨#[97]⟩, .slice none 0 0, .slice none 0 0, .string t]] w fun e w' => e = .returned (.bool (Xm.mayB (.mk ⟨#[]⟩ ⟨#[97]⟩ [] [] t))) ∧ Flow.Grow w w') := Lib.hid (fun t ht w =>
    may_any _ (fun _ => True) _ w (hc _) (Xm.NodAt.leaf _ _ _) (hz _ ht))
  have H2 := Lib.hid h2
  have H3 := Lib.hid h3
  have HG := Lib.hid (Flow.grow_refl w)
  clear h1 h2 h3 hz hc
  go_enter Tryz.func8, Tryz.ntmps8
  go_wp2_with (first
    | (go_at_call 6; refine (C1.out _).mono ?_; rintro e w1 ⟨rfl, hg1⟩; have HG := Lib.hid (HG.out.trans hg1); clear hg1)
    | (go_at_call 9; refine (CM.out _ (by decide) _).mono ?_; rintro e w2 ⟨rfl, hg2⟩; (first | rw [H2.out] | rw [H3.out]); have HG := Lib.hid (HG.out.trans hg2); clear hg2))
  go_ret
  exact ⟨rfl, HG.out⟩
end Go.Proofs.YtdpkhmfolmcejaaGreatDoor
