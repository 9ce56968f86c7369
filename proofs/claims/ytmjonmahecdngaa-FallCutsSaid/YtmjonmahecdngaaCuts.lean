/- fall.Cuts by its contract. -/
import Derived.Test.YtmjonmahecdngaaOwn
import Derived.Test.YtmjonmahecdngaaFlow
import Derived.Test.YtmjonmahecdngaaBytes
import Derived.Test.YtmjonmahecdngaaProg
namespace Go.Proofs.Ytmjonmahecdngaa
open Go.RowKit

namespace Cuts
/-- so many cuts, each S behind the one ahead -/
def list (S k : Nat) : List Int := (List.range k).map fun i => ((i * S : Nat) : Int)
theorem list_len (S k : Nat) : (list S k).length = k := by simp [list]
theorem list_snoc (S k : Nat) : list S (k + 1) = list S k ++ [((k * S : Nat) : Int)] := by simp [list, List.range_succ]
theorem list_get {S k i : Nat} (h : i < k) : (list S k)[i]? = some ((i * S : Nat) : Int) := by simp [list, h]
def count (M S : Nat) : Nat := min (M / S + 1) 1000
theorem count_full {M S k : Nat} (hS : 0 < S) (hk : k = 999) (h : k * S ≤ M) : count M S = k + 1 := by
  unfold count
  have : k ≤ M / S := (Nat.le_div_iff_mul_le hS).2 h
  omega
theorem count_end {M S k : Nat} (hS : 0 < S) (hk : k ≤ 999) (h : ¬ k * S ≤ M) (h0 : k = 0 ∨ (k - 1) * S ≤ M) : count M S = k := by
  unfold count
  have h1 : ¬ k ≤ M / S := fun e => h ((Nat.le_div_iff_mul_le hS).1 e)
  rcases h0 with h0 | h0
  · subst h0; omega
  · have h2 : k - 1 ≤ M / S := (Nat.le_div_iff_mul_le hS).2 h0
    omega
end Cuts
theorem info_int : (Try.prog.info? 3).map (fun i => (i.zero, i.size, i.bytes)) = some (some (.int .i64 0), 1, 8) := by kernel_rfl
/-- one element behind a slice of the call's own -/
theorem own_step {w wr w1 : World} {b v' : Value} {o : Obj} {n : Nat} (h : Flow.Grow w wr) (hb : b = .slice none 0 0 ∨ Fresh w b) (k : (wr.alloc o).grownBy w1 b.ownBlock) (mv : Moved (wr.alloc o) b v')
    (hF : Full b n → (wr.alloc o).grownBy w1 none ∧ Fresh (wr.alloc o) v') : Flow.Grow w w1 ∧ (v' = .slice none 0 0 ∨ Fresh w v') := by
  have ha : Flow.Grow w (wr.alloc o) := h.trans (Flow.grow_alloc _ _)
  rcases hb with hb | hb
  · obtain ⟨h1, g, h2, h3⟩ := hF (.inl hb)
    exact ⟨ha.trans h1, .inr ⟨g, h2, Nat.le_trans ha.size h3⟩⟩
  · refine ⟨grow_fresh ha hb k, .inr ?_⟩
    rcases mv with e | ⟨g, h2, h3⟩
    · obtain ⟨g, hg', hs⟩ := hb
      exact ⟨g, e.trans hg', hs⟩
    · exact ⟨g, h2, Nat.le_trans ha.size h3⟩
def CutsPost (w : World) (M S : Nat) (e : Ending) (w' : World) : Prop :=
  ∃ v', e = .returned v' ∧ (w'.ownsRow 0 3 1 v' (Cuts.count M S) ((Cuts.list S (Cuts.count M S)).map (Value.int .i64)) ∧ (v' = .slice none 0 0 ∨ Fresh w v')) ∧ Flow.Grow w w'

set_option maxRecDepth 100000 in
set_option maxHeartbeats 400000 in
theorem cuts_any (a0 a1 : Int) (M S : Nat) (hM1 : M ≤ 1048576) (hS0 : 0 < S) (hS1 : S ≤ 9223372036854775807)
    (hA : (a0 < 0 ∧ M ≤ 0) ∨ (0 ≤ a0 ∧ a0 ≤ 1048576 ∧ (M : Int) ≤ a0 ∧ a0 ≤ M) ∨ (1048576 < a0 ∧ 1048576 ≤ M)) (hB : (a1 < 1 ∧ S ≤ 1) ∨ (1 ≤ a1 ∧ (S : Int) ≤ a1 ∧ a1 ≤ S)) (w : World) :
    Calls Try.prog 20 #[.int .i64 a0, .int .i64 a1] w (CutsPost w M S) := by
  obtain ⟨i0, hi, hz0, hz1, hz2⟩ := info_parts info_int
  have HA := Lib.hid hA
  have HB := Lib.hid hB
  clear hA hB
  go_enter Try.func20, Try.ntmps20
  go_wp2_with fail
  go_loopw [5, 6] (fun b n wr => ∃ k : Nat, k ≤ 999 ∧ n = .int .i64 ((k * S : Nat) : Int) ∧ Hid (k = 0 ∨ (k - 1) * S ≤ M) ∧ wr.ownsRow 0 3 1 b k ((Cuts.list S k).map (Value.int .i64)) ∧ Hid (Flow.Grow w wr ∧ (b = .slice none 0 0 ∨ Fresh w b))) (fun _ n _ => M + 1 - (intOf n).toNat)
  case atStart => exact ⟨0, by omega, by simp, Lib.hid (.inl rfl), World.ownsRow_nil _ _ _ _, Lib.hid ⟨Flow.grow_refl _, .inl rfl⟩⟩
  case round =>
    obtain ⟨k, hk, rfl, Hk, hown, HG⟩ := hrel
    obtain ⟨n, hn⟩ : ∃ n, n = k * S := ⟨_, rfl⟩
    by_cases hle : k * S ≤ M
    · have hS2 : k = 0 ∨ S ≤ M := by
        rcases Nat.eq_zero_or_pos k with h | h
        · exact .inl h
        · exact .inr (Nat.le_trans (Nat.le_mul_of_pos_left S h) hle)
      have hsum : n + S ≤ 9223372036854775807 := by
        rcases hS2 with h | h
        · subst h; rw [hn]; simpa using hS1
        · rw [← hn] at hle; omega
      have Hsucc : Hid (n + S = (k + 1) * S) := Lib.hid (by rw [hn, Nat.succ_mul])
      have Hn := Lib.hid hn
      rw [← hn] at hle
      have Hle : Hid (k * S ≤ M) := Lib.hid (by rw [← hn]; exact hle)
      rw [← hn]
      clear hn hS2
      by_cases h9 : k = 999
      · have hge : decide ((k : Int) + 1 < 1000) = false := by simp; omega
        have Hc := Lib.hid (Cuts.count_full hS0 h9 Hle.out)
        have hk9 : 999 ≤ k := by omega
        clear h9
        rcases HA.out with ⟨q1, q2⟩ | ⟨q1, q2, q3, q4⟩ | ⟨q1, q2⟩
        all_goals
          rcases HB.out with ⟨r1, r2⟩ | ⟨r1, r2, r3⟩
          all_goals
            go_wp2_with (at_builtin; refine wpList_append_base _ rfl _ _ 38 rfl 3 i0 (.int .i64 0) 1 8 Try.underlying38 hi hz0 hz1 hz2 rfl (by decide) _ _ _ rfl (.inl (hown.alloc _)) ⟨_, 0, none⟩ 1 1 (by decide) [_] rfl rfl one_new ?c1 ?c2 ?c3 ?_)
            case c1 => intro u hu; simp at hu; subst hu; rfl
            case c2 => unfold maxLen; omega
            case c3 => omega
            intro v' w1 hown2 hg2 hm2 hf2
            have HG' : Hid (_ ∧ _) := Lib.hid (own_step HG.out.1 HG.out.2 hg2 hm2 hf2)
            clear hown HG hg2 hm2 hf2
            obtain ⟨ga, cap2, rfl⟩ : ∃ ga cap2, v' = .slice (some ga) (k + 1) cap2 := by
              rcases hown2.2 with ⟨_, h⟩ | ⟨g, cap, cur, h, _⟩
              · omega
              · exact ⟨_, _, h⟩
            go_wp2_with fail
            go_ret
            refine ⟨_, rfl, ⟨?_, HG'.out.2⟩, HG'.out.1⟩
            rw [Hc.out, Cuts.list_snoc, ← Hn.out]
            first | simpa using hown2 | (have e0 : n = 0 := by omega
                                         subst e0; simpa using hown2)
      · have hge : decide ((k : Int) + 1 < 1000) = true := by simp; omega
        have hk9 : k < 999 := by omega
        clear h9
        rcases HA.out with ⟨q1, q2⟩ | ⟨q1, q2, q3, q4⟩ | ⟨q1, q2⟩
        all_goals
          rcases HB.out with ⟨r1, r2⟩ | ⟨r1, r2, r3⟩
          all_goals
            go_wp2_with (at_builtin; refine wpList_append_base _ rfl _ _ 38 rfl 3 i0 (.int .i64 0) 1 8 Try.underlying38 hi hz0 hz1 hz2 rfl (by decide) _ _ _ rfl (.inl (hown.alloc _)) ⟨_, 0, none⟩ 1 1 (by decide) [_] rfl rfl one_new ?c1 ?c2 ?c3 ?_)
            case c1 => intro u hu; simp at hu; subst hu; rfl
            case c2 => unfold maxLen; omega
            case c3 => omega
            intro v' w1 hown2 hg2 hm2 hf2
            have HG' : Hid (_ ∧ _) := Lib.hid (own_step HG.out.1 HG.out.2 hg2 hm2 hf2)
            clear hown HG hg2 hm2 hf2
            obtain ⟨ga, cap2, rfl⟩ : ∃ ga cap2, v' = .slice (some ga) (k + 1) cap2 := by
              rcases hown2.2 with ⟨_, h⟩ | ⟨g, cap, cur, h, _⟩
              · omega
              · exact ⟨_, _, h⟩
            go_wp2_with fail
            go_roundw
            case rel =>
              refine ⟨k + 1, by omega, by rw [← Hsucc.out]; congr 1; omega, Lib.hid (.inr (by simpa using Hle.out)), ?_, HG'⟩
              rw [Cuts.list_snoc, ← Hn.out]
              first | simpa using hown2 | (have e0 : n = 0 := by omega
                                           subst e0; simpa using hown2)
            case measure => simp [intOf]; omega
    · have Hc := Lib.hid (Cuts.count_end hS0 hk hle Hk.out)
      rw [← hn] at hle ⊢
      clear hn
      rcases HA.out with ⟨q1, q2⟩ | ⟨q1, q2, q3, q4⟩ | ⟨q1, q2⟩
      all_goals
        go_wp2_with fail
        go_ret
        exact ⟨_, rfl, ⟨by rw [Hc.out]; exact hown, HG.out.2⟩, HG.out.1⟩
end Go.Proofs.Ytmjonmahecdngaa
