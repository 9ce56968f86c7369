/- codec.Get by its contract: what is read of bytes is what 'Num.get' says. -/
import Derived.Test.YtjapakmpnkbemaaProg
import Derived.Test.YtjapakmpnkbemaaNum
import Derived.Outline
import Derived.Test.YtjapakmpnkbemaaBytes
namespace Go.Proofs.Ytjapakmpnkbemaa
open Go.RowKit

set_option maxHeartbeats 400000 in
theorem get_nil (a : Option Addr) (cap : Nat) (w : World) :
    Calls Try.prog 7 #[.slice a 0 cap] w fun e w' => e = .returned (.tuple #[.int .i64 0, .int .i64 0]) ∧ w = w' := by
  go_enter Try.func7, Try.ntmps7
  go_wp2
  refine wp_loop_rounds 1 ?_
  rw [rounds_succ]
  go_wp2
  go_ret2
  exact ⟨rfl, rfl⟩

theorem ret_pair {a b c d : Int} (h : a = c) (h' : b = d) : Ending.returned (.tuple #[.int .i64 a, .int .i64 b]) = .returned (.tuple #[.int .i64 c, .int .i64 d]) := by rw [h, h']

set_option maxRecDepth 100000 in
set_option maxHeartbeats 400000 in
theorem get_some (b off cap : Nat) (bs : List UInt8) (w : World) (hl : bs.length ≤ 140737488351232)
    (hc : ∀ j, j < bs.length → w.cell? ⟨b, off + j, none⟩ = some (.int .u8 ((bs.getD j 0).toNat : Int))) :
    Calls Try.prog 7 #[.slice (some ⟨b, off, none⟩) bs.length cap] w fun e w' =>
      e = .returned (.tuple #[.int .i64 (Num.get bs).1, .int .i64 (Num.get bs).2]) ∧ w = w' := by
  obtain ⟨len, hlen⟩ : ∃ len, len = bs.length := ⟨_, rfl⟩
  rw [← hlen] at hc hl ⊢
  have Hlen := Lib.hid hlen
  clear hlen
  go_enter Try.func7, Try.ntmps7
  go_wp2
  go_loop [4, 5] (fun n i => ∃ k m : Nat, k ≤ len ∧ k ≤ 5 ∧ i = .int .i64 k ∧ m < 2 ^ (7 * k) ∧ n = .int .i64 m ∧ Hid (Num.get bs = Num.scan k m (bs.drop k) (5 - k))) (fun _ i => len - (intOf i).toNat)
  case atStart => exact ⟨0, 0, by omega, by omega, rfl, by simp, rfl, rfl⟩
  case round =>
    obtain ⟨k, m, hk, hk5, rfl, hm, rfl, Hget⟩ := hrel
    by_cases hkl : k < len
    · by_cases hk5' : k < 5
      · have hcell := hc k hkl
        obtain ⟨c, hcd⟩ : ∃ c : UInt8, c = bs.getD k 0 := ⟨_, rfl⟩
        rw [← hcd] at hcell
        have hdrop : bs.drop k = c :: bs.drop (k + 1) := by
          rw [hcd, List.drop_eq_getElem_cons (by rw [← Hlen.out]; exact hkl), List.getD_eq_getElem?_getD, List.getElem?_eq_getElem (by rw [← Hlen.out]; exact hkl), Option.getD_some]
        rw [hdrop] at Hget
        have hor := Num.or_up (c := c.toNat) hm (by omega)
        have hup := Num.up_lt (c := c.toNat) hm
        have h255 := c.toNat_lt
        have Hmore : Hid (128 ≤ c.toNat → _) := Lib.hid fun h => Num.scan_more (n := m) (r := bs.drop (k + 1)) hk5' h
        have Hnone : Hid (c.toNat < 128 → _ → _) := Lib.hid fun h hb => Num.scan_none (k := k) (n := m) (r := bs.drop (k + 1)) hk5' h hb
        have Hone : Hid (c.toNat < 128 → _ → _) := Lib.hid fun h hb => Num.scan_one (k := k) (n := m) (r := bs.drop (k + 1)) hk5' h hb
        clear hdrop hcd hc hm
        generalize m + c.toNat % 128 * 2 ^ (7 * k) = M at *
        generalize hcn : c.toNat = cn at *
        clear hcn
        by_cases hc128 : 128 ≤ cn
        · go_wp2
          go_round
          case rel => exact ⟨k + 1, M, by omega, by omega, by go_num, hup, rfl, Lib.hid (Hget.out.trans (Hmore.out hc128))⟩
          case measure => simp [intOf]; omega
        · have hlo : cn < 128 := by omega
          clear hc128
          by_cases hbad : (0 < k ∧ cn = 0) ∨ 2147483647 < M
          · have HR : Hid (Num.get bs = (0, 0)) := Lib.hid (Hget.out.trans (Hnone.out hlo hbad))
            clear Hget Hnone Hone Hmore hup
            by_cases h0 : 0 < k
            · by_cases hc0 : cn = 0
              · clear hbad
                go_wp2
                go_ret2
                exact ⟨ret_pair (by rw [HR.out]; rfl) (by rw [HR.out]; rfl), rfl⟩
              · have hM : 2147483647 < M := by omega
                have hb0 : ((cn : Int) == 0) = false := by simpa using hc0
                clear hbad
                go_wp2
                go_ret2
                exact ⟨ret_pair (by rw [HR.out]; rfl) (by rw [HR.out]; rfl), rfl⟩
            · have hM : 2147483647 < M := by omega
              clear hbad
              go_wp2
              go_ret2
              exact ⟨ret_pair (by rw [HR.out]; rfl) (by rw [HR.out]; rfl), rfl⟩
          · have HR : Hid (Num.get bs = (M, k + 1)) := Lib.hid (Hget.out.trans (Hone.out hlo hbad))
            clear Hget Hnone Hone Hmore hup
            have hM : M ≤ 2147483647 := by omega
            by_cases h0 : 0 < k
            · have hb0 : ((cn : Int) == 0) = false := by simp; omega
              clear hbad
              go_wp2
              go_ret2
              exact ⟨ret_pair (by rw [HR.out]) (by rw [HR.out]; simp), rfl⟩
            · clear hbad
              go_wp2
              go_ret2
              exact ⟨ret_pair (by rw [HR.out]) (by rw [HR.out]; simp), rfl⟩
      · have HR : Hid (Num.get bs = (0, 0)) := Lib.hid (Hget.out.trans (Num.scan_end _ _ _ (.inr (by omega))))
        have hcell := hc k hkl
        clear Hget
        go_wp2
        go_ret2
        exact ⟨ret_pair (by rw [HR.out]; rfl) (by rw [HR.out]; rfl), rfl⟩
    · have HR : Hid (Num.get bs = (0, 0)) := Lib.hid (Hget.out.trans (Num.scan_end _ _ _ (.inl (List.drop_eq_nil_of_le (by rw [← Hlen.out]; omega)))))
      clear Hget
      go_wp2
      go_ret2
      exact ⟨ret_pair (by rw [HR.out]; rfl) (by rw [HR.out]; rfl), rfl⟩

theorem get_any {w : World} {v : Value} {bs : List UInt8} (h : Bytes w v bs) :
    Calls Try.prog 7 #[v] w fun e w' => e = .returned (.tuple #[.int .i64 (Num.get bs).1, .int .i64 (Num.get bs).2]) ∧ w = w' := by
  by_cases hb : bs = []
  · subst hb
    obtain ⟨a, cap, rfl, _⟩ := h
    exact get_nil a cap w
  · obtain ⟨b, off, cap, rfl, _, hc⟩ := h.shape hb
    obtain ⟨_, _, _, hm, _⟩ := h
    exact get_some b off cap bs w hm hc
end Go.Proofs.Ytjapakmpnkbemaa
