/- mark.Of, mark.All by their contracts. -/
import Derived.Test.YtjapakmpnkbemaaDoorMarkWalk
import Derived.Test.YtjapakmpnkbemaaDoorSeg
namespace Go.Proofs.YtjapakmpnkbemaaDoor
open Go.RowKit
namespace Mark
def ofL (m : Nat) : List Int → Nat
  | [] => m
  | p :: l => ofL (m ||| bit p) l
theorem ofL_snoc (m : Nat) (l : List Int) (p : Int) : ofL m (l ++ [p]) = ofL m l ||| bit p := by
  induction l generalizing m with
  | nil => rfl
  | cons x l ih => exact ih _
theorem ofL_lt {m : Nat} (h : m < 2 ^ 64) (l : List Int) : ofL m l < 2 ^ 64 := by
  induction l generalizing m with
  | nil => exact h
  | cons x l ih => exact ih (Nat.or_lt_two_pow h (bit_lt x))
def allL (m : Nat) (l : List Int) : Bool := l.all (has m)
end Mark

set_option maxRecDepth 100000 in
set_option maxHeartbeats 400000 in
theorem of_any (v : Value) (zs : List Int) (w : World) (hz : zs.length ≤ 9223372036854775807) (h : Ints w v zs) :
    Calls Tryd.prog 8 #[v] w fun e w' => e = .returned (.int .u64 (Mark.ofL 0 zs : Int)) ∧ w = w' := by
  by_cases hn : zs = []
  · subst hn
    obtain ⟨a, cap, rfl, _⟩ := h
    have H : Hid (Mark.ofL 0 [] = 0) := Lib.hid rfl
    go_enter Tryd.func8, Tryd.ntmps8
    go_wp2_with fail
    refine wp_loop_rounds 1 ?_
    rw [rounds_succ]
    go_wp2_with fail
    go_ret
    exact ⟨rfl, rfl⟩
  · obtain ⟨b, off, cap, rfl, _, hc⟩ := h.shape hn
    obtain ⟨len, hlen⟩ : ∃ len, len = zs.length := ⟨_, rfl⟩
    rw [← hlen] at hc hz ⊢
    have Hlen := Lib.hid hlen
    clear hlen hn h
    go_enter Tryd.func8, Tryd.ntmps8
    go_wp2_with fail
    go_loop [3, 8] (fun m i => ∃ k : Nat, k ≤ len ∧ i = .int .i64 k ∧ m = .int .u64 (Mark.ofL 0 (zs.take k) : Int)) (fun _ i => len - (intOf i).toNat)
    case atStart => exact ⟨0, by omega, rfl, rfl⟩
    case round =>
      obtain ⟨k, hk, rfl, rfl⟩ := hrel
      by_cases hkl : k < len
      · have hcell := hc k hkl
        have hs : Mark.ofL 0 (zs.take (k + 1)) = Mark.ofL 0 (zs.take k) ||| Mark.bit (zs.getD k 0) := by
          have hk' : k < zs.length := by rw [← Hlen.out]; exact hkl
          rw [List.take_succ_eq_append_getElem hk', Mark.ofL_snoc]
          simp [hk']
        have Hs := Lib.hid hs
        have hlt := Mark.ofL_lt (m := 0) (by omega) (zs.take k)
        clear hs hc
        generalize zs.getD k 0 = z at *
        generalize Mark.ofL 0 (zs.take k) = M at *
        have hb := Mark.bit_lt z
        have hor := bits_or_u64_nat M (Mark.bit z) (by omega) (by omega)
        go_wp2_with (go_at_call 15; refine (bit_any _ _).mono ?_; rintro e w' ⟨rfl, rfl⟩)
        go_round
        case rel => exact ⟨k + 1, by omega, by go_num, by rw [Hs.out]⟩
        case measure => simp [intOf]; omega
      · clear hc
        have HE : Hid (zs.take k = zs) := Lib.hid (List.take_of_length_le (by rw [← Hlen.out]; omega))
        go_wp2_with fail
        go_ret
        exact ⟨ret_u64 (by rw [HE.out]), rfl⟩

set_option maxRecDepth 100000 in
set_option maxHeartbeats 400000 in
theorem all_any (m : Nat) (hm : m < 2 ^ 64) (v : Value) (zs : List Int) (w : World) (hz : zs.length ≤ 9223372036854775807) (h : Ints w v zs) :
    Calls Tryd.prog 9 #[.int .u64 (m : Int), v] w fun e w' => e = .returned (.bool (Mark.allL m zs)) ∧ w = w' := by
  by_cases hn : zs = []
  · subst hn
    obtain ⟨a, cap, rfl, _⟩ := h
    have H : Hid (Mark.allL m [] = true) := Lib.hid rfl
    go_enter Tryd.func9, Tryd.ntmps9
    go_wp2_with fail
    refine wp_loop_rounds 1 ?_
    rw [rounds_succ]
    go_wp2_with fail
    go_ret
    exact ⟨by rw [H.out]; rfl, rfl⟩
  · obtain ⟨b, off, cap, rfl, _, hc⟩ := h.shape hn
    obtain ⟨len, hlen⟩ : ∃ len, len = zs.length := ⟨_, rfl⟩
    rw [← hlen] at hc hz ⊢
    have Hlen := Lib.hid hlen
    clear hlen hn h
    go_enter Tryd.func9, Tryd.ntmps9
    go_wp2_with fail
    go_loop [9] (fun i => ∃ k : Nat, k ≤ len ∧ i = .int .i64 k ∧ Hid (Mark.allL m zs = Mark.allL m (zs.drop k))) (fun i => len - (intOf i).toNat)
    case atStart => exact ⟨0, by omega, rfl, Lib.hid rfl⟩
    case round =>
      obtain ⟨k, hk, rfl, Hall⟩ := hrel
      by_cases hkl : k < len
      · have hcell := hc k hkl
        have Hs : Hid (Mark.allL m (zs.drop k) = (Mark.has m (zs.getD k 0) && Mark.allL m (zs.drop (k + 1)))) := by
          have hk' : k < zs.length := by rw [← Hlen.out]; exact hkl
          refine Lib.hid ?_
          unfold Mark.allL
          rw [List.drop_eq_getElem_cons hk', List.all_cons, List.getD_eq_getElem?_getD, List.getElem?_eq_getElem hk', Option.getD_some]
        clear hc
        generalize zs.getD k 0 = z at *
        cases hb : Mark.has m z with
        | true =>
          have Hs' : Hid (Mark.allL m zs = Mark.allL m (zs.drop (k + 1))) := Lib.hid (by rw [Hall.out, Hs.out, hb]; rfl)
          go_wp2_with (go_at_call 13; refine (has_any _ _ _ hm).mono ?_; rintro e w' ⟨rfl, rfl⟩)
          go_round
          case rel => exact ⟨k + 1, by omega, by go_num, Hs'⟩
          case measure => simp [intOf]; omega
        | false =>
          have Hs' : Hid (Mark.allL m zs = false) := Lib.hid (by rw [Hall.out, Hs.out, hb]; rfl)
          go_wp2_with (go_at_call 13; refine (has_any _ _ _ hm).mono ?_; rintro e w' ⟨rfl, rfl⟩)
          go_ret
          exact ⟨by rw [Hs'.out]; rfl, rfl⟩
      · clear hc
        have HE : Hid (Mark.allL m zs = true) := Lib.hid (by rw [Hall.out, List.drop_eq_nil_of_le (by rw [← Hlen.out]; omega)]; rfl)
        go_wp2_with fail
        go_ret
        exact ⟨by rw [HE.out]; rfl, rfl⟩
end Go.Proofs.YtjapakmpnkbemaaDoor
