/- codec.Put by its contract: a number's bytes behind those of a slice that the call itself made. -/
import Derived.Test.YtjapakmpnkbemaaProg
import Derived.Test.YtjapakmpnkbemaaNum
import Derived.Test.YtjapakmpnkbemaaBytes
import Derived.Outline
namespace Go.Proofs.Ytjapakmpnkbemaa
open Go.RowKit

theorem info_u8 : (Try.prog.info? 5).map (fun i => (i.zero, i.size, i.bytes)) = some (some (.int .u8 0), 1, 1) := by kernel_rfl

theorem put_full {w wr w1 : World} {v b v' : Value} {o : Obj} {e n : Nat} {xs ys : List Value} {done : List UInt8} (hown : Base w e 1 v n xs) (h : Full v n → Apart w wr v b ∧ (b = v → done = [])) (_hb : Base wr e 1 b (n + done.length) ys)
    (k : (wr.alloc o).grownBy w1 b.ownBlock) (mv : Moved (wr.alloc o) b v') (hF : Full b (n + done.length) → (wr.alloc o).grownBy w1 none ∧ Fresh (wr.alloc o) v') :
    Full v n → Apart w w1 v v' ∧ (v' = v → False) := by
  intro hv
  obtain ⟨ha, hd⟩ := h hv
  have A := ha.step (n := n) (m := 1) (fun _ => hv) k mv (fun e hf _ => hF (by rw [hd e]; exact hf)) (by omega)
  refine ⟨A, fun e => ?_⟩
  have fr : Fresh w v' := by
    by_cases hbv : b = v
    · obtain ⟨_, g, h2, h3⟩ := hF (by rw [hd hbv, hbv]; exact hv)
      exact ⟨g, h2, Nat.le_trans ha.1.size (Nat.le_trans (by simp) h3)⟩
    · obtain ⟨g, hg, hs⟩ := ha.2.resolve_left hbv
      rcases mv with e' | ⟨g', h2, h3⟩
      · exact ⟨g, e'.trans hg, hs⟩
      · exact ⟨g', h2, Nat.le_trans ha.1.size (Nat.le_trans (by simp) h3)⟩
  obtain ⟨g, hg, hs⟩ := fr
  rw [e] at hg
  have := hown.lt g hg
  omega

set_option maxRecDepth 100000 in
set_option maxHeartbeats 400000 in
theorem put_own (v : Value) (n : Nat) (xs : List UInt8) (k : Nat) (w : World) (hk : k < 2 ^ 63) (hn : n ≤ 1000000000000)
    (hown : Base w 5 1 v n (xs.map u8v)) :
    Calls Try.prog 8 #[v, .int .i64 k] w fun e w' =>
      ∃ v', e = .returned v' ∧ w'.ownsRow 0 5 1 v' (n + (Num.vint k).length) ((xs ++ Num.vint k).map u8v) ∧ Kept w w' v v' ∧ (Full v n → w.grownBy w' none ∧ Fresh w v') := by
  obtain ⟨i0, hi, hz0, hz1, hz2⟩ := info_parts info_u8
  go_enter Try.func8, Try.ntmps8
  go_wp2_with fail
  have Hlen : Hid ((Num.vint k).length ≤ 9) := Lib.hid (Num.vint_len_le 8 k (by omega))
  go_loopw [0, 5] (fun b u wr => ∃ (m : Nat) (done : List UInt8), u = .int .i64 m ∧ m ≤ k ∧ Hid (Num.vint k = done ++ Num.vint m) ∧ Base wr 5 1 b (n + done.length) ((xs ++ done).map u8v) ∧ Kept w wr v b ∧ Hid (Full v n → Apart w wr v b ∧ (b = v → done = []))) (fun _ u _ => (intOf u).toNat)
  case atStart => exact ⟨k, [], rfl, Nat.le_refl _, Lib.hid rfl, by simpa using hown, Kept.refl _ _, Lib.hid fun _ => ⟨Apart.refl _ _, fun _ => rfl⟩⟩
  case round =>
    obtain ⟨m, done, rfl, hmk, Heq, hown1, hk1, Hf1⟩ := hrel
    have hdl : done.length ≤ 9 := by
      have h := Hlen.out
      rw [Heq.out, List.length_append] at h
      omega
    by_cases hm : 128 ≤ m
    · have Hb : Hid (_ = _) := Lib.hid (Num.byte_hi m)
      go_wp2_with (at_builtin; refine wpList_append_base _ rfl _ _ 22 rfl 5 i0 (.int .u8 0) 1 1 Try.underlying22 hi hz0 hz1 hz2 rfl (by decide) _ _ _ rfl (hown1.alloc _) ⟨wr.heap.size, 0, none⟩ 1 1 (by decide) [_] rfl rfl one_new ?c1 ?c2 ?c3 ?_)
      case c1 => intro u hu; simp at hu; subst hu; rfl
      case c2 => unfold maxLen; omega
      case c3 => omega
      intro v' w1 hown2 hg2 hm2 hf2
      have R := hk1.step hg2 hm2
      have RF : Hid (Full v n → Apart w w1 v v' ∧ (v' = v → False)) := Lib.hid (put_full hown Hf1.out hown1 hg2 hm2 hf2)
      rw [Hb.out] at hown2
      have Hmd : Hid (_ = _) := Lib.hid (Num.vint_hi hm)
      clear hown1 hk1 Hf1 hg2 hm2 hf2
      go_wp2
      go_roundw
      case rel =>
        refine ⟨m / 128, done ++ [UInt8.ofNat (m % 128 + 128)], by go_num, by omega, Lib.hid ?_, ?_, R, Lib.hid fun hF => ⟨(RF.out hF).1, fun e => ((RF.out hF).2 e).elim⟩⟩
        · rw [Heq.out, Hmd.out]; simp
        · rw [List.length_append, ← Nat.add_assoc]; exact .inl (by simpa [u8v] using hown2)
      case measure => simp [intOf]; omega
    · have Hb : Hid (_ = _) := Lib.hid (Num.byte_lo (m := m) (by omega))
      go_wp2_with (at_builtin; refine wpList_append_base _ rfl _ _ 22 rfl 5 i0 (.int .u8 0) 1 1 Try.underlying22 hi hz0 hz1 hz2 rfl (by decide) _ _ _ rfl (hown1.alloc _) ⟨wr.heap.size, 0, none⟩ 1 1 (by decide) [_] rfl rfl one_new ?d1 ?d2 ?d3 ?_)
      case d1 => intro u hu; simp at hu; subst hu; rfl
      case d2 => unfold maxLen; omega
      case d3 => omega
      intro v' w1 hown2 hg2 hm2 hf2
      have R := hk1.step hg2 hm2
      have RF : Hid (Full v n → Apart w w1 v v' ∧ (v' = v → False)) := Lib.hid (put_full hown Hf1.out hown1 hg2 hm2 hf2)
      rw [Hb.out] at hown2
      clear hown1 hk1 Hf1 hg2 hm2 hf2
      go_wp2
      go_ret
      refine ⟨_, rfl, ?_, R, fun hF => ⟨(RF.out hF).1.1, (RF.out hF).1.2.resolve_left (RF.out hF).2⟩⟩
      rw [Heq.out, Num.vint_lo (by omega), List.length_append, ← Nat.add_assoc]
      simpa [u8v] using hown2

set_option maxRecDepth 100000 in
set_option maxHeartbeats 400000 in
theorem put_neg (v : Value) (n : Nat) (xs : List UInt8) (z : Int) (w : World) (hz : z < 0) (hn : n ≤ 1000000000000)
    (hown : Base w 5 1 v n (xs.map u8v)) :
    Calls Try.prog 8 #[v, .int .i64 z] w fun e w' =>
      ∃ v', e = .returned v' ∧ w'.ownsRow 0 5 1 v' (n + 1) ((xs ++ [0]).map u8v) ∧ Kept w w' v v' ∧ (Full v n → w.grownBy w' none ∧ Fresh w v') := by
  obtain ⟨i0, hi, hz0, hz1, hz2⟩ := info_parts info_u8
  have Hk : Hid (Kept w w v v) := Lib.hid (Kept.refl w v)
  have Hown := Lib.hid hown
  go_enter Try.func8, Try.ntmps8
  go_wp2_with fail
  refine wp_loop_rounds 1 ?_
  rw [rounds_succ]
  go_wp2_with (at_builtin; refine wpList_append_base _ rfl _ _ 22 rfl 5 i0 (.int .u8 0) 1 1 Try.underlying22 hi hz0 hz1 hz2 rfl (by decide) _ _ _ rfl (Hown.out.alloc _) ⟨w.heap.size, 0, none⟩ 1 1 (by decide) [_] rfl rfl one_new ?d1 ?d2 ?d3 ?_)
  case d1 => intro u hu; simp at hu; subst hu; rfl
  case d2 => unfold maxLen; omega
  case d3 => omega
  intro v' w1 hown2 hg2 hm2 hf2
  have R := Hk.out.step hg2 hm2
  have RF : Hid (Full v n → Apart w w1 v v' ∧ (v' = v → False)) := Lib.hid (put_full (done := []) Hown.out (fun _ => ⟨Apart.refl _ _, fun _ => rfl⟩) Hown.out hg2 hm2 hf2)
  clear Hk Hown hg2 hm2 hf2 hown
  go_wp2
  go_ret
  exact ⟨_, rfl, by simpa [u8v] using hown2, R, fun hF => ⟨(RF.out hF).1.1, (RF.out hF).1.2.resolve_left (RF.out hF).2⟩⟩

theorem vint_zero : Num.vint 0 = [0] := by rw [Num.vint_lo (by omega)]; rfl

/-- behind a slice that has no room: whatever int; nothing that was there turns -/
theorem put_new (v : Value) (n : Nat) (xs : List UInt8) (z : Int) (w : World) (hz : z < 9223372036854775808) (hn : n ≤ 1000000000000) (hv : Full v n) (hown : Base w 5 1 v n (xs.map u8v)) :
    Calls Try.prog 8 #[v, .int .i64 z] w fun e w' =>
      ∃ v', e = .returned v' ∧ (w'.ownsRow 0 5 1 v' (n + (Num.vint z.toNat).length) ((xs ++ Num.vint z.toNat).map u8v) ∧ Bytes w' v' (xs ++ Num.vint z.toNat) ∧ Fresh w v') ∧ Flow.Grow w w' := by
  by_cases h : 0 ≤ z
  · obtain ⟨k, rfl⟩ := Int.eq_ofNat_of_zero_le h
    rw [Int.toNat_natCast]
    refine (put_own v n xs k w (by omega) hn hown).mono fun e w' ⟨v', he, ho, _, hf⟩ => ⟨v', he, ⟨ho, Bytes.of_own ho ?_, (hf hv).2⟩, (hf hv).1⟩
    have hl := hown.len
    have := Num.vint_len_le 8 k (by omega)
    simp at hl ⊢
    omega
  · rw [show z.toNat = 0 by omega, vint_zero]
    refine (put_neg v n xs z w (by omega) hn hown).mono fun e w' ⟨v', he, ho, _, hf⟩ => ⟨v', he, ⟨ho, Bytes.of_own ho ?_, (hf hv).2⟩, (hf hv).1⟩
    have hl := hown.len
    simp at hl ⊢
    omega
/-- behind nothing -/
theorem put_nil (z : Int) (w : World) (hz : z < 9223372036854775808) :
    Calls Try.prog 8 #[.slice none 0 0, .int .i64 z] w fun e w' =>
      ∃ v', e = .returned v' ∧ (w'.ownsRow 0 5 1 v' (Num.vint z.toNat).length ((Num.vint z.toNat).map u8v) ∧ Bytes w' v' (Num.vint z.toNat) ∧ Fresh w v') ∧ Flow.Grow w w' := by
  have h := put_new (.slice none 0 0) 0 [] z w hz (by omega) (.inl rfl) (.inl (World.ownsRow_nil _ _ _ _))
  simpa using h

/-- it is nothing yet, or lies in a block that was not there -/
def Mine (W : World) (v : Value) : Prop := v = .slice none 0 0 ∨ Fresh W v
/-- a slice of bytes of the call's own -/
def OwnB (w : World) (v : Value) (l : List UInt8) : Prop := w.ownsRow 0 5 1 v l.length (l.map u8v)

theorem mine_step {W w w' : World} {v v' : Value} (hm : Mine W v) (hg : Flow.Grow W w) (k : w.grownBy w' v.ownBlock) (mv : Moved w v v') : Flow.Grow W w' ∧ (v' = .slice none 0 0 ∨ Fresh W v' ∨ v'.ownBlock = none) := by
  rcases hm with rfl | hf
  · refine ⟨grow_trans hg k, ?_⟩
    rcases mv with e | ⟨g, h1, h2⟩
    · exact .inr (.inr e)
    · exact .inr (.inl ⟨g, h1, Nat.le_trans hg.size h2⟩)
  · refine ⟨grow_fresh hg hf k, .inr (.inl ?_)⟩
    obtain ⟨g, h1, h2⟩ := hf
    rcases mv with e | ⟨g', h3, h4⟩
    · exact ⟨g, e.trans h1, h2⟩
    · exact ⟨g', h3, Nat.le_trans hg.size h4⟩
theorem own_none {w : World} {base e sz : Nat} {v : Value} {n : Nat} {xs : List Value} (h : w.ownsRow base e sz v n xs) (hn : v.ownBlock = none) : v = .slice none 0 0 := by
  rcases h.2 with ⟨h, _⟩ | ⟨g, cap, cur, rfl, _⟩
  · exact h
  · simp [Value.ownBlock] at hn
theorem mine_of {w' W : World} {base e sz : Nat} {v' : Value} {n : Nat} {xs : List Value} (hown : w'.ownsRow base e sz v' n xs) (h : v' = .slice none 0 0 ∨ Fresh W v' ∨ v'.ownBlock = none) : Mine W v' := by
  rcases h with h | h | h
  · exact .inl h
  · exact .inr h
  · exact .inl (own_none hown h)

/-- behind a slice of the call's own: whatever int -/
theorem put_run {W : World} (v : Value) (xs : List UInt8) (z : Int) (w : World) (hz : z < 9223372036854775808) (hn : xs.length ≤ 1000000000000) (hown : OwnB w v xs) (hm : Mine W v) (hg : Flow.Grow W w) :
    Calls Try.prog 8 #[v, .int .i64 z] w fun e w' => ∃ v', e = .returned v' ∧ OwnB w' v' (xs ++ Num.vint z.toNat) ∧ Mine W v' ∧ Flow.Grow W w' := by
  by_cases h : 0 ≤ z
  · obtain ⟨k, rfl⟩ := Int.eq_ofNat_of_zero_le h
    rw [Int.toNat_natCast]
    refine (put_own v xs.length xs k w (by omega) hn (.inl hown)).mono fun e w' ⟨v', he, ho, hk, _⟩ => ?_
    have s := mine_step hm hg hk.grown hk.moved
    exact ⟨v', he, by unfold OwnB; rw [List.length_append]; exact ho, mine_of ho s.2, s.1⟩
  · rw [show z.toNat = 0 by omega, vint_zero]
    refine (put_neg v xs.length xs z w (by omega) hn (.inl hown)).mono fun e w' ⟨v', he, ho, hk, _⟩ => ?_
    have s := mine_step hm hg hk.grown hk.moved
    exact ⟨v', he, by unfold OwnB; rw [List.length_append]; exact ho, mine_of ho s.2, s.1⟩
theorem OwnB.nil (w : World) : OwnB w (.slice none 0 0) [] := World.ownsRow_nil _ _ _ _
theorem Mine.nil (W : World) : Mine W (.slice none 0 0) := .inl rfl
theorem Fresh.mono {w w' : World} {v : Value} (h : Fresh w' v) (hs : w.heap.size ≤ w'.heap.size) : Fresh w v := by
  obtain ⟨g, h1, h2⟩ := h
  exact ⟨g, h1, Nat.le_trans hs h2⟩

/-- .. and but for the slice's own block nothing has turned -/
theorem put_run2 {W : World} (v : Value) (xs : List UInt8) (z : Int) (w : World) (hz : z < 9223372036854775808) (hn : xs.length ≤ 1000000000000) (hown : OwnB w v xs) (hm : Mine W v) (hg : Flow.Grow W w) :
    Calls Try.prog 8 #[v, .int .i64 z] w fun e w' => ∃ v', e = .returned v' ∧ OwnB w' v' (xs ++ Num.vint z.toNat) ∧ Mine W v' ∧ Flow.Grow W w' ∧ w.grownBy w' v.ownBlock := by
  by_cases h : 0 ≤ z
  · obtain ⟨k, rfl⟩ := Int.eq_ofNat_of_zero_le h
    rw [Int.toNat_natCast]
    refine (put_own v xs.length xs k w (by omega) hn (.inl hown)).mono fun e w' ⟨v', he, ho, hk, _⟩ => ?_
    have s := mine_step hm hg hk.grown hk.moved
    exact ⟨v', he, by unfold OwnB; rw [List.length_append]; exact ho, mine_of ho s.2, s.1, hk.grown⟩
  · rw [show z.toNat = 0 by omega, vint_zero]
    refine (put_neg v xs.length xs z w (by omega) hn (.inl hown)).mono fun e w' ⟨v', he, ho, hk, _⟩ => ?_
    have s := mine_step hm hg hk.grown hk.moved
    exact ⟨v', he, by unfold OwnB; rw [List.length_append]; exact ho, mine_of ho s.2, s.1, hk.grown⟩
theorem OwnB.keep {W w : World} {v : Value} {l : List UInt8} (h : OwnB W v l) (g : Flow.Grow W w) : OwnB w v l := World.ownsRow.kept h g (by cases v.ownBlock <;> simp)
/-- what was there, and what came since, lie apart -/
theorem OwnB.apart {W : World} {b m : Value} {l : List UInt8} (h : OwnB W b l) (hm : Mine W m) : m.ownBlock = none ∨ m.ownBlock ≠ b.ownBlock := by
  rcases hm with rfl | ⟨g, h1, h2⟩
  · exact .inl rfl
  · right
    rw [h1]
    intro e
    have := (World.ownsRow.lt h g e.symm).2
    omega
end Go.Proofs.Ytjapakmpnkbemaa
