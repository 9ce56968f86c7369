/- tree: what is read, as a plain function; how large it is. No program. -/
/- tree: what an element is in a world; Leave as it is deferred. -/
/- tree: element by its contract. -/
import Derived.Test.YtdpkhmfolmcejaaGreatDoorTr2
import Derived.Test.YtdpkhmfolmcejaaGreatDoorMNew
namespace Go.Proofs.YtdpkhmfolmcejaaGreatDoor
namespace Xm
/-- an element -/
inductive Nod where
  | mk (space name : ByteArray) (attrs : List (ByteArray × ByteArray)) (kids : List Nod) (text : ByteArray)
/-- what a reading knows -/
structure Rs where
  st : P3
  R : List Bd
  d : Nat
  n : Nat
def leaveR (r : Rs) : Rs := ⟨r.st, leaveL r.R r.d, r.d - 1, r.n⟩
/-- an element from its first piece on (none), or what is still to be read of it -/
def goT (s : ByteArray) : Nat → Option Nod → Pc → Rs → Except (Int × Int) Nod × Rs
  | 0, _, _, r => (.error (0, 0), r)
  | f + 1, none, p, r =>
    match beginT p r.R r.d r.n with
    | (.error z, R1, d1, n1) => (.error z, ⟨r.st, R1, d1, n1⟩)
    | (.ok x, R1, d1, n1) =>
      if p.kind = 3 then (.ok ⟨x.1, x.2.1, x.2.2, [], ByteArray.empty⟩, leaveR ⟨r.st, R1, d1, n1⟩)
      else match goT s f (some ⟨x.1, x.2.1, x.2.2, [], ByteArray.empty⟩) p ⟨r.st, R1, d1, n1⟩ with
        | (res, r2) => (res, leaveR r2)
  | f + 1, some ⟨sp, nm, at1, ks, tx⟩, p, r =>
    match nextR s r.st with
    | (q, st2) =>
      if st2.e ≠ 0 then (.error (st2.e, st2.bad), ⟨st2, r.R, r.d, r.n⟩)
      else if q.kind = 4 then goT s f (some ⟨sp, nm, at1, ks, tx ++ q.text⟩) p ⟨st2, r.R, r.d, r.n⟩
      else if q.kind = 1 ∨ q.kind = 3 then
        match goT s f none q ⟨st2, r.R, r.d, r.n⟩ with
        | (.ok y, r2) => goT s f (some ⟨sp, nm, at1, ks ++ [y], tx⟩) p r2
        | (.error z, r2) => (.error z, r2)
      else if q.kind = 2 then
        if (q.name.toList == p.name.toList) = false then (.error (3, q.at'), ⟨st2, r.R, r.d, r.n⟩)
        else if ks ≠ [] ∧ (trim tx).size ≠ 0 then (.error (3, p.at'), ⟨st2, r.R, r.d, r.n⟩)
        else (.ok ⟨sp, nm, at1, ks, if ks ≠ [] then ByteArray.empty else trim tx⟩, ⟨st2, r.R, r.d, r.n⟩)
      else (.error (3, st2.k), ⟨st2, r.R, r.d, r.n⟩)

theorem openS_size (x : ByteArray) : ∀ (d k : Nat) (acc : List UInt8), x.size - k = d → (openS x k acc).1.length ≤ acc.length + 4 * (x.size - k) := by
  intro d
  induction d using Nat.strongRecOn with
  | _ d ih =>
    intro k acc hd
    rw [openS]
    split
    · rename_i hlt
      split
      · split
        · simp
        · rename_i hf
          split
          · simp
          · have hb := (far_bd (s := x) (k := k) (by omega) 59).2 (by omega)
            have h := ih (x.size - (k + (far x k 59).toNat + 1)) (by omega) (k + (far x k 59).toNat + 1) (acc ++ put (one (cut x (k + 1) (k + (far x k 59).toNat)))) rfl
            rw [List.length_append] at h
            have h4 := put_len (one (cut x (k + 1) (k + (far x k 59).toNat)))
            omega
      · have h := ih (x.size - (k + 1)) (by omega) (k + 1) (acc ++ [UInt8.ofNat (bt x k).toNat]) rfl
        rw [List.length_append, List.length_singleton] at h
        omega
    · simp
theorem ext_le (s : ByteArray) (a b : Nat) : (s.extract a b).size ≤ s.size := by simp; omega
theorem opened_size (x : ByteArray) : (opened x).size ≤ 4 * x.size := by
  unfold opened
  split
  · exact Nat.zero_le _
  · have := openS_size x _ 0 [] rfl
    rw [str_size]
    simp at this
    omega
theorem nameS_size (s : ByteArray) (k : Nat) : (nameS s k).size ≤ s.size := by
  unfold nameS
  split
  · exact ext_le _ _ _
  · exact Nat.zero_le _
theorem tagL_size (s : ByteArray) : ∀ (n : Nat) (p : P3) (l : List (ByteArray × ByteArray)), (∀ a ∈ l, a.1.size ≤ s.size) → (tagL n s p l).2.1.length ≤ l.length + n ∧ ∀ a ∈ (tagL n s p l).2.1, a.1.size ≤ s.size
  | 0, p, l, h => ⟨Nat.le_refl _, h⟩
  | n + 1, p, l, h => by
    rw [tagL]
    split
    · exact ⟨by show l.length ≤ _; omega, h⟩
    · split
      · exact ⟨by show l.length ≤ _; omega, h⟩
      · split
        · exact ⟨by show l.length ≤ _; omega, h⟩
        · split
          · exact ⟨by show l.length ≤ _; omega, h⟩
          · have := tagL_size s n (if l.any (named1 (nameS s (skip s p.k))) = true then wrong (attrT s ⟨skip s p.k, p.e, p.bad⟩) 7 (skip s p.k) else attrT s ⟨skip s p.k, p.e, p.bad⟩) (l ++ [(nameS s (skip s p.k), attrV s ⟨skip s p.k, p.e, p.bad⟩)]) (fun a ha => by
              rcases List.mem_append.1 ha with h1 | h1
              · exact h a h1
              · rw [List.mem_singleton.1 h1]; exact nameS_size _ _)
            rw [List.length_append, List.length_singleton] at this
            exact ⟨by omega, this.2⟩
structure Sized (s : ByteArray) (q : Pc) : Prop where
  name : q.name.size ≤ s.size
  len : q.attrs.length ≤ 17
  attrs : ∀ a ∈ q.attrs, a.1.size ≤ s.size
  text : q.text.size ≤ 4 * s.size
theorem Sized.zero (s : ByteArray) : Sized s Pc.zero := ⟨Nat.zero_le _, Nat.zero_le _, fun a h => (by cases h), Nat.zero_le _⟩
theorem pieceOf_sized (s : ByteArray) (k : Nat) (bad : Int) : Sized s (pieceOf s k bad).1 := by
  unfold pieceOf
  split
  · unfold cdT
    split
    · exact ⟨Nat.zero_le _, Nat.zero_le _, fun a h => (by cases h), Nat.zero_le _⟩
    · exact ⟨Nat.zero_le _, Nat.zero_le _, fun a h => (by cases h), by have := ext_le s (k + 9) (k + 9 + (farS s (k + 9) cdE).toNat); show (s.extract _ _).size ≤ _; omega⟩
  · split
    · exact ⟨nameS_size _ _, Nat.zero_le _, fun a h => (by cases h), Nat.zero_le _⟩
    · split
      · have h := tagL_size s 17 (nameT s ⟨k + 1, 0, bad⟩) [] (fun a h => by cases h)
        exact ⟨nameS_size _ _, by have h1 := h.1; show (tagL 17 s (nameT s ⟨k + 1, 0, bad⟩) []).2.1.length ≤ 17; simpa using h1, h.2, Nat.zero_le _⟩
      · refine ⟨Nat.zero_le _, Nat.zero_le _, fun a h => (by cases h), ?_⟩
        have h1 := opened_size (s.extract k (k + runN s k))
        have h2 := ext_le s k (k + runN s k)
        show (opened (s.extract k (k + runN s k))).size ≤ _
        omega
theorem nextR_sized (s : ByteArray) (p : P3) : Sized s (nextR s p).1 := by
  unfold nextR
  split
  · exact Sized.zero s
  · split
    · exact Sized.zero s
    · exact pieceOf_sized _ _ _

structure InvR (s : ByteArray) (r : Rs) : Prop where
  R : r.R.length ≤ 100
  d : r.d ≤ 32
  n : r.n ≤ 2000
  k : r.st.k ≤ s.size
  e : r.st.e = 0
structure EndR (s : ByteArray) (r : Rs) (q : Except (Int × Int) Nod × Rs) : Prop where
  R : q.2.R.length ≤ 100
  d : q.2.d ≤ 32
  ok : ∀ y, q.1 = .ok y → InvR s q.2 ∧ r.st.k ≤ q.2.st.k
theorem leaveL_len (R : List Bd) (d : Nat) : (leaveL R d).length ≤ R.length := by
  unfold leaveL
  split
  · exact Nat.le_refl _
  · exact (List.dropWhile_sublist _).length_le
theorem beginT_inv (p : Pc) (R : List Bd) (d n : Nat) (hR : R.length ≤ 100) (hd : d ≤ 32) : (beginT p R d n).2.1.length ≤ 100 ∧ (beginT p R d n).2.2.1 ≤ 32 ∧ ∀ x, (beginT p R d n).1 = .ok x → (beginT p R d n).2.2.2 ≤ 2000 := by
  have hl := (enterL_len (d + 1) p.attrs [] R).1
  unfold beginT
  split
  · exact ⟨hR, hd, fun x h => by cases h⟩
  · split
    · exact ⟨hR, hd, fun x h => by cases h⟩
    · split
      · exact ⟨by show (enterL (d + 1) p.attrs [] R).1.length ≤ 100; omega, by show d + 1 ≤ 32; omega, fun x h => by cases h⟩
      · split
        · exact ⟨by show (enterL (d + 1) p.attrs [] R).1.length ≤ 100; omega, by show d + 1 ≤ 32; omega, fun x h => by cases h⟩
        · split
          · exact ⟨by show (enterL (d + 1) p.attrs [] R).1.length ≤ 100; omega, by show d + 1 ≤ 32; omega, fun x h => by cases h⟩
          · exact ⟨by show (enterL (d + 1) p.attrs [] R).1.length ≤ 100; omega, by show d + 1 ≤ 32; omega, fun x h => by show n + 1 ≤ 2000; omega⟩
/-- a next piece that is one -/
theorem next_step {s : ByteArray} {st st2 : P3} {q : Pc} (hk : st.k ≤ s.size) (he : st.e = 0) (h : nextR s st = (q, st2)) (he2 : st2.e = 0) : (q.kind = 0 ∧ st2.k = s.size) ∨ (q.kind ≠ 0 ∧ st.k < st2.k ∧ st2.k ≤ s.size) := by
  have hl := nextR_law (s := s) (p := st) ⟨Nat.le_refl _, hk, .inl he⟩
  rw [h] at hl
  rcases hl with ⟨h1, _, h3⟩ | ⟨h1, a, _, h3, _, h5, h6, _⟩
  · exact .inl ⟨h1, h3 he2⟩
  · exact .inr ⟨h1, Nat.lt_of_le_of_lt h3 h5, h6⟩
theorem goT_inv (s : ByteArray) : ∀ (f : Nat) (o : Option Nod) (p : Pc) (r : Rs), InvR s r → EndR s r (goT s f o p r)
  | 0, o, p, r, h => by
    unfold goT
    exact ⟨h.R, h.d, fun y h => by cases h⟩
  | f + 1, none, p, r, h => by
    have hb := beginT_inv p r.R r.d r.n h.R h.d
    rw [goT]
    split
    · rename_i z R1 d1 n1 he
      rw [he] at hb
      exact ⟨hb.1, hb.2.1, fun y h => by cases h⟩
    · rename_i x R1 d1 n1 he
      rw [he] at hb
      have hn := hb.2.2 x rfl
      have h1 : InvR s ⟨r.st, R1, d1, n1⟩ := ⟨hb.1, hb.2.1, hn, h.k, h.e⟩
      split
      · refine ⟨Nat.le_trans (leaveL_len R1 d1) hb.1, by show d1 - 1 ≤ 32; have : d1 ≤ 32 := hb.2.1; omega, fun y _ => ⟨⟨Nat.le_trans (leaveL_len R1 d1) hb.1, by show d1 - 1 ≤ 32; have : d1 ≤ 32 := hb.2.1; omega, hn, h.k, h.e⟩, Nat.le_refl _⟩⟩
      · have ih := goT_inv s f (some ⟨x.1, x.2.1, x.2.2, [], ByteArray.empty⟩) p ⟨r.st, R1, d1, n1⟩ h1
        split
        rename_i res r2 hg
        rw [hg] at ih
        have ihd : r2.d ≤ 32 := ih.d
        refine ⟨Nat.le_trans (leaveL_len r2.R r2.d) ih.R, by show r2.d - 1 ≤ 32; omega, fun y hy => ?_⟩
        have h2 := ih.ok y hy
        exact ⟨⟨Nat.le_trans (leaveL_len r2.R r2.d) ih.R, by show r2.d - 1 ≤ 32; omega, h2.1.n, h2.1.k, h2.1.e⟩, h2.2⟩
  | f + 1, some ⟨sp, nm, at1, ks, tx⟩, p, r, h => by
    rw [goT]
    split
    rename_i q st2 hn
    split
    · exact ⟨h.R, h.d, fun y h => by cases h⟩
    · rename_i he
      have he2 : st2.e = 0 := by simpa using he
      have hs := next_step h.k h.e hn he2
      have hk2 : r.st.k ≤ st2.k ∧ st2.k ≤ s.size := by
        have := h.k
        rcases hs with h1 | h1 <;> omega
      have h1 : InvR s ⟨st2, r.R, r.d, r.n⟩ := ⟨h.R, h.d, h.n, hk2.2, he2⟩
      have up : ∀ {x : Except (Int × Int) Nod × Rs}, EndR s ⟨st2, r.R, r.d, r.n⟩ x → EndR s r x := fun e => ⟨e.R, e.d, fun y hy => ⟨(e.ok y hy).1, Nat.le_trans hk2.1 (e.ok y hy).2⟩⟩
      split
      · exact up (goT_inv s f _ p _ h1)
      · split
        · have ih := goT_inv s f none q _ h1
          split
          · rename_i y r2 hg
            rw [hg] at ih
            have h2 := ih.ok y rfl
            have ih2 := goT_inv s f (some ⟨sp, nm, at1, ks ++ [y], tx⟩) p r2 h2.1
            exact ⟨ih2.R, ih2.d, fun z hz => ⟨(ih2.ok z hz).1, Nat.le_trans hk2.1 (Nat.le_trans h2.2 (ih2.ok z hz).2)⟩⟩
          · rename_i z r2 hg
            rw [hg] at ih
            exact ⟨ih.R, ih.d, fun y h => by cases h⟩
        · split
          · split
            · exact ⟨h.R, h.d, fun y h => by cases h⟩
            · split
              · exact ⟨h.R, h.d, fun y h => by cases h⟩
              · exact ⟨h.R, h.d, fun y _ => ⟨h1, hk2.1⟩⟩
          · exact ⟨h.R, h.d, fun y h => by cases h⟩
end Xm
end Go.Proofs.YtdpkhmfolmcejaaGreatDoor
namespace Go.Proofs.YtdpkhmfolmcejaaGreatDoor
open Go.RowKit
set_option maxRecDepth 100000 in
set_option maxHeartbeats 1000000 in
theorem leave_d (u : FrameMode) (q : Nat) (lv : Value) (R : List Xm.Bd) (d : Nat) (w : World) (h : Xm.Sp w q lv R d) (hd : d ≤ 1000000) :
    CallsD Tryz.prog 52 #[.pointer (some ⟨q, 0, none⟩)] u w fun e u' w' => u' = u ∧ (e = .returned (.tuple #[]) ∧ ∃ lv', Xm.Sp w' q lv' (Xm.leaveL R d) (d - 1) ∧ Xm.Fr (· = q) w lv w' lv') := by
  have c1 := h.blk.c1
  have H := Lib.hid h
  clear h
  by_cases h0 : d = 0
  · subst h0
    have c1 : w.cell? ⟨q, 1, none⟩ = some (.int .i64 0) := H.out.blk.c1
    go_enter_d Tryz.func52, Tryz.ntmps52
    go_wp2
    (try simp only [Exit.inBlock, Exit.then])
    exact bodyPost_ret (results_none (by kernel_rfl) _ _ _) rfl ⟨rfl, lv, H.out, Xm.Fr.refl _ _ _⟩
  have hb : ((d : Int) == 0) = false := by simpa using h0
  have HL : Hid (Xm.leaveL R d = R.dropWhile fun r => r.2.2 == d) := Lib.hid (by rw [Xm.leaveL, if_neg h0])
  go_enter_d Tryz.func52, Tryz.ntmps52
  go_wp2
  clear c1
  go_loopw [] (fun wr => ∃ (R' : List Xm.Bd) (lv' : Value), Hid (Xm.Sp wr q lv' R' d) ∧ Hid (Xm.Fr (· = q) w lv wr lv') ∧ Hid ((R.dropWhile fun r => r.2.2 == d) = R'.dropWhile fun r => r.2.2 == d)) (fun wr => match wr.cell? ⟨q, 0, none⟩ with | some (.slice _ n _) => n | _ => 0)
  case atStart => exact ⟨R, lv, H, Lib.hid (Xm.Fr.refl _ _ _), Lib.hid rfl⟩
  case round =>
    obtain ⟨R', lv', HS, HF, HE⟩ := hrel
    have c0 := HS.out.blk.c0
    have c1 := HS.out.blk.c1
    have fz0 := HS.out.blk.fz 0
    have fz1 := HS.out.blk.fz 1
    have e1 : IntKind.i64.wrap ((d : Int) - 1) = ((d - 1 : Nat) : Int) := (IntWalk.i64_in _ (by omega)).trans (by omega)
    have Hend : ∀ wz, Flow.Grow wr wz → Hid (Xm.leaveL R d = R') → Hid (Xm.Sp (wz.setCell ⟨q, 1, none⟩ (.int .i64 ((d - 1 : Nat) : Int))) q lv' (Xm.leaveL R d) (d - 1) ∧ Xm.Fr (· = q) w lv (wz.setCell ⟨q, 1, none⟩ (.int .i64 ((d - 1 : Nat) : Int))) lv') := fun wz gz he => Lib.hid ⟨by
      have h1 := HS.out.grow gz
      rw [he.out]; exact ⟨h1.blk.set1, h1.own.set h1.ne, h1.ne⟩, (HF.out.trans (Xm.Fr.of gz)).setIn rfl⟩
    cases R' with
    | nil =>
      obtain ⟨a, cap, hv⟩ := HS.out.own.nil
      subst hv
      have HEe : Hid (Xm.leaveL R d = []) := Lib.hid (by rw [HL.out, HE.out]; rfl)
      go_wp2_with fail
      go_quiet (fail)
      generalize hw2 : wr.drewN nq = w2 at *
      have HH := Hend w2 (by rw [← hw2]; exact Flow.grow_drewN _ _) HEe
      have c1' : w2.cell? ⟨q, 1, none⟩ = some (.int .i64 (d : Int)) := (HS.out.grow (by rw [← hw2]; exact Flow.grow_drewN _ _)).blk.c1
      have fz1' : w2.frozen? ⟨q, 1, none⟩ = false := (HS.out.grow (by rw [← hw2]; exact Flow.grow_drewN _ _)).blk.fz 1
      clear Hend hw2
      go_wp2
      go_end0
      exact ⟨rfl, _, HH.out⟩
    | cons r R'' =>
      obtain ⟨g, cap, rfl, hcap, hcm, ho, k0, k1, k2⟩ := HS.out.own.cons
      obtain ⟨m, hm⟩ : ∃ m, m = R''.length := ⟨_, rfl⟩
      rw [← hm] at hcap k0 k1 k2 c0
      have HM := Lib.hid hm
      clear hm
      have hd1 : decide ((0 : Int) < (m : Int) + 1) = true := decide_eq_true (by omega)
      have hd2 : decide ((0 : Int) < ((m + 1 : Nat) : Int)) = true := by simp
      have HO := Lib.hid ho
      clear ho
      have hz : ((m + 1 : Nat) : Int) - 1 = (m : Int) := by omega
      have e2 : IntKind.i64.wrap (m : Int) = (m : Int) := IntWalk.i64_in _ (by unfold maxLen at hcm; omega)
      have hm0 : (0 : Int) < (m : Int) + 1 := by omega
      have hm1 : ¬ (m : Int) + 1 ≤ (m : Int) := by omega
      by_cases hr : r.2.2 = d
      · have HEe : Hid ((R.dropWhile fun r => r.2.2 == d) = R''.dropWhile fun r => r.2.2 == d) := Lib.hid (by rw [HE.out, List.dropWhile_cons_of_pos (by simpa using hr)])
        have hr' : ((r.2.2 : Int) == (d : Int)) = true := by rw [hr]; simp
        have hr2 : (r.2.2 == d) = true := by simpa using hr
        clear Hend hr
        go_wp2_with fail
        go_quiet (fail)
        generalize hw2 : wr.drewN nq = w2 at *
        have gz : Flow.Grow wr w2 := by rw [← hw2]; exact Flow.grow_drewN _ _
        have HS2 := Lib.hid (HS.out.grow gz)
        have HO2 := Lib.hid (HO.out.grow gz)
        have HF2 := Lib.hid (HF.out.trans (Xm.Fr.of (S := (· = q)) gz))
        have c0 := HS2.out.blk.c0
        rw [← HM.out] at c0
        have fz0 := HS2.out.blk.fz 0
        clear hw2 gz HS HF HO
        have hi1 : (m : Int) ≤ (cap : Int) := by omega
        have hi2 : m ≤ cap := by omega
        go_wp2_with fail
        go_still_tail 14, (by kernel_rfl)
        change wpList _ _ _ _ _ (w2.drewN 1)
        have gd := Flow.grow_drewN w2 1
        have HS3 := Lib.hid (HS2.out.grow gd)
        have HO3 := Lib.hid (HO2.out.grow gd)
        have HF3 := Lib.hid (HF2.out.trans (Xm.Fr.of (S := (· = q)) gd))
        have fz0 := HS3.out.blk.fz 0
        clear gd HS2 HO2 HF2 c0
        have c03 := HS3.out.blk.c0
        rw [← HM.out] at c03
        generalize w2.drewN 1 = w3 at *
        go_wp2_with fail
        go_roundw
        case rel => exact ⟨R'', .slice (some ⟨g, 0, none⟩) R''.length cap, Lib.hid ⟨by rw [← HM.out]; exact HS3.out.blk.set0, HO3.out.set HS3.out.ne, HS3.out.ne⟩, Lib.hid ((HF3.out.setIn rfl).same rfl), HEe⟩
        case measure =>
          have h1 : (w3.setCell ⟨q, 0, none⟩ (.slice (some ⟨g, 0, none⟩) m cap)).cell? ⟨q, 0, none⟩ = some (.slice (some ⟨g, 0, none⟩) m cap) := (Xm.Row2.set0 HS3.out.blk).c0
          simp only [h1, c0]
          omega
      · have HEe : Hid (Xm.leaveL R d = r :: R'') := Lib.hid (by rw [HL.out, HE.out, List.dropWhile_cons_of_neg (by simpa using hr)])
        have hr' : ((r.2.2 : Int) == (d : Int)) = false := by simpa using (fun h : (r.2.2 : Int) = d => hr (by omega))
        go_wp2_with fail
        go_quiet (fail)
        generalize hw2 : wr.drewN nq = w2 at *
        have HH := Hend w2 (by rw [← hw2]; exact Flow.grow_drewN _ _) HEe
        have c1' : w2.cell? ⟨q, 1, none⟩ = some (.int .i64 (d : Int)) := (HS.out.grow (by rw [← hw2]; exact Flow.grow_drewN _ _)).blk.c1
        have fz1' : w2.frozen? ⟨q, 1, none⟩ = false := (HS.out.grow (by rw [← hw2]; exact Flow.grow_drewN _ _)).blk.fz 1
        clear Hend hw2
        go_wp2
        go_end0
        exact ⟨rfl, _, HH.out⟩
namespace Xm
/-- five cells of an element -/
abbrev V5 := Value × Value × Value × Value × Value
def V5.agg (v : V5) : Value := .agg #[v.1, v.2.1, v.2.2.1, v.2.2.2.1, v.2.2.2.2]
def V5.cells (v : V5) : List Value := [v.1, v.2.1, v.2.2.1, v.2.2.2.1, v.2.2.2.2]
def flat (vs : List V5) : List Value := vs.flatMap V5.cells
theorem flat_append (a b : List V5) : flat (a ++ b) = flat a ++ flat b := by simp [flat]
/-- an element in a world, its rows in blocks of a kind -/
inductive NodAt (F : Nat → Prop) (w : World) : Value → Nod → Prop
  | mk (sp nm tx : ByteArray) (av kv : Value) (l : List (ByteArray × ByteArray)) (ks : List Nod) (vs : List V5) (g off : Nat) (ha : AttrsAt w av l) (haF : ∀ q, av.ownBlock = some q → F q)
      (hk : (ks = [] ∧ ∃ a c, kv = .slice a 0 c) ∨ ∃ cap, kv = .slice (some ⟨g, off, none⟩) ks.length cap ∧ ks.length ≤ cap ∧ cap ≤ maxLen ∧ g < w.heap.size ∧ F g)
      (hl : vs.length = ks.length) (hc : ks ≠ [] → ∀ j u, (flat vs)[j]? = some u → w.cell? ⟨g, off + j, none⟩ = some u)
      (hn : ∀ (j : Nat) (y : Nod) (v : V5), ks[j]? = some y → vs[j]? = some v → NodAt F w (V5.agg v) y) : NodAt F w (.agg #[.string sp, .string nm, av, kv, .string tx]) (.mk sp nm l ks tx)
theorem AttrsAt.keep {w w' : World} {v : Value} {l : List (ByteArray × ByteArray)} (h : AttrsAt w v l) (hs : w.heap.size ≤ w'.heap.size) (hb : ∀ g, v.ownBlock = some g → g < w.heap.size → w'.heap[g]? = w.heap[g]?) : AttrsAt w' v l := by
  rcases h with h | ⟨g, off, cap, rfl, hlc, hcm, hg, hcell⟩
  · exact .inl h
  · refine .inr ⟨g, off, cap, rfl, hlc, hcm, Nat.lt_of_lt_of_le hg hs, fun j u hu => ?_⟩
    have := hcell j u hu
    unfold World.cell? at this ⊢
    rw [hb g rfl hg]
    exact this
theorem NodAt.keep {F F' : Nat → Prop} {w w' : World} {v : Value} {x : Nod} (h : NodAt F w v x) (hs : w.heap.size ≤ w'.heap.size) (hb : ∀ g, F g → g < w.heap.size → w'.heap[g]? = w.heap[g]?) (hF : ∀ g, F g → g < w.heap.size → F' g) (ha : ∀ g, F g → g < w.heap.size) : NodAt F' w' v x := by
  induction h with
  | mk sp nm tx av kv l ks vs g off hA haF hk hl hc hn ih =>
    refine .mk sp nm tx av kv l ks vs g off (hA.keep hs (fun q hq hlt => hb q (haF q hq) hlt)) (fun q hq => hF q (haF q hq) (ha q (haF q hq))) ?_ hl ?_ ih
    · rcases hk with hk | ⟨cap, h1, h2, h3, h4, h5⟩
      · exact .inl hk
      · exact .inr ⟨cap, h1, h2, h3, Nat.lt_of_lt_of_le h4 hs, hF g h5 h4⟩
    · intro hne j u hu
      rcases hk with ⟨h0, _⟩ | ⟨cap, h1, h2, h3, h4, h5⟩
      · exact absurd h0 hne
      · have := hc hne j u hu
        unfold World.cell? at this ⊢
        rw [hb g h5 h4]
        exact this
/-- kids that a row of the call's own holds -/
def OwnK (w : World) (kv : Value) (vs : List V5) : Prop := w.ownsRow 0 25 5 kv vs.length (flat vs)
def Kids (F : Nat → Prop) (w : World) (ks : List Nod) (vs : List V5) : Prop := vs.length = ks.length ∧ ∀ (j : Nat) (y : Nod) (v : V5), ks[j]? = some y → vs[j]? = some v → NodAt F w (V5.agg v) y
theorem Kids.keep {F F' : Nat → Prop} {w w' : World} {ks : List Nod} {vs : List V5} (h : Kids F w ks vs) (hs : w.heap.size ≤ w'.heap.size) (hb : ∀ g, F g → g < w.heap.size → w'.heap[g]? = w.heap[g]?) (hF : ∀ g, F g → g < w.heap.size → F' g) (ha : ∀ g, F g → g < w.heap.size) : Kids F' w' ks vs :=
  ⟨h.1, fun j y v h1 h2 => (h.2 j y v h1 h2).keep hs hb hF ha⟩
theorem Kids.nil (F : Nat → Prop) (w : World) : Kids F w [] [] := ⟨rfl, fun j y v h => by simp at h⟩
theorem Kids.push {F : Nat → Prop} {w : World} {ks : List Nod} {vs : List V5} {y : Nod} {v : V5} (h : Kids F w ks vs) (hv : NodAt F w (V5.agg v) y) : Kids F w (ks ++ [y]) (vs ++ [v]) := by
  refine ⟨by simp [h.1], fun j y' v' h1 h2 => ?_⟩
  by_cases hj : j < ks.length
  · rw [List.getElem?_append_left hj] at h1
    rw [List.getElem?_append_left (by rw [h.1]; exact hj)] at h2
    exact h.2 j y' v' h1 h2
  · rw [List.getElem?_append_right (by omega)] at h1
    rw [List.getElem?_append_right (by rw [h.1]; omega), h.1] at h2
    obtain ⟨rfl, hj0⟩ : y' = y ∧ j - ks.length = 0 := by
      cases hz : j - ks.length with
      | zero => rw [hz] at h1; simp at h1; exact ⟨h1.symm, rfl⟩
      | succ m => rw [hz] at h1; simp at h1
    rw [hj0] at h2
    simp at h2
    rw [← h2]
    exact hv
theorem OwnK.nil (w : World) : OwnK w (.slice none 0 0) [] := World.ownsRow_nil _ _ _ _
theorem OwnK.kept {w w' : World} {row : Option Nat} {kv : Value} {vs : List V5} (h : OwnK w kv vs) (g : w.grownBy w' row) (hr : kv.ownBlock = none ∨ kv.ownBlock ≠ row) : OwnK w' kv vs := World.ownsRow.kept h g hr
theorem OwnK.grow {w w' : World} {kv : Value} {vs : List V5} (h : OwnK w kv vs) (g : Flow.Grow w w') : OwnK w' kv vs := h.kept (row := none) g (by cases kv.ownBlock <;> simp)
theorem OwnK.mv {w w' : World} {kv : Value} {vs : List V5} {q : Nat} (h : OwnK w kv vs) (g : Mv w q w') (hq : kv.ownBlock ≠ some q) : OwnK w' kv vs := h.kept g (.inr hq)
theorem OwnK.lt {w : World} {kv : Value} {vs : List V5} (h : OwnK w kv vs) : ∀ g, kv.ownBlock = some g → g < w.heap.size := by
  intro g hg
  rcases h.2 with ⟨hv, _⟩ | ⟨g', cap, cur, hv, _, hgg, _⟩
  · rw [hv] at hg; cases hg
  · rw [hv] at hg; cases hg; exact (Array.getElem?_eq_some_iff.1 hgg).1
theorem OwnK.fr {S : Nat → Prop} {w w' : World} {lv lv' kv : Value} {vs : List V5} (h : OwnK w kv vs) (f : Fr S w lv w' lv') (hS : ∀ g, kv.ownBlock = some g → ¬ S g ∧ lv.ownBlock ≠ some g) : OwnK w' kv vs := by
  refine ⟨h.1, ?_⟩
  rcases h.2 with hn | ⟨g, cap, cur, rfl, hb, hgg, rest⟩
  · exact .inl hn
  · refine .inr ⟨g, cap, cur, rfl, hb, ?_, rest⟩
    rw [f.block g (Array.getElem?_eq_some_iff.1 hgg).1 (hS g rfl).1 (hS g rfl).2]
    exact hgg
theorem OwnK.shape {w : World} {kv : Value} {vs : List V5} (h : OwnK w kv vs) : ∃ a cap, kv = .slice a vs.length cap := by
  rcases h.2 with ⟨hv, hn⟩ | ⟨g, cap, cur, hv, _⟩
  · exact ⟨none, 0, by rw [hn]; exact hv⟩
  · exact ⟨_, cap, hv⟩
/-- an element out of its parts -/
theorem NodAt.of {F : Nat → Prop} {w : World} {sp nm tx : ByteArray} {av kv : Value} {l : List (ByteArray × ByteArray)} {ks : List Nod} {vs : List V5} (ha : AttrsAt w av l) (haF : ∀ q, av.ownBlock = some q → F q) (hO : OwnK w kv vs) (hk : ∀ q, kv.ownBlock = some q → F q) (hK : Kids F w ks vs) :
    NodAt F w (.agg #[.string sp, .string nm, av, kv, .string tx]) (.mk sp nm l ks tx) := by
  have hlen := hK.1
  rcases hO.2 with ⟨hv, hn⟩ | ⟨g, cap, cur, hv, _, hgg, hnc, hcm, hcs, htake⟩
  · have h0 : ks = [] := List.eq_nil_of_length_eq_zero (by omega)
    subst h0
    exact .mk sp nm tx av kv l [] vs 0 0 ha haF (.inl ⟨rfl, none, 0, hv⟩) hlen (fun h => absurd rfl h) hK.2
  · refine .mk sp nm tx av kv l ks vs g 0 ha haF (.inr ⟨cap, by rw [← hlen]; exact hv, by omega, hcm, (Array.getElem?_eq_some_iff.1 hgg).1, hk g (by rw [hv]; rfl)⟩) hlen (fun _ j u hu => ?_) hK.2
    have := World.ownsRow.cells hO (g := g) (by rw [hv]; rfl) j u hu
    rw [Addr.add_lit, Nat.zero_add] at this
    rw [Nat.zero_add]; exact this
/-- a reader's blocks lie above the two that are fixed -/
structure Low (b : Blk) (lv : Value) : Prop where
  c : 1 < b.c
  r : 1 < b.r
  s : 1 < b.s
  l : ∀ g, lv.ownBlock = some g → 1 < g
theorem Low.fr {b : Blk} {S : Nat → Prop} {w w' : World} {lv lv' : Value} (h : Low b lv) (f : Fr S w lv w' lv') (hw : 1 < w.heap.size) : Low b lv' :=
  ⟨h.c, h.r, h.s, fun g hg => by
    rcases f.mv with e | ⟨g', e, hg'⟩
    · exact h.l g (e ▸ hg)
    · rw [e] at hg; cases hg; omega⟩
theorem Tab.fr {b : Blk} {w w' : World} {lv lv' : Value} (h : Tab w) (f : Fr b.S w lv w' lv') (hl : Low b lv) : Tab w' := ⟨Nat.lt_of_lt_of_le h.1 f.size, fun j v hv => by
  have := h.2 j v hv
  unfold World.cell? at this ⊢
  rw [f.block 1 h.1 (fun e => by have h1 := hl.c; have h2 := hl.r; have h3 := hl.s; rcases e with e | e | e <;> omega) (fun e => by have := hl.l 1 e; omega)]
  exact this⟩
theorem Max.fr {b : Blk} {w w' : World} {lv lv' : Value} (h : Max w) (f : Fr b.S w lv w' lv') (hl : Low b lv) : Max w' := ⟨Nat.lt_of_lt_of_le h.1 f.size, by
  obtain ⟨m, hm⟩ := h.2
  refine ⟨m, ?_⟩
  unfold World.cell? at hm ⊢
  rw [f.block 0 h.1 (fun e => by have h1 := hl.c; have h2 := hl.r; have h3 := hl.s; rcases e with e | e | e <;> omega) (fun e => by have := hl.l 0 e; omega)]
  exact hm⟩
end Xm
end Go.Proofs.YtdpkhmfolmcejaaGreatDoor
namespace Go.Proofs.YtdpkhmfolmcejaaGreatDoor
open Go.RowKit
namespace Xm
theorem NodAt.form {F : Nat → Prop} {w : World} {v : Value} {x : Nod} (h : NodAt F w v x) : ∃ (sp nm tx : ByteArray) (a1 a2 : Option Addr) (n1 n2 c1 c2 : Nat), v = V5.agg (.string sp, .string nm, .slice a1 n1 c1, .slice a2 n2 c2, .string tx) := by
  cases h with
  | mk sp nm tx av kv l ks vs g off hA haF hk hl hc hn =>
    obtain ⟨ao, cap, rfl⟩ := hA.shape
    rcases hk with ⟨_, a, c, rfl⟩ | ⟨cap2, rfl, _⟩
    · exact ⟨sp, nm, tx, ao, a, _, _, _, _, rfl⟩
    · exact ⟨sp, nm, tx, ao, _, _, _, _, _, rfl⟩
theorem AttrsAt.lt {w : World} {v : Value} {l : List (ByteArray × ByteArray)} (h : AttrsAt w v l) : ∀ g, v.ownBlock = some g → g < w.heap.size := by
  intro g hg
  rcases h with ⟨rfl, _⟩ | ⟨g', off, cap, rfl, _, _, hlt, _⟩
  · cases hg
  · cases hg; exact hlt
end Xm
/-- what came of element -/
def ElemPost (b : Xm.Blk) (s : ByteArray) (lv : Value) (F : Nat) (p : Xm.Pc) (r : Xm.Rs) (w : World) (e : Ending) (w' : World) : Prop :=
  ∃ lv', Xm.Rd w' b s lv' (Xm.goT s F none p r).2.st (Xm.goT s F none p r).2.R (Xm.goT s F none p r).2.d (Xm.goT s F none p r).2.n ∧ Xm.Fr b.S w lv w' lv' ∧
  match (Xm.goT s F none p r).1 with
  | .ok y => ∃ v, e = .returned v ∧ Xm.NodAt (fun g => w.heap.size ≤ g ∧ lv'.ownBlock ≠ some g ∧ g < w'.heap.size) w' v y
  | .error z => e = .panicked (Xm.failV z.1 z.2)
structure ElemHyp (b : Xm.Blk) (s : ByteArray) (lv : Value) (F : Nat) (p : Xm.Pc) (av : Value) (r : Xm.Rs) (w : World) : Prop where
  rd : Xm.Rd w b s lv r.st r.R r.d r.n
  inv : Xm.InvR s r
  at' : Xm.AttrsAt w av p.attrs
  av : ∀ g, av.ownBlock = some g → ¬ b.S g ∧ lv.ownBlock ≠ some g
  sz : Xm.Sized s p
  f1 : 2 * (s.size - r.st.k) + 2 ≤ F
  f2 : F ≤ 1000000
  low : Xm.Low b lv
  tab : Xm.Tab w
  max : Xm.Max w
theorem elem_res (tmps : Array Value) (w : World) (R : Nat) (cs : Array Value) (hp : tmps.getD 4 undef = .pointer (some ⟨R, 0, none⟩)) (hg : Xm.RowN w R cs) (hc : cs.size = 5) :
    (results Tryz.f35 tmps).run Tryz.prog w = .ok (.agg cs) w :=
  results_cell_row (by kernel_rfl) tmps w R _ _ _ _ hp hg Tryz.underlying25 rfl (by rw [hc]; kernel_rfl)
/-- an element ends with a panic -/
theorem elem_fail {tmps : Array Value} {b : Xm.Blk} {s : ByteArray} {lv lv5 : Value} {F : Nat} {p : Xm.Pc} {r : Xm.Rs} {w w5 : World} {st : Xm.P3} {R : List Xm.Bd} {d n : Nat} {z : Int × Int}
    (HG : Xm.goT s F none p r = (.error z, Xm.leaveR ⟨st, R, d, n⟩)) (hrd : Xm.Rd w5 b s lv5 st R d n) (hfr : Xm.Fr b.S w lv w5 lv5) (hd : d ≤ 1000000) :
    Leaves Tryz.prog Tryz.f35 tmps (ElemPost b s lv F p r w) [{ target := .fn (.func 52) #[], args := #[.pointer (some ⟨b.s, 0, none⟩)] }] (.panicking (Xm.failV z.1 z.2)) w5 := by
  refine leaves_cons (f := 52) (args := #[.pointer (some ⟨b.s, 0, none⟩)]) (by simp) (by simp [go_sem]) ?_
  refine (leave_d _ b.s lv5 R d w5 hrd.sp hd).mono ?_
  rintro e u' w6 ⟨rfl, rfl, lv6, hsp, hf6⟩
  show ElemPost b s lv F p r w (.panicked (Xm.failV z.1 z.2)) w6
  refine ⟨lv6, ?_⟩
  rw [HG]
  exact ⟨hrd.spaces hf6 hsp, hfr.trans (hf6.mono (fun i h => .inr (.inr h))), rfl⟩
/-- an element is done -/
theorem elem_done {tmps : Array Value} {b : Xm.Blk} {s : ByteArray} {lv lv0 lv5 : Value} {F B : Nat} {p : Xm.Pc} {r : Xm.Rs} {w w5 : World} {st st0 : Xm.P3} {R R0 : List Xm.Bd} {d n d0 n0 : Nat} {y : Xm.Nod} {cs : Array Value}
    (HG : Xm.goT s F none p r = (.ok y, Xm.leaveR ⟨st, R, d, n⟩)) (h0 : Xm.Rd w b s lv0 st0 R0 d0 n0) (hrd : Xm.Rd w5 b s lv5 st R d n) (hfr : Xm.Fr b.S w lv w5 lv5) (hd : d ≤ 1000000) (hp : tmps.getD 4 undef = .pointer (some ⟨B, 0, none⟩)) (hz : Xm.RowN w5 B cs) (hc : cs.size = 5)
    (hB : w.heap.size ≤ B) (hlB : lv5.ownBlock ≠ some B) (hn : Xm.NodAt (fun g => w.heap.size ≤ g ∧ lv5.ownBlock ≠ some g ∧ g < w5.heap.size) w5 (.agg cs) y) :
    Leaves Tryz.prog Tryz.f35 tmps (ElemPost b s lv F p r w) [{ target := .fn (.func 52) #[], args := #[.pointer (some ⟨b.s, 0, none⟩)] }] .returning w5 := by
  refine leaves_cons (f := 52) (args := #[.pointer (some ⟨b.s, 0, none⟩)]) (by simp) (by simp [go_sem]) ?_
  refine (leave_d _ b.s lv5 R d w5 hrd.sp hd).mono ?_
  rintro e u' w6 ⟨rfl, rfl, lv6, hsp, hf6⟩
  have hbs : b.s < w.heap.size := h0.lts.2.2.1
  show ∃ v, (results Tryz.f35 tmps).run Tryz.prog w6 = .ok v w6 ∧ ElemPost b s lv F p r w (.returned v) w6
  refine ⟨_, elem_res tmps w6 B cs hp (hz.fr hf6 (by show ¬ B = b.s; omega) hlB) hc, lv6, ?_⟩
  rw [HG]
  refine ⟨hrd.spaces hf6 hsp, hfr.trans (hf6.mono (fun i h => .inr (.inr h))), .agg cs, rfl, hn.keep hf6.size (fun g hg hlt => hf6.block g hlt (by show ¬ g = b.s; have := hg.1; omega) hg.2.1) (fun g hg hlt => ⟨hg.1, hf6.owned hlt hg.2.1, Nat.lt_of_lt_of_le hlt hf6.size⟩) (fun g hg => hg.2.2)⟩
namespace Xm
/-- while an element's pieces are read -/
structure BodyInv (b : Blk) (s : ByteArray) (lv : Value) (w : World) (B X : Nat) (P : Array Value) (sp nm1 : ByteArray) (av2 : Value) (at2 : List (ByteArray × ByteArray)) (wr : World) (lv' : Value) (ks : List Nod) (tx : ByteArray) (r' : Rs) (kv : Value) (vs : List V5) : Prop where
  rd : Rd wr b s lv' r'.st r'.R r'.d r'.n
  inv : InvR s r'
  fr : Fr b.S w lv wr lv'
  p : Row5 wr B P
  z : RowN wr (B + 1) #[.string ⟨#[]⟩, .string ⟨#[]⟩, .slice none 0 0, .slice none 0 0, .string ⟨#[]⟩]
  x : RowN wr X #[.string sp, .string nm1, av2, kv, .string tx]
  at' : AttrsAt wr av2 at2
  av : ∀ g, av2.ownBlock = some g → B + 1 < g ∧ g ≠ X ∧ lv'.ownBlock ≠ some g ∧ kv.ownBlock ≠ some g
  k : OwnK wr kv vs
  kvB : ∀ g, kv.ownBlock = some g → B + 1 < g ∧ g ≠ X ∧ lv'.ownBlock ≠ some g
  kids : Kids (fun g => B + 1 < g ∧ g ≠ X ∧ lv'.ownBlock ≠ some g ∧ kv.ownBlock ≠ some g ∧ g < wr.heap.size) wr ks vs
  l : lv'.ownBlock ≠ some B ∧ lv'.ownBlock ≠ some (B + 1) ∧ lv'.ownBlock ≠ some X
section
variable {b : Blk} {s : ByteArray} {lv : Value} {w : World} {B X : Nat} {P : Array Value} {sp nm1 : ByteArray} {av2 : Value} {at2 : List (ByteArray × ByteArray)} {wr wy : World} {lv' lv2 : Value} {ks : List Nod} {tx : ByteArray} {r' r2 : Rs} {kv : Value} {vs : List V5}
theorem BodyInv.step (h : BodyInv b s lv w B X P sp nm1 av2 at2 wr lv' ks tx r' kv vs) (hX : B + 1 < X) (hb : b.c < B ∧ b.r < B ∧ b.s < B) (f : Fr b.S wr lv' wy lv2) (hrd : Rd wy b s lv2 r2.st r2.R r2.d r2.n) (hi : InvR s r2) :
    BodyInv b s lv w B X P sp nm1 av2 at2 wy lv2 ks tx r2 kv vs := by
  have nS : ∀ g, B ≤ g → ¬ b.S g := fun g hg e => by rcases e with e | e | e <;> omega
  have ow : ∀ {g}, g < wr.heap.size → lv'.ownBlock ≠ some g → lv2.ownBlock ≠ some g := fun hg hl => f.owned hg hl
  refine ⟨hrd, hi, h.fr.trans f, h.p.fr f (nS _ (by omega)) h.l.1, h.z.fr f (nS _ (by omega)) h.l.2.1, h.x.fr f (nS _ (by omega)) h.l.2.2, h.at'.fr f (fun g hg => ⟨nS g (by have := (h.av g hg).1; omega), (h.av g hg).2.2.1⟩),
    fun g hg => ⟨(h.av g hg).1, (h.av g hg).2.1, ow (h.at'.lt g hg) (h.av g hg).2.2.1, (h.av g hg).2.2.2⟩, h.k.fr f (fun g hg => ⟨nS g (by have := (h.kvB g hg).1; omega), (h.kvB g hg).2.2⟩),
    fun g hg => ⟨(h.kvB g hg).1, (h.kvB g hg).2.1, ow (h.k.lt g hg) (h.kvB g hg).2.2⟩, ?_, ow h.p.lt h.l.1, ow h.z.lt h.l.2.1, ow h.x.lt h.l.2.2⟩
  exact h.kids.keep f.size (fun g hg hlt => f.block g hlt (nS g (by have := hg.1; omega)) hg.2.2.1) (fun g hg hlt => ⟨hg.1, hg.2.1, ow hlt hg.2.2.1, hg.2.2.2.1, Nat.lt_of_lt_of_le hlt f.size⟩) (fun g hg => hg.2.2.2.2)
theorem BodyInv.grow (h : BodyInv b s lv w B X P sp nm1 av2 at2 wr lv' ks tx r' kv vs) (hX : B + 1 < X) (hb : b.c < B ∧ b.r < B ∧ b.s < B) (g : Flow.Grow wr wy) : BodyInv b s lv w B X P sp nm1 av2 at2 wy lv' ks tx r' kv vs :=
  h.step hX hb (Fr.of g) (h.rd.grow g) h.inv
theorem BodyInv.text (h : BodyInv b s lv w B X P sp nm1 av2 at2 wr lv' ks tx r' kv vs) (hX : B + 1 < X) (hb : b.c < B ∧ b.r < B ∧ b.s < B) (hB : w.heap.size = B) (tx2 : ByteArray) :
    BodyInv b s lv w B X P sp nm1 av2 at2 (wr.setCell ⟨X, 4, none⟩ (.string tx2)) lv' ks tx2 r' kv vs := by
  have m : Mv wr X (wr.setCell ⟨X, 4, none⟩ (.string tx2)) := Mv.set
  refine ⟨h.rd.other m (by omega) (by omega) (by omega) h.l.2.2, h.inv, h.fr.mvNew m (by omega), h.p.mv m (by omega), h.z.mv m (by omega), h.x.set 4 _, h.at'.mv' m (fun e => (h.av X e).2.1 rfl), h.av, h.k.mv m (fun e => (h.kvB X e).2.1 rfl), h.kvB, ?_, h.l⟩
  exact h.kids.keep m.size (fun g hg hlt => m.block g hlt (by have := hg.2.1; simp; omega)) (fun g hg hlt => ⟨hg.1, hg.2.1, hg.2.2.1, hg.2.2.2.1, Nat.lt_of_lt_of_le hlt m.size⟩) (fun g hg => hg.2.2.2.2)
/-- the element as it is handed back -/
theorem BodyInv.fin (h : BodyInv b s lv w B X P sp nm1 av2 at2 wr lv' ks tx r' kv vs) (hB : w.heap.size = B) {w8 : World} (m : Mv wr (B + 1) w8) :
    NodAt (fun g => w.heap.size ≤ g ∧ lv'.ownBlock ≠ some g ∧ g < w8.heap.size) w8 (.agg #[.string sp, .string nm1, av2, kv, .string tx]) (.mk sp nm1 at2 ks tx) := by
  refine NodAt.of (h.at'.mv' m (fun e => by have := (h.av _ e).1; omega)) (fun g hg => ⟨by have := (h.av g hg).1; omega, (h.av g hg).2.2.1, Nat.lt_of_lt_of_le (h.at'.lt g hg) m.size⟩)
    (h.k.mv m (fun e => by have := (h.kvB _ e).1; omega)) (fun g hg => ⟨by have := (h.kvB g hg).1; omega, (h.kvB g hg).2.2, Nat.lt_of_lt_of_le (h.k.lt g hg) m.size⟩) ?_
  exact h.kids.keep m.size (fun g hg hlt => m.block g hlt (by have := hg.1; simp; omega)) (fun g hg hlt => ⟨by have := hg.1; omega, hg.2.2.1, Nat.lt_of_lt_of_le hlt m.size⟩) (fun g hg => hg.2.2.2.2)
/-- one element more within it -/
theorem BodyInv.push (h : BodyInv b s lv w B X P sp nm1 av2 at2 wy lv' ks tx r' kv vs) (hX : B + 1 < X) (hb : b.c < B ∧ b.r < B ∧ b.s < B) (hB : w.heap.size = B) {H : Nat} (hH : X < H) (hkH : ∀ g, kv.ownBlock = some g → g < H) {v : V5} {y : Nod}
    (hv : NodAt (fun g => H ≤ g ∧ lv'.ownBlock ≠ some g ∧ g < wy.heap.size) wy v.agg y) {wz w4 : World} (gz : Flow.Grow wy wz) {kv2 : Value} (ho : OwnK w4 kv2 (vs ++ [v])) (hg4 : wz.grownBy w4 kv.ownBlock) (hm : Moved wz kv kv2) :
    BodyInv b s lv w B X P sp nm1 av2 at2 (w4.setCell ⟨X, 3, none⟩ kv2) lv' (ks ++ [y]) tx r' kv2 (vs ++ [v]) := by
  have hz := h.grow hX hb gz
  have hlz := hz.rd.lts
  have hk2 : ∀ g, kv2.ownBlock = some g → B + 1 < g ∧ g ≠ X ∧ lv'.ownBlock ≠ some g ∧ (kv.ownBlock = some g ∨ wz.heap.size ≤ g) := by
    intro g hg
    rcases hm with e | ⟨g', e, hg'⟩
    · rw [e] at hg; have := h.kvB g hg; exact ⟨this.1, this.2.1, this.2.2, .inl hg⟩
    · rw [e] at hg; cases hg
      have h1 := hz.x.lt
      exact ⟨by omega, by omega, fun e2 => by have := hlz.2.2.2 _ e2; omega, .inr hg'⟩
  have blk : ∀ g, g < wz.heap.size → kv.ownBlock ≠ some g → w4.heap[g]? = wz.heap[g]? := fun g hg hne => hg4.block g hg (fun e => hne e.symm)
  have nk : ∀ {g}, kv.ownBlock ≠ some g → g < wz.heap.size → kv2.ownBlock ≠ some g := fun hne hlt e => by
    rcases (hk2 _ e).2.2.2 with h1 | h1
    · exact hne h1
    · omega
  have m : Mv w4 X (w4.setCell ⟨X, 3, none⟩ kv2) := Mv.set
  have kB : kv.ownBlock ≠ some B := fun e => by have := (h.kvB B e).1; omega
  have kB1 : kv.ownBlock ≠ some (B + 1) := fun e => by have := (h.kvB _ e).1; omega
  have kX : kv.ownBlock ≠ some X := fun e => (h.kvB X e).2.1 rfl
  have kb : ∀ g, g < B → kv.ownBlock ≠ some g := fun g hg e => by have := (h.kvB g e).1; omega
  have hrd4 : Rd w4 b s lv' r'.st r'.R r'.d r'.n := ⟨(blk _ hlz.1 (kb _ hb.1)).trans hz.rd.sc, (blk _ hlz.2.1 (kb _ hb.2.1)).trans hz.rd.rd,
    ⟨(blk _ hlz.2.2.1 (kb _ hb.2.2)).trans hz.rd.sp.blk, hz.rd.sp.own.kept hg4 (by
      cases hl : lv'.ownBlock with
      | none => exact .inl rfl
      | some g => exact .inr (fun e => (h.kvB g e.symm).2.2 hl)), hz.rd.sp.ne⟩, hz.rd.cr, hz.rd.cs, hz.rd.rs, hz.rd.lc, hz.rd.lr⟩
  have hX4 : RowN w4 X #[.string sp, .string nm1, av2, kv, .string tx] := (blk X hz.x.lt kX).trans hz.x
  have hP4 : Row5 w4 B P := (blk B hz.p.lt kB).trans hz.p
  have hZ4 : RowN w4 (B + 1) #[.string ⟨#[]⟩, .string ⟨#[]⟩, .slice none 0 0, .slice none 0 0, .string ⟨#[]⟩] := (blk (B + 1) hz.z.lt kB1).trans hz.z
  have hA4 : AttrsAt w4 av2 at2 := hz.at'.keep hg4.size (fun g hg hlt => blk g hlt (hz.av g hg).2.2.2)
  have hf4 : Fr b.S w lv w4 lv' := hz.fr.row hg4 (fun g hg => by have := (h.kvB g hg).1; omega)
  have hS4 : w4.heap.size = (w4.setCell ⟨X, 3, none⟩ kv2).heap.size := by simp [World.setCell]
  refine ⟨hrd4.other m (by omega) (by omega) (by omega) h.l.2.2, h.inv, hf4.mvNew m (by omega), hP4.mv m (by omega), hZ4.mv m (by omega), hX4.set 3 _, hA4.mv' m (fun e => (h.av X e).2.1 rfl),
    fun g hg => ⟨(hz.av g hg).1, (hz.av g hg).2.1, (hz.av g hg).2.2.1, nk (hz.av g hg).2.2.2 (hz.at'.lt g hg)⟩, ho.mv m (fun e => (hk2 X e).2.1 rfl), fun g hg => ⟨(hk2 g hg).1, (hk2 g hg).2.1, (hk2 g hg).2.2.1⟩, ?_, h.l⟩
  have hblk : ∀ g, g ≠ X → g < wz.heap.size → kv.ownBlock ≠ some g → (w4.setCell ⟨X, 3, none⟩ kv2).heap[g]? = wz.heap[g]? := fun g h1 h2 h3 => (m.block g (Nat.lt_of_lt_of_le h2 hg4.size) (by simp; omega)).trans (blk g h2 h3)
  have hsz : wz.heap.size ≤ (w4.setCell ⟨X, 3, none⟩ kv2).heap.size := by rw [← hS4]; exact hg4.size
  refine Kids.push (hz.kids.keep hsz (fun g hg hlt => hblk g hg.2.1 hlt hg.2.2.2.1) (fun g hg hlt => ⟨hg.1, hg.2.1, hg.2.2.1, nk hg.2.2.2.1 hlt, by omega⟩) (fun g hg => hg.2.2.2.2)) ?_
  have kne : ∀ g, H ≤ g → kv.ownBlock ≠ some g := fun g hg e => by have := hkH g e; omega
  exact hv.keep (Nat.le_trans gz.size hsz) (fun g hg hlt => (hblk g (by have := hg.1; omega) (Nat.lt_of_lt_of_le hlt gz.size) (kne g hg.1)).trans (gz.block g hlt (by simp)))
    (fun g hg hlt => ⟨by have := hg.1; omega, by have := hg.1; omega, hg.2.1, nk (kne g hg.1) (Nat.lt_of_lt_of_le hlt gz.size), by have := gz.size; omega⟩) (fun g hg => hg.2.2)
end
end Xm
end Go.Proofs.YtdpkhmfolmcejaaGreatDoor
