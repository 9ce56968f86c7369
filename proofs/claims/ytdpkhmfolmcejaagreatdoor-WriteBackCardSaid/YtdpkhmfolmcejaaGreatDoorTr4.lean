/- tree: what an element is in a world; Leave as it is deferred. -/
import Derived.Test.YtdpkhmfolmcejaaGreatDoorTr3
namespace Go.Proofs.YtdpkhmfolmcejaaGreatDoor
open Go.RowKit
set_option maxRecDepth 100000 in
set_option maxHeartbeats 1000000 in
theorem leave_d (u : FrameMode) (q : Nat) (lv : Value) (R : List Xm.Bd) (d : Nat) (w : World) (h : Xm.Sp w q lv R d) (hd : d ≤ 1000000) :
    CallsD Tryz.prog 52 #[.pointer (some ⟨q, 0, none⟩)] u w fun e u' w' => u' = u ∧ (e = .returned (.tuple #[]) ∧ ∃ lv', Xm.Sp w' q lv' (Xm.leaveL R d) (d - 1) ∧ Xm.Fr (· = q) w lv w' lv') := by
  have c1 := h.blk.c1
  have H := Lib.hid h
  clear h
  by_cases h0 : d = 0
  · subst h0
    have c1 : w.cell? ⟨q, 1, none⟩ = some (.int .i64 0) := H.out.blk.c1
    go_enter_d Tryz.func52, Tryz.ntmps52
    go_wp2
    (try simp only [Exit.inBlock, Exit.then])
    exact bodyPost_ret (results_none (by kernel_rfl) _ _ _) rfl ⟨rfl, lv, H.out, Xm.Fr.refl _ _ _⟩
  have hb : ((d : Int) == 0) = false := by simpa using h0
  have HL : Hid (Xm.leaveL R d = R.dropWhile fun r => r.2.2 == d) := Lib.hid (by rw [Xm.leaveL, if_neg h0])
  go_enter_d Tryz.func52, Tryz.ntmps52
  go_wp2
  clear c1
  go_loopw [] (fun wr => ∃ (R' : List Xm.Bd) (lv' : Value), Hid (Xm.Sp wr q lv' R' d) ∧ Hid (Xm.Fr (· = q) w lv wr lv') ∧ Hid ((R.dropWhile fun r => r.2.2 == d) = R'.dropWhile fun r => r.2.2 == d)) (fun wr => match wr.cell? ⟨q, 0, none⟩ with | some (.slice _ n _) => n | _ => 0)
  case atStart => exact ⟨R, lv, H, Lib.hid (Xm.Fr.refl _ _ _), Lib.hid rfl⟩
  case round =>
    obtain ⟨R', lv', HS, HF, HE⟩ := hrel
    have c0 := HS.out.blk.c0
    have c1 := HS.out.blk.c1
    have fz0 := HS.out.blk.fz 0
    have fz1 := HS.out.blk.fz 1
    have e1 : IntKind.i64.wrap ((d : Int) - 1) = ((d - 1 : Nat) : Int) := (IntWalk.i64_in _ (by omega)).trans (by omega)
    have Hend : ∀ wz, Flow.Grow wr wz → Hid (Xm.leaveL R d = R') → Hid (Xm.Sp (wz.setCell ⟨q, 1, none⟩ (.int .i64 ((d - 1 : Nat) : Int))) q lv' (Xm.leaveL R d) (d - 1) ∧ Xm.Fr (· = q) w lv (wz.setCell ⟨q, 1, none⟩ (.int .i64 ((d - 1 : Nat) : Int))) lv') := fun wz gz he => Lib.hid ⟨by
      have h1 := HS.out.grow gz
      rw [he.out]; exact ⟨h1.blk.set1, h1.own.set h1.ne, h1.ne⟩, (HF.out.trans (Xm.Fr.of gz)).setIn rfl⟩
    cases R' with
    | nil =>
      obtain ⟨a, cap, hv⟩ := HS.out.own.nil
      subst hv
      have HEe : Hid (Xm.leaveL R d = []) := Lib.hid (by rw [HL.out, HE.out]; rfl)
      go_wp2_with fail
      go_quiet (fail)
      generalize hw2 : wr.drewN nq = w2 at *
      have HH := Hend w2 (by rw [← hw2]; exact Flow.grow_drewN _ _) HEe
      have c1' : w2.cell? ⟨q, 1, none⟩ = some (.int .i64 (d : Int)) := (HS.out.grow (by rw [← hw2]; exact Flow.grow_drewN _ _)).blk.c1
      have fz1' : w2.frozen? ⟨q, 1, none⟩ = false := (HS.out.grow (by rw [← hw2]; exact Flow.grow_drewN _ _)).blk.fz 1
      clear Hend hw2
      go_wp2
      go_end0
      exact ⟨rfl, _, HH.out⟩
    | cons r R'' =>
      obtain ⟨g, cap, rfl, hcap, hcm, ho, k0, k1, k2⟩ := HS.out.own.cons
      obtain ⟨m, hm⟩ : ∃ m, m = R''.length := ⟨_, rfl⟩
      rw [← hm] at hcap k0 k1 k2 c0
      have HM := Lib.hid hm
      clear hm
      have hd1 : decide ((0 : Int) < (m : Int) + 1) = true := decide_eq_true (by omega)
      have hd2 : decide ((0 : Int) < ((m + 1 : Nat) : Int)) = true := by simp
      have HO := Lib.hid ho
      clear ho
      have hz : ((m + 1 : Nat) : Int) - 1 = (m : Int) := by omega
      have e2 : IntKind.i64.wrap (m : Int) = (m : Int) := IntWalk.i64_in _ (by unfold maxLen at hcm; omega)
      have hm0 : (0 : Int) < (m : Int) + 1 := by omega
      have hm1 : ¬ (m : Int) + 1 ≤ (m : Int) := by omega
      by_cases hr : r.2.2 = d
      · have HEe : Hid ((R.dropWhile fun r => r.2.2 == d) = R''.dropWhile fun r => r.2.2 == d) := Lib.hid (by rw [HE.out, List.dropWhile_cons_of_pos (by simpa using hr)])
        have hr' : ((r.2.2 : Int) == (d : Int)) = true := by rw [hr]; simp
        have hr2 : (r.2.2 == d) = true := by simpa using hr
        clear Hend hr
        go_wp2_with fail
        go_quiet (fail)
        generalize hw2 : wr.drewN nq = w2 at *
        have gz : Flow.Grow wr w2 := by rw [← hw2]; exact Flow.grow_drewN _ _
        have HS2 := Lib.hid (HS.out.grow gz)
        have HO2 := Lib.hid (HO.out.grow gz)
        have HF2 := Lib.hid (HF.out.trans (Xm.Fr.of (S := (· = q)) gz))
        have c0 := HS2.out.blk.c0
        rw [← HM.out] at c0
        have fz0 := HS2.out.blk.fz 0
        clear hw2 gz HS HF HO
        have hi1 : (m : Int) ≤ (cap : Int) := by omega
        have hi2 : m ≤ cap := by omega
        go_wp2_with fail
        go_still_tail 14, (by kernel_rfl)
        change wpList _ _ _ _ _ (w2.drewN 1)
        have gd := Flow.grow_drewN w2 1
        have HS3 := Lib.hid (HS2.out.grow gd)
        have HO3 := Lib.hid (HO2.out.grow gd)
        have HF3 := Lib.hid (HF2.out.trans (Xm.Fr.of (S := (· = q)) gd))
        have fz0 := HS3.out.blk.fz 0
        clear gd HS2 HO2 HF2 c0
        have c03 := HS3.out.blk.c0
        rw [← HM.out] at c03
        generalize w2.drewN 1 = w3 at *
        go_wp2_with fail
        go_roundw
        case rel => exact ⟨R'', .slice (some ⟨g, 0, none⟩) R''.length cap, Lib.hid ⟨by rw [← HM.out]; exact HS3.out.blk.set0, HO3.out.set HS3.out.ne, HS3.out.ne⟩, Lib.hid ((HF3.out.setIn rfl).same rfl), HEe⟩
        case measure =>
          have h1 : (w3.setCell ⟨q, 0, none⟩ (.slice (some ⟨g, 0, none⟩) m cap)).cell? ⟨q, 0, none⟩ = some (.slice (some ⟨g, 0, none⟩) m cap) := (Xm.Row2.set0 HS3.out.blk).c0
          simp only [h1, c0]
          omega
      · have HEe : Hid (Xm.leaveL R d = r :: R'') := Lib.hid (by rw [HL.out, HE.out, List.dropWhile_cons_of_neg (by simpa using hr)])
        have hr' : ((r.2.2 : Int) == (d : Int)) = false := by simpa using (fun h : (r.2.2 : Int) = d => hr (by omega))
        go_wp2_with fail
        go_quiet (fail)
        generalize hw2 : wr.drewN nq = w2 at *
        have HH := Hend w2 (by rw [← hw2]; exact Flow.grow_drewN _ _) HEe
        have c1' : w2.cell? ⟨q, 1, none⟩ = some (.int .i64 (d : Int)) := (HS.out.grow (by rw [← hw2]; exact Flow.grow_drewN _ _)).blk.c1
        have fz1' : w2.frozen? ⟨q, 1, none⟩ = false := (HS.out.grow (by rw [← hw2]; exact Flow.grow_drewN _ _)).blk.fz 1
        clear Hend hw2
        go_wp2
        go_end0
        exact ⟨rfl, _, HH.out⟩
namespace Xm
/-- five cells of an element -/
abbrev V5 := Value × Value × Value × Value × Value
def V5.agg (v : V5) : Value := .agg #[v.1, v.2.1, v.2.2.1, v.2.2.2.1, v.2.2.2.2]
def V5.cells (v : V5) : List Value := [v.1, v.2.1, v.2.2.1, v.2.2.2.1, v.2.2.2.2]
def flat (vs : List V5) : List Value := vs.flatMap V5.cells
theorem flat_append (a b : List V5) : flat (a ++ b) = flat a ++ flat b := by simp [flat]
/-- an element in a world, its rows in blocks of a kind -/
inductive NodAt (F : Nat → Prop) (w : World) : Value → Nod → Prop
  | mk (sp nm tx : ByteArray) (av kv : Value) (l : List (ByteArray × ByteArray)) (ks : List Nod) (vs : List V5) (g off : Nat) (ha : AttrsAt w av l) (haF : ∀ q, av.ownBlock = some q → F q)
      (hk : (ks = [] ∧ ∃ a c, kv = .slice a 0 c) ∨ ∃ cap, kv = .slice (some ⟨g, off, none⟩) ks.length cap ∧ ks.length ≤ cap ∧ cap ≤ maxLen ∧ g < w.heap.size ∧ F g)
      (hl : vs.length = ks.length) (hc : ks ≠ [] → ∀ j u, (flat vs)[j]? = some u → w.cell? ⟨g, off + j, none⟩ = some u)
      (hn : ∀ (j : Nat) (y : Nod) (v : V5), ks[j]? = some y → vs[j]? = some v → NodAt F w (V5.agg v) y) : NodAt F w (.agg #[.string sp, .string nm, av, kv, .string tx]) (.mk sp nm l ks tx)
theorem AttrsAt.keep {w w' : World} {v : Value} {l : List (ByteArray × ByteArray)} (h : AttrsAt w v l) (hs : w.heap.size ≤ w'.heap.size) (hb : ∀ g, v.ownBlock = some g → g < w.heap.size → w'.heap[g]? = w.heap[g]?) : AttrsAt w' v l := by
  rcases h with h | ⟨g, off, cap, rfl, hlc, hcm, hg, hcell⟩
  · exact .inl h
  · refine .inr ⟨g, off, cap, rfl, hlc, hcm, Nat.lt_of_lt_of_le hg hs, fun j u hu => ?_⟩
    have := hcell j u hu
    unfold World.cell? at this ⊢
    rw [hb g rfl hg]
    exact this
theorem NodAt.keep {F F' : Nat → Prop} {w w' : World} {v : Value} {x : Nod} (h : NodAt F w v x) (hs : w.heap.size ≤ w'.heap.size) (hb : ∀ g, F g → g < w.heap.size → w'.heap[g]? = w.heap[g]?) (hF : ∀ g, F g → g < w.heap.size → F' g) (ha : ∀ g, F g → g < w.heap.size) : NodAt F' w' v x := by
  induction h with
  | mk sp nm tx av kv l ks vs g off hA haF hk hl hc hn ih =>
    refine .mk sp nm tx av kv l ks vs g off (hA.keep hs (fun q hq hlt => hb q (haF q hq) hlt)) (fun q hq => hF q (haF q hq) (ha q (haF q hq))) ?_ hl ?_ ih
    · rcases hk with hk | ⟨cap, h1, h2, h3, h4, h5⟩
      · exact .inl hk
      · exact .inr ⟨cap, h1, h2, h3, Nat.lt_of_lt_of_le h4 hs, hF g h5 h4⟩
    · intro hne j u hu
      rcases hk with ⟨h0, _⟩ | ⟨cap, h1, h2, h3, h4, h5⟩
      · exact absurd h0 hne
      · have := hc hne j u hu
        unfold World.cell? at this ⊢
        rw [hb g h5 h4]
        exact this
/-- kids that a row of the call's own holds -/
def OwnK (w : World) (kv : Value) (vs : List V5) : Prop := w.ownsRow 0 25 5 kv vs.length (flat vs)
def Kids (F : Nat → Prop) (w : World) (ks : List Nod) (vs : List V5) : Prop := vs.length = ks.length ∧ ∀ (j : Nat) (y : Nod) (v : V5), ks[j]? = some y → vs[j]? = some v → NodAt F w (V5.agg v) y
theorem Kids.keep {F F' : Nat → Prop} {w w' : World} {ks : List Nod} {vs : List V5} (h : Kids F w ks vs) (hs : w.heap.size ≤ w'.heap.size) (hb : ∀ g, F g → g < w.heap.size → w'.heap[g]? = w.heap[g]?) (hF : ∀ g, F g → g < w.heap.size → F' g) (ha : ∀ g, F g → g < w.heap.size) : Kids F' w' ks vs :=
  ⟨h.1, fun j y v h1 h2 => (h.2 j y v h1 h2).keep hs hb hF ha⟩
theorem Kids.nil (F : Nat → Prop) (w : World) : Kids F w [] [] := ⟨rfl, fun j y v h => by simp at h⟩
theorem Kids.push {F : Nat → Prop} {w : World} {ks : List Nod} {vs : List V5} {y : Nod} {v : V5} (h : Kids F w ks vs) (hv : NodAt F w (V5.agg v) y) : Kids F w (ks ++ [y]) (vs ++ [v]) := by
  refine ⟨by simp [h.1], fun j y' v' h1 h2 => ?_⟩
  by_cases hj : j < ks.length
  · rw [List.getElem?_append_left hj] at h1
    rw [List.getElem?_append_left (by rw [h.1]; exact hj)] at h2
    exact h.2 j y' v' h1 h2
  · rw [List.getElem?_append_right (by omega)] at h1
    rw [List.getElem?_append_right (by rw [h.1]; omega), h.1] at h2
    obtain ⟨rfl, hj0⟩ : y' = y ∧ j - ks.length = 0 := by
      cases hz : j - ks.length with
      | zero => rw [hz] at h1; simp at h1; exact ⟨h1.symm, rfl⟩
      | succ m => rw [hz] at h1; simp at h1
    rw [hj0] at h2
    simp at h2
    rw [← h2]
    exact hv
theorem OwnK.nil (w : World) : OwnK w (.slice none 0 0) [] := World.ownsRow_nil _ _ _ _
theorem OwnK.kept {w w' : World} {row : Option Nat} {kv : Value} {vs : List V5} (h : OwnK w kv vs) (g : w.grownBy w' row) (hr : kv.ownBlock = none ∨ kv.ownBlock ≠ row) : OwnK w' kv vs := World.ownsRow.kept h g hr
theorem OwnK.grow {w w' : World} {kv : Value} {vs : List V5} (h : OwnK w kv vs) (g : Flow.Grow w w') : OwnK w' kv vs := h.kept (row := none) g (by cases kv.ownBlock <;> simp)
theorem OwnK.mv {w w' : World} {kv : Value} {vs : List V5} {q : Nat} (h : OwnK w kv vs) (g : Mv w q w') (hq : kv.ownBlock ≠ some q) : OwnK w' kv vs := h.kept g (.inr hq)
theorem OwnK.lt {w : World} {kv : Value} {vs : List V5} (h : OwnK w kv vs) : ∀ g, kv.ownBlock = some g → g < w.heap.size := by
  intro g hg
  rcases h.2 with ⟨hv, _⟩ | ⟨g', cap, cur, hv, _, hgg, _⟩
  · rw [hv] at hg; cases hg
  · rw [hv] at hg; cases hg; exact (Array.getElem?_eq_some_iff.1 hgg).1
theorem OwnK.fr {S : Nat → Prop} {w w' : World} {lv lv' kv : Value} {vs : List V5} (h : OwnK w kv vs) (f : Fr S w lv w' lv') (hS : ∀ g, kv.ownBlock = some g → ¬ S g ∧ lv.ownBlock ≠ some g) : OwnK w' kv vs := by
  refine ⟨h.1, ?_⟩
  rcases h.2 with hn | ⟨g, cap, cur, rfl, hb, hgg, rest⟩
  · exact .inl hn
  · refine .inr ⟨g, cap, cur, rfl, hb, ?_, rest⟩
    rw [f.block g (Array.getElem?_eq_some_iff.1 hgg).1 (hS g rfl).1 (hS g rfl).2]
    exact hgg
theorem OwnK.shape {w : World} {kv : Value} {vs : List V5} (h : OwnK w kv vs) : ∃ a cap, kv = .slice a vs.length cap := by
  rcases h.2 with ⟨hv, hn⟩ | ⟨g, cap, cur, hv, _⟩
  · exact ⟨none, 0, by rw [hn]; exact hv⟩
  · exact ⟨_, cap, hv⟩
/-- an element out of its parts -/
theorem NodAt.of {F : Nat → Prop} {w : World} {sp nm tx : ByteArray} {av kv : Value} {l : List (ByteArray × ByteArray)} {ks : List Nod} {vs : List V5} (ha : AttrsAt w av l) (haF : ∀ q, av.ownBlock = some q → F q) (hO : OwnK w kv vs) (hk : ∀ q, kv.ownBlock = some q → F q) (hK : Kids F w ks vs) :
    NodAt F w (.agg #[.string sp, .string nm, av, kv, .string tx]) (.mk sp nm l ks tx) := by
  have hlen := hK.1
  rcases hO.2 with ⟨hv, hn⟩ | ⟨g, cap, cur, hv, _, hgg, hnc, hcm, hcs, htake⟩
  · have h0 : ks = [] := List.eq_nil_of_length_eq_zero (by omega)
    subst h0
    exact .mk sp nm tx av kv l [] vs 0 0 ha haF (.inl ⟨rfl, none, 0, hv⟩) hlen (fun h => absurd rfl h) hK.2
  · refine .mk sp nm tx av kv l ks vs g 0 ha haF (.inr ⟨cap, by rw [← hlen]; exact hv, by omega, hcm, (Array.getElem?_eq_some_iff.1 hgg).1, hk g (by rw [hv]; rfl)⟩) hlen (fun _ j u hu => ?_) hK.2
    have := World.ownsRow.cells hO (g := g) (by rw [hv]; rfl) j u hu
    rw [Addr.add_lit, Nat.zero_add] at this
    rw [Nat.zero_add]; exact this
/-- a reader's blocks lie above the two that are fixed -/
structure Low (b : Blk) (lv : Value) : Prop where
  c : 1 < b.c
  r : 1 < b.r
  s : 1 < b.s
  l : ∀ g, lv.ownBlock = some g → 1 < g
theorem Low.fr {b : Blk} {S : Nat → Prop} {w w' : World} {lv lv' : Value} (h : Low b lv) (f : Fr S w lv w' lv') (hw : 1 < w.heap.size) : Low b lv' :=
  ⟨h.c, h.r, h.s, fun g hg => by
    rcases f.mv with e | ⟨g', e, hg'⟩
    · exact h.l g (e ▸ hg)
    · rw [e] at hg; cases hg; omega⟩
theorem Tab.fr {b : Blk} {w w' : World} {lv lv' : Value} (h : Tab w) (f : Fr b.S w lv w' lv') (hl : Low b lv) : Tab w' := ⟨Nat.lt_of_lt_of_le h.1 f.size, fun j v hv => by
  have := h.2 j v hv
  unfold World.cell? at this ⊢
  rw [f.block 1 h.1 (fun e => by have h1 := hl.c; have h2 := hl.r; have h3 := hl.s; rcases e with e | e | e <;> omega) (fun e => by have := hl.l 1 e; omega)]
  exact this⟩
theorem Max.fr {b : Blk} {w w' : World} {lv lv' : Value} (h : Max w) (f : Fr b.S w lv w' lv') (hl : Low b lv) : Max w' := ⟨Nat.lt_of_lt_of_le h.1 f.size, by
  obtain ⟨m, hm⟩ := h.2
  refine ⟨m, ?_⟩
  unfold World.cell? at hm ⊢
  rw [f.block 0 h.1 (fun e => by have h1 := hl.c; have h2 := hl.r; have h3 := hl.s; rcases e with e | e | e <;> omega) (fun e => by have := hl.l 0 e; omega)]
  exact hm⟩
end Xm
end Go.Proofs.YtdpkhmfolmcejaaGreatDoor
