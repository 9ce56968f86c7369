/- tree: document by its contract. -/
/- tree: caught, as it is deferred. -/
/- tree: Parse by its contract. -/
import Derived.Test.YtdpkhmfolmcejaaGreatDoorTr6
import Derived.Recover
namespace Go.Proofs.YtdpkhmfolmcejaaGreatDoor
open Go.RowKit
namespace Xm
/-- a document from a place on, its element perhaps known -/
def docT (s : ByteArray) : Nat → Option Nod → Rs → Except (Int × Int) Nod
  | 0, _, _ => .error (0, 0)
  | f + 1, o, r =>
    match nextR s r.st with
    | (q, st2) =>
      if st2.e ≠ 0 then .error (st2.e, st2.bad)
      else match o with
        | some y =>
          if q.kind = 0 then .ok y
          else if q.kind = 4 ∧ (trim q.text).size = 0 then docT s f (some y) ⟨st2, r.R, r.d, r.n⟩
          else .error (3, q.at')
        | none =>
          if q.kind = 4 ∧ (trim q.text).size = 0 then docT s f none ⟨st2, r.R, r.d, r.n⟩
          else if q.kind = 1 ∨ q.kind = 3 then
            match goT s (2 * s.size + 2) none q ⟨st2, r.R, r.d, r.n⟩ with
            | (.ok y, r2) => docT s f (some y) r2
            | (.error z, _) => .error z
          else .error (3, q.at')
def zero5 : V5 := (.string ⟨#[]⟩, .string ⟨#[]⟩, .slice none 0 0, .slice none 0 0, .string ⟨#[]⟩)
structure DocInv (b : Blk) (s : ByteArray) (lv : Value) (w : World) (D : Nat) (wr : World) (lv' : Value) (o : Option Nod) (r' : Rs) (vv : V5) : Prop where
  rd : Rd wr b s lv' r'.st r'.R r'.d r'.n
  inv : InvR s r'
  fr : Fr b.S w lv wr lv'
  z : RowN wr D #[.string ⟨#[]⟩, .string ⟨#[]⟩, .slice none 0 0, .slice none 0 0, .string ⟨#[]⟩]
  x : RowN wr (D + 1) #[vv.1, vv.2.1, vv.2.2.1, vv.2.2.2.1, vv.2.2.2.2]
  nod : ∀ y, o = some y → NodAt (fun g => D + 1 < g ∧ lv'.ownBlock ≠ some g ∧ g < wr.heap.size) wr vv.agg y
  l : lv'.ownBlock ≠ some D ∧ lv'.ownBlock ≠ some (D + 1)
theorem DocInv.step {b : Blk} {s : ByteArray} {lv : Value} {w : World} {D : Nat} {wr wy : World} {lv' lv2 : Value} {o : Option Nod} {r' r2 : Rs} {vv : V5} (h : DocInv b s lv w D wr lv' o r' vv) (hb : b.c < D ∧ b.r < D ∧ b.s < D) (f : Fr b.S wr lv' wy lv2) (hrd : Rd wy b s lv2 r2.st r2.R r2.d r2.n) (hi : InvR s r2) :
    DocInv b s lv w D wy lv2 o r2 vv := by
  have nS : ∀ g, D ≤ g → ¬ b.S g := fun g hg e => by rcases e with e | e | e <;> omega
  have ow : ∀ {g}, g < wr.heap.size → lv'.ownBlock ≠ some g → lv2.ownBlock ≠ some g := fun hg hl => f.owned hg hl
  refine ⟨hrd, hi, h.fr.trans f, h.z.fr f (nS _ (Nat.le_refl _)) h.l.1, h.x.fr f (nS _ (by omega)) h.l.2, fun y hy => ?_, ow h.z.lt h.l.1, ow h.x.lt h.l.2⟩
  exact (h.nod y hy).keep f.size (fun g hg hlt => f.block g hlt (nS g (by have := hg.1; omega)) hg.2.1) (fun g hg hlt => ⟨hg.1, ow hlt hg.2.1, Nat.lt_of_lt_of_le hlt f.size⟩) (fun g hg => hg.2.2)
/-- the element is known -/
theorem DocInv.put {b : Blk} {s : ByteArray} {lv : Value} {w : World} {D : Nat} {wr wy : World} {lv' : Value} {o : Option Nod} {r' : Rs} {vv u : V5} {y : Nod} (h : DocInv b s lv w D wr lv' o r' vv) (hb : b.c < D ∧ b.r < D ∧ b.s < D) (hD : w.heap.size = D) (m : Mv wr (D + 1) wy)
    (hx : RowN wy (D + 1) #[u.1, u.2.1, u.2.2.1, u.2.2.2.1, u.2.2.2.2]) {H : Nat} (hH : D + 1 < H) (hu : NodAt (fun g => H ≤ g ∧ lv'.ownBlock ≠ some g ∧ g < wr.heap.size) wr u.agg y) : DocInv b s lv w D wy lv' (some y) r' u := by
  refine ⟨h.rd.other m (by omega) (by omega) (by omega) h.l.2, h.inv, h.fr.mvNew m (by omega), h.z.mv m (by omega), hx, fun y' hy' => ?_, h.l⟩
  cases hy'
  exact hu.keep m.size (fun g hg hlt => m.block g hlt (by have := hg.1; simp; omega)) (fun g hg hlt => ⟨by have := hg.1; omega, hg.2.1, Nat.lt_of_lt_of_le hlt m.size⟩) (fun g hg => hg.2.2)
end Xm
/-- what came of document -/
def DocPost (b : Xm.Blk) (s : ByteArray) (lv : Value) (r : Xm.Rs) (w : World) (e : Ending) (w' : World) : Prop :=
  ∃ lv', (∃ st R d n, Xm.Rd w' b s lv' st R d n) ∧ Xm.Fr b.S w lv w' lv' ∧
  match Xm.docT s (s.size + 1) none r with
  | .ok y => ∃ v, e = .returned v ∧ Xm.NodAt (fun g => w.heap.size ≤ g ∧ g < w'.heap.size) w' v y
  | .error z => e = .panicked (Xm.failV z.1 z.2)
theorem doc_res (tmps : Array Value) (w : World) (R : Nat) (cs : Array Value) (hp : tmps.getD 2 undef = .pointer (some ⟨R, 0, none⟩)) (hg : Xm.RowN w R cs) (hc : cs.size = 5) :
    (results Tryz.f21 tmps).run Tryz.prog w = .ok (.agg cs) w :=
  results_cell_row (by kernel_rfl) tmps w R _ _ _ _ hp hg Tryz.underlying25 rfl (by rw [hc]; kernel_rfl)
set_option maxRecDepth 100000 in
set_option maxHeartbeats 4000000 in
theorem doc_any (s : ByteArray) (hs : s.size ≤ 200000) (b : Xm.Blk) (lv : Value) (r : Xm.Rs) (w : World) (hrd : Xm.Rd w b s lv r.st r.R r.d r.n) (hinv : Xm.InvR s r) (hlow : Xm.Low b lv) (hT : Xm.Tab w) (hm : Xm.Max w) :
    Calls Tryz.prog 21 #[.pointer (some ⟨b.r, 0, none⟩)] w (DocPost b s lv r w) := by
  have H := Lib.hid hrd
  have HI := Lib.hid hinv
  have HTB := Lib.hid (And.intro hT (And.intro hm hlow))
  clear hrd hinv hlow hT hm
  obtain ⟨bc, br, bs⟩ := b
  have G1 := Lib.hid (Flow.grow_alloc w (.cells #[.string ⟨#[]⟩, .string ⟨#[]⟩, .slice none 0 0, .slice none 0 0, .string ⟨#[]⟩] 25))
  have Z1 : Hid (Xm.RowN (w.alloc (.cells #[.string ⟨#[]⟩, .string ⟨#[]⟩, .slice none 0 0, .slice none 0 0, .string ⟨#[]⟩] 25)) w.heap.size #[.string ⟨#[]⟩, .string ⟨#[]⟩, .slice none 0 0, .slice none 0 0, .string ⟨#[]⟩]) := Lib.hid (heap_alloc_new _ _)
  go_enter Tryz.func21, Tryz.ntmps21
  go_wp2_with fail
  have DI : Hid (Xm.DocInv ⟨bc, br, bs⟩ s lv w w.heap.size ((w.alloc (.cells #[.string ⟨#[]⟩, .string ⟨#[]⟩, .slice none 0 0, .slice none 0 0, .string ⟨#[]⟩] 25)).alloc (.cells #[.string ⟨#[]⟩, .string ⟨#[]⟩, .slice none 0 0, .slice none 0 0, .string ⟨#[]⟩] 25)) lv none r Xm.zero5) := Lib.hid (by
    have g2 := Flow.grow_alloc (w.alloc (.cells #[.string ⟨#[]⟩, .string ⟨#[]⟩, .slice none 0 0, .slice none 0 0, .string ⟨#[]⟩] 25)) (.cells #[.string ⟨#[]⟩, .string ⟨#[]⟩, .slice none 0 0, .slice none 0 0, .string ⟨#[]⟩] 25)
    have hx := heap_alloc_new (w.alloc (.cells #[.string ⟨#[]⟩, .string ⟨#[]⟩, .slice none 0 0, .slice none 0 0, .string ⟨#[]⟩] 25)) (.cells #[.string ⟨#[]⟩, .string ⟨#[]⟩, .slice none 0 0, .slice none 0 0, .string ⟨#[]⟩] 25)
    rw [show (w.alloc (.cells #[.string ⟨#[]⟩, .string ⟨#[]⟩, .slice none 0 0, .slice none 0 0, .string ⟨#[]⟩] 25)).heap.size = w.heap.size + 1 by simp] at hx
    have h1 := H.out.notS (q := w.heap.size) (Nat.le_refl _)
    have h2 := H.out.notS (q := w.heap.size + 1) (by omega)
    exact ⟨(H.out.grow G1.out).grow g2, HI.out, Xm.Fr.of (G1.out.trans g2), Z1.out.grow g2, hx, fun y hy => (by cases hy), h1.2, h2.2⟩)
  have HL0 : Hid ((bc < w.heap.size ∧ br < w.heap.size ∧ bs < w.heap.size) ∧ w.heap.size = w.heap.size) := Lib.hid ⟨⟨H.out.lts.1, H.out.lts.2.1, H.out.lts.2.2.1⟩, rfl⟩
  obtain ⟨D, hD⟩ : ∃ D, D = w.heap.size := ⟨_, rfl⟩
  have HL : Hid ((bc < D ∧ br < D ∧ bs < D) ∧ w.heap.size = D) := Lib.hid (by have := HL0.out.1; rw [hD]; exact ⟨this, rfl⟩)
  rw [← hD] at DI ⊢
  clear hD G1 Z1 HL0
  generalize ((w.alloc (.cells #[.string ⟨#[]⟩, .string ⟨#[]⟩, .slice none 0 0, .slice none 0 0, .string ⟨#[]⟩] 25)).alloc (.cells #[.string ⟨#[]⟩, .string ⟨#[]⟩, .slice none 0 0, .slice none 0 0, .string ⟨#[]⟩] 25)) = w2 at *
  go_loopw [4] (fun v4 wr => ∃ (f' : Nat) (o : Option Xm.Nod) (r' : Xm.Rs) (lv' : Value) (a0 a1 a4 : ByteArray) (b1 b2 : Option Addr) (n1 n2 c1 c2 : Nat), v4 = .bool o.isSome ∧ Hid (Xm.DocInv ⟨bc, br, bs⟩ s lv w D wr lv' o r' (.string a0, .string a1, .slice b1 n1 c1, .slice b2 n2 c2, .string a4)) ∧
    Hid (Xm.docT s (s.size + 1) none r = Xm.docT s f' o r') ∧ Hid (s.size - r'.st.k + 1 ≤ f')) (fun _ wr => match wr.cell? ⟨bc, 1, none⟩ with | some (.int _ k) => s.size + 1 - k.toNat | _ => 0)
  case atStart => exact ⟨s.size + 1, none, r, lv, _, _, _, none, none, 0, 0, 0, 0, rfl, DI, Lib.hid rfl, Lib.hid (by omega)⟩
  case round =>
    obtain ⟨f', o, r', lv', a0, a1, a4, b1, b2, n1, n2, c1, c2, rfl, HDr, HGr, HFr⟩ := hrel
    rename World => wr
    clear DI
    obtain ⟨g, rfl⟩ : ∃ g, f' = g + 1 := ⟨f' - 1, by have := HFr.out; omega⟩
    have hc1 : wr.cell? ⟨bc, 1, none⟩ = some (.int .i64 r'.st.k) := (Xm.Sc.c HDr.out.rd.sc).2.1
    obtain ⟨q, st2, hnx⟩ : ∃ q st2, Xm.nextR s r'.st = (q, st2) := ⟨_, _, rfl⟩
    have Hnx := Lib.hid hnx
    have HNC := Lib.hid (rnext_any ⟨bc, br, bs⟩ s lv' r'.st r'.R r'.d r'.n wr HDr.out.rd HDr.out.inv.k (by omega) (HTB.out.1.fr HDr.out.fr HTB.out.2.2) (HTB.out.2.1.fr HDr.out.fr HTB.out.2.2) HTB.out.2.2.c)
    clear hnx
    by_cases he : st2.e = 0
    rotate_left
    · have HG : Hid (Xm.docT s (s.size + 1) none r = .error (st2.e, st2.bad)) := Lib.hid (by rw [HGr.out, Xm.docT, Hnx.out]; simp only; rw [if_pos he])
      go_wp2_with (go_at_call 33; refine HNC.out.mono ?_; rintro e w5 ⟨hrd, hfr, hif⟩; rw [Hnx.out] at hrd hif; simp only at hrd hif; rw [if_neg he] at hif; subst hif)
      exact ⟨rfl, lv', ⟨_, _, _, _, hrd⟩, HDr.out.fr.trans hfr, by rw [HG.out]⟩
    obtain ⟨qk, qn, qa, qt, qp⟩ := q
    have hns := Xm.next_step HDr.out.inv.k HDr.out.inv.e Hnx.out he
    have hsz := Xm.nextR_sized s r'.st
    rw [Hnx.out] at hsz
    have Hsz := Lib.hid hsz
    have Hns := Lib.hid hns
    clear hns hsz
    go_upto_region 5 with (go_at_call 33; refine HNC.out.mono ?_; rintro e w5 ⟨hrd, hfr, hif⟩; rw [Hnx.out] at hrd hif; simp only at hrd hif; rw [if_pos he] at hif; obtain ⟨va, rfl, hat, hlow⟩ := hif; obtain ⟨qo, qc, hva⟩ := hat.shape; subst hva; unfold Xm.Pc.cells)
    have gq := Flow.grow_alloc w5 (.cells #[.int .i64 qk, .string qn, .slice qo qa.length qc, .string qt, .int .i64 qp] 82)
    have hk2 : r'.st.k ≤ st2.k ∧ st2.k ≤ s.size := by
      have := HDr.out.inv.k
      rcases Hns.out with h1 | h1 <;> omega
    have HD6 : Hid (Xm.DocInv ⟨bc, br, bs⟩ s lv w D (w5.alloc (.cells #[.int .i64 qk, .string qn, .slice qo qa.length qc, .string qt, .int .i64 qp] 82)) lv' o ⟨st2, r'.R, r'.d, r'.n⟩ (.string a0, .string a1, .slice b1 n1 c1, .slice b2 n2 c2, .string a4)) := Lib.hid (HDr.out.step (r2 := ⟨st2, r'.R, r'.d, r'.n⟩) HL.out.1 (hfr.grow gq) (hrd.grow gq) ⟨HDr.out.inv.R, HDr.out.inv.d, HDr.out.inv.n, hk2.2, he⟩)
    have HQ6 : Hid (Xm.Row5 (w5.alloc (.cells #[.int .i64 qk, .string qn, .slice qo qa.length qc, .string qt, .int .i64 qp] 82)) w5.heap.size #[.int .i64 qk, .string qn, .slice qo qa.length qc, .string qt, .int .i64 qp]) := Lib.hid (heap_alloc_new _ _)
    have HA6 := Lib.hid (hat.grow gq)
    have HV6 : Hid (∀ g, (Value.slice qo qa.length qc).ownBlock = some g → ¬ Xm.Blk.S ⟨bc, br, bs⟩ g ∧ lv'.ownBlock ≠ some g) := Lib.hid (fun g hg => HDr.out.rd.notS (hlow g hg))
    obtain ⟨Q, hQ⟩ : ∃ Q, Q = w5.heap.size := ⟨_, rfl⟩
    rw [← hQ] at HQ6 ⊢
    have HK2 := Lib.hid hk2
    clear hrd hfr hat hlow gq hQ hk2 HNC
    generalize w5.alloc (.cells #[.int .i64 qk, .string qn, .slice qo qa.length qc, .string qt, .int .i64 qp] 82) = w6 at *
    clear w5
    have q0 := (cell_of_row w6 Q 0 _ _ _ HQ6.out).trans rfl
    have q1 := (cell_of_row w6 Q 1 _ _ _ HQ6.out).trans rfl
    have q2 := (cell_of_row w6 Q 2 _ _ _ HQ6.out).trans rfl
    have q3 := (cell_of_row w6 Q 3 _ _ _ HQ6.out).trans rfl
    have q4 := (cell_of_row w6 Q 4 _ _ _ HQ6.out).trans rfl
    have htz : qt.size ≤ 9223372036854775807 := by have := Hsz.out.text; simp only at this; omega
    have hlt : qk ≠ 0 → r'.st.k < st2.k := fun hne => by
      rcases Hns.out with h1 | h1
      · exact absurd h1.1 hne
      · exact h1.2.1
    have Hlt := Lib.hid hlt
    clear hlt
    obtain ⟨E, hE⟩ : ∃ E, E = decide ((Xm.trim qt).size = 0) := ⟨_, rfl⟩
    have HE := Lib.hid hE
    have x0 := (cell_of_row w6 (D + 1) 0 _ _ _ HD6.out.x).trans rfl
    have x1 := (cell_of_row w6 (D + 1) 1 _ _ _ HD6.out.x).trans rfl
    have x2 := (cell_of_row w6 (D + 1) 2 _ _ _ HD6.out.x).trans rfl
    have x3 := (cell_of_row w6 (D + 1) 3 _ _ _ HD6.out.x).trans rfl
    have x4 := (cell_of_row w6 (D + 1) 4 _ _ _ HD6.out.x).trans rfl
    have xf : ∀ j, w6.frozen? ⟨D + 1, j, none⟩ = false := fun j => frozen_of_row w6 (D + 1) _ _ _ HD6.out.x
    cases o with
    | some y =>
      by_cases hk0 : qk = 0
      · have k0 : (qk == 0) = true := by simp [hk0]
        have HG : Hid (Xm.docT s (s.size + 1) none r = .ok y) := Lib.hid (by rw [HGr.out, Xm.docT, Hnx.out]; simp only; rw [if_neg (by simp [he]), if_pos hk0])
        have z0 := (cell_of_row w6 D 0 _ _ _ HD6.out.z).trans rfl
        have z1 := (cell_of_row w6 D 1 _ _ _ HD6.out.z).trans rfl
        have z2 := (cell_of_row w6 D 2 _ _ _ HD6.out.z).trans rfl
        have z3 := (cell_of_row w6 D 3 _ _ _ HD6.out.z).trans rfl
        have z4 := (cell_of_row w6 D 4 _ _ _ HD6.out.z).trans rfl
        have zf : ∀ j, w6.frozen? ⟨D, j, none⟩ = false := fun j => frozen_of_row w6 D _ _ _ HD6.out.z
        clear hE hk0
        go_wp2
        refine bodyPost_ret (doc_res _ _ D _ rfl (setN HD6.out.z _ _ _ _ _) rfl) rfl ?_
        have hDw := HL.out.2
        refine ⟨lv', ⟨_, _, _, _, HD6.out.rd.new Xm.Mv.set5 H.out (by omega) HD6.out.l.1⟩, HD6.out.fr.mvNew Xm.Mv.set5 (by omega), ?_⟩
        rw [HG.out]
        exact ⟨_, rfl, (HD6.out.nod y rfl).keep Xm.Mv.set5.size (fun g hg hlt => Xm.Mv.set5.block g hlt (by have := hg.1; simp; omega)) (fun g hg hlt => ⟨by have := hg.1; omega, Nat.lt_of_lt_of_le hlt Xm.Mv.set5.size⟩) (fun g hg => hg.2.2)⟩
      have k0 : (qk == 0) = false := by simp [hk0]
      by_cases hk4 : qk = 4
      · have k4 : (qk == 4) = true := by simp [hk4]
        cases E
        · have HG : Hid (Xm.docT s (s.size + 1) none r = .error (3, qp)) := Lib.hid (by rw [HGr.out, Xm.docT, Hnx.out]; simp only; rw [if_neg (by simp [he]), if_neg hk0, if_neg (fun h => by rw [h.2] at hE; simp at hE)])
          have k1 : (qk == 1) = false := by simp [hk4]
          have k3 : (qk == 3) = false := by simp [hk4]
          clear hE hk0 hk4
          go_wp2_with (first | (go_at_call 34; refine (empty_any _ _ htz).mono ?_; rintro e w7 ⟨rfl, rfl⟩; rw [← HE.out]) | (go_at_call 36; refine (stop_any _ _ _).mono ?_; rintro e w7 ⟨rfl, rfl⟩))
          exact ⟨rfl, lv', ⟨_, _, _, _, HD6.out.rd⟩, HD6.out.fr, by rw [HG.out]⟩
        · have HG : Hid (Xm.docT s (s.size + 1) none r = Xm.docT s g (some y) ⟨st2, r'.R, r'.d, r'.n⟩) := Lib.hid (by rw [HGr.out, Xm.docT, Hnx.out]; simp only; rw [if_neg (by simp [he]), if_neg hk0, if_pos ⟨hk4, of_decide_eq_true hE.symm⟩])
          have hlt := Hlt.out hk0
          clear hE hk0 hk4
          go_wp2_with (go_at_call 34; refine (empty_any _ _ htz).mono ?_; rintro e w7 ⟨rfl, rfl⟩; rw [← HE.out])
          have hc2 : w6.cell? ⟨bc, 1, none⟩ = some (.int .i64 st2.k) := (Xm.Sc.c HD6.out.rd.sc).2.1
          go_roundw
          case rel => exact ⟨g, some y, ⟨st2, r'.R, r'.d, r'.n⟩, lv', a0, a1, a4, b1, b2, n1, n2, c1, c2, rfl, HD6, HG, Lib.hid (by have := HFr.out; have := HK2.out; simp only; omega)⟩
          case measure => simp only [hc1, hc2, Int.toNat_natCast]; have := HK2.out; omega
      · have k4 : (qk == 4) = false := by simp [hk4]
        have HG : Hid (Xm.docT s (s.size + 1) none r = .error (3, qp)) := Lib.hid (by rw [HGr.out, Xm.docT, Hnx.out]; simp only; rw [if_neg (by simp [he]), if_neg hk0, if_neg (fun h => hk4 h.1)])
        have hb13 : ∃ x1 x3, (qk == 1) = x1 ∧ (qk == 3) = x3 := ⟨_, _, rfl, rfl⟩
        obtain ⟨y1, y3, k1, k3⟩ := hb13
        clear hE hk0 hk4
        cases y1 <;> cases y3
        all_goals
          go_wp2_with (go_at_call 36; refine (stop_any _ _ _).mono ?_; rintro e w7 ⟨rfl, rfl⟩)
          exact ⟨rfl, lv', ⟨_, _, _, _, HD6.out.rd⟩, HD6.out.fr, by rw [HG.out]⟩
    | none =>
      by_cases hk4 : qk = 4 ∧ (Xm.trim qt).size = 0
      · obtain rfl := hk4.1
        have HG : Hid (Xm.docT s (s.size + 1) none r = Xm.docT s g none ⟨st2, r'.R, r'.d, r'.n⟩) := Lib.hid (by rw [HGr.out, Xm.docT, Hnx.out]; simp only; rw [if_neg (by simp [he]), if_pos ⟨trivial, hk4.2⟩])
        have hEt : E = true := by rw [hE]; exact decide_eq_true hk4.2
        have hlt := Hlt.out (by omega)
        subst hEt
        clear hE hk4
        go_wp2_with (go_at_call 34; refine (empty_any _ _ htz).mono ?_; rintro e w7 ⟨rfl, rfl⟩; rw [← HE.out])
        have hc2 : w6.cell? ⟨bc, 1, none⟩ = some (.int .i64 st2.k) := (Xm.Sc.c HD6.out.rd.sc).2.1
        go_roundw
        case rel => exact ⟨g, none, ⟨st2, r'.R, r'.d, r'.n⟩, lv', a0, a1, a4, b1, b2, n1, n2, c1, c2, rfl, HD6, HG, Lib.hid (by have := HFr.out; have := HK2.out; simp only; omega)⟩
        case measure => simp only [hc1, hc2, Int.toNat_natCast]; have := HK2.out; omega
      by_cases hk13 : qk = 1 ∨ qk = 3
      · have hne : qk ≠ 0 := by omega
        have hn4 : qk ≠ 4 := by omega
        have hlt := Hlt.out hne
        obtain ⟨res, r3, hgo⟩ : ∃ res r3, Xm.goT s (2 * s.size + 2) none ⟨qk, qn, qa, qt, qp⟩ ⟨st2, r'.R, r'.d, r'.n⟩ = (res, r3) := ⟨_, _, rfl⟩
        have Hgo := Lib.hid hgo
        have hin := Xm.goT_inv s (2 * s.size + 2) none ⟨qk, qn, qa, qt, qp⟩ ⟨st2, r'.R, r'.d, r'.n⟩ HD6.out.inv
        rw [hgo] at hin
        have Hin := Lib.hid hin
        have hcall : Calls Tryz.prog 35 #[.pointer (some ⟨br, 0, none⟩), .agg #[.int .i64 qk, .string qn, .slice qo qa.length qc, .string qt, .int .i64 qp]] w6 (ElemPost ⟨bc, br, bs⟩ s lv' (2 * s.size + 2) ⟨qk, qn, qa, qt, qp⟩ ⟨st2, r'.R, r'.d, r'.n⟩ w6) := elem_any s hs (2 * s.size + 2) ⟨bc, br, bs⟩ lv' ⟨qk, qn, qa, qt, qp⟩ (.slice qo qa.length qc) ⟨st2, r'.R, r'.d, r'.n⟩ w6
          ⟨HD6.out.rd, HD6.out.inv, HA6.out, HV6.out, Hsz.out, by simp only; omega, by omega, HTB.out.2.2.fr HD6.out.fr HTB.out.1.1, HTB.out.1.fr HD6.out.fr HTB.out.2.2, HTB.out.2.1.fr HD6.out.fr HTB.out.2.2⟩
        have Hcall := Lib.hid hcall
        have HH : Hid (D + 1 < w6.heap.size) := Lib.hid HD6.out.x.lt
        clear hgo hin hcall
        cases res with
        | error z =>
          have HG : Hid (Xm.docT s (s.size + 1) none r = .error z) := Lib.hid (by rw [HGr.out, Xm.docT, Hnx.out]; simp only; rw [if_neg (by simp [he]), if_neg hk4, if_pos hk13, Hgo.out])
          clear hE hk4
          rcases hk13 with hq | hq
          all_goals
            subst hq
            go_wp2_with (go_at_call 35; refine Hcall.out.mono ?_; rintro e w7 ⟨lv2, hrd, hfr, hres⟩; rw [Hgo.out] at hrd hres; simp only at hres; subst hres)
            exact ⟨rfl, lv2, ⟨_, _, _, _, hrd⟩, HD6.out.fr.trans hfr, by rw [HG.out]⟩
        | ok y =>
          have HG : Hid (Xm.docT s (s.size + 1) none r = Xm.docT s g (some y) r3) := Lib.hid (by rw [HGr.out, Xm.docT, Hnx.out]; simp only; rw [if_neg (by simp [he]), if_neg hk4, if_pos hk13, Hgo.out])
          clear hE hk4
          rcases hk13 with hq | hq
          all_goals
            subst hq
            go_upto_region 9 with fail
            go_wp2_with (go_at_call 35; refine Hcall.out.mono ?_; rintro e w7 ⟨lv2, hrd, hfr, hres⟩; rw [Hgo.out] at hrd hres; simp only at hres; obtain ⟨vv, rfl, hnode⟩ := hres; obtain ⟨u0, u1, u4, ua1, ua2, un1, un2, uc1, uc2, rfl⟩ := hnode.form; have HD7 := Lib.hid (HD6.out.step (r2 := r3) HL.out.1 hfr hrd (Hin.out.ok y rfl).1); have HN7 := Lib.hid hnode; have y0 := (cell_of_row w7 (D + 1) 0 _ _ _ HD7.out.x).trans rfl; have y1 := (cell_of_row w7 (D + 1) 1 _ _ _ HD7.out.x).trans rfl; have y2 := (cell_of_row w7 (D + 1) 2 _ _ _ HD7.out.x).trans rfl; have y3 := (cell_of_row w7 (D + 1) 3 _ _ _ HD7.out.x).trans rfl; have y4 := (cell_of_row w7 (D + 1) 4 _ _ _ HD7.out.x).trans rfl; have yf : ∀ j, w7.frozen? ⟨D + 1, j, none⟩ = false := (fun j => frozen_of_row w7 (D + 1) _ _ _ HD7.out.x); clear hrd hfr hnode; unfold Xm.V5.agg)
            have Hend := Lib.hid (HD7.out.put (u := (.string u0, .string u1, .slice ua1 un1 uc1, .slice ua2 un2 uc2, .string u4)) HL.out.1 HL.out.2 Xm.Mv.set5 (setN HD7.out.x _ _ _ _ _) HH.out HN7.out)
            have hc2 := (Xm.Sc.c Hend.out.rd.sc).2.1
            simp only at hc2
            go_roundw
            case rel => exact ⟨g, some y, r3, lv2, u0, u1, u4, ua1, ua2, un1, un2, uc1, uc2, rfl, Hend, HG, Lib.hid (by have h1 := HFr.out; have h2 := (Hin.out.ok y rfl).2; have h5 := (Hin.out.ok y rfl).1.k; have h4 := HK2.out; simp only at h2 h5; omega)⟩
            case measure => simp only [hc1, hc2, Int.toNat_natCast]; have h2 := (Hin.out.ok y rfl).2; have h4 := (Hin.out.ok y rfl).1.k; simp only at h2 h4; omega
      · have HG : Hid (Xm.docT s (s.size + 1) none r = .error (3, qp)) := Lib.hid (by rw [HGr.out, Xm.docT, Hnx.out]; simp only; rw [if_neg (by simp [he]), if_neg hk4, if_neg hk13])
        have k1 : (qk == 1) = false := by simp only [not_or] at hk13; simp [hk13.1]
        have k3 : (qk == 3) = false := by simp only [not_or] at hk13; simp [hk13.2]
        obtain ⟨y0, k0⟩ : ∃ y0, (qk == 0) = y0 := ⟨_, rfl⟩
        by_cases hq4 : qk = 4
        · have k4 : (qk == 4) = true := by simp [hq4]
          have hEf : E = false := by rw [hE]; exact decide_eq_false (fun h => hk4 ⟨hq4, h⟩)
          have k0' : (qk == 0) = false := by simp [hq4]
          subst hEf
          clear hE hk4 hk13 hq4 k0
          go_wp2_with (first | (go_at_call 34; refine (empty_any _ _ htz).mono ?_; rintro e w7 ⟨rfl, rfl⟩; rw [← HE.out]) | (go_at_call 36; refine (stop_any _ _ _).mono ?_; rintro e w7 ⟨rfl, rfl⟩))
          exact ⟨rfl, lv', ⟨_, _, _, _, HD6.out.rd⟩, HD6.out.fr, by rw [HG.out]⟩
        · have k4 : (qk == 4) = false := by simp [hq4]
          clear hE hk4 hk13 hq4
          cases y0
          all_goals
            go_wp2_with (go_at_call 36; refine (stop_any _ _ _).mono ?_; rintro e w7 ⟨rfl, rfl⟩)
            exact ⟨rfl, lv', ⟨_, _, _, _, HD6.out.rd⟩, HD6.out.fr, by rw [HG.out]⟩
end Go.Proofs.YtdpkhmfolmcejaaGreatDoor
namespace Go.Proofs.YtdpkhmfolmcejaaGreatDoor
open Go.RowKit
theorem wpS_recover {P : Program} {id ty : Nat} {pos : String} {d : Tmp} {Q : Exit → Act → List Frame → World → Prop} {a : Act} {cs : List Frame} {w : World}
    (h : match recoverD cs with | some (v, cs') => Q .normal (a.put (some d) v) cs' w | none => Q .normal (a.put (some d) .nilIface) cs w) :
    (Code.region id #[{ dst := some d, op := Op.call { callee := Callee.builtin Builtin.recover, args := #[], argTypes := #[] }, type := ty, pos := pos, after := #[], guard := none }] false).wpS P Q a cs w := by
  apply wpS_region
  simp [wpOpsS, go_sem, Region.wanted]
  cases hr : recoverD cs with
  | none => rw [hr] at h; exact h
  | some p => rw [hr] at h; exact h
set_option maxRecDepth 100000 in
set_option maxHeartbeats 1000000 in
theorem caught_idle (x a q : Addr) (w : World) :
    CallsD Tryz.prog 18 #[.pointer (some x), .pointer (some a), .pointer (some q)] .returning w fun e u' w' => e = .returned (.tuple #[]) ∧ u' = .returning ∧ w = w' := by
  refine callsD_of_wpS Tryz.func18 rfl fun c₀ cs hu => ?_
  refine wpS_seq (wpS_recover ?_)
  have hr : recoverD (c₀ :: cs) = none := by simp [recoverD, hu]
  rw [hr]
  simp only [Tryz.ntmps18, List.size_toArray, List.length_cons, List.length_nil, Nat.reduceAdd, Nat.reduceSub, Array.replicate_succ, Array.replicate_zero, List.push_toArray, List.append_toArray, List.nil_append, List.cons_append, Act.put, List.setIfInBounds_toArray, List.set_cons_succ, List.set_cons_zero]
  refine wpS_of_wp ?_
  have he1 : ∀ w : World, (binOp BinOp.eql 20 .nilIface .nilIface).run Tryz.prog w = .ok (.bool true) w := fun _ => by kernel_rfl
  go_wp2
  exact ⟨rfl, .returning, by rw [← hu], .tuple #[], results_none (by kernel_rfl) _ _ _, rfl, rfl, rfl⟩
/-- what caught leaves -/
structure Caught (w : World) (X A E : Nat) (z b : Int) (w' : World) : Prop where
  x : Xm.RowN w' X #[.string ⟨#[]⟩, .string ⟨#[]⟩, .slice none 0 0, .slice none 0 0, .string ⟨#[]⟩]
  a : w'.heap[A]? = some (.cells #[.int .i64 b] 3 (0, 0))
  e : w'.heap[E]? = some (.cells #[.int .i64 z] 28 (0, 0))
  os : w'.os = w.os
  tape : w'.tape = w.tape
  output : w'.output = w.output
  size : w.heap.size ≤ w'.heap.size
  block : ∀ i, i < w.heap.size → i ≠ X → i ≠ A → i ≠ E → w'.heap[i]? = w.heap[i]?
set_option maxRecDepth 100000 in
set_option maxHeartbeats 2000000 in
theorem caught_fail (X A E : Nat) (z b a0 e0 : Int) (x0 x1 x4 : ByteArray) (x2 x3 : Option Addr) (n2 n3 c2 c3 : Nat) (w : World) (hx : Xm.RowN w X #[.string x0, .string x1, .slice x2 n2 c2, .slice x3 n3 c3, .string x4]) (ha : w.heap[A]? = some (.cells #[.int .i64 a0] 3 (0, 0)))
    (he : w.heap[E]? = some (.cells #[.int .i64 e0] 28 (0, 0))) (hXA : X ≠ A) (hXE : X ≠ E) (hAE : A ≠ E) :
    CallsD Tryz.prog 18 #[.pointer (some ⟨X, 0, none⟩), .pointer (some ⟨A, 0, none⟩), .pointer (some ⟨E, 0, none⟩)] (.panicking (Xm.failV z b)) w fun e u' w' => e = .returned (.tuple #[]) ∧ u' = .panicking [{ v := .iface 72 (.agg #[.int .i64 z, .int .i64 b]), recovered := true }] ∧ Caught w X A E z b w' := by
  refine callsD_of_wpS Tryz.func18 rfl fun c₀ cs hu => ?_
  refine wpS_seq (wpS_recover ?_)
  have hr : recoverD (c₀ :: cs) = some (.iface 72 (.agg #[.int .i64 z, .int .i64 b]), { c₀ with mode := .panicking [{ v := .iface 72 (.agg #[.int .i64 z, .int .i64 b]), recovered := true }] } :: cs) := by simp [recoverD, hu, Xm.failV]
  rw [hr]
  simp only [Tryz.ntmps18, List.size_toArray, List.length_cons, List.length_nil, Nat.reduceAdd, Nat.reduceSub, Array.replicate_succ, Array.replicate_zero, List.push_toArray, List.append_toArray, List.nil_append, List.cons_append, Act.put, List.setIfInBounds_toArray, List.set_cons_succ, List.set_cons_zero]
  refine wpS_of_wp ?_
  have he2 : ∀ (v : Value) (w : World), (binOp BinOp.eql 20 (.iface 72 v) .nilIface).run Tryz.prog w = .ok (.bool false) w := fun _ _ => by kernel_rfl
  have hg := Flow.grow_alloc w (.cells #[.int .i64 z, .int .i64 b] 72)
  have hta : ∀ (v : Value) (w : World), (Instr.typeAssert (.iface 72 v) 20 72 true).run Tryz.prog w = .ok (.tuple #[v, .bool true]) w := fun _ _ => by kernel_rfl
  have HF : Hid ((w.alloc (.cells #[.int .i64 z, .int .i64 b] 72)).heap[w.heap.size]? = some (.cells #[.int .i64 z, .int .i64 b] 72 (0, 0))) := Lib.hid (heap_alloc_new _ _)
  go_upto_region 7 with fail
  have HX : Hid (Xm.RowN (w.alloc (.cells #[.int .i64 z, .int .i64 b] 72)) X #[.string x0, .string x1, .slice x2 n2 c2, .slice x3 n3 c3, .string x4]) := Lib.hid (hx.grow hg)
  have HA : Hid ((w.alloc (.cells #[.int .i64 z, .int .i64 b] 72)).heap[A]? = some (.cells #[.int .i64 a0] 3 (0, 0))) := Lib.hid ((hg.block A (Array.getElem?_eq_some_iff.1 ha).1 (by simp)).trans ha)
  have HE : Hid ((w.alloc (.cells #[.int .i64 z, .int .i64 b] 72)).heap[E]? = some (.cells #[.int .i64 e0] 28 (0, 0))) := Lib.hid ((hg.block E (Array.getElem?_eq_some_iff.1 he).1 (by simp)).trans he)
  have HN : Hid (w.heap.size ≠ X ∧ w.heap.size ≠ A ∧ w.heap.size ≠ E) := Lib.hid ⟨by have := hx.lt; omega, by have := (Array.getElem?_eq_some_iff.1 ha).1; omega, by have := (Array.getElem?_eq_some_iff.1 he).1; omega⟩
  have Hg := Lib.hid hg
  obtain ⟨F, hF⟩ : ∃ F, F = w.heap.size := ⟨_, rfl⟩
  rw [← hF] at HF HN ⊢
  clear hg hx ha he hF hta he2 hr
  generalize w.alloc (.cells #[.int .i64 z, .int .i64 b] 72) = w1 at *
  have f0 := (cell_of_row w1 F 0 _ _ _ HF.out).trans rfl
  have f1 := (cell_of_row w1 F 1 _ _ _ HF.out).trans rfl
  have y0 := (cell_of_row w1 X 0 _ _ _ HX.out).trans rfl
  have y1 := (cell_of_row w1 X 1 _ _ _ HX.out).trans rfl
  have y2 := (cell_of_row w1 X 2 _ _ _ HX.out).trans rfl
  have y3 := (cell_of_row w1 X 3 _ _ _ HX.out).trans rfl
  have y4 := (cell_of_row w1 X 4 _ _ _ HX.out).trans rfl
  have yf : ∀ j, w1.frozen? ⟨X, j, none⟩ = false := fun j => frozen_of_row w1 X _ _ _ HX.out
  have ya := (cell_of_row w1 A 0 _ _ _ HA.out).trans rfl
  have yaf : w1.frozen? ⟨A, 0, none⟩ = false := frozen_of_row w1 A _ _ _ HA.out
  have ye := (cell_of_row w1 E 0 _ _ _ HE.out).trans rfl
  have yef : w1.frozen? ⟨E, 0, none⟩ = false := frozen_of_row w1 E _ _ _ HE.out
  have nXA : ¬ A = X := fun h => hXA h.symm
  have nXE : ¬ E = X := fun h => hXE h.symm
  have nAE : ¬ E = A := fun h => hAE h.symm
  have nFX : ¬ F = X := HN.out.1
  have nFA : ¬ F = A := HN.out.2.1
  have nFE : ¬ F = E := HN.out.2.2
  have mFX : ¬ X = F := fun h => nFX h.symm
  have mFA : ¬ A = F := fun h => nFA h.symm
  have mFE : ¬ E = F := fun h => nFE h.symm
  have hXA' : ¬ X = A := hXA
  have hXE' : ¬ X = E := hXE
  have hAE' : ¬ A = E := hAE
  go_region
  refine ⟨rfl, .panicking [{ v := .iface 72 (.agg #[.int .i64 z, .int .i64 b]), recovered := true }], rfl, .tuple #[], results_none (by kernel_rfl) _ _ _, rfl, rfl, ?_⟩
  have m5 : Xm.Mv w1 X (((((w1.setCell ⟨X, 0, none⟩ (.string ⟨#[]⟩)).setCell ⟨X, 1, none⟩ (.string ⟨#[]⟩)).setCell ⟨X, 2, none⟩ (.slice none 0 0)).setCell ⟨X, 3, none⟩ (.slice none 0 0)).setCell ⟨X, 4, none⟩ (.string ⟨#[]⟩)) := Xm.Mv.set5
  have hx2 := setN HX.out (.string ⟨#[]⟩) (.string ⟨#[]⟩) (.slice none 0 0) (.slice none 0 0) (.string ⟨#[]⟩)
  generalize ((((w1.setCell ⟨X, 0, none⟩ (.string ⟨#[]⟩)).setCell ⟨X, 1, none⟩ (.string ⟨#[]⟩)).setCell ⟨X, 2, none⟩ (.slice none 0 0)).setCell ⟨X, 3, none⟩ (.slice none 0 0)).setCell ⟨X, 4, none⟩ (.string ⟨#[]⟩) = w2 at *
  have ha2 := (m5.block A (Array.getElem?_eq_some_iff.1 HA.out).1 (by simp; omega)).trans HA.out
  have he2 := (m5.block E (Array.getElem?_eq_some_iff.1 HE.out).1 (by simp; omega)).trans HE.out
  have ma : Xm.Mv w2 A (w2.setCell ⟨A, 0, none⟩ (.int .i64 b)) := Xm.Mv.set
  have hx3 := hx2.mv ma hXA
  have ha3 : (w2.setCell ⟨A, 0, none⟩ (.int .i64 b)).heap[A]? = some (.cells #[.int .i64 b] 3 (0, 0)) := heap_setCell_same w2 A 0 _ _ _ ha2
  have he3 := (ma.block E (Array.getElem?_eq_some_iff.1 he2).1 (by simp; omega)).trans he2
  generalize w2.setCell ⟨A, 0, none⟩ (.int .i64 b) = w3 at *
  have me : Xm.Mv w3 E (w3.setCell ⟨E, 0, none⟩ (.int .i64 z)) := Xm.Mv.set
  have hx4 := hx3.mv me hXE
  have ha4 := (me.block A (Array.getElem?_eq_some_iff.1 ha3).1 (by simp; omega)).trans ha3
  have he4 : (w3.setCell ⟨E, 0, none⟩ (.int .i64 z)).heap[E]? = some (.cells #[.int .i64 z] 28 (0, 0)) := heap_setCell_same w3 E 0 _ _ _ he3
  generalize w3.setCell ⟨E, 0, none⟩ (.int .i64 z) = w4 at *
  have gd := Flow.grow_drew w4
  have s1 := Hg.out.size
  have s2 := m5.size
  have s3 := ma.size
  have s4 := me.size
  refine ⟨hx4.grow gd, (gd.block A (Array.getElem?_eq_some_iff.1 ha4).1 (by simp)).trans ha4, (gd.block E (Array.getElem?_eq_some_iff.1 he4).1 (by simp)).trans he4, gd.os.trans (me.os.trans (ma.os.trans (m5.os.trans Hg.out.os))), gd.tape.trans (me.tape.trans (ma.tape.trans (m5.tape.trans Hg.out.tape))), gd.output.trans (me.output.trans (ma.output.trans (m5.output.trans Hg.out.output))), by have := gd.size; omega, fun i hi h1 h2 h3 => ?_⟩
  exact (gd.block i (by omega) (by simp)).trans ((me.block i (by omega) (by simp; omega)).trans ((ma.block i (by omega) (by simp; omega)).trans ((m5.block i (by omega) (by simp; omega)).trans (Hg.out.block i hi (by simp)))))
end Go.Proofs.YtdpkhmfolmcejaaGreatDoor
namespace Go.Proofs.YtdpkhmfolmcejaaGreatDoor
open Go.RowKit
namespace Xm
def r0 : Rs := ⟨⟨0, 0, 0⟩, newB, 0, 0⟩
def parseT (s : ByteArray) : Except (Int × Int) Nod := docT s (s.size + 1) none r0
end Xm
def zeroNode : Value := .agg #[.string ⟨#[]⟩, .string ⟨#[]⟩, .slice none 0 0, .slice none 0 0, .string ⟨#[]⟩]
def ParsePost (s : ByteArray) (w : World) (e : Ending) (w' : World) : Prop :=
  Flow.Grow w w' ∧ match Xm.parseT s with
  | .ok y => ∃ v, e = .returned (.tuple #[v, .int .i64 0, .int .i64 0]) ∧ Xm.NodAt (fun g => w.heap.size ≤ g ∧ g < w'.heap.size) w' v y
  | .error z => e = .returned (.tuple #[zeroNode, .int .i64 z.2, .int .i64 z.1])
set_option maxRecDepth 100000 in
theorem parse_res (tmps : Array Value) (w : World) (X A E : Nat) (c0 c1 c4 : ByteArray) (a2 a3 : Option Addr) (n2 n3 k2 k3 : Nat) (a e : Int) (h2 : tmps.getD 2 undef = .pointer (some ⟨X, 0, none⟩)) (h3 : tmps.getD 3 undef = .pointer (some ⟨A, 0, none⟩)) (h4 : tmps.getD 4 undef = .pointer (some ⟨E, 0, none⟩))
    (hx : Xm.RowN w X #[.string c0, .string c1, .slice a2 n2 k2, .slice a3 n3 k3, .string c4]) (ha : w.heap[A]? = some (.cells #[.int .i64 a] 3 (0, 0))) (he : w.heap[E]? = some (.cells #[.int .i64 e] 28 (0, 0))) :
    (results Tryz.f7 tmps).run Tryz.prog w = .ok (.tuple #[.agg #[.string c0, .string c1, .slice a2 n2 k2, .slice a3 n3 k3, .string c4], .int .i64 a, .int .i64 e]) w := by
  have x0 := (cell_of_row w X 0 _ _ _ hx).trans rfl
  have x1 := (cell_of_row w X 1 _ _ _ hx).trans rfl
  have x2 := (cell_of_row w X 2 _ _ _ hx).trans rfl
  have x3 := (cell_of_row w X 3 _ _ _ hx).trans rfl
  have x4 := (cell_of_row w X 4 _ _ _ hx).trans rfl
  have ya := (cell_of_row w A 0 _ _ _ ha).trans rfl
  have ye := (cell_of_row w E 0 _ _ _ he).trans rfl
  simp at x0 x1 x2 x3 x4 ya ye
  simp only [Array.getD_eq_getD_getElem?] at h2 h3 h4
  simp [results, Tryz.results7, h2, h3, h4, x0, x1, x2, x3, x4, ya, ye, go_sem]
set_option maxRecDepth 100000 in
set_option maxHeartbeats 2000000 in
theorem parse_any (s : ByteArray) (hs : s.size ≤ 200000) (hn : Xm.newT s = ⟨0, 0, 0⟩) (w : World) (hT : Xm.Tab w) (hm : Xm.Max w) : Calls Tryz.prog 7 #[.string s] w (ParsePost s w) := by
  have HT := Lib.hid hT
  have HM := Lib.hid hm
  have HN := Lib.hid hn
  clear hT hm hn
  go_enter_defers Tryz.func7, Tryz.ntmps7
  go_upto_region 2 with fail
  have G1 : Hid (Flow.Grow w (((w.alloc (.cells #[.string ⟨#[]⟩, .string ⟨#[]⟩, .slice none 0 0, .slice none 0 0, .string ⟨#[]⟩] 25)).alloc (.cells #[.int .i64 0] 3)).alloc (.cells #[.int .i64 0] 28))) := Lib.hid (((Flow.grow_alloc _ _).trans (Flow.grow_alloc _ _)).trans (Flow.grow_alloc _ _))
  have X1 : Hid (Xm.RowN (((w.alloc (.cells #[.string ⟨#[]⟩, .string ⟨#[]⟩, .slice none 0 0, .slice none 0 0, .string ⟨#[]⟩] 25)).alloc (.cells #[.int .i64 0] 3)).alloc (.cells #[.int .i64 0] 28)) w.heap.size #[.string ⟨#[]⟩, .string ⟨#[]⟩, .slice none 0 0, .slice none 0 0, .string ⟨#[]⟩]) := Lib.hid (Xm.RowN.grow (heap_alloc_new w _) ((Flow.grow_alloc _ _).trans (Flow.grow_alloc _ _)))
  have A1 : Hid ((((w.alloc (.cells #[.string ⟨#[]⟩, .string ⟨#[]⟩, .slice none 0 0, .slice none 0 0, .string ⟨#[]⟩] 25)).alloc (.cells #[.int .i64 0] 3)).alloc (.cells #[.int .i64 0] 28)).heap[w.heap.size + 1]? = some (.cells #[.int .i64 0] 3 (0, 0))) := Lib.hid (by
    have h := heap_alloc_new (w.alloc (.cells #[.string ⟨#[]⟩, .string ⟨#[]⟩, .slice none 0 0, .slice none 0 0, .string ⟨#[]⟩] 25)) (.cells #[.int .i64 0] 3)
    rw [show (w.alloc (.cells #[.string ⟨#[]⟩, .string ⟨#[]⟩, .slice none 0 0, .slice none 0 0, .string ⟨#[]⟩] 25)).heap.size = w.heap.size + 1 by simp] at h
    exact ((Flow.grow_alloc ((w.alloc (.cells #[.string ⟨#[]⟩, .string ⟨#[]⟩, .slice none 0 0, .slice none 0 0, .string ⟨#[]⟩] 25)).alloc (.cells #[.int .i64 0] 3)) (.cells #[.int .i64 0] 28)).block (w.heap.size + 1) (by simp) (by simp)).trans h)
  have E1 : Hid ((((w.alloc (.cells #[.string ⟨#[]⟩, .string ⟨#[]⟩, .slice none 0 0, .slice none 0 0, .string ⟨#[]⟩] 25)).alloc (.cells #[.int .i64 0] 3)).alloc (.cells #[.int .i64 0] 28)).heap[w.heap.size + 1 + 1]? = some (.cells #[.int .i64 0] 28 (0, 0))) := Lib.hid (by
    have h := heap_alloc_new ((w.alloc (.cells #[.string ⟨#[]⟩, .string ⟨#[]⟩, .slice none 0 0, .slice none 0 0, .string ⟨#[]⟩] 25)).alloc (.cells #[.int .i64 0] 3)) (.cells #[.int .i64 0] 28)
    rw [show ((w.alloc (.cells #[.string ⟨#[]⟩, .string ⟨#[]⟩, .slice none 0 0, .slice none 0 0, .string ⟨#[]⟩] 25)).alloc (.cells #[.int .i64 0] 3)).heap.size = w.heap.size + 1 + 1 by simp] at h
    exact h)
  obtain ⟨X, hX⟩ : ∃ X, X = w.heap.size := ⟨_, rfl⟩
  rw [← hX] at X1 A1 E1 ⊢
  have HX := Lib.hid hX
  clear hX
  generalize (((w.alloc (.cells #[.string ⟨#[]⟩, .string ⟨#[]⟩, .slice none 0 0, .slice none 0 0, .string ⟨#[]⟩] 25)).alloc (.cells #[.int .i64 0] 3)).alloc (.cells #[.int .i64 0] 28)) = w1 at *
  go_upto_region 3 with (first | (go_at_call 19; refine (new_T s w1 (by omega)).mono ?_; rintro e w2 ⟨rfl, hs2, hg2⟩; rw [HN.out] at hs2) | (go_at_call 20; refine (snew_any w2).mono ?_; rintro e w3 ⟨lv, rfl, hsp, hg3, hlv⟩))
  have hc3 : Xm.Scs w3 w1.heap.size s ⟨0, 0, 0⟩ := Xm.Sc.grow hs2 hg3
  have hlt1 : w1.heap.size < w2.heap.size := Xm.Sc.lt hs2
  have hlt2 : w2.heap.size + 1 < w3.heap.size := hsp.blk.lt
  obtain ⟨bc, hbc⟩ : ∃ bc, bc = w1.heap.size := ⟨_, rfl⟩
  obtain ⟨bs, hbs⟩ : ∃ bs, bs = w2.heap.size + 1 := ⟨_, rfl⟩
  rw [← hbc] at hc3 ⊢
  rw [← hbs] at hsp ⊢
  have g4 := Flow.grow_alloc w3 (.cells #[.pointer (some ⟨bc, 0, none⟩), .pointer (some ⟨bs, 0, none⟩), .int .i64 0] 59)
  have D4 : Hid (Xm.Rd (w3.alloc (.cells #[.pointer (some ⟨bc, 0, none⟩), .pointer (some ⟨bs, 0, none⟩), .int .i64 0] 59)) ⟨bc, w3.heap.size, bs⟩ s lv Xm.r0.st Xm.r0.R Xm.r0.d Xm.r0.n) := Lib.hid
    ⟨Xm.Sc.grow hc3 g4, heap_alloc_new _ _, hsp.grow g4, by show bc ≠ w3.heap.size; omega, by show bc ≠ bs; omega, by show w3.heap.size ≠ bs; omega, by rw [hlv]; show some w2.heap.size ≠ some bc; simp; omega, by rw [hlv]; show some w2.heap.size ≠ some w3.heap.size; simp; omega⟩
  have GX : Hid (Flow.Grow w1 (w3.alloc (.cells #[.pointer (some ⟨bc, 0, none⟩), .pointer (some ⟨bs, 0, none⟩), .int .i64 0] 59))) := Lib.hid ((hg2.trans hg3).trans g4)
  have LO : Hid (X + 1 + 1 < bc ∧ bc < bs ∧ bs < w3.heap.size ∧ ∀ g, lv.ownBlock = some g → X + 1 + 1 < g) := Lib.hid (by
    have hE := (Array.getElem?_eq_some_iff.1 E1.out).1
    refine ⟨by omega, by omega, by omega, fun g hg => ?_⟩
    rw [hlv] at hg; cases hg; omega)
  obtain ⟨br, hbr⟩ : ∃ br, br = w3.heap.size := ⟨_, rfl⟩
  rw [← hbr] at D4 LO ⊢
  clear hc3 hlt1 hlt2 hbc hbs hs2 hg2 hg3 hsp hlv g4 hbr
  generalize w3.alloc (.cells #[.pointer (some ⟨bc, 0, none⟩), .pointer (some ⟨bs, 0, none⟩), .int .i64 0] 59) = w4 at *
  clear w3
  have G4 := Lib.hid (G1.out.trans GX.out)
  have hw1 := HT.out.1
  have HDC := Lib.hid (doc_any s hs ⟨bc, br, bs⟩ lv Xm.r0 w4 D4.out ⟨by decide, by decide, by decide, Nat.zero_le _, rfl⟩ ⟨by have := LO.out; have := HX.out; show 1 < bc; omega, by have := LO.out; have := HX.out; show 1 < br; omega, by have := LO.out; have := HX.out; show 1 < bs; omega, fun g hg => by have := LO.out.2.2.2 g hg; have := HX.out; omega⟩ (HT.out.grow G4.out) (HM.out.grow G4.out))
  have nS : ∀ i, i ≤ X + 1 + 1 → ¬ Xm.Blk.S ⟨bc, br, bs⟩ i ∧ lv.ownBlock ≠ some i := fun i hi => by
    have h := LO.out
    refine ⟨fun e => ?_, fun e => by have := h.2.2.2 i e; omega⟩
    rcases e with e | e | e
    · have e : i = bc := e; omega
    · have e : i = br := e; omega
    · have e : i = bs := e; omega
  have HnS := Lib.hid nS
  have rows : ∀ w5 lv5, Xm.Fr (Xm.Blk.S ⟨bc, br, bs⟩) w4 lv w5 lv5 → Xm.RowN w5 X #[.string ⟨#[]⟩, .string ⟨#[]⟩, .slice none 0 0, .slice none 0 0, .string ⟨#[]⟩] ∧ w5.heap[X + 1]? = some (.cells #[.int .i64 0] 3 (0, 0)) ∧ w5.heap[X + 1 + 1]? = some (.cells #[.int .i64 0] 28 (0, 0)) ∧ ∀ i, i < w.heap.size → w5.heap[i]? = w.heap[i]? := by
    intro w5 lv5 f
    have h1 := (X1.out.grow GX.out).fr f (HnS.out X (by omega)).1 (HnS.out X (by omega)).2
    have a4 := (GX.out.block (X + 1) (Array.getElem?_eq_some_iff.1 A1.out).1 (by simp)).trans A1.out
    have e4 := (GX.out.block (X + 1 + 1) (Array.getElem?_eq_some_iff.1 E1.out).1 (by simp)).trans E1.out
    refine ⟨h1, (f.block _ (Array.getElem?_eq_some_iff.1 a4).1 (HnS.out _ (by omega)).1 (HnS.out _ (by omega)).2).trans a4, (f.block _ (Array.getElem?_eq_some_iff.1 e4).1 (HnS.out _ (by omega)).1 (HnS.out _ (by omega)).2).trans e4, fun i hi => ?_⟩
    have hz := G4.out.size
    have := HX.out
    exact (f.block i (by omega) (HnS.out i (by omega)).1 (HnS.out i (by omega)).2).trans (G4.out.block i hi (by simp))
  have Rows := Lib.hid rows
  clear nS rows hw1
  obtain ⟨res, hres⟩ : ∃ res, Xm.parseT s = res := ⟨_, rfl⟩
  have Hres := Lib.hid hres
  clear hres
  cases res with
  | error z =>
    go_wp2_with (go_at_call 21; refine HDC.out.mono ?_; rintro e w5 ⟨lv5, _, hfr, he⟩; rw [show Xm.docT s (s.size + 1) none Xm.r0 = .error z from Hres.out] at he; simp only at he; subst he)
    obtain ⟨hx, ha, he, hb⟩ := Rows.out w5 lv5 hfr
    refine leaves_cons (f := 18) (args := #[.pointer (some ⟨X, 0, none⟩), .pointer (some ⟨X + 1, 0, none⟩), .pointer (some ⟨X + 1 + 1, 0, none⟩)]) (by simp) (by simp [go_sem]) ?_
    refine (caught_fail X (X + 1) (X + 1 + 1) z.1 z.2 0 0 _ _ _ _ _ _ _ _ _ w5 hx ha he (by omega) (by omega) (by omega)).mono ?_
    rintro e u' w6 ⟨rfl, rfl, hc⟩
    refine ⟨_, parse_res _ w6 X (X + 1) (X + 1 + 1) _ _ _ _ _ _ _ _ _ _ _ rfl rfl rfl hc.x hc.a hc.e, ?_, ?_⟩
    · have h4 := G4.out
      have hX := HX.out
      exact ⟨hc.os.trans (hfr.os.trans h4.os), hc.tape.trans (hfr.tape.trans h4.tape), hc.output.trans (hfr.output.trans h4.output), Nat.le_trans h4.size (Nat.le_trans hfr.size hc.size), fun i hi _ => (hc.block i (by have := h4.size; have := hfr.size; omega) (by omega) (by omega) (by omega)).trans (hb i hi)⟩
    · rw [Hres.out]
      rfl
  | ok y =>
    go_wp2_with (go_at_call 21; refine HDC.out.mono ?_; rintro e w5 ⟨lv5, _, hfr, he⟩; rw [show Xm.docT s (s.size + 1) none Xm.r0 = .ok y from Hres.out] at he; simp only at he; obtain ⟨v, rfl, hnode⟩ := he; obtain ⟨u0, u1, u4, ua1, ua2, un1, un2, uc1, uc2, rfl⟩ := hnode.form; obtain ⟨hx, ha, he, hb⟩ := Rows.out w5 lv5 hfr; have x0 := (cell_of_row w5 X 0 _ _ _ hx).trans rfl; have x1 := (cell_of_row w5 X 1 _ _ _ hx).trans rfl; have x2 := (cell_of_row w5 X 2 _ _ _ hx).trans rfl; have x3 := (cell_of_row w5 X 3 _ _ _ hx).trans rfl; have x4 := (cell_of_row w5 X 4 _ _ _ hx).trans rfl; have xf : ∀ j, w5.frozen? ⟨X, j, none⟩ = false := (fun j => frozen_of_row w5 X _ _ _ hx); have ya := (cell_of_row w5 (X + 1) 0 _ _ _ ha).trans rfl; have yaf : w5.frozen? ⟨X + 1, 0, none⟩ = false := frozen_of_row w5 (X + 1) _ _ _ ha; have ye := (cell_of_row w5 (X + 1 + 1) 0 _ _ _ he).trans rfl; have yef : w5.frozen? ⟨X + 1 + 1, 0, none⟩ = false := frozen_of_row w5 (X + 1 + 1) _ _ _ he; have Hx := Lib.hid hx; have Ha := Lib.hid ha; have He := Lib.hid he; have Hb := Lib.hid hb; have Hf := Lib.hid hfr; have Hn := Lib.hid hnode; clear hx ha he hb hfr hnode; unfold Xm.V5.agg)
    have m5 : Xm.Mv w5 X (((((w5.setCell ⟨X, 0, none⟩ (.string u0)).setCell ⟨X, 1, none⟩ (.string u1)).setCell ⟨X, 2, none⟩ (.slice ua1 un1 uc1)).setCell ⟨X, 3, none⟩ (.slice ua2 un2 uc2)).setCell ⟨X, 4, none⟩ (.string u4)) := Xm.Mv.set5
    have hx2 := setN Hx.out (.string u0) (.string u1) (.slice ua1 un1 uc1) (.slice ua2 un2 uc2) (.string u4)
    generalize ((((w5.setCell ⟨X, 0, none⟩ (.string u0)).setCell ⟨X, 1, none⟩ (.string u1)).setCell ⟨X, 2, none⟩ (.slice ua1 un1 uc1)).setCell ⟨X, 3, none⟩ (.slice ua2 un2 uc2)).setCell ⟨X, 4, none⟩ (.string u4) = w6 at *
    have ha2 := (m5.block (X + 1) (Array.getElem?_eq_some_iff.1 Ha.out).1 (by simp)).trans Ha.out
    have he2 := (m5.block (X + 1 + 1) (Array.getElem?_eq_some_iff.1 He.out).1 (by simp; omega)).trans He.out
    have ma : Xm.Mv w6 (X + 1) (w6.setCell ⟨X + 1, 0, none⟩ (.int .i64 0)) := Xm.Mv.set
    have hx3 := hx2.mv ma (by omega)
    have ha3 : (w6.setCell ⟨X + 1, 0, none⟩ (.int .i64 0)).heap[X + 1]? = some (.cells #[.int .i64 0] 3 (0, 0)) := heap_setCell_same w6 (X + 1) 0 _ _ _ ha2
    have he3 := (ma.block (X + 1 + 1) (Array.getElem?_eq_some_iff.1 he2).1 (by simp)).trans he2
    generalize w6.setCell ⟨X + 1, 0, none⟩ (.int .i64 0) = w7 at *
    have me : Xm.Mv w7 (X + 1 + 1) (w7.setCell ⟨X + 1 + 1, 0, none⟩ (.int .i64 0)) := Xm.Mv.set
    have hx4 := hx3.mv me (by omega)
    have ha4 := (me.block (X + 1) (Array.getElem?_eq_some_iff.1 ha3).1 (by simp)).trans ha3
    have he4 : (w7.setCell ⟨X + 1 + 1, 0, none⟩ (.int .i64 0)).heap[X + 1 + 1]? = some (.cells #[.int .i64 0] 28 (0, 0)) := heap_setCell_same w7 (X + 1 + 1) 0 _ _ _ he3
    generalize w7.setCell ⟨X + 1 + 1, 0, none⟩ (.int .i64 0) = w8 at *
    have s2 := m5.size
    have s3 := ma.size
    have s4 := me.size
    have hX := HX.out
    have h4 := G4.out
    have z4 := h4.size
    have z5 := Hf.out.size
    have zb := LO.out
    have zd := D4.out.lts
    have far : ∀ i, i < w5.heap.size → i ≠ X → i ≠ X + 1 → i ≠ X + 1 + 1 → w8.heap[i]? = w5.heap[i]? := fun i hi h1 h2 h3 => (me.block i (by omega) (by simp; omega)).trans ((ma.block i (by omega) (by simp; omega)).trans (m5.block i hi (by simp; omega)))
    refine leaves_cons (f := 18) (args := #[.pointer (some ⟨X, 0, none⟩), .pointer (some ⟨X + 1, 0, none⟩), .pointer (some ⟨X + 1 + 1, 0, none⟩)]) (by simp) (by simp [go_sem]) ?_
    refine (caught_idle _ _ _ w8).mono ?_
    rintro e u' w9 ⟨rfl, rfl, rfl⟩
    refine ⟨_, parse_res _ w8 X (X + 1) (X + 1 + 1) _ _ _ _ _ _ _ _ _ _ _ rfl rfl rfl hx4 ha4 he4, ?_, ?_⟩
    · exact ⟨me.os.trans (ma.os.trans (m5.os.trans (Hf.out.os.trans h4.os))), me.tape.trans (ma.tape.trans (m5.tape.trans (Hf.out.tape.trans h4.tape))), me.output.trans (ma.output.trans (m5.output.trans (Hf.out.output.trans h4.output))), by omega, fun i hi _ => (far i (by omega) (by omega) (by omega) (by omega)).trans (Hb.out i hi)⟩
    · rw [Hres.out]
      refine ⟨_, rfl, Hn.out.keep (by omega) (fun g hg hlt => far g hlt ?_ ?_ ?_) (fun g hg hlt => ⟨?_, by omega⟩) (fun g hg => hg.2)⟩
      all_goals
        have h1 := hg.1
        have h2 : br < w4.heap.size := zd.2.1
        omega
end Go.Proofs.YtdpkhmfolmcejaaGreatDoor
