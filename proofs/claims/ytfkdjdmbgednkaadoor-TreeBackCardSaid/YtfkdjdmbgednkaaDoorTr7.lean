/- tree: document by its contract. -/
import Derived.Test.YtfkdjdmbgednkaaDoorTr6
namespace Go.Proofs.YtfkdjdmbgednkaaDoor
open Go.RowKit
namespace Xm
/-- a document from a place on, its element perhaps known -/
def docT (s : ByteArray) : Nat → Option Nod → Rs → Except (Int × Int) Nod
  | 0, _, _ => .error (0, 0)
  | f + 1, o, r =>
    match nextR s r.st with
    | (q, st2) =>
      if st2.e ≠ 0 then .error (st2.e, st2.bad)
      else match o with
        | some y =>
          if q.kind = 0 then .ok y
          else if q.kind = 4 ∧ (trim q.text).size = 0 then docT s f (some y) ⟨st2, r.R, r.d, r.n⟩
          else .error (3, q.at')
        | none =>
          if q.kind = 4 ∧ (trim q.text).size = 0 then docT s f none ⟨st2, r.R, r.d, r.n⟩
          else if q.kind = 1 ∨ q.kind = 3 then
            match goT s (2 * s.size + 2) none q ⟨st2, r.R, r.d, r.n⟩ with
            | (.ok y, r2) => docT s f (some y) r2
            | (.error z, _) => .error z
          else .error (3, q.at')
def zero5 : V5 := (.string ⟨#[]⟩, .string ⟨#[]⟩, .slice none 0 0, .slice none 0 0, .string ⟨#[]⟩)
structure DocInv (b : Blk) (s : ByteArray) (lv : Value) (w : World) (D : Nat) (wr : World) (lv' : Value) (o : Option Nod) (r' : Rs) (vv : V5) : Prop where
  rd : Rd wr b s lv' r'.st r'.R r'.d r'.n
  inv : InvR s r'
  fr : Fr b.S w lv wr lv'
  z : RowN wr D #[.string ⟨#[]⟩, .string ⟨#[]⟩, .slice none 0 0, .slice none 0 0, .string ⟨#[]⟩]
  x : RowN wr (D + 1) #[vv.1, vv.2.1, vv.2.2.1, vv.2.2.2.1, vv.2.2.2.2]
  nod : ∀ y, o = some y → NodAt (fun g => D + 1 < g ∧ lv'.ownBlock ≠ some g ∧ g < wr.heap.size) wr vv.agg y
  l : lv'.ownBlock ≠ some D ∧ lv'.ownBlock ≠ some (D + 1)
theorem DocInv.step {b : Blk} {s : ByteArray} {lv : Value} {w : World} {D : Nat} {wr wy : World} {lv' lv2 : Value} {o : Option Nod} {r' r2 : Rs} {vv : V5} (h : DocInv b s lv w D wr lv' o r' vv) (hb : b.c < D ∧ b.r < D ∧ b.s < D) (f : Fr b.S wr lv' wy lv2) (hrd : Rd wy b s lv2 r2.st r2.R r2.d r2.n) (hi : InvR s r2) :
    DocInv b s lv w D wy lv2 o r2 vv := by
  have nS : ∀ g, D ≤ g → ¬ b.S g := fun g hg e => by rcases e with e | e | e <;> omega
  have ow : ∀ {g}, g < wr.heap.size → lv'.ownBlock ≠ some g → lv2.ownBlock ≠ some g := fun hg hl => f.owned hg hl
  refine ⟨hrd, hi, h.fr.trans f, h.z.fr f (nS _ (Nat.le_refl _)) h.l.1, h.x.fr f (nS _ (by omega)) h.l.2, fun y hy => ?_, ow h.z.lt h.l.1, ow h.x.lt h.l.2⟩
  exact (h.nod y hy).keep f.size (fun g hg hlt => f.block g hlt (nS g (by have := hg.1; omega)) hg.2.1) (fun g hg hlt => ⟨hg.1, ow hlt hg.2.1, Nat.lt_of_lt_of_le hlt f.size⟩) (fun g hg => hg.2.2)
/-- the element is known -/
theorem DocInv.put {b : Blk} {s : ByteArray} {lv : Value} {w : World} {D : Nat} {wr wy : World} {lv' : Value} {o : Option Nod} {r' : Rs} {vv u : V5} {y : Nod} (h : DocInv b s lv w D wr lv' o r' vv) (hb : b.c < D ∧ b.r < D ∧ b.s < D) (hD : w.heap.size = D) (m : Mv wr (D + 1) wy)
    (hx : RowN wy (D + 1) #[u.1, u.2.1, u.2.2.1, u.2.2.2.1, u.2.2.2.2]) {H : Nat} (hH : D + 1 < H) (hu : NodAt (fun g => H ≤ g ∧ lv'.ownBlock ≠ some g ∧ g < wr.heap.size) wr u.agg y) : DocInv b s lv w D wy lv' (some y) r' u := by
  refine ⟨h.rd.other m (by omega) (by omega) (by omega) h.l.2, h.inv, h.fr.mvNew m (by omega), h.z.mv m (by omega), hx, fun y' hy' => ?_, h.l⟩
  cases hy'
  exact hu.keep m.size (fun g hg hlt => m.block g hlt (by have := hg.1; simp; omega)) (fun g hg hlt => ⟨by have := hg.1; omega, hg.2.1, Nat.lt_of_lt_of_le hlt m.size⟩) (fun g hg => hg.2.2)
end Xm
/-- what came of document -/
def DocPost (b : Xm.Blk) (s : ByteArray) (lv : Value) (r : Xm.Rs) (w : World) (e : Ending) (w' : World) : Prop :=
  ∃ lv', (∃ st R d n, Xm.Rd w' b s lv' st R d n) ∧ Xm.Fr b.S w lv w' lv' ∧
  match Xm.docT s (s.size + 1) none r with
  | .ok y => ∃ v, e = .returned v ∧ Xm.NodAt (fun g => w.heap.size ≤ g ∧ g < w'.heap.size) w' v y
  | .error z => e = .panicked (Xm.failV z.1 z.2)
theorem doc_res (tmps : Array Value) (w : World) (R : Nat) (cs : Array Value) (hp : tmps.getD 2 undef = .pointer (some ⟨R, 0, none⟩)) (hg : Xm.RowN w R cs) (hc : cs.size = 5) :
    (results Tryd.f46 tmps).run Tryd.prog w = .ok (.agg cs) w :=
  results_cell_row (by kernel_rfl) tmps w R _ _ _ _ hp hg Tryd.underlying47 rfl (by rw [hc]; kernel_rfl)
set_option maxRecDepth 100000 in
set_option maxHeartbeats 4000000 in
theorem doc_any (s : ByteArray) (hs : s.size ≤ 200000) (b : Xm.Blk) (lv : Value) (r : Xm.Rs) (w : World) (hrd : Xm.Rd w b s lv r.st r.R r.d r.n) (hinv : Xm.InvR s r) (hlow : Xm.Low b lv) (hT : Xm.Tab w) (hm : Xm.Max w) :
    Calls Tryd.prog 46 #[.pointer (some ⟨b.r, 0, none⟩)] w (DocPost b s lv r w) := by
  have H := Lib.hid hrd
  have HI := Lib.hid hinv
  have HTB := Lib.hid (And.intro hT (And.intro hm hlow))
  clear hrd hinv hlow hT hm
  obtain ⟨bc, br, bs⟩ := b
  have G1 := Lib.hid (Flow.grow_alloc w (.cells #[.string ⟨#[]⟩, .string ⟨#[]⟩, .slice none 0 0, .slice none 0 0, .string ⟨#[]⟩] 47))
  have Z1 : Hid (Xm.RowN (w.alloc (.cells #[.string ⟨#[]⟩, .string ⟨#[]⟩, .slice none 0 0, .slice none 0 0, .string ⟨#[]⟩] 47)) w.heap.size #[.string ⟨#[]⟩, .string ⟨#[]⟩, .slice none 0 0, .slice none 0 0, .string ⟨#[]⟩]) := Lib.hid (heap_alloc_new _ _)
  go_enter Tryd.func46, Tryd.ntmps46
  go_wp2_with fail
  have DI : Hid (Xm.DocInv ⟨bc, br, bs⟩ s lv w w.heap.size ((w.alloc (.cells #[.string ⟨#[]⟩, .string ⟨#[]⟩, .slice none 0 0, .slice none 0 0, .string ⟨#[]⟩] 47)).alloc (.cells #[.string ⟨#[]⟩, .string ⟨#[]⟩, .slice none 0 0, .slice none 0 0, .string ⟨#[]⟩] 47)) lv none r Xm.zero5) := Lib.hid (by
    have g2 := Flow.grow_alloc (w.alloc (.cells #[.string ⟨#[]⟩, .string ⟨#[]⟩, .slice none 0 0, .slice none 0 0, .string ⟨#[]⟩] 47)) (.cells #[.string ⟨#[]⟩, .string ⟨#[]⟩, .slice none 0 0, .slice none 0 0, .string ⟨#[]⟩] 47)
    have hx := heap_alloc_new (w.alloc (.cells #[.string ⟨#[]⟩, .string ⟨#[]⟩, .slice none 0 0, .slice none 0 0, .string ⟨#[]⟩] 47)) (.cells #[.string ⟨#[]⟩, .string ⟨#[]⟩, .slice none 0 0, .slice none 0 0, .string ⟨#[]⟩] 47)
    rw [show (w.alloc (.cells #[.string ⟨#[]⟩, .string ⟨#[]⟩, .slice none 0 0, .slice none 0 0, .string ⟨#[]⟩] 47)).heap.size = w.heap.size + 1 by simp] at hx
    have h1 := H.out.notS (q := w.heap.size) (Nat.le_refl _)
    have h2 := H.out.notS (q := w.heap.size + 1) (by omega)
    exact ⟨(H.out.grow G1.out).grow g2, HI.out, Xm.Fr.of (G1.out.trans g2), Z1.out.grow g2, hx, fun y hy => (by cases hy), h1.2, h2.2⟩)
  have HL0 : Hid ((bc < w.heap.size ∧ br < w.heap.size ∧ bs < w.heap.size) ∧ w.heap.size = w.heap.size) := Lib.hid ⟨⟨H.out.lts.1, H.out.lts.2.1, H.out.lts.2.2.1⟩, rfl⟩
  obtain ⟨D, hD⟩ : ∃ D, D = w.heap.size := ⟨_, rfl⟩
  have HL : Hid ((bc < D ∧ br < D ∧ bs < D) ∧ w.heap.size = D) := Lib.hid (by have := HL0.out.1; rw [hD]; exact ⟨this, rfl⟩)
  rw [← hD] at DI ⊢
  clear hD G1 Z1 HL0
  generalize ((w.alloc (.cells #[.string ⟨#[]⟩, .string ⟨#[]⟩, .slice none 0 0, .slice none 0 0, .string ⟨#[]⟩] 47)).alloc (.cells #[.string ⟨#[]⟩, .string ⟨#[]⟩, .slice none 0 0, .slice none 0 0, .string ⟨#[]⟩] 47)) = w2 at *
  go_loopw [4] (fun v4 wr => ∃ (f' : Nat) (o : Option Xm.Nod) (r' : Xm.Rs) (lv' : Value) (a0 a1 a4 : ByteArray) (b1 b2 : Option Addr) (n1 n2 c1 c2 : Nat), v4 = .bool o.isSome ∧ Hid (Xm.DocInv ⟨bc, br, bs⟩ s lv w D wr lv' o r' (.string a0, .string a1, .slice b1 n1 c1, .slice b2 n2 c2, .string a4)) ∧
    Hid (Xm.docT s (s.size + 1) none r = Xm.docT s f' o r') ∧ Hid (s.size - r'.st.k + 1 ≤ f')) (fun _ wr => match wr.cell? ⟨bc, 1, none⟩ with | some (.int _ k) => s.size + 1 - k.toNat | _ => 0)
  case atStart => exact ⟨s.size + 1, none, r, lv, _, _, _, none, none, 0, 0, 0, 0, rfl, DI, Lib.hid rfl, Lib.hid (by omega)⟩
  case round =>
    obtain ⟨f', o, r', lv', a0, a1, a4, b1, b2, n1, n2, c1, c2, rfl, HDr, HGr, HFr⟩ := hrel
    rename World => wr
    clear DI
    obtain ⟨g, rfl⟩ : ∃ g, f' = g + 1 := ⟨f' - 1, by have := HFr.out; omega⟩
    have hc1 : wr.cell? ⟨bc, 1, none⟩ = some (.int .i64 r'.st.k) := (Xm.Sc.c HDr.out.rd.sc).2.1
    obtain ⟨q, st2, hnx⟩ : ∃ q st2, Xm.nextR s r'.st = (q, st2) := ⟨_, _, rfl⟩
    have Hnx := Lib.hid hnx
    have HNC := Lib.hid (rnext_any ⟨bc, br, bs⟩ s lv' r'.st r'.R r'.d r'.n wr HDr.out.rd HDr.out.inv.k (by omega) (HTB.out.1.fr HDr.out.fr HTB.out.2.2) (HTB.out.2.1.fr HDr.out.fr HTB.out.2.2) HTB.out.2.2.c)
    clear hnx
    by_cases he : st2.e = 0
    rotate_left
    · have HG : Hid (Xm.docT s (s.size + 1) none r = .error (st2.e, st2.bad)) := Lib.hid (by rw [HGr.out, Xm.docT, Hnx.out]; simp only; rw [if_pos he])
      go_wp2_with (go_at_call 68; refine HNC.out.mono ?_; rintro e w5 ⟨hrd, hfr, hif⟩; rw [Hnx.out] at hrd hif; simp only at hrd hif; rw [if_neg he] at hif; subst hif)
      exact ⟨rfl, lv', ⟨_, _, _, _, hrd⟩, HDr.out.fr.trans hfr, by rw [HG.out]⟩
    obtain ⟨qk, qn, qa, qt, qp⟩ := q
    have hns := Xm.next_step HDr.out.inv.k HDr.out.inv.e Hnx.out he
    have hsz := Xm.nextR_sized s r'.st
    rw [Hnx.out] at hsz
    have Hsz := Lib.hid hsz
    have Hns := Lib.hid hns
    clear hns hsz
    go_upto_region 5 with (go_at_call 68; refine HNC.out.mono ?_; rintro e w5 ⟨hrd, hfr, hif⟩; rw [Hnx.out] at hrd hif; simp only at hrd hif; rw [if_pos he] at hif; obtain ⟨va, rfl, hat, hlow⟩ := hif; obtain ⟨qo, qc, hva⟩ := hat.shape; subst hva; unfold Xm.Pc.cells)
    have gq := Flow.grow_alloc w5 (.cells #[.int .i64 qk, .string qn, .slice qo qa.length qc, .string qt, .int .i64 qp] 27)
    have hk2 : r'.st.k ≤ st2.k ∧ st2.k ≤ s.size := by
      have := HDr.out.inv.k
      rcases Hns.out with h1 | h1 <;> omega
    have HD6 : Hid (Xm.DocInv ⟨bc, br, bs⟩ s lv w D (w5.alloc (.cells #[.int .i64 qk, .string qn, .slice qo qa.length qc, .string qt, .int .i64 qp] 27)) lv' o ⟨st2, r'.R, r'.d, r'.n⟩ (.string a0, .string a1, .slice b1 n1 c1, .slice b2 n2 c2, .string a4)) := Lib.hid (HDr.out.step (r2 := ⟨st2, r'.R, r'.d, r'.n⟩) HL.out.1 (hfr.grow gq) (hrd.grow gq) ⟨HDr.out.inv.R, HDr.out.inv.d, HDr.out.inv.n, hk2.2, he⟩)
    have HQ6 : Hid (Xm.Row5 (w5.alloc (.cells #[.int .i64 qk, .string qn, .slice qo qa.length qc, .string qt, .int .i64 qp] 27)) w5.heap.size #[.int .i64 qk, .string qn, .slice qo qa.length qc, .string qt, .int .i64 qp]) := Lib.hid (heap_alloc_new _ _)
    have HA6 := Lib.hid (hat.grow gq)
    have HV6 : Hid (∀ g, (Value.slice qo qa.length qc).ownBlock = some g → ¬ Xm.Blk.S ⟨bc, br, bs⟩ g ∧ lv'.ownBlock ≠ some g) := Lib.hid (fun g hg => HDr.out.rd.notS (hlow g hg))
    obtain ⟨Q, hQ⟩ : ∃ Q, Q = w5.heap.size := ⟨_, rfl⟩
    rw [← hQ] at HQ6 ⊢
    have HK2 := Lib.hid hk2
    clear hrd hfr hat hlow gq hQ hk2 HNC
    generalize w5.alloc (.cells #[.int .i64 qk, .string qn, .slice qo qa.length qc, .string qt, .int .i64 qp] 27) = w6 at *
    clear w5
    have q0 := (cell_of_row w6 Q 0 _ _ _ HQ6.out).trans rfl
    have q1 := (cell_of_row w6 Q 1 _ _ _ HQ6.out).trans rfl
    have q2 := (cell_of_row w6 Q 2 _ _ _ HQ6.out).trans rfl
    have q3 := (cell_of_row w6 Q 3 _ _ _ HQ6.out).trans rfl
    have q4 := (cell_of_row w6 Q 4 _ _ _ HQ6.out).trans rfl
    have htz : qt.size ≤ 9223372036854775807 := by have := Hsz.out.text; simp only at this; omega
    have hlt : qk ≠ 0 → r'.st.k < st2.k := fun hne => by
      rcases Hns.out with h1 | h1
      · exact absurd h1.1 hne
      · exact h1.2.1
    have Hlt := Lib.hid hlt
    clear hlt
    obtain ⟨E, hE⟩ : ∃ E, E = decide ((Xm.trim qt).size = 0) := ⟨_, rfl⟩
    have HE := Lib.hid hE
    have x0 := (cell_of_row w6 (D + 1) 0 _ _ _ HD6.out.x).trans rfl
    have x1 := (cell_of_row w6 (D + 1) 1 _ _ _ HD6.out.x).trans rfl
    have x2 := (cell_of_row w6 (D + 1) 2 _ _ _ HD6.out.x).trans rfl
    have x3 := (cell_of_row w6 (D + 1) 3 _ _ _ HD6.out.x).trans rfl
    have x4 := (cell_of_row w6 (D + 1) 4 _ _ _ HD6.out.x).trans rfl
    have xf : ∀ j, w6.frozen? ⟨D + 1, j, none⟩ = false := fun j => frozen_of_row w6 (D + 1) _ _ _ HD6.out.x
    cases o with
    | some y =>
      by_cases hk0 : qk = 0
      · have k0 : (qk == 0) = true := by simp [hk0]
        have HG : Hid (Xm.docT s (s.size + 1) none r = .ok y) := Lib.hid (by rw [HGr.out, Xm.docT, Hnx.out]; simp only; rw [if_neg (by simp [he]), if_pos hk0])
        have z0 := (cell_of_row w6 D 0 _ _ _ HD6.out.z).trans rfl
        have z1 := (cell_of_row w6 D 1 _ _ _ HD6.out.z).trans rfl
        have z2 := (cell_of_row w6 D 2 _ _ _ HD6.out.z).trans rfl
        have z3 := (cell_of_row w6 D 3 _ _ _ HD6.out.z).trans rfl
        have z4 := (cell_of_row w6 D 4 _ _ _ HD6.out.z).trans rfl
        have zf : ∀ j, w6.frozen? ⟨D, j, none⟩ = false := fun j => frozen_of_row w6 D _ _ _ HD6.out.z
        clear hE hk0
        go_wp2
        refine bodyPost_ret (doc_res _ _ D _ rfl (setN HD6.out.z _ _ _ _ _) rfl) rfl ?_
        have hDw := HL.out.2
        refine ⟨lv', ⟨_, _, _, _, HD6.out.rd.new Xm.Mv.set5 H.out (by omega) HD6.out.l.1⟩, HD6.out.fr.mvNew Xm.Mv.set5 (by omega), ?_⟩
        rw [HG.out]
        exact ⟨_, rfl, (HD6.out.nod y rfl).keep Xm.Mv.set5.size (fun g hg hlt => Xm.Mv.set5.block g hlt (by have := hg.1; simp; omega)) (fun g hg hlt => ⟨by have := hg.1; omega, Nat.lt_of_lt_of_le hlt Xm.Mv.set5.size⟩) (fun g hg => hg.2.2)⟩
      have k0 : (qk == 0) = false := by simp [hk0]
      by_cases hk4 : qk = 4
      · have k4 : (qk == 4) = true := by simp [hk4]
        cases E
        · have HG : Hid (Xm.docT s (s.size + 1) none r = .error (3, qp)) := Lib.hid (by rw [HGr.out, Xm.docT, Hnx.out]; simp only; rw [if_neg (by simp [he]), if_neg hk0, if_neg (fun h => by rw [h.2] at hE; simp at hE)])
          have k1 : (qk == 1) = false := by simp [hk4]
          have k3 : (qk == 3) = false := by simp [hk4]
          clear hE hk0 hk4
          go_wp2_with (first | (go_at_call 69; refine (empty_any _ _ htz).mono ?_; rintro e w7 ⟨rfl, rfl⟩; rw [← HE.out]) | (go_at_call 71; refine (stop_any _ _ _).mono ?_; rintro e w7 ⟨rfl, rfl⟩))
          exact ⟨rfl, lv', ⟨_, _, _, _, HD6.out.rd⟩, HD6.out.fr, by rw [HG.out]⟩
        · have HG : Hid (Xm.docT s (s.size + 1) none r = Xm.docT s g (some y) ⟨st2, r'.R, r'.d, r'.n⟩) := Lib.hid (by rw [HGr.out, Xm.docT, Hnx.out]; simp only; rw [if_neg (by simp [he]), if_neg hk0, if_pos ⟨hk4, of_decide_eq_true hE.symm⟩])
          have hlt := Hlt.out hk0
          clear hE hk0 hk4
          go_wp2_with (go_at_call 69; refine (empty_any _ _ htz).mono ?_; rintro e w7 ⟨rfl, rfl⟩; rw [← HE.out])
          have hc2 : w6.cell? ⟨bc, 1, none⟩ = some (.int .i64 st2.k) := (Xm.Sc.c HD6.out.rd.sc).2.1
          go_roundw
          case rel => exact ⟨g, some y, ⟨st2, r'.R, r'.d, r'.n⟩, lv', a0, a1, a4, b1, b2, n1, n2, c1, c2, rfl, HD6, HG, Lib.hid (by have := HFr.out; have := HK2.out; simp only; omega)⟩
          case measure => simp only [hc1, hc2, Int.toNat_natCast]; have := HK2.out; omega
      · have k4 : (qk == 4) = false := by simp [hk4]
        have HG : Hid (Xm.docT s (s.size + 1) none r = .error (3, qp)) := Lib.hid (by rw [HGr.out, Xm.docT, Hnx.out]; simp only; rw [if_neg (by simp [he]), if_neg hk0, if_neg (fun h => hk4 h.1)])
        have hb13 : ∃ x1 x3, (qk == 1) = x1 ∧ (qk == 3) = x3 := ⟨_, _, rfl, rfl⟩
        obtain ⟨y1, y3, k1, k3⟩ := hb13
        clear hE hk0 hk4
        cases y1 <;> cases y3
        all_goals
          go_wp2_with (go_at_call 71; refine (stop_any _ _ _).mono ?_; rintro e w7 ⟨rfl, rfl⟩)
          exact ⟨rfl, lv', ⟨_, _, _, _, HD6.out.rd⟩, HD6.out.fr, by rw [HG.out]⟩
    | none =>
      by_cases hk4 : qk = 4 ∧ (Xm.trim qt).size = 0
      · obtain rfl := hk4.1
        have HG : Hid (Xm.docT s (s.size + 1) none r = Xm.docT s g none ⟨st2, r'.R, r'.d, r'.n⟩) := Lib.hid (by rw [HGr.out, Xm.docT, Hnx.out]; simp only; rw [if_neg (by simp [he]), if_pos ⟨trivial, hk4.2⟩])
        have hEt : E = true := by rw [hE]; exact decide_eq_true hk4.2
        have hlt := Hlt.out (by omega)
        subst hEt
        clear hE hk4
        go_wp2_with (go_at_call 69; refine (empty_any _ _ htz).mono ?_; rintro e w7 ⟨rfl, rfl⟩; rw [← HE.out])
        have hc2 : w6.cell? ⟨bc, 1, none⟩ = some (.int .i64 st2.k) := (Xm.Sc.c HD6.out.rd.sc).2.1
        go_roundw
        case rel => exact ⟨g, none, ⟨st2, r'.R, r'.d, r'.n⟩, lv', a0, a1, a4, b1, b2, n1, n2, c1, c2, rfl, HD6, HG, Lib.hid (by have := HFr.out; have := HK2.out; simp only; omega)⟩
        case measure => simp only [hc1, hc2, Int.toNat_natCast]; have := HK2.out; omega
      by_cases hk13 : qk = 1 ∨ qk = 3
      · have hne : qk ≠ 0 := by omega
        have hn4 : qk ≠ 4 := by omega
        have hlt := Hlt.out hne
        obtain ⟨res, r3, hgo⟩ : ∃ res r3, Xm.goT s (2 * s.size + 2) none ⟨qk, qn, qa, qt, qp⟩ ⟨st2, r'.R, r'.d, r'.n⟩ = (res, r3) := ⟨_, _, rfl⟩
        have Hgo := Lib.hid hgo
        have hin := Xm.goT_inv s (2 * s.size + 2) none ⟨qk, qn, qa, qt, qp⟩ ⟨st2, r'.R, r'.d, r'.n⟩ HD6.out.inv
        rw [hgo] at hin
        have Hin := Lib.hid hin
        have hcall : Calls Tryd.prog 70 #[.pointer (some ⟨br, 0, none⟩), .agg #[.int .i64 qk, .string qn, .slice qo qa.length qc, .string qt, .int .i64 qp]] w6 (ElemPost ⟨bc, br, bs⟩ s lv' (2 * s.size + 2) ⟨qk, qn, qa, qt, qp⟩ ⟨st2, r'.R, r'.d, r'.n⟩ w6) := elem_any s hs (2 * s.size + 2) ⟨bc, br, bs⟩ lv' ⟨qk, qn, qa, qt, qp⟩ (.slice qo qa.length qc) ⟨st2, r'.R, r'.d, r'.n⟩ w6
          ⟨HD6.out.rd, HD6.out.inv, HA6.out, HV6.out, Hsz.out, by simp only; omega, by omega, HTB.out.2.2.fr HD6.out.fr HTB.out.1.1, HTB.out.1.fr HD6.out.fr HTB.out.2.2, HTB.out.2.1.fr HD6.out.fr HTB.out.2.2⟩
        have Hcall := Lib.hid hcall
        have HH : Hid (D + 1 < w6.heap.size) := Lib.hid HD6.out.x.lt
        clear hgo hin hcall
        cases res with
        | error z =>
          have HG : Hid (Xm.docT s (s.size + 1) none r = .error z) := Lib.hid (by rw [HGr.out, Xm.docT, Hnx.out]; simp only; rw [if_neg (by simp [he]), if_neg hk4, if_pos hk13, Hgo.out])
          clear hE hk4
          rcases hk13 with hq | hq
          all_goals
            subst hq
            go_wp2_with (go_at_call 70; refine Hcall.out.mono ?_; rintro e w7 ⟨lv2, hrd, hfr, hres⟩; rw [Hgo.out] at hrd hres; simp only at hres; subst hres)
            exact ⟨rfl, lv2, ⟨_, _, _, _, hrd⟩, HD6.out.fr.trans hfr, by rw [HG.out]⟩
        | ok y =>
          have HG : Hid (Xm.docT s (s.size + 1) none r = Xm.docT s g (some y) r3) := Lib.hid (by rw [HGr.out, Xm.docT, Hnx.out]; simp only; rw [if_neg (by simp [he]), if_neg hk4, if_pos hk13, Hgo.out])
          clear hE hk4
          rcases hk13 with hq | hq
          all_goals
            subst hq
            go_upto_region 9 with fail
            go_wp2_with (go_at_call 70; refine Hcall.out.mono ?_; rintro e w7 ⟨lv2, hrd, hfr, hres⟩; rw [Hgo.out] at hrd hres; simp only at hres; obtain ⟨vv, rfl, hnode⟩ := hres; obtain ⟨u0, u1, u4, ua1, ua2, un1, un2, uc1, uc2, rfl⟩ := hnode.form; have HD7 := Lib.hid (HD6.out.step (r2 := r3) HL.out.1 hfr hrd (Hin.out.ok y rfl).1); have HN7 := Lib.hid hnode; have y0 := (cell_of_row w7 (D + 1) 0 _ _ _ HD7.out.x).trans rfl; have y1 := (cell_of_row w7 (D + 1) 1 _ _ _ HD7.out.x).trans rfl; have y2 := (cell_of_row w7 (D + 1) 2 _ _ _ HD7.out.x).trans rfl; have y3 := (cell_of_row w7 (D + 1) 3 _ _ _ HD7.out.x).trans rfl; have y4 := (cell_of_row w7 (D + 1) 4 _ _ _ HD7.out.x).trans rfl; have yf : ∀ j, w7.frozen? ⟨D + 1, j, none⟩ = false := (fun j => frozen_of_row w7 (D + 1) _ _ _ HD7.out.x); clear hrd hfr hnode; unfold Xm.V5.agg)
            have Hend := Lib.hid (HD7.out.put (u := (.string u0, .string u1, .slice ua1 un1 uc1, .slice ua2 un2 uc2, .string u4)) HL.out.1 HL.out.2 Xm.Mv.set5 (setN HD7.out.x _ _ _ _ _) HH.out HN7.out)
            have hc2 := (Xm.Sc.c Hend.out.rd.sc).2.1
            simp only at hc2
            go_roundw
            case rel => exact ⟨g, some y, r3, lv2, u0, u1, u4, ua1, ua2, un1, un2, uc1, uc2, rfl, Hend, HG, Lib.hid (by have h1 := HFr.out; have h2 := (Hin.out.ok y rfl).2; have h5 := (Hin.out.ok y rfl).1.k; have h4 := HK2.out; simp only at h2 h5; omega)⟩
            case measure => simp only [hc1, hc2, Int.toNat_natCast]; have h2 := (Hin.out.ok y rfl).2; have h4 := (Hin.out.ok y rfl).1.k; simp only at h2 h4; omega
      · have HG : Hid (Xm.docT s (s.size + 1) none r = .error (3, qp)) := Lib.hid (by rw [HGr.out, Xm.docT, Hnx.out]; simp only; rw [if_neg (by simp [he]), if_neg hk4, if_neg hk13])
        have k1 : (qk == 1) = false := by simp only [not_or] at hk13; simp [hk13.1]
        have k3 : (qk == 3) = false := by simp only [not_or] at hk13; simp [hk13.2]
        obtain ⟨y0, k0⟩ : ∃ y0, (qk == 0) = y0 := ⟨_, rfl⟩
        by_cases hq4 : qk = 4
        · have k4 : (qk == 4) = true := by simp [hq4]
          have hEf : E = false := by rw [hE]; exact decide_eq_false (fun h => hk4 ⟨hq4, h⟩)
          have k0' : (qk == 0) = false := by simp [hq4]
          subst hEf
          clear hE hk4 hk13 hq4 k0
          go_wp2_with (first | (go_at_call 69; refine (empty_any _ _ htz).mono ?_; rintro e w7 ⟨rfl, rfl⟩; rw [← HE.out]) | (go_at_call 71; refine (stop_any _ _ _).mono ?_; rintro e w7 ⟨rfl, rfl⟩))
          exact ⟨rfl, lv', ⟨_, _, _, _, HD6.out.rd⟩, HD6.out.fr, by rw [HG.out]⟩
        · have k4 : (qk == 4) = false := by simp [hq4]
          clear hE hk4 hk13 hq4
          cases y0
          all_goals
            go_wp2_with (go_at_call 71; refine (stop_any _ _ _).mono ?_; rintro e w7 ⟨rfl, rfl⟩)
            exact ⟨rfl, lv', ⟨_, _, _, _, HD6.out.rd⟩, HD6.out.fr, by rw [HG.out]⟩
end Go.Proofs.YtfkdjdmbgednkaaDoor
