/- tree: begin by its contract. -/
import Derived.Test.YtdpkhmfolmcejaaGreatDoorTr1
namespace Go.Proofs.YtdpkhmfolmcejaaGreatDoor
open Go.RowKit
namespace Xm
def beginT (p : Pc) (R : List Bd) (d n : Nat) : Except (Int × Int) (ByteArray × ByteArray × List (ByteArray × ByteArray)) × List Bd × Nat × Nat :=
  if 2000 < n + 1 then (.error (5, p.at'), R, d, n + 1)
  else if 32 ≤ d then (.error (4, p.at'), R, d, n + 1)
  else if (enterL (d + 1) p.attrs [] R).2.1 ≠ 0 then (.error ((enterL (d + 1) p.attrs [] R).2.1, p.at'), (enterL (d + 1) p.attrs [] R).1, d + 1, n + 1)
  else if (nameP (enterL (d + 1) p.attrs [] R).1 p.name).2.2 = false then (.error (3, p.at'), (enterL (d + 1) p.attrs [] R).1, d + 1, n + 1)
  else if (enterL (d + 1) p.attrs [] R).2.2.all (fun a => name a.1) = false then (.error (3, p.at'), (enterL (d + 1) p.attrs [] R).1, d + 1, n + 1)
  else (.ok ((nameP (enterL (d + 1) p.attrs [] R).1 p.name).1, (nameP (enterL (d + 1) p.attrs [] R).1 p.name).2.1, (enterL (d + 1) p.attrs [] R).2.2), (enterL (d + 1) p.attrs [] R).1, d + 1, n + 1)
theorem enterL_len (d : Nat) : ∀ (l o : List (ByteArray × ByteArray)) (R : List Bd), (enterL d l o R).1.length ≤ max R.length 100 ∧ (enterL d l o R).2.2.length ≤ o.length + l.length ∧ ∀ a ∈ (enterL d l o R).2.2, a ∈ o ∨ a ∈ l
  | [], o, R => ⟨Nat.le_max_left _ _, Nat.le_refl _, fun a h => .inl h⟩
  | a :: l, o, R => by
    rw [enterL]
    split
    · split
      · exact ⟨Nat.le_max_left _ _, Nat.zero_le _, fun a h => by cases h⟩
      · split
        · exact ⟨Nat.le_max_left _ _, Nat.zero_le _, fun a h => by cases h⟩
        · have h := enterL_len d l o (((tellP a.1).1, a.2, d) :: R)
          rw [List.length_cons] at h
          refine ⟨by omega, by rw [List.length_cons]; omega, fun x hx => ?_⟩
          rcases h.2.2 x hx with h | h
          · exact .inl h
          · exact .inr (List.mem_cons_of_mem _ h)
    · have h := enterL_len d l (o ++ [a]) R
      rw [List.length_append, List.length_singleton] at h
      refine ⟨h.1, by rw [List.length_cons]; omega, fun x hx => ?_⟩
      rcases h.2.2 x hx with h | h
      · rcases List.mem_append.1 h with h | h
        · exact .inl h
        · rw [List.mem_singleton.1 h]; exact .inr (List.mem_cons_self)
      · exact .inr (List.mem_cons_of_mem _ h)
def RowN (w : World) (q : Nat) (cs : Array Value) : Prop := w.heap[q]? = some (.cells cs 25 (0, 0))
theorem RowN.lt {w : World} {q : Nat} {cs : Array Value} (h : RowN w q cs) : q < w.heap.size := (Array.getElem?_eq_some_iff.1 h).1
theorem RowN.grow {w w' : World} {q : Nat} {cs : Array Value} (h : RowN w q cs) (hm : Flow.Grow w w') : RowN w' q cs := (hm.block q h.lt (by simp)).trans h
theorem RowN.mv {w w' : World} {b q : Nat} {cs : Array Value} (h : RowN w q cs) (hm : Mv w b w') (hb : q ≠ b) : RowN w' q cs := (hm.block' h.lt hb).trans h
theorem RowN.fr {S : Nat → Prop} {w w' : World} {lv lv' : Value} {q : Nat} {cs : Array Value} (h : RowN w q cs) (f : Fr S w lv w' lv') (hS : ¬ S q) (hl : lv.ownBlock ≠ some q) : RowN w' q cs := (f.block q h.lt hS hl).trans h
theorem Row5.fr {S : Nat → Prop} {w w' : World} {lv lv' : Value} {q : Nat} {cs : Array Value} (h : Row5 w q cs) (f : Fr S w lv w' lv') (hS : ¬ S q) (hl : lv.ownBlock ≠ some q) : Row5 w' q cs := (f.block q h.lt hS hl).trans h
theorem RowN.set {w : World} {q : Nat} {cs : Array Value} (h : RowN w q cs) (j : Nat) (v : Value) : RowN (w.setCell ⟨q, j, none⟩ v) q (cs.setIfInBounds j v) := heap_setCell_same w q j _ _ v h
theorem Rd.setN {w : World} {b : Blk} {s : ByteArray} {lv : Value} {st : P3} {R : List Bd} {d n : Nat} (h : Rd w b s lv st R d n) (m : Nat) : Rd (w.setCell ⟨b.r, 2, none⟩ (.int .i64 (m : Int))) b s lv st R d m :=
  ⟨(Mv.set.block b.c (Sc.lt h.sc) (by have := h.cr; simp; omega)).trans h.sc, h.rd.set, h.sp.mv Mv.set h.rs h.lr, h.cr, h.cs, h.rs, h.lc, h.lr⟩
theorem Rd.notS {w0 : World} {b : Blk} {s : ByteArray} {lv : Value} {st : P3} {R : List Bd} {d n : Nat} (h : Rd w0 b s lv st R d n) {q : Nat} (hq : w0.heap.size ≤ q) : ¬ b.S q ∧ lv.ownBlock ≠ some q := by
  obtain ⟨h1, h2, h3, h4⟩ := h.lts
  refine ⟨fun e => ?_, fun e => ?_⟩
  · rcases e with e | e | e <;> omega
  · have := h4 q e; omega
theorem Fr.owned {S : Nat → Prop} {w w' : World} {lv lv' : Value} {q : Nat} (f : Fr S w lv w' lv') (hq : q < w.heap.size) (hl : lv.ownBlock ≠ some q) : lv'.ownBlock ≠ some q := by
  rcases f.mv with e | ⟨g, e, hg⟩
  · rw [e]; exact hl
  · rw [e]; intro e2; cases e2; omega
theorem Rd.spaces {w w' : World} {b : Blk} {s : ByteArray} {lv lv' : Value} {st : P3} {R R' : List Bd} {d d' n : Nat} (h : Rd w b s lv st R d n) (f : Fr (· = b.s) w lv w' lv') (hsp : Sp w' b.s lv' R' d') : Rd w' b s lv' st R' d' n :=
  ⟨(f.block b.c h.lts.1 h.cs h.lc).trans h.sc, (f.block b.r h.lts.2.1 h.rs h.lr).trans h.rd, hsp, h.cr, h.cs, h.rs, f.owned h.lts.1 h.lc, f.owned h.lts.2.1 h.lr⟩
end Xm
theorem setN {w : World} {R : Nat} {x0 x1 x2 x3 x4 : Value} (h : Xm.RowN w R #[x0, x1, x2, x3, x4]) (a b c d e : Value) :
    Xm.RowN (((((w.setCell ⟨R, 0, none⟩ a).setCell ⟨R, 1, none⟩ b).setCell ⟨R, 2, none⟩ c).setCell ⟨R, 3, none⟩ d).setCell ⟨R, 4, none⟩ e) R #[a, b, c, d, e] := by
  have h0 : Xm.RowN (w.setCell ⟨R, 0, none⟩ a) R #[a, x1, x2, x3, x4] := h.set 0 a
  have h1 : Xm.RowN ((w.setCell ⟨R, 0, none⟩ a).setCell ⟨R, 1, none⟩ b) R #[a, b, x2, x3, x4] := h0.set 1 b
  have h2 : Xm.RowN (((w.setCell ⟨R, 0, none⟩ a).setCell ⟨R, 1, none⟩ b).setCell ⟨R, 2, none⟩ c) R #[a, b, c, x3, x4] := h1.set 2 c
  have h3 : Xm.RowN ((((w.setCell ⟨R, 0, none⟩ a).setCell ⟨R, 1, none⟩ b).setCell ⟨R, 2, none⟩ c).setCell ⟨R, 3, none⟩ d) R #[a, b, c, d, x4] := h2.set 3 d
  exact h3.set 4 e
theorem begin_res (tmps : Array Value) (w : World) (R : Nat) (cs : Array Value) (hp : tmps.getD 4 undef = .pointer (some ⟨R, 0, none⟩)) (hg : Xm.RowN w R cs) (hc : cs.size = 5) :
    (results Tryz.f51 tmps).run Tryz.prog w = .ok (.agg cs) w :=
  results_cell_row (by kernel_rfl) tmps w R _ _ _ _ hp hg Tryz.underlying25 rfl (by rw [hc]; kernel_rfl)
/-- what came of begin -/
def BeginPost (b : Xm.Blk) (s : ByteArray) (lv : Value) (st : Xm.P3) (p : Xm.Pc) (R : List Xm.Bd) (d n : Nat) (w : World) (e : Ending) (w' : World) : Prop :=
  ∃ lv', Xm.Rd w' b s lv' st (Xm.beginT p R d n).2.1 (Xm.beginT p R d n).2.2.1 (Xm.beginT p R d n).2.2.2 ∧ Xm.Fr b.S w lv w' lv' ∧
  match (Xm.beginT p R d n).1 with
  | .ok x => ∃ va, e = .returned (.agg #[.string x.1, .string x.2.1, va, .slice none 0 0, .string ⟨#[]⟩]) ∧ Xm.AttrsAt w' va x.2.2 ∧ (∀ g, va.ownBlock = some g → w.heap.size ≤ g ∧ lv'.ownBlock ≠ some g)
  | .error z => e = .panicked (Xm.failV z.1 z.2)
set_option maxRecDepth 100000 in
set_option maxHeartbeats 2000000 in
theorem begin_any (b : Xm.Blk) (s : ByteArray) (lv : Value) (st : Xm.P3) (p : Xm.Pc) (av : Value) (R : List Xm.Bd) (d n : Nat) (w : World) (h : Xm.Rd w b s lv st R d n) (ha : Xm.AttrsAt w av p.attrs)
    (hav : ∀ g, av.ownBlock = some g → ¬ b.S g ∧ lv.ownBlock ≠ some g) (hR : R.length ≤ 1000) (hd : d ≤ 1000) (hn : n ≤ 1000000) (hl : p.attrs.length ≤ 1000000) (hpn : p.name.size ≤ 1000000000) (hpa : ∀ a ∈ p.attrs, a.1.size ≤ 1000000000) :
    Calls Tryz.prog 51 #[.pointer (some ⟨b.r, 0, none⟩), .agg (Xm.Pc.cells p av)] w (BeginPost b s lv st p R d n w) := by
  obtain ⟨kd, nm, at1, tx, pa⟩ := p
  simp only at hl hpn hpa ha
  obtain ⟨ao, cap, hv⟩ := ha.shape
  subst hv
  have H := Lib.hid h
  have HA := Lib.hid ha
  have HV := Lib.hid hav
  have HPA := Lib.hid hpa
  clear h ha hav hpa
  obtain ⟨bc, br, bs⟩ := b
  have P1 : Hid (Xm.Row5 (w.alloc (.cells #[.int .i64 kd, .string nm, .slice ao at1.length cap, .string tx, .int .i64 pa] 82)) w.heap.size #[.int .i64 kd, .string nm, .slice ao at1.length cap, .string tx, .int .i64 pa]) := Lib.hid (heap_alloc_new _ _)
  have G1 : Hid (Flow.Grow w (w.alloc (.cells #[.int .i64 kd, .string nm, .slice ao at1.length cap, .string tx, .int .i64 pa] 82))) := Lib.hid (Flow.grow_alloc _ _)
  unfold Xm.Pc.cells
  go_enter Tryz.func51, Tryz.ntmps51
  go_upto_region 1 with fail
  have G2 : Hid (Flow.Grow w ((w.alloc (.cells #[.int .i64 kd, .string nm, .slice ao at1.length cap, .string tx, .int .i64 pa] 82)).alloc (.cells #[.string ⟨#[]⟩, .string ⟨#[]⟩, .slice none 0 0, .slice none 0 0, .string ⟨#[]⟩] 25))) := Lib.hid (G1.out.trans (Flow.grow_alloc _ _))
  have P2 : Hid (Xm.Row5 ((w.alloc (.cells #[.int .i64 kd, .string nm, .slice ao at1.length cap, .string tx, .int .i64 pa] 82)).alloc (.cells #[.string ⟨#[]⟩, .string ⟨#[]⟩, .slice none 0 0, .slice none 0 0, .string ⟨#[]⟩] 25)) w.heap.size #[.int .i64 kd, .string nm, .slice ao at1.length cap, .string tx, .int .i64 pa]) := Lib.hid (P1.out.grow (Flow.grow_alloc _ _))
  have Z2 : Hid (Xm.RowN ((w.alloc (.cells #[.int .i64 kd, .string nm, .slice ao at1.length cap, .string tx, .int .i64 pa] 82)).alloc (.cells #[.string ⟨#[]⟩, .string ⟨#[]⟩, .slice none 0 0, .slice none 0 0, .string ⟨#[]⟩] 25)) (w.heap.size + 1) #[.string ⟨#[]⟩, .string ⟨#[]⟩, .slice none 0 0, .slice none 0 0, .string ⟨#[]⟩]) := Lib.hid (by have := heap_alloc_new (w.alloc (.cells #[.int .i64 kd, .string nm, .slice ao at1.length cap, .string tx, .int .i64 pa] 82)) (.cells #[.string ⟨#[]⟩, .string ⟨#[]⟩, .slice none 0 0, .slice none 0 0, .string ⟨#[]⟩] 25); rw [show (w.alloc (.cells #[.int .i64 kd, .string nm, .slice ao at1.length cap, .string tx, .int .i64 pa] 82)).heap.size = w.heap.size + 1 by simp] at this; exact this)
  obtain ⟨B, hB⟩ : ∃ B, B = w.heap.size := ⟨_, rfl⟩
  rw [← hB] at P2 Z2 ⊢
  have HB := Lib.hid hB
  clear hB P1 G1
  generalize (w.alloc (.cells #[.int .i64 kd, .string nm, .slice ao at1.length cap, .string tx, .int .i64 pa] 82)).alloc (.cells #[.string ⟨#[]⟩, .string ⟨#[]⟩, .slice none 0 0, .slice none 0 0, .string ⟨#[]⟩] 25) = w2 at *
  have H2 := Lib.hid (H.out.grow G2.out)
  have F2 : Hid (Xm.Fr (Xm.Blk.S ⟨bc, br, bs⟩) w lv w2 lv) := Lib.hid (Xm.Fr.of G2.out)
  have r2 := H2.out.rd.c2
  have rf := H2.out.rd.fz 2
  simp only at r2 rf
  have e1 : IntKind.i64.wrap ((n : Int) + 1) = (n : Int) + 1 := IntWalk.i64_in _ (by omega)
  go_upto_region 2 with fail
  have H3 : Hid (Xm.Rd (w2.setCell ⟨br, 2, none⟩ (.int .i64 ((n : Int) + 1))) ⟨bc, br, bs⟩ s lv st R d (n + 1)) := Lib.hid (by have := H2.out.setN (n + 1); simpa using this)
  have F3 : Hid (Xm.Fr (Xm.Blk.S ⟨bc, br, bs⟩) w lv (w2.setCell ⟨br, 2, none⟩ (.int .i64 ((n : Int) + 1))) lv) := Lib.hid (F2.out.setIn (.inr (.inl rfl)))
  have NB : Hid ((¬ Xm.Blk.S ⟨bc, br, bs⟩ B ∧ lv.ownBlock ≠ some B) ∧ ¬ Xm.Blk.S ⟨bc, br, bs⟩ (B + 1) ∧ lv.ownBlock ≠ some (B + 1)) := Lib.hid ⟨H.out.notS (by have := HB.out; omega), H.out.notS (by have := HB.out; omega)⟩
  have P3 : Hid (Xm.Row5 (w2.setCell ⟨br, 2, none⟩ (.int .i64 ((n : Int) + 1))) B #[.int .i64 kd, .string nm, .slice ao at1.length cap, .string tx, .int .i64 pa]) := Lib.hid (P2.out.mv Xm.Mv.set (fun e => NB.out.1.1 (.inr (.inl e))))
  have Z3 : Hid (Xm.RowN (w2.setCell ⟨br, 2, none⟩ (.int .i64 ((n : Int) + 1))) (B + 1) #[.string ⟨#[]⟩, .string ⟨#[]⟩, .slice none 0 0, .slice none 0 0, .string ⟨#[]⟩]) := Lib.hid (Z2.out.mv Xm.Mv.set (fun e => NB.out.2.1 (.inr (.inl e))))
  clear r2 rf e1 H2 F2 P2 Z2 G2
  generalize w2.setCell ⟨br, 2, none⟩ (.int .i64 ((n : Int) + 1)) = w3 at *
  have r2 := H3.out.rd.c2
  have r1 := H3.out.rd.c1
  have p4 := (cell_of_row w3 B 4 _ _ _ P3.out).trans rfl
  simp only at r2 r1
  have r2 : w3.cell? ⟨br, 2, none⟩ = some (.int .i64 ((n : Int) + 1)) := by rw [r2]; simp
  have err : ∀ (z : Int) (wz : World) (lv' : Value) (R' : List Xm.Bd) (d' : Nat), Xm.beginT ⟨kd, nm, at1, tx, pa⟩ R d n = (.error (z, pa), R', d', n + 1) → Xm.Rd wz ⟨bc, br, bs⟩ s lv' st R' d' (n + 1) → Xm.Fr (Xm.Blk.S ⟨bc, br, bs⟩) w lv wz lv' →
      BeginPost ⟨bc, br, bs⟩ s lv st ⟨kd, nm, at1, tx, pa⟩ R d n w (.panicked (Xm.failV z pa)) wz := by
    intro z wz lv' R' d' he h1 h2
    refine ⟨lv', ?_⟩
    rw [he]
    exact ⟨h1, h2, rfl⟩
  have Err := Lib.hid err
  clear err
  by_cases hbig : 2000 < n + 1
  · have hb' : decide ((2000 : Int) < (n : Int) + 1) = true := decide_eq_true (by omega)
    have hb2 : (2000 : Int) < (n : Int) + 1 := by omega
    have HE : Hid (Xm.beginT ⟨kd, nm, at1, tx, pa⟩ R d n = (.error (5, pa), R, d, n + 1)) := Lib.hid (by rw [Xm.beginT, if_pos hbig])
    go_wp2_with (go_at_call 36; refine (stop_any _ _ _).mono ?_; rintro e w4 ⟨rfl, rfl⟩)
    exact ⟨rfl, Err.out _ _ _ _ _ HE.out H3.out F3.out⟩
  have hb' : decide ((2000 : Int) < (n : Int) + 1) = false := decide_eq_false (by omega)
  have hb2 : ¬ (2000 : Int) < (n : Int) + 1 := by omega
  by_cases hdeep : 32 ≤ d
  · have hc' : decide ((32 : Int) ≤ (d : Int)) = true := decide_eq_true (by omega)
    have hc2 : (32 : Int) ≤ (d : Int) := by omega
    have HE : Hid (Xm.beginT ⟨kd, nm, at1, tx, pa⟩ R d n = (.error (4, pa), R, d, n + 1)) := Lib.hid (by rw [Xm.beginT, if_neg hbig, if_pos hdeep])
    go_wp2_with (first | (go_at_call 74; refine (depth_any bs lv R d w3 H3.out.sp).mono ?_; rintro e w4 ⟨rfl, rfl⟩) | (go_at_call 36; refine (stop_any _ _ _).mono ?_; rintro e w4 ⟨rfl, rfl⟩))
    exact ⟨rfl, Err.out _ _ _ _ _ HE.out H3.out F3.out⟩
  have hc' : decide ((32 : Int) ≤ (d : Int)) = false := decide_eq_false (by omega)
  have hc2 : ¬ (32 : Int) ≤ (d : Int) := by omega
  go_upto_region 6 with (go_at_call 74; refine (depth_any bs lv R d w3 H3.out.sp).mono ?_; rintro e w4 ⟨rfl, rfl⟩)
  obtain ⟨R1, z, out, hent⟩ : ∃ R1 z out, Xm.enterL (d + 1) at1 [] R = (R1, z, out) := ⟨_, _, _, rfl⟩
  have Hent := Lib.hid hent
  have hlen := Xm.enterL_len (d + 1) at1 [] R
  rw [hent] at hlen
  have Hlen := Lib.hid hlen
  clear hent hlen
  have H4 := Lib.hid (H3.out.grow (Flow.grow_drew w3))
  have A4 : Hid (Xm.AttrsAt w3.drew (.slice ao at1.length cap) at1) := Lib.hid ((HA.out.fr F3.out (fun g hg => HV.out g hg)).grow (Flow.grow_drew w3))
  have V4 : Hid (∀ g, (Value.slice ao at1.length cap).ownBlock = some g → g ≠ bs ∧ lv.ownBlock ≠ some g) := Lib.hid (fun g hg => ⟨fun e => (HV.out g hg).1 (.inr (.inr e)), (HV.out g hg).2⟩)
  have Fin : Hid (∀ w5 lv' ov, Xm.Sp w5 bs lv' R1 (d + 1) → Xm.Fr (· = bs) w3.drew lv w5 lv' → Xm.AttrsAt w5 ov out → (∀ g, ov.ownBlock = some g → w3.drew.heap.size ≤ g) → Xm.Two ov lv' →
      Hid (Xm.Rd w5 ⟨bc, br, bs⟩ s lv' st R1 (d + 1) (n + 1)) ∧ Hid (Xm.Fr (Xm.Blk.S ⟨bc, br, bs⟩) w lv w5 lv') ∧ Hid (Xm.AttrsAt w5 ov out) ∧ Hid (∀ g, ov.ownBlock = some g → w.heap.size ≤ g ∧ B + 1 < g ∧ lv'.ownBlock ≠ some g) ∧ Hid (Xm.Row5 w5 B #[.int .i64 kd, .string nm, .slice ao at1.length cap, .string tx, .int .i64 pa]) ∧ Hid (Xm.RowN w5 (B + 1) #[.string ⟨#[]⟩, .string ⟨#[]⟩, .slice none 0 0, .slice none 0 0, .string ⟨#[]⟩]) ∧ Hid (lv'.ownBlock ≠ some (B + 1))) := Lib.hid (by
    intro w5 lv' ov hsp hfr hat hlow htwo
    have gd := Flow.grow_drew w3
    have hz : w3.drew.heap.size = w3.heap.size := rfl
    refine ⟨Lib.hid (H4.out.spaces hfr hsp), Lib.hid ((F3.out.trans (Xm.Fr.of gd)).trans (hfr.mono (fun i h => .inr (.inr h)))), Lib.hid hat, Lib.hid (fun g hg => ?_), Lib.hid (P3.out.grow gd |>.fr hfr (fun e => NB.out.1.1 (.inr (.inr e))) NB.out.1.2), Lib.hid (Z3.out.grow gd |>.fr hfr (fun e => NB.out.2.1 (.inr (.inr e))) NB.out.2.2), Lib.hid (hfr.owned (by have := Z3.out.lt; omega) NB.out.2.2)⟩
    have h1 := hlow g hg
    have h2 := F3.out.size
    have h3 := Z3.out.lt
    exact ⟨by omega, by omega, htwo g hg⟩)
  have p2 := (cell_of_row w3 B 2 _ _ _ P3.out).trans rfl
  go_cut [5, 6] from 36 to 46 (fun v5 v6 wx => ∃ lv' ov, v5 = ov ∧ v6 = .int .i64 z ∧ Hid (Xm.Rd wx ⟨bc, br, bs⟩ s lv' st R1 (d + 1) (n + 1)) ∧ Hid (Xm.Fr (Xm.Blk.S ⟨bc, br, bs⟩) w lv wx lv') ∧ Hid (Xm.AttrsAt wx ov out) ∧ Hid (∀ g, ov.ownBlock = some g → w.heap.size ≤ g ∧ B + 1 < g ∧ lv'.ownBlock ≠ some g) ∧ Hid (Xm.Row5 wx B #[.int .i64 kd, .string nm, .slice ao at1.length cap, .string tx, .int .i64 pa]) ∧ Hid (Xm.RowN wx (B + 1) #[.string ⟨#[]⟩, .string ⟨#[]⟩, .slice none 0 0, .slice none 0 0, .string ⟨#[]⟩]) ∧ Hid (lv'.ownBlock ≠ some (B + 1)))
  case first =>
    go_region_with (go_at_call 75; refine (enter_any bs lv _ R d at1 w3.drew H4.out.sp A4.out V4.out (by omega) hR (by omega)).mono ?_; rintro e w5 ⟨lv', ov, rfl, hsp, hfr, hat, hlow, htwo⟩; rw [Hent.out] at hsp hat ⊢)
    all_goals
      have Hf := Fin.out w5 lv' ov hsp hfr hat hlow htwo
      clear hsp hfr hat hlow htwo
      go_wp2_with fail
      go_meet
      case rel => exact ⟨lv', ov, rfl, rfl, Hf⟩
  case rest =>
    obtain ⟨lv', ov, rfl, rfl, H5, F5, A5, V5, P5, Z5, L5⟩ := hcut
    rename World => w5
    clear Fin A4 V4 H4 p2 p4 r1 r2 H3 F3 P3 Z3 HV HA NB
    have p4 := (cell_of_row w5 B 4 _ _ _ P5.out).trans rfl
    have p1 := (cell_of_row w5 B 1 _ _ _ P5.out).trans rfl
    have r1 := H5.out.rd.c1
    simp only at r1
    by_cases hz : z = 0
    rotate_left
    · have hz' : (z != 0) = true := by simp [hz]
      have HE : Hid (Xm.beginT ⟨kd, nm, at1, tx, pa⟩ R d n = (.error (z, pa), R1, d + 1, n + 1)) := Lib.hid (by rw [Xm.beginT, if_neg hbig, if_neg hdeep]; simp only [Hent.out]; rw [if_pos hz])
      go_wp2_with (go_at_call 36; refine (stop_any _ _ _).mono ?_; rintro e w4 ⟨rfl, rfl⟩)
      exact ⟨rfl, Err.out _ _ _ _ _ HE.out H5.out F5.out⟩
    subst hz
    go_upto_region 9 with fail
    obtain ⟨u, nm2, ok, hnm⟩ : ∃ u nm2 ok, (u, nm2, ok) = Xm.nameP R1 nm := ⟨_, _, _, rfl⟩
    have Hnm := Lib.hid hnm
    clear hnm
    have HR1 : Hid (R1.length ≤ 1000) := Lib.hid (by have h : R1.length ≤ max R.length 100 := Hlen.out.1; omega)
    go_cut [7, 8, 9] from 52 to 63 (fun v7 v8 v9 wx => v7 = .string u ∧ v8 = .string nm2 ∧ v9 = .bool ok ∧ Hid (Flow.Grow w5 wx))
    case first =>
      go_region_with (go_at_call 76; refine (spname_any bs lv' R1 (d + 1) nm w5.drew (H5.out.grow (Flow.grow_drew w5)).sp (by have := HR1.out; omega) (by omega)).mono ?_; rintro e w6 ⟨rfl, hg6⟩; rw [← Hnm.out])
      all_goals
        have Hg6 := Lib.hid ((Flow.grow_drew w5).trans hg6)
        clear hg6
        go_wp2_with fail
        go_meet
        case rel => exact ⟨rfl, rfl, rfl, Hg6⟩
    case rest =>
      obtain ⟨rfl, rfl, rfl, HG6⟩ := hcut
      rename World => w6
      have H6 := Lib.hid (H5.out.grow HG6.out)
      have F6 := Lib.hid (F5.out.grow HG6.out)
      have A6 := Lib.hid (A5.out.grow HG6.out)
      have P6 := Lib.hid (P5.out.grow HG6.out)
      have Z6 := Lib.hid (Z5.out.grow HG6.out)
      clear H5 F5 A5 P5 Z5 HG6 p4 p1 r1
      have p4 := (cell_of_row w6 B 4 _ _ _ P6.out).trans rfl
      cases ok
      · have HE : Hid (Xm.beginT ⟨kd, nm, at1, tx, pa⟩ R d n = (.error (3, pa), R1, d + 1, n + 1)) := Lib.hid (by rw [Xm.beginT, if_neg hbig, if_neg hdeep]; simp only [Hent.out, ← Hnm.out]; rfl)
        go_wp2_with (go_at_call 36; refine (stop_any _ _ _).mono ?_; rintro e w4 ⟨rfl, rfl⟩)
        exact ⟨rfl, Err.out _ _ _ _ _ HE.out H6.out F6.out⟩
      obtain ⟨oo, oc, hov⟩ := A6.out.shape
      subst hov
      have HE : Hid (Xm.beginT ⟨kd, nm, at1, tx, pa⟩ R d n = if out.all (fun a => Xm.name a.1) = false then (.error (3, pa), R1, d + 1, n + 1) else (.ok (u, nm2, out), R1, d + 1, n + 1)) := Lib.hid (by rw [Xm.beginT, if_neg hbig, if_neg hdeep]; simp only [Hent.out, ← Hnm.out]; rfl)
      go_wp2
      go_loopw [70] (fun v70 wr => ∃ k : Nat, v70 = .int .i64 k ∧ k ≤ out.length ∧ Hid (Flow.Grow w6 wr) ∧ Hid (out.all (fun a => Xm.name a.1) = (out.drop k).all (fun a => Xm.name a.1))) (fun v70 _ => out.length - (intOf v70).toNat)
      case atStart => exact ⟨0, rfl, Nat.zero_le _, Lib.hid (Flow.grow_refl _), Lib.hid rfl⟩
      case round =>
        obtain ⟨k, rfl, hk, HG, HK⟩ := hrel
        rename World => wr
        by_cases hlt : k < out.length
        rotate_left
        · have HE2 : Hid (Xm.beginT ⟨kd, nm, at1, tx, pa⟩ R d n = (.ok (u, nm2, out), R1, d + 1, n + 1)) := Lib.hid (by rw [HE.out, HK.out, List.drop_eq_nil_of_le (by omega)]; rfl)
          have g1 : ¬ ((k : Int) < (out.length : Int)) := by omega
          have g2 : decide ((k : Int) < (out.length : Int)) = false := decide_eq_false g1
          have Z7 := Lib.hid (Z6.out.grow HG.out)
          have z0 := (cell_of_row wr (B + 1) 0 _ _ _ Z7.out).trans rfl
          have z1 := (cell_of_row wr (B + 1) 1 _ _ _ Z7.out).trans rfl
          have z2 := (cell_of_row wr (B + 1) 2 _ _ _ Z7.out).trans rfl
          have z3 := (cell_of_row wr (B + 1) 3 _ _ _ Z7.out).trans rfl
          have z4 := (cell_of_row wr (B + 1) 4 _ _ _ Z7.out).trans rfl
          have zf : ∀ j, wr.frozen? ⟨B + 1, j, none⟩ = false := fun j => frozen_of_row wr (B + 1) _ _ _ Z7.out
          go_wp2
          have hB := HB.out
          refine bodyPost_ret (begin_res _ _ (B + 1) _ rfl (setN Z7.out _ _ _ _ _) rfl) rfl ?_
          refine ⟨lv', ?_⟩
          rw [HE2.out]
          refine ⟨(H6.out.grow HG.out).new Xm.Mv.set5 H.out (by omega) L5.out, (F6.out.grow HG.out).mvNew Xm.Mv.set5 (by omega), .slice oo out.length oc, rfl, (A6.out.grow HG.out).mv' Xm.Mv.set5 (fun e => by have := (V5.out _ e).2.1; omega), fun g hg => ⟨(V5.out g hg).1, (V5.out g hg).2.2⟩⟩
        rcases A6.out with ⟨_, h0⟩ | ⟨g, off, cap', hvv, hlc, hcm, hg, hcell⟩
        · rw [h0] at hlt; simp at hlt
        cases hvv
        obtain ⟨⟨an, v⟩, hn2⟩ : ∃ a, out[k]? = some a := ⟨out[k], List.getElem?_eq_getElem hlt⟩
        have hcs := Xm.attrCells_get out k _ hn2
        have q0 := (Xm.cell_grow HG.out hg).trans (hcell _ _ hcs.1)
        have q1 := (Xm.cell_grow HG.out hg).trans (hcell _ _ hcs.2)
        rw [← Nat.add_assoc] at q1
        have hmem : (an, v) ∈ out := List.mem_of_getElem? hn2
        have hsz : Hid (an.size ≤ 9223372036854775807) := Lib.hid (by
          rcases Hlen.out.2.2 _ hmem with h | h
          · cases h
          · have := HPA.out _ h; simp only at this; omega)
        have HD : Hid (out.drop k = (an, v) :: out.drop (k + 1)) := Lib.hid (by
          rw [List.drop_eq_getElem_cons hlt]
          congr 1
          have := List.getElem?_eq_getElem hlt
          rw [hn2] at this
          exact (Option.some.inj this).symm)
        clear hcs hcell hn2 hmem
        have g1 : (k : Int) < (out.length : Int) := by omega
        have g3 : ¬ (out.length : Int) ≤ (k : Int) := by omega
        obtain ⟨x, hx⟩ : ∃ x, x = Xm.name an := ⟨_, rfl⟩
        have Hx := Lib.hid hx
        clear hx
        have HGa : Hid (Flow.Grow w6 (wr.alloc (.cells #[.string an, .string v] 41))) := Lib.hid (HG.out.trans (Flow.grow_alloc _ _))
        have p4' := (cell_of_row _ B 4 _ _ _ (P6.out.grow HGa.out)).trans rfl
        cases x
        · have HE2 : Hid (Xm.beginT ⟨kd, nm, at1, tx, pa⟩ R d n = (.error (3, pa), R1, d + 1, n + 1)) := Lib.hid (by rw [HE.out, HK.out, HD.out, List.all_cons, ← Hx.out]; rfl)
          go_wp2_with (first | (go_at_call 53; refine (name_any _ _ hsz.out).mono ?_; rintro e w8 ⟨rfl, rfl⟩; rw [← Hx.out]) | (go_at_call 36; refine (stop_any _ _ _).mono ?_; rintro e w4 ⟨rfl, rfl⟩))
          exact ⟨rfl, Err.out _ _ _ _ _ HE2.out (H6.out.grow HGa.out) (F6.out.grow HGa.out)⟩
        · have HK2 : Hid (out.all (fun a => Xm.name a.1) = (out.drop (k + 1)).all (fun a => Xm.name a.1)) := Lib.hid (by rw [HK.out, HD.out, List.all_cons, ← Hx.out, Bool.true_and])
          have ek : IntKind.i64.wrap ((k : Int) + 1) = (k : Int) + 1 := IntWalk.i64_in _ (by unfold maxLen at hcm; omega)
          go_wp2_with (go_at_call 53; refine (name_any _ _ hsz.out).mono ?_; rintro e w8 ⟨rfl, rfl⟩; rw [← Hx.out])
          go_roundw
          case rel => exact ⟨k + 1, rfl, by omega, HGa, HK2⟩
          case measure => simp only [intOf]; omega
end Go.Proofs.YtdpkhmfolmcejaaGreatDoor
