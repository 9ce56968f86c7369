/- tree: what a reader is in a world; space.New, tree.stop, next by their contracts. -/
import Derived.Test.YtdpkhmfolmcejaaGreatDoorSp3
import Derived.WalkLawsBesides
namespace Go.Proofs.YtdpkhmfolmcejaaGreatDoor
open Go.RowKit
namespace Xm
def xmlB : Bd := (⟨#[120, 109, 108]⟩, ⟨#[104, 116, 116, 112, 58, 47, 47, 119, 119, 119, 46, 119, 51, 46, 111, 114, 103, 47, 88, 77, 76, 47, 49, 57, 57, 56, 47, 110, 97, 109, 101, 115, 112, 97, 99, 101]⟩, 0)
def newB : List Bd := [(ByteArray.empty, ByteArray.empty, 0), xmlB]
structure Blk where
  c : Nat
  r : Nat
  s : Nat
/-- the blocks that a reader turns -/
def Blk.S (b : Blk) (i : Nat) : Prop := i = b.c ∨ i = b.r ∨ i = b.s
/-- a reader's own number -/
def RowR (w : World) (b : Blk) (n : Int) : Prop := w.heap[b.r]? = some (.cells #[.pointer (some ⟨b.c, 0, none⟩), .pointer (some ⟨b.s, 0, none⟩), .int .i64 n] 59 (0, 0))
structure Rd (w : World) (b : Blk) (s : ByteArray) (lv : Value) (st : P3) (R : List Bd) (d n : Nat) : Prop where
  sc : Scs w b.c s st
  rd : RowR w b n
  sp : Sp w b.s lv R d
  cr : b.c ≠ b.r
  cs : b.c ≠ b.s
  rs : b.r ≠ b.s
  lc : lv.ownBlock ≠ some b.c
  lr : lv.ownBlock ≠ some b.r
theorem RowR.lt {w : World} {b : Blk} {n : Int} (h : RowR w b n) : b.r < w.heap.size := (Array.getElem?_eq_some_iff.1 h).1
theorem RowR.grow {w w' : World} {b : Blk} {n : Int} (h : RowR w b n) (g : Flow.Grow w w') : RowR w' b n := (g.block b.r h.lt (by simp)).trans h
theorem RowR.mv {w w' : World} {b : Blk} {n : Int} {q : Nat} (h : RowR w b n) (g : Mv w q w') (hq : b.r ≠ q) : RowR w' b n := (g.block b.r h.lt (by simp; omega)).trans h
theorem RowR.c0 {w : World} {b : Blk} {n : Int} (h : RowR w b n) : w.cell? ⟨b.r, 0, none⟩ = some (.pointer (some ⟨b.c, 0, none⟩)) := (cell_of_row w b.r 0 _ _ _ h).trans rfl
theorem RowR.c1 {w : World} {b : Blk} {n : Int} (h : RowR w b n) : w.cell? ⟨b.r, 1, none⟩ = some (.pointer (some ⟨b.s, 0, none⟩)) := (cell_of_row w b.r 1 _ _ _ h).trans rfl
theorem RowR.c2 {w : World} {b : Blk} {n : Int} (h : RowR w b n) : w.cell? ⟨b.r, 2, none⟩ = some (.int .i64 n) := (cell_of_row w b.r 2 _ _ _ h).trans rfl
theorem RowR.fz {w : World} {b : Blk} {n : Int} (h : RowR w b n) (j : Nat) : w.frozen? ⟨b.r, j, none⟩ = false := frozen_of_row w b.r _ _ _ h
theorem RowR.set {w : World} {b : Blk} {n m : Int} (h : RowR w b n) : RowR (w.setCell ⟨b.r, 2, none⟩ (.int .i64 m)) b m := heap_setCell_same w b.r 2 _ _ _ h
theorem Rd.grow {w w' : World} {b : Blk} {s : ByteArray} {lv : Value} {st : P3} {R : List Bd} {d n : Nat} (h : Rd w b s lv st R d n) (g : Flow.Grow w w') : Rd w' b s lv st R d n :=
  ⟨Sc.grow h.sc g, h.rd.grow g, h.sp.grow g, h.cr, h.cs, h.rs, h.lc, h.lr⟩
theorem Rd.scan {w w' : World} {b : Blk} {s : ByteArray} {lv : Value} {st st' : P3} {R : List Bd} {d n : Nat} (h : Rd w b s lv st R d n) (g : Mv w b.c w') (hs : Scs w' b.c s st') : Rd w' b s lv st' R d n :=
  ⟨hs, h.rd.mv g (Ne.symm h.cr), h.sp.mv g h.cs h.lc, h.cr, h.cs, h.rs, h.lc, h.lr⟩
theorem Mv.set5 {w : World} {q : Nat} {a b c d e : Value} : Mv w q (((((w.setCell ⟨q, 0, none⟩ a).setCell ⟨q, 1, none⟩ b).setCell ⟨q, 2, none⟩ c).setCell ⟨q, 3, none⟩ d).setCell ⟨q, 4, none⟩ e) :=
  (((Mv.set.trans Mv.set).trans Mv.set).trans Mv.set).trans Mv.set
theorem Rd.other {w w' : World} {b : Blk} {s : ByteArray} {lv : Value} {st : P3} {R : List Bd} {d n : Nat} {q : Nat} (h : Rd w b s lv st R d n) (g : Mv w q w') (hc : b.c ≠ q) (hr : b.r ≠ q) (hs : b.s ≠ q) (hl : lv.ownBlock ≠ some q) : Rd w' b s lv st R d n :=
  ⟨(g.block b.c (Sc.lt h.sc) (by simp; omega)).trans h.sc, h.rd.mv g hr, h.sp.mv g (Ne.symm hs) hl, h.cr, h.cs, h.rs, h.lc, h.lr⟩
theorem Rd.lts {w : World} {b : Blk} {s : ByteArray} {lv : Value} {st : P3} {R : List Bd} {d n : Nat} (h : Rd w b s lv st R d n) : b.c < w.heap.size ∧ b.r < w.heap.size ∧ b.s < w.heap.size ∧ ∀ g, lv.ownBlock = some g → g < w.heap.size := ⟨Sc.lt h.sc, h.rd.lt, h.sp.blk.lt, h.sp.own.lt⟩
theorem Rd.new {w w' : World} {b : Blk} {s : ByteArray} {lv : Value} {st : P3} {R : List Bd} {d n : Nat} {q : Nat} (h : Rd w b s lv st R d n) (g : Mv w q w') {w0 : World} {lv0 : Value} {st0 : P3} {R0 : List Bd} {d0 n0 : Nat} (h0 : Rd w0 b s lv0 st0 R0 d0 n0) (hq : w0.heap.size ≤ q) (hl : lv.ownBlock ≠ some q) : Rd w' b s lv st R d n := by
  obtain ⟨h1, h2, h3, _⟩ := h0.lts
  exact h.other g (by omega) (by omega) (by omega) hl
theorem Fr.mvNew {S : Nat → Prop} {w w1 w2 : World} {a b : Value} {q : Nat} (h : Fr S w a w1 b) (g : Mv w1 q w2) (hq : w.heap.size ≤ q) : Fr S w a w2 b :=
  ⟨g.os.trans h.os, g.tape.trans h.tape, g.output.trans h.output, Nat.le_trans h.size g.size, fun i hi hS ha => (g.block i (Nat.lt_of_lt_of_le hi h.size) (by simp; omega)).trans (h.block i hi hS ha), h.mv⟩
theorem Fr.grow {S : Nat → Prop} {w w1 w2 : World} {a b : Value} (h : Fr S w a w1 b) (g : Flow.Grow w1 w2) : Fr S w a w2 b := h.trans (Fr.of g)
theorem AttrsAt.grow {w w' : World} {v : Value} {l : List (ByteArray × ByteArray)} (h : AttrsAt w v l) (g : Flow.Grow w w') : AttrsAt w' v l := h.fr (S := fun _ => False) (lv := .int .i64 0) (lv' := .int .i64 0) (Fr.of g) (fun _ _ => ⟨fun h => h, by simp [Value.ownBlock]⟩)
theorem AttrsAt.mv' {w w' : World} {v : Value} {l : List (ByteArray × ByteArray)} {q : Nat} (h : AttrsAt w v l) (g : Mv w q w') (hq : v.ownBlock ≠ some q) : AttrsAt w' v l := h.fr (S := (· = q)) (lv := .int .i64 0) (lv' := .int .i64 0) (Fr.ofMv g rfl) (fun g hg => ⟨fun e => hq (by rw [hg, e]), by simp [Value.ownBlock]⟩)
/-- the panic that ends a reading -/
def failV (z a : Int) : List PanicEntry := [{ v := .iface 72 (.agg #[.int .i64 z, .int .i64 a]), recovered := false }]
end Xm
set_option maxRecDepth 100000 in
theorem snew_any (w : World) : Calls Tryz.prog 20 #[] w fun e w' => ∃ lv, e = .returned (.pointer (some ⟨w.heap.size + 1, 0, none⟩)) ∧ Xm.Sp w' (w.heap.size + 1) lv Xm.newB 0 ∧ Flow.Grow w w' ∧ lv.ownBlock = some w.heap.size := by
  go_enter Tryz.func20, Tryz.ntmps20
  go_wp2
  go_ret
  have g1 := Flow.grow_alloc w (.cells (Xm.bdCells Xm.newB.reverse).toArray 77)
  have g2 := Flow.grow_alloc (w.alloc (.cells (Xm.bdCells Xm.newB.reverse).toArray 77)) (.cells #[.slice (some ⟨w.heap.size, 0, none⟩) 2 2, .int .i64 0] 80)
  have o1 : Xm.OwnB (w.alloc (.cells (Xm.bdCells Xm.newB.reverse).toArray 77)) (.slice (some ⟨w.heap.size, 0, none⟩) 2 2) Xm.newB := World.ownsRow_lit (base := 0) w (Xm.bdCells Xm.newB.reverse).toArray 2 (e := 77) (size := 3) (Nat.zero_le _) (by unfold maxLen; omega) rfl
  refine ⟨.slice (some ⟨w.heap.size, 0, none⟩) 2 2, rfl, ⟨?_, o1.grow g2, by show some w.heap.size ≠ some (w.heap.size + 1); simp⟩, g1.trans g2, rfl⟩
  have h := heap_alloc_new (w.alloc (.cells (Xm.bdCells Xm.newB.reverse).toArray 77)) (.cells #[.slice (some ⟨w.heap.size, 0, none⟩) 2 2, .int .i64 0] 80)
  rw [show (w.alloc (.cells (Xm.bdCells Xm.newB.reverse).toArray 77)).heap.size = w.heap.size + 1 by simp] at h
  exact h
set_option maxRecDepth 100000 in
theorem stop_any (z a : Int) (w : World) : Calls Tryz.prog 36 #[.int .i64 z, .int .i64 a] w fun e w' => e = .panicked (Xm.failV z a) ∧ w = w' := by
  go_enter Tryz.func36, Tryz.ntmps36
  go_wp2
  exact ⟨rfl, rfl, rfl⟩
/-- what came of next -/
def NextRd (b : Xm.Blk) (s : ByteArray) (lv : Value) (st : Xm.P3) (R : List Xm.Bd) (d n : Nat) (w : World) (e : Ending) (w' : World) : Prop :=
  Xm.Rd w' b s lv (Xm.nextR s st).2 R d n ∧ Xm.Fr b.S w lv w' lv ∧
  (if (Xm.nextR s st).2.e = 0 then ∃ va, e = .returned (.agg (Xm.Pc.cells (Xm.nextR s st).1 va)) ∧ Xm.AttrsAt w' va (Xm.nextR s st).1.attrs ∧ (∀ g, va.ownBlock = some g → w.heap.size ≤ g) else e = .panicked (Xm.failV (Xm.nextR s st).2.e (Xm.nextR s st).2.bad))
theorem next_rres (tmps : Array Value) (w : World) (R : Nat) (cs : Array Value) (hp : tmps.getD 2 undef = .pointer (some ⟨R, 0, none⟩)) (hg : Xm.Row5 w R cs) (hc : cs.size = 5) :
    (results Tryz.f33 tmps).run Tryz.prog w = .ok (.agg cs) w :=
  results_cell_row (by kernel_rfl) tmps w R _ _ _ _ hp hg Tryz.underlying82 rfl (by rw [hc]; kernel_rfl)
set_option maxRecDepth 100000 in
set_option maxHeartbeats 1000000 in
theorem rnext_any (b : Xm.Blk) (s : ByteArray) (lv : Value) (st : Xm.P3) (R : List Xm.Bd) (d n : Nat) (w : World) (h : Xm.Rd w b s lv st R d n) (hk : st.k ≤ s.size) (hs : s.size ≤ 900000000) (hT : Xm.Tab w) (hm : Xm.Max w) (hb1 : 1 < b.c) :
    Calls Tryz.prog 33 #[.pointer (some ⟨b.r, 0, none⟩)] w (NextRd b s lv st R d n w) := by
  have H := Lib.hid h
  have HT := Lib.hid hT
  have HM := Lib.hid hm
  clear h hT hm
  obtain ⟨bc, br, bs⟩ := b
  simp only at hb1
  go_enter Tryz.func33, Tryz.ntmps33
  have Z : Hid (Xm.Row5 (w.alloc (.cells #[.int .i64 0, .string ⟨#[]⟩, .slice none 0 0, .string ⟨#[]⟩, .int .i64 0] 82)) w.heap.size #[.int .i64 0, .string ⟨#[]⟩, .slice none 0 0, .string ⟨#[]⟩, .int .i64 0]) := Lib.hid (heap_alloc_new _ _)
  have G1 : Hid (Flow.Grow w (w.alloc (.cells #[.int .i64 0, .string ⟨#[]⟩, .slice none 0 0, .string ⟨#[]⟩, .int .i64 0] 82))) := Lib.hid (Flow.grow_alloc _ _)
  go_upto_region 1 with fail
  obtain ⟨B, hB⟩ : ∃ B, B = w.heap.size := ⟨_, rfl⟩
  rw [← hB] at Z ⊢
  have HB := Lib.hid hB
  clear hB
  generalize w.alloc (.cells #[.int .i64 0, .string ⟨#[]⟩, .slice none 0 0, .string ⟨#[]⟩, .int .i64 0] 82) = w1 at *
  have H1 := Lib.hid (H.out.grow G1.out)
  have r0 := H1.out.rd.c0
  have HT1 := Lib.hid (HT.out.grow G1.out)
  have HM1 := Lib.hid (HM.out.grow G1.out)
  simp only at r0
  obtain ⟨r, hr⟩ : ∃ r, r = Xm.nextR s st := ⟨_, rfl⟩
  have Hr := Lib.hid hr
  clear hr
  go_upto_region 2 with (go_at_call 47; refine (next_T bc s st w1 H1.out.sc hk hs HT1.out HM1.out hb1).mono ?_; rintro e w2 ⟨va, rfl, hat, hfr, hs2, hm2⟩; rw [← Hr.out] at hat hs2 ⊢; obtain ⟨ao, cap, hva⟩ := hat.shape; subst hva; unfold Xm.Pc.cells)
  obtain ⟨⟨kd, nm, at1, tx, pa⟩, q⟩ := r
  have H2 := Lib.hid ((H1.out.scan hm2 hs2).grow (Flow.grow_alloc w2 (.cells #[.int .i64 kd, .string nm, .slice ao at1.length cap, .string tx, .int .i64 pa] 82)))
  have F2 := Lib.hid ((((Xm.Fr.of G1.out).trans (Xm.Fr.ofMv (S := Xm.Blk.S ⟨bc, br, bs⟩) (a := lv) hm2 (.inl rfl))).trans (Xm.Fr.of (Flow.grow_alloc w2 (.cells #[.int .i64 kd, .string nm, .slice ao at1.length cap, .string tx, .int .i64 pa] 82)))))
  have A2 := Lib.hid (hat.grow (Flow.grow_alloc w2 (.cells #[.int .i64 kd, .string nm, .slice ao at1.length cap, .string tx, .int .i64 pa] 82)))
  have Z2 := Lib.hid ((Z.out.mv hm2 (show B ≠ bc by have h1 : bc < w.heap.size := Xm.Sc.lt H.out.sc; have := HB.out; omega)).grow (Flow.grow_alloc w2 (.cells #[.int .i64 kd, .string nm, .slice ao at1.length cap, .string tx, .int .i64 pa] 82)))
  have P2 : Hid (Xm.Row5 (w2.alloc (.cells #[.int .i64 kd, .string nm, .slice ao at1.length cap, .string tx, .int .i64 pa] 82)) w2.heap.size #[.int .i64 kd, .string nm, .slice ao at1.length cap, .string tx, .int .i64 pa]) := Lib.hid (heap_alloc_new _ _)
  have hB1 : B < w1.heap.size := Z.out.lt
  have HV : Hid (∀ g, (Value.slice ao at1.length cap).ownBlock = some g → w.heap.size ≤ g ∧ g ≠ B) := Lib.hid (fun g hg => by
    have h1 : w1.heap.size ≤ g := Nat.le_of_not_lt (fun h => hfr g h hg)
    have h2 := G1.out.size
    exact ⟨by omega, by omega⟩)
  have HLB : Hid (lv.ownBlock ≠ some B) := Lib.hid (fun e => by have := H.out.lts.2.2.2 B e; have := HB.out; omega)
  obtain ⟨A, hA⟩ : ∃ A, A = w2.heap.size := ⟨_, rfl⟩
  rw [← hA] at P2 ⊢
  clear hA hat hfr hs2 hm2 Z G1 H1 r0 HT1 HM1 hB1
  generalize w2.alloc (.cells #[.int .i64 kd, .string nm, .slice ao at1.length cap, .string tx, .int .i64 pa] 82) = w3 at *
  have r0 := H2.out.rd.c0
  simp only at r0
  have HS3 : Hid (Xm.Sc w3 bc s q.k q.e q.bad) := Lib.hid H2.out.sc
  by_cases he : q.e = 0
  · have hE : Hid (q.e = 0) := Lib.hid he
    have he' : (q.e != 0) = false := by simp [he]
    have p0 := (cell_of_row w3 A 0 _ _ _ P2.out).trans rfl
    have p1 := (cell_of_row w3 A 1 _ _ _ P2.out).trans rfl
    have p2 := (cell_of_row w3 A 2 _ _ _ P2.out).trans rfl
    have p3 := (cell_of_row w3 A 3 _ _ _ P2.out).trans rfl
    have p4 := (cell_of_row w3 A 4 _ _ _ P2.out).trans rfl
    have z0 := (cell_of_row w3 B 0 _ _ _ Z2.out).trans rfl
    have z1 := (cell_of_row w3 B 1 _ _ _ Z2.out).trans rfl
    have z2 := (cell_of_row w3 B 2 _ _ _ Z2.out).trans rfl
    have z3 := (cell_of_row w3 B 3 _ _ _ Z2.out).trans rfl
    have z4 := (cell_of_row w3 B 4 _ _ _ Z2.out).trans rfl
    have zf : ∀ j, w3.frozen? ⟨B, j, none⟩ = false := fun j => frozen_of_row w3 B _ _ _ Z2.out
    go_wp2_with (go_at_call 48; refine (err_any _ _ _ _ _ _ HS3.out).mono ?_; rintro e w4 ⟨rfl, rfl⟩)
    refine bodyPost_ret (next_rres _ _ B _ rfl (set5 Z2.out _ _ _ _ _) rfl) rfl ?_
    unfold NextRd
    rw [← Hr.out]
    refine ⟨H2.out.new Xm.Mv.set5 H.out (Nat.le_of_eq HB.out.symm) HLB.out, F2.out.mvNew Xm.Mv.set5 (Nat.le_of_eq HB.out.symm), ?_⟩
    rw [if_pos he]
    exact ⟨.slice ao at1.length cap, rfl, A2.out.mv' Xm.Mv.set5 (fun e => (HV.out B e).2 rfl), fun g hg => (HV.out g hg).1⟩
  · have he' : (q.e != 0) = true := by simp [he]
    have hA : Hid (Xm.atOf q.e q.k q.bad = q.bad) := Lib.hid (by rw [Xm.atOf, if_neg he])
    go_wp2_with (first | (go_at_call 48; refine (err_any _ _ _ _ _ _ HS3.out).mono ?_; rintro e w4 ⟨rfl, rfl⟩) | (go_at_call 49; refine (at_any _ _ _ _ _ _ HS3.out).mono ?_; rintro e w4 ⟨rfl, rfl⟩; rw [hA.out]) | (go_at_call 36; refine (stop_any _ _ _).mono ?_; rintro e w4 ⟨rfl, rfl⟩))
    refine ⟨rfl, ?_⟩
    unfold NextRd
    rw [← Hr.out]
    refine ⟨H2.out, F2.out, ?_⟩
    rw [if_neg he]
end Go.Proofs.YtdpkhmfolmcejaaGreatDoor
