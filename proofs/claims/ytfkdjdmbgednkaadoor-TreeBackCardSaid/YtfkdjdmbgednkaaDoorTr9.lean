/- tree: Parse by its contract. -/
import Derived.Test.YtfkdjdmbgednkaaDoorTr8
namespace Go.Proofs.YtfkdjdmbgednkaaDoor
open Go.RowKit
namespace Xm
def r0 : Rs := ⟨⟨0, 0, 0⟩, newB, 0, 0⟩
def parseT (s : ByteArray) : Except (Int × Int) Nod := docT s (s.size + 1) none r0
end Xm
def zeroNode : Value := .agg #[.string ⟨#[]⟩, .string ⟨#[]⟩, .slice none 0 0, .slice none 0 0, .string ⟨#[]⟩]
def ParsePost (s : ByteArray) (w : World) (e : Ending) (w' : World) : Prop :=
  Flow.Grow w w' ∧ match Xm.parseT s with
  | .ok y => ∃ v, e = .returned (.tuple #[v, .int .i64 0, .int .i64 0]) ∧ Xm.NodAt (fun g => w.heap.size ≤ g ∧ g < w'.heap.size) w' v y
  | .error z => e = .returned (.tuple #[zeroNode, .int .i64 z.2, .int .i64 z.1])
set_option maxRecDepth 100000 in
theorem parse_res (tmps : Array Value) (w : World) (X A E : Nat) (c0 c1 c4 : ByteArray) (a2 a3 : Option Addr) (n2 n3 k2 k3 : Nat) (a e : Int) (h2 : tmps.getD 2 undef = .pointer (some ⟨X, 0, none⟩)) (h3 : tmps.getD 3 undef = .pointer (some ⟨A, 0, none⟩)) (h4 : tmps.getD 4 undef = .pointer (some ⟨E, 0, none⟩))
    (hx : Xm.RowN w X #[.string c0, .string c1, .slice a2 n2 k2, .slice a3 n3 k3, .string c4]) (ha : w.heap[A]? = some (.cells #[.int .i64 a] 3 (0, 0))) (he : w.heap[E]? = some (.cells #[.int .i64 e] 34 (0, 0))) :
    (results Tryd.f19 tmps).run Tryd.prog w = .ok (.tuple #[.agg #[.string c0, .string c1, .slice a2 n2 k2, .slice a3 n3 k3, .string c4], .int .i64 a, .int .i64 e]) w := by
  have x0 := (cell_of_row w X 0 _ _ _ hx).trans rfl
  have x1 := (cell_of_row w X 1 _ _ _ hx).trans rfl
  have x2 := (cell_of_row w X 2 _ _ _ hx).trans rfl
  have x3 := (cell_of_row w X 3 _ _ _ hx).trans rfl
  have x4 := (cell_of_row w X 4 _ _ _ hx).trans rfl
  have ya := (cell_of_row w A 0 _ _ _ ha).trans rfl
  have ye := (cell_of_row w E 0 _ _ _ he).trans rfl
  simp at x0 x1 x2 x3 x4 ya ye
  simp only [Array.getD_eq_getD_getElem?] at h2 h3 h4
  simp [results, Tryd.results19, h2, h3, h4, x0, x1, x2, x3, x4, ya, ye, go_sem]
set_option maxRecDepth 100000 in
set_option maxHeartbeats 2000000 in
theorem parse_any (s : ByteArray) (hs : s.size ≤ 200000) (hn : Xm.newT s = ⟨0, 0, 0⟩) (w : World) (hT : Xm.Tab w) (hm : Xm.Max w) : Calls Tryd.prog 19 #[.string s] w (ParsePost s w) := by
  have HT := Lib.hid hT
  have HM := Lib.hid hm
  have HN := Lib.hid hn
  clear hT hm hn
  go_enter_defers Tryd.func19, Tryd.ntmps19
  go_upto_region 2 with fail
  have G1 : Hid (Flow.Grow w (((w.alloc (.cells #[.string ⟨#[]⟩, .string ⟨#[]⟩, .slice none 0 0, .slice none 0 0, .string ⟨#[]⟩] 47)).alloc (.cells #[.int .i64 0] 3)).alloc (.cells #[.int .i64 0] 34))) := Lib.hid (((Flow.grow_alloc _ _).trans (Flow.grow_alloc _ _)).trans (Flow.grow_alloc _ _))
  have X1 : Hid (Xm.RowN (((w.alloc (.cells #[.string ⟨#[]⟩, .string ⟨#[]⟩, .slice none 0 0, .slice none 0 0, .string ⟨#[]⟩] 47)).alloc (.cells #[.int .i64 0] 3)).alloc (.cells #[.int .i64 0] 34)) w.heap.size #[.string ⟨#[]⟩, .string ⟨#[]⟩, .slice none 0 0, .slice none 0 0, .string ⟨#[]⟩]) := Lib.hid (Xm.RowN.grow (heap_alloc_new w _) ((Flow.grow_alloc _ _).trans (Flow.grow_alloc _ _)))
  have A1 : Hid ((((w.alloc (.cells #[.string ⟨#[]⟩, .string ⟨#[]⟩, .slice none 0 0, .slice none 0 0, .string ⟨#[]⟩] 47)).alloc (.cells #[.int .i64 0] 3)).alloc (.cells #[.int .i64 0] 34)).heap[w.heap.size + 1]? = some (.cells #[.int .i64 0] 3 (0, 0))) := Lib.hid (by
    have h := heap_alloc_new (w.alloc (.cells #[.string ⟨#[]⟩, .string ⟨#[]⟩, .slice none 0 0, .slice none 0 0, .string ⟨#[]⟩] 47)) (.cells #[.int .i64 0] 3)
    rw [show (w.alloc (.cells #[.string ⟨#[]⟩, .string ⟨#[]⟩, .slice none 0 0, .slice none 0 0, .string ⟨#[]⟩] 47)).heap.size = w.heap.size + 1 by simp] at h
    exact ((Flow.grow_alloc ((w.alloc (.cells #[.string ⟨#[]⟩, .string ⟨#[]⟩, .slice none 0 0, .slice none 0 0, .string ⟨#[]⟩] 47)).alloc (.cells #[.int .i64 0] 3)) (.cells #[.int .i64 0] 34)).block (w.heap.size + 1) (by simp) (by simp)).trans h)
  have E1 : Hid ((((w.alloc (.cells #[.string ⟨#[]⟩, .string ⟨#[]⟩, .slice none 0 0, .slice none 0 0, .string ⟨#[]⟩] 47)).alloc (.cells #[.int .i64 0] 3)).alloc (.cells #[.int .i64 0] 34)).heap[w.heap.size + 1 + 1]? = some (.cells #[.int .i64 0] 34 (0, 0))) := Lib.hid (by
    have h := heap_alloc_new ((w.alloc (.cells #[.string ⟨#[]⟩, .string ⟨#[]⟩, .slice none 0 0, .slice none 0 0, .string ⟨#[]⟩] 47)).alloc (.cells #[.int .i64 0] 3)) (.cells #[.int .i64 0] 34)
    rw [show ((w.alloc (.cells #[.string ⟨#[]⟩, .string ⟨#[]⟩, .slice none 0 0, .slice none 0 0, .string ⟨#[]⟩] 47)).alloc (.cells #[.int .i64 0] 3)).heap.size = w.heap.size + 1 + 1 by simp] at h
    exact h)
  obtain ⟨X, hX⟩ : ∃ X, X = w.heap.size := ⟨_, rfl⟩
  rw [← hX] at X1 A1 E1 ⊢
  have HX := Lib.hid hX
  clear hX
  generalize (((w.alloc (.cells #[.string ⟨#[]⟩, .string ⟨#[]⟩, .slice none 0 0, .slice none 0 0, .string ⟨#[]⟩] 47)).alloc (.cells #[.int .i64 0] 3)).alloc (.cells #[.int .i64 0] 34)) = w1 at *
  go_upto_region 3 with (first | (go_at_call 11; refine (new_T s w1 (by omega)).mono ?_; rintro e w2 ⟨rfl, hs2, hg2⟩; rw [HN.out] at hs2) | (go_at_call 45; refine (snew_any w2).mono ?_; rintro e w3 ⟨lv, rfl, hsp, hg3, hlv⟩))
  have hc3 : Xm.Scs w3 w1.heap.size s ⟨0, 0, 0⟩ := Xm.Sc.grow hs2 hg3
  have hlt1 : w1.heap.size < w2.heap.size := Xm.Sc.lt hs2
  have hlt2 : w2.heap.size + 1 < w3.heap.size := hsp.blk.lt
  obtain ⟨bc, hbc⟩ : ∃ bc, bc = w1.heap.size := ⟨_, rfl⟩
  obtain ⟨bs, hbs⟩ : ∃ bs, bs = w2.heap.size + 1 := ⟨_, rfl⟩
  rw [← hbc] at hc3 ⊢
  rw [← hbs] at hsp ⊢
  have g4 := Flow.grow_alloc w3 (.cells #[.pointer (some ⟨bc, 0, none⟩), .pointer (some ⟨bs, 0, none⟩), .int .i64 0] 82)
  have D4 : Hid (Xm.Rd (w3.alloc (.cells #[.pointer (some ⟨bc, 0, none⟩), .pointer (some ⟨bs, 0, none⟩), .int .i64 0] 82)) ⟨bc, w3.heap.size, bs⟩ s lv Xm.r0.st Xm.r0.R Xm.r0.d Xm.r0.n) := Lib.hid
    ⟨Xm.Sc.grow hc3 g4, heap_alloc_new _ _, hsp.grow g4, by show bc ≠ w3.heap.size; omega, by show bc ≠ bs; omega, by show w3.heap.size ≠ bs; omega, by rw [hlv]; show some w2.heap.size ≠ some bc; simp; omega, by rw [hlv]; show some w2.heap.size ≠ some w3.heap.size; simp; omega⟩
  have GX : Hid (Flow.Grow w1 (w3.alloc (.cells #[.pointer (some ⟨bc, 0, none⟩), .pointer (some ⟨bs, 0, none⟩), .int .i64 0] 82))) := Lib.hid ((hg2.trans hg3).trans g4)
  have LO : Hid (X + 1 + 1 < bc ∧ bc < bs ∧ bs < w3.heap.size ∧ ∀ g, lv.ownBlock = some g → X + 1 + 1 < g) := Lib.hid (by
    have hE := (Array.getElem?_eq_some_iff.1 E1.out).1
    refine ⟨by omega, by omega, by omega, fun g hg => ?_⟩
    rw [hlv] at hg; cases hg; omega)
  obtain ⟨br, hbr⟩ : ∃ br, br = w3.heap.size := ⟨_, rfl⟩
  rw [← hbr] at D4 LO ⊢
  clear hc3 hlt1 hlt2 hbc hbs hs2 hg2 hg3 hsp hlv g4 hbr
  generalize w3.alloc (.cells #[.pointer (some ⟨bc, 0, none⟩), .pointer (some ⟨bs, 0, none⟩), .int .i64 0] 82) = w4 at *
  clear w3
  have G4 := Lib.hid (G1.out.trans GX.out)
  have hw1 := HT.out.1
  have HDC := Lib.hid (doc_any s hs ⟨bc, br, bs⟩ lv Xm.r0 w4 D4.out ⟨by decide, by decide, by decide, Nat.zero_le _, rfl⟩ ⟨by have := LO.out; have := HX.out; show 1 < bc; omega, by have := LO.out; have := HX.out; show 1 < br; omega, by have := LO.out; have := HX.out; show 1 < bs; omega, fun g hg => by have := LO.out.2.2.2 g hg; have := HX.out; omega⟩ (HT.out.grow G4.out) (HM.out.grow G4.out))
  have nS : ∀ i, i ≤ X + 1 + 1 → ¬ Xm.Blk.S ⟨bc, br, bs⟩ i ∧ lv.ownBlock ≠ some i := fun i hi => by
    have h := LO.out
    refine ⟨fun e => ?_, fun e => by have := h.2.2.2 i e; omega⟩
    rcases e with e | e | e
    · have e : i = bc := e; omega
    · have e : i = br := e; omega
    · have e : i = bs := e; omega
  have HnS := Lib.hid nS
  have rows : ∀ w5 lv5, Xm.Fr (Xm.Blk.S ⟨bc, br, bs⟩) w4 lv w5 lv5 → Xm.RowN w5 X #[.string ⟨#[]⟩, .string ⟨#[]⟩, .slice none 0 0, .slice none 0 0, .string ⟨#[]⟩] ∧ w5.heap[X + 1]? = some (.cells #[.int .i64 0] 3 (0, 0)) ∧ w5.heap[X + 1 + 1]? = some (.cells #[.int .i64 0] 34 (0, 0)) ∧ ∀ i, i < w.heap.size → w5.heap[i]? = w.heap[i]? := by
    intro w5 lv5 f
    have h1 := (X1.out.grow GX.out).fr f (HnS.out X (by omega)).1 (HnS.out X (by omega)).2
    have a4 := (GX.out.block (X + 1) (Array.getElem?_eq_some_iff.1 A1.out).1 (by simp)).trans A1.out
    have e4 := (GX.out.block (X + 1 + 1) (Array.getElem?_eq_some_iff.1 E1.out).1 (by simp)).trans E1.out
    refine ⟨h1, (f.block _ (Array.getElem?_eq_some_iff.1 a4).1 (HnS.out _ (by omega)).1 (HnS.out _ (by omega)).2).trans a4, (f.block _ (Array.getElem?_eq_some_iff.1 e4).1 (HnS.out _ (by omega)).1 (HnS.out _ (by omega)).2).trans e4, fun i hi => ?_⟩
    have hz := G4.out.size
    have := HX.out
    exact (f.block i (by omega) (HnS.out i (by omega)).1 (HnS.out i (by omega)).2).trans (G4.out.block i hi (by simp))
  have Rows := Lib.hid rows
  clear nS rows hw1
  obtain ⟨res, hres⟩ : ∃ res, Xm.parseT s = res := ⟨_, rfl⟩
  have Hres := Lib.hid hres
  clear hres
  cases res with
  | error z =>
    go_wp2_with (go_at_call 46; refine HDC.out.mono ?_; rintro e w5 ⟨lv5, _, hfr, he⟩; rw [show Xm.docT s (s.size + 1) none Xm.r0 = .error z from Hres.out] at he; simp only at he; subst he)
    obtain ⟨hx, ha, he, hb⟩ := Rows.out w5 lv5 hfr
    refine leaves_cons (f := 44) (args := #[.pointer (some ⟨X, 0, none⟩), .pointer (some ⟨X + 1, 0, none⟩), .pointer (some ⟨X + 1 + 1, 0, none⟩)]) (by simp) (by simp [go_sem]) ?_
    refine (caught_fail X (X + 1) (X + 1 + 1) z.1 z.2 0 0 _ _ _ _ _ _ _ _ _ w5 hx ha he (by omega) (by omega) (by omega)).mono ?_
    rintro e u' w6 ⟨rfl, rfl, hc⟩
    refine ⟨_, parse_res _ w6 X (X + 1) (X + 1 + 1) _ _ _ _ _ _ _ _ _ _ _ rfl rfl rfl hc.x hc.a hc.e, ?_, ?_⟩
    · have h4 := G4.out
      have hX := HX.out
      exact ⟨hc.os.trans (hfr.os.trans h4.os), hc.tape.trans (hfr.tape.trans h4.tape), hc.output.trans (hfr.output.trans h4.output), Nat.le_trans h4.size (Nat.le_trans hfr.size hc.size), fun i hi _ => (hc.block i (by have := h4.size; have := hfr.size; omega) (by omega) (by omega) (by omega)).trans (hb i hi)⟩
    · rw [Hres.out]
      rfl
  | ok y =>
    go_wp2_with (go_at_call 46; refine HDC.out.mono ?_; rintro e w5 ⟨lv5, _, hfr, he⟩; rw [show Xm.docT s (s.size + 1) none Xm.r0 = .ok y from Hres.out] at he; simp only at he; obtain ⟨v, rfl, hnode⟩ := he; obtain ⟨u0, u1, u4, ua1, ua2, un1, un2, uc1, uc2, rfl⟩ := hnode.form; obtain ⟨hx, ha, he, hb⟩ := Rows.out w5 lv5 hfr; have x0 := (cell_of_row w5 X 0 _ _ _ hx).trans rfl; have x1 := (cell_of_row w5 X 1 _ _ _ hx).trans rfl; have x2 := (cell_of_row w5 X 2 _ _ _ hx).trans rfl; have x3 := (cell_of_row w5 X 3 _ _ _ hx).trans rfl; have x4 := (cell_of_row w5 X 4 _ _ _ hx).trans rfl; have xf : ∀ j, w5.frozen? ⟨X, j, none⟩ = false := (fun j => frozen_of_row w5 X _ _ _ hx); have ya := (cell_of_row w5 (X + 1) 0 _ _ _ ha).trans rfl; have yaf : w5.frozen? ⟨X + 1, 0, none⟩ = false := frozen_of_row w5 (X + 1) _ _ _ ha; have ye := (cell_of_row w5 (X + 1 + 1) 0 _ _ _ he).trans rfl; have yef : w5.frozen? ⟨X + 1 + 1, 0, none⟩ = false := frozen_of_row w5 (X + 1 + 1) _ _ _ he; have Hx := Lib.hid hx; have Ha := Lib.hid ha; have He := Lib.hid he; have Hb := Lib.hid hb; have Hf := Lib.hid hfr; have Hn := Lib.hid hnode; clear hx ha he hb hfr hnode; unfold Xm.V5.agg)
    have m5 : Xm.Mv w5 X (((((w5.setCell ⟨X, 0, none⟩ (.string u0)).setCell ⟨X, 1, none⟩ (.string u1)).setCell ⟨X, 2, none⟩ (.slice ua1 un1 uc1)).setCell ⟨X, 3, none⟩ (.slice ua2 un2 uc2)).setCell ⟨X, 4, none⟩ (.string u4)) := Xm.Mv.set5
    have hx2 := setN Hx.out (.string u0) (.string u1) (.slice ua1 un1 uc1) (.slice ua2 un2 uc2) (.string u4)
    generalize ((((w5.setCell ⟨X, 0, none⟩ (.string u0)).setCell ⟨X, 1, none⟩ (.string u1)).setCell ⟨X, 2, none⟩ (.slice ua1 un1 uc1)).setCell ⟨X, 3, none⟩ (.slice ua2 un2 uc2)).setCell ⟨X, 4, none⟩ (.string u4) = w6 at *
    have ha2 := (m5.block (X + 1) (Array.getElem?_eq_some_iff.1 Ha.out).1 (by simp)).trans Ha.out
    have he2 := (m5.block (X + 1 + 1) (Array.getElem?_eq_some_iff.1 He.out).1 (by simp; omega)).trans He.out
    have ma : Xm.Mv w6 (X + 1) (w6.setCell ⟨X + 1, 0, none⟩ (.int .i64 0)) := Xm.Mv.set
    have hx3 := hx2.mv ma (by omega)
    have ha3 : (w6.setCell ⟨X + 1, 0, none⟩ (.int .i64 0)).heap[X + 1]? = some (.cells #[.int .i64 0] 3 (0, 0)) := heap_setCell_same w6 (X + 1) 0 _ _ _ ha2
    have he3 := (ma.block (X + 1 + 1) (Array.getElem?_eq_some_iff.1 he2).1 (by simp)).trans he2
    generalize w6.setCell ⟨X + 1, 0, none⟩ (.int .i64 0) = w7 at *
    have me : Xm.Mv w7 (X + 1 + 1) (w7.setCell ⟨X + 1 + 1, 0, none⟩ (.int .i64 0)) := Xm.Mv.set
    have hx4 := hx3.mv me (by omega)
    have ha4 := (me.block (X + 1) (Array.getElem?_eq_some_iff.1 ha3).1 (by simp)).trans ha3
    have he4 : (w7.setCell ⟨X + 1 + 1, 0, none⟩ (.int .i64 0)).heap[X + 1 + 1]? = some (.cells #[.int .i64 0] 34 (0, 0)) := heap_setCell_same w7 (X + 1 + 1) 0 _ _ _ he3
    generalize w7.setCell ⟨X + 1 + 1, 0, none⟩ (.int .i64 0) = w8 at *
    have s2 := m5.size
    have s3 := ma.size
    have s4 := me.size
    have hX := HX.out
    have h4 := G4.out
    have z4 := h4.size
    have z5 := Hf.out.size
    have zb := LO.out
    have zd := D4.out.lts
    have far : ∀ i, i < w5.heap.size → i ≠ X → i ≠ X + 1 → i ≠ X + 1 + 1 → w8.heap[i]? = w5.heap[i]? := fun i hi h1 h2 h3 => (me.block i (by omega) (by simp; omega)).trans ((ma.block i (by omega) (by simp; omega)).trans (m5.block i hi (by simp; omega)))
    refine leaves_cons (f := 44) (args := #[.pointer (some ⟨X, 0, none⟩), .pointer (some ⟨X + 1, 0, none⟩), .pointer (some ⟨X + 1 + 1, 0, none⟩)]) (by simp) (by simp [go_sem]) ?_
    refine (caught_idle _ _ _ w8).mono ?_
    rintro e u' w9 ⟨rfl, rfl, rfl⟩
    refine ⟨_, parse_res _ w8 X (X + 1) (X + 1 + 1) _ _ _ _ _ _ _ _ _ _ _ rfl rfl rfl hx4 ha4 he4, ?_, ?_⟩
    · exact ⟨me.os.trans (ma.os.trans (m5.os.trans (Hf.out.os.trans h4.os))), me.tape.trans (ma.tape.trans (m5.tape.trans (Hf.out.tape.trans h4.tape))), me.output.trans (ma.output.trans (m5.output.trans (Hf.out.output.trans h4.output))), by omega, fun i hi _ => (far i (by omega) (by omega) (by omega) (by omega)).trans (Hb.out i hi)⟩
    · rw [Hres.out]
      refine ⟨_, rfl, Hn.out.keep (by omega) (fun g hg hlt => far g hlt ?_ ?_ ?_) (fun g hg hlt => ⟨?_, by omega⟩) (fun g hg => hg.2)⟩
      all_goals
        have h1 := hg.1
        have h2 : br < w4.heap.size := zd.2.1
        omega
end Go.Proofs.YtfkdjdmbgednkaaDoor
