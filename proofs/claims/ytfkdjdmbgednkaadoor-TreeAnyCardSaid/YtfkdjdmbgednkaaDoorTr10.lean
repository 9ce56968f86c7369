/- tree: Parse of a text that is none. -/
import Derived.Test.YtfkdjdmbgednkaaDoorTr9
namespace Go.Proofs.YtfkdjdmbgednkaaDoor
open Go.RowKit
namespace Xm
theorem asides_stop {s : ByteArray} {p : P3} (h : p.e ≠ 0) : ∀ n, asides s n p = p
  | 0 => rfl
  | n + 1 => by rw [asides, if_neg (fun hh => h hh.1)]
theorem nextR_stop {s : ByteArray} {p : P3} (h : p.e ≠ 0) : nextR s p = (Pc.zero, p) := by
  unfold nextR
  rw [asides_stop h, if_pos (.inl h)]
end Xm
set_option maxRecDepth 100000 in
set_option maxHeartbeats 4000000 in
theorem doc_bad (s : ByteArray) (hs : s.size ≤ 200000) (b : Xm.Blk) (lv : Value) (st : Xm.P3) (R : List Xm.Bd) (d n : Nat) (w : World) (hrd : Xm.Rd w b s lv st R d n) (hst : st.e ≠ 0) (hsk : st.k ≤ s.size) (hT : Xm.Tab w) (hm : Xm.Max w) (hb1 : 1 < b.c) :
    Calls Tryd.prog 46 #[.pointer (some ⟨b.r, 0, none⟩)] w fun e w' => Xm.Fr b.S w lv w' lv ∧ e = .panicked (Xm.failV st.e st.bad) := by
  have H := Lib.hid hrd
  have HS := Lib.hid (And.intro hst (And.intro hsk hb1))
  have HTB := Lib.hid (And.intro hT hm)
  clear hrd hst hsk hT hm hb1
  obtain ⟨bc, br, bs⟩ := b
  go_enter Tryd.func46, Tryd.ntmps46
  go_wp2_with fail
  have g2 := (Flow.grow_alloc w (.cells #[.string ⟨#[]⟩, .string ⟨#[]⟩, .slice none 0 0, .slice none 0 0, .string ⟨#[]⟩] 47)).trans (Flow.grow_alloc (w.alloc (.cells #[.string ⟨#[]⟩, .string ⟨#[]⟩, .slice none 0 0, .slice none 0 0, .string ⟨#[]⟩] 47)) (.cells #[.string ⟨#[]⟩, .string ⟨#[]⟩, .slice none 0 0, .slice none 0 0, .string ⟨#[]⟩] 47))
  have G2 := Lib.hid g2
  have H2 := Lib.hid (H.out.grow g2)
  clear g2
  obtain ⟨D, hD⟩ : ∃ D, D = w.heap.size := ⟨_, rfl⟩
  rw [← hD]
  clear hD
  generalize ((w.alloc (.cells #[.string ⟨#[]⟩, .string ⟨#[]⟩, .slice none 0 0, .slice none 0 0, .string ⟨#[]⟩] 47)).alloc (.cells #[.string ⟨#[]⟩, .string ⟨#[]⟩, .slice none 0 0, .slice none 0 0, .string ⟨#[]⟩] 47)) = w2 at *
  have Hnx : Hid (Xm.nextR s st = (Xm.Pc.zero, st)) := Lib.hid (Xm.nextR_stop HS.out.1)
  have HNC := Lib.hid (rnext_any ⟨bc, br, bs⟩ s lv st R d n w2 H2.out HS.out.2.1 (by omega) (HTB.out.1.grow G2.out) (HTB.out.2.grow G2.out) HS.out.2.2)
  go_loopw [4] (fun v4 wr => v4 = .bool false ∧ wr = w2) (fun _ _ => 0)
  case atStart => exact ⟨rfl, rfl⟩
  case round =>
    obtain ⟨rfl, rfl⟩ := hrel
    go_wp2_with (go_at_call 68; refine HNC.out.mono ?_; rintro e w5 ⟨hrd, hfr, hif⟩; rw [Hnx.out] at hrd hif; simp only at hrd hif; rw [if_neg HS.out.1] at hif; subst hif)
    exact ⟨rfl, (Xm.Fr.of G2.out).trans hfr, rfl⟩
set_option maxRecDepth 100000 in
set_option maxHeartbeats 2000000 in
theorem parse_bad (s : ByteArray) (hs : s.size ≤ 200000) (st : Xm.P3) (hst : st.e ≠ 0) (hsk : st.k ≤ s.size) (hn : Xm.newT s = st) (w : World) (hT : Xm.Tab w) (hm : Xm.Max w) : Calls Tryd.prog 19 #[.string s] w fun e w' => Flow.Grow w w' ∧ e = .returned (.tuple #[zeroNode, .int .i64 st.bad, .int .i64 st.e]) := by
  have Hst := Lib.hid (And.intro hst hsk)
  clear hst hsk
  have HT := Lib.hid hT
  have HM := Lib.hid hm
  have HN := Lib.hid hn
  clear hT hm hn
  go_enter_defers Tryd.func19, Tryd.ntmps19
  go_upto_region 2 with fail
  have G1 : Hid (Flow.Grow w (((w.alloc (.cells #[.string ⟨#[]⟩, .string ⟨#[]⟩, .slice none 0 0, .slice none 0 0, .string ⟨#[]⟩] 47)).alloc (.cells #[.int .i64 0] 3)).alloc (.cells #[.int .i64 0] 34))) := Lib.hid (((Flow.grow_alloc _ _).trans (Flow.grow_alloc _ _)).trans (Flow.grow_alloc _ _))
  have X1 : Hid (Xm.RowN (((w.alloc (.cells #[.string ⟨#[]⟩, .string ⟨#[]⟩, .slice none 0 0, .slice none 0 0, .string ⟨#[]⟩] 47)).alloc (.cells #[.int .i64 0] 3)).alloc (.cells #[.int .i64 0] 34)) w.heap.size #[.string ⟨#[]⟩, .string ⟨#[]⟩, .slice none 0 0, .slice none 0 0, .string ⟨#[]⟩]) := Lib.hid (Xm.RowN.grow (heap_alloc_new w _) ((Flow.grow_alloc _ _).trans (Flow.grow_alloc _ _)))
  have A1 : Hid ((((w.alloc (.cells #[.string ⟨#[]⟩, .string ⟨#[]⟩, .slice none 0 0, .slice none 0 0, .string ⟨#[]⟩] 47)).alloc (.cells #[.int .i64 0] 3)).alloc (.cells #[.int .i64 0] 34)).heap[w.heap.size + 1]? = some (.cells #[.int .i64 0] 3 (0, 0))) := Lib.hid (by
    have h := heap_alloc_new (w.alloc (.cells #[.string ⟨#[]⟩, .string ⟨#[]⟩, .slice none 0 0, .slice none 0 0, .string ⟨#[]⟩] 47)) (.cells #[.int .i64 0] 3)
    rw [show (w.alloc (.cells #[.string ⟨#[]⟩, .string ⟨#[]⟩, .slice none 0 0, .slice none 0 0, .string ⟨#[]⟩] 47)).heap.size = w.heap.size + 1 by simp] at h
    exact ((Flow.grow_alloc ((w.alloc (.cells #[.string ⟨#[]⟩, .string ⟨#[]⟩, .slice none 0 0, .slice none 0 0, .string ⟨#[]⟩] 47)).alloc (.cells #[.int .i64 0] 3)) (.cells #[.int .i64 0] 34)).block (w.heap.size + 1) (by simp) (by simp)).trans h)
  have E1 : Hid ((((w.alloc (.cells #[.string ⟨#[]⟩, .string ⟨#[]⟩, .slice none 0 0, .slice none 0 0, .string ⟨#[]⟩] 47)).alloc (.cells #[.int .i64 0] 3)).alloc (.cells #[.int .i64 0] 34)).heap[w.heap.size + 1 + 1]? = some (.cells #[.int .i64 0] 34 (0, 0))) := Lib.hid (by
    have h := heap_alloc_new ((w.alloc (.cells #[.string ⟨#[]⟩, .string ⟨#[]⟩, .slice none 0 0, .slice none 0 0, .string ⟨#[]⟩] 47)).alloc (.cells #[.int .i64 0] 3)) (.cells #[.int .i64 0] 34)
    rw [show ((w.alloc (.cells #[.string ⟨#[]⟩, .string ⟨#[]⟩, .slice none 0 0, .slice none 0 0, .string ⟨#[]⟩] 47)).alloc (.cells #[.int .i64 0] 3)).heap.size = w.heap.size + 1 + 1 by simp] at h
    exact h)
  obtain ⟨X, hX⟩ : ∃ X, X = w.heap.size := ⟨_, rfl⟩
  rw [← hX] at X1 A1 E1 ⊢
  have HX := Lib.hid hX
  clear hX
  generalize (((w.alloc (.cells #[.string ⟨#[]⟩, .string ⟨#[]⟩, .slice none 0 0, .slice none 0 0, .string ⟨#[]⟩] 47)).alloc (.cells #[.int .i64 0] 3)).alloc (.cells #[.int .i64 0] 34)) = w1 at *
  go_upto_region 3 with (first | (go_at_call 11; refine (new_T s w1 (by omega)).mono ?_; rintro e w2 ⟨rfl, hs2, hg2⟩; rw [HN.out] at hs2) | (go_at_call 45; refine (snew_any w2).mono ?_; rintro e w3 ⟨lv, rfl, hsp, hg3, hlv⟩))
  have hc3 : Xm.Scs w3 w1.heap.size s st := Xm.Sc.grow hs2 hg3
  have hlt1 : w1.heap.size < w2.heap.size := Xm.Sc.lt hs2
  have hlt2 : w2.heap.size + 1 < w3.heap.size := hsp.blk.lt
  obtain ⟨bc, hbc⟩ : ∃ bc, bc = w1.heap.size := ⟨_, rfl⟩
  obtain ⟨bs, hbs⟩ : ∃ bs, bs = w2.heap.size + 1 := ⟨_, rfl⟩
  rw [← hbc] at hc3 ⊢
  rw [← hbs] at hsp ⊢
  have g4 := Flow.grow_alloc w3 (.cells #[.pointer (some ⟨bc, 0, none⟩), .pointer (some ⟨bs, 0, none⟩), .int .i64 0] 82)
  have D4 : Hid (Xm.Rd (w3.alloc (.cells #[.pointer (some ⟨bc, 0, none⟩), .pointer (some ⟨bs, 0, none⟩), .int .i64 0] 82)) ⟨bc, w3.heap.size, bs⟩ s lv st Xm.newB 0 0) := Lib.hid
    ⟨Xm.Sc.grow hc3 g4, heap_alloc_new _ _, hsp.grow g4, by show bc ≠ w3.heap.size; omega, by show bc ≠ bs; omega, by show w3.heap.size ≠ bs; omega, by rw [hlv]; show some w2.heap.size ≠ some bc; simp; omega, by rw [hlv]; show some w2.heap.size ≠ some w3.heap.size; simp; omega⟩
  have GX : Hid (Flow.Grow w1 (w3.alloc (.cells #[.pointer (some ⟨bc, 0, none⟩), .pointer (some ⟨bs, 0, none⟩), .int .i64 0] 82))) := Lib.hid ((hg2.trans hg3).trans g4)
  have LO : Hid (X + 1 + 1 < bc ∧ bc < bs ∧ bs < w3.heap.size ∧ ∀ g, lv.ownBlock = some g → X + 1 + 1 < g) := Lib.hid (by
    have hE := (Array.getElem?_eq_some_iff.1 E1.out).1
    refine ⟨by omega, by omega, by omega, fun g hg => ?_⟩
    rw [hlv] at hg; cases hg; omega)
  obtain ⟨br, hbr⟩ : ∃ br, br = w3.heap.size := ⟨_, rfl⟩
  rw [← hbr] at D4 LO ⊢
  clear hc3 hlt1 hlt2 hbc hbs hs2 hg2 hg3 hsp hlv g4 hbr
  generalize w3.alloc (.cells #[.pointer (some ⟨bc, 0, none⟩), .pointer (some ⟨bs, 0, none⟩), .int .i64 0] 82) = w4 at *
  clear w3
  have G4 := Lib.hid (G1.out.trans GX.out)
  have hw1 := HT.out.1
  have HDC := Lib.hid (doc_bad s hs ⟨bc, br, bs⟩ lv st Xm.newB 0 0 w4 D4.out Hst.out.1 Hst.out.2 (HT.out.grow G4.out) (HM.out.grow G4.out) (by have := LO.out; have := HX.out; show 1 < bc; omega))
  have nS : ∀ i, i ≤ X + 1 + 1 → ¬ Xm.Blk.S ⟨bc, br, bs⟩ i ∧ lv.ownBlock ≠ some i := fun i hi => by
    have h := LO.out
    refine ⟨fun e => ?_, fun e => by have := h.2.2.2 i e; omega⟩
    rcases e with e | e | e
    · have e : i = bc := e; omega
    · have e : i = br := e; omega
    · have e : i = bs := e; omega
  have HnS := Lib.hid nS
  have rows : ∀ w5 lv5, Xm.Fr (Xm.Blk.S ⟨bc, br, bs⟩) w4 lv w5 lv5 → Xm.RowN w5 X #[.string ⟨#[]⟩, .string ⟨#[]⟩, .slice none 0 0, .slice none 0 0, .string ⟨#[]⟩] ∧ w5.heap[X + 1]? = some (.cells #[.int .i64 0] 3 (0, 0)) ∧ w5.heap[X + 1 + 1]? = some (.cells #[.int .i64 0] 34 (0, 0)) ∧ ∀ i, i < w.heap.size → w5.heap[i]? = w.heap[i]? := by
    intro w5 lv5 f
    have h1 := (X1.out.grow GX.out).fr f (HnS.out X (by omega)).1 (HnS.out X (by omega)).2
    have a4 := (GX.out.block (X + 1) (Array.getElem?_eq_some_iff.1 A1.out).1 (by simp)).trans A1.out
    have e4 := (GX.out.block (X + 1 + 1) (Array.getElem?_eq_some_iff.1 E1.out).1 (by simp)).trans E1.out
    refine ⟨h1, (f.block _ (Array.getElem?_eq_some_iff.1 a4).1 (HnS.out _ (by omega)).1 (HnS.out _ (by omega)).2).trans a4, (f.block _ (Array.getElem?_eq_some_iff.1 e4).1 (HnS.out _ (by omega)).1 (HnS.out _ (by omega)).2).trans e4, fun i hi => ?_⟩
    have hz := G4.out.size
    have := HX.out
    exact (f.block i (by omega) (HnS.out i (by omega)).1 (HnS.out i (by omega)).2).trans (G4.out.block i hi (by simp))
  have Rows := Lib.hid rows
  clear nS rows hw1
  go_wp2_with (go_at_call 46; refine HDC.out.mono ?_; rintro e w5 ⟨hfr, rfl⟩; have lv5 := lv)
  obtain ⟨hx, ha, he, hb⟩ := Rows.out w5 lv hfr
  refine leaves_cons (f := 44) (args := #[.pointer (some ⟨X, 0, none⟩), .pointer (some ⟨X + 1, 0, none⟩), .pointer (some ⟨X + 1 + 1, 0, none⟩)]) (by simp) (by simp [go_sem]) ?_
  refine (caught_fail X (X + 1) (X + 1 + 1) st.e st.bad 0 0 _ _ _ _ _ _ _ _ _ w5 hx ha he (by omega) (by omega) (by omega)).mono ?_
  rintro e u' w6 ⟨rfl, rfl, hc⟩
  refine ⟨_, parse_res _ w6 X (X + 1) (X + 1 + 1) _ _ _ _ _ _ _ _ _ _ _ rfl rfl rfl hc.x hc.a hc.e, ?_, ?_⟩
  · have h4 := G4.out
    have hX := HX.out
    exact ⟨hc.os.trans (hfr.os.trans h4.os), hc.tape.trans (hfr.tape.trans h4.tape), hc.output.trans (hfr.output.trans h4.output), Nat.le_trans h4.size (Nat.le_trans hfr.size hc.size), fun i hi _ => (hc.block i (by have := h4.size; have := hfr.size; omega) (by omega) (by omega) (by omega)).trans (hb i hi)⟩
  · rfl
end Go.Proofs.YtfkdjdmbgednkaaDoor
