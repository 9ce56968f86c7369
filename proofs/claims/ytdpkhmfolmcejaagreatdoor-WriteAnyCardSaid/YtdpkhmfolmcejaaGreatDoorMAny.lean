/- tree: Parse of a text that is none. -/
/- galliardlaw06.TreeAny: the walk. -/
/- What Parse answers, known ahead of the call, with what is known of the element; how deep it is. -/
import Derived.Test.YtdpkhmfolmcejaaGreatDoorMTr
import Derived.Test.YtdpkhmfolmcejaaGreatDoorMTree
import Derived.Test.YtdpkhmfolmcejaaGreatDoorTr11
import Derived.Test.YtdpkhmfolmcejaaGreatDoorMDo
import Derived.Test.YtdpkhmfolmcejaaGreatDoorNear
import Derived.Test.YtdpkhmfolmcejaaGreatDoorMRn
import Derived.Test.YtdpkhmfolmcejaaGreatDoorMWr
import Derived.Deep.DeepCutAuto
import Derived.BigRegion
namespace Go.Proofs.YtdpkhmfolmcejaaGreatDoor
open Go.RowKit
namespace Xm
theorem asides_stop {s : ByteArray} {p : P3} (h : p.e ≠ 0) : ∀ n, asides s n p = p
  | 0 => rfl
  | n + 1 => by rw [asides, if_neg (fun hh => h hh.1)]
theorem nextR_stop {s : ByteArray} {p : P3} (h : p.e ≠ 0) : nextR s p = (Pc.zero, p) := by
  unfold nextR
  rw [asides_stop h, if_pos (.inl h)]
end Xm
set_option maxRecDepth 100000 in
set_option maxHeartbeats 4000000 in
theorem doc_bad (s : ByteArray) (hs : s.size ≤ 200000) (b : Xm.Blk) (lv : Value) (st : Xm.P3) (R : List Xm.Bd) (d n : Nat) (w : World) (hrd : Xm.Rd w b s lv st R d n) (hst : st.e ≠ 0) (hsk : st.k ≤ s.size) (hT : Xm.Tab w) (hm : Xm.Max w) (hb1 : 1 < b.c) :
    Calls Tryz.prog 21 #[.pointer (some ⟨b.r, 0, none⟩)] w fun e w' => Xm.Fr b.S w lv w' lv ∧ e = .panicked (Xm.failV st.e st.bad) := by
  have H := Lib.hid hrd
  have HS := Lib.hid (And.intro hst (And.intro hsk hb1))
  have HTB := Lib.hid (And.intro hT hm)
  clear hrd hst hsk hT hm hb1
  obtain ⟨bc, br, bs⟩ := b
  go_enter Tryz.func21, Tryz.ntmps21
  go_wp2_with fail
  have g2 := (Flow.grow_alloc w (.cells #[.string ⟨#[]⟩, .string ⟨#[]⟩, .slice none 0 0, .slice none 0 0, .string ⟨#[]⟩] 25)).trans (Flow.grow_alloc (w.alloc (.cells #[.string ⟨#[]⟩, .string ⟨#[]⟩, .slice none 0 0, .slice none 0 0, .string ⟨#[]⟩] 25)) (.cells #[.string ⟨#[]⟩, .string ⟨#[]⟩, .slice none 0 0, .slice none 0 0, .string ⟨#[]⟩] 25))
  have G2 := Lib.hid g2
  have H2 := Lib.hid (H.out.grow g2)
  clear g2
  obtain ⟨D, hD⟩ : ∃ D, D = w.heap.size := ⟨_, rfl⟩
  rw [← hD]
  clear hD
  generalize ((w.alloc (.cells #[.string ⟨#[]⟩, .string ⟨#[]⟩, .slice none 0 0, .slice none 0 0, .string ⟨#[]⟩] 25)).alloc (.cells #[.string ⟨#[]⟩, .string ⟨#[]⟩, .slice none 0 0, .slice none 0 0, .string ⟨#[]⟩] 25)) = w2 at *
  have Hnx : Hid (Xm.nextR s st = (Xm.Pc.zero, st)) := Lib.hid (Xm.nextR_stop HS.out.1)
  have HNC := Lib.hid (rnext_any ⟨bc, br, bs⟩ s lv st R d n w2 H2.out HS.out.2.1 (by omega) (HTB.out.1.grow G2.out) (HTB.out.2.grow G2.out) HS.out.2.2)
  go_loopw [4] (fun v4 wr => v4 = .bool false ∧ wr = w2) (fun _ _ => 0)
  case atStart => exact ⟨rfl, rfl⟩
  case round =>
    obtain ⟨rfl, rfl⟩ := hrel
    go_wp2_with (go_at_call 33; refine HNC.out.mono ?_; rintro e w5 ⟨hrd, hfr, hif⟩; rw [Hnx.out] at hrd hif; simp only at hrd hif; rw [if_neg HS.out.1] at hif; subst hif)
    exact ⟨rfl, (Xm.Fr.of G2.out).trans hfr, rfl⟩
set_option maxRecDepth 100000 in
set_option maxHeartbeats 2000000 in
theorem parse_bad (s : ByteArray) (hs : s.size ≤ 200000) (st : Xm.P3) (hst : st.e ≠ 0) (hsk : st.k ≤ s.size) (hn : Xm.newT s = st) (w : World) (hT : Xm.Tab w) (hm : Xm.Max w) : Calls Tryz.prog 7 #[.string s] w fun e w' => Flow.Grow w w' ∧ e = .returned (.tuple #[zeroNode, .int .i64 st.bad, .int .i64 st.e]) := by
  have Hst := Lib.hid (And.intro hst hsk)
  clear hst hsk
  have HT := Lib.hid hT
  have HM := Lib.hid hm
  have HN := Lib.hid hn
  clear hT hm hn
  go_enter_defers Tryz.func7, Tryz.ntmps7
  go_upto_region 2 with fail
  have G1 : Hid (Flow.Grow w (((w.alloc (.cells #[.string ⟨#[]⟩, .string ⟨#[]⟩, .slice none 0 0, .slice none 0 0, .string ⟨#[]⟩] 25)).alloc (.cells #[.int .i64 0] 3)).alloc (.cells #[.int .i64 0] 28))) := Lib.hid (((Flow.grow_alloc _ _).trans (Flow.grow_alloc _ _)).trans (Flow.grow_alloc _ _))
  have X1 : Hid (Xm.RowN (((w.alloc (.cells #[.string ⟨#[]⟩, .string ⟨#[]⟩, .slice none 0 0, .slice none 0 0, .string ⟨#[]⟩] 25)).alloc (.cells #[.int .i64 0] 3)).alloc (.cells #[.int .i64 0] 28)) w.heap.size #[.string ⟨#[]⟩, .string ⟨#[]⟩, .slice none 0 0, .slice none 0 0, .string ⟨#[]⟩]) := Lib.hid (Xm.RowN.grow (heap_alloc_new w _) ((Flow.grow_alloc _ _).trans (Flow.grow_alloc _ _)))
  have A1 : Hid ((((w.alloc (.cells #[.string ⟨#[]⟩, .string ⟨#[]⟩, .slice none 0 0, .slice none 0 0, .string ⟨#[]⟩] 25)).alloc (.cells #[.int .i64 0] 3)).alloc (.cells #[.int .i64 0] 28)).heap[w.heap.size + 1]? = some (.cells #[.int .i64 0] 3 (0, 0))) := Lib.hid (by
    have h := heap_alloc_new (w.alloc (.cells #[.string ⟨#[]⟩, .string ⟨#[]⟩, .slice none 0 0, .slice none 0 0, .string ⟨#[]⟩] 25)) (.cells #[.int .i64 0] 3)
    rw [show (w.alloc (.cells #[.string ⟨#[]⟩, .string ⟨#[]⟩, .slice none 0 0, .slice none 0 0, .string ⟨#[]⟩] 25)).heap.size = w.heap.size + 1 by simp] at h
    exact ((Flow.grow_alloc ((w.alloc (.cells #[.string ⟨#[]⟩, .string ⟨#[]⟩, .slice none 0 0, .slice none 0 0, .string ⟨#[]⟩] 25)).alloc (.cells #[.int .i64 0] 3)) (.cells #[.int .i64 0] 28)).block (w.heap.size + 1) (by simp) (by simp)).trans h)
  have E1 : Hid ((((w.alloc (.cells #[.string ⟨#[]⟩, .string ⟨#[]⟩, .slice none 0 0, .slice none 0 0, .string ⟨#[]⟩] 25)).alloc (.cells #[.int .i64 0] 3)).alloc (.cells #[.int .i64 0] 28)).heap[w.heap.size + 1 + 1]? = some (.cells #[.int .i64 0] 28 (0, 0))) := Lib.hid (by
    have h := heap_alloc_new ((w.alloc (.cells #[.string ⟨#[]⟩, .string ⟨#[]⟩, .slice none 0 0, .slice none 0 0, .string ⟨#[]⟩] 25)).alloc (.cells #[.int .i64 0] 3)) (.cells #[.int .i64 0] 28)
    rw [show ((w.alloc (.cells #[.string ⟨#[]⟩, .string ⟨#[]⟩, .slice none 0 0, .slice none 0 0, .string ⟨#[]⟩] 25)).alloc (.cells #[.int .i64 0] 3)).heap.size = w.heap.size + 1 + 1 by simp] at h
    exact h)
  obtain ⟨X, hX⟩ : ∃ X, X = w.heap.size := ⟨_, rfl⟩
  rw [← hX] at X1 A1 E1 ⊢
  have HX := Lib.hid hX
  clear hX
  generalize (((w.alloc (.cells #[.string ⟨#[]⟩, .string ⟨#[]⟩, .slice none 0 0, .slice none 0 0, .string ⟨#[]⟩] 25)).alloc (.cells #[.int .i64 0] 3)).alloc (.cells #[.int .i64 0] 28)) = w1 at *
  go_upto_region 3 with (first | (go_at_call 19; refine (new_T s w1 (by omega)).mono ?_; rintro e w2 ⟨rfl, hs2, hg2⟩; rw [HN.out] at hs2) | (go_at_call 20; refine (snew_any w2).mono ?_; rintro e w3 ⟨lv, rfl, hsp, hg3, hlv⟩))
  have hc3 : Xm.Scs w3 w1.heap.size s st := Xm.Sc.grow hs2 hg3
  have hlt1 : w1.heap.size < w2.heap.size := Xm.Sc.lt hs2
  have hlt2 : w2.heap.size + 1 < w3.heap.size := hsp.blk.lt
  obtain ⟨bc, hbc⟩ : ∃ bc, bc = w1.heap.size := ⟨_, rfl⟩
  obtain ⟨bs, hbs⟩ : ∃ bs, bs = w2.heap.size + 1 := ⟨_, rfl⟩
  rw [← hbc] at hc3 ⊢
  rw [← hbs] at hsp ⊢
  have g4 := Flow.grow_alloc w3 (.cells #[.pointer (some ⟨bc, 0, none⟩), .pointer (some ⟨bs, 0, none⟩), .int .i64 0] 59)
  have D4 : Hid (Xm.Rd (w3.alloc (.cells #[.pointer (some ⟨bc, 0, none⟩), .pointer (some ⟨bs, 0, none⟩), .int .i64 0] 59)) ⟨bc, w3.heap.size, bs⟩ s lv st Xm.newB 0 0) := Lib.hid
    ⟨Xm.Sc.grow hc3 g4, heap_alloc_new _ _, hsp.grow g4, by show bc ≠ w3.heap.size; omega, by show bc ≠ bs; omega, by show w3.heap.size ≠ bs; omega, by rw [hlv]; show some w2.heap.size ≠ some bc; simp; omega, by rw [hlv]; show some w2.heap.size ≠ some w3.heap.size; simp; omega⟩
  have GX : Hid (Flow.Grow w1 (w3.alloc (.cells #[.pointer (some ⟨bc, 0, none⟩), .pointer (some ⟨bs, 0, none⟩), .int .i64 0] 59))) := Lib.hid ((hg2.trans hg3).trans g4)
  have LO : Hid (X + 1 + 1 < bc ∧ bc < bs ∧ bs < w3.heap.size ∧ ∀ g, lv.ownBlock = some g → X + 1 + 1 < g) := Lib.hid (by
    have hE := (Array.getElem?_eq_some_iff.1 E1.out).1
    refine ⟨by omega, by omega, by omega, fun g hg => ?_⟩
    rw [hlv] at hg; cases hg; omega)
  obtain ⟨br, hbr⟩ : ∃ br, br = w3.heap.size := ⟨_, rfl⟩
  rw [← hbr] at D4 LO ⊢
  clear hc3 hlt1 hlt2 hbc hbs hs2 hg2 hg3 hsp hlv g4 hbr
  generalize w3.alloc (.cells #[.pointer (some ⟨bc, 0, none⟩), .pointer (some ⟨bs, 0, none⟩), .int .i64 0] 59) = w4 at *
  clear w3
  have G4 := Lib.hid (G1.out.trans GX.out)
  have hw1 := HT.out.1
  have HDC := Lib.hid (doc_bad s hs ⟨bc, br, bs⟩ lv st Xm.newB 0 0 w4 D4.out Hst.out.1 Hst.out.2 (HT.out.grow G4.out) (HM.out.grow G4.out) (by have := LO.out; have := HX.out; show 1 < bc; omega))
  have nS : ∀ i, i ≤ X + 1 + 1 → ¬ Xm.Blk.S ⟨bc, br, bs⟩ i ∧ lv.ownBlock ≠ some i := fun i hi => by
    have h := LO.out
    refine ⟨fun e => ?_, fun e => by have := h.2.2.2 i e; omega⟩
    rcases e with e | e | e
    · have e : i = bc := e; omega
    · have e : i = br := e; omega
    · have e : i = bs := e; omega
  have HnS := Lib.hid nS
  have rows : ∀ w5 lv5, Xm.Fr (Xm.Blk.S ⟨bc, br, bs⟩) w4 lv w5 lv5 → Xm.RowN w5 X #[.string ⟨#[]⟩, .string ⟨#[]⟩, .slice none 0 0, .slice none 0 0, .string ⟨#[]⟩] ∧ w5.heap[X + 1]? = some (.cells #[.int .i64 0] 3 (0, 0)) ∧ w5.heap[X + 1 + 1]? = some (.cells #[.int .i64 0] 28 (0, 0)) ∧ ∀ i, i < w.heap.size → w5.heap[i]? = w.heap[i]? := by
    intro w5 lv5 f
    have h1 := (X1.out.grow GX.out).fr f (HnS.out X (by omega)).1 (HnS.out X (by omega)).2
    have a4 := (GX.out.block (X + 1) (Array.getElem?_eq_some_iff.1 A1.out).1 (by simp)).trans A1.out
    have e4 := (GX.out.block (X + 1 + 1) (Array.getElem?_eq_some_iff.1 E1.out).1 (by simp)).trans E1.out
    refine ⟨h1, (f.block _ (Array.getElem?_eq_some_iff.1 a4).1 (HnS.out _ (by omega)).1 (HnS.out _ (by omega)).2).trans a4, (f.block _ (Array.getElem?_eq_some_iff.1 e4).1 (HnS.out _ (by omega)).1 (HnS.out _ (by omega)).2).trans e4, fun i hi => ?_⟩
    have hz := G4.out.size
    have := HX.out
    exact (f.block i (by omega) (HnS.out i (by omega)).1 (HnS.out i (by omega)).2).trans (G4.out.block i hi (by simp))
  have Rows := Lib.hid rows
  clear nS rows hw1
  go_wp2_with (go_at_call 21; refine HDC.out.mono ?_; rintro e w5 ⟨hfr, rfl⟩; have lv5 := lv)
  obtain ⟨hx, ha, he, hb⟩ := Rows.out w5 lv hfr
  refine leaves_cons (f := 18) (args := #[.pointer (some ⟨X, 0, none⟩), .pointer (some ⟨X + 1, 0, none⟩), .pointer (some ⟨X + 1 + 1, 0, none⟩)]) (by simp) (by simp [go_sem]) ?_
  refine (caught_fail X (X + 1) (X + 1 + 1) st.e st.bad 0 0 _ _ _ _ _ _ _ _ _ w5 hx ha he (by omega) (by omega) (by omega)).mono ?_
  rintro e u' w6 ⟨rfl, rfl, hc⟩
  refine ⟨_, parse_res _ w6 X (X + 1) (X + 1 + 1) _ _ _ _ _ _ _ _ _ _ _ rfl rfl rfl hc.x hc.a hc.e, ?_, ?_⟩
  · have h4 := G4.out
    have hX := HX.out
    exact ⟨hc.os.trans (hfr.os.trans h4.os), hc.tape.trans (hfr.tape.trans h4.tape), hc.output.trans (hfr.output.trans h4.output), Nat.le_trans h4.size (Nat.le_trans hfr.size hc.size), fun i hi _ => (hc.block i (by have := h4.size; have := hfr.size; omega) (by omega) (by omega) (by omega)).trans (hb i hi)⟩
  · rfl
end Go.Proofs.YtdpkhmfolmcejaaGreatDoor
namespace Go.Proofs.YtdpkhmfolmcejaaGreatDoor
open Go.RowKit
/-- what Parse answers for a text of few '<', known ahead of the call -/
theorem parse_law (u : ByteArray) (hs : u.size ≤ 200000) (hc : Xm.c60 u 0 ≤ 32) :
    (∃ z1 z2 : Int, Xm.Er u (z1, z2) ∧ ∀ w, Xm.Tab w → Xm.Max w → Calls Tryz.prog 7 #[.string u] w fun e w' => e = .returned (.tuple #[zeroNode, .int .i64 z2, .int .i64 z1]) ∧ Flow.Grow w w') ∨
    ∃ y, Xm.name (Xm.nmN y) = true ∧ Xm.cnt y ≤ 33 ∧ ∀ w, Xm.Tab w → Xm.Max w → Calls Tryz.prog 7 #[.string u] w fun e w' => ∃ v, e = .returned (.tuple #[v, .int .i64 0, .int .i64 0]) ∧ Xm.NodAt (fun _ => True) w' v y ∧ Flow.Grow w w' := by
  by_cases hn : Xm.newT u = ⟨0, 0, 0⟩
  · have hr := Xm.parse_er hc
    cases hz : Xm.parseT u with
    | error z =>
      refine .inl ⟨z.1, z.2, hr.1 z hz, fun w hT hm => (parse_any u hs hn w hT hm).mono ?_⟩
      rintro e w' ⟨hg, hp⟩
      rw [hz] at hp
      exact ⟨hp, hg⟩
    | ok y =>
      refine .inr ⟨y, (hr.2 y hz).1, (hr.2 y hz).2, fun w hT hm => (parse_any u hs hn w hT hm).mono ?_⟩
      rintro e w' ⟨hg, hp⟩
      rw [hz] at hp
      obtain ⟨v, he, hy⟩ := hp
      exact ⟨v, he, hy.grow (Flow.grow_refl _), hg⟩
  · have hl := Xm.newT_law hs
    have hb := Xm.bad_lt u 0
    have he : (Xm.newT u).e ≠ 0 := by
      intro h0
      apply hn
      unfold Xm.newT at h0 ⊢
      rw [if_neg (by omega)] at h0 ⊢
      split
      · rename_i hc
        rw [if_pos hc] at h0
        simp [Xm.wrong, Xm.errOf] at h0
      · rfl
    refine .inl ⟨(Xm.newT u).e, (Xm.newT u).bad, ?_, fun w hT hm => (parse_bad u hs (Xm.newT u) he hl.1.2.1 rfl w hT hm).mono fun e w' h => ⟨h.2, h.1⟩⟩
    rcases hl.1.2.2 with h | ⟨h1, h2, h3⟩
    · exact absurd h he
    · exact ⟨by show (Xm.newT u).e = 2 ∨ _; rcases h1 with h | h | h; exact .inl h; exact .inr (.inl h); exact .inr (.inr (.inr h)), h2, h3⟩
namespace Xm
theorem count_extract (T : ByteArray) (i j : Nat) : (T.extract i j).data.toList.count 60 = ((T.data.toList.take j).drop i).count 60 := by
  rw [ByteArray.data_extract, Array.toList_extract, List.extract_eq_take_drop, List.drop_take]
/-- few '<' in what is made of a text with few -/
theorem mixed_c60 (T s : ByteArray) (k m j n : Nat) (hkj : k ≤ j) (hm : m ≤ 6) (hT : T.data.toList.count 60 ≤ 26) : c60 (T.extract 0 k ++ s.extract 0 m ++ T.extract j n) 0 ≤ 32 := by
  unfold c60
  rw [List.drop_zero, ByteArray.data_append, ByteArray.data_append, Array.toList_append, Array.toList_append, List.count_append, List.count_append, count_extract, count_extract, count_extract, List.drop_zero, List.drop_zero]
  have h1 : ((s.data.toList.take m)).count 60 ≤ 6 := by
    have := List.count_le_length (a := (60 : UInt8)) (l := s.data.toList.take m)
    rw [List.length_take] at this
    omega
  have h2 : ((T.data.toList.take n).drop j).count 60 ≤ (T.data.toList.drop k).count 60 := by
    have g1 : ((T.data.toList.take n).drop j).count 60 ≤ ((T.data.toList).drop j).count 60 := by
      rw [List.drop_take]
      exact (List.take_sublist _ _).count_le 60
    have g2 : ((T.data.toList).drop j).count 60 ≤ (T.data.toList.drop k).count 60 := by
      obtain ⟨d, rfl⟩ : ∃ d, j = k + d := ⟨j - k, by omega⟩
      rw [← List.drop_drop]
      exact (List.drop_sublist d _).count_le 60
    omega
  have h3 : T.data.toList.count 60 = (T.data.toList.take k).count 60 + (T.data.toList.drop k).count 60 := by rw [← List.count_append, List.take_append_drop]
  omega
end Xm
end Go.Proofs.YtdpkhmfolmcejaaGreatDoor
namespace Go.Proofs.YtdpkhmfolmcejaaGreatDoor
open Go.RowKit
namespace Xm
theorem beginT_d {p : Pc} {R : List Bd} {d n : Nat} {x : ByteArray × ByteArray × List (ByteArray × ByteArray)} (h : (beginT p R d n).1 = .ok x) : d < 32 ∧ (beginT p R d n).2.2.1 = d + 1 := by
  unfold beginT at h ⊢
  split
  · rename_i h1; rw [if_pos h1] at h; cases h
  · rename_i h1
    rw [if_neg h1] at h
    split
    · rename_i h2; rw [if_pos h2] at h; cases h
    · rename_i h2
      refine ⟨by omega, ?_⟩
      repeat' split
      all_goals rfl
def kidsN : Nod → List Nod
  | .mk _ _ _ ks _ => ks
def ndp : Option Nod → Nat → Nat
  | none, d => d + 1
  | some _, d => d
theorem goT_dp (s : ByteArray) : ∀ (f : Nat) (o : Option Nod) (p : Pc) (r : Rs), (∀ x, o = some x → depL (kidsN x) + r.d ≤ 32) →
    ∀ y r', goT s f o p r = (.ok y, r') → r'.d = r.d ∧ depL (kidsN y) + ndp o r.d ≤ 32 := by
  intro f
  induction f with
  | zero => intro o p r _ y r' h; unfold goT at h; cases h
  | succ f ih =>
    intro o p r ho y r' h
    cases o with
    | none =>
      rw [goT] at h
      split at h
      · cases h
      · rename_i x R1 d1 n1 hb
        have hd := beginT_d (p := p) (R := r.R) (d := r.d) (n := r.n) (x := x) (by rw [hb])
        rw [hb] at hd
        simp only at hd
        split at h
        · injection h with h1 h2
          injection h1 with h1
          subst h1 h2
          refine ⟨by simp only [leaveR]; omega, ?_⟩
          show 0 + (r.d + 1) ≤ 32
          omega
        · split at h
          rename_i res r2 hg
          injection h with h1 h2
          subst h1 h2
          obtain ⟨i1, i2⟩ := ih (some ⟨x.1, x.2.1, x.2.2, [], ByteArray.empty⟩) p ⟨r.st, R1, d1, n1⟩ (fun z hz => by
            injection hz with hz
            subst hz
            show 0 + d1 ≤ 32
            omega) y r2 hg
          have i1 : r2.d = d1 := i1
          have i2 : depL (kidsN y) + d1 ≤ 32 := i2
          refine ⟨by simp only [leaveR]; omega, ?_⟩
          show depL (kidsN y) + (r.d + 1) ≤ 32
          omega
    | some x =>
      obtain ⟨sp, nm, l, ks, tx⟩ := x
      have h0 : depL ks + r.d ≤ 32 := ho _ rfl
      rw [goT] at h
      split at h
      rename_i q st2 hn
      split at h
      · cases h
      · split at h
        · exact ih (some ⟨sp, nm, l, ks, tx ++ q.text⟩) p ⟨st2, r.R, r.d, r.n⟩ (fun z hz => by injection hz with hz; subst hz; exact h0) y r' h
        · split at h
          · split at h
            · rename_i z r2 hg
              obtain ⟨i1, i2⟩ := ih none q ⟨st2, r.R, r.d, r.n⟩ (fun z hz => by cases hz) z r2 hg
              have i1 : r2.d = r.d := i1
              have hz : depL (ks ++ [z]) + r2.d ≤ 32 := by
                rw [depL_append, depL, depL]
                obtain ⟨a, b, c, e, g⟩ := z
                rw [dep]
                have i2 : depL e + (r.d + 1) ≤ 32 := i2
                omega
              have := ih (some ⟨sp, nm, l, ks ++ [z], tx⟩) p r2 (fun w hw => by injection hw with hw; subst hw; exact hz) y r' h
              rw [i1] at this
              exact this
            · cases h
          · split at h
            · split at h
              · cases h
              · split at h
                · cases h
                · injection h with h1 h2
                  injection h1 with h1
                  subst h1 h2
                  exact ⟨rfl, h0⟩
            · cases h
theorem docT_dp (s : ByteArray) : ∀ (f : Nat) (o : Option Nod) (r : Rs), (o = none → r.d = 0) → (∀ y, o = some y → dep y ≤ 32) → ∀ y, docT s f o r = .ok y → dep y ≤ 32 := by
  intro f
  induction f with
  | zero => intro o r _ _ y h; unfold docT at h; cases h
  | succ f ih =>
    intro o r hR ho y h
    rw [docT] at h
    split at h
    rename_i q st2 hn
    split at h
    · cases h
    · cases o with
      | some z =>
        simp only at h
        split at h
        · have h := Except.ok.inj h
          subst h
          exact ho _ rfl
        · split at h
          · exact ih (some z) _ (fun h => by cases h) ho y h
          · cases h
      | none =>
        simp only at h
        split at h
        · exact ih none ⟨st2, r.R, r.d, r.n⟩ (fun _ => hR rfl) (fun y h => by cases h) y h
        · split at h
          · split at h
            · rename_i z r2 hg
              obtain ⟨_, i2⟩ := goT_dp s (2 * s.size + 2) none q ⟨st2, r.R, r.d, r.n⟩ (fun z hz => by cases hz) z r2 hg
              have i2 : depL (kidsN z) + (r.d + 1) ≤ 32 := i2
              rw [hR rfl] at i2
              refine ih (some z) r2 (fun h => by cases h) (fun w hw => ?_) y h
              injection hw with hw
              subst hw
              obtain ⟨a, b, c, e, g⟩ := z
              rw [dep]
              have i2 : depL e + (0 + 1) ≤ 32 := i2
              omega
            · cases h
          · cases h
theorem parse_dp {s : ByteArray} {y : Nod} (h : parseT s = .ok y) : dep y ≤ 32 := docT_dp s _ none r0 (fun _ => rfl) (fun y h => by cases h) y h
end Xm
/-- what Parse answers for a text of few '<', known ahead of the call -/
theorem parse_law2 (u : ByteArray) (hs : u.size ≤ 200000) (hc : Xm.c60 u 0 ≤ 32) :
    (∃ z1 z2 : Int, Xm.Er u (z1, z2) ∧ ∀ w, Xm.Tab w → Xm.Max w → Calls Tryz.prog 7 #[.string u] w fun e w' => e = .returned (.tuple #[zeroNode, .int .i64 z2, .int .i64 z1]) ∧ Flow.Grow w w') ∨
    ∃ y, Xm.parseT u = .ok y ∧ Xm.NdI y ∧ Xm.dep y ≤ 32 ∧ Xm.cnt y ≤ 33 ∧ ∀ w, Xm.Tab w → Xm.Max w → Calls Tryz.prog 7 #[.string u] w fun e w' => ∃ v, e = .returned (.tuple #[v, .int .i64 0, .int .i64 0]) ∧ Xm.NodAt (fun g => w.heap.size ≤ g ∧ g < w'.heap.size) w' v y ∧ Flow.Grow w w' := by
  by_cases hn : Xm.newT u = ⟨0, 0, 0⟩
  · cases hz : Xm.parseT u with
    | error z =>
      rcases parse_law u hs hc with h | ⟨y, h1, h2, h3⟩
      · exact .inl h
      · refine .inl ⟨z.1, z.2, (Xm.parse_er hc).1 z hz, fun w hT hm => (parse_any u hs hn w hT hm).mono ?_⟩
        rintro e w' ⟨hg, hp⟩
        rw [hz] at hp
        exact ⟨hp, hg⟩
    | ok y =>
      refine .inr ⟨y, rfl, Xm.parse_ni hz, Xm.parse_dp hz, ((Xm.parse_er hc).2 y hz).2, fun w hT hm => (parse_any u hs hn w hT hm).mono ?_⟩
      rintro e w' ⟨hg, hp⟩
      rw [hz] at hp
      obtain ⟨v, he, hy⟩ := hp
      exact ⟨v, he, hy, hg⟩
  · have hl := Xm.newT_law hs
    have hb := Xm.bad_lt u 0
    have he : (Xm.newT u).e ≠ 0 := by
      intro h0
      apply hn
      unfold Xm.newT at h0 ⊢
      rw [if_neg (by omega)] at h0 ⊢
      split
      · rename_i hc
        rw [if_pos hc] at h0
        simp [Xm.wrong, Xm.errOf] at h0
      · rfl
    refine .inl ⟨(Xm.newT u).e, (Xm.newT u).bad, ?_, fun w hT hm => (parse_bad u hs (Xm.newT u) he hl.1.2.1 rfl w hT hm).mono fun e w' h => ⟨h.2, h.1⟩⟩
    rcases hl.1.2.2 with h | ⟨h1, h2, h3⟩
    · exact absurd h he
    · exact ⟨by show (Xm.newT u).e = 2 ∨ _; rcases h1 with h | h | h; exact .inl h; exact .inr (.inl h); exact .inr (.inr (.inr h)), h2, h3⟩
end Go.Proofs.YtdpkhmfolmcejaaGreatDoor
