/- space.Spaces: Enter by its contract. -/
import Derived.Test.YtdpkhmfolmcejaaGreatDoorMSp
import Derived.Deep.AppendLies
import Derived.Deep.RegionLaw
namespace Go.Proofs.YtdpkhmfolmcejaaGreatDoor
open Go.RowKit
namespace Xm
def stopB (p v : ByteArray) : Bool := p.toList == [120, 109, 108] || p.toList == [120, 109, 108, 110, 115] || (!p.toList.isEmpty && v.toList.isEmpty)
/-- into an element with attributes: what is known then, what is wrong, and the attributes that tell of nothing -/
def enterL (d : Nat) : List (ByteArray × ByteArray) → List (ByteArray × ByteArray) → List Bd → List Bd × Int × List (ByteArray × ByteArray)
  | [], o, R => (R, 0, o)
  | a :: l, o, R =>
    if (tellP a.1).2 = true then
      (if stopB (tellP a.1).1 a.2 = true then (R, 3, []) else if 100 ≤ R.length then (R, 5, []) else enterL d l o (((tellP a.1).1, a.2, d) :: R))
    else enterL d l (o ++ [a]) R
/-- two slices that share no row -/
def Two (a b : Value) : Prop := ∀ g, a.ownBlock = some g → b.ownBlock ≠ some g
theorem Two.symm {a b : Value} (h : Two a b) : Two b a := fun g h1 h2 => h g h2 h1
theorem Two.ne {a b : Value} (h : Two a b) : a.ownBlock = none ∨ a.ownBlock ≠ b.ownBlock := by
  cases he : a.ownBlock with
  | none => exact .inl rfl
  | some g => exact .inr (fun e => h g he e.symm)
theorem AttrsAt.fr {S : Nat → Prop} {w w' : World} {lv lv' v : Value} {l : List (ByteArray × ByteArray)} (h : AttrsAt w v l) (f : Fr S w lv w' lv') (hS : ∀ g, v.ownBlock = some g → ¬ S g ∧ lv.ownBlock ≠ some g) : AttrsAt w' v l := by
  rcases h with h | ⟨g, off, cap, rfl, hlc, hcm, hg, hcell⟩
  · exact .inl h
  · obtain ⟨h1, h2⟩ := hS g rfl
    refine .inr ⟨g, off, cap, rfl, hlc, hcm, Nat.lt_of_lt_of_le hg f.size, fun j u hu => ?_⟩
    have := hcell j u hu
    unfold World.cell? at this ⊢
    rw [f.block g hg h1 h2]
    exact this
theorem OwnB.lt {w : World} {lv : Value} {R : List Bd} (h : OwnB w lv R) : ∀ g, lv.ownBlock = some g → g < w.heap.size := by
  intro g hg
  rcases h.2 with ⟨hv, _⟩ | ⟨g', cap, cur, hv, _, hgg, _⟩
  · rw [hv] at hg; cases hg
  · rw [hv] at hg; cases hg; exact (Array.getElem?_eq_some_iff.1 hgg).1
def OwnL (w : World) (v : Value) (l : List (ByteArray × ByteArray)) : Prop := w.ownsRow 0 41 2 v l.length (attrCells l)
theorem OwnL.lt {w : World} {lv : Value} {l : List (ByteArray × ByteArray)} (h : OwnL w lv l) : ∀ g, lv.ownBlock = some g → g < w.heap.size := by
  intro g hg
  rcases h.2 with ⟨hv, _⟩ | ⟨g', cap, cur, hv, _, hgg, _⟩
  · rw [hv] at hg; cases hg
  · rw [hv] at hg; cases hg; exact (Array.getElem?_eq_some_iff.1 hgg).1
theorem OwnL.nil (w : World) : OwnL w (.slice none 0 0) [] := World.ownsRow_nil _ _ _ _
theorem OwnL.at' {w : World} {v : Value} {l : List (ByteArray × ByteArray)} (h : OwnL w v l) : AttrsAt w v l := OwnA.at' (B := 0) h
theorem OwnL.kept {w w' : World} {row : Option Nat} {v : Value} {l : List (ByteArray × ByteArray)} (h : OwnL w v l) (g : w.grownBy w' row) (hr : v.ownBlock = none ∨ v.ownBlock ≠ row) : OwnL w' v l := World.ownsRow.kept h g hr
theorem OwnL.grow {w w' : World} {v : Value} {l : List (ByteArray × ByteArray)} (h : OwnL w v l) (g : Flow.Grow w w') : OwnL w' v l := h.kept (row := none) g (by cases v.ownBlock <;> simp)
theorem Fr.row {S : Nat → Prop} {w w1 w2 : World} {a b : Value} {row : Option Nat} (h : Fr S w a w1 b) (k : w1.grownBy w2 row) (hr : ∀ g, row = some g → w.heap.size ≤ g) : Fr S w a w2 b :=
  ⟨k.os.trans h.os, k.tape.trans h.tape, k.output.trans h.output, Nat.le_trans h.size k.size, fun i hi hS ha => (k.block i (Nat.lt_of_lt_of_le hi h.size) (fun e => by have := hr i e.symm; omega)).trans (h.block i hi hS ha), h.mv⟩
theorem Fr.own {S : Nat → Prop} {w w1 w2 : World} {a b c : Value} (h : Fr S w a w1 b) (k : w1.grownBy w2 b.ownBlock) (m : Moved w1 b c) : Fr S w a w2 c :=
  h.trans ⟨k.os, k.tape, k.output, k.size, fun i hi _ hb => k.block i hi (fun e => hb e.symm), m⟩
theorem Sp.row {w w' : World} {row : Option Nat} {q : Nat} {lv : Value} {R : List Bd} {d : Nat} (h : Sp w q lv R d) (g : w.grownBy w' row) (hq : row ≠ some q) (hl : lv.ownBlock = none ∨ lv.ownBlock ≠ row) : Sp w' q lv R d :=
  ⟨(g.block q h.blk.lt (Ne.symm hq)).trans h.blk, h.own.kept g hl, h.ne⟩
theorem Two.moved {w : World} {a a' b : Value} (h : Two a b) (m : Moved w a a') (hb : ∀ g, b.ownBlock = some g → g < w.heap.size) : Two a' b := by
  intro g hg hbg
  rcases m with e | ⟨g', e, hg'⟩
  · exact h g (e ▸ hg) hbg
  · rw [e] at hg
    cases hg
    have := hb _ hbg
    omega
theorem moved_low {w : World} {a a' : Value} {B : Nat} (m : Moved w a a') (ha : ∀ g, a.ownBlock = some g → B ≤ g) (hB : B ≤ w.heap.size) : ∀ g, a'.ownBlock = some g → B ≤ g := by
  intro g hg
  rcases m with e | ⟨g', e, hg'⟩
  · exact ha g (e ▸ hg)
  · rw [e] at hg; cases hg; omega
theorem OwnL.shape {w : World} {v : Value} {l : List (ByteArray × ByteArray)} (h : OwnL w v l) : ∃ ao cap, v = .slice ao l.length cap := OwnA.shape (B := 0) h
end Xm
theorem info_bind : (Tryz.prog.info? 77).map (fun i => (i.zero, i.size, i.bytes)) = some (some (.agg #[.string ByteArray.empty, .string ByteArray.empty, .int .i64 0]), 3, 40) := by kernel_rfl
/-- a prefix more is known -/
theorem enter_step {q : Nat} {lv : Value} {R' : List Xm.Bd} {d : Nat} {w w3 : World} {a3 oa : Option Addr} {c3 oc : Nat} {o : List (ByteArray × ByteArray)}
    (HS : Xm.Sp w3 q (.slice a3 R'.length c3) R' (d + 1)) (HF : Xm.Fr (· = q) w lv w3 (.slice a3 R'.length c3)) (HO : Xm.OwnL w3 (.slice oa o.length oc) o)
    (HOb : ∀ g, (Value.slice oa o.length oc).ownBlock = some g → w.heap.size ≤ g) (HTw : Xm.Two (.slice oa o.length oc) (.slice a3 R'.length c3)) (hq : q < w.heap.size) (tp v : ByteArray) :
    ∀ wz w4 : World, Flow.Grow w3 wz → ∀ g4 c4 : Nat, w4.ownsRow 0 77 3 (.slice (some ⟨g4, 0, none⟩) (R'.length + 1) c4) (R'.length + 1) (Xm.bdCells R'.reverse ++ [.string tp, .string v, .int .i64 ((d + 1 : Nat) : Int)]) →
      wz.grownBy w4 (Value.slice a3 R'.length c3).ownBlock → ((Value.slice a3 R'.length c3).ownBlock = some g4 ∨ w3.heap.size ≤ g4) →
      Xm.Sp (w4.setCell ⟨q, 0, none⟩ (.slice (some ⟨g4, 0, none⟩) (R'.length + 1) c4)) q (.slice (some ⟨g4, 0, none⟩) (R'.length + 1) c4) ((tp, v, d + 1) :: R') (d + 1) ∧
      Xm.Fr (· = q) w lv (w4.setCell ⟨q, 0, none⟩ (.slice (some ⟨g4, 0, none⟩) (R'.length + 1) c4)) (.slice (some ⟨g4, 0, none⟩) (R'.length + 1) c4) ∧
      Xm.OwnL (w4.setCell ⟨q, 0, none⟩ (.slice (some ⟨g4, 0, none⟩) (R'.length + 1) c4)) (.slice oa o.length oc) o ∧ Xm.Two (.slice oa o.length oc) (.slice (some ⟨g4, 0, none⟩) (R'.length + 1) c4) := by
  intro wz w4 gz g4 c4 hown hgrow hat
  have h1 := HS.grow gz
  have hm : Moved w3 (.slice a3 R'.length c3) (.slice (some ⟨g4, 0, none⟩) (R'.length + 1) c4) := hat.imp (fun h => h.symm) (fun h => ⟨g4, rfl, h⟩)
  have hrow : Xm.Row2 w4 q (.slice a3 R'.length c3) ((d + 1 : Nat) : Int) := (hgrow.block q h1.blk.lt (Ne.symm HS.ne)).trans h1.blk
  have hne : g4 ≠ q := by
    rintro rfl
    rcases hat with h | h
    · exact HS.ne h
    · have := HS.blk.lt; omega
  have hownB : Xm.OwnB w4 (.slice (some ⟨g4, 0, none⟩) (R'.length + 1) c4) ((tp, v, d + 1) :: R') := by
    unfold Xm.OwnB
    rw [List.length_cons, List.reverse_cons, Xm.bdCells_append]
    exact hown
  have ho4 : Xm.OwnL w4 (.slice oa o.length oc) o := (HO.grow gz).kept hgrow HTw.ne
  have hoq : (Value.slice oa o.length oc).ownBlock ≠ some q := fun h => by have := HOb q h; omega
  refine ⟨⟨hrow.set0, hownB.set (by show some g4 ≠ some q; simpa using hne), by show some g4 ≠ some q; simpa using hne⟩, ?_, ho4.kept (row := some q) Xm.Mv.set (.inr hoq), ?_⟩
  · have hf : Xm.Fr (· = q) w lv w4 (.slice (some ⟨g4, 0, none⟩) (R'.length + 1) c4) := HF.trans ⟨hgrow.os.trans gz.os, hgrow.tape.trans gz.tape, hgrow.output.trans gz.output, Nat.le_trans gz.size hgrow.size, fun i hi _ hb => (hgrow.block i (Nat.lt_of_lt_of_le hi gz.size) (fun e => hb e.symm)).trans (gz.block i hi (by simp)), hm⟩
    exact hf.setIn rfl
  · exact (HTw.symm.moved hm HO.lt).symm
/-- what came of Enter -/
def EnterPost (q : Nat) (lv : Value) (R : List Xm.Bd) (d : Nat) (l : List (ByteArray × ByteArray)) (w : World) (e : Ending) (w' : World) : Prop :=
  ∃ lv' ov, e = .returned (.tuple #[ov, .int .i64 (Xm.enterL (d + 1) l [] R).2.1]) ∧ Xm.Sp w' q lv' (Xm.enterL (d + 1) l [] R).1 (d + 1) ∧ Xm.Fr (· = q) w lv w' lv' ∧ Xm.AttrsAt w' ov (Xm.enterL (d + 1) l [] R).2.2 ∧
    (∀ g, ov.ownBlock = some g → w.heap.size ≤ g) ∧ Xm.Two ov lv'
set_option maxRecDepth 100000 in
set_option maxHeartbeats 4000000 in
theorem enter_any (q : Nat) (lv av : Value) (R : List Xm.Bd) (d : Nat) (l : List (ByteArray × ByteArray)) (w : World) (h : Xm.Sp w q lv R d) (ha : Xm.AttrsAt w av l) (hav : ∀ g, av.ownBlock = some g → g ≠ q ∧ lv.ownBlock ≠ some g)
    (hd : d ≤ 1000000) (hR : R.length ≤ 1000) (hl : l.length ≤ 1000000) :
    Calls Tryz.prog 75 #[.pointer (some ⟨q, 0, none⟩), av] w (EnterPost q lv R d l w) := by
  have c1 := h.blk.c1
  have f1 := h.blk.fz 1
  have H := Lib.hid h
  have HA := Lib.hid ha
  have HV := Lib.hid hav
  obtain ⟨ao, cap, hv⟩ := ha.shape
  subst hv
  clear h ha hav
  have e1 : IntKind.i64.wrap ((d : Int) + 1) = (d : Int) + 1 := IntWalk.i64_in _ (by omega)
  go_enter Tryz.func75, Tryz.ntmps75
  go_wp2_with fail
  have HS1 : Hid (Xm.Sp (w.setCell ⟨q, 1, none⟩ (.int .i64 ((d : Int) + 1))) q lv R (d + 1)) := Lib.hid ⟨by have := H.out.blk.set1 (e := (d : Int) + 1); simpa using this, H.out.own.set H.out.ne, H.out.ne⟩
  have HF1 : Hid (Xm.Fr (· = q) w lv (w.setCell ⟨q, 1, none⟩ (.int .i64 ((d : Int) + 1))) lv) := Lib.hid ((Xm.Fr.refl _ _ _).setIn rfl)
  generalize w.setCell ⟨q, 1, none⟩ (.int .i64 ((d : Int) + 1)) = w1 at *
  clear c1 f1 e1
  go_loopw [6, 22] (fun v6 v22 wr => ∃ (k : Nat) (o : List (ByteArray × ByteArray)) (R' : List Xm.Bd) (lv' : Value) (oa : Option Addr) (oc : Nat), v6 = .slice oa o.length oc ∧ v22 = .int .i64 k ∧ k ≤ l.length ∧ o.length ≤ k ∧ R'.length ≤ 1000 ∧
    Hid (Xm.Sp wr q lv' R' (d + 1)) ∧ Hid (Xm.Fr (· = q) w lv wr lv') ∧ Hid (Xm.OwnL wr (.slice oa o.length oc) o) ∧ Hid (∀ g, (Value.slice oa o.length oc).ownBlock = some g → w.heap.size ≤ g) ∧ Hid (Xm.Two (.slice oa o.length oc) lv') ∧
    Hid (Xm.enterL (d + 1) l [] R = Xm.enterL (d + 1) (l.drop k) o R')) (fun _ v22 _ => l.length - (intOf v22).toNat)
  case atStart => exact ⟨0, [], R, lv, none, 0, rfl, rfl, Nat.zero_le _, Nat.le_refl _, hR, HS1, HF1, Lib.hid (Xm.OwnL.nil _), Lib.hid (by intro g hg; cases hg), Lib.hid (by intro g hg; cases hg), Lib.hid rfl⟩
  case round =>
    obtain ⟨k, o, R', lv', oa, oc, rfl, rfl, hk, ho, hR', HS, HF, HO, HOb, HTw, HE⟩ := hrel
    rename World => wr
    by_cases hlt : k < l.length
    rotate_left
    · have HE2 : Hid (Xm.enterL (d + 1) l [] R = (R', 0, o)) := Lib.hid (by rw [HE.out, List.drop_eq_nil_of_le (by omega)]; rfl)
      have g1 : ¬ ((k : Int) < (l.length : Int)) := by omega
      have g2 : decide ((k : Int) < (l.length : Int)) = false := decide_eq_false g1
      go_wp2
      go_ret2
      exact ⟨lv', .slice oa o.length oc, by rw [HE2.out]; rfl, by rw [HE2.out]; exact HS.out, HF.out, by rw [HE2.out]; exact HO.out.at', HOb.out, HTw.out⟩
    have hat := HA.out.fr HF.out (fun g hg => ⟨(HV.out g hg).1, (HV.out g hg).2⟩)
    rcases hat with ⟨_, h0⟩ | ⟨g, off, cap', hvv, hlc, hcm, hg, hcell⟩
    · rw [h0] at hlt; simp at hlt
    cases hvv
    obtain ⟨⟨n, v⟩, hn⟩ : ∃ a, l[k]? = some a := ⟨l[k], List.getElem?_eq_getElem hlt⟩
    have hcs := Xm.attrCells_get l k _ hn
    have q0 := hcell _ _ hcs.1
    have q1 := hcell _ _ hcs.2
    rw [← Nat.add_assoc] at q1
    have HD : Hid (l.drop k = (n, v) :: l.drop (k + 1)) := Lib.hid (by
      rw [List.drop_eq_getElem_cons hlt]
      congr 1
      have := List.getElem?_eq_getElem hlt
      rw [hn] at this
      exact (Option.some.inj this).symm)
    clear hcs hcell hn
    have g1 : (k : Int) < (l.length : Int) := by omega
    have g3 : ¬ (l.length : Int) ≤ (k : Int) := by omega
    obtain ⟨tp, tb, ht⟩ : ∃ tp tb, (tp, tb) = Xm.tellP n := ⟨_, _, rfl⟩
    have HTe := Lib.hid ht
    clear ht
    go_upto_region 8 with fail
    have HG1 : Hid (Flow.Grow wr (wr.alloc (.cells #[.string n, .string v] 41))) := Lib.hid (Flow.grow_alloc _ _)
    have HT1 : Hid ((wr.alloc (.cells #[.string n, .string v] 41)).heap[wr.heap.size]? = some (.cells #[.string n, .string v] 41 (0, 0))) := Lib.hid (heap_alloc_new _ _)
    obtain ⟨T, hT⟩ : ∃ T, T = wr.heap.size := ⟨_, rfl⟩
    rw [← hT] at HT1 ⊢
    have HTw2 := Lib.hid hT
    clear hT
    generalize wr.alloc (.cells #[.string n, .string v] 41) = w2 at *
    have t0 := (cell_of_row w2 T 0 _ _ _ HT1.out).trans rfl
    have t1 := (cell_of_row w2 T 1 _ _ _ HT1.out).trans rfl
    clear q0 q1
    obtain ⟨i0, hi, hz0, hz1, hz2⟩ := info_parts info_attr
    obtain ⟨i1, hi1, hw0, hw1, hw2⟩ := info_parts info_bind
    have HI := Lib.hid (And.intro hi (And.intro hz0 (And.intro hz1 hz2)))
    have HJ := Lib.hid (And.intro hi1 (And.intro hw0 (And.intro hw1 hw2)))
    clear hi hz0 hz1 hz2 hi1 hw0 hw1 hw2
    cases tb
    · have HE2 : Hid (Xm.enterL (d + 1) l [] R = Xm.enterL (d + 1) (l.drop (k + 1)) (o ++ [(n, v)]) R') := Lib.hid (by rw [HE.out, HD.out, Xm.enterL, ← HTe.out]; rfl)
      go_upto_region 11 with (go_at_call 90; refine (tells_any n v w2).mono ?_; rintro e w3 ⟨rfl, hg3⟩; rw [← HTe.out])
      have HG3 := Lib.hid (HG1.out.trans hg3)
      have HT3 : Hid (w3.heap[T]? = some (.cells #[.string n, .string v] 41 (0, 0))) := Lib.hid ((hg3.block T (Array.getElem?_eq_some_iff.1 HT1.out).1 (by simp)).trans HT1.out)
      have t0' := (cell_of_row w3 T 0 _ _ _ HT3.out).trans rfl
      have t1' := (cell_of_row w3 T 1 _ _ _ HT3.out).trans rfl
      have HS3 := Lib.hid (HS.out.grow HG3.out)
      have HF3 := Lib.hid (HF.out.trans (Xm.Fr.of (S := (· = q)) HG3.out))
      have HO3 := Lib.hid (HO.out.grow HG3.out)
      clear t0 t1 hg3 HG3 HG1 HT1 HT3 HS HF HO
      go_wp2_with (at_builtin; refine wpList_append_put _ rfl _ _ 22 rfl 41 i0 (.agg #[.string ByteArray.empty, .string ByteArray.empty]) 2 32 Tryz.underlying22 HI.out.1 HI.out.2.1 HI.out.2.2.1 HI.out.2.2.2 rfl (by decide) _ _ _ rfl (HO3.out.alloc _) (some ⟨w3.heap.size, 0, none⟩) 1 1 [.string n, .string v] rfl rfl (by simp) ?c1a ?c2a ?c3a ?c4a ?_)
      case c1a =>
        intro ad had j u hj
        cases had
        match j, hj with
        | 0, hj => simp at hj; subst hj; simp [Addr.add]
        | 1, hj => simp at hj; subst hj; simp [Addr.add]
      case c2a => intro u hu; simp at hu; rcases hu with rfl | rfl <;> rfl
      case c3a => unfold maxLen; omega
      case c4a => omega
      intro v' w4 hown' hgrow hmv _
      have hga := Flow.grow_alloc w3 (.cells #[.string n, .string v] 41)
      have hqw : q < w.heap.size := H.out.blk.lt
      have hwz : w.heap.size ≤ w3.heap.size := HF3.out.size
      have HS4 : Hid (Xm.Sp w4 q lv' R' (d + 1)) := Lib.hid ((HS3.out.grow hga).row hgrow (fun e => by have := HOb.out q e; omega) HTw.out.symm.ne)
      have HF4 : Hid (Xm.Fr (· = q) w lv w4 lv') := Lib.hid ((HF3.out.trans (Xm.Fr.of hga)).row hgrow HOb.out)
      have HO4 : Hid (Xm.OwnL w4 v' (o ++ [(n, v)])) := Lib.hid (by
        unfold Xm.OwnL
        rw [Xm.attrCells_append, List.length_append]
        exact hown')
      have HOb4 : Hid (∀ g, v'.ownBlock = some g → w.heap.size ≤ g) := Lib.hid (Xm.moved_low hmv HOb.out (Nat.le_trans hwz hga.size))
      have HTw4 : Hid (Xm.Two v' lv') := Lib.hid (HTw.out.moved hmv (fun g hg => Nat.lt_of_lt_of_le (HS3.out.own.lt g hg) hga.size))
      obtain ⟨ao', cap', hv'⟩ := HO4.out.shape
      subst hv'
      have hlen : (o ++ [(n, v)]).length ≤ k + 1 := by rw [List.length_append, List.length_singleton]; omega
      clear hga hqw hwz hown' hgrow hmv HS3 HF3 HO3 t0' t1' HOb HTw HI HJ
      have ek : IntKind.i64.wrap ((k : Int) + 1) = (k : Int) + 1 := IntWalk.i64_in _ (by omega)
      go_wp2
      go_roundw
      case rel => exact ⟨k + 1, o ++ [(n, v)], R', lv', ao', cap', rfl, rfl, by omega, hlen, hR', HS4, HF4, HO4, HOb4, HTw4, HE2⟩
      case measure => simp only [intOf]; omega
    · go_upto_region 12 with (go_at_call 90; refine (tells_any n v w2).mono ?_; rintro e w3 ⟨rfl, hg3⟩; rw [← HTe.out])
      have HG3 := Lib.hid (HG1.out.trans hg3)
      have HT3 : Hid (w3.heap[T]? = some (.cells #[.string n, .string v] 41 (0, 0))) := Lib.hid ((hg3.block T (Array.getElem?_eq_some_iff.1 HT1.out).1 (by simp)).trans HT1.out)
      have t0' := (cell_of_row w3 T 0 _ _ _ HT3.out).trans rfl
      have t1' := (cell_of_row w3 T 1 _ _ _ HT3.out).trans rfl
      have HTq : Hid (T ≠ q ∧ lv'.ownBlock ≠ some T) := Lib.hid ⟨fun e => by have := HS.out.blk.lt; have := HTw2.out; omega, fun e => by have := HS.out.own.lt T e; have := HTw2.out; omega⟩
      have HS3 := Lib.hid (HS.out.grow HG3.out)
      have HF3 := Lib.hid (HF.out.trans (Xm.Fr.of (S := (· = q)) HG3.out))
      have HO3 := Lib.hid (HO.out.grow HG3.out)
      clear t0 t1 hg3 HG3 HG1 HT1 HS HF HO
      have stop : Xm.stopB tp v = true → Hid (Xm.enterL (d + 1) l [] R = (R', 3, [])) := fun hst => Lib.hid (by rw [HE.out, HD.out, Xm.enterL, ← HTe.out]; simp only [hst]; rfl)
      have post : ∀ wz ov, ov = .slice none 0 0 → ∀ (z : Int), wz = w3 → Hid (Xm.enterL (d + 1) l [] R = (R', z, [])) → EnterPost q lv R d l w (.returned (.tuple #[ov, .int .i64 z])) wz := by
        rintro wz ov rfl z rfl he
        exact ⟨lv', .slice none 0 0, by rw [he.out], by rw [he.out]; exact HS3.out, HF3.out, by rw [he.out]; exact .inl ⟨rfl, rfl⟩, (by intro g hg; cases hg), (by intro g hg; cases hg)⟩
      have Stop := Lib.hid stop
      have Post := Lib.hid post
      clear stop post
      cases hc1 : (tp.toList == [120, 109, 108])
      rotate_left
      · have HE2 := Stop.out (by simp [Xm.stopB, hc1])
        go_wp2
        go_ret2
        exact Post.out _ _ rfl _ rfl HE2
      cases hc2 : (tp.toList == [120, 109, 108, 110, 115])
      rotate_left
      · have HE2 := Stop.out (by simp [Xm.stopB, hc2])
        go_wp2
        go_ret2
        exact Post.out _ _ rfl _ rfl HE2
      by_cases hp0 : tp.size = 0
      · have hE := Xm.emp_t hp0
        have hst : Hid (Xm.stopB tp v = false) := Lib.hid (by simp [Xm.stopB, hE])
        clear Stop hp0
        obtain ⟨a3, c3, hv3⟩ := HS3.out.own.shape
        subst hv3
        have c0 := HS3.out.blk.c0
        have c1 := HS3.out.blk.c1
        have f0 := HS3.out.blk.fz 0
        by_cases h100 : 100 ≤ R'.length
        · have h100' : (100 : Int) ≤ (R'.length : Int) := by omega
          have hd100 : decide ((100 : Int) ≤ (R'.length : Int)) = true := decide_eq_true h100'
          have HE2 : Hid (Xm.enterL (d + 1) l [] R = (R', 5, [])) := Lib.hid (by rw [HE.out, HD.out, Xm.enterL, ← HTe.out]; simp only [hst.out, if_pos h100]; rfl)
          go_wp2
          go_ret2
          exact Post.out _ _ rfl _ rfl HE2
        · have h100' : ¬ (100 : Int) ≤ (R'.length : Int) := by omega
          have hd100 : decide ((100 : Int) ≤ (R'.length : Int)) = false := decide_eq_false h100'
          have HE2 : Hid (Xm.enterL (d + 1) l [] R = Xm.enterL (d + 1) (l.drop (k + 1)) o ((tp, v, d + 1) :: R')) := Lib.hid (by rw [HE.out, HD.out, Xm.enterL, ← HTe.out]; simp only [hst.out, if_neg h100]; rfl)
          clear Post
          go_upto_region 9 with fail
          have hown : w3.ownsRow 0 77 3 (.slice a3 R'.length c3) R'.length (Xm.bdCells R'.reverse) := HS3.out.own
          have Hown := Lib.hid hown
          clear hown
          have ek : IntKind.i64.wrap ((k : Int) + 1) = (k : Int) + 1 := IntWalk.i64_in _ (by omega)
          have hgr : ∀ wz : World, Flow.Grow w3 wz → wz.ownsRow 0 77 3 (.slice a3 R'.length c3) R'.length (Xm.bdCells R'.reverse) := fun wz g => (HS3.out.grow g).own
          have Hgr := Lib.hid hgr
          have hq4 : ∀ wz wy : World, Flow.Grow w3 wz → wz.grownBy wy (Value.slice a3 R'.length c3).ownBlock → Xm.Row2 wy q (.slice a3 R'.length c3) ((d + 1 : Nat) : Int) := fun wz wy g k => by
            have h1 := (HS3.out.grow g).blk
            exact (k.block q h1.lt (Ne.symm HS3.out.ne)).trans h1
          have Hq4 := Lib.hid hq4
          have Fin := enter_step HS3.out HF3.out HO3.out HOb.out HTw.out H.out.blk.lt tp v
          have HFin := Lib.hid Fin
          have hcq : ∀ x, (w3.alloc x).cell? ⟨q, 0, none⟩ = some (.slice a3 R'.length c3) := fun x => (HS3.out.grow (Flow.grow_alloc w3 x)).blk.c0
          have Hnx := Lib.hid (show _ ∧ _ ∧ _ ∧ _ from ⟨HE2.out, hlt, ho, Nat.le_of_not_le h100⟩)
          clear hgr hq4 Fin Hown HO3 HT3 HE HE2 HTw HTq HF3 HA HV HD HTe H HS1 HF1 hst hE hc1 hc2 h100 hd100
          go_region_law (
            refine step_append_lies _ rfl _ _ 78 rfl 0 77 i1 (.agg #[.string ByteArray.empty, .string ByteArray.empty, .int .i64 0]) 3 40 Tryz.underlying78 HJ.out.1 HJ.out.2.1 HJ.out.2.2.1 HJ.out.2.2.2 rfl (by decide) _ _ _ rfl (Hgr.out _ (by first | exact (Flow.grow_alloc _ _).trans (Flow.grow_drew _) | exact (Flow.grow_drew _).trans (Flow.grow_alloc _ _))) ⟨w3.heap.size, 0, none⟩ 1 1 [.string tp, .string v, .int .i64 ((d + 1 : Nat) : Int)] rfl rfl (by intro j u hj; match j, hj with | 0, hj => (simp at hj; subst hj; simp [Addr.add]) | 1, hj => (simp at hj; subst hj; simp [Addr.add]) | 2, hj => (simp at hj; subst hj; simp [Addr.add])) (by intro u hu; simp at hu; rcases hu with rfl | rfl | rfl <;> rfl) (by decide) (by unfold maxLen; omega) (by omega) (Nat.zero_le _) _ rfl ?_;
            intro g4 c4 w4 hown4 hgrow4 hat4 hlt4;
            have Hq5 := Lib.hid (Hq4.out _ w4 (by first | exact (Flow.grow_alloc _ _).trans (Flow.grow_drew _) | exact (Flow.grow_drew _).trans (Flow.grow_alloc _ _)) hgrow4);
            have c40 := Hq5.out.c0;
            have f40 := Hq5.out.fz 0;
            have Hend := Lib.hid (HFin.out _ w4 (by first | exact (Flow.grow_alloc _ _).trans (Flow.grow_drew _) | exact (Flow.grow_drew _).trans (Flow.grow_alloc _ _)) g4 c4 hown4 hgrow4 (hat4.imp_right fun h => by rw [h]; simp));
            clear hown4 hgrow4 hat4 hlt4)
          all_goals
            go_wp2
            go_roundw
            case rel => exact ⟨k + 1, o, (tp, v, d + 1) :: R', .slice (some ⟨g4, 0, none⟩) (R'.length + 1) c4, oa, oc, rfl, rfl, by omega, by omega, by have := Hnx.out.2.2.2; rw [List.length_cons]; omega, Lib.hid Hend.out.1, Lib.hid Hend.out.2.1, Lib.hid Hend.out.2.2.1, HOb, Lib.hid Hend.out.2.2.2, Lib.hid Hnx.out.1⟩
            case measure => simp only [intOf]; omega
      · have hE := Xm.emp_f hp0
        by_cases hv0 : v.size = 0
        · have hE2 := Xm.emp_t hv0
          have HE2 := Stop.out (by simp [Xm.stopB, hE, hE2])
          clear hp0 hv0
          go_wp2
          go_ret2
          exact Post.out _ _ rfl _ rfl HE2
        · have hE2 := Xm.emp_f hv0
          have hst : Hid (Xm.stopB tp v = false) := Lib.hid (by simp only [Xm.stopB, hc1, hc2, hE, hE2]; rfl)
          clear Stop hp0 hv0
          obtain ⟨a3, c3, hv3⟩ := HS3.out.own.shape
          subst hv3
          have c0 := HS3.out.blk.c0
          have c1 := HS3.out.blk.c1
          have f0 := HS3.out.blk.fz 0
          by_cases h100 : 100 ≤ R'.length
          · have h100' : (100 : Int) ≤ (R'.length : Int) := by omega
            have hd100 : decide ((100 : Int) ≤ (R'.length : Int)) = true := decide_eq_true h100'
            have HE2 : Hid (Xm.enterL (d + 1) l [] R = (R', 5, [])) := Lib.hid (by rw [HE.out, HD.out, Xm.enterL, ← HTe.out]; simp only [hst.out, if_pos h100]; rfl)
            go_wp2
            go_ret2
            exact Post.out _ _ rfl _ rfl HE2
          · have h100' : ¬ (100 : Int) ≤ (R'.length : Int) := by omega
            have hd100 : decide ((100 : Int) ≤ (R'.length : Int)) = false := decide_eq_false h100'
            have HE2 : Hid (Xm.enterL (d + 1) l [] R = Xm.enterL (d + 1) (l.drop (k + 1)) o ((tp, v, d + 1) :: R')) := Lib.hid (by rw [HE.out, HD.out, Xm.enterL, ← HTe.out]; simp only [hst.out, if_neg h100]; rfl)
            clear Post
            go_upto_region 9 with fail
            have hown : w3.ownsRow 0 77 3 (.slice a3 R'.length c3) R'.length (Xm.bdCells R'.reverse) := HS3.out.own
            have Hown := Lib.hid hown
            clear hown
            have ek : IntKind.i64.wrap ((k : Int) + 1) = (k : Int) + 1 := IntWalk.i64_in _ (by omega)
            have hgr : ∀ wz : World, Flow.Grow w3 wz → wz.ownsRow 0 77 3 (.slice a3 R'.length c3) R'.length (Xm.bdCells R'.reverse) := fun wz g => (HS3.out.grow g).own
            have Hgr := Lib.hid hgr
            have hq4 : ∀ wz wy : World, Flow.Grow w3 wz → wz.grownBy wy (Value.slice a3 R'.length c3).ownBlock → Xm.Row2 wy q (.slice a3 R'.length c3) ((d + 1 : Nat) : Int) := fun wz wy g k => by
              have h1 := (HS3.out.grow g).blk
              exact (k.block q h1.lt (Ne.symm HS3.out.ne)).trans h1
            have Hq4 := Lib.hid hq4
            have Fin := enter_step HS3.out HF3.out HO3.out HOb.out HTw.out H.out.blk.lt tp v
            have HFin := Lib.hid Fin
            have hcq : ∀ x, (w3.alloc x).cell? ⟨q, 0, none⟩ = some (.slice a3 R'.length c3) := fun x => (HS3.out.grow (Flow.grow_alloc w3 x)).blk.c0
            have Hnx := Lib.hid (show _ ∧ _ ∧ _ ∧ _ from ⟨HE2.out, hlt, ho, Nat.le_of_not_le h100⟩)
            clear hgr hq4 Fin Hown HO3 HT3 HE HE2 HTw HTq HF3 HA HV HD HTe H HS1 HF1 hst hE hc1 hc2 h100 hd100
            go_region_law (
              refine step_append_lies _ rfl _ _ 78 rfl 0 77 i1 (.agg #[.string ByteArray.empty, .string ByteArray.empty, .int .i64 0]) 3 40 Tryz.underlying78 HJ.out.1 HJ.out.2.1 HJ.out.2.2.1 HJ.out.2.2.2 rfl (by decide) _ _ _ rfl (Hgr.out _ (by first | exact (Flow.grow_alloc _ _).trans (Flow.grow_drew _) | exact (Flow.grow_drew _).trans (Flow.grow_alloc _ _))) ⟨w3.heap.size, 0, none⟩ 1 1 [.string tp, .string v, .int .i64 ((d + 1 : Nat) : Int)] rfl rfl (by intro j u hj; match j, hj with | 0, hj => (simp at hj; subst hj; simp [Addr.add]) | 1, hj => (simp at hj; subst hj; simp [Addr.add]) | 2, hj => (simp at hj; subst hj; simp [Addr.add])) (by intro u hu; simp at hu; rcases hu with rfl | rfl | rfl <;> rfl) (by decide) (by unfold maxLen; omega) (by omega) (Nat.zero_le _) _ rfl ?_;
              intro g4 c4 w4 hown4 hgrow4 hat4 hlt4;
              have Hq5 := Lib.hid (Hq4.out _ w4 (by first | exact (Flow.grow_alloc _ _).trans (Flow.grow_drew _) | exact (Flow.grow_drew _).trans (Flow.grow_alloc _ _)) hgrow4);
              have c40 := Hq5.out.c0;
              have f40 := Hq5.out.fz 0;
              have Hend := Lib.hid (HFin.out _ w4 (by first | exact (Flow.grow_alloc _ _).trans (Flow.grow_drew _) | exact (Flow.grow_drew _).trans (Flow.grow_alloc _ _)) g4 c4 hown4 hgrow4 (hat4.imp_right fun h => by rw [h]; simp));
              clear hown4 hgrow4 hat4 hlt4)
            all_goals
              go_wp2
              go_roundw
              case rel => exact ⟨k + 1, o, (tp, v, d + 1) :: R', .slice (some ⟨g4, 0, none⟩) (R'.length + 1) c4, oa, oc, rfl, rfl, by omega, by omega, by have := Hnx.out.2.2.2; rw [List.length_cons]; omega, Lib.hid Hend.out.1, Lib.hid Hend.out.2.1, Lib.hid Hend.out.2.2.1, HOb, Lib.hid Hend.out.2.2.2, Lib.hid Hnx.out.1⟩
              case measure => simp only [intOf]; omega
end Go.Proofs.YtdpkhmfolmcejaaGreatDoor
