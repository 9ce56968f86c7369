/- codec.Peer: whether there are bytes of a participant, and that they are not none. -/
import Derived.Test.YtjapakmpnkbemaaMay2
import Derived.Test.YtjapakmpnkbemaaBitsLen
import Derived.Deep.RegionHeld3
import Derived.Deep.DeepCutAuto
import Derived.Lib.SlBytesConst
namespace Go.Proofs.Ytjapakmpnkbemaa
open Go.RowKit

/-- an act as its cells -/
def actCells (l : List (Int × Int)) : List Value := l.flatMap fun a => [.int .i64 a.1, .int .i64 a.2]
theorem actCells_len : ∀ l : List (Int × Int), (actCells l).length = l.length * 2
  | [] => rfl
  | a :: l => by
    have := actCells_len l
    have e : actCells (a :: l) = .int .i64 a.1 :: .int .i64 a.2 :: actCells l := rfl
    rw [e, List.length_cons, List.length_cons, List.length_cons, this]
    omega
theorem actCells_get : ∀ (l : List (Int × Int)) (k : Nat), k < l.length → (actCells l)[k * 2]? = some (.int .i64 (l.getD k (0, 0)).1) ∧ (actCells l)[k * 2 + 1]? = some (.int .i64 (l.getD k (0, 0)).2)
  | [], k, h => by simp at h
  | a :: l, 0, _ => by simp [actCells]
  | a :: l, k + 1, h => by
    have := actCells_get l k (by simpa using h)
    have e : actCells (a :: l) = .int .i64 a.1 :: .int .i64 a.2 :: actCells l := rfl
    rw [e, show (k + 1) * 2 = k * 2 + 1 + 1 by omega]
    simpa using this

/-- a participant that lies in memory -/
structure PeerAt (w : World) (c : Array Value) (part : Int) (acts : List (Int × Int)) (labels start : Int) (final : List Bool) (next : List (List Int)) : Prop where
  cells : ∃ va vf vn, c = #[.int .i64 part, va, .int .i64 labels, .int .i64 start, vf, vn] ∧ Seg 2 w va acts.length (actCells acts) ∧ DfaAt w #[.int .i64 labels, .int .i64 start, vf, vn] labels start final next
  few : acts.length ≤ 1000000
namespace Codec
def actOk (a : Int × Int) : Bool := decide (0 ≤ a.2) && decide (a.2 ≤ 536870912) && (decide (a.1 = 1) || decide (a.1 = 2))
def peerOk (part : Int) (acts : List (Int × Int)) (labels start : Int) (final : List Bool) (next : List (List Int)) : Bool :=
  Det.may labels start final.length next && decide (labels = acts.length) && decide (0 ≤ part) && acts.all actOk
end Codec

/-- the cells of a participant's box -/
def BoxAt (w : World) (g : Nat) (part labels start : Int) (va vf vn : Value) : Prop :=
  w.cell? ⟨g, 0, none⟩ = some (.int .i64 part) ∧ w.cell? ⟨g, 1, none⟩ = some va ∧ w.cell? ⟨g, 2, none⟩ = some (.int .i64 labels) ∧
    w.cell? ⟨g, 3, none⟩ = some (.int .i64 start) ∧ w.cell? ⟨g, 4, none⟩ = some vf ∧ w.cell? ⟨g, 5, none⟩ = some vn

set_option maxRecDepth 100000 in
set_option maxHeartbeats 2000000 in
theorem peer_len (c : Array Value) (part : Int) (acts : List (Int × Int)) (labels start : Int) (final : List Bool) (next : List (List Int)) (w : World) (hp : -9223372036854775808 ≤ part ∧ part ≤ 9223372036854775807) (h : PeerAt w c part acts labels start final next) (hmv : ∀ l ∈ next, ∀ s ∈ l, s < 9223372036854775808) :
    Calls Try.prog 16 #[.agg c] w fun e w' => (∃ v, e = .returned v ∧ (Codec.peerOk part acts labels start final next = false → v = .slice none 0 0) ∧
      (Codec.peerOk part acts labels start final next = true → ∃ a n cap, v = .slice a n cap ∧ 0 < n)) ∧ Flow.Grow w w' := by
  obtain ⟨⟨va, vf, vn, rfl, hact, hd⟩, hfew⟩ := h
  have Hmv := Lib.hid hmv
  clear hmv
  obtain ⟨aa, ca, rfl, _⟩ := id hact
  obtain ⟨⟨vf', vn', e, hf, hn⟩, hfl, hnl, hsh⟩ := id hd
  simp only [Array.mk.injEq, List.cons.injEq, and_true, true_and] at e
  obtain ⟨rfl, rfl⟩ := e
  obtain ⟨af, cf, rfl, _⟩ := id hf
  obtain ⟨an, cn, rfl⟩ := hn.val
  have Hd := Lib.hid hd
  clear hd
  go_enter Try.func16, Try.ntmps16
  go_wp2_with fail
  refine (may_any _ labels start final next _ (Hd.out.grow (Flow.grow_alloc _ _))).mono ?_
  rintro e w1 ⟨rfl, hw1⟩
  have hg1 : Flow.Grow w w1 := by rw [hw1]; exact (Flow.grow_alloc _ _).trans (Flow.grow_alloc _ _)
  have hbox : w1.heap[w.heap.size]? = some (.cells #[.int .i64 part, .slice aa acts.length ca, .int .i64 labels, .int .i64 start, .slice af final.length cf, .slice an next.length cn] 49 (0, 0)) := by
    rw [hw1]; exact heap_alloc2_old w _ _
  have Hbox : Hid (∀ wr, Flow.Grow w1 wr → BoxAt wr w.heap.size part labels start (.slice aa acts.length ca) (.slice af final.length cf) (.slice an next.length cn)) := Lib.hid fun wr hr => by
    have hh : wr.heap[w.heap.size]? = some (.cells #[.int .i64 part, .slice aa acts.length ca, .int .i64 labels, .int .i64 start, .slice af final.length cf, .slice an next.length cn] 49 (0, 0)) := by
      rw [hr.block _ (Array.getElem?_eq_some_iff.1 hbox).1 (by simp)]; exact hbox
    exact ⟨cell_of_row wr _ _ _ _ _ hh, cell_of_row wr _ _ _ _ _ hh, cell_of_row wr _ _ _ _ _ hh, cell_of_row wr _ _ _ _ _ hh, cell_of_row wr _ _ _ _ _ hh, cell_of_row wr _ _ _ _ _ hh⟩
  have Hact : Hid (Seg 2 w1 (.slice aa acts.length ca) acts.length (actCells acts)) := Lib.hid (hact.grow hg1)
  have Hfin : Hid (Bools w1 (.slice af final.length cf) final) := Lib.hid (hf.grow hg1)
  have Hnext : Hid (Rows2 w1 (.slice an next.length cn) next) := Lib.hid (hn.grow hg1)
  clear hact hf hn hw1 hbox Hd
  obtain ⟨b0, b1, b2, b3, b4, b5⟩ := Hbox.out w1 (Flow.grow_refl _)
  have Hok : Hid (Codec.peerOk part acts labels start final next = (Det.may labels start final.length next && decide (labels = acts.length) && decide (0 ≤ part) && acts.all Codec.actOk)) := Lib.hid rfl
  cases hmb : Det.may labels start final.length next with
  | false =>
    have HR : Hid (Codec.peerOk part acts labels start final next = false) := Lib.hid (by rw [Hok.out, hmb]; rfl)
    clear Hok hmb
    go_wp2_with fail
    go_ret
    exact ⟨⟨_, rfl, fun _ => rfl, fun h => by rw [HR.out] at h; cases h⟩, hg1⟩
  | true =>
    have Hlen2 : Hid (next.length ≤ 2000 ∧ final.length ≤ 2000) := Lib.hid (by simp [Det.may] at hmb; omega)
    have Hrow : Hid (∀ l ∈ next, (l.length : Int) = labels) := Lib.hid (by
      simp [Det.may, Det.badRow] at hmb
      exact fun l hl => (hmb.2 l hl).1)
    have hstart : start < 2000 := by simp [Det.may] at hmb; omega
    rw [hmb] at Hok
    clear hmb
    by_cases hl : labels = acts.length
    · have hd1 : (labels != (acts.length : Int)) = false := by simp [hl]
      by_cases hp0 : part < 0
      · have hd2 : decide (part < 0) = true := by simp [hp0]
        have HR : Hid (Codec.peerOk part acts labels start final next = false) := Lib.hid (by rw [Hok.out]; simp; intros; omega)
        clear Hok hl
        go_wp2_with fail
        go_ret
        exact ⟨⟨_, rfl, fun _ => rfl, fun h => by rw [HR.out] at h; cases h⟩, hg1⟩
      · have hd2 : decide (part < 0) = false := by simp; omega
        have HR : Hid (Codec.peerOk part acts labels start final next = acts.all Codec.actOk) := Lib.hid (by rw [Hok.out]; simp [hl]; intros; omega)
        have Hl := Lib.hid hl
        clear Hok hl
        have Hm0 : Hid (Base (w1.alloc (.cells #[.int .u8 71, .int .u8 80, .int .u8 49] 5 (3, 4))) 5 1 (.slice (some ⟨w1.heap.size, 0, none⟩) 3 3) 3 (([71, 80, 49] : List UInt8).map u8v)) :=
          Lib.hid (.inr ⟨⟨w1.heap.size, 0, none⟩, rfl, by simp, rfl, fun j u hj => by rw [Addr.add_lit, Nat.zero_add, World.cell?_alloc_mark]; simpa [u8v] using hj⟩)
        have kc := fun (w : World) (C : Array Value) (n c : Nat) => Lib.run_convert_bytes_const (P := Try.prog) w 22 5 C n c Try.underlying22 Try.underlying5
        have bo := fun (o : Obj) => (Hbox.out (w1.alloc o) (Flow.grow_alloc _ _)).1
        go_wp2_with fail
        clear kc bo
        refine (put_new _ 3 [71, 80, 49] part _ (by omega) (by decide) (.inr ⟨_, rfl⟩) Hm0.out).mono ?_
        rintro e w2 ⟨v2, rfl, ⟨hown2, _, hf2⟩, hg2'⟩
        have hg2 : Flow.Grow w1 w2 := (Flow.grow_alloc _ _).trans hg2'
        have hm2 : Mine w1 v2 := .inr (hf2.mono (by simp))
        have hown2 : OwnB w2 v2 ([71, 80, 49] ++ Num.vint part.toNat) := by unfold OwnB; rw [List.length_append]; exact hown2
        clear b0 b1 b2 b3 b4 b5 Hm0 hg2' hf2
        obtain ⟨b0, b1, b2, b3, b4, b5⟩ := Hbox.out w2 hg2
        have Hl2 : Hid (([71, 80, 49] ++ Num.vint part.toNat).length ≤ 12 ∧ 3 ≤ ([71, 80, 49] ++ Num.vint part.toNat).length) := Lib.hid (by
          have := Num.vint_len_le 8 part.toNat (by omega)
          simp; omega)
        generalize [71, 80, 49] ++ Num.vint part.toNat = l2 at hown2 Hl2
        go_wp2_with fail
        refine (put_run v2 l2 acts.length _ (by omega) (by have := Hl2.out; omega) hown2 hm2 hg2).mono ?_
        rintro e w3 ⟨v3, rfl, hown3, hm3, hg3⟩
        clear b0 b1 b2 b3 b4 b5
        obtain ⟨b0, b1, b2, b3, b4, b5⟩ := Hbox.out w3 hg3
        have Hl3 : Hid ((l2 ++ Num.vint (acts.length : Int).toNat).length ≤ 24 ∧ 3 ≤ (l2 ++ Num.vint (acts.length : Int).toNat).length) := Lib.hid (by
          have := Num.vint_len_le 8 (acts.length : Int).toNat (by omega)
          have := Hl2.out
          simp at *; omega)
        generalize l2 ++ Num.vint (acts.length : Int).toNat = l3 at hown3 Hl3
        clear hown2 hm2 hg2 Hl2
        go_wp2_with fail
        clear b0 b1 b2 b3 b4 b5
        have Hn9 : Hid (acts.length ≤ 1000000) := Lib.hid hfew
        go_loopw [3, 43] (fun b i wr => ∃ (k : Nat) (l : List UInt8), k ≤ acts.length ∧ i = .int .i64 k ∧ OwnB wr b l ∧ Mine w1 b ∧ Flow.Grow w1 wr ∧ Hid (l.length ≤ 24 + 9 * k ∧ 3 ≤ l.length) ∧ Hid (acts.all Codec.actOk = (acts.drop k).all Codec.actOk)) (fun _ i _ => acts.length - (intOf i).toNat)
        case atStart => exact ⟨0, l3, by omega, rfl, hown3, hm3, hg3, Lib.hid (by have := Hl3.out; omega), Lib.hid rfl⟩
        case round =>
          obtain ⟨k, l, hk, rfl, hown, hm, hg, Hll, Hall⟩ := hrel
          obtain ⟨b0, b1, b2, b3, b4, b5⟩ := Hbox.out wr hg
          by_cases hkn : k < acts.length
          · obtain ⟨ab, aoff, ac, he, hab, hcl⟩ := (Hact.out.grow hg).shape (by intro e; have := actCells_len acts; rw [e] at this; simp at this; omega)
            cases he
            have hc1 := (hcl (k * 2) (by rw [actCells_len]; omega)).trans (actCells_get acts k hkn).1
            have hc2 := (hcl (k * 2 + 1) (by rw [actCells_len]; omega)).trans (actCells_get acts k hkn).2
            have Hs : Hid ((acts.drop k).all Codec.actOk = (Codec.actOk (acts.getD k (0, 0)) && (acts.drop (k + 1)).all Codec.actOk)) := by
              refine Lib.hid ?_
              rw [List.drop_eq_getElem_cons hkn, List.all_cons, List.getD_eq_getElem?_getD, List.getElem?_eq_getElem hkn, Option.getD_some]
            rw [← Nat.add_assoc] at hc2
            clear hcl
            generalize acts.getD k (0, 0) = x at *
            obtain ⟨dir, lab⟩ := x
            dsimp only at hc1 hc2
            by_cases hok : (0 ≤ lab ∧ lab ≤ 536870912) ∧ (dir = 1 ∨ dir = 2)
            · have Hs' : Hid (acts.all Codec.actOk = (acts.drop (k + 1)).all Codec.actOk) := Lib.hid (by rw [Hall.out, Hs.out, show Codec.actOk (dir, lab) = true by simp [Codec.actOk]; omega]; rfl)
              clear Hs Hall
              obtain ⟨⟨h1, h2⟩, h3⟩ := hok
              have d1 : decide (lab < 0) = false := by simp; omega
              have d2 : decide (536870912 < lab) = false := by simp; omega
              have Hput : Hid (∀ W (z : Int), z < 9223372036854775808 → Flow.Grow wr W → Calls _ _ #[u3, .int .i64 z] W _) := Lib.hid fun W z hz hW => put_run (W := w1) u3 l z W hz (by have := Hll.out; have := Hn9.out; omega) (World.ownsRow.kept hown hW (by cases u3.ownBlock <;> simp)) hm (hg.trans hW)
              have Hmore : Hid (∀ z : Int, z < 9223372036854775808 → (l ++ Num.vint z.toNat).length ≤ 24 + 9 * (k + 1) ∧ 3 ≤ (l ++ Num.vint z.toNat).length) := Lib.hid fun z hz => by
                have := Num.vint_len_le 8 z.toNat (by omega)
                have := Hll.out
                simp; omega
              rcases h3 with rfl | rfl
              · have d3 : (((1 : Int) != 1) = false) := rfl
                go_wp2_with (go_at_call 8; refine (Hput.out _ _ (by omega) (Flow.grow_alloc _ _)).mono ?_; rintro e w4 ⟨v4, rfl, hown4, hm4, hg4⟩)
                go_roundw
                case rel => exact ⟨k + 1, _, by omega, by go_num, hown4, hm4, hg4, Lib.hid (Hmore.out _ (by omega)), Hs'⟩
                case measure => simp [intOf]; omega
              · have d3 : (((2 : Int) != 1) = true) := rfl
                have d4 : (((2 : Int) != 2) = false) := rfl
                go_wp2_with (go_at_call 8; refine (Hput.out _ _ (by omega) (Flow.grow_alloc _ _)).mono ?_; rintro e w4 ⟨v4, rfl, hown4, hm4, hg4⟩)
                go_roundw
                case rel => exact ⟨k + 1, _, by omega, by go_num, hown4, hm4, hg4, Lib.hid (Hmore.out _ (by omega)), Hs'⟩
                case measure => simp [intOf]; omega
            · have HR' : Hid (Codec.peerOk part acts labels start final next = false) := Lib.hid (by rw [HR.out, Hall.out, Hs.out, show Codec.actOk (dir, lab) = false by simp [Codec.actOk]; omega]; rfl)
              clear Hs Hall HR
              by_cases h1 : lab < 0
              · have d1 : decide (lab < 0) = true := by simp; omega
                clear hok
                go_wp2_with fail
                go_ret
                exact ⟨⟨_, rfl, fun _ => rfl, fun h => by rw [HR'.out] at h; cases h⟩, hg1.trans (hg.trans (Flow.grow_alloc _ _))⟩
              · have d1 : decide (lab < 0) = false := by simp; omega
                by_cases h2 : 536870912 < lab
                · have d2 : decide (536870912 < lab) = true := by simp; omega
                  clear hok
                  go_wp2_with fail
                  go_ret
                  exact ⟨⟨_, rfl, fun _ => rfl, fun h => by rw [HR'.out] at h; cases h⟩, hg1.trans (hg.trans (Flow.grow_alloc _ _))⟩
                · have d2 : decide (536870912 < lab) = false := by simp; omega
                  have d3 : (dir != 1) = true := by simp; omega
                  have d4 : (dir != 2) = true := by simp; omega
                  clear hok
                  go_wp2_with fail
                  go_ret
                  exact ⟨⟨_, rfl, fun _ => rfl, fun h => by rw [HR'.out] at h; cases h⟩, hg1.trans (hg.trans (Flow.grow_alloc _ _))⟩
          · have HR' : Hid (Codec.peerOk part acts labels start final next = true) := Lib.hid (by rw [HR.out, Hall.out, List.drop_eq_nil_of_le (by omega)]; rfl)
            have Hll' : Hid (l.length ≤ 20000000 ∧ 3 ≤ l.length) := Lib.hid (by have := Hll.out; have := Hn9.out; omega)
            clear Hall HR Hll
            have hcl := hkn
            go_wp2_with fail
            refine (put_run (W := w1) u3 l next.length wr (by omega) (by have := Hll'.out; omega) hown hm hg).mono ?_
            rintro e w5 ⟨v5, rfl, hown5, hm5, hg5⟩
            have Hl5 : Hid ((l ++ Num.vint (next.length : Int).toNat).length ≤ 20000010 ∧ 3 ≤ (l ++ Num.vint (next.length : Int).toNat).length) := Lib.hid (by
              have := Num.vint_len_le 8 (next.length : Int).toNat (by omega)
              have := Hll'.out
              simp at *; omega)
            generalize l ++ Num.vint (next.length : Int).toNat = l5 at hown5 Hl5
            clear b0 b1 b2 b3 b4 b5 hown hm hg
            obtain ⟨b0, b1, b2, b3, b4, b5⟩ := Hbox.out w5 hg5
            have Hl6 : Hid ((l5 ++ Num.vint start.toNat).length ≤ 20000020 ∧ 3 ≤ (l5 ++ Num.vint start.toNat).length) := Lib.hid (by
              have := Num.vint_len_le 8 start.toNat (by omega)
              have := Hl5.out
              simp at *; omega)
            go_upto_region 13 with fail
            go_cut [3] (fun b wx => ∃ l : List UInt8, OwnB wx b l ∧ Mine w1 b ∧ Flow.Grow w1 wx ∧ Hid (l.length ≤ 21000000 ∧ 3 ≤ l.length))
            case first =>
              go_region_held3 (fun w' => w'.cell? ⟨w.heap.size, 3, none⟩ = some (.int .i64 start) ∧ w'.cell? ⟨w.heap.size, 4, none⟩ = some (.slice af final.length cf)) (first | exact ⟨b3, b4⟩ | exact ⟨‹BoxAt _ _ _ _ _ _ _ _›.2.2.2.1, ‹BoxAt _ _ _ _ _ _ _ _›.2.2.2.2.1⟩)
                (first
                  | (go_at_call 8; refine (put_run (W := w1) v5 l5 start _ (by omega) (by have := Hl5.out; omega) (World.ownsRow.drew hown5) hm5 (hg5.trans (Flow.grow_drew _))).mono ?_; rintro e w6 ⟨v6, rfl, hown6, hm6, hg6⟩; have hb6 := Hbox.out _ hg6)
                  | (go_at_call 28; refine (bits_len (W := w1) v6 _ _ final _ (by have := Hl6.out; omega) (by have := Hlen2.out; omega) hown6 hm6 hg6 (Hfin.out.grow hg6)).mono ?_; rintro e w7 ⟨v7, l7, rfl, hown7, hl7, hm7, hg7⟩; have hb7 := Hbox.out _ hg7))
              go_wp2_with fail
              go_meet
              case rel => exact ⟨l7, hown7, hm7, hg7, Lib.hid (by have := Hl6.out; have := Hlen2.out; omega)⟩
            case rest =>
              obtain ⟨l8, hown8, hm8, hg8, Hl8⟩ := hcut
              clear b0 b1 b2 b3 b4 b5 hown5 hm5 hg5 Hl5 Hl6
              obtain ⟨b0, b1, b2, b3, b4, b5⟩ := Hbox.out wc hg8
              obtain ⟨i0, hi, hz0, hz1, hz2⟩ := info_parts info_u8
              have hlab : acts.length ≤ 1000000 := Hn9.out
              have hnl2 : next.length ≤ 2000 := Hlen2.out.1
              go_wp2_with fail
              go_loopw [3, 94] (fun b i wr => ∃ (k : Nat) (l : List UInt8), k ≤ next.length ∧ i = .int .i64 k ∧ OwnB wr b l ∧ Mine w1 b ∧ Flow.Grow w1 wr ∧ Hid (l.length ≤ 21000000 + 20000000 * k ∧ 3 ≤ l.length)) (fun _ i _ => next.length - (intOf i).toNat)
              case atStart => exact ⟨0, l8, by omega, rfl, hown8, hm8, hg8, Lib.hid (by have := Hl8.out; omega)⟩
              case round =>
                obtain ⟨kk, lb, hkk, rfl, hown, hm, hg, Hll⟩ := hrel
                clear b0 b1 b2 b3 b4 b5
                by_cases hkn2 : kk < next.length
                · obtain ⟨wo, rfl⟩ : ∃ wo : World, wo = wr := ⟨_, rfl⟩
                  obtain ⟨nb, noff, nc, he, hnb, hrows⟩ := (Hnext.out.grow hg).shape (by intro e; rw [e] at hkn2; simp at hkn2)
                  cases he
                  obtain ⟨rv, hrv, hri⟩ := hrows kk hkn2
                  have hrl : (next.getD kk []).length = acts.length := by
                    rw [List.getD_eq_getElem?_getD, List.getElem?_eq_getElem hkn2, Option.getD_some]
                    have := Hrow.out _ (List.getElem_mem hkn2)
                    have := Hl.out
                    omega
                  clear hrows
                  have Hbig : Hid (∀ j, j < (next.getD kk []).length → (next.getD kk []).getD j 0 < 9223372036854775808) := Lib.hid fun j hj => by
                    have e : next.getD kk [] = next[kk] := by rw [List.getD_eq_getElem?_getD, List.getElem?_eq_getElem hkn2, Option.getD_some]
                    rw [e] at hj ⊢
                    rw [List.getD_eq_getElem?_getD, List.getElem?_eq_getElem hj, Option.getD_some]
                    exact Hmv.out _ (List.getElem_mem hkn2) _ (List.getElem_mem hj)
                  generalize next.getD kk [] = row at hri hrl Hbig
                  rw [hrl] at Hbig
                  obtain ⟨ra, rc, rfl, hrlen, hrno, hrc⟩ := id hri
                  rw [hrl] at hrv hri hrno
                  have Hrc : Hid (∀ wr, Flow.Grow wo wr → ∀ j, j < acts.length → ∃ b off, ra = some ⟨b, off, none⟩ ∧ wr.cell? ⟨b, off + j, none⟩ = some (.int .i64 (row.getD j 0))) := Lib.hid fun wr hr j hj => by
                    obtain ⟨b, off, h1, h2, h3⟩ := hrc j (by simp; omega)
                    exact ⟨b, off, h1, ((World.cell?_of_block (hr.block b h2 (by simp))).trans h3).trans (by simp [show j < row.length by omega])⟩
                  clear hrc hri hrlen hrno hrl
                  go_wp2_with fail
                  go_loopw [8, 9, 100] (fun mv c i wr => ∃ (j cn : Nat) (ms : List UInt8), j ≤ acts.length ∧ i = .int .i64 j ∧ cn ≤ j ∧ c = .int .i64 cn ∧ OwnB wr mv ms ∧ Mine wo mv ∧ Flow.Grow wo wr ∧ Hid (ms.length ≤ 18 * j)) (fun _ _ i _ => acts.length - (intOf i).toNat)
                  case atStart => exact ⟨0, 0, [], by omega, rfl, by omega, rfl, OwnB.nil _, Mine.nil _, Flow.grow_refl _, Lib.hid (by simp)⟩
                  case round =>
                    obtain ⟨j, cnt, ms, hj, rfl, hcj, rfl, hownm, hmm, hgm, Hml⟩ := hrel
                    by_cases hjn : j < acts.length
                    · obtain ⟨rb, roff, he, hrcell⟩ := Hrc.out wr hgm j hjn
                      cases he
                      have hbig := Hbig.out j hjn
                      generalize row.getD j 0 = s at hrcell hbig
                      by_cases hs0 : 0 ≤ s
                      · have hs63 := hbig
                        go_wp2_with fail
                        refine (put_run (W := wo) u8 ms j wr (by omega) (by have := Hml.out; omega) hownm hmm hgm).mono ?_
                        rintro e w11 ⟨v11, rfl, hown11, hm11, hg11⟩
                        have Hl11 : Hid ((ms ++ Num.vint (j : Int).toNat).length ≤ 18 * j + 9) := Lib.hid (by
                          have := Num.vint_len_le 8 (j : Int).toNat (by omega)
                          have := Hml.out
                          simp at *; omega)
                        generalize ms ++ Num.vint (j : Int).toNat = ms2 at hown11 Hl11
                        go_wp2_with fail
                        refine (put_run (W := wo) v11 ms2 s w11 hs63 (by have := Hl11.out; omega) hown11 hm11 hg11).mono ?_
                        rintro e w12 ⟨v12, rfl, hown12, hm12, hg12⟩
                        have Hl12 : Hid ((ms2 ++ Num.vint s.toNat).length ≤ 18 * (j + 1)) := Lib.hid (by
                          have := Num.vint_len_le 8 s.toNat (by omega)
                          have := Hl11.out
                          simp at *; omega)
                        generalize ms2 ++ Num.vint s.toNat = ms3 at hown12 Hl12
                        clear hownm hmm hgm Hml hown11 hm11 hg11 Hl11
                        go_wp2_with fail
                        go_roundw
                        case rel => exact ⟨j + 1, cnt + 1, ms3, by omega, by go_num, by omega, by go_num, hown12, hm12, hg12, Hl12⟩
                        case measure => simp [intOf]; omega
                      · go_wp2_with fail
                        go_roundw
                        case rel => exact ⟨j + 1, cnt, ms, by omega, by go_num, by omega, rfl, hownm, hmm, hgm, Lib.hid (by have := Hml.out; omega)⟩
                        case measure => simp [intOf]; omega
                    · have hownb := hown.keep hgm
                      have hap := hown.apart hmm
                      have Hml' : Hid (ms.length ≤ 18000000) := Lib.hid (by have := Hml.out; omega)
                      go_wp2_with fail
                      refine (put_run2 (W := w1) u3 lb cnt wr (by omega) (by have := Hll.out; omega) hownb hm (hg.trans hgm)).mono ?_
                      rintro e w13 ⟨v13, rfl, hown13, hm13, hg13, hgr13⟩
                      have Hl13 : Hid ((lb ++ Num.vint (cnt : Int).toNat).length ≤ 21000000 + 20000000 * kk + 9 ∧ 3 ≤ (lb ++ Num.vint (cnt : Int).toNat).length) := Lib.hid (by
                        have := Num.vint_len_le 8 (cnt : Int).toNat (by omega)
                        have := Hll.out
                        simp at *; omega)
                      generalize lb ++ Num.vint (cnt : Int).toNat = lb2 at hown13 Hl13
                      have hms13 : OwnB w13 u8 ms := World.ownsRow.kept hownm hgr13 hap
                      have hb13 := Bytes.of_own hms13 (by have := Hml'.out; omega)
                      clear hownm hgr13 hap hownb hms13 hown
                      obtain ⟨ma, mc, rfl, _⟩ := id hb13
                      have hmn := hb13.ifNone
                      have hmc := hb13.cells
                      go_wp2_with (at_builtin; refine wpList_append_put _ rfl _ _ 22 rfl 5 i0 (.int .u8 0) 1 1 Try.underlying22 hi hz0 hz1 hz2 rfl (by decide) _ _ _ rfl hown13 ma ms.length mc (ms.map u8v) rfl ?d1 hmn hmc ?d2 ?d3 ?d4 ?_)
                      case d1 => simp
                      case d2 => intro u hu; obtain ⟨_, _, rfl⟩ := List.mem_map.1 hu; rfl
                      case d3 => have := Hl13.out; have := Hml'.out; unfold maxLen; omega
                      case d4 => have := Hl13.out; have := Hml'.out; omega
                      intro v14 w14 hown14 hgr14 hmv14 _
                      have s := mine_step hm13 hg13 hgr14 hmv14
                      have hm14 := mine_of hown14 s.2
                      have hg14 := s.1
                      have hown14' : OwnB w14 v14 (lb2 ++ ms) := by unfold OwnB; rw [List.length_append, List.map_append]; exact hown14
                      have Hl14 : Hid ((lb2 ++ ms).length ≤ 21000000 + 20000000 * (kk + 1) ∧ 3 ≤ (lb2 ++ ms).length) := Lib.hid (by have := Hl13.out; have := Hml'.out; simp at *; omega)
                      generalize lb2 ++ ms = lb3 at hown14' Hl14
                      clear hown14 hgr14 hmv14 s hmn hmc hb13 hown13
                      go_wp2_with fail
                      go_roundw
                      case rel => exact ⟨kk + 1, lb3, by omega, by go_num, hown14', hm14, hg14, Hl14⟩
                      case measure => simp [intOf]; omega
                · have hlen3 := Hll.out
                  have Hv : Hid (∃ a n cap, u3 = .slice a n cap ∧ 0 < n) := Lib.hid (by
                    rcases hown.2 with ⟨rfl, h0⟩ | ⟨g, cap, cur, rfl, _⟩
                    · omega
                    · exact ⟨_, _, _, rfl, by omega⟩)
                  go_wp2_with fail
                  go_ret
                  exact ⟨⟨_, rfl, fun h => (by rw [HR'.out] at h; cases h), fun _ => Hv.out⟩, hg1.trans hg⟩
    · have hd1 : (labels != (acts.length : Int)) = true := by simp [hl]
      have HR : Hid (Codec.peerOk part acts labels start final next = false) := Lib.hid (by rw [Hok.out]; simp [hl])
      clear Hok hl
      go_wp2_with fail
      go_ret
      exact ⟨⟨_, rfl, fun _ => rfl, fun h => by rw [HR.out] at h; cases h⟩, hg1⟩
end Go.Proofs.Ytjapakmpnkbemaa
