/- galliardref06.Near by its contract. -/
import Derived.Test.YtdpkhmfolmcejaaGreatDoorNice
namespace Go.Proofs.YtdpkhmfolmcejaaGreatDoor
open Go.RowKit
set_option maxRecDepth 100000 in
set_option maxHeartbeats 8000000 in
theorem near_step (d : Nat) (hd4 : d ≤ 4) (IHH : Hid (∀ v w, 1 ≤ d → Xm.ArgN w v → Calls Tryz.prog 5 #[v, .int .i64 (d : Int)] w (Xm.NearPost d w))) (v : Value) (w : World) (hv : Xm.ArgN w v) :
    Calls Tryz.prog 5 #[v, .int .i64 ((d + 1 : Nat) : Int)] w (Xm.NearPost (d + 1) w) := by
  cases hv with
  | mk sp nm tx a1 a2 n1 c1 n2 c2 f h hsp hnm htx h1 h2 h3 =>
  obtain ⟨b, hb, hb4⟩ : ∃ b : Nat, bits .and .i64 (sp.size : Int) 3 = (b : Int) ∧ b < 4 := ⟨((sp.size : Int) % 2 ^ 2).toNat, by rw [Bits.i64_mask _ 2 (by omega) 3 (by decide)]; omega, by omega⟩
  obtain ⟨SP, hA, hSP⟩ : ∃ SP : ByteArray, (∀ h : b < 4, ([Value.string ⟨#[]⟩, .string ⟨#[117]⟩, .string ⟨#[118, 38, 60]⟩, .string ⟨#[119]⟩] : List Value)[b]'h = .string SP) ∧ ∃ v ∈ Xm.spaces, SP = str v := by
    rcases (by omega : b = 0 ∨ b = 1 ∨ b = 2 ∨ b = 3) with rfl | rfl | rfl | rfl
    · exact ⟨_, fun h => rfl, [], by simp [Xm.spaces], rfl⟩
    · exact ⟨_, fun h => rfl, [117], by simp [Xm.spaces], rfl⟩
    · exact ⟨_, fun h => rfl, [118, 38, 60], by simp [Xm.spaces], rfl⟩
    · exact ⟨_, fun h => rfl, [119], by simp [Xm.spaces], rfl⟩
  have hbi : (b : Int) < 4 := by omega
  have hbn : ¬ (4 : Int) ≤ (b : Int) := by omega
  obtain ⟨nl, hnl, hnn, hn7⟩ := Xm.nm_nl 5 (by omega) nm
  have HN := Lib.hid (fun w => name6_any nm w hnm)
  rw [hnl] at HN
  obtain ⟨NM, hNM⟩ : ∃ NM, NM = str nl := ⟨_, rfl⟩
  rw [← hNM] at HN
  have HNM := Lib.hid (And.intro hNM (And.intro hnn hn7))
  have HSP := Lib.hid hSP
  have H1 := Lib.hid h1
  have H2 := Lib.hid h2
  have H3 := Lib.hid h3
  have Htx := Lib.hid htx
  clear hnl hnn hn7 hNM hSP h1 h2 h3 hnm htx
  go_enter Tryz.func5, Tryz.ntmps5
  go_upto_region 1 with fail
  have HX1 : Hid (Xm.RowN ((w.alloc (.cells #[.string sp, .string nm, .slice a1 n1 c1, .slice a2 n2 c2, .string tx] 25)).alloc (.cells #[.string ⟨#[]⟩, .string ⟨#[]⟩, .slice none 0 0, .slice none 0 0, .string ⟨#[]⟩] 25)) w.heap.size #[.string sp, .string nm, .slice a1 n1 c1, .slice a2 n2 c2, .string tx]) := Lib.hid (Xm.RowN.grow (heap_alloc_new _ _) (Flow.grow_alloc _ _))
  have HN1 : Hid (Xm.RowN ((w.alloc (.cells #[.string sp, .string nm, .slice a1 n1 c1, .slice a2 n2 c2, .string tx] 25)).alloc (.cells #[.string ⟨#[]⟩, .string ⟨#[]⟩, .slice none 0 0, .slice none 0 0, .string ⟨#[]⟩] 25)) (w.heap.size + 1) #[.string ⟨#[]⟩, .string ⟨#[]⟩, .slice none 0 0, .slice none 0 0, .string ⟨#[]⟩]) := Lib.hid (by
    have h := heap_alloc_new (w.alloc (.cells #[.string sp, .string nm, .slice a1 n1 c1, .slice a2 n2 c2, .string tx] 25)) (.cells #[.string ⟨#[]⟩, .string ⟨#[]⟩, .slice none 0 0, .slice none 0 0, .string ⟨#[]⟩] 25)
    rw [show (w.alloc (.cells #[.string sp, .string nm, .slice a1 n1 c1, .slice a2 n2 c2, .string tx] 25)).heap.size = w.heap.size + 1 by simp] at h
    exact h)
  have G1 : Hid (Flow.Grow w ((w.alloc (.cells #[.string sp, .string nm, .slice a1 n1 c1, .slice a2 n2 c2, .string tx] 25)).alloc (.cells #[.string ⟨#[]⟩, .string ⟨#[]⟩, .slice none 0 0, .slice none 0 0, .string ⟨#[]⟩] 25))) := Lib.hid ((Flow.grow_alloc _ _).trans (Flow.grow_alloc _ _))
  obtain ⟨X, hX⟩ : ∃ X, X = w.heap.size := ⟨_, rfl⟩
  rw [← hX] at HX1 HN1 ⊢
  have HXw := Lib.hid hX
  clear hX
  generalize ((w.alloc (.cells #[.string sp, .string nm, .slice a1 n1 c1, .slice a2 n2 c2, .string tx] 25)).alloc (.cells #[.string ⟨#[]⟩, .string ⟨#[]⟩, .slice none 0 0, .slice none 0 0, .string ⟨#[]⟩] 25)) = w1 at *
  obtain ⟨N, hN⟩ : ∃ N, N = X + 1 := ⟨_, rfl⟩
  rw [← hN] at HN1 ⊢
  have HNX := Lib.hid hN
  clear hN
  have x1 := (cell_of_row w1 X 1 _ _ _ HX1.out).trans rfl
  go_upto_region 2 with (go_at_call 12; refine (HN.out _).mono ?_; rintro e w2 ⟨rfl, hg2⟩; have y1 := (cell_of_row w2 N 1 _ _ _ (HN1.out.grow hg2)).trans rfl; have yf : ∀ j, w2.frozen? ⟨N, j, none⟩ = false := fun j => frozen_of_row w2 N _ _ _ (HN1.out.grow hg2))
  have HX2 : Hid (Xm.RowN (w2.setCell ⟨N, 1, none⟩ (.string NM)) X _) := Lib.hid ((HX1.out.grow hg2).mv Xm.Mv.set (by have := HNX.out; omega))
  have HN2 := Lib.hid ((HN1.out.grow hg2).set 1 (.string NM))
  have G2 : Hid (Flow.Grow w (w2.setCell ⟨N, 1, none⟩ (.string NM))) := Lib.hid (Xm.Mv.grow (G1.out.trans hg2) Xm.Mv.set (by have := HNX.out; have := HXw.out; omega))
  clear y1 yf x1 HX1 HN1 G1 hg2
  generalize w2.setCell ⟨N, 1, none⟩ (.string NM) = w3 at *
  have x0 := (cell_of_row w3 X 0 _ _ _ HX2.out).trans rfl
  have hl : Flow.Grow w3 (w3.alloc (.cells #[.string ⟨#[]⟩, .string ⟨#[117]⟩, .string ⟨#[118, 38, 60]⟩, .string ⟨#[119]⟩] 9)) := Flow.grow_alloc _ _
  have y0 := (cell_of_row (w3.alloc (.cells #[.string ⟨#[]⟩, .string ⟨#[117]⟩, .string ⟨#[118, 38, 60]⟩, .string ⟨#[119]⟩] 9)) N 0 _ _ _ (HN2.out.grow hl)).trans rfl
  have yf : ∀ j, (w3.alloc (.cells #[.string ⟨#[]⟩, .string ⟨#[117]⟩, .string ⟨#[118, 38, 60]⟩, .string ⟨#[119]⟩] 9)).frozen? ⟨N, j, none⟩ = false := fun j => frozen_of_row _ N _ _ _ (HN2.out.grow hl)
  have hX3 : X < w3.heap.size := HX2.out.lt
  have hN3 : N < w3.heap.size := Xm.RowN.lt HN2.out
  have x0' := (cell_of_row (w3.alloc (.cells #[.string ⟨#[]⟩, .string ⟨#[117]⟩, .string ⟨#[118, 38, 60]⟩, .string ⟨#[119]⟩] 9)) X 0 _ _ _ (HX2.out.grow hl)).trans rfl
  go_upto_region 3 with fail
  have m4 : Xm.Mv w3 N ((w3.setCell ⟨N, 0, none⟩ (.string SP)).alloc (.cells #[.string ⟨#[]⟩, .string ⟨#[117]⟩, .string ⟨#[118, 38, 60]⟩, .string ⟨#[119]⟩] 9)) := Xm.Mv.set.trans (Xm.Mv.of N (Flow.grow_alloc _ _))
  have G4 : Hid (Flow.Grow w ((w3.setCell ⟨N, 0, none⟩ (.string SP)).alloc (.cells #[.string ⟨#[]⟩, .string ⟨#[117]⟩, .string ⟨#[118, 38, 60]⟩, .string ⟨#[119]⟩] 9))) := Lib.hid (Xm.Mv.grow G2.out m4 (by have := HNX.out; have := HXw.out; omega))
  have HX4 := Lib.hid (HX2.out.mv m4 (by have := HNX.out; omega))
  have HN4 : Hid (Xm.RowN ((w3.setCell ⟨N, 0, none⟩ (.string SP)).alloc (.cells #[.string ⟨#[]⟩, .string ⟨#[117]⟩, .string ⟨#[118, 38, 60]⟩, .string ⟨#[119]⟩] 9)) N #[.string SP, .string NM, .slice none 0 0, .slice none 0 0, .string ⟨#[]⟩]) := Lib.hid ((HN2.out.set 0 (.string SP)).grow (Flow.grow_alloc _ _))
  clear x0 x0' y0 yf hl hX3 hN3 HX2 HN2 G2 m4 hA
  generalize ((w3.setCell ⟨N, 0, none⟩ (.string SP)).alloc (.cells #[.string ⟨#[]⟩, .string ⟨#[117]⟩, .string ⟨#[118, 38, 60]⟩, .string ⟨#[119]⟩] 9)) = w4 at *
  obtain ⟨B, hB⟩ : ∃ B, B = w4.heap.size := ⟨_, rfl⟩
  have HB : Hid (X < B ∧ N < B ∧ w.heap.size ≤ B) := Lib.hid ⟨by rw [hB]; exact HX4.out.lt, by rw [hB]; exact HN4.out.lt, by rw [hB]; exact G4.out.size⟩
  have HU4 : Hid (Xm.Und w B N w4 SP NM (.slice none 0 0) (.slice none 0 0) [] [] []) := Lib.hid ⟨HN4.out, Xm.OwnA.nil _ _, Xm.OwnK.nil _, Xm.Kids.nil _ _, fun g hg => (by simp [Value.ownBlock] at hg), fun g hg => (by simp [Value.ownBlock] at hg), G4.out, by omega⟩
  clear hB HN4 G4
  go_wp2_with fail
  go_loopw [5] (fun v5 wr => ∃ (i : Nat) (ao : Option Addr) (ac : Nat) (al : List (List UInt8 × List UInt8)), i ≤ 3 ∧ v5 = .int .i64 (i : Int) ∧ al.length = i ∧ Hid (Xm.NiceA al) ∧ Hid (Xm.Und w B N wr SP NM (.slice ao i ac) (.slice none 0 0) al [] []) ∧ Hid (Xm.RowN wr X #[.string sp, .string nm, .slice a1 n1 c1, .slice a2 n2 c2, .string tx])) (fun v5 _ => 3 - (intOf v5).toNat)
  case atStart => exact ⟨0, none, 0, [], Nat.zero_le _, rfl, rfl, Lib.hid Xm.NiceA.nil, HU4, HX4⟩
  case round =>
    obtain ⟨i, ao, ac, al, hi3, rfl, hal, HNA, HU, HXr⟩ := hrel
    rename World => wr
    clear HU4 HX4
    have x2 := (cell_of_row wr X 2 _ _ _ HXr.out).trans rfl
    go_upto_region 4 with fail
    go_cut [27] from 19 to 64 (fun v27 wx => v27 = .bool (decide (i < n1 ∧ i < 3)) ∧ wx = wr)
    case first =>
      by_cases hn : i < n1
      · have hd1 : decide ((i : Int) < (n1 : Int)) = true := by simp; omega
        by_cases h3 : i < 3
        · have hd2 : decide ((i : Int) < 3) = true := by simp; omega
          go_wp2_with fail
          go_meet
          case rel => exact ⟨by rw [decide_eq_true (⟨hn, h3⟩ : i < n1 ∧ i < 3)], rfl⟩
        · have hd2 : decide ((i : Int) < 3) = false := by simp; omega
          go_wp2_with fail
          go_meet
          case rel => exact ⟨by rw [decide_eq_false (fun h : i < n1 ∧ i < 3 => h3 h.2)], rfl⟩
      · have hd1 : decide ((i : Int) < (n1 : Int)) = false := by simp; omega
        go_wp2_with fail
        go_meet
        case rel => exact ⟨by rw [decide_eq_false (fun h : i < n1 ∧ i < 3 => hn h.1)], rfl⟩
    case rest =>
      obtain ⟨rfl, hwx⟩ := hcut
      have hwx := hwx.symm
      subst hwx
      clear x2
      by_cases hlt : i < n1 ∧ i < 3
      · have hd : decide (i < n1 ∧ i < 3) = true := decide_eq_true hlt
        rw [hd]
        obtain ⟨g, off, rfl, hg, hc0, hc1, hz0, hz1⟩ := H1.out i hlt.1
        obtain ⟨fn, hfn⟩ : ∃ x, x = (f i).1 := ⟨_, rfl⟩
        obtain ⟨fv, hfv⟩ : ∃ x, x = (f i).2 := ⟨_, rfl⟩
        rw [← hfn] at hc0 hz0
        rw [← hfv] at hc1 hz1
        have HC0 : Hid (∀ wq, Flow.Grow wr wq → wq.cell? ⟨g, off + i * 2, none⟩ = some (.string fn)) := Lib.hid (fun wq hq => (Xm.cell_grow (HU.out.grow.trans hq) hg).trans hc0)
        have HC1 : Hid (∀ wq, Flow.Grow wr wq → wq.cell? ⟨g, off + i * 2 + 1, none⟩ = some (.string fv)) := Lib.hid (fun wq hq => (Xm.cell_grow (HU.out.grow.trans hq) hg).trans hc1)
        obtain ⟨ml, hml, hmn, hm7⟩ := Xm.nm_nl 5 (by omega) fn
        have HML := Lib.hid hml
        have hd9 : (fv.extract 0 (min (fv.size : Int) 9).toNat).size ≤ 9 := by simp; omega
        obtain ⟨pv, hpv, hpvt, hpvz⟩ := Xm.plain_vt (fv.extract 0 (min (fv.size : Int) 9).toNat)
        have HPV := Lib.hid hpv
        obtain ⟨i0, hi, hq0, hq1, hq2⟩ := info_parts info_attr
        have Hi0 := Lib.hid (And.intro hi (And.intro hq0 (And.intro hq1 hq2)))
        have Hz := Lib.hid (And.intro hz0 hz1)
        clear hc0 hc1 hg hfn hfv hml hpv hi hq0 hq1 hq2 hz0 hz1
        have e2 : ¬ (n1 : Int) ≤ (i : Int) := by omega
        go_upto_region 6 with fail
        have Hb : Hid (((UInt8.ofNat (65 + i)).toNat : Int) = ((65 + i : Nat) : Int)) := Lib.hid (Xm.u8n (by omega))
        refine Flow.region_tail3 (R := Flow.Grow) (C := fun wq => Flow.Grow wr wq) (Fs := [.inl (.pointer (some ⟨N, 2, none⟩)), .inl (.slice ao i ac), .inl (.pointer (some ⟨X, 2, none⟩)), .inl (.slice (some ⟨g, off, none⟩) n1 c1), .inl ((.int .i64 (i : Int))), .inl (.pointer (some ⟨g, off + i * 2, none⟩)), .inl (.pointer (some ⟨g, off + i * 2, none⟩)), .inl (.string fn), .inl (.string (str ml)), .inl ((.int .i64 (i : Int))), .inl (.int .i64 ((65 + i : Nat) : Int)), .inl (u8v (UInt8.ofNat (65 + i))), .inr (fun v w => Bytes w v [UInt8.ofNat (65 + i)]), .inl (.string (str [UInt8.ofNat (65 + i)])), .inl (.string (str (ml ++ [UInt8.ofNat (65 + i)]))), .inl (.pointer (some ⟨X, 2, none⟩)), .inl (.slice (some ⟨g, off, none⟩) n1 c1), .inl ((.int .i64 (i : Int))), .inl (.pointer (some ⟨g, off + i * 2, none⟩)), .inl (.pointer (some ⟨g, off + i * 2 + 1, none⟩)), .inl (.string fv), .inl (.pointer (some ⟨X, 2, none⟩)), .inl (.slice (some ⟨g, off, none⟩) n1 c1), .inl ((.int .i64 (i : Int))), .inl (.pointer (some ⟨g, off + i * 2, none⟩)), .inl (.pointer (some ⟨g, off + i * 2 + 1, none⟩)), .inl (.string fv), .inl (.int .i64 (fv.size : Int)), .inl (.int .i64 (min (fv.size : Int) 9)), .inl (.string (fv.extract 0 (min (fv.size : Int) 9).toNat)), .inl (.string (str pv)), .inl (.agg #[.string (str (ml ++ [UInt8.ofNat (65 + i)])), .string (str pv)]), .inr (fun v w => ∃ q, v = .slice (some ⟨q, 0, none⟩) 1 1 ∧ w.heap[q]? = some (.cells #[.string (str (ml ++ [UInt8.ofNat (65 + i)])), .string (str pv)] 41 (0, 0)))]) (T := fun v w' => ∃ ao' ac', v = .slice ao' (i + 1) ac' ∧ Hid (Xm.RowN w' N #[.string SP, .string NM, .slice ao i ac, .slice none 0 0, .string ⟨#[]⟩] ∧ Xm.RowN w' X #[.string sp, .string nm, .slice (some ⟨g, off, none⟩) n1 c1, .slice a2 n2 c2, .string tx] ∧ Xm.OwnA w' B v (Xm.bsA (al ++ [(ml ++ [UInt8.ofNat (65 + i)], pv)])) ∧ Flow.Grow w w' ∧ B ≤ w'.heap.size)) (c := .pointer (some ⟨N, 2, none⟩))
          (S := [[], [0], [], [2], [], [2, 3, 4], [2, 3, 4, 5], [2, 3, 4, 5, 6], [2, 3, 4, 5, 6, 7], [], [9], [9, 10], [9, 10, 11], [9, 10, 11, 12], [2, 3, 4, 5, 6, 7, 8, 9, 10, 11, 12, 13], [], [15], [], [15, 16, 17], [15, 16, 17, 18], [15, 16, 17, 18, 19], [], [21], [], [21, 22, 23], [21, 22, 23, 24], [21, 22, 23, 24, 25], [21, 22, 23, 24, 25, 26], [21, 22, 23, 24, 25, 26, 27], [15, 16, 17, 18, 19, 20, 21, 22, 23, 24, 25, 26, 27, 28], [15, 16, 17, 18, 19, 20, 21, 22, 23, 24, 25, 26, 27, 28, 29], [2, 3, 4, 5, 6, 7, 8, 9, 10, 11, 12, 13, 14, 15, 16, 17, 18, 19, 20, 21, 22, 23, 24, 25, 26, 27, 28, 29, 30], [2, 3, 4, 5, 6, 7, 8, 9, 10, 11, 12, 13, 14, 15, 16, 17, 18, 19, 20, 21, 22, 23, 24, 25, 26, 27, 28, 29, 30, 31], [0, 1, 2, 3, 4, 5, 6, 7, 8, 9, 10, 11, 12, 13, 14, 15, 16, 17, 18, 19, 20, 21, 22, 23, 24, 25, 26, 27, 28, 29, 30, 31, 32]]) 33 (by kernel_rfl) rfl rfl rfl (by kernel_rfl) (by kernel_rfl) rfl ?stab6 Flow.grow_refl (fun _ _ h k => h.trans k) (Flow.grow_drew _) ?ones6 ?app6 ?place6 ?ends6
        case ones6 =>
          refine Flow.Ones.cons ?_ ?_
          · intro a w hC hoff _
            have e4 : a.eval (.tmp 4) = (.pointer (some ⟨N, 0, none⟩)) := hoff.at 4 (by kernel_rfl)
            refine .inl ⟨Flow.want_none rfl, ?_⟩
            refine Flow.run_same ?_ Flow.grow_refl
            have ec := Flow.eval_const a
            generalize a.eval = ρ at e4 ec ⊢
            simp [execOp, e4, go_sem]
          refine Flow.Ones.cons ?_ ?_
          · rintro a w hC hoff ⟨k0, -⟩
            have e30 : a.eval (.tmp 30) = .pointer (some ⟨N, 2, none⟩) := k0 30 rfl
            refine .inl ⟨Flow.want_none rfl, ?_⟩
            refine Flow.run_same ?_ Flow.grow_refl
            have ec := Flow.eval_const a
            generalize a.eval = ρ at e30 ec ⊢
            have hc := (cell_of_row w N 2 _ _ _ (HU.out.more hC).row).trans rfl
            simp [execOp, e30, hc, go_sem]
          refine Flow.Ones.cons ?_ ?_
          · intro a w hC hoff _
            have e2 : a.eval (.tmp 2) = (.pointer (some ⟨X, 0, none⟩)) := hoff.at 2 (by kernel_rfl)
            refine .inl ⟨Flow.want_none rfl, ?_⟩
            refine Flow.run_same ?_ Flow.grow_refl
            have ec := Flow.eval_const a
            generalize a.eval = ρ at e2 ec ⊢
            simp [execOp, e2, go_sem]
          refine Flow.Ones.cons ?_ ?_
          · rintro a w hC hoff ⟨k2, -⟩
            have e32 : a.eval (.tmp 32) = .pointer (some ⟨X, 2, none⟩) := k2 32 rfl
            refine .inl ⟨Flow.want_none rfl, ?_⟩
            refine Flow.run_same ?_ Flow.grow_refl
            have ec := Flow.eval_const a
            generalize a.eval = ρ at e32 ec ⊢
            have hc := (cell_of_row w X 2 _ _ _ (HXr.out.grow hC)).trans rfl
            simp [execOp, e32, hc, go_sem]
          refine Flow.Ones.cons ?_ ?_
          · intro a w hC hoff _
            have e5 : a.eval (.tmp 5) = (.int .i64 (i : Int)) := hoff.at 5 (by kernel_rfl)
            refine .inl ⟨Flow.want_none rfl, ?_⟩
            exact Flow.run_same (Flow.exec_move (.inl rfl) e5) Flow.grow_refl
          refine Flow.Ones.cons ?_ ?_
          · rintro a w hC hoff ⟨_, k3, k4, -⟩
            have e33 : a.eval (.tmp 33) = .slice (some ⟨g, off, none⟩) n1 c1 := k3 33 rfl
            have e34 : a.eval (.tmp 34) = (.int .i64 (i : Int)) := k4 34 rfl
            refine .inl ⟨Flow.want_none rfl, ?_⟩
            refine Flow.run_same ?_ Flow.grow_refl
            have ec := Flow.eval_const a
            generalize a.eval = ρ at e33 e34 ec ⊢
            simp [execOp, e33, e34, go_sem]; intro hh; omega
          refine Flow.Ones.cons ?_ ?_
          · rintro a w hC hoff ⟨_, _, _, k5, -⟩
            have e35 : a.eval (.tmp 35) = .pointer (some ⟨g, off + i * 2, none⟩) := k5 35 rfl
            refine .inl ⟨Flow.want_none rfl, ?_⟩
            refine Flow.run_same ?_ Flow.grow_refl
            have ec := Flow.eval_const a
            generalize a.eval = ρ at e35 ec ⊢
            simp [execOp, e35, go_sem]
          refine Flow.Ones.cons ?_ ?_
          · rintro a w hC hoff ⟨_, _, _, _, k6, -⟩
            have e36 : a.eval (.tmp 36) = .pointer (some ⟨g, off + i * 2, none⟩) := k6 36 rfl
            refine .inl ⟨Flow.want_none rfl, ?_⟩
            refine Flow.run_same ?_ Flow.grow_refl
            have ec := Flow.eval_const a
            generalize a.eval = ρ at e36 ec ⊢
            have hc := HC0.out w hC
            simp [execOp, e36, hc, go_sem]
          refine Flow.Ones.cons ?_ ?_
          · rintro a w hC hoff ⟨_, _, _, _, _, k7, -⟩
            have e37 : a.eval (.tmp 37) = .string fn := k7 37 rfl
            refine .inl ⟨Flow.want_none rfl, ?_⟩
            exact Flow.run_call (Flow.exec_call (args := #[(.string fn)]) rfl Tryz.func12 (by kernel_rfl) (by kernel_rfl) (by simp only [List.map_toArray, List.map_cons, List.map_nil, e37] <;> rfl)) ((name6_any fn w Hz.out.1).mono fun e w' ⟨he, hg⟩ => ⟨_, he, hg, by rw [HML.out]; rfl⟩)
          refine Flow.Ones.cons ?_ ?_
          · intro a w hC hoff _
            have e5 : a.eval (.tmp 5) = (.int .i64 (i : Int)) := hoff.at 5 (by kernel_rfl)
            refine .inl ⟨Flow.want_none rfl, ?_⟩
            exact Flow.run_same (Flow.exec_move (.inl rfl) e5) Flow.grow_refl
          refine Flow.Ones.cons ?_ ?_
          · rintro a w hC hoff ⟨k9, -⟩
            have e39 : a.eval (.tmp 39) = (.int .i64 (i : Int)) := k9 39 rfl
            refine .inl ⟨Flow.want_none rfl, ?_⟩
            refine Flow.run_same ?_ Flow.grow_refl
            have ec := Flow.eval_const a
            generalize a.eval = ρ at e39 ec ⊢
            simp [execOp, e39, ec, go_sem]; exact IntWalk.i64_in _ (by omega)
          refine Flow.Ones.cons ?_ ?_
          · rintro a w hC hoff ⟨_, k10, -⟩
            have e40 : a.eval (.tmp 40) = .int .i64 ((65 + i : Nat) : Int) := k10 40 rfl
            refine .inl ⟨Flow.want_none rfl, ?_⟩
            refine Flow.run_same ?_ Flow.grow_refl
            have ec := Flow.eval_const a
            generalize a.eval = ρ at e40 ec ⊢
            rw [u8v, Hb.out]; simp [execOp, e40, go_sem]; exact IntWalk.u8_in _ (by omega)
          refine Flow.Ones.cons ?_ ?_
          · rintro a w hC hoff ⟨_, _, k11, -⟩
            have e41 : a.eval (.tmp 41) = u8v (UInt8.ofNat (65 + i)) := k11 41 rfl
            refine .inl ⟨Flow.want_none rfl, ?_⟩
            refine Flow.run_val (v := .slice (some ⟨w.heap.size, 0, none⟩) 1 1) (w' := w.alloc (.cells #[u8v (UInt8.ofNat (65 + i))] 5)) ?_ (Flow.grow_alloc _ _) ?_
            · generalize a.eval = ρ at e41 ⊢; simp [execOp, e41, u8v, go_sem]
            · exact Bytes.of_own (World.ownsRow_lit (e := 5) w #[_] 1 (Nat.zero_le _) (by decide) rfl) (by simp)
          refine Flow.Ones.cons ?_ ?_
          · rintro a w hC hoff ⟨_, _, _, k12, -⟩
            have e42 : (fun v w => Bytes w v [UInt8.ofNat (65 + i)]) (a.eval (.tmp 42)) w := k12 42 rfl
            refine .inl ⟨Flow.want_none rfl, ?_⟩
            exact Flow.run_same (exec_str 5 rfl rfl e42 Tryz.underlying42 Tryz.underlying5 Tryz.underlying9) Flow.grow_refl
          refine Flow.Ones.cons ?_ ?_
          · rintro a w hC hoff ⟨_, _, _, _, _, _, k8, _, _, _, _, k13, -⟩
            have e38 : a.eval (.tmp 38) = .string (str ml) := k8 38 rfl
            have e43 : a.eval (.tmp 43) = .string (str [UInt8.ofNat (65 + i)]) := k13 43 rfl
            refine .inl ⟨Flow.want_none rfl, ?_⟩
            exact Flow.run_same (exec_add_str Tryz.underlying9 rfl e38 e43 rfl (by simp; omega)) Flow.grow_refl
          refine Flow.Ones.cons ?_ ?_
          · intro a w hC hoff _
            have e2 : a.eval (.tmp 2) = (.pointer (some ⟨X, 0, none⟩)) := hoff.at 2 (by kernel_rfl)
            refine .inl ⟨Flow.want_none rfl, ?_⟩
            refine Flow.run_same ?_ Flow.grow_refl
            have ec := Flow.eval_const a
            generalize a.eval = ρ at e2 ec ⊢
            simp [execOp, e2, go_sem]
          refine Flow.Ones.cons ?_ ?_
          · rintro a w hC hoff ⟨k15, -⟩
            have e45 : a.eval (.tmp 45) = .pointer (some ⟨X, 2, none⟩) := k15 45 rfl
            refine .inl ⟨Flow.want_none rfl, ?_⟩
            refine Flow.run_same ?_ Flow.grow_refl
            have ec := Flow.eval_const a
            generalize a.eval = ρ at e45 ec ⊢
            have hc := (cell_of_row w X 2 _ _ _ (HXr.out.grow hC)).trans rfl
            simp [execOp, e45, hc, go_sem]
          refine Flow.Ones.cons ?_ ?_
          · intro a w hC hoff _
            have e5 : a.eval (.tmp 5) = (.int .i64 (i : Int)) := hoff.at 5 (by kernel_rfl)
            refine .inl ⟨Flow.want_none rfl, ?_⟩
            exact Flow.run_same (Flow.exec_move (.inl rfl) e5) Flow.grow_refl
          refine Flow.Ones.cons ?_ ?_
          · rintro a w hC hoff ⟨_, k16, k17, -⟩
            have e46 : a.eval (.tmp 46) = .slice (some ⟨g, off, none⟩) n1 c1 := k16 46 rfl
            have e47 : a.eval (.tmp 47) = (.int .i64 (i : Int)) := k17 47 rfl
            refine .inl ⟨Flow.want_none rfl, ?_⟩
            refine Flow.run_same ?_ Flow.grow_refl
            have ec := Flow.eval_const a
            generalize a.eval = ρ at e46 e47 ec ⊢
            simp [execOp, e46, e47, go_sem]; intro hh; omega
          refine Flow.Ones.cons ?_ ?_
          · rintro a w hC hoff ⟨_, _, _, k18, -⟩
            have e48 : a.eval (.tmp 48) = .pointer (some ⟨g, off + i * 2, none⟩) := k18 48 rfl
            refine .inl ⟨Flow.want_none rfl, ?_⟩
            refine Flow.run_same ?_ Flow.grow_refl
            have ec := Flow.eval_const a
            generalize a.eval = ρ at e48 ec ⊢
            simp [execOp, e48, go_sem]
          refine Flow.Ones.cons ?_ ?_
          · rintro a w hC hoff ⟨_, _, _, _, k19, -⟩
            have e49 : a.eval (.tmp 49) = .pointer (some ⟨g, off + i * 2 + 1, none⟩) := k19 49 rfl
            refine .inl ⟨Flow.want_none rfl, ?_⟩
            refine Flow.run_same ?_ Flow.grow_refl
            have ec := Flow.eval_const a
            generalize a.eval = ρ at e49 ec ⊢
            have hc := HC1.out w hC
            simp [execOp, e49, hc, go_sem]
          refine Flow.Ones.cons ?_ ?_
          · intro a w hC hoff _
            have e2 : a.eval (.tmp 2) = (.pointer (some ⟨X, 0, none⟩)) := hoff.at 2 (by kernel_rfl)
            refine .inl ⟨Flow.want_none rfl, ?_⟩
            refine Flow.run_same ?_ Flow.grow_refl
            have ec := Flow.eval_const a
            generalize a.eval = ρ at e2 ec ⊢
            simp [execOp, e2, go_sem]
          refine Flow.Ones.cons ?_ ?_
          · rintro a w hC hoff ⟨k21, -⟩
            have e51 : a.eval (.tmp 51) = .pointer (some ⟨X, 2, none⟩) := k21 51 rfl
            refine .inl ⟨Flow.want_none rfl, ?_⟩
            refine Flow.run_same ?_ Flow.grow_refl
            have ec := Flow.eval_const a
            generalize a.eval = ρ at e51 ec ⊢
            have hc := (cell_of_row w X 2 _ _ _ (HXr.out.grow hC)).trans rfl
            simp [execOp, e51, hc, go_sem]
          refine Flow.Ones.cons ?_ ?_
          · intro a w hC hoff _
            have e5 : a.eval (.tmp 5) = (.int .i64 (i : Int)) := hoff.at 5 (by kernel_rfl)
            refine .inl ⟨Flow.want_none rfl, ?_⟩
            exact Flow.run_same (Flow.exec_move (.inl rfl) e5) Flow.grow_refl
          refine Flow.Ones.cons ?_ ?_
          · rintro a w hC hoff ⟨_, k22, k23, -⟩
            have e52 : a.eval (.tmp 52) = .slice (some ⟨g, off, none⟩) n1 c1 := k22 52 rfl
            have e53 : a.eval (.tmp 53) = (.int .i64 (i : Int)) := k23 53 rfl
            refine .inl ⟨Flow.want_none rfl, ?_⟩
            refine Flow.run_same ?_ Flow.grow_refl
            have ec := Flow.eval_const a
            generalize a.eval = ρ at e52 e53 ec ⊢
            simp [execOp, e52, e53, go_sem]; intro hh; omega
          refine Flow.Ones.cons ?_ ?_
          · rintro a w hC hoff ⟨_, _, _, k24, -⟩
            have e54 : a.eval (.tmp 54) = .pointer (some ⟨g, off + i * 2, none⟩) := k24 54 rfl
            refine .inl ⟨Flow.want_none rfl, ?_⟩
            refine Flow.run_same ?_ Flow.grow_refl
            have ec := Flow.eval_const a
            generalize a.eval = ρ at e54 ec ⊢
            simp [execOp, e54, go_sem]
          refine Flow.Ones.cons ?_ ?_
          · rintro a w hC hoff ⟨_, _, _, _, k25, -⟩
            have e55 : a.eval (.tmp 55) = .pointer (some ⟨g, off + i * 2 + 1, none⟩) := k25 55 rfl
            refine .inl ⟨Flow.want_none rfl, ?_⟩
            refine Flow.run_same ?_ Flow.grow_refl
            have ec := Flow.eval_const a
            generalize a.eval = ρ at e55 ec ⊢
            have hc := HC1.out w hC
            simp [execOp, e55, hc, go_sem]
          refine Flow.Ones.cons ?_ ?_
          · rintro a w hC hoff ⟨_, _, _, _, _, k26, -⟩
            have e56 : a.eval (.tmp 56) = .string fv := k26 56 rfl
            refine .inl ⟨Flow.want_none rfl, ?_⟩
            refine Flow.run_same ?_ Flow.grow_refl
            have ec := Flow.eval_const a
            generalize a.eval = ρ at e56 ec ⊢
            simp [e56, go_sem]
          refine Flow.Ones.cons ?_ ?_
          · rintro a w hC hoff ⟨_, _, _, _, _, _, k27, -⟩
            have e57 : a.eval (.tmp 57) = .int .i64 (fv.size : Int) := k27 57 rfl
            refine .inl ⟨Flow.want_none rfl, ?_⟩
            refine Flow.run_same ?_ Flow.grow_refl
            have ec := Flow.eval_const a
            generalize a.eval = ρ at e57 ec ⊢
            simp [e57, ec, go_sem]
          refine Flow.Ones.cons ?_ ?_
          · rintro a w hC hoff ⟨_, _, _, _, _, k20, _, _, _, _, _, _, _, k28, -⟩
            have e50 : a.eval (.tmp 50) = .string fv := k20 50 rfl
            have e58 : a.eval (.tmp 58) = .int .i64 (min (fv.size : Int) 9) := k28 58 rfl
            refine .inl ⟨Flow.want_none rfl, ?_⟩
            refine Flow.run_same ?_ Flow.grow_refl
            have ec := Flow.eval_const a
            generalize a.eval = ρ at e50 e58 ec ⊢
            simp [execOp, e50, e58, go_sem]; try omega
          refine Flow.Ones.cons ?_ ?_
          · rintro a w hC hoff ⟨_, _, _, _, _, _, _, _, _, _, _, _, _, _, k29, -⟩
            have e59 : a.eval (.tmp 59) = .string (fv.extract 0 (min (fv.size : Int) 9).toNat) := k29 59 rfl
            refine .inl ⟨Flow.want_none rfl, ?_⟩
            exact Flow.run_call (Flow.exec_call (args := #[(.string (fv.extract 0 (min (fv.size : Int) 9).toNat))]) rfl Tryz.func13 (by kernel_rfl) (by kernel_rfl) (by simp only [List.map_toArray, List.map_cons, List.map_nil, e59] <;> rfl)) ((rplain_any _ w (by omega)).mono fun e w' ⟨he, hg⟩ => ⟨_, he, hg, by rw [HPV.out]; rfl⟩)
          refine Flow.Ones.cons ?_ ?_
          · rintro a w hC hoff ⟨_, _, _, _, _, _, _, _, _, _, _, _, k14, _, _, _, _, _, _, _, _, _, _, _, _, _, _, _, k30, -⟩
            have e44 : a.eval (.tmp 44) = .string (str (ml ++ [UInt8.ofNat (65 + i)])) := k14 44 rfl
            have e60 : a.eval (.tmp 60) = .string (str pv) := k30 60 rfl
            refine .inl ⟨Flow.want_none rfl, ?_⟩
            refine Flow.run_same ?_ Flow.grow_refl
            have ec := Flow.eval_const a
            generalize a.eval = ρ at e44 e60 ec ⊢
            simp [execOp, e44, e60, go_sem]
          refine Flow.Ones.cons ?_ ?_
          · rintro a w hC hoff ⟨_, _, _, _, _, _, _, _, _, _, _, _, _, _, _, _, _, _, _, _, _, _, _, _, _, _, _, _, _, k31, -⟩
            have e61 : a.eval (.tmp 61) = .agg #[.string (str (ml ++ [UInt8.ofNat (65 + i)])), .string (str pv)] := k31 61 rfl
            refine .inl ⟨Flow.want_none rfl, ?_⟩
            refine Flow.run_val (v := .slice (some ⟨w.heap.size, 0, none⟩) 1 1) (w' := w.alloc (.cells #[.string (str (ml ++ [UInt8.ofNat (65 + i)])), .string (str pv)] 41)) ?_ (Flow.grow_alloc _ _) ⟨_, rfl, heap_alloc_new _ _⟩
            generalize str (ml ++ [UInt8.ofNat (65 + i)]) = XX at e61 ⊢
            generalize a.eval = ρ at e61 ⊢
            simp [execOp, e61, go_sem]
          exact trivial
        case place6 =>
          intro a w hoff
          have e4 : a.eval (.tmp 4) = (.pointer (some ⟨N, 0, none⟩)) := hoff.at 4 (by kernel_rfl)
          generalize a.eval = ρ at e4 ⊢
          simp [execOp, e4, go_sem]
        case app6 =>
          intro a w hC hoff hk
          have e31 : a.eval (.tmp 31) = .slice ao i ac := hk 1 (by decide) 31 rfl
          have e62 : (fun v w => ∃ q, v = .slice (some ⟨q, 0, none⟩) 1 1 ∧ w.heap[q]? = some (.cells #[.string (str (ml ++ [UInt8.ofNat (65 + i)])), .string (str pv)] 41 (0, 0))) (a.eval (.tmp 62)) w := hk 32 (by decide) 62 rfl
          obtain ⟨q, hq, hrow⟩ := e62
          have U := HU.out.more hC
          have hown := U.att
          unfold Xm.OwnA at hown
          rw [show (Xm.bsA al).length = i by simp [Xm.bsA, hal]] at hown
          have Q := Hi0.out
          refine exec_append_T (P := Tryz.prog) (.tmp 31) (.tmp 62) 22 rfl 41 i0 (.agg #[.string ByteArray.empty, .string ByteArray.empty]) 2 32 Tryz.underlying22 Q.1 Q.2.1 Q.2.2.1 Q.2.2.2 rfl (by decide) (.slice ao i ac) i (Xm.attrCells (Xm.bsA al)) e31 (ownsRow_zero hown) ⟨q, 0, none⟩ 1 1 [.string (str (ml ++ [UInt8.ofNat (65 + i)])), .string (str pv)] hq rfl
            (by
              intro j u hj
              have c0 := (cell_of_row w q 0 _ _ _ hrow).trans rfl
              have c1 := (cell_of_row w q 1 _ _ _ hrow).trans rfl
              match j, hj with
              | 0, hj => rw [← hj, Addr.add_lit]; exact c0
              | 1, hj => rw [← hj, Addr.add_lit]; exact c1)
            (by intro u hu; simp at hu; rcases hu with rfl | rfl <;> rfl) (by unfold maxLen; omega) (by omega) (fun v' w' h2 h3 h4 => ?_)
          have hA := HU.out.attr (X := X) (a := (ml ++ [UInt8.ofNat (65 + i)], pv)) hC HXr.out HB.out.1 HB.out.2.1 hal h2 h3 h4 HB.out.2.2
          obtain ⟨ao', ac', hv'⟩ : ∃ a c, v' = .slice a (i + 1) c := by
            rcases h2.2 with ⟨h, h0⟩ | ⟨g, cap, cur, h, _⟩
            · omega
            · exact ⟨_, cap, h⟩
          exact ⟨ao', ac', hv', Lib.hid hA⟩
        case stab6 => exact ⟨fun v w w' hR h => h.grow hR, fun v w w' hR ⟨q, h1, h2⟩ => ⟨q, h1, (hR.block q (Array.getElem?_eq_some_iff.1 h2).1 (by simp)).trans h2⟩, trivial⟩
        case ends6 =>
          intro wz
          simp only [List.take_succ_cons, List.take_zero, List.replicate, List.cons_append, List.nil_append, Flow.ends]
          simp only [Act.put, List.setIfInBounds_toArray, List.set_cons_succ, List.set_cons_zero]
          iterate 33 (intro _ _)
          intro v63 h63
          obtain ⟨ao', ac', rfl, hT⟩ := h63
          have y2 := (cell_of_row wz N 2 _ _ _ hT.out.1).trans rfl
          have yf : ∀ j, wz.frozen? ⟨N, j, none⟩ = false := fun j => frozen_of_row wz N _ _ _ hT.out.1
          unfold Oper.wp
          simp [execOp, y2, yf, go_sem]
          have hU := Xm.Und.attr2 hT.out HB.out.2.1 (by have := HNX.out; omega) (by have := HNX.out; have := HXw.out; omega)
          have HU2 := Lib.hid hU.1
          have HX2 := Lib.hid hU.2
          clear hU hT y2 yf
          go_wp2_with fail
          go_roundw
          case rel => exact ⟨i + 1, ao', ac', al ++ [(ml ++ [UInt8.ofNat (65 + i)], pv)], by omega, by first | rfl | go_num, by simp [hal], Lib.hid (by have h := HNA.out.snoc (by omega) hmn hm7 hpvt (by omega : pv.length ≤ 9); rw [hal] at h; exact h), HU2, HX2⟩
          case measure => simp only [intOf]; omega
      · have hd : decide (i < n1 ∧ i < 3) = false := decide_eq_false hlt
        rw [hd]
        have x3 := (cell_of_row wr X 3 _ _ _ HXr.out).trans rfl
        go_upto_region 7 with fail
        go_cut [72] (fun v72 wx => v72 = .bool (decide (1 ≤ d ∧ 0 < n2)) ∧ wx = wr)
        case first =>
          by_cases hd1 : 1 ≤ d
          · have g1 : (1 : Int) < (d : Int) + 1 := by omega
            by_cases hn2 : 0 < n2
            · have g2 : (0 : Int) < (n2 : Int) := by omega
              have g2' : decide ((0 : Int) < (n2 : Int)) = true := by simp; omega
              have g1' : decide ((1 : Int) < (d : Int) + 1) = true := by simp; omega
              go_wp2_with fail
              go_meet
              case rel => exact ⟨by rw [decide_eq_true (⟨hd1, hn2⟩ : 1 ≤ d ∧ 0 < n2)], rfl⟩
            · have g2 : ¬ (0 : Int) < (n2 : Int) := by omega
              have g2' : decide ((0 : Int) < (n2 : Int)) = false := by simp; omega
              have g1' : decide ((1 : Int) < (d : Int) + 1) = true := by simp; omega
              go_wp2_with fail
              go_meet
              case rel => exact ⟨by rw [decide_eq_false (fun h : 1 ≤ d ∧ 0 < n2 => hn2 h.2)], rfl⟩
          · have g1 : ¬ (1 : Int) < (d : Int) + 1 := by omega
            have g1' : decide ((1 : Int) < (d : Int) + 1) = false := by simp; omega
            go_wp2_with fail
            go_meet
            case rel => exact ⟨by rw [decide_eq_false (fun h : 1 ≤ d ∧ 0 < n2 => hd1 h.1)], rfl⟩
        case rest =>
          obtain ⟨rfl, hwx⟩ := hcut
          have hwx := hwx.symm
          subst hwx
          clear x3
          by_cases hk : 1 ≤ d ∧ 0 < n2
          · have hdk : decide (1 ≤ d ∧ 0 < n2) = true := decide_eq_true hk
            rw [hdk]
            obtain ⟨i1, hj, hj0, hj1, hj2⟩ := info_parts info_nodeN
            have Hi1 := Lib.hid (And.intro hj (And.intro hj0 (And.intro hj1 hj2)))
            have Hd1 := Lib.hid hk.1
            clear hj hj0 hj1 hj2 hd hdk
            go_wp2_with fail
            go_loopw [6] (fun v6 wz => ∃ (j : Nat) (ko : Option Addr) (kc : Nat) (ks : List Xm.Nod) (vs : List Xm.V5), j ≤ 3 ∧ v6 = .int .i64 (j : Int) ∧ vs.length = j ∧ ks.length = j ∧ Hid ((∀ y ∈ ks, Xm.Nice d y) ∧ (j < min n2 3 ∨ ks ≠ [])) ∧ Hid (Xm.Und w B N wz SP NM (.slice ao i ac) (.slice ko j kc) al ks vs) ∧ Hid (Xm.RowN wz X #[.string sp, .string nm, .slice a1 n1 c1, .slice a2 n2 c2, .string tx])) (fun v6 _ => 3 - (intOf v6).toNat)
            case atStart => exact ⟨0, none, 0, [], [], Nat.zero_le _, rfl, rfl, rfl, Lib.hid ⟨fun y hy => (by cases hy), .inl (by have := hk.2; omega)⟩, HU, HXr⟩
            case round =>
              obtain ⟨j, ko, kc, ks, vs, hj3, rfl, hvl, hkl, HKN, HU2, HX2⟩ := hrel
              rename World => wz
              clear HU HXr
              have x3 := (cell_of_row wz X 3 _ _ _ HX2.out).trans rfl
              go_upto_region 9 with fail
              go_cut [81] from 73 to 96 (fun v81 wx => v81 = .bool (decide (j < n2 ∧ j < 3)) ∧ wx = wz)
              case first =>
                by_cases hn : j < n2
                · have hd1 : decide ((j : Int) < (n2 : Int)) = true := by simp; omega
                  by_cases h3 : j < 3
                  · have hd2 : decide ((j : Int) < 3) = true := by simp; omega
                    go_wp2_with fail
                    go_meet
                    case rel => exact ⟨by rw [decide_eq_true (⟨hn, h3⟩ : j < n2 ∧ j < 3)], rfl⟩
                  · have hd2 : decide ((j : Int) < 3) = false := by simp; omega
                    go_wp2_with fail
                    go_meet
                    case rel => exact ⟨by rw [decide_eq_false (fun h : j < n2 ∧ j < 3 => h3 h.2)], rfl⟩
                · have hd1 : decide ((j : Int) < (n2 : Int)) = false := by simp; omega
                  go_wp2_with fail
                  go_meet
                  case rel => exact ⟨by rw [decide_eq_false (fun h : j < n2 ∧ j < 3 => hn h.1)], rfl⟩
              case rest =>
                obtain ⟨rfl, hwx⟩ := hcut
                have hwx := hwx.symm
                subst hwx
                clear x3
                by_cases hlt2 : j < n2 ∧ j < 3
                · have hd2 : decide (j < n2 ∧ j < 3) = true := decide_eq_true hlt2
                  rw [hd2]
                  obtain ⟨g, off, rfl, hg, k0, k1, k2, k3, k4⟩ := H2.out j hlt2.1
                  have harg := H3.out j hlt2.1
                  generalize h j = vj at k0 k1 k2 k3 k4 harg
                  obtain ⟨b0, b1, b4, q1, q2, r1, s1, r2, s2, hform⟩ := harg.form
                  obtain ⟨v0, v1, v2, v3, v4⟩ := vj
                  simp only at k0 k1 k2 k3 k4
                  have he : (#[v0, v1, v2, v3, v4] : Array Value) = #[.string b0, .string b1, .slice q1 r1 s1, .slice q2 r2 s2, .string b4] := by
                    unfold Xm.V5.agg at hform; injection hform
                  simp at he
                  obtain ⟨rfl, rfl, rfl, rfl, rfl⟩ := he
                  have HC : Hid (∀ wq, Flow.Grow wz wq → wq.cell? ⟨g, off + j * 5, none⟩ = some (.string b0) ∧ wq.cell? ⟨g, off + j * 5 + 1, none⟩ = some (.string b1) ∧ wq.cell? ⟨g, off + j * 5 + 2, none⟩ = some (.slice q1 r1 s1) ∧ wq.cell? ⟨g, off + j * 5 + 3, none⟩ = some (.slice q2 r2 s2) ∧ wq.cell? ⟨g, off + j * 5 + 4, none⟩ = some (.string b4)) := Lib.hid (fun wq hq => by
                    have gg := HU2.out.grow.trans hq
                    exact ⟨(Xm.cell_grow gg hg).trans k0, (Xm.cell_grow gg hg).trans k1, (Xm.cell_grow gg hg).trans k2, (Xm.cell_grow gg hg).trans k3, (Xm.cell_grow gg hg).trans k4⟩)
                  have HArg : Hid (∀ wq, Flow.Grow wz wq → Xm.ArgN wq (.agg #[.string b0, .string b1, .slice q1 r1 s1, .slice q2 r2 s2, .string b4])) := Lib.hid (fun wq hq => harg.grow (HU2.out.grow.trans hq))
                  clear k0 k1 k2 k3 k4 harg hform hg
                  have e2 : ¬ (n2 : Int) ≤ (j : Int) := by omega
                  go_upto_region 11 with fail
                  refine Flow.region_tail3 (R := Flow.Grow) (C := fun wq => Flow.Grow wz wq) (Fs := [.inl (.pointer (some ⟨N, 3, none⟩)), .inl (.slice ko j kc), .inl (.pointer (some ⟨X, 3, none⟩)), .inl (.slice (some ⟨g, off, none⟩) n2 c2), .inl ((.int .i64 (j : Int))), .inl (.pointer (some ⟨g, off + j * 5, none⟩)), .inl (.agg #[.string b0, .string b1, .slice q1 r1 s1, .slice q2 r2 s2, .string b4]), .inl ((.int .i64 ((d : Int) + 1))), .inl (.int .i64 (d : Int)), .inr (fun v w => ∃ (y : Xm.Nod) (u0 u1 u4 : ByteArray) (p2 p3 : Option Addr) (m2 m3 k2 k3 : Nat), v = .agg #[.string u0, .string u1, .slice p2 m2 k2, .slice p3 m3 k3, .string u4] ∧ Hid (Xm.NodAt (fun q => wz.heap.size ≤ q ∧ q < w.heap.size) w v y ∧ Xm.Nice d y)), .inr (fun v w => ∃ (z : Nat) (y : Xm.Nod) (u0 u1 u4 : ByteArray) (p2 p3 : Option Addr) (m2 m3 k2 k3 : Nat), v = .slice (some ⟨z, 0, none⟩) 1 1 ∧ w.heap[z]? = some (.cells #[.string u0, .string u1, .slice p2 m2 k2, .slice p3 m3 k3, .string u4] 25 (0, 0)) ∧ Hid (Xm.NodAt (fun q => wz.heap.size ≤ q ∧ q < w.heap.size) w (.agg #[.string u0, .string u1, .slice p2 m2 k2, .slice p3 m3 k3, .string u4]) y ∧ Xm.Nice d y))]) (T := fun v w' => ∃ (ko' : Option Addr) (kc' : Nat) (y : Xm.Nod) (u : Xm.V5), v = .slice ko' (j + 1) kc' ∧ Hid (Xm.Und3 w B N X w' SP NM (.slice ao i ac) (.slice ko j kc) v al (ks ++ [y]) (vs ++ [u]) #[.string sp, .string nm, .slice a1 n1 c1, .slice (some ⟨g, off, none⟩) n2 c2, .string tx] ∧ Xm.Nice d y)) (c := .pointer (some ⟨N, 3, none⟩))
                    (S := [[], [0], [], [2], [], [2, 3, 4], [2, 3, 4, 5], [], [7], [2, 3, 4, 5, 6, 7, 8], [2, 3, 4, 5, 6, 7, 8, 9], [0, 1, 2, 3, 4, 5, 6, 7, 8, 9, 10]]) 11 (by kernel_rfl) rfl rfl rfl (by kernel_rfl) (by kernel_rfl) rfl ?stab11 Flow.grow_refl (fun _ _ h k => h.trans k) (Flow.grow_drew _) ?ones11 ?app11 ?place11 ?ends11
                  case ones11 =>
                    refine Flow.Ones.cons ?_ ?_
                    · intro a w hC hoff _
                      have e4 : a.eval (.tmp 4) = (.pointer (some ⟨N, 0, none⟩)) := hoff.at 4 (by kernel_rfl)
                      refine .inl ⟨Flow.want_none rfl, ?_⟩
                      refine Flow.run_same ?_ Flow.grow_refl
                      have ec := Flow.eval_const a
                      generalize a.eval = ρ at e4 ec ⊢
                      simp [execOp, e4, go_sem]
                    refine Flow.Ones.cons ?_ ?_
                    · rintro a w hC hoff ⟨k0, -⟩
                      have e84 : a.eval (.tmp 84) = .pointer (some ⟨N, 3, none⟩) := k0 84 rfl
                      refine .inl ⟨Flow.want_none rfl, ?_⟩
                      refine Flow.run_same ?_ Flow.grow_refl
                      have ec := Flow.eval_const a
                      generalize a.eval = ρ at e84 ec ⊢
                      have hc := (cell_of_row w N 3 _ _ _ (HU2.out.more hC).row).trans rfl
                      simp [execOp, e84, hc, go_sem]
                    refine Flow.Ones.cons ?_ ?_
                    · intro a w hC hoff _
                      have e2 : a.eval (.tmp 2) = (.pointer (some ⟨X, 0, none⟩)) := hoff.at 2 (by kernel_rfl)
                      refine .inl ⟨Flow.want_none rfl, ?_⟩
                      refine Flow.run_same ?_ Flow.grow_refl
                      have ec := Flow.eval_const a
                      generalize a.eval = ρ at e2 ec ⊢
                      simp [execOp, e2, go_sem]
                    refine Flow.Ones.cons ?_ ?_
                    · rintro a w hC hoff ⟨k2, -⟩
                      have e86 : a.eval (.tmp 86) = .pointer (some ⟨X, 3, none⟩) := k2 86 rfl
                      refine .inl ⟨Flow.want_none rfl, ?_⟩
                      refine Flow.run_same ?_ Flow.grow_refl
                      have ec := Flow.eval_const a
                      generalize a.eval = ρ at e86 ec ⊢
                      have hc := (cell_of_row w X 3 _ _ _ (HX2.out.grow hC)).trans rfl
                      simp [execOp, e86, hc, go_sem]
                    refine Flow.Ones.cons ?_ ?_
                    · intro a w hC hoff _
                      have e6 : a.eval (.tmp 6) = (.int .i64 (j : Int)) := hoff.at 6 (by kernel_rfl)
                      refine .inl ⟨Flow.want_none rfl, ?_⟩
                      exact Flow.run_same (Flow.exec_move (.inl rfl) e6) Flow.grow_refl
                    refine Flow.Ones.cons ?_ ?_
                    · rintro a w hC hoff ⟨_, k3, k4, -⟩
                      have e87 : a.eval (.tmp 87) = .slice (some ⟨g, off, none⟩) n2 c2 := k3 87 rfl
                      have e88 : a.eval (.tmp 88) = (.int .i64 (j : Int)) := k4 88 rfl
                      refine .inl ⟨Flow.want_none rfl, ?_⟩
                      refine Flow.run_same ?_ Flow.grow_refl
                      have ec := Flow.eval_const a
                      generalize a.eval = ρ at e87 e88 ec ⊢
                      simp [execOp, e87, e88, go_sem]; intro hh; omega
                    refine Flow.Ones.cons ?_ ?_
                    · rintro a w hC hoff ⟨_, _, _, k5, -⟩
                      have e89 : a.eval (.tmp 89) = .pointer (some ⟨g, off + j * 5, none⟩) := k5 89 rfl
                      refine .inl ⟨Flow.want_none rfl, ?_⟩
                      refine Flow.run_same ?_ Flow.grow_refl
                      have ec := Flow.eval_const a
                      generalize a.eval = ρ at e89 ec ⊢
                      obtain ⟨p0, p1, p2, p3, p4⟩ := HC.out w hC
                      simp [execOp, e89, p0, p1, p2, p3, p4, go_sem]
                    refine Flow.Ones.cons ?_ ?_
                    · intro a w hC hoff _
                      have e1 : a.eval (.tmp 1) = (.int .i64 ((d : Int) + 1)) := hoff.at 1 (by kernel_rfl)
                      refine .inl ⟨Flow.want_none rfl, ?_⟩
                      exact Flow.run_same (Flow.exec_move (.inl rfl) e1) Flow.grow_refl
                    refine Flow.Ones.cons ?_ ?_
                    · rintro a w hC hoff ⟨k7, -⟩
                      have e91 : a.eval (.tmp 91) = (.int .i64 ((d : Int) + 1)) := k7 91 rfl
                      refine .inl ⟨Flow.want_none rfl, ?_⟩
                      refine Flow.run_same ?_ Flow.grow_refl
                      have ec := Flow.eval_const a
                      generalize a.eval = ρ at e91 ec ⊢
                      simp [execOp, e91, ec, go_sem]; exact IntWalk.i64_in _ (by omega)
                    refine Flow.Ones.cons ?_ ?_
                    · rintro a w hC hoff ⟨_, _, _, _, k6, _, k8, -⟩
                      have e90 : a.eval (.tmp 90) = .agg #[.string b0, .string b1, .slice q1 r1 s1, .slice q2 r2 s2, .string b4] := k6 90 rfl
                      have e92 : a.eval (.tmp 92) = .int .i64 (d : Int) := k8 92 rfl
                      refine .inl ⟨Flow.want_none rfl, ?_⟩
                      exact Flow.run_call (Flow.exec_call (args := #[(.agg #[.string b0, .string b1, .slice q1 r1 s1, .slice q2 r2 s2, .string b4]), (.int .i64 (d : Int))]) rfl Tryz.func5 (by kernel_rfl) (by kernel_rfl) (by simp only [List.map_toArray, List.map_cons, List.map_nil, e90, e92] <;> rfl)) ((IHH.out _ w Hd1.out (HArg.out w hC)).mono fun e w' ⟨u, y, he, hn, hnice, hg⟩ => by obtain ⟨u0, u1, u4, p2, p3, m2, m3, k2, k3, hu⟩ := hn.form; exact ⟨u, he, hg, y, u0, u1, u4, p2, p3, m2, m3, k2, k3, hu, Lib.hid ⟨hn.keep (Nat.le_refl _) (fun _ _ _ => rfl) (fun q hq _ => ⟨Nat.le_trans hC.size hq.1, hq.2⟩) (fun q hq => hq.2), hnice⟩⟩)
                    refine Flow.Ones.cons ?_ ?_
                    · rintro a w hC hoff ⟨_, _, _, _, _, _, _, k9, -⟩
                      have e93 : (fun v w => ∃ (y : Xm.Nod) (u0 u1 u4 : ByteArray) (p2 p3 : Option Addr) (m2 m3 k2 k3 : Nat), v = .agg #[.string u0, .string u1, .slice p2 m2 k2, .slice p3 m3 k3, .string u4] ∧ Hid (Xm.NodAt (fun q => wz.heap.size ≤ q ∧ q < w.heap.size) w v y ∧ Xm.Nice d y)) (a.eval (.tmp 93)) w := k9 93 rfl
                      refine .inl ⟨Flow.want_none rfl, ?_⟩
                      obtain ⟨y, u0, u1, u4, p2, p3, m2, m3, k2, k3, hu, hy⟩ := e93
                      refine Flow.run_val (v := .slice (some ⟨w.heap.size, 0, none⟩) 1 1) (w' := w.alloc (.cells #[.string u0, .string u1, .slice p2 m2 k2, .slice p3 m3 k3, .string u4] 25)) ?_ (Flow.grow_alloc _ _) ⟨_, y, u0, u1, u4, p2, p3, m2, m3, k2, k3, rfl, heap_alloc_new _ _, Lib.hid ⟨by rw [← hu]; exact hy.out.1.keep (Flow.grow_alloc _ _).size (fun q _ hlt => (Flow.grow_alloc _ _).block q hlt (by simp)) (fun q hq _ => ⟨hq.1, Nat.lt_of_lt_of_le hq.2 (Flow.grow_alloc _ _).size⟩) (fun q hq => hq.2), hy.out.2⟩⟩
                      clear hy
                      generalize a.eval = ρ at hu ⊢
                      simp [execOp, hu, go_sem]
                    exact trivial
                  case place11 =>
                    intro a w hoff
                    have e4 : a.eval (.tmp 4) = (.pointer (some ⟨N, 0, none⟩)) := hoff.at 4 (by kernel_rfl)
                    generalize a.eval = ρ at e4 ⊢
                    simp [execOp, e4, go_sem]
                  case app11 =>
                    intro a w hC hoff hk
                    have e85 : a.eval (.tmp 85) = .slice ko j kc := hk 1 (by decide) 85 rfl
                    have e94 : (fun v w => ∃ (z : Nat) (y : Xm.Nod) (u0 u1 u4 : ByteArray) (p2 p3 : Option Addr) (m2 m3 k2 k3 : Nat), v = .slice (some ⟨z, 0, none⟩) 1 1 ∧ w.heap[z]? = some (.cells #[.string u0, .string u1, .slice p2 m2 k2, .slice p3 m3 k3, .string u4] 25 (0, 0)) ∧ Hid (Xm.NodAt (fun q => wz.heap.size ≤ q ∧ q < w.heap.size) w (.agg #[.string u0, .string u1, .slice p2 m2 k2, .slice p3 m3 k3, .string u4]) y ∧ Xm.Nice d y)) (a.eval (.tmp 94)) w := hk 10 (by decide) 94 rfl
                    rename World => wa
                    obtain ⟨z, y, u0, u1, u4, p2, p3, m2, m3, k2, k3, hq, hrow, hy⟩ := e94
                    have U := HU2.out.more hC
                    have hown := U.own
                    unfold Xm.OwnK at hown
                    rw [hvl] at hown
                    have Q := Hi1.out
                    refine exec_append_T (P := Tryz.prog) (.tmp 85) (.tmp 94) 23 rfl 25 i1 (.agg #[.string ByteArray.empty, .string ByteArray.empty, .slice none 0 0, .slice none 0 0, .string ByteArray.empty]) 5 96 Tryz.underlying23 Q.1 Q.2.1 Q.2.2.1 Q.2.2.2 rfl (by decide) (.slice ko j kc) j (Xm.flat vs) e85 hown ⟨z, 0, none⟩ 1 1 [.string u0, .string u1, .slice p2 m2 k2, .slice p3 m3 k3, .string u4] hq rfl
                      (by
                        intro j u hj
                        have c0 := (cell_of_row wa z 0 _ _ _ hrow).trans rfl
                        have c1 := (cell_of_row wa z 1 _ _ _ hrow).trans rfl
                        have c2 := (cell_of_row wa z 2 _ _ _ hrow).trans rfl
                        have c3 := (cell_of_row wa z 3 _ _ _ hrow).trans rfl
                        have c4 := (cell_of_row wa z 4 _ _ _ hrow).trans rfl
                        match j, hj with
                        | 0, hj => rw [← hj, Addr.add_lit]; exact c0
                        | 1, hj => rw [← hj, Addr.add_lit]; exact c1
                        | 2, hj => rw [← hj, Addr.add_lit]; exact c2
                        | 3, hj => rw [← hj, Addr.add_lit]; exact c3
                        | 4, hj => rw [← hj, Addr.add_lit]; exact c4)
                      (by intro u hu; simp at hu; rcases hu with rfl | rfl | rfl | rfl | rfl <;> rfl) (by unfold maxLen; omega) (by omega) (fun v' w' h2 h3 h4 => ?_)
                    have hK := HU2.out.kid' (X := X) (y := y) (u := (.string u0, .string u1, .slice p2 m2 k2, .slice p3 m3 k3, .string u4)) hC HX2.out HB.out.1 HB.out.2.1 HB.out.2.2 hy.out.1 (by rw [hvl]; exact h2) h3 h4
                    obtain ⟨ko', kc', hv'⟩ : ∃ a c, v' = .slice a (j + 1) c := by
                      rcases h2.2 with ⟨h, h0⟩ | ⟨g, cap, cur, h, _⟩
                      · omega
                      · exact ⟨_, cap, h⟩
                    exact ⟨ko', kc', y, _, hv', Lib.hid ⟨hK, hy.out.2⟩⟩
                  case stab11 =>
                    refine ⟨fun v w w' hR ⟨y, u0, u1, u4, p2, p3, m2, m3, k2, k3, h1, h2⟩ => ⟨y, u0, u1, u4, p2, p3, m2, m3, k2, k3, h1, Lib.hid ⟨h2.out.1.keep hR.size (fun q _ hlt => hR.block q hlt (by simp)) (fun q hq _ => ⟨hq.1, Nat.lt_of_lt_of_le hq.2 hR.size⟩) (fun q hq => hq.2), h2.out.2⟩⟩,
                      fun v w w' hR ⟨z, y, u0, u1, u4, p2, p3, m2, m3, k2, k3, h1, h0, h2⟩ => ⟨z, y, u0, u1, u4, p2, p3, m2, m3, k2, k3, h1, (hR.block z (Array.getElem?_eq_some_iff.1 h0).1 (by simp)).trans h0, Lib.hid ⟨h2.out.1.keep hR.size (fun q _ hlt => hR.block q hlt (by simp)) (fun q hq _ => ⟨hq.1, Nat.lt_of_lt_of_le hq.2 hR.size⟩) (fun q hq => hq.2), h2.out.2⟩⟩, trivial⟩
                  case ends11 =>
                    intro wy
                    simp only [List.take_succ_cons, List.take_zero, List.replicate, List.cons_append, List.nil_append, Flow.ends]
                    simp only [Act.put, List.setIfInBounds_toArray, List.set_cons_succ, List.set_cons_zero]
                    iterate 11 (intro _ _)
                    intro v95 h95
                    obtain ⟨ko', kc', y, u, rfl, hT⟩ := h95
                    have y3 := (cell_of_row wy N 3 _ _ _ hT.out.1.row).trans rfl
                    have yf : ∀ j, wy.frozen? ⟨N, j, none⟩ = false := fun j => frozen_of_row wy N _ _ _ hT.out.1.row
                    unfold Oper.wp
                    simp [execOp, y3, yf, go_sem]
                    have hU := hT.out.1.put HB.out.2.1 (by have := HNX.out; omega) (by have := HNX.out; have := HXw.out; omega)
                    have HU3 := Lib.hid hU.1
                    have HX3 := Lib.hid hU.2
                    have Hny := Lib.hid hT.out.2
                    clear hU hT y3 yf
                    go_wp2_with fail
                    go_roundw
                    case rel => exact ⟨j + 1, ko', kc', ks ++ [y], vs ++ [u], by omega, by first | rfl | go_num, by simp [hvl], by simp [hkl], Lib.hid ⟨fun y' hy' => by
                      rcases List.mem_append.1 hy' with h | h
                      · exact HKN.out.1 y' h
                      · rw [List.mem_singleton] at h; subst h; exact Hny.out, .inr (by simp)⟩, HU3, HX3⟩
                    case measure => simp only [intOf]; omega
                · have hd2 : decide (j < n2 ∧ j < 3) = false := decide_eq_false hlt2
                  rw [hd2]
                  have y0 := (cell_of_row wz N 0 _ _ _ HU2.out.row).trans rfl
                  have y1 := (cell_of_row wz N 1 _ _ _ HU2.out.row).trans rfl
                  have y2 := (cell_of_row wz N 2 _ _ _ HU2.out.row).trans rfl
                  have y3 := (cell_of_row wz N 3 _ _ _ HU2.out.row).trans rfl
                  have y4 := (cell_of_row wz N 4 _ _ _ HU2.out.row).trans rfl
                  have yf : ∀ j, wz.frozen? ⟨N, j, none⟩ = false := fun j => frozen_of_row wz N _ _ _ HU2.out.row
                  go_wp2_with fail
                  refine bodyPost_ret (near_res _ _ N _ rfl (setN HU2.out.row _ _ _ _ _) rfl) rfl ?_
                  have hfin := HU2.out.done (tx := ⟨#[]⟩) (Xm.Mv.set5 (a := .string SP) (b := .string NM) (c := .slice ao i ac) (d := .slice ko j kc) (e := .string ⟨#[]⟩)) HB.out.2.1 (by have := HNX.out; have := HXw.out; omega) HB.out.2.2
                  refine ⟨_, _, rfl, hfin.1, ?_, hfin.2⟩
                  exact ⟨HSP.out, ⟨nl, HNM.out⟩, ⟨al, rfl, HNA.out⟩, by omega, HKN.out.1, ⟨[], rfl, ⟨[], by simp [Xm.Ok], rfl⟩, by simp, by kernel_rfl⟩, fun _ => rfl⟩
          · have hdk : decide (1 ≤ d ∧ 0 < n2) = false := decide_eq_false hk
            rw [hdk]
            have htx := Htx.out
            have hd12 : (tx.extract 0 (min (tx.size : Int) 12).toNat).size ≤ 12 := by simp; omega
            obtain ⟨pv, hpv, hpvt, hpvz⟩ := Xm.plain_vt (tx.extract 0 (min (tx.size : Int) 12).toNat)
            obtain ⟨t, ht, htv, htz, htt⟩ := Xm.trim_v hpvt
            have HPL := Lib.hid (fun w => rplain_any (tx.extract 0 (min (tx.size : Int) 12).toNat) w (by omega))
            rw [hpv] at HPL
            obtain ⟨TX, hTX⟩ : ∃ TX, TX = str t := ⟨_, rfl⟩
            have HTR := Lib.hid (fun w => rtrim_any (str pv) w (by rw [str_size]; omega))
            rw [ht, ← hTX] at HTR
            have HTX := Lib.hid (And.intro hTX (And.intro htv (And.intro (show t.length ≤ 12 by omega) htt)))
            obtain ⟨PV, hPV⟩ : ∃ PV, PV = str pv := ⟨_, rfl⟩
            rw [← hPV] at HPL HTR
            clear hpv hpvt hpvz ht htv htz htt hTX hPV hd12
            have x4 := (cell_of_row wr X 4 _ _ _ HXr.out).trans rfl
            go_upto_region 14 with (first
              | (go_at_call 13; refine (HPL.out _).mono ?_; rintro e w5 ⟨rfl, hg5⟩; have HU5 := Lib.hid (HU.out.more hg5); have y4 := (cell_of_row w5 N 4 _ _ _ HU5.out.row).trans rfl; have yf : ∀ j, w5.frozen? ⟨N, j, none⟩ = false := fun j => frozen_of_row w5 N _ _ _ HU5.out.row)
              | (go_at_call 14; refine (HTR.out _).mono ?_; rintro e w6 ⟨rfl, rfl⟩))
            have HR6 : Hid (Xm.RowN (w5.setCell ⟨N, 4, none⟩ (.string TX)) N #[.string SP, .string NM, .slice ao i ac, .slice none 0 0, .string TX]) := Lib.hid (HU5.out.row.set 4 (.string TX))
            have m6 : Xm.Mv w5 N (w5.setCell ⟨N, 4, none⟩ (.string TX)) := Xm.Mv.set
            have HM6 := Lib.hid m6
            clear y4 yf x4 m6 hg5
            generalize w5.setCell ⟨N, 4, none⟩ (.string TX) = w7 at *
            have y0 := (cell_of_row w7 N 0 _ _ _ HR6.out).trans rfl
            have y1 := (cell_of_row w7 N 1 _ _ _ HR6.out).trans rfl
            have y2 := (cell_of_row w7 N 2 _ _ _ HR6.out).trans rfl
            have y3 := (cell_of_row w7 N 3 _ _ _ HR6.out).trans rfl
            have y4 := (cell_of_row w7 N 4 _ _ _ HR6.out).trans rfl
            have yf : ∀ j, w7.frozen? ⟨N, j, none⟩ = false := fun j => frozen_of_row w7 N _ _ _ HR6.out
            go_wp2_with fail
            refine bodyPost_ret (near_res _ _ N _ rfl (setN HR6.out _ _ _ _ _) rfl) rfl ?_
            have hfin := HU5.out.done (tx := TX) (HM6.out.trans (Xm.Mv.set5 (a := .string SP) (b := .string NM) (c := .slice ao i ac) (d := .slice none 0 0) (e := .string TX))) HB.out.2.1 (by have := HNX.out; have := HXw.out; omega) HB.out.2.2
            refine ⟨_, _, rfl, hfin.1, ?_, hfin.2⟩
            exact ⟨HSP.out, ⟨nl, HNM.out⟩, ⟨al, rfl, HNA.out⟩, by simp, fun y hy => (by cases hy), ⟨t, HTX.out⟩, fun h => absurd rfl h⟩
theorem near_any : ∀ (d : Nat) (v : Value) (w : World), d ≤ 5 → 1 ≤ d → Xm.ArgN w v → Calls Tryz.prog 5 #[v, .int .i64 (d : Int)] w (Xm.NearPost d w) := by
  intro d
  induction d with
  | zero => intro v w _ h; omega
  | succ d IH => exact fun v w h4 _ hv => near_step d (by omega) (Lib.hid (fun v w h1 hv => IH v w (by omega) h1 hv)) v w hv
end Go.Proofs.YtdpkhmfolmcejaaGreatDoor
