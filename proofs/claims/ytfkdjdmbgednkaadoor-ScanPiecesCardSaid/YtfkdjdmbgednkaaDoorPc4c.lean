/- galliardlaw04.piece by its contract: tags. -/
import Derived.Test.YtfkdjdmbgednkaaDoorPc4
namespace Go.Proofs.YtfkdjdmbgednkaaDoor
open Go.RowKit
set_option maxRecDepth 100000 in
set_option maxHeartbeats 8000000 in
theorem piece_c (z : Int) (s t : ByteArray) (w : World) (hz : 0 ≤ z ∧ z < 65536) (hs : s.size ≤ 9223372036854775807) (ht : t.size ≤ 9223372036854775807) (kk : Nat) (hkk : bits .and .i64 z 7 = (kk : Int)) (hkq : kk = 1 ∨ kk = 2 ∨ kk = 3 ∨ kk = 4) :
    Calls Tryd.prog 10 #[.int .i64 z, .string s, .string t] w (Xm.PcRet w) := by
  obtain ⟨sl, hsl, hnl, hsl7⟩ := Xm.nm_nl 6 (by omega) s
  obtain ⟨tl, htl, htnl, htl7⟩ := Xm.nm_nl 6 (by omega) t
  have HNs := Lib.hid (fun w => name4_any s w hs)
  have HNt := Lib.hid (fun w => name4_any t w ht)
  rw [hsl] at HNs
  rw [htl] at HNt
  obtain ⟨SL, hSL⟩ : ∃ SL, SL = str sl := ⟨_, rfl⟩
  obtain ⟨TL, hTL⟩ : ∃ TL, TL = str tl := ⟨_, rfl⟩
  have hSLz : SL.size ≤ 7 := by rw [hSL, str_size]; exact hsl7
  have hTLz : TL.size ≤ 7 := by rw [hTL, str_size]; exact htl7
  rw [← hSL] at HNs
  rw [← hTL] at HNt
  have HSL := Lib.hid hSL
  have HTL := Lib.hid hTL
  have HSn : Hid (Xm.nmB 6 s 0 ⟨#[110]⟩ = SL) := Lib.hid (by rw [hsl, hSL])
  have HTn : Hid (Xm.nmB 6 t 0 ⟨#[110]⟩ = TL) := Lib.hid (by rw [htl, hTL])
  obtain ⟨b, hb, hb4⟩ : ∃ b : Nat, bits .and .i64 (z / 8) 3 = (b : Int) ∧ b < 4 := ⟨(z / 8 % 2 ^ 2).toNat, by rw [Bits.i64_mask _ 2 (by omega) 3 (by decide)]; omega, by omega⟩
  obtain ⟨c5, hc5, hc52⟩ : ∃ b : Nat, bits .and .i64 (z / 32) 1 = (b : Int) ∧ b < 2 := ⟨(z / 32 % 2 ^ 1).toNat, by rw [Bits.i64_mask _ 1 (by omega) 1 (by decide)]; omega, by omega⟩
  obtain ⟨n, hn, hn4⟩ : ∃ b : Nat, bits .and .i64 (z / 32) 3 = (b : Int) ∧ b < 4 := ⟨(z / 32 % 2 ^ 2).toNat, by rw [Bits.i64_mask _ 2 (by omega) 3 (by decide)]; omega, by omega⟩
  obtain ⟨c7, hc7, hc72⟩ : ∃ b : Nat, bits .and .i64 (z / 128) 1 = (b : Int) ∧ b < 2 := ⟨(z / 128 % 2 ^ 1).toNat, by rw [Bits.i64_mask _ 1 (by omega) 1 (by decide)]; omega, by omega⟩
  obtain ⟨c8, hc8, hc82⟩ : ∃ b : Nat, bits .and .i64 (z / 256) 1 = (b : Int) ∧ b < 2 := ⟨(z / 256 % 2 ^ 1).toNat, by rw [Bits.i64_mask _ 1 (by omega) 1 (by decide)]; omega, by omega⟩
  obtain ⟨c0, hc0, hc02⟩ : ∃ b : Nat, bits .and .i64 z 1 = (b : Int) ∧ b < 2 := ⟨(z % 2 ^ 1).toNat, by rw [Bits.i64_mask _ 1 (by omega) 1 (by decide)]; omega, by omega⟩
  obtain ⟨BL, hBL⟩ : ∃ BL, BL = str (Xm.blk b) := ⟨_, rfl⟩
  have hBLz : BL.size ≤ 2 := by rw [hBL, str_size]; exact (Xm.blk_law b hb4).2.2.1
  have HBL := Lib.hid hBL
  clear hsl htl hSL hTL
  go_enter Tryd.func10, Tryd.ntmps10
  go_upto_region 1 with fail
  have hA : ∀ h : b < 4, ([Value.string ⟨#[32]⟩, .string ⟨#[10]⟩, .string ⟨#[32, 32]⟩, .string ⟨#[9]⟩] : List Value)[b]'h = .string BL := by
    intro h
    rw [hBL]
    rcases (by omega : b = 0 ∨ b = 1 ∨ b = 2 ∨ b = 3) with rfl | rfl | rfl | rfl <;> rfl
  have hb4i : (b : Int) < 4 := by omega
  have hb4n : ¬ (4 : Int) ≤ (b : Int) := by omega
  clear hBL
  have HZ : Hid (Xm.Row5 ((w.alloc (.cells #[.int .i64 0, .string ⟨#[]⟩, .slice none 0 0, .string ⟨#[]⟩, .int .i64 0] 27)).alloc (.cells #[.string ⟨#[32]⟩, .string ⟨#[10]⟩, .string ⟨#[32, 32]⟩, .string ⟨#[9]⟩] 9)) w.heap.size #[.int .i64 0, .string ⟨#[]⟩, .slice none 0 0, .string ⟨#[]⟩, .int .i64 0]) := Lib.hid (Xm.Row5.grow (heap_alloc_new _ _) (Flow.grow_alloc _ _))
  have G1 : Hid (Flow.Grow w ((w.alloc (.cells #[.int .i64 0, .string ⟨#[]⟩, .slice none 0 0, .string ⟨#[]⟩, .int .i64 0] 27)).alloc (.cells #[.string ⟨#[32]⟩, .string ⟨#[10]⟩, .string ⟨#[32, 32]⟩, .string ⟨#[9]⟩] 9))) := Lib.hid ((Flow.grow_alloc _ _).trans (Flow.grow_alloc _ _))
  go_upto_region 2 with fail
  obtain ⟨Z, hZ⟩ : ∃ Z, Z = w.heap.size := ⟨_, rfl⟩
  rw [← hZ] at HZ ⊢
  have HZw := Lib.hid hZ
  clear hZ hA
  generalize ((w.alloc (.cells #[.int .i64 0, .string ⟨#[]⟩, .slice none 0 0, .string ⟨#[]⟩, .int .i64 0] 27)).alloc (.cells #[.string ⟨#[32]⟩, .string ⟨#[10]⟩, .string ⟨#[32, 32]⟩, .string ⟨#[9]⟩] 9)) = w1 at *
  go_upto_region 3 with fail
  have GZ := Lib.hid (And.intro hs ht)
  clear hs ht
  have hd9 : (t.extract 0 (min (t.size : Int) 9).toNat).size ≤ 9 := by simp; omega
  obtain ⟨v, hv, hvt, hvz⟩ := Xm.plain_vt (t.extract 0 (min (t.size : Int) 9).toNat)
  have HPL := Lib.hid (fun w => rplain_any (t.extract 0 (min (t.size : Int) 9).toNat) w (by omega))
  rw [hv] at HPL
  obtain ⟨V, hV⟩ : ∃ V, V = str v := ⟨_, rfl⟩
  have hVz : V.size ≤ 9 := by rw [hV, str_size]; omega
  rw [← hV] at HPL
  have HV := Lib.hid hV
  have Hvt := Lib.hid (And.intro hvt (show v.length ≤ 9 by omega))
  clear hv hV hvt hvz hd9
  have e0 : ((kk : Int) == 0) = false := by rcases hkq with rfl | rfl | rfl | rfl <;> rfl
  have Hkq := Lib.hid hkq
  clear hkq
  go_upto_if 42 with fail
  go_cut [42] (fun v wx => v = .bool true ∧ wx = w1)
  case first =>
    rcases Hkq.out with rfl | rfl | rfl | rfl
    all_goals
      go_wp2_with fail
      go_meet
      case rel => exact ⟨rfl, rfl⟩
  case rest =>
    obtain ⟨rfl, hwc⟩ := hcut
    have hwc := hwc.symm
    subst hwc
    go_upto_region 11 with (go_at_call 30; refine (HNs.out _).mono ?_; rintro e w2 ⟨rfl, hg2⟩)
    have HP : Hid (Xm.Row5 (w2.alloc (.cells #[.int .i64 1, .string SL, .slice none 0 0, .string ⟨#[]⟩, .int .i64 0] 27)) w2.heap.size #[.int .i64 1, .string SL, .slice none 0 0, .string ⟨#[]⟩, .int .i64 0]) := Lib.hid (heap_alloc_new _ _)
    have G3 : Hid (Flow.Grow w1 (w2.alloc (.cells #[.int .i64 1, .string SL, .slice none 0 0, .string ⟨#[]⟩, .int .i64 0] 27))) := Lib.hid (hg2.trans (Flow.grow_alloc _ _))
    have HZ3 := Lib.hid (HZ.out.grow G3.out)
    obtain ⟨Q, hQ⟩ : ∃ Q, Q = w2.heap.size := ⟨_, rfl⟩
    rw [← hQ] at HP ⊢
    have HQ : Hid (Z < Q) := Lib.hid (by rw [hQ]; exact Nat.lt_of_lt_of_le HZ.out.lt hg2.size)
    clear hQ hg2
    generalize w2.alloc (.cells #[.int .i64 1, .string SL, .slice none 0 0, .string ⟨#[]⟩, .int .i64 0] 27) = w3 at *
    have q1 := (cell_of_row w3 Q 1 _ _ _ HP.out).trans rfl
    have qf : ∀ j, w3.frozen? ⟨Q, j, none⟩ = false := fun j => frozen_of_row w3 Q _ _ _ HP.out
    have l1 : ¬ 9223372036854775807 < 1 + SL.size := by omega
    have l2 : ¬ 9223372036854775807 < 2 + SL.size := by omega
    have l3 : ¬ 9223372036854775807 < 1 + (2 + SL.size) := by omega
    go_upto_if 55 with fail
    go_cut [11] (fun v wx => ∃ nm : List UInt8, v = .string (str (60 :: nm)) ∧ nm.length ≤ 9 ∧ Hid (Xm.Nm nm ∧ Xm.Lt nm) ∧ Hid (Xm.Row5 wx Q #[.int .i64 1, .string (str nm), .slice none 0 0, .string ⟨#[]⟩, .int .i64 0]) ∧ Hid (Xm.Mv w3 Q wx))
    case first =>
      rcases (by omega : c0 = 0 ∨ c0 = 1) with rfl | rfl
      · go_wp2_with fail
        go_meet
        case rel => exact ⟨sl, by rw [HSL.out, show (⟨#[60]⟩ : ByteArray) = str [60] from rfl, str_append]; rfl, by omega, Lib.hid ⟨hnl.nm, hnl.lt⟩, by rw [← HSL.out]; exact HP, Lib.hid (Xm.Mv.refl _ _)⟩
      · go_wp2_with fail
        go_meet
        case rel =>
          have e : (⟨#[112, 58]⟩ : ByteArray) ++ SL = str (112 :: 58 :: sl) := by rw [HSL.out, show (⟨#[112, 58]⟩ : ByteArray) = str [112, 58] from rfl, str_append]; rfl
          refine ⟨112 :: 58 :: sl, by rw [e, show (⟨#[60]⟩ : ByteArray) = str [60] from rfl, str_append]; rfl, by simp; omega, Lib.hid ⟨hnl.nmp, Xm.Lt.append (a := [112, 58]) (Xm.lt_few (by decide)) hnl.lt⟩, Lib.hid ?_, Lib.hid Xm.Mv.set⟩
          rw [e]
          exact HP.out.set 1 _
    case rest =>
      obtain ⟨nm, rfl, hnm9, HNm, HP4, HM4⟩ := hcut
      rename World => w4
      clear q1 qf l1 l2 l3
      have hZQ : Z ≠ Q := by have := HQ.out; omega
      have HZ4 := Lib.hid (HZ3.out.mv HM4.out hZQ)
      have G4 : Hid (Flow.Grow w w4) := Lib.hid (Xm.Mv.grow (G1.out.trans G3.out) HM4.out (by have := HQ.out; have := HZw.out; omega))
      clear HZ3 HP HM4 G3
      go_upto_region 16 with (go_at_call 17; refine (HPL.out _).mono ?_; rintro e w5 ⟨rfl, hg5⟩)
      have HZ5 := Lib.hid (HZ4.out.grow hg5)
      have HP5 := Lib.hid (HP4.out.grow hg5)
      have G5 := Lib.hid (G4.out.trans hg5)
      clear hg5 HZ4 HP4 G4
      obtain ⟨B, hB⟩ : ∃ B, B = w5.heap.size := ⟨_, rfl⟩
      have HB : Hid (Q < B ∧ w.heap.size ≤ B) := Lib.hid ⟨by rw [hB]; exact HP5.out.lt, by rw [hB]; exact G5.out.size⟩
      have HB5 : Hid (B ≤ w5.heap.size) := Lib.hid (by omega)
      clear hB
      have eBL := HBL.out
      subst eBL
      have eV := HV.out
      subst eV
      have hbl := Xm.blk_law b hb4
      obtain ⟨i0, hi, hz0, hz1, hz2⟩ := info_parts info_attr
      go_wp2_with fail
      go_loopw [11, 13] (fun v11 v13 wr => ∃ (i : Nat) (va : Value), i ≤ n ∧ v13 = .int .i64 (i : Int) ∧ v11 = .string (str (60 :: (nm ++ Xm.atsB (Xm.blk b) (Xm.ats tl v i)))) ∧ Hid (Xm.Row5 wr Q #[.int .i64 1, .string (str nm), va, .string ⟨#[]⟩, .int .i64 0]) ∧ Hid (Xm.OwnA wr B va (Xm.bsA (Xm.ats tl v i))) ∧ Hid (Xm.Row5 wr Z #[.int .i64 0, .string ⟨#[]⟩, .slice none 0 0, .string ⟨#[]⟩, .int .i64 0]) ∧ Hid (Flow.Grow w wr) ∧ Hid (B ≤ wr.heap.size)) (fun _ v13 _ => n - (intOf v13).toNat)
      case atStart => exact ⟨0, .slice none 0 0, Nat.zero_le _, rfl, by simp [Xm.ats, Xm.atsB], HP5, Lib.hid (Xm.OwnA.nil _ _), HZ5, G5, HB5⟩
      case round =>
        obtain ⟨i, va, hin, rfl, rfl, HPr, HOr, HZr, HGr, HBr⟩ := hrel
        rename World => wr
        clear HP5 HZ5 G5 HB5
        obtain ⟨ao, ac, hva⟩ := HOr.out.shape
        have hlen : (Xm.bsA (Xm.ats tl v i)).length = i := by simp [Xm.bsA, Xm.ats]
        rw [hlen] at hva
        subst hva
        have hv9 := Hvt.out.2
        have hcl := Xm.clL_len v
        have hal := Xm.ats_len hbl.2.2.1 htl7 Hvt.out.2 i
        by_cases hlt : i < n
        · have hd : decide ((i : Int) < (n : Int)) = true := by simp; omega
          have g1 : (i : Int) < (n : Int) := by omega
          go_upto_region 19 with fail
          go_cut [14] from 69 to 103 (fun v14 wx => ∃ A, v14 = .pointer (some ⟨A, 0, none⟩) ∧ wr.heap.size ≤ A ∧ Hid (wx.heap[A]? = some (.cells #[.string (str (tl ++ [UInt8.ofNat (65 + i)])), .string (str v)] 64 (0, 0))) ∧ Hid (Flow.Grow wr wx))
          case first =>
            have Hb : Hid (((UInt8.ofNat (65 + i)).toNat : Int) = ((65 + i : Nat) : Int)) := Lib.hid (Xm.u8n (by omega))
            refine Flow.region_tail2 (R := Flow.Grow) (C := fun wq => Flow.Grow wr wq) (Fs := [.inl ((.string t)), .inl (.string (str tl)), .inl ((.int .i64 (i : Int))), .inl (.int .i64 ((65 + i : Nat) : Int)), .inl (u8v (UInt8.ofNat (65 + i))), .inr (fun v w => Bytes w v [UInt8.ofNat (65 + i)]), .inl (.string (str [UInt8.ofNat (65 + i)])), .inl (.string (str (tl ++ [UInt8.ofNat (65 + i)]))), .inl ((.string (str v))), .inl (.agg #[.string (str (tl ++ [UInt8.ofNat (65 + i)])), .string (str v)]), .inr (fun v w => ∃ A, v = .pointer (some ⟨A, 0, none⟩) ∧ wr.heap.size ≤ A ∧ w.heap[A]? = some (.cells #[.string ⟨#[]⟩, .string ⟨#[]⟩] 64 (0, 0)))])
              (S := [[], [0], [], [2], [3], [4], [5], [1, 6], [], [7, 8], [], [0, 1, 2, 3, 4, 5, 6, 7, 8, 9, 10]]) 11 (by kernel_rfl) (by kernel_rfl) (by kernel_rfl) (by kernel_rfl) rfl ?stab19 Flow.grow_refl (fun _ _ h k => h.trans k) (Flow.grow_drew _) ?ones19 ?ends19
            case ones19 =>
              refine Flow.Ones.cons ?_ ?_
              · intro a w hC hoff _
                have e2 : a.eval (.tmp 2) = (.string t) := hoff.at 2 (by kernel_rfl)
                refine .inl ⟨Flow.want_none rfl, ?_⟩
                exact Flow.run_same (Flow.exec_move (.inl rfl) e2) Flow.grow_refl
              refine Flow.Ones.cons ?_ ?_
              · rintro a w hC hoff ⟨k0, -⟩
                have e76 : a.eval (.tmp 76) = (.string t) := k0 76 rfl
                refine .inl ⟨Flow.want_none rfl, ?_⟩
                exact Flow.run_call (Flow.exec_call (args := #[((.string t))]) rfl Tryd.func30 (by kernel_rfl) (by kernel_rfl) (by simp only [List.map_toArray, List.map_cons, List.map_nil, e76] <;> rfl)) ((name4_any t w GZ.out.2).mono fun e w' ⟨he, hg⟩ => ⟨_, he, hg, by rw [HTn.out, HTL.out]; rfl⟩)
              refine Flow.Ones.cons ?_ ?_
              · intro a w hC hoff _
                have e13 : a.eval (.tmp 13) = (.int .i64 (i : Int)) := hoff.at 13 (by kernel_rfl)
                refine .inl ⟨Flow.want_none rfl, ?_⟩
                exact Flow.run_same (Flow.exec_move (.inl rfl) e13) Flow.grow_refl
              refine Flow.Ones.cons ?_ ?_
              · rintro a w hC hoff ⟨k2, -⟩
                have e78 : a.eval (.tmp 78) = (.int .i64 (i : Int)) := k2 78 rfl
                refine .inl ⟨Flow.want_none rfl, ?_⟩
                refine Flow.run_same ?_ Flow.grow_refl
                have ec := Flow.eval_const a
                generalize a.eval = ρ at e78 ec ⊢
                simp [execOp, e78, ec, go_sem]; exact IntWalk.i64_in _ (by omega)
              refine Flow.Ones.cons ?_ ?_
              · rintro a w hC hoff ⟨k3, -⟩
                have e79 : a.eval (.tmp 79) = .int .i64 ((65 + i : Nat) : Int) := k3 79 rfl
                refine .inl ⟨Flow.want_none rfl, ?_⟩
                refine Flow.run_same ?_ Flow.grow_refl
                have ec := Flow.eval_const a
                generalize a.eval = ρ at e79 ec ⊢
                rw [u8v, Hb.out]; simp [execOp, e79, go_sem]; exact IntWalk.u8_in _ (by omega)
              refine Flow.Ones.cons ?_ ?_
              · rintro a w hC hoff ⟨k4, -⟩
                have e80 : a.eval (.tmp 80) = u8v (UInt8.ofNat (65 + i)) := k4 80 rfl
                refine .inl ⟨Flow.want_none rfl, ?_⟩
                refine Flow.run_val (v := .slice (some ⟨w.heap.size, 0, none⟩) 1 1) (w' := w.alloc (.cells #[u8v (UInt8.ofNat (65 + i))] 5)) ?_ (Flow.grow_alloc _ _) ?_
                · generalize a.eval = ρ at e80 ⊢; simp [execOp, e80, u8v, go_sem]
                · exact Bytes.of_own (World.ownsRow_lit (e := 5) w #[_] 1 (Nat.zero_le _) (by decide) rfl) (by simp)
              refine Flow.Ones.cons ?_ ?_
              · rintro a w hC hoff ⟨k5, -⟩
                have e81 : (fun v w => Bytes w v [UInt8.ofNat (65 + i)]) (a.eval (.tmp 81)) w := k5 81 rfl
                refine .inl ⟨Flow.want_none rfl, ?_⟩
                exact Flow.run_same (exec_str 5 rfl rfl e81 Tryd.underlying41 Tryd.underlying5 Tryd.underlying9) Flow.grow_refl
              refine Flow.Ones.cons ?_ ?_
              · rintro a w hC hoff ⟨k1, k6, -⟩
                have e77 : a.eval (.tmp 77) = .string (str tl) := k1 77 rfl
                have e82 : a.eval (.tmp 82) = .string (str [UInt8.ofNat (65 + i)]) := k6 82 rfl
                refine .inl ⟨Flow.want_none rfl, ?_⟩
                exact Flow.run_same (exec_add_str Tryd.underlying9 rfl e77 e82 rfl (by simp; omega)) Flow.grow_refl
              refine Flow.Ones.cons ?_ ?_
              · intro a w hC hoff _
                have e12 : a.eval (.tmp 12) = (.string (str v)) := hoff.at 12 (by kernel_rfl)
                refine .inl ⟨Flow.want_none rfl, ?_⟩
                exact Flow.run_same (Flow.exec_move (.inl rfl) e12) Flow.grow_refl
              refine Flow.Ones.cons ?_ ?_
              · rintro a w hC hoff ⟨k7, k8, -⟩
                have e83 : a.eval (.tmp 83) = .string (str (tl ++ [UInt8.ofNat (65 + i)])) := k7 83 rfl
                have e84 : a.eval (.tmp 84) = (.string (str v)) := k8 84 rfl
                refine .inl ⟨Flow.want_none rfl, ?_⟩
                refine Flow.run_same ?_ Flow.grow_refl
                have ec := Flow.eval_const a
                generalize a.eval = ρ at e83 e84 ec ⊢
                simp [execOp, e83, e84, go_sem]
              refine Flow.Ones.cons ?_ ?_
              · intro a w hC hoff _
                refine .inl ⟨Flow.want_none rfl, ?_⟩
                refine Flow.run_val (v := .pointer (some ⟨w.heap.size, 0, none⟩)) (w' := w.alloc (.cells #[.string ⟨#[]⟩, .string ⟨#[]⟩] 64)) ?_ (Flow.grow_alloc _ _) ⟨_, rfl, hC.size, heap_alloc_new _ _⟩
                simp [execOp, go_sem]
              exact trivial
            case stab19 => exact ⟨fun v w w' hR h => h.grow hR, fun v w w' hR ⟨A, h1, h2, h3⟩ => ⟨A, h1, h2, (hR.block A (Array.getElem?_eq_some_iff.1 h3).1 (by simp)).trans h3⟩, trivial⟩
            case ends19 =>
              intro wz o ho hC
              have hop : o.op = .store 64 (.tmp 14) (.tmp 85) := by cases ho; rfl
              have hdst : o.dst = none := by cases ho; rfl
              clear ho
              simp only [List.take_succ_cons, List.take_zero, Flow.ends]
              simp only [Act.put, List.setIfInBounds_toArray, List.set_cons_succ, List.set_cons_zero]
              intro v81 _ v14 h14
              obtain ⟨A, rfl, hA, hbx⟩ := h14
              generalize hNA : str (tl ++ [UInt8.ofNat (65 + i)]) = NA
              have HNA := Lib.hid hNA
              clear hNA
              have a0 := (cell_of_row wz A 0 _ _ _ hbx).trans rfl
              have a1 := (cell_of_row wz A 1 _ _ _ hbx).trans rfl
              have af : ∀ j, wz.frozen? ⟨A, j, none⟩ = false := fun j => frozen_of_row wz A _ _ _ hbx
              have HX := Lib.hid hbx
              clear hbx
              unfold Oper.wp
              simp only [execOp, hop, Act.eval]
              simp [a0, a1, af, go_sem]
              simp only [hdst]
              go_wp2_with fail
              go_meet
              case rel => exact ⟨A, rfl, hA, Lib.hid (by rw [HNA.out]; exact set2 HX.out), Lib.hid (Xm.Mv.grow hC (Xm.Mv.set.trans Xm.Mv.set) hA)⟩
          case rest =>
            obtain ⟨A, rfl, hA, HA6, HG6⟩ := hcut
            rename World => w6
            have HP6 := Lib.hid (HPr.out.grow HG6.out)
            have HZ6 := Lib.hid (HZr.out.grow HG6.out)
            have HO6 := Lib.hid (HOr.out.grow HG6.out)
            have G6 := Lib.hid (HGr.out.trans HG6.out)
            have HB6 : Hid (B ≤ w6.heap.size) := Lib.hid (Nat.le_trans HBr.out HG6.out.size)
            have HAB : Hid (B ≤ A) := Lib.hid (Nat.le_trans HBr.out hA)
            obtain ⟨NA, hNA⟩ : ∃ NA, NA = tl ++ [UInt8.ofNat (65 + i)] := ⟨_, rfl⟩
            rw [← hNA] at HA6
            have HNA := Lib.hid hNA
            have hNAz : NA.length ≤ 8 := by rw [hNA]; simp; omega
            have Hown : Hid (w6.ownsRow B 64 2 (.slice ao i ac) i (Xm.attrCells (Xm.bsA (Xm.ats tl v i)))) := Lib.hid (by have h := HO6.out; unfold Xm.OwnA at h; rw [hlen] at h; exact h)
            have HAo : Hid ((Value.slice ao i ac).ownBlock ≠ some A) := Lib.hid (fun e => by
              have h := (World.ownsRow.lt HOr.out _ e).2
              omega)
            clear hNA HPr HZr HOr HGr HBr HG6 hA
            have q2 := HP6.out.c2
            have a0 := (cell_of_row w6 A 0 _ _ _ HA6.out).trans rfl
            have a1 := (cell_of_row w6 A 1 _ _ _ HA6.out).trans rfl
            obtain ⟨SN, hSN⟩ : ∃ SN, SN = str NA := ⟨_, rfl⟩
            rw [← hSN] at HA6 a0
            have HSN := Lib.hid hSN
            clear hSN
            obtain ⟨SV, hSV⟩ : ∃ SV, SV = str v := ⟨_, rfl⟩
            rw [← hSV] at HA6 a1 ⊢
            have HSV := Lib.hid hSV
            clear hSV
            go_wp2_with (at_builtin; refine wpList_append_own _ rfl _ _ 25 rfl B 64 i0 (.agg #[.string ByteArray.empty, .string ByteArray.empty]) 2 32 Tryd.underlying25 hi hz0 hz1 hz2 rfl (by decide) _ _ _ rfl (Hown.out.alloc _) ⟨w6.heap.size, 0, none⟩ 1 1 [.string SN, .string SV] rfl rfl ?c1 ?c2 ?c3 ?c4 ?c5 ?_)
            case c1 =>
              intro j u hj
              match j, hj with
              | 0, hj => simp at hj; subst hj; simp [Addr.add]
              | 1, hj => simp at hj; subst hj; simp [Addr.add]
            case c2 => intro u hu; simp at hu; rcases hu with rfl | rfl <;> rfl
            case c3 => unfold maxLen; omega
            case c4 => omega
            case c5 => have := HB6.out; simp; omega
            intro v' w7 hown' hgrow _
            have hrow : ∀ q, q < B → (Value.slice ao i ac).ownBlock ≠ some q := fun q hq => HO6.out.blk q hq
            have HP7 : Hid (Xm.Row5 w7 Q #[.int .i64 1, .string (str nm), .slice ao i ac, .string ⟨#[]⟩, .int .i64 0]) := Lib.hid ((HP6.out.grow (Flow.grow_alloc _ _)).row hgrow (hrow Q HB.out.1))
            have HZ7 : Hid (Xm.Row5 w7 Z _) := Lib.hid ((HZ6.out.grow (Flow.grow_alloc _ _)).row hgrow (hrow Z (by have := HQ.out; have := HB.out.1; omega)))
            have hAo := HAo.out
            have HA7 : Hid (w7.heap[A]? = some (.cells #[.string SN, .string SV] 64 (0, 0))) := Lib.hid ((hgrow.block A (Nat.lt_of_lt_of_le (Array.getElem?_eq_some_iff.1 HA6.out).1 (Flow.grow_alloc w6 (.cells #[.string SN, .string SV] 64)).size) (Ne.symm hAo)).trans (((Flow.grow_alloc w6 (.cells #[.string SN, .string SV] 64)).block A (Array.getElem?_eq_some_iff.1 HA6.out).1 (by simp)).trans HA6.out))
            have G7 : Hid (Flow.Grow w w7) := Lib.hid (by
              have g1 := G6.out.trans (Flow.grow_alloc w6 (.cells #[.string SN, .string SV] 64))
              refine ⟨hgrow.os.trans g1.os, hgrow.tape.trans g1.tape, hgrow.output.trans g1.output, Nat.le_trans g1.size hgrow.size, fun q hq _ => ?_⟩
              exact (hgrow.block q (Nat.lt_of_lt_of_le hq g1.size) (Ne.symm (hrow q (by have := HB.out.2; omega)))).trans (g1.block q hq (by simp)))
            have HB7 : Hid (B ≤ w7.heap.size) := Lib.hid (by have h1 := HB6.out; have h2 := hgrow.size; simp at h2; omega)
            have HO7 : Hid (Xm.OwnA w7 B v' (Xm.bsA (Xm.ats tl v (i + 1)))) := Lib.hid (by
              unfold Xm.OwnA
              have e : Xm.bsA (Xm.ats tl v (i + 1)) = Xm.bsA (Xm.ats tl v i) ++ [(SN, SV)] := by
                rw [Xm.ats_succ, HSN.out, HSV.out, HNA.out]
                simp [Xm.bsA]
              rw [e, Xm.attrCells_append, List.length_append, hlen]
              exact hown')
            obtain ⟨ao', ac', hv'⟩ := HO7.out.shape
            rw [show (Xm.bsA (Xm.ats tl v (i + 1))).length = i + 1 by simp [Xm.bsA, Xm.ats]] at hv'
            subst hv'
            have q2' := HP7.out.c2
            have qf2 : w7.frozen? ⟨Q, 2, none⟩ = false := frozen_of_row w7 Q _ _ _ HP7.out
            clear hgrow hrow hown' q2 a0 a1 Hown HP6 HZ6 HO6 G6 HB6 hAo HAo HA6
            go_upto_region 21 with fail
            have HP8 := Lib.hid (HP7.out.set 2 (.slice ao' (i + 1) ac'))
            have HZ8 : Hid (Xm.Row5 (w7.setCell ⟨Q, 2, none⟩ (.slice ao' (i + 1) ac')) Z _) := Lib.hid (HZ7.out.other (by have := HQ.out; omega))
            have HO8 : Hid (Xm.OwnA (w7.setCell ⟨Q, 2, none⟩ (.slice ao' (i + 1) ac')) B _ _) := Lib.hid (HO7.out.set HB.out.1)
            have G8 : Hid (Flow.Grow w (w7.setCell ⟨Q, 2, none⟩ (.slice ao' (i + 1) ac'))) := Lib.hid (Xm.Mv.grow G7.out Xm.Mv.set (by have := HQ.out; have := HZw.out; omega))
            have HB8 : Hid (B ≤ (w7.setCell ⟨Q, 2, none⟩ (.slice ao' (i + 1) ac')).heap.size) := Lib.hid (Nat.le_trans HB7.out (Xm.Mv.set (b := Q)).size)
            have HA8 : Hid ((w7.setCell ⟨Q, 2, none⟩ (.slice ao' (i + 1) ac')).heap[A]? = some (.cells #[.string SN, .string SV] 64 (0, 0))) := Lib.hid (by
              have hne : A ≠ Q := by have := HAB.out; have := HB.out.1; omega
              rw [Below.heap_setCell _ _ _ _ hne]
              exact HA7.out)
            clear HP7 HZ7 HO7 G7 HB7 HA7 q2' qf2
            generalize w7.setCell ⟨Q, 2, none⟩ (.slice ao' (i + 1) ac') = w8 at *
            have e0 := (cell_of_row w8 A 0 _ _ _ HA8.out).trans rfl
            have hSNz : SN.size ≤ 8 := by rw [HSN.out, str_size]; exact hNAz
            have hSVz : SV.size ≤ 9 := by rw [HSV.out, str_size]; exact hv9
            obtain ⟨CL, hCL⟩ : ∃ CL, CL = Xm.clS SV := ⟨_, rfl⟩
            have hCLz : CL.size ≤ 54 := by rw [hCL, HSV.out]; show (str (Xm.clL v)).size ≤ 54; rw [str_size]; omega
            have HCL := Lib.hid hCL
            clear hCL
            obtain ⟨X, hX⟩ : ∃ X, X = str (60 :: (nm ++ Xm.atsB (Xm.blk b) (Xm.ats tl v i))) := ⟨_, rfl⟩
            have hXz : X.size ≤ 900 := by rw [hX, str_size]; simp; omega
            rw [← hX]
            have HX := Lib.hid hX
            clear hX
            obtain ⟨BX, hBX⟩ : ∃ BX, BX = str (Xm.blk b) := ⟨_, rfl⟩
            have hBXz : BX.size ≤ 2 := by rw [hBX]; exact hBLz
            rw [← hBX]
            have HBX := Lib.hid hBX
            clear hBX
            have l1 : ¬ 9223372036854775807 < BX.size + SN.size := by omega
            have l2 : ¬ 9223372036854775807 < BX.size + SN.size + 1 := by omega
            have l3 : ¬ 9223372036854775807 < BX.size + SN.size + 1 + 1 := by omega
            have l4 : ¬ 9223372036854775807 < BX.size + SN.size + 1 + 1 + CL.size := by omega
            have l5 : ¬ 9223372036854775807 < BX.size + SN.size + 1 + 1 + CL.size + 1 := by omega
            have l6 : ¬ 9223372036854775807 < X.size + (BX.size + SN.size + 1 + 1 + CL.size + 1) := by omega
            go_quiet ((go_at_call 31; exact Calls.quiet_of_same (close_quiet SV CL HCL.out.symm (by omega) _)))
            go_wp2_with fail
            have hC : Flow.Grow w8 (w8.drewN nq) := Flow.grow_drewN _ _
            generalize w8.drewN nq = w9 at *
            have eBX := HBX.out
            subst eBX
            have eSV := HSV.out
            subst eSV
            have eX := HX.out
            have eSN := HSN.out
            have eCL := HCL.out
            subst eX eSN eCL
            go_roundw
            case rel =>
              refine ⟨i + 1, .slice ao' (i + 1) ac', by omega, by first | rfl | go_num, ?_, Lib.hid (HP8.out.grow hC), Lib.hid (HO8.out.grow hC), Lib.hid (HZ8.out.grow hC), Lib.hid (G8.out.trans hC), Lib.hid (Nat.le_trans HB8.out hC.size)⟩
              rw [Xm.atsB_succ, HNA.out, show Xm.clS (str v) = str (Xm.clL v) from rfl, show (⟨#[61]⟩ : ByteArray) = str [61] from rfl, show (⟨#[34]⟩ : ByteArray) = str [34] from rfl]
              simp only [str_append]
              simp
            case measure => simp only [intOf]; omega
        · obtain rfl : i = n := by omega
          have hd : decide ((i : Int) < (i : Int)) = false := by simp
          have g1 : ¬ (i : Int) < (i : Int) := by omega
          have hok := Lib.hid (Xm.ats_ok htnl htl7 Hvt.out.1 (show i ≤ 3 by omega))
          have hlt3 := Lib.hid (Xm.ats_lt hbl.2.2.2 htnl htl7 Hvt.out.1 i (by omega))
          have hbx := Lib.hid hbl
          obtain ⟨X, hX⟩ : ∃ X, X = str (60 :: (nm ++ Xm.atsB (Xm.blk b) (Xm.ats tl v i))) := ⟨_, rfl⟩
          have hXz : X.size ≤ 900 := by rw [hX, str_size]; simp; omega
          have hX1 : ¬ 9223372036854775807 < X.size + 2 := by omega
          rw [← hX]
          have HX := Lib.hid hX
          clear hX
          have p0 := (cell_of_row wr Q 0 _ _ _ HPr.out).trans rfl
          have p1 := (cell_of_row wr Q 1 _ _ _ HPr.out).trans rfl
          have p2 := (cell_of_row wr Q 2 _ _ _ HPr.out).trans rfl
          have p3 := (cell_of_row wr Q 3 _ _ _ HPr.out).trans rfl
          have p4 := (cell_of_row wr Q 4 _ _ _ HPr.out).trans rfl
          have pf : ∀ j, wr.frozen? ⟨Q, j, none⟩ = false := fun j => frozen_of_row wr Q _ _ _ HPr.out
          have z0 := (cell_of_row wr Z 0 _ _ _ HZr.out).trans rfl
          have z1 := (cell_of_row wr Z 1 _ _ _ HZr.out).trans rfl
          have z2 := (cell_of_row wr Z 2 _ _ _ HZr.out).trans rfl
          have z3 := (cell_of_row wr Z 3 _ _ _ HZr.out).trans rfl
          have z4 := (cell_of_row wr Z 4 _ _ _ HZr.out).trans rfl
          have zf : ∀ j, wr.frozen? ⟨Z, j, none⟩ = false := fun j => frozen_of_row wr Z _ _ _ HZr.out
          have hZQ : ¬ Z = Q := by have := HQ.out; omega
          have hQZ : ¬ Q = Z := by have := HQ.out; omega
          rcases (by omega : c7 = 0 ∨ c7 = 1) with rfl | rfl
          · obtain ⟨EB, hA8, hEB⟩ : ∃ EB : ByteArray, (∀ h : c8 < 2, ([Value.string ⟨#[]⟩, .string (str (Xm.blk b))] : List Value)[c8]'h = .string EB) ∧ (EB = str [] ∨ EB = str (Xm.blk b)) := by
              rcases (by omega : c8 = 0 ∨ c8 = 1) with rfl | rfl
              · exact ⟨_, fun h => rfl, .inl rfl⟩
              · exact ⟨_, fun h => rfl, .inr rfl⟩
            have HEB := Lib.hid hEB
            have hEBz : EB.size ≤ 2 := by
              rcases hEB with rfl | rfl
              · exact Nat.zero_le _
              · exact hBLz
            clear hEB
            have hc8i : (c8 : Int) < 2 := by omega
            have hc8n : ¬ (2 : Int) ≤ (c8 : Int) := by omega
            have hX2 : ¬ 9223372036854775807 < X.size + EB.size := by omega
            have hX3 : ¬ 9223372036854775807 < X.size + EB.size + 1 := by omega
            go_upto_region 25 with fail
            have ga := Flow.grow_alloc wr (.cells #[.string ⟨#[]⟩, .string (str (Xm.blk b))] 9)
            have hQ3 : Q < wr.heap.size := HPr.out.lt
            have hZ3 : Z < wr.heap.size := HZr.out.lt
            have cZ : ∀ j, (wr.alloc (.cells #[.string ⟨#[]⟩, .string (str (Xm.blk b))] 9)).cell? ⟨Z, j, none⟩ = wr.cell? ⟨Z, j, none⟩ := fun j => Xm.cell_grow ga hZ3
            have cA : ∀ j, (wr.alloc (.cells #[.string ⟨#[]⟩, .string (str (Xm.blk b))] 9)).cell? ⟨Q, j, none⟩ = wr.cell? ⟨Q, j, none⟩ := fun j => Xm.cell_grow ga hQ3
            have fA : ∀ j, (wr.alloc (.cells #[.string ⟨#[]⟩, .string (str (Xm.blk b))] 9)).frozen? ⟨Z, j, none⟩ = false := fun j => frozen_of_row _ Z _ _ _ (HZr.out.grow ga)
            go_region
            clear p0 p1 p2 p3 p4 z0 z1 z2 z3 z4 zf pf cA cZ fA
            go_wp2
            have R5 := set5 HZr.out (.int .i64 1) (.string (str nm)) (.slice ao i ac) (.string ⟨#[]⟩) (.int .i64 0)
            refine bodyPost_ret (pc_res (Z := Z) rfl rfl ((R5.grow (Flow.grow_alloc _ _)).grow (Flow.grow_drew _))) rfl ?_
            obtain ⟨be, hbe, hbeb, hbel, hben⟩ : ∃ be, EB = str be ∧ Xm.Bl be ∧ Xm.Lt be ∧ be.length ≤ 2 := by
              rcases HEB.out with h | h
              · exact ⟨[], h, (by intro c hc; cases hc), Xm.Lt.nil, by simp⟩
              · exact ⟨Xm.blk b, h, hbx.out.1, hbx.out.2.2.2, hbx.out.2.2.1⟩
            have hm9 := (Xm.Mv.five (w := wr) (q := Z) (a := .int .i64 1) (b := .string (str nm)) (c := .slice ao i ac) (d := .string ⟨#[]⟩) (e := .int .i64 0))
            have hoz : ∀ q, q < B → (Value.slice ao i ac).ownBlock ≠ some q := fun q hq => HOr.out.blk q hq
            refine ⟨Xm.tagB nm (Xm.blk b) (Xm.ats tl v i) be false, some ⟨1, str nm, Xm.bsA (Xm.ats tl v i), ByteArray.empty, 0⟩, ⟨1, str nm, Xm.bsA (Xm.ats tl v i), ByteArray.empty, 0⟩, .slice ao i ac, ?_, ?_, Xm.item_tag (one := false) HNm.out.1 hbx.out.1 hbx.out.2.1 hbeb (fun h => by cases h) hok.out (by rw [Xm.ats_length]; omega), ?_, ?_, ?_, ?_, ?_, .inl ⟨rfl, by simp, rfl⟩⟩
            · have e : X ++ EB ++ ⟨#[62]⟩ = str (Xm.tagB nm (Xm.blk b) (Xm.ats tl v i) be false) := by
                rw [HX.out, hbe, show (⟨#[62]⟩ : ByteArray) = str [62] from rfl]
                simp only [str_append]
                unfold Xm.tagB Xm.endB
                simp
              rw [e]
              rfl
            · exact Xm.Mv.grow HGr.out ((hm9.trans (Xm.Mv.of Z (Flow.grow_alloc _ _))).trans (Xm.Mv.of Z (Flow.grow_drew _))) (by have := HZw.out; omega)
            · exact Xm.Lt.append (a := [60]) (Xm.lt_few (by decide)) (HNm.out.2.append (hlt3.out.append (hbel.append (Xm.lt_few (by decide)))))
            · unfold Xm.tagB Xm.endB
              simp
              omega
            · have hZl : Z < B := by have := HQ.out; have := HB.out.1; omega
              exact ((((((HOr.out.set hZl).set hZl).set hZl).set hZl).set hZl).grow ((Flow.grow_alloc _ _).trans (Flow.grow_drew _))).at'
            · rw [hlen]; omega
            · exact fun q hq => hoz q (by have := HB.out.2; omega)
          · go_wp2_with fail
            have HPk := Lib.hid (HPr.out.set 0 (.int .i64 3))
            have hm0 := (Xm.Mv.set (w := wr) (b := Q) (q := 0) (v := .int .i64 3))
            have HZk : Hid (Xm.Row5 (wr.setCell ⟨Q, 0, none⟩ (.int .i64 3)) Z #[.int .i64 0, .string ⟨#[]⟩, .slice none 0 0, .string ⟨#[]⟩, .int .i64 0]) := Lib.hid (HZr.out.other hZQ)
            clear p0 p1 p2 p3 p4 pf z0 z1 z2 z3 z4 zf
            have R5 := set5 HZk.out (.int .i64 3) (.string (str nm)) (.slice ao i ac) (.string ⟨#[]⟩) (.int .i64 0)
            refine bodyPost_ret (pc_res (Z := Z) rfl rfl R5) rfl ?_
            have hm9 := (Xm.Mv.five (w := wr.setCell ⟨Q, 0, none⟩ (.int .i64 3)) (q := Z) (a := .int .i64 3) (b := .string (str nm)) (c := .slice ao i ac) (d := .string ⟨#[]⟩) (e := .int .i64 0))
            have gk : Flow.Grow w (wr.setCell ⟨Q, 0, none⟩ (.int .i64 3)) := Xm.Mv.grow HGr.out hm0 (by have := HQ.out; have := HZw.out; omega)
            have hoz : ∀ q, q < B → (Value.slice ao i ac).ownBlock ≠ some q := fun q hq => HOr.out.blk q hq
            refine ⟨Xm.tagB nm (Xm.blk b) (Xm.ats tl v i) [] true, some ⟨3, str nm, Xm.bsA (Xm.ats tl v i), ByteArray.empty, 0⟩, ⟨3, str nm, Xm.bsA (Xm.ats tl v i), ByteArray.empty, 0⟩, .slice ao i ac, ?_, ?_, Xm.item_tag (one := true) HNm.out.1 hbx.out.1 hbx.out.2.1 (by intro c hc; cases hc) (fun _ => rfl) hok.out (by rw [Xm.ats_length]; omega), ?_, ?_, ?_, ?_, ?_, .inl ⟨rfl, by simp, rfl⟩⟩
            · have e : X ++ ⟨#[47, 62]⟩ = str (Xm.tagB nm (Xm.blk b) (Xm.ats tl v i) [] true) := by
                rw [HX.out, show (⟨#[47, 62]⟩ : ByteArray) = str [47, 62] from rfl]
                simp only [str_append]
                unfold Xm.tagB Xm.endB
                simp
              rw [e]
              rfl
            · exact Xm.Mv.grow gk hm9 (by have := HZw.out; omega)
            · exact Xm.Lt.append (a := [60]) (Xm.lt_few (by decide)) (HNm.out.2.append (hlt3.out.append (Xm.Lt.nil.append (Xm.lt_few (by decide)))))
            · unfold Xm.tagB Xm.endB
              simp
              omega
            · have hZl : Z < B := by have := HQ.out; have := HB.out.1; omega
              exact ((((((HOr.out.set HB.out.1).set hZl).set hZl).set hZl).set hZl).set hZl).at'
            · rw [hlen]; omega
            · exact fun q hq => hoz q (by have := HB.out.2; omega)
end Go.Proofs.YtfkdjdmbgednkaaDoor
