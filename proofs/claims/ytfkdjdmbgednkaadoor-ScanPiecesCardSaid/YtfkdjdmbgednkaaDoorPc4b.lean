/- galliardlaw04.piece by its contract: what says nothing. -/
import Derived.Test.YtfkdjdmbgednkaaDoorPc4
namespace Go.Proofs.YtfkdjdmbgednkaaDoor
open Go.RowKit
set_option maxRecDepth 100000 in
set_option maxHeartbeats 8000000 in
theorem piece_b (z : Int) (s t : ByteArray) (w : World) (hz : 0 ≤ z ∧ z < 65536) (hs : s.size ≤ 9223372036854775807) (ht : t.size ≤ 9223372036854775807) (kk : Nat) (hkk : bits .and .i64 z 7 = (kk : Int)) (hkq : kk = 5) :
    Calls Tryd.prog 10 #[.int .i64 z, .string s, .string t] w (Xm.PcRet w) := by
  obtain ⟨sl, hsl, hnl, hsl7⟩ := Xm.nm_nl 6 (by omega) s
  obtain ⟨tl, htl, htnl, htl7⟩ := Xm.nm_nl 6 (by omega) t
  have HNs := Lib.hid (fun w => name4_any s w hs)
  have HNt := Lib.hid (fun w => name4_any t w ht)
  rw [hsl] at HNs
  rw [htl] at HNt
  obtain ⟨SL, hSL⟩ : ∃ SL, SL = str sl := ⟨_, rfl⟩
  obtain ⟨TL, hTL⟩ : ∃ TL, TL = str tl := ⟨_, rfl⟩
  have hSLz : SL.size ≤ 7 := by rw [hSL, str_size]; exact hsl7
  have hTLz : TL.size ≤ 7 := by rw [hTL, str_size]; exact htl7
  rw [← hSL] at HNs
  rw [← hTL] at HNt
  have HSL := Lib.hid hSL
  have HTL := Lib.hid hTL
  have HSn : Hid (Xm.nmB 6 s 0 ⟨#[110]⟩ = SL) := Lib.hid (by rw [hsl, hSL])
  have HTn : Hid (Xm.nmB 6 t 0 ⟨#[110]⟩ = TL) := Lib.hid (by rw [htl, hTL])
  obtain ⟨b, hb, hb4⟩ : ∃ b : Nat, bits .and .i64 (z / 8) 3 = (b : Int) ∧ b < 4 := ⟨(z / 8 % 2 ^ 2).toNat, by rw [Bits.i64_mask _ 2 (by omega) 3 (by decide)]; omega, by omega⟩
  obtain ⟨c5, hc5, hc52⟩ : ∃ b : Nat, bits .and .i64 (z / 32) 1 = (b : Int) ∧ b < 2 := ⟨(z / 32 % 2 ^ 1).toNat, by rw [Bits.i64_mask _ 1 (by omega) 1 (by decide)]; omega, by omega⟩
  obtain ⟨n, hn, hn4⟩ : ∃ b : Nat, bits .and .i64 (z / 32) 3 = (b : Int) ∧ b < 4 := ⟨(z / 32 % 2 ^ 2).toNat, by rw [Bits.i64_mask _ 2 (by omega) 3 (by decide)]; omega, by omega⟩
  obtain ⟨c7, hc7, hc72⟩ : ∃ b : Nat, bits .and .i64 (z / 128) 1 = (b : Int) ∧ b < 2 := ⟨(z / 128 % 2 ^ 1).toNat, by rw [Bits.i64_mask _ 1 (by omega) 1 (by decide)]; omega, by omega⟩
  obtain ⟨c8, hc8, hc82⟩ : ∃ b : Nat, bits .and .i64 (z / 256) 1 = (b : Int) ∧ b < 2 := ⟨(z / 256 % 2 ^ 1).toNat, by rw [Bits.i64_mask _ 1 (by omega) 1 (by decide)]; omega, by omega⟩
  obtain ⟨c0, hc0, hc02⟩ : ∃ b : Nat, bits .and .i64 z 1 = (b : Int) ∧ b < 2 := ⟨(z % 2 ^ 1).toNat, by rw [Bits.i64_mask _ 1 (by omega) 1 (by decide)]; omega, by omega⟩
  obtain ⟨BL, hBL⟩ : ∃ BL, BL = str (Xm.blk b) := ⟨_, rfl⟩
  have hBLz : BL.size ≤ 2 := by rw [hBL, str_size]; exact (Xm.blk_law b hb4).2.2.1
  have HBL := Lib.hid hBL
  clear hsl htl hSL hTL
  go_enter Tryd.func10, Tryd.ntmps10
  go_upto_region 1 with fail
  have hA : ∀ h : b < 4, ([Value.string ⟨#[32]⟩, .string ⟨#[10]⟩, .string ⟨#[32, 32]⟩, .string ⟨#[9]⟩] : List Value)[b]'h = .string BL := by
    intro h
    rw [hBL]
    rcases (by omega : b = 0 ∨ b = 1 ∨ b = 2 ∨ b = 3) with rfl | rfl | rfl | rfl <;> rfl
  have hb4i : (b : Int) < 4 := by omega
  have hb4n : ¬ (4 : Int) ≤ (b : Int) := by omega
  clear hBL
  have HZ : Hid (Xm.Row5 ((w.alloc (.cells #[.int .i64 0, .string ⟨#[]⟩, .slice none 0 0, .string ⟨#[]⟩, .int .i64 0] 27)).alloc (.cells #[.string ⟨#[32]⟩, .string ⟨#[10]⟩, .string ⟨#[32, 32]⟩, .string ⟨#[9]⟩] 9)) w.heap.size #[.int .i64 0, .string ⟨#[]⟩, .slice none 0 0, .string ⟨#[]⟩, .int .i64 0]) := Lib.hid (Xm.Row5.grow (heap_alloc_new _ _) (Flow.grow_alloc _ _))
  have G1 : Hid (Flow.Grow w ((w.alloc (.cells #[.int .i64 0, .string ⟨#[]⟩, .slice none 0 0, .string ⟨#[]⟩, .int .i64 0] 27)).alloc (.cells #[.string ⟨#[32]⟩, .string ⟨#[10]⟩, .string ⟨#[32, 32]⟩, .string ⟨#[9]⟩] 9))) := Lib.hid ((Flow.grow_alloc _ _).trans (Flow.grow_alloc _ _))
  go_upto_region 2 with fail
  obtain ⟨Z, hZ⟩ : ∃ Z, Z = w.heap.size := ⟨_, rfl⟩
  rw [← hZ] at HZ ⊢
  have HZw := Lib.hid hZ
  clear hZ hA
  generalize ((w.alloc (.cells #[.int .i64 0, .string ⟨#[]⟩, .slice none 0 0, .string ⟨#[]⟩, .int .i64 0] 27)).alloc (.cells #[.string ⟨#[32]⟩, .string ⟨#[10]⟩, .string ⟨#[32, 32]⟩, .string ⟨#[9]⟩] 9)) = w1 at *
  go_upto_region 3 with fail
  have GZ := Lib.hid (And.intro hs ht)
  clear hs ht
  subst hkq
  go_upto_region 27 with fail
  have z0 := (cell_of_row w1 Z 0 _ _ _ HZ.out).trans rfl
  have hs1 : 1 ≤ SL.size := by rw [HSL.out, str_size]; exact hnl.len.1
  obtain ⟨N1, hN1, hn1⟩ : ∃ N1 : ByteArray, SL.extract 0 1 = N1 ∧ N1 = str [110] := by
    refine ⟨_, rfl, ?_⟩
    obtain ⟨r, rfl, _⟩ := hnl
    rw [HSL.out]
    exact (Xm.Lies.of (A := []) (l := [110]) (B := r) (by simp [str]) rfl : Xm.Lies (str (110 :: r)) 0 [110]).ext
  have hn1z : N1.size = 1 := by rw [hn1]; rfl
  have HN1 := Lib.hid hn1
  clear hn1
  have z1 := (cell_of_row w1 Z 1 _ _ _ HZ.out).trans rfl
  have z2 := (cell_of_row w1 Z 2 _ _ _ HZ.out).trans rfl
  have z3 := (cell_of_row w1 Z 3 _ _ _ HZ.out).trans rfl
  have z4 := (cell_of_row w1 Z 4 _ _ _ HZ.out).trans rfl
  have zf : ∀ j, w1.frozen? ⟨Z, j, none⟩ = false := fun j => frozen_of_row w1 Z _ _ _ HZ.out
  have HF : Hid (∀ w9, Xm.Mv w1 Z w9 → Xm.PcRet w (.returned (.tuple #[.agg #[.int .i64 0, .string ⟨#[]⟩, .slice none 0 0, .string ⟨#[]⟩, .int .i64 0], .string ((⟨#[60, 33, 45, 45, 32, 60]⟩ : ByteArray) ++ N1 ++ ⟨#[62, 32, 45, 45, 62, 60, 63]⟩ ++ TL ++ ⟨#[63, 62]⟩)])) w9) := Lib.hid (by
    intro w9 hm
    have e : (⟨#[60, 33, 45, 45, 32, 60]⟩ : ByteArray) ++ N1 ++ ⟨#[62, 32, 45, 45, 62, 60, 63]⟩ ++ TL ++ ⟨#[63, 62]⟩ = str (Xm.comB [32, 60, 110, 62, 32] ++ Xm.insB tl) := by
      rw [HN1.out, HTL.out, show (⟨#[60, 33, 45, 45, 32, 60]⟩ : ByteArray) = str [60, 33, 45, 45, 32, 60] from rfl, show (⟨#[62, 32, 45, 45, 62, 60, 63]⟩ : ByteArray) = str [62, 32, 45, 45, 62, 60, 63] from rfl, show (⟨#[63, 62]⟩ : ByteArray) = str [63, 62] from rfl, str_append, str_append, str_append, str_append]
      unfold Xm.comB Xm.insB
      simp
    rw [e]
    have l1 : Xm.Lt [32, 60, 110, 62, 32] := Xm.lt_few (by decide)
    refine ⟨_, none, Xm.Pc.zero, .slice none 0 0, rfl, Xm.Mv.grow G1.out hm (by have := HZw.out; omega), Xm.item_side l1 (by kernel_rfl) htnl.lt (fun h => (htnl.part 63 h).2.2.1 rfl), ?_, ?_, .inl ⟨rfl, rfl⟩, by simp [Xm.Pc.zero], fun q _ => by simp [Value.ownBlock], .inr ⟨rfl, rfl⟩⟩
    · exact Xm.Lt.append (Xm.Lt.append (Xm.lt_few (by decide)) (l1.append (Xm.lt_few (by decide)))) (Xm.Lt.append (Xm.lt_few (by decide)) (htnl.lt.append (Xm.lt_few (by decide))))
    · unfold Xm.comB Xm.insB
      simp
      omega)
  go_region_with (
    go_simp
    go_at_call 30
    refine (name4_any _ _ (by first | exact GZ.out.1 | exact GZ.out.2)).mono ?_
    rintro e wa ⟨rfl, hga⟩
    first | rw [HSn.out] | rw [HTn.out]
    first
      | (have hgw : Xm.Mv w1 Z wa := Xm.Mv.of Z ((Flow.grow_drew w1).trans hga)
         have hzr := Lib.hid ((HZ.out.grow (Flow.grow_drew w1)).grow hga))
      | (have hgw : Xm.Mv w1 Z wa := (Xm.Mv.five.trans (Xm.Mv.of Z (Flow.grow_drew _))).trans (Xm.Mv.of Z hga)
         have hzr := Lib.hid (((set5 HZ.out _ _ _ _ _).grow (Flow.grow_drew _)).grow hga))
      | (have hgw : Xm.Mv w1 Z wa := hgw.trans (Xm.Mv.of Z hga)
         have hzr := Lib.hid (hzr.out.grow hga))
      | (have hgw : Xm.Mv w1 Z wa := (hgw.trans Xm.Mv.five).trans (Xm.Mv.of Z hga)
         have hzr := Lib.hid ((set5 hzr.out _ _ _ _ _).grow hga))
    have z0 := (cell_of_row wa Z 0 _ _ _ hzr.out).trans rfl
    have z1 := (cell_of_row wa Z 1 _ _ _ hzr.out).trans rfl
    have z2 := (cell_of_row wa Z 2 _ _ _ hzr.out).trans rfl
    have z3 := (cell_of_row wa Z 3 _ _ _ hzr.out).trans rfl
    have z4 := (cell_of_row wa Z 4 _ _ _ hzr.out).trans rfl
    have zf : ∀ j, wa.frozen? ⟨Z, j, none⟩ = false := fun j => frozen_of_row wa Z _ _ _ hzr.out
    clear hga)
  all_goals
    clear z0 z1 z2 z3 z4 zf
    go_wp2_with fail
    first
      | (refine bodyPost_ret (pc_res (Z := Z) rfl rfl (set5 hzr.out _ _ _ _ _)) rfl ?_
         exact HF.out _ (hgw.trans Xm.Mv.five))
      | (refine bodyPost_ret (pc_res (Z := Z) rfl rfl hzr.out) rfl ?_
         exact HF.out _ hgw)
end Go.Proofs.YtfkdjdmbgednkaaDoor
