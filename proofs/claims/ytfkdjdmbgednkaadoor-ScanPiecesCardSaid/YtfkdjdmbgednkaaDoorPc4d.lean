/- galliardlaw04.piece by its contract: a text. -/
import Derived.Test.YtfkdjdmbgednkaaDoorPc4
namespace Go.Proofs.YtfkdjdmbgednkaaDoor
open Go.RowKit
set_option maxRecDepth 100000 in
set_option maxHeartbeats 8000000 in
theorem piece_d (z : Int) (s t : ByteArray) (w : World) (hz : 0 ≤ z ∧ z < 65536) (hs : s.size ≤ 9223372036854775807) (ht : t.size ≤ 9223372036854775807) (kk : Nat) (hkk : bits .and .i64 z 7 = (kk : Int)) (hkq : kk = 6 ∨ kk = 7) :
    Calls Tryd.prog 10 #[.int .i64 z, .string s, .string t] w (Xm.PcRet w) := by
  obtain ⟨sl, hsl, hnl, hsl7⟩ := Xm.nm_nl 6 (by omega) s
  obtain ⟨tl, htl, htnl, htl7⟩ := Xm.nm_nl 6 (by omega) t
  have HNs := Lib.hid (fun w => name4_any s w hs)
  have HNt := Lib.hid (fun w => name4_any t w ht)
  rw [hsl] at HNs
  rw [htl] at HNt
  obtain ⟨SL, hSL⟩ : ∃ SL, SL = str sl := ⟨_, rfl⟩
  obtain ⟨TL, hTL⟩ : ∃ TL, TL = str tl := ⟨_, rfl⟩
  have hSLz : SL.size ≤ 7 := by rw [hSL, str_size]; exact hsl7
  have hTLz : TL.size ≤ 7 := by rw [hTL, str_size]; exact htl7
  rw [← hSL] at HNs
  rw [← hTL] at HNt
  have HSL := Lib.hid hSL
  have HTL := Lib.hid hTL
  obtain ⟨b, hb, hb4⟩ : ∃ b : Nat, bits .and .i64 (z / 8) 3 = (b : Int) ∧ b < 4 := ⟨(z / 8 % 2 ^ 2).toNat, by rw [Bits.i64_mask _ 2 (by omega) 3 (by decide)]; omega, by omega⟩
  obtain ⟨c5, hc5, hc52⟩ : ∃ b : Nat, bits .and .i64 (z / 32) 1 = (b : Int) ∧ b < 2 := ⟨(z / 32 % 2 ^ 1).toNat, by rw [Bits.i64_mask _ 1 (by omega) 1 (by decide)]; omega, by omega⟩
  obtain ⟨n, hn, hn4⟩ : ∃ b : Nat, bits .and .i64 (z / 32) 3 = (b : Int) ∧ b < 4 := ⟨(z / 32 % 2 ^ 2).toNat, by rw [Bits.i64_mask _ 2 (by omega) 3 (by decide)]; omega, by omega⟩
  obtain ⟨c7, hc7, hc72⟩ : ∃ b : Nat, bits .and .i64 (z / 128) 1 = (b : Int) ∧ b < 2 := ⟨(z / 128 % 2 ^ 1).toNat, by rw [Bits.i64_mask _ 1 (by omega) 1 (by decide)]; omega, by omega⟩
  obtain ⟨c8, hc8, hc82⟩ : ∃ b : Nat, bits .and .i64 (z / 256) 1 = (b : Int) ∧ b < 2 := ⟨(z / 256 % 2 ^ 1).toNat, by rw [Bits.i64_mask _ 1 (by omega) 1 (by decide)]; omega, by omega⟩
  obtain ⟨c0, hc0, hc02⟩ : ∃ b : Nat, bits .and .i64 z 1 = (b : Int) ∧ b < 2 := ⟨(z % 2 ^ 1).toNat, by rw [Bits.i64_mask _ 1 (by omega) 1 (by decide)]; omega, by omega⟩
  obtain ⟨BL, hBL⟩ : ∃ BL, BL = str (Xm.blk b) := ⟨_, rfl⟩
  have hBLz : BL.size ≤ 2 := by rw [hBL, str_size]; exact (Xm.blk_law b hb4).2.2.1
  have HBL := Lib.hid hBL
  clear hsl htl hSL hTL
  go_enter Tryd.func10, Tryd.ntmps10
  go_upto_region 1 with fail
  have hA : ∀ h : b < 4, ([Value.string ⟨#[32]⟩, .string ⟨#[10]⟩, .string ⟨#[32, 32]⟩, .string ⟨#[9]⟩] : List Value)[b]'h = .string BL := by
    intro h
    rw [hBL]
    rcases (by omega : b = 0 ∨ b = 1 ∨ b = 2 ∨ b = 3) with rfl | rfl | rfl | rfl <;> rfl
  have hb4i : (b : Int) < 4 := by omega
  have hb4n : ¬ (4 : Int) ≤ (b : Int) := by omega
  clear hBL
  have HZ : Hid (Xm.Row5 ((w.alloc (.cells #[.int .i64 0, .string ⟨#[]⟩, .slice none 0 0, .string ⟨#[]⟩, .int .i64 0] 27)).alloc (.cells #[.string ⟨#[32]⟩, .string ⟨#[10]⟩, .string ⟨#[32, 32]⟩, .string ⟨#[9]⟩] 9)) w.heap.size #[.int .i64 0, .string ⟨#[]⟩, .slice none 0 0, .string ⟨#[]⟩, .int .i64 0]) := Lib.hid (Xm.Row5.grow (heap_alloc_new _ _) (Flow.grow_alloc _ _))
  have G1 : Hid (Flow.Grow w ((w.alloc (.cells #[.int .i64 0, .string ⟨#[]⟩, .slice none 0 0, .string ⟨#[]⟩, .int .i64 0] 27)).alloc (.cells #[.string ⟨#[32]⟩, .string ⟨#[10]⟩, .string ⟨#[32, 32]⟩, .string ⟨#[9]⟩] 9))) := Lib.hid ((Flow.grow_alloc _ _).trans (Flow.grow_alloc _ _))
  go_upto_region 2 with fail
  obtain ⟨Z, hZ⟩ : ∃ Z, Z = w.heap.size := ⟨_, rfl⟩
  rw [← hZ] at HZ ⊢
  have HZw := Lib.hid hZ
  clear hZ hA
  generalize ((w.alloc (.cells #[.int .i64 0, .string ⟨#[]⟩, .slice none 0 0, .string ⟨#[]⟩, .int .i64 0] 27)).alloc (.cells #[.string ⟨#[32]⟩, .string ⟨#[10]⟩, .string ⟨#[32, 32]⟩, .string ⟨#[9]⟩] 9)) = w1 at *
  go_upto_region 3 with fail
  have GZ := Lib.hid (And.intro hs ht)
  clear hs ht
  have hd9 : (t.extract 0 (min (t.size : Int) 9).toNat).size ≤ 9 := by simp; omega
  obtain ⟨v, hv, hvt, hvz⟩ := Xm.plain_vt (t.extract 0 (min (t.size : Int) 9).toNat)
  have HPL := Lib.hid (fun w => rplain_any (t.extract 0 (min (t.size : Int) 9).toNat) w (by omega))
  rw [hv] at HPL
  obtain ⟨V, hV⟩ : ∃ V, V = str v := ⟨_, rfl⟩
  have hVz : V.size ≤ 9 := by rw [hV, str_size]; omega
  rw [← hV] at HPL
  have HV := Lib.hid hV
  have Hvt := Lib.hid (And.intro hvt (show v.length ≤ 9 by omega))
  have hl1 : ¬ 9223372036854775807 < 1 + V.size := by omega
  clear hv hV hvt hvz hd9
  have e0 : ((kk : Int) == 0) = false := by rcases hkq with rfl | rfl <;> rfl
  have e1 : ((kk : Int) == 1) = false := by rcases hkq with rfl | rfl <;> rfl
  have e2 : ((kk : Int) == 2) = false := by rcases hkq with rfl | rfl <;> rfl
  have e3 : ((kk : Int) == 3) = false := by rcases hkq with rfl | rfl <;> rfl
  have e4 : ((kk : Int) == 4) = false := by rcases hkq with rfl | rfl <;> rfl
  have e5 : ((kk : Int) == 5) = false := by rcases hkq with rfl | rfl <;> rfl
  clear hkq
  go_upto_region 29 with (go_at_call 17; refine (HPL.out _).mono ?_; rintro e w2 ⟨rfl, hg2⟩)
  have HZ2 := Lib.hid (HZ.out.grow hg2)
  have G2 := Lib.hid (G1.out.trans hg2)
  clear hg2
  have z0 := (cell_of_row w2 Z 0 _ _ _ HZ2.out).trans rfl
  have z1 := (cell_of_row w2 Z 1 _ _ _ HZ2.out).trans rfl
  have z2 := (cell_of_row w2 Z 2 _ _ _ HZ2.out).trans rfl
  have z3 := (cell_of_row w2 Z 3 _ _ _ HZ2.out).trans rfl
  have z4 := (cell_of_row w2 Z 4 _ _ _ HZ2.out).trans rfl
  have zf : ∀ j, w2.frozen? ⟨Z, j, none⟩ = false := fun j => frozen_of_row w2 Z _ _ _ HZ2.out
  obtain ⟨Y, hY⟩ : ∃ Y, Y = (⟨#[113]⟩ : ByteArray) ++ V := ⟨_, rfl⟩
  have hYz : Y.size ≤ 10 := by rw [hY, ByteArray.size_append]; show 1 + V.size ≤ 10; omega
  rw [← hY]
  have HY := Lib.hid hY
  clear hY
  go_wp2_with (go_at_call 31; refine (close_any Y w2 (by omega)).mono ?_; rintro e w3 ⟨rfl, rfl⟩)
  clear z0 z1 z2 z3 z4 zf
  have R5 := set5 HZ2.out (.int .i64 4) (.string ⟨#[]⟩) (.slice none 0 0) (.string Y) (.int .i64 0)
  refine bodyPost_ret (pc_res (Z := Z) rfl rfl R5) rfl ?_
  have hYs : Y = str (113 :: v) := by rw [HY.out, HV.out, show (⟨#[113]⟩ : ByteArray) = str [113] from rfl, str_append]; rfl
  have hvt := Hvt.out.1.cons
  have hlen := Xm.clL_len (113 :: v)
  have hv9 := Hvt.out.2
  refine ⟨Xm.clL (113 :: v), some ⟨4, ByteArray.empty, [], str (113 :: v), 0⟩, ⟨4, ByteArray.empty, [], str (113 :: v), 0⟩, .slice none 0 0, ?_, ?_, Xm.item_text hvt (by simp), hvt.close, ?_, .inl ⟨rfl, rfl⟩, by simp, fun q _ => by simp [Value.ownBlock], .inl ⟨rfl, by simp, rfl⟩⟩
  · rw [hYs]
    rfl
  · exact Xm.Mv.grow G2.out (Xm.Mv.five (q := Z)) (by have := HZw.out; omega)
  · rw [List.length_cons] at hlen
    omega
end Go.Proofs.YtfkdjdmbgednkaaDoor
