/- galliardlaw04.piece by its contract: a closing tag. -/
import Derived.Test.YtfkdjdmbgednkaaDoorPc4
namespace Go.Proofs.YtfkdjdmbgednkaaDoor
open Go.RowKit
set_option maxRecDepth 100000 in
set_option maxHeartbeats 8000000 in
theorem piece_a (z : Int) (s t : ByteArray) (w : World) (hz : 0 ≤ z ∧ z < 65536) (hs : s.size ≤ 9223372036854775807) (ht : t.size ≤ 9223372036854775807) (kk : Nat) (hkk : bits .and .i64 z 7 = (kk : Int)) (hkq : kk = 0) :
    Calls Tryd.prog 10 #[.int .i64 z, .string s, .string t] w (Xm.PcRet w) := by
  obtain ⟨sl, hsl, hnl, hsl7⟩ := Xm.nm_nl 6 (by omega) s
  obtain ⟨tl, htl, htnl, htl7⟩ := Xm.nm_nl 6 (by omega) t
  have HNs := Lib.hid (fun w => name4_any s w hs)
  have HNt := Lib.hid (fun w => name4_any t w ht)
  rw [hsl] at HNs
  rw [htl] at HNt
  obtain ⟨SL, hSL⟩ : ∃ SL, SL = str sl := ⟨_, rfl⟩
  obtain ⟨TL, hTL⟩ : ∃ TL, TL = str tl := ⟨_, rfl⟩
  have hSLz : SL.size ≤ 7 := by rw [hSL, str_size]; exact hsl7
  have hTLz : TL.size ≤ 7 := by rw [hTL, str_size]; exact htl7
  rw [← hSL] at HNs
  rw [← hTL] at HNt
  have HSL := Lib.hid hSL
  have HTL := Lib.hid hTL
  obtain ⟨b, hb, hb4⟩ : ∃ b : Nat, bits .and .i64 (z / 8) 3 = (b : Int) ∧ b < 4 := ⟨(z / 8 % 2 ^ 2).toNat, by rw [Bits.i64_mask _ 2 (by omega) 3 (by decide)]; omega, by omega⟩
  obtain ⟨c5, hc5, hc52⟩ : ∃ b : Nat, bits .and .i64 (z / 32) 1 = (b : Int) ∧ b < 2 := ⟨(z / 32 % 2 ^ 1).toNat, by rw [Bits.i64_mask _ 1 (by omega) 1 (by decide)]; omega, by omega⟩
  obtain ⟨n, hn, hn4⟩ : ∃ b : Nat, bits .and .i64 (z / 32) 3 = (b : Int) ∧ b < 4 := ⟨(z / 32 % 2 ^ 2).toNat, by rw [Bits.i64_mask _ 2 (by omega) 3 (by decide)]; omega, by omega⟩
  obtain ⟨c7, hc7, hc72⟩ : ∃ b : Nat, bits .and .i64 (z / 128) 1 = (b : Int) ∧ b < 2 := ⟨(z / 128 % 2 ^ 1).toNat, by rw [Bits.i64_mask _ 1 (by omega) 1 (by decide)]; omega, by omega⟩
  obtain ⟨c8, hc8, hc82⟩ : ∃ b : Nat, bits .and .i64 (z / 256) 1 = (b : Int) ∧ b < 2 := ⟨(z / 256 % 2 ^ 1).toNat, by rw [Bits.i64_mask _ 1 (by omega) 1 (by decide)]; omega, by omega⟩
  obtain ⟨c0, hc0, hc02⟩ : ∃ b : Nat, bits .and .i64 z 1 = (b : Int) ∧ b < 2 := ⟨(z % 2 ^ 1).toNat, by rw [Bits.i64_mask _ 1 (by omega) 1 (by decide)]; omega, by omega⟩
  obtain ⟨BL, hBL⟩ : ∃ BL, BL = str (Xm.blk b) := ⟨_, rfl⟩
  have hBLz : BL.size ≤ 2 := by rw [hBL, str_size]; exact (Xm.blk_law b hb4).2.2.1
  have HBL := Lib.hid hBL
  clear hsl htl hSL hTL
  go_enter Tryd.func10, Tryd.ntmps10
  go_upto_region 1 with fail
  have hA : ∀ h : b < 4, ([Value.string ⟨#[32]⟩, .string ⟨#[10]⟩, .string ⟨#[32, 32]⟩, .string ⟨#[9]⟩] : List Value)[b]'h = .string BL := by
    intro h
    rw [hBL]
    rcases (by omega : b = 0 ∨ b = 1 ∨ b = 2 ∨ b = 3) with rfl | rfl | rfl | rfl <;> rfl
  have hb4i : (b : Int) < 4 := by omega
  have hb4n : ¬ (4 : Int) ≤ (b : Int) := by omega
  clear hBL
  have HZ : Hid (Xm.Row5 ((w.alloc (.cells #[.int .i64 0, .string ⟨#[]⟩, .slice none 0 0, .string ⟨#[]⟩, .int .i64 0] 27)).alloc (.cells #[.string ⟨#[32]⟩, .string ⟨#[10]⟩, .string ⟨#[32, 32]⟩, .string ⟨#[9]⟩] 9)) w.heap.size #[.int .i64 0, .string ⟨#[]⟩, .slice none 0 0, .string ⟨#[]⟩, .int .i64 0]) := Lib.hid (Xm.Row5.grow (heap_alloc_new _ _) (Flow.grow_alloc _ _))
  have G1 : Hid (Flow.Grow w ((w.alloc (.cells #[.int .i64 0, .string ⟨#[]⟩, .slice none 0 0, .string ⟨#[]⟩, .int .i64 0] 27)).alloc (.cells #[.string ⟨#[32]⟩, .string ⟨#[10]⟩, .string ⟨#[32, 32]⟩, .string ⟨#[9]⟩] 9))) := Lib.hid ((Flow.grow_alloc _ _).trans (Flow.grow_alloc _ _))
  go_upto_region 2 with fail
  obtain ⟨Z, hZ⟩ : ∃ Z, Z = w.heap.size := ⟨_, rfl⟩
  rw [← hZ] at HZ ⊢
  have HZw := Lib.hid hZ
  clear hZ hA
  generalize ((w.alloc (.cells #[.int .i64 0, .string ⟨#[]⟩, .slice none 0 0, .string ⟨#[]⟩, .int .i64 0] 27)).alloc (.cells #[.string ⟨#[32]⟩, .string ⟨#[10]⟩, .string ⟨#[32, 32]⟩, .string ⟨#[9]⟩] 9)) = w1 at *
  go_upto_region 3 with fail
  have GZ := Lib.hid (And.intro hs ht)
  clear hs ht
  subst hkq
  obtain ⟨EB, hA5, hEB⟩ : ∃ EB : ByteArray, (∀ h : c5 < 2, ([Value.string ⟨#[]⟩, .string BL] : List Value)[c5]'h = .string EB) ∧ (EB = str [] ∨ EB = BL) := by
    rcases (by omega : c5 = 0 ∨ c5 = 1) with rfl | rfl
    · exact ⟨_, fun h => rfl, .inl rfl⟩
    · exact ⟨_, fun h => rfl, .inr rfl⟩
  have HEB := Lib.hid hEB
  have hEBz : EB.size ≤ 2 := by
    rcases hEB with rfl | rfl
    · exact Nat.zero_le _
    · exact hBLz
  clear hEB
  have hc5i : (c5 : Int) < 2 := by omega
  have hc5n : ¬ (2 : Int) ≤ (c5 : Int) := by omega
  go_upto_region 5 with (go_at_call 30; refine (HNs.out _).mono ?_; rintro e w2 ⟨rfl, hg2⟩)
  have HP : Hid (Xm.Row5 (w2.alloc (.cells #[.int .i64 2, .string SL, .slice none 0 0, .string ⟨#[]⟩, .int .i64 0] 27)) w2.heap.size #[.int .i64 2, .string SL, .slice none 0 0, .string ⟨#[]⟩, .int .i64 0]) := Lib.hid (heap_alloc_new _ _)
  have G3 : Hid (Flow.Grow w1 (w2.alloc (.cells #[.int .i64 2, .string SL, .slice none 0 0, .string ⟨#[]⟩, .int .i64 0] 27))) := Lib.hid (hg2.trans (Flow.grow_alloc _ _))
  have HZ3 := Lib.hid (HZ.out.grow G3.out)
  obtain ⟨Q, hQ⟩ : ∃ Q, Q = w2.heap.size := ⟨_, rfl⟩
  rw [← hQ] at HP ⊢
  have HQ : Hid (Z < Q) := Lib.hid (by rw [hQ]; exact Nat.lt_of_lt_of_le HZ.out.lt hg2.size)
  clear hQ hg2
  generalize w2.alloc (.cells #[.int .i64 2, .string SL, .slice none 0 0, .string ⟨#[]⟩, .int .i64 0] 27) = w3 at *
  have q0 := (cell_of_row w3 Q 0 _ _ _ HP.out).trans rfl
  have q1 := (cell_of_row w3 Q 1 _ _ _ HP.out).trans rfl
  have q2 := (cell_of_row w3 Q 2 _ _ _ HP.out).trans rfl
  have q3 := (cell_of_row w3 Q 3 _ _ _ HP.out).trans rfl
  have q4 := (cell_of_row w3 Q 4 _ _ _ HP.out).trans rfl
  have z0 := (cell_of_row w3 Z 0 _ _ _ HZ3.out).trans rfl
  have z1 := (cell_of_row w3 Z 1 _ _ _ HZ3.out).trans rfl
  have z2 := (cell_of_row w3 Z 2 _ _ _ HZ3.out).trans rfl
  have z3 := (cell_of_row w3 Z 3 _ _ _ HZ3.out).trans rfl
  have z4 := (cell_of_row w3 Z 4 _ _ _ HZ3.out).trans rfl
  have zf : ∀ j, w3.frozen? ⟨Z, j, none⟩ = false := fun j => frozen_of_row w3 Z _ _ _ HZ3.out
  have hsl2 : ¬ 9223372036854775807 < 2 + SL.size := by omega
  have hsl3 : ¬ 9223372036854775807 < 2 + SL.size + EB.size := by omega
  have hsl4 : ¬ 9223372036854775807 < 2 + SL.size + EB.size + 1 := by omega
  have ga := Flow.grow_alloc w3 (.cells #[.string ⟨#[]⟩, .string BL] 9)
  have hQ3 : Q < w3.heap.size := HP.out.lt
  have hZ3 : Z < w3.heap.size := HZ3.out.lt
  have cZ : ∀ j, (w3.alloc (.cells #[.string ⟨#[]⟩, .string BL] 9)).cell? ⟨Z, j, none⟩ = w3.cell? ⟨Z, j, none⟩ := fun j => Xm.cell_grow ga hZ3
  have cA : ∀ j, (w3.alloc (.cells #[.string ⟨#[]⟩, .string BL] 9)).cell? ⟨Q, j, none⟩ = w3.cell? ⟨Q, j, none⟩ := fun j => Xm.cell_grow ga hQ3
  have fA : ∀ j, (w3.alloc (.cells #[.string ⟨#[]⟩, .string BL] 9)).frozen? ⟨Z, j, none⟩ = false := fun j => frozen_of_row _ Z _ _ _ (HZ3.out.grow ga)
  have hZQ : ¬ Z = Q := by have := HQ.out; omega
  have hQZ : ¬ Q = Z := by have := HQ.out; omega
  go_region
  clear q0 q1 q2 q3 q4 z0 z1 z2 z3 z4 zf cA cZ fA
  go_wp2
  have R5 := set5 HZ3.out (.int .i64 2) (.string SL) (.slice none 0 0) (.string ⟨#[]⟩) (.int .i64 0)
  refine bodyPost_ret (pc_res (Z := Z) rfl rfl ((R5.grow (Flow.grow_alloc _ _)).grow (Flow.grow_drew _))) rfl ?_
  obtain ⟨be, hbe, hbl, hlt, hln⟩ : ∃ be, EB = str be ∧ Xm.Bl be ∧ Xm.Lt be ∧ be.length ≤ 2 := by
    rcases HEB.out with h | h
    · exact ⟨[], h, (by intro c hc; cases hc), Xm.Lt.nil, by simp⟩
    · exact ⟨Xm.blk b, h.trans HBL.out, (Xm.blk_law b hb4).1, (Xm.blk_law b hb4).2.2.2, (Xm.blk_law b hb4).2.2.1⟩
  refine ⟨Xm.backB sl be, some ⟨2, str sl, [], ByteArray.empty, 0⟩, ⟨2, str sl, [], ByteArray.empty, 0⟩, .slice none 0 0, ?_, ?_, Xm.item_back hnl.nm hbl, ?_, ?_, .inl ⟨rfl, rfl⟩, by simp, fun q _ => by simp [Value.ownBlock], .inl ⟨rfl, by simp, rfl⟩⟩
  · rw [HSL.out, hbe]
    unfold Xm.Pc.cells
    have e : (⟨#[60, 47]⟩ : ByteArray) ++ str sl ++ str be ++ ⟨#[62]⟩ = str (Xm.backB sl be) := by
      rw [show (⟨#[60, 47]⟩ : ByteArray) = str [60, 47] from rfl, show (⟨#[62]⟩ : ByteArray) = str [62] from rfl, str_append, str_append, str_append]
      unfold Xm.backB
      simp
    rw [e]
    rfl
  · exact Xm.Mv.grow (G1.out.trans G3.out) ((Xm.Mv.five.trans (Xm.Mv.of Z (Flow.grow_alloc _ _))).trans (Xm.Mv.of Z (Flow.grow_drew _))) (by have := HZw.out; omega)
  · have e : Xm.backB sl be = [60, 47] ++ (sl ++ (be ++ [62])) := rfl
    rw [e]
    exact Xm.Lt.append (Xm.lt_few (by decide)) (hnl.lt.append (hlt.append (Xm.lt_few (by decide))))
  · unfold Xm.backB
    simp
    omega
end Go.Proofs.YtfkdjdmbgednkaaDoor
