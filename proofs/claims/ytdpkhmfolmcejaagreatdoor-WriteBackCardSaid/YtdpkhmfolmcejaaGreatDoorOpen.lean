/- entity.Open by its contract. -/
import Derived.Test.YtdpkhmfolmcejaaGreatDoorUput
import Derived.Test.YtdpkhmfolmcejaaGreatDoorBuilder2
namespace Go.Proofs.YtdpkhmfolmcejaaGreatDoor
open Go.RowKit
namespace Xm
theorem idxB_lt : ∀ (l : List UInt8) (c : UInt8), -1 ≤ Lib.indexByte l c ∧ Lib.indexByte l c < l.length
  | [], c => by simp [Lib.indexByte]
  | b :: l, c => by
    have := idxB_lt l c
    unfold Lib.indexByte
    simp only [List.length_cons]
    split
    · omega
    · split <;> omega
theorem idxB_get : ∀ (l : List UInt8) (c : UInt8) (n : Nat), Lib.indexByte l c = (n : Int) → l[n]? = some c
  | [], c, n, h => by simp only [Lib.indexByte] at h; omega
  | b :: l, c, n, h => by
    unfold Lib.indexByte at h
    split at h
    · rename_i hb
      obtain rfl : n = 0 := by omega
      have : b = c := by simpa using hb
      rw [this]; rfl
    · have hl := idxB_lt l c
      split at h
      · omega
      · rename_i h1
        have h1' : Lib.indexByte l c ≠ -1 := by simpa using h1
        obtain ⟨m, rfl⟩ : ∃ m, n = m + 1 := ⟨n - 1, by omega⟩
        simpa using idxB_get l c m (by omega)
/-- how far it is to a byte, from a place on; -1 -/
def far (s : ByteArray) (k : Nat) (c : UInt8) : Int := Lib.indexByte (cut s k s.size).data.toList c
theorem far_bd {s : ByteArray} {k : Nat} (hk : k ≤ s.size) (c : UInt8) : -1 ≤ far s k c ∧ (0 ≤ far s k c → k + (far s k c).toNat < s.size) := by
  have h := idxB_lt (cut s k s.size).data.toList c
  have e : (cut s k s.size).data.toList.length = s.size - k := by
    have := cut_size (s := s) (a := k) (b := s.size) (Nat.le_refl _)
    rw [Array.length_toList]
    exact this
  rw [e] at h
  unfold far
  omega
theorem far_at {s : ByteArray} {k n : Nat} {c : UInt8} (hk : k ≤ s.size) (h : far s k c = (n : Int)) : bt s (k + n) = (c.toNat : Int) := by
  have hb := (far_bd hk c).2 (by rw [h]; omega)
  rw [h, Int.toNat_natCast] at hb
  have hg := idxB_get _ _ _ h
  rw [← cut_bt (s := s) (a := k) (b := s.size) (k := n) (Nat.le_refl _) (by omega)]
  have hz := cut_size (s := s) (a := k) (b := s.size) (Nat.le_refl _)
  unfold bt
  rw [dif_pos (by omega)]
  have : (cut s k s.size)[n]'(by omega) = c := by
    rw [Array.getElem?_toList] at hg
    exact (Array.getElem?_eq_some_iff.1 hg).2
  rw [this]
/-- a text with its names opened, from a place on: the text, and -1; or the place of the first & that is none's -/
def openS (s : ByteArray) (k : Nat) (acc : List UInt8) : List UInt8 × Int :=
  if h : k < s.size then
    if bt s k = 38 then
      if _hf : far s k 59 < 0 then ([], k)
      else if one (cut s (k + 1) (k + (far s k 59).toNat)) = 0 then ([], k)
      else openS s (k + (far s k 59).toNat + 1) (acc ++ put (one (cut s (k + 1) (k + (far s k 59).toNat))))
    else openS s (k + 1) (acc ++ [UInt8.ofNat (bt s k).toNat])
  else (acc, -1)
  termination_by s.size - k
  decreasing_by
    · have := (far_bd (Nat.le_of_lt h) 59).2 (by omega); omega
    · omega
end Xm
theorem run_cut (s : ByteArray) (a b : Nat) (h1 : a ≤ b) (h2 : b ≤ s.size) (x y : Int) (hx : x = a) (hy : y = b) (w : World) :
    (Instr.slice 9 (.string s) (some (.int .i64 x)) (some (.int .i64 y)) none).run Tryz.prog w = .ok (.string (s.extract a b)) w := by
  subst hx hy
  simp [Instr.slice, run_underlying Tryz.underlying9, Sem.run_bind, Instr.sliceBounds, Instr.sliceBound, asIntOf, h1, h2]
theorem bat_grow {T e : TypeId} {B b : Nat} {p : Value} {bs : List Value} {w w' : World} (h : Lib.BuilderAt T e B b p bs w) (g : Flow.Grow w w') : Lib.BuilderAt T e B b p bs w' := by
  have hlt := h.lt
  obtain ⟨hB, v, hb, hown, hne⟩ := h
  exact ⟨hB, v, by rw [g.block b hlt (by simp)]; exact hb, hown.kept (row := none) g (by cases h : v.ownBlock with | none => exact .inl rfl | some b => exact .inr (by simp)), hne⟩
theorem isB_grow {T e : TypeId} {B b : Nat} {bs : List Value} {w w' : World} (h : Lib.IsBuilder T e B b bs w) (g : Flow.Grow w w') : Lib.IsBuilder T e B b bs w' := h.imp (fun h => bat_grow h g) (fun h => bat_grow h g)
theorem strCells_str (l : List UInt8) : Lib.strCells (str l) = Lib.byteCells l := rfl
set_option maxRecDepth 100000 in
set_option maxHeartbeats 2000000 in
theorem open_any (s : ByteArray) (w : World) (hT : Xm.Tab w) (hs : s.size ≤ 1000000000) : Calls Tryz.prog 89 #[.string s] w fun e w' => e = .returned (.tuple #[.string (str (Xm.openS s 0 []).1), .int .i64 (Xm.openS s 0 []).2]) ∧ Flow.Grow w w' := by
  have HT := Lib.hid hT
  clear hT
  have HB0 : Hid (Lib.IsBuilder 45 5 w.heap.size w.heap.size [] (w.alloc (.cells #[.pointer none, .slice none 0 0] 45))) := Lib.hid (Lib.fresh_isBuilder _ _ w)
  have HG0 : Hid (Below w.heap.size w (w.alloc (.cells #[.pointer none, .slice none 0 0] 45))) := Lib.hid ((Below.refl _ _).alloc (Nat.le_refl _) _)
  go_enter Tryz.func89, Tryz.ntmps89
  go_wp2
  go_loopw [5] (fun i wr => ∃ (k : Nat) (acc : List UInt8), k ≤ s.size ∧ i = .int .i64 k ∧ acc.length ≤ 4 * k ∧ Hid (Lib.IsBuilder 45 5 w.heap.size w.heap.size (Lib.byteCells acc) wr) ∧ Hid (Below w.heap.size w wr) ∧ Hid (Xm.openS s 0 [] = Xm.openS s k acc)) (fun i _ => s.size - (intOf i).toNat)
  case atStart => exact ⟨0, [], by omega, rfl, by simp, HB0, HG0, Lib.hid rfl⟩
  case round =>
    clear HB0 HG0
    obtain ⟨k, acc, hk, rfl, hal, HB, HG, HO⟩ := hrel
    by_cases hlt : k < s.size
    · have Hb := Lib.hid (Xm.bt_eq hlt)
      by_cases h38 : Xm.bt s k = 38
      · have g : (Xm.bt s k != 38) = false := by simpa using h38
        have hf := Xm.far_bd hk 59
        obtain ⟨f, hfe⟩ : ∃ f, f = Xm.far s k 59 := ⟨_, rfl⟩
        rw [← hfe] at hf
        have Hf := Lib.hid hfe
        have hff : Lib.indexByte (s.extract k s.size).data.toList 59 = f := hfe.symm
        have HfC := Lib.hid hff
        clear hfe hff
        by_cases hf0 : f < 0
        · have HE : Hid (Xm.openS s 0 [] = ([], (k : Int))) := Lib.hid (by rw [HO.out, Xm.openS, dif_pos hlt, if_pos h38, dif_pos (by rw [← Hf.out]; exact hf0)])
          clear h38 hf
          go_wp2_with (first | rw [Hb.out] | (go_at_call 71; refine (Tryz.strings_IndexByte _ _ _).mono ?_; rintro e w' ⟨rfl, rfl⟩; rw [show (Int.toNat 59).toUInt8 = (59 : UInt8) from rfl, HfC.out]))
          go_ret2
          exact ⟨by rw [HE.out]; rfl, Flow.grow_below HG.out⟩
        · obtain ⟨n, rfl⟩ := Int.eq_ofNat_of_zero_le (Int.not_lt.1 hf0)
          have hn : k + n < s.size := by have := hf.2 (by omega); omega
          have hn1 : 1 ≤ n := by
            have h1 := Xm.far_at hk Hf.out.symm
            rcases Nat.eq_zero_or_pos n with h0 | h0
            · subst h0; rw [Nat.add_zero, h38] at h1; exact absurd h1 (by decide)
            · exact h0
          obtain ⟨r, hr⟩ : ∃ r, r = Xm.one (s.extract (k + 1) (k + n)) := ⟨_, rfl⟩
          have Hr := Lib.hid hr
          clear hr
          have hxm : (s.extract (k + 1) (k + n)).size ≤ 9223372036854775807 := by simp; omega
          have Hxm := Lib.hid hxm
          have Hle := Lib.hid (Xm.put_len r)
          have HP : Hid (Xm.far s k 59 = (n : Int)) := Lib.hid Hf.out.symm
          clear hxm hf hf0 Hf
          have en : (0 : Int) ≤ n := by omega
          by_cases hr0 : r = 0
          · have HE : Hid (Xm.openS s 0 [] = ([], (k : Int))) := Lib.hid (by
              rw [HO.out, Xm.openS, dif_pos hlt, if_pos h38, dif_neg (by rw [HP.out]; omega), if_pos]
              rw [HP.out, Int.toNat_natCast]
              exact Hr.out.symm.trans hr0)
            subst hr0
            have hsl := run_cut s (k + 1) (k + n) (by omega) (by omega) ((k : Int) + 1) ((k : Int) + n) (by omega) (by omega)
            clear h38
            go_wp2_with (first | rw [Hb.out] | (go_at_call 71; refine (Tryz.strings_IndexByte _ _ _).mono ?_; rintro e w' ⟨rfl, rfl⟩; rw [show (Int.toNat 59).toUInt8 = (59 : UInt8) from rfl, HfC.out]) | (go_at_call 95; refine (one_any _ _ (HT.out.grow (Flow.grow_below HG.out)) Hxm.out).mono ?_; rintro e w' ⟨rfl, hg1⟩; rw [← Hr.out]))
            go_ret2
            exact ⟨by rw [HE.out]; rfl, (Flow.grow_below HG.out).trans hg1⟩
          · have HE : Hid (Xm.openS s 0 [] = Xm.openS s (k + n + 1) (acc ++ Xm.put r)) := Lib.hid (by
              rw [HO.out, Xm.openS, dif_pos hlt, if_pos h38, dif_neg (by rw [HP.out]; omega), if_neg]
              · rw [HP.out, Int.toNat_natCast]
                show _ = Xm.openS s (k + n + 1) (acc ++ Xm.put r)
                rw [Hr.out]; rfl
              · rw [HP.out, Int.toNat_natCast]
                exact fun h => hr0 (Hr.out.trans h))
            have g2 : (r == 0) = false := by simpa using hr0
            have hlen : (Lib.byteCells acc).length + (str (Xm.put r)).size ≤ 140737488355328 := by rw [Lib.byteCells_length, str_size]; have := Hle.out; omega
            have Hlen := Lib.hid hlen
            have Hsz := Lib.hid HG.out.size
            have hsl := run_cut s (k + 1) (k + n) (by omega) (by omega) ((k : Int) + 1) ((k : Int) + n) (by omega) (by omega)
            clear h38 hr0 hlen
            go_wp2_with (first | rw [Hb.out] | (go_at_call 71; refine (Tryz.strings_IndexByte _ _ _).mono ?_; rintro e w' ⟨rfl, rfl⟩; rw [show (Int.toNat 59).toUInt8 = (59 : UInt8) from rfl, HfC.out]) | (go_at_call 95; refine (one_any _ _ (HT.out.grow (Flow.grow_below HG.out)) Hxm.out).mono ?_; rintro e w' ⟨rfl, hg1⟩; rw [← Hr.out]) | (go_at_call 96; refine (uput_any _ _).mono ?_; rintro e w' ⟨rfl, hg2⟩))
            have HB1 := Lib.hid (isB_grow HB.out (hg1.trans hg2))
            have HG1 := Lib.hid (HG.out.trans ((hg1.trans hg2).below HG.out.size))
            have Hsz1 := Lib.hid HG1.out.size
            clear hg1 hg2 hsl g g2 HB HG Hsz
            go_wp2_with (go_at_call 29; refine (writeString_any _ _ _ _ _ HB1.out Hlen.out Hsz1.out).mono ?_; rintro e w' ⟨rfl, hb1, hg1⟩)
            go_roundw
            case rel => exact ⟨k + n + 1, acc ++ Xm.put r, by omega, by go_num, by rw [List.length_append]; have := Hle.out; omega, Lib.hid (by rw [strCells_str, ← Lib.byteCells_append] at hb1; exact .inr hb1), Lib.hid (HG1.out.trans hg1), HE⟩
            case measure => simp [intOf]; omega
      · have g : (Xm.bt s k != 38) = true := by simpa using h38
        have hbd := Xm.bt_bd s k
        have HE : Hid (Xm.openS s 0 [] = Xm.openS s (k + 1) (acc ++ [UInt8.ofNat (Xm.bt s k).toNat])) := Lib.hid (by rw [HO.out, Xm.openS, dif_pos hlt, if_neg h38])
        have HC : Hid (Lib.byteCells acc ++ [.int .u8 (Xm.bt s k)] = Lib.byteCells (acc ++ [UInt8.ofNat (Xm.bt s k).toNat])) := Lib.hid (by
          rw [Lib.byteCells_append]
          congr 1
          have : (Xm.bt s k).toNat < 256 := by omega
          simp [Lib.byteCells, UInt8.toNat_ofNat', Nat.mod_eq_of_lt this]
          omega)
        have hlen : (Lib.byteCells acc).length + 1 ≤ 140737488355328 := by rw [Lib.byteCells_length]; omega
        have Hlen := Lib.hid hlen
        have Hsz := Lib.hid HG.out.size
        clear h38 hlen
        go_wp2_with (first | rw [Hb.out] | (go_at_call 45; refine (writeByte_any _ _ _ _ _ HB.out Hlen.out Hsz.out).mono ?_; rintro e w' ⟨rfl, hb1, hg1⟩))
        go_roundw
        case rel => exact ⟨k + 1, _, by omega, by go_num, by rw [List.length_append, List.length_singleton]; omega, Lib.hid (by rw [HC.out] at hb1; exact .inr hb1), Lib.hid (HG.out.trans hg1), HE⟩
        case measure => simp [intOf]; omega
    · have HE : Hid (Xm.openS s 0 [] = (acc, -1)) := Lib.hid (by rw [HO.out, Xm.openS, dif_neg hlt])
      have Hsz := Lib.hid HG.out.size
      go_wp2_with (go_at_call 17; refine (builder_String_any _ _ _ _ HB.out Hsz.out).mono ?_; rintro e w' ⟨rfl, hg1⟩)
      go_ret2
      exact ⟨by rw [HE.out]; rfl, Flow.grow_below (HG.out.trans hg1)⟩
end Go.Proofs.YtdpkhmfolmcejaaGreatDoor
