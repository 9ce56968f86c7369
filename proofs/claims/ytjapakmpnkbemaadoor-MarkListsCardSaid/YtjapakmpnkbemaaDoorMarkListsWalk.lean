/- galliardlaw15.MarkLists returns true: the walk. -/
import Derived.Test.YtjapakmpnkbemaaDoorLaw15a
import Derived.Test.YtjapakmpnkbemaaDoorPopWalk
import Derived.Test.YtjapakmpnkbemaaDoorRefOf
import Derived.Test.YtjapakmpnkbemaaDoorIn
import Derived.Deep.DeepCutAuto
namespace Go.Proofs.YtjapakmpnkbemaaDoor
open Go.RowKit

theorem store_new (P : Program) (w : World) (cs ds : Array Value) (e : TypeId) (hs : ds.size = cs.size) (h1 : ∀ u ∈ ds.toList, u.oneCell' = true) :
    (storeCells ⟨w.heap.size, 0, none⟩ ds.toList).run P (w.alloc (.cells cs e)) = .ok () (w.alloc (.cells ds e)) := by
  have h := run_storeCells_at P w.heap.size 0 e ds.toList 0 cs (w.alloc (.cells cs e)) (heap_alloc_new w _) (by simp [hs]) h1
  rw [h]
  congr 1
  have e1 : (cs.toList.take (0 + 0) ++ ds.toList ++ cs.toList.drop (0 + 0 + ds.toList.length)).toArray = ds := by
    rw [List.take_zero, List.nil_append, List.drop_eq_nil_of_le (by simp [hs]), List.append_nil]
  rw [e1]
  unfold World.setRow World.alloc
  simp only [World.mk.injEq, and_true]
  refine Array.ext (by simp) fun i h1 h2 => ?_
  rw [Array.getElem_modify]
  split
  · rename_i hi
    subst hi
    simp
  · rename_i hi
    simp at h1
    rw [Array.getElem_push_lt (by omega), Array.getElem_push_lt (by omega)]
theorem Row.cut {k : IntKind} {w : World} {a : Option Addr} {len cap : Nat} {zs : List Int} (h : Row k w a len cap zs) {m : Nat} (hm : m ≤ len) : Row k w a m cap zs := by
  rcases h with ⟨h1, h2, h3, h4⟩ | ⟨x, h1, h2, h3⟩
  · exact .inl ⟨h1, by omega, h3, h4⟩
  · exact .inr ⟨x, h1, by omega, h3⟩
/-- a cell of a slice that reads so -/
theorem Ints.at {w : World} {a : Option Addr} {n cap : Nat} {zs : List Int} (h : Ints w (.slice a n cap) zs) {k : Nat} (hk : k < zs.length) :
    ∃ b off, a = some ⟨b, off, none⟩ ∧ b < w.heap.size ∧ w.cell? ⟨b, off + k, none⟩ = some (.int .i64 (zs.getD k 0)) := by
  obtain ⟨a', cap', e, _, _, hc⟩ := h
  cases e
  obtain ⟨b, off, h1, h2, h3⟩ := hc k (by simpa using hk)
  exact ⟨b, off, h1, h2, by rw [h3]; simp [hk]⟩
theorem Mark.has_bits {x : Nat} {p : Nat} (hp : p < 64) : Mark.has x (p : Int) = x.testBit p := by
  rw [Mark.has_in (by omega) (by omega), Int.toNat_natCast]
theorem Mark.allL_snoc (m : Nat) (l : List Int) (p : Int) : Mark.allL m (l ++ [p]) = (Mark.allL m l && Mark.has m p) := by
  simp [Mark.allL, List.all_append]

set_option maxRecDepth 100000 in
set_option maxHeartbeats 1000000 in
theorem lists_walk (x : Nat) (hx : x < 18446744073709551616) (ay : Option Addr) (len cap : Nat) (zs : List Int) (w : World) (h : Row .i64 w ay len cap zs) (hT : Tab64 w) (h0 : 0 < w.heap.size) :
    Calls Tryd.prog 3 #[.int .u64 (x : Int), .slice ay len cap] w fun e w' => e = .returned (.bool true) ∧ Flow.Grow w w' := by
  obtain ⟨hle, hcap, hzl⟩ := h.le
  have hcap' : cap ≤ 9223372036854775807 := by simp only [maxLen] at hcap; omega
  obtain ⟨m, hm⟩ : ∃ m, m = min len 6 := ⟨_, rfl⟩
  have hm1 : m ≤ len := by omega
  have hm6 : m ≤ 6 := by omega
  have hmin : min (len : Int) 6 = (m : Int) := by omega
  obtain ⟨hy, hyl, _⟩ := (h.cut hm1).ints
  have Hm := Lib.hid hm
  clear hcap hzl h hm
  generalize zs.take m = ys at *
  have HY := Lib.hid hy
  have Hyl := Lib.hid hyl
  clear hy hyl
  have HT := Lib.hid hT
  clear hT
  have hz0 := zeroTok
  have Hb := Lib.hid (bitsL_len x 64)
  have Hba : Hid (∀ i, i < 64 → (bitsL x 64).getD i false = x.testBit i) := Lib.hid fun i hi => bitsL_at hi
  have hst : ∀ w : World, (storeCells ⟨w.heap.size, 0, none⟩ (tokCells (bitsL x 64)).toList).run Tryd.prog (w.alloc (.cells (tokCells (List.replicate 64 false)) 27)) = .ok () (w.alloc (.cells (tokCells (bitsL x 64)) 27)) :=
    fun w => store_new _ w _ _ _ (by rw [tokCells_size, tokCells_size, Hb.out, List.length_replicate]) (tok_one _)
  have hst0 : ∀ w : World, (storeCells ⟨w.heap.size, 0, none⟩ (tokCells (List.replicate 64 false)).toList).run Tryd.prog (w.alloc (.cells (tokCells (List.replicate 64 false)) 27)) = .ok () (w.alloc (.cells (tokCells (List.replicate 64 false)) 27)) :=
    fun w => store_new _ w _ _ _ rfl (tok_one _)
  have hts : (tokCells (bitsL x 64)).size = 65 := by rw [tokCells_size, Hb.out]
  have hts0 : (tokCells (List.replicate 64 false)).size = 65 := rfl
  have Hbl : Hid ((List.replicate 64 false).length = 64) := Lib.hid (by simp)
  have H0 : Hid (Mark.ofBools (List.replicate 64 false) = 0) := Lib.hid (Mark.ofBools_false 64)
  have HRef : Hid (∀ w, Calls Tryd.prog 4 #[.int .u64 (x : Int)] w fun e w' => e = .returned (.agg (tokCells (bitsL x 64))) ∧ Flow.Grow w w') := Lib.hid (refOf_any x hx)
  generalize List.replicate 64 false = bl0 at *
  generalize bitsL x 64 = bx at *
  obtain ⟨L, hL⟩ : ∃ L, L = Mark.posL 64 0 x := ⟨_, rfl⟩
  obtain ⟨pc, hpc⟩ : ∃ pc : Nat → Nat, pc = fun k => Mark.pop k x := ⟨_, rfl⟩
  obtain ⟨N, hN⟩ : ∃ N, N = Mark.pop 64 x := ⟨_, rfl⟩
  have Hp0 : Hid (pc 0 = 0) := Lib.hid (by rw [hpc]; rfl)
  have HpN : Hid (pc 64 = N) := Lib.hid (by rw [hpc, hN])
  have Hps : Hid (∀ k, pc (k + 1) = pc k + if x.testBit k then 1 else 0) := Lib.hid (by rw [hpc]; exact fun k => Mark.pop_snoc k x)
  have Hat : Hid (∀ k, k < 64 → x.testBit k = true → pc k < N ∧ L.getD (pc k) 0 = (k : Int)) := Lib.hid (by rw [hpc, hN, hL]; exact fun k h1 h2 => Mark.posL_at h1 h2)
  have HN : Hid (L.length = N) := Lib.hid (by rw [hL, hN]; exact Mark.posL_len 64 0 x)
  have HN64 : Hid (N ≤ 64) := Lib.hid (by rw [hN]; exact Mark.pop_le 64 x)
  have HL : Hid (L = Mark.posL 64 0 x) := Lib.hid hL
  have HNp : Hid (N = Mark.pop 64 x) := Lib.hid hN
  have HList : Hid (∀ w, Tab64 w → 0 < w.heap.size → Calls Tryd.prog 5 #[.int .u64 (x : Int)] w fun e w' =>
    ∃ v', e = .returned v' ∧ (w'.ownsRow 0 3 1 v' L.length (L.map (Value.int .i64)) ∧ (v' = .slice none 0 0 ∨ Fresh w v')) ∧ Flow.Grow w w') := Lib.hid (by rw [hL]; exact list_any x hx)
  have HCount : Hid (∀ w, Calls Tryd.prog 7 #[.int .u64 (x : Int)] w fun e w' => e = .returned (.int .i64 (N : Int)) ∧ w = w') := Lib.hid (by rw [hN]; exact count_any x hx)
  clear hL hpc hN
  go_enter Tryd.func3, Tryd.ntmps3
  go_wp2_with fail
  refine (HRef.out _).mono ?_
  rintro e w1 ⟨rfl, hg1⟩
  go_wp2_with fail
  have hg2 : Flow.Grow w (w1.alloc (.cells (tokCells bx) 27)) := hg1.trans (Flow.grow_alloc _ _)
  refine (HList.out _ (HT.out.grow h0 hg2) (by have := hg2.size; omega)).mono ?_
  rintro e w3 ⟨v3, rfl, ⟨hown3, _⟩, hg3⟩
  have hi3 : Ints w3 v3 L := Seg.of_own (by simpa using hown3)
  obtain ⟨a3, cap3, rfl⟩ : ∃ a3 cap3, v3 = .slice a3 N cap3 := by
    obtain ⟨a3, cap3, e, _⟩ := hi3
    exact ⟨a3, cap3, by rw [e, HN.out]⟩
  have HI := Lib.hid hi3
  have hcell1 : w3.heap[w1.heap.size]? = some (.cells (tokCells bx) 27 (0, 0)) := by
    rw [hg3.block _ (by simp) (by simp)]
    exact heap_alloc_new w1 _
  have HB := Lib.hid hcell1
  have HG3 : Hid (Flow.Grow w w3) := Lib.hid (hg2.trans hg3)
  clear hown3 hi3 hcell1 hg1 hg2 hg3 hst hts HRef HList
  go_wp2_with fail
  have Hmin := Lib.hid hmin
  have Hz0 := Lib.hid hz0
  have Hst0 := Lib.hid hst0
  have Hts0 := Lib.hid hts0
  clear hmin hz0 hst0 hts0
  go_loop [7, 9] (fun n i => ∃ k : Nat, k ≤ 64 ∧ i = .int .i64 k ∧ n = .int .i64 (pc k : Int)) (fun _ i => 64 - (intOf i).toNat)
  case atStart => exact ⟨0, by omega, rfl, by rw [Hp0.out]; rfl⟩
  case round =>
    obtain ⟨k, hk, rfl, rfl⟩ := hrel
    by_cases hkl : k < 64
    · have hcq := (cell_of_row w3 w1.heap.size k _ _ _ HB.out).trans (tokCells_get (by rw [Hb.out]; exact hkl))
      rw [Hba.out k hkl] at hcq
      cases hb : x.testBit k with
      | true =>
        rw [hb] at hcq
        have hs : Hid (_ = _) := Lib.hid (Hps.out k)
        obtain ⟨hlt, hat⟩ := Hat.out k hkl hb
        obtain ⟨b, off, rfl, hbw, hcell⟩ := HI.out.at (k := pc k) (by rw [HN.out]; exact hlt)
        rw [hat] at hcell
        rw [hb] at hs
        have hN := HN64.out
        clear hat hb
        have hc0 : decide ((pc k : Int) ≥ (N : Int)) = false := by simp; omega
        go_wp2
        go_round
        case rel => exact ⟨k + 1, by omega, by go_num, by rw [hs.out]; simp⟩
        case measure => simp [intOf]; omega
      | false =>
        rw [hb] at hcq
        have hs : Hid (_ = _) := Lib.hid (Hps.out k)
        rw [hb] at hs
        clear hb
        go_wp2
        go_round
        case rel => exact ⟨k + 1, by omega, by go_num, by rw [hs.out]; simp⟩
        case measure => simp [intOf]; omega
    · have : k = 64 := by omega
      subst this
      rw [HpN.out]
      clear Hps Hat Hp0 HpN hk hkl
      have hmin := Hmin.out
      have hz0 := Hz0.out
      have hst0 := Hst0.out
      have hts0 := Hts0.out
      clear Hmin Hz0 Hst0 Hts0
      go_upto_region 12 with fail
      go_cut [12] from 43 to 48 (fun y wx => y = .slice ay m cap ∧ wx = w3.alloc (.cells (tokCells bl0) 27))
      case first =>
        have Hmd := Hm
        go_wp2_with fail
        all_goals go_meet
        all_goals exact ⟨by have := Hmd.out; congr 1; omega, rfl⟩
      obtain ⟨rfl, rfl⟩ := hcut
      go_wp2_with fail
      clear hz0 hst0 hts0 hmin
      have HA : Hid (∀ i, i < m → ∃ b off, ay = some ⟨b, off, none⟩ ∧ b < w.heap.size ∧ w.cell? ⟨b, off + i, none⟩ = some (.int .i64 (ys.getD i 0))) := Lib.hid fun i hi => HY.out.at (by rw [Hyl.out]; exact hi)
      go_loopw [10, 13, 14] (fun al i u wr => ∃ (k : Nat) (bl : List Bool), k ≤ m ∧ i = .int .i64 k ∧ al = .bool (Mark.allL x (ys.take k)) ∧ Hid (bl.length = 64) ∧ Hid (Mark.ofBools bl = Mark.ofL 0 (ys.take k)) ∧ wr.heap[w3.heap.size]? = some (.cells (tokCells bl) 27 (0, 0)) ∧ Flow.Grow w3 wr) (fun _ i _ _ => m - (intOf i).toNat)
      case atStart => exact ⟨0, bl0, by omega, rfl, rfl, Hbl, Lib.hid H0.out, heap_alloc_new w3 _, Flow.grow_alloc _ _⟩
      case round =>
        obtain ⟨k, bl, hk, rfl, rfl, Hl, Ho, hh, hg⟩ := hrel
        by_cases hkm : k < m
        · obtain ⟨b, off, rfl, hb, hcell⟩ := HA.out k hkm
          have hg4 := HG3.out.trans hg
          have hcell : wr.cell? ⟨b, off + k, none⟩ = some (.int .i64 (ys.getD k 0)) := (World.cell?_of_block (hg4.block b hb (by simp))).trans hcell
          have Htk : Hid (ys.take (k + 1) = ys.take k ++ [ys.getD k 0]) := Lib.hid (by
            have hk' : k < ys.length := by rw [Hyl.out]; exact hkm
            rw [List.take_succ_eq_append_getElem hk']
            simp [hk'])
          have Hal : Hid (_ = _) := Lib.hid (Mark.allL_snoc x (ys.take k) (ys.getD k 0))
          have Hof : Hid (_ = _) := Lib.hid (Mark.ofL_snoc 0 (ys.take k) (ys.getD k 0))
          have hgs := hg4.size
          have h1s : w1.heap.size < w3.heap.size := (Array.getElem?_eq_some_iff.1 HB.out).1
          have HB' : Hid (wr.heap[w1.heap.size]? = some (.cells (tokCells bx) 27 (0, 0))) := Lib.hid ((hg.block _ h1s (by simp)).trans HB.out)
          clear hg4 hgs h1s
          generalize ys.getD k 0 = z at hcell Htk Hal Hof
          obtain ⟨A, hA⟩ : ∃ A, A = Mark.allL x (ys.take k) := ⟨_, rfl⟩
          rw [← hA] at Hal ⊢
          have HAd := Lib.hid hA
          clear hA
          by_cases hin : 0 ≤ z ∧ z < 64
          · obtain ⟨q, rfl⟩ := Int.eq_ofNat_of_zero_le hin.1
            have hq : q < 64 := by omega
            have hct := (cell_of_row wr w1.heap.size q _ _ _ HB'.out).trans (tokCells_get (by rw [Hb.out]; exact hq))
            rw [Hba.out q hq] at hct
            have hcq := (cell_of_row wr w3.heap.size q _ _ _ hh).trans (tokCells_get (by rw [Hl.out]; exact hq))
            have hmi : min (q : Int) 63 = (q : Int) := by omega
            have hma : max (q : Int) 0 = (q : Int) := by omega
            have hq1 : decide ((q : Int) ≥ 0) = true := by simp
            have hq2 : decide ((q : Int) < 64) = true := by simp; omega
            have Hl' : Hid ((bl.set q true).length = 64) := Lib.hid (by simpa using Hl.out)
            have Hh : Hid ((wr.setCell ⟨w3.heap.size, q, none⟩ (.bool true)).heap[w3.heap.size]? = some (.cells (tokCells (bl.set q true)) 27 (0, 0))) := Lib.hid (tok_set hh (by rw [Hl.out]; omega))
            have hfr : wr.frozen? ⟨w3.heap.size, q, none⟩ = false := frozen_of_row wr _ _ _ _ hh
            have Hset : Hid (_ = _) := Lib.hid (Mark.set_true Hl.out hq)
            have Hho : Hid (_ = _) := Lib.hid (Mark.has_bits (x := x) hq)
            have Hbi : Hid (Mark.bit (q : Int) = 2 ^ q) := Lib.hid (by rw [Mark.bit_in (by omega) (by omega), Int.toNat_natCast])
            clear hh hin
            cases A with
            | true =>
              go_wp2
              go_roundw
              case rel => exact ⟨k + 1, bl.set q true, by omega, by go_num, by rw [Htk.out, Hal.out, Hho.out]; rfl, Hl', Lib.hid (by rw [Htk.out, Hof.out, ← Ho.out, Hbi.out, Hset.out]), Hh.out, grow_set hg q (.bool true)⟩
              case measure => simp [intOf]; omega
            | false =>
              go_wp2
              go_roundw
              case rel => exact ⟨k + 1, bl.set q true, by omega, by go_num, by rw [Htk.out, Hal.out]; rfl, Hl', Lib.hid (by rw [Htk.out, Hof.out, ← Ho.out, Hbi.out, Hset.out]), Hh.out, grow_set hg q (.bool true)⟩
              case measure => simp [intOf]; omega
          · have Hho : Hid (_ = _) := Lib.hid (Mark.has_out (m := x) hin)
            have Hbi : Hid (_ = _) := Lib.hid (Mark.bit_out hin)
            have Hrel : Hid (Mark.allL x (ys.take (k + 1)) = false ∧ Mark.ofBools bl = Mark.ofL 0 (ys.take (k + 1))) := Lib.hid (by
              rw [Htk.out, Hal.out, Hof.out, Hho.out, Hbi.out, Nat.or_zero, Bool.and_false]
              exact ⟨rfl, Ho.out⟩)
            have Hh := Lib.hid hh
            clear hh
            by_cases hz : 0 ≤ z
            · have hq1 : decide (z ≥ 0) = true := by simp; omega
              have hq2 : decide (z < 64) = false := by simp; omega
              clear hin
              cases A with
              | true =>
                go_wp2
                go_roundw
                case rel => exact ⟨k + 1, bl, by omega, by go_num, by rw [Hrel.out.1], Hl, Lib.hid Hrel.out.2, Hh.out, hg⟩
                case measure => simp [intOf]; omega
              | false =>
                go_wp2
                go_roundw
                case rel => exact ⟨k + 1, bl, by omega, by go_num, by rw [Hrel.out.1], Hl, Lib.hid Hrel.out.2, Hh.out, hg⟩
                case measure => simp [intOf]; omega
            · have hq1 : decide (z ≥ 0) = false := by simp; omega
              clear hin
              cases A with
              | true =>
                go_wp2
                go_roundw
                case rel => exact ⟨k + 1, bl, by omega, by go_num, by rw [Hrel.out.1], Hl, Lib.hid Hrel.out.2, Hh.out, hg⟩
                case measure => simp [intOf]; omega
              | false =>
                go_wp2
                go_roundw
                case rel => exact ⟨k + 1, bl, by omega, by go_num, by rw [Hrel.out.1], Hl, Lib.hid Hrel.out.2, Hh.out, hg⟩
                case measure => simp [intOf]; omega
        · have hkm' : k = m := by omega
          subst hkm'
          have Htake : Hid (ys.take k = ys) := Lib.hid (List.take_of_length_le (by rw [Hyl.out]; omega))
          rw [Htake.out] at Ho ⊢
          have Hh := Lib.hid hh
          have HO64 : Hid (Mark.ofL 0 ys < 2 ^ 64) := Lib.hid (Mark.ofL_lt (by omega) ys)
          have HOf1 : Hid (∀ w', Flow.Grow wr w' → Calls Tryd.prog 8 #[.slice a3 N cap3] w' fun e w'' => e = .returned (.int .u64 (x : Int)) ∧ w' = w'') := Lib.hid fun w' hgw => by
            have h1 := of_any (.slice a3 N cap3) L w' (by rw [HN.out]; have := HN64.out; omega) (HI.out.grow (hg.trans hgw))
            have h2 : Mark.ofL 0 L = x := by rw [HL.out]; exact Mark.ofL_posL_all hx
            rwa [h2] at h1
          have HY4 : Hid (Ints wr (.slice ay k cap) ys) := Lib.hid (HY.out.grow (HG3.out.trans hg))
          have HAll : Hid (∀ w', Flow.Grow wr w' → Calls Tryd.prog 9 #[.int .u64 (x : Int), .slice ay k cap] w' fun e w'' => e = .returned (.bool (Mark.allL x ys)) ∧ w' = w'') := Lib.hid fun w' hgw => all_any x hx _ ys w' (by rw [Hyl.out]; omega) (HY4.out.grow hgw)
          have HOf2 : Hid (∀ w', Flow.Grow wr w' → Calls Tryd.prog 8 #[.slice ay k cap] w' fun e w'' => e = .returned (.int .u64 (Mark.ofL 0 ys : Int)) ∧ w' = w'') := Lib.hid fun w' hgw => of_any _ ys w' (by rw [Hyl.out]; omega) (HY4.out.grow hgw)
          have HTok : Hid (∀ w', Calls Tryd.prog 10 #[.agg (tokCells bl)] w' fun e w'' => e = .returned (.int .u64 (Mark.ofL 0 ys : Int)) ∧ Flow.Grow w' w'') := Lib.hid fun w' => (tokens_mark bl w' Hl.out).mono fun e w'' ⟨he, hw⟩ => ⟨by rw [he, Ho.out], by rw [hw]; exact Flow.grow_alloc _ _⟩
          have Hload : Hid (∀ w', Flow.Grow wr w' → w'.heap[w3.heap.size]? = some (.cells (tokCells bl) 27 (0, 0))) := Lib.hid fun w' hgw => (hgw.block _ (Array.getElem?_eq_some_iff.1 Hh.out).1 (by simp)).trans Hh.out
          have Hsz := Lib.hid (tok_size Hl.out)
          have HGw : Hid (Flow.Grow w wr) := Lib.hid (HG3.out.trans hg)
          obtain ⟨A, hA⟩ : ∃ A, A = Mark.allL x ys := ⟨_, rfl⟩
          obtain ⟨O, hO⟩ : ∃ O, O = Mark.ofL 0 ys := ⟨_, rfl⟩
          rw [← hA] at HAll ⊢
          rw [← hO] at HOf2 HTok
          clear Ho hA hO hh hg HO64 HY4 Htake hkm hk HA HB HI HG3
          go_upto_region 20 with fail
          refine Flow.region_grown (Fs := [.inl (.bool true), .inl (.bool true), .inl (.int .i64 (N : Int)), .inl (.slice a3 N cap3), .inl (.int .i64 (N : Int)), .inl (.bool true), .inl (.bool true), .inl (.bool true), .inl (.int .u64 (x : Int)), .inl (.int .i64 (N : Int)), .inl (.int .i64 (N : Int)), .inl (.bool true), .inl (.bool true), .inl (.bool true), .inl (.slice a3 N cap3), .inl (.int .u64 (x : Int)), .inl (.int .u64 (x : Int)), .inl (.bool true), .inl (.bool true), .inl (.bool true), .inl (.int .u64 (x : Int)), .inl (.slice ay k cap), .inl (.bool A), .inl (.bool A), .inl (.bool true), .inl (.bool true), .inl (.bool true), .inl (.slice ay k cap), .inl (.int .u64 (O : Int)), .inl (.agg (tokCells bl)), .inl (.int .u64 (O : Int)), .inl (.bool true), .inl (.bool true), .inl (.bool true)])
            (S := [[], [0], [1], [1], [3, 1], [2, 4, 1], [1, 5], [6], [7], [8, 7], [7], [9, 10, 7], [7, 11], [12], [13], [14, 13], [13], [15, 16, 13], [13, 17], [18], [19], [19], [20, 21, 19], [19], [22, 23, 19], [19, 24], [25], [26], [27, 26], [26], [29, 26], [28, 30, 26], [26, 31], [32]]) (by kernel_rfl) (by kernel_rfl) (by kernel_rfl) rfl ?stab20 ?ones20 ?ends20
          case ones20 =>
            refine Flow.Ones.cons ?_ ?_
            · intro a w hC hoff _
              refine .inl ⟨Flow.want_none rfl, ?_⟩
              exact Flow.run_call (Flow.exec_call (args := #[]) rfl Tryd.func6 (by kernel_rfl) (by kernel_rfl) (by simp only [List.map_toArray, List.map_nil])) ((awake15 _).mono fun e w' ⟨he, hg⟩ => ⟨_, he, hg, rfl⟩)
            refine Flow.Ones.cons ?_ ?_
            · rintro a w hC hoff ⟨k0, -⟩
              have e88 : a.eval (.tmp 88) = .bool true := k0 88 rfl
              refine .inl ⟨Flow.want_none rfl, ?_⟩
              exact Flow.run_same (Flow.exec_move (.inl rfl) e88) Flow.grow_refl
            refine Flow.Ones.cons ?_ ?_
            · rintro a w hC hoff ⟨k1, -⟩
              have e89 : a.eval (.tmp 89) = .bool true := k1 89 rfl
              have e7 : a.eval (.tmp 7) = .int .i64 (N : Int) := hoff.at 7 (by kernel_rfl)
              refine .inl ⟨Flow.want_yes rfl rfl e89, ?_⟩
              exact Flow.run_same (Flow.exec_move (.inl rfl) e7) Flow.grow_refl
            refine Flow.Ones.cons ?_ ?_
            · rintro a w hC hoff ⟨k1, -⟩
              have e89 : a.eval (.tmp 89) = .bool true := k1 89 rfl
              have e8 : a.eval (.tmp 8) = .slice a3 N cap3 := hoff.at 8 (by kernel_rfl)
              refine .inl ⟨Flow.want_yes rfl rfl e89, ?_⟩
              exact Flow.run_same (Flow.exec_move (.inl rfl) e8) Flow.grow_refl
            refine Flow.Ones.cons ?_ ?_
            · rintro a w hC hoff ⟨k3, k1, -⟩
              have e91 : a.eval (.tmp 91) = .slice a3 N cap3 := k3 91 rfl
              have e89 : a.eval (.tmp 89) = .bool true := k1 89 rfl
              refine .inl ⟨Flow.want_yes rfl rfl e89, ?_⟩
              refine Flow.run_same ?_ Flow.grow_refl
              have ec := Flow.eval_const a
              generalize a.eval = ρ at e91 ec ⊢
              simp [execOp, e91, go_sem]
            refine Flow.Ones.cons ?_ ?_
            · rintro a w hC hoff ⟨k2, k4, k1, -⟩
              have e90 : a.eval (.tmp 90) = .int .i64 (N : Int) := k2 90 rfl
              have e92 : a.eval (.tmp 92) = .int .i64 (N : Int) := k4 92 rfl
              have e89 : a.eval (.tmp 89) = .bool true := k1 89 rfl
              refine .inl ⟨Flow.want_yes rfl rfl e89, ?_⟩
              refine Flow.run_same ?_ Flow.grow_refl
              have ec := Flow.eval_const a
              generalize a.eval = ρ at e90 e92 ec ⊢
              simp [execOp, e90, e92, go_sem]
            refine Flow.Ones.cons ?_ ?_
            · rintro a w hC hoff ⟨k1, k5, -⟩
              have e89 : a.eval (.tmp 89) = .bool true := k1 89 rfl
              have e93 : a.eval (.tmp 93) = .bool true := k5 93 rfl
              refine .inl ⟨Flow.want_none rfl, ?_⟩
              exact Flow.run_same (Flow.exec_pick_yes rfl e89 e93) Flow.grow_refl
            refine Flow.Ones.cons ?_ ?_
            · rintro a w hC hoff ⟨k6, -⟩
              have e94 : a.eval (.tmp 94) = .bool true := k6 94 rfl
              refine .inl ⟨Flow.want_none rfl, ?_⟩
              exact Flow.run_same (Flow.exec_move (.inl rfl) e94) Flow.grow_refl
            refine Flow.Ones.cons ?_ ?_
            · rintro a w hC hoff ⟨k7, -⟩
              have e95 : a.eval (.tmp 95) = .bool true := k7 95 rfl
              have e5 : a.eval (.tmp 5) = .int .u64 (x : Int) := hoff.at 5 (by kernel_rfl)
              refine .inl ⟨Flow.want_yes rfl rfl e95, ?_⟩
              exact Flow.run_same (Flow.exec_move (.inl rfl) e5) Flow.grow_refl
            refine Flow.Ones.cons ?_ ?_
            · rintro a w hC hoff ⟨k8, k7, -⟩
              have e96 : a.eval (.tmp 96) = .int .u64 (x : Int) := k8 96 rfl
              have e95 : a.eval (.tmp 95) = .bool true := k7 95 rfl
              refine .inl ⟨Flow.want_yes rfl rfl e95, ?_⟩
              exact Flow.run_call (Flow.exec_call (args := #[(.int .u64 (x : Int))]) rfl Tryd.func7 (by kernel_rfl) (by kernel_rfl) (by simp only [List.map_toArray, List.map_cons, List.map_nil, e96] <;> rfl)) ((HCount.out w).mono fun e w' ⟨he, hw⟩ => ⟨_, he, hw ▸ Flow.grow_refl _, rfl⟩)
            refine Flow.Ones.cons ?_ ?_
            · rintro a w hC hoff ⟨k7, -⟩
              have e95 : a.eval (.tmp 95) = .bool true := k7 95 rfl
              have e7 : a.eval (.tmp 7) = .int .i64 (N : Int) := hoff.at 7 (by kernel_rfl)
              refine .inl ⟨Flow.want_yes rfl rfl e95, ?_⟩
              exact Flow.run_same (Flow.exec_move (.inl rfl) e7) Flow.grow_refl
            refine Flow.Ones.cons ?_ ?_
            · rintro a w hC hoff ⟨k9, k10, k7, -⟩
              have e97 : a.eval (.tmp 97) = .int .i64 (N : Int) := k9 97 rfl
              have e98 : a.eval (.tmp 98) = .int .i64 (N : Int) := k10 98 rfl
              have e95 : a.eval (.tmp 95) = .bool true := k7 95 rfl
              refine .inl ⟨Flow.want_yes rfl rfl e95, ?_⟩
              refine Flow.run_same ?_ Flow.grow_refl
              have ec := Flow.eval_const a
              generalize a.eval = ρ at e97 e98 ec ⊢
              simp [execOp, e97, e98, go_sem]
            refine Flow.Ones.cons ?_ ?_
            · rintro a w hC hoff ⟨k7, k11, -⟩
              have e95 : a.eval (.tmp 95) = .bool true := k7 95 rfl
              have e99 : a.eval (.tmp 99) = .bool true := k11 99 rfl
              refine .inl ⟨Flow.want_none rfl, ?_⟩
              exact Flow.run_same (Flow.exec_pick_yes rfl e95 e99) Flow.grow_refl
            refine Flow.Ones.cons ?_ ?_
            · rintro a w hC hoff ⟨k12, -⟩
              have e100 : a.eval (.tmp 100) = .bool true := k12 100 rfl
              refine .inl ⟨Flow.want_none rfl, ?_⟩
              exact Flow.run_same (Flow.exec_move (.inl rfl) e100) Flow.grow_refl
            refine Flow.Ones.cons ?_ ?_
            · rintro a w hC hoff ⟨k13, -⟩
              have e101 : a.eval (.tmp 101) = .bool true := k13 101 rfl
              have e8 : a.eval (.tmp 8) = .slice a3 N cap3 := hoff.at 8 (by kernel_rfl)
              refine .inl ⟨Flow.want_yes rfl rfl e101, ?_⟩
              exact Flow.run_same (Flow.exec_move (.inl rfl) e8) Flow.grow_refl
            refine Flow.Ones.cons ?_ ?_
            · rintro a w hC hoff ⟨k14, k13, -⟩
              have e102 : a.eval (.tmp 102) = .slice a3 N cap3 := k14 102 rfl
              have e101 : a.eval (.tmp 101) = .bool true := k13 101 rfl
              refine .inl ⟨Flow.want_yes rfl rfl e101, ?_⟩
              exact Flow.run_call (Flow.exec_call (args := #[(.slice a3 N cap3)]) rfl Tryd.func8 (by kernel_rfl) (by kernel_rfl) (by simp only [List.map_toArray, List.map_cons, List.map_nil, e102] <;> rfl)) ((HOf1.out w hC).mono fun e w' ⟨he, hw⟩ => ⟨_, he, hw ▸ Flow.grow_refl _, rfl⟩)
            refine Flow.Ones.cons ?_ ?_
            · rintro a w hC hoff ⟨k13, -⟩
              have e101 : a.eval (.tmp 101) = .bool true := k13 101 rfl
              have e5 : a.eval (.tmp 5) = .int .u64 (x : Int) := hoff.at 5 (by kernel_rfl)
              refine .inl ⟨Flow.want_yes rfl rfl e101, ?_⟩
              exact Flow.run_same (Flow.exec_move (.inl rfl) e5) Flow.grow_refl
            refine Flow.Ones.cons ?_ ?_
            · rintro a w hC hoff ⟨k15, k16, k13, -⟩
              have e103 : a.eval (.tmp 103) = .int .u64 (x : Int) := k15 103 rfl
              have e104 : a.eval (.tmp 104) = .int .u64 (x : Int) := k16 104 rfl
              have e101 : a.eval (.tmp 101) = .bool true := k13 101 rfl
              refine .inl ⟨Flow.want_yes rfl rfl e101, ?_⟩
              refine Flow.run_same ?_ Flow.grow_refl
              have ec := Flow.eval_const a
              generalize a.eval = ρ at e103 e104 ec ⊢
              simp [execOp, e103, e104, go_sem]
            refine Flow.Ones.cons ?_ ?_
            · rintro a w hC hoff ⟨k13, k17, -⟩
              have e101 : a.eval (.tmp 101) = .bool true := k13 101 rfl
              have e105 : a.eval (.tmp 105) = .bool true := k17 105 rfl
              refine .inl ⟨Flow.want_none rfl, ?_⟩
              exact Flow.run_same (Flow.exec_pick_yes rfl e101 e105) Flow.grow_refl
            refine Flow.Ones.cons ?_ ?_
            · rintro a w hC hoff ⟨k18, -⟩
              have e106 : a.eval (.tmp 106) = .bool true := k18 106 rfl
              refine .inl ⟨Flow.want_none rfl, ?_⟩
              exact Flow.run_same (Flow.exec_move (.inl rfl) e106) Flow.grow_refl
            refine Flow.Ones.cons ?_ ?_
            · rintro a w hC hoff ⟨k19, -⟩
              have e107 : a.eval (.tmp 107) = .bool true := k19 107 rfl
              have e5 : a.eval (.tmp 5) = .int .u64 (x : Int) := hoff.at 5 (by kernel_rfl)
              refine .inl ⟨Flow.want_yes rfl rfl e107, ?_⟩
              exact Flow.run_same (Flow.exec_move (.inl rfl) e5) Flow.grow_refl
            refine Flow.Ones.cons ?_ ?_
            · rintro a w hC hoff ⟨k19, -⟩
              have e107 : a.eval (.tmp 107) = .bool true := k19 107 rfl
              have e12 : a.eval (.tmp 12) = .slice ay k cap := hoff.at 12 (by kernel_rfl)
              refine .inl ⟨Flow.want_yes rfl rfl e107, ?_⟩
              exact Flow.run_same (Flow.exec_move (.inl rfl) e12) Flow.grow_refl
            refine Flow.Ones.cons ?_ ?_
            · rintro a w hC hoff ⟨k20, k21, k19, -⟩
              have e108 : a.eval (.tmp 108) = .int .u64 (x : Int) := k20 108 rfl
              have e109 : a.eval (.tmp 109) = .slice ay k cap := k21 109 rfl
              have e107 : a.eval (.tmp 107) = .bool true := k19 107 rfl
              refine .inl ⟨Flow.want_yes rfl rfl e107, ?_⟩
              exact Flow.run_call (Flow.exec_call (args := #[(.int .u64 (x : Int)), (.slice ay k cap)]) rfl Tryd.func9 (by kernel_rfl) (by kernel_rfl) (by simp only [List.map_toArray, List.map_cons, List.map_nil, e108, e109] <;> rfl)) ((HAll.out w hC).mono fun e w' ⟨he, hw⟩ => ⟨_, he, hw ▸ Flow.grow_refl _, rfl⟩)
            refine Flow.Ones.cons ?_ ?_
            · rintro a w hC hoff ⟨k19, -⟩
              have e107 : a.eval (.tmp 107) = .bool true := k19 107 rfl
              have e10 : a.eval (.tmp 10) = .bool A := hoff.at 10 (by kernel_rfl)
              refine .inl ⟨Flow.want_yes rfl rfl e107, ?_⟩
              exact Flow.run_same (Flow.exec_move (.inl rfl) e10) Flow.grow_refl
            refine Flow.Ones.cons ?_ ?_
            · rintro a w hC hoff ⟨k22, k23, k19, -⟩
              have e110 : a.eval (.tmp 110) = .bool A := k22 110 rfl
              have e111 : a.eval (.tmp 111) = .bool A := k23 111 rfl
              have e107 : a.eval (.tmp 107) = .bool true := k19 107 rfl
              refine .inl ⟨Flow.want_yes rfl rfl e107, ?_⟩
              refine Flow.run_same ?_ Flow.grow_refl
              have ec := Flow.eval_const a
              generalize a.eval = ρ at e110 e111 ec ⊢
              simp [execOp, e110, e111, go_sem]
            refine Flow.Ones.cons ?_ ?_
            · rintro a w hC hoff ⟨k19, k24, -⟩
              have e107 : a.eval (.tmp 107) = .bool true := k19 107 rfl
              have e112 : a.eval (.tmp 112) = .bool true := k24 112 rfl
              refine .inl ⟨Flow.want_none rfl, ?_⟩
              exact Flow.run_same (Flow.exec_pick_yes rfl e107 e112) Flow.grow_refl
            refine Flow.Ones.cons ?_ ?_
            · rintro a w hC hoff ⟨k25, -⟩
              have e113 : a.eval (.tmp 113) = .bool true := k25 113 rfl
              refine .inl ⟨Flow.want_none rfl, ?_⟩
              exact Flow.run_same (Flow.exec_move (.inl rfl) e113) Flow.grow_refl
            refine Flow.Ones.cons ?_ ?_
            · rintro a w hC hoff ⟨k26, -⟩
              have e114 : a.eval (.tmp 114) = .bool true := k26 114 rfl
              have e12 : a.eval (.tmp 12) = .slice ay k cap := hoff.at 12 (by kernel_rfl)
              refine .inl ⟨Flow.want_yes rfl rfl e114, ?_⟩
              exact Flow.run_same (Flow.exec_move (.inl rfl) e12) Flow.grow_refl
            refine Flow.Ones.cons ?_ ?_
            · rintro a w hC hoff ⟨k27, k26, -⟩
              have e115 : a.eval (.tmp 115) = .slice ay k cap := k27 115 rfl
              have e114 : a.eval (.tmp 114) = .bool true := k26 114 rfl
              refine .inl ⟨Flow.want_yes rfl rfl e114, ?_⟩
              exact Flow.run_call (Flow.exec_call (args := #[(.slice ay k cap)]) rfl Tryd.func8 (by kernel_rfl) (by kernel_rfl) (by simp only [List.map_toArray, List.map_cons, List.map_nil, e115] <;> rfl)) ((HOf2.out w hC).mono fun e w' ⟨he, hw⟩ => ⟨_, he, hw ▸ Flow.grow_refl _, rfl⟩)
            refine Flow.Ones.cons ?_ ?_
            · rintro a w hC hoff ⟨k26, -⟩
              have e114 : a.eval (.tmp 114) = .bool true := k26 114 rfl
              have e11 : a.eval (.tmp 11) = .pointer (some ⟨w3.heap.size, 0, none⟩) := hoff.at 11 (by kernel_rfl)
              refine .inl ⟨Flow.want_yes rfl rfl e114, ?_⟩
              exact wp_load_row 27 (.tmp 11) rfl w3.heap.size e11 27 (tokCells bl) (0, 0) _ (Hload.out w hC) Tryd.underlying27 rfl Hsz.out ⟨_, rfl, Flow.grow_refl _, rfl⟩
            refine Flow.Ones.cons ?_ ?_
            · rintro a w hC hoff ⟨k29, k26, -⟩
              have e117 : a.eval (.tmp 117) = .agg (tokCells bl) := k29 117 rfl
              have e114 : a.eval (.tmp 114) = .bool true := k26 114 rfl
              refine .inl ⟨Flow.want_yes rfl rfl e114, ?_⟩
              exact Flow.run_call (Flow.exec_call (args := #[(.agg (tokCells bl))]) rfl Tryd.func10 (by kernel_rfl) (by kernel_rfl) (by simp only [List.map_toArray, List.map_cons, List.map_nil, e117] <;> rfl)) ((HTok.out w).mono fun e w' ⟨he, hg⟩ => ⟨_, he, hg, rfl⟩)
            refine Flow.Ones.cons ?_ ?_
            · rintro a w hC hoff ⟨k28, k30, k26, -⟩
              have e116 : a.eval (.tmp 116) = .int .u64 (O : Int) := k28 116 rfl
              have e118 : a.eval (.tmp 118) = .int .u64 (O : Int) := k30 118 rfl
              have e114 : a.eval (.tmp 114) = .bool true := k26 114 rfl
              refine .inl ⟨Flow.want_yes rfl rfl e114, ?_⟩
              refine Flow.run_same ?_ Flow.grow_refl
              have ec := Flow.eval_const a
              generalize a.eval = ρ at e116 e118 ec ⊢
              simp [execOp, e116, e118, go_sem]
            refine Flow.Ones.cons ?_ ?_
            · rintro a w hC hoff ⟨k26, k31, -⟩
              have e114 : a.eval (.tmp 114) = .bool true := k26 114 rfl
              have e119 : a.eval (.tmp 119) = .bool true := k31 119 rfl
              refine .inl ⟨Flow.want_none rfl, ?_⟩
              exact Flow.run_same (Flow.exec_pick_yes rfl e114 e119) Flow.grow_refl
            refine Flow.Ones.cons ?_ ?_
            · rintro a w hC hoff ⟨k32, -⟩
              have e120 : a.eval (.tmp 120) = .bool true := k32 120 rfl
              refine .inl ⟨Flow.want_none rfl, ?_⟩
              exact Flow.run_same (Flow.exec_move (.inr rfl) e120) Flow.grow_refl
            exact trivial
          case stab20 => exact trivial
          case ends20 =>
            intro w' hg'
            simp only [Flow.ends]
            simp only [Act.put, List.setIfInBounds_toArray, List.set_cons_succ, List.set_cons_zero]
            go_wp2
            go_ret
            exact ⟨rfl, HGw.out.trans hg'⟩
end Go.Proofs.YtjapakmpnkbemaaDoor
