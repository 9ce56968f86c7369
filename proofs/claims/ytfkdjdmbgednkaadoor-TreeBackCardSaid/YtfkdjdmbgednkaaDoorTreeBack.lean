/- galliardlaw06.TreeBack: the walk. -/
import Derived.Test.YtfkdjdmbgednkaaDoorTreeBad
import Derived.Test.YtfkdjdmbgednkaaDoorBack4
import Derived.Test.YtfkdjdmbgednkaaDoorNear
import Derived.Test.YtfkdjdmbgednkaaDoorSize6
import Derived.Test.YtfkdjdmbgednkaaDoorSame6
import Derived.Test.YtfkdjdmbgednkaaDoorTGet
import Derived.Test.YtfkdjdmbgednkaaDoorTSame
import Derived.Deep.DeepCutAuto
namespace Go.Proofs.YtfkdjdmbgednkaaDoor
open Go.RowKit
namespace Xm
def bkT : ByteArray := ⟨#[97, 98, 32, 45, 62, 32, 60]⟩
def bkC (b : UInt8) : UInt8 := bkT[b.toNat % 7]'(Nat.mod_lt _ (by decide))
def bkL : List UInt8 := [97, 98, 32, 45, 62, 60]
theorem bkC_mem (b : UInt8) : bkC b ∈ bkL := by
  have key : ∀ n : Fin 7, (bkT[n.val]'n.isLt) ∈ bkL := by decide +kernel
  exact key ⟨b.toNat % 7, Nat.mod_lt _ (by decide)⟩
theorem nice_le : ∀ (d : Nat) (y : Nod), d ≤ 4 → Nice d y → cnt y ≤ 40 := by
  intro d y hd h
  rcases (show d = 0 ∨ d = 1 ∨ d = 2 ∨ d = 3 ∨ d = 4 by omega) with rfl | rfl | rfl | rfl | rfl
  · cases h
  · have := nice_cnt1 y h; omega
  · have := nice_cnt2 y h; omega
  · have := nice_cnt3 y h; omega
  · obtain ⟨sp, nm, l, ks, tx⟩ := y
    obtain ⟨_, _, _, hk, hks, _⟩ := h
    have := nice_cntL 13 ks fun y hy => nice_cnt3 y (hks y hy)
    rw [cnt]; omega
theorem idx_dd : ∀ (l : List UInt8), (∀ i : Nat, l[i]? = some 45 → l[i + 1]? ≠ some 45) → Lib.index l [45, 45] = -1
  | [], _ => by simp [Lib.index]
  | x :: l, h => by
    have ih := idx_dd l fun i h1 => by
      have := h (i + 1)
      simpa using this (by simpa using h1)
    rw [Lib.index, if_neg, ih]
    · rfl
    · intro hp
      cases l with
      | nil => simp at hp
      | cons y l =>
        simp at hp
        have := h 0
        simp at this
        exact this hp.1.symm hp.2.symm
def atN : Nod → List (ByteArray × ByteArray)
  | .mk _ _ l _ _ => l
theorem NodAt.attrs {F : Nat → Prop} {w : World} {v : Value} {x : Nod} (h : NodAt F w v x) (sp nm tx : ByteArray) (av kv : Value) (e : v = .agg #[.string sp, .string nm, av, kv, .string tx]) : AttrsAt w av (atN x) ∧ ∃ a n c, kv = .slice a n c := by
  cases h with
  | mk sp' nm' tx' av' kv' l ks vs g off hA haF hk hl hc hn =>
    simp at e
    obtain ⟨rfl, rfl, rfl, rfl, rfl⟩ := e
    refine ⟨hA, ?_⟩
    rcases hk with ⟨_, a, c, rfl⟩ | ⟨c, rfl, _⟩
    · exact ⟨_, _, _, rfl⟩
    · exact ⟨_, _, _, rfl⟩
theorem nice_no : ∀ {d : Nat} {y : Nod}, Nice d y → (atN y).any (named1 ⟨#[110, 111]⟩) = false
  | 0, _, h => by cases h
  | d + 1, .mk sp nm l ks tx, h => by
    obtain ⟨_, _, ⟨al, rfl, ha⟩, _⟩ := h
    show (bsA al).any (named1 (str [110, 111])) = false
    apply any_no
    intro hm
    obtain ⟨a, h1, h2⟩ := List.mem_map.1 hm
    obtain ⟨j, hj⟩ := List.mem_iff_getElem?.1 h1
    obtain ⟨_, _, n, h3, h4⟩ := niceA_nl ha hj
    rw [h3] at h2
    have e2 := congrArg List.getLast? h2
    simp at e2
    have e3 := congrArg UInt8.toNat e2
    simp at e3
    omega
theorem back_ok {r : List UInt8} {k : Nat} {A : ByteArray} (hr : r.length = k) (hm : ∀ c ∈ r, c ∈ bkL) (hA : A = str ([60, 33, 45, 45, 32] ++ r)) (h1 : ∀ j, 5 ≤ j → j + 1 < 5 + k → ¬ (bt A j = 45 ∧ bt A (j + 1) = 45)) (h2 : ¬ bt A (4 + k) = 45) : Lt (32 :: r) ∧ Lib.index ((32 :: r) ++ [45]) [45, 45] = -1 := by
  have hb : ∀ j (x : UInt8), r[j]? = some x → bt A (5 + j) = (x.toNat : Int) := by
    intro j x hx
    rw [hA, bt_str, List.getD_eq_getElem?_getD, List.getElem?_append_right (by simp), show 5 + j - ([60, 33, 45, 45, 32] : List UInt8).length = j by simp, hx]
    rfl
  refine ⟨lt_cons (Lt.asc fun c hc => ?_) (lt_lit (by decide)), idx_dd _ ?_⟩
  · have := hm c hc
    simp only [bkL, List.mem_cons, List.not_mem_nil, or_false] at this
    rcases this with rfl | rfl | rfl | rfl | rfl | rfl <;> exact asc_of _ (by decide)
  · intro i hi hi2
    cases i with
    | zero => simp at hi
    | succ i =>
      have hi : (r ++ [45])[i]? = some 45 := by simpa using hi
      have hi2 : (r ++ [45])[i + 1]? = some 45 := by simpa using hi2
      have hlt : i + 1 < (r ++ [45]).length := (List.getElem?_eq_some_iff.1 hi2).1
      rw [List.length_append, List.length_singleton] at hlt
      rw [List.getElem?_append_left (by omega)] at hi
      have e1 := hb i 45 hi
      by_cases hl : i + 1 < r.length
      · rw [List.getElem?_append_left hl] at hi2
        have e2 := hb (i + 1) 45 hi2
        exact h1 (5 + i) (by omega) (by omega) ⟨e1, e2⟩
      · apply h2
        have : 4 + k = 5 + i := by omega
        rw [this]
        exact e1
end Xm
set_option maxRecDepth 100000 in
set_option maxHeartbeats 8000000 in
theorem treeBack_walk (v0 : Value) (deep : Int) (s : ByteArray) (w : World) (hx : Xm.ArgN w v0) (hs : s.size ≤ 9223372036854775807) (hT : Xm.Tab w) (hm : Xm.Max w) :
    Calls Tryd.prog 9 #[v0, .int .i64 deep, .string s] w fun e w' => e = .returned (.bool true) ∧ Flow.Grow w w' := by
  have HT := Lib.hid hT
  have HM := Lib.hid hm
  have HX := Lib.hid hx
  clear hT hm
  obtain ⟨sp, nm, tx, a1, a2, n1, c1, n2, c2, rfl⟩ := hx.form
  clear hx
  have b2 := Bits.i64_mask deep 2 (by omega) 3 (by decide)
  obtain ⟨jd, hjd⟩ : ∃ j : Nat, deep % 2 ^ 2 = (j : Int) := ⟨(deep % 2 ^ 2).toNat, by omega⟩
  have hd4 : jd < 4 := by omega
  rw [hjd] at b2
  clear hjd
  go_enter Tryd.func9, Tryd.ntmps9
  go_upto_region 1 with fail
  have G1 : Hid (Flow.Grow w (w.alloc (.cells #[.string sp, .string nm, .slice a1 n1 c1, .slice a2 n2 c2, .string tx] 47))) := Lib.hid (Flow.grow_alloc _ _)
  have X1 : Hid (Xm.RowN (w.alloc (.cells #[.string sp, .string nm, .slice a1 n1 c1, .slice a2 n2 c2, .string tx] 47)) w.heap.size #[.string sp, .string nm, .slice a1 n1 c1, .slice a2 n2 c2, .string tx]) := Lib.hid (heap_alloc_new w _)
  obtain ⟨X, hX⟩ : ∃ X, X = w.heap.size := ⟨_, rfl⟩
  rw [← hX] at X1 ⊢
  clear hX
  generalize w.alloc (.cells #[.string sp, .string nm, .slice a1 n1 c1, .slice a2 n2 c2, .string tx] 47) = w1 at *
  have x0 := (cell_of_row w1 X 0 _ _ _ X1.out).trans rfl
  have x1 := (cell_of_row w1 X 1 _ _ _ X1.out).trans rfl
  have x2 := (cell_of_row w1 X 2 _ _ _ X1.out).trans rfl
  have x3 := (cell_of_row w1 X 3 _ _ _ X1.out).trans rfl
  have x4 := (cell_of_row w1 X 4 _ _ _ X1.out).trans rfl
  simp at x0 x1 x2 x3 x4
  have hne := near_any (jd + 1) _ w1 (by omega) (by omega) (HX.out.grow G1.out)
  rw [show ((jd + 1 : Nat) : Int) = (jd : Int) + 1 by omega] at hne
  have HN := Lib.hid hne
  clear hne
  go_upto_region 2 with (go_at_call 22; refine HN.out.mono ?_; rintro e w2 ⟨u, y, rfl, hn, hny, hg⟩; obtain ⟨ysp, ynm, yl, yks, ytx⟩ := y; obtain ⟨b1, b2', m1, m2, d1, d2, rfl⟩ := node_known hn)
  have gA := Flow.grow_alloc w2 (.cells #[.string ysp, .string ynm, .slice b1 m1 d1, .slice b2' m2 d2, .string ytx] 47)
  have X3 : Hid (Xm.RowN (w2.alloc (.cells #[.string ysp, .string ynm, .slice b1 m1 d1, .slice b2' m2 d2, .string ytx] 47)) w2.heap.size #[.string ysp, .string ynm, .slice b1 m1 d1, .slice b2' m2 d2, .string ytx]) := Lib.hid (heap_alloc_new w2 _)
  have V3 := Lib.hid (hn.grow gA)
  have G3 := Lib.hid ((G1.out.trans hg).trans gA)
  have HNY := Lib.hid hny
  obtain ⟨N, hN⟩ : ∃ N, N = w2.heap.size := ⟨_, rfl⟩
  rw [← hN] at X3 ⊢
  clear hN gA hn hg hny x0 x1 x2 x3 x4 HN X1 HX G1
  generalize w2.alloc (.cells #[.string ysp, .string ynm, .slice b1 m1 d1, .slice b2' m2 d2, .string ytx] 47) = w3 at *
  clear w1 w2
  have x0 := (cell_of_row w3 N 0 _ _ _ X3.out).trans rfl
  have x1 := (cell_of_row w3 N 1 _ _ _ X3.out).trans rfl
  have x2 := (cell_of_row w3 N 2 _ _ _ X3.out).trans rfl
  have x3 := (cell_of_row w3 N 3 _ _ _ X3.out).trans rfl
  have x4 := (cell_of_row w3 N 4 _ _ _ X3.out).trans rfl
  simp at x0 x1 x2 x3 x4
  have hc40 := Xm.nice_le (jd + 1) _ (by omega) HNY.out
  have hdl := Xm.docN_bd 4 (jd + 1) _ ByteArray.empty [] HNY.out (by simp; omega) rfl
  have HC := Lib.hid hc40
  have hdl1 := hdl.1
  obtain ⟨Y, hY⟩ : ∃ Y, Y = Xm.Nod.mk ysp ynm yl yks ytx := ⟨_, rfl⟩
  rw [← hY] at HNY V3 HC hc40 hdl1
  have hdl2 : (Xm.docN Y ByteArray.empty []).length ≤ 20000 := by omega
  have HY := Lib.hid hY
  clear hY hdl hdl1
  go_upto_region 5 with (go_at_call 21; refine (text6_any 40 Y _ _ ByteArray.empty [] w3 hc40 V3.out (by omega)).mono ?_; rintro e w4 ⟨rfl, hg4⟩)
  have G4 := Lib.hid (G3.out.trans hg4)
  have X4 := Lib.hid (X3.out.grow hg4)
  have V4 := Lib.hid (V3.out.grow hg4)
  clear hg4 x0 x1 x2 x3 x4 X3 V3 G3 hc40 w3
  go_loopw [9, 10] (fun v9 v10 wr => ∃ (k : Nat) (r : List UInt8), k ≤ s.size ∧ k ≤ 9 ∧ v10 = .int .i64 (k : Int) ∧ v9 = .string (str ([60, 33, 45, 45, 32] ++ r)) ∧ r.length = k ∧ Hid (∀ c ∈ r, c ∈ Xm.bkL) ∧ Hid (Flow.Grow w4 wr)) (fun _ v _ => 9 - (intOf v).toNat)
  case atStart => exact ⟨0, [], Nat.zero_le _, Nat.zero_le _, rfl, rfl, rfl, Lib.hid (by simp), Lib.hid (Flow.grow_refl _)⟩
  case round =>
    obtain ⟨k, r, hk, hk9, rfl, rfl, hr, Hr, HG⟩ := hrel
    rename World => wr
    go_upto_region 5 with fail
    go_cut [34] from 27 to 45 (fun v34 wx => v34 = .bool (decide (k < s.size ∧ k < 9)) ∧ wx = wr)
    case first =>
      by_cases hn : k < s.size
      · have hd1 : decide ((k : Int) < (s.size : Int)) = true := by simp; omega
        by_cases h3 : k < 9
        · have hd2 : decide ((k : Int) < 9) = true := by simp; omega
          go_wp2_with fail
          go_meet
          case rel => exact ⟨by rw [decide_eq_true (⟨hn, h3⟩ : k < s.size ∧ k < 9)], rfl⟩
        · have hd2 : decide ((k : Int) < 9) = false := by simp; omega
          go_wp2_with fail
          go_meet
          case rel => exact ⟨by rw [decide_eq_false (fun h : k < s.size ∧ k < 9 => h3 h.2)], rfl⟩
      · have hd1 : decide ((k : Int) < (s.size : Int)) = false := by simp; omega
        go_wp2_with fail
        go_meet
        case rel => exact ⟨by rw [decide_eq_false (fun h : k < s.size ∧ k < 9 => hn h.1)], rfl⟩
    case rest =>
    obtain ⟨rfl, hwx⟩ := hcut
    have hwx := hwx.symm
    subst hwx
    by_cases hlt : k < s.size ∧ k < 9
    · have hd : decide (k < s.size ∧ k < 9) = true := decide_eq_true hlt
      obtain ⟨hlt, h9⟩ := hlt
      rw [hd]
      have hB := Bytes.of_own (World.ownsRow_lit (base := 0) (e := 5) wr #[u8v (Xm.bkC s[k])] 1 (Nat.zero_le _) (by decide) rfl) (by simp : ([Xm.bkC s[k]]).length ≤ 140737488351232)
      have Hw := run_str (P := Tryd.prog) hB 41 9 5 Tryd.underlying41 Tryd.underlying5 Tryd.underlying9
      have hi : 0 ≤ ((s[k].toNat : Nat) : Int) % 7 ∧ ((s[k].toNat : Nat) : Int) % 7 < 7 := by omega
      have hX1 : (str [Xm.bkC s[k]]).size = 1 := rfl
      obtain ⟨C, hC⟩ : ∃ C, C = Xm.bkC s[k] := ⟨_, rfl⟩
      have HC2 := Lib.hid hC
      unfold u8v Xm.bkC Xm.bkT at Hw
      obtain ⟨Z, hZ⟩ : ∃ Z, Z = str [Xm.bkC s[k]] := ⟨_, rfl⟩
      have hZ' : Z = str [(⟨#[97, 98, 32, 45, 62, 32, 60]⟩ : ByteArray)[s[k].toNat % 7]'(Nat.mod_lt _ (by decide))] := hZ
      rw [← hZ'] at Hw
      rw [← hZ] at hX1
      have HZ := Lib.hid hZ
      obtain ⟨A, hA⟩ : ∃ A, A = str ([60, 33, 45, 45, 32] ++ r) := ⟨_, rfl⟩
      have hAz : A.size = 5 + k := by rw [hA, str_size]; simp; omega
      have HA := Lib.hid hA
      rw [← hA]
      have hl : ¬ 9223372036854775807 < A.size + Z.size := by omega
      clear hZ hZ' hB hA hC
      go_wp2
      have G2 := Lib.hid (HG.out.trans (Flow.grow_alloc wr (.cells #[.int .u8 ((Xm.bkC s[k]).toNat : Int)] 5)))
      go_roundw
      case rel => exact ⟨k + 1, r ++ [Xm.bkC s[k]], by omega, by omega, by first | rfl | go_num, by rw [HA.out, HZ.out, str_append, List.append_assoc], by simp [hr], Lib.hid (by
        intro c hc
        rcases List.mem_append.1 hc with hc | hc
        · exact Hr.out c hc
        · rw [List.mem_singleton] at hc; rw [hc]; exact Xm.bkC_mem _), G2⟩
      case measure => simp only [intOf]; omega
    · have hd : decide (k < s.size ∧ k < 9) = false := decide_eq_false hlt
      rw [hd]
      obtain ⟨A, hA⟩ : ∃ A, A = str ([60, 33, 45, 45, 32] ++ r) := ⟨_, rfl⟩
      have hAz : A.size = 4 + k + 1 := by rw [hA, str_size]; simp; omega
      have HA := Lib.hid hA
      rw [← hA]
      clear hA hlt hd hwx
      go_upto_region 10 with fail
      go_loopw [11, 12] (fun v11 v12 wx => ∃ (i : Nat) (bb : Bool), 5 ≤ i ∧ i ≤ 5 + k ∧ v12 = .int .i64 (i : Int) ∧ v11 = .bool bb ∧ Hid (bb = false → ∀ j, 5 ≤ j → j < i → ¬ (Xm.bt A j = 45 ∧ Xm.bt A (j + 1) = 45)) ∧ wx = wr) (fun _ v _ => 5 + k - (intOf v).toNat)
      case atStart => exact ⟨5, false, by omega, by omega, rfl, rfl, Lib.hid (fun _ j h1 h2 => by omega), rfl⟩
      case round =>
        obtain ⟨i, bb, hi5, hik, rfl, rfl, HB, hwx⟩ := hrel
        have hwx := hwx.symm
        subst hwx
        by_cases hlt : i + 1 < 5 + k
        · have g1 : (i : Int) + 1 < (A.size : Int) := by omega
          have g1' : decide ((i : Int) + 1 < (A.size : Int)) = true := by simp; omega
          have eI : IntKind.i64.wrap ((i : Int) + 1) = (i : Int) + 1 := IntWalk.i64_in _ (by omega)
          have p1 : i < A.size := by omega
          have p2 : i + 1 < A.size := by omega
          have hb1 := Xm.bt_eq p1
          have hb2 := Xm.bt_eq p2
          obtain ⟨e1, he1⟩ : ∃ e, e = Xm.bt A i := ⟨_, rfl⟩
          obtain ⟨e2, he2⟩ : ∃ e, e = Xm.bt A (i + 1) := ⟨_, rfl⟩
          rw [← he1] at hb1
          rw [← he2] at hb2
          have HE1 := Lib.hid he1
          have HE2 := Lib.hid he2
          clear he1 he2
          cases bb with
          | true =>
            go_wp2
            go_roundw
            case rel => exact ⟨i + 1, true, by omega, by omega, by first | rfl | go_num, rfl, Lib.hid (fun h => by cases h), by first | rfl | trivial⟩
            case measure => simp only [intOf]; omega
          | false =>
            by_cases h1 : e1 = 45
            · subst h1
              by_cases h2 : e2 = 45
              · subst h2
                go_wp2
                go_roundw
                case rel => exact ⟨i + 1, true, by omega, by omega, by first | rfl | go_num, rfl, Lib.hid (fun h => by cases h), by first | rfl | trivial⟩
                case measure => simp only [intOf]; omega
              · have h2' : (e2 == 45) = false := by simpa using h2
                go_wp2
                go_roundw
                case rel => exact ⟨i + 1, false, by omega, by omega, by first | rfl | go_num, rfl, Lib.hid (fun _ j q1 q2 => by
                  by_cases hj : j = i
                  · subst hj; rintro ⟨_, h⟩; rw [← HE2.out] at h; exact h2 h
                  · exact HB.out rfl j q1 (by omega)), by first | rfl | trivial⟩
                case measure => simp only [intOf]; omega
            · have h1' : (e1 == 45) = false := by simpa using h1
              go_wp2
              go_roundw
              case rel => exact ⟨i + 1, false, by omega, by omega, by first | rfl | go_num, rfl, Lib.hid (fun _ j q1 q2 => by
                by_cases hj : j = i
                · subst hj; rintro ⟨h, _⟩; rw [← HE1.out] at h; exact h1 h
                · exact HB.out rfl j q1 (by omega)), by first | rfl | trivial⟩
              case measure => simp only [intOf]; omega
        · have g1 : ¬ (i : Int) + 1 < (A.size : Int) := by omega
          have g1' : decide ((i : Int) + 1 < (A.size : Int)) = false := by simp; omega
          have eI : IntKind.i64.wrap ((i : Int) + 1) = (i : Int) + 1 := IntWalk.i64_in _ (by omega)
          go_upto_region 13 with fail
          go_cut [75] (fun v75 wx => (∃ b : Bool, v75 = .bool b ∧ Hid (b = false → (∀ j, 5 ≤ j → j + 1 < 5 + k → ¬ (Xm.bt A j = 45 ∧ Xm.bt A (j + 1) = 45)) ∧ ¬ Xm.bt A (4 + k) = 45)) ∧ wx = wr)
          case first =>
            have p1 : 4 + k < A.size := by omega
            have hb1 := Xm.bt_eq p1
            obtain ⟨e1, he1⟩ : ∃ e, e = Xm.bt A (4 + k) := ⟨_, rfl⟩
            rw [← he1] at hb1
            have HE1 := Lib.hid he1
            have ez : (A.size : Int) - 1 = ((4 + k : Nat) : Int) := by omega
            have ez2 : IntKind.i64.wrap ((A.size : Int) - 1) = ((4 + k : Nat) : Int) := by rw [IntWalk.i64_in _ (by omega)]; omega
            clear he1
            cases bb with
            | true =>
              go_wp2_with fail
              go_meet
              case rel => exact ⟨⟨true, rfl, Lib.hid (fun h => by cases h)⟩, rfl⟩
            | false =>
              have Hall := Lib.hid (HB.out rfl)
              by_cases h1 : e1 = 45
              · subst h1
                go_wp2_with fail
                go_meet
                case rel => exact ⟨⟨true, rfl, Lib.hid (fun h => by cases h)⟩, by first | rfl | trivial⟩
              · have h1' : (e1 == 45) = false := by simpa using h1
                go_wp2_with fail
                go_meet
                case rel => exact ⟨⟨false, rfl, Lib.hid (fun _ => ⟨fun j q1 q2 => Hall.out j q1 (by omega), by rw [← HE1.out]; exact h1⟩)⟩, by first | rfl | trivial⟩
          case rest =>
          obtain ⟨⟨b, rfl, HP⟩, hwx⟩ := hcut
          have hwx := hwx.symm
          subst hwx
          have Hg := HG
          go_upto_if 75 with fail
          go_cut [9] (fun v9 wx => (∃ v : List UInt8, v9 = .string (str ([60, 33, 45, 45] ++ v)) ∧ Hid (Xm.Lt v ∧ Lib.index (v ++ [45]) [45, 45] = -1) ∧ v.length ≤ 10) ∧ wx = wr)
          case first =>
            cases b with
            | true =>
              go_wp2_with fail
              go_meet
              case rel => exact ⟨⟨[32], rfl, Lib.hid ⟨Xm.lt_lit (by decide), by decide⟩, by decide⟩, by first | rfl | trivial⟩
            | false =>
              obtain ⟨q1, q2⟩ := HP.out rfl
              have HQ := Lib.hid (Xm.back_ok hr Hr.out HA.out q1 q2)
              go_wp2_with fail
              go_meet
              case rel => exact ⟨⟨32 :: r, by rw [HA.out]; rfl, HQ, by simp [hr]; omega⟩, by first | rfl | trivial⟩
          case rest =>
          obtain ⟨⟨v, rfl, HV, hv10⟩, hwx⟩ := hcut
          have hwx := hwx.symm
          subst hwx
          have GW := Lib.hid (G4.out.trans HG.out)
          have X5 := Lib.hid (X4.out.grow HG.out)
          have V5 := Lib.hid (V4.out.grow HG.out)
          obtain ⟨C, hC⟩ : ∃ C, C = str ([60, 33, 45, 45] ++ v) := ⟨_, rfl⟩
          obtain ⟨T, hTT⟩ : ∃ T, T = str (Xm.docN Y ByteArray.empty []) := ⟨_, rfl⟩
          have hCz : C.size ≤ 14 := by rw [hC, str_size]; simp; omega
          have hTz : T.size ≤ 20000 := by rw [hTT, str_size]; exact hdl2
          have hU : (⟨#[32]⟩ ++ C ++ ⟨#[45, 45, 62, 10]⟩ ++ T ++ ⟨#[9, 60, 63, 120, 63, 62]⟩ : ByteArray) = str (Xm.backU v Y) := by
            rw [hC, hTT, show (⟨#[32]⟩ : ByteArray) = str [32] from rfl, show (⟨#[45, 45, 62, 10]⟩ : ByteArray) = str [45, 45, 62, 10] from rfl, show (⟨#[9, 60, 63, 120, 63, 62]⟩ : ByteArray) = str [9, 60, 63, 120, 63, 62] from rfl, str_append, str_append, str_append, str_append]
            congr 1
            simp [Xm.backU, Xm.comB, Xm.insB]
          have hUl : (Xm.backU v Y).length ≤ 30000 := by simp [Xm.backU, Xm.comB, Xm.insB]; omega
          have hPC := parse_any (str (Xm.backU v Y)) (by rw [str_size]; omega) (Xm.backU_new HV.out.1 HNY.out (by omega)) wr (HT.out.grow GW.out) (HM.out.grow GW.out)
          rw [← hU] at hPC
          have HPC := Lib.hid hPC
          have HPT : Hid (Xm.parseT (⟨#[32]⟩ ++ C ++ ⟨#[45, 45, 62, 10]⟩ ++ T ++ ⟨#[9, 60, 63, 120, 63, 62]⟩) = .ok Y) := Lib.hid (by rw [hU]; exact Xm.backU_parse HV.out.1 HV.out.2 HNY.out (by omega) (by have := HC.out; omega))
          rw [← hC, ← hTT]
          have n1 : ¬ 9223372036854775807 < 1 + C.size := by omega
          have n2 : ¬ 9223372036854775807 < 1 + C.size + 4 := by omega
          have n3 : ¬ 9223372036854775807 < 1 + C.size + 4 + T.size := by omega
          have n4 : ¬ 9223372036854775807 < 1 + C.size + 4 + T.size + 6 := by omega
          clear hC hTT hU hUl hPC hCz hTz hwx HP g1 g1' eI hlt HB hik hi5 HA hAz Hr hr hk hk9 X4 V4 G4 HG Hg hv10 hdl2
          go_upto_region 16 with (go_at_call 19; refine HPC.out.mono ?_; rintro e w6 ⟨hg6, hp⟩; rw [HPT.out] at hp; obtain ⟨u, rfl, hu⟩ := hp; have hu' := hu; rw [HY.out] at hu'; obtain ⟨p1, p2, p3, p4, p5, p6, rfl⟩ := node_known hu'; clear hu')
          have gB := Flow.grow_alloc w6 (.cells #[.string ysp, .string ynm, .slice p1 p3 p5, .slice p2 p4 p6, .string ytx] 47)
          have Y7 : Hid (Xm.RowN (w6.alloc (.cells #[.string ysp, .string ynm, .slice p1 p3 p5, .slice p2 p4 p6, .string ytx] 47)) w6.heap.size #[.string ysp, .string ynm, .slice p1 p3 p5, .slice p2 p4 p6, .string ytx]) := Lib.hid (heap_alloc_new w6 _)
          have U7 := Lib.hid (hu.grow gB)
          have G7 := Lib.hid ((GW.out.trans hg6).trans gB)
          have X7 := Lib.hid ((X5.out.grow hg6).grow gB)
          have V7 := Lib.hid ((V5.out.grow hg6).grow gB)
          obtain ⟨M, hM⟩ : ∃ M, M = w6.heap.size := ⟨_, rfl⟩
          rw [← hM] at Y7 ⊢
          clear hM gB hu hg6 X5 V5 GW HPC HPT n1 n2 n3 n4 HV
          generalize w6.alloc (.cells #[.string ysp, .string ynm, .slice p1 p3 p5, .slice p2 p4 p6, .string ytx] 47) = w7 at *
          have RX : Hid (∀ wq, Flow.Grow w7 wq → wq.cell? ⟨N, 0, none⟩ = some (.string ysp) ∧ wq.cell? ⟨N, 1, none⟩ = some (.string ynm) ∧ wq.cell? ⟨N, 2, none⟩ = some (.slice b1 m1 d1) ∧ wq.cell? ⟨N, 3, none⟩ = some (.slice b2' m2 d2) ∧ wq.cell? ⟨N, 4, none⟩ = some (.string ytx)) := Lib.hid (fun wq h =>
            ⟨(cell_of_row wq N 0 _ _ _ (X7.out.grow h)).trans rfl, (cell_of_row wq N 1 _ _ _ (X7.out.grow h)).trans rfl, (cell_of_row wq N 2 _ _ _ (X7.out.grow h)).trans rfl, (cell_of_row wq N 3 _ _ _ (X7.out.grow h)).trans rfl, (cell_of_row wq N 4 _ _ _ (X7.out.grow h)).trans rfl⟩)
          have RY : Hid (∀ wq, Flow.Grow w7 wq → wq.cell? ⟨M, 0, none⟩ = some (.string ysp) ∧ wq.cell? ⟨M, 1, none⟩ = some (.string ynm) ∧ wq.cell? ⟨M, 2, none⟩ = some (.slice p1 p3 p5) ∧ wq.cell? ⟨M, 3, none⟩ = some (.slice p2 p4 p6) ∧ wq.cell? ⟨M, 4, none⟩ = some (.string ytx)) := Lib.hid (fun wq h =>
            ⟨(cell_of_row wq M 0 _ _ _ (Y7.out.grow h)).trans rfl, (cell_of_row wq M 1 _ _ _ (Y7.out.grow h)).trans rfl, (cell_of_row wq M 2 _ _ _ (Y7.out.grow h)).trans rfl, (cell_of_row wq M 3 _ _ _ (Y7.out.grow h)).trans rfl, (cell_of_row wq M 4 _ _ _ (Y7.out.grow h)).trans rfl⟩)
          obtain ⟨cN, hcN⟩ : ∃ c, c = Xm.cnt Y := ⟨_, rfl⟩
          obtain ⟨dN, hdN⟩ : ∃ c, c = Xm.dep Y := ⟨_, rfl⟩
          have HCN := Lib.hid hcN
          have HDN := Lib.hid hdN
          clear hcN hdN
          have HNO := Lib.hid (Xm.nice_no HNY.out)
          obtain ⟨r0, r1, r2, r3, r4⟩ := RX.out w7 (Flow.grow_refl _)
          go_upto_region 17 with (go_at_call 26; refine (size6_any 40 Y _ _ w7 HC.out (by omega) V7.out).mono ?_; rintro e w8 ⟨rfl, hg8⟩; rw [← HCN.out, ← HDN.out])
          have K8 := Lib.hid hg8
          clear hg8 r0 r1 r2 r3 r4
          obtain ⟨r0, r1, r2, r3, r4⟩ := RX.out w8 K8.out
          have HAT := Lib.hid ((V7.out.grow K8.out).attrs _ _ _ _ _ rfl)
          go_upto_region 18 with (go_at_call 27; refine (tget_no ysp ynm ytx _ _ _ _ w8 HAT.out.1 HAT.out.2 HNO.out).mono ?_; rintro e w9 ⟨rfl, hg9⟩)
          have K9 := Lib.hid (K8.out.trans hg9)
          clear hg9 r0 r1 r2 r3 r4
          go_wp2_with (first
            | (go_at_call 20; refine (awake6_T w9 (HT.out.grow (G7.out.trans K9.out)) (HM.out.grow (G7.out.trans K9.out))).mono ?_; rintro e w10 ⟨rfl, hg10⟩; have K10 := Lib.hid (K9.out.trans hg10); clear hg10; obtain ⟨r0, r1, r2, r3, r4⟩ := RX.out w10 K10.out; obtain ⟨s0, s1, s2, s3, s4⟩ := RY.out w10 K10.out)
            | (go_at_call 28; refine (same6_true 40 Y _ _ _ _ w10 HC.out (by omega) (V7.out.grow K10.out) (U7.out.grow K10.out)).mono ?_; rintro e w11 ⟨rfl, hg11⟩; have K11 := Lib.hid (K10.out.trans hg11); clear hg11; obtain ⟨t0, t1, t2, t3, t4⟩ := RX.out w11 K11.out; obtain ⟨q0, q1, q2, q3, q4⟩ := RY.out w11 K11.out)
            | (go_at_call 29; refine (tsame_true 40 Y _ _ _ _ w11 HC.out (by omega) (V7.out.grow K11.out) (U7.out.grow K11.out)).mono ?_; rintro e w12 ⟨rfl, hg12⟩; have K12 := Lib.hid (K11.out.trans hg12); clear hg12; obtain ⟨z0, z1, z2, z3, z4⟩ := RY.out w12 K12.out)
            | (go_at_call 24; refine (count_any 40 Y _ _ w12 HC.out (by omega) (U7.out.grow K12.out)).mono ?_; rintro e w13 ⟨rfl, hg13⟩; rw [← HCN.out]; have K13 := Lib.hid (K12.out.trans hg13); clear hg13; obtain ⟨g0, g1, g2, g3, g4⟩ := RY.out w13 K13.out)
            | (go_at_call 25; refine (depthN_any 40 Y _ _ w13 HC.out (by omega) (U7.out.grow K13.out)).mono ?_; rintro e w14 ⟨rfl, hg14⟩; rw [← HDN.out]; have K14 := Lib.hid (K13.out.trans hg14); clear hg14))
          go_ret
          exact ⟨rfl, G7.out.trans K14.out⟩
end Go.Proofs.YtfkdjdmbgednkaaDoor
