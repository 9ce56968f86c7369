/- space.Spaces: Of, Name, and what an attribute tells of, by their contracts. -/
import Derived.Test.YtfkdjdmbgednkaaDoorSp1
import Derived.Test.YtfkdjdmbgednkaaDoorShelf2
namespace Go.Proofs.YtfkdjdmbgednkaaDoor
open Go.RowKit
namespace Xm
def ofT (R : List Bd) (p : ByteArray) : ByteArray × Bool := match R.find? (fun r => r.1.toList == p.toList) with | some r => (r.2.1, true) | none => (ByteArray.empty, false)
theorem OwnB.at' {w : World} {lv : Value} {A R : List Bd} {r : Bd} (h : OwnB w lv (A ++ r :: R)) : ∃ g cap, lv = .slice (some ⟨g, 0, none⟩) (A.length + (R.length + 1)) cap ∧ A.length + (R.length + 1) ≤ cap ∧ cap ≤ maxLen ∧
    w.cell? ⟨g, R.length * 3, none⟩ = some (.string r.1) ∧ w.cell? ⟨g, R.length * 3 + 1, none⟩ = some (.string r.2.1) := by
  have hh := h
  rcases h.2 with ⟨_, hn⟩ | ⟨g, cap, cur, hv, hb, hg, hnc, hcm, hcs, htake⟩
  · simp at hn
  · have hlen : (A ++ r :: R).length = A.length + (R.length + 1) := by simp
    rw [hlen] at hv hnc
    have hrev : (A ++ r :: R).reverse = R.reverse ++ r :: A.reverse := by simp
    have hc := World.ownsRow.cells hh (g := g) (by rw [hv]; rfl)
    have hG := bdCells_get R.reverse A.reverse r
    rw [List.length_reverse] at hG
    rw [hrev] at hc
    refine ⟨g, cap, hv, hnc, hcm, ?_, ?_⟩
    · have := hc _ _ hG.1; rwa [Addr.add_lit, Nat.zero_add] at this
    · have := hc _ _ hG.2.1; rwa [Addr.add_lit, Nat.zero_add] at this
def xmlnsS : ByteArray := ⟨#[120, 109, 108, 110, 115]⟩
def xmlnsC : ByteArray := ⟨#[120, 109, 108, 110, 115, 58]⟩
def tellP (n : ByteArray) : ByteArray × Bool := if n.toList == [120, 109, 108, 110, 115] then (ByteArray.empty, true) else (⟨(Lib.trimPrefix n.data.toList xmlnsC.data.toList).toArray⟩, Lib.hasPrefix n.data.toList xmlnsC.data.toList)
def nameP (R : List Bd) (n : ByteArray) : ByteArray × ByteArray × Bool :=
  if (split n).2.2 = true then (if (ofT R (split n).1).2 = true then ((ofT R (split n).1).1, (split n).2.1, true) else (ByteArray.empty, ByteArray.empty, false)) else (ByteArray.empty, ByteArray.empty, false)
end Xm
theorem ret_pair {p : ByteArray × Bool} {a : ByteArray} {b : Bool} (h : p = (a, b)) : Ending.returned (.tuple #[.string a, .bool b]) = .returned (.tuple #[.string p.1, .bool p.2]) := by rw [h]
set_option maxRecDepth 100000 in
set_option maxHeartbeats 1000000 in
theorem of_any (q : Nat) (lv : Value) (R : List Xm.Bd) (d : Nat) (p : ByteArray) (w : World) (h : Xm.Sp w q lv R d) (hR : R.length ≤ 1000000) :
    Calls Tryd.prog 102 #[.pointer (some ⟨q, 0, none⟩), .string p] w fun e w' => e = .returned (.tuple #[.string (Xm.ofT R p).1, .bool (Xm.ofT R p).2]) ∧ w = w' := by
  have c0 := h.blk.c0
  have H := Lib.hid h.own
  clear h
  obtain ⟨a, cap, hv⟩ := H.out.shape
  subst hv
  go_enter Tryd.func102, Tryd.ntmps102
  have e0 : IntKind.i64.wrap ((R.length : Int) - 1) = (R.length : Int) - 1 := IntWalk.i64_in _ (by omega)
  go_wp2
  go_loop [6] (fun v => ∃ A R' : List Xm.Bd, R = A ++ R' ∧ v = .int .i64 ((R'.length : Int) - 1) ∧ Hid (Xm.ofT R p = Xm.ofT R' p)) (fun v => (intOf v + 1).toNat)
  case atStart => exact ⟨[], R, rfl, rfl, Lib.hid rfl⟩
  case round =>
    obtain ⟨A, R', hAR, rfl, HE⟩ := hrel
    cases R' with
    | nil =>
      rw [List.append_nil] at hAR
      subst hAR
      have HN : Hid (Xm.ofT R p = (ByteArray.empty, false)) := Lib.hid (by rw [HE.out]; rfl)
      go_wp2
      go_ret2
      exact ⟨ret_pair HN.out, rfl⟩
    | cons r R' =>
      subst hAR
      obtain ⟨g, cap2, hv, hcap, hcm, k0, k1⟩ := H.out.at'
      simp only [Value.slice.injEq] at hv
      obtain ⟨rfl, -, rfl⟩ := hv
      obtain ⟨m, hm⟩ : ∃ m, m = R'.length := ⟨_, rfl⟩
      rw [← hm] at k0 k1
      have HM := Lib.hid hm
      obtain ⟨N, hN⟩ : ∃ N, N = (A ++ r :: R').length := ⟨_, rfl⟩
      have hNm : N = A.length + (m + 1) := by rw [hN, hm]; simp
      rw [← hN] at c0
      have g0 : ((List.length (r :: R') : Nat) : Int) - 1 = (m : Int) := by rw [List.length_cons, hm]; omega
      rw [g0]
      have e1 : IntKind.i64.wrap ((m : Int) - 1) = (m : Int) - 1 := IntWalk.i64_in _ (by rw [hN] at hNm; omega)
      have g1 : ¬ (N : Int) ≤ (m : Int) := by omega
      have g2 : m < N := by omega
      have g3 : (0 : Int) ≤ (m : Int) := by omega
      have hA1 : Hid ((A ++ r :: R') = (A ++ [r]) ++ R') := Lib.hid (by simp)
      clear hN g0 hm hcap
      cases hc : (r.1.toList == p.toList)
      · have HF : Hid (Xm.ofT (A ++ r :: R') p = Xm.ofT R' p) := Lib.hid (by rw [HE.out]; simp only [Xm.ofT, List.find?_cons, hc])
        go_wp2
        go_round
        case rel => exact ⟨A ++ [r], R', hA1.out, by rw [← HM.out], HF⟩
        case measure => simp only [intOf]; omega
      · have HF : Hid (Xm.ofT (A ++ r :: R') p = (r.2.1, true)) := Lib.hid (by rw [HE.out]; simp only [Xm.ofT, List.find?_cons, hc])
        clear hA1
        go_wp2
        go_ret2
        exact ⟨ret_pair HF.out, rfl⟩
set_option maxRecDepth 100000 in
theorem tells_any (n v : ByteArray) (w : World) : Calls Tryd.prog 101 #[.agg #[.string n, .string v]] w fun e w' => e = .returned (.tuple #[.string (Xm.tellP n).1, .bool (Xm.tellP n).2]) ∧ Flow.Grow w w' := by
  have hg := Flow.grow_alloc w (.cells #[.string n, .string v] 64)
  have HG := Lib.hid hg
  clear hg
  cases hc : (n.toList == [120, 109, 108, 110, 115])
  · have HE : Hid (Xm.tellP n = (⟨(Lib.trimPrefix n.data.toList Xm.xmlnsC.data.toList).toArray⟩, Lib.hasPrefix n.data.toList Xm.xmlnsC.data.toList)) := Lib.hid (by rw [Xm.tellP, hc]; rfl)
    go_enter Tryd.func101, Tryd.ntmps101
    go_wp2_with (go_at_call 103; refine (Tryd.strings_CutPrefix _ Xm.xmlnsC _).mono ?_; rintro e w2 ⟨rfl, rfl⟩)
    go_ret2
    exact ⟨ret_pair HE.out, HG.out⟩
  · have HE : Hid (Xm.tellP n = (ByteArray.empty, true)) := Lib.hid (by rw [Xm.tellP, hc]; rfl)
    go_enter Tryd.func101, Tryd.ntmps101
    go_wp2
    go_ret2
    exact ⟨ret_pair HE.out, HG.out⟩
theorem ret_three {p : ByteArray × ByteArray × Bool} {a b : ByteArray} {c : Bool} (h : p = (a, b, c)) : Ending.returned (.tuple #[.string a, .string b, .bool c]) = .returned (.tuple #[.string p.1, .string p.2.1, .bool p.2.2]) := by rw [h]
set_option maxRecDepth 100000 in
set_option maxHeartbeats 1000000 in
theorem spname_any (q : Nat) (lv : Value) (R : List Xm.Bd) (d : Nat) (n : ByteArray) (w : World) (h : Xm.Sp w q lv R d) (hR : R.length ≤ 1000000) (hn : n.size ≤ 9223372036854775807) :
    Calls Tryd.prog 97 #[.pointer (some ⟨q, 0, none⟩), .string n] w fun e w' => e = .returned (.tuple #[.string (Xm.nameP R n).1, .string (Xm.nameP R n).2.1, .bool (Xm.nameP R n).2.2]) ∧ Flow.Grow w w' := by
  have H := Lib.hid h
  clear h
  obtain ⟨p, l, ok, hs⟩ : ∃ p l ok, (p, l, ok) = Xm.split n := ⟨_, _, _, rfl⟩
  obtain ⟨u, k, ho⟩ : ∃ u k, (u, k) = Xm.ofT R p := ⟨_, _, rfl⟩
  have HS := Lib.hid hs
  have HO := Lib.hid ho
  have HE : Hid (Xm.nameP R n = if ok = true then (if k = true then (u, l, true) else (ByteArray.empty, ByteArray.empty, false)) else (ByteArray.empty, ByteArray.empty, false)) := Lib.hid (by rw [Xm.nameP, ← hs, ← ho])
  clear hs ho
  go_enter Tryd.func97, Tryd.ntmps97
  cases ok
  · go_wp2_with (go_at_call 60; refine (split_any _ _ hn).mono ?_; rintro e w2 ⟨rfl, n2, rfl⟩; rw [← HS.out])
    go_ret3
    exact ⟨ret_three (by rw [HE.out]; rfl), Flow.grow_drewN _ _⟩
  · cases k
    · go_wp2_with (first | (go_at_call 60; refine (split_any _ _ hn).mono ?_; rintro e w2 ⟨rfl, n2, rfl⟩; rw [← HS.out]) | (go_at_call 102; refine (of_any q lv R d p _ (H.out.grow (Flow.grow_drewN _ _)) hR).mono ?_; rintro e w3 ⟨rfl, rfl⟩; rw [← HO.out]))
      go_ret3
      exact ⟨ret_three (by rw [HE.out]; rfl), Flow.grow_drewN _ _⟩
    · go_wp2_with (first | (go_at_call 60; refine (split_any _ _ hn).mono ?_; rintro e w2 ⟨rfl, n2, rfl⟩; rw [← HS.out]) | (go_at_call 102; refine (of_any q lv R d p _ (H.out.grow (Flow.grow_drewN _ _)) hR).mono ?_; rintro e w3 ⟨rfl, rfl⟩; rw [← HO.out]))
      go_ret3
      exact ⟨ret_three (by rw [HE.out]; rfl), Flow.grow_drewN _ _⟩
end Go.Proofs.YtfkdjdmbgednkaaDoor
