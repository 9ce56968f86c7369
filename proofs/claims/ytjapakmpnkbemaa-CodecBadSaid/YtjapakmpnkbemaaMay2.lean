/- det.May by its contract: the rows, and the whole. -/
import Derived.Test.YtjapakmpnkbemaaMay
namespace Go.Proofs.Ytjapakmpnkbemaa
open Go.RowKit

/-- no list is too long to be counted -/
def Short (zss : List (List Int)) : Prop := ∀ l ∈ zss, l.length ≤ 9223372036854775807

set_option maxRecDepth 100000 in
set_option maxHeartbeats 400000 in
theorem index1 (v : Value) (zss : List (List Int)) (hz : zss.length ≤ 9223372036854775807) (hsh : Short zss) (g : Nat) (labels : Int) (a : Option Addr) (n cap : Nat) (w : World) (hl : w.cell? ⟨g, 0, none⟩ = some (.int .i64 labels)) (hc : w.cell? ⟨g, 3, none⟩ = some (.slice a n cap)) (hv : Rows2 w v zss) :
    Calls Try.prog 43 #[v, .func (.func 39) #[] #[.pointer (some ⟨g, 0, none⟩)]] w fun e w' => (∃ k : Int, e = .returned (.int .i64 k) ∧ decide (0 ≤ k) = zss.any (Det.badRow labels n)) ∧ w = w' := by
  by_cases hn : zss = []
  · subst hn
    obtain ⟨ao, cp, rfl⟩ := hv.val
    go_enter Try.func43, Try.ntmps43
    go_wp2_with fail
    refine wp_loop_rounds 1 ?_
    rw [rounds_succ]
    go_wp2_with fail
    go_ret
    exact ⟨⟨-1, rfl, rfl⟩, rfl⟩
  · obtain ⟨b, off, cp, rfl, _, hcell⟩ := hv.shape hn
    obtain ⟨len, hlen⟩ : ∃ len, len = zss.length := ⟨_, rfl⟩
    rw [← hlen] at hcell hz ⊢
    have Hlen := Lib.hid hlen
    have Hcell := Lib.hid hcell
    have Hsh := Lib.hid hsh
    clear hlen hn hv hcell hsh
    go_enter Try.func43, Try.ntmps43
    go_wp2_with fail
    go_loop [8] (fun i => ∃ k : Nat, k ≤ len ∧ i = .int .i64 k ∧ Hid (zss.any (Det.badRow labels n) = (zss.drop k).any (Det.badRow labels n))) (fun i => len - (intOf i).toNat)
    case atStart => exact ⟨0, by omega, rfl, Lib.hid rfl⟩
    case round =>
      obtain ⟨k, hk, rfl, Hall⟩ := hrel
      by_cases hkl : k < len
      · obtain ⟨u, hcl, hu⟩ := Hcell.out k hkl
        have hk' : k < zss.length := by rw [← Hlen.out]; exact hkl
        have Hs : Hid ((zss.drop k).any (Det.badRow labels n) = (Det.badRow labels n (zss.getD k []) || (zss.drop (k + 1)).any (Det.badRow labels n))) := by
          refine Lib.hid ?_
          rw [List.drop_eq_getElem_cons hk', List.any_cons, List.getD_eq_getElem?_getD, List.getElem?_eq_getElem hk', Option.getD_some]
        have hzl : (zss.getD k []).length ≤ 9223372036854775807 := by
          rw [List.getD_eq_getElem?_getD, List.getElem?_eq_getElem hk', Option.getD_some]
          exact Hsh.out _ (List.getElem_mem hk')
        clear Hcell hk'
        generalize zss.getD k [] = z at *
        have Hu := Lib.hid hu
        clear hu
        cases hb : Det.badRow labels n z with
        | false =>
          have Hs' : Hid (zss.any (Det.badRow labels n) = (zss.drop (k + 1)).any (Det.badRow labels n)) := Lib.hid (by rw [Hall.out, Hs.out, hb]; rfl)
          have Hb := Lib.hid hb
          clear hb Hs Hall
          go_wp2_with (go_at_call 39; refine (may1 _ _ hzl _ _ _ _ _ _ hl hc Hu.out).mono ?_; rintro e w' ⟨rfl, rfl⟩; rw [Hb.out])
          go_round
          case rel => exact ⟨k + 1, by omega, by go_num, Hs'⟩
          case measure => simp [intOf]; omega
        | true =>
          have Hs' : Hid (zss.any (Det.badRow labels n) = true) := Lib.hid (by rw [Hall.out, Hs.out, hb]; rfl)
          have Hb := Lib.hid hb
          clear hb Hs Hall
          go_wp2_with (go_at_call 39; refine (may1 _ _ hzl _ _ _ _ _ _ hl hc Hu.out).mono ?_; rintro e w' ⟨rfl, rfl⟩; rw [Hb.out])
          go_ret
          exact ⟨⟨k, rfl, by rw [Hs'.out]; simp⟩, rfl⟩
      · have HE : Hid (zss.any (Det.badRow labels n) = false) := Lib.hid (by rw [Hall.out, List.drop_eq_nil_of_le (by rw [← Hlen.out]; omega)]; rfl)
        clear Hall Hcell
        go_wp2_with fail
        go_ret
        exact ⟨⟨-1, rfl, by rw [HE.out]; rfl⟩, rfl⟩

set_option maxRecDepth 100000 in
set_option maxHeartbeats 400000 in
theorem contains1 (v : Value) (zss : List (List Int)) (hz : zss.length ≤ 9223372036854775807) (hsh : Short zss) (g : Nat) (labels : Int) (a : Option Addr) (n cap : Nat) (w : World) (hl : w.cell? ⟨g, 0, none⟩ = some (.int .i64 labels)) (hc : w.cell? ⟨g, 3, none⟩ = some (.slice a n cap)) (hv : Rows2 w v zss) :
    Calls Try.prog 38 #[v, .func (.func 39) #[] #[.pointer (some ⟨g, 0, none⟩)]] w fun e w' => e = .returned (.bool (zss.any (Det.badRow labels n))) ∧ w = w' := by
  have Hsh := Lib.hid hsh
  clear hsh
  go_enter Try.func38, Try.ntmps38
  go_wp2_with fail
  refine (index1 _ _ hz Hsh.out _ _ _ _ _ _ hl hc hv).mono ?_
  rintro e w' ⟨⟨k, rfl, hk⟩, rfl⟩
  have Hk := Lib.hid hk
  clear hk
  go_wp2_with fail
  go_ret
  exact ⟨ret_bool Hk.out, rfl⟩

/-- an automaton that lies in memory -/
structure DfaAt (w : World) (c : Array Value) (labels start : Int) (final : List Bool) (next : List (List Int)) : Prop where
  cells : ∃ vf vn, c = #[.int .i64 labels, .int .i64 start, vf, vn] ∧ Bools w vf final ∧ Rows2 w vn next
  fin : final.length ≤ 9223372036854775807
  len : next.length ≤ 9223372036854775807
  short : Short next
theorem DfaAt.grow {w w' : World} {c : Array Value} {labels start : Int} {final : List Bool} {next : List (List Int)} (h : DfaAt w c labels start final next) (g : Flow.Grow w w') : DfaAt w' c labels start final next :=
  ⟨by obtain ⟨vf, vn, h1, h2, h3⟩ := h.cells; exact ⟨vf, vn, h1, h2.grow g, h3.grow g⟩, h.fin, h.len, h.short⟩

set_option maxRecDepth 100000 in
set_option maxHeartbeats 800000 in
theorem may_any (c : Array Value) (labels start : Int) (final : List Bool) (next : List (List Int)) (w : World) (h : DfaAt w c labels start final next) :
    Calls Try.prog 27 #[.agg c] w fun e w' => e = .returned (.bool (Det.may labels start final.length next)) ∧ w' = w.alloc (.cells c 47) := by
  obtain ⟨⟨vf, vn, rfl, hf, hn⟩, hfl, hnl, hsh⟩ := h
  obtain ⟨af, cf, rfl, _⟩ := hf
  obtain ⟨an, cn, rfl⟩ := hn.val
  have Hn : Hid (Rows2 (w.alloc (.cells #[.int .i64 labels, .int .i64 start, .slice af final.length cf, .slice an next.length cn] 47)) (.slice an next.length cn) next) := Lib.hid (hn.grow (Flow.grow_alloc _ _))
  have Hsh := Lib.hid hsh
  obtain ⟨nf, hnf⟩ : ∃ k, k = final.length := ⟨_, rfl⟩
  rw [← hnf] at Hn hfl ⊢
  obtain ⟨nn, hnn⟩ : ∃ k, k = next.length := ⟨_, rfl⟩
  have Hnn := Lib.hid hnn
  rw [← hnn] at Hn hnl ⊢
  have Hm : Hid (Det.may labels start nf next = (decide (0 ≤ labels) && decide (nf = nn) && decide (1 ≤ nn) && decide (nn ≤ 2000) && decide (0 ≤ start) && decide (start < nn) && !next.any (Det.badRow labels nn))) := Lib.hid (by rw [hnn]; rfl)
  clear hn hnf hnn hsh
  by_cases h1 : labels < 0
  · have d1 : decide (labels < 0) = true := by simp; omega
    have HR : Hid (Det.may labels start nf next = false) := Lib.hid (by rw [Hm.out]; simp; intros; omega)
    clear Hm Hn
    go_enter Try.func27, Try.ntmps27
    go_wp2_with fail
    go_ret
    exact ⟨ret_bool HR.out.symm, rfl⟩
  · have d1 : decide (labels < 0) = false := by simp; omega
    by_cases h2 : nf ≠ nn
    · have d2 : ((nf : Int) != (nn : Int)) = true := by simp; omega
      have e2 : (nf != nn) = true := by simp; omega
      have HR : Hid (Det.may labels start nf next = false) := Lib.hid (by rw [Hm.out]; simp; intros; omega)
      clear Hm Hn
      go_enter Try.func27, Try.ntmps27
      go_wp2_with fail
      go_ret
      exact ⟨ret_bool HR.out.symm, rfl⟩
    · have d2 : ((nf : Int) != (nn : Int)) = false := by simp; omega
      have e2 : (nf != nn) = false := by simp; omega
      by_cases h3 : nn < 1
      · have d3 : decide ((nn : Int) < 1) = true := by simp; omega
        have e3 : decide (nn < 1) = true := by simp; omega
        have HR : Hid (Det.may labels start nf next = false) := Lib.hid (by rw [Hm.out]; simp; intros; omega)
        clear Hm Hn
        go_enter Try.func27, Try.ntmps27
        go_wp2_with fail
        go_ret
        exact ⟨ret_bool HR.out.symm, rfl⟩
      · have d3 : decide ((nn : Int) < 1) = false := by simp; omega
        have e3 : decide (nn < 1) = false := by simp; omega
        by_cases h4 : 2000 < nn
        · have d4 : decide ((2000 : Int) < (nn : Int)) = true := by simp; omega
          have e4 : decide (2000 < nn) = true := by simp; omega
          have HR : Hid (Det.may labels start nf next = false) := Lib.hid (by rw [Hm.out]; simp; intros; omega)
          clear Hm Hn
          go_enter Try.func27, Try.ntmps27
          go_wp2_with fail
          go_ret
          exact ⟨ret_bool HR.out.symm, rfl⟩
        · have d4 : decide ((2000 : Int) < (nn : Int)) = false := by simp; omega
          have e4 : decide (2000 < nn) = false := by simp; omega
          by_cases h5 : start < 0
          · have d5 : decide (start < 0) = true := by simp; omega
            have HR : Hid (Det.may labels start nf next = false) := Lib.hid (by rw [Hm.out]; simp; intros; omega)
            clear Hm Hn
            go_enter Try.func27, Try.ntmps27
            go_wp2_with fail
            go_ret
            exact ⟨ret_bool HR.out.symm, rfl⟩
          · have d5 : decide (start < 0) = false := by simp; omega
            by_cases h6 : (nn : Int) ≤ start
            · have d6 : decide ((nn : Int) ≤ start) = true := by simp; omega
              have HR : Hid (Det.may labels start nf next = false) := Lib.hid (by rw [Hm.out]; simp; intros; omega)
              clear Hm Hn
              go_enter Try.func27, Try.ntmps27
              go_wp2_with fail
              go_ret
              exact ⟨ret_bool HR.out.symm, rfl⟩
            · have d6 : decide ((nn : Int) ≤ start) = false := by simp; omega
              have HR : Hid (Det.may labels start nf next = !next.any (Det.badRow labels nn)) := Lib.hid (by rw [Hm.out]; simp; intros; omega)
              clear Hm
              go_enter Try.func27, Try.ntmps27
              go_wp2_with fail
              refine (contains1 _ _ (by rw [← Hnn.out]; exact hnl) Hsh.out _ labels an nn cn _ (by simp [World.cell?_alloc_new]) (by simp [World.cell?_alloc_new]) Hn.out).mono ?_
              rintro e w' ⟨rfl, rfl⟩
              clear Hn
              go_wp2_with fail
              go_ret
              exact ⟨ret_bool HR.out.symm, rfl⟩
end Go.Proofs.Ytjapakmpnkbemaa
