/- write.Text by its contract. -/
import Derived.Test.YtdpkhmfolmcejaaGreatDoorWEl
namespace Go.Proofs.YtdpkhmfolmcejaaGreatDoor
open Go.RowKit
namespace Xm
/-- an element's document, or nothing -/
def wtext (x : Nod) : ByteArray := if mayB x = true ∧ (docN x ⟨#[]⟩ []).length ≤ 200000 then str (docN x ⟨#[]⟩ []) else ⟨#[]⟩
theorem grow_bel {B : Nat} {w0 w w' : World} (hB : w0.heap.size ≤ B) (g : Flow.Grow w0 w) (h : Below B w w') : Flow.Grow w0 w' :=
  ⟨h.os.trans g.os, h.tape.trans g.tape, h.output.trans g.output, Nat.le_trans g.size h.size, fun i hi hne => (h.block i (by omega)).trans (g.block i hi hne)⟩
end Xm
set_option maxRecDepth 100000 in
set_option maxHeartbeats 2000000 in
theorem wtext_any (x : Xm.Nod) (F : Nat → Prop) (v : Value) (w : World) (hx : Xm.cnt x ≤ 1000000000) (hn : Xm.NodAt F w v x) (hs : Xm.Szd x) (hd : (Xm.docN x ⟨#[]⟩ []).length ≤ 100000000) :
    Calls Tryz.prog 6 #[v] w fun e w' => e = .returned (.string (Xm.wtext x)) ∧ Flow.Grow w w' := by
  obtain ⟨u0, u1, u4, a2, a3, n2, n3, c2, c3, rfl⟩ := hn.form
  simp only [Xm.V5.agg] at hn ⊢
  have HM := Lib.hid (fun w' (hg : Flow.Grow w w') => may_any x _ _ w' hx (hn.grow hg) hs)
  have Hx := Lib.hid hx
  have HN := Lib.hid (fun w' (hg : Flow.Grow w w') => hn.grow hg)
  have G1 : Hid (Flow.Grow w (w.alloc (.cells #[.string u0, .string u1, .slice a2 n2 c2, .slice a3 n3 c3, .string u4] 25))) := Lib.hid (Flow.grow_alloc _ _)
  have HX : Hid (Xm.RowN (w.alloc (.cells #[.string u0, .string u1, .slice a2 n2 c2, .slice a3 n3 c3, .string u4] 25)) w.heap.size #[.string u0, .string u1, .slice a2 n2 c2, .slice a3 n3 c3, .string u4]) := Lib.hid (heap_alloc_new _ _)
  have Hd := Lib.hid hd
  clear hx hn hs hd
  go_enter Tryz.func6, Tryz.ntmps6
  go_upto_region 1 with fail
  obtain ⟨X, hX⟩ : ∃ X, X = w.heap.size := ⟨_, rfl⟩
  rw [← hX] at HX ⊢
  clear hX
  generalize w.alloc (.cells #[.string u0, .string u1, .slice a2 n2 c2, .slice a3 n3 c3, .string u4] 25) = w1 at *
  have x0 := (cell_of_row w1 X 0 _ _ _ HX.out).trans rfl
  have x1 := (cell_of_row w1 X 1 _ _ _ HX.out).trans rfl
  have x2 := (cell_of_row w1 X 2 _ _ _ HX.out).trans rfl
  have x3 := (cell_of_row w1 X 3 _ _ _ HX.out).trans rfl
  have x4 := (cell_of_row w1 X 4 _ _ _ HX.out).trans rfl
  simp at x0 x1 x2 x3 x4
  cases hm : Xm.mayB x with
  | false =>
    have HF : Hid (Xm.wtext x = ⟨#[]⟩) := Lib.hid (by rw [Xm.wtext, if_neg (by rw [hm]; simp)])
    have Hm := Lib.hid hm
    clear hm
    go_wp2_with (go_at_call 9; refine (HM.out _ G1.out).mono ?_; rintro e w3 ⟨rfl, hg3⟩; rw [Hm.out])
    go_ret
    exact ⟨by rw [HF.out]; rfl, G1.out.trans hg3⟩
  | true =>
    have Hm := Lib.hid hm
    have HD : Hid (0 + Xm.dep x ≤ 100) := Lib.hid (by
      unfold Xm.mayB at hm
      simp only [Bool.and_eq_true, decide_eq_true_eq] at hm
      omega)
    have HW : Hid (Xm.wtext x = if (Xm.docN x ⟨#[]⟩ []).length ≤ 200000 then str (Xm.docN x ⟨#[]⟩ []) else ⟨#[]⟩) := Lib.hid (by rw [Xm.wtext, hm]; simp)
    clear hm
    go_upto_region 4 with (go_at_call 9; refine (HM.out _ G1.out).mono ?_; rintro e w2 ⟨rfl, hg2⟩; rw [Hm.out]; have G2 := Lib.hid (G1.out.trans hg2); have HR2 := Lib.hid (HX.out.grow hg2); clear hg2)
    clear x0 x1 x2 x3 x4
    have HB : Hid (Lib.IsBuilder 45 5 w2.heap.size w2.heap.size (Lib.byteCells []) (w2.alloc (.cells #[.pointer none, .slice none 0 0] 45))) := Lib.hid (Lib.fresh_isBuilder _ _ w2)
    have GB : Hid (Flow.Grow w2 (w2.alloc (.cells #[.pointer none, .slice none 0 0] 45))) := Lib.hid (Flow.grow_alloc _ _)
    obtain ⟨b, hb⟩ : ∃ b, b = w2.heap.size := ⟨_, rfl⟩
    have Hb := Lib.hid (show w2.heap.size ≤ b by omega)
    rw [← hb] at HB ⊢
    clear hb
    generalize w2.alloc (.cells #[.pointer none, .slice none 0 0] 45) = w3 at *
    have HR3 := Lib.hid (HR2.out.grow GB.out)
    have z0 := (cell_of_row w3 X 0 _ _ _ HR3.out).trans rfl
    have z1 := (cell_of_row w3 X 1 _ _ _ HR3.out).trans rfl
    have z2 := (cell_of_row w3 X 2 _ _ _ HR3.out).trans rfl
    have z3 := (cell_of_row w3 X 3 _ _ _ HR3.out).trans rfl
    have z4 := (cell_of_row w3 X 4 _ _ _ HR3.out).trans rfl
    simp at z0 z1 z2 z3 z4
    have Hb3 : Hid (b ≤ w3.heap.size) := Lib.hid (by rcases HB.out with h | h <;> exact Nat.le_of_lt h.lt)
    have HE : Hid (Calls Tryz.prog 15 #[.pointer (some ⟨b, 0, none⟩), .agg #[.string u0, .string u1, .slice a2 n2 c2, .slice a3 n3 c3, .string u4], .string ⟨#[]⟩, .int .i64 0] w3 fun e w' => e = .returned (.tuple #[]) ∧ Lib.IsBuilder 45 5 b b (Lib.byteCells (Xm.docN x ⟨#[]⟩ [])) w' ∧ Xm.Ws b b w3 w') := Lib.hid
      (element_any (Xm.cnt x) x _ _ ⟨#[]⟩ 0 [] b b w2 w3 (Nat.le_refl _) (HN.out _ G2.out) Hb.out GB.out Hb3.out HB.out (by have := Hd.out; simpa using this) HD.out)
    obtain ⟨D, hD⟩ : ∃ D, D = Xm.docN x ⟨#[]⟩ [] := ⟨_, rfl⟩
    rw [← hD] at HE HW
    clear hD
    by_cases hl : D.length ≤ 200000
    · have HF : Hid (Xm.wtext x = str D) := Lib.hid (by rw [HW.out, if_pos hl])
      have g1 : ¬ (200000 : Int) < (D.length : Int) := by omega
      clear hl
      go_wp2_with (first
        | (go_at_call 15; refine HE.out.mono ?_; rintro e w4 ⟨rfl, hbd4, hst4⟩; have B4 := Lib.hid hbd4; have G4 := Lib.hid (Xm.Ws.grow Hb.out GB.out hst4); have S4 := Lib.hid (Nat.le_trans Hb3.out hst4.1.size); clear hbd4 hst4)
        | (go_at_call 16; refine (Tryz.Builder_Len b b _ w4 B4.out).mono ?_; rintro e w5 ⟨rfl, rfl⟩; rw [Lib.byteCells_length])
        | (go_at_call 17; refine (builder_String_any b b _ _ B4.out S4.out).mono ?_; rintro e w6 ⟨rfl, hb6⟩))
      go_ret
      exact ⟨by rw [HF.out]; rfl, G2.out.trans (Xm.grow_bel Hb.out G4.out hb6)⟩
    · have HF : Hid (Xm.wtext x = ⟨#[]⟩) := Lib.hid (by rw [HW.out, if_neg hl])
      have g1 : (200000 : Int) < (D.length : Int) := by omega
      clear hl
      go_wp2_with (first
        | (go_at_call 15; refine HE.out.mono ?_; rintro e w4 ⟨rfl, hbd4, hst4⟩; have B4 := Lib.hid hbd4; have G4 := Lib.hid (Xm.Ws.grow Hb.out GB.out hst4); have S4 := Lib.hid (Nat.le_trans Hb3.out hst4.1.size); clear hbd4 hst4)
        | (go_at_call 16; refine (Tryz.Builder_Len b b _ w4 B4.out).mono ?_; rintro e w5 ⟨rfl, rfl⟩; rw [Lib.byteCells_length]))
      go_ret
      exact ⟨by rw [HF.out]; rfl, G2.out.trans G4.out⟩
end Go.Proofs.YtdpkhmfolmcejaaGreatDoor
