/- scan.Scanner: Next by its contract. -/
import Derived.Test.YtdpkhmfolmcejaaGreatDoorMSc
import Derived.StillTailTactics
namespace Go.Proofs.YtdpkhmfolmcejaaGreatDoor
open Go.RowKit
namespace Xm
def cdS : ByteArray := ⟨#[60, 33, 91, 67, 68, 65, 84, 65, 91]⟩
def cdE : ByteArray := ⟨#[93, 93, 62]⟩
def backS : ByteArray := ⟨#[60, 47]⟩
def ltS : ByteArray := ⟨#[60]⟩
/-- behind what says nothing -/
def asides (s : ByteArray) : Nat → P3 → P3
  | 0, p => p
  | n + 1, p => if p.e = 0 ∧ p.k < s.size ∧ asideB s p.k = true then asides s n (asideT s p.k p.bad) else p
/-- a piece -/
structure Pc where
  kind : Int
  name : ByteArray
  attrs : List (ByteArray × ByteArray)
  text : ByteArray
  at' : Int
def Pc.zero : Pc := ⟨0, ByteArray.empty, [], ByteArray.empty, 0⟩
def cdT (s : ByteArray) (k : Nat) (bad : Int) : Pc × P3 :=
  if farS s (k + 9) cdE < 0 then (⟨4, ByteArray.empty, [], ByteArray.empty, k⟩, wrong ⟨k + 9, 0, bad⟩ 3 (k + 9 : Nat))
  else (⟨4, ByteArray.empty, [], s.extract (k + 9) (k + 9 + (farS s (k + 9) cdE).toNat), k⟩,
    if 0 ≤ text (s.extract (k + 9) (k + 9 + (farS s (k + 9) cdE).toNat)) 0 then wrong ⟨k + 9 + (farS s (k + 9) cdE).toNat + 3, 0, bad⟩ 3 (k + 9 : Nat) else ⟨k + 9 + (farS s (k + 9) cdE).toNat + 3, 0, bad⟩)
def blanksT (s : ByteArray) (p : P3) : P3 := ⟨skip s p.k, p.e, p.bad⟩
def gtT (s : ByteArray) (p : P3) : P3 := if hasAt s p.k closeT = true then p else wrong p 3 p.k
def backT (s : ByteArray) (k : Nat) (bad : Int) : P3 :=
  ⟨(blanksT s (nameT s ⟨k + 2, 0, bad⟩)).k + 1, (gtT s (blanksT s (nameT s ⟨k + 2, 0, bad⟩))).e, (gtT s (blanksT s (nameT s ⟨k + 2, 0, bad⟩))).bad⟩
def runN (s : ByteArray) (k : Nat) : Nat := if far s k 60 < 0 then s.size - k else (far s k 60).toNat
def pieceOf (s : ByteArray) (k : Nat) (bad : Int) : Pc × P3 :=
  if hasAt s k cdS = true then cdT s k bad
  else if hasAt s k backS = true then (⟨2, nameS s (k + 2), [], ByteArray.empty, k⟩, backT s k bad)
  else if hasAt s k ltS = true then (⟨(tagR s ⟨k + 1, 0, bad⟩).1, nameS s (k + 1), (tagR s ⟨k + 1, 0, bad⟩).2.1, ByteArray.empty, k⟩, (tagR s ⟨k + 1, 0, bad⟩).2.2)
  else (⟨4, ByteArray.empty, [], opened (s.extract k (k + runN s k)), k⟩, openT ⟨k + runN s k, 0, bad⟩ (s.extract k (k + runN s k)) k)
def nextR (s : ByteArray) (p : P3) : Pc × P3 :=
  if (asides s (s.size + 1) p).e ≠ 0 ∨ s.size ≤ (asides s (s.size + 1) p).k then (Pc.zero, asides s (s.size + 1) p)
  else if (pieceOf s (asides s (s.size + 1) p).k (asides s (s.size + 1) p).bad).2.e ≠ 0 then (Pc.zero, (pieceOf s (asides s (s.size + 1) p).k (asides s (s.size + 1) p).bad).2)
  else pieceOf s (asides s (s.size + 1) p).k (asides s (s.size + 1) p).bad
theorem asideT_bd {s : ByteArray} {k : Nat} {bad : Int} (hk : k ≤ s.size) (h : asideB s k = true) : k < (asideT s k bad).k ∧ (asideT s k bad).k ≤ s.size := by
  have side : ∀ (k1 : Nat) (en : ByteArray) (two : Bool), k < k1 → k1 ≤ s.size → k < (sideT s k k1 en two bad).k ∧ (sideT s k k1 en two bad).k ≤ s.size := by
    intro k1 en two h1 h2
    have hf := farS_bd h2 en
    unfold sideT
    split
    · exact ⟨h1, h2⟩
    · rename_i h0
      have := hf.2 (by omega)
      split
      · show k < k1 + _ + _ ∧ k1 + _ + _ ≤ _; omega
      · split
        · show k < k1 + _ + _ ∧ k1 + _ + _ ≤ _; omega
        · show k < k1 + _ + _ ∧ k1 + _ + _ ≤ _; omega
  unfold asideT
  split
  · rename_i hc
    have := hasAt_bd hk hc
    exact side _ _ _ (by omega) this
  · rename_i hc
    split
    · rename_i hi
      have := hasAt_bd hk hi
      exact side _ _ _ (by omega) this
    · rename_i hi
      exfalso
      simp only [asideB] at h
      rw [Bool.not_eq_true] at hc hi
      rw [hc, hi] at h
      cases h
theorem asideT_no {s : ByteArray} {k : Nat} {bad : Int} (h : asideB s k = false) : asideT s k bad = ⟨k, 0, bad⟩ := by
  simp only [asideB, Bool.or_eq_false_iff] at h
  unfold asideT
  rw [h.1, h.2]; rfl
/-- a piece as a value -/
def Pc.cells (x : Pc) (va : Value) : Array Value := #[.int .i64 x.kind, .string x.name, va, .string x.text, .int .i64 x.at']
def NextPost (w : World) (b : Nat) (s : ByteArray) (p : P3) (r : Ending) (w' : World) : Prop :=
  ∃ va, r = .returned (.agg ((nextR s p).1.cells va)) ∧ AttrsAt w' va (nextR s p).1.attrs ∧ Fresh w va ∧ Scs w' b s (nextR s p).2 ∧ Mv w b w'
def Zr (w : World) (q : Nat) : Prop := Row5 w q #[.int .i64 0, .string ⟨#[]⟩, .slice none 0 0, .string ⟨#[]⟩, .int .i64 0]
end Xm
theorem next_res (tmps : Array Value) (w : World) (R : Nat) (cs : Array Value) (hp : tmps.getD 2 undef = .pointer (some ⟨R, 0, none⟩)) (hg : Xm.Row5 w R cs) (hc : cs.size = 5) :
    (results Tryz.f47 tmps).run Tryz.prog w = .ok (.agg cs) w :=
  results_cell_row (by kernel_rfl) tmps w R _ _ _ _ hp hg Tryz.underlying82 rfl (by rw [hc]; kernel_rfl)
theorem next_zero {w wr : World} {b R : Nat} {s : ByteArray} {p st : Xm.P3} {v0 v1 v2 v3 v4 : Value} (hE : Xm.nextR s p = (Xm.Pc.zero, st)) (hS : Xm.Scs wr b s st) (hM : Xm.Mv w b wr) (hb : b ≠ R) (hRw : w.heap.size ≤ R) :
    Xm.NextPost w b s p (.returned (.agg #[.int .i64 0, .string ByteArray.empty, .slice none 0 0, .string ByteArray.empty, .int .i64 0])) (((((wr.setCell ⟨R, 0, none⟩ v0).setCell ⟨R, 1, none⟩ v1).setCell ⟨R, 2, none⟩ v2).setCell ⟨R, 3, none⟩ v3).setCell ⟨R, 4, none⟩ v4) := by
  refine ⟨.slice none 0 0, by rw [hE]; rfl, by rw [hE]; exact .inl ⟨rfl, rfl⟩, fun q _ => by simp [Value.ownBlock], by rw [hE]; exact Xm.Sc.other (Xm.Sc.other (Xm.Sc.other (Xm.Sc.other (Xm.Sc.other hS hb) hb) hb) hb) hb, ((((hM.setNew hRw).setNew hRw).setNew hRw).setNew hRw).setNew hRw⟩
theorem next_fin {w wr : World} {b R : Nat} {s nm tx : ByteArray} {K a : Int} {l : List (ByteArray × ByteArray)} {p st : Xm.P3} {va v0 v1 v2 v3 v4 : Value} (hE : Xm.nextR s p = (⟨K, nm, l, tx, a⟩, st)) (hA : Xm.AttrsAt wr va l) (hF : Xm.Fresh w va) (hn : va.ownBlock ≠ some R) (hS : Xm.Scs wr b s st) (hM : Xm.Mv w b wr) (hb : b ≠ R) (hRw : w.heap.size ≤ R) :
    Xm.NextPost w b s p (.returned (.agg #[.int .i64 K, .string nm, va, .string tx, .int .i64 a])) (((((wr.setCell ⟨R, 0, none⟩ v0).setCell ⟨R, 1, none⟩ v1).setCell ⟨R, 2, none⟩ v2).setCell ⟨R, 3, none⟩ v3).setCell ⟨R, 4, none⟩ v4) := by
  refine ⟨va, by rw [hE]; rfl, by rw [hE]; exact (((((hA.set hn).set hn).set hn).set hn).set hn), hF, by rw [hE]; exact Xm.Sc.other (Xm.Sc.other (Xm.Sc.other (Xm.Sc.other (Xm.Sc.other hS hb) hb) hb) hb) hb, ((((hM.setNew hRw).setNew hRw).setNew hRw).setNew hRw).setNew hRw⟩
theorem ibyte_quiet (s : ByteArray) (c n : Int) (w : World) (hn : Lib.indexByte s.data.toList c.toNat.toUInt8 = n) : Calls Tryz.prog 71 #[.string s, .int .u8 c] w fun e w' => e = .returned (.int .i64 n) ∧ w' = w :=
  (ibyte_any s c w).mono fun _ _ ⟨h1, h2⟩ => ⟨by rw [h1, hn], h2.symm⟩

set_option maxRecDepth 100000 in
set_option maxHeartbeats 8000000 in
theorem next_T (b : Nat) (s : ByteArray) (p : Xm.P3) (w : World) (h : Xm.Scs w b s p) (hk : p.k ≤ s.size) (hs : s.size ≤ 900000000) (hT : Xm.Tab w) (hm : Xm.Max w) (hb1 : 1 < b) :
    Calls Tryz.prog 47 #[.pointer (some ⟨b, 0, none⟩)] w (Xm.NextPost w b s p) := by
  have HS := Lib.hid h
  have HT := Lib.hid hT
  have HM := Lib.hid hm
  have hbw : b < w.heap.size := (h : Xm.Sc w b s p.k p.e p.bad).lt
  have Hbw := Lib.hid hbw
  obtain ⟨st0, hst0⟩ : ∃ x, x = Xm.asides s (s.size + 1) p := ⟨_, rfl⟩
  have HR : Hid (Xm.nextR s p = if st0.e ≠ 0 ∨ s.size ≤ st0.k then (Xm.Pc.zero, st0) else if (Xm.pieceOf s st0.k st0.bad).2.e ≠ 0 then (Xm.Pc.zero, (Xm.pieceOf s st0.k st0.bad).2) else Xm.pieceOf s st0.k st0.bad) := Lib.hid (by rw [hst0]; rfl)
  have Hst0 := Lib.hid hst0
  clear h hT hm hbw hst0
  go_enter Tryz.func47, Tryz.ntmps47
  go_upto_region 3 with fail
  have HS0 : Hid (Xm.Scs (w.alloc (.cells #[.int .i64 0, .string ⟨#[]⟩, .slice none 0 0, .string ⟨#[]⟩, .int .i64 0] 82)) b s p) := Lib.hid (Xm.Sc.grow HS.out (Flow.grow_alloc _ _))
  have HR0 : Hid (Xm.Zr (w.alloc (.cells #[.int .i64 0, .string ⟨#[]⟩, .slice none 0 0, .string ⟨#[]⟩, .int .i64 0] 82)) w.heap.size) := Lib.hid (heap_alloc_new _ _)
  have HM0 : Hid (Xm.Mv w b (w.alloc (.cells #[.int .i64 0, .string ⟨#[]⟩, .slice none 0 0, .string ⟨#[]⟩, .int .i64 0] 82))) := Lib.hid (Xm.Mv.of b (Flow.grow_alloc _ _))
  have HBs : Hid ((w.alloc (.cells #[.int .i64 0, .string ⟨#[]⟩, .slice none 0 0, .string ⟨#[]⟩, .int .i64 0] 82)).heap.size = w.heap.size + 1) := Lib.hid (by simp)
  obtain ⟨B, hB⟩ : ∃ B, B = w.heap.size := ⟨_, rfl⟩
  rw [← hB] at HR0 HBs Hbw ⊢
  have HB := Lib.hid hB
  clear hB
  generalize w.alloc (.cells #[.int .i64 0, .string ⟨#[]⟩, .slice none 0 0, .string ⟨#[]⟩, .int .i64 0] 82) = w0 at *
  have HbR := Lib.hid (show B ≠ b by have := Hbw.out; omega)
  have HbR' := Lib.hid (Ne.symm HbR.out)
  have hv0 := (HS0.out : Xm.Sc w0 b s p.k p.e p.bad).c.2.1
  go_loopw [33] (fun _ wr => ∃ (st : Xm.P3) (n : Nat), st.k ≤ s.size ∧ wr.cell? ⟨b, 1, none⟩ = some (.int .i64 st.k) ∧ s.size - st.k < n ∧ Hid (Xm.Scs wr b s st) ∧ Hid (Xm.Mv w b wr) ∧ Hid (Xm.Zr wr B) ∧ Hid (B + 1 ≤ wr.heap.size) ∧ Hid (st0 = Xm.asides s n st)) (fun _ wr => match wr.cell? ⟨b, 1, none⟩ with | some (.int _ j) => s.size - j.toNat | _ => 0)
  case atStart => exact ⟨p, s.size + 1, hk, hv0, by omega, HS0, HM0, HR0, Lib.hid (Nat.le_of_eq HBs.out.symm), Hst0⟩
  case round =>
    obtain ⟨st, n, hkk, c1, hn, HSr, HMr, HRr, HZr, HAr⟩ := hrel
    rename World => wr
    obtain ⟨k, e, bad⟩ := st
    have hkk : k ≤ s.size := hkk
    have c1 : wr.cell? ⟨b, 1, none⟩ = some (.int .i64 k) := c1
    have hn : s.size - k < n := hn
    obtain ⟨n, rfl⟩ : ∃ m, n = m + 1 := ⟨n - 1, by omega⟩
    have HSr : Hid (Xm.Sc wr b s k e bad) := HSr
    have c0 := HSr.out.c.1
    have c2 := HSr.out.c.2.2.1
    clear HS0 HR0 HM0 hv0 HBs Hst0
    by_cases he : e = 0
    rotate_left
    · have HE : Hid (Xm.nextR s p = (Xm.Pc.zero, ⟨k, e, bad⟩)) := Lib.hid (by
        have h1 : st0 = ⟨k, e, bad⟩ := by rw [HAr.out, Xm.asides, if_neg (by simp [he])]
        rw [HR.out, h1, if_pos (.inl he)])
      have hd : decide (e = 0) = false := by simpa using he
      have hd2 : (e == 0) = false := by simpa using he
      have hd3 : (e != 0) = true := by simpa using he
      clear he HAr HR
      go_wp2_with fail
      go_quiet (fail)
      have HS1 : Hid (Xm.Sc (wr.drewN nq) b s k e bad) := Lib.hid (Xm.Sc.grow HSr.out (Flow.grow_drewN _ _))
      have HR1 : Hid (Xm.Zr (wr.drewN nq) B) := Lib.hid (Xm.Row5.grow HRr.out (Flow.grow_drewN _ _))
      have HM1 : Hid (Xm.Mv w b (wr.drewN nq)) := Lib.hid (HMr.out.trans Xm.Mv.drew)
      clear c0 c1 c2 HSr HRr HMr HZr
      generalize wr.drewN nq = w1 at *
      have c0 := HS1.out.c.1
      have c1 := HS1.out.c.2.1
      have c2 := HS1.out.c.2.2.1
      go_wp2_with fail
      go_quiet (fail)
      have HS2 : Hid (Xm.Scs (w1.drewN nq) b s ⟨k, e, bad⟩) := Lib.hid (Xm.Sc.grow HS1.out (Flow.grow_drewN _ _))
      have HR2 : Hid (Xm.Zr (w1.drewN nq) B) := Lib.hid (Xm.Row5.grow HR1.out (Flow.grow_drewN _ _))
      have HM2 : Hid (Xm.Mv w b (w1.drewN nq)) := Lib.hid (HM1.out.trans Xm.Mv.drew)
      clear c0 c1 c2 HS1 HR1 HM1
      generalize w1.drewN nq = w2 at *
      have hz : Xm.Row5 w2 B #[.int .i64 0, .string ⟨#[]⟩, .slice none 0 0, .string ⟨#[]⟩, .int .i64 0] := HR2.out
      have Hz := Lib.hid hz
      clear hz
      have r0 := (cell_of_row w2 (B) 0 _ _ _ Hz.out).trans rfl
      have rf0 : w2.frozen? ⟨B, 0, none⟩ = false := frozen_of_row w2 (B) _ _ _ Hz.out
      have r1 := (cell_of_row w2 (B) 1 _ _ _ Hz.out).trans rfl
      have rf1 : w2.frozen? ⟨B, 1, none⟩ = false := frozen_of_row w2 (B) _ _ _ Hz.out
      have r2 := (cell_of_row w2 (B) 2 _ _ _ Hz.out).trans rfl
      have rf2 : w2.frozen? ⟨B, 2, none⟩ = false := frozen_of_row w2 (B) _ _ _ Hz.out
      have r3 := (cell_of_row w2 (B) 3 _ _ _ Hz.out).trans rfl
      have rf3 : w2.frozen? ⟨B, 3, none⟩ = false := frozen_of_row w2 (B) _ _ _ Hz.out
      have r4 := (cell_of_row w2 (B) 4 _ _ _ Hz.out).trans rfl
      have rf4 : w2.frozen? ⟨B, 4, none⟩ = false := frozen_of_row w2 (B) _ _ _ Hz.out
      go_wp2
      (try simp only [Exit.inBlock, Exit.then])
      exact bodyPost_ret (next_res _ _ B _ rfl (set5 Hz.out _ _ _ _ _) rfl) rfl (next_zero HE.out HS2.out HM2.out HbR'.out (by have := HB.out; omega))
    subst he
    by_cases hks : k < s.size
    rotate_left
    · have HE : Hid (Xm.nextR s p = (Xm.Pc.zero, ⟨k, 0, bad⟩)) := Lib.hid (by
        have h1 : st0 = ⟨k, 0, bad⟩ := by rw [HAr.out, Xm.asides, if_neg (by simp; omega)]
        rw [HR.out, h1, if_pos (.inr (by show s.size ≤ k; omega))])
      have hd : decide ((k : Int) < (s.size : Int)) = false := by simp; omega
      have hd' : decide (k < s.size) = false := by simp; omega
      have hd2 : decide ((s.size : Int) ≤ (k : Int)) = true := by simp; omega
      have hd2' : decide (s.size ≤ k) = true := by simp; omega
      clear HAr HR hks hkk
      go_wp2_with fail
      go_quiet (fail)
      have HS1 : Hid (Xm.Sc (wr.drewN nq) b s k 0 bad) := Lib.hid (Xm.Sc.grow HSr.out (Flow.grow_drewN _ _))
      have HR1 : Hid (Xm.Zr (wr.drewN nq) B) := Lib.hid (Xm.Row5.grow HRr.out (Flow.grow_drewN _ _))
      have HM1 : Hid (Xm.Mv w b (wr.drewN nq)) := Lib.hid (HMr.out.trans Xm.Mv.drew)
      clear c0 c1 c2 HSr HRr HMr HZr
      generalize wr.drewN nq = w1 at *
      have c0 := HS1.out.c.1
      have c1 := HS1.out.c.2.1
      have c2 := HS1.out.c.2.2.1
      go_wp2_with fail
      go_quiet (fail)
      have HS2 : Hid (Xm.Scs (w1.drewN nq) b s ⟨k, 0, bad⟩) := Lib.hid (Xm.Sc.grow HS1.out (Flow.grow_drewN _ _))
      have HR2 : Hid (Xm.Zr (w1.drewN nq) B) := Lib.hid (Xm.Row5.grow HR1.out (Flow.grow_drewN _ _))
      have HM2 : Hid (Xm.Mv w b (w1.drewN nq)) := Lib.hid (HM1.out.trans Xm.Mv.drew)
      clear c0 c1 c2 HS1 HR1 HM1
      generalize w1.drewN nq = w2 at *
      have hz : Xm.Row5 w2 B #[.int .i64 0, .string ⟨#[]⟩, .slice none 0 0, .string ⟨#[]⟩, .int .i64 0] := HR2.out
      have Hz := Lib.hid hz
      clear hz
      have r0 := (cell_of_row w2 (B) 0 _ _ _ Hz.out).trans rfl
      have rf0 : w2.frozen? ⟨B, 0, none⟩ = false := frozen_of_row w2 (B) _ _ _ Hz.out
      have r1 := (cell_of_row w2 (B) 1 _ _ _ Hz.out).trans rfl
      have rf1 : w2.frozen? ⟨B, 1, none⟩ = false := frozen_of_row w2 (B) _ _ _ Hz.out
      have r2 := (cell_of_row w2 (B) 2 _ _ _ Hz.out).trans rfl
      have rf2 : w2.frozen? ⟨B, 2, none⟩ = false := frozen_of_row w2 (B) _ _ _ Hz.out
      have r3 := (cell_of_row w2 (B) 3 _ _ _ Hz.out).trans rfl
      have rf3 : w2.frozen? ⟨B, 3, none⟩ = false := frozen_of_row w2 (B) _ _ _ Hz.out
      have r4 := (cell_of_row w2 (B) 4 _ _ _ Hz.out).trans rfl
      have rf4 : w2.frozen? ⟨B, 4, none⟩ = false := frozen_of_row w2 (B) _ _ _ Hz.out
      go_wp2
      (try simp only [Exit.inBlock, Exit.then])
      exact bodyPost_ret (next_res _ _ B _ rfl (set5 Hz.out _ _ _ _ _) rfl) rfl (next_zero HE.out HS2.out HM2.out HbR'.out (by have := HB.out; omega))
    have hd : decide ((k : Int) < (s.size : Int)) = true := by simp; omega
    have HTb : Hid (Xm.Max wr) := Lib.hid (HM.out.mv HMr.out hb1)
    go_wp2_with fail
    go_still_tail 19, (by kernel_rfl)
    change wpList _ _ _ _ _ (wr.drewN 1)
    have HSd : Hid (Xm.Sc (wr.drewN 1) b s k 0 bad) := Lib.hid (Xm.Sc.grow HSr.out (Flow.grow_drewN _ _))
    have HRd : Hid (Xm.Zr (wr.drewN 1) B) := Lib.hid (Xm.Row5.grow HRr.out (Flow.grow_drewN _ _))
    have HMd : Hid (Xm.Mv w b (wr.drewN 1)) := Lib.hid (HMr.out.trans Xm.Mv.drew)
    have HZd : Hid (B + 1 ≤ (wr.drewN 1).heap.size) := Lib.hid (Nat.le_trans HZr.out (Flow.grow_drewN wr 1).size)
    have HXd : Hid (Xm.Max (wr.drewN 1)) := Lib.hid (HTb.out.grow (Flow.grow_drewN _ _))
    have Hc1 := Lib.hid c1
    clear c0 c1 c2 HSr HRr HMr HZr HTb
    generalize wr.drewN 1 = wd at *
    cases hab : Xm.asideB s k
    rotate_left
    · have HE : Hid (st0 = Xm.asides s n (Xm.asideT s k bad)) := Lib.hid (by rw [HAr.out, Xm.asides, if_pos ⟨rfl, hks, hab⟩])
      have hbd := Xm.asideT_bd (bad := bad) (Nat.le_of_lt hks) hab
      have hab' := Lib.hid hab
      clear HAr hab
      go_wp2_with (go_at_call 65; refine (aside_T b s k bad wd HSd.out hkk hs HXd.out hb1).mono ?_; rintro e w1 ⟨rfl, hs1, hm1⟩; rw [hab'.out])
      have hc2 := (hs1 : Xm.Sc w1 b s _ _ _).c.2.1
      go_roundw
      case rel => exact ⟨Xm.asideT s k bad, n, hbd.2, hc2, by omega, Lib.hid hs1, Lib.hid (HMd.out.trans hm1), Lib.hid (Xm.Row5.mv HRd.out hm1 HbR.out), Lib.hid (Nat.le_trans HZd.out hm1.size), HE⟩
      case measure => simp only [hc2, Hc1.out]; omega
    have HA0 : Hid (st0 = ⟨k, 0, bad⟩) := Lib.hid (by rw [HAr.out, Xm.asides, if_neg (by simp [hab])])
    have HP : Hid (Xm.nextR s p = if (Xm.pieceOf s k bad).2.e ≠ 0 then (Xm.Pc.zero, (Xm.pieceOf s k bad).2) else Xm.pieceOf s k bad) := Lib.hid (by rw [HR.out, HA0.out, if_neg (by simp; omega)])
    have hab' := Lib.hid hab
    have HTn : Hid (Xm.asideT s k bad = ⟨k, 0, bad⟩) := Lib.hid (Xm.asideT_no hab)
    have hd2 : decide ((s.size : Int) ≤ (k : Int)) = false := by simp; omega
    have hd2' : decide (s.size ≤ k) = false := by simp; omega
    have Hks := Lib.hid hks
    have HZZ := HZd
    clear HAr hab hks hd HA0 HR Hc1
    go_wp2_with (go_at_call 65; refine (aside_T b s k bad wd HSd.out hkk hs HXd.out hb1).mono ?_; rintro e w1 ⟨rfl, hs1, hm1⟩; rw [HTn.out] at hs1; rw [hab'.out])
    have HS1 : Hid (Xm.Sc w1 b s k 0 bad) := Lib.hid hs1
    have HR1 : Hid (Xm.Zr w1 B) := Lib.hid (Xm.Row5.mv HRd.out hm1 HbR.out)
    have HM1 : Hid (Xm.Mv w b w1) := Lib.hid (HMd.out.trans hm1)
    have HZ1 : Hid (B + 1 ≤ w1.heap.size) := Lib.hid (Nat.le_trans HZd.out hm1.size)
    clear hs1 hm1 HSd HRd HMd HZd HXd HZZ
    have c0 := HS1.out.c.1
    have c1 := HS1.out.c.2.1
    have c2 := HS1.out.c.2.2.1
    go_wp2_with fail
    go_quiet (fail)
    have HS2 : Hid (Xm.Sc (w1.drewN nq) b s k 0 bad) := Lib.hid (Xm.Sc.grow HS1.out (Flow.grow_drewN _ _))
    have HR2 : Hid (Xm.Zr (w1.drewN nq) B) := Lib.hid (Xm.Row5.grow HR1.out (Flow.grow_drewN _ _))
    have HM2 : Hid (Xm.Mv w b (w1.drewN nq)) := Lib.hid (HM1.out.trans Xm.Mv.drew)
    have HZ2 : Hid (B + 1 ≤ (w1.drewN nq).heap.size) := Lib.hid (Nat.le_trans HZ1.out (Flow.grow_drewN w1 nq).size)
    clear c0 c1 c2 HS1 HR1 HM1 HZ1 hd2 hd2'
    generalize w1.drewN nq = w2 at *
    have c0 := HS2.out.c.1
    have c1 := HS2.out.c.2.1
    have c2 := HS2.out.c.2.2.1
    go_upto_region 13 with fail
    have HS3 : Hid (Xm.Sc (w2.alloc (.cells #[.int .i64 0, .string ⟨#[]⟩, .slice none 0 0, .string ⟨#[]⟩, .int .i64 k] 82)) b s k 0 bad) := Lib.hid (Xm.Sc.grow HS2.out (Flow.grow_alloc _ _))
    have HR3 : Hid (Xm.Zr (w2.alloc (.cells #[.int .i64 0, .string ⟨#[]⟩, .slice none 0 0, .string ⟨#[]⟩, .int .i64 k] 82)) B) := Lib.hid (Xm.Row5.grow HR2.out (Flow.grow_alloc _ _))
    have HM3 : Hid (Xm.Mv w b (w2.alloc (.cells #[.int .i64 0, .string ⟨#[]⟩, .slice none 0 0, .string ⟨#[]⟩, .int .i64 k] 82))) := Lib.hid (HM2.out.alloc _)
    have HP3 : Hid (Xm.Row5 (w2.alloc (.cells #[.int .i64 0, .string ⟨#[]⟩, .slice none 0 0, .string ⟨#[]⟩, .int .i64 k] 82)) w2.heap.size #[.int .i64 0, .string ⟨#[]⟩, .slice none 0 0, .string ⟨#[]⟩, .int .i64 k]) := Lib.hid (heap_alloc_new _ _)
    have HAB : Hid (B + 1 ≤ w2.heap.size) := HZ2
    obtain ⟨A, hA⟩ : ∃ A, A = w2.heap.size := ⟨_, rfl⟩
    rw [← hA] at HP3 HAB ⊢
    clear hA c0 c1 c2 HS2 HR2 HM2 HZ2
    generalize w2.alloc (.cells #[.int .i64 0, .string ⟨#[]⟩, .slice none 0 0, .string ⟨#[]⟩, .int .i64 k] 82) = w3 at *
    have HAb := Lib.hid (show A ≠ b by have := HAB.out; have := Hbw.out; omega)
    have HAb' := Lib.hid (Ne.symm HAb.out)
    have HBA := Lib.hid (show B ≠ A by have := HAB.out; omega)
    have HTb : Hid (Xm.Tab w3) := Lib.hid (HT.out.mv HM3.out hb1)
    have HXb : Hid (Xm.Max w3) := Lib.hid (HM.out.mv HM3.out hb1)
    cases hcd : Xm.hasAt s k ⟨#[60, 33, 91, 67, 68, 65, 84, 65, 91]⟩
    rotate_left
    · have hkd : k + 9 ≤ s.size := Xm.hasAt_bd hkk hcd
      have HCD := Lib.hid hcd
      clear hcd
      have c1 := HS3.out.c.2.1
      have f1 := HS3.out.c.2.2.2.2.1
      go_upto_region 15 with (go_at_call 66; refine (has_any _ _ _ _ _ _ _ HS3.out hkk (by omega)).mono ?_; rintro e w9 ⟨rfl, m, rfl⟩; rw [HCD.out])
      have HS4 : Hid (Xm.Sc ((w3.drewN m).setCell ⟨b, 1, none⟩ (.int .i64 ((k : Int) + 9))) b s ((k + 9 : Nat) : Int) 0 bad) := Lib.hid (Xm.Sc.at' (Xm.Sc.grow HS3.out (Flow.grow_drewN w3 m)) _)
      have HR4 : Hid (Xm.Zr ((w3.drewN m).setCell ⟨b, 1, none⟩ (.int .i64 ((k : Int) + 9))) B) := Lib.hid (Xm.Row5.other (Xm.Row5.grow HR3.out (Flow.grow_drewN w3 m)) HbR.out)
      have HP4 : Hid (Xm.Row5 ((w3.drewN m).setCell ⟨b, 1, none⟩ (.int .i64 ((k : Int) + 9))) A #[.int .i64 0, .string ⟨#[]⟩, .slice none 0 0, .string ⟨#[]⟩, .int .i64 k]) := Lib.hid (Xm.Row5.other (Xm.Row5.grow HP3.out (Flow.grow_drewN w3 m)) HAb.out)
      have HM4 : Hid (Xm.Mv w b ((w3.drewN m).setCell ⟨b, 1, none⟩ (.int .i64 ((k : Int) + 9)))) := Lib.hid ((HM3.out.trans Xm.Mv.drew).trans Xm.Mv.set)
      clear HS3 HR3 HP3 HM3 HTb HXb
      (try clear c1 f1)
      generalize (w3.drewN m).setCell ⟨b, 1, none⟩ (.int .i64 ((k : Int) + 9)) = w4 at *
      have HTb : Hid (Xm.Tab w4) := Lib.hid (HT.out.mv HM4.out hb1)
      have HXb : Hid (Xm.Max w4) := Lib.hid (HM.out.mv HM4.out hb1)
      have HCD' : Hid (Xm.hasAt s k Xm.cdS = true) := HCD
      have c1 := HS4.out.c.2.1
      by_cases hf : Xm.farS s (k + 9) Xm.cdE < 0
      · have HF := Lib.hid hf
        have HQ : Hid (Xm.pieceOf s k bad = (⟨4, ByteArray.empty, [], ByteArray.empty, k⟩, Xm.wrong ⟨k + 9, 0, bad⟩ 3 (k + 9 : Nat))) := Lib.hid (by rw [Xm.pieceOf, if_pos HCD'.out, Xm.cdT, if_pos hf])
        clear hf
        have hbA : ¬ b = A := HAb'.out
        go_upto_region 20 with (first | (go_at_call 67; refine (until_any b s Xm.cdE (k + 9) 0 bad w4 HS4.out (by omega) (by omega) (by decide) HXb.out).mono ?_; rintro e w5 ⟨hyes, -⟩; obtain ⟨rfl, hs5, hm5⟩ := hyes HF.out; clear hyes) | (go_at_call 54; refine (ctext_any _ _ (by decide)).mono ?_; rintro e w9 ⟨rfl, rfl⟩) | (go_at_call 31; refine (wrong_any _ _ _ _ _ 3 _ _ hs5 (by decide)).mono ?_; rintro e w6 ⟨rfl, hs6, hm6⟩))
        have HPx : Hid (Xm.Row5 w6 A #[.int .i64 0, .string ⟨#[]⟩, .slice none 0 0, .string ⟨#[]⟩, .int .i64 k]) := Lib.hid (Xm.Row5.mv HP4.out (hm5.trans hm6) HAb.out)
        have pf0 : w6.frozen? ⟨A, 0, none⟩ = false := frozen_of_row w6 A _ _ _ HPx.out
        have pf3 : w6.frozen? ⟨A, 3, none⟩ = false := frozen_of_row w6 A _ _ _ HPx.out
        have p0 := (cell_of_row w6 A 0 _ _ _ HPx.out).trans rfl
        have p3 := (cell_of_row w6 A 3 _ _ _ HPx.out).trans rfl
        go_upto_region 31 with fail
        have HSf : Hid (Xm.Scs ((w6.setCell ⟨A, 0, none⟩ (.int .i64 4)).setCell ⟨A, 3, none⟩ (.string ByteArray.empty)) b s (Xm.wrong ⟨k + 9, 0, bad⟩ 3 (k + 9 : Nat))) := Lib.hid (Xm.Sc.other (Xm.Sc.other hs6 HAb'.out) HAb'.out)
        have HRf : Hid (Xm.Zr ((w6.setCell ⟨A, 0, none⟩ (.int .i64 4)).setCell ⟨A, 3, none⟩ (.string ByteArray.empty)) B) := Lib.hid (Xm.Row5.other (Xm.Row5.other (Xm.Row5.mv HR4.out (hm5.trans hm6) HbR.out) HBA.out) HBA.out)
        have HMf : Hid (Xm.Mv w b ((w6.setCell ⟨A, 0, none⟩ (.int .i64 4)).setCell ⟨A, 3, none⟩ (.string ByteArray.empty))) := Lib.hid (((HM4.out.trans (hm5.trans hm6)).setNew (by have := HAB.out; have := HB.out; omega)).setNew (by have := HAB.out; have := HB.out; omega))
        have HPf : Hid (Xm.Row5 ((w6.setCell ⟨A, 0, none⟩ (.int .i64 4)).setCell ⟨A, 3, none⟩ (.string ByteArray.empty)) A #[.int .i64 4, .string ⟨#[]⟩, .slice none 0 0, .string ByteArray.empty, .int .i64 k]) := Lib.hid ((Xm.Row5.set HPx.out 0 (.int .i64 4)).set 3 (.string ByteArray.empty))
        clear pf0 pf3 p0 p3 HPx HS4 HR4 HP4 HM4 HTb HXb
        (try clear c1)
        generalize (w6.setCell ⟨A, 0, none⟩ (.int .i64 4)).setCell ⟨A, 3, none⟩ (.string ByteArray.empty) = wf at *
        obtain ⟨q, hqe⟩ : ∃ q, q = (Xm.pieceOf s k bad).2 := ⟨_, rfl⟩
        have HSq : Hid (Xm.Sc wf b s q.k q.e q.bad) := Lib.hid (by rw [hqe, HQ.out]; exact HSf.out)
        have HQe := Lib.hid hqe
        clear hqe
        have hz : Xm.Row5 wf B #[.int .i64 0, .string ⟨#[]⟩, .slice none 0 0, .string ⟨#[]⟩, .int .i64 0] := HRf.out
        have Hz := Lib.hid hz
        clear hz
        have r0 := (cell_of_row wf (B) 0 _ _ _ Hz.out).trans rfl
        have rf0 : wf.frozen? ⟨B, 0, none⟩ = false := frozen_of_row wf (B) _ _ _ Hz.out
        have r1 := (cell_of_row wf (B) 1 _ _ _ Hz.out).trans rfl
        have rf1 : wf.frozen? ⟨B, 1, none⟩ = false := frozen_of_row wf (B) _ _ _ Hz.out
        have r2 := (cell_of_row wf (B) 2 _ _ _ Hz.out).trans rfl
        have rf2 : wf.frozen? ⟨B, 2, none⟩ = false := frozen_of_row wf (B) _ _ _ Hz.out
        have r3 := (cell_of_row wf (B) 3 _ _ _ Hz.out).trans rfl
        have rf3 : wf.frozen? ⟨B, 3, none⟩ = false := frozen_of_row wf (B) _ _ _ Hz.out
        have r4 := (cell_of_row wf (B) 4 _ _ _ Hz.out).trans rfl
        have rf4 : wf.frozen? ⟨B, 4, none⟩ = false := frozen_of_row wf (B) _ _ _ Hz.out
        have c2 := HSq.out.c.2.2.1
        by_cases hqz : q.e = 0
        · have g : (q.e != 0) = false := by simpa using hqz
          have HE : Hid (Xm.nextR s p = (Xm.pieceOf s k bad)) := Lib.hid (by rw [HP.out, ← HQe.out, if_neg (by simpa using hqz)])
          have p0 := (cell_of_row wf A 0 _ _ _ HPf.out).trans rfl
          have p1 := (cell_of_row wf A 1 _ _ _ HPf.out).trans rfl
          have p2 := (cell_of_row wf A 2 _ _ _ HPf.out).trans rfl
          have p3 := (cell_of_row wf A 3 _ _ _ HPf.out).trans rfl
          have p4 := (cell_of_row wf A 4 _ _ _ HPf.out).trans rfl
          have hne : ¬ A = B := Ne.symm HBA.out
          have hne' : ¬ B = A := HBA.out
          clear hqz
          go_wp2
          (try simp only [Exit.inBlock, Exit.then])
          first
          | exact bodyPost_end (next_res _ _ B _ rfl (set5 Hz.out _ _ _ _ _) rfl) rfl (next_fin (HE.out.trans HQ.out) (.inl ⟨rfl, rfl⟩) (fun q _ => by simp [Value.ownBlock]) (by simp [Value.ownBlock]) HSf.out HMf.out HbR'.out (by have := HB.out; omega))
          | exact bodyPost_ret (next_res _ _ B _ rfl (set5 Hz.out _ _ _ _ _) rfl) rfl (next_fin (HE.out.trans HQ.out) (.inl ⟨rfl, rfl⟩) (fun q _ => by simp [Value.ownBlock]) (by simp [Value.ownBlock]) HSf.out HMf.out HbR'.out (by have := HB.out; omega))
        · have g : (q.e != 0) = true := by simpa using hqz
          have HE : Hid (Xm.nextR s p = (Xm.Pc.zero, q)) := Lib.hid (by rw [HP.out, ← HQe.out, if_pos (by simpa using hqz)])
          clear hqz
          go_wp2
          (try simp only [Exit.inBlock, Exit.then])
          exact bodyPost_ret (next_res _ _ B _ rfl (set5 Hz.out _ _ _ _ _) rfl) rfl (next_zero HE.out HSq.out HMf.out HbR'.out (by have := HB.out; omega))
      · obtain ⟨f, hfe⟩ : ∃ f : Nat, (f : Int) = Xm.farS s (k + 9) Xm.cdE := ⟨(Xm.farS s (k + 9) Xm.cdE).toNat, by omega⟩
        have HF := Lib.hid (Int.not_lt.1 hf)
        have Hft : Hid ((Xm.farS s (k + 9) Xm.cdE).toNat = f) := Lib.hid (by omega)
        obtain ⟨v, hv⟩ : ∃ v, v = s.extract (k + 9) (k + 9 + f) := ⟨_, rfl⟩
        have Hv := Lib.hid hv
        have Hvm := Lib.hid (show v.size ≤ 9223372036854775807 by rw [hv]; simp; omega)
        obtain ⟨z, hz⟩ : ∃ z, z = Xm.text v 0 := ⟨_, rfl⟩
        have HZ := Lib.hid hz
        have HQ0 : Hid (Xm.pieceOf s k bad = (⟨4, ByteArray.empty, [], v, k⟩, if 0 ≤ z then Xm.wrong ⟨k + 9 + f + 3, 0, bad⟩ 3 (k + 9 : Nat) else ⟨k + 9 + f + 3, 0, bad⟩)) := Lib.hid (by rw [Xm.pieceOf, if_pos HCD'.out, Xm.cdT, if_neg hf, Hft.out, ← hv, ← hz])
        have hbA : ¬ b = A := HAb'.out
        clear hf hfe hv hz
        by_cases hz0 : 0 ≤ z
        · have HQ : Hid (Xm.pieceOf s k bad = (⟨4, ByteArray.empty, [], v, k⟩, Xm.wrong ⟨k + 9 + f + 3, 0, bad⟩ 3 (k + 9 : Nat))) := Lib.hid (by rw [HQ0.out, if_pos hz0])
          go_upto_region 20 with (first | (go_at_call 67; refine (until_any b s Xm.cdE (k + 9) 0 bad w4 HS4.out (by omega) (by omega) (by decide) HXb.out).mono ?_; rintro e w5 ⟨-, hyes⟩; obtain ⟨rfl, hs5, hm5⟩ := hyes HF.out; rw [Hft.out, ← Hv.out]; rw [Hft.out] at hs5; clear hyes) | (go_at_call 54; refine (ctext_any _ _ Hvm.out).mono ?_; rintro e w9 ⟨rfl, rfl⟩; rw [← HZ.out]) | (go_at_call 31; refine (wrong_any _ _ _ _ _ 3 _ _ hs5 (by decide)).mono ?_; rintro e w6 ⟨rfl, hs6, hm6⟩))
          have HPx : Hid (Xm.Row5 w6 A #[.int .i64 0, .string ⟨#[]⟩, .slice none 0 0, .string ⟨#[]⟩, .int .i64 k]) := Lib.hid (Xm.Row5.mv HP4.out (hm5.trans hm6) HAb.out)
          have pf0 : w6.frozen? ⟨A, 0, none⟩ = false := frozen_of_row w6 A _ _ _ HPx.out
          have pf3 : w6.frozen? ⟨A, 3, none⟩ = false := frozen_of_row w6 A _ _ _ HPx.out
          have p0 := (cell_of_row w6 A 0 _ _ _ HPx.out).trans rfl
          have p3 := (cell_of_row w6 A 3 _ _ _ HPx.out).trans rfl
          go_upto_region 31 with fail
          have HSf : Hid (Xm.Scs ((w6.setCell ⟨A, 0, none⟩ (.int .i64 4)).setCell ⟨A, 3, none⟩ (.string v)) b s (Xm.wrong ⟨k + 9 + f + 3, 0, bad⟩ 3 (k + 9 : Nat))) := Lib.hid (Xm.Sc.other (Xm.Sc.other hs6 HAb'.out) HAb'.out)
          have HRf : Hid (Xm.Zr ((w6.setCell ⟨A, 0, none⟩ (.int .i64 4)).setCell ⟨A, 3, none⟩ (.string v)) B) := Lib.hid (Xm.Row5.other (Xm.Row5.other (Xm.Row5.mv HR4.out (hm5.trans hm6) HbR.out) HBA.out) HBA.out)
          have HMf : Hid (Xm.Mv w b ((w6.setCell ⟨A, 0, none⟩ (.int .i64 4)).setCell ⟨A, 3, none⟩ (.string v))) := Lib.hid (((HM4.out.trans (hm5.trans hm6)).setNew (by have := HAB.out; have := HB.out; omega)).setNew (by have := HAB.out; have := HB.out; omega))
          have HPf : Hid (Xm.Row5 ((w6.setCell ⟨A, 0, none⟩ (.int .i64 4)).setCell ⟨A, 3, none⟩ (.string v)) A #[.int .i64 4, .string ⟨#[]⟩, .slice none 0 0, .string v, .int .i64 k]) := Lib.hid ((Xm.Row5.set HPx.out 0 (.int .i64 4)).set 3 (.string v))
          clear pf0 pf3 p0 p3 HPx HS4 HR4 HP4 HM4 HTb HXb
          (try clear c1)
          generalize (w6.setCell ⟨A, 0, none⟩ (.int .i64 4)).setCell ⟨A, 3, none⟩ (.string v) = wf at *
          obtain ⟨q, hqe⟩ : ∃ q, q = (Xm.pieceOf s k bad).2 := ⟨_, rfl⟩
          have HSq : Hid (Xm.Sc wf b s q.k q.e q.bad) := Lib.hid (by rw [hqe, HQ.out]; exact HSf.out)
          have HQe := Lib.hid hqe
          clear hqe
          have hz : Xm.Row5 wf B #[.int .i64 0, .string ⟨#[]⟩, .slice none 0 0, .string ⟨#[]⟩, .int .i64 0] := HRf.out
          have Hz := Lib.hid hz
          clear hz
          have r0 := (cell_of_row wf (B) 0 _ _ _ Hz.out).trans rfl
          have rf0 : wf.frozen? ⟨B, 0, none⟩ = false := frozen_of_row wf (B) _ _ _ Hz.out
          have r1 := (cell_of_row wf (B) 1 _ _ _ Hz.out).trans rfl
          have rf1 : wf.frozen? ⟨B, 1, none⟩ = false := frozen_of_row wf (B) _ _ _ Hz.out
          have r2 := (cell_of_row wf (B) 2 _ _ _ Hz.out).trans rfl
          have rf2 : wf.frozen? ⟨B, 2, none⟩ = false := frozen_of_row wf (B) _ _ _ Hz.out
          have r3 := (cell_of_row wf (B) 3 _ _ _ Hz.out).trans rfl
          have rf3 : wf.frozen? ⟨B, 3, none⟩ = false := frozen_of_row wf (B) _ _ _ Hz.out
          have r4 := (cell_of_row wf (B) 4 _ _ _ Hz.out).trans rfl
          have rf4 : wf.frozen? ⟨B, 4, none⟩ = false := frozen_of_row wf (B) _ _ _ Hz.out
          have c2 := HSq.out.c.2.2.1
          by_cases hqz : q.e = 0
          · have g : (q.e != 0) = false := by simpa using hqz
            have HE : Hid (Xm.nextR s p = (Xm.pieceOf s k bad)) := Lib.hid (by rw [HP.out, ← HQe.out, if_neg (by simpa using hqz)])
            have p0 := (cell_of_row wf A 0 _ _ _ HPf.out).trans rfl
            have p1 := (cell_of_row wf A 1 _ _ _ HPf.out).trans rfl
            have p2 := (cell_of_row wf A 2 _ _ _ HPf.out).trans rfl
            have p3 := (cell_of_row wf A 3 _ _ _ HPf.out).trans rfl
            have p4 := (cell_of_row wf A 4 _ _ _ HPf.out).trans rfl
            have hne : ¬ A = B := Ne.symm HBA.out
            have hne' : ¬ B = A := HBA.out
            clear hqz
            go_wp2
            (try simp only [Exit.inBlock, Exit.then])
            first
            | exact bodyPost_end (next_res _ _ B _ rfl (set5 Hz.out _ _ _ _ _) rfl) rfl (next_fin (HE.out.trans HQ.out) (.inl ⟨rfl, rfl⟩) (fun q _ => by simp [Value.ownBlock]) (by simp [Value.ownBlock]) HSf.out HMf.out HbR'.out (by have := HB.out; omega))
            | exact bodyPost_ret (next_res _ _ B _ rfl (set5 Hz.out _ _ _ _ _) rfl) rfl (next_fin (HE.out.trans HQ.out) (.inl ⟨rfl, rfl⟩) (fun q _ => by simp [Value.ownBlock]) (by simp [Value.ownBlock]) HSf.out HMf.out HbR'.out (by have := HB.out; omega))
          · have g : (q.e != 0) = true := by simpa using hqz
            have HE : Hid (Xm.nextR s p = (Xm.Pc.zero, q)) := Lib.hid (by rw [HP.out, ← HQe.out, if_pos (by simpa using hqz)])
            clear hqz
            go_wp2
            (try simp only [Exit.inBlock, Exit.then])
            exact bodyPost_ret (next_res _ _ B _ rfl (set5 Hz.out _ _ _ _ _) rfl) rfl (next_zero HE.out HSq.out HMf.out HbR'.out (by have := HB.out; omega))
        · have HQ : Hid (Xm.pieceOf s k bad = (⟨4, ByteArray.empty, [], v, k⟩, ⟨k + 9 + f + 3, 0, bad⟩)) := Lib.hid (by rw [HQ0.out, if_neg hz0])
          go_upto_region 20 with (first | (go_at_call 67; refine (until_any b s Xm.cdE (k + 9) 0 bad w4 HS4.out (by omega) (by omega) (by decide) HXb.out).mono ?_; rintro e w5 ⟨-, hyes⟩; obtain ⟨rfl, hs5, hm5⟩ := hyes HF.out; rw [Hft.out, ← Hv.out]; rw [Hft.out] at hs5; clear hyes) | (go_at_call 54; refine (ctext_any _ _ Hvm.out).mono ?_; rintro e w9 ⟨rfl, rfl⟩; rw [← HZ.out]))
          have HPx : Hid (Xm.Row5 w5 A #[.int .i64 0, .string ⟨#[]⟩, .slice none 0 0, .string ⟨#[]⟩, .int .i64 k]) := Lib.hid (Xm.Row5.mv HP4.out (hm5) HAb.out)
          have pf0 : w5.frozen? ⟨A, 0, none⟩ = false := frozen_of_row w5 A _ _ _ HPx.out
          have pf3 : w5.frozen? ⟨A, 3, none⟩ = false := frozen_of_row w5 A _ _ _ HPx.out
          have p0 := (cell_of_row w5 A 0 _ _ _ HPx.out).trans rfl
          have p3 := (cell_of_row w5 A 3 _ _ _ HPx.out).trans rfl
          go_upto_region 31 with fail
          have HSf : Hid (Xm.Scs ((w5.setCell ⟨A, 0, none⟩ (.int .i64 4)).setCell ⟨A, 3, none⟩ (.string v)) b s (⟨k + 9 + f + 3, 0, bad⟩)) := Lib.hid (Xm.Sc.other (Xm.Sc.other hs5 HAb'.out) HAb'.out)
          have HRf : Hid (Xm.Zr ((w5.setCell ⟨A, 0, none⟩ (.int .i64 4)).setCell ⟨A, 3, none⟩ (.string v)) B) := Lib.hid (Xm.Row5.other (Xm.Row5.other (Xm.Row5.mv HR4.out (hm5) HbR.out) HBA.out) HBA.out)
          have HMf : Hid (Xm.Mv w b ((w5.setCell ⟨A, 0, none⟩ (.int .i64 4)).setCell ⟨A, 3, none⟩ (.string v))) := Lib.hid (((HM4.out.trans (hm5)).setNew (by have := HAB.out; have := HB.out; omega)).setNew (by have := HAB.out; have := HB.out; omega))
          have HPf : Hid (Xm.Row5 ((w5.setCell ⟨A, 0, none⟩ (.int .i64 4)).setCell ⟨A, 3, none⟩ (.string v)) A #[.int .i64 4, .string ⟨#[]⟩, .slice none 0 0, .string v, .int .i64 k]) := Lib.hid ((Xm.Row5.set HPx.out 0 (.int .i64 4)).set 3 (.string v))
          clear pf0 pf3 p0 p3 HPx HS4 HR4 HP4 HM4 HTb HXb
          (try clear c1)
          generalize (w5.setCell ⟨A, 0, none⟩ (.int .i64 4)).setCell ⟨A, 3, none⟩ (.string v) = wf at *
          obtain ⟨q, hqe⟩ : ∃ q, q = (Xm.pieceOf s k bad).2 := ⟨_, rfl⟩
          have HSq : Hid (Xm.Sc wf b s q.k q.e q.bad) := Lib.hid (by rw [hqe, HQ.out]; exact HSf.out)
          have HQe := Lib.hid hqe
          clear hqe
          have hz : Xm.Row5 wf B #[.int .i64 0, .string ⟨#[]⟩, .slice none 0 0, .string ⟨#[]⟩, .int .i64 0] := HRf.out
          have Hz := Lib.hid hz
          clear hz
          have r0 := (cell_of_row wf (B) 0 _ _ _ Hz.out).trans rfl
          have rf0 : wf.frozen? ⟨B, 0, none⟩ = false := frozen_of_row wf (B) _ _ _ Hz.out
          have r1 := (cell_of_row wf (B) 1 _ _ _ Hz.out).trans rfl
          have rf1 : wf.frozen? ⟨B, 1, none⟩ = false := frozen_of_row wf (B) _ _ _ Hz.out
          have r2 := (cell_of_row wf (B) 2 _ _ _ Hz.out).trans rfl
          have rf2 : wf.frozen? ⟨B, 2, none⟩ = false := frozen_of_row wf (B) _ _ _ Hz.out
          have r3 := (cell_of_row wf (B) 3 _ _ _ Hz.out).trans rfl
          have rf3 : wf.frozen? ⟨B, 3, none⟩ = false := frozen_of_row wf (B) _ _ _ Hz.out
          have r4 := (cell_of_row wf (B) 4 _ _ _ Hz.out).trans rfl
          have rf4 : wf.frozen? ⟨B, 4, none⟩ = false := frozen_of_row wf (B) _ _ _ Hz.out
          have c2 := HSq.out.c.2.2.1
          by_cases hqz : q.e = 0
          · have g : (q.e != 0) = false := by simpa using hqz
            have HE : Hid (Xm.nextR s p = (Xm.pieceOf s k bad)) := Lib.hid (by rw [HP.out, ← HQe.out, if_neg (by simpa using hqz)])
            have p0 := (cell_of_row wf A 0 _ _ _ HPf.out).trans rfl
            have p1 := (cell_of_row wf A 1 _ _ _ HPf.out).trans rfl
            have p2 := (cell_of_row wf A 2 _ _ _ HPf.out).trans rfl
            have p3 := (cell_of_row wf A 3 _ _ _ HPf.out).trans rfl
            have p4 := (cell_of_row wf A 4 _ _ _ HPf.out).trans rfl
            have hne : ¬ A = B := Ne.symm HBA.out
            have hne' : ¬ B = A := HBA.out
            clear hqz
            go_wp2
            (try simp only [Exit.inBlock, Exit.then])
            first
            | exact bodyPost_end (next_res _ _ B _ rfl (set5 Hz.out _ _ _ _ _) rfl) rfl (next_fin (HE.out.trans HQ.out) (.inl ⟨rfl, rfl⟩) (fun q _ => by simp [Value.ownBlock]) (by simp [Value.ownBlock]) HSf.out HMf.out HbR'.out (by have := HB.out; omega))
            | exact bodyPost_ret (next_res _ _ B _ rfl (set5 Hz.out _ _ _ _ _) rfl) rfl (next_fin (HE.out.trans HQ.out) (.inl ⟨rfl, rfl⟩) (fun q _ => by simp [Value.ownBlock]) (by simp [Value.ownBlock]) HSf.out HMf.out HbR'.out (by have := HB.out; omega))
          · have g : (q.e != 0) = true := by simpa using hqz
            have HE : Hid (Xm.nextR s p = (Xm.Pc.zero, q)) := Lib.hid (by rw [HP.out, ← HQe.out, if_pos (by simpa using hqz)])
            clear hqz
            go_wp2
            (try simp only [Exit.inBlock, Exit.then])
            exact bodyPost_ret (next_res _ _ B _ rfl (set5 Hz.out _ _ _ _ _) rfl) rfl (next_zero HE.out HSq.out HMf.out HbR'.out (by have := HB.out; omega))
    have HC1 : Hid (Xm.hasAt s k Xm.cdS = false) := Lib.hid hcd
    have HCD := Lib.hid hcd
    clear hcd
    go_upto_region 21 with (go_at_call 66; refine (has_any _ _ _ _ _ _ _ HS3.out hkk (by omega)).mono ?_; rintro e w9 ⟨rfl, m, rfl⟩; rw [HCD.out])
    have HS4 : Hid (Xm.Sc (w3.drewN m) b s (k : Int) 0 bad) := Lib.hid (Xm.Sc.grow HS3.out (Flow.grow_drewN w3 m))
    have HR4 : Hid (Xm.Zr (w3.drewN m) B) := Lib.hid (Xm.Row5.grow HR3.out (Flow.grow_drewN w3 m))
    have HP4 : Hid (Xm.Row5 (w3.drewN m) A #[.int .i64 0, .string ⟨#[]⟩, .slice none 0 0, .string ⟨#[]⟩, .int .i64 k]) := Lib.hid (Xm.Row5.grow HP3.out (Flow.grow_drewN w3 m))
    have HM4 : Hid (Xm.Mv w b (w3.drewN m)) := Lib.hid (HM3.out.trans Xm.Mv.drew)
    clear HS3 HR3 HP3 HM3 HTb HXb
    (try clear c1 f1)
    generalize w3.drewN m = w4 at *
    have HTb : Hid (Xm.Tab w4) := Lib.hid (HT.out.mv HM4.out hb1)
    have HXb : Hid (Xm.Max w4) := Lib.hid (HM.out.mv HM4.out hb1)
    have hbA : ¬ b = A := HAb'.out
    cases hcb : Xm.hasAt s k ⟨#[60, 47]⟩
    rotate_left
    · have hkd : k + 2 ≤ s.size := Xm.hasAt_bd hkk hcb
      have HCB' : Hid (Xm.hasAt s k Xm.backS = true) := Lib.hid hcb
      have HCB := Lib.hid hcb
      clear hcb
      have c1 := HS4.out.c.2.1
      have f1 := HS4.out.c.2.2.2.2.1
      go_upto_region 23 with (go_at_call 66; refine (has_any _ _ _ _ _ _ _ HS4.out hkk (by omega)).mono ?_; rintro e w9 ⟨rfl, m, rfl⟩; rw [HCB.out])
      have HS5 : Hid (Xm.Sc ((w4.drewN m).setCell ⟨b, 1, none⟩ (.int .i64 ((k : Int) + 2))) b s ((k + 2 : Nat) : Int) 0 bad) := Lib.hid (Xm.Sc.at' (Xm.Sc.grow HS4.out (Flow.grow_drewN w4 m)) _)
      have HR5 : Hid (Xm.Zr ((w4.drewN m).setCell ⟨b, 1, none⟩ (.int .i64 ((k : Int) + 2))) B) := Lib.hid (Xm.Row5.other (Xm.Row5.grow HR4.out (Flow.grow_drewN w4 m)) HbR.out)
      have HP5 : Hid (Xm.Row5 ((w4.drewN m).setCell ⟨b, 1, none⟩ (.int .i64 ((k : Int) + 2))) A #[.int .i64 0, .string ⟨#[]⟩, .slice none 0 0, .string ⟨#[]⟩, .int .i64 k]) := Lib.hid (Xm.Row5.other (Xm.Row5.grow HP4.out (Flow.grow_drewN w4 m)) HAb.out)
      have HM5 : Hid (Xm.Mv w b ((w4.drewN m).setCell ⟨b, 1, none⟩ (.int .i64 ((k : Int) + 2)))) := Lib.hid ((HM4.out.trans Xm.Mv.drew).trans Xm.Mv.set)
      clear HS4 HR4 HP4 HM4 HTb HXb
      (try clear c1 f1)
      generalize (w4.drewN m).setCell ⟨b, 1, none⟩ (.int .i64 ((k : Int) + 2)) = w5 at *
      have HTb : Hid (Xm.Tab w5) := Lib.hid (HT.out.mv HM5.out hb1)
      have HXb : Hid (Xm.Max w5) := Lib.hid (HM.out.mv HM5.out hb1)
      obtain ⟨nt, hnt⟩ : ∃ x, x = Xm.nameT s ⟨k + 2, 0, bad⟩ := ⟨_, rfl⟩
      have hntk : nt.k ≤ s.size := by rw [hnt, Xm.nameT_k]; exact (Xm.nameEnd_bd s _ (k + 2) rfl hkd).2
      have Hnt := Lib.hid hnt
      have hk3 := Xm.skip_bd s _ nt.k rfl hntk
      obtain ⟨k3, hk3e⟩ : ∃ x, x = Xm.skip s nt.k := ⟨_, rfl⟩
      rw [← hk3e] at hk3
      have Hk3 := Lib.hid hk3e
      have HQ0 : Hid (Xm.pieceOf s k bad = (⟨2, Xm.nameS s (k + 2), [], ByteArray.empty, k⟩, ⟨k3 + 1, (Xm.gtT s ⟨k3, nt.e, nt.bad⟩).e, (Xm.gtT s ⟨k3, nt.e, nt.bad⟩).bad⟩)) := Lib.hid (by rw [Xm.pieceOf, if_neg (by rw [HC1.out]; simp), if_pos HCB'.out, Xm.backT, Xm.blanksT, ← hnt, ← hk3e])
      obtain ⟨nm, hnm⟩ : ∃ x, x = Xm.nameS s (k + 2) := ⟨_, rfl⟩
      have Hnm := Lib.hid hnm
      rw [← hnm] at HQ0
      clear hnt hk3e hnm
      go_upto_region 24 with (go_at_call 68; refine (sname_T b s ⟨k + 2, 0, bad⟩ w5 HS5.out hkd (by omega)).mono ?_; rintro e w6 ⟨rfl, hs6, hm6⟩; rw [← Hnt.out] at hs6; rw [← Hnm.out]; have HP6 := Lib.hid (HP5.out.mv hm6 HAb.out); have pf0 : w6.frozen? ⟨A, 0, none⟩ = false := frozen_of_row w6 A _ _ _ HP6.out; have pf1 : w6.frozen? ⟨A, 1, none⟩ = false := frozen_of_row w6 A _ _ _ HP6.out; have p0 := (cell_of_row w6 A 0 _ _ _ HP6.out).trans rfl; have p1 := (cell_of_row w6 A 1 _ _ _ HP6.out).trans rfl)
      have HS7 : Hid (Xm.Sc ((w6.setCell ⟨A, 0, none⟩ (.int .i64 2)).setCell ⟨A, 1, none⟩ (.string nm)) b s nt.k nt.e nt.bad) := Lib.hid (Xm.Sc.other (Xm.Sc.other hs6 HAb'.out) HAb'.out)
      have HR7 : Hid (Xm.Zr ((w6.setCell ⟨A, 0, none⟩ (.int .i64 2)).setCell ⟨A, 1, none⟩ (.string nm)) B) := Lib.hid (Xm.Row5.other (Xm.Row5.other (Xm.Row5.mv HR5.out hm6 HbR.out) HBA.out) HBA.out)
      have HM7 : Hid (Xm.Mv w b ((w6.setCell ⟨A, 0, none⟩ (.int .i64 2)).setCell ⟨A, 1, none⟩ (.string nm))) := Lib.hid (((HM5.out.trans hm6).setNew (by have := HAB.out; have := HB.out; omega)).setNew (by have := HAB.out; have := HB.out; omega))
      have HP7 : Hid (Xm.Row5 ((w6.setCell ⟨A, 0, none⟩ (.int .i64 2)).setCell ⟨A, 1, none⟩ (.string nm)) A #[.int .i64 2, .string nm, .slice none 0 0, .string ⟨#[]⟩, .int .i64 k]) := Lib.hid ((Xm.Row5.set HP6.out 0 (.int .i64 2)).set 1 (.string nm))
      clear hs6 hm6 pf0 pf1 p0 p1 HP6 HS5 HR5 HP5 HM5 HTb HXb
      generalize (w6.setCell ⟨A, 0, none⟩ (.int .i64 2)).setCell ⟨A, 1, none⟩ (.string nm) = w7 at *
      cases hg : Xm.hasAt s k3 ⟨#[62]⟩
      · have HG := Lib.hid hg
        have HQ : Hid (Xm.pieceOf s k bad = (⟨2, nm, [], ByteArray.empty, k⟩, ⟨k3 + 1, Xm.errOf nt.e 3, Xm.badOf nt.e nt.bad k3⟩)) := Lib.hid (by rw [HQ0.out, Xm.gtT, if_neg (by rw [show Xm.hasAt s k3 Xm.closeT = false from hg]; simp)]; rfl)
        clear hg
        go_upto_region 31 with (first | (go_at_call 69; refine (blanks_any _ _ _ _ _ _ HS7.out hntk (by omega)).mono ?_; rintro e w8 ⟨rfl, hs8, hm8⟩; rw [← Hk3.out] at hs8) | (go_at_call 66; refine (has_any _ _ _ _ _ _ _ hs8 hk3.2 (by omega)).mono ?_; rintro e w9 ⟨rfl, m, rfl⟩; rw [HG.out]; have hs9 := Xm.Sc.grow hs8 (Flow.grow_drewN w8 m); have c1 := hs9.c.2.1; have f1 := hs9.c.2.2.2.2.1) | (go_at_call 31; refine (wrong_any _ _ _ _ _ 3 _ _ hs9 (by decide)).mono ?_; rintro e w10 ⟨rfl, hs10, hm10⟩; have c1' := hs10.c.2.1; have f1' := hs10.c.2.2.2.2.1))
        have HSf : Hid (Xm.Scs (w10.setCell ⟨b, 1, none⟩ (.int .i64 ((k3 : Int) + 1))) b s (⟨k3 + 1, Xm.errOf nt.e 3, Xm.badOf nt.e nt.bad k3⟩)) := Lib.hid (Xm.Sc.at' hs10 _)
        have HMx : Hid (Xm.Mv w7 b (w10.setCell ⟨b, 1, none⟩ (.int .i64 ((k3 : Int) + 1)))) := Lib.hid (((hm8.trans (Xm.Mv.drew (n := m))).trans hm10).trans Xm.Mv.set)
        have HRf : Hid (Xm.Zr (w10.setCell ⟨b, 1, none⟩ (.int .i64 ((k3 : Int) + 1))) B) := Lib.hid (Xm.Row5.mv HR7.out HMx.out HbR.out)
        have HMf : Hid (Xm.Mv w b (w10.setCell ⟨b, 1, none⟩ (.int .i64 ((k3 : Int) + 1)))) := Lib.hid (HM7.out.trans HMx.out)
        have HPf : Hid (Xm.Row5 (w10.setCell ⟨b, 1, none⟩ (.int .i64 ((k3 : Int) + 1))) A _) := Lib.hid (Xm.Row5.mv HP7.out HMx.out HAb.out)
        clear HMx HS7 HR7 HM7 HP7
        (try clear c1 f1)
        (try clear c1' f1')
        generalize w10.setCell ⟨b, 1, none⟩ (.int .i64 ((k3 : Int) + 1)) = wf at *
        obtain ⟨q, hqe⟩ : ∃ q, q = (Xm.pieceOf s k bad).2 := ⟨_, rfl⟩
        have HSq : Hid (Xm.Sc wf b s q.k q.e q.bad) := Lib.hid (by rw [hqe, HQ.out]; exact HSf.out)
        have HQe := Lib.hid hqe
        clear hqe
        have hz : Xm.Row5 wf B #[.int .i64 0, .string ⟨#[]⟩, .slice none 0 0, .string ⟨#[]⟩, .int .i64 0] := HRf.out
        have Hz := Lib.hid hz
        clear hz
        have r0 := (cell_of_row wf (B) 0 _ _ _ Hz.out).trans rfl
        have rf0 : wf.frozen? ⟨B, 0, none⟩ = false := frozen_of_row wf (B) _ _ _ Hz.out
        have r1 := (cell_of_row wf (B) 1 _ _ _ Hz.out).trans rfl
        have rf1 : wf.frozen? ⟨B, 1, none⟩ = false := frozen_of_row wf (B) _ _ _ Hz.out
        have r2 := (cell_of_row wf (B) 2 _ _ _ Hz.out).trans rfl
        have rf2 : wf.frozen? ⟨B, 2, none⟩ = false := frozen_of_row wf (B) _ _ _ Hz.out
        have r3 := (cell_of_row wf (B) 3 _ _ _ Hz.out).trans rfl
        have rf3 : wf.frozen? ⟨B, 3, none⟩ = false := frozen_of_row wf (B) _ _ _ Hz.out
        have r4 := (cell_of_row wf (B) 4 _ _ _ Hz.out).trans rfl
        have rf4 : wf.frozen? ⟨B, 4, none⟩ = false := frozen_of_row wf (B) _ _ _ Hz.out
        have c2 := HSq.out.c.2.2.1
        by_cases hqz : q.e = 0
        · have g : (q.e != 0) = false := by simpa using hqz
          have HE : Hid (Xm.nextR s p = (Xm.pieceOf s k bad)) := Lib.hid (by rw [HP.out, ← HQe.out, if_neg (by simpa using hqz)])
          have p0 := (cell_of_row wf A 0 _ _ _ HPf.out).trans rfl
          have p1 := (cell_of_row wf A 1 _ _ _ HPf.out).trans rfl
          have p2 := (cell_of_row wf A 2 _ _ _ HPf.out).trans rfl
          have p3 := (cell_of_row wf A 3 _ _ _ HPf.out).trans rfl
          have p4 := (cell_of_row wf A 4 _ _ _ HPf.out).trans rfl
          have hne : ¬ A = B := Ne.symm HBA.out
          have hne' : ¬ B = A := HBA.out
          clear hqz
          go_wp2
          (try simp only [Exit.inBlock, Exit.then])
          first
          | exact bodyPost_end (next_res _ _ B _ rfl (set5 Hz.out _ _ _ _ _) rfl) rfl (next_fin (HE.out.trans HQ.out) (.inl ⟨rfl, rfl⟩) (fun q _ => by simp [Value.ownBlock]) (by simp [Value.ownBlock]) HSf.out HMf.out HbR'.out (by have := HB.out; omega))
          | exact bodyPost_ret (next_res _ _ B _ rfl (set5 Hz.out _ _ _ _ _) rfl) rfl (next_fin (HE.out.trans HQ.out) (.inl ⟨rfl, rfl⟩) (fun q _ => by simp [Value.ownBlock]) (by simp [Value.ownBlock]) HSf.out HMf.out HbR'.out (by have := HB.out; omega))
        · have g : (q.e != 0) = true := by simpa using hqz
          have HE : Hid (Xm.nextR s p = (Xm.Pc.zero, q)) := Lib.hid (by rw [HP.out, ← HQe.out, if_pos (by simpa using hqz)])
          clear hqz
          go_wp2
          (try simp only [Exit.inBlock, Exit.then])
          exact bodyPost_ret (next_res _ _ B _ rfl (set5 Hz.out _ _ _ _ _) rfl) rfl (next_zero HE.out HSq.out HMf.out HbR'.out (by have := HB.out; omega))
      · have HG := Lib.hid hg
        have HQ : Hid (Xm.pieceOf s k bad = (⟨2, nm, [], ByteArray.empty, k⟩, ⟨k3 + 1, nt.e, nt.bad⟩)) := Lib.hid (by rw [HQ0.out, Xm.gtT, if_pos (show Xm.hasAt s k3 Xm.closeT = true from hg)])
        clear hg
        go_upto_region 31 with (first | (go_at_call 69; refine (blanks_any _ _ _ _ _ _ HS7.out hntk (by omega)).mono ?_; rintro e w8 ⟨rfl, hs8, hm8⟩; rw [← Hk3.out] at hs8) | (go_at_call 66; refine (has_any _ _ _ _ _ _ _ hs8 hk3.2 (by omega)).mono ?_; rintro e w9 ⟨rfl, m, rfl⟩; rw [HG.out]; have hs9 := Xm.Sc.grow hs8 (Flow.grow_drewN w8 m); have c1 := hs9.c.2.1; have f1 := hs9.c.2.2.2.2.1))
        have HSf : Hid (Xm.Scs ((w8.drewN m).setCell ⟨b, 1, none⟩ (.int .i64 ((k3 : Int) + 1))) b s (⟨k3 + 1, nt.e, nt.bad⟩)) := Lib.hid (Xm.Sc.at' hs9 _)
        have HMx : Hid (Xm.Mv w7 b ((w8.drewN m).setCell ⟨b, 1, none⟩ (.int .i64 ((k3 : Int) + 1)))) := Lib.hid ((hm8.trans (Xm.Mv.drew (n := m))).trans Xm.Mv.set)
        have HRf : Hid (Xm.Zr ((w8.drewN m).setCell ⟨b, 1, none⟩ (.int .i64 ((k3 : Int) + 1))) B) := Lib.hid (Xm.Row5.mv HR7.out HMx.out HbR.out)
        have HMf : Hid (Xm.Mv w b ((w8.drewN m).setCell ⟨b, 1, none⟩ (.int .i64 ((k3 : Int) + 1)))) := Lib.hid (HM7.out.trans HMx.out)
        have HPf : Hid (Xm.Row5 ((w8.drewN m).setCell ⟨b, 1, none⟩ (.int .i64 ((k3 : Int) + 1))) A _) := Lib.hid (Xm.Row5.mv HP7.out HMx.out HAb.out)
        clear HMx HS7 HR7 HM7 HP7
        (try clear c1 f1)
        (try clear c1' f1')
        generalize (w8.drewN m).setCell ⟨b, 1, none⟩ (.int .i64 ((k3 : Int) + 1)) = wf at *
        obtain ⟨q, hqe⟩ : ∃ q, q = (Xm.pieceOf s k bad).2 := ⟨_, rfl⟩
        have HSq : Hid (Xm.Sc wf b s q.k q.e q.bad) := Lib.hid (by rw [hqe, HQ.out]; exact HSf.out)
        have HQe := Lib.hid hqe
        clear hqe
        have hz : Xm.Row5 wf B #[.int .i64 0, .string ⟨#[]⟩, .slice none 0 0, .string ⟨#[]⟩, .int .i64 0] := HRf.out
        have Hz := Lib.hid hz
        clear hz
        have r0 := (cell_of_row wf (B) 0 _ _ _ Hz.out).trans rfl
        have rf0 : wf.frozen? ⟨B, 0, none⟩ = false := frozen_of_row wf (B) _ _ _ Hz.out
        have r1 := (cell_of_row wf (B) 1 _ _ _ Hz.out).trans rfl
        have rf1 : wf.frozen? ⟨B, 1, none⟩ = false := frozen_of_row wf (B) _ _ _ Hz.out
        have r2 := (cell_of_row wf (B) 2 _ _ _ Hz.out).trans rfl
        have rf2 : wf.frozen? ⟨B, 2, none⟩ = false := frozen_of_row wf (B) _ _ _ Hz.out
        have r3 := (cell_of_row wf (B) 3 _ _ _ Hz.out).trans rfl
        have rf3 : wf.frozen? ⟨B, 3, none⟩ = false := frozen_of_row wf (B) _ _ _ Hz.out
        have r4 := (cell_of_row wf (B) 4 _ _ _ Hz.out).trans rfl
        have rf4 : wf.frozen? ⟨B, 4, none⟩ = false := frozen_of_row wf (B) _ _ _ Hz.out
        have c2 := HSq.out.c.2.2.1
        by_cases hqz : q.e = 0
        · have g : (q.e != 0) = false := by simpa using hqz
          have HE : Hid (Xm.nextR s p = (Xm.pieceOf s k bad)) := Lib.hid (by rw [HP.out, ← HQe.out, if_neg (by simpa using hqz)])
          have p0 := (cell_of_row wf A 0 _ _ _ HPf.out).trans rfl
          have p1 := (cell_of_row wf A 1 _ _ _ HPf.out).trans rfl
          have p2 := (cell_of_row wf A 2 _ _ _ HPf.out).trans rfl
          have p3 := (cell_of_row wf A 3 _ _ _ HPf.out).trans rfl
          have p4 := (cell_of_row wf A 4 _ _ _ HPf.out).trans rfl
          have hne : ¬ A = B := Ne.symm HBA.out
          have hne' : ¬ B = A := HBA.out
          clear hqz
          go_wp2
          (try simp only [Exit.inBlock, Exit.then])
          first
          | exact bodyPost_end (next_res _ _ B _ rfl (set5 Hz.out _ _ _ _ _) rfl) rfl (next_fin (HE.out.trans HQ.out) (.inl ⟨rfl, rfl⟩) (fun q _ => by simp [Value.ownBlock]) (by simp [Value.ownBlock]) HSf.out HMf.out HbR'.out (by have := HB.out; omega))
          | exact bodyPost_ret (next_res _ _ B _ rfl (set5 Hz.out _ _ _ _ _) rfl) rfl (next_fin (HE.out.trans HQ.out) (.inl ⟨rfl, rfl⟩) (fun q _ => by simp [Value.ownBlock]) (by simp [Value.ownBlock]) HSf.out HMf.out HbR'.out (by have := HB.out; omega))
        · have g : (q.e != 0) = true := by simpa using hqz
          have HE : Hid (Xm.nextR s p = (Xm.Pc.zero, q)) := Lib.hid (by rw [HP.out, ← HQe.out, if_pos (by simpa using hqz)])
          clear hqz
          go_wp2
          (try simp only [Exit.inBlock, Exit.then])
          exact bodyPost_ret (next_res _ _ B _ rfl (set5 Hz.out _ _ _ _ _) rfl) rfl (next_zero HE.out HSq.out HMf.out HbR'.out (by have := HB.out; omega))
    have HC2 : Hid (Xm.hasAt s k Xm.backS = false) := Lib.hid hcb
    have HCB := Lib.hid hcb
    clear hcb
    go_upto_region 28 with (go_at_call 66; refine (has_any _ _ _ _ _ _ _ HS4.out hkk (by omega)).mono ?_; rintro e w9 ⟨rfl, m, rfl⟩; rw [HCB.out])
    have HS5 : Hid (Xm.Sc (w4.drewN m) b s (k : Int) 0 bad) := Lib.hid (Xm.Sc.grow HS4.out (Flow.grow_drewN w4 m))
    have HR5 : Hid (Xm.Zr (w4.drewN m) B) := Lib.hid (Xm.Row5.grow HR4.out (Flow.grow_drewN w4 m))
    have HP5 : Hid (Xm.Row5 (w4.drewN m) A #[.int .i64 0, .string ⟨#[]⟩, .slice none 0 0, .string ⟨#[]⟩, .int .i64 k]) := Lib.hid (Xm.Row5.grow HP4.out (Flow.grow_drewN w4 m))
    have HM5 : Hid (Xm.Mv w b (w4.drewN m)) := Lib.hid (HM4.out.trans Xm.Mv.drew)
    clear HS4 HR4 HP4 HM4 HTb HXb
    (try clear c1 f1)
    generalize w4.drewN m = w5 at *
    have HTb : Hid (Xm.Tab w5) := Lib.hid (HT.out.mv HM5.out hb1)
    have HXb : Hid (Xm.Max w5) := Lib.hid (HM.out.mv HM5.out hb1)
    cases hcl : Xm.hasAt s k ⟨#[60]⟩
    rotate_left
    · have hkd : k + 1 ≤ s.size := Xm.hasAt_bd hkk hcl
      have HCL' : Hid (Xm.hasAt s k Xm.ltS = true) := Lib.hid hcl
      have HCL := Lib.hid hcl
      clear hcl
      have c1 := HS5.out.c.2.1
      have f1 := HS5.out.c.2.2.2.2.1
      go_upto_region 30 with (go_at_call 66; refine (has_any _ _ _ _ _ _ _ HS5.out hkk (by omega)).mono ?_; rintro e w9 ⟨rfl, m, rfl⟩; rw [HCL.out])
      have HS6 : Hid (Xm.Sc ((w5.drewN m).setCell ⟨b, 1, none⟩ (.int .i64 ((k : Int) + 1))) b s ((k + 1 : Nat) : Int) 0 bad) := Lib.hid (Xm.Sc.at' (Xm.Sc.grow HS5.out (Flow.grow_drewN w5 m)) _)
      have HR6 : Hid (Xm.Zr ((w5.drewN m).setCell ⟨b, 1, none⟩ (.int .i64 ((k : Int) + 1))) B) := Lib.hid (Xm.Row5.other (Xm.Row5.grow HR5.out (Flow.grow_drewN w5 m)) HbR.out)
      have HP6 : Hid (Xm.Row5 ((w5.drewN m).setCell ⟨b, 1, none⟩ (.int .i64 ((k : Int) + 1))) A #[.int .i64 0, .string ⟨#[]⟩, .slice none 0 0, .string ⟨#[]⟩, .int .i64 k]) := Lib.hid (Xm.Row5.other (Xm.Row5.grow HP5.out (Flow.grow_drewN w5 m)) HAb.out)
      have HM6 : Hid (Xm.Mv w b ((w5.drewN m).setCell ⟨b, 1, none⟩ (.int .i64 ((k : Int) + 1)))) := Lib.hid ((HM5.out.trans Xm.Mv.drew).trans Xm.Mv.set)
      clear HS5 HR5 HP5 HM5 HTb HXb
      (try clear c1 f1)
      generalize (w5.drewN m).setCell ⟨b, 1, none⟩ (.int .i64 ((k : Int) + 1)) = w6 at *
      have HTb : Hid (Xm.Tab w6) := Lib.hid (HT.out.mv HM6.out hb1)
      have HXb : Hid (Xm.Max w6) := Lib.hid (HM.out.mv HM6.out hb1)
      obtain ⟨tr, htr⟩ : ∃ x, x = Xm.tagR s ⟨k + 1, 0, bad⟩ := ⟨_, rfl⟩
      obtain ⟨nm, hnm⟩ : ∃ x, x = Xm.nameS s (k + 1) := ⟨_, rfl⟩
      have HQ : Hid (Xm.pieceOf s k bad = (⟨tr.1, nm, tr.2.1, ByteArray.empty, k⟩, tr.2.2)) := Lib.hid (by rw [Xm.pieceOf, if_neg (by rw [HC1.out]; simp), if_neg (by rw [HC2.out]; simp), if_pos HCL'.out, htr, hnm])
      have Htr := Lib.hid htr
      have Hnm := Lib.hid hnm
      clear htr hnm
      have p0 := (cell_of_row w6 A 0 _ _ _ HP6.out).trans rfl
      have p1 := (cell_of_row w6 A 1 _ _ _ HP6.out).trans rfl
      have p2 := (cell_of_row w6 A 2 _ _ _ HP6.out).trans rfl
      have p3 := (cell_of_row w6 A 3 _ _ _ HP6.out).trans rfl
      have p4 := (cell_of_row w6 A 4 _ _ _ HP6.out).trans rfl
      have HAlt := Lib.hid (show A < w6.heap.size from HP6.out.lt)
      have HBlt := Lib.hid (show B < w6.heap.size from Xm.Row5.lt HR6.out)
      go_upto_region 31 with (go_at_call 70; refine (tag_T b s ⟨k + 1, 0, bad⟩ k w6 HS6.out hkd hs HTb.out HXb.out hb1).mono ?_; rintro e w7 ⟨va, rfl, hat, hfr, hs7, hm7⟩; rw [← Htr.out] at hat hs7 ⊢; rw [← Hnm.out]; obtain ⟨ao, cap, hva⟩ := hat.shape; subst hva; unfold Xm.pieceA; have HP7 := Lib.hid (Xm.Row5.mv HP6.out hm7 HAb.out); have q0 := (cell_of_row w7 A 0 _ _ _ HP7.out).trans rfl; have qf0 : w7.frozen? ⟨A, 0, none⟩ = false := frozen_of_row w7 A _ _ _ HP7.out; have q1 := (cell_of_row w7 A 1 _ _ _ HP7.out).trans rfl; have qf1 : w7.frozen? ⟨A, 1, none⟩ = false := frozen_of_row w7 A _ _ _ HP7.out; have q2 := (cell_of_row w7 A 2 _ _ _ HP7.out).trans rfl; have qf2 : w7.frozen? ⟨A, 2, none⟩ = false := frozen_of_row w7 A _ _ _ HP7.out; have q3 := (cell_of_row w7 A 3 _ _ _ HP7.out).trans rfl; have qf3 : w7.frozen? ⟨A, 3, none⟩ = false := frozen_of_row w7 A _ _ _ HP7.out; have q4 := (cell_of_row w7 A 4 _ _ _ HP7.out).trans rfl; have qf4 : w7.frozen? ⟨A, 4, none⟩ = false := frozen_of_row w7 A _ _ _ HP7.out)
      have hfA : (Value.slice ao tr.2.1.length cap).ownBlock ≠ some A := hfr A HAlt.out
      have HfB : Hid ((Value.slice ao tr.2.1.length cap).ownBlock ≠ some B) := Lib.hid (hfr B HBlt.out)
      have HFr : Hid (Xm.Fresh w (.slice ao tr.2.1.length cap)) := Lib.hid (fun q hq => hfr q (Nat.lt_of_lt_of_le hq HM6.out.size))
      have HSf : Hid (Xm.Scs (((((w7.setCell ⟨A, 0, none⟩ (.int .i64 tr.1)).setCell ⟨A, 1, none⟩ (.string nm)).setCell ⟨A, 2, none⟩ (.slice ao tr.2.1.length cap)).setCell ⟨A, 3, none⟩ (.string ByteArray.empty)).setCell ⟨A, 4, none⟩ (.int .i64 k)) b s tr.2.2) := Lib.hid (Xm.Sc.other (Xm.Sc.other (Xm.Sc.other (Xm.Sc.other (Xm.Sc.other hs7 HAb'.out) HAb'.out) HAb'.out) HAb'.out) HAb'.out)
      have HRf : Hid (Xm.Zr (((((w7.setCell ⟨A, 0, none⟩ (.int .i64 tr.1)).setCell ⟨A, 1, none⟩ (.string nm)).setCell ⟨A, 2, none⟩ (.slice ao tr.2.1.length cap)).setCell ⟨A, 3, none⟩ (.string ByteArray.empty)).setCell ⟨A, 4, none⟩ (.int .i64 k)) B) := Lib.hid (Xm.Row5.other (Xm.Row5.other (Xm.Row5.other (Xm.Row5.other (Xm.Row5.other (Xm.Row5.mv HR6.out hm7 HbR.out) HBA.out) HBA.out) HBA.out) HBA.out) HBA.out)
      have hwA : w.heap.size ≤ A := by have := HAB.out; have := HB.out; omega
      have HMf : Hid (Xm.Mv w b (((((w7.setCell ⟨A, 0, none⟩ (.int .i64 tr.1)).setCell ⟨A, 1, none⟩ (.string nm)).setCell ⟨A, 2, none⟩ (.slice ao tr.2.1.length cap)).setCell ⟨A, 3, none⟩ (.string ByteArray.empty)).setCell ⟨A, 4, none⟩ (.int .i64 k))) := Lib.hid ((((((HM6.out.trans hm7).setNew hwA).setNew hwA).setNew hwA).setNew hwA).setNew hwA)
      have HPf : Hid (Xm.Row5 (((((w7.setCell ⟨A, 0, none⟩ (.int .i64 tr.1)).setCell ⟨A, 1, none⟩ (.string nm)).setCell ⟨A, 2, none⟩ (.slice ao tr.2.1.length cap)).setCell ⟨A, 3, none⟩ (.string ByteArray.empty)).setCell ⟨A, 4, none⟩ (.int .i64 k)) A #[.int .i64 tr.1, .string nm, .slice ao tr.2.1.length cap, .string ByteArray.empty, .int .i64 k]) := Lib.hid (set5 HP7.out _ _ _ _ _)
      have HAt : Hid (Xm.AttrsAt (((((w7.setCell ⟨A, 0, none⟩ (.int .i64 tr.1)).setCell ⟨A, 1, none⟩ (.string nm)).setCell ⟨A, 2, none⟩ (.slice ao tr.2.1.length cap)).setCell ⟨A, 3, none⟩ (.string ByteArray.empty)).setCell ⟨A, 4, none⟩ (.int .i64 k)) (.slice ao tr.2.1.length cap) tr.2.1) := Lib.hid (((((hat.set hfA).set hfA).set hfA).set hfA).set hfA)
      clear q0 qf0 q1 qf1 q2 qf2 q3 qf3 q4 qf4 p0 p1 p2 p3 p4 HP7 HS6 HR6 HP6 HM6 HTb HXb hat hfr hs7 hm7 hfA hwA
      generalize ((((w7.setCell ⟨A, 0, none⟩ (.int .i64 tr.1)).setCell ⟨A, 1, none⟩ (.string nm)).setCell ⟨A, 2, none⟩ (.slice ao tr.2.1.length cap)).setCell ⟨A, 3, none⟩ (.string ByteArray.empty)).setCell ⟨A, 4, none⟩ (.int .i64 k) = wf at *
      generalize tr.1 = tk at *
      generalize htl : tr.2.1 = tl at *
      generalize tr.2.2 = tq at *
      obtain ⟨q, hqe⟩ : ∃ q, q = (Xm.pieceOf s k bad).2 := ⟨_, rfl⟩
      have HSq : Hid (Xm.Sc wf b s q.k q.e q.bad) := Lib.hid (by rw [hqe, HQ.out]; exact HSf.out)
      have HQe := Lib.hid hqe
      clear hqe
      have hz : Xm.Row5 wf B #[.int .i64 0, .string ⟨#[]⟩, .slice none 0 0, .string ⟨#[]⟩, .int .i64 0] := HRf.out
      have Hz := Lib.hid hz
      clear hz
      have r0 := (cell_of_row wf (B) 0 _ _ _ Hz.out).trans rfl
      have rf0 : wf.frozen? ⟨B, 0, none⟩ = false := frozen_of_row wf (B) _ _ _ Hz.out
      have r1 := (cell_of_row wf (B) 1 _ _ _ Hz.out).trans rfl
      have rf1 : wf.frozen? ⟨B, 1, none⟩ = false := frozen_of_row wf (B) _ _ _ Hz.out
      have r2 := (cell_of_row wf (B) 2 _ _ _ Hz.out).trans rfl
      have rf2 : wf.frozen? ⟨B, 2, none⟩ = false := frozen_of_row wf (B) _ _ _ Hz.out
      have r3 := (cell_of_row wf (B) 3 _ _ _ Hz.out).trans rfl
      have rf3 : wf.frozen? ⟨B, 3, none⟩ = false := frozen_of_row wf (B) _ _ _ Hz.out
      have r4 := (cell_of_row wf (B) 4 _ _ _ Hz.out).trans rfl
      have rf4 : wf.frozen? ⟨B, 4, none⟩ = false := frozen_of_row wf (B) _ _ _ Hz.out
      have c2 := HSq.out.c.2.2.1
      by_cases hqz : q.e = 0
      · have g : (q.e != 0) = false := by simpa using hqz
        have HE : Hid (Xm.nextR s p = (Xm.pieceOf s k bad)) := Lib.hid (by rw [HP.out, ← HQe.out, if_neg (by simpa using hqz)])
        have p0 := (cell_of_row wf A 0 _ _ _ HPf.out).trans rfl
        have p1 := (cell_of_row wf A 1 _ _ _ HPf.out).trans rfl
        have p2 := (cell_of_row wf A 2 _ _ _ HPf.out).trans rfl
        have p3 := (cell_of_row wf A 3 _ _ _ HPf.out).trans rfl
        have p4 := (cell_of_row wf A 4 _ _ _ HPf.out).trans rfl
        have hne : ¬ A = B := Ne.symm HBA.out
        have hne' : ¬ B = A := HBA.out
        clear hqz
        go_wp2
        (try simp only [Exit.inBlock, Exit.then])
        first
        | exact bodyPost_end (next_res _ _ B _ rfl (set5 Hz.out _ _ _ _ _) rfl) rfl (next_fin (HE.out.trans HQ.out) HAt.out HFr.out HfB.out HSf.out HMf.out HbR'.out (by have := HB.out; omega))
        | exact bodyPost_ret (next_res _ _ B _ rfl (set5 Hz.out _ _ _ _ _) rfl) rfl (next_fin (HE.out.trans HQ.out) HAt.out HFr.out HfB.out HSf.out HMf.out HbR'.out (by have := HB.out; omega))
      · have g : (q.e != 0) = true := by simpa using hqz
        have HE : Hid (Xm.nextR s p = (Xm.Pc.zero, q)) := Lib.hid (by rw [HP.out, ← HQe.out, if_pos (by simpa using hqz)])
        clear hqz
        go_wp2
        (try simp only [Exit.inBlock, Exit.then])
        exact bodyPost_ret (next_res _ _ B _ rfl (set5 Hz.out _ _ _ _ _) rfl) rfl (next_zero HE.out HSq.out HMf.out HbR'.out (by have := HB.out; omega))
    have HC3 : Hid (Xm.hasAt s k Xm.ltS = false) := Lib.hid hcl
    have HCL := Lib.hid hcl
    clear hcl
    go_upto_region 7 with (go_at_call 66; refine (has_any _ _ _ _ _ _ _ HS5.out hkk (by omega)).mono ?_; rintro e w9 ⟨rfl, m, rfl⟩; rw [HCL.out])
    have HS6 : Hid (Xm.Sc (w5.drewN m) b s (k : Int) 0 bad) := Lib.hid (Xm.Sc.grow HS5.out (Flow.grow_drewN w5 m))
    have HR6 : Hid (Xm.Zr (w5.drewN m) B) := Lib.hid (Xm.Row5.grow HR5.out (Flow.grow_drewN w5 m))
    have HP6 : Hid (Xm.Row5 (w5.drewN m) A #[.int .i64 0, .string ⟨#[]⟩, .slice none 0 0, .string ⟨#[]⟩, .int .i64 k]) := Lib.hid (Xm.Row5.grow HP5.out (Flow.grow_drewN w5 m))
    have HM6 : Hid (Xm.Mv w b (w5.drewN m)) := Lib.hid (HM5.out.trans Xm.Mv.drew)
    clear HS5 HR5 HP5 HM5 HTb HXb
    (try clear c1 f1)
    generalize w5.drewN m = w6 at *
    have HTb : Hid (Xm.Tab w6) := Lib.hid (HT.out.mv HM6.out hb1)
    have HXb : Hid (Xm.Max w6) := Lib.hid (HM.out.mv HM6.out hb1)
    obtain ⟨n1, hne⟩ : ∃ n, n = Xm.far s k 60 := ⟨_, rfl⟩
    have Hn : Hid (Lib.indexByte (s.extract k s.size).data.toList ((60 : Int).toNat.toUInt8) = n1) := Lib.hid (by rw [hne]; rfl)
    have hfb := Xm.far_bd (s := s) hkk 60
    rw [← hne] at hfb
    have Hne := Lib.hid hne
    clear hne
    by_cases hn0 : n1 < 0
    · obtain ⟨m, hmm⟩ : ∃ m : Nat, m = s.size - k := ⟨_, rfl⟩
      have HmN : Hid (m = Xm.runN s k) := Lib.hid (by rw [Xm.runN, if_pos (by rw [← Hne.out]; exact hn0), hmm])
      have e9 : IntKind.i64.wrap ((s.size : Int) - k) = (m : Int) := by rw [IntWalk.i64_in _ (by omega)]; omega
      have e9' : (s.size : Int) - k = (m : Int) := by have := Hks.out; omega
      have hkm : k + m ≤ s.size := by omega
      obtain ⟨v, hv⟩ : ∃ v, v = s.extract k (k + m) := ⟨_, rfl⟩
      have HQ : Hid (Xm.pieceOf s k bad = (⟨4, ByteArray.empty, [], Xm.opened v, k⟩, Xm.openT ⟨k + m, 0, bad⟩ v k)) := Lib.hid (by rw [Xm.pieceOf, if_neg (by rw [HC1.out]; simp), if_neg (by rw [HC2.out]; simp), if_neg (by rw [HC3.out]; simp), ← HmN.out, ← hv])
      have hvs : v.size ≤ 1000000000 := by rw [hv]; simp; omega
      have Hvs := Lib.hid hvs
      have hsl := run_cut s k (k + m) (by omega) (by omega) (k : Int) ((k : Int) + m) rfl (by omega)
      rw [← hv] at hsl
      have e1 : IntKind.i64.wrap ((k : Int) + m) = (k : Int) + m := IntWalk.i64_in _ (by omega)
      have Hks' := Hks.out
      clear hv hvs hfb Hks'
      have c0 := HS6.out.c.1
      have c1 := HS6.out.c.2.1
      go_wp2_with fail
      go_quiet ((go_at_call 71; exact Calls.quiet_of_same (ibyte_quiet _ _ _ _ Hn.out)))
      have HS7 : Hid (Xm.Sc (w6.drewN nq) b s k 0 bad) := Lib.hid (Xm.Sc.grow HS6.out (Flow.grow_drewN _ _))
      have HR7 : Hid (Xm.Zr (w6.drewN nq) B) := Lib.hid (Xm.Row5.grow HR6.out (Flow.grow_drewN _ _))
      have HM7 : Hid (Xm.Mv w b (w6.drewN nq)) := Lib.hid (HM6.out.trans Xm.Mv.drew)
      have HP7 : Hid (Xm.Row5 (w6.drewN nq) A #[.int .i64 0, .string ⟨#[]⟩, .slice none 0 0, .string ⟨#[]⟩, .int .i64 k]) := Lib.hid (Xm.Row5.grow HP6.out (Flow.grow_drewN _ _))
      clear c0 c1 HS6 HR6 HM6 HP6
      (try clear HTb HXb)
      generalize w6.drewN nq = w7 at *
      have c0 := HS7.out.c.1
      have c1 := HS7.out.c.2.1
      go_wp2_with fail
      go_quiet (fail)
      rw [← hmm]
      clear hmm e9 e9'
      have HS8 : Hid (Xm.Sc (w7.drewN nq) b s k 0 bad) := Lib.hid (Xm.Sc.grow HS7.out (Flow.grow_drewN _ _))
      have HR8 : Hid (Xm.Zr (w7.drewN nq) B) := Lib.hid (Xm.Row5.grow HR7.out (Flow.grow_drewN _ _))
      have HM8 : Hid (Xm.Mv w b (w7.drewN nq)) := Lib.hid (HM7.out.trans Xm.Mv.drew)
      have HP8 : Hid (Xm.Row5 (w7.drewN nq) A #[.int .i64 0, .string ⟨#[]⟩, .slice none 0 0, .string ⟨#[]⟩, .int .i64 k]) := Lib.hid (Xm.Row5.grow HP7.out (Flow.grow_drewN _ _))
      clear c0 c1 HS7 HR7 HM7 HP7
      (try clear HTb HXb)
      generalize w7.drewN nq = w8 at *
      have c0 := HS8.out.c.1
      have c1 := HS8.out.c.2.1
      go_wp2_with fail
      go_quiet (fail)
      have HS9 : Hid (Xm.Sc (w8.drewN nq) b s k 0 bad) := Lib.hid (Xm.Sc.grow HS8.out (Flow.grow_drewN _ _))
      have HR9 : Hid (Xm.Zr (w8.drewN nq) B) := Lib.hid (Xm.Row5.grow HR8.out (Flow.grow_drewN _ _))
      have HM9 : Hid (Xm.Mv w b (w8.drewN nq)) := Lib.hid (HM8.out.trans Xm.Mv.drew)
      have HP9 : Hid (Xm.Row5 (w8.drewN nq) A #[.int .i64 0, .string ⟨#[]⟩, .slice none 0 0, .string ⟨#[]⟩, .int .i64 k]) := Lib.hid (Xm.Row5.grow HP8.out (Flow.grow_drewN _ _))
      clear c0 c1 HS8 HR8 HM8 HP8
      (try clear HTb HXb)
      generalize w8.drewN nq = w9 at *
      have c0 := HS9.out.c.1
      have c1 := HS9.out.c.2.1
      have f1 := HS9.out.c.2.2.2.2.1
      go_upto_region 12 with fail
      have HSa : Hid (Xm.Scs (w9.setCell ⟨b, 1, none⟩ (.int .i64 ((k : Int) + m))) b s ⟨k + m, 0, bad⟩) := Lib.hid (Xm.Sc.at' HS9.out _)
      have HMy : Hid (Xm.Mv w9 b (w9.setCell ⟨b, 1, none⟩ (.int .i64 ((k : Int) + m)))) := Lib.hid Xm.Mv.set
      have HRa : Hid (Xm.Zr (w9.setCell ⟨b, 1, none⟩ (.int .i64 ((k : Int) + m))) B) := Lib.hid (Xm.Row5.mv HR9.out HMy.out HbR.out)
      have HMa : Hid (Xm.Mv w b (w9.setCell ⟨b, 1, none⟩ (.int .i64 ((k : Int) + m)))) := Lib.hid (HM9.out.trans HMy.out)
      have HPa : Hid (Xm.Row5 (w9.setCell ⟨b, 1, none⟩ (.int .i64 ((k : Int) + m))) A #[.int .i64 0, .string ⟨#[]⟩, .slice none 0 0, .string ⟨#[]⟩, .int .i64 k]) := Lib.hid (Xm.Row5.mv HP9.out HMy.out HAb.out)
      clear c0 c1 f1 hsl e1 HMy HS9 HR9 HM9 HP9
      generalize w9.setCell ⟨b, 1, none⟩ (.int .i64 ((k : Int) + m)) = wa at *
      have HTa : Hid (Xm.Tab wa) := Lib.hid (HT.out.mv HMa.out hb1)
      have p4 := (cell_of_row wa A 4 _ _ _ HPa.out).trans rfl
      go_upto_region 31 with (go_at_call 72; refine (sopen_T b s v ⟨k + m, 0, bad⟩ k wa HSa.out HTa.out hb1 Hvs.out (by omega)).mono ?_; rintro e w8 ⟨rfl, hs8, hm8⟩; have HP8 := Lib.hid (Xm.Row5.mv HPa.out hm8 HAb.out); have q0 := (cell_of_row w8 A 0 _ _ _ HP8.out).trans rfl; have qf0 : w8.frozen? ⟨A, 0, none⟩ = false := frozen_of_row w8 A _ _ _ HP8.out; have q3 := (cell_of_row w8 A 3 _ _ _ HP8.out).trans rfl; have qf3 : w8.frozen? ⟨A, 3, none⟩ = false := frozen_of_row w8 A _ _ _ HP8.out)
      have HSf : Hid (Xm.Scs ((w8.setCell ⟨A, 0, none⟩ (.int .i64 4)).setCell ⟨A, 3, none⟩ (.string (Xm.opened v))) b s (Xm.openT ⟨k + m, 0, bad⟩ v k)) := Lib.hid (Xm.Sc.other (Xm.Sc.other hs8 HAb'.out) HAb'.out)
      have HRf : Hid (Xm.Zr ((w8.setCell ⟨A, 0, none⟩ (.int .i64 4)).setCell ⟨A, 3, none⟩ (.string (Xm.opened v))) B) := Lib.hid (Xm.Row5.other (Xm.Row5.other (Xm.Row5.mv HRa.out hm8 HbR.out) HBA.out) HBA.out)
      have HMf : Hid (Xm.Mv w b ((w8.setCell ⟨A, 0, none⟩ (.int .i64 4)).setCell ⟨A, 3, none⟩ (.string (Xm.opened v)))) := Lib.hid (((HMa.out.trans hm8).setNew (by have := HAB.out; have := HB.out; omega)).setNew (by have := HAB.out; have := HB.out; omega))
      have HPf : Hid (Xm.Row5 ((w8.setCell ⟨A, 0, none⟩ (.int .i64 4)).setCell ⟨A, 3, none⟩ (.string (Xm.opened v))) A #[.int .i64 4, .string ⟨#[]⟩, .slice none 0 0, .string (Xm.opened v), .int .i64 k]) := Lib.hid ((Xm.Row5.set HP8.out 0 (.int .i64 4)).set 3 (.string (Xm.opened v)))
      clear q0 qf0 q3 qf3 p4 HP8 HSa HRa HMa HPa HTa hs8 hm8
      generalize (w8.setCell ⟨A, 0, none⟩ (.int .i64 4)).setCell ⟨A, 3, none⟩ (.string (Xm.opened v)) = wf at *
      obtain ⟨q, hqe⟩ : ∃ q, q = (Xm.pieceOf s k bad).2 := ⟨_, rfl⟩
      have HSq : Hid (Xm.Sc wf b s q.k q.e q.bad) := Lib.hid (by rw [hqe, HQ.out]; exact HSf.out)
      have HQe := Lib.hid hqe
      clear hqe
      have hz : Xm.Row5 wf B #[.int .i64 0, .string ⟨#[]⟩, .slice none 0 0, .string ⟨#[]⟩, .int .i64 0] := HRf.out
      have Hz := Lib.hid hz
      clear hz
      have r0 := (cell_of_row wf (B) 0 _ _ _ Hz.out).trans rfl
      have rf0 : wf.frozen? ⟨B, 0, none⟩ = false := frozen_of_row wf (B) _ _ _ Hz.out
      have r1 := (cell_of_row wf (B) 1 _ _ _ Hz.out).trans rfl
      have rf1 : wf.frozen? ⟨B, 1, none⟩ = false := frozen_of_row wf (B) _ _ _ Hz.out
      have r2 := (cell_of_row wf (B) 2 _ _ _ Hz.out).trans rfl
      have rf2 : wf.frozen? ⟨B, 2, none⟩ = false := frozen_of_row wf (B) _ _ _ Hz.out
      have r3 := (cell_of_row wf (B) 3 _ _ _ Hz.out).trans rfl
      have rf3 : wf.frozen? ⟨B, 3, none⟩ = false := frozen_of_row wf (B) _ _ _ Hz.out
      have r4 := (cell_of_row wf (B) 4 _ _ _ Hz.out).trans rfl
      have rf4 : wf.frozen? ⟨B, 4, none⟩ = false := frozen_of_row wf (B) _ _ _ Hz.out
      have c2 := HSq.out.c.2.2.1
      by_cases hqz : q.e = 0
      · have g : (q.e != 0) = false := by simpa using hqz
        have HE : Hid (Xm.nextR s p = (Xm.pieceOf s k bad)) := Lib.hid (by rw [HP.out, ← HQe.out, if_neg (by simpa using hqz)])
        have p0 := (cell_of_row wf A 0 _ _ _ HPf.out).trans rfl
        have p1 := (cell_of_row wf A 1 _ _ _ HPf.out).trans rfl
        have p2 := (cell_of_row wf A 2 _ _ _ HPf.out).trans rfl
        have p3 := (cell_of_row wf A 3 _ _ _ HPf.out).trans rfl
        have p4 := (cell_of_row wf A 4 _ _ _ HPf.out).trans rfl
        have hne : ¬ A = B := Ne.symm HBA.out
        have hne' : ¬ B = A := HBA.out
        clear hqz
        go_wp2
        (try simp only [Exit.inBlock, Exit.then])
        first
        | exact bodyPost_end (next_res _ _ B _ rfl (set5 Hz.out _ _ _ _ _) rfl) rfl (next_fin (HE.out.trans HQ.out) (.inl ⟨rfl, rfl⟩) (fun q _ => by simp [Value.ownBlock]) (by simp [Value.ownBlock]) HSf.out HMf.out HbR'.out (by have := HB.out; omega))
        | exact bodyPost_ret (next_res _ _ B _ rfl (set5 Hz.out _ _ _ _ _) rfl) rfl (next_fin (HE.out.trans HQ.out) (.inl ⟨rfl, rfl⟩) (fun q _ => by simp [Value.ownBlock]) (by simp [Value.ownBlock]) HSf.out HMf.out HbR'.out (by have := HB.out; omega))
      · have g : (q.e != 0) = true := by simpa using hqz
        have HE : Hid (Xm.nextR s p = (Xm.Pc.zero, q)) := Lib.hid (by rw [HP.out, ← HQe.out, if_pos (by simpa using hqz)])
        clear hqz
        go_wp2
        (try simp only [Exit.inBlock, Exit.then])
        exact bodyPost_ret (next_res _ _ B _ rfl (set5 Hz.out _ _ _ _ _) rfl) rfl (next_zero HE.out HSq.out HMf.out HbR'.out (by have := HB.out; omega))
    · obtain ⟨m, rfl⟩ := Int.eq_ofNat_of_zero_le (Int.not_lt.1 hn0)
      have HmN : Hid (m = Xm.runN s k) := Lib.hid (by rw [Xm.runN, if_neg (by rw [← Hne.out]; exact hn0), ← Hne.out, Int.toNat_natCast])
      have hfb2 := hfb.2 (by omega)
      rw [Int.toNat_natCast] at hfb2
      clear hn0
      have hkm : k + m ≤ s.size := by omega
      obtain ⟨v, hv⟩ : ∃ v, v = s.extract k (k + m) := ⟨_, rfl⟩
      have HQ : Hid (Xm.pieceOf s k bad = (⟨4, ByteArray.empty, [], Xm.opened v, k⟩, Xm.openT ⟨k + m, 0, bad⟩ v k)) := Lib.hid (by rw [Xm.pieceOf, if_neg (by rw [HC1.out]; simp), if_neg (by rw [HC2.out]; simp), if_neg (by rw [HC3.out]; simp), ← HmN.out, ← hv])
      have hvs : v.size ≤ 1000000000 := by rw [hv]; simp; omega
      have Hvs := Lib.hid hvs
      have hsl := run_cut s k (k + m) (by omega) (by omega) (k : Int) ((k : Int) + m) rfl (by omega)
      rw [← hv] at hsl
      have e1 : IntKind.i64.wrap ((k : Int) + m) = (k : Int) + m := IntWalk.i64_in _ (by omega)
      have Hks' := Hks.out
      clear hv hvs hfb Hks'
      have c0 := HS6.out.c.1
      have c1 := HS6.out.c.2.1
      go_wp2_with fail
      go_quiet ((go_at_call 71; exact Calls.quiet_of_same (ibyte_quiet _ _ _ _ Hn.out)))
      have HS7 : Hid (Xm.Sc (w6.drewN nq) b s k 0 bad) := Lib.hid (Xm.Sc.grow HS6.out (Flow.grow_drewN _ _))
      have HR7 : Hid (Xm.Zr (w6.drewN nq) B) := Lib.hid (Xm.Row5.grow HR6.out (Flow.grow_drewN _ _))
      have HM7 : Hid (Xm.Mv w b (w6.drewN nq)) := Lib.hid (HM6.out.trans Xm.Mv.drew)
      have HP7 : Hid (Xm.Row5 (w6.drewN nq) A #[.int .i64 0, .string ⟨#[]⟩, .slice none 0 0, .string ⟨#[]⟩, .int .i64 k]) := Lib.hid (Xm.Row5.grow HP6.out (Flow.grow_drewN _ _))
      clear c0 c1 HS6 HR6 HM6 HP6
      (try clear HTb HXb)
      generalize w6.drewN nq = w7 at *
      have c0 := HS7.out.c.1
      have c1 := HS7.out.c.2.1
      go_wp2_with fail
      go_quiet (fail)
      have HS8 : Hid (Xm.Sc (w7.drewN nq) b s k 0 bad) := Lib.hid (Xm.Sc.grow HS7.out (Flow.grow_drewN _ _))
      have HR8 : Hid (Xm.Zr (w7.drewN nq) B) := Lib.hid (Xm.Row5.grow HR7.out (Flow.grow_drewN _ _))
      have HM8 : Hid (Xm.Mv w b (w7.drewN nq)) := Lib.hid (HM7.out.trans Xm.Mv.drew)
      have HP8 : Hid (Xm.Row5 (w7.drewN nq) A #[.int .i64 0, .string ⟨#[]⟩, .slice none 0 0, .string ⟨#[]⟩, .int .i64 k]) := Lib.hid (Xm.Row5.grow HP7.out (Flow.grow_drewN _ _))
      clear c0 c1 HS7 HR7 HM7 HP7
      (try clear HTb HXb)
      generalize w7.drewN nq = w8 at *
      have c0 := HS8.out.c.1
      have c1 := HS8.out.c.2.1
      have f1 := HS8.out.c.2.2.2.2.1
      go_upto_region 12 with fail
      have HSa : Hid (Xm.Scs (w8.setCell ⟨b, 1, none⟩ (.int .i64 ((k : Int) + m))) b s ⟨k + m, 0, bad⟩) := Lib.hid (Xm.Sc.at' HS8.out _)
      have HMy : Hid (Xm.Mv w8 b (w8.setCell ⟨b, 1, none⟩ (.int .i64 ((k : Int) + m)))) := Lib.hid Xm.Mv.set
      have HRa : Hid (Xm.Zr (w8.setCell ⟨b, 1, none⟩ (.int .i64 ((k : Int) + m))) B) := Lib.hid (Xm.Row5.mv HR8.out HMy.out HbR.out)
      have HMa : Hid (Xm.Mv w b (w8.setCell ⟨b, 1, none⟩ (.int .i64 ((k : Int) + m)))) := Lib.hid (HM8.out.trans HMy.out)
      have HPa : Hid (Xm.Row5 (w8.setCell ⟨b, 1, none⟩ (.int .i64 ((k : Int) + m))) A #[.int .i64 0, .string ⟨#[]⟩, .slice none 0 0, .string ⟨#[]⟩, .int .i64 k]) := Lib.hid (Xm.Row5.mv HP8.out HMy.out HAb.out)
      clear c0 c1 f1 hsl e1 HMy HS8 HR8 HM8 HP8
      generalize w8.setCell ⟨b, 1, none⟩ (.int .i64 ((k : Int) + m)) = wa at *
      have HTa : Hid (Xm.Tab wa) := Lib.hid (HT.out.mv HMa.out hb1)
      have p4 := (cell_of_row wa A 4 _ _ _ HPa.out).trans rfl
      go_upto_region 31 with (go_at_call 72; refine (sopen_T b s v ⟨k + m, 0, bad⟩ k wa HSa.out HTa.out hb1 Hvs.out (by omega)).mono ?_; rintro e w8 ⟨rfl, hs8, hm8⟩; have HP8 := Lib.hid (Xm.Row5.mv HPa.out hm8 HAb.out); have q0 := (cell_of_row w8 A 0 _ _ _ HP8.out).trans rfl; have qf0 : w8.frozen? ⟨A, 0, none⟩ = false := frozen_of_row w8 A _ _ _ HP8.out; have q3 := (cell_of_row w8 A 3 _ _ _ HP8.out).trans rfl; have qf3 : w8.frozen? ⟨A, 3, none⟩ = false := frozen_of_row w8 A _ _ _ HP8.out)
      have HSf : Hid (Xm.Scs ((w8.setCell ⟨A, 0, none⟩ (.int .i64 4)).setCell ⟨A, 3, none⟩ (.string (Xm.opened v))) b s (Xm.openT ⟨k + m, 0, bad⟩ v k)) := Lib.hid (Xm.Sc.other (Xm.Sc.other hs8 HAb'.out) HAb'.out)
      have HRf : Hid (Xm.Zr ((w8.setCell ⟨A, 0, none⟩ (.int .i64 4)).setCell ⟨A, 3, none⟩ (.string (Xm.opened v))) B) := Lib.hid (Xm.Row5.other (Xm.Row5.other (Xm.Row5.mv HRa.out hm8 HbR.out) HBA.out) HBA.out)
      have HMf : Hid (Xm.Mv w b ((w8.setCell ⟨A, 0, none⟩ (.int .i64 4)).setCell ⟨A, 3, none⟩ (.string (Xm.opened v)))) := Lib.hid (((HMa.out.trans hm8).setNew (by have := HAB.out; have := HB.out; omega)).setNew (by have := HAB.out; have := HB.out; omega))
      have HPf : Hid (Xm.Row5 ((w8.setCell ⟨A, 0, none⟩ (.int .i64 4)).setCell ⟨A, 3, none⟩ (.string (Xm.opened v))) A #[.int .i64 4, .string ⟨#[]⟩, .slice none 0 0, .string (Xm.opened v), .int .i64 k]) := Lib.hid ((Xm.Row5.set HP8.out 0 (.int .i64 4)).set 3 (.string (Xm.opened v)))
      clear q0 qf0 q3 qf3 p4 HP8 HSa HRa HMa HPa HTa hs8 hm8
      generalize (w8.setCell ⟨A, 0, none⟩ (.int .i64 4)).setCell ⟨A, 3, none⟩ (.string (Xm.opened v)) = wf at *
      obtain ⟨q, hqe⟩ : ∃ q, q = (Xm.pieceOf s k bad).2 := ⟨_, rfl⟩
      have HSq : Hid (Xm.Sc wf b s q.k q.e q.bad) := Lib.hid (by rw [hqe, HQ.out]; exact HSf.out)
      have HQe := Lib.hid hqe
      clear hqe
      have hz : Xm.Row5 wf B #[.int .i64 0, .string ⟨#[]⟩, .slice none 0 0, .string ⟨#[]⟩, .int .i64 0] := HRf.out
      have Hz := Lib.hid hz
      clear hz
      have r0 := (cell_of_row wf (B) 0 _ _ _ Hz.out).trans rfl
      have rf0 : wf.frozen? ⟨B, 0, none⟩ = false := frozen_of_row wf (B) _ _ _ Hz.out
      have r1 := (cell_of_row wf (B) 1 _ _ _ Hz.out).trans rfl
      have rf1 : wf.frozen? ⟨B, 1, none⟩ = false := frozen_of_row wf (B) _ _ _ Hz.out
      have r2 := (cell_of_row wf (B) 2 _ _ _ Hz.out).trans rfl
      have rf2 : wf.frozen? ⟨B, 2, none⟩ = false := frozen_of_row wf (B) _ _ _ Hz.out
      have r3 := (cell_of_row wf (B) 3 _ _ _ Hz.out).trans rfl
      have rf3 : wf.frozen? ⟨B, 3, none⟩ = false := frozen_of_row wf (B) _ _ _ Hz.out
      have r4 := (cell_of_row wf (B) 4 _ _ _ Hz.out).trans rfl
      have rf4 : wf.frozen? ⟨B, 4, none⟩ = false := frozen_of_row wf (B) _ _ _ Hz.out
      have c2 := HSq.out.c.2.2.1
      by_cases hqz : q.e = 0
      · have g : (q.e != 0) = false := by simpa using hqz
        have HE : Hid (Xm.nextR s p = (Xm.pieceOf s k bad)) := Lib.hid (by rw [HP.out, ← HQe.out, if_neg (by simpa using hqz)])
        have p0 := (cell_of_row wf A 0 _ _ _ HPf.out).trans rfl
        have p1 := (cell_of_row wf A 1 _ _ _ HPf.out).trans rfl
        have p2 := (cell_of_row wf A 2 _ _ _ HPf.out).trans rfl
        have p3 := (cell_of_row wf A 3 _ _ _ HPf.out).trans rfl
        have p4 := (cell_of_row wf A 4 _ _ _ HPf.out).trans rfl
        have hne : ¬ A = B := Ne.symm HBA.out
        have hne' : ¬ B = A := HBA.out
        clear hqz
        go_wp2
        (try simp only [Exit.inBlock, Exit.then])
        first
        | exact bodyPost_end (next_res _ _ B _ rfl (set5 Hz.out _ _ _ _ _) rfl) rfl (next_fin (HE.out.trans HQ.out) (.inl ⟨rfl, rfl⟩) (fun q _ => by simp [Value.ownBlock]) (by simp [Value.ownBlock]) HSf.out HMf.out HbR'.out (by have := HB.out; omega))
        | exact bodyPost_ret (next_res _ _ B _ rfl (set5 Hz.out _ _ _ _ _) rfl) rfl (next_fin (HE.out.trans HQ.out) (.inl ⟨rfl, rfl⟩) (fun q _ => by simp [Value.ownBlock]) (by simp [Value.ownBlock]) HSf.out HMf.out HbR'.out (by have := HB.out; omega))
      · have g : (q.e != 0) = true := by simpa using hqz
        have HE : Hid (Xm.nextR s p = (Xm.Pc.zero, q)) := Lib.hid (by rw [HP.out, ← HQe.out, if_pos (by simpa using hqz)])
        clear hqz
        go_wp2
        (try simp only [Exit.inBlock, Exit.then])
        exact bodyPost_ret (next_res _ _ B _ rfl (set5 Hz.out _ _ _ _ _) rfl) rfl (next_zero HE.out HSq.out HMf.out HbR'.out (by have := HB.out; omega))
end Go.Proofs.YtdpkhmfolmcejaaGreatDoor
