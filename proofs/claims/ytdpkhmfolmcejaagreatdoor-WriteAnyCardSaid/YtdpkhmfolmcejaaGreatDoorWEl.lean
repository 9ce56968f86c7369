/- write.element, Text by their contracts: strings.Builder with a frame that reaches above it. -/
import Derived.Test.YtdpkhmfolmcejaaGreatDoorMWn
import Derived.Test.YtdpkhmfolmcejaaGreatDoorWAll
import Derived.Test.YtdpkhmfolmcejaaGreatDoorMDo
import Derived.Lib.OthersKept
import Derived.Deep.DeepCutAuto
import Derived.BigQuiet
namespace Go.Proofs.YtdpkhmfolmcejaaGreatDoor
open Go.RowKit
namespace Xm
/-- what a writing into a builder leaves as it was -/
def Ws (B b : Nat) (w w' : World) : Prop := Below B w w' ∧ Lib.OthersKept 5 (some b) w w'
theorem Ws.refl (B b : Nat) (w : World) : Ws B b w w := ⟨Below.refl B w, Lib.OthersKept.refl _ _ w⟩
theorem Ws.trans {B b : Nat} {w w' w'' : World} (h : Ws B b w w') (k : Ws B b w' w'') : Ws B b w w'' := ⟨h.1.trans k.1, h.2.trans k.2⟩
theorem Ws.of_grow {B b : Nat} {w w' : World} (hB : B ≤ w.heap.size) (g : Flow.Grow w w') : Ws B b w w' :=
  ⟨g.below hB, fun k o hk _ _ => (g.block k (Array.getElem?_eq_some_iff.1 hk).1 (by simp)).trans hk⟩
theorem Ws.row {B b X : Nat} {w w' : World} {cs : Array Value} (h : Ws B b w w') (hr : RowN w X cs) (hX : X ≠ b) : RowN w' X cs :=
  h.2 X _ hr (fun e => hX (Option.some.inj e)) (fun c fz e => by injection e with _ e2 _; exact absurd e2 (by decide))
theorem Ws.grow {B b : Nat} {w0 w w' : World} (hB : w0.heap.size ≤ B) (g : Flow.Grow w0 w) (h : Ws B b w w') : Flow.Grow w0 w' :=
  ⟨h.1.os.trans g.os, h.1.tape.trans g.tape, h.1.output.trans g.output, Nat.le_trans g.size h.1.size, fun i hi hne => (h.1.block i (by omega)).trans (g.block i hi hne)⟩
theorem bl_append (a b : ByteArray) : bl (a ++ b) = bl a ++ bl b := by simp [bl]
end Xm
theorem ownsRow_kind {w : World} {B : Nat} {e : TypeId} {v : Value} {n : Nat} {xs : List Value} (h : w.ownsRow B e 1 v n xs) : ∀ g, v.ownBlock = some g → ∃ c fz, w.heap[g]? = some (.cells c e fz) := by
  intro g hg
  rcases h.2 with ⟨rfl, _⟩ | ⟨g', cap, cur, rfl, _, hgg, _⟩
  · simp [Value.ownBlock] at hg
  · simp [Value.ownBlock] at hg
    subst hg
    exact ⟨cur, _, hgg⟩
theorem copyCheck_st (B b : Nat) (bs : List Value) (w : World) (h : Lib.IsBuilder 45 5 B b bs w) :
    Calls Tryz.prog 44 #[.pointer (some ⟨b, 0, none⟩)] w fun e w' => e = .returned (.tuple #[]) ∧ (Lib.BuilderAt 45 5 B b (.pointer (some ⟨b, 0, none⟩)) bs w' ∧ Xm.Ws B b w w') := by
  rcases h with h | h
  · refine (copyCheck_fresh b w h.cell0 h.shape h.frozen0).mono ?_
    rintro e w' ⟨rfl, rfl⟩
    exact ⟨rfl, h.used _, (Below.refl B w).setCell (p := ⟨b, 0, none⟩) h.1 _, (Lib.OthersKept.refl _ _ w).setCell ⟨b, 0, none⟩ rfl _⟩
  · refine (copyCheck_used b w h.cell0).mono ?_
    rintro e w' ⟨rfl, rfl⟩
    exact ⟨rfl, h, Xm.Ws.refl B b _⟩
set_option maxHeartbeats 2000000 in
set_option maxRecDepth 100000 in
theorem writeString_st (B b : Nat) (acc : List UInt8) (s : ByteArray) (w : World) (h : Lib.IsBuilder 45 5 B b (Lib.byteCells acc) w) (hlen : acc.length + s.size ≤ 1000000000) (hBw : B ≤ w.heap.size) :
    Calls Tryz.prog 29 #[.pointer (some ⟨b, 0, none⟩), .string s] w fun e w' => e = .returned (.tuple #[.int .i64 s.size, .nilIface]) ∧ (Lib.IsBuilder 45 5 B b (Lib.byteCells (acc ++ Xm.bl s)) w' ∧ Xm.Ws B b w w') := by
  obtain ⟨i0, hi, hz0, hz1, hz2⟩ := info_parts info_byte
  have hlen : (Lib.byteCells acc).length + s.size ≤ 1000000000 := by rw [Lib.byteCells_length]; exact hlen
  have HQ : Hid (Lib.byteCells acc ++ Lib.strCells s = Lib.byteCells (acc ++ Xm.bl s)) := Lib.hid (by rw [Lib.byteCells_append]; rfl)
  obtain ⟨bs, hbs⟩ : ∃ bs, bs = Lib.byteCells acc := ⟨_, rfl⟩
  rw [← hbs] at h hlen HQ
  clear hbs
  go_enter Tryz.func29, Tryz.ntmps29
  go_wp2_with (go_at_call 44; refine (copyCheck_st B b bs _ h).mono ?_)
  rintro e w1 ⟨rfl, h1, hst⟩
  have hb1 := hst.1
  obtain ⟨hB, v, hbk, hown, hne⟩ := h1
  have c0 : w1.cell? ⟨b, 0, none⟩ = some (.pointer (some ⟨b, 0, none⟩)) := by rw [Lib.cell_of_heap hbk]; rfl
  have c1 : w1.cell? ⟨b, 1, none⟩ = some v := by rw [Lib.cell_of_heap hbk]; rfl
  go_wp2_with (at_builtin; refine Lib.wpList_append_own_string _ rfl _ _ 42 9 rfl B 5 i0 Tryz.underlying42 Tryz.underlying9 hi hz0 hz1 hz2 _ _ _ rfl hown s rfl ?c3 ?c4 ?c5 ?_)
  case c3 => unfold maxLen; omega
  case c4 => omega
  case c5 => have := hb1.size; omega
  intro v' w2 hown' hgrow _
  have hlt : b < w1.heap.size := by
    rcases Nat.lt_or_ge b w1.heap.size with h' | h'
    · exact h'
    · simp [Array.getElem?_eq_none h'] at hbk
  have hb2 : w2.heap[b]? = some (.cells #[.pointer (some ⟨b, 0, none⟩), v] 45 (0, 0)) := by
    rw [hgrow.block b hlt (fun e => hne e.symm)]
    exact hbk
  have d0 : w2.cell? ⟨b, 0, none⟩ = some (.pointer (some ⟨b, 0, none⟩)) := by rw [Lib.cell_of_heap hb2]; rfl
  have d1 : w2.cell? ⟨b, 1, none⟩ = some v := by rw [Lib.cell_of_heap hb2]; rfl
  have f1 : w2.frozen? ⟨b, 1, none⟩ = false := Lib.frozen_of_heap hb2 1
  obtain ⟨ao, n', cap, rfl⟩ : ∃ ao n' cap, v' = .slice ao n' cap := by
    rcases hown'.2 with ⟨hv, _⟩ | ⟨g, cap, cur, hv, _⟩
    · exact ⟨_, _, _, hv⟩
    · exact ⟨_, _, _, hv⟩
  go_wp2
  go_ret2
  refine ⟨rfl, ?_, ?_, ?_⟩
  · rw [← HQ.out]
    exact .inr (Lib.BuilderAt.put (T := 45) (e := 5) hB hb2 (bs' := bs ++ Lib.strCells s) (by simpa [Lib.strCells_length] using hown') (by decide))
  · exact (hb1.grown hgrow (by have := hb1.size; omega) (fun k hk => (hown.lt k hk).1)).setCell (p := ⟨b, 1, none⟩) hB _
  · exact (hst.2.grown hgrow (ownsRow_kind hown)).setCell ⟨b, 1, none⟩ rfl _
set_option maxRecDepth 100000 in
set_option maxHeartbeats 8000000 in
theorem element_any : ∀ (m : Nat) (x : Xm.Nod) (F : Nat → Prop) (v : Value) (space : ByteArray) (n : Nat) (acc : List UInt8) (B b : Nat) (w0 w : World), Xm.cnt x ≤ m → Xm.NodAt F w0 v x → w0.heap.size ≤ B → Flow.Grow w0 w → B ≤ w.heap.size → Lib.IsBuilder 45 5 B b (Lib.byteCells acc) w →
    acc.length + (Xm.docN x space (List.replicate n 32)).length ≤ 100000000 → n + Xm.dep x ≤ 100 →
    Calls Tryz.prog 15 #[.pointer (some ⟨b, 0, none⟩), v, .string space, .int .i64 (n : Int)] w fun e w' => e = .returned (.tuple #[]) ∧ Lib.IsBuilder 45 5 B b (Lib.byteCells (acc ++ Xm.docN x space (List.replicate n 32))) w' ∧ Xm.Ws B b w w' := by
  intro m
  induction m with
  | zero => intro x F v space n acc B b w0 w h; cases x with | mk sp nm l ks tx => rw [Xm.cnt] at h; omega
  | succ m IH =>
    intro x F v space n acc B b w0 w hx hn hB0 hgw hBw hbd hdoc hdep
    have IHH := Lib.hid IH
    clear IH
    cases hn with
    | mk sp nm tx av kv l ks vs g off hA haF hk hl hc hn =>
      obtain ⟨ao, cap, rfl⟩ := hA.shape
      have HX : Hid (Xm.cntL ks ≤ m) := Lib.hid (by rw [Xm.cnt] at hx; omega)
      have HDp : Hid (n + 1 + Xm.depL ks ≤ 100) := Lib.hid (by rw [Xm.dep] at hdep; omega)
      have hn100 : n ≤ 99 := by have := HDp.out; omega
      obtain ⟨ka, kc, hkv⟩ : ∃ ka kc, kv = .slice ka ks.length kc := by
        rcases hk with ⟨rfl, a, c, rfl⟩ | ⟨c, rfl, _⟩
        · exact ⟨a, c, rfl⟩
        · exact ⟨_, c, rfl⟩
      subst hkv
      obtain ⟨pad, hpad⟩ : ∃ pad, pad = List.replicate n (32 : UInt8) := ⟨_, rfl⟩
      have hpl : pad.length = n := by rw [hpad, List.length_replicate]
      have HP2 : Hid (List.replicate (n + 1) (32 : UInt8) = pad ++ [32]) := Lib.hid (by rw [hpad, List.replicate_succ'])
      have HPd := Lib.hid hpad
      rw [← hpad] at hdoc ⊢
      have HA := Lib.hid hA
      have HK := Lib.hid hk
      have HC := Lib.hid hc
      have HNn := Lib.hid hn
      have Hl := Lib.hid hl
      have Hdoc := Lib.hid hdoc
      have HB0 := Lib.hid (And.intro hB0 (And.intro hgw hBw))
      have hhead : acc.length + (Xm.headD sp nm l space pad).length ≤ 100000000 := by
        by_cases hks : ks = []
        · subst hks
          rw [Xm.docN_nil, List.length_append] at hdoc
          omega
        · rw [Xm.docN_kids _ _ _ _ _ _ _ hks, List.length_append] at hdoc
          omega
      have hsz : acc.length + pad.length + 1 + nm.size + (Xm.spD sp space).length + (Xm.atD l).length ≤ 100000000 := by
        unfold Xm.headD at hhead
        simp only [List.length_append, List.length_cons, Xm.bl_len] at hhead
        omega
      obtain ⟨PAD, hPAD⟩ : ∃ PAD, PAD = str pad := ⟨_, rfl⟩
      have hPz : PAD.size = pad.length := by rw [hPAD, str_size]
      have hPb : Xm.bl PAD = pad := by rw [hPAD]; rfl
      have HPAD := Lib.hid (And.intro hPAD hPb)
      have HBD := Lib.hid hbd
      have hblt : b < w.heap.size := by rcases hbd with h | h <;> exact h.lt
      clear hx hA haF hk hc hn hl hdoc hhead hPAD hPb hpad hdep hB0 hgw hBw hbd
      go_enter Tryz.func15, Tryz.ntmps15
      go_upto_region 1 with fail
      have HR1 : Hid (Xm.RowN (w.alloc (.cells #[.string sp, .string nm, .slice ao l.length cap, .slice ka ks.length kc, .string tx] 25)) w.heap.size #[.string sp, .string nm, .slice ao l.length cap, .slice ka ks.length kc, .string tx]) := Lib.hid (heap_alloc_new _ _)
      have G1 : Hid (Xm.Ws B b w (w.alloc (.cells #[.string sp, .string nm, .slice ao l.length cap, .slice ka ks.length kc, .string tx] 25))) := Lib.hid (Xm.Ws.of_grow HB0.out.2.2 (Flow.grow_alloc _ _))
      have HBD1 := Lib.hid (isB_grow HBD.out (Flow.grow_alloc w (.cells #[.string sp, .string nm, .slice ao l.length cap, .slice ka ks.length kc, .string tx] 25)))
      obtain ⟨X, hX⟩ : ∃ X, X = w.heap.size := ⟨_, rfl⟩
      rw [← hX] at HR1 hblt ⊢
      have HXb : Hid (X ≠ b) := Lib.hid (by omega)
      clear hX hblt
      generalize w.alloc (.cells #[.string sp, .string nm, .slice ao l.length cap, .slice ka ks.length kc, .string tx] 25) = w1 at *
      have x1 := (cell_of_row w1 X 1 _ _ _ HR1.out).trans rfl
      have l1 : ¬ 9223372036854775807 < PAD.size + 1 := by omega
      have l2 : ¬ 9223372036854775807 < PAD.size + 1 + nm.size := by omega
      have Hz1 : Hid (acc.length + (PAD ++ (⟨#[60]⟩ : ByteArray) ++ nm).size ≤ 1000000000) := Lib.hid (by simp only [ByteArray.size_append]; show acc.length + (PAD.size + 1 + nm.size) ≤ _; omega)
      have Hsz := Lib.hid hsz
      have HW : ∀ wq, Xm.Ws B b w wq → B ≤ wq.heap.size := fun wq h => Nat.le_trans HB0.out.2.2 h.1.size
      have HWB := Lib.hid HW
      clear HW
      go_upto_region 3 with (first
        | (go_at_call 28; refine (repeat_sp n (by omega) _).mono ?_; rintro e wa ⟨rfl, rfl⟩; rw [← HPd.out, ← HPAD.out.1])
        | (go_at_call 29; refine (writeString_st B b acc _ _ HBD1.out Hz1.out (HWB.out _ G1.out)).mono ?_; rintro e w2 ⟨rfl, hbd2, hst2⟩))
      have HBD2 : Hid (Lib.IsBuilder 45 5 B b (Lib.byteCells (acc ++ (pad ++ (60 :: Xm.bl nm)))) w2) := Lib.hid (by
        simp only [Xm.bl_append, HPAD.out.2, show (⟨#[60]⟩ : ByteArray) = str [60] from rfl, Xm.bl_str] at hbd2
        simpa using hbd2)
      have G2 := Lib.hid (G1.out.trans hst2)
      have HR2 := Lib.hid (hst2.row HR1.out HXb.out)
      clear hbd2 hst2 x1 l1 l2 HR1 G1 HBD1 Hz1
      have x0 := (cell_of_row w2 X 0 _ _ _ HR2.out).trans rfl
      go_upto_if 25 with fail
      go_cut [] (fun wx => Hid (Lib.IsBuilder 45 5 B b (Lib.byteCells (acc ++ (pad ++ (60 :: (Xm.bl nm ++ Xm.spD sp space))))) wx) ∧ Hid (Xm.Ws B b w wx) ∧ Hid (Xm.RowN wx X #[.string sp, .string nm, .slice ao l.length cap, .slice ka ks.length kc, .string tx]))
      case first =>
        by_cases hss : sp = space
        · have hb3 : (!(sp.toList == space.toList)) = false := by rw [hss]; simp
          have hq : Xm.spD sp space = [] := by simp [Xm.spD, hss]
          have HQ := Lib.hid hq
          rw [hb3]
          clear hss hq hb3
          go_wp2_with fail
          go_meet
          case rel => exact ⟨Lib.hid (by rw [HQ.out, List.append_nil]; exact HBD2.out), G2, HR2⟩
        · have hb1 := Xm.ne_f hss
          have hb3 : (!(sp.toList == space.toList)) = true := by simp [hb1]
          have hq : Xm.spD sp space = [32, 120, 109, 108, 110, 115, 61, 34] ++ (Xm.clL (Xm.bl sp) ++ [34]) := by simp [Xm.spD, hss]
          have HQ := Lib.hid hq
          have hcz : acc.length + pad.length + 1 + nm.size + (Xm.clL (Xm.bl sp)).length + 9 ≤ 100000000 := by rw [hq] at hsz; simp only [List.length_append, List.length_cons, List.length_nil] at hsz; omega
          have Hspz : Hid (sp.size ≤ 1000000000) := Lib.hid (by
            have h := Xm.clL_ge (Xm.bl sp)
            rw [Xm.bl_len] at h
            omega)
          obtain ⟨CL, hCL⟩ : ∃ CL, CL = Xm.clS sp := ⟨_, rfl⟩
          have hCLz : CL.size = (Xm.clL (Xm.bl sp)).length := by rw [hCL]; show (str (Xm.clL (Xm.bl sp))).size = _; rw [str_size]
          have hCLb : Xm.bl CL = Xm.clL (Xm.bl sp) := by rw [hCL]; rfl
          have HCL := Lib.hid (And.intro hCL hCLb)
          have q1 : ¬ 9223372036854775807 < 8 + CL.size := by omega
          have q2 : ¬ 9223372036854775807 < 8 + CL.size + 1 := by omega
          have Hz2 : Hid ((acc ++ (pad ++ (60 :: Xm.bl nm))).length + ((⟨#[32, 120, 109, 108, 110, 115, 61, 34]⟩ : ByteArray) ++ CL ++ (⟨#[34]⟩ : ByteArray)).size ≤ 1000000000) := Lib.hid (by simp only [ByteArray.size_append, List.length_append, List.length_cons, Xm.bl_len]; show _ + (8 + CL.size + 1) ≤ _; omega)
          rw [hb3]
          clear hss hb1 hq hcz hCL hCLz hCLb hb3
          go_wp2_with (first
            | (go_at_call 30; refine (eclose_any sp _ Hspz.out).mono ?_; rintro e wa ⟨rfl, hga⟩; rw [← HCL.out.1]; have Hwa := Lib.hid (G2.out.trans (Xm.Ws.of_grow (HWB.out _ G2.out) hga)); have Hra := Lib.hid (HR2.out.grow hga); have Hba := Lib.hid (isB_grow HBD2.out hga); clear hga)
            | (go_at_call 29; refine (writeString_st B b _ _ _ Hba.out Hz2.out (HWB.out _ Hwa.out)).mono ?_; rintro e w3 ⟨rfl, hbd3, hst3⟩))
          have HBD3 := Lib.hid hbd3
          have G3 := Lib.hid (Hwa.out.trans hst3)
          have HR3 := Lib.hid (hst3.row Hra.out HXb.out)
          clear hbd3 hst3
          go_meet
          case rel =>
            refine ⟨Lib.hid ?_, G3, HR3⟩
            have h := HBD3.out
            rw [HQ.out]
            simp only [Xm.bl_append, HCL.out.2, show (⟨#[32, 120, 109, 108, 110, 115, 61, 34]⟩ : ByteArray) = str [32, 120, 109, 108, 110, 115, 61, 34] from rfl, show (⟨#[34]⟩ : ByteArray) = str [34] from rfl, Xm.bl_str] at h
            simpa using h
      case rest =>
        obtain ⟨HBDc, Gc, HRc⟩ := hcut
        rename World => wc
        clear x0 HBD2 G2 HR2
        have x2 := (cell_of_row wc X 2 _ _ _ HRc.out).trans rfl
        go_wp2_with fail
        go_loopw [36] (fun v36 wr => ∃ (i : Nat) (a b' : List (ByteArray × ByteArray)), l = a ++ b' ∧ a.length = i ∧ v36 = .int .i64 (i : Int) ∧ Hid (Lib.IsBuilder 45 5 B b (Lib.byteCells (acc ++ Xm.headD sp nm a space pad)) wr) ∧ Hid (Xm.Ws B b w wr) ∧ Hid (Xm.RowN wr X #[.string sp, .string nm, .slice ao l.length cap, .slice ka ks.length kc, .string tx])) (fun v36 _ => l.length - (intOf v36).toNat)
        case atStart => exact ⟨0, [], l, rfl, rfl, rfl, Lib.hid (by have h := HBDc.out; simpa [Xm.headD, Xm.atD] using h), Gc, HRc⟩
        case round =>
          clear HBDc Gc HRc x2
          obtain ⟨i, a, b', hab, hai, rfl, HBr, HWr, HRr⟩ := hrel
          rename World => wr
          cases b' with
          | cons y b' =>
            obtain ⟨an, av⟩ := y
            have hlt : i < l.length := by rw [hab]; simp; omega
            have hy : l[i]? = some (an, av) := by rw [hab, ← hai]; simp
            have hsum : acc.length + (Xm.headD sp nm a space pad).length + 1 + an.size + 2 + (Xm.clL (Xm.bl av)).length + 1 ≤ 100000000 := by
              have e : Xm.atD l = Xm.atD a ++ ((32 :: (Xm.bl an ++ ([61, 34] ++ (Xm.clL (Xm.bl av) ++ [34])))) ++ Xm.atD b') := by rw [hab]; simp [Xm.atD]
              have h := Hsz.out
              rw [e] at h
              unfold Xm.headD
              simp only [List.length_append, List.length_cons, List.length_nil, Xm.bl_len] at h ⊢
              omega
            have hi1 : i ≤ 100000000 := by
              have h := Xm.atD_ge a
              unfold Xm.headD at hsum
              simp only [List.length_append, List.length_cons] at hsum
              omega
            have Havz : Hid (av.size ≤ 1000000000) := Lib.hid (by
              have h := Xm.clL_ge (Xm.bl av)
              rw [Xm.bl_len] at h
              omega)
            rcases HA.out with ⟨_, h0⟩ | ⟨ga, offa, capa, hva, q1, q2, hga, hcell⟩
            · exfalso
              rw [h0] at hlt; simp at hlt
            simp only [Value.slice.injEq, true_and] at hva
            obtain ⟨rfl, rfl⟩ := hva
            have HGr := Lib.hid (Xm.Ws.grow HB0.out.1 HB0.out.2.1 HWr.out)
            have hgc := Xm.attrCells_get l i (an, av) hy
            have k0 := (Xm.cell_grow HGr.out hga).trans (hcell _ _ hgc.1)
            have k1 := (Xm.cell_grow HGr.out hga).trans (hcell _ _ hgc.2)
            simp only at k0 k1
            rw [← Nat.add_assoc] at k1
            have HAB : Hid (l = (a ++ [(an, av)]) ++ b') := Lib.hid (by rw [hab]; simp)
            obtain ⟨CL, hCL⟩ : ∃ CL, CL = Xm.clS av := ⟨_, rfl⟩
            have hCLz : CL.size = (Xm.clL (Xm.bl av)).length := by rw [hCL]; show (str (Xm.clL (Xm.bl av))).size = _; rw [str_size]
            have hCLb : Xm.bl CL = Xm.clL (Xm.bl av) := by rw [hCL]; rfl
            have HCL := Lib.hid (And.intro hCL hCLb)
            obtain ⟨L, hL⟩ : ∃ L, L = l.length := ⟨_, rfl⟩
            have HL := Lib.hid hL
            rw [← hL] at hlt HRr ⊢
            have g1 : (i : Int) < (L : Int) := by omega
            have g3 : ¬ (L : Int) ≤ (i : Int) := by omega
            have eN : IntKind.i64.wrap ((i : Int) + 1) = (i : Int) + 1 := IntWalk.i64_in _ (by omega)
            have c1 : ¬ 9223372036854775807 < 1 + an.size := by omega
            have c2 : ¬ 9223372036854775807 < 1 + an.size + 2 := by omega
            have c3 : ¬ 9223372036854775807 < 1 + an.size + 2 + CL.size := by omega
            have c4 : ¬ 9223372036854775807 < 1 + an.size + 2 + CL.size + 1 := by omega
            have Hz3 : Hid ((acc ++ Xm.headD sp nm a space pad).length + ((⟨#[32]⟩ : ByteArray) ++ an ++ (⟨#[61, 34]⟩ : ByteArray) ++ CL ++ (⟨#[34]⟩ : ByteArray)).size ≤ 1000000000) := Lib.hid (by simp only [ByteArray.size_append, List.length_append]; show _ + (1 + an.size + 2 + CL.size + 1) ≤ _; omega)
            have Hlt := Lib.hid (And.intro hlt (And.intro hai hi1))
            have HYn : Hid ((wr.alloc (.cells #[.string an, .string av] 41)).heap[wr.heap.size]? = some (.cells #[.string an, .string av] 41 (0, 0))) := Lib.hid (heap_alloc_new _ _)
            have HWa : Hid (Xm.Ws B b wr (wr.alloc (.cells #[.string an, .string av] 41))) := Lib.hid (Xm.Ws.of_grow (HWB.out _ HWr.out) (Flow.grow_alloc _ _))
            have HBa := Lib.hid (isB_grow HBr.out (Flow.grow_alloc wr (.cells #[.string an, .string av] 41)))
            clear hab hL hCL hgc hcell q1 q2 hga hy hsum hCLz hCLb hi1 hlt hai
            go_upto_region 8 with fail
            obtain ⟨Y, hY⟩ : ∃ Y, Y = wr.heap.size := ⟨_, rfl⟩
            rw [← hY] at HYn ⊢
            clear hY k0 k1
            generalize wr.alloc (.cells #[.string an, .string av] 41) = w4 at *
            have HR4 := Lib.hid (HWa.out.row HRr.out HXb.out)
            have HW4 := Lib.hid (HWr.out.trans HWa.out)
            have HY4 : Hid (∀ wq, Flow.Grow w4 wq → wq.cell? ⟨Y, 0, none⟩ = some (.string an) ∧ wq.cell? ⟨Y, 1, none⟩ = some (.string av)) := Lib.hid (fun wq hq => by
              have h := (hq.block Y (Array.getElem?_eq_some_iff.1 HYn.out).1 (by simp)).trans HYn.out
              exact ⟨by rw [Lib.cell_of_heap h]; rfl, by rw [Lib.cell_of_heap h]; rfl⟩)
            have y0 := (HY4.out _ (Flow.grow_refl _)).1
            have y1 := (HY4.out _ (Flow.grow_refl _)).2
            go_region_with (go_simp; first
              | (go_at_call 30; refine (eclose_any av _ Havz.out).mono ?_; rintro e w5 ⟨rfl, hg5⟩; rw [← HCL.out.1]; have G5 := Lib.hid ((Flow.grow_drew w4).trans hg5); clear hg5; have z0 := (HY4.out _ G5.out).1; have z1 := (HY4.out _ G5.out).2; have H5 := Lib.hid (Xm.Ws.of_grow (b := b) (HWB.out _ HW4.out) G5.out); have B5 := Lib.hid (isB_grow HBa.out G5.out))
              | (go_at_call 29; refine (writeString_st B b _ _ _ B5.out Hz3.out (HWB.out _ (HW4.out.trans H5.out))).mono ?_; rintro e w6 ⟨rfl, hbd6, hst6⟩))
            all_goals
              go_wp2_with fail
              have W6 := Lib.hid ((HW4.out.trans H5.out).trans hst6)
              have R6 := Lib.hid (hst6.row (HR4.out.grow G5.out) HXb.out)
              have HB6 := Lib.hid hbd6
              clear hbd6 hst6
              have eL := HL.out
              subst eL
              go_roundw
              case rel =>
                refine ⟨i + 1, a ++ [(an, av)], b', HAB.out, by rw [List.length_append, Hlt.out.2.1]; rfl, by first | rfl | go_num, Lib.hid ?_, W6, R6⟩
                have h := HB6.out
                simp only [Xm.bl_append, HCL.out.2, show (⟨#[32]⟩ : ByteArray) = str [32] from rfl, show (⟨#[61, 34]⟩ : ByteArray) = str [61, 34] from rfl, show (⟨#[34]⟩ : ByteArray) = str [34] from rfl, Xm.bl_str] at h
                have e : Xm.headD sp nm (a ++ [(an, av)]) space pad = Xm.headD sp nm a space pad ++ (32 :: (Xm.bl an ++ ([61, 34] ++ (Xm.clL (Xm.bl av) ++ [34])))) := by
                  unfold Xm.headD
                  rw [Xm.atD_snoc]
                  simp
                rw [e]
                simpa using h
              case measure => have := Hlt.out.1; simp only [intOf]; omega
          | nil =>
            rw [List.append_nil] at hab
            subst hab
            have g1 : ¬ (i : Int) < (l.length : Int) := by omega
            have x1 := (cell_of_row wr X 1 _ _ _ HRr.out).trans rfl
            have x3 := (cell_of_row wr X 3 _ _ _ HRr.out).trans rfl
            have x4 := (cell_of_row wr X 4 _ _ _ HRr.out).trans rfl
            have HBW := Lib.hid (HWB.out _ HWr.out)
            by_cases hks : ks = []
            · have hkz : ¬ (0 : Int) < (ks.length : Int) := by rw [hks]; simp
              by_cases htz : tx.size = 0
              · have hd : Xm.docN (.mk sp nm l ks tx) space pad = Xm.headD sp nm l space pad ++ [47, 62, 10] := by rw [hks, Xm.docN_nil, if_pos htz]
                have HDo := Lib.hid hd
                have t1 := Xm.emp_t htz
                have Hz : Hid ((acc ++ Xm.headD sp nm l space pad).length + (⟨#[47, 62, 10]⟩ : ByteArray).size ≤ 1000000000) := Lib.hid (by
                  have h := Hdoc.out
                  rw [hd] at h
                  simp only [List.length_append, List.length_cons, List.length_nil] at h ⊢
                  show _ + 3 ≤ _
                  omega)
                clear hd hks htz
                go_wp2_with (go_at_call 29; refine (writeString_st B b _ _ _ HBr.out Hz.out HBW.out).mono ?_; rintro e w6 ⟨rfl, hbd6, hst6⟩)
                go_end0
                refine ⟨rfl, ?_, HWr.out.trans hst6⟩
                have h := hbd6
                simp only [show (⟨#[47, 62, 10]⟩ : ByteArray) = str [47, 62, 10] from rfl, Xm.bl_str] at h
                rw [HDo.out]
                simpa using h
              · have t1 := Xm.emp_n htz
                have t2 := Xm.emp_f htz
                have hd : Xm.docN (.mk sp nm l ks tx) space pad = Xm.headD sp nm l space pad ++ (62 :: (Xm.clL (Xm.bl tx) ++ ([60, 47] ++ (Xm.bl nm ++ [62, 10])))) := by rw [hks, Xm.docN_nil, if_neg htz]
                have HDo := Lib.hid hd
                have hdz := Hdoc.out
                rw [hd] at hdz
                simp only [List.length_append, List.length_cons, List.length_nil, Xm.bl_len] at hdz
                obtain ⟨CL, hCL⟩ : ∃ CL, CL = Xm.clS tx := ⟨_, rfl⟩
                have hCLz : CL.size = (Xm.clL (Xm.bl tx)).length := by rw [hCL]; show (str (Xm.clL (Xm.bl tx))).size = _; rw [str_size]
                have hCLb : Xm.bl CL = Xm.clL (Xm.bl tx) := by rw [hCL]; rfl
                have HCL := Lib.hid (And.intro hCL hCLb)
                have Htz : Hid (tx.size ≤ 1000000000) := Lib.hid (by have h := Xm.clL_ge (Xm.bl tx); rw [Xm.bl_len] at h; omega)
                have c1 : ¬ 9223372036854775807 < 1 + CL.size := by omega
                have c2 : ¬ 9223372036854775807 < 1 + CL.size + 2 := by omega
                have c3 : ¬ 9223372036854775807 < 1 + CL.size + 2 + nm.size := by omega
                have c4 : ¬ 9223372036854775807 < 1 + CL.size + 2 + nm.size + 2 := by omega
                have Hz : Hid ((acc ++ Xm.headD sp nm l space pad).length + ((⟨#[62]⟩ : ByteArray) ++ CL ++ (⟨#[60, 47]⟩ : ByteArray) ++ nm ++ (⟨#[62, 10]⟩ : ByteArray)).size ≤ 1000000000) := Lib.hid (by simp only [ByteArray.size_append, List.length_append]; show _ + (1 + CL.size + 2 + nm.size + 2) ≤ _; omega)
                clear hd hCL hdz hCLz hCLb hks
                go_upto_region 20 with fail
                go_region_with (go_simp; first
                  | (go_at_call 30; refine (eclose_any tx _ Htz.out).mono ?_; rintro e w5 ⟨rfl, hg5⟩; rw [← HCL.out.1]; have G5 := Lib.hid ((Flow.grow_drew wr).trans hg5); clear hg5; have z1 := (cell_of_row w5 X 1 _ _ _ (HRr.out.grow G5.out)).trans rfl; have H5 := Lib.hid (Xm.Ws.of_grow (b := b) HBW.out G5.out); have B5 := Lib.hid (isB_grow HBr.out G5.out))
                  | (go_at_call 29; refine (writeString_st B b _ _ _ B5.out Hz.out (HWB.out _ (HWr.out.trans H5.out))).mono ?_; rintro e w6 ⟨rfl, hbd6, hst6⟩))
                all_goals
                  go_wp2_with fail
                  go_end0
                  refine ⟨rfl, ?_, (HWr.out.trans H5.out).trans hst6⟩
                  have h := hbd6
                  simp only [Xm.bl_append, HCL.out.2, show (⟨#[62]⟩ : ByteArray) = str [62] from rfl, show (⟨#[60, 47]⟩ : ByteArray) = str [60, 47] from rfl, show (⟨#[62, 10]⟩ : ByteArray) = str [62, 10] from rfl, Xm.bl_str] at h
                  rw [HDo.out]
                  simpa using h
            · have hkz : (0 : Int) < (ks.length : Int) := by have := List.length_pos_iff.2 hks; omega
              have hd := Xm.docN_kids sp nm l ks tx space pad hks
              have HDo := Lib.hid hd
              have hdz := Hdoc.out
              rw [hd] at hdz
              simp only [List.length_append, List.length_cons, List.length_nil, Xm.bl_len] at hdz
              have Hdz := Lib.hid hdz
              have Hz : Hid ((acc ++ Xm.headD sp nm l space pad).length + (⟨#[62, 10]⟩ : ByteArray).size ≤ 1000000000) := Lib.hid (by rw [List.length_append]; show _ + 2 ≤ _; omega)
              clear hd hdz x1 x4
              go_upto_region 13 with (go_at_call 29; refine (writeString_st B b _ _ _ HBr.out Hz.out HBW.out).mono ?_; rintro e w6 ⟨rfl, hbd6, hst6⟩)
              have HB6 : Hid (Lib.IsBuilder 45 5 B b (Lib.byteCells (acc ++ (Xm.headD sp nm l space pad ++ [62, 10] ++ Xm.docL [] sp (pad ++ [32])))) w6) := Lib.hid (by
                simp only [show (⟨#[62, 10]⟩ : ByteArray) = str [62, 10] from rfl, Xm.bl_str] at hbd6
                simpa [Xm.docL] using hbd6)
              have W6 := Lib.hid (HWr.out.trans hst6)
              have R6 := Lib.hid (hst6.row HRr.out HXb.out)
              clear hbd6 hst6 x3
              have x3 := (cell_of_row w6 X 3 _ _ _ R6.out).trans rfl
              go_wp2_with fail
              go_loopw [64] (fun v64 wz => ∃ (j : Nat) (a b' : List Xm.Nod), ks = a ++ b' ∧ a.length = j ∧ v64 = .int .i64 (j : Int) ∧ Hid (Lib.IsBuilder 45 5 B b (Lib.byteCells (acc ++ (Xm.headD sp nm l space pad ++ [62, 10] ++ Xm.docL a sp (pad ++ [32])))) wz) ∧ Hid (Xm.Ws B b w wz) ∧ Hid (Xm.RowN wz X #[.string sp, .string nm, .slice ao l.length cap, .slice ka ks.length kc, .string tx])) (fun v64 _ => ks.length - (intOf v64).toNat)
              case atStart => exact ⟨0, [], ks, rfl, rfl, rfl, HB6, W6, R6⟩
              case round =>
                clear HB6 W6 R6 x3 HBW HBr HWr HRr
                obtain ⟨j, a, b', hab, haj, rfl, HBz, HWz, HRz⟩ := hrel
                rename World => wz
                cases b' with
                | cons y b' =>
                  have hy : ks[a.length]? = some y := by rw [hab]; simp
                  have hlt : j < ks.length := by rw [hab]; simp; omega
                  have hcy := Xm.cnt_mem hy
                  have hdl : (Xm.docL ks sp (pad ++ [32])).length = (Xm.docL a sp (pad ++ [32])).length + (Xm.docN y sp (pad ++ [32])).length + (Xm.docL b' sp (pad ++ [32])).length := by
                    rw [hab, Xm.docL_append, Xm.docL]
                    simp only [List.length_append]
                    omega
                  have hdz := Hdz.out
                  have hj1 : j ≤ 100000000 := by
                    have h := Xm.docL_ge a sp (pad ++ [32])
                    omega
                  have hdpy : Xm.dep y ≤ Xm.depL ks := by rw [hab, Xm.depL_append, Xm.depL]; omega
                  rcases HK.out with ⟨h0, _⟩ | ⟨c, hkv, hkc, hcml, hgl, _⟩
                  · rw [h0] at hlt; simp at hlt
                  simp only [Value.slice.injEq, true_and] at hkv
                  obtain ⟨rfl, rfl⟩ := hkv
                  have HGz := Lib.hid (Xm.Ws.grow HB0.out.1 HB0.out.2.1 HWz.out)
                  obtain ⟨u0, u1, u4, a2, a3, n2, n3, d2, d3, k0, k1, k2, k3, k4, hny⟩ := Xm.kid_cells Hl.out HC.out HNn.out hgl HGz.out hy
                  rw [haj] at k0 k1 k2 k3 k4
                  have HI : Hid (∀ wk, Xm.Ws B b w wk → Lib.IsBuilder 45 5 B b (Lib.byteCells (acc ++ (Xm.headD sp nm l space pad ++ [62, 10] ++ Xm.docL a sp (pad ++ [32])))) wk → Calls Tryz.prog 15 #[.pointer (some ⟨b, 0, none⟩), .agg #[.string u0, .string u1, .slice a2 n2 d2, .slice a3 n3 d3, .string u4], .string sp, .int .i64 ((n : Int) + 1)] wk fun e w' => e = .returned (.tuple #[]) ∧ Lib.IsBuilder 45 5 B b (Lib.byteCells (acc ++ (Xm.headD sp nm l space pad ++ [62, 10] ++ Xm.docL (a ++ [y]) sp (pad ++ [32])))) w' ∧ Xm.Ws B b wk w') := Lib.hid (fun wk hwk hbk => by
                    have h := IHH.out y _ _ sp (n + 1) _ B b w0 wk (by have := HX.out; omega) hny HB0.out.1 (Xm.Ws.grow HB0.out.1 HB0.out.2.1 hwk) (HWB.out _ hwk) hbk (by rw [HP2.out]; simp only [List.length_append, List.length_cons, List.length_nil]; omega) (by have := HDp.out; omega)
                    rw [HP2.out] at h
                    have e : acc ++ (Xm.headD sp nm l space pad ++ [62, 10] ++ Xm.docL a sp (pad ++ [32])) ++ Xm.docN y sp (pad ++ [32]) = acc ++ (Xm.headD sp nm l space pad ++ [62, 10] ++ Xm.docL (a ++ [y]) sp (pad ++ [32])) := by
                      rw [Xm.docL_append]
                      simp [Xm.docL]
                    rw [e] at h
                    exact h)
                  have HAB : Hid (ks = (a ++ [y]) ++ b') := Lib.hid (by rw [hab]; simp)
                  obtain ⟨L, hL⟩ : ∃ L, L = ks.length := ⟨_, rfl⟩
                  have HL := Lib.hid hL
                  rw [← hL] at hlt HRz ⊢
                  have Hlt := Lib.hid (And.intro hlt haj)
                  have g1 : (j : Int) < (L : Int) := by omega
                  have g3 : ¬ (L : Int) ≤ (j : Int) := by omega
                  have eN : IntKind.i64.wrap ((j : Int) + 1) = (j : Int) + 1 := IntWalk.i64_in _ (by omega)
                  have en : IntKind.i64.wrap ((n : Int) + 1) = (n : Int) + 1 := IntWalk.i64_in _ (by omega)
                  have HWk : Hid (Xm.Ws B b wz (wz.alloc (.cells #[.string u0, .string u1, .slice a2 n2 d2, .slice a3 n3 d3, .string u4] 25))) := Lib.hid (Xm.Ws.of_grow (HWB.out _ HWz.out) (Flow.grow_alloc _ _))
                  have HBk := Lib.hid (isB_grow HBz.out (Flow.grow_alloc wz (.cells #[.string u0, .string u1, .slice a2 n2 d2, .slice a3 n3 d3, .string u4] 25)))
                  have HKn : Hid (Xm.RowN (wz.alloc (.cells #[.string u0, .string u1, .slice a2 n2 d2, .slice a3 n3 d3, .string u4] 25)) wz.heap.size #[.string u0, .string u1, .slice a2 n2 d2, .slice a3 n3 d3, .string u4]) := Lib.hid (heap_alloc_new _ _)
                  clear hL hab hy hcy hdl hny hdz hkc hcml hlt haj hgl hdpy
                  go_upto_region 16 with fail
                  obtain ⟨Y, hY⟩ : ∃ Y, Y = wz.heap.size := ⟨_, rfl⟩
                  rw [← hY] at HKn ⊢
                  clear hY k0 k1 k2 k3 k4
                  generalize wz.alloc (.cells #[.string u0, .string u1, .slice a2 n2 d2, .slice a3 n3 d3, .string u4] 25) = wk at *
                  have HRk := Lib.hid (HWk.out.row HRz.out HXb.out)
                  have HW2 := Lib.hid (HWz.out.trans HWk.out)
                  have y0 := (cell_of_row wk Y 0 _ _ _ HKn.out).trans rfl
                  have y1 := (cell_of_row wk Y 1 _ _ _ HKn.out).trans rfl
                  have y2 := (cell_of_row wk Y 2 _ _ _ HKn.out).trans rfl
                  have y3 := (cell_of_row wk Y 3 _ _ _ HKn.out).trans rfl
                  have y4 := (cell_of_row wk Y 4 _ _ _ HKn.out).trans rfl
                  have z0 := (cell_of_row wk X 0 _ _ _ HRk.out).trans rfl
                  simp at y0 y1 y2 y3 y4 z0
                  go_wp2_with (go_at_call 15; refine (HI.out wk HW2.out HBk.out).mono ?_; rintro e w7 ⟨rfl, hbd7, hst7⟩)
                  have W7 := Lib.hid (HW2.out.trans hst7)
                  have R7 := Lib.hid (hst7.row HRk.out HXb.out)
                  have HB7 := Lib.hid hbd7
                  clear hbd7 hst7
                  have eL := HL.out
                  subst eL
                  go_roundw
                  case rel => exact ⟨j + 1, a ++ [y], b', HAB.out, by rw [List.length_append, Hlt.out.2]; rfl, by first | rfl | go_num, HB7, W7, R7⟩
                  case measure => have := Hlt.out.1; simp only [intOf]; omega
                | nil =>
                  rw [List.append_nil] at hab
                  subst hab
                  have g1 : ¬ (j : Int) < (ks.length : Int) := by omega
                  have z1 := (cell_of_row wz X 1 _ _ _ HRz.out).trans rfl
                  have hdz := Hdz.out
                  have c1 : ¬ 9223372036854775807 < PAD.size + 2 := by omega
                  have c2 : ¬ 9223372036854775807 < PAD.size + 2 + nm.size := by omega
                  have c3 : ¬ 9223372036854775807 < PAD.size + 2 + nm.size + 2 := by omega
                  have Hz2 : Hid ((acc ++ (Xm.headD sp nm l space pad ++ [62, 10] ++ Xm.docL ks sp (pad ++ [32]))).length + (PAD ++ (⟨#[60, 47]⟩ : ByteArray) ++ nm ++ (⟨#[62, 10]⟩ : ByteArray)).size ≤ 1000000000) := Lib.hid (by simp only [ByteArray.size_append, List.length_append, List.length_cons, List.length_nil]; show _ + (PAD.size + 2 + nm.size + 2) ≤ _; omega)
                  clear hdz
                  go_wp2_with (go_at_call 29; refine (writeString_st B b _ _ _ HBz.out Hz2.out (HWB.out _ HWz.out)).mono ?_; rintro e w8 ⟨rfl, hbd8, hst8⟩)
                  go_end0
                  refine ⟨rfl, ?_, HWz.out.trans hst8⟩
                  have h := hbd8
                  simp only [Xm.bl_append, HPAD.out.2, show (⟨#[60, 47]⟩ : ByteArray) = str [60, 47] from rfl, show (⟨#[62, 10]⟩ : ByteArray) = str [62, 10] from rfl, Xm.bl_str] at h
                  rw [HDo.out]
                  simpa using h
end Go.Proofs.YtdpkhmfolmcejaaGreatDoor
