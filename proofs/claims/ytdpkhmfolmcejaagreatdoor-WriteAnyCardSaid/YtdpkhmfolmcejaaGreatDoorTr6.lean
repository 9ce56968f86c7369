/- tree: element by its contract: the walk. -/
import Derived.Test.YtdpkhmfolmcejaaGreatDoorMT3
import Derived.Test.YtdpkhmfolmcejaaGreatDoorMFlow
import Derived.Deep.AppendLies
import Derived.Deep.RegionLaw
namespace Go.Proofs.YtdpkhmfolmcejaaGreatDoor
open Go.RowKit
theorem run_die {P : Program} {N : Act → World → Prop} {Q : Exit → Act → World → Prop} {o : Oper} {a : Act} {w : World} {fn : FuncId} {args : Array Value} (h : (execOp a.eval o).run P w = .ok (.enter fn args) w) (hc : Calls P fn args w fun e w' => ∃ ch, e = .panicked ch ∧ Q (.panic ch) a w') : o.wp P a w N Q := by
  unfold Oper.wp
  rw [h]
  refine hc.mono fun e w' ⟨ch, he, hq⟩ => ?_
  subst he
  exact hq
/-- a region's ways out: none but the one that is told -/
def Out (K : Act → World → Prop) (D : List Deferred) (Fz : List PanicEntry → World → Prop) : Exit → Act → World → Prop
  | .normal, a, w => K a w
  | .panic ch, a, w => a.defers = D ∧ Fz ch w
  | _, _, _ => False
theorem out_normal {K : Act → World → Prop} {D : List Deferred} {Fz : List PanicEntry → World → Prop} {a : Act} {w : World} (h : K a w) : Out K D Fz .normal a w := h
theorem region_out {P : Program} {c : Code} {Qx : Exit → Act → World → Prop} {a : Act} {w : World} (D : List Deferred) (Fz : List PanicEntry → World → Prop) (h : c.wp P (Out (Qx .normal) D Fz) a w) (hz : ∀ ch a w, a.defers = D → Fz ch w → Qx (.panic ch) a w) :
    c.wp P Qx a w := by
  refine Code.wp_mono (fun e a w hq => ?_) h
  cases e with
  | normal => exact hq
  | panic ch => exact hz ch a w hq.1 hq.2
  | exit id => exact hq.elim
  | goto l => exact hq.elim
  | ret => exact hq.elim
  | outgrown => exact hq.elim
theorem info_node : (Tryz.prog.info? 25).map (fun i => (i.zero, i.size, i.bytes)) = some (some (.agg #[.string ByteArray.empty, .string ByteArray.empty, .slice none 0 0, .slice none 0 0, .string ByteArray.empty]), 5, 96) := by kernel_rfl
theorem elem_push {b : Xm.Blk} {s : ByteArray} {lv lv' : Value} {w wy : World} {B X : Nat} {P : Array Value} {sp nm1 tx : ByteArray} {av2 : Value} {at2 : List (ByteArray × ByteArray)} {ks : List Xm.Nod} {r' : Xm.Rs} {ka : Option Addr} {kc : Nat} {vs : List Xm.V5}
    (h : Xm.BodyInv b s lv w B X P sp nm1 av2 at2 wy lv' ks tx r' (.slice ka vs.length kc) vs) (hX : B + 1 < X) (hb : b.c < B ∧ b.r < B ∧ b.s < B) (hB : w.heap.size = B) {H : Nat} (hH : X < H) (hkH : ∀ g, (Value.slice ka vs.length kc).ownBlock = some g → g < H) {v : Xm.V5} {y : Xm.Nod}
    (hv : Xm.NodAt (fun g => H ≤ g ∧ lv'.ownBlock ≠ some g ∧ g < wy.heap.size) wy v.agg y) :
    ∀ (g4 c4 : Nat) (w8 : World), w8.ownsRow 0 25 5 (.slice (some ⟨g4, 0, none⟩) (vs.length + 1) c4) (vs.length + 1) (Xm.flat vs ++ v.cells) → (wy.alloc (.cells #[v.1, v.2.1, v.2.2.1, v.2.2.2.1, v.2.2.2.2] 25)).grownBy w8 (Value.slice ka vs.length kc).ownBlock →
      ((Value.slice ka vs.length kc).ownBlock = some g4 ∨ (wy.alloc (.cells #[v.1, v.2.1, v.2.2.1, v.2.2.2.1, v.2.2.2.2] 25)).heap.size ≤ g4) →
      Xm.RowN w8 X #[.string sp, .string nm1, av2, .slice ka vs.length kc, .string tx] ∧ Xm.BodyInv b s lv w B X P sp nm1 av2 at2 (w8.setCell ⟨X, 3, none⟩ (.slice (some ⟨g4, 0, none⟩) (vs.length + 1) c4)) lv' (ks ++ [y]) tx r' (.slice (some ⟨g4, 0, none⟩) (vs.length + 1) c4) (vs ++ [v]) := by
  intro g4 c4 w8 hown hgrow hat
  have gz := Flow.grow_alloc wy (.cells #[v.1, v.2.1, v.2.2.1, v.2.2.2.1, v.2.2.2.2] 25)
  refine ⟨(hgrow.block X (h.grow hX hb gz).x.lt (fun e => (h.kvB X e.symm).2.1 rfl)).trans (h.grow hX hb gz).x, h.push hX hb hB hH hkH hv gz ?_ hgrow (hat.imp (fun h => h.symm) (fun h => ⟨g4, rfl, h⟩))⟩
  unfold Xm.OwnK
  rw [Xm.flat_append, List.length_append]
  simpa [Xm.flat] using hown
set_option maxRecDepth 100000 in
set_option maxHeartbeats 4000000 in
theorem elem_any (s : ByteArray) (hs : s.size ≤ 200000) : ∀ (F : Nat) (b : Xm.Blk) (lv : Value) (p : Xm.Pc) (av : Value) (r : Xm.Rs) (w : World), ElemHyp b s lv F p av r w →
    Calls Tryz.prog 35 #[.pointer (some ⟨b.r, 0, none⟩), .agg (Xm.Pc.cells p av)] w (ElemPost b s lv F p r w) := by
  intro F
  induction F using Nat.strongRecOn with
  | _ F IH =>
  intro b lv p av r w h
  obtain ⟨f, rfl⟩ : ∃ f, F = f + 1 := ⟨F - 1, by have := h.f1; omega⟩
  have H := Lib.hid h
  have IHH := Lib.hid IH
  obtain ⟨ao, cap, hv⟩ := h.at'.shape
  subst hv
  clear h IH
  obtain ⟨kd, nm, at1, tx, pa⟩ := p
  obtain ⟨bc, br, bs⟩ := b
  simp only at H ⊢
  have P1 : Hid (Xm.Row5 (w.alloc (.cells #[.int .i64 kd, .string nm, .slice ao at1.length cap, .string tx, .int .i64 pa] 82)) w.heap.size #[.int .i64 kd, .string nm, .slice ao at1.length cap, .string tx, .int .i64 pa]) := Lib.hid (heap_alloc_new _ _)
  have G2 : Hid (Flow.Grow w ((w.alloc (.cells #[.int .i64 kd, .string nm, .slice ao at1.length cap, .string tx, .int .i64 pa] 82)).alloc (.cells #[.string ⟨#[]⟩, .string ⟨#[]⟩, .slice none 0 0, .slice none 0 0, .string ⟨#[]⟩] 25))) := Lib.hid ((Flow.grow_alloc _ _).trans (Flow.grow_alloc _ _))
  have P2 : Hid (Xm.Row5 ((w.alloc (.cells #[.int .i64 kd, .string nm, .slice ao at1.length cap, .string tx, .int .i64 pa] 82)).alloc (.cells #[.string ⟨#[]⟩, .string ⟨#[]⟩, .slice none 0 0, .slice none 0 0, .string ⟨#[]⟩] 25)) w.heap.size #[.int .i64 kd, .string nm, .slice ao at1.length cap, .string tx, .int .i64 pa]) := Lib.hid (P1.out.grow (Flow.grow_alloc _ _))
  have Z2 : Hid (Xm.RowN ((w.alloc (.cells #[.int .i64 kd, .string nm, .slice ao at1.length cap, .string tx, .int .i64 pa] 82)).alloc (.cells #[.string ⟨#[]⟩, .string ⟨#[]⟩, .slice none 0 0, .slice none 0 0, .string ⟨#[]⟩] 25)) (w.heap.size + 1) #[.string ⟨#[]⟩, .string ⟨#[]⟩, .slice none 0 0, .slice none 0 0, .string ⟨#[]⟩]) := Lib.hid (by
    have := heap_alloc_new (w.alloc (.cells #[.int .i64 kd, .string nm, .slice ao at1.length cap, .string tx, .int .i64 pa] 82)) (.cells #[.string ⟨#[]⟩, .string ⟨#[]⟩, .slice none 0 0, .slice none 0 0, .string ⟨#[]⟩] 25)
    rw [show (w.alloc (.cells #[.int .i64 kd, .string nm, .slice ao at1.length cap, .string tx, .int .i64 pa] 82)).heap.size = w.heap.size + 1 by simp] at this
    exact this)
  unfold Xm.Pc.cells
  go_enter_defers Tryz.func35, Tryz.ntmps35
  go_upto_region 1 with fail
  obtain ⟨B, hB⟩ : ∃ B, B = w.heap.size := ⟨_, rfl⟩
  rw [← hB] at P2 Z2 ⊢
  have HB := Lib.hid hB
  clear hB P1
  generalize (w.alloc (.cells #[.int .i64 kd, .string nm, .slice ao at1.length cap, .string tx, .int .i64 pa] 82)).alloc (.cells #[.string ⟨#[]⟩, .string ⟨#[]⟩, .slice none 0 0, .slice none 0 0, .string ⟨#[]⟩] 25) = w2 at *
  have F2 : Hid (Xm.Fr (Xm.Blk.S ⟨bc, br, bs⟩) w lv w2 lv) := Lib.hid (Xm.Fr.of G2.out)
  have NB : Hid ((¬ Xm.Blk.S ⟨bc, br, bs⟩ B ∧ lv.ownBlock ≠ some B) ∧ ¬ Xm.Blk.S ⟨bc, br, bs⟩ (B + 1) ∧ lv.ownBlock ≠ some (B + 1)) := Lib.hid ⟨H.out.rd.notS (by have := HB.out; omega), H.out.rd.notS (by have := HB.out; omega)⟩
  have p0 := (cell_of_row w2 B 0 _ _ _ P2.out).trans rfl
  have p1 := (cell_of_row w2 B 1 _ _ _ P2.out).trans rfl
  have p2 := (cell_of_row w2 B 2 _ _ _ P2.out).trans rfl
  have p3 := (cell_of_row w2 B 3 _ _ _ P2.out).trans rfl
  have p4 := (cell_of_row w2 B 4 _ _ _ P2.out).trans rfl
  have HBC : Hid (Calls Tryz.prog 51 #[.pointer (some ⟨br, 0, none⟩), .agg #[.int .i64 kd, .string nm, .slice ao at1.length cap, .string tx, .int .i64 pa]] w2 (BeginPost ⟨bc, br, bs⟩ s lv r.st ⟨kd, nm, at1, tx, pa⟩ r.R r.d r.n w2)) := Lib.hid (by
    have hi := H.out.inv
    have hz := H.out.sz
    exact begin_any ⟨bc, br, bs⟩ s lv r.st ⟨kd, nm, at1, tx, pa⟩ (.slice ao at1.length cap) r.R r.d r.n w2 (H.out.rd.grow G2.out) (H.out.at'.grow G2.out) H.out.av (by have := hi.R; omega) (by have := hi.d; omega) (by have := hi.n; omega) (by have := hz.len; omega) (by have := hz.name; omega) (fun a ha => by have := hz.attrs a ha; omega))
  obtain ⟨res, R1, d1, n1, hbt⟩ : ∃ res R1 d1 n1, Xm.beginT ⟨kd, nm, at1, tx, pa⟩ r.R r.d r.n = (res, R1, d1, n1) := ⟨_, _, _, _, rfl⟩
  have Hbt := Lib.hid hbt
  have hbi := Xm.beginT_inv ⟨kd, nm, at1, tx, pa⟩ r.R r.d r.n H.out.inv.R H.out.inv.d
  rw [hbt] at hbi
  have Hbi := Lib.hid hbi
  clear hbt hbi
  cases res with
  | error z =>
    have HG : Hid (Xm.goT s (f + 1) none ⟨kd, nm, at1, tx, pa⟩ r = (.error z, ⟨r.st, R1, d1, n1⟩)) := Lib.hid (by rw [Xm.goT, Hbt.out])
    go_wp2_with (go_at_call 51; refine HBC.out.mono ?_; rintro e w3 ⟨lv1, hrd, hfr, he⟩; rw [Hbt.out] at hrd he; simp only at he; subst he)
    change ElemPost ⟨bc, br, bs⟩ s lv (f + 1) ⟨kd, nm, at1, tx, pa⟩ r w (.panicked (Xm.failV z.1 z.2)) w3
    refine ⟨lv1, ?_⟩
    rw [HG.out]
    exact ⟨hrd, F2.out.trans hfr, rfl⟩
  | ok x =>
    obtain ⟨sp, nm1, at2⟩ := x
    go_upto_region 2 with (go_at_call 51; refine HBC.out.mono ?_; rintro e w3 ⟨lv1, hrd, hfr, he⟩; rw [Hbt.out] at hrd he; simp only at he; obtain ⟨va, rfl, hat, hlow⟩ := he; obtain ⟨ao2, cap2, hva⟩ := hat.shape; subst hva)
    have gx := Flow.grow_alloc w3 (.cells #[.string sp, .string nm1, .slice ao2 at2.length cap2, .slice none 0 0, .string ⟨#[]⟩] 25)
    have D4 := Lib.hid (hrd.grow gx)
    have F4 := Lib.hid ((F2.out.trans hfr).grow gx)
    have X4 : Hid (Xm.RowN (w3.alloc (.cells #[.string sp, .string nm1, .slice ao2 at2.length cap2, .slice none 0 0, .string ⟨#[]⟩] 25)) w3.heap.size #[.string sp, .string nm1, .slice ao2 at2.length cap2, .slice none 0 0, .string ⟨#[]⟩]) := Lib.hid (heap_alloc_new _ _)
    have P4 := Lib.hid ((P2.out.fr hfr NB.out.1.1 NB.out.1.2).grow gx)
    have Z4 := Lib.hid ((Z2.out.fr hfr NB.out.2.1 NB.out.2.2).grow gx)
    have A4 := Lib.hid (hat.grow gx)
    have AV : Hid (∀ g, (Value.slice ao2 at2.length cap2).ownBlock = some g → B + 1 < g ∧ g < w3.heap.size ∧ lv1.ownBlock ≠ some g) := Lib.hid (fun g hg => by
      have h1 := hlow g hg
      have h2 := Z2.out.lt
      have h3 := hat.lt g hg
      exact ⟨by omega, h3, h1.2⟩)
    have LB : Hid (lv1.ownBlock ≠ some B ∧ lv1.ownBlock ≠ some (B + 1) ∧ ∀ g, lv1.ownBlock = some g → g < w3.heap.size) := Lib.hid ⟨hfr.owned (by have := Z2.out.lt; omega) NB.out.1.2, hfr.owned Z2.out.lt NB.out.2.2, hrd.lts.2.2.2⟩
    have XB : Hid (B + 1 < w3.heap.size ∧ bc < w3.heap.size ∧ br < w3.heap.size ∧ bs < w3.heap.size) := Lib.hid ⟨Nat.lt_of_lt_of_le Z2.out.lt hfr.size, hrd.lts.1, hrd.lts.2.1, hrd.lts.2.2.1⟩
    obtain ⟨X, hX⟩ : ∃ X, X = w3.heap.size := ⟨_, rfl⟩
    rw [← hX] at X4 AV LB XB ⊢
    clear hX gx hrd hfr hat hlow F2 P2 Z2 G2 HBC p0 p1 p2 p3 p4
    generalize w3.alloc (.cells #[.string sp, .string nm1, .slice ao2 at2.length cap2, .slice none 0 0, .string ⟨#[]⟩] 25) = w4 at *
    clear w3
    have r1 := D4.out.rd.c1
    simp only at r1
    have p0 := (cell_of_row w4 B 0 _ _ _ P4.out).trans rfl
    by_cases hkd : kd = 3
    · have hk1 : (kd == 3) = true := by simp [hkd]
      have HG : Hid (Xm.goT s (f + 1) none ⟨kd, nm, at1, tx, pa⟩ r = (.ok ⟨sp, nm1, at2, [], ByteArray.empty⟩, Xm.leaveR ⟨r.st, R1, d1, n1⟩)) := Lib.hid (by rw [Xm.goT, Hbt.out]; simp only; rw [if_pos hkd])
      have x0 := (cell_of_row w4 X 0 _ _ _ X4.out).trans rfl
      have x1 := (cell_of_row w4 X 1 _ _ _ X4.out).trans rfl
      have x2 := (cell_of_row w4 X 2 _ _ _ X4.out).trans rfl
      have x3 := (cell_of_row w4 X 3 _ _ _ X4.out).trans rfl
      have x4 := (cell_of_row w4 X 4 _ _ _ X4.out).trans rfl
      have z0 := (cell_of_row w4 (B + 1) 0 _ _ _ Z4.out).trans rfl
      have z1 := (cell_of_row w4 (B + 1) 1 _ _ _ Z4.out).trans rfl
      have z2 := (cell_of_row w4 (B + 1) 2 _ _ _ Z4.out).trans rfl
      have z3 := (cell_of_row w4 (B + 1) 3 _ _ _ Z4.out).trans rfl
      have z4 := (cell_of_row w4 (B + 1) 4 _ _ _ Z4.out).trans rfl
      have zf : ∀ j, w4.frozen? ⟨B + 1, j, none⟩ = false := fun j => frozen_of_row w4 (B + 1) _ _ _ Z4.out
      go_wp2
      have hsz := HB.out
      exact elem_done (B := B + 1) HG.out H.out.rd (D4.out.new Xm.Mv.set5 H.out.rd (by omega) LB.out.2.1) (F4.out.mvNew Xm.Mv.set5 (by omega)) (by have := Hbi.out.2.1; omega) rfl (setN Z4.out _ _ _ _ _) rfl (by omega) LB.out.2.1
        (Xm.NodAt.of (ks := []) (vs := []) (A4.out.mv' Xm.Mv.set5 (fun e => by have := (AV.out _ e).1; omega)) (fun g hg => by have h1 := AV.out g hg; exact ⟨by omega, h1.2.2, by have := X4.out.lt; simp [World.setCell]; omega⟩) (Xm.OwnK.nil _) (fun g hg => by cases hg) (Xm.Kids.nil _ _))
    · have hk1 : (kd == 3) = false := by simp [hkd]
      go_wp2_with fail
      have HG0 : Hid (Xm.goT s (f + 1) none ⟨kd, nm, at1, tx, pa⟩ r = (match Xm.goT s f (some ⟨sp, nm1, at2, [], ByteArray.empty⟩) ⟨kd, nm, at1, tx, pa⟩ ⟨r.st, R1, d1, n1⟩ with | (res, r2) => (res, Xm.leaveR r2))) := Lib.hid (by rw [Xm.goT, Hbt.out]; simp only; rw [if_neg hkd])
      obtain ⟨r10, hr10⟩ : ∃ r10 : Xm.Rs, r10 = ⟨r.st, R1, d1, n1⟩ := ⟨_, rfl⟩
      rw [← hr10] at HG0
      have HI0 : Hid (Xm.InvR s r10) := Lib.hid (by rw [hr10]; exact ⟨Hbi.out.1, Hbi.out.2.1, Hbi.out.2.2 _ rfl, H.out.inv.k, H.out.inv.e⟩)
      have HL : Hid (B + 1 < X ∧ (bc < B ∧ br < B ∧ bs < B) ∧ w.heap.size = B ∧ 1 < B) := Lib.hid ⟨XB.out.1, by have h1 := H.out.rd.lts; have h2 := HB.out; exact ⟨by have := h1.1; simp only at this; omega, by have := h1.2.1; simp only at this; omega, by have := h1.2.2.1; simp only at this; omega⟩, HB.out.symm, by have := H.out.tab.1; have := HB.out; omega⟩
      have HI : Hid (Xm.BodyInv ⟨bc, br, bs⟩ s lv w B X #[.int .i64 kd, .string nm, .slice ao at1.length cap, .string tx, .int .i64 pa] sp nm1 (.slice ao2 at2.length cap2) at2 w4 lv1 [] ByteArray.empty r10 (.slice none 0 0) []) := Lib.hid (by
        have hl := LB.out
        refine ⟨by rw [hr10]; exact D4.out, HI0.out, F4.out, P4.out, Z4.out, X4.out, A4.out, fun g hg => ?_, Xm.OwnK.nil _, fun g hg => (by cases hg), Xm.Kids.nil _ _, ⟨hl.1, hl.2.1, fun e => by have := hl.2.2 X e; omega⟩⟩
        have := AV.out g hg
        exact ⟨this.1, by omega, this.2.2, by simp [Value.ownBlock]⟩)
      have Hfu : Hid (2 * (s.size - r10.st.k) + 1 ≤ f ∧ f < 1000000) := Lib.hid (by have h1 := H.out.f1; have h2 := H.out.f2; rw [hr10]; simp only; omega)
      have HTB : Hid (Xm.Tab w ∧ Xm.Max w ∧ Xm.Low ⟨bc, br, bs⟩ lv) := Lib.hid ⟨H.out.tab, H.out.max, H.out.low⟩
      have HKd := Lib.hid hkd
      have H0 : Hid (Xm.Rd w ⟨bc, br, bs⟩ s lv r.st r.R r.d r.n) := Lib.hid H.out.rd
      clear Hbt Hbi LB XB AV D4 F4 P4 Z4 A4 X4 r1 p0 hk1 hkd hr10 H NB HB
      go_loopw [] (fun wr => ∃ (f' : Nat) (lv' : Value) (ks : List Xm.Nod) (tx2 : ByteArray) (r' : Xm.Rs) (kv : Value) (vs : List Xm.V5), Hid (Xm.BodyInv ⟨bc, br, bs⟩ s lv w B X #[.int .i64 kd, .string nm, .slice ao at1.length cap, .string tx, .int .i64 pa] sp nm1 (.slice ao2 at2.length cap2) at2 wr lv' ks tx2 r' kv vs) ∧
        Hid (Xm.goT s f (some ⟨sp, nm1, at2, [], ByteArray.empty⟩) ⟨kd, nm, at1, tx, pa⟩ r10 = Xm.goT s f' (some ⟨sp, nm1, at2, ks, tx2⟩) ⟨kd, nm, at1, tx, pa⟩ r') ∧ Hid (2 * (s.size - r'.st.k) + 1 ≤ f' ∧ f' ≤ f ∧ tx2.size ≤ 1000000 * (1000000 - f') ∧ vs.length ≤ 1000000 - f'))
        (fun wr => match wr.cell? ⟨bc, 1, none⟩ with | some (.int _ k) => s.size + 1 - k.toNat | _ => 0)
      case atStart => exact ⟨f, lv1, [], ByteArray.empty, r10, .slice none 0 0, [], HI, Lib.hid rfl, Lib.hid ⟨Hfu.out.1, Nat.le_refl _, Nat.zero_le _, Nat.zero_le _⟩⟩
      case round =>
        obtain ⟨f', lv', ks, tx2, r', kv, vs, HIr, HGr, HFr⟩ := hrel
        rename World => wr
        clear HI HI0
        obtain ⟨g, rfl⟩ : ∃ g, f' = g + 1 := ⟨f' - 1, by have := HFr.out.1; omega⟩
        have hc1 : wr.cell? ⟨bc, 1, none⟩ = some (.int .i64 r'.st.k) := (Xm.Sc.c HIr.out.rd.sc).2.1
        obtain ⟨q, st2, hnx⟩ : ∃ q st2, Xm.nextR s r'.st = (q, st2) := ⟨_, _, rfl⟩
        have Hnx := Lib.hid hnx
        have HNC := Lib.hid (rnext_any ⟨bc, br, bs⟩ s lv' r'.st r'.R r'.d r'.n wr HIr.out.rd HIr.out.inv.k (by omega) (HTB.out.1.fr HIr.out.fr HTB.out.2.2) (HTB.out.2.1.fr HIr.out.fr HTB.out.2.2) HTB.out.2.2.c)
        clear hnx
        by_cases he : st2.e = 0
        rotate_left
        · have HG : Hid (Xm.goT s (f + 1) none ⟨kd, nm, at1, tx, pa⟩ r = (.error (st2.e, st2.bad), Xm.leaveR ⟨st2, r'.R, r'.d, r'.n⟩)) := Lib.hid (by rw [HG0.out, HGr.out, Xm.goT, Hnx.out]; simp only; rw [if_pos he])
          go_wp2_with (go_at_call 33; refine HNC.out.mono ?_; rintro e w5 ⟨hrd, hfr, hif⟩; rw [Hnx.out] at hrd hif; simp only at hrd hif; rw [if_neg he] at hif; subst hif)
          exact elem_fail (z := (st2.e, st2.bad)) HG.out hrd (HIr.out.fr.trans hfr) (by have := HIr.out.inv.d; omega)
        obtain ⟨qk, qn, qa, qt, qp⟩ := q
        have hns := Xm.next_step HIr.out.inv.k HIr.out.inv.e Hnx.out he
        have hsz := Xm.nextR_sized s r'.st
        rw [Hnx.out] at hsz
        have Hsz := Lib.hid hsz
        have Hns := Lib.hid hns
        clear hns hsz
        go_upto_region 6 with (go_at_call 33; refine HNC.out.mono ?_; rintro e w5 ⟨hrd, hfr, hif⟩; rw [Hnx.out] at hrd hif; simp only at hrd hif; rw [if_pos he] at hif; obtain ⟨va, rfl, hat, hlow⟩ := hif; obtain ⟨qo, qc, hva⟩ := hat.shape; subst hva; unfold Xm.Pc.cells)
        have gq := Flow.grow_alloc w5 (.cells #[.int .i64 qk, .string qn, .slice qo qa.length qc, .string qt, .int .i64 qp] 82)
        have hk2 : r'.st.k ≤ st2.k ∧ st2.k ≤ s.size := by
          have := HIr.out.inv.k
          rcases Hns.out with h1 | h1 <;> omega
        have HB6 : Hid (Xm.BodyInv ⟨bc, br, bs⟩ s lv w B X #[.int .i64 kd, .string nm, .slice ao at1.length cap, .string tx, .int .i64 pa] sp nm1 (.slice ao2 at2.length cap2) at2 (w5.alloc (.cells #[.int .i64 qk, .string qn, .slice qo qa.length qc, .string qt, .int .i64 qp] 82)) lv' ks tx2 ⟨st2, r'.R, r'.d, r'.n⟩ kv vs) := Lib.hid ((HIr.out.step (r2 := ⟨st2, r'.R, r'.d, r'.n⟩) HL.out.1 HL.out.2.1 hfr hrd ⟨HIr.out.inv.R, HIr.out.inv.d, HIr.out.inv.n, hk2.2, he⟩).grow HL.out.1 HL.out.2.1 gq)
        have HQ6 : Hid (Xm.Row5 (w5.alloc (.cells #[.int .i64 qk, .string qn, .slice qo qa.length qc, .string qt, .int .i64 qp] 82)) w5.heap.size #[.int .i64 qk, .string qn, .slice qo qa.length qc, .string qt, .int .i64 qp]) := Lib.hid (heap_alloc_new _ _)
        have HA6 := Lib.hid (hat.grow gq)
        have HV6 : Hid (∀ g, (Value.slice qo qa.length qc).ownBlock = some g → ¬ Xm.Blk.S ⟨bc, br, bs⟩ g ∧ lv'.ownBlock ≠ some g) := Lib.hid (fun g hg => HIr.out.rd.notS (hlow g hg))
        have HX6 : Hid (X < wr.heap.size ∧ wr.heap.size ≤ w5.heap.size ∧ ∀ g, kv.ownBlock = some g → g < wr.heap.size) := Lib.hid ⟨HIr.out.x.lt, hfr.size, HIr.out.k.lt⟩
        obtain ⟨Q, hQ⟩ : ∃ Q, Q = w5.heap.size := ⟨_, rfl⟩
        rw [← hQ] at HQ6 HX6 ⊢
        have HK2 := Lib.hid hk2
        clear hrd hfr hat hlow gq hQ hk2 HNC
        generalize w5.alloc (.cells #[.int .i64 qk, .string qn, .slice qo qa.length qc, .string qt, .int .i64 qp] 82) = w6 at *
        clear w5
        have q0 := (cell_of_row w6 Q 0 _ _ _ HQ6.out).trans rfl
        have q1 := (cell_of_row w6 Q 1 _ _ _ HQ6.out).trans rfl
        have q2 := (cell_of_row w6 Q 2 _ _ _ HQ6.out).trans rfl
        have q3 := (cell_of_row w6 Q 3 _ _ _ HQ6.out).trans rfl
        have q4 := (cell_of_row w6 Q 4 _ _ _ HQ6.out).trans rfl
        have x0 := (cell_of_row w6 X 0 _ _ _ HB6.out.x).trans rfl
        have x1 := (cell_of_row w6 X 1 _ _ _ HB6.out.x).trans rfl
        have x2 := (cell_of_row w6 X 2 _ _ _ HB6.out.x).trans rfl
        have x3 := (cell_of_row w6 X 3 _ _ _ HB6.out.x).trans rfl
        have x4 := (cell_of_row w6 X 4 _ _ _ HB6.out.x).trans rfl
        have xf : ∀ j, w6.frozen? ⟨X, j, none⟩ = false := fun j => frozen_of_row w6 X _ _ _ HB6.out.x
        by_cases hk4 : qk = 4
        · have k4 : (qk == 4) = true := by simp [hk4]
          have hne : qk ≠ 0 := by omega
          have hlt : r'.st.k < st2.k := by
            rcases Hns.out with h1 | h1
            · exact absurd h1.1 hne
            · exact h1.2.1
          have HG2 : Hid (Xm.goT s f (some ⟨sp, nm1, at2, [], ByteArray.empty⟩) ⟨kd, nm, at1, tx, pa⟩ r10 = Xm.goT s g (some ⟨sp, nm1, at2, ks, tx2 ++ qt⟩) ⟨kd, nm, at1, tx, pa⟩ ⟨st2, r'.R, r'.d, r'.n⟩) := Lib.hid (by rw [HGr.out, Xm.goT, Hnx.out]; simp only; rw [if_neg (by simp [he]), if_pos hk4])
          have hz := Hsz.out.text
          have hft := HFr.out
          simp only at hz
          have hp : ¬ 9223372036854775807 < tx2.size + qt.size := by omega
          have HF2 : Hid (2 * (s.size - st2.k) + 1 ≤ g ∧ g ≤ f ∧ (tx2 ++ qt).size ≤ 1000000 * (1000000 - g) ∧ vs.length ≤ 1000000 - g) := Lib.hid (by rw [ByteArray.size_append]; have := HK2.out; have := Hfu.out; omega)
          have HT := Lib.hid (HB6.out.text HL.out.1 HL.out.2.1 HL.out.2.2.1 (tx2 ++ qt))
          clear hft hz hk4
          go_wp2
          have hc2 : (w6.setCell ⟨X, 4, none⟩ (.string (tx2 ++ qt))).cell? ⟨bc, 1, none⟩ = some (.int .i64 st2.k) := (Xm.Sc.c HT.out.rd.sc).2.1
          go_roundw
          case rel => exact ⟨g, lv', ks, tx2 ++ qt, ⟨st2, r'.R, r'.d, r'.n⟩, kv, vs, HT, HG2, HF2⟩
          case measure => simp only [hc1, hc2, Int.toNat_natCast]; have := HK2.out; omega
        have k4 : (qk == 4) = false := by simp [hk4]
        have p1 := (cell_of_row w6 B 1 _ _ _ HB6.out.p).trans rfl
        have p4 := (cell_of_row w6 B 4 _ _ _ HB6.out.p).trans rfl
        obtain ⟨ka, kc, hkv⟩ := HB6.out.k.shape
        subst hkv
        by_cases hk13 : qk = 1 ∨ qk = 3
        · have hne : qk ≠ 0 := by omega
          have hlt : r'.st.k < st2.k := by
            rcases Hns.out with h1 | h1
            · exact absurd h1.1 hne
            · exact h1.2.1
          have Hlt := Lib.hid hlt
          obtain ⟨res, r3, hgo⟩ : ∃ res r3, Xm.goT s g none ⟨qk, qn, qa, qt, qp⟩ ⟨st2, r'.R, r'.d, r'.n⟩ = (res, r3) := ⟨_, _, rfl⟩
          have Hgo := Lib.hid hgo
          have hin := Xm.goT_inv s g none ⟨qk, qn, qa, qt, qp⟩ ⟨st2, r'.R, r'.d, r'.n⟩ HB6.out.inv
          rw [hgo] at hin
          have Hin := Lib.hid hin
          have gd := Flow.grow_drew w6
          have HBd := Lib.hid (HB6.out.grow HL.out.1 HL.out.2.1 gd)
          have hcall : Calls Tryz.prog 35 #[.pointer (some ⟨br, 0, none⟩), .agg #[.int .i64 qk, .string qn, .slice qo qa.length qc, .string qt, .int .i64 qp]] w6.drew (ElemPost ⟨bc, br, bs⟩ s lv' g ⟨qk, qn, qa, qt, qp⟩ ⟨st2, r'.R, r'.d, r'.n⟩ w6.drew) := IHH.out g (by have := HFr.out; omega) ⟨bc, br, bs⟩ lv' ⟨qk, qn, qa, qt, qp⟩ (.slice qo qa.length qc) ⟨st2, r'.R, r'.d, r'.n⟩ w6.drew
            ⟨HBd.out.rd, HBd.out.inv, HA6.out.grow gd, HV6.out, Hsz.out, by have := HFr.out; have := HK2.out; simp only; omega, by have := HFr.out; have := Hfu.out; omega, HTB.out.2.2.fr HBd.out.fr HTB.out.1.1, HTB.out.1.fr HBd.out.fr HTB.out.2.2, HTB.out.2.1.fr HBd.out.fr HTB.out.2.2⟩
          have Hcall := Lib.hid hcall
          have Hdz : Hid (w6.drew.heap.size = w6.heap.size ∧ X < w6.heap.size ∧ ∀ g, (Value.slice ka vs.length kc).ownBlock = some g → g < w6.heap.size) := Lib.hid ⟨rfl, HB6.out.x.lt, HB6.out.k.lt⟩
          clear hgo hin gd hcall hlt hne
          cases res with
          | error z =>
            have HG : Hid (Xm.goT s (f + 1) none ⟨kd, nm, at1, tx, pa⟩ r = (.error z, Xm.leaveR r3)) := Lib.hid (by rw [HG0.out, HGr.out, Xm.goT, Hnx.out]; simp only; rw [if_neg (by simp [he]), if_neg hk4, if_pos hk13, Hgo.out])
            have Die : Hid (∀ wz, Flow.Grow w6 wz → ∀ tmps, Calls Tryz.prog 35 #[.pointer (some ⟨br, 0, none⟩), .agg #[.int .i64 qk, .string qn, .slice qo qa.length qc, .string qt, .int .i64 qp]] wz fun e wy => ∃ ch, e = .panicked ch ∧
                Leaves Tryz.prog Tryz.f35 tmps (ElemPost ⟨bc, br, bs⟩ s lv (f + 1) ⟨kd, nm, at1, tx, pa⟩ r w) [{ target := .fn (.func 52) #[], args := #[.pointer (some ⟨bs, 0, none⟩)] }] (.panicking ch) wy) := Lib.hid (by
              intro wz gz tmps
              have HBz := HB6.out.grow HL.out.1 HL.out.2.1 gz
              have hc := IHH.out g (by have := HFr.out; omega) ⟨bc, br, bs⟩ lv' ⟨qk, qn, qa, qt, qp⟩ (.slice qo qa.length qc) ⟨st2, r'.R, r'.d, r'.n⟩ wz
                ⟨HBz.rd, HBz.inv, HA6.out.grow gz, HV6.out, Hsz.out, by have := HFr.out; have := HK2.out; have := Hlt.out; simp only; omega, by have := HFr.out; have := Hfu.out; omega, HTB.out.2.2.fr HBz.fr HTB.out.1.1, HTB.out.1.fr HBz.fr HTB.out.2.2, HTB.out.2.1.fr HBz.fr HTB.out.2.2⟩
              refine hc.mono ?_
              rintro e wy ⟨lv2, hrd, hfr, hres⟩
              rw [Hgo.out] at hrd hres
              simp only at hres hrd
              exact ⟨_, hres, elem_fail HG.out hrd (HBz.fr.trans hfr) (by have h : r3.d ≤ 32 := Hin.out.d; omega)⟩)
            have X3 : Hid (∀ wz, Flow.Grow w6 wz → wz.cell? ⟨X, 3, none⟩ = some (.slice ka vs.length kc)) := Lib.hid (fun wz gz => (cell_of_row wz X 3 _ _ _ (HB6.out.x.grow gz)).trans rfl)
            have Q3 : Hid (∀ wz, Flow.Grow w6 wz → ∀ j, wz.cell? ⟨Q, j, none⟩ = (#[.int .i64 qk, .string qn, .slice qo qa.length qc, .string qt, .int .i64 qp] : Array Value)[j]?) := Lib.hid (fun wz gz j => cell_of_row wz Q j _ _ _ (HQ6.out.grow gz))
            rcases hk13 with hq1 | hq3
            · subst hq1
              go_upto_region 12 with fail
              refine Flow.region_tail2 (R := Flow.Grow) (C := fun wq => Flow.Grow w6 wq) (Fs := [.inl (.pointer (some ⟨X, 3, none⟩)), .inl (.slice ka vs.length kc), .inl ((.pointer (some ⟨br, 0, none⟩))), .inl (.agg #[.int .i64 1, .string qn, .slice qo qa.length qc, .string qt, .int .i64 qp]), .inr (fun _ _ => False), .inr (fun _ _ => False), .inr (fun _ _ => False), .inl (.pointer (some ⟨X, 3, none⟩))])
                (S := [[], [0], [], [], [2, 3], [4], [1, 5], [], [0, 1, 2, 3, 4, 5, 6, 7]]) 8 (by kernel_rfl) (by kernel_rfl) (by kernel_rfl) (by kernel_rfl) rfl ?stab12 Flow.grow_refl (fun _ _ h k => h.trans k) (Flow.grow_drew _) ?ones12 ?ends12
              case ones12 =>
                refine Flow.Ones.cons ?_ ?_
                · intro a w hC hoff _
                  have e5 : a.eval (.tmp 5) = (.pointer (some ⟨X, 0, none⟩)) := hoff.at 5 (by kernel_rfl)
                  refine .inl ⟨Flow.want_none rfl, ?_⟩
                  refine Flow.run_same ?_ Flow.grow_refl
                  have ec := Flow.eval_const a
                  generalize a.eval = ρ at e5 ec ⊢
                  simp [execOp, e5, go_sem]
                refine Flow.Ones.cons ?_ ?_
                · rintro a w hC hoff ⟨k0, -⟩
                  have e39 : a.eval (.tmp 39) = .pointer (some ⟨X, 3, none⟩) := k0 39 rfl
                  refine .inl ⟨Flow.want_none rfl, ?_⟩
                  refine Flow.run_same ?_ Flow.grow_refl
                  have ec := Flow.eval_const a
                  generalize a.eval = ρ at e39 ec ⊢
                  have hc := X3.out w hC
                  simp [execOp, e39, hc, go_sem]
                refine Flow.Ones.cons ?_ ?_
                · intro a w hC hoff _
                  have e0 : a.eval (.tmp 0) = (.pointer (some ⟨br, 0, none⟩)) := hoff.at 0 (by kernel_rfl)
                  refine .inl ⟨Flow.want_none rfl, ?_⟩
                  exact Flow.run_same (Flow.exec_move (.inl rfl) e0) Flow.grow_refl
                refine Flow.Ones.cons ?_ ?_
                · intro a w hC hoff _
                  have e6 : a.eval (.tmp 6) = (.pointer (some ⟨Q, 0, none⟩)) := hoff.at 6 (by kernel_rfl)
                  refine .inl ⟨Flow.want_none rfl, ?_⟩
                  refine Flow.run_same ?_ Flow.grow_refl
                  have ec := Flow.eval_const a
                  generalize a.eval = ρ at e6 ec ⊢
                  have h0 := Q3.out w hC 0
                  have h1 := Q3.out w hC 1
                  have h2 := Q3.out w hC 2
                  have h3 := Q3.out w hC 3
                  have h4 := Q3.out w hC 4
                  simp [execOp, e6, h0, h1, h2, h3, h4, go_sem]
                refine Flow.Ones.cons ?_ ?_
                · rintro a w hC hoff ⟨k2, k3, -⟩
                  have e41 : a.eval (.tmp 41) = (.pointer (some ⟨br, 0, none⟩)) := k2 41 rfl
                  have e42 : a.eval (.tmp 42) = .agg #[.int .i64 1, .string qn, .slice qo qa.length qc, .string qt, .int .i64 qp] := k3 42 rfl
                  refine .inl ⟨Flow.want_none rfl, ?_⟩
                  refine run_die (Flow.exec_call (args := #[.pointer (some ⟨br, 0, none⟩), .agg #[.int .i64 1, .string qn, .slice qo qa.length qc, .string qt, .int .i64 qp]]) rfl Tryz.func35 (by kernel_rfl) (by kernel_rfl) (by simp only [List.map_toArray, List.map_cons, List.map_nil, e41, e42])) ?_
                  refine (Die.out w hC a.tmps).mono ?_
                  rintro e wy ⟨ch, he, hlv⟩
                  refine ⟨ch, he, ?_⟩
                  rw [← show a.defers = [{ target := .fn (.func 52) #[], args := #[.pointer (some ⟨bs, 0, none⟩)] }] from hoff.defers] at hlv
                  exact hlv
                refine Flow.Ones.cons ?_ ?_
                · rintro a w hC hoff ⟨k4, -⟩
                  have e43 : (fun _ _ => False) (a.eval (.tmp 43)) w := k4 43 rfl
                  refine .inl ⟨Flow.want_none rfl, ?_⟩
                  exact e43.elim
                refine Flow.Ones.cons ?_ ?_
                · rintro a w hC hoff ⟨k1, k5, -⟩
                  have e40 : a.eval (.tmp 40) = .slice ka vs.length kc := k1 40 rfl
                  have e44 : (fun _ _ => False) (a.eval (.tmp 44)) w := k5 44 rfl
                  refine .inl ⟨Flow.want_none rfl, ?_⟩
                  exact e44.elim
                refine Flow.Ones.cons ?_ ?_
                · intro a w hC hoff _
                  have e5 : a.eval (.tmp 5) = (.pointer (some ⟨X, 0, none⟩)) := hoff.at 5 (by kernel_rfl)
                  refine .inl ⟨Flow.want_none rfl, ?_⟩
                  refine Flow.run_same ?_ Flow.grow_refl
                  have ec := Flow.eval_const a
                  generalize a.eval = ρ at e5 ec ⊢
                  simp [execOp, e5, go_sem]
                exact trivial
              case stab12 => simp [Flow.Stable]
              case ends12 =>
                intro wz o ho hC
                simp only [List.take_succ_cons, List.take_zero, Flow.ends]
                intro v43 h
                exact h.elim
            · subst hq3
              go_upto_region 12 with fail
              refine Flow.region_tail2 (R := Flow.Grow) (C := fun wq => Flow.Grow w6 wq) (Fs := [.inl (.pointer (some ⟨X, 3, none⟩)), .inl (.slice ka vs.length kc), .inl ((.pointer (some ⟨br, 0, none⟩))), .inl (.agg #[.int .i64 3, .string qn, .slice qo qa.length qc, .string qt, .int .i64 qp]), .inr (fun _ _ => False), .inr (fun _ _ => False), .inr (fun _ _ => False), .inl (.pointer (some ⟨X, 3, none⟩))])
                (S := [[], [0], [], [], [2, 3], [4], [1, 5], [], [0, 1, 2, 3, 4, 5, 6, 7]]) 8 (by kernel_rfl) (by kernel_rfl) (by kernel_rfl) (by kernel_rfl) rfl ?stab12 Flow.grow_refl (fun _ _ h k => h.trans k) (Flow.grow_drew _) ?ones12 ?ends12
              case ones12 =>
                refine Flow.Ones.cons ?_ ?_
                · intro a w hC hoff _
                  have e5 : a.eval (.tmp 5) = (.pointer (some ⟨X, 0, none⟩)) := hoff.at 5 (by kernel_rfl)
                  refine .inl ⟨Flow.want_none rfl, ?_⟩
                  refine Flow.run_same ?_ Flow.grow_refl
                  have ec := Flow.eval_const a
                  generalize a.eval = ρ at e5 ec ⊢
                  simp [execOp, e5, go_sem]
                refine Flow.Ones.cons ?_ ?_
                · rintro a w hC hoff ⟨k0, -⟩
                  have e39 : a.eval (.tmp 39) = .pointer (some ⟨X, 3, none⟩) := k0 39 rfl
                  refine .inl ⟨Flow.want_none rfl, ?_⟩
                  refine Flow.run_same ?_ Flow.grow_refl
                  have ec := Flow.eval_const a
                  generalize a.eval = ρ at e39 ec ⊢
                  have hc := X3.out w hC
                  simp [execOp, e39, hc, go_sem]
                refine Flow.Ones.cons ?_ ?_
                · intro a w hC hoff _
                  have e0 : a.eval (.tmp 0) = (.pointer (some ⟨br, 0, none⟩)) := hoff.at 0 (by kernel_rfl)
                  refine .inl ⟨Flow.want_none rfl, ?_⟩
                  exact Flow.run_same (Flow.exec_move (.inl rfl) e0) Flow.grow_refl
                refine Flow.Ones.cons ?_ ?_
                · intro a w hC hoff _
                  have e6 : a.eval (.tmp 6) = (.pointer (some ⟨Q, 0, none⟩)) := hoff.at 6 (by kernel_rfl)
                  refine .inl ⟨Flow.want_none rfl, ?_⟩
                  refine Flow.run_same ?_ Flow.grow_refl
                  have ec := Flow.eval_const a
                  generalize a.eval = ρ at e6 ec ⊢
                  have h0 := Q3.out w hC 0
                  have h1 := Q3.out w hC 1
                  have h2 := Q3.out w hC 2
                  have h3 := Q3.out w hC 3
                  have h4 := Q3.out w hC 4
                  simp [execOp, e6, h0, h1, h2, h3, h4, go_sem]
                refine Flow.Ones.cons ?_ ?_
                · rintro a w hC hoff ⟨k2, k3, -⟩
                  have e41 : a.eval (.tmp 41) = (.pointer (some ⟨br, 0, none⟩)) := k2 41 rfl
                  have e42 : a.eval (.tmp 42) = .agg #[.int .i64 3, .string qn, .slice qo qa.length qc, .string qt, .int .i64 qp] := k3 42 rfl
                  refine .inl ⟨Flow.want_none rfl, ?_⟩
                  refine run_die (Flow.exec_call (args := #[.pointer (some ⟨br, 0, none⟩), .agg #[.int .i64 3, .string qn, .slice qo qa.length qc, .string qt, .int .i64 qp]]) rfl Tryz.func35 (by kernel_rfl) (by kernel_rfl) (by simp only [List.map_toArray, List.map_cons, List.map_nil, e41, e42])) ?_
                  refine (Die.out w hC a.tmps).mono ?_
                  rintro e wy ⟨ch, he, hlv⟩
                  refine ⟨ch, he, ?_⟩
                  rw [← show a.defers = [{ target := .fn (.func 52) #[], args := #[.pointer (some ⟨bs, 0, none⟩)] }] from hoff.defers] at hlv
                  exact hlv
                refine Flow.Ones.cons ?_ ?_
                · rintro a w hC hoff ⟨k4, -⟩
                  have e43 : (fun _ _ => False) (a.eval (.tmp 43)) w := k4 43 rfl
                  refine .inl ⟨Flow.want_none rfl, ?_⟩
                  exact e43.elim
                refine Flow.Ones.cons ?_ ?_
                · rintro a w hC hoff ⟨k1, k5, -⟩
                  have e40 : a.eval (.tmp 40) = .slice ka vs.length kc := k1 40 rfl
                  have e44 : (fun _ _ => False) (a.eval (.tmp 44)) w := k5 44 rfl
                  refine .inl ⟨Flow.want_none rfl, ?_⟩
                  exact e44.elim
                refine Flow.Ones.cons ?_ ?_
                · intro a w hC hoff _
                  have e5 : a.eval (.tmp 5) = (.pointer (some ⟨X, 0, none⟩)) := hoff.at 5 (by kernel_rfl)
                  refine .inl ⟨Flow.want_none rfl, ?_⟩
                  refine Flow.run_same ?_ Flow.grow_refl
                  have ec := Flow.eval_const a
                  generalize a.eval = ρ at e5 ec ⊢
                  simp [execOp, e5, go_sem]
                exact trivial
              case stab12 => simp [Flow.Stable]
              case ends12 =>
                intro wz o ho hC
                simp only [List.take_succ_cons, List.take_zero, Flow.ends]
                intro v43 h
                exact h.elim
          | ok y =>
            have HG2 : Hid (Xm.goT s f (some ⟨sp, nm1, at2, [], ByteArray.empty⟩) ⟨kd, nm, at1, tx, pa⟩ r10 = Xm.goT s g (some ⟨sp, nm1, at2, ks ++ [y], tx2⟩) ⟨kd, nm, at1, tx, pa⟩ r3) := Lib.hid (by rw [HGr.out, Xm.goT, Hnx.out]; simp only; rw [if_neg (by simp [he]), if_neg hk4, if_pos hk13, Hgo.out])
            obtain ⟨i0, hi, hz0, hz1, hz2⟩ := info_parts info_node
            have HI := Lib.hid (And.intro hi (And.intro hz0 (And.intro hz1 hz2)))
            clear hi hz0 hz1 hz2
            have Hvl : Hid (vs.length ≤ 1000000) := Lib.hid (by have := HFr.out; omega)
            have Step : Hid (∀ w7 lv2, Xm.Rd w7 ⟨bc, br, bs⟩ s lv2 r3.st r3.R r3.d r3.n → Xm.Fr (Xm.Blk.S ⟨bc, br, bs⟩) w6.drew lv' w7 lv2 → Xm.BodyInv ⟨bc, br, bs⟩ s lv w B X #[.int .i64 kd, .string nm, .slice ao at1.length cap, .string tx, .int .i64 pa] sp nm1 (.slice ao2 at2.length cap2) at2 w7 lv2 ks tx2 r3 (.slice ka vs.length kc) vs) := Lib.hid (fun w7 lv2 h1 h2 => HBd.out.step HL.out.1 HL.out.2.1 h2 h1 (Hin.out.ok y rfl).1)
            rcases hk13 with hq1 | hq3
            · subst hq1
              go_upto_region 12 with fail
              clear x0 x1 x2 x4 p1 p4
              refine region_out [{ target := .fn (.func 52) #[], args := #[.pointer (some ⟨bs, 0, none⟩)] }] (fun _ _ => False) ?_ (fun ch a w _ h => h.elim)
              go_region_law (first
                | (refine step_append_lies _ rfl _ _ 23 rfl 0 25 i0 (.agg #[.string ByteArray.empty, .string ByteArray.empty, .slice none 0 0, .slice none 0 0, .string ByteArray.empty]) 5 96 Tryz.underlying23 HI.out.1 HI.out.2.1 HI.out.2.2.1 HI.out.2.2.2 rfl (by decide) (.slice ka vs.length kc) vs.length (Xm.flat vs) rfl (HB7.out.k.grow (Flow.grow_alloc _ _)) ⟨w7.heap.size, 0, none⟩ 1 1 [.string u0, .string u1, .slice ua1 un1 uc1, .slice ua2 un2 uc2, .string u4] rfl rfl (by intro j uu hj; match j, hj with | 0, hj => (simp at hj; subst hj; simp [Addr.add]) | 1, hj => (simp at hj; subst hj; simp [Addr.add]) | 2, hj => (simp at hj; subst hj; simp [Addr.add]) | 3, hj => (simp at hj; subst hj; simp [Addr.add]) | 4, hj => (simp at hj; subst hj; simp [Addr.add])) (by intro uu hu; simp at hu; rcases hu with rfl | rfl | rfl | rfl | rfl <;> rfl) (by decide) (by have := Hvl.out; unfold maxLen; omega) (by have := Hvl.out; omega) (Nat.zero_le _) _ rfl ?_
                   intro g4 c4 w8 hown4 hgrow4 hat4 hlt4
                   have Hend := Lib.hid (HPu.out g4 c4 w8 hown4 hgrow4 (hat4.imp_right (fun h => Nat.le_of_eq h.symm)))
                   have x38 := (cell_of_row w8 X 3 _ _ _ Hend.out.1).trans rfl
                   have xf8 : w8.frozen? ⟨X, 3, none⟩ = false := frozen_of_row w8 X _ _ _ Hend.out.1
                   clear hown4 hgrow4 hat4 hlt4)
                | (go_simp
                   go_at_call 35
                   refine Hcall.out.mono ?_
                   rintro e w7 ⟨lv2, hrd, hfr, hres⟩
                   rw [Hgo.out] at hrd hres
                   simp only at hres
                   obtain ⟨vv, rfl, hnode⟩ := hres
                   obtain ⟨u0, u1, u4, ua1, ua2, un1, un2, uc1, uc2, rfl⟩ := hnode.form
                   have HB7 := Lib.hid (Step.out w7 lv2 hrd hfr)
                   have HPu := Lib.hid (elem_push HB7.out HL.out.1 HL.out.2.1 HL.out.2.2.1 (H := w6.heap.size) Hdz.out.2.1 Hdz.out.2.2 (v := (.string u0, .string u1, .slice ua1 un1 uc1, .slice ua2 un2 uc2, .string u4)) hnode)
                   have x37 := (cell_of_row w7 X 3 _ _ _ HB7.out.x).trans rfl
                   have x39 : ∀ o, (w7.alloc o).cell? ⟨X, 3, none⟩ = some (.slice ka vs.length kc) := fun o => (cell_of_row _ X 3 _ _ _ (HB7.out.grow HL.out.1 HL.out.2.1 (Flow.grow_alloc w7 o)).x).trans rfl
                   clear hrd hfr hnode
                   unfold Xm.V5.agg))
              all_goals
                refine out_normal ?_
                go_wp2
                have hc2 := (Xm.Sc.c Hend.out.2.rd.sc).2.1
                simp only at hc2
                go_roundw
                case rel => exact ⟨g, lv2, ks ++ [y], tx2, r3, _, _, Lib.hid Hend.out.2, HG2, Lib.hid ⟨by have h1 := HFr.out; have h2 := (Hin.out.ok y rfl).2; have h3 := Hlt.out; have h4 := HK2.out; have h5 := (Hin.out.ok y rfl).1.k; simp only at h2 h5; omega, by have := HFr.out; omega, by have := HFr.out; omega, by have := HFr.out; have := Hfu.out; rw [List.length_append, List.length_singleton]; omega⟩⟩
                case measure => simp only [hc1, hc2, Int.toNat_natCast]; have h2 := (Hin.out.ok y rfl).2; have h3 := Hlt.out; have h4 := (Hin.out.ok y rfl).1.k; simp only at h2 h4; omega
            · subst hq3
              go_upto_region 12 with fail
              clear x0 x1 x2 x4 p1 p4
              refine region_out [{ target := .fn (.func 52) #[], args := #[.pointer (some ⟨bs, 0, none⟩)] }] (fun _ _ => False) ?_ (fun ch a w _ h => h.elim)
              go_region_law (first
                | (refine step_append_lies _ rfl _ _ 23 rfl 0 25 i0 (.agg #[.string ByteArray.empty, .string ByteArray.empty, .slice none 0 0, .slice none 0 0, .string ByteArray.empty]) 5 96 Tryz.underlying23 HI.out.1 HI.out.2.1 HI.out.2.2.1 HI.out.2.2.2 rfl (by decide) (.slice ka vs.length kc) vs.length (Xm.flat vs) rfl (HB7.out.k.grow (Flow.grow_alloc _ _)) ⟨w7.heap.size, 0, none⟩ 1 1 [.string u0, .string u1, .slice ua1 un1 uc1, .slice ua2 un2 uc2, .string u4] rfl rfl (by intro j uu hj; match j, hj with | 0, hj => (simp at hj; subst hj; simp [Addr.add]) | 1, hj => (simp at hj; subst hj; simp [Addr.add]) | 2, hj => (simp at hj; subst hj; simp [Addr.add]) | 3, hj => (simp at hj; subst hj; simp [Addr.add]) | 4, hj => (simp at hj; subst hj; simp [Addr.add])) (by intro uu hu; simp at hu; rcases hu with rfl | rfl | rfl | rfl | rfl <;> rfl) (by decide) (by have := Hvl.out; unfold maxLen; omega) (by have := Hvl.out; omega) (Nat.zero_le _) _ rfl ?_
                   intro g4 c4 w8 hown4 hgrow4 hat4 hlt4
                   have Hend := Lib.hid (HPu.out g4 c4 w8 hown4 hgrow4 (hat4.imp_right (fun h => Nat.le_of_eq h.symm)))
                   have x38 := (cell_of_row w8 X 3 _ _ _ Hend.out.1).trans rfl
                   have xf8 : w8.frozen? ⟨X, 3, none⟩ = false := frozen_of_row w8 X _ _ _ Hend.out.1
                   clear hown4 hgrow4 hat4 hlt4)
                | (go_simp
                   go_at_call 35
                   refine Hcall.out.mono ?_
                   rintro e w7 ⟨lv2, hrd, hfr, hres⟩
                   rw [Hgo.out] at hrd hres
                   simp only at hres
                   obtain ⟨vv, rfl, hnode⟩ := hres
                   obtain ⟨u0, u1, u4, ua1, ua2, un1, un2, uc1, uc2, rfl⟩ := hnode.form
                   have HB7 := Lib.hid (Step.out w7 lv2 hrd hfr)
                   have HPu := Lib.hid (elem_push HB7.out HL.out.1 HL.out.2.1 HL.out.2.2.1 (H := w6.heap.size) Hdz.out.2.1 Hdz.out.2.2 (v := (.string u0, .string u1, .slice ua1 un1 uc1, .slice ua2 un2 uc2, .string u4)) hnode)
                   have x37 := (cell_of_row w7 X 3 _ _ _ HB7.out.x).trans rfl
                   have x39 : ∀ o, (w7.alloc o).cell? ⟨X, 3, none⟩ = some (.slice ka vs.length kc) := fun o => (cell_of_row _ X 3 _ _ _ (HB7.out.grow HL.out.1 HL.out.2.1 (Flow.grow_alloc w7 o)).x).trans rfl
                   clear hrd hfr hnode
                   unfold Xm.V5.agg))
              all_goals
                refine out_normal ?_
                go_wp2
                have hc2 := (Xm.Sc.c Hend.out.2.rd.sc).2.1
                simp only at hc2
                go_roundw
                case rel => exact ⟨g, lv2, ks ++ [y], tx2, r3, _, _, Lib.hid Hend.out.2, HG2, Lib.hid ⟨by have h1 := HFr.out; have h2 := (Hin.out.ok y rfl).2; have h3 := Hlt.out; have h4 := HK2.out; have h5 := (Hin.out.ok y rfl).1.k; simp only at h2 h5; omega, by have := HFr.out; omega, by have := HFr.out; omega, by have := HFr.out; have := Hfu.out; rw [List.length_append, List.length_singleton]; omega⟩⟩
                case measure => simp only [hc1, hc2, Int.toNat_natCast]; have h2 := (Hin.out.ok y rfl).2; have h3 := Hlt.out; have h4 := (Hin.out.ok y rfl).1.k; simp only at h2 h4; omega
        have k1 : (qk == 1) = false := by simp only [not_or] at hk13; simp [hk13.1]
        have k3 : (qk == 3) = false := by simp only [not_or] at hk13; simp [hk13.2]
        by_cases hk2 : qk = 2
        rotate_left
        · have k2 : (qk == 2) = false := by simp [hk2]
          have HG : Hid (Xm.goT s (f + 1) none ⟨kd, nm, at1, tx, pa⟩ r = (.error (3, (st2.k : Int)), Xm.leaveR ⟨st2, r'.R, r'.d, r'.n⟩)) := Lib.hid (by rw [HG0.out, HGr.out, Xm.goT, Hnx.out]; simp only; rw [if_neg (by simp [he]), if_neg hk4, if_neg hk13, if_neg hk2])
          have r0 := HB6.out.rd.rd.c0
          simp only at r0
          have HS6 : Hid (Xm.Sc w6 bc s st2.k 0 st2.bad) := Lib.hid (by have h := HB6.out.rd.sc; unfold Xm.Scs at h; simp only [he] at h; exact h)
          go_wp2_with (first | (go_at_call 49; refine (at_any _ _ _ _ _ _ HS6.out).mono ?_; rintro e w7 ⟨rfl, rfl⟩) | (go_at_call 36; refine (stop_any _ _ _).mono ?_; rintro e w7 ⟨rfl, rfl⟩))
          exact elem_fail (z := (3, (st2.k : Int))) HG.out HB6.out.rd HB6.out.fr (by have := HB6.out.inv.d; simp only at this; omega)
        have k2 : (qk == 2) = true := by simp [hk2]
        cases hnm : (qn.toList == nm.toList)
        · have HG : Hid (Xm.goT s (f + 1) none ⟨kd, nm, at1, tx, pa⟩ r = (.error (3, qp), Xm.leaveR ⟨st2, r'.R, r'.d, r'.n⟩)) := Lib.hid (by rw [HG0.out, HGr.out, Xm.goT, Hnx.out]; simp only; rw [if_neg (by simp [he]), if_neg hk4, if_neg hk13, if_pos hk2, if_pos hnm])
          go_wp2_with (go_at_call 36; refine (stop_any _ _ _).mono ?_; rintro e w7 ⟨rfl, rfl⟩)
          exact elem_fail (z := (3, qp)) HG.out HB6.out.rd HB6.out.fr (by have := HB6.out.inv.d; simp only at this; omega)
        have htz : tx2.size ≤ 9223372036854775807 := by have := HFr.out; omega
        by_cases hks : ks = []
        · have hv0 : vs.length = 0 := by have := HB6.out.kids.1; rw [this, hks]; rfl
          have HG : Hid (Xm.goT s (f + 1) none ⟨kd, nm, at1, tx, pa⟩ r = (.ok ⟨sp, nm1, at2, ks, Xm.trim tx2⟩, Xm.leaveR ⟨st2, r'.R, r'.d, r'.n⟩)) := Lib.hid (by rw [HG0.out, HGr.out, Xm.goT, Hnx.out]; simp only; rw [if_neg (by simp [he]), if_neg hk4, if_neg hk13, if_pos hk2, if_neg (by simp [hnm]), if_neg (by simp [hks]), if_neg (by simp [hks])])
          obtain rfl : vs = [] := List.eq_nil_of_length_eq_zero hv0
          clear hv0
          clear x0 x1 x2 q2 q3 q4 hk4 hk13 hk2
          go_upto_region 19 with (go_at_call 50; refine (trim_any _ _ htz).mono ?_; rintro e w7 ⟨rfl, rfl⟩)
          have HB7 := Lib.hid (HB6.out.text HL.out.1 HL.out.2.1 HL.out.2.2.1 (Xm.trim tx2))
          clear x3 x4 xf p1 p4 q0 q1 HB6 HQ6 HA6
          generalize w6.setCell ⟨X, 4, none⟩ (.string (Xm.trim tx2)) = w7 at *
          have x0 := (cell_of_row w7 X 0 _ _ _ HB7.out.x).trans rfl
          have x1 := (cell_of_row w7 X 1 _ _ _ HB7.out.x).trans rfl
          have x2 := (cell_of_row w7 X 2 _ _ _ HB7.out.x).trans rfl
          have x3 := (cell_of_row w7 X 3 _ _ _ HB7.out.x).trans rfl
          have x4 := (cell_of_row w7 X 4 _ _ _ HB7.out.x).trans rfl
          have z0 := (cell_of_row w7 (B + 1) 0 _ _ _ HB7.out.z).trans rfl
          have z1 := (cell_of_row w7 (B + 1) 1 _ _ _ HB7.out.z).trans rfl
          have z2 := (cell_of_row w7 (B + 1) 2 _ _ _ HB7.out.z).trans rfl
          have z3 := (cell_of_row w7 (B + 1) 3 _ _ _ HB7.out.z).trans rfl
          have z4 := (cell_of_row w7 (B + 1) 4 _ _ _ HB7.out.z).trans rfl
          have zf : ∀ j, w7.frozen? ⟨B + 1, j, none⟩ = false := fun j => frozen_of_row w7 (B + 1) _ _ _ HB7.out.z
          go_wp2
          have hBw := HL.out.2.2.1
          exact elem_done (B := B + 1) HG.out H0.out (HB7.out.rd.new Xm.Mv.set5 H0.out (by omega) HB7.out.l.2.1) (HB7.out.fr.mvNew Xm.Mv.set5 (by omega)) (by have := HB7.out.inv.d; simp only at this; omega) rfl (setN HB7.out.z _ _ _ _ _) rfl (by omega) HB7.out.l.2.1 (HB7.out.fin hBw Xm.Mv.set5)
        · have hv0 : 0 < vs.length := by
            have := HB6.out.kids.1
            have h2 : ks.length ≠ 0 := fun h => hks (List.eq_nil_of_length_eq_zero h)
            omega
          have hd0 : decide ((0 : Int) < (vs.length : Int)) = true := decide_eq_true (by omega)
          have hd1 : (0 : Int) < (vs.length : Int) := by omega
          obtain ⟨E, hE⟩ : ∃ E, E = decide ((Xm.trim tx2).size = 0) := ⟨_, rfl⟩
          have HE := Lib.hid hE
          clear x0 x1 x2 q2 q3 q4
          cases E
          · have HG : Hid (Xm.goT s (f + 1) none ⟨kd, nm, at1, tx, pa⟩ r = (.error (3, pa), Xm.leaveR ⟨st2, r'.R, r'.d, r'.n⟩)) := Lib.hid (by
              rw [HG0.out, HGr.out, Xm.goT, Hnx.out]; simp only; rw [if_neg (by simp [he]), if_neg hk4, if_neg hk13, if_pos hk2, if_neg (by simp [hnm]), if_pos ⟨hks, fun h => by rw [h] at hE; simp at hE⟩])
            clear hE hk4 hk13 hk2 hks
            go_wp2_with (first | (go_at_call 34; refine (empty_any _ _ htz).mono ?_; rintro e w7 ⟨rfl, rfl⟩; rw [← HE.out]) | (go_at_call 36; refine (stop_any _ _ _).mono ?_; rintro e w7 ⟨rfl, rfl⟩))
            exact elem_fail (z := (3, pa)) HG.out HB6.out.rd HB6.out.fr (by have := HB6.out.inv.d; simp only at this; omega)
          have HG : Hid (Xm.goT s (f + 1) none ⟨kd, nm, at1, tx, pa⟩ r = (.ok ⟨sp, nm1, at2, ks, ByteArray.empty⟩, Xm.leaveR ⟨st2, r'.R, r'.d, r'.n⟩)) := Lib.hid (by
            rw [HG0.out, HGr.out, Xm.goT, Hnx.out]; simp only; rw [if_neg (by simp [he]), if_neg hk4, if_neg hk13, if_pos hk2, if_neg (by simp [hnm]), if_neg (fun h => h.2 (of_decide_eq_true hE.symm)), if_pos hks])
          clear hE hk4 hk13 hk2 hks
          go_upto_region 19 with (first | (go_at_call 34; refine (empty_any _ _ htz).mono ?_; rintro e w7 ⟨rfl, rfl⟩; rw [← HE.out]) | (go_at_call 50; refine (trim_any _ _ htz).mono ?_; rintro e w7 ⟨rfl, rfl⟩))
          have HB7 := Lib.hid (HB6.out.text HL.out.1 HL.out.2.1 HL.out.2.2.1 (Xm.trim tx2))
          clear x3 x4 xf p1 p4 q0 q1 HB6 HQ6 HA6
          generalize w6.setCell ⟨X, 4, none⟩ (.string (Xm.trim tx2)) = w7 at *
          have x3 := (cell_of_row w7 X 3 _ _ _ HB7.out.x).trans rfl
          have x4 := (cell_of_row w7 X 4 _ _ _ HB7.out.x).trans rfl
          have xf : ∀ j, w7.frozen? ⟨X, j, none⟩ = false := fun j => frozen_of_row w7 X _ _ _ HB7.out.x
          go_upto_region 21 with fail
          have HB8 := Lib.hid (HB7.out.text HL.out.1 HL.out.2.1 HL.out.2.2.1 ByteArray.empty)
          have e0 : (⟨#[]⟩ : ByteArray) = ByteArray.empty := rfl
          rw [e0]
          clear x3 x4 xf HB7
          generalize w7.setCell ⟨X, 4, none⟩ (.string ByteArray.empty) = w8 at *
          have x0 := (cell_of_row w8 X 0 _ _ _ HB8.out.x).trans rfl
          have x1 := (cell_of_row w8 X 1 _ _ _ HB8.out.x).trans rfl
          have x2 := (cell_of_row w8 X 2 _ _ _ HB8.out.x).trans rfl
          have x3 := (cell_of_row w8 X 3 _ _ _ HB8.out.x).trans rfl
          have x4 := (cell_of_row w8 X 4 _ _ _ HB8.out.x).trans rfl
          have z0 := (cell_of_row w8 (B + 1) 0 _ _ _ HB8.out.z).trans rfl
          have z1 := (cell_of_row w8 (B + 1) 1 _ _ _ HB8.out.z).trans rfl
          have z2 := (cell_of_row w8 (B + 1) 2 _ _ _ HB8.out.z).trans rfl
          have z3 := (cell_of_row w8 (B + 1) 3 _ _ _ HB8.out.z).trans rfl
          have z4 := (cell_of_row w8 (B + 1) 4 _ _ _ HB8.out.z).trans rfl
          have zf : ∀ j, w8.frozen? ⟨B + 1, j, none⟩ = false := fun j => frozen_of_row w8 (B + 1) _ _ _ HB8.out.z
          go_wp2
          have hBw := HL.out.2.2.1
          exact elem_done (B := B + 1) HG.out H0.out (HB8.out.rd.new Xm.Mv.set5 H0.out (by omega) HB8.out.l.2.1) (HB8.out.fr.mvNew Xm.Mv.set5 (by omega)) (by have := HB8.out.inv.d; simp only at this; omega) rfl (setN HB8.out.z _ _ _ _ _) rfl (by omega) HB8.out.l.2.1 (HB8.out.fin hBw Xm.Mv.set5)
end Go.Proofs.YtdpkhmfolmcejaaGreatDoor
