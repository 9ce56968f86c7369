/- tree: element by its contract. -/
import Derived.Test.YtdpkhmfolmcejaaGreatDoorTr4
namespace Go.Proofs.YtdpkhmfolmcejaaGreatDoor
open Go.RowKit
namespace Xm
theorem NodAt.form {F : Nat → Prop} {w : World} {v : Value} {x : Nod} (h : NodAt F w v x) : ∃ (sp nm tx : ByteArray) (a1 a2 : Option Addr) (n1 n2 c1 c2 : Nat), v = V5.agg (.string sp, .string nm, .slice a1 n1 c1, .slice a2 n2 c2, .string tx) := by
  cases h with
  | mk sp nm tx av kv l ks vs g off hA haF hk hl hc hn =>
    obtain ⟨ao, cap, rfl⟩ := hA.shape
    rcases hk with ⟨_, a, c, rfl⟩ | ⟨cap2, rfl, _⟩
    · exact ⟨sp, nm, tx, ao, a, _, _, _, _, rfl⟩
    · exact ⟨sp, nm, tx, ao, _, _, _, _, _, rfl⟩
theorem AttrsAt.lt {w : World} {v : Value} {l : List (ByteArray × ByteArray)} (h : AttrsAt w v l) : ∀ g, v.ownBlock = some g → g < w.heap.size := by
  intro g hg
  rcases h with ⟨rfl, _⟩ | ⟨g', off, cap, rfl, _, _, hlt, _⟩
  · cases hg
  · cases hg; exact hlt
end Xm
/-- what came of element -/
def ElemPost (b : Xm.Blk) (s : ByteArray) (lv : Value) (F : Nat) (p : Xm.Pc) (r : Xm.Rs) (w : World) (e : Ending) (w' : World) : Prop :=
  ∃ lv', Xm.Rd w' b s lv' (Xm.goT s F none p r).2.st (Xm.goT s F none p r).2.R (Xm.goT s F none p r).2.d (Xm.goT s F none p r).2.n ∧ Xm.Fr b.S w lv w' lv' ∧
  match (Xm.goT s F none p r).1 with
  | .ok y => ∃ v, e = .returned v ∧ Xm.NodAt (fun g => w.heap.size ≤ g ∧ lv'.ownBlock ≠ some g ∧ g < w'.heap.size) w' v y
  | .error z => e = .panicked (Xm.failV z.1 z.2)
structure ElemHyp (b : Xm.Blk) (s : ByteArray) (lv : Value) (F : Nat) (p : Xm.Pc) (av : Value) (r : Xm.Rs) (w : World) : Prop where
  rd : Xm.Rd w b s lv r.st r.R r.d r.n
  inv : Xm.InvR s r
  at' : Xm.AttrsAt w av p.attrs
  av : ∀ g, av.ownBlock = some g → ¬ b.S g ∧ lv.ownBlock ≠ some g
  sz : Xm.Sized s p
  f1 : 2 * (s.size - r.st.k) + 2 ≤ F
  f2 : F ≤ 1000000
  low : Xm.Low b lv
  tab : Xm.Tab w
  max : Xm.Max w
theorem elem_res (tmps : Array Value) (w : World) (R : Nat) (cs : Array Value) (hp : tmps.getD 4 undef = .pointer (some ⟨R, 0, none⟩)) (hg : Xm.RowN w R cs) (hc : cs.size = 5) :
    (results Tryz.f35 tmps).run Tryz.prog w = .ok (.agg cs) w :=
  results_cell_row (by kernel_rfl) tmps w R _ _ _ _ hp hg Tryz.underlying25 rfl (by rw [hc]; kernel_rfl)
/-- an element ends with a panic -/
theorem elem_fail {tmps : Array Value} {b : Xm.Blk} {s : ByteArray} {lv lv5 : Value} {F : Nat} {p : Xm.Pc} {r : Xm.Rs} {w w5 : World} {st : Xm.P3} {R : List Xm.Bd} {d n : Nat} {z : Int × Int}
    (HG : Xm.goT s F none p r = (.error z, Xm.leaveR ⟨st, R, d, n⟩)) (hrd : Xm.Rd w5 b s lv5 st R d n) (hfr : Xm.Fr b.S w lv w5 lv5) (hd : d ≤ 1000000) :
    Leaves Tryz.prog Tryz.f35 tmps (ElemPost b s lv F p r w) [{ target := .fn (.func 52) #[], args := #[.pointer (some ⟨b.s, 0, none⟩)] }] (.panicking (Xm.failV z.1 z.2)) w5 := by
  refine leaves_cons (f := 52) (args := #[.pointer (some ⟨b.s, 0, none⟩)]) (by simp) (by simp [go_sem]) ?_
  refine (leave_d _ b.s lv5 R d w5 hrd.sp hd).mono ?_
  rintro e u' w6 ⟨rfl, rfl, lv6, hsp, hf6⟩
  show ElemPost b s lv F p r w (.panicked (Xm.failV z.1 z.2)) w6
  refine ⟨lv6, ?_⟩
  rw [HG]
  exact ⟨hrd.spaces hf6 hsp, hfr.trans (hf6.mono (fun i h => .inr (.inr h))), rfl⟩
/-- an element is done -/
theorem elem_done {tmps : Array Value} {b : Xm.Blk} {s : ByteArray} {lv lv0 lv5 : Value} {F B : Nat} {p : Xm.Pc} {r : Xm.Rs} {w w5 : World} {st st0 : Xm.P3} {R R0 : List Xm.Bd} {d n d0 n0 : Nat} {y : Xm.Nod} {cs : Array Value}
    (HG : Xm.goT s F none p r = (.ok y, Xm.leaveR ⟨st, R, d, n⟩)) (h0 : Xm.Rd w b s lv0 st0 R0 d0 n0) (hrd : Xm.Rd w5 b s lv5 st R d n) (hfr : Xm.Fr b.S w lv w5 lv5) (hd : d ≤ 1000000) (hp : tmps.getD 4 undef = .pointer (some ⟨B, 0, none⟩)) (hz : Xm.RowN w5 B cs) (hc : cs.size = 5)
    (hB : w.heap.size ≤ B) (hlB : lv5.ownBlock ≠ some B) (hn : Xm.NodAt (fun g => w.heap.size ≤ g ∧ lv5.ownBlock ≠ some g ∧ g < w5.heap.size) w5 (.agg cs) y) :
    Leaves Tryz.prog Tryz.f35 tmps (ElemPost b s lv F p r w) [{ target := .fn (.func 52) #[], args := #[.pointer (some ⟨b.s, 0, none⟩)] }] .returning w5 := by
  refine leaves_cons (f := 52) (args := #[.pointer (some ⟨b.s, 0, none⟩)]) (by simp) (by simp [go_sem]) ?_
  refine (leave_d _ b.s lv5 R d w5 hrd.sp hd).mono ?_
  rintro e u' w6 ⟨rfl, rfl, lv6, hsp, hf6⟩
  have hbs : b.s < w.heap.size := h0.lts.2.2.1
  show ∃ v, (results Tryz.f35 tmps).run Tryz.prog w6 = .ok v w6 ∧ ElemPost b s lv F p r w (.returned v) w6
  refine ⟨_, elem_res tmps w6 B cs hp (hz.fr hf6 (by show ¬ B = b.s; omega) hlB) hc, lv6, ?_⟩
  rw [HG]
  refine ⟨hrd.spaces hf6 hsp, hfr.trans (hf6.mono (fun i h => .inr (.inr h))), .agg cs, rfl, hn.keep hf6.size (fun g hg hlt => hf6.block g hlt (by show ¬ g = b.s; have := hg.1; omega) hg.2.1) (fun g hg hlt => ⟨hg.1, hf6.owned hlt hg.2.1, Nat.lt_of_lt_of_le hlt hf6.size⟩) (fun g hg => hg.2.2)⟩
namespace Xm
/-- while an element's pieces are read -/
structure BodyInv (b : Blk) (s : ByteArray) (lv : Value) (w : World) (B X : Nat) (P : Array Value) (sp nm1 : ByteArray) (av2 : Value) (at2 : List (ByteArray × ByteArray)) (wr : World) (lv' : Value) (ks : List Nod) (tx : ByteArray) (r' : Rs) (kv : Value) (vs : List V5) : Prop where
  rd : Rd wr b s lv' r'.st r'.R r'.d r'.n
  inv : InvR s r'
  fr : Fr b.S w lv wr lv'
  p : Row5 wr B P
  z : RowN wr (B + 1) #[.string ⟨#[]⟩, .string ⟨#[]⟩, .slice none 0 0, .slice none 0 0, .string ⟨#[]⟩]
  x : RowN wr X #[.string sp, .string nm1, av2, kv, .string tx]
  at' : AttrsAt wr av2 at2
  av : ∀ g, av2.ownBlock = some g → B + 1 < g ∧ g ≠ X ∧ lv'.ownBlock ≠ some g ∧ kv.ownBlock ≠ some g
  k : OwnK wr kv vs
  kvB : ∀ g, kv.ownBlock = some g → B + 1 < g ∧ g ≠ X ∧ lv'.ownBlock ≠ some g
  kids : Kids (fun g => B + 1 < g ∧ g ≠ X ∧ lv'.ownBlock ≠ some g ∧ kv.ownBlock ≠ some g ∧ g < wr.heap.size) wr ks vs
  l : lv'.ownBlock ≠ some B ∧ lv'.ownBlock ≠ some (B + 1) ∧ lv'.ownBlock ≠ some X
section
variable {b : Blk} {s : ByteArray} {lv : Value} {w : World} {B X : Nat} {P : Array Value} {sp nm1 : ByteArray} {av2 : Value} {at2 : List (ByteArray × ByteArray)} {wr wy : World} {lv' lv2 : Value} {ks : List Nod} {tx : ByteArray} {r' r2 : Rs} {kv : Value} {vs : List V5}
theorem BodyInv.step (h : BodyInv b s lv w B X P sp nm1 av2 at2 wr lv' ks tx r' kv vs) (hX : B + 1 < X) (hb : b.c < B ∧ b.r < B ∧ b.s < B) (f : Fr b.S wr lv' wy lv2) (hrd : Rd wy b s lv2 r2.st r2.R r2.d r2.n) (hi : InvR s r2) :
    BodyInv b s lv w B X P sp nm1 av2 at2 wy lv2 ks tx r2 kv vs := by
  have nS : ∀ g, B ≤ g → ¬ b.S g := fun g hg e => by rcases e with e | e | e <;> omega
  have ow : ∀ {g}, g < wr.heap.size → lv'.ownBlock ≠ some g → lv2.ownBlock ≠ some g := fun hg hl => f.owned hg hl
  refine ⟨hrd, hi, h.fr.trans f, h.p.fr f (nS _ (by omega)) h.l.1, h.z.fr f (nS _ (by omega)) h.l.2.1, h.x.fr f (nS _ (by omega)) h.l.2.2, h.at'.fr f (fun g hg => ⟨nS g (by have := (h.av g hg).1; omega), (h.av g hg).2.2.1⟩),
    fun g hg => ⟨(h.av g hg).1, (h.av g hg).2.1, ow (h.at'.lt g hg) (h.av g hg).2.2.1, (h.av g hg).2.2.2⟩, h.k.fr f (fun g hg => ⟨nS g (by have := (h.kvB g hg).1; omega), (h.kvB g hg).2.2⟩),
    fun g hg => ⟨(h.kvB g hg).1, (h.kvB g hg).2.1, ow (h.k.lt g hg) (h.kvB g hg).2.2⟩, ?_, ow h.p.lt h.l.1, ow h.z.lt h.l.2.1, ow h.x.lt h.l.2.2⟩
  exact h.kids.keep f.size (fun g hg hlt => f.block g hlt (nS g (by have := hg.1; omega)) hg.2.2.1) (fun g hg hlt => ⟨hg.1, hg.2.1, ow hlt hg.2.2.1, hg.2.2.2.1, Nat.lt_of_lt_of_le hlt f.size⟩) (fun g hg => hg.2.2.2.2)
theorem BodyInv.grow (h : BodyInv b s lv w B X P sp nm1 av2 at2 wr lv' ks tx r' kv vs) (hX : B + 1 < X) (hb : b.c < B ∧ b.r < B ∧ b.s < B) (g : Flow.Grow wr wy) : BodyInv b s lv w B X P sp nm1 av2 at2 wy lv' ks tx r' kv vs :=
  h.step hX hb (Fr.of g) (h.rd.grow g) h.inv
theorem BodyInv.text (h : BodyInv b s lv w B X P sp nm1 av2 at2 wr lv' ks tx r' kv vs) (hX : B + 1 < X) (hb : b.c < B ∧ b.r < B ∧ b.s < B) (hB : w.heap.size = B) (tx2 : ByteArray) :
    BodyInv b s lv w B X P sp nm1 av2 at2 (wr.setCell ⟨X, 4, none⟩ (.string tx2)) lv' ks tx2 r' kv vs := by
  have m : Mv wr X (wr.setCell ⟨X, 4, none⟩ (.string tx2)) := Mv.set
  refine ⟨h.rd.other m (by omega) (by omega) (by omega) h.l.2.2, h.inv, h.fr.mvNew m (by omega), h.p.mv m (by omega), h.z.mv m (by omega), h.x.set 4 _, h.at'.mv' m (fun e => (h.av X e).2.1 rfl), h.av, h.k.mv m (fun e => (h.kvB X e).2.1 rfl), h.kvB, ?_, h.l⟩
  exact h.kids.keep m.size (fun g hg hlt => m.block g hlt (by have := hg.2.1; simp; omega)) (fun g hg hlt => ⟨hg.1, hg.2.1, hg.2.2.1, hg.2.2.2.1, Nat.lt_of_lt_of_le hlt m.size⟩) (fun g hg => hg.2.2.2.2)
/-- the element as it is handed back -/
theorem BodyInv.fin (h : BodyInv b s lv w B X P sp nm1 av2 at2 wr lv' ks tx r' kv vs) (hB : w.heap.size = B) {w8 : World} (m : Mv wr (B + 1) w8) :
    NodAt (fun g => w.heap.size ≤ g ∧ lv'.ownBlock ≠ some g ∧ g < w8.heap.size) w8 (.agg #[.string sp, .string nm1, av2, kv, .string tx]) (.mk sp nm1 at2 ks tx) := by
  refine NodAt.of (h.at'.mv' m (fun e => by have := (h.av _ e).1; omega)) (fun g hg => ⟨by have := (h.av g hg).1; omega, (h.av g hg).2.2.1, Nat.lt_of_lt_of_le (h.at'.lt g hg) m.size⟩)
    (h.k.mv m (fun e => by have := (h.kvB _ e).1; omega)) (fun g hg => ⟨by have := (h.kvB g hg).1; omega, (h.kvB g hg).2.2, Nat.lt_of_lt_of_le (h.k.lt g hg) m.size⟩) ?_
  exact h.kids.keep m.size (fun g hg hlt => m.block g hlt (by have := hg.1; simp; omega)) (fun g hg hlt => ⟨by have := hg.1; omega, hg.2.2.1, Nat.lt_of_lt_of_le hlt m.size⟩) (fun g hg => hg.2.2.2.2)
/-- one element more within it -/
theorem BodyInv.push (h : BodyInv b s lv w B X P sp nm1 av2 at2 wy lv' ks tx r' kv vs) (hX : B + 1 < X) (hb : b.c < B ∧ b.r < B ∧ b.s < B) (hB : w.heap.size = B) {H : Nat} (hH : X < H) (hkH : ∀ g, kv.ownBlock = some g → g < H) {v : V5} {y : Nod}
    (hv : NodAt (fun g => H ≤ g ∧ lv'.ownBlock ≠ some g ∧ g < wy.heap.size) wy v.agg y) {wz w4 : World} (gz : Flow.Grow wy wz) {kv2 : Value} (ho : OwnK w4 kv2 (vs ++ [v])) (hg4 : wz.grownBy w4 kv.ownBlock) (hm : Moved wz kv kv2) :
    BodyInv b s lv w B X P sp nm1 av2 at2 (w4.setCell ⟨X, 3, none⟩ kv2) lv' (ks ++ [y]) tx r' kv2 (vs ++ [v]) := by
  have hz := h.grow hX hb gz
  have hlz := hz.rd.lts
  have hk2 : ∀ g, kv2.ownBlock = some g → B + 1 < g ∧ g ≠ X ∧ lv'.ownBlock ≠ some g ∧ (kv.ownBlock = some g ∨ wz.heap.size ≤ g) := by
    intro g hg
    rcases hm with e | ⟨g', e, hg'⟩
    · rw [e] at hg; have := h.kvB g hg; exact ⟨this.1, this.2.1, this.2.2, .inl hg⟩
    · rw [e] at hg; cases hg
      have h1 := hz.x.lt
      exact ⟨by omega, by omega, fun e2 => by have := hlz.2.2.2 _ e2; omega, .inr hg'⟩
  have blk : ∀ g, g < wz.heap.size → kv.ownBlock ≠ some g → w4.heap[g]? = wz.heap[g]? := fun g hg hne => hg4.block g hg (fun e => hne e.symm)
  have nk : ∀ {g}, kv.ownBlock ≠ some g → g < wz.heap.size → kv2.ownBlock ≠ some g := fun hne hlt e => by
    rcases (hk2 _ e).2.2.2 with h1 | h1
    · exact hne h1
    · omega
  have m : Mv w4 X (w4.setCell ⟨X, 3, none⟩ kv2) := Mv.set
  have kB : kv.ownBlock ≠ some B := fun e => by have := (h.kvB B e).1; omega
  have kB1 : kv.ownBlock ≠ some (B + 1) := fun e => by have := (h.kvB _ e).1; omega
  have kX : kv.ownBlock ≠ some X := fun e => (h.kvB X e).2.1 rfl
  have kb : ∀ g, g < B → kv.ownBlock ≠ some g := fun g hg e => by have := (h.kvB g e).1; omega
  have hrd4 : Rd w4 b s lv' r'.st r'.R r'.d r'.n := ⟨(blk _ hlz.1 (kb _ hb.1)).trans hz.rd.sc, (blk _ hlz.2.1 (kb _ hb.2.1)).trans hz.rd.rd,
    ⟨(blk _ hlz.2.2.1 (kb _ hb.2.2)).trans hz.rd.sp.blk, hz.rd.sp.own.kept hg4 (by
      cases hl : lv'.ownBlock with
      | none => exact .inl rfl
      | some g => exact .inr (fun e => (h.kvB g e.symm).2.2 hl)), hz.rd.sp.ne⟩, hz.rd.cr, hz.rd.cs, hz.rd.rs, hz.rd.lc, hz.rd.lr⟩
  have hX4 : RowN w4 X #[.string sp, .string nm1, av2, kv, .string tx] := (blk X hz.x.lt kX).trans hz.x
  have hP4 : Row5 w4 B P := (blk B hz.p.lt kB).trans hz.p
  have hZ4 : RowN w4 (B + 1) #[.string ⟨#[]⟩, .string ⟨#[]⟩, .slice none 0 0, .slice none 0 0, .string ⟨#[]⟩] := (blk (B + 1) hz.z.lt kB1).trans hz.z
  have hA4 : AttrsAt w4 av2 at2 := hz.at'.keep hg4.size (fun g hg hlt => blk g hlt (hz.av g hg).2.2.2)
  have hf4 : Fr b.S w lv w4 lv' := hz.fr.row hg4 (fun g hg => by have := (h.kvB g hg).1; omega)
  have hS4 : w4.heap.size = (w4.setCell ⟨X, 3, none⟩ kv2).heap.size := by simp [World.setCell]
  refine ⟨hrd4.other m (by omega) (by omega) (by omega) h.l.2.2, h.inv, hf4.mvNew m (by omega), hP4.mv m (by omega), hZ4.mv m (by omega), hX4.set 3 _, hA4.mv' m (fun e => (h.av X e).2.1 rfl),
    fun g hg => ⟨(hz.av g hg).1, (hz.av g hg).2.1, (hz.av g hg).2.2.1, nk (hz.av g hg).2.2.2 (hz.at'.lt g hg)⟩, ho.mv m (fun e => (hk2 X e).2.1 rfl), fun g hg => ⟨(hk2 g hg).1, (hk2 g hg).2.1, (hk2 g hg).2.2.1⟩, ?_, h.l⟩
  have hblk : ∀ g, g ≠ X → g < wz.heap.size → kv.ownBlock ≠ some g → (w4.setCell ⟨X, 3, none⟩ kv2).heap[g]? = wz.heap[g]? := fun g h1 h2 h3 => (m.block g (Nat.lt_of_lt_of_le h2 hg4.size) (by simp; omega)).trans (blk g h2 h3)
  have hsz : wz.heap.size ≤ (w4.setCell ⟨X, 3, none⟩ kv2).heap.size := by rw [← hS4]; exact hg4.size
  refine Kids.push (hz.kids.keep hsz (fun g hg hlt => hblk g hg.2.1 hlt hg.2.2.2.1) (fun g hg hlt => ⟨hg.1, hg.2.1, hg.2.2.1, nk hg.2.2.2.1 hlt, by omega⟩) (fun g hg => hg.2.2.2.2)) ?_
  have kne : ∀ g, H ≤ g → kv.ownBlock ≠ some g := fun g hg e => by have := hkH g e; omega
  exact hv.keep (Nat.le_trans gz.size hsz) (fun g hg hlt => (hblk g (by have := hg.1; omega) (Nat.lt_of_lt_of_le hlt gz.size) (kne g hg.1)).trans (gz.block g hlt (by simp)))
    (fun g hg hlt => ⟨by have := hg.1; omega, by have := hg.1; omega, hg.2.1, nk (kne g hg.1) (Nat.lt_of_lt_of_le hlt gz.size), by have := gz.size; omega⟩) (fun g hg => hg.2.2)
end
end Xm
end Go.Proofs.YtdpkhmfolmcejaaGreatDoor
