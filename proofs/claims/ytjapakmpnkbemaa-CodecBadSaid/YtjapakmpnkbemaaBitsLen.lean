/- codec.bits: so many bytes are behind the others. -/
import Derived.Test.YtjapakmpnkbemaaPut
import Derived.Test.YtjapakmpnkbemaaSeg
import Derived.BigRegion
namespace Go.Proofs.Ytjapakmpnkbemaa
open Go.RowKit

theorem u8_byte {n : Int} (h : 0 ≤ n ∧ n ≤ 255) : Value.int .u8 n = u8v (UInt8.ofNat n.toNat) := by
  rw [u8v, UInt8.toNat_ofNat']
  congr 1
  omega

theorem bits_u8 (op : BinOp) (x y : Int) : ∃ c, Value.int .u8 (bits op .u8 x y) = u8v c := by
  refine ⟨_, u8_byte ?_⟩
  unfold bits
  rw [IntKind.wrap_u8]
  omega
theorem grow_new {w wr : World} (h : Flow.Grow w wr) {a : Addr} (ha : w.heap.size ≤ a.block) (u : Value) : Flow.Grow w (wr.setCell a u) :=
  ⟨h.os, h.tape, h.output, by simpa [World.setCell] using h.size, fun i hi hne => by
    rw [Below.heap_setCell _ _ _ _ (by omega)]; exact h.block i hi hne⟩

set_option maxRecDepth 100000 in
set_option maxHeartbeats 800000 in
theorem bits_len {W : World} (v vf : Value) (l : List UInt8) (fs : List Bool) (w : World) (hn : l.length ≤ 1000000000000) (hfs : fs.length ≤ 100000) (hown : OwnB w v l) (hm : Mine W v) (hg : Flow.Grow W w) (hf : Bools w vf fs) :
    Calls Try.prog 28 #[v, vf] w fun e w' => ∃ v' l', e = .returned v' ∧ OwnB w' v' l' ∧ l'.length = l.length + (fs.length + 7) / 8 ∧ Mine W v' ∧ Flow.Grow W w' := by
  obtain ⟨i0, hi, hz0, hz1, hz2⟩ := info_parts info_u8
  obtain ⟨af, cf, rfl, _, hfn, hfc⟩ := hf
  obtain ⟨nf, hnf⟩ : ∃ k, k = fs.length := ⟨_, rfl⟩
  rw [← hnf] at hfs hfn ⊢
  have Hc : Hid (∀ wr, Flow.Grow w wr → ∀ k, k < nf → ∃ b off, af = some ⟨b, off, none⟩ ∧ b < w.heap.size ∧ wr.cell? ⟨b, off + k, none⟩ = some (.bool (fs.getD k false))) := Lib.hid fun wr hr k hk => by
    obtain ⟨b, off, h1, h2, h3⟩ := hfc k (by simp; omega)
    exact ⟨b, off, h1, h2, ((World.cell?_of_block (hr.block b h2 (by simp))).trans h3).trans (by simp [show k < fs.length by omega])⟩
  clear hfc hnf
  go_enter Try.func28, Try.ntmps28
  go_wp2_with (at_make; refine wpList_make_full _ rfl _ _ 22 rfl 0 5 i0 (.int .u8 0) 1 Try.underlying22 hi hz0 hz1 .i64 .i64 _ _ ((nf + 7) / 8) rfl rfl (by omega) (by omega) ?b1 ?b2 (Nat.zero_le _) ?_)
  case b1 => rw [hz2]; omega
  case b2 => unfold maxLen; omega
  intro w1 hrow hgr
  have Hrow : Hid (∃ bs : List UInt8, bs.length = (nf + 7) / 8 ∧ w1.ownsRow 0 5 1 (.slice (some ⟨w.heap.size, 0, none⟩) ((nf + 7) / 8) ((nf + 7) / 8)) ((nf + 7) / 8) (bs.map u8v)) := Lib.hid ⟨List.replicate ((nf + 7) / 8) 0, by simp, by
    have e : (madeCells #[Value.int .u8 0] ((nf + 7) / 8)).toList = (List.replicate ((nf + 7) / 8) (0 : UInt8)).map u8v := by
      rw [toList_madeCells_one, List.map_replicate]
      rfl
    rw [← e]; exact hrow⟩
  clear hrow
  have hg1 : Flow.Grow w w1 := hgr
  obtain ⟨N, hN⟩ : ∃ N, N = (nf + 7) / 8 := ⟨_, rfl⟩
  have HN := Lib.hid hN
  rw [← hN] at Hrow ⊢
  clear hgr hN
  go_wp2_with fail
  go_loopw [15] (fun i wr => ∃ k : Nat, k ≤ nf ∧ i = .int .i64 k ∧ Flow.Grow w wr ∧ Hid (∃ bs : List UInt8, bs.length = N ∧ wr.ownsRow 0 5 1 (.slice (some ⟨w.heap.size, 0, none⟩) N N) N (bs.map u8v))) (fun i _ => nf - (intOf i).toNat)
  case atStart => exact ⟨0, by omega, rfl, hg1, Hrow⟩
  case round =>
    obtain ⟨k, hk, rfl, hgr, Hr⟩ := hrel
    by_cases hkn : k < nf
    · obtain ⟨b, off, he, hb, hcl⟩ := Hc.out wr hgr k hkn
      cases he
      cases hx : fs.getD k false with
      | false =>
        rw [hx] at hcl
        clear hx
        go_wp2_with fail
        go_roundw
        case rel => exact ⟨k + 1, by omega, by go_num, hgr, Hr⟩
        case measure => simp [intOf]; omega
      | true =>
        rw [hx] at hcl
        clear hx
        obtain ⟨bs, hbl, hrow⟩ := Hr.out
        have hkN : k / 8 < N := by have := HN.out; omega
        have hcb : wr.cell? ⟨w.heap.size, k / 8, none⟩ = some (u8v (bs.getD (k / 8) 0)) := by
          rw [hrow.cellAt _ (by omega)]; simp [show k / 8 < bs.length by omega]
        have hfr := hrow.frozenAt (k / 8)
        have Hrow2 := Lib.hid hrow
        clear hrow Hr
        generalize bs.getD (k / 8) 0 = c at hcb
        rw [u8v] at hcb
        have hc255 := c.toNat_lt
        go_wp2_with fail
        go_region
        go_wp2_with fail
        go_roundw
        case rel =>
          refine ⟨k + 1, by omega, by go_num, ?_, Lib.hid ?_⟩
          · exact (grow_new hgr (Nat.le_refl _) _).trans (Flow.grow_drew _)
          · obtain ⟨c', hc'⟩ := bits_u8 .or (c.toNat : Int) (2 ^ (k % 8) % 256)
            rw [hc']
            exact ⟨bs.set (k / 8) c', by simpa using hbl, by rw [List.map_set]; exact (Hrow2.out.stored (k / 8) (u8v c')).1.drew⟩
        case measure => simp [intOf]; omega
    · obtain ⟨bs, hbl, hrow⟩ := Hr.out
      have HN' : N ≤ 20000 := by have := HN.out; omega
      have Hown := Lib.hid hown
      have hown1 : wr.ownsRow 0 5 1 v l.length (l.map u8v) := World.ownsRow.kept hown hgr (by cases v.ownBlock <;> simp)
      have hcells : ∀ ad, some (⟨w.heap.size, 0, none⟩ : Addr) = some ad → ∀ j u, (bs.map u8v)[j]? = some u → wr.cell? (ad.add j) = some u := (Seg.of_own hrow).cells
      go_wp2_with (at_builtin; refine wpList_append_put _ rfl _ _ 22 rfl 5 i0 (.int .u8 0) 1 1 Try.underlying22 hi hz0 hz1 hz2 rfl (by decide) _ _ _ rfl hown1 (some ⟨w.heap.size, 0, none⟩) N N (bs.map u8v) rfl ?d1 (by simp) hcells ?d2 ?d3 ?d4 ?_)
      case d1 => simpa using hbl
      case d2 => intro u hu; obtain ⟨_, _, rfl⟩ := List.mem_map.1 hu; rfl
      case d3 => unfold maxLen; omega
      case d4 => omega
      intro v2 w2 hown2 hgr2 hmv _
      have s := mine_step hm (hg.trans hgr) hgr2 hmv
      have hm2 := mine_of hown2 s.2
      have hs := s.1
      clear hgr2 hmv s hcells hown1 hrow
      go_wp2_with fail
      go_ret
      exact ⟨_, l ++ bs, rfl, by unfold OwnB; rw [List.length_append, List.map_append, hbl]; exact hown2, by rw [List.length_append, hbl, HN.out], hm2, hs⟩
end Go.Proofs.Ytjapakmpnkbemaa
