/- galliardlaw25.CodecBad returns true: the walk. -/
import Derived.Test.YtjapakmpnkbemaaPeerLen
import Derived.Test.YtjapakmpnkbemaaLaw25a
namespace Go.Proofs.Ytjapakmpnkbemaa
open Go.RowKit

theorem lt_of_cell {w : World} {b o : Nat} {v : Value} (h : w.cell? ⟨b, o, none⟩ = some v) : b < w.heap.size := World.block_lt_of_cell? w _ h

theorem seg1 {w : World} {g : Nat} {v : Value} {c : Nat} (h : w.cell? ⟨g, 0, none⟩ = some v) : Seg 1 w (.slice (some ⟨g, 0, none⟩) 1 c) 1 [v] :=
  ⟨_, _, rfl, rfl, by simp, fun j hj => ⟨g, 0, rfl, lt_of_cell h, by
    have : j = 0 := by simpa using hj
    subst this
    simpa using h⟩⟩
theorem seg2 {w : World} {g : Nat} {u v : Value} {c : Nat} (h : w.cell? ⟨g, 0, none⟩ = some u) (h' : w.cell? ⟨g, 1, none⟩ = some v) : Seg 2 w (.slice (some ⟨g, 0, none⟩) 1 c) 1 [u, v] :=
  ⟨_, _, rfl, rfl, by simp, fun j hj => ⟨g, 0, rfl, lt_of_cell h, by
    have : j = 0 ∨ j = 1 := by simp at hj; omega
    rcases this with rfl | rfl
    · simpa using h
    · simpa using h'⟩⟩

theorem dfaAt1 {w : World} {g2 g3 g4 : Nat} {start mv : Int} (h2 : w.cell? ⟨g2, 0, none⟩ = some (.bool true)) (h3 : w.cell? ⟨g4, 0, none⟩ = some (.slice (some ⟨g3, 0, none⟩) 1 1)) (h4 : w.cell? ⟨g3, 0, none⟩ = some (.int .i64 mv)) :
    DfaAt w #[.int .i64 1, .int .i64 start, .slice (some ⟨g2, 0, none⟩) 1 1, .slice (some ⟨g4, 0, none⟩) 1 1] 1 start [true] [[mv]] :=
  ⟨⟨_, _, rfl, seg1 h2, [.slice (some ⟨g3, 0, none⟩) 1 1], seg1 h3, fun i hi => by
    have : i = 0 := by simpa using hi
    subst this
    exact seg1 h4⟩, by simp, by simp, by intro l hl; simp at hl; subst hl; simp⟩
theorem peerAt1 {w : World} {g1 g2 g3 g4 : Nat} {part dir lab start mv : Int} (h1 : w.cell? ⟨g1, 0, none⟩ = some (.int .i64 dir)) (h1' : w.cell? ⟨g1, 1, none⟩ = some (.int .i64 lab)) (h2 : w.cell? ⟨g2, 0, none⟩ = some (.bool true))
    (h3 : w.cell? ⟨g4, 0, none⟩ = some (.slice (some ⟨g3, 0, none⟩) 1 1)) (h4 : w.cell? ⟨g3, 0, none⟩ = some (.int .i64 mv)) :
    PeerAt w #[.int .i64 part, .slice (some ⟨g1, 0, none⟩) 1 1, .int .i64 1, .int .i64 start, .slice (some ⟨g2, 0, none⟩) 1 1, .slice (some ⟨g4, 0, none⟩) 1 1] part [(dir, lab)] 1 start [true] [[mv]] :=
  ⟨⟨_, _, _, rfl, seg2 h1 h1', dfaAt1 h2 h3 h4⟩, by simp⟩
theorem peerAt0 {w : World} {g2 g3 g4 : Nat} {part start mv : Int} (h2 : w.cell? ⟨g2, 0, none⟩ = some (.bool true))
    (h3 : w.cell? ⟨g4, 0, none⟩ = some (.slice (some ⟨g3, 0, none⟩) 1 1)) (h4 : w.cell? ⟨g3, 0, none⟩ = some (.int .i64 mv)) :
    PeerAt w #[.int .i64 part, .slice none 0 0, .int .i64 1, .int .i64 start, .slice (some ⟨g2, 0, none⟩) 1 1, .slice (some ⟨g4, 0, none⟩) 1 1] part [] 1 start [true] [[mv]] :=
  ⟨⟨_, _, _, rfl, Seg.nil _ _, dfaAt1 h2 h3 h4⟩, by simp⟩
theorem PeerAt.grow {w w' : World} {c : Array Value} {part : Int} {acts : List (Int × Int)} {labels start : Int} {final : List Bool} {next : List (List Int)} (h : PeerAt w c part acts labels start final next) (g : Flow.Grow w w') : PeerAt w' c part acts labels start final next :=
  ⟨by obtain ⟨va, vf, vn, h1, h2, h3⟩ := h.cells; exact ⟨va, vf, vn, h1, h2.grow g, h3.grow g⟩, h.few⟩

/-- the five blocks that the law lays -/
def badWorld (w : World) (dir lab mv part start : Int) (va : Value) : World :=
  ((((w.alloc (.cells #[.int .i64 dir, .int .i64 lab] 42)).alloc (.cells #[.bool true] 4)).alloc (.cells #[.int .i64 mv] 3)).alloc (.cells #[.slice (some ⟨w.heap.size + 1 + 1, 0, none⟩) 1 1] 29)).alloc
    (.cells #[.int .i64 part, va, .int .i64 1, .int .i64 start, .slice (some ⟨w.heap.size + 1, 0, none⟩) 1 1, .slice (some ⟨w.heap.size + 1 + 1 + 1, 0, none⟩) 1 1] 49)

theorem heap_push (w : World) (o : Obj) (k : Nat) : (w.alloc o).heap[k]? = if k = w.heap.size then some o else w.heap[k]? := by
  show (w.heap.push o)[k]? = _
  rw [Array.getElem?_push]
theorem size_push (w : World) (o : Obj) : (w.alloc o).heap.size = w.heap.size + 1 := by simp

theorem bad_facts {w w2 : World} {dir lab mv part start : Int} {va : Value} (hg : Flow.Grow (badWorld w dir lab mv part start va) w2) :
    BoxAt w2 (w.heap.size + 1 + 1 + 1 + 1) part 1 start va (.slice (some ⟨w.heap.size + 1, 0, none⟩) 1 1) (.slice (some ⟨w.heap.size + 1 + 1 + 1, 0, none⟩) 1 1) ∧
    w2.cell? ⟨w.heap.size, 0, none⟩ = some (.int .i64 dir) ∧ w2.cell? ⟨w.heap.size, 1, none⟩ = some (.int .i64 lab) ∧ w2.cell? ⟨w.heap.size + 1, 0, none⟩ = some (.bool true) ∧
    w2.cell? ⟨w.heap.size + 1 + 1 + 1, 0, none⟩ = some (.slice (some ⟨w.heap.size + 1 + 1, 0, none⟩) 1 1) ∧ w2.cell? ⟨w.heap.size + 1 + 1, 0, none⟩ = some (.int .i64 mv) ∧ Flow.Grow w w2 := by
  have hs : (badWorld w dir lab mv part start va).heap.size = w.heap.size + 5 := by unfold badWorld; simp only [size_push]
  have e : ∀ k, k < w.heap.size + 5 → w2.heap[k]? = (badWorld w dir lab mv part start va).heap[k]? := fun k hk => hg.block k (by omega) (by simp)
  have h4 : w2.heap[w.heap.size + 1 + 1 + 1 + 1]? = some (.cells #[.int .i64 part, va, .int .i64 1, .int .i64 start, .slice (some ⟨w.heap.size + 1, 0, none⟩) 1 1, .slice (some ⟨w.heap.size + 1 + 1 + 1, 0, none⟩) 1 1] 49 (0, 0)) := by
    rw [e _ (by omega)]; unfold badWorld; simp only [heap_push, size_push, if_true]
  have h3 : w2.heap[w.heap.size + 1 + 1 + 1]? = some (.cells #[.slice (some ⟨w.heap.size + 1 + 1, 0, none⟩) 1 1] 29 (0, 0)) := by
    rw [e _ (by omega)]; unfold badWorld; simp only [heap_push, size_push, if_true, show ¬ w.heap.size + 1 + 1 + 1 = w.heap.size + 1 + 1 + 1 + 1 by omega, if_false]
  have h2 : w2.heap[w.heap.size + 1 + 1]? = some (.cells #[.int .i64 mv] 3 (0, 0)) := by
    rw [e _ (by omega)]; unfold badWorld; simp only [heap_push, size_push, if_true, show ¬ w.heap.size + 1 + 1 = w.heap.size + 1 + 1 + 1 + 1 by omega, show ¬ w.heap.size + 1 + 1 = w.heap.size + 1 + 1 + 1 by omega, if_false]
  have h1 : w2.heap[w.heap.size + 1]? = some (.cells #[.bool true] 4 (0, 0)) := by
    rw [e _ (by omega)]; unfold badWorld; simp only [heap_push, size_push, if_true, show ¬ w.heap.size + 1 = w.heap.size + 1 + 1 + 1 + 1 by omega, show ¬ w.heap.size + 1 = w.heap.size + 1 + 1 + 1 by omega, show ¬ w.heap.size + 1 = w.heap.size + 1 + 1 by omega, if_false]
  have h0 : w2.heap[w.heap.size]? = some (.cells #[.int .i64 dir, .int .i64 lab] 42 (0, 0)) := by
    rw [e _ (by omega)]; unfold badWorld; simp only [heap_push, size_push, if_true, show ¬ w.heap.size = w.heap.size + 1 + 1 + 1 + 1 by omega, show ¬ w.heap.size = w.heap.size + 1 + 1 + 1 by omega, show ¬ w.heap.size = w.heap.size + 1 + 1 by omega, show ¬ w.heap.size = w.heap.size + 1 by omega, if_false]
  refine ⟨⟨cell_of_row w2 _ _ _ _ _ h4, cell_of_row w2 _ _ _ _ _ h4, cell_of_row w2 _ _ _ _ _ h4, cell_of_row w2 _ _ _ _ _ h4, cell_of_row w2 _ _ _ _ _ h4, cell_of_row w2 _ _ _ _ _ h4⟩,
    cell_of_row w2 _ _ _ _ _ h0, cell_of_row w2 _ _ _ _ _ h0, cell_of_row w2 _ _ _ _ _ h1, cell_of_row w2 _ _ _ _ _ h3, cell_of_row w2 _ _ _ _ _ h2, ?_⟩
  unfold badWorld at hg
  exact (Flow.grow_alloc _ _).trans ((Flow.grow_alloc _ _).trans ((Flow.grow_alloc _ _).trans ((Flow.grow_alloc _ _).trans ((Flow.grow_alloc _ _).trans hg))))

set_option maxRecDepth 100000 in
set_option maxHeartbeats 2000000 in
theorem bad_walk (kind n : Int) (w : World) :
    Calls Try.prog 5 #[.int .i64 kind, .int .i64 n] w fun e w' => e = .returned (.bool true) ∧ Flow.Grow w w' := by
  have hK := Bits.i64_mask kind 3 (by omega) 7 (by decide)
  have hK0 : 0 ≤ kind % 2 ^ 3 ∧ kind % 2 ^ 3 < 8 := by omega
  have hB := Bits.i64_mask n 8 (by omega) 255 (by decide)
  have hB0 : 0 ≤ n % 2 ^ 8 ∧ n % 2 ^ 8 < 256 := by omega
  have hA := Bits.i64_mask n 1 (by omega) 1 (by decide)
  have hA0 : 0 ≤ n % 2 ^ 1 ∧ n % 2 ^ 1 < 2 := by omega
  generalize kind % 2 ^ 3 = K at hK hK0
  generalize n % 2 ^ 8 = B at hB hB0
  generalize n % 2 ^ 1 = A at hA hA0
  obtain ⟨hB0, hB1⟩ := hB0
  have hKc : K = 0 ∨ K = 1 ∨ K = 2 ∨ K = 3 ∨ K = 4 ∨ K = 5 ∨ K = 6 ∨ K = 7 := by omega
  rcases hKc with rfl | rfl | rfl | rfl | rfl | rfl | rfl | rfl
  · go_enter Try.func5, Try.ntmps5
    have Hok : Hid (Codec.peerOk (-1 - B) [(1, 3)] 1 0 [true] [[0]] = false) := Lib.hid (by simp [Codec.peerOk, Codec.actOk, Det.may, Det.badRow, Det.badStep]; try omega)
    go_wp2_with fail
    refine (awake25 _).mono ?_
    rintro e w2 ⟨rfl, hg⟩
    obtain ⟨⟨b0, b1, b2, b3, b4, b5⟩, h1, h1', h2, h3, h4, hgw⟩ := bad_facts (w := w) (dir := 1) (lab := 3) (mv := 0) (part := (-1 - B)) (start := 0) (va := .slice (some ⟨w.heap.size, 0, none⟩) 1 1) hg
    have HP : Hid (PeerAt w2 _ (-1 - B) [(1, 3)] 1 0 [true] [[0]]) := Lib.hid (peerAt1 h1 h1' h2 h3 h4)
    clear hg h1 h1' h2 h3 h4
    go_wp2_with fail
    refine (peer_len _ (-1 - B) [(1, 3)] 1 0 [true] [[0]] w2 (by omega) HP.out (by intro l hl s hs; simp at hl; subst hl; simp at hs; subst hs; omega)).mono ?_
    rintro e w3 ⟨⟨v, rfl, hv0, hv1⟩, hg3⟩
    obtain rfl := hv0 Hok.out
    clear hv1 HP
    go_wp2_with fail
    go_ret
    exact ⟨rfl, hgw.trans hg3⟩
  · go_enter Try.func5, Try.ntmps5
    have Hok : Hid (Codec.peerOk 1 [((3 + B), 3)] 1 0 [true] [[0]] = false) := Lib.hid (by simp [Codec.peerOk, Codec.actOk, Det.may, Det.badRow, Det.badStep]; try omega)
    go_wp2_with fail
    refine (awake25 _).mono ?_
    rintro e w2 ⟨rfl, hg⟩
    obtain ⟨⟨b0, b1, b2, b3, b4, b5⟩, h1, h1', h2, h3, h4, hgw⟩ := bad_facts (w := w) (dir := (3 + B)) (lab := 3) (mv := 0) (part := 1) (start := 0) (va := .slice (some ⟨w.heap.size, 0, none⟩) 1 1) hg
    have HP : Hid (PeerAt w2 _ 1 [((3 + B), 3)] 1 0 [true] [[0]]) := Lib.hid (peerAt1 h1 h1' h2 h3 h4)
    clear hg h1 h1' h2 h3 h4
    go_wp2_with fail
    refine (peer_len _ 1 [((3 + B), 3)] 1 0 [true] [[0]] w2 (by omega) HP.out (by intro l hl s hs; simp at hl; subst hl; simp at hs; subst hs; omega)).mono ?_
    rintro e w3 ⟨⟨v, rfl, hv0, hv1⟩, hg3⟩
    obtain rfl := hv0 Hok.out
    clear hv1 HP
    go_wp2_with fail
    go_ret
    exact ⟨rfl, hgw.trans hg3⟩
  · go_enter Try.func5, Try.ntmps5
    have Hok : Hid (Codec.peerOk 1 [(1, (-1 - B))] 1 0 [true] [[0]] = false) := Lib.hid (by simp [Codec.peerOk, Codec.actOk, Det.may, Det.badRow, Det.badStep]; try omega)
    go_wp2_with fail
    refine (awake25 _).mono ?_
    rintro e w2 ⟨rfl, hg⟩
    obtain ⟨⟨b0, b1, b2, b3, b4, b5⟩, h1, h1', h2, h3, h4, hgw⟩ := bad_facts (w := w) (dir := 1) (lab := (-1 - B)) (mv := 0) (part := 1) (start := 0) (va := .slice (some ⟨w.heap.size, 0, none⟩) 1 1) hg
    have HP : Hid (PeerAt w2 _ 1 [(1, (-1 - B))] 1 0 [true] [[0]]) := Lib.hid (peerAt1 h1 h1' h2 h3 h4)
    clear hg h1 h1' h2 h3 h4
    go_wp2_with fail
    refine (peer_len _ 1 [(1, (-1 - B))] 1 0 [true] [[0]] w2 (by omega) HP.out (by intro l hl s hs; simp at hl; subst hl; simp at hs; subst hs; omega)).mono ?_
    rintro e w3 ⟨⟨v, rfl, hv0, hv1⟩, hg3⟩
    obtain rfl := hv0 Hok.out
    clear hv1 HP
    go_wp2_with fail
    go_ret
    exact ⟨rfl, hgw.trans hg3⟩
  · have hAc : A = 0 ∨ A = 1 := by omega
    rcases hAc with rfl | rfl
    · go_enter Try.func5, Try.ntmps5
      have Hok : Hid (Codec.peerOk 1 [(1, 536870912)] 1 0 [true] [[0]] = true) := Lib.hid (by simp [Codec.peerOk, Codec.actOk, Det.may, Det.badRow, Det.badStep]; try omega)
      go_wp2_with fail
      refine (awake25 _).mono ?_
      rintro e w2 ⟨rfl, hg⟩
      obtain ⟨⟨b0, b1, b2, b3, b4, b5⟩, h1, h1', h2, h3, h4, hgw⟩ := bad_facts (w := w) (dir := 1) (lab := 536870912) (mv := 0) (part := 1) (start := 0) (va := .slice (some ⟨w.heap.size, 0, none⟩) 1 1) hg
      have HP : Hid (PeerAt w2 _ 1 [(1, 536870912)] 1 0 [true] [[0]]) := Lib.hid (peerAt1 h1 h1' h2 h3 h4)
      clear hg h1 h1' h2 h3 h4
      go_wp2_with fail
      refine (peer_len _ 1 [(1, 536870912)] 1 0 [true] [[0]] w2 (by omega) HP.out (by intro l hl s hs; simp at hl; subst hl; simp at hs; subst hs; omega)).mono ?_
      rintro e w3 ⟨⟨v, rfl, hv0, hv1⟩, hg3⟩
      obtain ⟨va, vn, vc, rfl, hpos⟩ := hv1 Hok.out
      have hpos' : decide ((0 : Int) < (vn : Int)) = true := by simpa using hpos
      clear hv0 HP
      go_wp2_with fail
      go_ret
      exact ⟨rfl, hgw.trans hg3⟩
    · go_enter Try.func5, Try.ntmps5
      have Hok : Hid (Codec.peerOk 1 [(1, 536870913)] 1 0 [true] [[0]] = false) := Lib.hid (by simp [Codec.peerOk, Codec.actOk, Det.may, Det.badRow, Det.badStep]; try omega)
      go_wp2_with fail
      refine (awake25 _).mono ?_
      rintro e w2 ⟨rfl, hg⟩
      obtain ⟨⟨b0, b1, b2, b3, b4, b5⟩, h1, h1', h2, h3, h4, hgw⟩ := bad_facts (w := w) (dir := 1) (lab := 536870913) (mv := 0) (part := 1) (start := 0) (va := .slice (some ⟨w.heap.size, 0, none⟩) 1 1) hg
      have HP : Hid (PeerAt w2 _ 1 [(1, 536870913)] 1 0 [true] [[0]]) := Lib.hid (peerAt1 h1 h1' h2 h3 h4)
      clear hg h1 h1' h2 h3 h4
      go_wp2_with fail
      refine (peer_len _ 1 [(1, 536870913)] 1 0 [true] [[0]] w2 (by omega) HP.out (by intro l hl s hs; simp at hl; subst hl; simp at hs; subst hs; omega)).mono ?_
      rintro e w3 ⟨⟨v, rfl, hv0, hv1⟩, hg3⟩
      obtain rfl := hv0 Hok.out
      clear hv1 HP
      go_wp2_with fail
      go_ret
      exact ⟨rfl, hgw.trans hg3⟩
  · go_enter Try.func5, Try.ntmps5
    have Hok : Hid (Codec.peerOk 1 [(1, 3)] 1 1 [true] [[0]] = false) := Lib.hid (by simp [Codec.peerOk, Codec.actOk, Det.may, Det.badRow, Det.badStep]; try omega)
    go_wp2_with fail
    refine (awake25 _).mono ?_
    rintro e w2 ⟨rfl, hg⟩
    obtain ⟨⟨b0, b1, b2, b3, b4, b5⟩, h1, h1', h2, h3, h4, hgw⟩ := bad_facts (w := w) (dir := 1) (lab := 3) (mv := 0) (part := 1) (start := 1) (va := .slice (some ⟨w.heap.size, 0, none⟩) 1 1) hg
    have HP : Hid (PeerAt w2 _ 1 [(1, 3)] 1 1 [true] [[0]]) := Lib.hid (peerAt1 h1 h1' h2 h3 h4)
    clear hg h1 h1' h2 h3 h4
    go_wp2_with fail
    refine (peer_len _ 1 [(1, 3)] 1 1 [true] [[0]] w2 (by omega) HP.out (by intro l hl s hs; simp at hl; subst hl; simp at hs; subst hs; omega)).mono ?_
    rintro e w3 ⟨⟨v, rfl, hv0, hv1⟩, hg3⟩
    obtain rfl := hv0 Hok.out
    clear hv1 HP
    go_wp2_with fail
    go_ret
    exact ⟨rfl, hgw.trans hg3⟩
  · go_enter Try.func5, Try.ntmps5
    have Hok : Hid (Codec.peerOk 1 [] 1 0 [true] [[0]] = false) := Lib.hid (by simp [Codec.peerOk, Det.may, Det.badRow, Det.badStep]; try omega)
    go_wp2_with fail
    refine (awake25 _).mono ?_
    rintro e w2 ⟨rfl, hg⟩
    obtain ⟨⟨b0, b1, b2, b3, b4, b5⟩, h1, h1', h2, h3, h4, hgw⟩ := bad_facts (w := w) (dir := 1) (lab := 3) (mv := 0) (part := 1) (start := 0) (va := .slice none 0 0) hg
    have HP : Hid (PeerAt w2 _ 1 [] 1 0 [true] [[0]]) := Lib.hid (peerAt0 h2 h3 h4)
    clear hg h1 h1' h2 h3 h4
    go_wp2_with fail
    refine (peer_len _ 1 [] 1 0 [true] [[0]] w2 (by omega) HP.out (by intro l hl s hs; simp at hl; subst hl; simp at hs; subst hs; omega)).mono ?_
    rintro e w3 ⟨⟨v, rfl, hv0, hv1⟩, hg3⟩
    obtain rfl := hv0 Hok.out
    clear hv1 HP
    go_wp2_with fail
    go_ret
    exact ⟨rfl, hgw.trans hg3⟩
  · go_enter Try.func5, Try.ntmps5
    have Hok : Hid (Codec.peerOk 1 [(1, 3)] 1 0 [true] [[1]] = false) := Lib.hid (by simp [Codec.peerOk, Codec.actOk, Det.may, Det.badRow, Det.badStep]; try omega)
    go_wp2_with fail
    refine (awake25 _).mono ?_
    rintro e w2 ⟨rfl, hg⟩
    obtain ⟨⟨b0, b1, b2, b3, b4, b5⟩, h1, h1', h2, h3, h4, hgw⟩ := bad_facts (w := w) (dir := 1) (lab := 3) (mv := 1) (part := 1) (start := 0) (va := .slice (some ⟨w.heap.size, 0, none⟩) 1 1) hg
    have HP : Hid (PeerAt w2 _ 1 [(1, 3)] 1 0 [true] [[1]]) := Lib.hid (peerAt1 h1 h1' h2 h3 h4)
    clear hg h1 h1' h2 h3 h4
    go_wp2_with fail
    refine (peer_len _ 1 [(1, 3)] 1 0 [true] [[1]] w2 (by omega) HP.out (by intro l hl s hs; simp at hl; subst hl; simp at hs; subst hs; omega)).mono ?_
    rintro e w3 ⟨⟨v, rfl, hv0, hv1⟩, hg3⟩
    obtain rfl := hv0 Hok.out
    clear hv1 HP
    go_wp2_with fail
    go_ret
    exact ⟨rfl, hgw.trans hg3⟩
  · go_enter Try.func5, Try.ntmps5
    have Hok : Hid (Codec.peerOk 1 [(1, 3)] 1 0 [true] [[0]] = true) := Lib.hid (by simp [Codec.peerOk, Codec.actOk, Det.may, Det.badRow, Det.badStep]; try omega)
    go_wp2_with fail
    refine (awake25 _).mono ?_
    rintro e w2 ⟨rfl, hg⟩
    obtain ⟨⟨b0, b1, b2, b3, b4, b5⟩, h1, h1', h2, h3, h4, hgw⟩ := bad_facts (w := w) (dir := 1) (lab := 3) (mv := 0) (part := 1) (start := 0) (va := .slice (some ⟨w.heap.size, 0, none⟩) 1 1) hg
    have HP : Hid (PeerAt w2 _ 1 [(1, 3)] 1 0 [true] [[0]]) := Lib.hid (peerAt1 h1 h1' h2 h3 h4)
    clear hg h1 h1' h2 h3 h4
    go_wp2_with fail
    refine (peer_len _ 1 [(1, 3)] 1 0 [true] [[0]] w2 (by omega) HP.out (by intro l hl s hs; simp at hl; subst hl; simp at hs; subst hs; omega)).mono ?_
    rintro e w3 ⟨⟨v, rfl, hv0, hv1⟩, hg3⟩
    obtain ⟨va, vn, vc, rfl, hpos⟩ := hv1 Hok.out
    have hpos' : decide ((0 : Int) < (vn : Int)) = true := by simpa using hpos
    clear hv0 HP
    go_wp2_with fail
    go_ret
    exact ⟨rfl, hgw.trans hg3⟩
end Go.Proofs.Ytjapakmpnkbemaa
