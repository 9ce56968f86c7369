/- galliardlaw06.TreeBad: what is no document; the law's awake; the walk. -/
import Derived.Test.YtfkdjdmbgednkaaDoorTr9
namespace Go.Proofs.YtfkdjdmbgednkaaDoor
open Go.RowKit
namespace Xm
def tbDocs : List ByteArray := [⟨#[]⟩, ⟨#[97]⟩, ⟨#[60, 97, 62]⟩, ⟨#[60, 97, 47, 62, 60, 98, 47, 62]⟩, ⟨#[60, 97, 62, 60, 47, 98, 62]⟩, ⟨#[60, 97, 62, 120, 60, 98, 47, 62, 60, 47, 97, 62]⟩, ⟨#[60, 112, 58, 97, 47, 62]⟩, ⟨#[60, 97, 32, 112, 58, 98, 61, 39, 39, 47, 62]⟩, ⟨#[60, 47, 97, 62]⟩, ⟨#[60, 97, 47, 62, 120]⟩, ⟨#[60, 97, 32, 120, 109, 108, 110, 115, 58, 112, 61, 39, 39, 47, 62]⟩, ⟨#[60, 97, 62, 38, 60, 47, 97, 62]⟩, ⟨#[60, 97, 32, 120, 109, 108, 110, 115, 58, 120, 109, 108, 61, 39, 117, 39, 47, 62]⟩, ⟨#[60, 97, 32, 98, 61, 39, 49, 39, 32, 98, 61, 39, 50, 39, 47, 62]⟩, ⟨#[60, 97, 62, 60, 98, 62]⟩, ⟨#[60, 97, 62, 0, 60, 47, 97, 62]⟩]
def tbAts : List Int := [0, 0, 3, 4, 3, 0, 0, 0, 0, 4, 0, 3, 0, 9, 6, 3]
def tbErrs : List Int := [3, 3, 3, 3, 3, 3, 3, 3, 3, 3, 3, 3, 3, 7, 3, 3]
def tbDoc (j : Nat) : ByteArray := tbDocs.getD j ByteArray.empty
def tbAt (j : Nat) : Int := tbAts.getD j 0
def tbErr (j : Nat) : Int := tbErrs.getD j 0
theorem tb_cases {j : Nat} (h : j < 16) : j = 0 ∨ j = 1 ∨ j = 2 ∨ j = 3 ∨ j = 4 ∨ j = 5 ∨ j = 6 ∨ j = 7 ∨ j = 8 ∨ j = 9 ∨ j = 10 ∨ j = 11 ∨ j = 12 ∨ j = 13 ∨ j = 14 ∨ j = 15 := by omega
theorem tb_new {j : Nat} (h : j < 16) : newT (tbDoc j) = ⟨0, 0, 0⟩ := by
  rcases tb_cases h with rfl | rfl | rfl | rfl | rfl | rfl | rfl | rfl | rfl | rfl | rfl | rfl | rfl | rfl | rfl | rfl <;> kernel_rfl
theorem tb_size {j : Nat} (h : j < 16) : (tbDoc j).size ≤ 100 := by
  rcases tb_cases h with rfl | rfl | rfl | rfl | rfl | rfl | rfl | rfl | rfl | rfl | rfl | rfl | rfl | rfl | rfl | rfl <;> decide
theorem tb_parse {j : Nat} (h : j < 16) : parseT (tbDoc j) = .error (tbErr j, tbAt j) := by
  rcases tb_cases h with rfl | rfl | rfl | rfl | rfl | rfl | rfl | rfl | rfl | rfl | rfl | rfl | rfl | rfl | rfl | rfl <;> kernel_rfl
def tk1 : ByteArray := ⟨#[60, 97, 62, 32, 98, 32, 60, 47, 97, 62]⟩
def tk2 : ByteArray := ⟨#[60, 97, 62, 60, 98, 62, 60, 47, 97, 62]⟩
theorem tk1_new : newT tk1 = ⟨0, 0, 0⟩ := by kernel_rfl
theorem tk2_new : newT tk2 = ⟨0, 0, 0⟩ := by kernel_rfl
theorem tk1_parse : parseT tk1 = .ok (.mk ByteArray.empty ⟨#[97]⟩ [] [] ⟨#[98]⟩) := by kernel_rfl
theorem tk2_parse : parseT tk2 = .error (3, 6) := by kernel_rfl
structure TbRows (w : World) (A : Nat) : Prop where
  doc : ∀ j, j < 16 → w.cell? ⟨A, j, none⟩ = some (.string (tbDoc j))
  at' : ∀ j, j < 16 → w.cell? ⟨A + 1, j, none⟩ = some (.int .i64 (tbAt j))
  err : ∀ j, j < 16 → w.cell? ⟨A + 1 + 1, j, none⟩ = some (.int .i64 (tbErr j))
  lt : A + 1 + 1 < w.heap.size
theorem TbRows.grow {w w' : World} {A : Nat} (h : TbRows w A) (g : Flow.Grow w w') : TbRows w' A := by
  have hl := h.lt
  exact ⟨fun j hj => (cell_grow g (by show A < _; omega)).trans (h.doc j hj), fun j hj => (cell_grow g (by show A + 1 < _; omega)).trans (h.at' j hj), fun j hj => (cell_grow g hl).trans (h.err j hj), Nat.lt_of_lt_of_le hl g.size⟩
theorem tbRows_new (w : World) : TbRows (((w.alloc (.cells #[.string ⟨#[]⟩, .string ⟨#[97]⟩, .string ⟨#[60, 97, 62]⟩, .string ⟨#[60, 97, 47, 62, 60, 98, 47, 62]⟩, .string ⟨#[60, 97, 62, 60, 47, 98, 62]⟩, .string ⟨#[60, 97, 62, 120, 60, 98, 47, 62, 60, 47, 97, 62]⟩, .string ⟨#[60, 112, 58, 97, 47, 62]⟩, .string ⟨#[60, 97, 32, 112, 58, 98, 61, 39, 39, 47, 62]⟩, .string ⟨#[60, 47, 97, 62]⟩, .string ⟨#[60, 97, 47, 62, 120]⟩, .string ⟨#[60, 97, 32, 120, 109, 108, 110, 115, 58, 112, 61, 39, 39, 47, 62]⟩, .string ⟨#[60, 97, 62, 38, 60, 47, 97, 62]⟩, .string ⟨#[60, 97, 32, 120, 109, 108, 110, 115, 58, 120, 109, 108, 61, 39, 117, 39, 47, 62]⟩, .string ⟨#[60, 97, 32, 98, 61, 39, 49, 39, 32, 98, 61, 39, 50, 39, 47, 62]⟩, .string ⟨#[60, 97, 62, 60, 98, 62]⟩, .string ⟨#[60, 97, 62, 0, 60, 47, 97, 62]⟩] 9)).alloc (.cells #[.int .i64 0, .int .i64 0, .int .i64 3, .int .i64 4, .int .i64 3, .int .i64 0, .int .i64 0, .int .i64 0, .int .i64 0, .int .i64 4, .int .i64 0, .int .i64 3, .int .i64 0, .int .i64 9, .int .i64 6, .int .i64 3] 3)).alloc (.cells #[.int .i64 3, .int .i64 3, .int .i64 3, .int .i64 3, .int .i64 3, .int .i64 3, .int .i64 3, .int .i64 3, .int .i64 3, .int .i64 3, .int .i64 3, .int .i64 3, .int .i64 3, .int .i64 7, .int .i64 3, .int .i64 3] 34)) w.heap.size := by
  refine ⟨fun j hj => ?_, fun j hj => ?_, fun j hj => ?_, by simp⟩
  · rcases tb_cases hj with rfl | rfl | rfl | rfl | rfl | rfl | rfl | rfl | rfl | rfl | rfl | rfl | rfl | rfl | rfl | rfl <;> simp [go_sem, tbDoc, tbDocs]
  · rcases tb_cases hj with rfl | rfl | rfl | rfl | rfl | rfl | rfl | rfl | rfl | rfl | rfl | rfl | rfl | rfl | rfl | rfl <;> simp [go_sem, tbAt, tbAts]
  · rcases tb_cases hj with rfl | rfl | rfl | rfl | rfl | rfl | rfl | rfl | rfl | rfl | rfl | rfl | rfl | rfl | rfl | rfl <;> simp [go_sem, tbErr, tbErrs]
end Xm
theorem node_known {F : Nat → Prop} {w : World} {v : Value} {sp nm tx : ByteArray} {l : List (ByteArray × ByteArray)} {ks : List Xm.Nod} (h : Xm.NodAt F w v (.mk sp nm l ks tx)) : ∃ (a1 a2 : Option Addr) (n1 n2 c1 c2 : Nat), v = .agg #[.string sp, .string nm, .slice a1 n1 c1, .slice a2 n2 c2, .string tx] := by
  cases h with
  | mk sp nm tx av kv l ks vs g off hA haF hk hl hc hn =>
    obtain ⟨ao, cap, rfl⟩ := hA.shape
    rcases hk with ⟨_, a, c, rfl⟩ | ⟨cap2, rfl, _⟩
    · exact ⟨_, _, _, _, _, _, rfl⟩
    · exact ⟨_, _, _, _, _, _, rfl⟩
set_option maxRecDepth 100000 in
set_option maxHeartbeats 1000000 in
theorem awake6_T (w : World) (hT : Xm.Tab w) (hm : Xm.Max w) : Calls Tryd.prog 20 #[] w fun r w' => r = .returned (.bool true) ∧ Flow.Grow w w' := by
  have HT := Lib.hid hT
  have HM := Lib.hid hm
  clear hT hm
  go_enter Tryd.func20, Tryd.ntmps20
  go_upto_region 2 with (go_at_call 19; refine (parse_any Xm.tk1 (by decide) Xm.tk1_new w HT.out HM.out).mono ?_; rintro e w1 ⟨hg1, hp⟩; rw [Xm.tk1_parse] at hp; obtain ⟨v, rfl, hn⟩ := hp; obtain ⟨b1, b2, n1, n2, c1, c2, rfl⟩ := node_known hn)
  have X2 : Hid (Xm.RowN (w1.alloc (.cells #[.string ByteArray.empty, .string ⟨#[97]⟩, .slice b1 n1 c1, .slice b2 n2 c2, .string ⟨#[98]⟩] 47)) w1.heap.size #[.string ByteArray.empty, .string ⟨#[97]⟩, .slice b1 n1 c1, .slice b2 n2 c2, .string ⟨#[98]⟩]) := Lib.hid (heap_alloc_new _ _)
  have G2 : Hid (Flow.Grow w (w1.alloc (.cells #[.string ByteArray.empty, .string ⟨#[97]⟩, .slice b1 n1 c1, .slice b2 n2 c2, .string ⟨#[98]⟩] 47))) := Lib.hid (hg1.trans (Flow.grow_alloc _ _))
  obtain ⟨A, hA⟩ : ∃ A, A = w1.heap.size := ⟨_, rfl⟩
  rw [← hA] at X2 ⊢
  clear hA hn hg1
  generalize w1.alloc (.cells #[.string ByteArray.empty, .string ⟨#[97]⟩, .slice b1 n1 c1, .slice b2 n2 c2, .string ⟨#[98]⟩] 47) = w2 at *
  go_upto_region 3 with (go_at_call 19; refine (parse_any Xm.tk2 (by decide) Xm.tk2_new w2 (HT.out.grow G2.out) (HM.out.grow G2.out)).mono ?_; rintro e w3 ⟨hg3, hp⟩; rw [Xm.tk2_parse] at hp; simp only at hp; subst hp; unfold zeroNode)
  have g4 := Flow.grow_alloc w3 (.cells #[.string ⟨#[]⟩, .string ⟨#[]⟩, .slice none 0 0, .slice none 0 0, .string ⟨#[]⟩] 47)
  have G4 := Lib.hid ((G2.out.trans hg3).trans g4)
  have X4 := Lib.hid ((X2.out.grow hg3).grow g4)
  clear hg3 g4
  generalize w3.alloc (.cells #[.string ⟨#[]⟩, .string ⟨#[]⟩, .slice none 0 0, .slice none 0 0, .string ⟨#[]⟩] 47) = w4 at *
  have x1 := (cell_of_row w4 A 1 _ _ _ X4.out).trans rfl
  have x4 := (cell_of_row w4 A 4 _ _ _ X4.out).trans rfl
  go_wp2
  go_ret
  exact ⟨rfl, G4.out⟩
set_option maxRecDepth 100000 in
set_option maxHeartbeats 2000000 in
theorem treeBad_walk (n : Int) (w : World) (hT : Xm.Tab w) (hm : Xm.Max w) : Calls Tryd.prog 6 #[.int .i64 n] w fun r w' => r = .returned (.bool true) ∧ Flow.Grow w w' := by
  have HT := Lib.hid hT
  have HM := Lib.hid hm
  clear hT hm
  have hk := Bits.i64_mask n 4 (by omega) 15 (by decide)
  obtain ⟨j, hj⟩ : ∃ j : Nat, n % 2 ^ 4 = (j : Int) := ⟨(n % 2 ^ 4).toNat, by omega⟩
  have hj16 : j < 16 := by omega
  rw [hj] at hk
  clear hj
  go_enter Tryd.func6, Tryd.ntmps6
  go_upto_region 5 with fail
  have HR := Lib.hid (Xm.tbRows_new w)
  have HG : Hid (Flow.Grow w (((w.alloc (.cells #[.string ⟨#[]⟩, .string ⟨#[97]⟩, .string ⟨#[60, 97, 62]⟩, .string ⟨#[60, 97, 47, 62, 60, 98, 47, 62]⟩, .string ⟨#[60, 97, 62, 60, 47, 98, 62]⟩, .string ⟨#[60, 97, 62, 120, 60, 98, 47, 62, 60, 47, 97, 62]⟩, .string ⟨#[60, 112, 58, 97, 47, 62]⟩, .string ⟨#[60, 97, 32, 112, 58, 98, 61, 39, 39, 47, 62]⟩, .string ⟨#[60, 47, 97, 62]⟩, .string ⟨#[60, 97, 47, 62, 120]⟩, .string ⟨#[60, 97, 32, 120, 109, 108, 110, 115, 58, 112, 61, 39, 39, 47, 62]⟩, .string ⟨#[60, 97, 62, 38, 60, 47, 97, 62]⟩, .string ⟨#[60, 97, 32, 120, 109, 108, 110, 115, 58, 120, 109, 108, 61, 39, 117, 39, 47, 62]⟩, .string ⟨#[60, 97, 32, 98, 61, 39, 49, 39, 32, 98, 61, 39, 50, 39, 47, 62]⟩, .string ⟨#[60, 97, 62, 60, 98, 62]⟩, .string ⟨#[60, 97, 62, 0, 60, 47, 97, 62]⟩] 9)).alloc (.cells #[.int .i64 0, .int .i64 0, .int .i64 3, .int .i64 4, .int .i64 3, .int .i64 0, .int .i64 0, .int .i64 0, .int .i64 0, .int .i64 4, .int .i64 0, .int .i64 3, .int .i64 0, .int .i64 9, .int .i64 6, .int .i64 3] 3)).alloc (.cells #[.int .i64 3, .int .i64 3, .int .i64 3, .int .i64 3, .int .i64 3, .int .i64 3, .int .i64 3, .int .i64 3, .int .i64 3, .int .i64 3, .int .i64 3, .int .i64 3, .int .i64 3, .int .i64 7, .int .i64 3, .int .i64 3] 34))) := Lib.hid (((Flow.grow_alloc _ _).trans (Flow.grow_alloc _ _)).trans (Flow.grow_alloc _ _))
  generalize (((w.alloc (.cells #[.string ⟨#[]⟩, .string ⟨#[97]⟩, .string ⟨#[60, 97, 62]⟩, .string ⟨#[60, 97, 47, 62, 60, 98, 47, 62]⟩, .string ⟨#[60, 97, 62, 60, 47, 98, 62]⟩, .string ⟨#[60, 97, 62, 120, 60, 98, 47, 62, 60, 47, 97, 62]⟩, .string ⟨#[60, 112, 58, 97, 47, 62]⟩, .string ⟨#[60, 97, 32, 112, 58, 98, 61, 39, 39, 47, 62]⟩, .string ⟨#[60, 47, 97, 62]⟩, .string ⟨#[60, 97, 47, 62, 120]⟩, .string ⟨#[60, 97, 32, 120, 109, 108, 110, 115, 58, 112, 61, 39, 39, 47, 62]⟩, .string ⟨#[60, 97, 62, 38, 60, 47, 97, 62]⟩, .string ⟨#[60, 97, 32, 120, 109, 108, 110, 115, 58, 120, 109, 108, 61, 39, 117, 39, 47, 62]⟩, .string ⟨#[60, 97, 32, 98, 61, 39, 49, 39, 32, 98, 61, 39, 50, 39, 47, 62]⟩, .string ⟨#[60, 97, 62, 60, 98, 62]⟩, .string ⟨#[60, 97, 62, 0, 60, 47, 97, 62]⟩] 9)).alloc (.cells #[.int .i64 0, .int .i64 0, .int .i64 3, .int .i64 4, .int .i64 3, .int .i64 0, .int .i64 0, .int .i64 0, .int .i64 0, .int .i64 4, .int .i64 0, .int .i64 3, .int .i64 0, .int .i64 9, .int .i64 6, .int .i64 3] 3)).alloc (.cells #[.int .i64 3, .int .i64 3, .int .i64 3, .int .i64 3, .int .i64 3, .int .i64 3, .int .i64 3, .int .i64 3, .int .i64 3, .int .i64 3, .int .i64 3, .int .i64 3, .int .i64 3, .int .i64 7, .int .i64 3, .int .i64 3] 34)) = w1 at *
  obtain ⟨A, hA⟩ : ∃ A, A = w.heap.size := ⟨_, rfl⟩
  rw [← hA] at HR ⊢
  clear hA
  obtain ⟨D, hD⟩ : ∃ D, D = Xm.tbDoc j := ⟨_, rfl⟩
  have h1 := Xm.tb_new hj16
  have h2 := Xm.tb_parse hj16
  have h3 := Xm.tb_size hj16
  rw [← hD] at h1 h2 h3
  have hc := HR.out.doc j hj16
  rw [← hD] at hc
  have H1 := Lib.hid h1
  have H2 := Lib.hid h2
  clear h1 h2 hD
  have hj0 : ¬ (16 : Int) ≤ (j : Int) := by omega
  have hj0' : ¬ 16 ≤ j := by omega
  go_upto_region 6 with (go_at_call 19; refine (parse_any D (by omega) H1.out w1 (HT.out.grow HG.out) (HM.out.grow HG.out)).mono ?_; rintro e w3 ⟨hg3, hp⟩; rw [H2.out] at hp; simp only at hp; subst hp; unfold zeroNode)
  have g4 := Flow.grow_alloc w3 (.cells #[.string ⟨#[]⟩, .string ⟨#[]⟩, .slice none 0 0, .slice none 0 0, .string ⟨#[]⟩] 47)
  have X4 : Hid (Xm.RowN (w3.alloc (.cells #[.string ⟨#[]⟩, .string ⟨#[]⟩, .slice none 0 0, .slice none 0 0, .string ⟨#[]⟩] 47)) w3.heap.size #[.string ⟨#[]⟩, .string ⟨#[]⟩, .slice none 0 0, .slice none 0 0, .string ⟨#[]⟩]) := Lib.hid (heap_alloc_new _ _)
  have G4 := Lib.hid ((HG.out.trans hg3).trans g4)
  have R4 := Lib.hid ((HR.out.grow hg3).grow g4)
  obtain ⟨B, hB⟩ : ∃ B, B = w3.heap.size := ⟨_, rfl⟩
  rw [← hB] at X4 ⊢
  clear hg3 g4 hB hc
  generalize w3.alloc (.cells #[.string ⟨#[]⟩, .string ⟨#[]⟩, .slice none 0 0, .slice none 0 0, .string ⟨#[]⟩] 47) = w4 at *
  have T4 := Lib.hid (HT.out.grow G4.out)
  have M4 := Lib.hid (HM.out.grow G4.out)
  go_wp2_with (go_at_call 20; refine (awake6_T w4 T4.out M4.out).mono ?_; rintro e w5 ⟨rfl, hg5⟩; have e5 := (R4.out.grow hg5).err j hj16; have a5 := (R4.out.grow hg5).at' j hj16; have x1 := (cell_of_row w5 B 1 _ _ _ (X4.out.grow hg5)).trans rfl; have x2 := (cell_of_row w5 B 2 _ _ _ (X4.out.grow hg5)).trans rfl; have x3 := (cell_of_row w5 B 3 _ _ _ (X4.out.grow hg5)).trans rfl; have G5 := Lib.hid (G4.out.trans hg5); clear hg5)
  go_ret
  exact ⟨rfl, G5.out⟩
end Go.Proofs.YtfkdjdmbgednkaaDoor
