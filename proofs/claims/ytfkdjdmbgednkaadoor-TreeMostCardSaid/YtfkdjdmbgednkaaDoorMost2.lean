/- tree: what is read of a deep text and of one with many elements. No program. -/
import Derived.Test.YtfkdjdmbgednkaaDoorMost
namespace Go.Proofs.YtfkdjdmbgednkaaDoor
namespace Xm
def deepS (k : Nat) : ByteArray := str (rep aS k ++ rep aZ k)
def manyS (m : Nat) : ByteArray := str (rS ++ (rep aE m ++ rZ))
theorem deepS_size (k : Nat) : (deepS k).size = 7 * k := by
  unfold deepS
  rw [str_size, List.length_append, rep_len, rep_len]
  show k * 3 + k * 4 = _
  omega
theorem manyS_size (m : Nat) : (manyS m).size = 4 * m + 7 := by
  unfold manyS
  rw [str_size, List.length_append, List.length_append, rep_len]
  show 3 + (m * 4 + 4) = _
  omega
theorem small_bt {l : List UInt8} (h : ∀ c ∈ l, c.toNat < 128) (k : Nat) (hk : k < (str l).size) : bt (str l) k < 128 := by
  rw [str_size] at hk
  rw [bt_str, List.getD_eq_getElem?_getD, List.getElem?_eq_getElem hk, Option.getD_some]
  have := h _ (List.getElem_mem hk)
  omega
theorem deepS_new {k : Nat} (hk : k ≤ 100) : newT (deepS k) = ⟨0, 0, 0⟩ := by
  refine new_small (by rw [deepS_size]; omega) (small_bt fun c hc => ?_)
  rcases List.mem_append.1 hc with h | h
  · have := rep_mem h
    simp [aS] at this
    rcases this with rfl | rfl | rfl <;> decide
  · have := rep_mem h
    simp [aZ] at this
    rcases this with rfl | rfl | rfl | rfl <;> decide
theorem manyS_new {m : Nat} (hm : m ≤ 10000) : newT (manyS m) = ⟨0, 0, 0⟩ := by
  refine new_small (by rw [manyS_size]; omega) (small_bt fun c hc => ?_)
  rcases List.mem_append.1 hc with h | h
  · simp [rS] at h
    rcases h with rfl | rfl | rfl <;> decide
  · rcases List.mem_append.1 h with h | h
    · have := rep_mem h
      simp [aE] at this
      rcases this with rfl | rfl | rfl | rfl <;> decide
    · simp [rZ] at h
      rcases h with rfl | rfl | rfl | rfl <;> decide
theorem doc_done {s : ByteArray} (f k : Nat) (y : Nod) (R : List Bd) (d n : Nat) (hk : k = s.size) : docT s (f + 1) (some y) ⟨⟨k, 0, 0⟩, R, d, n⟩ = .ok y := by
  subst hk
  rw [docT, next_eof]
  simp only
  rw [if_neg (by simp), if_pos (show Pc.zero.kind = 0 from rfl)]
def after (s : ByteArray) (f : Nat) (res : Except (Int × Int) Nod × Rs) : Except (Int × Int) Nod := match res with
  | (.ok y, r2) => docT s f (some y) r2
  | (.error z, _) => .error z
theorem doc_start {s : ByteArray} {c : UInt8} (hc : Lc c) (h : Lies s 0 [60, c, 62]) (f : Nat) (res : Except (Int × Int) Nod × Rs)
    (hg : goT s (2 * s.size + 2) none ⟨1, str [c], [], ByteArray.empty, 0⟩ ⟨⟨3, 0, 0⟩, newB, 0, 0⟩ = res) :
    docT s (f + 1) none r0 = after s f res := by
  have e : nextR s r0.st = (⟨1, str [c], [], ByteArray.empty, 0⟩, ⟨3, 0, 0⟩) := next_start hc h
  rw [docT, e]
  simp only
  rw [if_neg (by simp), if_neg (by simp), if_pos (.inl trivial)]
  exact congrArg (after s f) hg
theorem deep_ok {k : Nat} (hk : k < 32) : parseT (deepS (k + 1)) = .ok (deepN k) := by
  have hz := deepS_size (k + 1)
  have h0 : Lies (deepS (k + 1)) 0 (aS ++ (rep aS k ++ (rep aZ (k + 1) ++ []))) := Lies.of (A := []) (B := []) (by simp [deepS, str, rep]) rfl
  have hg := go_deep k (2 * (deepS (k + 1)).size + 2) 3 0 0 0 [] (by omega) (by omega) (by omega) h0.right
  obtain ⟨f, hf⟩ : ∃ f, (deepS (k + 1)).size = f + 1 := ⟨7 * k + 6, by omega⟩
  unfold parseT
  rw [doc_start (.inl rfl) h0.left _ _ hg, after]
  rw [hf, doc_done f _ _ _ _ _ (by omega)]
theorem deep_bad {j : Nat} (hj : j = 32) : parseT (deepS (j + 1)) = .error (4, 96) := by
  have hz := deepS_size (j + 1)
  have h0 : Lies (deepS (j + 1)) 0 (aS ++ (rep aS j ++ rep aZ (j + 1))) := Lies.of (A := []) (B := []) (by simp [deepS, str, rep]) rfl
  have hv : (if j = 0 then (0 : Int) else ((3 + 3 * (j - 1) : Nat) : Int)) = 96 := by rw [if_neg (by omega)]; omega
  have hg := go_toodeep j (2 * (deepS (j + 1)).size + 2) 3 0 0 0 (by omega) (by omega) (by omega) h0.right.left
  generalize (if j = 0 then (0 : Int) else ((3 + 3 * (j - 1) : Nat) : Int)) = z at *
  subst hv
  obtain ⟨r, hg⟩ := hg
  exact doc_start (.inl rfl) h0.left _ _ hg
def manyN (m : Nat) : Nod := .mk ByteArray.empty (str [114]) [] (List.replicate m (leaf 97)) (if List.replicate m (leaf 97) ≠ [] then ByteArray.empty else trim ByteArray.empty)
theorem cntL_rep : ∀ m, cntL (List.replicate m (leaf 97)) = m
  | 0 => rfl
  | m + 1 => by rw [List.replicate_succ, cntL, cntL_rep m, leaf, cnt, cntL]; omega
theorem manyN_cnt (m : Nat) : cnt (manyN m) = m + 1 := by rw [manyN, cnt, cntL_rep]; omega
theorem many_start (m : Nat) : Lies (manyS m) 0 (rS ++ (rep aE m ++ rZ)) := Lies.of (A := []) (B := []) (by simp [manyS, str]) rfl
theorem many_ok {m : Nat} (hm : m ≤ 1999) : parseT (manyS m) = .ok (manyN m) := by
  have hz := manyS_size m
  have h0 := many_start m
  obtain ⟨F, hF⟩ : ∃ F, 2 * (manyS m).size + 2 = F + 1 := ⟨_, rfl⟩
  have hg : goT (manyS m) (2 * (manyS m).size + 2) none ⟨1, str [114], [], ByteArray.empty, 0⟩ ⟨⟨3, 0, 0⟩, newB, 0, 0⟩ = (.ok (manyN m), ⟨⟨3 + 4 * m + 4, 0, 0⟩, newB, 0, 1 + m⟩) := by
    rw [hF, goT, begin_small (d := 0) (n := 0) (.inr rfl) 1 0 (by omega) (by omega)]
    simp only
    rw [if_neg (by decide), go_many m _ 3 1 _ _ _ [] 0 1 (by omega) (by omega) h0.right]
    unfold leaveR manyN
    simp [leave_small]
  obtain ⟨f, hf⟩ : ∃ f, (manyS m).size = f + 1 := ⟨4 * m + 6, by omega⟩
  unfold parseT
  rw [doc_start (.inr rfl) h0.left _ _ hg, after]
  rw [hf, doc_done f _ _ _ _ _ (by omega)]
theorem many_bad {j : Nat} (hj : j = 1999) : parseT (manyS (j + 1)) = .error (5, 7999) := by
  have hz := manyS_size (j + 1)
  have h0 := many_start (j + 1)
  have hv : ((3 + 4 * j : Nat) : Int) = 7999 := by omega
  obtain ⟨F, hF⟩ : ∃ F, 2 * (manyS (j + 1)).size + 2 = F + 1 := ⟨_, rfl⟩
  obtain ⟨r, hr⟩ := go_toomany j F 3 1 ByteArray.empty (str [114]) [] [] ⟨1, str [114], [], ByteArray.empty, 0⟩ (by omega) (by omega) h0.right.left
  rw [hv] at hr
  have hg : goT (manyS (j + 1)) (2 * (manyS (j + 1)).size + 2) none ⟨1, str [114], [], ByteArray.empty, 0⟩ ⟨⟨3, 0, 0⟩, newB, 0, 0⟩ = (.error (5, 7999), leaveR r) := by
    rw [hF, goT, begin_small (d := 0) (n := 0) (.inr rfl) 1 0 (by omega) (by omega)]
    simp only
    rw [if_neg (by decide), hr]
  exact doc_start (.inr rfl) h0.left _ _ hg
theorem deep_step (n : Nat) : str (rep aS n) ++ (⟨#[60, 97, 62]⟩ : ByteArray) = str (rep aS (n + 1)) := by
  rw [rep_last, ← str_append]; rfl
theorem end_step (n : Nat) : str (rep aZ n) ++ (⟨#[60, 47, 97, 62]⟩ : ByteArray) = str (rep aZ (n + 1)) := by
  rw [rep_last, ← str_append]; rfl
theorem many_step (n : Nat) : str (rS ++ rep aE n) ++ (⟨#[60, 97, 47, 62]⟩ : ByteArray) = str (rS ++ rep aE (n + 1)) := by
  rw [rep_last, ← List.append_assoc, ← str_append]; rfl
theorem deep_join (n : Nat) : str (rep aS n) ++ str (rep aZ n) = deepS n := str_append _ _
theorem many_join (n : Nat) : str (rS ++ rep aE n) ++ (⟨#[60, 47, 114, 62]⟩ : ByteArray) = manyS n := by
  unfold manyS
  rw [← List.append_assoc, ← str_append]; rfl
end Xm
end Go.Proofs.YtfkdjdmbgednkaaDoor
