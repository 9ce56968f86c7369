/- scan: what says nothing, and the pieces of a text that is made of pieces. No program. -/
import Derived.Test.YtfkdjdmbgednkaaDoorRead
namespace Go.Proofs.YtfkdjdmbgednkaaDoor
namespace Xm
/-- a text of letters that may stand in one -/
def Lt (v : List UInt8) : Prop := ∃ L, (∀ r ∈ L, size r ≠ 0 ∧ letter r = true) ∧ v = cat L
theorem Lt.nil : Lt [] := ⟨[], by simp, rfl⟩
theorem Lt.append {a b : List UInt8} (h : Lt a) (k : Lt b) : Lt (a ++ b) := by
  obtain ⟨L, h1, rfl⟩ := h
  obtain ⟨M, h2, rfl⟩ := k
  refine ⟨L ++ M, fun r hr => ?_, (cat_append _ _).symm⟩
  rcases List.mem_append.1 hr with h | h
  · exact h1 r h
  · exact h2 r h
theorem Lt.flat {α : Type} {f : α → List UInt8} : ∀ {l : List α}, (∀ a ∈ l, Lt (f a)) → Lt (l.flatMap f)
  | [], _ => Lt.nil
  | a :: l, h => by
    rw [List.flatMap_cons]
    exact (h a List.mem_cons_self).append (Lt.flat fun b hb => h b (List.mem_cons_of_mem _ hb))
theorem Lt.text {v : List UInt8} (h : Lt v) : text (str v) 0 = -1 := by
  obtain ⟨L, h1, rfl⟩ := h
  have ht := text_cat L [] [] h1
  rw [List.nil_append, List.append_nil] at ht
  refine ht.trans ?_
  rw [Xm.text, dif_neg (by rw [str_size]; simp)]
theorem Lt.bad {v : List UInt8} (h : Lt v) : bad (str v) 0 = -1 := by
  obtain ⟨L, h1, rfl⟩ := h
  have ht := bad_cat L [] [] (fun r hr => (h1 r hr).1)
  rw [List.nil_append, List.append_nil] at ht
  refine ht.trans ?_
  rw [Xm.bad, dif_neg (by rw [str_size]; simp)]
theorem Vt.lt {v : List UInt8} (h : Vt v) : Lt v := by
  obtain ⟨L, hL, rfl⟩ := h
  exact ⟨L, fun r hr => ⟨(hL r hr).1, ok_letter (hL r hr).1 (hL r hr).2⟩, rfl⟩
theorem Vt.close {v : List UInt8} (h : Vt v) : Lt (clL v) := by
  obtain ⟨L, hL, rfl⟩ := h
  refine ⟨L.flatMap clR, fun x hx => ?_, clL_cat L fun r hr => (hL r hr).1⟩
  obtain ⟨r, hr, hx⟩ := List.mem_flatMap.1 hx
  exact clR_ok ⟨(hL r hr).1, ok_letter (hL r hr).1 (hL r hr).2⟩ x hx
/-- a byte of few, as a letter -/
def Asc (c : UInt8) : Prop := put (c.toNat : Int) = [c] ∧ size (c.toNat : Int) ≠ 0 ∧ letter (c.toNat : Int) = true
theorem asc_of : ∀ c : UInt8, (32 ≤ c.toNat ∧ c.toNat < 127 ∨ c = 9 ∨ c = 10 ∨ c = 13) → Asc c := by
  have key : ∀ n : Fin 256, (32 ≤ n.val ∧ n.val < 127 ∨ n.val = 9 ∨ n.val = 10 ∨ n.val = 13) → put (n.val : Int) = [UInt8.ofNat n.val] ∧ size (n.val : Int) ≠ 0 ∧ letter (n.val : Int) = true := by decide +kernel
  intro c h
  have := key ⟨c.toNat, c.toNat_lt⟩ (by
    rcases h with h | rfl | rfl | rfl
    · exact .inl h
    · exact .inr (.inl rfl)
    · exact .inr (.inr (.inl rfl))
    · exact .inr (.inr (.inr rfl)))
  simp only [UInt8.ofNat_toNat] at this
  exact this
theorem Lt.asc : ∀ {v : List UInt8}, (∀ c ∈ v, Asc c) → Lt v
  | [], _ => Lt.nil
  | c :: v, h => by
    have h1 := h c List.mem_cons_self
    refine Lt.append (a := [c]) ⟨[(c.toNat : Int)], by simp only [List.mem_singleton]; rintro r rfl; exact h1.2, ?_⟩ (Lt.asc fun d hd => h d (List.mem_cons_of_mem _ hd))
    rw [cat_cons, h1.1]; rfl
theorem new_lt {v : List UInt8} (h : Lt v) (hs : v.length ≤ 200000) : newT (str v) = ⟨0, 0, 0⟩ := by
  unfold newT
  rw [if_neg (by rw [str_size]; omega), if_neg (by rw [h.bad]; decide)]
theorem com_first : ∀ (v B : List UInt8), Lib.index (v ++ [45]) [45, 45] = -1 → Lib.index (v ++ ([45, 45, 62] ++ B)) [45, 45, 62] = (v.length : Int)
  | [], B, _ => by simp [Lib.index]
  | x :: v, B, h => by
    rw [List.cons_append, Lib.index] at h
    split at h
    · exact absurd h (by decide)
    rename_i h1
    have h2 : Lib.index (v ++ [45]) [45, 45] = -1 := by
      have := Lib.index_ge (v ++ [45]) [45, 45]
      split at h
      · rename_i e; simpa using e
      · omega
    have ih := com_first v B h2
    rw [List.cons_append, Lib.index, if_neg, ih]
    · have : ((v.length : Int) == -1) = false := by rw [beq_eq_false_iff_ne]; omega
      simp [this]
    · intro hp
      apply h1
      cases v with
      | nil =>
        simp at hp ⊢
        try exact hp
      | cons y v =>
        simp at hp ⊢
        exact ⟨hp.1, hp.2.1⟩
theorem ins_first : ∀ (v B : List UInt8), (63 : UInt8) ∉ v → Lib.index (v ++ ([63, 62] ++ B)) [63, 62] = (v.length : Int)
  | [], B, _ => by simp [Lib.index]
  | x :: v, B, h => by
    have hx : ¬ 63 = x := fun e => h (by rw [e]; exact List.mem_cons_self)
    have ih := ins_first v B (fun m => h (List.mem_cons_of_mem _ m))
    rw [List.cons_append, Lib.index, if_neg (by simp [hx]), ih]
    have : ((v.length : Int) == -1) = false := by rw [beq_eq_false_iff_ne]; omega
    simp [this]
/-- what says nothing -/
def comB (v : List UInt8) : List UInt8 := [60, 33, 45, 45] ++ (v ++ [45, 45, 62])
def insB (v : List UInt8) : List UInt8 := [60, 63] ++ (v ++ [63, 62])
theorem next_com {s : ByteArray} {k : Nat} {v : List UInt8} (hv : Lt v) (hd : Lib.index (v ++ [45]) [45, 45] = -1) (h : Lies s k (comB v)) : nextR s ⟨k, 0, 0⟩ = nextR s ⟨k + (comB v).length, 0, 0⟩ := by
  unfold comB at h
  have hl := h.le
  have hb : Lies s (k + 4) (v ++ [45, 45, 62]) := h.right
  have hc : hasAt s k comS = true := by rw [h.has (x := comS) (by rw [show comS.size = 4 from rfl]; simp)]; rfl
  have hf : farS s (k + 4) comE = (v.length : Int) := by
    obtain ⟨_, B, hB⟩ := hb
    unfold farS
    rw [hB, List.append_assoc]
    exact com_first v B hd
  have hx : s.extract (k + 4) (k + 4 + v.length) = str v := hb.left.ext
  refine next_aside (by simp at hl; omega) (by unfold asideB; rw [hc]; rfl) ?_
  unfold asideT
  rw [if_pos hc]
  unfold sideT
  rw [hf, Int.toNat_natCast, hx, hv.text, if_neg (by omega), if_neg (by decide)]
  have hct : Lib.contains (str v ++ dash).data.toList dashes.data.toList = false := by
    have e : (str v ++ dash).data.toList = v ++ [45] := by rw [ByteArray.data_append, Array.toList_append]; rfl
    unfold Lib.contains
    rw [e, show dashes.data.toList = [45, 45] from rfl, hd]
    rfl
  rw [hct, if_neg (by simp)]
  have e : (comB v).length = 4 + v.length + 3 := by simp [comB]; omega
  rw [e, show comE.size = 3 from rfl]
  congr 1
  omega
theorem next_ins {s : ByteArray} {k : Nat} {v : List UInt8} (hv : Lt v) (hd : (63 : UInt8) ∉ v) (h : Lies s k (insB v)) : nextR s ⟨k, 0, 0⟩ = nextR s ⟨k + (insB v).length, 0, 0⟩ := by
  unfold insB at h
  have hl := h.le
  have hb : Lies s (k + 2) (v ++ [63, 62]) := h.right
  have hc : hasAt s k comS = false := h.no (x := comS) 1 (by simp) (by decide) (by simp [comS])
  have hi : hasAt s k insS = true := by rw [h.has (x := insS) (by rw [show insS.size = 2 from rfl]; simp)]; rfl
  have hf : farS s (k + 2) insE = (v.length : Int) := by
    obtain ⟨_, B, hB⟩ := hb
    unfold farS
    rw [hB, List.append_assoc]
    exact ins_first v B hd
  have hx : s.extract (k + 2) (k + 2 + v.length) = str v := hb.left.ext
  refine next_aside (by simp at hl; omega) (by unfold asideB; rw [hi, Bool.or_true]) ?_
  unfold asideT
  rw [if_neg (by rw [hc]; simp), if_pos hi]
  unfold sideT
  rw [hf, Int.toNat_natCast, hx, hv.text, if_neg (by omega), if_neg (by decide), if_neg (by simp)]
  have e : (insB v).length = 2 + v.length + 2 := by simp [insB]; omega
  rw [e, show insE.size = 2 from rfl]
  congr 1
  omega
/-- a piece of a text that is made: its bytes, and what it is, if it says something -/
abbrev Itm : Type := List UInt8 × Option Pc
def isTx : Option Pc → Bool
  | some p => p.kind == 4
  | none => false
def Pc.put (p : Pc) (k : Nat) : Pc := ⟨p.kind, p.name, p.attrs, p.text, k⟩
/-- what is read of it -/
def ItRead (s : ByteArray) (k : Nat) (x : Itm) : Prop :=
  match x.2 with
  | none => nextR s ⟨k, 0, 0⟩ = nextR s ⟨k + x.1.length, 0, 0⟩
  | some p => nextR s ⟨k, 0, 0⟩ = (p.put k, ⟨k + x.1.length, 0, 0⟩)
def ItOk (x : Itm) : Prop :=
  (∀ s k, Lies s k x.1 → (isTx x.2 = true → k + x.1.length = s.size ∨ bt s (k + x.1.length) = 60 ∧ k + x.1.length < s.size) → ItRead s k x) ∧ (isTx x.2 = false → ∃ r, x.1 = 60 :: r)
def docB (l : List Itm) : List UInt8 := l.flatMap (·.1)
theorem docB_append (a b : List Itm) : docB (a ++ b) = docB a ++ docB b := by simp [docB]
/-- the pieces, with their places -/
def pcs : Nat → List Itm → List Pc
  | _, [] => []
  | k, (x, none) :: r => pcs (k + x.length) r
  | k, (x, some p) :: r => p.put k :: pcs (k + x.length) r
theorem pcs_append : ∀ (a b : List Itm) (k : Nat), pcs k (a ++ b) = pcs k a ++ pcs (k + (docB a).length) b
  | [], b, k => by simp [pcs, docB]
  | (x, none) :: a, b, k => by
    rw [List.cons_append, pcs, pcs, pcs_append a b, show docB ((x, none) :: a) = x ++ docB a from rfl, List.length_append, Nat.add_assoc]
  | (x, some p) :: a, b, k => by
    rw [List.cons_append, pcs, pcs, pcs_append a b, show docB ((x, some p) :: a) = x ++ docB a from rfl, List.length_append, Nat.add_assoc, List.cons_append]
/-- no two texts are neighbours -/
def Good : List Itm → Prop
  | [] => True
  | [x] => ItOk x
  | x :: y :: r => ItOk x ∧ ¬ (isTx x.2 = true ∧ isTx y.2 = true) ∧ Good (y :: r)
theorem Good.tail {x : Itm} {r : List Itm} (h : Good (x :: r)) : Good r := by
  cases r with
  | nil => trivial
  | cons y r => exact h.2.2
theorem Good.head {x : Itm} {r : List Itm} (h : Good (x :: r)) : ItOk x := by
  cases r with
  | nil => exact h
  | cons y r => exact h.1
theorem Good.snoc : ∀ {l : List Itm} {x : Itm}, Good l → ItOk x → (isTx x.2 = true → ∀ y, l.getLast? = some y → isTx y.2 = false) → Good (l ++ [x])
  | [], x, _, hx, _ => hx
  | [y], x, h, hx, hn => by
    refine ⟨h, ?_, hx⟩
    intro e
    have := hn e.2 y rfl
    rw [e.1] at this
    cases this
  | y :: z :: l, x, h, hx, hn => ⟨h.1, h.2.1, Good.snoc (l := z :: l) h.2.2 hx (fun e u hu => hn e u (by simpa using hu))⟩
theorem good_read {s : ByteArray} {A B : List Itm} {x : Itm} (hs : s = str (docB (A ++ x :: B))) (hg : Good (x :: B)) : ItRead s (docB A).length x := by
  have hd : docB (A ++ x :: B) = docB A ++ (x.1 ++ docB B) := by simp [docB]
  have hL : Lies s (docB A).length (x.1 ++ docB B) := Lies.of (A := docB A) (B := []) (by rw [hs, hd]; simp [str]) rfl
  refine hg.head.1 s _ hL.left fun ht => ?_
  cases B with
  | nil =>
    left
    rw [hs, str_size, hd]
    simp [docB]
  | cons y B =>
    right
    have hy : isTx y.2 = false := by
      cases hh : isTx y.2
      · rfl
      · exact absurd ⟨ht, hh⟩ hg.2.1
    obtain ⟨r, hr⟩ := hg.2.2.head.2 hy
    have hR := hL.right
    have e : docB (y :: B) = 60 :: (r ++ docB B) := by show y.1 ++ docB B = _; rw [hr]; rfl
    rw [e] at hR
    exact ⟨hR.hd, hR.lt⟩
/-- the next piece of those that are left -/
theorem read_items {s : ByteArray} {its : List Itm} (hs : s = str (docB its)) : ∀ (B A : List Itm), its = A ++ B → Good B →
    (pcs (docB A).length B = [] → nextR s ⟨(docB A).length, 0, 0⟩ = (Pc.zero, ⟨s.size, 0, 0⟩)) ∧
    (∀ p r, pcs (docB A).length B = p :: r → ∃ A' B', its = A' ++ B' ∧ Good B' ∧ nextR s ⟨(docB A).length, 0, 0⟩ = (p, ⟨(docB A').length, 0, 0⟩) ∧ pcs (docB A').length B' = r)
  | [], A, h, _ => by
    refine ⟨fun _ => ?_, fun p r hp => by cases hp⟩
    have e : (docB A).length = s.size := by rw [hs, h, List.append_nil, str_size]
    rw [e]
    exact next_eof s
  | (x, none) :: B, A, h, hg => by
    have hr := good_read (s := s) (A := A) (by rw [hs, h]) hg
    have e : (docB (A ++ [(x, none)])).length = (docB A).length + x.length := by rw [docB_append]; simp [docB]
    have ih := read_items hs B (A ++ [(x, none)]) (by rw [h]; simp) hg.tail
    rw [e] at ih
    rw [pcs, show nextR s ⟨(docB A).length, 0, 0⟩ = nextR s ⟨((docB A).length + x.length : Nat), 0, 0⟩ from hr]
    exact ih
  | (x, some p) :: B, A, h, hg => by
    have hr := good_read (s := s) (A := A) (by rw [hs, h]) hg
    have e : (docB (A ++ [(x, some p)])).length = (docB A).length + x.length := by rw [docB_append]; simp [docB]
    refine ⟨fun hp => (by cases hp), fun q r hp => ⟨A ++ [(x, some p)], B, by rw [h]; simp, hg.tail, ?_, ?_⟩⟩
    · rw [pcs] at hp
      injection hp with h1 h2
      rw [e, ← h1]
      exact hr
    · rw [pcs] at hp
      injection hp with h1 h2
      rw [e]
      exact h2
end Xm
end Go.Proofs.YtfkdjdmbgednkaaDoor
