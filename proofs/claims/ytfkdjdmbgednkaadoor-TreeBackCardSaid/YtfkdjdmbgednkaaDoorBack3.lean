/- The document of an element is read back as the element. No program. -/
import Derived.Test.YtfkdjdmbgednkaaDoorBack2
namespace Go.Proofs.YtfkdjdmbgednkaaDoor
namespace Xm
/-- an element's document, without what stands around it -/
def nodB : Nod → ByteArray → List UInt8 → List UInt8
  | .mk sp nm l ks tx, space, pad => 60 :: (bl nm ++ (spD sp space ++ (atD l ++
      (match ks with
        | [] => if tx.size = 0 then [47, 62] else 62 :: (clL (bl tx) ++ ([60, 47] ++ (bl nm ++ [62])))
        | k :: ks => [62, 10] ++ (docL (k :: ks) sp (pad ++ [32]) ++ (pad ++ ([60, 47] ++ (bl nm ++ [62]))))))))
theorem docN_nod (y : Nod) (space : ByteArray) (pad : List UInt8) : docN y space pad = pad ++ (nodB y space pad ++ [10]) := by
  obtain ⟨sp, nm, l, ks, tx⟩ := y
  cases ks with
  | nil =>
    rw [docN, nodB]
    split <;> simp
  | cons k ks =>
    rw [docN, nodB]
    rw [docL]
    simp
theorem nodB_first (y : Nod) (space : ByteArray) (pad : List UInt8) : ∃ r, nodB y space pad = 60 :: r := by
  obtain ⟨sp, nm, l, ks, tx⟩ := y
  exact ⟨_, rfl⟩
theorem nod_one {v space nm : List UInt8} {al : List (List UInt8 × List UInt8)} (pad : List UInt8) : nodB (.mk (str v) (str nm) (bsA al) [] (str [])) (str space) pad = tagB nm [32] (tagA v space al) [] true := by
  rw [nodB]
  rw [if_pos (show (str []).size = 0 from rfl), bl_str, tagB, ← spD_ats, List.append_assoc]
  rfl
theorem nod_text {v space nm t : List UInt8} {al : List (List UInt8 × List UInt8)} (pad : List UInt8) (ht : t ≠ []) : nodB (.mk (str v) (str nm) (bsA al) [] (str t)) (str space) pad = tagB nm [32] (tagA v space al) [] false ++ (clL t ++ backB nm []) := by
  rw [nodB]
  rw [if_neg (by rw [str_size]; intro e; exact ht (List.eq_nil_of_length_eq_zero e)), bl_str, bl_str, tagB, ← spD_ats]
  simp [endB, backB]
theorem nod_kids {v space nm : List UInt8} {al : List (List UInt8 × List UInt8)} {ks : List Nod} (tx : ByteArray) (pad : List UInt8) (hk : ks ≠ []) : nodB (.mk (str v) (str nm) (bsA al) ks tx) (str space) pad = tagB nm [32] (tagA v space al) [] false ++ ([10] ++ (docL ks (str v) (pad ++ [32]) ++ (pad ++ backB nm []))) := by
  cases ks with
  | nil => exact absurd rfl hk
  | cons k ks =>
    rw [nodB]
    rw [bl_str, tagB, ← spD_ats]
    simp [endB, backB]
theorem go_text {s : ByteArray} {f : Nat} {sp nm tx : ByteArray} {at1 : List (ByteArray × ByteArray)} {ks : List Nod} {p q : Pc} {st st2 : P3} {R : List Bd} {d n : Nat} (h : nextR s st = (q, st2)) (he : st2.e = 0) (hq : q.kind = 4) :
    goT s (f + 1) (some ⟨sp, nm, at1, ks, tx⟩) p ⟨st, R, d, n⟩ = goT s f (some ⟨sp, nm, at1, ks, tx ++ q.text⟩) p ⟨st2, R, d, n⟩ := by
  rw [goT]
  simp only [h]
  rw [if_neg (by simp [he]), if_pos hq]
theorem go_kid {s : ByteArray} {f : Nat} {sp nm tx : ByteArray} {at1 : List (ByteArray × ByteArray)} {ks : List Nod} {p q : Pc} {st st2 : P3} {R : List Bd} {d n : Nat} {y : Nod} {r2 : Rs} (h : nextR s st = (q, st2)) (he : st2.e = 0) (hq : q.kind = 1 ∨ q.kind = 3) (hg : goT s f none q ⟨st2, R, d, n⟩ = (.ok y, r2)) :
    goT s (f + 1) (some ⟨sp, nm, at1, ks, tx⟩) p ⟨st, R, d, n⟩ = goT s f (some ⟨sp, nm, at1, ks ++ [y], tx⟩) p r2 := by
  rw [goT]
  simp only [h]
  rw [if_neg (by simp [he]), if_neg (by omega), if_pos hq, hg]
theorem go_end {s : ByteArray} {f : Nat} {sp nm tx : ByteArray} {at1 : List (ByteArray × ByteArray)} {ks : List Nod} {p q : Pc} {st st2 : P3} {R : List Bd} {d n : Nat} (h : nextR s st = (q, st2)) (he : st2.e = 0) (hq : q.kind = 2) (hn : q.name = p.name) (ht : ks = [] ∨ (trim tx).size = 0) :
    goT s (f + 1) (some ⟨sp, nm, at1, ks, tx⟩) p ⟨st, R, d, n⟩ = (.ok ⟨sp, nm, at1, ks, if ks ≠ [] then ByteArray.empty else trim tx⟩, ⟨st2, R, d, n⟩) := by
  rw [goT]
  simp only [h]
  rw [if_neg (by simp [he]), if_neg (by omega), if_neg (by omega), if_pos hq, if_neg (by rw [hn]; simp), if_neg (by rintro ⟨h1, h2⟩; rcases ht with e | e; exact h1 e; exact h2 e)]
/-- an element is read at its place -/
def ReadsN (s : ByteArray) (d : Nat) : Prop := ∀ (y : Nod) (space pad : List UInt8), Nice d y → Bl pad → ∀ (k f : Nat) (R : List Bd) (dep n : Nat), Lies s k (nodB y (str space) pad) → ofT R ByteArray.empty = (str space, true) → (∀ r ∈ R, r.2.2 ≤ dep) → R.length + d ≤ 100 → dep + d ≤ 32 → n + cnt y ≤ 2000 → 2 * (s.size - k) ≤ f →
  ∃ q st2, nextR s ⟨k, 0, 0⟩ = (q, st2) ∧ st2.e = 0 ∧ (q.kind = 1 ∨ q.kind = 3) ∧ goT s f none q ⟨st2, R, dep, n⟩ = (.ok y, ⟨⟨k + (nodB y (str space) pad).length, 0, 0⟩, R, dep, n + cnt y⟩)
theorem bl_cons {pad : List UInt8} (h : Bl pad) : Bl (10 :: pad) := by
  intro c hc
  rcases List.mem_cons.1 hc with rfl | hc
  · decide
  · exact h c hc
theorem bl_app {a b : List UInt8} (h : Bl a) (k : Bl b) : Bl (a ++ b) := by
  intro c hc
  rcases List.mem_append.1 hc with hc | hc
  · exact h c hc
  · exact k c hc
theorem kids_T {s : ByteArray} {d : Nat} (IH : ReadsN s d) {v nm : List UInt8} (hnm : Nl nm) {S N : ByteArray} {A : List (ByteArray × ByteArray)} {p : Pc} (hp : p.name = str nm) {pad : List UInt8} (hpad : Bl pad) :
    ∀ (ks ks0 : List Nod) (b : List UInt8) (k f : Nat) (R : List Bd) (dep n : Nat), (∀ y ∈ ks, Nice d y) → Bl b → ks0 ++ ks ≠ [] → Lies s k ([10] ++ (docL ks (str v) (pad ++ [32]) ++ (pad ++ backB nm []))) → ofT R ByteArray.empty = (str v, true) → (∀ r ∈ R, r.2.2 ≤ dep) → R.length + d ≤ 100 → dep + d ≤ 32 → n + cntL ks ≤ 2000 → 2 * (s.size - k) ≤ f →
    goT s f (some ⟨S, N, A, ks0, str b⟩) p ⟨⟨k, 0, 0⟩, R, dep, n⟩ = (.ok ⟨S, N, A, ks0 ++ ks, ByteArray.empty⟩, ⟨⟨k + ([10] ++ (docL ks (str v) (pad ++ [32]) ++ (pad ++ backB nm []))).length, 0, 0⟩, R, dep, n + cntL ks⟩)
  | [], ks0, b, k, f, R, dep, n, _, hb, hne, hL, ho, hR, hR1, hd, hn, hf => by
    have hL : Lies s k ((10 :: pad) ++ 60 :: (47 :: (nm ++ ([] ++ [62])))) := by simpa [docL, backB] using hL
    have hle := hL.le
    simp only [List.length_append, List.length_cons] at hle
    obtain ⟨f, rfl⟩ : ∃ f', f = f' + 1 + 1 := ⟨f - 2, by omega⟩
    have hB : Lies s (k + (10 :: pad).length) (backB nm []) := hL.right
    have h1 := next_bl (bl_cons hpad) (by simp) hL
    have h2 := next_back hnm.nm (be := []) (by intro c hc; cases hc) hB
    rw [go_text h1 rfl rfl, go_end h2 rfl rfl (by rw [hp]) (.inr (by rw [str_append]; exact trim_bl (bl_app hb (bl_cons hpad))))]
    rw [List.append_nil] at hne
    rw [if_pos hne, List.append_nil]
    have e : k + ([10] ++ (docL [] (str v) (pad ++ [32]) ++ (pad ++ backB nm []))).length = k + (10 :: pad).length + (backB nm []).length := by simp [docL]; omega
    rw [e]
    rfl
  | y :: ks, ks0, b, k, f, R, dep, n, hks, hb, hne, hL, ho, hR, hR1, hd, hn, hf => by
    have hpad' : Bl (pad ++ [32]) := bl_app hpad (by intro c hc; rw [List.mem_singleton] at hc; subst hc; decide)
    obtain ⟨r, hr⟩ := nodB_first y (str v) (pad ++ [32])
    have e1 : [10] ++ (docL (y :: ks) (str v) (pad ++ [32]) ++ (pad ++ backB nm [])) = (10 :: (pad ++ [32])) ++ (nodB y (str v) (pad ++ [32]) ++ ([10] ++ (docL ks (str v) (pad ++ [32]) ++ (pad ++ backB nm [])))) := by
      rw [docL, docN_nod]; simp
    rw [e1] at hL
    have hle := hL.le
    rw [hr] at hle
    simp only [List.length_append, List.length_cons] at hle
    obtain ⟨f, rfl⟩ : ∃ f', f = f' + 1 + 1 := ⟨f - 2, by omega⟩
    have h1 := next_bl (bl_cons hpad') (by simp) (show Lies s k ((10 :: (pad ++ [32])) ++ 60 :: (r ++ ([10] ++ (docL ks (str v) (pad ++ [32]) ++ (pad ++ backB nm []))))) by rw [hr] at hL; exact hL)
    have hB : Lies s (k + (10 :: (pad ++ [32])).length) (nodB y (str v) (pad ++ [32]) ++ ([10] ++ (docL ks (str v) (pad ++ [32]) ++ (pad ++ backB nm [])))) := hL.right
    have hc : cntL (y :: ks) = cnt y + cntL ks := by rw [cntL]
    rw [hc] at hn
    obtain ⟨q, st2, g1, g2, g3, g4⟩ := IH y v (pad ++ [32]) (hks y List.mem_cons_self) hpad' (k + (10 :: (pad ++ [32])).length) f R dep n hB.left ho hR hR1 hd (by omega) (by simp only [List.length_cons, List.length_append] at *; omega)
    have hC := hB.right
    have ih := kids_T IH (v := v) hnm (S := S) (N := N) (A := A) hp hpad ks (ks0 ++ [y]) (b ++ 10 :: (pad ++ [32])) _ f R dep (n + cnt y) (fun z hz => hks z (List.mem_cons_of_mem _ hz)) (bl_app hb (bl_cons hpad')) (by simp) hC ho hR hR1 hd (by omega) (by simp only [List.length_cons, List.length_append] at *; omega)
    rw [go_text h1 rfl rfl, go_kid g1 g2 g3 g4, str_append, ih, e1, hc]
    simp only [List.length_append, List.length_cons, List.append_assoc, List.singleton_append, Nat.add_assoc]
theorem node_T (s : ByteArray) : ∀ d, ReadsN s d
  | 0 => fun y _ _ h => by cases h
  | d + 1 => by
    rintro ⟨sp, nm, l, ks, tx⟩ space pad h hpad k f R dep n hL ho hR hR1 hd hn hf
    obtain ⟨⟨v, hv, rfl⟩, ⟨nm, rfl, hnm, hn7⟩, ⟨al, rfl, ha⟩, hk3, hks, ⟨t, rfl, ht, ht12, htt⟩, htx⟩ := h
    obtain ⟨hat, ha16⟩ := tagA_ok (space := space) hv ha
    have hbs : Bl [32] := by intro c hc; rw [List.mem_singleton] at hc; subst hc; decide
    have hbe : Bl [] := by intro c hc; cases hc
    have hRb : ∀ r ∈ bindR v space (dep + 1) R, r.2.2 ≤ dep + 1 := by
      intro r hr
      unfold bindR at hr
      split at hr
      · have := hR r hr; omega
      · rcases List.mem_cons.1 hr with rfl | hr
        · exact Nat.le_refl _
        · have := hR r hr; omega
    have hRl : (bindR v space (dep + 1) R).length ≤ R.length + 1 := by
      unfold bindR
      split
      · omega
      · simp
    have hlv := leave_bind (sp := v) (space := space) hR
    have hc : cnt (.mk (str v) (str nm) (bsA al) ks (str t)) = 1 + cntL ks := rfl
    rw [hc] at hn ⊢
    by_cases h0 : ks = []
    · subst h0
      have hc0 : cntL [] = 0 := rfl
      rw [hc0] at hn ⊢
      by_cases ht0 : t = []
      · subst ht0
        rw [nod_one] at hL ⊢
        have hle := hL.le
        have htg := next_tag hnm.nm hbs (by simp) hbe (fun _ => rfl) hat ha16 hL
        have hb := begin_tag (p := ⟨3, str nm, bsA (tagA v space al), ByteArray.empty, k⟩) hnm ha (R := R) (d := dep) (n := n) (by omega) (by omega) (by omega) ho rfl rfl
        obtain ⟨f, rfl⟩ : ∃ f', f = f' + 1 := ⟨f - 1, by simp [tagB] at hle; omega⟩
        refine ⟨_, _, htg, rfl, .inr rfl, ?_⟩
        rw [goT]
        simp only [if_true, hb]
        rw [leaveR, hlv]
        rfl
      · rw [nod_text pad ht0] at hL ⊢
        have hle := hL.le
        have htg := next_tag hnm.nm hbs (by simp) hbe (fun e => by cases e) hat ha16 hL.left
        have hb := begin_tag (p := ⟨1, str nm, bsA (tagA v space al), ByteArray.empty, k⟩) hnm ha (R := R) (d := dep) (n := n) (by omega) (by omega) (by omega) ho rfl rfl
        have hT := hL.right
        have hB := hT.right
        have g1 := next_text ht ht0 hT.left (.inr ⟨Lies.hd (l := 47 :: (nm ++ ([] ++ [62]))) hB, Lies.lt (l := 47 :: (nm ++ ([] ++ [62]))) hB⟩)
        have g2 := next_back hnm.nm hbe hB
        obtain ⟨f, rfl⟩ : ∃ f', f = f' + 1 + 1 + 1 := ⟨f - 3, by simp [tagB, endB, backB] at hle; omega⟩
        refine ⟨_, _, htg, rfl, .inl rfl, ?_⟩
        rw [goT]
        simp only [Bool.false_eq_true, if_false, hb]
        rw [if_neg (by decide), go_text g1 rfl rfl, go_end (p := ⟨1, str nm, bsA (tagA v space al), ByteArray.empty, k⟩) g2 rfl rfl rfl (.inl rfl)]
        simp only
        rw [leaveR]
        simp only
        rw [hlv, if_neg (by simp)]
        have e : ByteArray.empty ++ str t = str t := by rw [show ByteArray.empty = str [] from rfl, str_append]; rfl
        rw [e, htt]
        simp only [List.length_append, Nat.add_assoc]
        rfl
    · have htE := htx h0
      rw [nod_kids _ pad h0] at hL ⊢
      have hle := hL.le
      have htg := next_tag hnm.nm hbs (by simp) hbe (fun e => by cases e) hat ha16 hL.left
      have hb := begin_tag (p := ⟨1, str nm, bsA (tagA v space al), ByteArray.empty, k⟩) hnm ha (R := R) (d := dep) (n := n) (by omega) (by omega) (by omega) ho rfl rfl
      obtain ⟨f, rfl⟩ : ∃ f', f = f' + 1 := ⟨f - 1, by simp [tagB] at hle; omega⟩
      have hk := kids_T (node_T s d) (v := v) hnm (S := str v) (N := str nm) (A := bsA al) (p := ⟨1, str nm, bsA (tagA v space al), ByteArray.empty, k⟩) rfl hpad ks [] [] _ f _ (dep + 1) (n + 1) hks hbe (by simpa using h0) hL.right (of_bind ho) hRb (by omega) (by omega) (by omega) (by simp [tagB] at hle ⊢; omega)
      refine ⟨_, _, htg, rfl, .inl rfl, ?_⟩
      rw [goT]
      simp only [Bool.false_eq_true, if_false, hb]
      rw [show str [] = ByteArray.empty from rfl] at hk
      rw [if_neg (by decide), hk]
      simp only
      rw [leaveR]
      simp only
      rw [hlv, htE]
      simp only [List.length_append, Nat.add_assoc]
      rfl
end Xm
end Go.Proofs.YtfkdjdmbgednkaaDoor
