/- An element that was read may be written, and its document is read as it, if it has no more attributes than may be. No program. -/
/- The document of an element that was read is read again as it. No program. -/
/- The texts of an element are no longer than its document. No program. -/
import Derived.Test.YtdpkhmfolmcejaaGreatDoorMInv
import Derived.Test.YtdpkhmfolmcejaaGreatDoorWBack
namespace Go.Proofs.YtdpkhmfolmcejaaGreatDoor
namespace Xm
mutual
/-- the most attributes that an element has, of it and those within it -/
def mxA : Nod → Nat
  | .mk _ _ l ks _ => max l.length (mxL ks)
def mxL : List Nod → Nat
  | [] => 0
  | y :: ys => max (mxA y) (mxL ys)
end
theorem mxL_mem : ∀ {ks : List Nod} {y : Nod}, y ∈ ks → mxA y ≤ mxL ks
  | x :: ks, y, h => by
    rw [mxL]
    rcases List.mem_cons.1 h with rfl | h
    · omega
    · have := mxL_mem h; omega
theorem depL_mem : ∀ {ks : List Nod} {y : Nod}, y ∈ ks → dep y ≤ depL ks
  | x :: ks, y, h => by
    rw [depL]
    rcases List.mem_cons.1 h with rfl | h
    · omega
    · have := depL_mem h; omega
theorem parts_part {s : ByteArray} : ∀ (d k : Nat), s.size - k = d → parts s k = true → ∀ i, k ≤ i → i < s.size → part (bt s i) = true := by
  intro d
  induction d with
  | zero => intro k hd _ i h1 h2; omega
  | succ d ih =>
    intro k hd h i h1 h2
    rw [parts, if_pos (by omega)] at h
    simp only [Bool.and_eq_true] at h
    by_cases e : i = k
    · rw [e]; exact h.1
    · exact ih (k + 1) (by omega) h.2 i (by omega) h2
theorem name_gn {s : ByteArray} (h : name s = true) : Gn (bl s) := by
  refine ⟨fun c hc => ?_, h⟩
  obtain ⟨i, hi, rfl⟩ := List.mem_iff_getElem.1 hc
  rw [bl_len] at hi
  have hp : parts s 0 = true := by
    unfold name at h
    simp only [Bool.and_eq_true] at h
    exact h.2
  have := parts_part _ 0 rfl hp i (Nat.zero_le _) hi
  rw [← bt_eq hi] at this
  exact this
theorem name_pos {s : ByteArray} (h : name s = true) : s.size ≠ 0 ∧ s.size ≤ 60 ∧ bad s 0 < 0 := by
  unfold name at h
  simp only [Bool.and_eq_true, decide_eq_true_eq] at h
  exact ⟨h.1.1.1.1, h.1.1.1.2, h.1.2⟩
theorem bsA_bl (l : List (ByteArray × ByteArray)) : l = bsA (l.map fun a => (bl a.1, bl a.2)) := by
  unfold bsA
  rw [List.map_map]
  exact (List.map_id l).symm
theorem atR_ga {l : List (ByteArray × ByteArray)} (h : AtR l) (hl : l.length ≤ 15) : GA (l.map fun a => (bl a.1, bl a.2)) := by
  refine ⟨fun a ha => ?_, ?_, by simpa using hl⟩
  · obtain ⟨b, hb, rfl⟩ := List.mem_map.1 ha
    obtain ⟨h1, h2, h3⟩ := h.1 b hb
    exact ⟨name_gn h1, fun e => h2 (by rw [ByteArray.toList_eq]; exact e), lt_vt h3⟩
  · rw [List.map_map]
    have : ((fun a : List UInt8 × List UInt8 => a.1) ∘ fun a : ByteArray × ByteArray => (bl a.1, bl a.2)) = fun a => bl a.1 := rfl
    rw [this]
    have h2 := h.2.1
    rw [show (fun a : ByteArray × ByteArray => bl a.1) = bl ∘ (·.1) from rfl, ← List.map_map]
    refine List.Pairwise.map bl (fun a b hab e => hab ?_) h2
    rw [← str_bl a, ← str_bl b, e]
theorem ndI_wr {y : Nod} (h : NdI y) : ∀ d, dep y ≤ d → mxA y ≤ 15 → Wr d y := by
  induction h with
  | mk sp nm tx l ks h1 h2 h3 h4 h5 h6 h7 ih =>
    intro d hd hm
    rw [dep] at hd
    rw [mxA] at hm
    obtain ⟨d, rfl⟩ : ∃ d', d = d' + 1 := ⟨d - 1, by omega⟩
    refine ⟨⟨bl sp, lt_vt h1, rfl⟩, ⟨bl nm, rfl, name_gn h2⟩, ⟨_, bsA_bl l, atR_ga h3 (by omega)⟩, fun y hy => ih y hy d (by have := depL_mem hy; omega) (by have := mxL_mem hy; omega), ⟨bl tx, rfl, lt_vt h5, h6⟩, h7⟩
theorem tx_neg {v : ByteArray} (h : Tx v) : decide (0 ≤ text v 0) = false := text_nn (v := bl v) h
theorem atR_atts : ∀ (r a : List (ByteArray × ByteArray)), AtR (a ++ r) → attsB a r = true
  | [], _, _ => rfl
  | x :: r, a, h => by
    have hx := h.1 x (by simp)
    have hb : badA x = false := by
      unfold badA
      rw [hx.1, tx_neg hx.2.2]
      have : (x.1.toList == xmlns) = false := by simpa using hx.2.1
      rw [this]
      rfl
    have hany : a.any (named1 x.1) = false := by
      rw [List.any_eq_false]
      intro y hy
      have hnd := h.2.1
      rw [List.map_append, List.nodup_append] at hnd
      have hne := hnd.2.2 y.1 (List.mem_map.2 ⟨y, hy, rfl⟩) x.1 (List.mem_map.2 ⟨x, by simp, rfl⟩)
      unfold named1
      intro e
      have e : y.1.toList = x.1.toList := by simpa using e
      rw [ByteArray.toList_eq, ByteArray.toList_eq] at e
      apply hne
      rw [← str_bl y.1, ← str_bl x.1]
      show str y.1.data.toList = str x.1.data.toList
      rw [e]
    rw [attsB, hb, hany, atR_atts r (a ++ [x]) (by rw [List.append_assoc]; exact h)]
    rfl
theorem ndI_all {y : Nod} (h : NdI y) : mxA y ≤ 15 → allB y = true := by
  induction h with
  | mk sp nm tx l ks h1 h2 h3 h4 h5 h6 h7 ih =>
    intro hm
    rw [mxA] at hm
    rw [allB, nodeB, bad1, h2, tx_neg h1, tx_neg h5, h6, atR_atts l [] h3, allL_all ks fun y hy => ih y hy (by have := mxL_mem hy; omega)]
    have hb2 : bad2 l ks.length tx = false := by
      unfold bad2
      have hl : decide (15 < l.length) = false := by simp; omega
      rw [hl, Bool.or_false]
      by_cases e : ks = []
      · subst e; rfl
      · rw [h7 e]; simp
    rw [hb2]
    simp
/-- bytes of whole letters -/
def Ut (v : List UInt8) : Prop := ∃ L : List Int, (∀ r ∈ L, size r ≠ 0) ∧ v = cat L
end Xm
end Go.Proofs.YtdpkhmfolmcejaaGreatDoor
namespace Go.Proofs.YtdpkhmfolmcejaaGreatDoor
namespace Xm
theorem Ut.nil : Ut [] := ⟨[], fun r h => by simp at h, rfl⟩
theorem Ut.append {a b : List UInt8} (h : Ut a) (k : Ut b) : Ut (a ++ b) := by
  obtain ⟨L, h1, h2⟩ := h
  obtain ⟨M, k1, k2⟩ := k
  refine ⟨L ++ M, fun r hr => ?_, by rw [h2, k2]; simp [cat]⟩
  rcases List.mem_append.1 hr with hr | hr
  · exact h1 r hr
  · exact k1 r hr
theorem Lt.ut {v : List UInt8} (h : Lt v) : Ut v := by
  obtain ⟨L, h1, h2⟩ := h
  exact ⟨L, fun r hr => (h1 r hr).1, h2⟩
theorem bad_letters (s : ByteArray) : ∀ (d k : Nat), s.size - k = d → k ≤ s.size → bad s k < 0 → ∃ L : List Int, (∀ r ∈ L, size r ≠ 0) ∧ s.data.toList.drop k = cat L := by
  intro d
  induction d using Nat.strongRecOn with
  | _ d ih =>
    intro k hd hk ht
    rw [bad] at ht
    by_cases hlt : k < s.size
    · rw [dif_pos hlt] at ht
      by_cases h0 : getN s k = 0
      · rw [dif_pos h0] at ht; omega
      · rw [dif_neg h0] at ht
        obtain ⟨h1, h2, h3⟩ := get_put hlt h0
        have hbd := getN_bd s k
        obtain ⟨L, hL, he⟩ := ih _ (by omega) (k + (getN s k).toNat) rfl h3 ht
        refine ⟨getR s k :: L, fun r hr => ?_, ?_⟩
        · rcases List.mem_cons.1 hr with rfl | hr
          · rw [h2]; exact h0
          · exact hL r hr
        · have e : cat (getR s k :: L) = put (getR s k) ++ cat L := by simp [cat]
          rw [e, ← h1, ← he, ← List.drop_drop, List.take_append_drop]
    · refine ⟨[], by simp, ?_⟩
      rw [List.drop_eq_nil_of_le (by have : s.data.toList.length = s.size := by rw [Array.length_toList]; rfl
                                     omega)]
      rfl
theorem name_ut {s : ByteArray} (h : name s = true) : Ut (bl s) := by
  obtain ⟨L, h1, h2⟩ := bad_letters s _ 0 rfl (Nat.zero_le _) (name_pos h).2.2
  exact ⟨L, h1, by rw [List.drop_zero] at h2; exact h2⟩
theorem Ut.bad {v : List UInt8} (h : Ut v) : bad (str v) 0 = -1 := by
  obtain ⟨L, hL, rfl⟩ := h
  have key : ∀ (B A : List Int), (∀ r ∈ B, size r ≠ 0) → Xm.bad (str (cat (A ++ B))) (cat A).length = -1 := by
    intro B
    induction B with
    | nil =>
      intro A _
      rw [List.append_nil, Xm.bad, dif_neg (by rw [str_size]; omega)]
    | cons r B ih =>
      intro A hB
      have hr := hB r List.mem_cons_self
      have e : cat (A ++ r :: B) = cat A ++ put r ++ cat B := by simp [cat]
      have hg := got (cat A) (cat B) hr
      rw [← e] at hg
      have hps := put_size r
      rw [Xm.bad, dif_pos (by rw [str_size, e, List.length_append, List.length_append]; have : 0 < (put r).length := by rcases Nat.eq_zero_or_pos (put r).length with h0 | h0; exact absurd (by rw [← hps, h0]; rfl) hr; exact h0
                              omega), dif_neg (by rw [hg.1]; exact hr), hg.1]
      have h2 := ih (A ++ [r]) (fun z hz => hB z (List.mem_cons_of_mem _ hz))
      have e2 : (cat (A ++ [r])).length = (cat A).length + (size r).toNat := by
        have : cat (A ++ [r]) = cat A ++ put r := by simp [cat]
        rw [this, List.length_append]
        omega
      rw [e2, List.append_assoc] at h2
      exact h2
  have := key L [] hL
  simpa [cat] using this
theorem Tx.close {v : ByteArray} (h : Tx v) : Ut (clL (bl v)) := ((lt_vt h).close).ut
theorem lit_ut {l : List UInt8} (h : l.all (fun c => decide (32 ≤ c.toNat) && decide (c.toNat < 127) || c == 9 || c == 10 || c == 13) = true) : Ut l := (lt_lit h).ut
theorem Ut.cons {c : UInt8} {l : List UInt8} (h : Ut l) (hc : Ut [c]) : Ut (c :: l) := Ut.append (a := [c]) hc h
theorem atD_ut : ∀ (l : List (ByteArray × ByteArray)), (∀ a ∈ l, name a.1 = true ∧ Tx a.2) → Ut (atD l)
  | [], _ => Ut.nil
  | a :: l, h => by
    have ih := atD_ut l fun b hb => h b (List.mem_cons_of_mem _ hb)
    have ha := h a List.mem_cons_self
    have e : atD (a :: l) = (32 :: (bl a.1 ++ ([61, 34] ++ (clL (bl a.2) ++ [34])))) ++ atD l := by simp [atD]
    rw [e]
    exact (((name_ut ha.1).append ((lit_ut (by decide)).append (ha.2.close.append (lit_ut (by decide))))).cons (lit_ut (by decide))).append ih
theorem spD_ut {sp : ByteArray} (h : Tx sp) (space : ByteArray) : Ut (spD sp space) := by
  unfold spD
  split
  · exact Ut.nil
  · exact (lit_ut (by decide)).append (h.close.append (lit_ut (by decide)))
theorem docN_ut {y : Nod} (h : NdI y) : ∀ (space : ByteArray) (pad : List UInt8), Ut pad → Ut (docN y space pad) := by
  induction h with
  | mk sp nm tx l ks h1 h2 h3 h4 h5 h6 h7 ih =>
    intro space pad hp
    have hh : Ut (headD sp nm l space pad) := by
      unfold headD
      exact hp.append (((name_ut h2).append ((spD_ut h1 space).append (atD_ut l fun a ha => ⟨(h3.1 a ha).1, (h3.1 a ha).2.2⟩))).cons (lit_ut (by decide)))
    have hb : Ut ([60, 47] ++ (bl nm ++ [62, 10])) := (lit_ut (by decide)).append ((name_ut h2).append (lit_ut (by decide)))
    by_cases h0 : ks = []
    · subst h0
      rw [docN_nil]
      refine hh.append ?_
      split
      · exact lit_ut (by decide)
      · exact (h5.close.append hb).cons (lit_ut (by decide))
    · rw [docN_kids _ _ _ _ _ _ _ h0]
      have hall : ∀ (ys : List Nod), (∀ y ∈ ys, y ∈ ks) → Ut (docL ys sp (pad ++ [32])) := by
        intro ys
        induction ys with
        | nil => intro _; exact Ut.nil
        | cons y ys ihy =>
          intro hy
          rw [docL]
          exact (ih y (hy y List.mem_cons_self) sp (pad ++ [32]) (hp.append (lit_ut (by decide)))).append (ihy fun z hz => hy z (List.mem_cons_of_mem _ hz))
      exact hh.append ((lit_ut (by decide)).append ((hall ks fun y h => h).append (hp.append hb)))
theorem docN_newW {y : Nod} (h : NdI y) (hl : (docN y ByteArray.empty []).length ≤ 200000) : newT (str (docN y ByteArray.empty [])) = ⟨0, 0, 0⟩ := by
  unfold newT
  rw [if_neg (by rw [str_size]; omega), if_neg (by rw [(docN_ut h _ _ Ut.nil).bad]; decide)]
/-- an element's document is read as the element -/
theorem docN_parseW {y : Nod} (hy : NdI y) (hm : mxA y ≤ 15) (hd32 : dep y ≤ 32) (hc : cnt y ≤ 2000) : parseT (str (docN y ByteArray.empty [])) = .ok y := by
  obtain ⟨s, hs⟩ : ∃ s, s = str (docN y ByteArray.empty []) := ⟨_, rfl⟩
  rw [← hs]
  have hz : s.size = (docN y ByteArray.empty []).length := by rw [hs, str_size]
  have hL : Lies s 0 (docN y ByteArray.empty []) := Lies.of (A := []) (B := []) (by rw [hs]; simp [str]) rfl
  have e : docN y ByteArray.empty [] = nodB y ByteArray.empty [] ++ [10] := by rw [docN_nod]; simp
  have hlen : s.size = (nodB y ByteArray.empty []).length + 1 := by rw [hz, e]; simp
  rw [e] at hL
  have L4 := hL.right
  obtain ⟨q, st2, g1, g2, g3, g4⟩ := node_TW s (dep y) y [] [] (ndI_wr hy _ (Nat.le_refl _) hm) (by intro c hc; cases hc) 0 (2 * s.size + 2) newB 0 0 hL.left (by kernel_rfl) (by intro r hr; simp [newB, xmlB] at hr; rcases hr with rfl | rfl <;> exact Nat.le_refl _) (by show 2 + dep y ≤ 100; omega) (by omega) (by omega) (by omega)
  rw [show str [] = ByteArray.empty from rfl] at g4
  have h4 : nextR s ⟨0 + (nodB y ByteArray.empty []).length, 0, 0⟩ = (⟨4, ByteArray.empty, [], str [10], (0 + (nodB y ByteArray.empty []).length : Nat)⟩, ⟨0 + (nodB y ByteArray.empty []).length + 1, 0, 0⟩) :=
    next_run ((bl_one (by decide)).no (by decide)) (by simp) (openT_bl (bl_one (by decide))) L4 (.inl (by rw [hlen]; simp))
  have h5 : nextR s ⟨0 + (nodB y ByteArray.empty []).length + 1, 0, 0⟩ = (Pc.zero, ⟨s.size, 0, 0⟩) := by
    rw [show 0 + (nodB y ByteArray.empty []).length + 1 = s.size by omega]
    exact next_eof _
  unfold parseT r0
  obtain ⟨f, hf⟩ : ∃ f, s.size + 1 = f + 1 + 1 + 1 := by
    obtain ⟨r, hr⟩ := nodB_first y ByteArray.empty []
    have : 1 ≤ (nodB y ByteArray.empty []).length := by rw [hr]; simp
    exact ⟨s.size - 2, by omega⟩
  rw [hf, doc_kid g1 g2 g3 g4, doc_text h4 rfl rfl (trim_bl (bl_one (by decide))), doc_end h5 rfl rfl]
end Xm
end Go.Proofs.YtdpkhmfolmcejaaGreatDoor
namespace Go.Proofs.YtdpkhmfolmcejaaGreatDoor
namespace Xm
theorem atD_mem : ∀ (l : List (ByteArray × ByteArray)) (a : ByteArray × ByteArray), a ∈ l → a.1.size ≤ (atD l).length ∧ a.2.size ≤ (atD l).length
  | b :: l, a, h => by
    have e : atD (b :: l) = (32 :: (bl b.1 ++ ([61, 34] ++ (clL (bl b.2) ++ [34])))) ++ atD l := by simp [atD]
    have hc := clL_ge (bl b.2)
    rw [bl_len] at hc
    rw [e]
    simp only [List.length_append, List.length_cons, List.length_nil, bl_len]
    rcases List.mem_cons.1 h with rfl | h
    · omega
    · have := atD_mem l a h
      omega
theorem docL_szd {M : Nat} {sp : ByteArray} (hs : sp.size ≤ M) : ∀ (ks : List Nod), (∀ y ∈ ks, ∀ (space : ByteArray) (pad : List UInt8), (docN y space pad).length ≤ M → space.size ≤ M → Szd y) → ∀ pad, (docL ks sp pad).length ≤ M → SzdL ks
  | [], _, _, _ => trivial
  | y :: ys, h, pad, hl => by
    rw [docL, List.length_append] at hl
    exact ⟨h y List.mem_cons_self sp pad (by omega) hs, docL_szd hs ys (fun z hz => h z (List.mem_cons_of_mem _ hz)) pad (by omega)⟩
theorem docN_szd {M : Nat} (hM : M ≤ 1000000000) {y : Nod} (hy : NdI y) : ∀ (space : ByteArray) (pad : List UInt8), (docN y space pad).length ≤ M → space.size ≤ M → Szd y := by
  induction hy with
  | mk sp nm tx l ks g1 g2 g3 g4 g5 g6 g7 ih =>
    intro space pad h hs
    have hsp : (headD sp nm l space pad).length ≤ M → sp.size ≤ M ∧ nm.size ≤ M ∧ ∀ a ∈ l, a.1.size ≤ M ∧ a.2.size ≤ M := fun hh => by
      unfold headD at hh
      simp only [List.length_append, List.length_cons, bl_len] at hh
      refine ⟨?_, by omega, fun a ha => by have := atD_mem l a ha; omega⟩
      by_cases e : sp = space
      · rw [e]; exact hs
      · have : spD sp space = [32, 120, 109, 108, 110, 115, 61, 34] ++ (clL (bl sp) ++ [34]) := by simp [spD, e]
        rw [this] at hh
        have hc := clL_ge (bl sp)
        rw [bl_len] at hc
        simp only [List.length_append, List.length_cons] at hh
        omega
    by_cases hk : ks = []
    · subst hk
      rw [docN_nil, List.length_append] at h
      obtain ⟨h1, h2, h3⟩ := hsp (by omega)
      refine ⟨by omega, by omega, ?_, fun a ha => by have := h3 a ha; omega, trivial⟩
      split at h
      · omega
      · have hc := clL_ge (bl tx)
        rw [bl_len] at hc
        simp only [List.length_append, List.length_cons] at h
        omega
    · rw [docN_kids _ _ _ _ _ _ _ hk, List.length_append, List.length_append, List.length_append] at h
      obtain ⟨h1, h2, h3⟩ := hsp (by omega)
      refine ⟨by omega, by omega, by rw [g7 hk]; exact Nat.zero_le _, fun a ha => by have := h3 a ha; omega, docL_szd h1 ks ih (pad ++ [32]) (by omega)⟩
end Xm
end Go.Proofs.YtdpkhmfolmcejaaGreatDoor
