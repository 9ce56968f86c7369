/- Elements that may be written, whatever their names and texts: their documents are read back as they. No program. -/
/- A text without a letter that may not stand in it is letters. No program. -/
/- What is opened of letters is letters. No program. -/
/- What is read of a text: names are names, texts are texts, attributes each once. No program. -/
import Derived.Test.YtdpkhmfolmcejaaGreatDoorMBack
import Derived.Test.YtdpkhmfolmcejaaGreatDoorMRn
import Derived.Test.YtdpkhmfolmcejaaGreatDoorMTr
import Derived.Test.YtdpkhmfolmcejaaGreatDoorWMayP
namespace Go.Proofs.YtdpkhmfolmcejaaGreatDoor
namespace Xm
/-- a name -/
def Gn (l : List UInt8) : Prop := (∀ c ∈ l, part (c.toNat : Int) = true) ∧ name (str l) = true
theorem Gn.ne {l : List UInt8} (h : Gn l) : ∀ c ∈ l, c ≠ 58 := fun c hc e => by
  have := h.1 c hc
  rw [e] at this
  exact absurd this (by decide +kernel)
theorem Gn.split {l : List UInt8} (h : Gn l) : split (str l) = (ByteArray.empty, str l, true) := by
  have hc : col (str l) 0 = (str l).size := col_none (fun k hk => by
    rw [str_size] at hk
    rw [bt_str, List.getD_eq_getElem?_getD, List.getElem?_eq_getElem hk, Option.getD_some]
    intro e
    exact h.ne _ (List.getElem_mem hk) (u8_eq e)) _ 0 rfl (Nat.zero_le _)
  unfold Xm.split
  rw [hc, if_neg (Nat.lt_irrefl _), h.2]
theorem Gn.nm {l : List UInt8} (h : Gn l) : Nm l := ⟨fun c hc => .inl (h.1 c hc), by rw [h.split]⟩
/-- attributes that may be written -/
def GA (al : List (List UInt8 × List UInt8)) : Prop := (∀ a ∈ al, Gn a.1 ∧ a.1 ≠ xmB ∧ Vt a.2) ∧ (al.map (·.1)).Nodup ∧ al.length ≤ 15
/-- an element that may be written, so deep -/
def Wr : Nat → Nod → Prop
  | 0, _ => False
  | d + 1, .mk sp nm l ks tx => (∃ v, Vt v ∧ sp = str v) ∧ (∃ n, nm = str n ∧ Gn n) ∧ (∃ al, l = bsA al ∧ GA al) ∧ (∀ y ∈ ks, Wr d y) ∧ (∃ t, tx = str t ∧ Vt t ∧ trim (str t) = str t) ∧ (ks ≠ [] → tx = ByteArray.empty)
theorem tell_noW {l : List UInt8} (h : Gn l) (hx : l ≠ xmB) : (tellP (str l)).2 = false := by
  unfold tellP
  rw [if_neg (by rw [ByteArray.toList_eq, beq_iff_eq]; exact fun e => hx e)]
  show Lib.hasPrefix l [120, 109, 108, 110, 115, 58] = false
  cases hp : Lib.hasPrefix l [120, 109, 108, 110, 115, 58] with
  | false => rfl
  | true =>
    exfalso
    have h58 : (58 : UInt8) ∈ l := by
      have hq : [120, 109, 108, 110, 115, 58] <+: l := by
        simpa [Lib.hasPrefix] using hp
      exact hq.subset (by simp)
    exact h.ne 58 h58 rfl
theorem tagA_okW {sp space : List UInt8} {al : List (List UInt8 × List UInt8)} (hs : Vt sp) (ha : GA al) : AtOk (tagA sp space al) ∧ (tagA sp space al).length ≤ 16 := by
  have h1 : ∀ a ∈ al, Nm a.1 ∧ Vt a.2 := fun a h => ⟨(ha.1 a h).1.nm, (ha.1 a h).2.2⟩
  have h3 := ha.2.2
  unfold tagA
  split
  · exact ⟨⟨h1, ha.2.1⟩, by omega⟩
  · refine ⟨⟨fun a h => ?_, ?_⟩, by simp; omega⟩
    · rcases List.mem_cons.1 h with rfl | h
      · exact ⟨xm_nm, hs⟩
      · exact h1 a h
    · rw [List.map_cons, List.nodup_cons]
      refine ⟨fun hm => ?_, ha.2.1⟩
      obtain ⟨a, ha2, he⟩ := List.mem_map.1 hm
      exact (ha.1 a ha2).2.1 he
theorem enter_noW (d : Nat) (R : List Bd) : ∀ (l : List (List UInt8 × List UInt8)) (o : List (ByteArray × ByteArray)), (∀ a ∈ l, Gn a.1 ∧ a.1 ≠ xmB) → enterL d (bsA l) o R = (R, 0, o ++ bsA l)
  | [], o, _ => by simp [bsA, enterL]
  | a :: l, o, h => by
    have e : bsA (a :: l) = (str a.1, str a.2) :: bsA l := rfl
    rw [e, enterL, if_neg (by rw [tell_noW (h a List.mem_cons_self).1 (h a List.mem_cons_self).2]; simp), enter_noW d R l _ (fun b hb => h b (List.mem_cons_of_mem _ hb))]
    simp
theorem enter_tagW {sp space : List UInt8} {al : List (List UInt8 × List UInt8)} (ha : GA al) (d : Nat) (R : List Bd) (hR : R.length < 100) : enterL d (bsA (tagA sp space al)) [] R = (bindR sp space d R, 0, bsA al) := by
  have hn : ∀ a ∈ al, Gn a.1 ∧ a.1 ≠ xmB := fun a h => ⟨(ha.1 a h).1, (ha.1 a h).2.1⟩
  unfold tagA bindR
  split
  · rw [enter_noW d R al [] hn]; rfl
  · have e : bsA ((xmB, sp) :: al) = (str xmB, str sp) :: bsA al := rfl
    have t : tellP (str xmB) = (ByteArray.empty, true) := by kernel_rfl
    have st : stopB ByteArray.empty (str sp) = false := by
      unfold stopB
      rw [show (ByteArray.empty.toList == [120, 109, 108]) = false by kernel_rfl, show (ByteArray.empty.toList == [120, 109, 108, 110, 115]) = false by kernel_rfl, show ByteArray.empty.toList.isEmpty = true by kernel_rfl]
      rfl
    rw [e, enterL]
    simp only [t, st]
    rw [if_pos trivial, if_neg (by simp), if_neg (by omega), enter_noW d _ al [] hn]
    rfl
theorem begin_tagW {sp space nm : List UInt8} {al : List (List UInt8 × List UInt8)} {p : Pc} (hn : Gn nm) (ha : GA al) {R : List Bd} {d n : Nat} (hR : R.length < 100) (hd : d < 32) (hc : n < 2000) (ho : ofT R ByteArray.empty = (str space, true)) (hp : p.name = str nm) (hpa : p.attrs = bsA (tagA sp space al)) :
    beginT p R d n = (.ok (str sp, str nm, bsA al), bindR sp space (d + 1) R, d + 1, n + 1) := by
  have he := enter_tagW (sp := sp) (space := space) ha (d + 1) R hR
  have hN : nameP (bindR sp space (d + 1) R) (str nm) = (str sp, str nm, true) := by
    unfold nameP
    rw [hn.split]
    simp only
    rw [of_bind ho]
    rfl
  have hall : (bsA al).all (fun a => name a.1) = true := by
    rw [List.all_eq_true]
    intro x hx
    unfold bsA at hx
    obtain ⟨a, h1, rfl⟩ := List.mem_map.1 hx
    exact (ha.1 a h1).1.2
  unfold beginT
  rw [if_neg (by omega), if_neg (by omega), hpa, he, hp]
  simp only
  rw [if_neg (by simp), hN]
  simp only
  rw [if_neg (by simp), hall, if_neg (by simp)]
/-- an element is read at its place -/
def ReadsW (s : ByteArray) (d : Nat) : Prop := ∀ (y : Nod) (space pad : List UInt8), Wr d y → Bl pad → ∀ (k f : Nat) (R : List Bd) (dep n : Nat), Lies s k (nodB y (str space) pad) → ofT R ByteArray.empty = (str space, true) → (∀ r ∈ R, r.2.2 ≤ dep) → R.length + d ≤ 100 → dep + d ≤ 32 → n + cnt y ≤ 2000 → 2 * (s.size - k) ≤ f →
  ∃ q st2, nextR s ⟨k, 0, 0⟩ = (q, st2) ∧ st2.e = 0 ∧ (q.kind = 1 ∨ q.kind = 3) ∧ goT s f none q ⟨st2, R, dep, n⟩ = (.ok y, ⟨⟨k + (nodB y (str space) pad).length, 0, 0⟩, R, dep, n + cnt y⟩)
theorem kids_TW {s : ByteArray} {d : Nat} (IH : ReadsW s d) {v nm : List UInt8} (hnm : Gn nm) {S N : ByteArray} {A : List (ByteArray × ByteArray)} {p : Pc} (hp : p.name = str nm) {pad : List UInt8} (hpad : Bl pad) :
    ∀ (ks ks0 : List Nod) (b : List UInt8) (k f : Nat) (R : List Bd) (dep n : Nat), (∀ y ∈ ks, Wr d y) → Bl b → ks0 ++ ks ≠ [] → Lies s k ([10] ++ (docL ks (str v) (pad ++ [32]) ++ (pad ++ backB nm []))) → ofT R ByteArray.empty = (str v, true) → (∀ r ∈ R, r.2.2 ≤ dep) → R.length + d ≤ 100 → dep + d ≤ 32 → n + cntL ks ≤ 2000 → 2 * (s.size - k) ≤ f →
    goT s f (some ⟨S, N, A, ks0, str b⟩) p ⟨⟨k, 0, 0⟩, R, dep, n⟩ = (.ok ⟨S, N, A, ks0 ++ ks, ByteArray.empty⟩, ⟨⟨k + ([10] ++ (docL ks (str v) (pad ++ [32]) ++ (pad ++ backB nm []))).length, 0, 0⟩, R, dep, n + cntL ks⟩)
  | [], ks0, b, k, f, R, dep, n, _, hb, hne, hL, ho, hR, hR1, hd, hn, hf => by
    have hL : Lies s k ((10 :: pad) ++ 60 :: (47 :: (nm ++ ([] ++ [62])))) := by simpa [docL, backB] using hL
    have hle := hL.le
    simp only [List.length_append, List.length_cons] at hle
    obtain ⟨f, rfl⟩ : ∃ f', f = f' + 1 + 1 := ⟨f - 2, by omega⟩
    have hB : Lies s (k + (10 :: pad).length) (backB nm []) := hL.right
    have h1 := next_bl (bl_cons hpad) (by simp) hL
    have h2 := next_back hnm.nm (be := []) (by intro c hc; cases hc) hB
    rw [go_text h1 rfl rfl, go_end h2 rfl rfl (by rw [hp]) (.inr (by rw [str_append]; exact trim_bl (bl_app hb (bl_cons hpad))))]
    rw [List.append_nil] at hne
    rw [if_pos hne, List.append_nil]
    have e : k + ([10] ++ (docL [] (str v) (pad ++ [32]) ++ (pad ++ backB nm []))).length = k + (10 :: pad).length + (backB nm []).length := by simp [docL]; omega
    rw [e]
    rfl
  | y :: ks, ks0, b, k, f, R, dep, n, hks, hb, hne, hL, ho, hR, hR1, hd, hn, hf => by
    have hpad' : Bl (pad ++ [32]) := bl_app hpad (by intro c hc; rw [List.mem_singleton] at hc; subst hc; decide)
    obtain ⟨r, hr⟩ := nodB_first y (str v) (pad ++ [32])
    have e1 : [10] ++ (docL (y :: ks) (str v) (pad ++ [32]) ++ (pad ++ backB nm [])) = (10 :: (pad ++ [32])) ++ (nodB y (str v) (pad ++ [32]) ++ ([10] ++ (docL ks (str v) (pad ++ [32]) ++ (pad ++ backB nm [])))) := by
      rw [docL, docN_nod]; simp
    rw [e1] at hL
    have hle := hL.le
    rw [hr] at hle
    simp only [List.length_append, List.length_cons] at hle
    obtain ⟨f, rfl⟩ : ∃ f', f = f' + 1 + 1 := ⟨f - 2, by omega⟩
    have h1 := next_bl (bl_cons hpad') (by simp) (show Lies s k ((10 :: (pad ++ [32])) ++ 60 :: (r ++ ([10] ++ (docL ks (str v) (pad ++ [32]) ++ (pad ++ backB nm []))))) by rw [hr] at hL; exact hL)
    have hB : Lies s (k + (10 :: (pad ++ [32])).length) (nodB y (str v) (pad ++ [32]) ++ ([10] ++ (docL ks (str v) (pad ++ [32]) ++ (pad ++ backB nm [])))) := hL.right
    have hc : cntL (y :: ks) = cnt y + cntL ks := by rw [cntL]
    rw [hc] at hn
    obtain ⟨q, st2, g1, g2, g3, g4⟩ := IH y v (pad ++ [32]) (hks y List.mem_cons_self) hpad' (k + (10 :: (pad ++ [32])).length) f R dep n hB.left ho hR hR1 hd (by omega) (by simp only [List.length_cons, List.length_append] at *; omega)
    have hC := hB.right
    have ih := kids_TW IH (v := v) hnm (S := S) (N := N) (A := A) hp hpad ks (ks0 ++ [y]) (b ++ 10 :: (pad ++ [32])) _ f R dep (n + cnt y) (fun z hz => hks z (List.mem_cons_of_mem _ hz)) (bl_app hb (bl_cons hpad')) (by simp) hC ho hR hR1 hd (by omega) (by simp only [List.length_cons, List.length_append] at *; omega)
    rw [go_text h1 rfl rfl, go_kid g1 g2 g3 g4, str_append, ih, e1, hc]
    simp only [List.length_append, List.length_cons, List.append_assoc, List.singleton_append, Nat.add_assoc]
theorem node_TW (s : ByteArray) : ∀ d, ReadsW s d
  | 0 => fun y _ _ h => by cases h
  | d + 1 => by
    rintro ⟨sp, nm, l, ks, tx⟩ space pad h hpad k f R dep n hL ho hR hR1 hd hn hf
    obtain ⟨⟨v, hv, rfl⟩, ⟨nm, rfl, hnm⟩, ⟨al, rfl, ha⟩, hks, ⟨t, rfl, ht, htt⟩, htx⟩ := h
    obtain ⟨hat, ha16⟩ := tagA_okW (space := space) hv ha
    have hbs : Bl [32] := by intro c hc; rw [List.mem_singleton] at hc; subst hc; decide
    have hbe : Bl [] := by intro c hc; cases hc
    have hRb : ∀ r ∈ bindR v space (dep + 1) R, r.2.2 ≤ dep + 1 := by
      intro r hr
      unfold bindR at hr
      split at hr
      · have := hR r hr; omega
      · rcases List.mem_cons.1 hr with rfl | hr
        · exact Nat.le_refl _
        · have := hR r hr; omega
    have hRl : (bindR v space (dep + 1) R).length ≤ R.length + 1 := by
      unfold bindR
      split
      · omega
      · simp
    have hlv := leave_bind (sp := v) (space := space) hR
    have hc : cnt (.mk (str v) (str nm) (bsA al) ks (str t)) = 1 + cntL ks := rfl
    rw [hc] at hn ⊢
    by_cases h0 : ks = []
    · subst h0
      have hc0 : cntL [] = 0 := rfl
      rw [hc0] at hn ⊢
      by_cases ht0 : t = []
      · subst ht0
        rw [nod_one] at hL ⊢
        have hle := hL.le
        have htg := next_tag hnm.nm hbs (by simp) hbe (fun _ => rfl) hat ha16 hL
        have hb := begin_tagW (p := ⟨3, str nm, bsA (tagA v space al), ByteArray.empty, k⟩) hnm ha (R := R) (d := dep) (n := n) (by omega) (by omega) (by omega) ho rfl rfl
        obtain ⟨f, rfl⟩ : ∃ f', f = f' + 1 := ⟨f - 1, by simp [tagB] at hle; omega⟩
        refine ⟨_, _, htg, rfl, .inr rfl, ?_⟩
        rw [goT]
        simp only [if_true, hb]
        rw [leaveR, hlv]
        rfl
      · rw [nod_text pad ht0] at hL ⊢
        have hle := hL.le
        have htg := next_tag hnm.nm hbs (by simp) hbe (fun e => by cases e) hat ha16 hL.left
        have hb := begin_tagW (p := ⟨1, str nm, bsA (tagA v space al), ByteArray.empty, k⟩) hnm ha (R := R) (d := dep) (n := n) (by omega) (by omega) (by omega) ho rfl rfl
        have hT := hL.right
        have hB := hT.right
        have g1 := next_text ht ht0 hT.left (.inr ⟨Lies.hd (l := 47 :: (nm ++ ([] ++ [62]))) hB, Lies.lt (l := 47 :: (nm ++ ([] ++ [62]))) hB⟩)
        have g2 := next_back hnm.nm hbe hB
        obtain ⟨f, rfl⟩ : ∃ f', f = f' + 1 + 1 + 1 := ⟨f - 3, by simp [tagB, endB, backB] at hle; omega⟩
        refine ⟨_, _, htg, rfl, .inl rfl, ?_⟩
        rw [goT]
        simp only [Bool.false_eq_true, if_false, hb]
        rw [if_neg (by decide), go_text g1 rfl rfl, go_end (p := ⟨1, str nm, bsA (tagA v space al), ByteArray.empty, k⟩) g2 rfl rfl rfl (.inl rfl)]
        simp only
        rw [leaveR]
        simp only
        rw [hlv, if_neg (by simp)]
        have e : ByteArray.empty ++ str t = str t := by rw [show ByteArray.empty = str [] from rfl, str_append]; rfl
        rw [e, htt]
        simp only [List.length_append, Nat.add_assoc]
        rfl
    · have htE := htx h0
      rw [nod_kids _ pad h0] at hL ⊢
      have hle := hL.le
      have htg := next_tag hnm.nm hbs (by simp) hbe (fun e => by cases e) hat ha16 hL.left
      have hb := begin_tagW (p := ⟨1, str nm, bsA (tagA v space al), ByteArray.empty, k⟩) hnm ha (R := R) (d := dep) (n := n) (by omega) (by omega) (by omega) ho rfl rfl
      obtain ⟨f, rfl⟩ : ∃ f', f = f' + 1 := ⟨f - 1, by simp [tagB] at hle; omega⟩
      have hk := kids_TW (node_TW s d) (v := v) hnm (S := str v) (N := str nm) (A := bsA al) (p := ⟨1, str nm, bsA (tagA v space al), ByteArray.empty, k⟩) rfl hpad ks [] [] _ f _ (dep + 1) (n + 1) hks hbe (by simpa using h0) hL.right (of_bind ho) hRb (by omega) (by omega) (by omega) (by simp [tagB] at hle ⊢; omega)
      refine ⟨_, _, htg, rfl, .inl rfl, ?_⟩
      rw [goT]
      simp only [Bool.false_eq_true, if_false, hb]
      rw [show str [] = ByteArray.empty from rfl] at hk
      rw [if_neg (by decide), hk]
      simp only
      rw [leaveR]
      simp only
      rw [hlv, htE]
      simp only [List.length_append, Nat.add_assoc]
      rfl
end Xm
end Go.Proofs.YtdpkhmfolmcejaaGreatDoor
namespace Go.Proofs.YtdpkhmfolmcejaaGreatDoor
namespace Xm
theorem letter_ok {r : Int} (h : letter r = true) (hz : size r ≠ 0) : size r ≠ 0 ∧ odd r = false := ⟨hz, letter_odd h⟩
theorem get_put {s : ByteArray} {k : Nat} (hk : k < s.size) (h0 : getN s k ≠ 0) : (s.data.toList.drop k).take (getN s k).toNat = put (getR s k) ∧ size (getR s k) = getN s k ∧ k + (getN s k).toNat ≤ s.size := by
  obtain ⟨e1, e2⟩ := rg_eq (s := s) (Nat.le_of_lt hk)
  have h1 : (rg s k).2 ≠ 0 := by rw [e1]; exact h0
  obtain ⟨_, h2, h3⟩ := rg_own (Nat.le_of_lt hk) h1
  have hbd := getN_bd s k
  rw [e2 h1, e1] at h2 h3
  refine ⟨?_, h3, by omega⟩
  have h4 : (s.extract k (k + (getN s k).toNat)).data.toList = put (getR s k) := by rw [h2]; rfl
  rw [← h4, ByteArray.data_extract, Array.toList_extract, List.extract_eq_take_drop, Nat.add_sub_cancel_left]
theorem text_letters (s : ByteArray) : ∀ (d k : Nat), s.size - k = d → k ≤ s.size → text s k < 0 → ∃ L, (∀ r ∈ L, size r ≠ 0 ∧ letter r = true) ∧ s.data.toList.drop k = cat L := by
  intro d
  induction d using Nat.strongRecOn with
  | _ d ih =>
    intro k hd hk ht
    rw [text] at ht
    by_cases hlt : k < s.size
    · rw [dif_pos hlt] at ht
      by_cases hc : getN s k = 0 ∨ letter (getR s k) = false
      · rw [dif_pos hc] at ht; omega
      · rw [dif_neg hc] at ht
        have h0 : getN s k ≠ 0 := fun e => hc (.inl e)
        have hl : letter (getR s k) = true := by
          cases h : letter (getR s k) with
          | true => rfl
          | false => exact absurd (.inr h) hc
        obtain ⟨h1, h2, h3⟩ := get_put hlt h0
        have hbd := getN_bd s k
        obtain ⟨L, hL, he⟩ := ih _ (by omega) (k + (getN s k).toNat) rfl h3 ht
        refine ⟨getR s k :: L, fun r hr => ?_, ?_⟩
        · rcases List.mem_cons.1 hr with rfl | hr
          · exact ⟨by rw [h2]; exact h0, hl⟩
          · exact hL r hr
        · have e : cat (getR s k :: L) = put (getR s k) ++ cat L := by simp [cat]
          rw [e, ← h1, ← he, ← List.drop_drop, List.take_append_drop]
    · refine ⟨[], by simp, ?_⟩
      rw [List.drop_eq_nil_of_le (by have : s.data.toList.length = s.size := by rw [Array.length_toList]; rfl
                                     omega)]
      rfl
theorem text_lt' {s : ByteArray} (h : text s 0 < 0) : Lt (bl s) := by
  obtain ⟨L, h1, h2⟩ := text_letters s _ 0 rfl (Nat.zero_le _) h
  exact ⟨L, h1, by rw [List.drop_zero] at h2; exact h2⟩
theorem lt_vt {l : List UInt8} (h : Lt l) : Vt l := by
  obtain ⟨L, h1, h2⟩ := h
  exact ⟨L, fun r hr => ⟨(h1 r hr).1, letter_odd (h1 r hr).2⟩, h2⟩
end Xm
end Go.Proofs.YtdpkhmfolmcejaaGreatDoor
namespace Go.Proofs.YtdpkhmfolmcejaaGreatDoor
namespace Xm
def Ls (L : List Int) : Prop := ∀ r ∈ L, size r ≠ 0 ∧ letter r = true
theorem put_low {r : Int} (h : size r ≠ 0) {n : Nat} {c : UInt8} (hc : (put r)[n]? = some c) (hl : c.toNat < 128) : r = (c.toNat : Int) ∧ n = 0 ∧ (put r).length = 1 := by
  have big : ∀ x : Nat, 128 ≤ x → x < 256 → ¬ (UInt8.ofNat x).toNat < 128 := fun x h1 h2 h3 => by
    rw [UInt8.toNat_ofNat', Nat.mod_eq_of_lt (by omega)] at h3
    omega
  rcases size_cases r with h0 | h1 | h2 | h3 | h4
  · exact absurd h0 h
  · have hb := size1 h1
    unfold put at hc ⊢
    rw [if_neg (by omega), if_pos h1] at hc ⊢
    match n, hc with
    | 0, hc =>
      have h9 := Option.some.inj hc
      subst h9
      refine ⟨?_, rfl, rfl⟩
      rw [UInt8.toNat_ofNat', Nat.mod_eq_of_lt (by omega)]
      omega
    | n + 1, hc => simp at hc
  · exfalso
    have hb := size2 h2
    unfold put at hc
    rw [if_neg (by omega), if_neg (by omega), if_pos h2] at hc
    match n, hc with
    | 0, hc => have h9 := Option.some.inj hc; subst h9; exact big _ (by omega) (by omega) hl
    | 1, hc => have h9 := Option.some.inj hc; subst h9; exact big _ (by omega) (by omega) hl
    | n + 2, hc => simp at hc
  · exfalso
    have hb := size3 h3
    unfold put at hc
    rw [if_neg (by omega), if_neg (by omega), if_neg (by omega), if_pos h3] at hc
    match n, hc with
    | 0, hc => have h9 := Option.some.inj hc; subst h9; exact big _ (by omega) (by omega) hl
    | 1, hc => have h9 := Option.some.inj hc; subst h9; exact big _ (by omega) (by omega) hl
    | 2, hc => have h9 := Option.some.inj hc; subst h9; exact big _ (by omega) (by omega) hl
    | n + 3, hc => simp at hc
  · exfalso
    have hb := size4 h4
    unfold put at hc
    rw [if_neg (by omega), if_neg (by omega), if_neg (by omega), if_neg (by omega)] at hc
    match n, hc with
    | 0, hc => have h9 := Option.some.inj hc; subst h9; exact big _ (by omega) (by omega) hl
    | 1, hc => have h9 := Option.some.inj hc; subst h9; exact big _ (by omega) (by omega) hl
    | 2, hc => have h9 := Option.some.inj hc; subst h9; exact big _ (by omega) (by omega) hl
    | 3, hc => have h9 := Option.some.inj hc; subst h9; exact big _ (by omega) (by omega) hl
    | n + 4, hc => simp at hc
theorem cat_low {c : UInt8} (hl : c.toNat < 128) : ∀ (L : List Int) (n : Nat), Ls L → (cat L)[n]? = some c → ∃ M M', L = M ++ (c.toNat : Int) :: M' ∧ (cat M).length = n
  | [], n, _, h => by simp [cat] at h
  | r :: L, n, hL, h => by
    have e : cat (r :: L) = put r ++ cat L := by simp [cat]
    rw [e] at h
    by_cases hn : n < (put r).length
    · rw [List.getElem?_append_left hn] at h
      obtain ⟨h1, h2, _⟩ := put_low (hL r List.mem_cons_self).1 h hl
      exact ⟨[], L, by rw [h1]; rfl, by rw [h2]; rfl⟩
    · rw [List.getElem?_append_right (by omega)] at h
      obtain ⟨M, M', h1, h2⟩ := cat_low hl L _ (fun x hx => hL x (List.mem_cons_of_mem _ hx)) h
      exact ⟨r :: M, M', by rw [h1]; rfl, by
        have e2 : cat (r :: M) = put r ++ cat M := by simp [cat]
        rw [e2, List.length_append, h2]; omega⟩
theorem num1_letter {s : ByteArray} {b : Int} (h : num1 s b ≠ 0) : letter (num1 s b) = true := by
  unfold num1 at h ⊢
  split at h
  · exact absurd rfl h
  · split at h
    · exact absurd rfl h
    · split at h
      · rename_i h1 h2 h3
        rw [if_neg h1, if_neg h2, if_pos h3]
        exact h3
      · exact absurd rfl h
theorem letter_size {r : Int} (h : letter r = true) : size r ≠ 0 := by
  have hm : may r = true := by
    unfold letter at h
    split at h
    · rename_i hr
      simp only [Bool.or_eq_true, beq_iff_eq] at h
      rcases h with (rfl | rfl) | rfl <;> rfl
    · simp only [Bool.and_eq_true] at h
      exact h.1.1
  unfold size
  rw [hm]
  simp only [Bool.true_eq_false, if_false]
  repeat' split
  all_goals decide
theorem find_letter (s : ByteArray) : ∀ l : List (ByteArray × Int), (∀ p ∈ l, letter p.2 = true) → find s l ≠ 0 → letter (find s l) = true
  | [], _, h => absurd rfl h
  | p :: l, hl, h => by
    unfold find at h ⊢
    split
    · exact hl p List.mem_cons_self
    · rename_i hp
      rw [if_neg hp] at h
      exact find_letter s l (fun q hq => hl q (List.mem_cons_of_mem _ hq)) h
theorem one_letter {s : ByteArray} (h : one s ≠ 0) : letter (one s) = true ∧ size (one s) ≠ 0 := by
  have hl : letter (one s) = true := by
    unfold one number at h ⊢
    split at h
    · rename_i h1
      rw [if_pos h1]
      split at h
      · rename_i h2
        rw [if_pos h2]
        exact num1_letter h
      · rename_i h2
        rw [if_neg h2]
        exact num1_letter h
    · rename_i h1
      rw [if_neg h1]
      exact find_letter s tabN (by decide +kernel) h
  exact ⟨hl, letter_size hl⟩
theorem openS_run (x : ByteArray) : ∀ (m k : Nat) (acc : List UInt8), (∀ i, i < m → k + i < x.size ∧ bt x (k + i) ≠ 38) → openS x k acc = openS x (k + m) (acc ++ (x.data.toList.drop k).take m)
  | 0, k, acc, _ => by simp
  | m + 1, k, acc, h => by
    have h0 := h 0 (by omega)
    rw [Nat.add_zero] at h0
    have hlt : k < x.data.toList.length := by rw [Array.length_toList]; exact h0.1
    have hb : UInt8.ofNat (bt x k).toNat = x.data.toList[k] := by
      have : bt x k = (x[k].toNat : Int) := (bt_eq h0.1).symm
      rw [this, Int.toNat_natCast, UInt8.ofNat_toNat]
      rfl
    rw [openS, dif_pos h0.1, if_neg h0.2, openS_run x m (k + 1) _ (fun i hi => by have := h (i + 1) (by omega); rw [show k + 1 + i = k + (i + 1) by omega]; exact this)]
    rw [show k + 1 + m = k + (m + 1) by omega, hb, List.drop_eq_getElem_cons hlt, List.take_succ_cons, List.append_assoc]
    rfl
theorem openS_ls {x : ByteArray} : ∀ (n : Nat) (L1 L2 : List Int), L2.length = n → x = str (cat (L1 ++ L2)) → Ls L2 → ∀ acc, (openS x (cat L1).length acc).2 < 0 → ∃ L', Ls L' ∧ (openS x (cat L1).length acc).1 = acc ++ cat L' := by
  intro n
  induction n using Nat.strongRecOn with
  | _ n ih =>
    intro L1 L2 hn hx hL acc h
    have ec : ∀ A B : List Int, cat (A ++ B) = cat A ++ cat B := fun A B => by simp [cat]
    have hz : x.size = (cat L1).length + (cat L2).length := by rw [hx, str_size, ec, List.length_append]
    have hby : ∀ i (c : UInt8), (cat L2)[i]? = some c → bt x ((cat L1).length + i) = (c.toNat : Int) := fun i c hc => by
      rw [hx, bt_str, List.getD_eq_getElem?_getD, ec, List.getElem?_append_right (by omega), Nat.add_sub_cancel_left, hc]
      rfl
    cases L2 with
    | nil =>
      rw [openS, dif_neg (by rw [hz]; simp [cat])]
      exact ⟨[], fun r hr => by simp at hr, by simp [cat]⟩
    | cons r L3 =>
      have hr := hL r List.mem_cons_self
      have hL3 : Ls L3 := fun z hz => hL z (List.mem_cons_of_mem _ hz)
      have e : cat (r :: L3) = put r ++ cat L3 := by simp [cat]
      obtain ⟨c, m, hp⟩ : ∃ c m, put r = c :: m := by
        cases h0 : put r with
        | nil =>
          have := put_size r
          rw [h0] at this
          exact absurd this.symm (by simpa using hr.1)
        | cons c m => exact ⟨c, m, rfl⟩
      have hlt : (cat L1).length < x.size := by rw [hz, e, hp]; simp
      have hb0 := hby 0 c (by rw [e, hp]; rfl)
      rw [Nat.add_zero] at hb0
      by_cases h38 : c = 38
      · subst h38
        obtain ⟨h1, _, h3⟩ := put_low hr.1 (n := 0) (c := 38) (by rw [hp]; rfl) (by decide)
        have hm : put r = [38] := by rw [hp] at h3 ⊢; simp at h3; rw [h3]
        rw [openS, dif_pos hlt, if_pos (by rw [hb0]; rfl)] at h ⊢
        split at h
        · simp at h; omega
        · rename_i hf
          rw [dif_neg hf]
          split at h
          · simp at h; omega
          · rename_i ho
            rw [if_neg ho]
            have hfb := (far_bd (s := x) (k := (cat L1).length) (by omega) 59).2 (by omega)
            obtain ⟨f, hfe⟩ : ∃ f : Nat, far x (cat L1).length 59 = (f : Int) := ⟨(far x (cat L1).length 59).toNat, by omega⟩
            have hat := far_at (by omega) hfe
            rw [hfe, Int.toNat_natCast] at hfb h ho ⊢
            have hi : f < (cat (r :: L3)).length := by omega
            have hc : (cat (r :: L3))[f]? = some (59 : UInt8) := by
              rw [List.getElem?_eq_getElem hi]
              have h2 := hby f _ (List.getElem?_eq_getElem hi)
              rw [hat] at h2
              rw [u8_eq h2.symm]
            obtain ⟨M, M', hM, hMl⟩ := cat_low (by decide) (r :: L3) f hL hc
            have hMn : M'.length < n := by
              have := congrArg List.length hM
              simp at this hn
              omega
            have h59 : put ((59 : UInt8).toNat : Int) = [59] := by decide +kernel
            have hp2 : (cat (L1 ++ (M ++ [((59 : UInt8).toNat : Int)]))).length = (cat L1).length + f + 1 := by
              rw [ec, ec, List.length_append, List.length_append, hMl]
              have : cat [((59 : UInt8).toNat : Int)] = [59] := by simp only [cat, List.flatMap_cons, List.flatMap_nil, List.append_nil]; exact h59
              rw [this]; simp; omega
            have hx2 : x = str (cat ((L1 ++ (M ++ [((59 : UInt8).toNat : Int)])) ++ M')) := by
              rw [hx, hM]
              congr 2
              simp
            obtain ⟨L', g1, g2⟩ := ih _ hMn (L1 ++ (M ++ [((59 : UInt8).toNat : Int)])) M' rfl hx2 (fun z hz => hL z (by rw [hM]; simp [hz])) (acc ++ put (one (cut x ((cat L1).length + 1) ((cat L1).length + f)))) (by rw [hp2]; exact h)
            rw [hp2] at g2
            have ho2 := one_letter ho
            refine ⟨one (cut x ((cat L1).length + 1) ((cat L1).length + f)) :: L', fun z hz => ?_, ?_⟩
            · rcases List.mem_cons.1 hz with rfl | hz
              · exact ⟨ho2.2, ho2.1⟩
              · exact g1 z hz
            · rw [g2, List.append_assoc]
              simp [cat]
      · have hne : ∀ i, i < (put r).length → (cat L1).length + i < x.size ∧ bt x ((cat L1).length + i) ≠ 38 := fun i hi => by
          refine ⟨by rw [hz, e, List.length_append]; omega, fun e38 => ?_⟩
          have hg : (cat (r :: L3))[i]? = some (put r)[i] := by rw [e, List.getElem?_append_left hi, List.getElem?_eq_getElem hi]
          have h2 := hby i _ hg
          rw [e38] at h2
          have h3 : (put r)[i] = 38 := u8_eq (by rw [← h2]; rfl)
          obtain ⟨_, h5, _⟩ := put_low hr.1 (n := i) (c := 38) (by rw [List.getElem?_eq_getElem hi, h3]) (by decide)
          subst h5
          simp only [hp, List.getElem_cons_zero] at h3
          exact h38 h3
        have hrun := openS_run x (put r).length (cat L1).length acc hne
        have htk : (x.data.toList.drop (cat L1).length).take (put r).length = put r := by
          have : x.data.toList = cat L1 ++ (put r ++ cat L3) := by rw [hx, ec, e]; rfl
          rw [this, List.drop_left, List.take_left]
        rw [hrun, htk] at h ⊢
        have hp2 : (cat (L1 ++ [r])).length = (cat L1).length + (put r).length := by rw [ec, List.length_append]; simp [cat]
        have hn3 : L3.length < n := by simp at hn; omega
        obtain ⟨L', g1, g2⟩ := ih _ hn3 (L1 ++ [r]) L3 rfl (by rw [hx]; congr 2; simp) hL3 (acc ++ put r) (by rw [hp2]; exact h)
        rw [hp2] at g2
        refine ⟨r :: L', fun z hz => ?_, ?_⟩
        · rcases List.mem_cons.1 hz with rfl | hz
          · exact hr
          · exact g1 z hz
        · rw [g2, List.append_assoc]
          simp [cat]
/-- what is opened without an error is letters -/
theorem opened_lt {x : ByteArray} (h1 : text x 0 < 0) (h2 : (openS x 0 []).2 < 0) : Lt (bl (opened x)) := by
  obtain ⟨L, hL, he⟩ := text_lt' h1
  have hx : x = str (cat ([] ++ L)) := by
    rw [List.nil_append, ← he]; rfl
  obtain ⟨L', g1, g2⟩ := openS_ls L.length [] L rfl hx hL [] h2
  refine ⟨L', g1, ?_⟩
  unfold opened
  rw [if_neg (by omega)]
  rw [show (cat []).length = 0 from rfl] at g2
  rw [g2]
  rfl
end Xm
end Go.Proofs.YtdpkhmfolmcejaaGreatDoor
namespace Go.Proofs.YtdpkhmfolmcejaaGreatDoor
namespace Xm
def Tx (v : ByteArray) : Prop := Lt (bl v)
theorem Tx.nil : Tx ByteArray.empty := Lt.nil
theorem Tx.nil' : Tx ⟨#[]⟩ := Lt.nil
theorem Tx.append {a b : ByteArray} (h : Tx a) (k : Tx b) : Tx (a ++ b) := by
  unfold Tx; rw [bl_append]; exact Lt.append h k
theorem err_wrong {p : P3} {z a : Int} (hz : z ≠ 0) : (wrong p z a).e ≠ 0 := by
  unfold wrong errOf
  split
  · exact hz
  · assumption
theorem openT_inv {p : P3} {x : ByteArray} {a : Nat} (h : (openT p x a).e = 0) : p.e = 0 ∧ Tx (opened x) := by
  unfold openT at h
  split at h
  · exact absurd h (err_wrong (by decide))
  · rename_i h1
    split at h
    · exact absurd h (err_wrong (by decide))
    · rename_i h2
      exact ⟨h, opened_lt (by omega) (by omega)⟩
theorem valT_inv {s : ByteArray} {p : P3} (h : (valT s p).e = 0) : p.e = 0 ∧ Tx (valV s p) := by
  unfold valT at h
  unfold valV
  split at h
  · exact absurd h (err_wrong (by decide))
  · rename_i h1
    rw [if_neg h1]
    split at h
    · exact absurd h (err_wrong (by decide))
    · rename_i h2
      rw [if_neg h2]
      have r := openT_inv h
      exact ⟨r.1, r.2⟩
theorem nameT_inv {s : ByteArray} {p : P3} (h : (nameT s p).e = 0) : p.e = 0 ∧ nameOk s p.k = true := by
  unfold nameT at h
  split at h
  · rename_i h1; exact ⟨h, h1⟩
  · exact absurd h (err_wrong (by decide))
theorem skipT_inv {s x : ByteArray} {p : P3} (h : (skipT s p x).e = 0) : p.e = 0 := by
  unfold skipT at h
  split at h
  · assumption
  · exact h
theorem attrT_inv {s : ByteArray} {p : P3} (h : (attrT s p).e = 0) : nameOk s p.k = true ∧ Tx (attrV s p) := by
  unfold attrT attr2 at h
  unfold attrV attrV2
  split at h
  · rename_i h1; exact absurd h h1
  · rename_i h1
    have h1 : (skipT s (nameT s p) eqS).e = 0 := by omega
    rw [if_neg (by omega)]
    split at h
    · exact absurd h (err_wrong (by decide))
    · rename_i h2
      rw [if_neg h2]
      exact ⟨(nameT_inv (skipT_inv h1)).2, (valT_inv h).2⟩
/-- attributes as they are read -/
def AtI (l : List (ByteArray × ByteArray)) : Prop := (∀ a ∈ l, Tx a.2) ∧ (l.map (·.1)).Nodup
theorem AtI.nil : AtI [] := ⟨fun a h => by simp at h, List.nodup_nil⟩
theorem any_named {l : List (ByteArray × ByteArray)} {n : ByteArray} (h : l.any (named1 n) = false) : n ∉ l.map (·.1) := by
  intro hm
  obtain ⟨a, h1, h2⟩ := List.mem_map.1 hm
  have h3 := List.any_eq_false.1 h a h1
  unfold named1 at h3
  rw [h2] at h3
  simp at h3
theorem tagL_st {n : Nat} {s : ByteArray} {st : P3} {l : List (ByteArray × ByteArray)} (h : (tagL n s st l).2.2.e = 0) : st.e = 0 := by
  cases n with
  | zero => exact h
  | succ n =>
    by_cases h1 : st.e ≠ 0
    · rw [tagL, if_pos h1] at h; exact h
    · omega
theorem tagL_inv (s : ByteArray) : ∀ (n : Nat) (st : P3) (l : List (ByteArray × ByteArray)), AtI l → (tagL n s st l).2.2.e = 0 → AtI (tagL n s st l).2.1 ∧ (tagL n s st l).2.1.length ≤ 16 ∨ 16 < l.length
  | 0, st, l, h, _ => by
    by_cases hl : l.length ≤ 16
    · exact .inl ⟨h, hl⟩
    · exact .inr (by omega)
  | n + 1, st, l, h, he => by
    by_cases hl : 16 < l.length
    · exact .inr hl
    unfold tagL at he ⊢
    split at he
    · rename_i h1
      exact absurd he h1
    · rename_i h1
      rw [if_neg h1]
      split at he
      · rename_i h2; rw [if_pos h2]; exact .inl ⟨h, by show l.length ≤ 16; omega⟩
      · rename_i h2
        rw [if_neg h2]
        split at he
        · rename_i h3; rw [if_pos h3]; exact .inl ⟨h, by show l.length ≤ 16; omega⟩
        · rename_i h3
          rw [if_neg h3]
          split at he
          · exact absurd he (err_wrong (by decide))
          · rename_i h4
            rw [if_neg h4]
            have hst : (if l.any (named1 (nameS s (skip s st.k))) = true then wrong (attrT s ⟨skip s st.k, st.e, st.bad⟩) 7 (skip s st.k) else attrT s ⟨skip s st.k, st.e, st.bad⟩).e = 0 := by
              exact tagL_st he
            split at hst
            · exact absurd hst (err_wrong (by decide))
            · rename_i h5
              obtain ⟨_, h7⟩ := attrT_inv hst
              have h6 := any_named (show l.any (named1 (nameS s (skip s st.k))) = false by simpa using h5)
              have hA : AtI (l ++ [(nameS s (skip s st.k), attrV s ⟨skip s st.k, st.e, st.bad⟩)]) := by
                refine ⟨fun a ha => ?_, ?_⟩
                · rcases List.mem_append.1 ha with ha | ha
                  · exact h.1 a ha
                  · rw [List.mem_singleton] at ha; rw [ha]; exact h7
                · rw [List.map_append, List.nodup_append]
                  refine ⟨h.2, by simp, fun a ha b hb => ?_⟩
                  simp only [List.map_cons, List.map_nil, List.mem_singleton] at hb
                  rintro rfl
                  rw [hb] at ha
                  exact h6 ha
              rcases tagL_inv s n _ _ hA he with r | r
              · exact .inl r
              · exfalso
                rw [List.length_append, List.length_singleton] at r
                omega
/-- a piece as it is read -/
def PcI (q : Pc) : Prop := AtI q.attrs ∧ q.attrs.length ≤ 16 ∧ Tx q.text
theorem PcI.zero : PcI Pc.zero := ⟨AtI.nil, by simp [Pc.zero], Tx.nil⟩
theorem pieceOf_inv {s : ByteArray} {k : Nat} {bad : Int} (h : (pieceOf s k bad).2.e = 0) : PcI (pieceOf s k bad).1 := by
  unfold pieceOf at h ⊢
  split
  · rename_i h1
    rw [if_pos h1] at h
    unfold cdT at h ⊢
    split
    · rename_i h2
      rw [if_pos h2] at h
      exact absurd h (err_wrong (by decide))
    · rename_i h2
      rw [if_neg h2] at h
      refine ⟨AtI.nil, Nat.zero_le _, ?_⟩
      simp only at h
      split at h
      · exact absurd h (err_wrong (by decide))
      · rename_i h3
        refine text_lt' ?_
        show text (s.extract (k + 9) (k + 9 + (farS s (k + 9) cdE).toNat)) 0 < 0
        omega
  · rename_i h1
    rw [if_neg h1] at h
    split
    · exact ⟨AtI.nil, Nat.zero_le _, Tx.nil⟩
    · rename_i h2
      rw [if_neg h2] at h
      split
      · rename_i h3
        rw [if_pos h3] at h
        rcases tagL_inv s 17 _ [] AtI.nil h with r | r
        · exact ⟨r.1, r.2, Tx.nil⟩
        · simp at r
      · rename_i h3
        rw [if_neg h3] at h
        exact ⟨AtI.nil, Nat.zero_le _, (openT_inv h).2⟩
theorem nextR_inv (s : ByteArray) (p : P3) : PcI (nextR s p).1 := by
  unfold nextR
  split
  · exact PcI.zero
  · split
    · exact PcI.zero
    · rename_i h
      exact pieceOf_inv (by omega)
/-- what is known of spaces -/
def RI (R : List Bd) : Prop := ∀ r ∈ R, Tx r.2.1
theorem enterL_inv (d : Nat) : ∀ (l o : List (ByteArray × ByteArray)) (R : List Bd), (∀ a ∈ l, Tx a.2) → RI R → RI (enterL d l o R).1 ∧ ((enterL d l o R).2.2 = [] ∨ (enterL d l o R).2.2 = o ++ l.filter (fun a => !(tellP a.1).2))
  | [], o, R, _, hR => ⟨hR, .inr (by simp [enterL])⟩
  | a :: l, o, R, h, hR => by
    have ha := h a List.mem_cons_self
    have hl : ∀ b ∈ l, Tx b.2 := fun b hb => h b (List.mem_cons_of_mem _ hb)
    unfold enterL
    split
    · rename_i h1
      split
      · exact ⟨hR, .inl rfl⟩
      · split
        · exact ⟨hR, .inl rfl⟩
        · obtain ⟨g1, g2⟩ := enterL_inv d l o (((tellP a.1).1, a.2, d) :: R) hl (fun r hr => by
            rcases List.mem_cons.1 hr with rfl | hr
            · exact ha
            · exact hR r hr)
          refine ⟨g1, ?_⟩
          rcases g2 with g2 | g2
          · exact .inl g2
          · exact .inr (by rw [g2, List.filter_cons_of_neg (by rw [h1]; simp)])
    · rename_i h1
      obtain ⟨g1, g2⟩ := enterL_inv d l (o ++ [a]) R hl hR
      refine ⟨g1, ?_⟩
      rcases g2 with g2 | g2
      · exact .inl g2
      · exact .inr (by rw [g2, List.filter_cons_of_pos (by simpa using h1)]; simp)
theorem leaveL_inv {R : List Bd} {d : Nat} (h : RI R) : RI (leaveL R d) := by
  unfold leaveL
  split
  · exact h
  · exact fun r hr => h r ((List.dropWhile_sublist _).subset hr)
theorem ofT_inv {R : List Bd} {p : ByteArray} (h : RI R) : Tx (ofT R p).1 := by
  unfold ofT
  split
  · rename_i r hr
    exact h r (List.mem_of_find?_eq_some hr)
  · exact Tx.nil
/-- attributes of an element that was read -/
def AtR (l : List (ByteArray × ByteArray)) : Prop := (∀ a ∈ l, name a.1 = true ∧ a.1.toList ≠ xmlns ∧ Tx a.2) ∧ (l.map (·.1)).Nodup ∧ l.length ≤ 16
theorem beginT_ni {p : Pc} {R : List Bd} {d n : Nat} (hp : PcI p) (hR : RI R) : RI (beginT p R d n).2.1 ∧ ∀ x, (beginT p R d n).1 = .ok x → Tx x.1 ∧ name x.2.1 = true ∧ AtR x.2.2 := by
  obtain ⟨g1, g2⟩ := enterL_inv (d + 1) p.attrs [] R hp.1.1 hR
  unfold beginT
  split
  · exact ⟨hR, fun x h => by cases h⟩
  · split
    · exact ⟨hR, fun x h => by cases h⟩
    · split
      · exact ⟨g1, fun x h => by cases h⟩
      · split
        · exact ⟨g1, fun x h => by cases h⟩
        · rename_i h4
          split
          · exact ⟨g1, fun x h => by cases h⟩
          · rename_i h5
            refine ⟨g1, fun x h => ?_⟩
            have h := Except.ok.inj h
            subst h
            have h4 : (nameP (enterL (d + 1) p.attrs [] R).1 p.name).2.2 = true := by simpa using h4
            have h5 : (enterL (d + 1) p.attrs [] R).2.2.all (fun a => name a.1) = true := by simpa using h5
            have hN : Tx (nameP (enterL (d + 1) p.attrs [] R).1 p.name).1 ∧ name (nameP (enterL (d + 1) p.attrs [] R).1 p.name).2.1 = true := by
              unfold nameP at h4 ⊢
              split
              · rename_i h6
                rw [if_pos h6] at h4
                split
                · rename_i h7
                  refine ⟨ofT_inv g1, ?_⟩
                  unfold Xm.split at h6 ⊢
                  split
                  · rename_i h8
                    rw [if_pos h8] at h6
                    simp only [Bool.and_eq_true] at h6
                    exact h6.2
                  · rename_i h8
                    rw [if_neg h8] at h6
                    exact h6
                · rename_i h7
                  rw [if_neg h7] at h4
                  cases h4
              · rename_i h6
                rw [if_neg h6] at h4
                cases h4
            refine ⟨hN.1, hN.2, ?_⟩
            rcases g2 with g2 | g2
            · simp only [g2]
              exact ⟨fun a h => by simp at h, List.nodup_nil, Nat.zero_le _⟩
            · have hs : (enterL (d + 1) p.attrs [] R).2.2.Sublist p.attrs := by
                rw [g2, List.nil_append]; exact List.filter_sublist
              refine ⟨fun a ha => ⟨List.all_eq_true.1 h5 a ha, fun e => ?_, hp.1.1 a (hs.subset ha)⟩, hp.1.2.sublist (hs.map _), Nat.le_trans hs.length_le hp.2.1⟩
              simp only [g2, List.nil_append, List.mem_filter] at ha
              have h9 := ha.2
              unfold tellP at h9
              rw [if_pos (by rw [e]; rfl)] at h9
              simp at h9
/-- an element that was read -/
inductive NdI : Nod → Prop
  | mk (sp nm tx : ByteArray) (l : List (ByteArray × ByteArray)) (ks : List Nod) (h1 : Tx sp) (h2 : name nm = true) (h3 : AtR l) (h4 : ∀ y ∈ ks, NdI y) (h5 : Tx tx) (h6 : trim tx = tx) (h7 : ks ≠ [] → tx = ByteArray.empty) : NdI (.mk sp nm l ks tx)
theorem trim_tx {v : ByteArray} (h : Tx v) : Tx (trim v) ∧ trim (trim v) = trim v := by
  obtain ⟨t, h1, h2, _, h4⟩ := trim_v (lt_vt h)
  have h1 : trim v = str t := h1
  rw [h1]
  exact ⟨h2.lt, h4⟩
theorem goT_ni (s : ByteArray) : ∀ (f : Nat) (o : Option Nod) (p : Pc) (r : Rs), RI r.R → PcI p → (∀ sp nm l ks tx, o = some (.mk sp nm l ks tx) → Tx sp ∧ name nm = true ∧ AtR l ∧ (∀ y ∈ ks, NdI y) ∧ Tx tx) →
    RI (goT s f o p r).2.R ∧ ∀ y, (goT s f o p r).1 = .ok y → NdI y := by
  intro f
  induction f with
  | zero => intro o p r hR _ _; unfold goT; exact ⟨hR, fun y h => by cases h⟩
  | succ f ih =>
    intro o p r hR hp ho
    cases o with
    | none =>
      obtain ⟨b1, b2⟩ := beginT_ni (d := r.d) (n := r.n) hp hR
      rw [goT]
      split
      · rename_i z R1 d1 n1 hb
        rw [hb] at b1
        exact ⟨b1, fun y h => by cases h⟩
      · rename_i x R1 d1 n1 hb
        rw [hb] at b1 b2
        obtain ⟨x1, x2, x3⟩ := b2 x rfl
        split
        · refine ⟨leaveL_inv b1, fun y h => ?_⟩
          have h := Except.ok.inj h
          subst h
          exact .mk _ _ _ _ _ x1 x2 x3 (fun y hy => by simp at hy) Tx.nil (by kernel_rfl) (fun h => absurd rfl h)
        · obtain ⟨g1, g2⟩ := ih (some ⟨x.1, x.2.1, x.2.2, [], ByteArray.empty⟩) p ⟨r.st, R1, d1, n1⟩ b1 hp (fun sp nm l ks tx e => by
            injection e with e
            injection e with e1 e2 e3 e4 e5
            subst e1 e2 e3 e4 e5
            exact ⟨x1, x2, x3, fun y hy => by simp at hy, Tx.nil⟩)
          split
          rename_i res r2 hg
          rw [hg] at g1 g2
          exact ⟨leaveL_inv g1, g2⟩
    | some x =>
      obtain ⟨sp, nm, l, ks, tx⟩ := x
      obtain ⟨x1, x2, x3, x4, x5⟩ := ho sp nm l ks tx rfl
      have hq := nextR_inv s r.st
      rw [goT]
      split
      rename_i q st2 hn
      rw [hn] at hq
      split
      · exact ⟨hR, fun y h => by cases h⟩
      · split
        · exact ih _ p ⟨st2, r.R, r.d, r.n⟩ hR hp (fun sp' nm' l' ks' tx' e => by
            injection e with e
            injection e with e1 e2 e3 e4 e5
            subst e1 e2 e3 e4 e5
            exact ⟨x1, x2, x3, x4, x5.append hq.2.2⟩)
        · split
          · obtain ⟨g1, g2⟩ := ih none q ⟨st2, r.R, r.d, r.n⟩ hR hq (fun sp nm l ks tx e => by cases e)
            split
            · rename_i y r2 hg
              rw [hg] at g1 g2
              exact ih _ p r2 g1 hp (fun sp' nm' l' ks' tx' e => by
                injection e with e
                injection e with e1 e2 e3 e4 e5
                subst e1 e2 e3 e4 e5
                refine ⟨x1, x2, x3, fun z hz => ?_, x5⟩
                rcases List.mem_append.1 hz with hz | hz
                · exact x4 z hz
                · rw [List.mem_singleton] at hz; rw [hz]; exact g2 y rfl)
            · rename_i z r2 hg
              rw [hg] at g1
              exact ⟨g1, fun y h => by cases h⟩
          · split
            · split
              · exact ⟨hR, fun y h => by cases h⟩
              · split
                · exact ⟨hR, fun y h => by cases h⟩
                · rename_i h9
                  refine ⟨hR, fun y h => ?_⟩
                  have h := Except.ok.inj h
                  subst h
                  by_cases hk : ks = []
                  · rw [if_neg (by simpa using hk)]
                    exact .mk _ _ _ _ _ x1 x2 x3 x4 (trim_tx x5).1 (trim_tx x5).2 (fun h => absurd hk h)
                  · rw [if_pos hk]
                    exact .mk _ _ _ _ _ x1 x2 x3 x4 Tx.nil (by kernel_rfl) (fun _ => rfl)
            · exact ⟨hR, fun y h => by cases h⟩
theorem docT_ni (s : ByteArray) : ∀ (f : Nat) (o : Option Nod) (r : Rs), RI r.R → (∀ y, o = some y → NdI y) → ∀ y, docT s f o r = .ok y → NdI y := by
  intro f
  induction f with
  | zero => intro o r _ _ y h; unfold docT at h; cases h
  | succ f ih =>
    intro o r hR ho y h
    have hq := nextR_inv s r.st
    rw [docT] at h
    split at h
    rename_i q st2 hn
    rw [hn] at hq
    split at h
    · cases h
    · cases o with
      | some z =>
        simp only at h
        split at h
        · have h := Except.ok.inj h
          subst h
          exact ho _ rfl
        · split at h
          · exact ih _ _ (by exact hR) ho y h
          · cases h
      | none =>
        simp only at h
        split at h
        · exact ih _ _ (by exact hR) ho y h
        · split at h
          · obtain ⟨g1, g2⟩ := goT_ni s (2 * s.size + 2) none q ⟨st2, r.R, r.d, r.n⟩ hR hq (fun sp nm l ks tx e => by cases e)
            split at h
            · rename_i z r2 hg
              rw [hg] at g1 g2
              exact ih _ _ g1 (fun w hw => by injection hw with hw; subst hw; exact g2 _ rfl) y h
            · cases h
          · cases h
theorem parse_ni {s : ByteArray} {y : Nod} (h : parseT s = .ok y) : NdI y := by
  refine docT_ni s _ none r0 ?_ (fun y h => by cases h) y h
  intro r hr
  simp only [r0, newB, xmlB, List.mem_cons, List.not_mem_nil, or_false] at hr
  rcases hr with rfl | rfl
  · exact Tx.nil
  · exact lt_lit (by decide +kernel)
end Xm
end Go.Proofs.YtdpkhmfolmcejaaGreatDoor
