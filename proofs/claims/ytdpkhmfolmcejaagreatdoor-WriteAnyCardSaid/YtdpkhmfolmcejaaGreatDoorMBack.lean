/- What Next reads of blanks; what an element's first tag begins. No program. -/
/- An element's first tag, begun. No program. -/
/- The document of an element is read back as the element. No program. -/
/- The whole text of TreeBack is read as the element. No program. -/
import Derived.Test.YtdpkhmfolmcejaaGreatDoorMDo
import Derived.Test.YtdpkhmfolmcejaaGreatDoorTr11
namespace Go.Proofs.YtdpkhmfolmcejaaGreatDoor
namespace Xm
theorem bl_cases {c : UInt8} (h : blank (c.toNat : Int) = true) : c.toNat = 32 ∨ c.toNat = 9 ∨ c.toNat = 10 ∨ c.toNat = 13 := by
  simp only [blank, Bool.or_eq_true, beq_iff_eq] at h
  omega
theorem bl_ne {c d : UInt8} (h : blank (c.toNat : Int) = true) (hd : blank (d.toNat : Int) = false) : c ≠ d := by
  rintro rfl
  rw [h] at hd
  cases hd
theorem Bl.lt {b : List UInt8} (h : Bl b) : Lt b := Lt.asc fun c hc => asc_of c (by
  rcases bl_cases (h c hc) with e | e | e | e
  · exact .inl (by omega)
  · exact .inr (.inl (UInt8.toNat_inj.1 e))
  · exact .inr (.inr (.inl (UInt8.toNat_inj.1 e)))
  · exact .inr (.inr (.inr (UInt8.toNat_inj.1 e))))
theorem Bl.no {b : List UInt8} (h : Bl b) {d : UInt8} (hd : blank (d.toNat : Int) = false) : d ∉ b := fun hc => bl_ne (h d hc) hd rfl
theorem open_bl {s : ByteArray} : ∀ (v : List UInt8) (k : Nat) (acc : List UInt8), Bl v → Lies s k v → k + v.length = s.size → openS s k acc = (acc ++ v, -1)
  | [], k, acc, _, _, hz => by
    rw [openS, dif_neg (by simp at hz; omega), List.append_nil]
  | c :: v, k, acc, hb, h, hz => by
    have hL : Lies s k ([c] ++ v) := h
    have hR : Lies s (k + 1) v := hL.right
    rw [open_byte hL.left (bl_ne (hb c List.mem_cons_self) (by decide)), open_bl v _ _ (fun d hd => hb d (List.mem_cons_of_mem _ hd)) hR (by simp at hz ⊢; omega), List.append_assoc]
    rfl
theorem openT_bl {b : List UInt8} (h : Bl b) (p : P3) (a : Nat) : openT p (str b) a = p ∧ opened (str b) = str b := by
  have ho := open_bl (s := str b) b 0 [] h (Lies.of (A := []) (B := []) (by simp [str]) rfl) (by rw [str_size]; simp)
  have ht := h.lt.text
  refine ⟨?_, ?_⟩
  · unfold openT
    rw [if_neg (by rw [ht]; decide), ho]
    rfl
  · unfold opened
    rw [if_neg (by rw [ht]; decide), ho]
    rfl
/-- a run of bytes up to the end or to a '<' -/
theorem next_run {s : ByteArray} {k : Nat} {v : List UInt8} {u : ByteArray} (hno : (60 : UInt8) ∉ v) (hv0 : v ≠ []) (ho : ∀ p a, openT p (str v) a = p ∧ opened (str v) = u) (h : Lies s k v) (hend : k + v.length = s.size ∨ bt s (k + v.length) = 60 ∧ k + v.length < s.size) :
    nextR s ⟨k, 0, 0⟩ = (⟨4, ByteArray.empty, [], u, k⟩, ⟨k + v.length, 0, 0⟩) := by
  obtain ⟨c, r, hc⟩ : ∃ c r, v = c :: r := by
    cases hh : v with
    | nil => exact absurd hh hv0
    | cons c r => exact ⟨c, r, rfl⟩
  have hc60 : c ≠ 60 := fun e => hno (by rw [hc, e]; exact List.mem_cons_self)
  have h2 : Lies s k (c :: r) := by rw [← hc]; exact h
  have hrun : runN s k = v.length := by
    have hle := h.le
    obtain ⟨_, B, hB⟩ := h
    have hlen := congrArg List.length hB
    simp only [ByteArray.data_extract, Array.length_toList, Array.size_extract, List.length_append] at hlen
    have hz : s.data.size = s.size := rfl
    unfold runN far cut
    rw [hB]
    rcases hend with he | ⟨he, hlt⟩
    · have hB0 : B = [] := List.eq_nil_of_length_eq_zero (by omega)
      rw [hB0, List.append_nil, idx_none _ _ hno, if_pos (by decide)]
      omega
    · cases B with
      | nil => simp only [List.length_nil] at hlen; omega
      | cons b B =>
        have hb : b = 60 := by
          have hL : Lies s k (v ++ [b]) := ⟨by omega, B, by rw [hB]; simp⟩
          have := (Lies.right hL).hd
          rw [he] at this
          exact (u8_eq (c := 60) this).symm
        rw [hb, idx_first _ _ _ hno, if_neg (by omega), Int.toNat_natCast]
  have hp : pieceOf s k 0 = (⟨4, ByteArray.empty, [], u, k⟩, ⟨k + v.length, 0, 0⟩) := by
    unfold pieceOf
    rw [h2.no (x := cdS) 0 (by simp) (by decide) (by simpa [cdS] using hc60), h2.no (x := backS) 0 (by simp) (by decide) (by simpa [backS] using hc60), h2.no (x := ltS) 0 (by simp) (by decide) (by simpa [ltS] using hc60), hrun, h.ext, (ho _ _).1, (ho ⟨0, 0, 0⟩ 0).2]
    rfl
  have ha : asideB s k = false := by
    unfold asideB
    rw [h2.no (x := comS) 0 (by simp) (by decide) (by simpa [comS] using hc60), h2.no (x := insS) 0 (by simp) (by decide) (by simpa [insS] using hc60)]
    rfl
  have hk := h2.lt
  unfold nextR
  rw [asides_no (p := ⟨k, 0, 0⟩) _ ha, if_neg (by simp only; omega)]
  simp only
  rw [if_neg (by rw [hp]; simp), hp]
theorem next_bl {s : ByteArray} {k : Nat} {b r : List UInt8} (hb : Bl b) (hb0 : b ≠ []) (h : Lies s k (b ++ 60 :: r)) : nextR s ⟨k, 0, 0⟩ = (⟨4, ByteArray.empty, [], str b, k⟩, ⟨k + b.length, 0, 0⟩) := by
  have hr := h.right
  exact next_run (hb.no (by decide)) hb0 (openT_bl hb) h.left (.inr ⟨hr.hd, hr.lt⟩)
theorem skip_all {s : ByteArray} : ∀ (d k : Nat), s.size - k = d → k ≤ s.size → (∀ i, k ≤ i → i < s.size → blank (bt s i) = true) → skip s k = s.size := by
  intro d
  induction d with
  | zero => intro k hd hk _; rw [skip, if_neg (by omega)]; omega
  | succ d ih =>
    intro k hd hk h
    rw [skip, if_pos (by omega), if_pos (h k (Nat.le_refl _) (by omega))]
    exact ih (k + 1) (by omega) (by omega) (fun i h1 h2 => h i (by omega) h2)
theorem trim_bl {b : List UInt8} (h : Bl b) : (trim (str b)).size = 0 := by
  have hs : skip (str b) 0 = (str b).size := skip_all _ 0 rfl (Nat.zero_le _) fun i _ hi => by
    rw [str_size] at hi
    rw [bt_str, List.getD_eq_getElem?_getD, List.getElem?_eq_getElem hi]
    exact h _ (List.getElem_mem hi)
  unfold trim
  rw [hs, back_stop (Nat.le_refl _), cut_size (Nat.le_refl _)]
  omega
/-- the attribute that tells of names without a prefix -/
def xmB : List UInt8 := [120, 109, 108, 110, 115]
/-- the attributes of a written tag -/
def tagA (sp space : List UInt8) (al : List (List UInt8 × List UInt8)) : List (List UInt8 × List UInt8) := if str sp = str space then al else (xmB, sp) :: al
theorem spD_ats (sp space : List UInt8) (al : List (List UInt8 × List UInt8)) : spD (str sp) (str space) ++ atD (bsA al) = atsB [32] (tagA sp space al) := by
  have hA : ∀ l : List (List UInt8 × List UInt8), atD (bsA l) = atsB [32] l := by
    intro l
    induction l with
    | nil => rfl
    | cons a l ih =>
      have e1 : atD (bsA (a :: l)) = (32 :: (a.1 ++ ([61, 34] ++ (clL a.2 ++ [34])))) ++ atD (bsA l) := rfl
      have e2 : atsB [32] (a :: l) = ([32] ++ atB a) ++ atsB [32] l := rfl
      rw [e1, e2, ih]
      rfl
  unfold spD tagA
  split
  · rw [hA]; rfl
  · rw [hA, bl_str]
    have e2 : atsB [32] ((xmB, sp) :: al) = ([32] ++ atB (xmB, sp)) ++ atsB [32] al := rfl
    rw [e2]
    simp [atB, xmB]
end Xm
end Go.Proofs.YtdpkhmfolmcejaaGreatDoor
namespace Go.Proofs.YtdpkhmfolmcejaaGreatDoor
namespace Xm
theorem nl_cons {l : List UInt8} (h : Nl l) : ∃ r, l = 110 :: r := by
  obtain ⟨r, h, _⟩ := h
  exact ⟨r, h⟩
theorem tell_no {l : List UInt8} (h : Nl l) : (tellP (str l)).2 = false := by
  obtain ⟨r, rfl⟩ := nl_cons h
  unfold tellP
  rw [if_neg (by rw [ByteArray.toList_eq]; simp [str])]
  simp [str, xmlnsC, Lib.hasPrefix]
  rfl
theorem niceA_nl {al : List (List UInt8 × List UInt8)} (h : NiceA al) {j : Nat} {a : List UInt8 × List UInt8} (hj : al[j]? = some a) : Nl a.1 ∧ Vt a.2 ∧ ∃ n, a.1 = n ++ [UInt8.ofNat (65 + j)] ∧ j < 3 := by
  obtain ⟨n, h1, h2, h3, h4, _⟩ := h.2 j a hj
  have hj3 : j < 3 := by
    have := (List.getElem?_eq_some_iff.1 hj).1
    have := h.1
    omega
  exact ⟨by rw [h1]; exact h2.more h3 j hj3, h4, n, h1, hj3⟩
theorem niceA_mem {al : List (List UInt8 × List UInt8)} (h : NiceA al) {a : List UInt8 × List UInt8} (ha : a ∈ al) : Nl a.1 ∧ Vt a.2 := by
  obtain ⟨j, hj⟩ := List.mem_iff_getElem?.1 ha
  have := niceA_nl h hj
  exact ⟨this.1, this.2.1⟩
theorem niceA_nodup {al : List (List UInt8 × List UInt8)} (h : NiceA al) : (al.map (·.1)).Nodup := by
  unfold List.Nodup
  rw [List.pairwise_iff_getElem]
  intro i j hi hj hij e
  rw [List.length_map] at hi hj
  rw [List.getElem_map, List.getElem_map] at e
  obtain ⟨_, _, n, h1, g1⟩ := niceA_nl h (List.getElem?_eq_getElem (show i < al.length by omega))
  obtain ⟨_, _, m, h2, g2⟩ := niceA_nl h (List.getElem?_eq_getElem hj)
  rw [h1, h2] at e
  have e2 := congrArg List.getLast? e
  simp at e2
  have e3 := congrArg UInt8.toNat e2
  simp at e3
  omega
theorem space_vt {v : List UInt8} (h : v ∈ spaces) : Vt v := by
  have key : ∀ L : List Int, (∀ r ∈ L, r = 117 ∨ r = 118 ∨ r = 38 ∨ r = 60 ∨ r = 119) → Vt (cat L) := fun L hL => ⟨L, fun r hr => by
    rcases hL r hr with rfl | rfl | rfl | rfl | rfl <;> exact ⟨by decide, by decide⟩, rfl⟩
  simp only [spaces, List.mem_cons, List.not_mem_nil, or_false] at h
  rcases h with rfl | rfl | rfl | rfl
  · exact key [] (by simp)
  · exact key [117] (by simp)
  · exact key [118, 38, 60] (by simp)
  · exact key [119] (by simp)
theorem xm_nm : Nm xmB := ⟨by unfold xmB Pt; decide +kernel, by kernel_rfl⟩
theorem tagA_ok {sp space : List UInt8} {al : List (List UInt8 × List UInt8)} (hs : sp ∈ spaces) (ha : NiceA al) : AtOk (tagA sp space al) ∧ (tagA sp space al).length ≤ 16 := by
  have h1 : ∀ a ∈ al, Nm a.1 ∧ Vt a.2 := fun a h => ⟨(niceA_mem ha h).1.nm, (niceA_mem ha h).2⟩
  have h2 := niceA_nodup ha
  have h3 := ha.1
  unfold tagA
  split
  · exact ⟨⟨h1, h2⟩, by omega⟩
  · refine ⟨⟨fun a h => ?_, ?_⟩, by simp; omega⟩
    · rcases List.mem_cons.1 h with rfl | h
      · exact ⟨xm_nm, space_vt hs⟩
      · exact h1 a h
    · rw [List.map_cons, List.nodup_cons]
      refine ⟨fun hm => ?_, h2⟩
      obtain ⟨a, ha2, he⟩ := List.mem_map.1 hm
      obtain ⟨r, hr⟩ := nl_cons (niceA_mem ha ha2).1
      rw [hr] at he
      have := congrArg List.head? he
      simp [xmB] at this
theorem enter_no (d : Nat) (R : List Bd) : ∀ (l : List (List UInt8 × List UInt8)) (o : List (ByteArray × ByteArray)), (∀ a ∈ l, Nl a.1) → enterL d (bsA l) o R = (R, 0, o ++ bsA l)
  | [], o, _ => by simp [bsA, enterL]
  | a :: l, o, h => by
    have e : bsA (a :: l) = (str a.1, str a.2) :: bsA l := rfl
    rw [e, enterL, if_neg (by rw [tell_no (h a List.mem_cons_self)]; simp), enter_no d R l _ (fun b hb => h b (List.mem_cons_of_mem _ hb))]
    simp
/-- what is bound within a tag -/
def bindR (sp space : List UInt8) (d : Nat) (R : List Bd) : List Bd := if str sp = str space then R else (ByteArray.empty, str sp, d) :: R
theorem enter_tag {sp space : List UInt8} {al : List (List UInt8 × List UInt8)} (ha : NiceA al) (d : Nat) (R : List Bd) (hR : R.length < 100) : enterL d (bsA (tagA sp space al)) [] R = (bindR sp space d R, 0, bsA al) := by
  have hn : ∀ a ∈ al, Nl a.1 := fun a h => (niceA_mem ha h).1
  unfold tagA bindR
  split
  · rw [enter_no d R al [] hn]; rfl
  · have e : bsA ((xmB, sp) :: al) = (str xmB, str sp) :: bsA al := rfl
    have t : tellP (str xmB) = (ByteArray.empty, true) := by kernel_rfl
    have st : stopB ByteArray.empty (str sp) = false := by
      unfold stopB
      rw [show (ByteArray.empty.toList == [120, 109, 108]) = false by kernel_rfl, show (ByteArray.empty.toList == [120, 109, 108, 110, 115]) = false by kernel_rfl, show ByteArray.empty.toList.isEmpty = true by kernel_rfl]
      rfl
    rw [e, enterL]
    simp only [t, st]
    rw [if_pos trivial, if_neg (by simp), if_neg (by omega), enter_no d _ al [] hn]
    rfl
theorem of_bind {sp space : List UInt8} {d : Nat} {R : List Bd} (h : ofT R ByteArray.empty = (str space, true)) : ofT (bindR sp space d R) ByteArray.empty = (str sp, true) := by
  unfold bindR
  split
  · rename_i e; rw [h, e]
  · unfold ofT
    rw [List.find?_cons_of_pos (by simp)]
theorem begin_tag {sp space nm : List UInt8} {al : List (List UInt8 × List UInt8)} {p : Pc} (hn : Nl nm) (ha : NiceA al) {R : List Bd} {d n : Nat} (hR : R.length < 100) (hd : d < 32) (hc : n < 2000) (ho : ofT R ByteArray.empty = (str space, true)) (hp : p.name = str nm) (hpa : p.attrs = bsA (tagA sp space al)) :
    beginT p R d n = (.ok (str sp, str nm, bsA al), bindR sp space (d + 1) R, d + 1, n + 1) := by
  have he := enter_tag (sp := sp) (space := space) ha (d + 1) R hR
  have hN : nameP (bindR sp space (d + 1) R) (str nm) = (str sp, str nm, true) := by
    unfold nameP
    rw [hn.split]
    simp only
    rw [of_bind ho]
    rfl
  have hall : (bsA al).all (fun a => name a.1) = true := by
    rw [List.all_eq_true]
    intro x hx
    unfold bsA at hx
    obtain ⟨a, h1, rfl⟩ := List.mem_map.1 hx
    exact (niceA_mem ha h1).1.name
  unfold beginT
  rw [if_neg (by omega), if_neg (by omega), hpa, he, hp]
  simp only
  rw [if_neg (by simp), hN]
  simp only
  rw [if_neg (by simp), hall, if_neg (by simp)]
theorem leave_bind {sp space : List UInt8} {d : Nat} {R : List Bd} (h : ∀ r ∈ R, r.2.2 ≤ d) : leaveL (bindR sp space (d + 1) R) (d + 1) = R := by
  have h1 : R.dropWhile (fun r => r.2.2 == d + 1) = R := by
    cases R with
    | nil => rfl
    | cons r R =>
      have := h r List.mem_cons_self
      rw [List.dropWhile_cons_of_neg (by simp; omega)]
  unfold leaveL bindR
  rw [if_neg (by omega)]
  split
  · exact h1
  · rw [List.dropWhile_cons_of_pos (by simp), h1]
end Xm
end Go.Proofs.YtdpkhmfolmcejaaGreatDoor
namespace Go.Proofs.YtdpkhmfolmcejaaGreatDoor
namespace Xm
/-- an element's document, without what stands around it -/
def nodB : Nod → ByteArray → List UInt8 → List UInt8
  | .mk sp nm l ks tx, space, pad => 60 :: (bl nm ++ (spD sp space ++ (atD l ++
      (match ks with
        | [] => if tx.size = 0 then [47, 62] else 62 :: (clL (bl tx) ++ ([60, 47] ++ (bl nm ++ [62])))
        | k :: ks => [62, 10] ++ (docL (k :: ks) sp (pad ++ [32]) ++ (pad ++ ([60, 47] ++ (bl nm ++ [62]))))))))
theorem docN_nod (y : Nod) (space : ByteArray) (pad : List UInt8) : docN y space pad = pad ++ (nodB y space pad ++ [10]) := by
  obtain ⟨sp, nm, l, ks, tx⟩ := y
  cases ks with
  | nil =>
    rw [docN, nodB]
    split <;> simp
  | cons k ks =>
    rw [docN, nodB]
    rw [docL]
    simp
theorem nodB_first (y : Nod) (space : ByteArray) (pad : List UInt8) : ∃ r, nodB y space pad = 60 :: r := by
  obtain ⟨sp, nm, l, ks, tx⟩ := y
  exact ⟨_, rfl⟩
theorem nod_one {v space nm : List UInt8} {al : List (List UInt8 × List UInt8)} (pad : List UInt8) : nodB (.mk (str v) (str nm) (bsA al) [] (str [])) (str space) pad = tagB nm [32] (tagA v space al) [] true := by
  rw [nodB]
  rw [if_pos (show (str []).size = 0 from rfl), bl_str, tagB, ← spD_ats, List.append_assoc]
  rfl
theorem nod_text {v space nm t : List UInt8} {al : List (List UInt8 × List UInt8)} (pad : List UInt8) (ht : t ≠ []) : nodB (.mk (str v) (str nm) (bsA al) [] (str t)) (str space) pad = tagB nm [32] (tagA v space al) [] false ++ (clL t ++ backB nm []) := by
  rw [nodB]
  rw [if_neg (by rw [str_size]; intro e; exact ht (List.eq_nil_of_length_eq_zero e)), bl_str, bl_str, tagB, ← spD_ats]
  simp [endB, backB]
theorem nod_kids {v space nm : List UInt8} {al : List (List UInt8 × List UInt8)} {ks : List Nod} (tx : ByteArray) (pad : List UInt8) (hk : ks ≠ []) : nodB (.mk (str v) (str nm) (bsA al) ks tx) (str space) pad = tagB nm [32] (tagA v space al) [] false ++ ([10] ++ (docL ks (str v) (pad ++ [32]) ++ (pad ++ backB nm []))) := by
  cases ks with
  | nil => exact absurd rfl hk
  | cons k ks =>
    rw [nodB]
    rw [bl_str, tagB, ← spD_ats]
    simp [endB, backB]
theorem go_text {s : ByteArray} {f : Nat} {sp nm tx : ByteArray} {at1 : List (ByteArray × ByteArray)} {ks : List Nod} {p q : Pc} {st st2 : P3} {R : List Bd} {d n : Nat} (h : nextR s st = (q, st2)) (he : st2.e = 0) (hq : q.kind = 4) :
    goT s (f + 1) (some ⟨sp, nm, at1, ks, tx⟩) p ⟨st, R, d, n⟩ = goT s f (some ⟨sp, nm, at1, ks, tx ++ q.text⟩) p ⟨st2, R, d, n⟩ := by
  rw [goT]
  simp only [h]
  rw [if_neg (by simp [he]), if_pos hq]
theorem go_kid {s : ByteArray} {f : Nat} {sp nm tx : ByteArray} {at1 : List (ByteArray × ByteArray)} {ks : List Nod} {p q : Pc} {st st2 : P3} {R : List Bd} {d n : Nat} {y : Nod} {r2 : Rs} (h : nextR s st = (q, st2)) (he : st2.e = 0) (hq : q.kind = 1 ∨ q.kind = 3) (hg : goT s f none q ⟨st2, R, d, n⟩ = (.ok y, r2)) :
    goT s (f + 1) (some ⟨sp, nm, at1, ks, tx⟩) p ⟨st, R, d, n⟩ = goT s f (some ⟨sp, nm, at1, ks ++ [y], tx⟩) p r2 := by
  rw [goT]
  simp only [h]
  rw [if_neg (by simp [he]), if_neg (by omega), if_pos hq, hg]
theorem go_end {s : ByteArray} {f : Nat} {sp nm tx : ByteArray} {at1 : List (ByteArray × ByteArray)} {ks : List Nod} {p q : Pc} {st st2 : P3} {R : List Bd} {d n : Nat} (h : nextR s st = (q, st2)) (he : st2.e = 0) (hq : q.kind = 2) (hn : q.name = p.name) (ht : ks = [] ∨ (trim tx).size = 0) :
    goT s (f + 1) (some ⟨sp, nm, at1, ks, tx⟩) p ⟨st, R, d, n⟩ = (.ok ⟨sp, nm, at1, ks, if ks ≠ [] then ByteArray.empty else trim tx⟩, ⟨st2, R, d, n⟩) := by
  rw [goT]
  simp only [h]
  rw [if_neg (by simp [he]), if_neg (by omega), if_neg (by omega), if_pos hq, if_neg (by rw [hn]; simp), if_neg (by rintro ⟨h1, h2⟩; rcases ht with e | e; exact h1 e; exact h2 e)]
/-- an element is read at its place -/
def ReadsN (s : ByteArray) (d : Nat) : Prop := ∀ (y : Nod) (space pad : List UInt8), Nice d y → Bl pad → ∀ (k f : Nat) (R : List Bd) (dep n : Nat), Lies s k (nodB y (str space) pad) → ofT R ByteArray.empty = (str space, true) → (∀ r ∈ R, r.2.2 ≤ dep) → R.length + d ≤ 100 → dep + d ≤ 32 → n + cnt y ≤ 2000 → 2 * (s.size - k) ≤ f →
  ∃ q st2, nextR s ⟨k, 0, 0⟩ = (q, st2) ∧ st2.e = 0 ∧ (q.kind = 1 ∨ q.kind = 3) ∧ goT s f none q ⟨st2, R, dep, n⟩ = (.ok y, ⟨⟨k + (nodB y (str space) pad).length, 0, 0⟩, R, dep, n + cnt y⟩)
theorem bl_cons {pad : List UInt8} (h : Bl pad) : Bl (10 :: pad) := by
  intro c hc
  rcases List.mem_cons.1 hc with rfl | hc
  · decide
  · exact h c hc
theorem bl_app {a b : List UInt8} (h : Bl a) (k : Bl b) : Bl (a ++ b) := by
  intro c hc
  rcases List.mem_append.1 hc with hc | hc
  · exact h c hc
  · exact k c hc
theorem kids_T {s : ByteArray} {d : Nat} (IH : ReadsN s d) {v nm : List UInt8} (hnm : Nl nm) {S N : ByteArray} {A : List (ByteArray × ByteArray)} {p : Pc} (hp : p.name = str nm) {pad : List UInt8} (hpad : Bl pad) :
    ∀ (ks ks0 : List Nod) (b : List UInt8) (k f : Nat) (R : List Bd) (dep n : Nat), (∀ y ∈ ks, Nice d y) → Bl b → ks0 ++ ks ≠ [] → Lies s k ([10] ++ (docL ks (str v) (pad ++ [32]) ++ (pad ++ backB nm []))) → ofT R ByteArray.empty = (str v, true) → (∀ r ∈ R, r.2.2 ≤ dep) → R.length + d ≤ 100 → dep + d ≤ 32 → n + cntL ks ≤ 2000 → 2 * (s.size - k) ≤ f →
    goT s f (some ⟨S, N, A, ks0, str b⟩) p ⟨⟨k, 0, 0⟩, R, dep, n⟩ = (.ok ⟨S, N, A, ks0 ++ ks, ByteArray.empty⟩, ⟨⟨k + ([10] ++ (docL ks (str v) (pad ++ [32]) ++ (pad ++ backB nm []))).length, 0, 0⟩, R, dep, n + cntL ks⟩)
  | [], ks0, b, k, f, R, dep, n, _, hb, hne, hL, ho, hR, hR1, hd, hn, hf => by
    have hL : Lies s k ((10 :: pad) ++ 60 :: (47 :: (nm ++ ([] ++ [62])))) := by simpa [docL, backB] using hL
    have hle := hL.le
    simp only [List.length_append, List.length_cons] at hle
    obtain ⟨f, rfl⟩ : ∃ f', f = f' + 1 + 1 := ⟨f - 2, by omega⟩
    have hB : Lies s (k + (10 :: pad).length) (backB nm []) := hL.right
    have h1 := next_bl (bl_cons hpad) (by simp) hL
    have h2 := next_back hnm.nm (be := []) (by intro c hc; cases hc) hB
    rw [go_text h1 rfl rfl, go_end h2 rfl rfl (by rw [hp]) (.inr (by rw [str_append]; exact trim_bl (bl_app hb (bl_cons hpad))))]
    rw [List.append_nil] at hne
    rw [if_pos hne, List.append_nil]
    have e : k + ([10] ++ (docL [] (str v) (pad ++ [32]) ++ (pad ++ backB nm []))).length = k + (10 :: pad).length + (backB nm []).length := by simp [docL]; omega
    rw [e]
    rfl
  | y :: ks, ks0, b, k, f, R, dep, n, hks, hb, hne, hL, ho, hR, hR1, hd, hn, hf => by
    have hpad' : Bl (pad ++ [32]) := bl_app hpad (by intro c hc; rw [List.mem_singleton] at hc; subst hc; decide)
    obtain ⟨r, hr⟩ := nodB_first y (str v) (pad ++ [32])
    have e1 : [10] ++ (docL (y :: ks) (str v) (pad ++ [32]) ++ (pad ++ backB nm [])) = (10 :: (pad ++ [32])) ++ (nodB y (str v) (pad ++ [32]) ++ ([10] ++ (docL ks (str v) (pad ++ [32]) ++ (pad ++ backB nm [])))) := by
      rw [docL, docN_nod]; simp
    rw [e1] at hL
    have hle := hL.le
    rw [hr] at hle
    simp only [List.length_append, List.length_cons] at hle
    obtain ⟨f, rfl⟩ : ∃ f', f = f' + 1 + 1 := ⟨f - 2, by omega⟩
    have h1 := next_bl (bl_cons hpad') (by simp) (show Lies s k ((10 :: (pad ++ [32])) ++ 60 :: (r ++ ([10] ++ (docL ks (str v) (pad ++ [32]) ++ (pad ++ backB nm []))))) by rw [hr] at hL; exact hL)
    have hB : Lies s (k + (10 :: (pad ++ [32])).length) (nodB y (str v) (pad ++ [32]) ++ ([10] ++ (docL ks (str v) (pad ++ [32]) ++ (pad ++ backB nm [])))) := hL.right
    have hc : cntL (y :: ks) = cnt y + cntL ks := by rw [cntL]
    rw [hc] at hn
    obtain ⟨q, st2, g1, g2, g3, g4⟩ := IH y v (pad ++ [32]) (hks y List.mem_cons_self) hpad' (k + (10 :: (pad ++ [32])).length) f R dep n hB.left ho hR hR1 hd (by omega) (by simp only [List.length_cons, List.length_append] at *; omega)
    have hC := hB.right
    have ih := kids_T IH (v := v) hnm (S := S) (N := N) (A := A) hp hpad ks (ks0 ++ [y]) (b ++ 10 :: (pad ++ [32])) _ f R dep (n + cnt y) (fun z hz => hks z (List.mem_cons_of_mem _ hz)) (bl_app hb (bl_cons hpad')) (by simp) hC ho hR hR1 hd (by omega) (by simp only [List.length_cons, List.length_append] at *; omega)
    rw [go_text h1 rfl rfl, go_kid g1 g2 g3 g4, str_append, ih, e1, hc]
    simp only [List.length_append, List.length_cons, List.append_assoc, List.singleton_append, Nat.add_assoc]
theorem node_T (s : ByteArray) : ∀ d, ReadsN s d
  | 0 => fun y _ _ h => by cases h
  | d + 1 => by
    rintro ⟨sp, nm, l, ks, tx⟩ space pad h hpad k f R dep n hL ho hR hR1 hd hn hf
    obtain ⟨⟨v, hv, rfl⟩, ⟨nm, rfl, hnm, hn7⟩, ⟨al, rfl, ha⟩, hk3, hks, ⟨t, rfl, ht, ht12, htt⟩, htx⟩ := h
    obtain ⟨hat, ha16⟩ := tagA_ok (space := space) hv ha
    have hbs : Bl [32] := by intro c hc; rw [List.mem_singleton] at hc; subst hc; decide
    have hbe : Bl [] := by intro c hc; cases hc
    have hRb : ∀ r ∈ bindR v space (dep + 1) R, r.2.2 ≤ dep + 1 := by
      intro r hr
      unfold bindR at hr
      split at hr
      · have := hR r hr; omega
      · rcases List.mem_cons.1 hr with rfl | hr
        · exact Nat.le_refl _
        · have := hR r hr; omega
    have hRl : (bindR v space (dep + 1) R).length ≤ R.length + 1 := by
      unfold bindR
      split
      · omega
      · simp
    have hlv := leave_bind (sp := v) (space := space) hR
    have hc : cnt (.mk (str v) (str nm) (bsA al) ks (str t)) = 1 + cntL ks := rfl
    rw [hc] at hn ⊢
    by_cases h0 : ks = []
    · subst h0
      have hc0 : cntL [] = 0 := rfl
      rw [hc0] at hn ⊢
      by_cases ht0 : t = []
      · subst ht0
        rw [nod_one] at hL ⊢
        have hle := hL.le
        have htg := next_tag hnm.nm hbs (by simp) hbe (fun _ => rfl) hat ha16 hL
        have hb := begin_tag (p := ⟨3, str nm, bsA (tagA v space al), ByteArray.empty, k⟩) hnm ha (R := R) (d := dep) (n := n) (by omega) (by omega) (by omega) ho rfl rfl
        obtain ⟨f, rfl⟩ : ∃ f', f = f' + 1 := ⟨f - 1, by simp [tagB] at hle; omega⟩
        refine ⟨_, _, htg, rfl, .inr rfl, ?_⟩
        rw [goT]
        simp only [if_true, hb]
        rw [leaveR, hlv]
        rfl
      · rw [nod_text pad ht0] at hL ⊢
        have hle := hL.le
        have htg := next_tag hnm.nm hbs (by simp) hbe (fun e => by cases e) hat ha16 hL.left
        have hb := begin_tag (p := ⟨1, str nm, bsA (tagA v space al), ByteArray.empty, k⟩) hnm ha (R := R) (d := dep) (n := n) (by omega) (by omega) (by omega) ho rfl rfl
        have hT := hL.right
        have hB := hT.right
        have g1 := next_text ht ht0 hT.left (.inr ⟨Lies.hd (l := 47 :: (nm ++ ([] ++ [62]))) hB, Lies.lt (l := 47 :: (nm ++ ([] ++ [62]))) hB⟩)
        have g2 := next_back hnm.nm hbe hB
        obtain ⟨f, rfl⟩ : ∃ f', f = f' + 1 + 1 + 1 := ⟨f - 3, by simp [tagB, endB, backB] at hle; omega⟩
        refine ⟨_, _, htg, rfl, .inl rfl, ?_⟩
        rw [goT]
        simp only [Bool.false_eq_true, if_false, hb]
        rw [if_neg (by decide), go_text g1 rfl rfl, go_end (p := ⟨1, str nm, bsA (tagA v space al), ByteArray.empty, k⟩) g2 rfl rfl rfl (.inl rfl)]
        simp only
        rw [leaveR]
        simp only
        rw [hlv, if_neg (by simp)]
        have e : ByteArray.empty ++ str t = str t := by rw [show ByteArray.empty = str [] from rfl, str_append]; rfl
        rw [e, htt]
        simp only [List.length_append, Nat.add_assoc]
        rfl
    · have htE := htx h0
      rw [nod_kids _ pad h0] at hL ⊢
      have hle := hL.le
      have htg := next_tag hnm.nm hbs (by simp) hbe (fun e => by cases e) hat ha16 hL.left
      have hb := begin_tag (p := ⟨1, str nm, bsA (tagA v space al), ByteArray.empty, k⟩) hnm ha (R := R) (d := dep) (n := n) (by omega) (by omega) (by omega) ho rfl rfl
      obtain ⟨f, rfl⟩ : ∃ f', f = f' + 1 := ⟨f - 1, by simp [tagB] at hle; omega⟩
      have hk := kids_T (node_T s d) (v := v) hnm (S := str v) (N := str nm) (A := bsA al) (p := ⟨1, str nm, bsA (tagA v space al), ByteArray.empty, k⟩) rfl hpad ks [] [] _ f _ (dep + 1) (n + 1) hks hbe (by simpa using h0) hL.right (of_bind ho) hRb (by omega) (by omega) (by omega) (by simp [tagB] at hle ⊢; omega)
      refine ⟨_, _, htg, rfl, .inl rfl, ?_⟩
      rw [goT]
      simp only [Bool.false_eq_true, if_false, hb]
      rw [show str [] = ByteArray.empty from rfl] at hk
      rw [if_neg (by decide), hk]
      simp only
      rw [leaveR]
      simp only
      rw [hlv, htE]
      simp only [List.length_append, Nat.add_assoc]
      rfl
end Xm
end Go.Proofs.YtdpkhmfolmcejaaGreatDoor
namespace Go.Proofs.YtdpkhmfolmcejaaGreatDoor
namespace Xm
theorem lt_lit {l : List UInt8} (h : l.all (fun c => decide (32 ≤ c.toNat) && decide (c.toNat < 127) || c == 9 || c == 10 || c == 13) = true) : Lt l := Lt.asc fun c hc => by
  have := List.all_eq_true.1 h c hc
  simp only [Bool.or_eq_true, Bool.and_eq_true, decide_eq_true_eq, beq_iff_eq] at this
  exact asc_of c (by
    rcases this with ((h | h) | h) | h
    · exact .inl h
    · exact .inr (.inl h)
    · exact .inr (.inr (.inl h))
    · exact .inr (.inr (.inr h)))
theorem lt_cons {c : UInt8} {l : List UInt8} (h : Lt l) (hc : Lt [c]) : Lt (c :: l) := hc.append h
theorem atD_lt : ∀ (al : List (List UInt8 × List UInt8)), (∀ a ∈ al, Nl a.1 ∧ Vt a.2) → Lt (atD (bsA al))
  | [], _ => Lt.nil
  | a :: al, h => by
    have ih := atD_lt al fun b hb => h b (List.mem_cons_of_mem _ hb)
    have ha := h a List.mem_cons_self
    have e : atD (bsA (a :: al)) = (32 :: (a.1 ++ ([61, 34] ++ (clL a.2 ++ [34])))) ++ atD (bsA al) := rfl
    rw [e]
    exact (lt_cons (ha.1.lt.append ((lt_lit (by decide)).append (ha.2.close.append (lt_lit (by decide))))) (lt_lit (by decide))).append ih
theorem spD_lt {v : List UInt8} (hv : v ∈ spaces) (space : ByteArray) : Lt (spD (str v) space) := by
  unfold spD
  split
  · exact Lt.nil
  · rw [bl_str]
    exact (lt_lit (by decide)).append ((space_vt hv).close.append (lt_lit (by decide)))
theorem docN_lt : ∀ (d : Nat) (y : Nod) (space : ByteArray) (pad : List UInt8), Nice d y → Bl pad → Lt (docN y space pad)
  | 0, _, _, _, h, _ => by cases h
  | d + 1, .mk sp nm l ks tx, space, pad, h, hp => by
    obtain ⟨⟨v, hv, rfl⟩, ⟨n, rfl, hn, hn7⟩, ⟨al, rfl, ha⟩, hk3, hks, ⟨t, rfl, ht, ht12, _⟩, _⟩ := h
    have hh : Lt (headD (str v) (str n) (bsA al) space pad) := by
      unfold headD
      rw [bl_str]
      exact hp.lt.append (lt_cons (hn.lt.append ((spD_lt hv space).append (atD_lt al fun a h => niceA_mem ha h))) (lt_lit (by decide)))
    have hb : Lt ([60, 47] ++ (n ++ [62, 10])) := (lt_lit (by decide)).append (hn.lt.append (lt_lit (by decide)))
    by_cases h0 : ks = []
    · subst h0
      rw [docN_nil]
      refine hh.append ?_
      split
      · exact lt_lit (by decide)
      · rw [bl_str, bl_str]
        exact lt_cons (ht.close.append hb) (lt_lit (by decide))
    · rw [docN_kids _ _ _ _ _ _ _ h0, bl_str]
      have hall : ∀ (ys : List Nod), (∀ y ∈ ys, Nice d y) → Lt (docL ys (str v) (pad ++ [32])) := by
        intro ys
        induction ys with
        | nil => intro _; exact Lt.nil
        | cons y ys ih =>
          intro hy
          rw [docL]
          exact (docN_lt d y _ _ (hy y List.mem_cons_self) (bl_app hp (by intro c hc; rw [List.mem_singleton] at hc; subst hc; decide))).append (ih fun z hz => hy z (List.mem_cons_of_mem _ hz))
      exact hh.append ((lt_lit (by decide)).append ((hall ks hks).append (hp.lt.append hb)))
/-- the text of TreeBack -/
def backU (v : List UInt8) (y : Nod) : List UInt8 := [32] ++ (comB v ++ ([10] ++ (docN y ByteArray.empty [] ++ ([9] ++ insB [120]))))
theorem backU_new {v : List UInt8} {d : Nat} {y : Nod} (hv : Lt v) (hy : Nice d y) (hl : (backU v y).length ≤ 200000) : newT (str (backU v y)) = ⟨0, 0, 0⟩ :=
  new_lt ((lt_lit (by decide)).append (((lt_lit (by decide)).append (hv.append (lt_lit (by decide)))).append ((lt_lit (by decide)).append ((docN_lt d y _ _ hy (by intro c hc; cases hc)).append ((lt_lit (by decide)).append (lt_lit (by decide))))))) hl
theorem doc_text {s : ByteArray} {f : Nat} {o : Option Nod} {st st2 : P3} {R : List Bd} {d n : Nat} {q : Pc} (h : nextR s st = (q, st2)) (he : st2.e = 0) (hq : q.kind = 4) (ht : (trim q.text).size = 0) : docT s (f + 1) o ⟨st, R, d, n⟩ = docT s f o ⟨st2, R, d, n⟩ := by
  rw [docT]
  simp only [h]
  rw [if_neg (by simp [he])]
  cases o with
  | none => simp only; rw [if_pos ⟨hq, ht⟩]
  | some y => simp only; rw [if_neg (by omega), if_pos ⟨hq, ht⟩]
theorem doc_kid {s : ByteArray} {f : Nat} {st st2 : P3} {R : List Bd} {d n : Nat} {q : Pc} {y : Nod} {r2 : Rs} (h : nextR s st = (q, st2)) (he : st2.e = 0) (hq : q.kind = 1 ∨ q.kind = 3) (hg : goT s (2 * s.size + 2) none q ⟨st2, R, d, n⟩ = (.ok y, r2)) : docT s (f + 1) none ⟨st, R, d, n⟩ = docT s f (some y) r2 := by
  rw [docT]
  simp only [h]
  rw [if_neg (by simp [he]), if_neg (by omega), if_pos hq, hg]
theorem doc_end {s : ByteArray} {f : Nat} {st st2 : P3} {R : List Bd} {d n : Nat} {q : Pc} {y : Nod} (h : nextR s st = (q, st2)) (he : st2.e = 0) (hq : q.kind = 0) : docT s (f + 1) (some y) ⟨st, R, d, n⟩ = .ok y := by
  rw [docT]
  simp only [h]
  rw [if_neg (by simp [he]), if_pos hq]
theorem bl_one {c : UInt8} (h : blank (c.toNat : Int) = true) : Bl [c] := by intro d hd; rw [List.mem_singleton] at hd; subst hd; exact h
theorem backU_parse {v : List UInt8} {d : Nat} {y : Nod} (hv : Lt v) (hd : Lib.index (v ++ [45]) [45, 45] = -1) (hy : Nice d y) (hd32 : d ≤ 32) (hc : cnt y ≤ 2000) : parseT (str (backU v y)) = .ok y := by
  obtain ⟨s, hs⟩ : ∃ s, s = str (backU v y) := ⟨_, rfl⟩
  rw [← hs]
  have hz : s.size = (backU v y).length := by rw [hs, str_size]
  have hL : Lies s 0 (backU v y) := Lies.of (A := []) (B := []) (by rw [hs]; simp [str]) rfl
  have e : backU v y = [32] ++ (comB v ++ ([10] ++ (nodB y ByteArray.empty [] ++ ([10, 9] ++ insB [120])))) := by
    rw [backU, docN_nod]; simp
  have hlen : s.size = 1 + (comB v).length + 1 + (nodB y ByteArray.empty []).length + 2 + 5 := by rw [hz, e]; simp [insB]; omega
  rw [e] at hL
  have L1 : Lies s 1 (comB v ++ ([10] ++ (nodB y ByteArray.empty [] ++ ([10, 9] ++ insB [120])))) := by simpa using hL.right
  have L2 := L1.right
  have L3 : Lies s (1 + (comB v).length + 1) (nodB y ByteArray.empty [] ++ ([10, 9] ++ insB [120])) := L2.right
  have L4 := L3.right
  have L5 : Lies s (1 + (comB v).length + 1 + (nodB y ByteArray.empty []).length + 2) (insB [120]) := L4.right
  obtain ⟨r, hr⟩ := nodB_first y ByteArray.empty []
  have h1 : nextR s ⟨0, 0, 0⟩ = (⟨4, ByteArray.empty, [], str [32], 0⟩, ⟨0 + 1, 0, 0⟩) := next_bl (b := [32]) (r := [33, 45, 45] ++ (v ++ [45, 45, 62]) ++ ([10] ++ (nodB y ByteArray.empty [] ++ ([10, 9] ++ insB [120])))) (bl_one (by decide)) (by simp) (by simpa [comB] using hL)
  have h2 : nextR s ⟨1, 0, 0⟩ = (⟨4, ByteArray.empty, [], str [10], (1 + (comB v).length : Nat)⟩, ⟨1 + (comB v).length + 1, 0, 0⟩) := by
    rw [next_com hv hd L1.left]
    exact next_bl (b := [10]) (r := r ++ ([10, 9] ++ insB [120])) (bl_one (by decide)) (by simp) (by rw [hr] at L2; exact L2)
  obtain ⟨q, st2, g1, g2, g3, g4⟩ := node_T s d y [] [] hy (by intro c hc; cases hc) (1 + (comB v).length + 1) (2 * s.size + 2) newB 0 0 L3.left (by kernel_rfl) (by intro r hr; simp [newB, xmlB] at hr; rcases hr with rfl | rfl <;> exact Nat.le_refl _) (by show 2 + d ≤ 100; omega) (by omega) (by omega) (by omega)
  rw [show str [] = ByteArray.empty from rfl] at g4
  have h4 : nextR s ⟨1 + (comB v).length + 1 + (nodB y ByteArray.empty []).length, 0, 0⟩ = (⟨4, ByteArray.empty, [], str [10, 9], (1 + (comB v).length + 1 + (nodB y ByteArray.empty []).length : Nat)⟩, ⟨1 + (comB v).length + 1 + (nodB y ByteArray.empty []).length + 2, 0, 0⟩) :=
    next_bl (b := [10, 9]) (r := [63, 120, 63, 62]) (by intro c hc; simp at hc; rcases hc with rfl | rfl <;> decide) (by simp) L4
  have h5 : nextR s ⟨1 + (comB v).length + 1 + (nodB y ByteArray.empty []).length + 2, 0, 0⟩ = (Pc.zero, ⟨s.size, 0, 0⟩) := by
    rw [next_ins (lt_lit (by decide)) (by decide) L5, show 1 + (comB v).length + 1 + (nodB y ByteArray.empty []).length + 2 + (insB [120]).length = s.size by rw [hlen]; rfl]
    exact next_eof _
  unfold parseT r0
  obtain ⟨f, hf⟩ : ∃ f, s.size + 1 = f + 1 + 1 + 1 + 1 + 1 := ⟨s.size - 4, by omega⟩
  rw [hf, doc_text h1 rfl rfl (trim_bl (bl_one (by decide))), doc_text h2 rfl rfl (trim_bl (bl_one (by decide))), doc_kid g1 g2 g3 g4, doc_text h4 rfl rfl (trim_bl (by intro c hc; simp at hc; rcases hc with rfl | rfl <;> decide)), doc_end h5 rfl rfl]
end Xm
end Go.Proofs.YtdpkhmfolmcejaaGreatDoor
