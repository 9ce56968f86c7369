/- WriteMay's plain law: an element of few, one of its parts another one, may be or may not. No program. -/
import Derived.Test.YtdpkhmfolmcejaaWNice
namespace Go.Proofs.Ytdpkhmfolmcejaa
namespace Xm
mutual
/-- how much an element's document has at most, without what stands ahead of its lines -/
def wt : Nod → Nat
  | .mk sp nm l ks tx => 2 * nm.size + 6 * sp.size + 6 * tx.size + 30 + (atD l).length + wtL ks
def wtL : List Nod → Nat
  | [] => 0
  | y :: ys => wt y + wtL ys
end
theorem spD_len (sp space : ByteArray) : (spD sp space).length ≤ 9 + 6 * sp.size := by
  unfold spD
  split
  · simp
  · have := clL_len (bl sp)
    rw [bl_len] at this
    simp only [List.length_append, List.length_cons, List.length_nil]
    omega
mutual
theorem docN_wt : ∀ (x : Nod) (space : ByteArray) (pad : List UInt8), (docN x space pad).length ≤ wt x + 2 * (pad.length + dep x) * cnt x
  | .mk sp nm l ks tx, space, pad => by
    have hsp := spD_len sp space
    by_cases hk : ks = []
    · subst hk
      rw [docN_nil, wt, dep, cnt, wtL, depL, cntL]
      unfold headD
      have ht := clL_len (bl tx)
      rw [bl_len] at ht
      split <;> simp only [List.length_append, List.length_cons, List.length_nil, bl_len] <;> omega
    · rw [docN_kids _ _ _ _ _ _ _ hk, wt, dep, cnt]
      have h := docL_wt ks sp (pad ++ [32])
      unfold headD
      simp only [List.length_append, List.length_cons, List.length_nil, bl_len] at h ⊢
      have e : 2 * (pad.length + (depL ks + 1)) * (1 + cntL ks) = 2 * (pad.length + (depL ks + 1)) + 2 * (pad.length + (0 + 1) + depL ks) * cntL ks := by
        rw [Nat.mul_add, Nat.mul_one, show pad.length + (0 + 1) + depL ks = pad.length + (depL ks + 1) by omega]
      rw [e]
      omega
theorem docL_wt : ∀ (ks : List Nod) (sp : ByteArray) (pad : List UInt8), (docL ks sp pad).length ≤ wtL ks + 2 * (pad.length + depL ks) * cntL ks
  | [], sp, pad => by rw [docL]; simp
  | y :: ys, sp, pad => by
    have h1 := docN_wt y sp pad
    have h2 := docL_wt ys sp pad
    rw [docL, List.length_append, wtL, depL, cntL, Nat.mul_add]
    have e1 : 2 * (pad.length + dep y) * cnt y ≤ 2 * (pad.length + max (dep y) (depL ys)) * cnt y := Nat.mul_le_mul_right _ (by omega)
    have e2 : 2 * (pad.length + depL ys) * cntL ys ≤ 2 * (pad.length + max (dep y) (depL ys)) * cntL ys := Nat.mul_le_mul_right _ (by omega)
    omega
end
/-- an element that may be, or may not, and is not too long -/
structure Rdy (W : Bool) (y : Nod) : Prop where
  may : mayB y = W
  sz : Szd y
  doc : (docN y ⟨#[]⟩ []).length ≤ 100000
  cnt : cnt y ≤ 100
theorem Rdy.text {W : Bool} {y : Nod} (h : Rdy W y) : (W = true → (wtext y).size ≠ 0) ∧ (W = false → (wtext y).size = 0) := by
  refine ⟨fun e => ?_, fun e => ?_⟩
  · rw [wtext, if_pos ⟨by rw [h.may, e], by have := h.doc; omega⟩, str_size]
    have := docN_ge y ⟨#[]⟩ []
    omega
  · rw [wtext, if_neg (by rw [h.may, e]; simp)]
    rfl
/-- what is known of the parts of an element of few -/
structure Prt (sp nm : ByteArray) (l : List (ByteArray × ByteArray)) (ks : List Nod) (tx : ByteArray) : Prop where
  n : name nm = true
  s : decide (0 ≤ text sp 0) = false
  t : decide (0 ≤ text tx 0) = false
  tr : trim tx = tx
  l3 : l.length ≤ 3
  a : attsB [] l = true
  k : allL ks = true
  kt : ks.length = 0 ∨ tx.size = 0
  zs : sp.size ≤ 9
  zn : nm.size ≤ 9
  zt : tx.size ≤ 12
  za : ∀ a ∈ l, a.1.size ≤ 1000000000 ∧ a.2.size ≤ 1000000000
  zd : (atD l).length ≤ 300
  zk : SzdL ks
  dk : depL ks ≤ 1
  ck : cntL ks ≤ 3
  wk : wtL ks ≤ 3000
theorem cntL_le (m : Nat) : ∀ (ks : List Nod), (∀ y ∈ ks, cnt y ≤ m) → cntL ks ≤ m * ks.length := nice_cntL m
theorem wtL_le (m : Nat) : ∀ (ks : List Nod), (∀ y ∈ ks, wt y ≤ m) → wtL ks ≤ m * ks.length
  | [], _ => Nat.zero_le _
  | y :: ys, h => by
    have h1 := h y (by simp)
    have h2 := wtL_le m ys fun z hz => h z (List.mem_cons_of_mem _ hz)
    rw [wtL, List.length_cons, Nat.mul_add]
    omega
theorem niceA_atD {al : List (List UInt8 × List UInt8)} (h : NiceA al) : (atD (bsA al)).length ≤ 198 := by
  have := (atD_bd al (niceA_bd h)).1
  have := h.1
  omega
theorem nice1_wt {y : Nod} (h : Nice 1 y) : wt y ≤ 400 := by
  obtain ⟨sp, nm, l, ks, tx⟩ := y
  unfold Nice at h
  obtain ⟨⟨v, hv, rfl⟩, ⟨n, rfl, hn, hn7⟩, ⟨al, rfl, hal⟩, h3, hk, ⟨t, rfl, ht, ht12, htr⟩, hkt⟩ := h
  have hks : ks = [] := by
    cases ks with
    | nil => rfl
    | cons y ys => exact absurd (hk y (by simp)) (by unfold Nice; simp)
  subst hks
  rw [wt, wtL]
  have e1 : (str n).size = n.length := str_size n
  have e2 : (str t).size = t.length := str_size t
  have h1 := spaces_size v hv
  have h2 := niceA_atD hal
  omega
theorem Prt.of {sp nm : ByteArray} {l : List (ByteArray × ByteArray)} {ks : List Nod} {tx : ByteArray} (h : Nice 2 (.mk sp nm l ks tx)) : Prt sp nm l ks tx := by
  unfold Nice at h
  obtain ⟨⟨v, hv, rfl⟩, ⟨n, rfl, hn, hn7⟩, ⟨al, rfl, hal⟩, h3, hk, ⟨t, rfl, ht, ht12, htr⟩, hkt⟩ := h
  have hw := wtL_le 400 ks fun y hy => nice1_wt (hk y hy)
  have hc := cntL_le 1 ks fun y hy => nice_cnt1 y (hk y hy)
  refine ⟨hn.name, spaces_text v hv, vt_text ht, htr, by simpa [bsA] using hal.1, nice_atts al hal al [] rfl, allL_all ks fun y hy => (nice_all 1 y (hk y hy)).1, ?_, by have := spaces_size v hv; omega, by rw [str_size]; omega, by rw [str_size]; omega, niceA_sz hal, by have := niceA_atD hal; omega, szdL_all ks fun y hy => (nice_all 1 y (hk y hy)).2.1, depL_le 1 ks fun y hy => (nice_all 1 y (hk y hy)).2.2, by omega, by omega⟩
  by_cases e : ks = []
  · exact .inl (by rw [e]; rfl)
  · exact .inr (by rw [hkt e]; rfl)
theorem may_mk {sp nm : ByteArray} {l : List (ByteArray × ByteArray)} {ks : List Nod} {tx : ByteArray} (hd : depL ks ≤ 1) (hc : cntL ks ≤ 3) : mayB (.mk sp nm l ks tx) = (nodeB sp nm l ks.length tx && allL ks) := by
  rw [mayB, dep, cnt, allB, decide_eq_true (by omega), decide_eq_true (by omega)]
  rfl
theorem rdy_mk {W : Bool} {sp nm : ByteArray} {l : List (ByteArray × ByteArray)} {ks : List Nod} {tx : ByteArray} (hd : depL ks ≤ 1) (hc : cntL ks ≤ 3) (hk : SzdL ks) (hw : wtL ks ≤ 3000) (hs : sp.size ≤ 12) (hn : nm.size ≤ 12) (ht : tx.size ≤ 12) (ha : ∀ a ∈ l, a.1.size ≤ 1000000000 ∧ a.2.size ≤ 1000000000) (hl : (atD l).length ≤ 300)
    (h : (nodeB sp nm l ks.length tx && allL ks) = W) : Rdy W (.mk sp nm l ks tx) := by
  refine ⟨by rw [may_mk hd hc, h], ?_, ?_, by rw [cnt]; omega⟩
  · rw [Szd]; exact ⟨by omega, by omega, by omega, ha, hk⟩
  · have := docN_wt (.mk sp nm l ks tx) ⟨#[]⟩ []
    rw [wt, dep, cnt, List.length_nil] at this
    have e : 2 * (0 + (depL ks + 1)) * (1 + cntL ks) ≤ 2 * (0 + (1 + 1)) * (1 + 3) := Nat.mul_le_mul (by omega) (by omega)
    omega
theorem bad2_no {l : List (ByteArray × ByteArray)} {n : Nat} {tx : ByteArray} (hl : l.length ≤ 3) (h : n = 0 ∨ tx.size = 0) : bad2 l n tx = false := by
  unfold bad2
  rcases h with h | h <;> simp [h] <;> omega
theorem atD1 (a b : ByteArray) (ha : a.size ≤ 9) (hb : b.size ≤ 9) : (atD [(a, b)]).length ≤ 300 := by
  have := clL_len (bl b)
  rw [bl_len] at this
  simp only [atD, List.flatMap_cons, List.flatMap_nil, List.length_append, List.length_cons, List.length_nil, bl_len]
  omega
theorem badA_b (t : ByteArray) : badA (⟨#[98]⟩, t) = decide (0 ≤ text t 0) := by
  have h1 : name ⟨#[98]⟩ = true := by kernel_rfl
  have h2 : ((⟨#[98]⟩ : ByteArray).toList == xmlns) = false := by decide +kernel
  unfold badA
  rw [h1, h2]
  rfl
section
variable {sp nm : ByteArray} {l : List (ByteArray × ByteArray)} {ks : List Nod} {tx : ByteArray} (p : Prt sp nm l ks tx) (t : ByteArray) (ht : t.size ≤ 9)
include p
include ht in
theorem rdy0 : Rdy (name t) (.mk sp t l ks tx) := by
  refine rdy_mk p.dk p.ck p.zk p.wk (by have := p.zs; omega) (by omega) p.zt p.za p.zd ?_
  rw [nodeB, bad1, p.s, p.t, p.tr, bad2_no p.l3 p.kt, p.a, p.k]
  cases name t <;> simp
include ht in
theorem rdy1 : Rdy (decide (text t 0 < 0) && (trim t).toList == t.toList) (.mk sp nm l [] t) := by
  refine rdy_mk (by simp [depL]) (by simp [cntL]) trivial (by simp [wtL]) (by have := p.zs; omega) (by have := p.zn; omega) (by omega) p.za p.zd ?_
  show (nodeB sp nm l 0 t && true) = _
  rw [nodeB, bad1, p.s, p.n, bad2_no p.l3 (.inl rfl), p.a]
  by_cases h : text t 0 < 0
  · rw [decide_eq_true h, decide_eq_false (by omega : ¬ 0 ≤ text t 0)]
    cases hq : (trim t).toList == t.toList <;> simp [bne, hq]
  · rw [decide_eq_false h, decide_eq_true (by omega : 0 ≤ text t 0)]
    simp
include ht in
theorem rdy2 : Rdy (name t && !(t.toList == xmlns)) (.mk sp nm [(t, ⟨#[118]⟩)] ks tx) := by
  refine rdy_mk p.dk p.ck p.zk p.wk (by have := p.zs; omega) (by have := p.zn; omega) p.zt (fun a ha => ?_) (atD1 t _ ht (by decide)) ?_
  · simp only [List.mem_cons, List.not_mem_nil, or_false] at ha
    subst ha
    exact ⟨by show t.size ≤ _; omega, by show 1 ≤ _; omega⟩
  · have h1 : decide (0 ≤ text ⟨#[118]⟩ 0) = false := by kernel_rfl
    rw [nodeB, bad1, p.s, p.t, p.tr, p.n, bad2_no (by simp) p.kt, p.k, attsB, attsB, badA, h1]
    cases name t <;> cases t.toList == xmlns <;> simp
include ht in
theorem rdy3 : Rdy (decide (text t 0 < 0)) (.mk sp nm [(⟨#[98]⟩, t)] ks tx) := by
  refine rdy_mk p.dk p.ck p.zk p.wk (by have := p.zs; omega) (by have := p.zn; omega) p.zt (fun a ha => ?_) (atD1 _ t (by decide) ht) ?_
  · simp only [List.mem_cons, List.not_mem_nil, or_false] at ha
    subst ha
    exact ⟨by show 1 ≤ _; omega, by show t.size ≤ _; omega⟩
  · rw [nodeB, bad1, p.s, p.t, p.tr, p.n, bad2_no (by simp) p.kt, p.k, attsB, attsB, badA_b]
    by_cases h : text t 0 < 0
    · rw [decide_eq_true h, decide_eq_false (by omega : ¬ 0 ≤ text t 0)]; simp
    · rw [decide_eq_false h, decide_eq_true (by omega : 0 ≤ text t 0)]; simp
theorem rdy4 : Rdy false (.mk sp nm [(⟨#[98]⟩, ⟨#[]⟩), (⟨#[98]⟩, ⟨#[]⟩)] ks tx) := by
  refine rdy_mk p.dk p.ck p.zk p.wk (by have := p.zs; omega) (by have := p.zn; omega) p.zt (fun a ha => ?_) (by decide +kernel) ?_
  · simp only [List.mem_cons, List.not_mem_nil, or_false] at ha
    rcases ha with rfl | rfl <;> exact ⟨by decide, by decide⟩
  · have h1 : attsB [] [((⟨#[98]⟩ : ByteArray), (⟨#[]⟩ : ByteArray)), (⟨#[98]⟩, ⟨#[]⟩)] = false := by kernel_rfl
    rw [nodeB, h1]; simp
theorem rdy5 : Rdy false (.mk sp nm l [.mk ⟨#[]⟩ ⟨#[107]⟩ [] [] ⟨#[]⟩] ⟨#[120]⟩) := by
  refine rdy_mk (by decide) (by decide) (by simp [SzdL, Szd]; decide) (by decide) (by have := p.zs; omega) (by have := p.zn; omega) (by decide) p.za p.zd ?_
  rw [nodeB, show bad2 l [Nod.mk ⟨#[]⟩ ⟨#[107]⟩ [] [] ⟨#[]⟩].length ⟨#[120]⟩ = true from rfl]; simp
theorem rdy6 : Rdy false (.mk sp nm l [.mk ⟨#[]⟩ ⟨#[]⟩ [] [] ⟨#[]⟩] ⟨#[]⟩) := by
  refine rdy_mk (by decide) (by decide) (by simp [SzdL, Szd]; decide) (by decide) (by have := p.zs; omega) (by have := p.zn; omega) (by decide) p.za p.zd ?_
  have h1 : allL [Nod.mk ⟨#[]⟩ ⟨#[]⟩ [] [] ⟨#[]⟩] = false := by kernel_rfl
  rw [h1]; simp
include ht in
theorem rdy7 : Rdy (decide (text t 0 < 0)) (.mk t nm l ks tx) := by
  refine rdy_mk p.dk p.ck p.zk p.wk (by omega) (by have := p.zn; omega) p.zt p.za p.zd ?_
  rw [nodeB, bad1, p.n, p.t, p.tr, bad2_no p.l3 p.kt, p.a, p.k]
  by_cases h : text t 0 < 0
  · rw [decide_eq_true h, decide_eq_false (by omega : ¬ 0 ≤ text t 0)]; simp
  · rw [decide_eq_false h, decide_eq_true (by omega : 0 ≤ text t 0)]; simp
end
end Xm
end Go.Proofs.Ytdpkhmfolmcejaa
