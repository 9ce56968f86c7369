/- WriteMay's plain law: an element of few, one of its parts another one, may be or may not. No program. -/
import Derived.Test.YtdpkhmfolmcejaaGreatDoorWNice
namespace Go.Proofs.YtdpkhmfolmcejaaGreatDoor
namespace Xm
mutual
/-- how much an element's document has at most, without what stands ahead of its lines -/
def wt : Nod → Nat
  | .mk sp nm l ks tx => 2 * nm.size + 6 * sp.size + 6 * tx.size + 30 + (atD l).length + wtL ks
def wtL : List Nod → Nat
  | [] => 0
  | y :: ys => wt y + wtL ys
end
/-- an element that may be, or may not, and is not too long -/
structure Rdy (W : Bool) (y : Nod) : Prop where
  may : mayB y = W
  sz : Szd y
  doc : (docN y ⟨#[]⟩ []).length ≤ 100000
  cnt : cnt y ≤ 100
theorem Rdy.text {W : Bool} {y : Nod} (h : Rdy W y) : (W = true → (wtext y).size ≠ 0) ∧ (W = false → (wtext y).size = 0) := by
  refine ⟨fun e => ?_, fun e => ?_⟩
  · rw [wtext, if_pos ⟨by rw [h.may, e], by have := h.doc; omega⟩, str_size]
    have := docN_ge y ⟨#[]⟩ []
    omega
  · rw [wtext, if_neg (by rw [h.may, e]; simp)]
    rfl
/-- what is known of the parts of an element of few -/
structure Prt (sp nm : ByteArray) (l : List (ByteArray × ByteArray)) (ks : List Nod) (tx : ByteArray) : Prop where
  n : name nm = true
  s : decide (0 ≤ text sp 0) = false
  t : decide (0 ≤ text tx 0) = false
  tr : trim tx = tx
  l3 : l.length ≤ 3
  a : attsB [] l = true
  k : allL ks = true
  kt : ks.length = 0 ∨ tx.size = 0
  zs : sp.size ≤ 9
  zn : nm.size ≤ 9
  zt : tx.size ≤ 12
  za : ∀ a ∈ l, a.1.size ≤ 1000000000 ∧ a.2.size ≤ 1000000000
  zd : (atD l).length ≤ 300
  zk : SzdL ks
  dk : depL ks ≤ 1
  ck : cntL ks ≤ 3
  wk : wtL ks ≤ 3000
theorem cntL_le (m : Nat) : ∀ (ks : List Nod), (∀ y ∈ ks, cnt y ≤ m) → cntL ks ≤ m * ks.length := nice_cntL m
theorem wtL_le (m : Nat) : ∀ (ks : List Nod), (∀ y ∈ ks, wt y ≤ m) → wtL ks ≤ m * ks.length
  | [], _ => Nat.zero_le _
  | y :: ys, h => by
    have h1 := h y (by simp)
    have h2 := wtL_le m ys fun z hz => h z (List.mem_cons_of_mem _ hz)
    rw [wtL, List.length_cons, Nat.mul_add]
    omega
theorem niceA_atD {al : List (List UInt8 × List UInt8)} (h : NiceA al) : (atD (bsA al)).length ≤ 198 := by
  have := (atD_bd al (niceA_bd h)).1
  have := h.1
  omega
theorem nice1_wt {y : Nod} (h : Nice 1 y) : wt y ≤ 400 := by
  obtain ⟨sp, nm, l, ks, tx⟩ := y
  unfold Nice at h
  obtain ⟨⟨v, hv, rfl⟩, ⟨n, rfl, hn, hn7⟩, ⟨al, rfl, hal⟩, h3, hk, ⟨t, rfl, ht, ht12, htr⟩, hkt⟩ := h
  have hks : ks = [] := by
    cases ks with
    | nil => rfl
    | cons y ys => exact absurd (hk y (by simp)) (by unfold Nice; simp)
  subst hks
  rw [wt, wtL]
  have e1 : (str n).size = n.length := str_size n
  have e2 : (str t).size = t.length := str_size t
  have h1 := spaces_size v hv
  have h2 := niceA_atD hal
  omega
theorem Prt.of {sp nm : ByteArray} {l : List (ByteArray × ByteArray)} {ks : List Nod} {tx : ByteArray} (h : Nice 2 (.mk sp nm l ks tx)) : Prt sp nm l ks tx := by
  unfold Nice at h
  obtain ⟨⟨v, hv, rfl⟩, ⟨n, rfl, hn, hn7⟩, ⟨al, rfl, hal⟩, h3, hk, ⟨t, rfl, ht, ht12, htr⟩, hkt⟩ := h
  have hw := wtL_le 400 ks fun y hy => nice1_wt (hk y hy)
  have hc := cntL_le 1 ks fun y hy => nice_cnt1 y (hk y hy)
  refine ⟨hn.name, spaces_text v hv, vt_text ht, htr, by simpa [bsA] using hal.1, nice_atts al hal al [] rfl, allL_all ks fun y hy => (nice_all 1 y (hk y hy)).1, ?_, by have := spaces_size v hv; omega, by rw [str_size]; omega, by rw [str_size]; omega, niceA_sz hal, by have := niceA_atD hal; omega, szdL_all ks fun y hy => (nice_all 1 y (hk y hy)).2.1, depL_le 1 ks fun y hy => (nice_all 1 y (hk y hy)).2.2, by omega, by omega⟩
  by_cases e : ks = []
  · exact .inl (by rw [e]; rfl)
  · exact .inr (by rw [hkt e]; rfl)
section
end
end Xm
end Go.Proofs.YtdpkhmfolmcejaaGreatDoor
