/- A region that draws its order and ends in one operation that waits for all others (a store): operation by operation. No program. -/
import Derived.Test.YtfkdjdmbgednkaaDoorFlow
namespace Go.Proofs.YtfkdjdmbgednkaaDoor
open Go.RowKit
namespace Flow

/-- the region's shape, without its last operation -/
def fitsN (m n : Nat) (ops : Array Oper) : Bool :=
  (List.range m).all fun i =>
    (match dstOf ops i with | some d => decide (d < n) && (List.range i).all (fun j => dstOf ops j != some d) | none => false) &&
    (match ops[i]? with | some o => o.after.toList.all (fun e => !Region.binds .any e || decide (e.on < i)) | none => false)
/-- the last one waits for all others, gives nothing, and is always wanted -/
def lastOk (m : Nat) (ops : Array Oper) (S : List (List Nat)) : Bool :=
  (ops.size == m + 1) && (match ops[m]? with | some o => o.dst.isNone && o.guard.isNone && o.after.toList.all (fun e => !Region.binds .any e || decide (e.on < m)) | none => false) && (List.range m).all fun k => (S.getD m []).contains k

section
variable {P : Program} {ops : Array Oper} {Q : Exit → Act → World → Prop} {a0 : Act} {C : World → Prop} {R : World → World → Prop} {Fs : List Fact} {S : List (List Nat)} {m : Nat}

theorem any_tail (hfit : fitsN m a0.tmps.size ops = true) (hlast : lastOk m ops S = true) (hlean : leans ops S = true) (hst : Stable R Fs) (hR0 : ∀ w, R w w) (hC : ∀ w w', C w → R w w' → C w') (hF : Fs.length = m)
    (hones : Ones P ops Q a0 C R Fs (ops.toList.take m) S Fs)
    (hend : ∀ a w o, ops[m]? = some o → C w → Off ops a0 a → (∀ k, k < m → known ops Fs a w k) → o.wp P a w (fun a' w' => Q .normal a' w') Q) :
    ∀ (fuel : Nat) (listed : Array Bool) (a : Act) (w : World), listed.size = ops.size → listed.getD m true = false → left listed = fuel → C w → Off ops a0 a →
      (∀ k, listed.getD k false = true → known ops Fs a w k) → (∀ m, listed.getD m false = true → ∀ k ∈ S.getD m [], listed.getD k false = true) → wpAny P .any ops Q fuel listed a w := by
  simp only [lastOk, Bool.and_eq_true, beq_iff_eq, List.all_eq_true, List.mem_range, List.contains_iff_mem] at hlast
  obtain ⟨⟨hsize, hlo⟩, hall⟩ := hlast
  obtain ⟨ol, hol⟩ : ∃ o, ops[m]? = some o := by
    cases h : ops[m]? with
    | none => simp [h] at hlo
    | some o => exact ⟨o, rfl⟩
  simp only [hol, Bool.and_eq_true, Option.isNone_iff_eq_none, List.all_eq_true, Bool.or_eq_true, Bool.not_eq_true', decide_eq_true_eq] at hlo
  obtain ⟨⟨hld, hlg⟩, hlaf⟩ := hlo
  have hsh : ∀ i o, i < m → ops[i]? = some o → ∃ d, o.dst = some d ∧ d < a0.tmps.size ∧ (∀ j, j < i → dstOf ops j ≠ some d) ∧ ∀ e ∈ o.after, Region.binds .any e = true → e.on < i := by
    intro i o hi ho
    have h := (List.all_eq_true.1 hfit) i (by simpa using hi)
    simp only [dstOf, ho, Option.bind_some] at h
    cases hd : o.dst with
    | none => simp [hd] at h
    | some d =>
      simp only [hd, Bool.and_eq_true, decide_eq_true_eq, List.all_eq_true, List.mem_range, bne_iff_ne, Bool.or_eq_true, Bool.not_eq_true'] at h
      exact ⟨d, rfl, h.1.1, fun j hj => h.1.2 j hj, fun e he hb => (h.2 e (by simpa using he)).resolve_left (by simp [hb])⟩
  have hdl : dstOf ops m = none := by simp [dstOf, hol, hld]
  have hdm : ∀ i d, dstOf ops i = some d → i < m := by
    intro i d hi
    have : i < ops.size := by
      cases ho : ops[i]? with
      | none => simp [dstOf, ho] at hi
      | some o => exact (Array.getElem?_eq_some_iff.1 ho).1
    rcases Nat.lt_or_ge i m with h | h
    · exact h
    · have : i = m := by omega
      subst this
      rw [hdl] at hi; cases hi
  have hdist : ∀ i j d, dstOf ops i = some d → dstOf ops j = some d → i = j := by
    intro i j d hi hj
    have g : ∀ i j, dstOf ops i = some d → dstOf ops j = some d → ¬ j < i := by
      intro i j hi hj hlt
      cases ho : ops[i]? with
      | none => simp [dstOf, ho] at hi
      | some o =>
        obtain ⟨d', hd', _, hne, _⟩ := hsh i o (hdm i d hi) ho
        have : d' = d := by simpa [dstOf, ho, hd'] using hi
        subst this
        exact hne j hlt hj
    have := g i j hi hj
    have := g j i hj hi
    omega
  have hbnd : ∀ i o, ops[i]? = some o → ∀ e ∈ o.after, Region.binds .any e = true → e.on < i := by
    intro i o ho e he hb
    have hi := (Array.getElem?_eq_some_iff.1 ho).1
    rcases Nat.lt_or_ge i m with h | h
    · obtain ⟨_, _, _, _, hh⟩ := hsh i o h ho
      exact hh e he hb
    · have : i = m := by omega
      subst this
      rw [hol] at ho; cases ho
      exact (hlaf e (by simpa using he)).resolve_left (by simp [hb])
  have hfull : ∀ (listed : Array Bool), listed.size = ops.size → Region.ready .any ops listed = [] → ∀ n i, i < n → i < ops.size → listed.getD i false = true := by
    intro listed hsz hr n
    induction n with
    | zero => intro i h; omega
    | succ n ih =>
      intro i hi hio
      by_cases hin : i < n
      · exact ih i hin hio
      · have hin : i = n := by omega
        cases hl : listed.getD i false with
        | true => rfl
        | false =>
          exfalso
          have ho : ops[i]? = some ops[i] := by simp [hio]
          have hb := hbnd i _ ho
          have : i ∈ Region.ready .any ops listed := mem_ready.2 ⟨by
            have : i < listed.size := by omega
            simpa [this] using hl, _, ho, fun e he hbe => ih e.on (by have := hb e he hbe; omega) (by have := hb e he hbe; omega)⟩
          rw [hr] at this
          cases this
  have hno : ∀ (listed : Array Bool), listed.size = ops.size → listed.getD m true = false → Region.ready .any ops listed = [] → False := by
    intro listed hsz hu hr
    have := getD_true_of_false (hfull listed hsz hr (m + 1) m (by omega) (by omega))
    rw [this] at hu; cases hu
  intro fuel
  induction fuel with
  | zero =>
    intro listed a w hsz hu hl hCw hoff hk _
    exfalso
    have := left_set hu
    omega
  | succ fuel ih =>
    intro listed a w hsz hu hl hCw hoff hk hcl
    refine ⟨fun hr => (hno listed hsz hu hr).elim, fun i hi => ?_⟩
    obtain ⟨hun, o, ho, hal⟩ := mem_ready.1 hi
    have hio : i < ops.size := (Array.getElem?_eq_some_iff.1 ho).1
    have hSi : ∀ k ∈ S.getD i [], listed.getD k false = true := by
      intro k hkS
      have h := (List.all_eq_true.1 hlean) i (by simpa using hio)
      have h := (List.all_eq_true.1 h) k hkS
      simp only [ho, List.any_eq_true, Bool.and_eq_true, Bool.or_eq_true, beq_iff_eq, List.contains_iff_mem] at h
      obtain ⟨e, he, hb, hek⟩ := h
      have hle := hal e (by simpa using he) hb
      rcases hek with rfl | hek
      · exact hle
      · exact hcl e.on hle k hek
    by_cases him : i = m
    · subst him
      rw [hol] at ho; cases ho
      have hlk : ∀ k, k < i → listed.getD k false = true := fun k hk2 => hSi k (hall k hk2)
      have hw := hend a w ol hol hCw hoff fun k hk2 => hk k (hlk k hk2)
      unfold wpOp
      have hwant : Region.wanted ol (yielded ops a.tmps) = true := want_none hlg
      simp only [hol, hwant, if_true]
      refine .inl (Oper.wp_mono (fun a' w' hq => ?_) hw)
      have hdn : ∀ k, k < ops.size → (listed.setIfInBounds i true).getD k false = true := by
        intro k hk2
        by_cases e : k = i
        · subst e
          have : k < listed.size := by omega
          simp [this]
        · exact getD_set_true (hlk k (by omega))
      have hf0 : fuel = 0 := by
        have h1 := left_set hun
        have h2 : left (listed.setIfInBounds i true) = 0 := by
          unfold left
          rw [List.countP_eq_zero]
          intro x hx
          obtain ⟨k, hk2, rfl⟩ := List.getElem_of_mem hx
          have hk3 : k < ops.size := by simpa [hsz] using hk2
          have := hdn k hk3
          have hk4 : k < (listed.setIfInBounds i true).size := by simpa using hk2
          rw [Array.getD_eq_getD_getElem?, Array.getElem?_eq_getElem hk4] at this
          have h5 : (listed.setIfInBounds i true)[k] = true := this
          rw [Array.getElem_toList, h5]
          simp
        omega
      subst hf0
      have hr : Region.ready .any ops (listed.setIfInBounds i true) = [] := by
        cases hr : Region.ready .any ops (listed.setIfInBounds i true) with
        | nil => rfl
        | cons j r =>
          have hj : j ∈ Region.ready .any ops (listed.setIfInBounds i true) := by rw [hr]; simp
          obtain ⟨h1, oj, hoj, _⟩ := mem_ready.1 hj
          have := getD_true_of_false (hdn j (Array.getElem?_eq_some_iff.1 hoj).1)
          rw [this] at h1; cases h1
      exact ⟨hr, hq⟩
    · have him' : i < m := by omega
      obtain ⟨d, hd, hdn, _, _⟩ := hsh i o him' ho
      have hone := ones_at hones i o (by rw [List.getElem?_take_of_lt him']; simpa using ho) a w hCw hoff (facts_mem fun k hkS => hk k (hSi k hkS))
      have next : ∀ v w', R w w' → holds (Fs.getD i (.inr fun _ _ => True)) v w' → wpAny P .any ops Q fuel (listed.setIfInBounds i true) (a.put o.dst v) w' := by
        intro v w' hR hv
        refine ih _ _ _ (by simpa using hsz) ?_ (by have := left_set hun; omega) (hC _ _ hCw hR) ⟨(put_defers _ _ _).trans hoff.defers, (put_size _ _ _).trans hoff.size, fun t ht => ?_⟩ (fun k hkl d' hd' => ?_) (fun m hm k hkS => ?_)
        · rw [getD_set_ne true him]; exact hu
        · rw [hd, eval_put_ne (fun e => ht i (by simp [dstOf, ho, hd, e]))]
          exact hoff.same t ht
        · by_cases e : k = i
          · subst e
            have : d' = d := by simpa [dstOf, ho, hd] using hd'.symm
            subst this
            rw [hd, eval_put_same (by rw [hoff.size]; exact hdn)]
            exact hv
          · have hdd : d ≠ d' := fun e' => e (hdist k i d' hd' (by simp [dstOf, ho, hd, e']))
            rw [hd, eval_put_ne hdd]
            rw [getD_set_ne false (Ne.symm e)] at hkl
            exact holds_stable hst k _ _ _ hR (hk k hkl d' hd')
        · by_cases e : m = i
          · subst e; exact getD_set_true (hSi k hkS)
          · rw [getD_set_ne false (Ne.symm e)] at hm
            exact getD_set_true (hcl m hm k hkS)
      unfold wpOp
      simp only [ho]
      rcases hone with ⟨hw, hone⟩ | ⟨hw, hone⟩
      · simp only [hw, if_true]
        exact .inl (Oper.wp_mono (fun a' w' ⟨v, e, hR, hv⟩ => by subst e; exact next v w' hR hv) hone)
      · simp only [hw, Bool.false_eq_true, if_false]
        exact next undef w (hR0 w) hone

/-- **A REGION THAT DRAWS AND ENDS IN A STORE** -/
theorem region_tail {id : Nat} {w : World} (m : Nat) (hm : P.follows .mixedOrders = true) (hfit : fitsN m a0.tmps.size ops = true) (hlast : lastOk m ops S = true) (hlean : leans ops S = true) (hF : Fs.length = m)
    (hst : Stable R Fs) (hR0 : ∀ w, R w w) (hC : ∀ w w', C w → R w w' → C w') (h0 : C w.drew)
    (hones : Ones P ops Q a0 C R Fs (ops.toList.take m) S Fs)
    (hend : ∀ a w o, ops[m]? = some o → C w → Off ops a0 a → (∀ k, k < m → known ops Fs a w k) → o.wp P a w (fun a' w' => Q .normal a' w') Q) : (Code.region id ops true).wp P Q a0 w := by
  have hsz : ops.size = m + 1 := by
    simp only [lastOk, Bool.and_eq_true, beq_iff_eq] at hlast
    exact hlast.1.1
  exact wp_region_any hm (any_tail hfit hlast hlean hst hR0 hC hF hones hend ops.size (Array.replicate ops.size false) a0 w.drew (by simp) (by simp [hsz])
    (by simp [left, List.countP_replicate]) h0 ⟨rfl, rfl, fun _ _ => rfl⟩
    (fun k hk => by rcases Nat.lt_or_ge k ops.size with h | h <;> simp [h] at hk)
    (fun m hk => by rcases Nat.lt_or_ge m ops.size with h | h <;> simp [h] at hk))
/-- .. with the slots written out behind it -/
theorem region_tail2 {id : Nat} {w : World} (m : Nat) (hm : P.follows .mixedOrders = true) (hfit : fitsN m a0.tmps.size ops = true) (hlast : lastOk m ops S = true) (hlean : leans ops S = true) (hF : Fs.length = m)
    (hst : Stable R Fs) (hR0 : ∀ w, R w w) (hC : ∀ w w', C w → R w w' → C w') (h0 : C w.drew)
    (hones : Ones P ops Q a0 C R Fs (ops.toList.take m) S Fs)
    (hend : ∀ w o, ops[m]? = some o → C w → ends (fun _ a w => o.wp P a w (fun a' w' => Q .normal a' w') Q) (ops.toList.take m) Fs a0 w) : (Code.region id ops true).wp P Q a0 w := by
  refine region_tail m hm hfit hlast hlean hF hst hR0 hC h0 hones fun a w o ho hCw hoff hk => ?_
  have hsz : ops.size = m + 1 := by
    simp only [lastOk, Bool.and_eq_true, beq_iff_eq] at hlast
    exact hlast.1.1
  have hdl : ∀ k, m ≤ k → dstOf ops k = none := by
    intro k hk2
    rcases Nat.lt_or_ge k (m + 1) with h | h
    · have : k = m := by omega
      subst this
      simp only [lastOk, Bool.and_eq_true, ho] at hlast
      have := hlast.1.2.1.1
      simp [dstOf, ho] at this ⊢
      exact this
    · have : ops[k]? = none := by simp; omega
      simp [dstOf, this]
  refine ends_all (Q := fun _ a w => o.wp P a w (fun a' w' => Q .normal a' w') Q) (ops.toList.take m) Fs a0 (fun i oi hoi => ?_) (by simp [hF, hsz]) hoff.defers.symm hoff.size.symm (fun t ht => (hoff.same t fun k hk2 => ?_).symm) (hend w o ho hCw)
  · have him : i < m := by
      have := (List.getElem?_eq_some_iff.1 hoi).1
      simp at this; omega
    rw [List.getElem?_take_of_lt him] at hoi
    have ho' : ops[i]? = some oi := by simpa using hoi
    have h := (List.all_eq_true.1 hfit) i (by simpa using him)
    simp only [dstOf, ho', Option.bind_some] at h
    cases hd : oi.dst with
    | none => simp [hd] at h
    | some d =>
      simp only [hd, Bool.and_eq_true, decide_eq_true_eq] at h
      exact ⟨d, rfl, by rw [hoff.size]; exact h.1.1, hk i him d (by simp [dstOf, ho', hd])⟩
  · rcases Nat.lt_or_ge k m with h | h
    · cases hok : ops[k]? with
      | none => simp [dstOf, hok] at hk2
      | some ok =>
        refine ht ok ?_ (by simpa [dstOf, hok] using hk2)
        refine List.mem_of_getElem? (i := k) ?_
        rw [List.getElem?_take_of_lt h]
        simpa using hok
    · rw [hdl k h] at hk2; cases hk2
end
end Flow
end Go.Proofs.YtfkdjdmbgednkaaDoor
