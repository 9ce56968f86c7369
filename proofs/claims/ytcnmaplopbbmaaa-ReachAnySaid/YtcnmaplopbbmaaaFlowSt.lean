/- A region that draws its order and stores into cells, whatever order that is: a store's fact is a fact on the slot that holds its address. No program. -/
import Derived.Test.YtcnmaplopbbmaaaFlow
namespace Go.Proofs.Ytcnmaplopbbmaaa
open Go.RowKit
namespace Flow

/-- the slot of which an operation tells something -/
def seat (o : Oper) : Option Tmp := match o.dst with
  | some d => some d
  | none => match o.op with
    | .store _ (.tmp s) _ => some s
    | _ => none
def seatOf (ops : Array Oper) (k : Nat) : Option Tmp := (ops[k]?).bind seat
def knownS (ops : Array Oper) (Fs : List Fact) (a : Act) (w : World) (k : Nat) : Prop :=
  ∀ d, seatOf ops k = some d → holds (Fs.getD k (.inr fun _ _ => True)) (a.eval (.tmp d)) w
def factsS (ops : Array Oper) (Fs : List Fact) (a : Act) (w : World) : List Nat → Prop
  | [] => True
  | k :: r => knownS ops Fs a w k ∧ factsS ops Fs a w r
theorem factsS_mem {ops : Array Oper} {Fs : List Fact} {a : Act} {w : World} : ∀ {l : List Nat}, (∀ k ∈ l, knownS ops Fs a w k) → factsS ops Fs a w l
  | [], _ => trivial
  | k :: r, h => ⟨h k (by simp), factsS_mem fun j hj => h j (by simp [hj])⟩
/-- what an operation leaves -/
def told (o : Oper) (f : Fact) (a : Act) (v : Value) (w' : World) : Prop := match o.dst with
  | some _ => holds f v w'
  | none => ∀ s, seat o = some s → holds f (a.eval (.tmp s)) w'
def OneS (P : Program) (ops : Array Oper) (Q : Exit → Act → World → Prop) (a0 : Act) (C : Act → World → Prop) (Fs : List Fact) (i : Nat) (ks : List Nat) (f : Fact) (o : Oper) : Prop :=
  ∀ a w, C a w → Off ops a0 a → factsS ops Fs a w ks →
    (Region.wanted o (yielded ops a.tmps) = true ∧ o.wp P a w (fun a' w' => ∃ v, a' = a.put o.dst v ∧ C a' w' ∧ (∀ k, k ≠ i → (∀ d, o.dst = some d → seatOf ops k ≠ some d) → knownS ops Fs a w k → knownS ops Fs a' w' k) ∧ told o f a v w') Q) ∨
    (Region.wanted o (yielded ops a.tmps) = false ∧ o.dst.isSome = true ∧ C (a.put o.dst undef) w ∧ holds f undef w)
def OnesS (P : Program) (ops : Array Oper) (Q : Exit → Act → World → Prop) (a0 : Act) (C : Act → World → Prop) (Fs : List Fact) : Nat → List Oper → List (List Nat) → List Fact → Prop
  | i, o :: l, ks :: S, f :: F => OneS P ops Q a0 C Fs i ks f o ∧ OnesS P ops Q a0 C Fs (i + 1) l S F
  | _, [], _, _ => True
  | _, _, _, _ => False
/-- behind the region: as 'ends'; a store tells of its address -/
def endsS (Q : Exit → Act → World → Prop) : List Oper → List Fact → Act → World → Prop
  | o :: l, f :: F, a, w => match o.dst with
    | some d => match f with
      | .inl c => endsS Q l F (a.put (some d) c) w
      | .inr Φ => ∀ v, Φ v w → endsS Q l F (a.put (some d) v) w
    | none => (∀ s, seat o = some s → holds f (a.eval (.tmp s)) w) → endsS Q l F a w
  | _, _, a, w => Q .normal a w
def fitsS (n : Nat) (ops : Array Oper) (S : List (List Nat)) : Bool :=
  (List.range ops.size).all fun i =>
    (match dstOf ops i with
      | some d => decide (d < n) && (List.range i).all (fun j => dstOf ops j != some d)
      | none => match seatOf ops i with
        | some s => (S.getD i []).any fun k => decide (k < i) && dstOf ops k == some s
        | none => false) &&
    (match ops[i]? with | some o => o.after.toList.all (fun e => !Region.binds .any e || decide (e.on < i)) | none => false)
theorem onesS_at {P : Program} {ops : Array Oper} {Q : Exit → Act → World → Prop} {a0 : Act} {C : Act → World → Prop} {Fs : List Fact} :
    ∀ {l : List Oper} {S : List (List Nat)} {F : List Fact} {n : Nat}, OnesS P ops Q a0 C Fs n l S F → ∀ i o, l[i]? = some o → OneS P ops Q a0 C Fs (n + i) (S.getD i []) (F.getD i (.inr fun _ _ => True)) o
  | [], _, _, _, _, i, o, h => by simp at h
  | x :: l, [], _, _, h, _, _, _ => h.elim
  | x :: l, s :: S, [], _, h, _, _, _ => h.elim
  | x :: l, s :: S, f :: F, n, h, 0, o, ho => by simp at ho; subst ho; exact h.1
  | x :: l, s :: S, f :: F, n, h, i + 1, o, ho => by
    have := onesS_at h.2 i o (by simpa using ho)
    rw [show n + (i + 1) = n + 1 + i by omega]
    exact this
theorem OnesS.cons {P : Program} {ops : Array Oper} {Q : Exit → Act → World → Prop} {a0 : Act} {C : Act → World → Prop} {Fs : List Fact} {i : Nat} {o : Oper} {l : List Oper} {ks : List Nat} {S : List (List Nat)} {f : Fact} {F : List Fact}
    (h : OneS P ops Q a0 C Fs i ks f o) (k : OnesS P ops Q a0 C Fs (i + 1) l S F) : OnesS P ops Q a0 C Fs i (o :: l) (ks :: S) (f :: F) := ⟨h, k⟩
theorem endsS_all {Q : Exit → Act → World → Prop} {a : Act} {w : World} : ∀ (l : List Oper) (F : List Fact) (b : Act),
    (∀ i o, l[i]? = some o → (∃ d, o.dst = some d ∧ d < a.tmps.size ∧ holds (F.getD i (.inr fun _ _ => True)) (a.eval (.tmp d)) w) ∨ (o.dst = none ∧ ∀ s, seat o = some s → holds (F.getD i (.inr fun _ _ => True)) (a.eval (.tmp s)) w)) →
    (∀ (i : Nat) (o : Oper) (s : Tmp), l[i]? = some o → o.dst = none → seat o = some s → ∀ (j : Nat) (o' : Oper), i ≤ j → l[j]? = some o' → o'.dst ≠ some s) →
    l.length ≤ F.length → b.defers = a.defers → b.tmps.size = a.tmps.size → (∀ t, (∀ o ∈ l, o.dst ≠ some t) → b.eval (.tmp t) = a.eval (.tmp t)) → endsS Q l F b w → Q .normal a w
  | [], _, b, _, _, _, hd, hs, he, h => by
    have : b = a := act_ext hd hs fun t => he t (by simp)
    subst this
    simpa [endsS] using h
  | o :: l, [], b, _, _, hl, _, _, _, _ => by simp at hl
  | o :: l, f :: F, b, hk, hq, hl, hd, hs, he, h => by
    have hk' : ∀ i o', l[i]? = some o' → (∃ d, o'.dst = some d ∧ d < a.tmps.size ∧ holds (F.getD i (.inr fun _ _ => True)) (a.eval (.tmp d)) w) ∨ (o'.dst = none ∧ ∀ s, seat o' = some s → holds (F.getD i (.inr fun _ _ => True)) (a.eval (.tmp s)) w) :=
      fun i o' ho' => hk (i + 1) o' (by simpa using ho')
    have hq' : ∀ (i : Nat) (o' : Oper) (s : Tmp), l[i]? = some o' → o'.dst = none → seat o' = some s → ∀ (j : Nat) (o'' : Oper), i ≤ j → l[j]? = some o'' → o''.dst ≠ some s :=
      fun i o' s h1 h2 h3 j o'' hij h4 => hq (i + 1) o' s (by simpa using h1) h2 h3 (j + 1) o'' (by omega) (by simpa using h4)
    rcases hk 0 o rfl with ⟨d, hod, hdn, hf⟩ | ⟨hod, hf⟩
    · have go : endsS Q l F (b.put (some d) (a.eval (.tmp d))) w → Q .normal a w := fun h => by
        refine endsS_all l F _ hk' hq' (by simpa using hl) ((put_defers _ _ _).trans hd) ((put_size _ _ _).trans hs) (fun t ht => ?_) h
        by_cases e : d = t
        · subst e; rw [eval_put_same (by rw [hs]; exact hdn)]
        · rw [eval_put_ne e]
          refine he t fun o' ho' => ?_
          rcases List.mem_cons.1 ho' with rfl | ho'
          · rw [hod]; simpa using e
          · exact ht o' ho'
      cases f with
      | inl c =>
        have e : a.eval (.tmp d) = c := hf
        rw [e] at go
        simp only [endsS, hod] at h
        exact go h
      | inr Φ =>
        simp only [endsS, hod] at h
        exact go (h _ hf)
    · simp only [endsS, hod] at h
      refine endsS_all l F b hk' hq' (by simpa using hl) hd hs (fun t ht => he t fun o' ho' => ?_) (h fun s hss => ?_)
      · rcases List.mem_cons.1 ho' with rfl | ho'
        · rw [hod]; simp
        · exact ht o' ho'
      · rw [he s (fun o' ho' => by
          obtain ⟨j, hj⟩ := List.mem_iff_getElem?.1 ho'
          exact hq 0 o s rfl hod hss j o' (by omega) hj)]
        exact hf s hss
section
variable {P : Program} {ops : Array Oper} {Q : Exit → Act → World → Prop} {a0 : Act} {C : Act → World → Prop} {Fs : List Fact} {S : List (List Nat)}
theorem any_ofS (hfit : fitsS a0.tmps.size ops S = true) (hlean : leans ops S = true) (hF : Fs.length = ops.size)
    (hones : OnesS P ops Q a0 C Fs 0 ops.toList S Fs) (hend : ∀ a w, C a w → endsS Q ops.toList Fs a0 w) :
    ∀ (fuel : Nat) (listed : Array Bool) (a : Act) (w : World), listed.size = ops.size → left listed = fuel → C a w → Off ops a0 a →
      (∀ k, listed.getD k false = true → knownS ops Fs a w k) → (∀ m, listed.getD m false = true → ∀ k ∈ S.getD m [], listed.getD k false = true) → wpAny P .any ops Q fuel listed a w := by
  have hsh : ∀ i o, ops[i]? = some o → ((∃ d, o.dst = some d ∧ d < a0.tmps.size ∧ (∀ j, j < i → dstOf ops j ≠ some d)) ∨ (o.dst = none ∧ ∃ s k, seat o = some s ∧ k ∈ S.getD i [] ∧ k < i ∧ dstOf ops k = some s)) ∧ ∀ e ∈ o.after, Region.binds .any e = true → e.on < i := by
    intro i o ho
    have hi : i < ops.size := (Array.getElem?_eq_some_iff.1 ho).1
    have h := (List.all_eq_true.1 hfit) i (by simpa using hi)
    simp only [Bool.and_eq_true, ho] at h
    refine ⟨?_, fun e he hb => by
      have := (List.all_eq_true.1 h.2) e (by simpa using he)
      simpa [hb] using this⟩
    have h := h.1
    simp only [dstOf, ho, Option.bind_some] at h
    cases hd : o.dst with
    | none =>
      simp only [hd, seatOf, ho, Option.bind_some] at h
      cases hs : seat o with
      | none => simp [hs] at h
      | some s =>
        simp only [hs, List.any_eq_true, Bool.and_eq_true, decide_eq_true_eq, beq_iff_eq] at h
        obtain ⟨k, hkS, hki, hk⟩ := h
        exact .inr ⟨rfl, s, k, rfl, hkS, hki, hk⟩
    | some d =>
      simp only [hd, Bool.and_eq_true, decide_eq_true_eq, List.all_eq_true, List.mem_range, bne_iff_ne] at h
      exact .inl ⟨d, rfl, h.1, fun j hj => h.2 j hj⟩
  have hdist : ∀ i j d, dstOf ops i = some d → dstOf ops j = some d → i = j := by
    intro i j d hi hj
    have g : ∀ i j, dstOf ops i = some d → dstOf ops j = some d → ¬ j < i := by
      intro i j hi hj hlt
      cases ho : ops[i]? with
      | none => simp [dstOf, ho] at hi
      | some o =>
        rcases (hsh i o ho).1 with ⟨d', hd', _, hne⟩ | ⟨hd', _⟩
        · have : d' = d := by simpa [dstOf, ho, hd'] using hi
          subst this
          exact hne j hlt hj
        · simp [dstOf, ho, hd'] at hi
    have := g i j hi hj
    have := g j i hj hi
    omega
  have hdone : ∀ (listed : Array Bool) (a : Act) (w : World), listed.size = ops.size → C a w → Off ops a0 a → (∀ k, listed.getD k false = true → knownS ops Fs a w k) →
      Region.ready .any ops listed = [] → Q .normal a w := by
    intro listed a w hsz hCw hoff hk hr
    have hall : ∀ n i, i < n → i < ops.size → listed.getD i false = true := by
      intro n
      induction n with
      | zero => intro i h; omega
      | succ n ih =>
        intro i hi hio
        by_cases hin : i < n
        · exact ih i hin hio
        · have hin : i = n := by omega
          cases hl : listed.getD i false with
          | true => rfl
          | false =>
            exfalso
            have ho : ops[i]? = some ops[i] := by simp [hio]
            have hb := (hsh i _ ho).2
            have : i ∈ Region.ready .any ops listed := mem_ready.2 ⟨by
              have : i < listed.size := by omega
              simpa [this] using hl, _, ho, fun e he hbe => ih e.on (by have := hb e he hbe; omega) (by have := hb e he hbe; omega)⟩
            rw [hr] at this
            cases this
    refine endsS_all ops.toList Fs a0 (fun i o ho => ?_) (fun i o s ho hd hs j o' hij ho' => ?_) (by simp [hF]) hoff.defers.symm hoff.size.symm (fun t ht => (hoff.same t fun k hk => ?_).symm) (hend a w hCw)
    · have ho' : ops[i]? = some o := by simpa using ho
      have hki := hk i (hall (i + 1) i (by omega) (Array.getElem?_eq_some_iff.1 ho').1)
      rcases (hsh i o ho').1 with ⟨d, hd, hdn, _⟩ | ⟨hd, _⟩
      · exact .inl ⟨d, hd, by rw [hoff.size]; exact hdn, hki d (by simp [seatOf, ho', seat, hd])⟩
      · exact .inr ⟨hd, fun s hs => hki s (by simp [seatOf, ho', hs])⟩
    · have h1 : ops[i]? = some o := by simpa using ho
      have h2 : ops[j]? = some o' := by simpa using ho'
      rcases (hsh i o h1).1 with ⟨d, hd', _⟩ | ⟨_, s', k, hs', _, hki, hk'⟩
      · rw [hd] at hd'; cases hd'
      · have : s' = s := by rw [hs] at hs'; injection hs' with e; exact e.symm
        subst this
        intro he
        have := hdist j k s' (by simp [dstOf, h2, he]) hk'
        omega
    · cases ho : ops[k]? with
      | none => simp [dstOf, ho] at hk
      | some o => exact ht o (by have := Array.mem_of_getElem? ho; simpa using this) (by simpa [dstOf, ho] using hk)
  intro fuel
  induction fuel with
  | zero =>
    intro listed a w hsz hl hCw hoff hk _
    have hr : Region.ready .any ops listed = [] := by
      cases hr : Region.ready .any ops listed with
      | nil => rfl
      | cons i r =>
        have hi : i ∈ Region.ready .any ops listed := by rw [hr]; simp
        have := left_set (mem_ready.1 hi).1
        omega
    exact ⟨hr, hdone listed a w hsz hCw hoff hk hr⟩
  | succ fuel ih =>
    intro listed a w hsz hl hCw hoff hk hcl
    refine ⟨hdone listed a w hsz hCw hoff hk, fun i hi => ?_⟩
    obtain ⟨hun, o, ho, hall⟩ := mem_ready.1 hi
    have hcase := (hsh i o ho).1
    have hio : i < ops.size := (Array.getElem?_eq_some_iff.1 ho).1
    have hne : ∀ k, listed.getD k false = true → k ≠ i := fun k hk e => by subst e; rw [getD_true_of_false hk] at hun; cases hun
    have hSi : ∀ k ∈ S.getD i [], listed.getD k false = true := by
      intro k hkS
      have h := (List.all_eq_true.1 hlean) i (by simpa using hio)
      have h := (List.all_eq_true.1 h) k hkS
      simp only [ho, List.any_eq_true, Bool.and_eq_true, Bool.or_eq_true, beq_iff_eq, List.contains_iff_mem] at h
      obtain ⟨e, he, hb, hek⟩ := h
      have hle := hall e (by simpa using he) hb
      rcases hek with rfl | hek
      · exact hle
      · exact hcl e.on hle k hek
    have hone := onesS_at hones i o (by simpa using ho) a w hCw hoff (factsS_mem fun k hkS => hk k (hSi k hkS))
    have next : ∀ v w', C (a.put o.dst v) w' → (∀ k, k ≠ i → (∀ d, o.dst = some d → seatOf ops k ≠ some d) → knownS ops Fs a w k → knownS ops Fs (a.put o.dst v) w' k) → told o (Fs.getD i (.inr fun _ _ => True)) a v w' → wpAny P .any ops Q fuel (listed.setIfInBounds i true) (a.put o.dst v) w' := by
      intro v w' hCn hkeep hv
      have hput : ∀ d', o.dst ≠ some d' → (a.put o.dst v).eval (.tmp d') = a.eval (.tmp d') := by
        intro d' h
        cases hd : o.dst with
        | none => rfl
        | some d => exact eval_put_ne (fun e => h (by rw [hd, e]))
      refine ih _ _ _ (by simpa using hsz) (by have := left_set hun; omega) hCn ⟨(put_defers _ _ _).trans hoff.defers, (put_size _ _ _).trans hoff.size, fun t ht => ?_⟩ (fun k hkl d' hd' => ?_) (fun m hm k hkS => ?_)
      · rw [hput t (fun e => ht i (by simp [dstOf, ho, e]))]
        exact hoff.same t ht
      · by_cases e : k = i
        · subst e
          rcases hcase with ⟨d, hd, hdn, _⟩ | ⟨hd, _⟩
          · have : d' = d := by simpa [seatOf, ho, seat, hd] using hd'.symm
            subst this
            rw [hd, eval_put_same (by rw [hoff.size]; exact hdn)]
            simpa only [told, hd] using hv
          · rw [hput d' (by rw [hd]; simp)]
            simp only [told, hd] at hv
            exact hv d' (by simpa [seatOf, ho] using hd')
        · rw [getD_set_ne false (Ne.symm e)] at hkl
          refine hkeep k e (fun d hod hse => ?_) (hk k hkl) d' hd'
          have : d' = d := by rw [hse] at hd'; injection hd' with e1; exact e1.symm
          subst this
          · cases hok : ops[k]? with
            | none => simp [seatOf, hok] at hd'
            | some ok =>
              rcases (hsh k ok hok).1 with ⟨dk, hdk, _⟩ | ⟨hdk, s, k', hs, hkS, _, hk'⟩
              · have : d' = dk := by simpa [seatOf, hok, seat, hdk] using hd'.symm
                subst this
                exact e (hdist k i d' (by simp [dstOf, hok, hdk]) (by simp [dstOf, ho, hod]))
              · have : s = d' := by simpa [seatOf, hok, hs] using hd'
                subst this
                exact hne k' (hcl k hkl k' hkS) (hdist k' i s hk' (by simp [dstOf, ho, hod]))
      · by_cases e : m = i
        · subst e; exact getD_set_true (hSi k hkS)
        · rw [getD_set_ne false (Ne.symm e)] at hm
          exact getD_set_true (hcl m hm k hkS)
    unfold wpOp
    simp only [ho]
    rcases hone with ⟨hw, hone⟩ | ⟨hw, hsome, hCu, hone⟩
    · simp only [hw, if_true]
      exact .inl (Oper.wp_mono (fun a' w' ⟨v, e, hCn, hkeep, hv⟩ => by subst e; rw [Nat.zero_add] at hkeep; exact next v w' hCn hkeep hv) hone)
    · simp only [hw, Bool.false_eq_true, if_false]
      rw [show a.put o.dst undef = a.put o.dst undef from rfl]
      exact next undef w hCu (fun k _ hs h d hd => by
        have := h d hd
        cases hod : o.dst with
        | none => exact this
        | some d0 => rw [eval_put_ne (fun e => hs d0 hod (by rw [e]; exact hd))]; exact this) (by
        unfold told
        cases hd : o.dst with
        | none => simp [hd] at hsome
        | some d => exact hone)

/-- **A REGION THAT DRAWS, OPERATION BY OPERATION** -/
theorem regionS {id : Nat} {w : World} (hm : P.follows .mixedOrders = true) (hfit : fitsS a0.tmps.size ops S = true) (hlean : leans ops S = true) (hF : Fs.length = ops.size)
    (h0 : C a0 w.drew)
    (hones : OnesS P ops Q a0 C Fs 0 ops.toList S Fs) (hend : ∀ a w, C a w → endsS Q ops.toList Fs a0 w) : (Code.region id ops true).wp P Q a0 w :=
  wp_region_any hm (any_ofS hfit hlean hF hones hend ops.size (Array.replicate ops.size false) a0 w.drew (by simp)
    (by simp [left, List.countP_replicate]) h0 ⟨rfl, rfl, fun _ _ => rfl⟩
    (fun k hk => by rcases Nat.lt_or_ge k ops.size with h | h <;> simp [h] at hk)
    (fun m hk => by rcases Nat.lt_or_ge m ops.size with h | h <;> simp [h] at hk))
end
/-- an operation that only lets the world grow -/
theorem OneS.quiet {P : Program} {ops : Array Oper} {Q : Exit → Act → World → Prop} {a0 : Act} {C : Act → World → Prop} {Fs : List Fact} {i : Nat} {ks : List Nat} {f : Fact} {o : Oper} {d : Tmp} (hd : o.dst = some d) (hst : Stable Grow Fs)
    (hC : ∀ a w w' v, C a w → Grow w w' → C (a.put (some d) v) w')
    (h : ∀ a w, C a w → Off ops a0 a → factsS ops Fs a w ks → Region.wanted o (yielded ops a.tmps) = true ∧ o.wp P a w (fun a' w' => ∃ v, a' = a.put o.dst v ∧ Grow w w' ∧ holds f v w') Q) : OneS P ops Q a0 C Fs i ks f o := by
  intro a w hCw hoff hf
  obtain ⟨hw, hwp⟩ := h a w hCw hoff hf
  refine .inl ⟨hw, Oper.wp_mono (fun a' w' ⟨v, e, hg, hv⟩ => ?_) hwp⟩
  subst e
  refine ⟨v, rfl, by rw [hd]; exact hC _ _ _ _ hCw hg, fun k hk hs hkn d' hd' => ?_, by unfold told; rw [hd]; exact hv⟩
  rw [hd, eval_put_ne (fun e => hs d hd (by rw [hd', e]))]
  exact holds_stable hst k _ _ _ hg (hkn d' hd')
end Flow
end Go.Proofs.Ytcnmaplopbbmaaa
