/- A region that draws its order, lays objects and stores a struct into each, whatever order that is. No program. -/
import Derived.Test.YtcnmaplopbbmaaaFlowSt
namespace Go.Proofs.Ytcnmaplopbbmaaa
open Go.RowKit
namespace Flow
def pt (A : Nat) : Value := .pointer (some ⟨A, 0, none⟩)
theorem pt_inj {A B : Nat} (h : pt A = pt B) : A = B := by
  simpa [pt] using h
/-- the slots that hold what the region lays: what they hold differs -/
structure Cn (wo : World) (ss : List Tmp) (a : Act) (w : World) : Prop where
  grow : Grow wo w
  old : ∀ s ∈ ss, ∀ A, a.eval (.tmp s) = pt A → A < w.heap.size
  apart : ∀ s ∈ ss, ∀ t ∈ ss, s ≠ t → ∀ A, wo.heap.size ≤ A → a.eval (.tmp s) = pt A → a.eval (.tmp t) ≠ pt A
theorem Cn.start {w : World} {ss : List Tmp} {a : Act} (h : ∀ s ∈ ss, ∀ A, a.eval (.tmp s) = pt A → A < w.heap.size) : Cn w ss a w.drew :=
  ⟨grow_drew w, h, fun s hs _ _ _ A hA e => absurd (h s hs A e) (by omega)⟩
theorem Cn.other {wo : World} {ss : List Tmp} {a : Act} {w : World} (h : Cn wo ss a w) {d : Tmp} {v : Value} {w' : World} (hd : d ∉ ss) (g : Grow w w') : Cn wo ss (a.put (some d) v) w' where
  grow := h.grow.trans g
  old := fun s hs A e => by
    rw [eval_put_ne (fun x => hd (by rw [x]; exact hs))] at e
    exact Nat.lt_of_lt_of_le (h.old s hs A e) g.size
  apart := fun s hs t ht hne A hA e => by
    rw [eval_put_ne (fun x => hd (by rw [x]; exact hs))] at e
    rw [eval_put_ne (fun x => hd (by rw [x]; exact ht))]
    exact h.apart s hs t ht hne A hA e
theorem Cn.lay {wo : World} {ss : List Tmp} {a : Act} {w : World} (h : Cn wo ss a w) {d : Tmp} (hn : d < a.tmps.size) (o : Obj) : Cn wo ss (a.put (some d) (pt w.heap.size)) (w.alloc o) where
  grow := h.grow.trans (grow_alloc w o)
  old := fun s hs A e => by
    have hsz : (w.alloc o).heap.size = w.heap.size + 1 := by simp
    by_cases hd : d = s
    · subst hd
      rw [eval_put_same hn] at e
      have := pt_inj e
      omega
    · rw [eval_put_ne hd] at e
      have := h.old s hs A e
      omega
  apart := fun s hs t ht hne A hA e => by
    by_cases hd : d = s
    · subst hd
      rw [eval_put_same hn] at e
      have := pt_inj e
      rw [eval_put_ne hne]
      intro e2
      have := h.old t ht A e2
      omega
    · rw [eval_put_ne hd] at e
      have h1 := h.old s hs A e
      by_cases hd2 : d = t
      · subst hd2
        rw [eval_put_same hn]
        intro e2
        have := pt_inj e2
        omega
      · rw [eval_put_ne hd2]
        exact h.apart s hs t ht hne A hA e
/-- what is known: a value; an object of so many cells that was laid; what was stored into it -/
inductive FK where
  | v (c : Value)
  | a (T : TypeId) (m : Nat)
  | s (T : TypeId) (cs : Array Value)
def FK.fact (n : Nat) : FK → Fact
  | .v c => .inl c
  | .a T m => .inr fun v w => ∃ A cs, v = pt A ∧ n ≤ A ∧ w.heap[A]? = some (.cells cs T (0, 0)) ∧ cs.size = m
  | .s T cs => .inr fun v w => ∃ A, v = pt A ∧ n ≤ A ∧ w.heap[A]? = some (.cells cs T (0, 0))
theorem heap_grow {w w' : World} (g : Grow w w') {A : Nat} {o : Obj} (h : w.heap[A]? = some o) : w'.heap[A]? = some o := by
  have hA : A < w.heap.size := (Array.getElem?_eq_some_iff.1 h).1
  rw [g.block A hA (by simp)]
  exact h
theorem stable_fk (n : Nat) : ∀ l : List FK, Stable Grow (l.map (FK.fact n))
  | [] => trivial
  | .v _ :: l => stable_fk n l
  | .a _ _ :: l => ⟨fun _ _ _ g ⟨A, cs, h1, h2, h3, h4⟩ => ⟨A, cs, h1, h2, heap_grow g h3, h4⟩, stable_fk n l⟩
  | .s _ _ :: l => ⟨fun _ _ _ g ⟨A, h1, h2, h3⟩ => ⟨A, h1, h2, heap_grow g h3⟩, stable_fk n l⟩
/-- a store into what slot s holds lets every other operation's fact be -/
def letsBe (ss : List Tmp) (ops : Array Oper) (s : Tmp) (i : Nat) (l : List FK) : Bool := (List.range ops.size).all fun k => k == i || match l[k]? with
  | some (.v _) => true
  | some (.a _ _) => (match seatOf ops k with | some t => ss.contains t | none => true)
  | some (.s _ _) => (match seatOf ops k with | some t => ss.contains t && t != s | none => true)
  | none => false
section
variable {P : Program} {ops : Array Oper} {Q : Exit → Act → World → Prop} {a0 : Act} {wo : World} {ss : List Tmp} {l : List FK}
theorem OneS.alloc {i : Nat} {ks : List Nat} {o : Oper} {d : Tmp} {T : TypeId} {m : Nat} {cs : Array Value} (hd : o.dst = some d) (hn' : decide (d < a0.tmps.size) = true) (hg : o.guard = none) (hm : cs.size = m)
    (hrun : ∀ ρ w, (execOp ρ o).run P w = .ok (.value (pt w.heap.size)) (w.alloc (.cells cs T))) : OneS P ops Q a0 (Cn wo ss) (l.map (FK.fact wo.heap.size)) i ks (FK.fact wo.heap.size (.a T m)) o := by
  intro a w hC hoff _
  have hn := of_decide_eq_true hn'
  refine .inl ⟨want_none hg, ?_⟩
  unfold Oper.wp
  rw [hrun]
  have hna : d < a.tmps.size := by rw [hoff.size]; exact hn
  refine ⟨_, rfl, by rw [hd]; exact hC.lay hna _, fun k hk hs hkn d' hd' => ?_, ?_⟩
  · rw [hd, eval_put_ne (fun e => hs d hd (by rw [hd', e]))]
    exact holds_stable (stable_fk _ l) k _ _ _ (grow_alloc w _) (hkn d' hd')
  · unfold told
    rw [hd]
    exact ⟨w.heap.size, cs, rfl, hC.grow.size, heap_alloc_new _ _, hm⟩
theorem getD_map (l : List FK) (n k : Nat) : (l.map (FK.fact n)).getD k (.inr fun _ _ => True) = match l[k]? with | some f => FK.fact n f | none => .inr fun _ _ => True := by
  rw [List.getD_eq_getElem?_getD, List.getElem?_map]
  cases l[k]? <;> rfl
theorem OneS.store {i : Nat} {ks : List Nat} {o : Oper} {s x : Tmp} {T : TypeId} {cs : Array Value} (hop : o.op = .store T (.tmp s) (.tmp x)) (hd : o.dst = none) (hg : o.guard = none) (hss : s ∈ ss)
    (hbe : letsBe ss ops s i l = true)
    (hrun : ∀ (ρ : Operand → Value) w A old, Grow wo w → wo.heap.size ≤ A → ρ (.tmp s) = pt A → ρ (.tmp x) = .agg cs → w.heap[A]? = some (.cells old T (0, 0)) → old.size = cs.size → ∃ w', (execOp ρ o).run P w = .ok .skip w' ∧ Grow wo w' ∧ w'.heap.size = w.heap.size ∧ w'.heap[A]? = some (.cells cs T (0, 0)) ∧ ∀ B, B ≠ A → w'.heap[B]? = w.heap[B]?)
    (h : ∀ a w, Cn wo ss a w → Off ops a0 a → factsS ops (l.map (FK.fact wo.heap.size)) a w ks → holds (FK.fact wo.heap.size (.a T cs.size)) (a.eval (.tmp s)) w ∧ a.eval (.tmp x) = .agg cs) :
    OneS P ops Q a0 (Cn wo ss) (l.map (FK.fact wo.heap.size)) i ks (FK.fact wo.heap.size (.s T cs)) o := by
  intro a w hC hoff hf
  obtain ⟨⟨A, old, hs, hA, hAo, hsz⟩, hx⟩ := h a w hC hoff hf
  obtain ⟨w', hr, hgw, hws, hAn, hB⟩ := hrun a.eval w A old hC.grow hA hs hx hAo hsz
  refine .inl ⟨want_none hg, ?_⟩
  unfold Oper.wp
  rw [hr, Oper.upon_skip]
  have hput : ∀ v, a.put o.dst v = a := fun v => by rw [hd]; rfl
  refine ⟨undef, rfl, ?_, fun k hk _ hkn d' hd' => ?_, ?_⟩
  · rw [hput]
    exact ⟨hgw, fun t ht B e => by rw [hws]; exact hC.old t ht B e, hC.apart⟩
  · rw [hput]
    have hkn := hkn d' hd'
    rw [getD_map] at hkn ⊢
    have hks : k < ops.size := by
      rcases Nat.lt_or_ge k ops.size with h | h
      · exact h
      · simp [seatOf, h] at hd'
    have hb := (List.all_eq_true.1 hbe) k (by simpa using hks)
    cases hl : l[k]? with
    | none => exact trivial
    | some f =>
      rw [hl] at hb hkn
      have hki : (k == i) = false := by simpa using hk
      cases f with
      | v c => exact hkn
      | a T' m =>
        obtain ⟨A', cs', h1, h2, h3, h4⟩ := hkn
        by_cases e : A' = A
        · subst e
          rw [hAo] at h3
          cases h3
          exact ⟨A', cs, h1, h2, hAn, by omega⟩
        · exact ⟨A', cs', h1, h2, by rw [hB A' e]; exact h3, h4⟩
      | s T' cs' =>
        simp only [hki, Bool.false_or, hd', Bool.and_eq_true, bne_iff_ne, List.contains_iff_mem] at hb
        obtain ⟨A', h1, h2, h3⟩ := hkn
        have e : A' ≠ A := by
          intro e
          subst e
          exact hC.apart d' hb.1 s hss hb.2 A' h2 h1 hs
        exact ⟨A', h1, h2, by rw [hB A' e]; exact h3⟩
  · unfold told
    rw [hd]
    intro s' hs'
    have : s' = s := by
      simp only [seat, hd, hop] at hs'
      injection hs' with e
      exact e.symm
    subst this
    exact ⟨A, hs, hA, hAn⟩
/-- **THE REGION** -/
theorem region_st {S : List (List Nat)} {id : Nat} (ss : List Tmp) (l : List FK) (hm : P.follows .mixedOrders = true) (hfit : fitsS a0.tmps.size ops S = true) (hlean : leans ops S = true) (hF : l.length = ops.size)
    (h0 : ∀ s ∈ ss, ∀ A, a0.eval (.tmp s) = pt A → A < wo.heap.size)
    (hones : OnesS P ops Q a0 (Cn wo ss) (l.map (FK.fact wo.heap.size)) 0 ops.toList S (l.map (FK.fact wo.heap.size)))
    (hend : ∀ a w, Cn wo ss a w → endsS Q ops.toList (l.map (FK.fact wo.heap.size)) a0 w) : (Code.region id ops true).wp P Q a0 wo :=
  regionS hm hfit hlean (by simpa using hF) (Cn.start h0) hones hend
theorem OneS.q {i : Nat} {ks : List Nat} {o : Oper} {d : Tmp} {f : Fact} (hd : o.dst = some d) (hds : d ∉ ss)
    (h : ∀ a w, Grow wo w → Off ops a0 a → factsS ops (l.map (FK.fact wo.heap.size)) a w ks → Region.wanted o (yielded ops a.tmps) = true ∧ o.wp P a w (fun a' w' => ∃ v, a' = a.put o.dst v ∧ Grow w w' ∧ holds f v w') Q) :
    OneS P ops Q a0 (Cn wo ss) (l.map (FK.fact wo.heap.size)) i ks f o :=
  OneS.quiet hd (stable_fk _ l) (fun _ _ _ _ hC g => hC.other hds g) (fun a w hC hoff hf => h a w hC.grow hoff hf)
end
theorem endsS_v {Q : Exit → Act → World → Prop} {o : Oper} {l : List Oper} {d : Tmp} {c : Value} {F : List Fact} {a : Act} {w : World} (hd : o.dst = some d) (h : endsS Q l F (a.put (some d) c) w) : endsS Q (o :: l) (.inl c :: F) a w := by
  simp only [endsS, hd]; exact h
theorem endsS_r {Q : Exit → Act → World → Prop} {o : Oper} {l : List Oper} {d : Tmp} {Φ : Value → World → Prop} {F : List Fact} {a : Act} {w : World} (hd : o.dst = some d) (h : ∀ v, Φ v w → endsS Q l F (a.put (some d) v) w) : endsS Q (o :: l) (.inr Φ :: F) a w := by
  simp only [endsS, hd]; exact h
theorem endsS_s {Q : Exit → Act → World → Prop} {o : Oper} {l : List Oper} {f : Fact} {s : Tmp} {F : List Fact} {a : Act} {w : World} (hd : o.dst = none) (hs : seat o = some s) (h : holds f (a.eval (.tmp s)) w → endsS Q l F a w) : endsS Q (o :: l) (f :: F) a w := by
  simp only [endsS, hd]; exact fun k => h (k s hs)
theorem endsS_nil {Q : Exit → Act → World → Prop} {F : List Fact} {a : Act} {w : World} (h : Q .normal a w) : endsS Q [] F a w := by
  cases F <;> exact h
theorem alloc_run {P : Program} {o : Oper} {T : TypeId} {i : TypeInfo} {z : Value} (hop : o.op = .alloc T) (hi : P.info? T = some i) (hz : i.zero = some z) (ρ : Operand → Value) (w : World) :
    (execOp ρ o).run P w = .ok (.value (pt w.heap.size)) (w.alloc (.cells z.cells T)) := by
  simp [execOp, hop, Instr.alloc, zeroValue, typeInfo, hi, hz, newVar, newRow, pt]
theorem store_run {P : Program} {o : Oper} {T : TypeId} {i : TypeInfo} {s x : Tmp} {cs : Array Value} (hop : o.op = .store T (.tmp s) (.tmp x)) (hi : P.info? T = some i) {m : Nat} (hz0 : i.size = m) (hz1 : cs.size = m) (h1 : ∀ v ∈ cs.toList, v.oneCell' = true)
    {wo : World} (ρ : Operand → Value) (w : World) (A : Nat) (old : Array Value) (hg : Grow wo w) (hA : wo.heap.size ≤ A) (hs : ρ (.tmp s) = pt A) (hx : ρ (.tmp x) = .agg cs) (hb : w.heap[A]? = some (.cells old T (0, 0))) (ho : old.size = cs.size) :
    ∃ w', (execOp ρ o).run P w = .ok .skip w' ∧ Grow wo w' ∧ w'.heap.size = w.heap.size ∧ w'.heap[A]? = some (.cells cs T (0, 0)) ∧ ∀ B, B ≠ A → w'.heap[B]? = w.heap[B]? := by
  have hz : i.size = cs.size := hz0.trans hz1.symm
  have hst := run_storeCells_at (P := P) A 0 T cs.toList 0 old w hb (by simp; omega) h1
  have e : (old.toList.take (0 + 0) ++ cs.toList ++ old.toList.drop (0 + 0 + cs.toList.length)).toArray = cs := by
    rw [List.take_zero, List.nil_append, List.drop_eq_nil_of_le (by simp; omega), List.append_nil]
  rw [e] at hst
  have hne : ∀ B, B ≠ A → (w.setRow A cs).heap[B]? = w.heap[B]? := fun B hB => by
    unfold World.setRow
    simp [Array.getElem?_modify, Ne.symm hB]
  have hsz : (w.setRow A cs).heap.size = w.heap.size := by
    unfold World.setRow
    simp
  refine ⟨w.setRow A cs, ?_, ?_, hsz, setRow_heap w A _ _ _ _ hb, hne⟩
  · simp [execOp, hop, hs, hx, pt, Instr.storeAt, Instr.sureAddr, storeVar, sizeOf, typeInfo, hi, hz, Value.cells, hst]
  · refine ⟨?_, ?_, ?_, by rw [hsz]; exact hg.size, fun k hk hn => ?_⟩
    · rw [← hg.os]; rfl
    · rw [← hg.tape]; rfl
    · rw [← hg.output]; rfl
    · rw [hne k (by omega)]
      exact hg.block k hk hn
end Flow
end Go.Proofs.Ytcnmaplopbbmaaa
