/- A region that draws its order and ends in one operation that waits for all others (a store): operation by operation. No program. -/
/- galliardref13: out, finished and begun by their contracts. -/
import Derived.Test.YtcnmaplopbbmaaaFlow
import Derived.Test.YtcnmaplopbbmaaaMAl
namespace Go.Proofs.Ytcnmaplopbbmaaa
open Go.RowKit
namespace Flow

/-- the region's shape, without its last operation -/
def fitsN (m n : Nat) (ops : Array Oper) : Bool :=
  (List.range m).all fun i =>
    (match dstOf ops i with | some d => decide (d < n) && (List.range i).all (fun j => dstOf ops j != some d) | none => false) &&
    (match ops[i]? with | some o => o.after.toList.all (fun e => !Region.binds .any e || decide (e.on < i)) | none => false)
/-- the last one waits for all others, gives nothing, and is always wanted -/
def lastOk (m : Nat) (ops : Array Oper) (S : List (List Nat)) : Bool :=
  (ops.size == m + 1) && (match ops[m]? with | some o => o.dst.isNone && o.guard.isNone && o.after.toList.all (fun e => !Region.binds .any e || decide (e.on < m)) | none => false) && (List.range m).all fun k => (S.getD m []).contains k

section
variable {P : Program} {ops : Array Oper} {Q : Exit → Act → World → Prop} {a0 : Act} {C : World → Prop} {R : World → World → Prop} {Fs : List Fact} {S : List (List Nat)} {m : Nat}

theorem any_tail (hfit : fitsN m a0.tmps.size ops = true) (hlast : lastOk m ops S = true) (hlean : leans ops S = true) (hst : Stable R Fs) (hR0 : ∀ w, R w w) (hC : ∀ w w', C w → R w w' → C w') (hF : Fs.length = m)
    (hones : Ones P ops Q a0 C R Fs (ops.toList.take m) S Fs)
    (hend : ∀ a w o, ops[m]? = some o → C w → Off ops a0 a → (∀ k, k < m → known ops Fs a w k) → o.wp P a w (fun a' w' => Q .normal a' w') Q) :
    ∀ (fuel : Nat) (listed : Array Bool) (a : Act) (w : World), listed.size = ops.size → listed.getD m true = false → left listed = fuel → C w → Off ops a0 a →
      (∀ k, listed.getD k false = true → known ops Fs a w k) → (∀ m, listed.getD m false = true → ∀ k ∈ S.getD m [], listed.getD k false = true) → wpAny P .any ops Q fuel listed a w := by
  simp only [lastOk, Bool.and_eq_true, beq_iff_eq, List.all_eq_true, List.mem_range, List.contains_iff_mem] at hlast
  obtain ⟨⟨hsize, hlo⟩, hall⟩ := hlast
  obtain ⟨ol, hol⟩ : ∃ o, ops[m]? = some o := by
    cases h : ops[m]? with
    | none => simp [h] at hlo
    | some o => exact ⟨o, rfl⟩
  simp only [hol, Bool.and_eq_true, Option.isNone_iff_eq_none, List.all_eq_true, Bool.or_eq_true, Bool.not_eq_true', decide_eq_true_eq] at hlo
  obtain ⟨⟨hld, hlg⟩, hlaf⟩ := hlo
  have hsh : ∀ i o, i < m → ops[i]? = some o → ∃ d, o.dst = some d ∧ d < a0.tmps.size ∧ (∀ j, j < i → dstOf ops j ≠ some d) ∧ ∀ e ∈ o.after, Region.binds .any e = true → e.on < i := by
    intro i o hi ho
    have h := (List.all_eq_true.1 hfit) i (by simpa using hi)
    simp only [dstOf, ho, Option.bind_some] at h
    cases hd : o.dst with
    | none => simp [hd] at h
    | some d =>
      simp only [hd, Bool.and_eq_true, decide_eq_true_eq, List.all_eq_true, List.mem_range, bne_iff_ne, Bool.or_eq_true, Bool.not_eq_true'] at h
      exact ⟨d, rfl, h.1.1, fun j hj => h.1.2 j hj, fun e he hb => (h.2 e (by simpa using he)).resolve_left (by simp [hb])⟩
  have hdl : dstOf ops m = none := by simp [dstOf, hol, hld]
  have hdm : ∀ i d, dstOf ops i = some d → i < m := by
    intro i d hi
    have : i < ops.size := by
      cases ho : ops[i]? with
      | none => simp [dstOf, ho] at hi
      | some o => exact (Array.getElem?_eq_some_iff.1 ho).1
    rcases Nat.lt_or_ge i m with h | h
    · exact h
    · have : i = m := by omega
      subst this
      rw [hdl] at hi; cases hi
  have hdist : ∀ i j d, dstOf ops i = some d → dstOf ops j = some d → i = j := by
    intro i j d hi hj
    have g : ∀ i j, dstOf ops i = some d → dstOf ops j = some d → ¬ j < i := by
      intro i j hi hj hlt
      cases ho : ops[i]? with
      | none => simp [dstOf, ho] at hi
      | some o =>
        obtain ⟨d', hd', _, hne, _⟩ := hsh i o (hdm i d hi) ho
        have : d' = d := by simpa [dstOf, ho, hd'] using hi
        subst this
        exact hne j hlt hj
    have := g i j hi hj
    have := g j i hj hi
    omega
  have hbnd : ∀ i o, ops[i]? = some o → ∀ e ∈ o.after, Region.binds .any e = true → e.on < i := by
    intro i o ho e he hb
    have hi := (Array.getElem?_eq_some_iff.1 ho).1
    rcases Nat.lt_or_ge i m with h | h
    · obtain ⟨_, _, _, _, hh⟩ := hsh i o h ho
      exact hh e he hb
    · have : i = m := by omega
      subst this
      rw [hol] at ho; cases ho
      exact (hlaf e (by simpa using he)).resolve_left (by simp [hb])
  have hfull : ∀ (listed : Array Bool), listed.size = ops.size → Region.ready .any ops listed = [] → ∀ n i, i < n → i < ops.size → listed.getD i false = true := by
    intro listed hsz hr n
    induction n with
    | zero => intro i h; omega
    | succ n ih =>
      intro i hi hio
      by_cases hin : i < n
      · exact ih i hin hio
      · have hin : i = n := by omega
        cases hl : listed.getD i false with
        | true => rfl
        | false =>
          exfalso
          have ho : ops[i]? = some ops[i] := by simp [hio]
          have hb := hbnd i _ ho
          have : i ∈ Region.ready .any ops listed := mem_ready.2 ⟨by
            have : i < listed.size := by omega
            simpa [this] using hl, _, ho, fun e he hbe => ih e.on (by have := hb e he hbe; omega) (by have := hb e he hbe; omega)⟩
          rw [hr] at this
          cases this
  have hno : ∀ (listed : Array Bool), listed.size = ops.size → listed.getD m true = false → Region.ready .any ops listed = [] → False := by
    intro listed hsz hu hr
    have := getD_true_of_false (hfull listed hsz hr (m + 1) m (by omega) (by omega))
    rw [this] at hu; cases hu
  intro fuel
  induction fuel with
  | zero =>
    intro listed a w hsz hu hl hCw hoff hk _
    exfalso
    have := left_set hu
    omega
  | succ fuel ih =>
    intro listed a w hsz hu hl hCw hoff hk hcl
    refine ⟨fun hr => (hno listed hsz hu hr).elim, fun i hi => ?_⟩
    obtain ⟨hun, o, ho, hal⟩ := mem_ready.1 hi
    have hio : i < ops.size := (Array.getElem?_eq_some_iff.1 ho).1
    have hSi : ∀ k ∈ S.getD i [], listed.getD k false = true := by
      intro k hkS
      have h := (List.all_eq_true.1 hlean) i (by simpa using hio)
      have h := (List.all_eq_true.1 h) k hkS
      simp only [ho, List.any_eq_true, Bool.and_eq_true, Bool.or_eq_true, beq_iff_eq, List.contains_iff_mem] at h
      obtain ⟨e, he, hb, hek⟩ := h
      have hle := hal e (by simpa using he) hb
      rcases hek with rfl | hek
      · exact hle
      · exact hcl e.on hle k hek
    by_cases him : i = m
    · subst him
      rw [hol] at ho; cases ho
      have hlk : ∀ k, k < i → listed.getD k false = true := fun k hk2 => hSi k (hall k hk2)
      have hw := hend a w ol hol hCw hoff fun k hk2 => hk k (hlk k hk2)
      unfold wpOp
      have hwant : Region.wanted ol (yielded ops a.tmps) = true := want_none hlg
      simp only [hol, hwant, if_true]
      refine .inl (Oper.wp_mono (fun a' w' hq => ?_) hw)
      have hdn : ∀ k, k < ops.size → (listed.setIfInBounds i true).getD k false = true := by
        intro k hk2
        by_cases e : k = i
        · subst e
          have : k < listed.size := by omega
          simp [this]
        · exact getD_set_true (hlk k (by omega))
      have hf0 : fuel = 0 := by
        have h1 := left_set hun
        have h2 : left (listed.setIfInBounds i true) = 0 := by
          unfold left
          rw [List.countP_eq_zero]
          intro x hx
          obtain ⟨k, hk2, rfl⟩ := List.getElem_of_mem hx
          have hk3 : k < ops.size := by simpa [hsz] using hk2
          have := hdn k hk3
          have hk4 : k < (listed.setIfInBounds i true).size := by simpa using hk2
          rw [Array.getD_eq_getD_getElem?, Array.getElem?_eq_getElem hk4] at this
          have h5 : (listed.setIfInBounds i true)[k] = true := this
          rw [Array.getElem_toList, h5]
          simp
        omega
      subst hf0
      have hr : Region.ready .any ops (listed.setIfInBounds i true) = [] := by
        cases hr : Region.ready .any ops (listed.setIfInBounds i true) with
        | nil => rfl
        | cons j r =>
          have hj : j ∈ Region.ready .any ops (listed.setIfInBounds i true) := by rw [hr]; simp
          obtain ⟨h1, oj, hoj, _⟩ := mem_ready.1 hj
          have := getD_true_of_false (hdn j (Array.getElem?_eq_some_iff.1 hoj).1)
          rw [this] at h1; cases h1
      exact ⟨hr, hq⟩
    · have him' : i < m := by omega
      obtain ⟨d, hd, hdn, _, _⟩ := hsh i o him' ho
      have hone := ones_at hones i o (by rw [List.getElem?_take_of_lt him']; simpa using ho) a w hCw hoff (facts_mem fun k hkS => hk k (hSi k hkS))
      have next : ∀ v w', R w w' → holds (Fs.getD i (.inr fun _ _ => True)) v w' → wpAny P .any ops Q fuel (listed.setIfInBounds i true) (a.put o.dst v) w' := by
        intro v w' hR hv
        refine ih _ _ _ (by simpa using hsz) ?_ (by have := left_set hun; omega) (hC _ _ hCw hR) ⟨(put_defers _ _ _).trans hoff.defers, (put_size _ _ _).trans hoff.size, fun t ht => ?_⟩ (fun k hkl d' hd' => ?_) (fun m hm k hkS => ?_)
        · rw [getD_set_ne true him]; exact hu
        · rw [hd, eval_put_ne (fun e => ht i (by simp [dstOf, ho, hd, e]))]
          exact hoff.same t ht
        · by_cases e : k = i
          · subst e
            have : d' = d := by simpa [dstOf, ho, hd] using hd'.symm
            subst this
            rw [hd, eval_put_same (by rw [hoff.size]; exact hdn)]
            exact hv
          · have hdd : d ≠ d' := fun e' => e (hdist k i d' hd' (by simp [dstOf, ho, hd, e']))
            rw [hd, eval_put_ne hdd]
            rw [getD_set_ne false (Ne.symm e)] at hkl
            exact holds_stable hst k _ _ _ hR (hk k hkl d' hd')
        · by_cases e : m = i
          · subst e; exact getD_set_true (hSi k hkS)
          · rw [getD_set_ne false (Ne.symm e)] at hm
            exact getD_set_true (hcl m hm k hkS)
      unfold wpOp
      simp only [ho]
      rcases hone with ⟨hw, hone⟩ | ⟨hw, hone⟩
      · simp only [hw, if_true]
        exact .inl (Oper.wp_mono (fun a' w' ⟨v, e, hR, hv⟩ => by subst e; exact next v w' hR hv) hone)
      · simp only [hw, Bool.false_eq_true, if_false]
        exact next undef w (hR0 w) hone

/-- **A REGION THAT DRAWS AND ENDS IN A STORE** -/
theorem region_tail {id : Nat} {w : World} (m : Nat) (hm : P.follows .mixedOrders = true) (hfit : fitsN m a0.tmps.size ops = true) (hlast : lastOk m ops S = true) (hlean : leans ops S = true) (hF : Fs.length = m)
    (hst : Stable R Fs) (hR0 : ∀ w, R w w) (hC : ∀ w w', C w → R w w' → C w') (h0 : C w.drew)
    (hones : Ones P ops Q a0 C R Fs (ops.toList.take m) S Fs)
    (hend : ∀ a w o, ops[m]? = some o → C w → Off ops a0 a → (∀ k, k < m → known ops Fs a w k) → o.wp P a w (fun a' w' => Q .normal a' w') Q) : (Code.region id ops true).wp P Q a0 w := by
  have hsz : ops.size = m + 1 := by
    simp only [lastOk, Bool.and_eq_true, beq_iff_eq] at hlast
    exact hlast.1.1
  exact wp_region_any hm (any_tail hfit hlast hlean hst hR0 hC hF hones hend ops.size (Array.replicate ops.size false) a0 w.drew (by simp) (by simp [hsz])
    (by simp [left, List.countP_replicate]) h0 ⟨rfl, rfl, fun _ _ => rfl⟩
    (fun k hk => by rcases Nat.lt_or_ge k ops.size with h | h <;> simp [h] at hk)
    (fun m hk => by rcases Nat.lt_or_ge m ops.size with h | h <;> simp [h] at hk))
/-- .. with the slots written out behind it -/
theorem region_tail2 {id : Nat} {w : World} (m : Nat) (hm : P.follows .mixedOrders = true) (hfit : fitsN m a0.tmps.size ops = true) (hlast : lastOk m ops S = true) (hlean : leans ops S = true) (hF : Fs.length = m)
    (hst : Stable R Fs) (hR0 : ∀ w, R w w) (hC : ∀ w w', C w → R w w' → C w') (h0 : C w.drew)
    (hones : Ones P ops Q a0 C R Fs (ops.toList.take m) S Fs)
    (hend : ∀ w o, ops[m]? = some o → C w → ends (fun _ a w => o.wp P a w (fun a' w' => Q .normal a' w') Q) (ops.toList.take m) Fs a0 w) : (Code.region id ops true).wp P Q a0 w := by
  refine region_tail m hm hfit hlast hlean hF hst hR0 hC h0 hones fun a w o ho hCw hoff hk => ?_
  have hsz : ops.size = m + 1 := by
    simp only [lastOk, Bool.and_eq_true, beq_iff_eq] at hlast
    exact hlast.1.1
  have hdl : ∀ k, m ≤ k → dstOf ops k = none := by
    intro k hk2
    rcases Nat.lt_or_ge k (m + 1) with h | h
    · have : k = m := by omega
      subst this
      simp only [lastOk, Bool.and_eq_true, ho] at hlast
      have := hlast.1.2.1.1
      simp [dstOf, ho] at this ⊢
      exact this
    · have : ops[k]? = none := by simp; omega
      simp [dstOf, this]
  refine ends_all (Q := fun _ a w => o.wp P a w (fun a' w' => Q .normal a' w') Q) (ops.toList.take m) Fs a0 (fun i oi hoi => ?_) (by simp [hF, hsz]) hoff.defers.symm hoff.size.symm (fun t ht => (hoff.same t fun k hk2 => ?_).symm) (hend w o ho hCw)
  · have him : i < m := by
      have := (List.getElem?_eq_some_iff.1 hoi).1
      simp at this; omega
    rw [List.getElem?_take_of_lt him] at hoi
    have ho' : ops[i]? = some oi := by simpa using hoi
    have h := (List.all_eq_true.1 hfit) i (by simpa using him)
    simp only [dstOf, ho', Option.bind_some] at h
    cases hd : oi.dst with
    | none => simp [hd] at h
    | some d =>
      simp only [hd, Bool.and_eq_true, decide_eq_true_eq] at h
      exact ⟨d, rfl, by rw [hoff.size]; exact h.1.1, hk i him d (by simp [dstOf, ho', hd])⟩
  · rcases Nat.lt_or_ge k m with h | h
    · cases hok : ops[k]? with
      | none => simp [dstOf, hok] at hk2
      | some ok =>
        refine ht ok ?_ (by simpa [dstOf, hok] using hk2)
        refine List.mem_of_getElem? (i := k) ?_
        rw [List.getElem?_take_of_lt h]
        simpa using hok
    · rw [hdl k h] at hk2; cases hk2
end
end Flow
end Go.Proofs.Ytcnmaplopbbmaaa
namespace Go.Proofs.Ytcnmaplopbbmaaa
open Go.RowKit
theorem Gr.outE_step (es : List Gr.Ed) (n : Int) (t : Gr.Tk) (j : Nat) : (Gr.outE es n (j + 1)).foldl Gr.put1 t = if (es.getD j (0, 0)).1 = n then Gr.put1 ((Gr.outE es n j).foldl Gr.put1 t) j else (Gr.outE es n j).foldl Gr.put1 t := by
  rw [Gr.outE, List.foldl_append]
  split <;> rfl
theorem Gr.G.Fit.es {g : Gr.G} (h : g.Fit) : g.es.length ≤ 64 := by
  have := h.pl
  unfold Gr.G.places at this
  omega
theorem tk_sz {t : Gr.Tk} (h : t.1.length = 64) : (Try.prog.info? 80).map (·.size) = some (Gr.tcs t).size ∧ (Gr.tcs t).size = 65 ∧ (Gr.tcs t).all (·.oneCell') = true := ⟨tk_size h, by rw [Gr.tcs_size, h], Gr.tcs_all t⟩
set_option maxRecDepth 100000 in
set_option maxHeartbeats 1000000 in
theorem rout_any (v0 v1 v2 v3 : Value) (g : Gr.G) (n : Nat) (t : Gr.Tk) (W : World) (hF : g.Fit) (hl : t.1.length = 64) (h : Gr.GAt W v0 v1 v2 v3 g) :
    Calls Try.prog 54 #[.agg #[v0, v1, v2, v3], .int .i64 n, .agg (Gr.tcs t)] W fun e w' => e = .returned (.agg (Gr.tcs (g.outT n t))) ∧ Flow.Grow W w' := by
  obtain ⟨ae, ce, rfl⟩ := Gr.Recs.form h.edges
  have HE := Lib.hid h.edges
  have hE := hF.es
  have Hlen : ∀ j, ((Gr.outE g.es n j).foldl Gr.put1 t).1.length = 64 := fun j => by rw [Gr.puts_len, hl]
  obtain ⟨F, hFF⟩ : ∃ F : Nat → Array Value, F = fun j => Gr.tcs ((Gr.outE g.es n j).foldl Gr.put1 t) := ⟨_, rfl⟩
  have HP : Hid (∀ j w, j < g.es.length → (g.es.getD j (0, 0)).1 = n → Calls Try.prog 55 #[.agg (F j), .int .i64 j] w fun e w' => e = .returned (.agg (F (j + 1))) ∧ Flow.Grow w w') := Lib.hid fun j w hj he => by
    rw [hFF]
    dsimp only
    rw [Gr.outE_step, if_pos he]
    exact put_any _ j w (Hlen j) (by omega) (by omega)
  have HN : Hid (∀ j, (g.es.getD j (0, 0)).1 ≠ n → F (j + 1) = F j) := Lib.hid fun j he => by
    rw [hFF]
    dsimp only
    rw [Gr.outE_step, if_neg he]
  have HSz : Hid (∀ j, (Try.prog.info? 80).map (·.size) = some (F j).size ∧ (F j).size = 65 ∧ (F j).all (·.oneCell') = true) := Lib.hid fun j => by rw [hFF]; exact tk_sz (Hlen j)
  have HRes : Hid (Gr.tcs (g.outT n t) = F g.es.length) := Lib.hid (by rw [hFF]; rfl)
  have H00 : Hid (Gr.tcs t = F 0) := Lib.hid (by rw [hFF]; rfl)
  generalize Gr.tcs (g.outT n t) = R at *
  rw [H00.out]
  clear hFF Hlen hF hl h
  have hz0 := zeroTk
  obtain ⟨z, hz⟩ : ∃ z, z = Gr.tcs Gr.tz := ⟨_, rfl⟩
  have Hz : Hid (z.size = 65) := Lib.hid (by rw [hz]; rfl)
  rw [← hz] at hz0
  clear hz
  generalize hEl : g.es.length = E at *
  have HEl := Lib.hid hEl
  clear hEl
  go_enter Try.func54, Try.ntmps54
  go_upto_region 1 with fail
  clear hz0
  have HBw10 : Hid ((((W.alloc (.cells #[v0, v1, v2, .slice ae E ce] 28)).alloc (.cells (F 0) 80)).alloc (.cells z 80)).heap[W.heap.size]? = some (.cells #[v0, v1, v2, .slice ae E ce] 28 (0, 0))) := Lib.hid (lay3_0 _ _ _ _)
  have HBw11 : Hid ((((W.alloc (.cells #[v0, v1, v2, .slice ae E ce] 28)).alloc (.cells (F 0) 80)).alloc (.cells z 80)).heap[W.heap.size + 1]? = some (.cells (F 0) 80 (0, 0))) := Lib.hid (lay3_1 _ _ _ _)
  have HBw12 : Hid ((((W.alloc (.cells #[v0, v1, v2, .slice ae E ce] 28)).alloc (.cells (F 0) 80)).alloc (.cells z 80)).heap[W.heap.size + 1 + 1]? = some (.cells z 80 (0, 0))) := Lib.hid (lay3_2 _ _ _ _)
  have HGw1 : Hid (Flow.Grow W (((W.alloc (.cells #[v0, v1, v2, .slice ae E ce] 28)).alloc (.cells (F 0) 80)).alloc (.cells z 80))) := Lib.hid (lay3_g _ _ _ _)
  have HSw1 : Hid ((((W.alloc (.cells #[v0, v1, v2, .slice ae E ce] 28)).alloc (.cells (F 0) 80)).alloc (.cells z 80)).heap.size = W.heap.size + 1 + 1 + 1) := Lib.hid (by simp)
  generalize ((W.alloc (.cells #[v0, v1, v2, .slice ae E ce] 28)).alloc (.cells (F 0) 80)).alloc (.cells z 80) = w1 at *
  obtain ⟨X, hX⟩ : ∃ X, X = W.heap.size := ⟨_, rfl⟩
  rw [← hX] at HBw10 HBw11 HBw12 HSw1 ⊢
  have HXw1 := Lib.hid hX
  clear hX
  have CXw1 : Hid (∀ wq, Flow.Grow w1 wq → wq.cell? ⟨X, 0, none⟩ = some (v0) ∧ wq.cell? ⟨X, 1, none⟩ = some (v1) ∧ wq.cell? ⟨X, 2, none⟩ = some (v2) ∧ wq.cell? ⟨X, 3, none⟩ = some (.slice ae E ce)) := Lib.hid (fun wq g => ⟨lay_cell g HBw10.out rfl, lay_cell g HBw10.out rfl, lay_cell g HBw10.out rfl, lay_cell g HBw10.out rfl⟩)
  have FXw1 : Hid (∀ wq, Flow.Grow w1 wq → (∀ k, wq.frozen? ⟨X, k, none⟩ = false) ∧ (∀ k, wq.frozen? ⟨X + 1, k, none⟩ = false) ∧ (∀ k, wq.frozen? ⟨X + 1 + 1, k, none⟩ = false)) := Lib.hid (fun wq g => ⟨fun k => lay_frozen g HBw10.out k, fun k => lay_frozen g HBw11.out k, fun k => lay_frozen g HBw12.out k⟩)
  go_wp2_with fail
  go_loopw [7] (fun vi wr => ∃ j : Nat, j ≤ E ∧ vi = .int .i64 j ∧ Hid (wr.heap[X]? = some (.cells #[v0, v1, v2, .slice ae E ce] 28 (0, 0))) ∧ Hid (wr.heap[X + 1]? = some (.cells (F j) 80 (0, 0))) ∧ Hid (wr.heap[X + 1 + 1]? = some (.cells z 80 (0, 0))) ∧ Hid (Flow.Grow W wr)) (fun vi _ => E - (intOf vi).toNat)
  case atStart => exact ⟨0, by omega, rfl, HBw10, HBw11, HBw12, HGw1⟩
  case round =>
    obtain ⟨j, hj, rfl, H0, H1, H2, HG⟩ := hrel
    rename World => wr
    have c3 : wr.cell? ⟨X, 3, none⟩ = some (.slice ae E ce) := (cell_of_row wr X 3 _ _ _ H0.out).trans rfl
    by_cases hjn : j < E
    · obtain ⟨b, off, rfl, p0, p1⟩ := Gr.EsAt.at (Gr.Recs.grow HE.out HG.out) (j := j) (by rw [HEl.out]; exact hjn)
      have HPj := Lib.hid fun w => HP.out j w hjn
      have HNj := Lib.hid (HN.out j)
      have p0' : wr.cell? ⟨b, off + j * 2, none⟩ = some (.int .i64 (g.es.getD j (0, 0)).1) := p0
      clear p0 p1 HP HN
      generalize (g.es.getD j (0, 0)).1 = y at *
      by_cases hy : y = n
      · have d : (y == (n : Int)) = true := by simp [hy]
        replace HPj := Lib.hid fun w => HPj.out w hy
        clear hy
        go_wp2_with (first
          | (with_reducible refine wpList_load_row rfl 80 (.tmp 5) rfl (X + 1) rfl 80 (F j) (0, 0) _ H1.out Try.underlying80 rfl (HSz.out j).1 ?_)
          | (go_at_call 55; refine (HPj.out _).mono ?_; rintro e w3 ⟨rfl, hg⟩; have H1' := Lib.hid (heap_keep hg H1.out); have hst := row_store Try.prog H1'.out ((HSz.out (j + 1)).2.1.trans (HSz.out j).2.1.symm) (HSz.out (j + 1)).2.2; have hsz := (HSz.out (j + 1)).2.1; have H0' := Lib.hid (heap_keep hg H0.out); have H2' := Lib.hid (heap_keep hg H2.out); have HG' := Lib.hid (HG.out.trans hg); clear hg))
        go_roundw
        case rel => exact ⟨j + 1, by omega, by go_num, Lib.hid ((row_other (by omega)).trans H0'.out), Lib.hid (row_set H1'.out), Lib.hid ((row_other (by omega)).trans H2'.out), Lib.hid (row_grow HG'.out (by have := HXw1.out; omega))⟩
        case measure => simp [intOf]; omega
      · have d : (y == (n : Int)) = false := by simp [hy]
        replace HNj := Lib.hid (HNj.out hy)
        clear hy HPj
        go_wp2_with fail
        go_roundw
        case rel => exact ⟨j + 1, by omega, by go_num, H0, Lib.hid (by rw [HNj.out]; exact H1.out), H2, HG⟩
        case measure => simp [intOf]; omega
    · obtain rfl : j = E := by omega
      have hst := row_store Try.prog H2.out ((HSz.out j).2.1.trans Hz.out.symm) (HSz.out j).2.2
      have hsz := (HSz.out j).2.1
      go_wp2_with (with_reducible refine wpList_load_row rfl 80 (.tmp 5) rfl (X + 1) rfl 80 (F j) (0, 0) _ H1.out Try.underlying80 rfl (HSz.out j).1 ?_)
      refine bodyPost_ret (results_cell_row rfl _ _ (X + 1 + 1) _ _ _ _ rfl (row_set H2.out) Try.underlying80 rfl (HSz.out j).1) rfl ⟨by rw [HRes.out], row_grow HG.out (by have := HXw1.out; omega)⟩
end Go.Proofs.Ytcnmaplopbbmaaa
