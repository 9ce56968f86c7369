/- Ev: a function's code, run on what is known of its values. Seventh part: any operation but a call. No program. -/
import Derived.Test.YtmjonmahecdngaaEv6
namespace Go.Proofs.Ytmjonmahecdngaa
open Go.RowKit
namespace Ev
variable {P : Program}

/-! ### texts -/
def evByte : C → Option UInt8
  | .flat (.int .u8 n) => if ((UInt8.ofNat n.toNat).toNat : Int) = n then some (UInt8.ofNat n.toNat) else none
  | _ => none
variable (P)
def isBytesT (T : TypeId) : Bool := match P.underlying T with
  | some (.slice e) => match P.underlying e with
    | some (.int .u8) => true
    | _ => false
  | _ => false
def isStrT (T : TypeId) : Bool := match P.underlying T with
  | some .string => true
  | _ => false
variable {P}
theorem isBytesT_spec {T : TypeId} (h : isBytesT P T = true) : ∃ e, P.underlying T = some (.slice e) ∧ P.underlying e = some (.int .u8) := by
  unfold isBytesT at h
  split at h
  · split at h
    · exact ⟨_, by assumption, by assumption⟩
    · cases h
  · cases h
theorem isStrT_spec {T : TypeId} (h : isStrT P T = true) : P.underlying T = some .string := by
  unfold isStrT at h
  split at h
  · assumption
  · cases h
def evStr (st : St) (c : C) : Option C := match evCells st c with
  | none => none
  | some (cs, n) => match all? evByte cs with
    | none => none
    | some l => if l.length = n then some (.str l) else none
theorem str_spec {m : M} {st : St} {w : World} {a : Act} {e : Look} {o : Oper} {src dst : TypeId} {x : Operand} {c c' : C} (hs : SR m st.h w) (he : EL m e a) (ho : o.op = .convert src dst x) (hsr : isBytesT P src = true) (hd : isStrT P dst = true) (hx : evX e x = some (.s (.c c))) (h : evStr st c = some c') :
    Does P m st w a o (.s (.c c')) st := by
  have hc : VC m c (a.eval x) := evX_spec he hx
  obtain ⟨el, hu, hue⟩ := isBytesT_spec hsr
  have hd := isStrT_spec hd
  unfold evStr at h
  split at h
  · cases h
  rename_i cs n hcells
  obtain ⟨ad, cap, vs, hv, hall, hmem, hnone⟩ := evCells_spec hs hc hcells
  split at h
  · cases h
  rename_i l hl
  split at h
  · rename_i hn
    cases h
    have hsp := all?_spec hl
    refine Does.same hs (v := str' l) ?_ rfl
    have key : (convert src dst (.slice ad n cap)).run P w = .ok (str' l) w := by
      cases ad with
      | none =>
        have hn0 : n = 0 := by
          rcases Nat.eq_zero_or_pos n with h0 | h0
          · exact h0
          · exact absurd rfl (hnone h0)
        subst hn0
        have : l = [] := List.eq_nil_of_length_eq_zero hn
        subst this
        rw [run_convert_bytes_string w src dst el none 0 cap hu hue hd]
        simp [Conv.bytesToString]
        rfl
      | some ad =>
        subst hn
        refine run_convert_bytes_back w src dst el ad cap l hu hue hd fun j hj => ?_
        have hj1 : j < cs.length := by rw [hsp.1]; exact hj
        have hj2 : j < vs.length := by rw [← hall.1]; exact hj1
        have h1 := hsp.2 j cs[j] l[j] (by simp) (by simp)
        have h2 := hall.2 j cs[j] vs[j] (by simp) (by simp)
        rw [hmem ad rfl j vs[j] (by simp)]
        congr 1
        generalize cs[j] = c0 at h1 h2
        unfold evByte at h1
        split at h1
        · rename_i k
          split at h1
          · rename_i hk
            rw [h2.1, ← Option.some.inj h1, hk]
          · cases h1
        · cases h1
    simp [execOp, ho, hv, key]
  · cases h

theorem add_spec {m : M} {w : World} {a : Act} {e : Look} {o : Oper} {T T' : TypeId} {x y : Operand} {s t : List UInt8} (he : EL m e a) (ho : o.op = .binOp .add T x y T') (hx : evX e x = some (.s (.c (.str s)))) (hy : evX e y = some (.s (.c (.str t)))) (h : s.length + t.length ≤ 9223372036854775807) :
    DoesS P m w a o (.s (.c (.str (s ++ t)))) := by
  have h1 : a.eval x = str' s := (show VC m (.str s) (a.eval x) from evX_spec he hx)
  have h2 : a.eval y = str' t := (show VC m (.str t) (a.eval y) from evX_spec he hy)
  refine DoesS.same (v := str' (s ++ t)) ?_ rfl
  have hn : ¬ ((((⟨s.toArray⟩ : ByteArray).size + (⟨t.toArray⟩ : ByteArray).size : Nat) : Int) > IntKind.i64.max) := by
    simp [ByteArray.size, IntKind.max, IntKind.signed, IntKind.bits]; omega
  have hap : (⟨s.toArray⟩ : ByteArray) ++ ⟨t.toArray⟩ = ⟨(s ++ t).toArray⟩ := by
    apply ByteArray.ext; simp [ByteArray.data_append]
  simp only [execOp, ho, h1, h2, str', eqGuard, binOp, Op.stringOp, if_neg hn, hap]
  rfl
def evEqStr (op : BinOp) (s t : List UInt8) : Option Bool := match op with
  | .eql => some (s == t)
  | .neq => some (!(s == t))
  | _ => none
theorem eqStr_spec {m : M} {w : World} {a : Act} {e : Look} {o : Oper} {op : BinOp} {T T' : TypeId} {x y : Operand} {s t : List UInt8} {b : Bool} (he : EL m e a) (ho : o.op = .binOp op T x y T') (hx : evX e x = some (.s (.c (.str s)))) (hy : evX e y = some (.s (.c (.str t)))) (h : evEqStr op s t = some b) :
    DoesS P m w a o (.s (.c (.flat (.bool b)))) := by
  have h1 : a.eval x = str' s := (show VC m (.str s) (a.eval x) from evX_spec he hx)
  have h2 : a.eval y = str' t := (show VC m (.str t) (a.eval y) from evX_spec he hy)
  refine DoesS.same (v := .bool b) ?_ ⟨rfl, rfl⟩
  have e1 : (⟨s.toArray⟩ : ByteArray).toList = s := ByteArray.toList_mk s
  have e2 : (⟨t.toArray⟩ : ByteArray).toList = t := ByteArray.toList_mk t
  unfold evEqStr at h
  split at h
  · cases h; simp [execOp, ho, h1, h2, str', eqGuard, binOp, Op.stringOp, e1, e2]
  · cases h; simp [execOp, ho, h1, h2, str', eqGuard, binOp, Op.stringOp, e1, e2]
  · cases h

/-! ### what asks nothing of the world -/
def valX (e : Look) (x : Operand) : Option Value := match evX e x with
  | some (.s s) => toVal s
  | _ => none
theorem valX_spec {m : M} {e : Look} {a : Act} (he : EL m e a) {x : Operand} {v : Value} (h : valX e x = some v) : a.eval x = v := by
  unfold valX at h
  split at h
  · rename_i s hs
    exact toVal_spec h (evX_spec he hs)
  · cases h
def rho (e : Look) (x : Operand) : Value := (valX e x).getD undef
def dryKind : Op → Bool
  | .binOp .. => true
  | .unOp .. => true
  | .convert .. => true
  | .slice .. => true
  | .makeInterface .. => true
  | .typeAssert .. => true
  | .call { callee := .builtin .min, .. } => true
  | .call { callee := .builtin .max, .. } => true
  | .call { callee := .builtin .len, .. } => true
  | _ => false
theorem exec_congr {ρ ρ' : Operand → Value} {o : Oper} (hk : dryKind o.op = true) (h : ∀ x ∈ o.op.operands.toList, ρ x = ρ' x) : execOp ρ o = execOp ρ' o := by
  obtain ⟨d, op, ty, pos, after, g⟩ := o
  cases op with
  | binOp op t x y yt =>
    have h1 := h x (by simp [Op.operands])
    have h2 := h y (by simp [Op.operands])
    simp [execOp, h1, h2]
  | unOp op t x => have h1 := h x (by simp [Op.operands]); simp [execOp, h1]
  | convert s t x => have h1 := h x (by simp [Op.operands]); simp [execOp, h1]
  | makeInterface t x => have h1 := h x (by simp [Op.operands]); simp [execOp, h1]
  | typeAssert x t u c => have h1 := h x (by simp [Op.operands]); simp [execOp, h1]
  | slice t x l hh mx =>
    have h1 := h x (by simp [Op.operands])
    have e1 : l.map ρ = l.map ρ' := by cases l with | none => rfl | some y => simp [h y (by simp [Op.operands])]
    have e2 : hh.map ρ = hh.map ρ' := by cases hh with | none => rfl | some y => simp [h y (by simp [Op.operands])]
    have e3 : mx.map ρ = mx.map ρ' := by cases mx with | none => rfl | some y => simp [h y (by simp [Op.operands])]
    simp [execOp, h1, e1, e2, e3]
  | call c =>
    obtain ⟨cl, args, ts⟩ := c
    cases cl with
    | builtin b =>
      have e1 : args.map ρ = args.map ρ' := by
        apply Array.ext'
        simp only [Array.toList_map]
        exact List.map_congr_left fun x hx => h x (by simpa [Op.operands, Call.operands] using hx)
      simp [execOp, resolve, e1]
    | value f => cases hk
    | invoke r n => cases hk
  | _ => cases hk
variable (P)
def evDry (e : Look) (o : Oper) : Option PV :=
  if dryKind o.op && o.op.operands.toList.all (fun x => (valX e x).isSome) then match dry P (execOp (rho e) o) with
    | some (.value v) => match ofValue v with | some s => some (.s s) | none => none
    | _ => none
  else none
variable {P}
theorem dry_spec {m : M} {w : World} {a : Act} {e : Look} {o : Oper} {pv : PV} (he : EL m e a) (h : evDry P e o = some pv) : DoesS P m w a o pv := by
  unfold evDry at h
  split at h
  · rename_i hh
    simp only [Bool.and_eq_true, List.all_eq_true] at hh
    have hc := exec_congr (ρ := a.eval) (ρ' := rho e) hh.1 fun x hx => by
      have := hh.2 x hx
      cases hv : valX e x with
      | none => rw [hv] at this; cases this
      | some v => rw [valX_spec he hv, rho, hv]; rfl
    split at h
    · rename_i v hv
      split at h
      · rename_i s hsv
        cases h
        exact DoesS.same (v := v) (by rw [hc]; exact dry_run hv w) (ofValue_spec hsv)
      · cases h
    · cases h
  · cases h

/-! ### against nil -/
variable (P)
def evNil (op : BinOp) (T : TypeId) (x y : C) : Option Bool := match x, y with
  | .ptr _ _, .flat (.pointer none) => match P.underlying T with
    | some (.pointer _) => (match op with | .eql => some false | .neq => some true | _ => none)
    | _ => none
  | .sl _ _ _ _, .flat (.slice none 0 0) => match P.underlying T with
    | some (.slice _) => (match op with | .eql => some false | .neq => some true | _ => none)
    | _ => none
  | .emp _, .flat (.slice none 0 0) => match P.underlying T with
    | some (.slice _) => (match op with | .eql => some false | .neq => some true | _ => none)
    | _ => none
  | .q _ _ _, .flat (.slice none 0 0) => match P.underlying T with
    | some (.slice _) => (match op with | .eql => some false | .neq => some true | _ => none)
    | _ => none
  | _, _ => none
variable {P}
theorem exec_bin {ρ : Operand → Value} {o : Oper} {op : BinOp} {T T' : TypeId} {x y : Operand} (ho : o.op = .binOp op T x y T') {w : World} {v : Value}
    (hg : ∀ w, (eqGuard op T x y (ρ x) (ρ y)).run P w = .ok () w) (h : (binOp op T (ρ x) (ρ y)).run P w = .ok v w) : (execOp ρ o).run P w = .ok (.value v) w := by
  simp [execOp, ho, hg, h]
theorem nil_spec {m : M} {w : World} {a : Act} {e : Look} {o : Oper} {op : BinOp} {T T' : TypeId} {x y : Operand} {c d : C} {b : Bool} (he : EL m e a) (ho : o.op = .binOp op T x y T') (hx : evX e x = some (.s (.c c))) (hy : evX e y = some (.s (.c d))) (h : evNil P op T c d = some b) :
    DoesS P m w a o (.s (.c (.flat (.bool b)))) := by
  have hc : VC m c (a.eval x) := evX_spec he hx
  have hd : VC m d (a.eval y) := evX_spec he hy
  refine DoesS.same (v := .bool b) ?_ ⟨rfl, rfl⟩
  unfold evNil at h
  split at h
  · obtain ⟨p, _, h1⟩ := hc
    have h2 := hd.1
    have hg : ∀ w, (eqGuard op T x y (a.eval x) (a.eval y)).run P w = .ok () w := fun w => by rw [h1, h2]; simp [eqGuard]
    split at h
    · rename_i el hu
      have hu' : P.underlying T = some (.pointer (P.pointee T)) := by rw [hu]; simp [Program.pointee, hu]
      split at h
      · cases h; exact exec_bin ho hg (by rw [h1, h2]; exact run_eql_pointer_nil w T (some _) hu')
      · cases h; exact exec_bin ho hg (by rw [h1, h2]; exact run_neq_pointer_nil w T (some _) hu')
      · cases h
    · cases h
  · obtain ⟨p, cap, _, h1, _⟩ := hc
    have h2 := hd.1
    have hg : ∀ w, (eqGuard op T x y (a.eval x) (a.eval y)).run P w = .ok () w := fun w => by rw [h1, h2]; simp [eqGuard]
    split at h
    · rename_i el hu
      split at h
      · cases h; exact exec_bin ho hg (by rw [h1, h2]; exact Lib.run_eql_slice_nil w T el (some _) _ _ _ _ hu)
      · cases h; exact exec_bin ho hg (by rw [h1, h2]; exact run_neq_slice_nil_any w T el (some _) _ _ _ _ hu)
      · cases h
    · cases h
  · obtain ⟨p, cap, h1, _⟩ := hc
    have h2 := hd.1
    have hg : ∀ w, (eqGuard op T x y (a.eval x) (a.eval y)).run P w = .ok () w := fun w => by rw [h1, h2]; simp [eqGuard]
    split at h
    · rename_i el hu
      split at h
      · cases h; exact exec_bin ho hg (by rw [h1, h2]; exact Lib.run_eql_slice_nil w T el (some _) _ _ _ _ hu)
      · cases h; exact exec_bin ho hg (by rw [h1, h2]; exact run_neq_slice_nil_any w T el (some _) _ _ _ _ hu)
      · cases h
    · cases h
  · obtain ⟨p, x0, cap, _, h1, _⟩ := hc
    have h2 := hd.1
    have hg : ∀ w, (eqGuard op T x y (a.eval x) (a.eval y)).run P w = .ok () w := fun w => by rw [h1, h2]; simp [eqGuard]
    split at h
    · rename_i el hu
      split at h
      · cases h; exact exec_bin ho hg (by rw [h1, h2]; exact Lib.run_eql_slice_nil w T el (some _) _ _ _ _ hu)
      · cases h; exact exec_bin ho hg (by rw [h1, h2]; exact run_neq_slice_nil_any w T el (some _) _ _ _ _ hu)
      · cases h
    · cases h
  · cases h
end Ev
end Go.Proofs.Ytmjonmahecdngaa
