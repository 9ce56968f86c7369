/- Ev: a function's code, run on what is known of its values. Seventh part, more: copies, bytes of texts, low bits, slices with three bounds. No program. -/
import Derived.Test.YtmjonmahecdngaaEv7
namespace Go.Proofs.Ytmjonmahecdngaa
open Go.RowKit
namespace Ev
variable {P : Program}

/-! ### copy -/
def srcCells (st : St) : C → Option (List C × Nat)
  | .str l => some (l.map fun b => .flat (.int .u8 b.toNat), l.length)
  | c => evCells st c
variable (P)
def evCopy (st : St) (T : TypeId) (d s : C) : Option (PV × St) :=
  match P.underlying T with
  | some (.slice el) => match sizeT P el with
    | none => none
    | some sz => match srcCells st s with
      | none => none
      | some (cs, k) => match d with
        | .sl i off len sz' => match st.h[i]? with
          | none => none
          | some o => if o.live = true ∧ o.rw = true ∧ sz' = sz ∧ cs.length = k * sz ∧ (o.full = true ∨ off + min k len * sz ≤ o.cells.length) then
              some (.s (.c (.flat (.int .i64 ((min k len : Nat) : Int)))), ⟨st.h.set i { o with cells := o.cells.take off ++ cs.take (min k len * sz) ++ o.cells.drop (off + min k len * sz), full := o.full }, min st.lo i⟩) else none
        | _ => none
  | _ => none
variable {P}
theorem src_spec {m : M} {st : St} {w : World} (hs : SR m st.h w) {c : C} {v : Value} (hv : VC m c v) {cs : List C} {n : Nat} (h : srcCells st c = some (cs, n)) (size : Nat) (hcl : cs.length = n * size) (hsz : ∀ l, c = .str l → size = 1) :
    (Builtin.lenOf v).run P w = .ok n w ∧ ∃ vs, All2 (VC m) cs vs ∧ ∀ k, k ≤ n → (Builtin.firstCells size k v).run P w = .ok (vs.take (k * size)).toArray w := by
  by_cases hstr : ∃ l, c = .str l
  · obtain ⟨l, rfl⟩ := hstr
    have h1 := hsz l rfl
    subst h1
    cases h
    have hv : v = str' l := hv
    subst hv
    refine ⟨by simp [Builtin.lenOf, str', ByteArray.size], l.map fun b => .int .u8 (b.toNat : Int), All2.map _ _ (fun b => ⟨rfl, rfl⟩) l, fun k hk => ?_⟩
    have hex : (⟨l.toArray⟩ : ByteArray).extract 0 k = ⟨(l.take k).toArray⟩ := by
      apply ByteArray.ext
      rw [ByteArray.data_extract]
      apply Array.ext'
      simp
    simp [Builtin.firstCells, str', hex]
  · have hc : evCells st c = some (cs, n) := by
      cases c <;> first | exact h | exact absurd ⟨_, rfl⟩ hstr
    obtain ⟨ad, cap, vs, rfl, hall, hmem, hnone⟩ := evCells_spec hs hv hc
    refine ⟨by simp [Builtin.lenOf], vs, hall, fun k hk => ?_⟩
    have hvl : vs.length = n * size := by rw [← hall.1]; exact hcl
    have hks : k * size ≤ n * size := Nat.mul_le_mul_right _ hk
    cases ad with
    | none =>
      have hn : n = 0 := by
        rcases Nat.eq_zero_or_pos n with h0 | h0
        · exact h0
        · exact absurd rfl (hnone h0)
      subst hn
      have : vs = [] := List.eq_nil_of_length_eq_zero (by rw [hvl]; simp)
      subst this
      simp [Builtin.firstCells]
    | some b =>
      refine run_firstCells_some (P := P) w size k b n cap (vs.take (k * size)) (by simp; omega) fun j u hu => ?_
      rw [List.getElem?_take] at hu
      split at hu
      · exact hmem b rfl j u hu
      · cases hu
theorem copy_spec {m : M} {st st' : St} {w : World} {a : Act} {e : Look} {o : Oper} {T : TypeId} {ts : Array TypeId} {d s : Operand} {cd cs : C} {pv : PV} (hs : SR m st.h w) (he : EL m e a) (ho : o.op = .call { callee := .builtin .copy, args := #[d, s], argTypes := ts }) (hts : ts[0]? = some T)
    (hd : evX e d = some (.s (.c cd))) (hsx : evX e s = some (.s (.c cs))) (hstr : ∀ l, cs = .str l → ∀ el, P.underlying T = some (.slice el) → sizeT P el = some 1) (h : evCopy P st T cd cs = some (pv, st')) : Does P m st w a o pv st' := by
  have hcd : VC m cd (a.eval d) := evX_spec he hd
  have hcs : VC m cs (a.eval s) := evX_spec he hsx
  unfold evCopy at h
  split at h
  · rename_i el hu
    split at h
    · cases h
    rename_i sz hsz
    split at h
    · cases h
    rename_i news k hsrc
    split at h
    · rename_i i off len sz'
      split at h
      · cases h
      rename_i ob hob
      split at h
      · rename_i hh
        obtain ⟨hl, hrw, rfl, hnl, hfit⟩ := hh
        cases h
        obtain ⟨p, cap, hm, hdv, hle, hmx, hcap⟩ := hcd
        obtain ⟨cur, fr, hb, hcz, hpl, hcell, hf⟩ := hs.obj i p ob hm hob hl
        have hfl := fun h => (hf.2 h).2
        have hf0 := fun h => (hf.2 h).1
        obtain rfl := hf.1 hrw
        have hfit : off + min k len * sz' ≤ ob.cells.length := hfit.elim (fun hf => by
          have e := hfl hf
          have e0 := hf0 hf
          have h1 : min k len * sz' ≤ cap * sz' := Nat.mul_le_mul_right _ (Nat.le_trans (Nat.min_le_right _ _) hle)
          omega) id
        obtain ⟨hlen, vs, hall, hfirst⟩ := src_spec (P := P) hs hcs hsrc sz' hnl (fun l hl' => by have := hstr l hl' el hu; rw [hsz] at this; cases this; rfl)
        have hmin : Nat.min k len = min k len := rfl
        have hf := hfirst (min k len) (Nat.min_le_left _ _)
        have hvl : vs.length = k * sz' := by rw [← hall.1]; exact hnl
        have hnk : min k len * sz' ≤ k * sz' := Nat.mul_le_mul_right _ (Nat.min_le_left _ _)
        have htl : (vs.take (min k len * sz')).length = min k len * sz' := by simp; omega
        have hall' := hall.take (min k len * sz')
        have hone : ∀ u ∈ vs.take (min k len * sz'), u.oneCell' = true := fun u hu' => by
          obtain ⟨j, hj, rfl⟩ := List.mem_iff_getElem.1 hu'
          have hj' : j < (news.take (min k len * sz')).length := by rw [hall'.1]; exact hj
          exact (hall'.2 j _ _ (List.getElem?_eq_getElem hj') (List.getElem?_eq_getElem hj)).one
        have hst := run_storeCells_at P p.b (p.o + off) ob.ty (vs.take (min k len * sz')) 0 cur w hb (by rw [htl]; omega) hone
        simp only [Nat.add_zero, htl] at hst
        generalize hK : min k len * sz' = K at *
        have hres := Res.write hs hm hob hl hrw hb (ob.cells.take off ++ news.take K ++ ob.cells.drop (off + K)) (cur.toList.take (p.o + off) ++ vs.take K ++ cur.toList.drop (p.o + off + K)).toArray
          (by simp; omega) (by have := hall'.1; simp at this ⊢; omega) (fun j c hj => by
            have htk : (vs.take K).length = K := htl
            have hnt : (news.take K).length = K := by rw [hall'.1, htl]
            simp only [List.getElem?_toArray, List.append_assoc]
            have hmin2 : (cur.toList.take (p.o + off)).length = p.o + off := by simp; omega
            by_cases j1 : j < off
            · rw [List.append_assoc, List.getElem?_append_left (by simp; omega), List.getElem?_take, if_pos j1] at hj
              obtain ⟨u, hu, hvc⟩ := hcell j c hj
              refine ⟨u, ?_, hvc⟩
              rw [List.getElem?_append_left (by omega), List.getElem?_take, if_pos (by omega)]
              simpa using hu
            · have hmin1 : (ob.cells.take off).length = off := by simp; omega
              rw [List.append_assoc, List.getElem?_append_right (by omega), hmin1] at hj
              rw [List.getElem?_append_right (by omega), hmin2, show p.o + j - (p.o + off) = j - off by omega]
              by_cases j2 : j < off + K
              · rw [List.getElem?_append_left (by omega)] at hj
                have hj3 : j - off < (vs.take K).length := by omega
                refine ⟨(vs.take K)[j - off], ?_, hall'.2 _ c _ hj (List.getElem?_eq_getElem hj3)⟩
                rw [List.getElem?_append_left hj3, List.getElem?_eq_getElem hj3]
              · rw [List.getElem?_append_right (by omega), List.getElem?_drop, hnt, show off + K + (j - off - K) = j by omega] at hj
                obtain ⟨u, hu, hvc⟩ := hcell j c hj
                refine ⟨u, ?_, hvc⟩
                rw [List.getElem?_append_right (by omega), List.getElem?_drop, htk, show p.o + off + K + (j - off - K) = p.o + j by omega]
                simpa using hu) ob.full (fun h => by
            have e := hfl h
            have e0 := hf0 h
            have hnt : (news.take K).length = K := by rw [hall'.1, htl]
            refine ⟨e0, ?_⟩
            simp only [List.length_append, List.length_take, List.length_drop] at hnt ⊢
            omega)
        refine ⟨_, .int .i64 ((min k len : Nat) : Int), _, m, ?_, .inl rfl, ⟨rfl, rfl⟩, hres⟩
        simp only [execOp, ho, resolve, invoke, builtin, Sem.run_bind, Sem.run_pure, Result.andThen_ok, List.map_toArray, List.map_cons, List.map_nil]
        have hrun : (Builtin.copy_ ts o.type #[a.eval d, a.eval s]).run P w = .ok (.int .i64 ((min k len : Nat) : Int)) (w.setRow p.b (cur.toList.take (p.o + off) ++ vs.take K ++ cur.toList.drop (p.o + off + K)).toArray) := by
          simp only [Builtin.copy_, hts, hdv]
          simp [run_underlying hu, Sem.run_bind, hlen, run_sizeOf hsz, hmin, hf, hst, goInt]
        rw [hrun]
        rfl
      · cases h
    · cases h
  · cases h

/-! ### low bits -/
def evLow (op : BinOp) (k r : Nat) (y : C) : Option C := match op, y with
  | .and, .flat (.int .i64 n) => match (List.range (k + 1)).find? (fun j => decide (n = 2 ^ j - 1)) with
    | some j => if j ≤ 62 then some (.flat (.int .i64 ((r % 2 ^ j : Nat) : Int))) else none
    | none => none
  | .shr, .flat (.int _ n) => if 0 ≤ n ∧ n.toNat ≤ k ∧ n.toNat ≤ 63 then some (.low (k - n.toNat) (r / 2 ^ n.toNat)) else none
  | _, _ => none
theorem i64_mask (n : Int) (k : Nat) (hk : k ≤ 62) (m : Int) (hm : m = 2 ^ k - 1) : bits .and .i64 n m = n % 2 ^ k := by
  subst hm
  have hp : (2 : Nat) ^ k ≤ 2 ^ 62 := Nat.pow_le_pow_right (by omega) hk
  have h1 : 1 ≤ (2 : Nat) ^ k := Nat.one_le_two_pow
  have e : ((2 : Int) ^ k - 1) = ((2 ^ k - 1 : Nat) : Int) := by
    rw [Int.ofNat_sub h1]; simp
  have hpi : ((2 : Int) ^ k) = ((2 ^ k : Nat) : Int) := by simp
  have ofInt64 : ∀ a : Nat, a < 2 ^ 63 → (BitVec.ofInt 64 (a : Int)).toNat = a := fun a ha => by rw [BitVec.toNat_ofInt]; omega
  rw [e, hpi]
  show IntKind.i64.wrap ((BitVec.ofInt 64 n &&& BitVec.ofInt 64 ((2 ^ k - 1 : Nat) : Int)).toNat : Nat) = _
  rw [BitVec.toNat_and, ofInt64 (2 ^ k - 1) (by omega), Nat.and_two_pow_sub_one_eq_mod, BitVec.toNat_ofInt, IntKind.wrap_i64]
  have hd : ((2 : Int) ^ 64) = (2 ^ k : Nat) * (2 ^ (64 - k) : Nat) := by
    rw [← Int.natCast_mul, ← Nat.pow_add, show k + (64 - k) = 64 from by omega]; rfl
  have h3 : ((n % ((2 ^ 64 : Nat) : Int)).toNat : Int) = n % 2 ^ 64 := by omega
  have h4 : (((n % ((2 ^ 64 : Nat) : Int)).toNat % 2 ^ k : Nat) : Int) = n % ((2 ^ k : Nat) : Int) := by
    rw [Int.natCast_emod, h3, hd, Int.emod_emod_of_dvd _ (Int.dvd_mul_right _ _)]
  have h5 : n % ((2 ^ k : Nat) : Int) < ((2 ^ k : Nat) : Int) := Int.emod_lt_of_pos _ (by omega)
  have h6 : 0 ≤ n % ((2 ^ k : Nat) : Int) := Int.emod_nonneg _ (by omega)
  rw [h4]
  omega
theorem low_spec {m : M} {w : World} {a : Act} {e : Look} {o : Oper} {op : BinOp} {T T' : TypeId} {x y : Operand} {k r : Nat} {d c : C} (he : EL m e a) (ho : o.op = .binOp op T x y T') (hx : evX e x = some (.s (.c (.low k r)))) (hy : evX e y = some (.s (.c d))) (h : evLow op k r d = some c) :
    DoesS P m w a o (.s (.c c)) := by
  obtain ⟨n, hv, hn⟩ : VC m (.low k r) (a.eval x) := evX_spec he hx
  have hd : VC m d (a.eval y) := evX_spec he hy
  unfold evLow at h
  split at h
  · rename_i mk
    have hm : a.eval y = .int .i64 mk := hd.1
    split at h
    · rename_i j hj
      split at h
      · rename_i hj62
        cases h
        have hjk : j ≤ k := by
          have := List.mem_of_find?_eq_some hj
          simp at this
          omega
        have hmk : mk = 2 ^ j - 1 := by have := List.find?_some hj; simpa using this
        have hb := i64_mask n j hj62 mk hmk
        have hval : n % 2 ^ j = ((r % 2 ^ j : Nat) : Int) := by
          have hdvd : ((2 ^ j : Nat) : Int) ∣ ((2 ^ k : Nat) : Int) := by
            rw [← Nat.sub_add_cancel hjk, Nat.pow_add, Int.natCast_mul]
            exact Int.dvd_mul_left _ _
          have h1 := Int.emod_emod_of_dvd n hdvd
          rw [hn] at h1
          rw [Int.natCast_emod]
          have h2 : ((2 ^ j : Nat) : Int) = 2 ^ j := by simp
          rw [h2] at h1 ⊢
          exact h1.symm
        refine DoesS.same (v := .int .i64 ((r % 2 ^ j : Nat) : Int)) ?_ ⟨rfl, rfl⟩
        refine exec_bin ho (fun w => by rw [hv, hm]; simp [eqGuard]) ?_
        rw [hv, hm, ← hval, ← hb]
        rfl
      · cases h
    · cases h
  · rename_i yk mk
    have hm : a.eval y = .int yk mk := hd.1
    split at h
    · rename_i hh
      cases h
      have hneg : ¬ mk < 0 := by omega
      have hmin : min mk.toNat IntKind.i64.bits = mk.toNat := by simp [IntKind.bits]; omega
      refine DoesS.same (v := .int .i64 (n.fdiv (2 ^ mk.toNat))) ?_ ⟨_, rfl, ?_⟩
      · refine exec_bin ho (fun w => by rw [hv, hm]; simp [eqGuard]) ?_
        rw [hv, hm]
        simp [binOp]
        exact (Int.fdiv_eq_ediv_of_nonneg _ (Int.pow_nonneg (by decide))).symm
      · have hp : (0 : Int) < ((2 ^ mk.toNat : Nat) : Int) := by have := Nat.two_pow_pos mk.toNat; omega
        have e1 : (2 : Int) ^ mk.toNat = ((2 ^ mk.toNat : Nat) : Int) := by simp
        rw [Int.fdiv_eq_ediv_of_nonneg _ (by rw [e1]; omega), e1]
        have e2 : ((2 ^ k : Nat) : Int) = ((2 ^ mk.toNat : Nat) : Int) * ((2 ^ (k - mk.toNat) : Nat) : Int) := by
          rw [← Int.natCast_mul, ← Nat.pow_add, Nat.add_sub_cancel' hh.2.1]
        rw [e2] at hn
        have hd := Int.emod_add_mul_ediv n (((2 ^ mk.toNat : Nat) : Int) * ((2 ^ (k - mk.toNat) : Nat) : Int))
        have hq : (0 : Int) < ((2 ^ (k - mk.toNat) : Nat) : Int) := by have := Nat.two_pow_pos (k - mk.toNat); omega
        have hlt : n % (((2 ^ mk.toNat : Nat) : Int) * ((2 ^ (k - mk.toNat) : Nat) : Int)) < ((2 ^ mk.toNat : Nat) : Int) * ((2 ^ (k - mk.toNat) : Nat) : Int) := Int.emod_lt_of_pos _ (Int.mul_pos hp hq)
        rw [hn] at hd hlt
        generalize n / (((2 ^ mk.toNat : Nat) : Int) * ((2 ^ (k - mk.toNat) : Nat) : Int)) = t at hd
        rw [← hd, Int.mul_assoc, Int.add_mul_ediv_left _ _ (by omega), Int.add_mul_emod_self_left, Int.natCast_ediv]
        exact Int.emod_eq_of_lt (Int.ediv_nonneg (by omega) (by omega)) (Int.ediv_lt_of_lt_mul hp (by rw [Int.mul_comm]; exact hlt))
    · cases h
  · cases h

/-! ### s[lo:hi:max] -/
variable (P)
def evSlice3 (e : Look) (T : TypeId) (lo : Option Operand) (hi mx : Operand) : C → Option C
  | .sl i off len sz => match P.underlying T with
    | some (.slice el) => if sizeT P el = some sz then match evBound e 0 lo, evBound e 0 (some hi), evBound e 0 (some mx) with
      | some l, some h, some m => if l ≤ h ∧ h ≤ m ∧ m ≤ len then some (if l < h then .sl i (off + l * sz) (h - l) sz else .emp (m == l)) else none
      | _, _, _ => none
      else none
    | _ => none
  | _ => none
variable {P}
theorem slice3_spec {m : M} {w : World} {a : Act} {e : Look} {o : Oper} {T : TypeId} {x : Operand} {lo : Option Operand} {hi mx : Operand} {c c' : C} (he : EL m e a) (ho : o.op = .slice T x lo (some hi) (some mx)) (hx : evX e x = some (.s (.c c))) (h : evSlice3 P e T lo hi mx c = some c') : DoesS P m w a o (.s (.c c')) := by
  have hc : VC m c (a.eval x) := evX_spec he hx
  cases c with
  | sl i off len sz =>
    obtain ⟨p, cap, hm, hv, h1, h2, h3⟩ := hc
    simp only [evSlice3] at h
    split at h
    · rename_i el hu
      split at h
      · rename_i hz
        split at h
        · rename_i l hh mm hl hhi hmx
          split at h
          · rename_i hle
            have hb : ∀ (x : Operand) (y b : Nat) (code : BoundsCode), evBound e 0 (some x) = some b → b ≤ y → (Instr.sliceBound (a.eval x) y code).run P w = .ok b w := fun x y b code hx hy => by
              obtain ⟨k, n, hv, h0, rfl⟩ := evBound_spec he hx
              have : n ≤ (y : Int) := by omega
              simp [Instr.sliceBound, asIntOf, hv, h0, this]
            have hbs : (Instr.sliceBounds true len cap (lo.map a.eval) (some (a.eval hi)) (some (a.eval mx))).run P w = .ok (l, hh, mm) w := by
              unfold Instr.sliceBounds
              cases lo with
              | none =>
                cases hl
                simp [hb mx cap mm _ hmx (by omega), hb hi mm hh _ hhi hle.2.1]
              | some y => simp [hb mx cap mm _ hmx (by omega), hb hi mm hh _ hhi hle.2.1, hb y hh l _ hl hle.1]
            have hr : (execOp a.eval o).run P w = .ok (.value (.slice (if mm = l then (some ⟨p.b, p.o + off, none⟩) else (some (Addr.add ⟨p.b, p.o + off, none⟩ (l * sz)))) (hh - l) (mm - l))) w := by
              simp [execOp, ho, Instr.sliceAt, Instr.slice, hv, run_underlying hu, Sem.run_bind, hbs, run_sizeOf hz]
            by_cases hlt : l < hh
            · rw [if_pos hlt] at h
              cases h
              refine DoesS.same hr ⟨p, mm - l, hm, ?_, by omega, by omega, ?_⟩
              · rw [if_neg (by omega), Addr.add_lit, Nat.add_assoc]
              · have : (mm - l) * sz + l * sz = mm * sz := by rw [← Nat.add_mul, Nat.sub_add_cancel (by omega)]
                have : mm * sz ≤ cap * sz := Nat.mul_le_mul_right _ (by omega)
                omega
            · rw [if_neg hlt] at h
              cases h
              refine DoesS.same hr ?_
              have : hh - l = 0 := by omega
              rw [this, ite_some]
              exact ⟨_, _, rfl, fun hz => by have : mm = l := by simpa using hz
                                             omega⟩
          · cases h
        · cases h
      · cases h
    · cases h
  | emp z => cases h
  | low k r => cases h
  | str s => cases h
  | flat v => cases h
  | ptr i off => cases h
  | fn f caps => cases h
  | mt f i off => cases h
  | q _ _ _ => cases h

/-! ### []byte(s) -/
variable (P)
def bytesEl (T : TypeId) : TypeId := match P.underlying T with
  | some (.slice e) => e
  | _ => 0
variable {P}
def evBytes (st : St) (el : TypeId) (l : List UInt8) : Option (PV × St) :=
  if l.length ≤ maxLen then some (.s (.c (.sl st.h.length 0 l.length 1)), ⟨st.h ++ [⟨l.map fun b => .flat (.int .u8 b.toNat), el, false, true, false⟩], st.lo⟩) else none
theorem Res.allocRo {m : M} {st : St} {w : World} (hs : SR m st.h w) (cs : List C) (cur : Array Value) (T : TypeId) (fr : Nat × Nat) (hn : cs.length ≤ cur.size) (hv : ∀ (j : Nat) c, cs[j]? = some c → ∃ v, cur[j]? = some v ∧ VC m c v) :
    Res m st w (put m st.h.length ⟨w.heap.size, 0, cur.size⟩) ⟨st.h ++ [⟨cs, T, false, true, false⟩], st.lo⟩ (w.alloc (.cells cur T fr)) := by
  have hext := put_ext (n := st.h.length) ⟨w.heap.size, 0, cur.size⟩ hs.dom
  have hold : ∀ b, b < w.heap.size → (w.alloc (.cells cur T fr)).heap[b]? = w.heap[b]? := fun b hb => Below.heap_alloc w _ b hb
  refine ⟨⟨?_, ?_, ?_⟩, ⟨hext, ?_, ?_, by simp, rfl, rfl, rfl, fun b hb _ => hold b hb⟩, by simp, Nat.le_refl _, fun i hi _ => by simp [List.getElem?_append_left hi]⟩
  · intro i p hm
    by_cases hi : i = st.h.length
    · subst hi; simp
    · rw [put_ne _ _ hi] at hm; have := hs.dom i p hm; simp; omega
  · intro i p o hm ho hl
    by_cases hi : i = st.h.length
    · subst hi
      rw [put_same] at hm
      cases hm
      have : o = ⟨cs, T, false, true, false⟩ := by simpa using ho.symm
      subst this
      refine ⟨_, _, heap_alloc_new w _, rfl, by show 0 + cs.length ≤ cur.size; omega, fun j c hc => ?_, (fun h => by cases h), (fun h => by cases h)⟩
      obtain ⟨v, h1, h2⟩ := hv j c hc
      exact ⟨v, by rw [Nat.zero_add]; exact h1, h2.ext hext⟩
    · rw [put_ne _ _ hi] at hm
      have hlt := hs.dom i p hm
      rw [List.getElem?_append_left hlt] at ho
      obtain ⟨cur, fr, h1, h2, h3, h4, h5⟩ := hs.obj i p o hm ho hl
      exact ⟨cur, fr, by rw [hold _ (Array.getElem?_eq_some_iff.1 h1).1]; exact h1, h2, h3, fun j c hc => by obtain ⟨v, a, b⟩ := h4 j c hc; exact ⟨v, a, b.ext hext⟩, h5⟩
  · intro i j p q o o' hi hj ho ho' hrw hl hl' hne
    by_cases ei : i = st.h.length
    · subst ei
      have : o = ⟨cs, T, false, true, false⟩ := by simpa using ho.symm
      subst this
      cases hrw
    · rw [put_ne _ _ ei] at hi
      rw [List.getElem?_append_left (hs.dom i p hi)] at ho
      by_cases ej : j = st.h.length
      · subst ej
        rw [put_same] at hj; cases hj
        have := hs.lt hi ho hl
        show p.b ≠ w.heap.size
        omega
      · rw [put_ne _ _ ej] at hj
        rw [List.getElem?_append_left (hs.dom j q hj)] at ho'
        exact hs.sep i j p q o o' hi hj ho ho' hrw hl hl' hne
  · intro i hi
    exact put_ne _ _ (by omega)
  · intro j p hj hm
    by_cases ej : j = st.h.length
    · subst ej; rw [put_same] at hm; cases hm; exact .inl (Nat.le_refl _)
    · rw [put_ne _ _ ej] at hm; have := hs.dom j p hm; omega
theorem bytes_spec {m : M} {st st' : St} {w : World} {a : Act} {e : Look} {o : Oper} {src dst : TypeId} {x : Operand} {l : List UInt8} {pv : PV} (hs : SR m st.h w) (he : EL m e a) (ho : o.op = .convert src dst x) (hsr : isStrT P src = true) (hd : isBytesT P dst = true) (hx : evX e x = some (.s (.c (.str l)))) (h : evBytes st (bytesEl P dst) l = some (pv, st')) :
    Does P m st w a o pv st' := by
  have hc : a.eval x = str' l := (show VC m (.str l) (a.eval x) from evX_spec he hx)
  obtain ⟨el, hu, hue⟩ := isBytesT_spec hd
  have hsrc := isStrT_spec hsr
  have hel : bytesEl P dst = el := by simp [bytesEl, hu]
  rw [hel] at h
  unfold evBytes at h
  split at h
  · rename_i hl
    cases h
    have hsz : (⟨l.toArray⟩ : ByteArray).size = l.length := by simp [ByteArray.size]
    have hr := run_bytes_of_string (P := P) w src dst el ⟨l.toArray⟩ hsrc hu hue
    rw [hsz] at hr
    have hg := grownCap_ge w l.length 0 el
    have hbs : (bytesRow ⟨l.toArray⟩ (grownCap w l.length 0 el)).size = grownCap w l.length 0 el := by
      simp [bytesRow, hsz]; omega
    have hres := (Res.drew hs).trans (Res.allocRo hs.drew (l.map fun b => .flat (.int .u8 b.toNat)) (bytesRow ⟨l.toArray⟩ (grownCap w l.length 0 el)) el ((bytesRow ⟨l.toArray⟩ (grownCap w l.length 0 el)).size, (bytesRow ⟨l.toArray⟩ (grownCap w l.length 0 el)).size + 1) (by rw [hbs]; simp; omega) (fun j c hj => by
      have hjl : j < l.length := by have := (List.getElem?_eq_some_iff.1 hj).1; simpa using this
      rw [List.getElem?_map, List.getElem?_eq_getElem hjl] at hj
      cases hj
      refine ⟨.int .u8 (l[j].toNat : Int), ?_, rfl, rfl⟩
      rw [bytesRow, Array.getElem?_append_left (by simp; exact hjl)]
      simp [hjl]))
    refine ⟨_, .slice (some ⟨w.heap.size, 0, none⟩) l.length (grownCap w l.length 0 el), _, _, ?_, .inl rfl, ?_, hres⟩
    · simp [execOp, ho, hc, str', hr]
    · exact ⟨_, _, put_same _ _ _, rfl, hg, grownCap_le_maxLen w l.length 0 el hl, by rw [hbs]; simp⟩
  · cases h

/-! ### []byte("..") of a literal -/
def evMark (st : St) : C → Option (PV × St)
  | .sl i off len sz => match st.h[i]? with
    | none => none
    | some o => if o.live = true ∧ o.rw = true ∧ o.full = true ∧ off = 0 ∧ o.cells.length = len * sz then
        some (.s (.c (.sl st.h.length 0 len sz)), ⟨st.h.set i { o with live := false, cells := [] } ++ [⟨o.cells, o.ty, false, true, true⟩], min st.lo i⟩) else none
  | _ => none
theorem freeze_same (w : World) (b n : Nat) (cur : Array Value) (ty : TypeId) (fr : Nat × Nat) (h : w.heap[b]? = some (.cells cur ty fr)) : ∃ fr', (w.freeze ⟨b, n, none⟩ 1).heap[b]? = some (.cells cur ty fr') := by
  have hlt := (Array.getElem?_eq_some_iff.1 h).1
  have hv := (Array.getElem?_eq_some_iff.1 h).2
  unfold World.freeze
  rw [if_neg (by decide)]
  obtain ⟨lo, hi⟩ := fr
  simp [Array.getElem?_modify, h]
theorem freeze_other (w : World) (b n k : Nat) (h : k ≠ b) : (w.freeze ⟨b, n, none⟩ 1).heap[k]? = w.heap[k]? := by
  unfold World.freeze
  rw [if_neg (by decide)]
  simp [Array.getElem?_modify, Ne.symm h]
theorem freeze_size (w : World) (b n : Nat) : (w.freeze ⟨b, n, none⟩ 1).heap.size = w.heap.size := by
  unfold World.freeze
  rw [if_neg (by decide)]
  simp
theorem freeze_os (w : World) (b n : Nat) : (w.freeze ⟨b, n, none⟩ 1).os = w.os ∧ (w.freeze ⟨b, n, none⟩ 1).tape = w.tape ∧ (w.freeze ⟨b, n, none⟩ 1).output = w.output := by
  unfold World.freeze
  rw [if_neg (by decide)]
  exact ⟨rfl, rfl, rfl⟩
theorem Res.mark {m : M} {st : St} {w : World} (hs : SR m st.h w) {i : Nat} {p : Pl} {o : O} (hm : m i = some p) (ho : st.h[i]? = some o) (hl : o.live = true) (hrw : o.rw = true) (hfu : o.full = true) (n : Nat) :
    Res m st w (put m st.h.length p) ⟨st.h.set i { o with live := false, cells := [] } ++ [⟨o.cells, o.ty, false, true, true⟩], min st.lo i⟩ (w.freeze ⟨p.b, n, none⟩ 1) := by
  have hi : i < st.h.length := hs.dom i p hm
  obtain ⟨cur, fr, hb, hcz, hpl, hcell, hf⟩ := hs.obj i p o hm ho hl
  obtain ⟨fr', hb'⟩ := freeze_same w p.b n cur o.ty fr hb
  have hext := put_ext (n := st.h.length) p hs.dom
  have hlen : (st.h.set i { o with live := false, cells := [] }).length = st.h.length := by simp
  have old : ∀ (j : Nat) (oj : O) (q : Pl), m j = some q → (st.h.set i { o with live := false, cells := [] } ++ [⟨o.cells, o.ty, false, true, true⟩])[j]? = some oj → oj.live = true → j ≠ i ∧ st.h[j]? = some oj := fun j oj q hmj hj hlj => by
    have hjl := hs.dom j q hmj
    rw [List.getElem?_append_left (by rw [hlen]; exact hjl)] at hj
    by_cases e : j = i
    · subst e
      have : oj = { o with live := false, cells := [] } := by simpa [List.getElem?_set, hi] using hj.symm
      subst this
      cases hlj
    · exact ⟨e, by simpa [List.getElem?_set, Ne.symm e] using hj⟩
  have last : ∀ (oj : O), (st.h.set i { o with live := false, cells := [] } ++ [⟨o.cells, o.ty, false, true, true⟩])[st.h.length]? = some oj → oj = ⟨o.cells, o.ty, false, true, true⟩ := fun oj hoj => by
    rw [List.getElem?_append_right (by rw [hlen]; exact Nat.le_refl _), hlen] at hoj
    simpa using hoj.symm
  obtain ⟨os1, os2, os3⟩ := freeze_os w p.b n
  refine ⟨⟨?_, ?_, ?_⟩, ⟨hext, fun j hj => put_ne _ _ (by omega), ?_, by rw [freeze_size]; exact Nat.le_refl _, os1, os2, os3, fun b hb' hne => ?_⟩, by simp, Nat.min_le_left _ _, fun j hj hjl => ?_⟩
  · intro j q hj
    by_cases e : j = st.h.length
    · subst e; simp
    · rw [put_ne _ _ e] at hj; have := hs.dom j q hj; simp; omega
  · intro j q oj hj hoj hlj
    by_cases e : j = st.h.length
    · subst e
      rw [put_same] at hj; cases hj
      have := last oj hoj
      subst this
      exact ⟨cur, fr', hb', hcz, hpl, fun k c hk => by obtain ⟨v, a, b⟩ := hcell k c hk; exact ⟨v, a, b.ext hext⟩, (fun h => by cases h), (fun _ => hf.2 hfu)⟩
    · rw [put_ne _ _ e] at hj
      obtain ⟨hne, hoj'⟩ := old j oj q hj hoj hlj
      obtain ⟨c1, f1, h1, h2, h3, h4, h5⟩ := hs.obj j q oj hj hoj' hlj
      exact ⟨c1, f1, by rw [freeze_other w p.b n q.b (hs.sep i j p q o oj hm hj ho hoj' hrw hl hlj (Ne.symm hne)).symm]; exact h1, h2, h3, fun k c hk => by obtain ⟨v, a, b⟩ := h4 k c hk; exact ⟨v, a, b.ext hext⟩, h5⟩
  · intro a b pa pb oa ob ha hb1 hoa hob hrwa hla hlb hne
    by_cases ea : a = st.h.length
    · subst ea
      have := last oa hoa
      subst this
      cases hrwa
    · rw [put_ne _ _ ea] at ha
      obtain ⟨k1, k2⟩ := old a oa pa ha hoa hla
      by_cases eb : b = st.h.length
      · subst eb
        rw [put_same] at hb1; cases hb1
        exact (hs.sep i a p pa o oa hm ha ho k2 hrw hl hla (Ne.symm k1)).symm
      · rw [put_ne _ _ eb] at hb1
        obtain ⟨j1, j2⟩ := old b ob pb hb1 hob hlb
        exact hs.sep a b pa pb oa ob ha hb1 k2 j2 hrwa hla hlb hne
  · intro j q hj hmj
    by_cases e : j = st.h.length
    · subst e; rw [put_same] at hmj; cases hmj; exact .inr ⟨i, p, Nat.min_le_right _ _, hi, hm, rfl⟩
    · rw [put_ne _ _ e] at hmj; have := hs.dom j q hmj; omega
  · exact freeze_other w p.b n b (fun e => hne i p (Nat.min_le_right _ _) hi hm e.symm)
  · have : j ≠ i := by
      have h1 : min st.lo i ≤ i := Nat.min_le_right _ _
      have hjl' : j < min st.lo i := hjl
      omega
    rw [List.getElem?_append_left (by simpa using hj)]
    simp [Ne.symm this]
theorem mark_spec {m : M} {st st' : St} {w : World} {a : Act} {e : Look} {o : Oper} {T : TypeId} {x : Operand} {c : C} {pv : PV} (hs : SR m st.h w) (he : EL m e a) (ho : o.op = .convert T T x) (hd : isBytesT P T = true) (hx : evX e x = some (.s (.c c))) (h : evMark st c = some (pv, st')) : Does P m st w a o pv st' := by
  have hc : VC m c (a.eval x) := evX_spec he hx
  obtain ⟨el, hu, hue⟩ := isBytesT_spec hd
  unfold evMark at h
  split at h
  · rename_i i off len sz
    split at h
    · cases h
    rename_i ob hob
    split at h
    · rename_i hh
      obtain ⟨hl, hrw, hfu, rfl, hcl⟩ := hh
      cases h
      obtain ⟨p, cap, hm, hv, hle, hmx, hcap⟩ := hc
      obtain ⟨cur, fr, hb, hcz, hpl, hcell, hf⟩ := hs.obj i p ob hm hob hl
      have hres := Res.mark hs hm hob hl hrw hfu cur.size
      refine ⟨_, .slice (some ⟨p.b, p.o + 0, none⟩) len cap, _, _, ?_, .inl rfl, ⟨p, cap, put_same _ _ _, rfl, hle, hmx, hcap⟩, hres⟩
      have hsh : w.shape? p.b = some (ob.ty, cur.size) := by simp [World.shape?, hb]
      have hcv : (convert T T (.slice (some ⟨p.b, p.o + 0, none⟩) len cap)).run P w = .ok (.slice (some ⟨p.b, p.o + 0, none⟩) len cap) (w.freeze ⟨p.b, cur.size, none⟩ 1) := by
        simp [convert, run_underlying hu, run_underlying hue, markStringish, hsh, shape, Sem.run]
      simp only [Nat.add_zero] at hv hcv
      simp [execOp, ho, hv, hcv]
    · cases h
  · cases h
end Ev
end Go.Proofs.Ytmjonmahecdngaa
