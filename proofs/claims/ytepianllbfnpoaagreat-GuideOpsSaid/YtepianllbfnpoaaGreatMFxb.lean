/- Fx: a run of Go code that the kernel computes fast. Fourth part: numbers, texts, looks at memory, slices. No program. -/
/- Fx: a run of Go code that the kernel computes fast. Fifth part: what makes memory, copies, converts, slices. No program. -/
/- Fx: a run of Go code that the kernel computes fast. Sixth part: lengths, slices, fields, copies, conversions; any operation. No program. -/
import Derived.Test.YtepianllbfnpoaaGreatMFxa
namespace Go.Proofs.YtepianllbfnpoaaGreat
open Go.RowKit Ev
namespace Fx
variable {P : Program} {β : Type}

/-! ### numbers -/
def smallI (r : Nat) : Option FC := if Nat.blt r 9223372036854775808 then some (.i r) else none
def binI (op : BinOp) (m n : Nat) : Option FC := match op with
  | .add => smallI (m + n)
  | .sub => if Nat.ble n m then smallI (m - n) else none
  | .mul => smallI (m * n)
  | .lss => some (.b (Nat.blt m n))
  | .gtr => some (.b (Nat.blt n m))
  | .leq => some (.b (!Nat.blt n m))
  | .geq => some (.b (!Nat.blt m n))
  | .eql => some (.b (Nat.beq m n))
  | .neq => some (.b (!Nat.beq m n))
  | _ => none
theorem wrap_small {x : Int} (h0 : 0 ≤ x) (h1 : x < 9223372036854775808) : IntKind.wrap .i64 x = x := by
  have e1 : IntKind.wrap .i64 x = if x % 18446744073709551616 ≥ 9223372036854775808 then x % 18446744073709551616 - 18446744073709551616 else x % 18446744073709551616 := by
    simp [IntKind.wrap, IntKind.bits, IntKind.signed]
  rw [e1]
  split <;> omega
theorem smallI_spec {r : Nat} {c : FC} (h : smallI r = some c) : c = .i r ∧ wrapF .i64 (.ofNat r) = .ofNat r := by
  unfold smallI at h
  split at h
  · rename_i hr
    cases h
    have hr : r < 9223372036854775808 := by simpa [Nat.blt_eq] using hr
    refine ⟨rfl, ?_⟩
    rw [wrapF_eq]
    exact wrap_small (by simp only [Int.ofNat_eq_natCast]; omega) (by simp only [Int.ofNat_eq_natCast]; omega)
  · cases h
theorem binI_spec {op : BinOp} {m n : Nat} {c : FC} (h : binI op m n = some c) : ∃ v, fastI op .i64 .i64 (.ofNat m) (.ofNat n) = some v ∧ absC c = .flat v := by
  cases op <;> simp only [binI] at h
  case add =>
    obtain ⟨rfl, hw⟩ := smallI_spec h
    refine ⟨_, by simp only [fastI, if_true]; rfl, ?_⟩
    show C.flat (.int .i64 (.ofNat (m + n))) = .flat (.int .i64 (wrapF .i64 (.ofNat (m + n))))
    rw [hw]
  case sub =>
    split at h
    · rename_i hle
      have hle : n ≤ m := by simpa using hle
      obtain ⟨rfl, hw⟩ := smallI_spec h
      refine ⟨_, by simp only [fastI, if_true]; rfl, ?_⟩
      have e : (Int.ofNat m - Int.ofNat n) = Int.ofNat (m - n) := by simp only [Int.ofNat_eq_natCast]; omega
      rw [e, hw]; rfl
    · cases h
  case mul =>
    obtain ⟨rfl, hw⟩ := smallI_spec h
    refine ⟨_, by simp only [fastI, if_true]; rfl, ?_⟩
    show C.flat (.int .i64 (.ofNat (m * n))) = .flat (.int .i64 (wrapF .i64 (.ofNat (m * n))))
    rw [hw]
  all_goals first
    | (cases h; done)
    | (cases h; exact ⟨_, by simp only [fastI, if_true]; rfl, rfl⟩)
def zOf : FC → Option (IntKind × Int)
  | .i n => some (.i64, .ofNat n)
  | .k kd n => some (kd, .ofNat n)
  | .o (.flat (.int kd z)) => some (kd, z)
  | _ => none
theorem zOf_spec {c : FC} {kd : IntKind} {z : Int} (h : zOf c = some (kd, z)) : absC c = .flat (.int kd z) := by
  unfold zOf at h
  split at h <;> cases h <;> rfl
def binZ (op : BinOp) (a b : FC) : Option FC := match zOf a with
  | none => none
  | some (k, x) => match zOf b with
    | none => none
    | some (k', y) => match fastI op k k' x y with
      | some v => some (ofVal v)
      | none => none
def eqRow (n N m M : Nat) : Bool := Nat.beq n m && Nat.beq (N % 256 ^ n) (M % 256 ^ n)
def strF (op : BinOp) (n N m M : Nat) : Option FC := match op with
  | .add => if Nat.ble (n + m) 9223372036854775807 then some (.st (n + m) (N % 256 ^ n + 256 ^ n * M)) else none
  | .eql => some (.b (eqRow n N m M))
  | .neq => some (.b (!eqRow n N m M))
  | _ => none
theorem eqRow_eq (n N m M : Nat) : (rowL n N == rowL m M) = eqRow n N m M := by
  rw [Bool.eq_iff_iff]
  unfold eqRow
  simp only [beq_iff_eq, Bool.and_eq_true, Nat.beq_eq]
  constructor
  · intro h
    have hl : n = m := by have := congrArg List.length h; simpa [rowL_len] using this
    subst hl
    refine ⟨rfl, row_ext (n := n) (Nat.mod_lt _ (p256 n)) (Nat.mod_lt _ (p256 n)) fun j hj => ?_⟩
    rw [bget_mod hj, bget_mod hj]
    have := congrArg (·[j]?) h
    simp only [rowL_get hj, Option.some.injEq] at this
    have := congrArg UInt8.toNat this
    rwa [u8_bget, u8_bget] at this
  · rintro ⟨rfl, h⟩
    refine List.ext_getElem? fun j => ?_
    by_cases hj : j < n
    · rw [rowL_get hj, rowL_get hj, ← bget_mod hj, h, bget_mod hj]
    · rw [List.getElem?_eq_none (by rw [rowL_len]; omega), List.getElem?_eq_none (by rw [rowL_len]; omega)]
theorem row_cat (n N m M : Nat) : rowL (n + m) (N % 256 ^ n + 256 ^ n * M) = rowL n N ++ rowL m M := by
  refine List.ext_getElem? fun j => ?_
  by_cases hj : j < n + m
  · rw [rowL_get hj, bget_cat (Nat.mod_lt _ (p256 n))]
    by_cases h1 : j < n
    · rw [if_pos h1, List.getElem?_append_left (by rw [rowL_len]; exact h1), rowL_get h1, bget_mod h1]
    · rw [if_neg h1, List.getElem?_append_right (by rw [rowL_len]; omega), rowL_len, rowL_get (by omega)]
  · rw [List.getElem?_eq_none (by rw [rowL_len]; omega), List.getElem?_eq_none (by rw [List.length_append, rowL_len, rowL_len]; omega)]
def binF (op : BinOp) (a b : FC) : Option FC := match a, b with
  | .i m, .i n => (match binI op m n with
    | some c => some c
    | none => binZ op (.i m) (.i n))
  | .st n N, .st m M => strF op n N m M
  | a, b => binZ op a b
def opBinF (P : Program) (n : Nat) (o : Oper) (op : BinOp) (gx gy : FE → FV) : Step β := fun fe fs k => match gx fe with
  | .c a => (match gy fe with
    | .c b => (match binF op a b with
      | some c => k (.c c) fs
      | none => genF P n o fe fs k)
    | _ => genF P n o fe fs k)
  | _ => genF P n o fe fs k
theorem cellX_of {e : Look} {x : Operand} {c : FC} (h : e x = some (abs (.c c))) : cellX e x = some (absC c) := by
  unfold cellX evX; rw [h]; rfl
theorem binZ_spec {op : BinOp} {a b c : FC} (h : binZ op a b = some c) : ∃ k x k' y v, absC a = .flat (.int k x) ∧ absC b = .flat (.int k' y) ∧ fastI op k k' x y = some v ∧ absC c = .flat v := by
  unfold binZ at h
  split at h
  · cases h
  rename_i k x hx
  split at h
  · cases h
  rename_i k' y hy
  split at h
  · rename_i v hv
    cases h
    exact ⟨k, x, k', y, v, zOf_spec hx, zOf_spec hy, hv, absC_ofVal v⟩
  · cases h
theorem bin_ints {e : Look} {st : St} {o : Oper} {op : BinOp} {T T' : TypeId} {x y : Operand} (ho : o.op = .binOp op T x y T') {k k' : IntKind} {a b : Int} {v : Value} (hx : cellX e x = some (.flat (.int k a))) (hy : cellX e y = some (.flat (.int k' b))) (hv : fastI op k k' a b = some v) :
    evOp P e st o = some (.s (.c (.flat v)), st) := by
  unfold evOp
  simp only [ho, hx, hy, hv]
theorem opBin_rf {n : Nat} {o : Oper} {op : BinOp} {T T' : TypeId} {x y : Operand} (ho : o.op = .binOp op T x y T') {gx gy : FE → FV} (hx : ∀ fe', lk (absE n fe') x = some (abs (gx fe'))) (hy : ∀ fe', lk (absE n fe') y = some (abs (gy fe'))) :
    Rf n (evOp P · · o) (opBinF P n o op gx gy : Step β) := fun fe fs k r hok h => by
  unfold opBinF at h
  split at h
  · rename_i a ha
    split at h
    · rename_i b hb
      split at h
      · rename_i c hc
        have h1 := cellX_of (by rw [hx fe, ha] : lk (absE n fe) x = some (abs (.c a)))
        have h2 := cellX_of (by rw [hy fe, hb] : lk (absE n fe) y = some (abs (.c b)))
        refine ⟨.c c, fs, hok, (?_ : evOp P (lk (absE n fe)) fs.st o = some (abs (.c c), fs.st)), h⟩
        have zcase : binZ op a b = some c → evOp P (lk (absE n fe)) fs.st o = some (abs (.c c), fs.st) := fun hz => by
          obtain ⟨k1, x1, k2, y1, v, e1, e2, e3, e4⟩ := binZ_spec hz
          rw [bin_ints ho (by rw [h1, e1]) (by rw [h2, e2]) e3]
          show _ = some (PV.s (.c (absC c)), _)
          rw [e4]
        unfold binF at hc
        split at hc
        · split at hc
          · rename_i hi
            cases hc
            obtain ⟨v, e3, e4⟩ := binI_spec hi
            rw [bin_ints ho h1 h2 e3]
            show _ = some (PV.s (.c (absC c)), _)
            rw [e4]
          · exact zcase hc
        · rename_i n1 N1 m1 M1
          have h1 : cellX (lk (absE n fe)) x = some (.str (rowL n1 N1)) := h1
          have h2 : cellX (lk (absE n fe)) y = some (.str (rowL m1 M1)) := h2
          unfold strF at hc
          split at hc
          · split at hc
            · rename_i hle
              cases hc
              have hle : (rowL n1 N1).length + (rowL m1 M1).length ≤ 9223372036854775807 := by simpa [rowL_len] using hle
              unfold evOp
              simp only [ho, h1, h2, if_pos hle]
              show _ = some (PV.s (.c (.str (rowL _ _))), _)
              rw [row_cat]
            · cases hc
          · cases hc
            unfold evOp
            simp only [ho, h1, h2, evEqStr, eqRow_eq]
            rfl
          · cases hc
            unfold evOp
            simp only [ho, h1, h2, evEqStr, eqRow_eq]
            rfl
          · cases hc
        · exact zcase hc
      · exact gen_rf n o fe fs k r hok h
    · exact gen_rf n o fe fs k r hok h
  · exact gen_rf n o fe fs k r hok h

/-! ### looks at memory -/
theorem fits_of {l : List C} {off n : Nat} (h : off + n ≤ l.length) : Ev.fits l off n = true := by
  unfold Ev.fits
  split
  · simpa using h
  · rename_i n
    simp
    omega
def objF (fs : FSt) (i : Nat) (k : FO → Option β) : Option β := if Nat.blt i fs.n then k (get4 i fs.h) else none
theorem objF_spec {fs : FSt} {i : Nat} {k : FO → Option β} {r : β} (h : objF fs i k = some r) : i < fs.n ∧ k (get 4 i fs.h) = some r := by
  unfold objF at h
  split at h
  · rename_i hi; exact ⟨by simpa [Nat.blt_eq] using hi, h⟩
  · cases h
def load1 (gx : FE → FV) : Step β := fun fe fs k => match gx fe with
  | .c (.p i off) => objF fs i fun fo => if fo.live && Nat.blt off fo.n then k (.c (atC fo.cells off)) fs else none
  | _ => none
def loadA (m : Nat) (gx : FE → FV) : Step β := fun fe fs k => match gx fe with
  | .c (.p i off) => objF fs i fun fo => if fo.live && Nat.ble (off + m) fo.n then k (.a (subC fo.cells off m).cells) fs else none
  | _ => none
def opLoadF (P : Program) (T : TypeId) (gx : FE → FV) : Option (Step β) := match P.underlying T with
  | none => none
  | some d => if isAggD d then (match sizeT P T with
      | none => none
      | some m => some (loadA m gx)) else some (load1 gx)
theorem load_eq {T : TypeId} {gx : FE → FV} {fe : FE} {fs : FSt} {k : Kont β} {r : β} {f : Step β} (hf : opLoadF P T gx = some f) (h : f fe fs k = some r) : ∃ i off v s, gx fe = .c (.p i off) ∧ evLoad P fs.st T i off = some s ∧ abs v = .s s ∧ k v fs = some r := by
  unfold opLoadF at hf
  cases hd : P.underlying T with
  | none => rw [hd] at hf; cases hf
  | some d =>
    rw [hd] at hf
    simp only at hf
    by_cases ha : isAggD d = true
    · rw [if_pos ha] at hf
      cases hm : sizeT P T with
      | none => rw [hm] at hf; cases hf
      | some m =>
        rw [hm] at hf
        cases hf
        try simp only at h
        unfold loadA at h
        split at h
        · rename_i i off hp
          obtain ⟨hi, h⟩ := objF_spec h
          split at h
          · rename_i hc
            simp only [Bool.and_eq_true, Nat.ble_eq] at hc
            refine ⟨i, off, _, .a ((((get 4 i fs.h).list).drop off).take m), hp, ?_, ?_, h⟩
            · unfold evLoad
              rw [st_get fs hi]
              simp only [FO.o, hc.1, Bool.true_eq_false, if_false, hd, ha, if_true, hm]
              rw [if_pos (fits_of (by rw [FO.list_len]; exact hc.2))]
            · show PV.s (.a ((subC _ off m).cells.map absC)) = _
              rw [Ch.cells_eq, subC_spec _ hc.2]
          · cases h
        · cases h
    · rw [if_neg ha] at hf
      cases hf
      try simp only at h
      unfold load1 at h
      split at h
      · rename_i i off hp
        obtain ⟨hi, h⟩ := objF_spec h
        split at h
        · rename_i hc
          simp only [Bool.and_eq_true, Nat.blt_eq] at hc
          refine ⟨i, off, _, .c (absC (atC (get 4 i fs.h).cells off)), hp, ?_, rfl, h⟩
          unfold evLoad
          rw [st_get fs hi]
          have ha' : isAggD d = false := by simpa using ha
          simp only [FO.o, hc.1, Bool.true_eq_false, if_false, hd, ha', FO.list_get _ hc.2, Bool.false_eq_true]
        · cases h
      · cases h
theorem opLoad_rf {n : Nat} {o : Oper} {T : TypeId} {x : Operand} (ho : o.op = .load T x) {gx : FE → FV} (hx : ∀ fe', lk (absE n fe') x = some (abs (gx fe'))) {f : Step β} (hf : opLoadF P T gx = some f) : Rf n (evOp P · · o) f := fun fe fs k r hok h => by
  obtain ⟨i, off, v, s, h1, h2, h3, h4⟩ := load_eq hf h
  have hc := cellX_of (by rw [hx fe, h1] : lk (absE n fe) x = some (abs (.c (.p i off))))
  refine ⟨v, fs, hok, ?_, h4⟩
  have hc : cellX (lk (absE n fe)) x = some (.ptr i off) := hc
  unfold evOp
  simp only [ho, hc, h2, h3]
def chOf : FV → Option Ch
  | .c x => some (.li [x])
  | .a l => some (.li l)
  | _ => none
theorem chOf_spec {v : FV} {x : Ch} (h : chOf v = some x) : ∃ s, abs v = .s s ∧ cellsOf s = x.list := by
  unfold chOf at h
  split at h
  · cases h; exact ⟨_, rfl, rfl⟩
  · cases h; exact ⟨_, rfl, rfl⟩
  · cases h
def opStoreF (P : Program) (T : TypeId) (gx gy : FE → FV) : Option (Step β) := match sizeT P T with
  | none => none
  | some m => some fun fe fs k => match gx fe with
    | .c (.p i off) => objF fs i fun fo => (match chOf (gy fe) with
      | some x => if fo.live && (fo.rw && (Nat.beq x.len m && (Nat.ble (off + x.len) fo.n && roomy fo.n fo.cells x))) then
          k .skip (setO fs i ⟨fo.n, putC fo.n fo.cells off x, fo.ty, fo.rw, fo.live, fo.full⟩ (minF fs.lo i)) else none
      | none => none)
    | _ => none
theorem opStore_rf {n : Nat} {o : Oper} {T : TypeId} {x y : Operand} (ho : o.op = .store T x y) {gx gy : FE → FV} (hx : ∀ fe', lk (absE n fe') x = some (abs (gx fe'))) (hy : ∀ fe', lk (absE n fe') y = some (abs (gy fe'))) {f : Step β} (hf : opStoreF P T gx gy = some f) : Rf n (evOp P · · o) f := fun fe fs k r hok h => by
  unfold opStoreF at hf
  cases hm : sizeT P T with
  | none => rw [hm] at hf; cases hf
  | some m =>
    rw [hm] at hf
    cases hf
    try simp only at h
    split at h
    · rename_i i off hp
      obtain ⟨hi, h⟩ := objF_spec h
      split at h
      · rename_i ch hch
        split at h
        · rename_i hc
          simp only [Bool.and_eq_true, Nat.ble_eq, Nat.beq_eq] at hc
          obtain ⟨hl, hrw, hlen, hle, hro⟩ := hc
          obtain ⟨s, hs, hcs⟩ := chOf_spec hch
          have hc1 : cellX (lk (absE n fe)) x = some (.ptr i off) := cellX_of (by rw [hx fe, hp] : lk (absE n fe) x = some (abs (.c (.p i off))))
          have hc2 : evX (lk (absE n fe)) y = some (.s s) := by show lk _ y = _; rw [hy fe, hs]
          have hp2 := putC_spec (get 4 i fs.h) (hok.obj i hi) ch hle hro (get 4 i fs.h).full
          refine ⟨.skip, _, set_ok hok hi hp2.2 _, ?_, h⟩
          rw [set_st hok hi]
          unfold evOp
          simp only [ho, hc1, hc2]
          unfold evStore
          rw [st_get fs hi]
          have e1 : (cellsOf s).length = m := by rw [hcs, Ch.len_eq]; exact hlen
          have e2 : Ev.fits (get 4 i fs.h).o.cells off m = true := fits_of (by show _ ≤ (FO.list _).length; rw [FO.list_len, ← hlen]; exact hle)
          have e3 : ¬ ((get 4 i fs.h).o.live = false ∨ (get 4 i fs.h).o.rw = false) := by simp [FO.o, hl, hrw]
          simp only [if_neg e3, hm, e1, e2, and_self, if_true, minF_eq]
          simp only [FO.o, hp2.1, hcs, hlen]
          rfl
        · cases h
      · cases h
    · cases h

/-! ### places -/
def opNilF (P : Program) (n : Nat) (o : Oper) (gx : FE → FV) : Step β := fun fe fs k => match gx fe with
  | .c (.p i off) => k (.c (.p i off)) fs
  | _ => genF P n o fe fs k
theorem opNil_rf {n : Nat} {o : Oper} {x : Operand} (ho : o.op = .nilCheck x) {gx : FE → FV} (hx : ∀ fe', lk (absE n fe') x = some (abs (gx fe'))) : Rf n (evOp P · · o) (opNilF P n o gx : Step β) := fun fe fs k r hok h => by
  unfold opNilF at h
  split at h
  · rename_i i off hp
    have hc : cellX (lk (absE n fe)) x = some (.ptr i off) := cellX_of (by rw [hx fe, hp] : lk (absE n fe) x = some (abs (.c (.p i off))))
    refine ⟨_, fs, hok, ?_, h⟩
    unfold evOp
    simp only [ho, hc, okNil, if_true]
    rfl
  · exact gen_rf n o fe fs k r hok h
def fieldOff (P : Program) (T : TypeId) (f : Nat) : Option Nat := match P.underlying T with
  | some (.struct fields) => (match fields[f]? with
    | none => none
    | some fd => (match sizeT P fd.type with
      | none => none
      | some n => if n = 0 then none else some fd.offset))
  | _ => none
theorem fieldOff_spec {T : TypeId} {f d : Nat} (h : fieldOff P T f = some d) (i off : Nat) : evFieldAddr P T f i off = some (.s (.c (.ptr i (off + d)))) := by
  unfold fieldOff at h
  unfold evFieldAddr
  split at h
  · rename_i fields hu
    rw [hu]
    simp only
    split at h
    · cases h
    rename_i fd hf
    simp only [hf]
    split at h
    · cases h
    rename_i n hn
    simp only [hn]
    split at h
    · cases h
    rename_i h0
    cases h
    rw [if_neg h0]
  · cases h
def fieldAt (d : Nat) (gx : FE → FV) : Step β := fun fe fs k => match gx fe with
  | .c (.p i off) => k (.c (.p i (off + d))) fs
  | _ => none
def opFieldAddrF (P : Program) (T : TypeId) (f : Nat) (gx : FE → FV) : Option (Step β) := match fieldOff P T f with
  | some d => some (fieldAt d gx)
  | none => none
theorem opFieldAddr_rf {n : Nat} {o : Oper} {T : TypeId} {x : Operand} {fd : Nat} (ho : o.op = .fieldAddr T x fd) {gx : FE → FV} (hx : ∀ fe', lk (absE n fe') x = some (abs (gx fe'))) {f : Step β} (hf : opFieldAddrF P T fd gx = some f) : Rf n (evOp P · · o) f := fun fe fs k r hok h => by
  unfold opFieldAddrF at hf
  cases hd : fieldOff P T fd with
  | none => rw [hd] at hf; cases hf
  | some d =>
    rw [hd] at hf
    cases hf
    try simp only at h
    unfold fieldAt at h
    split at h
    · rename_i i off hp
      have hc : cellX (lk (absE n fe)) x = some (.ptr i off) := cellX_of (by rw [hx fe, hp] : lk (absE n fe) x = some (abs (.c (.p i off))))
      refine ⟨_, fs, hok, ?_, h⟩
      unfold evOp
      simp only [ho, hc, fieldOff_spec hd i off]
      rfl
    · cases h
def elSize (P : Program) (T : TypeId) : Option Nat := match P.underlying T with
  | some (.slice el) => sizeT P el
  | _ => none
theorem elSize_spec {T : TypeId} {z : Nat} (h : elSize P T = some z) : ∃ el, P.underlying T = some (.slice el) ∧ sizeT P el = some z := by
  unfold elSize at h
  split at h
  · exact ⟨_, by assumption, h⟩
  · cases h
def idxAt (P : Program) (n : Nat) (o : Oper) (z : Nat) (gx gy : FE → FV) : Step β := fun fe fs k => match gx fe with
  | .c (.s i off len sz) => (match gy fe with
    | .c (.i j) => if Nat.beq z sz && Nat.blt j len then k (.c (.p i (off + j * sz))) fs else none
    | _ => genF P n o fe fs k)
  | _ => genF P n o fe fs k
def opIndexAddrF (P : Program) (n : Nat) (o : Oper) (T : TypeId) (gx gy : FE → FV) : Option (Step β) := match elSize P T with
  | some z => some (idxAt P n o z gx gy)
  | none => some (genF P n o)
theorem opIndexAddr_rf {n : Nat} {o : Oper} {T : TypeId} {x y : Operand} (ho : o.op = .indexAddr T x y) {gx gy : FE → FV} (hx : ∀ fe', lk (absE n fe') x = some (abs (gx fe'))) (hy : ∀ fe', lk (absE n fe') y = some (abs (gy fe'))) {f : Step β} (hf : opIndexAddrF P n o T gx gy = some f) : Rf n (evOp P · · o) f := fun fe fs k r hok h => by
  unfold opIndexAddrF at hf
  cases hz' : elSize P T with
  | none => rw [hz'] at hf; cases hf; exact gen_rf n o fe fs k r hok h
  | some z =>
    rw [hz'] at hf
    cases hf
    try simp only at h
    obtain ⟨el, hu, hz⟩ := elSize_spec hz'
    unfold idxAt at h
    split at h
    · rename_i i off len sz hp
      split at h
      · rename_i j hj
        split at h
        · rename_i hc
          simp only [Bool.and_eq_true, Nat.beq_eq, Nat.blt_eq] at hc
          obtain ⟨rfl, hlt⟩ := hc
          have h1 : cellX (lk (absE n fe)) x = some (.sl i off len z) := cellX_of (by rw [hx fe, hp] : lk (absE n fe) x = some (abs (.c (.s i off len z))))
          have h2 : cellX (lk (absE n fe)) y = some (.flat (.int .i64 (.ofNat j))) := cellX_of (by rw [hy fe, hj] : lk (absE n fe) y = some (abs (.c (.i j))))
          refine ⟨_, fs, hok, ?_, h⟩
          unfold evOp
          simp only [ho, h1, h2]
          have hb : sizeT P el = some z ∧ (0 : Int) ≤ .ofNat j ∧ (Int.ofNat j) < (len : Int) := ⟨hz, by simp only [Int.ofNat_eq_natCast]; omega, by simp only [Int.ofNat_eq_natCast]; omega⟩
          unfold evIndexAddr
          simp only [hu, if_pos hb]
          rfl
        · cases h
      · exact gen_rf n o fe fs k r hok h
    · exact gen_rf n o fe fs k r hok h
def idxStr (P : Program) (n : Nat) (o : Oper) (gx gy : FE → FV) : Step β := fun fe fs k => match gx fe with
  | .c (.st m N) => (match gy fe with
    | .c (.i j) => if Nat.blt j m then k (.c (.k .u8 (bget N j))) fs else none
    | _ => genF P n o fe fs k)
  | _ => genF P n o fe fs k
def opIndexF (P : Program) (n : Nat) (o : Oper) (T : TypeId) (gx gy : FE → FV) : Option (Step β) := if isStrT P T then some (idxStr P n o gx gy) else some (genF P n o)
theorem opIndex_rf {n : Nat} {o : Oper} {T : TypeId} {x y : Operand} (ho : o.op = .index T x y) {gx gy : FE → FV} (hx : ∀ fe', lk (absE n fe') x = some (abs (gx fe'))) (hy : ∀ fe', lk (absE n fe') y = some (abs (gy fe'))) {f : Step β} (hf : opIndexF P n o T gx gy = some f) : Rf n (evOp P · · o) f := fun fe fs k r hok h => by
  unfold opIndexF at hf
  by_cases hs : isStrT P T = true
  · rw [if_pos hs] at hf
    cases hf
    try simp only at h
    have hu := isStrT_spec hs
    unfold idxStr at h
    split at h
    · rename_i m N hp
      split at h
      · rename_i j hj
        split at h
        · rename_i hlt
          have hlt : j < m := by simpa [Nat.blt_eq] using hlt
          have h1 : evX (lk (absE n fe)) x = some (.s (.c (.str (rowL m N)))) := by show lk _ x = _; rw [hx fe, hp]; rfl
          have h2 : cellX (lk (absE n fe)) y = some (.flat (.int .i64 (.ofNat j))) := cellX_of (by rw [hy fe, hj] : lk (absE n fe) y = some (abs (.c (.i j))))
          refine ⟨_, fs, hok, ?_, h⟩
          unfold evOp
          simp only [ho, h1, h2]
          have hb : (0 : Int) ≤ .ofNat j ∧ (Int.ofNat j) < ((rowL m N).length : Int) := by rw [rowL_len]; exact ⟨by simp only [Int.ofNat_eq_natCast]; omega, by simp only [Int.ofNat_eq_natCast]; omega⟩
          unfold evIndex
          simp only [hu, if_pos hb]
          have e1 : (rowL m N).getD (Int.ofNat j).toNat 0 = UInt8.ofNat (bget N j) := by
            show (rowL m N).getD j 0 = _
            rw [List.getD_eq_getElem?_getD, rowL_get hlt]; rfl
          rw [e1, u8_bget]
          rfl
        · cases h
      · exact gen_rf n o fe fs k r hok h
    · exact gen_rf n o fe fs k r hok h
  · rw [if_neg hs] at hf; cases hf; exact gen_rf n o fe fs k r hok h
def opExtractF (P : Program) (n : Nat) (o : Oper) (j : Nat) (gx : FE → FV) : Step β := fun fe fs k => match gx fe with
  | .t l => (match l[j]? with
    | some s => k (toFV s) fs
    | none => none)
  | _ => genF P n o fe fs k
theorem opExtract_rf {n : Nat} {o : Oper} {x : Operand} {j : Nat} (ho : o.op = .extract x j) {gx : FE → FV} (hx : ∀ fe', lk (absE n fe') x = some (abs (gx fe'))) : Rf n (evOp P · · o) (opExtractF P n o j gx : Step β) := fun fe fs k r hok h => by
  unfold opExtractF at h
  split at h
  · rename_i l hl
    split at h
    · rename_i s hs
      have h1 : evX (lk (absE n fe)) x = some (.t (l.map absS)) := by show lk _ x = _; rw [hx fe, hl]; rfl
      refine ⟨_, fs, hok, ?_, h⟩
      unfold evOp
      simp only [ho, h1, List.getElem?_map, hs, Option.map_some, abs_toFV]
    · cases h
  · exact gen_rf n o fe fs k r hok h
def opMoveF (gx : FE → FV) : Step β := fun fe fs k => k (gx fe) fs
theorem opMove_rf {n : Nat} {o : Oper} {x : Operand} (ho : o.op = .move x ∨ o.op = .assign x) {gx : FE → FV} (hx : ∀ fe', lk (absE n fe') x = some (abs (gx fe'))) : Rf n (evOp P · · o) (opMoveF gx : Step β) := fun fe fs k r hok h => by
  refine ⟨_, fs, hok, ?_, h⟩
  have h1 : evX (lk (absE n fe)) x = some (abs (gx fe)) := hx fe
  unfold evOp
  rcases ho with ho | ho <;> simp only [ho, h1]
def opPickF (P : Program) (n : Nat) (o : Oper) (gc gx gy : FE → FV) : Step β := fun fe fs k => match gc fe with
  | .c (.b true) => k (gx fe) fs
  | .c (.b false) => k (gy fe) fs
  | _ => genF P n o fe fs k
theorem opPick_rf {n : Nat} {o : Oper} {c x y : Operand} (ho : o.op = .pick c x y) {gc gx gy : FE → FV} (hc : ∀ fe', lk (absE n fe') c = some (abs (gc fe'))) (hx : ∀ fe', lk (absE n fe') x = some (abs (gx fe'))) (hy : ∀ fe', lk (absE n fe') y = some (abs (gy fe'))) :
    Rf n (evOp P · · o) (opPickF P n o gc gx gy : Step β) := fun fe fs k r hok h => by
  unfold opPickF at h
  have h1 : evX (lk (absE n fe)) x = some (abs (gx fe)) := hx fe
  have h2 : evX (lk (absE n fe)) y = some (abs (gy fe)) := hy fe
  split at h
  · rename_i hb
    have h3 : cellX (lk (absE n fe)) c = some (.flat (.bool true)) := cellX_of (by rw [hc fe, hb] : lk (absE n fe) c = some (abs (.c (.b true))))
    refine ⟨_, fs, hok, ?_, h⟩
    unfold evOp
    simp only [ho, h3, if_true, h1]
  · rename_i hb
    have h3 : cellX (lk (absE n fe)) c = some (.flat (.bool false)) := cellX_of (by rw [hc fe, hb] : lk (absE n fe) c = some (abs (.c (.b false))))
    refine ⟨_, fs, hok, ?_, h⟩
    unfold evOp
    simp only [ho, h3, Bool.false_eq_true, if_false, h2]
  · exact gen_rf n o fe fs k r hok h
end Fx
end Go.Proofs.YtepianllbfnpoaaGreat
namespace Go.Proofs.YtepianllbfnpoaaGreat
open Go.RowKit Ev
namespace Fx
variable {P : Program} {β : Type}

/-- a new object -/
def pushK (fs : FSt) (fo : FO) (k : FSt → Option β) : Option β := if Nat.blt fs.n 4096 then k (push fs fo) else none
theorem pushK_spec {fs : FSt} {fo : FO} {k : FSt → Option β} {r : β} (hok : fs.ok) (hf : fo.ok) (h : pushK fs fo k = some r) : (push fs fo).ok ∧ (push fs fo).st = ⟨fs.st.h ++ [fo.o], fs.st.lo⟩ ∧ k (push fs fo) = some r := by
  unfold pushK at h
  split at h
  · rename_i hn
    have hn : fs.n < 4096 := by simpa [Nat.blt_eq] using hn
    exact ⟨push_ok hok hn hf, push_st hn fo, h⟩
  · cases h
def okCh : Ch → Bool
  | .bs _ _ => true
  | .li l => Nat.ble l.length 4096
def ofCh : Ch → CT
  | .bs _ X => .bs X
  | .li l => ofCells l l.length
theorem ofCh_spec {x : Ch} (h : okCh x = true) (ty : TypeId) (rw live full : Bool) : (FO.mk x.len (ofCh x) ty rw live full).list = x.list ∧ (FO.mk x.len (ofCh x) ty rw live full).ok := by
  cases x with
  | bs m X => exact ⟨rfl, trivial⟩
  | li l => exact ofCells_spec rfl (by simpa [okCh] using h) ty rw live full
def chC (l : List C) : Ch := .li (l.map ofC)
theorem chC_list (l : List C) : (chC l).list = l := map_ofC l
def opAllocF (P : Program) (T : TypeId) : Option (Step β) := match zeroC P T with
  | none => none
  | some zc => some fun _ fs k => if okCh (chC zc) then pushK fs ⟨(chC zc).len, ofCh (chC zc), T, true, true, false⟩ (k (.c (.p fs.n 0))) else none
theorem opAlloc_rf {n : Nat} {o : Oper} {T : TypeId} (ho : o.op = .alloc T) {f : Step β} (hf : opAllocF P T = some f) : Rf n (evOp P · · o) f := fun fe fs k r hok h => by
  unfold opAllocF at hf
  cases hz : zeroC P T with
  | none => rw [hz] at hf; cases hf
  | some zc =>
    rw [hz] at hf
    cases hf
    try simp only at h
    split at h
    · rename_i hc
      obtain ⟨h1, h2⟩ := ofCh_spec hc T true true false
      obtain ⟨g1, g2, g3⟩ := pushK_spec hok h2 h
      refine ⟨_, _, g1, ?_, g3⟩
      rw [g2]
      unfold evOp
      simp only [ho]
      unfold zeroC at hz
      unfold evAlloc
      split at hz
      · cases hz
      rename_i inf hi
      split at hz
      · cases hz
      rename_i z hzz
      rw [hi]
      simp only [hzz, hz, FO.o, h1, chC_list, st_len]
      rfl
    · cases h
def opBoxF (T : TypeId) (gx : FE → FV) : Step β := fun fe fs k => match chOf (gx fe) with
  | some x => if okCh x then pushK fs ⟨x.len, ofCh x, T, true, true, false⟩ (k (.c (.p fs.n 0))) else none
  | none => none
theorem opBox_rf {n : Nat} {o : Oper} {T : TypeId} {x : Operand} (ho : o.op = .box T x) {gx : FE → FV} (hx : ∀ fe', lk (absE n fe') x = some (abs (gx fe'))) : Rf n (evOp P · · o) (opBoxF T gx : Step β) := fun fe fs k r hok h => by
  unfold opBoxF at h
  split at h
  · rename_i ch hch
    split at h
    · rename_i hc
      obtain ⟨s, hs, hcs⟩ := chOf_spec hch
      obtain ⟨h1, h2⟩ := ofCh_spec hc T true true false
      obtain ⟨g1, g2, g3⟩ := pushK_spec hok h2 h
      refine ⟨_, _, g1, ?_, g3⟩
      rw [g2]
      have e1 : evX (lk (absE n fe)) x = some (.s s) := by show lk _ x = _; rw [hx fe, hs]
      unfold evOp
      simp only [ho, e1, evBox, FO.o, h1, hcs, st_len]
      rfl
    · cases h
  · cases h
/-- so many zero cells -/
def mkCells (zc : List C) (m : Nat) : CT := match zc with
  | [x] => (match ofC x with
    | .k .u8 0 => .bs 0
    | y => .tr (floors m) (all y (floors m)))
  | zc => ofCells ((repC zc m).map ofC) m
def mkOk (zc : List C) (m : Nat) : Bool := match zc with
  | [x] => (match ofC x with
    | .k .u8 0 => true
    | _ => Nat.ble m 4096)
  | _ => Nat.ble m 4096
theorem bget_zero (j : Nat) : bget 0 j = 0 := by simp [bget]
theorem mk_spec {zc : List C} {m : Nat} (h : mkOk zc m = true) (ty : TypeId) (rw live full : Bool) : (FO.mk m (mkCells zc m) ty rw live full).list = repC zc m ∧ (FO.mk m (mkCells zc m) ty rw live full).ok := by
  unfold mkCells
  unfold mkOk at h
  split
  · rename_i x
    simp only at h
    have hx := absC_ofC x
    split
    · rename_i hc
      rw [hc] at hx
      refine ⟨List.ext_getElem? fun j => ?_, trivial⟩
      by_cases hj : j < m
      · rw [FO.list_get _ hj]
        show some (absC (.k .u8 (bget 0 j))) = (List.replicate m x)[j]?
        rw [bget_zero, List.getElem?_replicate, if_pos hj, hx]
      · rw [List.getElem?_eq_none (by rw [FO.list_len]; show m ≤ j; omega), List.getElem?_eq_none (by rw [repC_len]; omega)]
    · rename_i y hy
      have hm : m ≤ 4096 := by
        split at h
        · rename_i hc; exact absurd hc hy
        · simpa using h
      have hf := floors_spec hm
      refine ⟨List.ext_getElem? fun j => ?_, hf⟩
      by_cases hj : j < m
      · rw [FO.list_get _ hj]
        show some (absC (get _ j (all (ofC x) _))) = (List.replicate m x)[j]?
        rw [get_all _ _ _ (by omega), hx, List.getElem?_replicate, if_pos hj]
      · rw [List.getElem?_eq_none (by rw [FO.list_len]; show m ≤ j; omega), List.getElem?_eq_none (by rw [repC_len]; omega)]
  · rename_i hne
    have hm : m ≤ 4096 := by
      split at h
      · exact absurd rfl (hne _)
      · simpa using h
    have := ofCells_spec (l := (repC zc m).map ofC) (n := m) (by rw [List.length_map, repC_len]) hm ty rw live full
    exact ⟨by rw [this.1, map_ofC], this.2⟩
structure MkSt where
  el : TypeId
  bytes : Nat
  size : Nat
  zc : List C
def mkSt (P : Program) (T : TypeId) : Option MkSt := match P.underlying T with
  | some (.slice el) => (match P.info? el with
    | none => none
    | some i => (match zeroC P el with
      | none => none
      | some zc => if zc.length = i.size ∧ 0 < i.size then some ⟨el, i.bytes, i.size, zc⟩ else none))
  | _ => none
theorem mkSt_spec {T : TypeId} {s : MkSt} (h : mkSt P T = some s) (st : St) (c : Nat) (hb : s.bytes * c ≤ 140737488355328) (hc : c ≤ 9223372036854775807) :
    evMake P st T (.ofNat c) (.ofNat c) = some (.s (.c (.sl st.h.length 0 c s.size)), ⟨st.h ++ [⟨repC s.zc (c * s.size), s.el, true, true, true⟩], st.lo⟩) := by
  unfold mkSt at h
  split at h
  · rename_i el hu
    split at h
    · cases h
    rename_i i hi
    split at h
    · cases h
    rename_i zc hz
    split at h
    · rename_i hh
      cases h
      unfold zeroC at hz
      rw [hi] at hz
      simp only at hz
      split at hz
      · cases hz
      rename_i z hzz
      unfold evMake
      simp only [hu, hi, hzz, hz]
      have hb' : (i.bytes : Int) * (Int.ofNat c) ≤ 140737488355328 := by
        have hb : i.bytes * c ≤ 140737488355328 := hb
        have : ((i.bytes * c : Nat) : Int) ≤ 140737488355328 := by omega
        rwa [Int.natCast_mul] at this
      have : Int.ofNat c = Int.ofNat c ∧ 0 ≤ Int.ofNat c ∧ (i.bytes : Int) * (Int.ofNat c) ≤ 140737488355328 ∧ Int.ofNat c ≤ 9223372036854775807 ∧ zc.length = i.size ∧ 0 < i.size :=
        ⟨rfl, by simp only [Int.ofNat_eq_natCast]; omega, hb', by simp only [Int.ofNat_eq_natCast]; omega, hh.1, hh.2⟩
      rw [if_pos ⟨trivial, this.2⟩]
      rfl
    · cases h
  · cases h
def opMakeF (P : Program) (T : TypeId) (gx gy : FE → FV) : Option (Step β) := match mkSt P T with
  | none => none
  | some s => some fun fe fs k => match gx fe, gy fe with
    | .c (.i l), .c (.i c) => if Nat.beq l c && (Nat.ble (s.bytes * c) 140737488355328 && (Nat.ble c 9223372036854775807 && mkOk s.zc (c * s.size))) then
        pushK fs ⟨c * s.size, mkCells s.zc (c * s.size), s.el, true, true, true⟩ (k (.c (.s fs.n 0 c s.size))) else none
    | _, _ => none
theorem opMake_rf {n : Nat} {o : Oper} {T : TypeId} {x y : Operand} (ho : o.op = .makeSlice T x y) {gx gy : FE → FV} (hx : ∀ fe', lk (absE n fe') x = some (abs (gx fe'))) (hy : ∀ fe', lk (absE n fe') y = some (abs (gy fe'))) {f : Step β} (hf : opMakeF P T gx gy = some f) : Rf n (evOp P · · o) f := fun fe fs k r hok h => by
  unfold opMakeF at hf
  cases hs : mkSt P T with
  | none => rw [hs] at hf; cases hf
  | some s =>
    rw [hs] at hf
    cases hf
    try simp only at h
    split at h
    · rename_i l c hl hc
      split at h
      · rename_i hh
        simp only [Bool.and_eq_true, Nat.beq_eq, Nat.ble_eq] at hh
        obtain ⟨rfl, hb, h63, hm⟩ := hh
        obtain ⟨h1, h2⟩ := mk_spec hm s.el true true true
        obtain ⟨g1, g2, g3⟩ := pushK_spec hok h2 h
        refine ⟨_, _, g1, ?_, g3⟩
        rw [g2]
        have e1 : cellX (lk (absE n fe)) x = some (.flat (.int .i64 (.ofNat l))) := cellX_of (by rw [hx fe, hl] : lk (absE n fe) x = some (abs (.c (.i l))))
        have e2 : cellX (lk (absE n fe)) y = some (.flat (.int .i64 (.ofNat l))) := cellX_of (by rw [hy fe, hc] : lk (absE n fe) y = some (abs (.c (.i l))))
        unfold evOp
        simp only [ho, e1, e2]
        rw [mkSt_spec hs fs.st l hb h63, st_len]
        simp only [FO.o, h1]
        rfl
      · cases h
    · cases h
/-- []T{..} -/
def opBuildF (P : Program) (n : Nat) (T : TypeId) (m : Nat) (ps : List (Nat × Operand)) : Step β := fun fe fs k => match evParts (flk n fe) ps with
  | none => none
  | some qs => (match evBuildSlice P ⟨[], 0⟩ T m qs with
    | some (.s (.c (.sl _ _ m' sz)), ⟨[o], _⟩) => if okCh (chC o.cells) then pushK fs ⟨(chC o.cells).len, ofCh (chC o.cells), o.ty, o.rw, o.live, o.full⟩ (k (.c (.s fs.n 0 m' sz))) else none
    | _ => none)
theorem build_st {T : TypeId} {m m' i off sz lo : Nat} {qs : List (Nat × S)} {o : O} (h : evBuildSlice P ⟨[], 0⟩ T m qs = some (.s (.c (.sl i off m' sz)), ⟨[o], lo⟩)) (st : St) : evBuildSlice P st T m qs = some (.s (.c (.sl st.h.length 0 m' sz)), ⟨st.h ++ [o], st.lo⟩) := by
  unfold evBuildSlice at h ⊢
  repeat' split at h
  all_goals first
    | (cases h; done)
    | (simp only [List.length_nil, List.nil_append, Option.some.injEq, Prod.mk.injEq, PV.s.injEq, S.c.injEq, C.sl.injEq, St.mk.injEq, List.cons.injEq, and_true] at h
       obtain ⟨⟨_, _, rfl, rfl⟩, rfl, _⟩ := h
       simp_all)
theorem opBuild_rf {n : Nat} {o : Oper} {T : TypeId} {m : Nat} {ps : Array (Nat × Operand)} (ho : o.op = .buildSlice T m ps) : Rf n (evOp P · · o) (opBuildF P n T m ps.toList : Step β) := fun fe fs k r hok h => by
  unfold opBuildF at h
  rw [flk_eq] at h
  split at h
  · cases h
  rename_i qs hq
  split at h
  · rename_i i off m' sz ob lo hb
    split at h
    · rename_i hc
      obtain ⟨h1, h2⟩ := ofCh_spec hc ob.ty ob.rw ob.live ob.full
      obtain ⟨g1, g2, g3⟩ := pushK_spec hok h2 h
      refine ⟨_, _, g1, ?_, g3⟩
      rw [g2]
      unfold evOp
      simp only [ho, hq, build_st hb fs.st, st_len]
      simp only [FO.o, h1, chC_list]
      rfl
    · cases h
  · cases h

/-! ### cells of slices -/
def srcF (fs : FSt) (c : FC) (k : Ch → Nat → Option β) : Option β := match c with
  | .s i off len sz => objF fs i fun fo => if fo.live && Nat.ble (off + len * sz) fo.n then k (subC fo.cells off (len * sz)) len else none
  | .o (.flat (.slice none 0 0)) => k (.li []) 0
  | .o (.emp _) => k (.li []) 0
  | .o (.q _ _ _) => k (.li []) 0
  | _ => none
theorem srcF_spec {fs : FSt} {c : FC} {k : Ch → Nat → Option β} {r : β} (h : srcF fs c k = some r) : ∃ ch len, evCells fs.st (absC c) = some (ch.list, len) ∧ k ch len = some r := by
  unfold srcF at h
  split at h
  · rename_i i off len sz
    obtain ⟨hi, h⟩ := objF_spec h
    split at h
    · rename_i hc
      simp only [Bool.and_eq_true, Nat.ble_eq] at hc
      refine ⟨_, _, ?_, h⟩
      show evCells fs.st (.sl i off len sz) = _
      simp only [evCells]
      rw [st_get fs hi]
      have : (get 4 i fs.h).o.live = true ∧ ((get 4 i fs.h).o.full = true ∨ off + len * sz ≤ (get 4 i fs.h).o.cells.length) := ⟨hc.1, .inr (by show _ ≤ (FO.list _).length; rw [FO.list_len]; exact hc.2)⟩
      simp only [if_pos this]
      rw [subC_spec _ hc.2]; rfl
    · cases h
  · exact ⟨_, _, rfl, h⟩
  · exact ⟨_, _, rfl, h⟩
  · exact ⟨_, _, rfl, h⟩
  · cases h
structure AppSt where
  el : TypeId
  size : Nat
  bytes : Nat
def appSt (P : Program) (T : TypeId) : Option AppSt := match P.underlying T with
  | some (.slice el) => (match P.info? el with
    | none => none
    | some inf => if inf.size = 0 ∨ inf.zero.map (·.cells.size) ≠ some inf.size then none else some ⟨el, inf.size, inf.bytes⟩)
  | _ => none
def appR (a : AppSt) (st : St) (s x : C) : Option (PV × St) := match evCells st x with
  | none => none
  | some (news, k) =>
    if k = 0 then (match s with
      | .flat (.slice none 0 0) => some (.s (.c s), st)
      | .sl _ _ _ _ => some (.s (.c s), st)
      | .emp _ => some (.s (.c s), st)
      | .q _ _ _ => some (.s (.c s), st)
      | _ => none)
    else if news.length ≠ k * a.size then none
    else match s with
    | .flat (.slice none 0 0) => if k ≤ maxLen ∧ k * a.bytes ≤ 140737488355328 then
        some (.s (.c (.sl st.h.length 0 k a.size)), ⟨st.h ++ [⟨news, a.el, true, true, false⟩], st.lo⟩) else none
    | .emp true => if k ≤ maxLen ∧ k * a.bytes ≤ 140737488355328 then
        some (.s (.c (.sl st.h.length 0 k a.size)), ⟨st.h ++ [⟨news, a.el, true, true, false⟩], st.lo⟩) else none
    | .sl i off len sz => match st.h[i]? with
      | none => none
      | some o => if o.live = true ∧ o.full = true ∧ off = 0 ∧ sz = a.size ∧ o.cells.length = len * sz ∧ o.rw = false ∧ len + k ≤ maxLen ∧ (len + k) * a.bytes ≤ 140737488355328 then
          some (.s (.c (.sl st.h.length 0 (len + k) sz)), ⟨st.h ++ [⟨o.cells ++ news, a.el, true, true, false⟩], st.lo⟩)
        else if o.live = true ∧ o.rw = true ∧ o.ty = a.el ∧ sz = a.size ∧ o.cells.length = off + len * sz ∧ len + k ≤ maxLen ∧ (len + k) * a.bytes ≤ 140737488355328 then
          some (.s (.c (.sl st.h.length 0 (len + k) sz)), ⟨st.h.set i { o with live := false, cells := [] } ++ [⟨o.cells.drop off ++ news, a.el, true, true, false⟩], min st.lo i⟩) else none
    | .q i _off sz => match st.h[i]? with
      | none => none
      | some o => if o.live = true ∧ o.rw = true ∧ o.ty = a.el ∧ sz = a.size ∧ k ≤ maxLen ∧ k * a.bytes ≤ 140737488355328 then
          some (.s (.c (.sl st.h.length 0 k sz)), ⟨st.h.set i { o with live := false, cells := [] } ++ [⟨news, a.el, true, true, false⟩], min st.lo i⟩) else none
    | _ => none
theorem app_eq {T : TypeId} {a : AppSt} (h : appSt P T = some a) (st : St) (s x : C) : evAppend P st T s x = appR a st s x := by
  unfold appSt at h
  split at h
  · rename_i el hu
    split at h
    · cases h
    rename_i inf hi
    split at h
    · cases h
    · rename_i hn
      cases h
      unfold evAppend
      simp only [hu, hi, if_neg hn]
      rfl
  · cases h
def deadOf (fo : FO) : FO := ⟨0, .bs 0, fo.ty, fo.rw, false, fo.full⟩
theorem dead_o (fo : FO) : (deadOf fo).o = { fo.o with live := false, cells := [] } := rfl
def appNew (a : AppSt) (fs : FSt) (ch : Ch) (m : Nat) (k : Kont β) : Option β :=
  if Nat.ble m maxLen && (Nat.ble (m * a.bytes) 140737488355328 && okCh ch) then pushK fs ⟨ch.len, ofCh ch, a.el, true, true, false⟩ (k (.c (.s fs.n 0 m a.size))) else none
def appTo (a : AppSt) (fs : FSt) (i off len sz : Nat) (ch : Ch) (m : Nat) (k : Kont β) : Option β := objF fs i fun fo =>
  if fo.live && (Nat.beq off 0 && (Nat.beq sz a.size && (Nat.beq fo.n (len * sz) && (Nat.ble (len + m) maxLen && (Nat.ble ((len + m) * a.bytes) 140737488355328 && roomy (fo.n + ch.len) fo.cells ch))))) then
    (if fo.rw then (if Nat.beq fo.ty a.el then pushK (setO fs i (deadOf fo) (minF fs.lo i)) ⟨fo.n + ch.len, appC fo.n fo.cells ch, a.el, true, true, false⟩ (k (.c (.s fs.n 0 (len + m) sz))) else none)
     else if fo.full then pushK fs ⟨fo.n + ch.len, appC fo.n fo.cells ch, a.el, true, true, false⟩ (k (.c (.s fs.n 0 (len + m) sz))) else none) else none
def appQ (a : AppSt) (fs : FSt) (i off len sz : Nat) (ch : Ch) (m : Nat) (k : Kont β) : Option β := objF fs i fun fo =>
  if fo.live && (fo.rw && (Nat.beq fo.ty a.el && (Nat.beq sz a.size && (Nat.beq fo.n (off + len * sz) && (Nat.ble (len + m) maxLen && (Nat.ble ((len + m) * a.bytes) 140737488355328 && (okCh (subC fo.cells off (len * sz)) && roomy (len * sz + ch.len) (ofCh (subC fo.cells off (len * sz))) ch))))))) then
    pushK (setO fs i (deadOf fo) (minF fs.lo i)) ⟨len * sz + ch.len, appC (len * sz) (ofCh (subC fo.cells off (len * sz))) ch, a.el, true, true, false⟩ (k (.c (.s fs.n 0 (len + m) sz))) else none
def appE (a : AppSt) (fs : FSt) (i _off sz : Nat) (ch : Ch) (m : Nat) (k : Kont β) : Option β := objF fs i fun fo =>
  if fo.live && (fo.rw && (Nat.beq fo.ty a.el && (Nat.beq sz a.size && (Nat.ble m maxLen && (Nat.ble (m * a.bytes) 140737488355328 && okCh ch))))) then
    pushK (setO fs i (deadOf fo) (minF fs.lo i)) ⟨ch.len, ofCh ch, a.el, true, true, false⟩ (k (.c (.s fs.n 0 m sz))) else none
def appF (a : AppSt) (fs : FSt) (s : FC) (ch : Ch) (m : Nat) (k : Kont β) : Option β := match s with
  | .s i off len sz => if Nat.beq m 0 then k (.c (.s i off len sz)) fs else if Nat.beq ch.len (m * a.size) then (if Nat.beq off 0 then appTo a fs i off len sz ch m k else appQ a fs i off len sz ch m k) else none
  | .o (.flat (.slice none 0 0)) => if Nat.beq m 0 then k (.c (.o (.flat (.slice none 0 0)))) fs else if Nat.beq ch.len (m * a.size) then appNew a fs ch m k else none
  | .o (.q i off sz) => if Nat.beq m 0 then k (.c (.o (.q i off sz))) fs else if Nat.beq ch.len (m * a.size) then appE a fs i off sz ch m k else none
  | .o (.emp z) => if Nat.beq m 0 then k (.c (.o (.emp z))) fs else if z && Nat.beq ch.len (m * a.size) then appNew a fs ch m k else none
  | _ => none
def opAppF (P : Program) (T : TypeId) (gs gx : FE → FV) : Option (Step β) := match appSt P T with
  | none => none
  | some a => some fun fe fs k => match gs fe with
    | .c s => (match gx fe with
      | .c x => srcF fs x fun ch m => appF a fs s ch m k
      | _ => none)
    | _ => none
theorem appNew_spec {a : AppSt} {fs : FSt} {ch : Ch} {m : Nat} {k : Kont β} {r : β} (hok : fs.ok) (h : appNew a fs ch m k = some r) : (m ≤ maxLen ∧ m * a.bytes ≤ 140737488355328) ∧ ∃ fs', fs'.ok ∧ fs'.st = ⟨fs.st.h ++ [⟨ch.list, a.el, true, true, false⟩], fs.st.lo⟩ ∧ k (.c (.s fs.n 0 m a.size)) fs' = some r := by
  unfold appNew at h
  split at h
  · rename_i hc
    simp only [Bool.and_eq_true, Nat.ble_eq] at hc
    obtain ⟨h1, h2⟩ := ofCh_spec hc.2.2 a.el true true false
    obtain ⟨g1, g2, g3⟩ := pushK_spec hok h2 h
    refine ⟨⟨hc.1, hc.2.1⟩, _, g1, ?_, g3⟩
    rw [g2]
    simp only [FO.o, h1]
  · cases h
theorem appF_spec {a : AppSt} {fs : FSt} {s : FC} {x : C} {ch : Ch} {m : Nat} {k : Kont β} {r : β} (hok : fs.ok) (hx : evCells fs.st x = some (ch.list, m)) (h : appF a fs s ch m k = some r) :
    ∃ v fs', fs'.ok ∧ appR a fs.st (absC s) x = some (abs v, fs'.st) ∧ k v fs' = some r := by
  have hlen : ch.list.length = ch.len := ch.len_eq
  unfold appF at h
  unfold appR
  rw [hx]
  simp only
  split at h
  · rename_i i off len sz
    by_cases hm : m = 0
    · rw [if_pos (by simpa using hm)] at h
      rw [if_pos hm]
      exact ⟨_, fs, hok, rfl, h⟩
    · rw [if_neg (by simpa using hm)] at h
      rw [if_neg hm]
      split at h
      · rename_i hl
        have hl : ch.len = m * a.size := by simpa using hl
        rw [if_neg (by rw [hlen]; simp [hl])]
        split at h
        rotate_left
        · unfold appQ at h
          obtain ⟨hi, hh⟩ := objF_spec h
          clear h
          split at hh
          · rename_i hc
            simp only [Bool.and_eq_true, Nat.beq_eq, Nat.ble_eq] at hc
            obtain ⟨c1, hrw, hty, rfl, c4, c5, c6, c7, c8⟩ := hc
            have hl0 : (subC (get 4 i fs.h).cells off (len * a.size)).len = len * a.size := subC_len _ _ _
            obtain ⟨b1, b2⟩ := ofCh_spec c7 a.el true true false
            rw [hl0] at b1 b2
            obtain ⟨a1, a2⟩ := appC_spec (FO.mk (len * a.size) (ofCh (subC (get 4 i fs.h).cells off (len * a.size))) a.el true true false) b2 ch c8 a.el true true false
            have hcl : (get 4 i fs.h).o.cells.length = off + len * a.size := by show (FO.list _).length = _; rw [FO.list_len]; exact c4
            have hsub : (subC (get 4 i fs.h).cells off (len * a.size)).list = (get 4 i fs.h).o.cells.drop off := by
              rw [subC_spec _ (by omega)]
              show ((get 4 i fs.h).o.cells.drop off).take _ = _
              rw [List.take_of_length_le (by rw [List.length_drop]; omega)]
            simp only [absC]
            rw [st_get fs hi]
            simp only
            have hko := set_ok hok hi (fo := deadOf (get 4 i fs.h)) trivial (minF fs.lo i)
            obtain ⟨g1, g2, g3⟩ := pushK_spec hko a2 hh
            refine ⟨_, _, g1, ?_, g3⟩
            rw [if_neg (fun hq => by have : (get 4 i fs.h).rw = false := hq.2.2.2.2.2.1; rw [hrw] at this; cases this)]
            rw [if_pos ⟨c1, hrw, hty, trivial, hcl, c5, c6⟩]
            rw [g2, set_st hok hi, dead_o, minF_eq, st_len]
            simp only [FO.o, a1, b1, hsub]
            rfl
          · cases hh
        rename_i hoff0
        unfold appTo at h
        obtain ⟨hi, hh⟩ := objF_spec h
        clear h
        split at hh
        · rename_i hc
          simp only [Bool.and_eq_true, Nat.beq_eq, Nat.ble_eq] at hc
          obtain ⟨c1, rfl, rfl, c4, c5, c6, c7⟩ := hc
          obtain ⟨a1, a2⟩ := appC_spec (get 4 i fs.h) (hok.obj i hi) ch c7 a.el true true false
          have hcl : (get 4 i fs.h).o.cells.length = len * a.size := by show (FO.list _).length = _; rw [FO.list_len]; exact c4
          simp only [absC]
          rw [st_get fs hi]
          simp only
          split at hh
          · rename_i hrw
            split at hh
            · rename_i hty
              have hty : (get 4 i fs.h).ty = a.el := by simpa using hty
              have hko := set_ok hok hi (fo := deadOf (get 4 i fs.h)) trivial (minF fs.lo i)
              obtain ⟨g1, g2, g3⟩ := pushK_spec hko a2 hh
              refine ⟨_, _, g1, ?_, g3⟩
              rw [if_neg (fun hq => by have : (get 4 i fs.h).rw = false := hq.2.2.2.2.2.1; rw [hrw] at this; cases this)]
              rw [if_pos ⟨c1, hrw, hty, trivial, by rw [hcl, Nat.zero_add], c5, c6⟩]
              rw [List.drop_zero]
              rw [g2, set_st hok hi, dead_o, minF_eq, st_len]
              simp only [FO.o, a1]
              rfl
            · cases hh
          · rename_i hrw
            have hrw : (get 4 i fs.h).rw = false := by simpa using hrw
            split at hh
            · rename_i hf
              obtain ⟨g1, g2, g3⟩ := pushK_spec hok a2 hh
              refine ⟨_, _, g1, ?_, g3⟩
              rw [if_pos ⟨c1, hf, trivial, trivial, hcl, hrw, c5, c6⟩]
              rw [g2, st_len]
              simp only [FO.o, a1]
              rfl
            · cases hh
        · cases hh
      · cases h
  · by_cases hm : m = 0
    · rw [if_pos (by simpa using hm)] at h
      rw [if_pos hm]
      exact ⟨_, fs, hok, rfl, h⟩
    · rw [if_neg (by simpa using hm)] at h
      rw [if_neg hm]
      split at h
      · rename_i hl
        have hl : ch.len = m * a.size := by simpa using hl
        rw [if_neg (by rw [hlen]; simp [hl])]
        obtain ⟨hb, fs', g1, g2, g3⟩ := appNew_spec hok h
        refine ⟨_, fs', g1, ?_, g3⟩
        simp only [absC, if_pos hb, g2, st_len]
        rfl
      · cases h
  · rename_i i off sz
    by_cases hm : m = 0
    · rw [if_pos (by simpa using hm)] at h
      rw [if_pos hm]
      exact ⟨_, fs, hok, rfl, h⟩
    · rw [if_neg (by simpa using hm)] at h
      rw [if_neg hm]
      split at h
      · rename_i hl
        have hl : ch.len = m * a.size := by simpa using hl
        rw [if_neg (by rw [hlen]; simp [hl])]
        unfold appE at h
        obtain ⟨hi, hh⟩ := objF_spec h
        clear h
        split at hh
        · rename_i hc
          simp only [Bool.and_eq_true, Nat.beq_eq, Nat.ble_eq] at hc
          obtain ⟨c1, hrw, hty, rfl, c5, c6, c7⟩ := hc
          obtain ⟨b1, b2⟩ := ofCh_spec c7 a.el true true false
          simp only [absC]
          rw [st_get fs hi]
          simp only
          have hko := set_ok hok hi (fo := deadOf (get 4 i fs.h)) trivial (minF fs.lo i)
          obtain ⟨g1, g2, g3⟩ := pushK_spec hko b2 hh
          refine ⟨_, _, g1, ?_, g3⟩
          rw [if_pos ⟨c1, hrw, hty, trivial, c5, c6⟩]
          rw [g2, set_st hok hi, dead_o, minF_eq, st_len]
          simp only [FO.o, b1]
          rfl
        · cases hh
      · cases h
  · rename_i z
    by_cases hm : m = 0
    · rw [if_pos (by simpa using hm)] at h
      rw [if_pos hm]
      exact ⟨_, fs, hok, rfl, h⟩
    · rw [if_neg (by simpa using hm)] at h
      rw [if_neg hm]
      split at h
      · rename_i hl
        simp only [Bool.and_eq_true, Nat.beq_eq] at hl
        obtain ⟨rfl, hl⟩ := hl
        rw [if_neg (by rw [hlen]; simp [hl])]
        obtain ⟨hb, fs', g1, g2, g3⟩ := appNew_spec hok h
        refine ⟨_, fs', g1, ?_, g3⟩
        simp only [absC, if_pos hb, g2, st_len]
        rfl
      · cases h
  · cases h
theorem opApp_rf {n : Nat} {o : Oper} {T : TypeId} {s x : Operand} (ho : o.op = .call { callee := .builtin .append, args := #[s, x], argTypes := #[T, T] }) {gs gx : FE → FV} (hs : ∀ fe', lk (absE n fe') s = some (abs (gs fe'))) (hx : ∀ fe', lk (absE n fe') x = some (abs (gx fe'))) {f : Step β} (hf : opAppF P T gs gx = some f) : Rf n (evOp P · · o) f := fun fe fs k r hok h => by
  unfold opAppF at hf
  cases ha : appSt P T with
  | none => rw [ha] at hf; cases hf
  | some a =>
    rw [ha] at hf
    cases hf
    try simp only at h
    split at h
    · rename_i sc hsc
      split at h
      · rename_i xc hxc
        obtain ⟨ch, m, e1, e2⟩ := srcF_spec h
        obtain ⟨v, fs', g1, g2, g3⟩ := appF_spec hok e1 e2
        have h1 := cellX_of (by rw [hs fe, hsc] : lk (absE n fe) s = some (abs (.c sc)))
        have h2 := cellX_of (by rw [hx fe, hxc] : lk (absE n fe) x = some (abs (.c xc)))
        refine ⟨v, fs', g1, ?_, g3⟩
        unfold evOp
        simp only [ho, if_true, h1, h2, app_eq ha]
        exact g2
      · cases h
    · cases h
end Fx
end Go.Proofs.YtepianllbfnpoaaGreat
namespace Go.Proofs.YtepianllbfnpoaaGreat
open Go.RowKit Ev
namespace Fx
variable {P : Program} {β : Type}

/-! ### len -/
def isSliceT (P : Program) (T : TypeId) : Bool := match P.underlying T with
  | some (.slice _) => true
  | _ => false
theorem isSliceT_spec {T : TypeId} (h : isSliceT P T = true) : ∃ el, P.underlying T = some (.slice el) := by
  unfold isSliceT at h
  split at h
  · exact ⟨_, by assumption⟩
  · cases h
def lenF (str : Bool) (c : FC) : Option Nat := match c with
  | .s _ _ len _ => if str then none else some len
  | .st n _ => if str then some n else none
  | .o (.flat (.slice none 0 0)) => if str then none else some 0
  | .o (.emp _) => if str then none else some 0
  | .o (.q _ _ _) => if str then none else some 0
  | _ => none
def lenAt (str : Bool) (gx : FE → FV) : Step β := fun fe fs k => match gx fe with
  | .c c => (match lenF str c with
    | some m => k (.c (.i m)) fs
    | none => none)
  | _ => none
def opLenF (P : Program) (n : Nat) (o : Oper) (T : TypeId) (gx : FE → FV) : Option (Step β) := if isStrT P T || isSliceT P T then (match isStrT P T with
    | true => some (lenAt true gx)
    | false => some (lenAt false gx))
  else some (genF P n o)
theorem lenF_spec {T : TypeId} (ht : (isStrT P T || isSliceT P T) = true) {c : FC} {m : Nat} (h : lenF (isStrT P T) c = some m) : evLenT P T (absC c) = some m := by
  cases hs : isStrT P T with
  | true =>
    rw [hs] at h
    have hu := isStrT_spec hs
    unfold lenF at h
    split at h <;> simp at h
    · subst h
      unfold evLenT
      rw [hu]
      simp only [absC, rowL_len]
  | false =>
    rw [hs] at h ht
    obtain ⟨el, hu⟩ := isSliceT_spec (by simpa using ht)
    unfold lenF at h
    split at h <;> simp at h
    all_goals
      subst h
      unfold evLenT
      rw [hu]
      rfl
theorem opLen_rf {n : Nat} {o : Oper} {T : TypeId} {x : Operand} {ts : Array TypeId} (ho : o.op = .call { callee := .builtin .len, args := #[x], argTypes := ts }) (hts : ts[0]? = some T) {gx : FE → FV} (hx : ∀ fe', lk (absE n fe') x = some (abs (gx fe'))) {f : Step β} (hf : opLenF P n o T gx = some f) : Rf n (evOp P · · o) f := fun fe fs k r hok h => by
  unfold opLenF at hf
  by_cases ht : (isStrT P T || isSliceT P T) = true
  · rw [if_pos ht] at hf
    have hf' : f = lenAt (isStrT P T) gx := by
      split at hf
      · rename_i hb; cases hf; rw [hb]
      · rename_i hb; cases hf; rw [hb]
    subst hf'
    clear hf
    unfold lenAt at h
    split at h
    · rename_i c hc
      split at h
      · rename_i m hm
        have h1 := cellX_of (by rw [hx fe, hc] : lk (absE n fe) x = some (abs (.c c)))
        refine ⟨_, fs, hok, ?_, h⟩
        unfold evOp
        simp only [ho, hts, h1, lenF_spec ht hm]
        rfl
      · cases h
    · cases h
  · rw [if_neg ht] at hf; cases hf; exact gen_rf n o fe fs k r hok h

/-! ### s[lo:hi] -/
def optK {γ : Type} (n : Nat) (x : Option Operand) (K : Option (FE → FV) → Option γ) : Option γ := match x with
  | none => K none
  | some y => opdK n y fun g => K (some g)
def BndOk (n : Nat) (x : Option Operand) (g : Option (FE → FV)) : Prop := match x, g with
  | none, none => True
  | some y, some g => ∀ fe', lk (absE n fe') y = some (abs (g fe'))
  | _, _ => False
theorem optK_spec {γ : Type} {n : Nat} {x : Option Operand} {K : Option (FE → FV) → Option γ} {f : γ} (h : optK n x K = some f) : ∃ g, K g = some f ∧ BndOk n x g := by
  cases x with
  | none => exact ⟨none, h, trivial⟩
  | some y =>
    obtain ⟨g, h1, h2⟩ := opdK_spec h
    exact ⟨some g, h1, h2⟩
def bnd (g : Option (FE → FV)) (d : Nat) (fe : FE) : Option Nat := match g with
  | none => some d
  | some g => (match g fe with
    | .c (.i j) => some j
    | _ => none)
theorem bnd_spec {n : Nat} {x : Option Operand} {g : Option (FE → FV)} (hg : BndOk n x g) {d b : Nat} {fe : FE} (h : bnd g d fe = some b) : evBound (lk (absE n fe)) d x = some b := by
  cases x with
  | none => cases g with
    | none => exact h
    | some g => exact hg.elim
  | some y => cases g with
    | none => exact hg.elim
    | some g =>
      simp only [bnd] at h
      split at h
      · rename_i j hj
        cases h
        have e : evX (lk (absE n fe)) y = some (.s (.c (.flat (.int .i64 (.ofNat b))))) := by show lk _ y = _; rw [hg fe, hj]; rfl
        simp only [evBound, e]
        rw [if_pos (show (0 : Int) ≤ .ofNat b by simp only [Int.ofNat_eq_natCast]; omega)]
        rfl
      · cases h
def cutStr (n N l h : Nat) : Option FC := if Nat.ble l h && Nat.ble h n then some (.st (h - l) (bsub N l (h - l))) else none
def cutSl (i off len sz l h : Nat) : Option FC := if Nat.ble l h && Nat.ble h len then (if Nat.blt l h then some (.s i (off + l * sz) (h - l) sz) else some (.o (.q i (off + l * sz) sz))) else none
theorem cut_row {n N l h : Nat} (h1 : l ≤ h) (h2 : h ≤ n) : rowL (h - l) (bsub N l (h - l)) = ((rowL n N).take h).drop l := by
  refine List.ext_getElem? fun j => ?_
  by_cases hj : j < h - l
  · rw [rowL_get hj, bget_sub hj, List.getElem?_drop, List.getElem?_take, if_pos (by omega), rowL_get (by omega)]
  · rw [List.getElem?_eq_none (by rw [rowL_len]; omega), List.getElem?_eq_none (by simp [rowL_len]; omega)]
def opSliceF (P : Program) (n : Nat) (o : Oper) (T : TypeId) (gx : FE → FV) (lo hi : Option (FE → FV)) : Step β := fun fe fs k => match gx fe with
  | .c (.st m N) => if isStrT P T then (match bnd lo 0 fe with
    | none => none
    | some l => (match bnd hi m fe with
      | none => none
      | some h => (match cutStr m N l h with
        | some c => k (.c c) fs
        | none => none))) else none
  | .c (.s i off len sz) => (match elSize P T with
    | none => none
    | some z => if Nat.beq z sz then (match bnd lo 0 fe with
      | none => none
      | some l => (match bnd hi len fe with
        | none => none
        | some h => (match cutSl i off len sz l h with
          | some c => k (.c c) fs
          | none => none))) else none)
  | _ => genF P n o fe fs k
theorem opSlice_rf {n : Nat} {o : Oper} {T : TypeId} {x : Operand} {lo hi : Option Operand} (ho : o.op = .slice T x lo hi none) {gx : FE → FV} {glo ghi : Option (FE → FV)} (hx : ∀ fe', lk (absE n fe') x = some (abs (gx fe'))) (hlo : BndOk n lo glo) (hhi : BndOk n hi ghi) :
    Rf n (evOp P · · o) (opSliceF P n o T gx glo ghi : Step β) := fun fe fs k r hok h => by
  unfold opSliceF at h
  split at h
  · rename_i m N hp
    split at h
    · rename_i hs
      split at h
      · cases h
      rename_i l hl
      split at h
      · cases h
      rename_i hh hhh
      split at h
      · rename_i c hc
        unfold cutStr at hc
        split at hc
        · rename_i hb
          cases hc
          simp only [Bool.and_eq_true, Nat.ble_eq] at hb
          have h1 : cellX (lk (absE n fe)) x = some (.str (rowL m N)) := cellX_of (by rw [hx fe, hp] : lk (absE n fe) x = some (abs (.c (.st m N))))
          refine ⟨_, fs, hok, ?_, h⟩
          unfold evOp
          simp only [ho, h1]
          unfold evSlice
          simp only [isStrT_spec hs, bnd_spec hlo hl, rowL_len, bnd_spec hhi hhh]
          rw [if_pos hb]
          show some (PV.s (.c (.str (((rowL m N).take hh).drop l))), _) = some (PV.s (.c (.str (rowL (hh - l) (bsub N l (hh - l))))), _)
          rw [cut_row hb.1 hb.2]
        · cases hc
      · cases h
    · cases h
  · rename_i i off len sz hp
    split at h
    · cases h
    rename_i z hz
    split at h
    · rename_i hzz
      have hzz : z = sz := by simpa using hzz
      subst hzz
      split at h
      · cases h
      rename_i l hl
      split at h
      · cases h
      rename_i hh hhh
      split at h
      · rename_i c hc
        unfold cutSl at hc
        split at hc
        · rename_i hb
          simp only [Bool.and_eq_true, Nat.ble_eq] at hb
          obtain ⟨el, hu, hel⟩ := elSize_spec hz
          have h1 : cellX (lk (absE n fe)) x = some (.sl i off len z) := cellX_of (by rw [hx fe, hp] : lk (absE n fe) x = some (abs (.c (.s i off len z))))
          refine ⟨_, fs, hok, ?_, h⟩
          unfold evOp
          simp only [ho, h1]
          unfold evSlice
          simp only [hu, if_pos hel, bnd_spec hlo hl, bnd_spec hhi hhh]
          rw [if_pos hb]
          split at hc
          · rename_i hlt
            cases hc
            rw [if_pos (by simpa [Nat.blt_eq] using hlt)]
            rfl
          · rename_i hlt
            cases hc
            rw [if_neg (by simpa [Nat.blt_eq] using hlt)]
            rfl
        · cases hc
      · cases h
    · cases h
  · exact gen_rf n o fe fs k r hok h

/-! ### x.f -/
def partAt (P : Program) (T : TypeId) (f : Nat) : Option (Nat × Option Nat) := match P.underlying T with
  | some (.struct fields) => (match fields[f]? with
    | none => none
    | some fd => (match P.underlying fd.type with
      | none => none
      | some d => if isAggD d then (match sizeT P fd.type with
          | none => none
          | some n => some (fd.offset, some n)) else some (fd.offset, none)))
  | _ => none
def opFieldF (P : Program) (T : TypeId) (f : Nat) (gx : FE → FV) : Option (Step β) := match partAt P T f with
  | none => none
  | some (off, none) => some fun fe fs k => (match gx fe with
    | .a l => (match l[off]? with
      | some c => k (.c c) fs
      | none => none)
    | _ => none)
  | some (off, some m) => some fun fe fs k => (match gx fe with
    | .a l => k (.a ((l.take (off + m)).drop off)) fs
    | _ => none)
theorem opField_rf {n : Nat} {o : Oper} {T : TypeId} {x : Operand} {fd : Nat} (ho : o.op = .field T x fd) {gx : FE → FV} (hx : ∀ fe', lk (absE n fe') x = some (abs (gx fe'))) {f : Step β} (hf : opFieldF P T fd gx = some f) : Rf n (evOp P · · o) f := fun fe fs k r hok h => by
  unfold opFieldF at hf
  have key : ∀ off m, partAt P T fd = some (off, m) → ∀ cs : List C, evField P T fd cs = match m with
      | none => (match cs[off]? with | some c => some (.s (.c c)) | none => none)
      | some n => some (.s (.a ((cs.take (off + n)).drop off))) := fun off m hp cs => by
    unfold partAt at hp
    unfold evField
    split at hp
    · rename_i fields hu
      simp only [hu]
      split at hp
      · cases hp
      rename_i fdd hff
      simp only [hff]
      unfold evPart
      split at hp
      · cases hp
      rename_i d hd
      simp only [hd]
      split at hp
      · rename_i ha
        rw [if_pos ha]
        split at hp
        · cases hp
        rename_i n hn
        cases hp
        simp only [hn]
      · rename_i ha
        rw [if_neg ha]
        cases hp
        simp only
        cases cs[fdd.offset]? <;> rfl
    · cases hp
  cases hp : partAt P T fd with
  | none => rw [hp] at hf; cases hf
  | some q =>
    obtain ⟨off, m⟩ := q
    rw [hp] at hf
    cases m with
    | none =>
      cases hf
      try simp only at h
      split at h
      · rename_i l hl
        split at h
        · rename_i c hc
          have h1 : evX (lk (absE n fe)) x = some (.s (.a (l.map absC))) := by show lk _ x = _; rw [hx fe, hl]; rfl
          refine ⟨_, fs, hok, ?_, h⟩
          unfold evOp
          simp only [ho, h1, key _ _ hp, List.getElem?_map, hc, Option.map_some]
          rfl
        · cases h
      · cases h
    | some m =>
      cases hf
      try simp only at h
      split at h
      · rename_i l hl
        have h1 : evX (lk (absE n fe)) x = some (.s (.a (l.map absC))) := by show lk _ x = _; rw [hx fe, hl]; rfl
        refine ⟨_, fs, hok, ?_, h⟩
        unfold evOp
        simp only [ho, h1, key _ _ hp]
        simp [abs, List.map_drop, List.map_take]
      · cases h

/-! ### append(s, make(..)...) -/
structure ZSt where
  el : TypeId
  bytes : Nat
  c : FC
def zSt (P : Program) (T Tn : TypeId) : Option ZSt := match P.underlying T with
  | some (.slice el) => (match P.info? el with
    | none => none
    | some inf => (match inf.zero with
      | none => none
      | some z => (match z.cells.toList with
        | [v] => (match ofCell v with
          | none => none
          | some c => if inf.size = 1 ∧ isIntT P Tn = true then some ⟨el, inf.bytes, ofC c⟩ else none)
        | _ => none)))
  | _ => none
def zCh (c : FC) (m : Nat) : Ch := match c with
  | .k .u8 0 => .bs m 0
  | c => .li (List.replicate m c)
theorem zCh_spec (c : FC) (m : Nat) : (zCh c m).list = List.replicate m (absC c) ∧ (zCh c m).len = m := by
  unfold zCh
  split
  · refine ⟨List.ext_getElem? fun j => ?_, rfl⟩
    by_cases hj : j < m
    · show (byL m 0)[j]? = _
      rw [byL_get hj, List.getElem?_replicate, if_pos hj, byC, bget_zero]; rfl
    · rw [List.getElem?_eq_none (by show (byL m 0).length ≤ j; rw [byL_len]; omega), List.getElem?_eq_none (by simp; omega)]
  · exact ⟨by simp [Ch.list], by simp [Ch.len]⟩
theorem zSt_spec {T Tn : TypeId} {z : ZSt} (h : zSt P T Tn = some z) (st : St) {i off len sz m : Nat} {k : IntKind} {o : O} (hm : 0 < m) (hm2 : m ≤ 9223372036854775807) (ho : st.h[i]? = some o)
    (hc : o.live = true ∧ o.rw = true ∧ o.ty = z.el ∧ off = 0 ∧ sz = 1 ∧ o.cells.length = len ∧ len + m ≤ maxLen ∧ (len + m) * z.bytes ≤ 140737488355328) :
    evAppendZ P st T Tn (.sl i off len sz) (.flat (.int k (.ofNat m))) = some (.s (.c (.sl st.h.length 0 (len + m) 1)), ⟨st.h.set i { o with live := false, cells := [] } ++ [⟨o.cells ++ List.replicate m (absC z.c), z.el, true, true, false⟩], min st.lo i⟩) := by
  unfold zSt at h
  split at h
  · rename_i el hu
    split at h
    · cases h
    rename_i inf hi
    split at h
    · cases h
    rename_i zv hz
    split at h
    · rename_i v hv
      split at h
      · cases h
      rename_i c hcv
      split at h
      · rename_i hh
        cases h
        unfold evAppendZ
        simp only [hu, hi, hz, hv, hcv]
        rw [if_neg (by simp only [hh.1, hh.2, true_and, not_and, Int.ofNat_eq_natCast]; omega)]
        simp only [ho]
        refine (if_pos hc).trans ?_
        simp only [absC_ofC]
        rfl
      · cases h
    · cases h
  · cases h
def opAppZF (P : Program) (T Tn : TypeId) (gs gx : FE → FV) : Option (Step β) := match zSt P T Tn with
  | none => none
  | some z => some fun fe fs k => match gs fe with
    | .c (.s i off len sz) => (match gx fe with
      | .c (.i m) => if Nat.ble 1 m && Nat.ble m 9223372036854775807 then objF fs i fun fo =>
          if fo.live && (fo.rw && (Nat.beq fo.ty z.el && (Nat.beq off 0 && (Nat.beq sz 1 && (Nat.beq fo.n len && (Nat.ble (len + m) maxLen && (Nat.ble ((len + m) * z.bytes) 140737488355328 && roomy (fo.n + (zCh z.c m).len) fo.cells (zCh z.c m)))))))) then
            pushK (setO fs i (deadOf fo) (minF fs.lo i)) ⟨fo.n + (zCh z.c m).len, appC fo.n fo.cells (zCh z.c m), z.el, true, true, false⟩ (k (.c (.s fs.n 0 (len + m) 1))) else none
        else none
      | _ => none)
    | _ => none
theorem opAppZ_rf {n : Nat} {o : Oper} {T Tn : TypeId} (hT : T ≠ Tn) {s x : Operand} (ho : o.op = .call { callee := .builtin .append, args := #[s, x], argTypes := #[T, Tn] }) {gs gx : FE → FV} (hs : ∀ fe', lk (absE n fe') s = some (abs (gs fe'))) (hx : ∀ fe', lk (absE n fe') x = some (abs (gx fe'))) {f : Step β} (hf : opAppZF P T Tn gs gx = some f) : Rf n (evOp P · · o) f := fun fe fs k r hok h => by
  unfold opAppZF at hf
  cases hz : zSt P T Tn with
  | none => rw [hz] at hf; cases hf
  | some z =>
    rw [hz] at hf
    cases hf
    try simp only at h
    split at h
    · rename_i i off len sz hsc
      split at h
      · rename_i m hm
        split at h
        · rename_i hmb
          simp only [Bool.and_eq_true, Nat.ble_eq] at hmb
          obtain ⟨hi, hh⟩ := objF_spec h
          clear h
          split at hh
          · rename_i hc
            simp only [Bool.and_eq_true, Nat.beq_eq, Nat.ble_eq] at hc
            obtain ⟨c1, c2, c3, c4, c5, c6, c7, c8, c9⟩ := hc
            obtain ⟨z1, z2⟩ := zCh_spec z.c m
            obtain ⟨a1, a2⟩ := appC_spec (get 4 i fs.h) (hok.obj i hi) (zCh z.c m) c9 z.el true true false
            have hko := set_ok hok hi (fo := deadOf (get 4 i fs.h)) trivial (minF fs.lo i)
            obtain ⟨g1, g2, g3⟩ := pushK_spec hko a2 hh
            refine ⟨_, _, g1, ?_, g3⟩
            have h1 : cellX (lk (absE n fe)) s = some (.sl i off len sz) := cellX_of (by rw [hs fe, hsc] : lk (absE n fe) s = some (abs (.c (.s i off len sz))))
            have h2 : cellX (lk (absE n fe)) x = some (.flat (.int .i64 (.ofNat m))) := cellX_of (by rw [hx fe, hm] : lk (absE n fe) x = some (abs (.c (.i m))))
            unfold evOp
            simp only [ho, h1, h2, if_neg hT]
            rw [zSt_spec hz fs.st (by omega) hmb.2 (st_get fs hi) ⟨c1, c2, c3, c4, c5, by show (FO.list _).length = _; rw [FO.list_len]; exact c6, c7, c8⟩]
            rw [g2, set_st hok hi, dead_o, minF_eq, st_len]
            simp only [FO.o, a1, z1]
            rfl
          · cases hh
        · cases h
      · cases h
    · cases h

/-! ### copy -/
def takeCh (x : Ch) (t : Nat) : Ch := match x with
  | .bs _ X => .bs t X
  | .li l => .li (l.take t)
theorem takeCh_spec {x : Ch} {t : Nat} (h : t ≤ x.len) : (takeCh x t).list = x.list.take t ∧ (takeCh x t).len = t := by
  cases x with
  | bs m X =>
    have h : t ≤ m := h
    refine ⟨List.ext_getElem? fun j => ?_, rfl⟩
    by_cases hj : j < t
    · show (byL t X)[j]? = ((byL m X).take t)[j]?
      rw [byL_get hj, List.getElem?_take, if_pos hj, byL_get (by omega)]
    · rw [List.getElem?_eq_none (by show (byL t X).length ≤ j; rw [byL_len]; omega), List.getElem?_eq_none (by simp; omega)]
  | li l =>
    have h : t ≤ l.length := h
    exact ⟨by simp [takeCh, Ch.list, List.map_take], by simp [takeCh, Ch.len]; omega⟩
def cpSrc (fs : FSt) (z : Nat) (c : FC) (k : Ch → Nat → Option β) : Option β := match c with
  | .st n N => if Nat.beq z 1 then k (.bs n N) n else none
  | c => srcF fs c k
theorem byL_row (n N : Nat) : (rowL n N).map (fun b => C.flat (.int .u8 b.toNat)) = byL n N := by
  refine List.ext_getElem? fun j => ?_
  by_cases hj : j < n
  · rw [List.getElem?_map, rowL_get hj, byL_get hj, Option.map_some, u8_bget]; rfl
  · rw [List.getElem?_eq_none (by rw [List.length_map, rowL_len]; omega), List.getElem?_eq_none (by rw [byL_len]; omega)]
theorem cpSrc_spec {fs : FSt} {z : Nat} {c : FC} {k : Ch → Nat → Option β} {r : β} (h : cpSrc fs z c k = some r) : ∃ ch len, srcCells fs.st (absC c) = some (ch.list, len) ∧ k ch len = some r ∧ (isStrC (absC c) = true → z = 1) := by
  unfold cpSrc at h
  split at h
  · rename_i n N
    split at h
    · rename_i hz
      refine ⟨_, _, ?_, h, fun _ => by simpa using hz⟩
      show srcCells fs.st (.str (rowL n N)) = _
      simp only [srcCells, rowL_len]
      rw [byL_row]; rfl
    · cases h
  · rename_i c hne
    obtain ⟨ch, len, h1, h2⟩ := srcF_spec h
    refine ⟨ch, len, ?_, h2, fun hs => ?_⟩
    · unfold srcCells
      split
      · rename_i l hl
        rw [hl] at h1; cases h1
      · exact h1
    · exfalso
      unfold isStrC at hs
      split at hs
      · rename_i l hl
        rw [hl] at h1; cases h1
      · cases hs
def cpTo (z : Nat) (fs : FSt) (i off len sz : Nat) (ch : Ch) (m : Nat) (k : Kont β) : Option β := objF fs i fun fo =>
  if fo.live && (fo.rw && (Nat.beq sz z && (Nat.beq ch.len (m * z) && (Nat.ble (off + minF m len * z) fo.n && roomy fo.n fo.cells (takeCh ch (minF m len * z)))))) then
    k (.c (.i (minF m len))) (setO fs i ⟨fo.n, putC fo.n fo.cells off (takeCh ch (minF m len * z)), fo.ty, fo.rw, fo.live, fo.full⟩ (minF fs.lo i)) else none
def opCopyF (P : Program) (T : TypeId) (gd gx : FE → FV) : Option (Step β) := match elSize P T with
  | none => none
  | some z => some fun fe fs k => match gd fe with
    | .c (.s i off len sz) => (match gx fe with
      | .c x => cpSrc fs z x fun ch m => cpTo z fs i off len sz ch m k
      | _ => none)
    | _ => none
theorem opCopy_rf {n : Nat} {o : Oper} {T : TypeId} {ts : Array TypeId} {d x : Operand} (ho : o.op = .call { callee := .builtin .copy, args := #[d, x], argTypes := ts }) (hts : ts[0]? = some T) {gd gx : FE → FV} (hd : ∀ fe', lk (absE n fe') d = some (abs (gd fe'))) (hx : ∀ fe', lk (absE n fe') x = some (abs (gx fe'))) {f : Step β} (hf : opCopyF P T gd gx = some f) : Rf n (evOp P · · o) f := fun fe fs k r hok h => by
  unfold opCopyF at hf
  cases hz : elSize P T with
  | none => rw [hz] at hf; cases hf
  | some z =>
    rw [hz] at hf
    cases hf
    try simp only at h
    split at h
    · rename_i i off len sz hdc
      split at h
      · rename_i xc hxc
        obtain ⟨ch, m, e1, e2, e3⟩ := cpSrc_spec h
        obtain ⟨el, hu, hel⟩ := elSize_spec hz
        unfold cpTo at e2
        obtain ⟨hi, hh⟩ := objF_spec e2
        clear h e2
        split at hh
        · rename_i hc
          simp only [Bool.and_eq_true, Nat.beq_eq, Nat.ble_eq] at hc
          obtain ⟨c1, c2, c3, c4, c5, c6⟩ := hc
          rw [minF_eq] at c5 c6 hh
          have ht : min m len * z ≤ ch.len := by rw [c4]; exact Nat.mul_le_mul_right _ (Nat.min_le_left _ _)
          obtain ⟨t1, t2⟩ := takeCh_spec ht
          obtain ⟨p1, p2⟩ := putC_spec (get 4 i fs.h) (hok.obj i hi) (takeCh ch (min m len * z)) (off := off) (by rw [t2]; exact c5) c6 (get 4 i fs.h).full
          have h1 : cellX (lk (absE n fe)) d = some (.sl i off len sz) := cellX_of (by rw [hd fe, hdc] : lk (absE n fe) d = some (abs (.c (.s i off len sz))))
          have h2 := cellX_of (by rw [hx fe, hxc] : lk (absE n fe) x = some (abs (.c xc)))
          refine ⟨_, _, set_ok hok hi p2 _, ?_, hh⟩
          rw [set_st hok hi]
          unfold evOp
          simp only [ho, hts, h1, h2]
          have hone : (isStrC (absC xc) && !oneT P T) = false := by
            cases hs : isStrC (absC xc) with
            | false => rfl
            | true =>
              have := e3 hs
              subst this
              simp [oneT, hu, hel]
          rw [hone]
          simp only [Bool.false_eq_true, if_false]
          unfold evCopy
          simp only [hu, hel, e1, st_get fs hi]
          have hcond : (get 4 i fs.h).o.live = true ∧ (get 4 i fs.h).o.rw = true ∧ sz = z ∧ ch.list.length = m * z ∧ ((get 4 i fs.h).o.full = true ∨ off + min m len * z ≤ (get 4 i fs.h).o.cells.length) :=
            ⟨c1, c2, c3, by rw [Ch.len_eq]; exact c4, .inr (by show _ ≤ (FO.list _).length; rw [FO.list_len]; exact c5)⟩
          rw [if_pos hcond, minF_eq]
          simp only [FO.o, p1, t1, t2]
          rfl
        · cases hh
      · cases h
    · cases h

/-! ### conversions -/
def toRow : Ch → Option (Nat × Nat)
  | .bs m X => some (m, X)
  | .li l => liBy l
theorem evByte_byC (X j : Nat) : evByte (byC X j) = some (UInt8.ofNat (bget X j)) := by
  unfold byC evByte
  simp only
  have := u8_bget X j
  rw [if_pos (by
    show ((UInt8.ofNat (bget X j)).toNat : Int) = _
    rw [this]; rfl)]
  rfl
theorem all_byL : ∀ (l : List Nat) (X : Nat), all? evByte (l.map (byC X)) = some (l.map fun j => UInt8.ofNat (bget X j))
  | [], _ => rfl
  | j :: r, X => by simp only [List.map_cons, all?, evByte_byC, all_byL r X]
theorem toRow_spec {x : Ch} {m X : Nat} (h : toRow x = some (m, X)) : all? evByte x.list = some (rowL m X) ∧ x.len = m := by
  cases x with
  | bs m' X' => cases h; exact ⟨all_byL _ _, rfl⟩
  | li l =>
    have e := liBy_spec h
    refine ⟨?_, ?_⟩
    · show all? evByte (l.map absC) = _
      rw [← e]; exact all_byL _ _
    · show l.length = m
      have := congrArg List.length e
      simpa [byL_len] using this.symm
def markF (fs : FSt) (c : FC) (k : Kont β) : Option β := match c with
  | .s i off len sz => objF fs i fun fo => if fo.live && (fo.rw && (fo.full && (Nat.beq off 0 && Nat.beq fo.n (len * sz)))) then
      pushK (setO fs i (deadOf fo) (minF fs.lo i)) ⟨fo.n, fo.cells, fo.ty, false, true, true⟩ (k (.c (.s fs.n 0 len sz))) else none
  | _ => none
theorem markF_spec {fs : FSt} {c : FC} {k : Kont β} {r : β} (hok : fs.ok) (h : markF fs c k = some r) : ∃ v fs', fs'.ok ∧ evMark fs.st (absC c) = some (abs v, fs'.st) ∧ k v fs' = some r := by
  unfold markF at h
  split at h
  · rename_i i off len sz
    obtain ⟨hi, hh⟩ := objF_spec h
    clear h
    split at hh
    · rename_i hc
      simp only [Bool.and_eq_true, Nat.beq_eq] at hc
      obtain ⟨c1, c2, c3, c4, c5⟩ := hc
      have hko := set_ok hok hi (fo := deadOf (get 4 i fs.h)) trivial (minF fs.lo i)
      have hf : (FO.mk (get 4 i fs.h).n (get 4 i fs.h).cells (get 4 i fs.h).ty false true true).ok := hok.obj i hi
      obtain ⟨g1, g2, g3⟩ := pushK_spec hko hf hh
      refine ⟨_, _, g1, ?_, g3⟩
      rw [g2, set_st hok hi, dead_o, minF_eq]
      simp only [absC, evMark]
      rw [st_get fs hi]
      have : (get 4 i fs.h).o.live = true ∧ (get 4 i fs.h).o.rw = true ∧ (get 4 i fs.h).o.full = true ∧ off = 0 ∧ (get 4 i fs.h).o.cells.length = len * sz :=
        ⟨c1, c2, c3, c4, by show (FO.list _).length = _; rw [FO.list_len]; exact c5⟩
      simp only
      rw [if_pos this, st_len]
      rfl
    · cases hh
  · cases h
def strOfF (fs : FSt) (c : FC) (k : Kont β) : Option β := srcF fs c fun ch m => match toRow ch with
  | some (n, X) => if Nat.beq n m then k (.c (.st n X)) fs else none
  | none => none
def bytesF (P : Program) (dst : TypeId) (fs : FSt) (c : FC) (k : Kont β) : Option β := match c with
  | .st m N => if Nat.ble m maxLen then pushK fs ⟨m, .bs N, bytesEl P dst, false, true, false⟩ (k (.c (.s fs.n 0 m 1))) else none
  | _ => none
def dryF (P : Program) (n : Nat) (o : Oper) : Step β := fun fe fs k => match evDry P (flk n fe) o with
  | some pv => k (ofPV pv) fs
  | none => none
def opConvF (P : Program) (n : Nat) (o : Oper) (src dst : TypeId) (gx : FE → FV) : Option (Step β) :=
  if src = dst ∧ isBytesT P src = true then some fun fe fs k => (match gx fe with | .c c => markF fs c k | _ => none)
  else if isBytesT P src && isStrT P dst then some fun fe fs k => (match gx fe with | .c c => strOfF fs c k | _ => none)
  else if isStrT P src && isBytesT P dst then some fun fe fs k => (match gx fe with | .c c => bytesF P dst fs c k | _ => none)
  else some (dryF P n o)
theorem opConv_rf {n : Nat} {o : Oper} {src dst : TypeId} {x : Operand} (ho : o.op = .convert src dst x) {gx : FE → FV} (hx : ∀ fe', lk (absE n fe') x = some (abs (gx fe'))) {f : Step β} (hf : opConvF P n o src dst gx = some f) : Rf n (evOp P · · o) f := fun fe fs k r hok h => by
  unfold opConvF at hf
  by_cases c1 : src = dst ∧ isBytesT P src = true
  · rw [if_pos c1] at hf
    cases hf
    try simp only at h
    split at h
    · rename_i c hc
      obtain ⟨v, fs', g1, g2, g3⟩ := markF_spec hok h
      have h1 := cellX_of (by rw [hx fe, hc] : lk (absE n fe) x = some (abs (.c c)))
      refine ⟨v, fs', g1, ?_, g3⟩
      unfold evOp
      simp only [ho, if_pos c1, h1, g2]
    · cases h
  · rw [if_neg c1] at hf
    by_cases c2 : (isBytesT P src && isStrT P dst) = true
    · rw [if_pos c2] at hf
      cases hf
      try simp only at h
      split at h
      · rename_i c hc
        unfold strOfF at h
        obtain ⟨ch, m, e1, e2⟩ := srcF_spec h
        split at e2
        · rename_i n1 X1 hr
          split at e2
          · rename_i hn
            have hn : n1 = m := by simpa using hn
            obtain ⟨r1, r2⟩ := toRow_spec hr
            have h1 := cellX_of (by rw [hx fe, hc] : lk (absE n fe) x = some (abs (.c c)))
            refine ⟨_, fs, hok, ?_, e2⟩
            unfold evOp
            simp only [ho, if_neg c1, c2, if_true, h1]
            unfold evStr
            simp only [e1, r1, rowL_len, if_pos hn]
            rfl
          · cases e2
        · cases e2
      · cases h
    · rw [if_neg c2] at hf
      by_cases c3 : (isStrT P src && isBytesT P dst) = true
      · rw [if_pos c3] at hf
        cases hf
        try simp only at h
        split at h
        · rename_i c hc
          unfold bytesF at h
          split at h
          · rename_i m N
            split at h
            · rename_i hm
              have hm : m ≤ maxLen := by simpa using hm
              obtain ⟨g1, g2, g3⟩ := pushK_spec (fo := ⟨m, .bs N, bytesEl P dst, false, true, false⟩) hok trivial h
              have h1 : cellX (lk (absE n fe)) x = some (.str (rowL m N)) := cellX_of (by rw [hx fe, hc] : lk (absE n fe) x = some (abs (.c (.st m N))))
              refine ⟨_, _, g1, ?_, g3⟩
              rw [g2]
              unfold evOp
              simp only [ho, if_neg c1, if_neg c2, c3, if_true, h1]
              unfold evBytes
              rw [if_pos (by rw [rowL_len]; exact hm), rowL_len, byL_row, st_len]
              simp only [FO.o, list_by]
              rfl
            · cases h
          · cases h
        · cases h
      · rw [if_neg c3] at hf
        cases hf
        try simp only at h
        unfold dryF at h
        rw [flk_eq] at h
        split at h
        · rename_i pv hpv
          refine ⟨ofPV pv, fs, hok, ?_, h⟩
          unfold evOp
          simp only [ho, if_neg c1, if_neg c2, if_neg c3, hpv, abs_ofPV]
        · cases h
end Fx
end Go.Proofs.YtepianllbfnpoaaGreat
