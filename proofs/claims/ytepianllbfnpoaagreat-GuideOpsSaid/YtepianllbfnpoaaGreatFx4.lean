/- Fx: a run of Go code that the kernel computes fast. Fourth part: numbers, texts, looks at memory, slices. No program. -/
import Derived.Test.YtepianllbfnpoaaGreatMFxa
namespace Go.Proofs.YtepianllbfnpoaaGreat
open Go.RowKit Ev
namespace Fx
variable {P : Program} {β : Type}

/-! ### numbers -/
def smallI (r : Nat) : Option FC := if Nat.blt r 9223372036854775808 then some (.i r) else none
def binI (op : BinOp) (m n : Nat) : Option FC := match op with
  | .add => smallI (m + n)
  | .sub => if Nat.ble n m then smallI (m - n) else none
  | .mul => smallI (m * n)
  | .lss => some (.b (Nat.blt m n))
  | .gtr => some (.b (Nat.blt n m))
  | .leq => some (.b (!Nat.blt n m))
  | .geq => some (.b (!Nat.blt m n))
  | .eql => some (.b (Nat.beq m n))
  | .neq => some (.b (!Nat.beq m n))
  | _ => none
theorem wrap_small {x : Int} (h0 : 0 ≤ x) (h1 : x < 9223372036854775808) : IntKind.wrap .i64 x = x := by
  have e1 : IntKind.wrap .i64 x = if x % 18446744073709551616 ≥ 9223372036854775808 then x % 18446744073709551616 - 18446744073709551616 else x % 18446744073709551616 := by
    simp [IntKind.wrap, IntKind.bits, IntKind.signed]
  rw [e1]
  split <;> omega
theorem smallI_spec {r : Nat} {c : FC} (h : smallI r = some c) : c = .i r ∧ wrapF .i64 (.ofNat r) = .ofNat r := by
  unfold smallI at h
  split at h
  · rename_i hr
    cases h
    have hr : r < 9223372036854775808 := by simpa [Nat.blt_eq] using hr
    refine ⟨rfl, ?_⟩
    rw [wrapF_eq]
    exact wrap_small (by simp only [Int.ofNat_eq_natCast]; omega) (by simp only [Int.ofNat_eq_natCast]; omega)
  · cases h
theorem binI_spec {op : BinOp} {m n : Nat} {c : FC} (h : binI op m n = some c) : ∃ v, fastI op .i64 .i64 (.ofNat m) (.ofNat n) = some v ∧ absC c = .flat v := by
  cases op <;> simp only [binI] at h
  case add =>
    obtain ⟨rfl, hw⟩ := smallI_spec h
    refine ⟨_, by simp only [fastI, if_true]; rfl, ?_⟩
    show C.flat (.int .i64 (.ofNat (m + n))) = .flat (.int .i64 (wrapF .i64 (.ofNat (m + n))))
    rw [hw]
  case sub =>
    split at h
    · rename_i hle
      have hle : n ≤ m := by simpa using hle
      obtain ⟨rfl, hw⟩ := smallI_spec h
      refine ⟨_, by simp only [fastI, if_true]; rfl, ?_⟩
      have e : (Int.ofNat m - Int.ofNat n) = Int.ofNat (m - n) := by simp only [Int.ofNat_eq_natCast]; omega
      rw [e, hw]; rfl
    · cases h
  case mul =>
    obtain ⟨rfl, hw⟩ := smallI_spec h
    refine ⟨_, by simp only [fastI, if_true]; rfl, ?_⟩
    show C.flat (.int .i64 (.ofNat (m * n))) = .flat (.int .i64 (wrapF .i64 (.ofNat (m * n))))
    rw [hw]
  all_goals first
    | (cases h; done)
    | (cases h; exact ⟨_, by simp only [fastI, if_true]; rfl, rfl⟩)
def zOf : FC → Option (IntKind × Int)
  | .i n => some (.i64, .ofNat n)
  | .k kd n => some (kd, .ofNat n)
  | .o (.flat (.int kd z)) => some (kd, z)
  | _ => none
theorem zOf_spec {c : FC} {kd : IntKind} {z : Int} (h : zOf c = some (kd, z)) : absC c = .flat (.int kd z) := by
  unfold zOf at h
  split at h <;> cases h <;> rfl
def binZ (op : BinOp) (a b : FC) : Option FC := match zOf a with
  | none => none
  | some (k, x) => match zOf b with
    | none => none
    | some (k', y) => match fastI op k k' x y with
      | some v => some (ofVal v)
      | none => none
def eqRow (n N m M : Nat) : Bool := Nat.beq n m && Nat.beq (N % 256 ^ n) (M % 256 ^ n)
def strF (op : BinOp) (n N m M : Nat) : Option FC := match op with
  | .add => if Nat.ble (n + m) 9223372036854775807 then some (.st (n + m) (N % 256 ^ n + 256 ^ n * M)) else none
  | .eql => some (.b (eqRow n N m M))
  | .neq => some (.b (!eqRow n N m M))
  | _ => none
theorem eqRow_eq (n N m M : Nat) : (rowL n N == rowL m M) = eqRow n N m M := by
  rw [Bool.eq_iff_iff]
  unfold eqRow
  simp only [beq_iff_eq, Bool.and_eq_true, Nat.beq_eq]
  constructor
  · intro h
    have hl : n = m := by have := congrArg List.length h; simpa [rowL_len] using this
    subst hl
    refine ⟨rfl, row_ext (n := n) (Nat.mod_lt _ (p256 n)) (Nat.mod_lt _ (p256 n)) fun j hj => ?_⟩
    rw [bget_mod hj, bget_mod hj]
    have := congrArg (·[j]?) h
    simp only [rowL_get hj, Option.some.injEq] at this
    have := congrArg UInt8.toNat this
    rwa [u8_bget, u8_bget] at this
  · rintro ⟨rfl, h⟩
    refine List.ext_getElem? fun j => ?_
    by_cases hj : j < n
    · rw [rowL_get hj, rowL_get hj, ← bget_mod hj, h, bget_mod hj]
    · rw [List.getElem?_eq_none (by rw [rowL_len]; omega), List.getElem?_eq_none (by rw [rowL_len]; omega)]
theorem row_cat (n N m M : Nat) : rowL (n + m) (N % 256 ^ n + 256 ^ n * M) = rowL n N ++ rowL m M := by
  refine List.ext_getElem? fun j => ?_
  by_cases hj : j < n + m
  · rw [rowL_get hj, bget_cat (Nat.mod_lt _ (p256 n))]
    by_cases h1 : j < n
    · rw [if_pos h1, List.getElem?_append_left (by rw [rowL_len]; exact h1), rowL_get h1, bget_mod h1]
    · rw [if_neg h1, List.getElem?_append_right (by rw [rowL_len]; omega), rowL_len, rowL_get (by omega)]
  · rw [List.getElem?_eq_none (by rw [rowL_len]; omega), List.getElem?_eq_none (by rw [List.length_append, rowL_len, rowL_len]; omega)]
def binF (op : BinOp) (a b : FC) : Option FC := match a, b with
  | .i m, .i n => (match binI op m n with
    | some c => some c
    | none => binZ op (.i m) (.i n))
  | .st n N, .st m M => strF op n N m M
  | a, b => binZ op a b
def opBinF (P : Program) (n : Nat) (o : Oper) (op : BinOp) (gx gy : FE → FV) : Step β := fun fe fs k => match gx fe with
  | .c a => (match gy fe with
    | .c b => (match binF op a b with
      | some c => k (.c c) fs
      | none => genF P n o fe fs k)
    | _ => genF P n o fe fs k)
  | _ => genF P n o fe fs k
theorem cellX_of {e : Look} {x : Operand} {c : FC} (h : e x = some (abs (.c c))) : cellX e x = some (absC c) := by
  unfold cellX evX; rw [h]; rfl
theorem binZ_spec {op : BinOp} {a b c : FC} (h : binZ op a b = some c) : ∃ k x k' y v, absC a = .flat (.int k x) ∧ absC b = .flat (.int k' y) ∧ fastI op k k' x y = some v ∧ absC c = .flat v := by
  unfold binZ at h
  split at h
  · cases h
  rename_i k x hx
  split at h
  · cases h
  rename_i k' y hy
  split at h
  · rename_i v hv
    cases h
    exact ⟨k, x, k', y, v, zOf_spec hx, zOf_spec hy, hv, absC_ofVal v⟩
  · cases h
theorem bin_ints {e : Look} {st : St} {o : Oper} {op : BinOp} {T T' : TypeId} {x y : Operand} (ho : o.op = .binOp op T x y T') {k k' : IntKind} {a b : Int} {v : Value} (hx : cellX e x = some (.flat (.int k a))) (hy : cellX e y = some (.flat (.int k' b))) (hv : fastI op k k' a b = some v) :
    evOp P e st o = some (.s (.c (.flat v)), st) := by
  unfold evOp
  simp only [ho, hx, hy, hv]
theorem opBin_rf {n : Nat} {o : Oper} {op : BinOp} {T T' : TypeId} {x y : Operand} (ho : o.op = .binOp op T x y T') {gx gy : FE → FV} (hx : ∀ fe', lk (absE n fe') x = some (abs (gx fe'))) (hy : ∀ fe', lk (absE n fe') y = some (abs (gy fe'))) :
    Rf n (evOp P · · o) (opBinF P n o op gx gy : Step β) := fun fe fs k r hok h => by
  unfold opBinF at h
  split at h
  · rename_i a ha
    split at h
    · rename_i b hb
      split at h
      · rename_i c hc
        have h1 := cellX_of (by rw [hx fe, ha] : lk (absE n fe) x = some (abs (.c a)))
        have h2 := cellX_of (by rw [hy fe, hb] : lk (absE n fe) y = some (abs (.c b)))
        refine ⟨.c c, fs, hok, (?_ : evOp P (lk (absE n fe)) fs.st o = some (abs (.c c), fs.st)), h⟩
        have zcase : binZ op a b = some c → evOp P (lk (absE n fe)) fs.st o = some (abs (.c c), fs.st) := fun hz => by
          obtain ⟨k1, x1, k2, y1, v, e1, e2, e3, e4⟩ := binZ_spec hz
          rw [bin_ints ho (by rw [h1, e1]) (by rw [h2, e2]) e3]
          show _ = some (PV.s (.c (absC c)), _)
          rw [e4]
        unfold binF at hc
        split at hc
        · split at hc
          · rename_i hi
            cases hc
            obtain ⟨v, e3, e4⟩ := binI_spec hi
            rw [bin_ints ho h1 h2 e3]
            show _ = some (PV.s (.c (absC c)), _)
            rw [e4]
          · exact zcase hc
        · rename_i n1 N1 m1 M1
          have h1 : cellX (lk (absE n fe)) x = some (.str (rowL n1 N1)) := h1
          have h2 : cellX (lk (absE n fe)) y = some (.str (rowL m1 M1)) := h2
          unfold strF at hc
          split at hc
          · split at hc
            · rename_i hle
              cases hc
              have hle : (rowL n1 N1).length + (rowL m1 M1).length ≤ 9223372036854775807 := by simpa [rowL_len] using hle
              unfold evOp
              simp only [ho, h1, h2, if_pos hle]
              show _ = some (PV.s (.c (.str (rowL _ _))), _)
              rw [row_cat]
            · cases hc
          · cases hc
            unfold evOp
            simp only [ho, h1, h2, evEqStr, eqRow_eq]
            rfl
          · cases hc
            unfold evOp
            simp only [ho, h1, h2, evEqStr, eqRow_eq]
            rfl
          · cases hc
        · exact zcase hc
      · exact gen_rf n o fe fs k r hok h
    · exact gen_rf n o fe fs k r hok h
  · exact gen_rf n o fe fs k r hok h

/-! ### looks at memory -/
theorem fits_of {l : List C} {off n : Nat} (h : off + n ≤ l.length) : Ev.fits l off n = true := by
  unfold Ev.fits
  split
  · simpa using h
  · rename_i n
    simp
    omega
def objF (fs : FSt) (i : Nat) (k : FO → Option β) : Option β := if Nat.blt i fs.n then k (get4 i fs.h) else none
theorem objF_spec {fs : FSt} {i : Nat} {k : FO → Option β} {r : β} (h : objF fs i k = some r) : i < fs.n ∧ k (get 4 i fs.h) = some r := by
  unfold objF at h
  split at h
  · rename_i hi; exact ⟨by simpa [Nat.blt_eq] using hi, h⟩
  · cases h
def load1 (gx : FE → FV) : Step β := fun fe fs k => match gx fe with
  | .c (.p i off) => objF fs i fun fo => if fo.live && Nat.blt off fo.n then k (.c (atC fo.cells off)) fs else none
  | _ => none
def loadA (m : Nat) (gx : FE → FV) : Step β := fun fe fs k => match gx fe with
  | .c (.p i off) => objF fs i fun fo => if fo.live && Nat.ble (off + m) fo.n then k (.a (subC fo.cells off m).cells) fs else none
  | _ => none
def opLoadF (P : Program) (T : TypeId) (gx : FE → FV) : Option (Step β) := match P.underlying T with
  | none => none
  | some d => if isAggD d then (match sizeT P T with
      | none => none
      | some m => some (loadA m gx)) else some (load1 gx)
theorem load_eq {T : TypeId} {gx : FE → FV} {fe : FE} {fs : FSt} {k : Kont β} {r : β} {f : Step β} (hf : opLoadF P T gx = some f) (h : f fe fs k = some r) : ∃ i off v s, gx fe = .c (.p i off) ∧ evLoad P fs.st T i off = some s ∧ abs v = .s s ∧ k v fs = some r := by
  unfold opLoadF at hf
  cases hd : P.underlying T with
  | none => rw [hd] at hf; cases hf
  | some d =>
    rw [hd] at hf
    simp only at hf
    by_cases ha : isAggD d = true
    · rw [if_pos ha] at hf
      cases hm : sizeT P T with
      | none => rw [hm] at hf; cases hf
      | some m =>
        rw [hm] at hf
        cases hf
        try simp only at h
        unfold loadA at h
        split at h
        · rename_i i off hp
          obtain ⟨hi, h⟩ := objF_spec h
          split at h
          · rename_i hc
            simp only [Bool.and_eq_true, Nat.ble_eq] at hc
            refine ⟨i, off, _, .a ((((get 4 i fs.h).list).drop off).take m), hp, ?_, ?_, h⟩
            · unfold evLoad
              rw [st_get fs hi]
              simp only [FO.o, hc.1, Bool.true_eq_false, if_false, hd, ha, if_true, hm]
              rw [if_pos (fits_of (by rw [FO.list_len]; exact hc.2))]
            · show PV.s (.a ((subC _ off m).cells.map absC)) = _
              rw [Ch.cells_eq, subC_spec _ hc.2]
          · cases h
        · cases h
    · rw [if_neg ha] at hf
      cases hf
      try simp only at h
      unfold load1 at h
      split at h
      · rename_i i off hp
        obtain ⟨hi, h⟩ := objF_spec h
        split at h
        · rename_i hc
          simp only [Bool.and_eq_true, Nat.blt_eq] at hc
          refine ⟨i, off, _, .c (absC (atC (get 4 i fs.h).cells off)), hp, ?_, rfl, h⟩
          unfold evLoad
          rw [st_get fs hi]
          have ha' : isAggD d = false := by simpa using ha
          simp only [FO.o, hc.1, Bool.true_eq_false, if_false, hd, ha', FO.list_get _ hc.2, Bool.false_eq_true]
        · cases h
      · cases h
theorem opLoad_rf {n : Nat} {o : Oper} {T : TypeId} {x : Operand} (ho : o.op = .load T x) {gx : FE → FV} (hx : ∀ fe', lk (absE n fe') x = some (abs (gx fe'))) {f : Step β} (hf : opLoadF P T gx = some f) : Rf n (evOp P · · o) f := fun fe fs k r hok h => by
  obtain ⟨i, off, v, s, h1, h2, h3, h4⟩ := load_eq hf h
  have hc := cellX_of (by rw [hx fe, h1] : lk (absE n fe) x = some (abs (.c (.p i off))))
  refine ⟨v, fs, hok, ?_, h4⟩
  have hc : cellX (lk (absE n fe)) x = some (.ptr i off) := hc
  unfold evOp
  simp only [ho, hc, h2, h3]
def chOf : FV → Option Ch
  | .c x => some (.li [x])
  | .a l => some (.li l)
  | _ => none
theorem chOf_spec {v : FV} {x : Ch} (h : chOf v = some x) : ∃ s, abs v = .s s ∧ cellsOf s = x.list := by
  unfold chOf at h
  split at h
  · cases h; exact ⟨_, rfl, rfl⟩
  · cases h; exact ⟨_, rfl, rfl⟩
  · cases h
def opStoreF (P : Program) (T : TypeId) (gx gy : FE → FV) : Option (Step β) := match sizeT P T with
  | none => none
  | some m => some fun fe fs k => match gx fe with
    | .c (.p i off) => objF fs i fun fo => (match chOf (gy fe) with
      | some x => if fo.live && (fo.rw && (Nat.beq x.len m && (Nat.ble (off + x.len) fo.n && roomy fo.n fo.cells x))) then
          k .skip (setO fs i ⟨fo.n, putC fo.n fo.cells off x, fo.ty, fo.rw, fo.live, fo.full⟩ (minF fs.lo i)) else none
      | none => none)
    | _ => none
theorem opStore_rf {n : Nat} {o : Oper} {T : TypeId} {x y : Operand} (ho : o.op = .store T x y) {gx gy : FE → FV} (hx : ∀ fe', lk (absE n fe') x = some (abs (gx fe'))) (hy : ∀ fe', lk (absE n fe') y = some (abs (gy fe'))) {f : Step β} (hf : opStoreF P T gx gy = some f) : Rf n (evOp P · · o) f := fun fe fs k r hok h => by
  unfold opStoreF at hf
  cases hm : sizeT P T with
  | none => rw [hm] at hf; cases hf
  | some m =>
    rw [hm] at hf
    cases hf
    try simp only at h
    split at h
    · rename_i i off hp
      obtain ⟨hi, h⟩ := objF_spec h
      split at h
      · rename_i ch hch
        split at h
        · rename_i hc
          simp only [Bool.and_eq_true, Nat.ble_eq, Nat.beq_eq] at hc
          obtain ⟨hl, hrw, hlen, hle, hro⟩ := hc
          obtain ⟨s, hs, hcs⟩ := chOf_spec hch
          have hc1 : cellX (lk (absE n fe)) x = some (.ptr i off) := cellX_of (by rw [hx fe, hp] : lk (absE n fe) x = some (abs (.c (.p i off))))
          have hc2 : evX (lk (absE n fe)) y = some (.s s) := by show lk _ y = _; rw [hy fe, hs]
          have hp2 := putC_spec (get 4 i fs.h) (hok.obj i hi) ch hle hro (get 4 i fs.h).full
          refine ⟨.skip, _, set_ok hok hi hp2.2 _, ?_, h⟩
          rw [set_st hok hi]
          unfold evOp
          simp only [ho, hc1, hc2]
          unfold evStore
          rw [st_get fs hi]
          have e1 : (cellsOf s).length = m := by rw [hcs, Ch.len_eq]; exact hlen
          have e2 : Ev.fits (get 4 i fs.h).o.cells off m = true := fits_of (by show _ ≤ (FO.list _).length; rw [FO.list_len, ← hlen]; exact hle)
          have e3 : ¬ ((get 4 i fs.h).o.live = false ∨ (get 4 i fs.h).o.rw = false) := by simp [FO.o, hl, hrw]
          simp only [if_neg e3, hm, e1, e2, and_self, if_true, minF_eq]
          simp only [FO.o, hp2.1, hcs, hlen]
          rfl
        · cases h
      · cases h
    · cases h

/-! ### places -/
def opNilF (P : Program) (n : Nat) (o : Oper) (gx : FE → FV) : Step β := fun fe fs k => match gx fe with
  | .c (.p i off) => k (.c (.p i off)) fs
  | _ => genF P n o fe fs k
theorem opNil_rf {n : Nat} {o : Oper} {x : Operand} (ho : o.op = .nilCheck x) {gx : FE → FV} (hx : ∀ fe', lk (absE n fe') x = some (abs (gx fe'))) : Rf n (evOp P · · o) (opNilF P n o gx : Step β) := fun fe fs k r hok h => by
  unfold opNilF at h
  split at h
  · rename_i i off hp
    have hc : cellX (lk (absE n fe)) x = some (.ptr i off) := cellX_of (by rw [hx fe, hp] : lk (absE n fe) x = some (abs (.c (.p i off))))
    refine ⟨_, fs, hok, ?_, h⟩
    unfold evOp
    simp only [ho, hc, okNil, if_true]
    rfl
  · exact gen_rf n o fe fs k r hok h
def fieldOff (P : Program) (T : TypeId) (f : Nat) : Option Nat := match P.underlying T with
  | some (.struct fields) => (match fields[f]? with
    | none => none
    | some fd => (match sizeT P fd.type with
      | none => none
      | some n => if n = 0 then none else some fd.offset))
  | _ => none
theorem fieldOff_spec {T : TypeId} {f d : Nat} (h : fieldOff P T f = some d) (i off : Nat) : evFieldAddr P T f i off = some (.s (.c (.ptr i (off + d)))) := by
  unfold fieldOff at h
  unfold evFieldAddr
  split at h
  · rename_i fields hu
    rw [hu]
    simp only
    split at h
    · cases h
    rename_i fd hf
    simp only [hf]
    split at h
    · cases h
    rename_i n hn
    simp only [hn]
    split at h
    · cases h
    rename_i h0
    cases h
    rw [if_neg h0]
  · cases h
def fieldAt (d : Nat) (gx : FE → FV) : Step β := fun fe fs k => match gx fe with
  | .c (.p i off) => k (.c (.p i (off + d))) fs
  | _ => none
def opFieldAddrF (P : Program) (T : TypeId) (f : Nat) (gx : FE → FV) : Option (Step β) := match fieldOff P T f with
  | some d => some (fieldAt d gx)
  | none => none
theorem opFieldAddr_rf {n : Nat} {o : Oper} {T : TypeId} {x : Operand} {fd : Nat} (ho : o.op = .fieldAddr T x fd) {gx : FE → FV} (hx : ∀ fe', lk (absE n fe') x = some (abs (gx fe'))) {f : Step β} (hf : opFieldAddrF P T fd gx = some f) : Rf n (evOp P · · o) f := fun fe fs k r hok h => by
  unfold opFieldAddrF at hf
  cases hd : fieldOff P T fd with
  | none => rw [hd] at hf; cases hf
  | some d =>
    rw [hd] at hf
    cases hf
    try simp only at h
    unfold fieldAt at h
    split at h
    · rename_i i off hp
      have hc : cellX (lk (absE n fe)) x = some (.ptr i off) := cellX_of (by rw [hx fe, hp] : lk (absE n fe) x = some (abs (.c (.p i off))))
      refine ⟨_, fs, hok, ?_, h⟩
      unfold evOp
      simp only [ho, hc, fieldOff_spec hd i off]
      rfl
    · cases h
def elSize (P : Program) (T : TypeId) : Option Nat := match P.underlying T with
  | some (.slice el) => sizeT P el
  | _ => none
theorem elSize_spec {T : TypeId} {z : Nat} (h : elSize P T = some z) : ∃ el, P.underlying T = some (.slice el) ∧ sizeT P el = some z := by
  unfold elSize at h
  split at h
  · exact ⟨_, by assumption, h⟩
  · cases h
def idxAt (P : Program) (n : Nat) (o : Oper) (z : Nat) (gx gy : FE → FV) : Step β := fun fe fs k => match gx fe with
  | .c (.s i off len sz) => (match gy fe with
    | .c (.i j) => if Nat.beq z sz && Nat.blt j len then k (.c (.p i (off + j * sz))) fs else none
    | _ => genF P n o fe fs k)
  | _ => genF P n o fe fs k
def opIndexAddrF (P : Program) (n : Nat) (o : Oper) (T : TypeId) (gx gy : FE → FV) : Option (Step β) := match elSize P T with
  | some z => some (idxAt P n o z gx gy)
  | none => some (genF P n o)
theorem opIndexAddr_rf {n : Nat} {o : Oper} {T : TypeId} {x y : Operand} (ho : o.op = .indexAddr T x y) {gx gy : FE → FV} (hx : ∀ fe', lk (absE n fe') x = some (abs (gx fe'))) (hy : ∀ fe', lk (absE n fe') y = some (abs (gy fe'))) {f : Step β} (hf : opIndexAddrF P n o T gx gy = some f) : Rf n (evOp P · · o) f := fun fe fs k r hok h => by
  unfold opIndexAddrF at hf
  cases hz' : elSize P T with
  | none => rw [hz'] at hf; cases hf; exact gen_rf n o fe fs k r hok h
  | some z =>
    rw [hz'] at hf
    cases hf
    try simp only at h
    obtain ⟨el, hu, hz⟩ := elSize_spec hz'
    unfold idxAt at h
    split at h
    · rename_i i off len sz hp
      split at h
      · rename_i j hj
        split at h
        · rename_i hc
          simp only [Bool.and_eq_true, Nat.beq_eq, Nat.blt_eq] at hc
          obtain ⟨rfl, hlt⟩ := hc
          have h1 : cellX (lk (absE n fe)) x = some (.sl i off len z) := cellX_of (by rw [hx fe, hp] : lk (absE n fe) x = some (abs (.c (.s i off len z))))
          have h2 : cellX (lk (absE n fe)) y = some (.flat (.int .i64 (.ofNat j))) := cellX_of (by rw [hy fe, hj] : lk (absE n fe) y = some (abs (.c (.i j))))
          refine ⟨_, fs, hok, ?_, h⟩
          unfold evOp
          simp only [ho, h1, h2]
          have hb : sizeT P el = some z ∧ (0 : Int) ≤ .ofNat j ∧ (Int.ofNat j) < (len : Int) := ⟨hz, by simp only [Int.ofNat_eq_natCast]; omega, by simp only [Int.ofNat_eq_natCast]; omega⟩
          unfold evIndexAddr
          simp only [hu, if_pos hb]
          rfl
        · cases h
      · exact gen_rf n o fe fs k r hok h
    · exact gen_rf n o fe fs k r hok h
def idxStr (P : Program) (n : Nat) (o : Oper) (gx gy : FE → FV) : Step β := fun fe fs k => match gx fe with
  | .c (.st m N) => (match gy fe with
    | .c (.i j) => if Nat.blt j m then k (.c (.k .u8 (bget N j))) fs else none
    | _ => genF P n o fe fs k)
  | _ => genF P n o fe fs k
def opIndexF (P : Program) (n : Nat) (o : Oper) (T : TypeId) (gx gy : FE → FV) : Option (Step β) := if isStrT P T then some (idxStr P n o gx gy) else some (genF P n o)
theorem opIndex_rf {n : Nat} {o : Oper} {T : TypeId} {x y : Operand} (ho : o.op = .index T x y) {gx gy : FE → FV} (hx : ∀ fe', lk (absE n fe') x = some (abs (gx fe'))) (hy : ∀ fe', lk (absE n fe') y = some (abs (gy fe'))) {f : Step β} (hf : opIndexF P n o T gx gy = some f) : Rf n (evOp P · · o) f := fun fe fs k r hok h => by
  unfold opIndexF at hf
  by_cases hs : isStrT P T = true
  · rw [if_pos hs] at hf
    cases hf
    try simp only at h
    have hu := isStrT_spec hs
    unfold idxStr at h
    split at h
    · rename_i m N hp
      split at h
      · rename_i j hj
        split at h
        · rename_i hlt
          have hlt : j < m := by simpa [Nat.blt_eq] using hlt
          have h1 : evX (lk (absE n fe)) x = some (.s (.c (.str (rowL m N)))) := by show lk _ x = _; rw [hx fe, hp]; rfl
          have h2 : cellX (lk (absE n fe)) y = some (.flat (.int .i64 (.ofNat j))) := cellX_of (by rw [hy fe, hj] : lk (absE n fe) y = some (abs (.c (.i j))))
          refine ⟨_, fs, hok, ?_, h⟩
          unfold evOp
          simp only [ho, h1, h2]
          have hb : (0 : Int) ≤ .ofNat j ∧ (Int.ofNat j) < ((rowL m N).length : Int) := by rw [rowL_len]; exact ⟨by simp only [Int.ofNat_eq_natCast]; omega, by simp only [Int.ofNat_eq_natCast]; omega⟩
          unfold evIndex
          simp only [hu, if_pos hb]
          have e1 : (rowL m N).getD (Int.ofNat j).toNat 0 = UInt8.ofNat (bget N j) := by
            show (rowL m N).getD j 0 = _
            rw [List.getD_eq_getElem?_getD, rowL_get hlt]; rfl
          rw [e1, u8_bget]
          rfl
        · cases h
      · exact gen_rf n o fe fs k r hok h
    · exact gen_rf n o fe fs k r hok h
  · rw [if_neg hs] at hf; cases hf; exact gen_rf n o fe fs k r hok h
def opExtractF (P : Program) (n : Nat) (o : Oper) (j : Nat) (gx : FE → FV) : Step β := fun fe fs k => match gx fe with
  | .t l => (match l[j]? with
    | some s => k (toFV s) fs
    | none => none)
  | _ => genF P n o fe fs k
theorem opExtract_rf {n : Nat} {o : Oper} {x : Operand} {j : Nat} (ho : o.op = .extract x j) {gx : FE → FV} (hx : ∀ fe', lk (absE n fe') x = some (abs (gx fe'))) : Rf n (evOp P · · o) (opExtractF P n o j gx : Step β) := fun fe fs k r hok h => by
  unfold opExtractF at h
  split at h
  · rename_i l hl
    split at h
    · rename_i s hs
      have h1 : evX (lk (absE n fe)) x = some (.t (l.map absS)) := by show lk _ x = _; rw [hx fe, hl]; rfl
      refine ⟨_, fs, hok, ?_, h⟩
      unfold evOp
      simp only [ho, h1, List.getElem?_map, hs, Option.map_some, abs_toFV]
    · cases h
  · exact gen_rf n o fe fs k r hok h
def opMoveF (gx : FE → FV) : Step β := fun fe fs k => k (gx fe) fs
theorem opMove_rf {n : Nat} {o : Oper} {x : Operand} (ho : o.op = .move x ∨ o.op = .assign x) {gx : FE → FV} (hx : ∀ fe', lk (absE n fe') x = some (abs (gx fe'))) : Rf n (evOp P · · o) (opMoveF gx : Step β) := fun fe fs k r hok h => by
  refine ⟨_, fs, hok, ?_, h⟩
  have h1 : evX (lk (absE n fe)) x = some (abs (gx fe)) := hx fe
  unfold evOp
  rcases ho with ho | ho <;> simp only [ho, h1]
def opPickF (P : Program) (n : Nat) (o : Oper) (gc gx gy : FE → FV) : Step β := fun fe fs k => match gc fe with
  | .c (.b true) => k (gx fe) fs
  | .c (.b false) => k (gy fe) fs
  | _ => genF P n o fe fs k
theorem opPick_rf {n : Nat} {o : Oper} {c x y : Operand} (ho : o.op = .pick c x y) {gc gx gy : FE → FV} (hc : ∀ fe', lk (absE n fe') c = some (abs (gc fe'))) (hx : ∀ fe', lk (absE n fe') x = some (abs (gx fe'))) (hy : ∀ fe', lk (absE n fe') y = some (abs (gy fe'))) :
    Rf n (evOp P · · o) (opPickF P n o gc gx gy : Step β) := fun fe fs k r hok h => by
  unfold opPickF at h
  have h1 : evX (lk (absE n fe)) x = some (abs (gx fe)) := hx fe
  have h2 : evX (lk (absE n fe)) y = some (abs (gy fe)) := hy fe
  split at h
  · rename_i hb
    have h3 : cellX (lk (absE n fe)) c = some (.flat (.bool true)) := cellX_of (by rw [hc fe, hb] : lk (absE n fe) c = some (abs (.c (.b true))))
    refine ⟨_, fs, hok, ?_, h⟩
    unfold evOp
    simp only [ho, h3, if_true, h1]
  · rename_i hb
    have h3 : cellX (lk (absE n fe)) c = some (.flat (.bool false)) := cellX_of (by rw [hc fe, hb] : lk (absE n fe) c = some (abs (.c (.b false))))
    refine ⟨_, fs, hok, ?_, h⟩
    unfold evOp
    simp only [ho, h3, Bool.false_eq_true, if_false, h2]
  · exact gen_rf n o fe fs k r hok h
end Fx
end Go.Proofs.YtepianllbfnpoaaGreat
