/- Fx: a run of Go code that the kernel computes fast. Second part: values, objects, and what they stand for. No program. -/
import Derived.Test.YtmjonmahecdngaaFx1
import Derived.Test.YtmjonmahecdngaaEv14
namespace Go.Proofs.Ytmjonmahecdngaa
open Go.RowKit Ev
namespace Fx

/-- one cell: an int that is no less than nought; one of another kind; a bool; a pointer; a slice; a text as a row; another -/
inductive FC where
  | i (n : Nat)
  | k (kd : IntKind) (n : Nat)
  | b (x : Bool)
  | p (i off : Nat)
  | s (i off len sz : Nat)
  | st (n N : Nat)
  | o (x : C)
inductive FS where
  | c (x : FC)
  | a (l : List FC)
inductive FV where
  | c (x : FC)
  | a (l : List FC)
  | t (l : List FS)
  | skip
  | any
def absC : FC → C
  | .i n => .flat (.int .i64 (.ofNat n))
  | .k kd n => .flat (.int kd (.ofNat n))
  | .b x => .flat (.bool x)
  | .p i off => .ptr i off
  | .s i off len sz => .sl i off len sz
  | .st n N => .str (rowL n N)
  | .o x => x
def absS : FS → S
  | .c x => .c (absC x)
  | .a l => .a (l.map absC)
def abs : FV → PV
  | .c x => .s (.c (absC x))
  | .a l => .s (.a (l.map absC))
  | .t l => .t (l.map absS)
  | .skip => .skip
  | .any => .any
def ofI (kd : IntKind) (n : Int) : FC := match n with
  | .ofNat n => (match kd with
    | .i64 => .i n
    | kd => .k kd n)
  | n => .o (.flat (.int kd n))
def ofVal (v : Value) : FC := match v with
  | .int kd n => ofI kd n
  | .bool x => .b x
  | v => .o (.flat v)
def ofC (c : C) : FC := match c with
  | .flat v => ofVal v
  | .str l => .st l.length (rowOf l)
  | .ptr i off => .p i off
  | .sl i off len sz => .s i off len sz
  | x => .o x
def ofS (s : S) : FS := match s with
  | .c x => .c (ofC x)
  | .a l => .a (l.map ofC)
def ofPV (pv : PV) : FV := match pv with
  | .s (.c x) => .c (ofC x)
  | .s (.a l) => .a (l.map ofC)
  | .t l => .t (l.map ofS)
  | .skip => .skip
  | .any => .any
theorem absC_ofI (kd : IntKind) (n : Int) : absC (ofI kd n) = .flat (.int kd n) := by
  unfold ofI
  split
  · split <;> rfl
  · rfl
theorem absC_ofVal (v : Value) : absC (ofVal v) = .flat v := by
  unfold ofVal
  split
  · exact absC_ofI _ _
  · rfl
  · rfl
theorem absC_ofC (c : C) : absC (ofC c) = c := by
  unfold ofC
  split
  · exact absC_ofVal _
  · show C.str (rowL _ (rowOf _)) = _
    rw [rowL_rowOf]
  · rfl
  · rfl
  · rfl
theorem map_ofC (l : List C) : (l.map ofC).map absC = l := by
  rw [List.map_map]
  conv => rhs; rw [← List.map_id l]
  exact List.map_congr_left fun c _ => absC_ofC c
theorem absS_ofS (s : S) : absS (ofS s) = s := by
  cases s with
  | c x => show S.c (absC (ofC x)) = _; rw [absC_ofC]
  | a l => show S.a ((l.map ofC).map absC) = _; rw [map_ofC]
theorem abs_ofPV (pv : PV) : abs (ofPV pv) = pv := by
  cases pv with
  | any => rfl
  | skip => rfl
  | s x => cases x with
    | c x => show PV.s (.c (absC (ofC x))) = _; rw [absC_ofC]
    | a l => show PV.s (.a ((l.map ofC).map absC)) = _; rw [map_ofC]
  | t l =>
    show PV.t ((l.map ofS).map absS) = _
    rw [List.map_map]
    congr 1
    conv => rhs; rw [← List.map_id l]
    exact List.map_congr_left fun c _ => absS_ofS c
def toFV : FS → FV
  | .c x => .c x
  | .a l => .a l
theorem abs_toFV (s : FS) : abs (toFV s) = .s (absS s) := by cases s <;> rfl

/-! ### cells in a row -/
inductive Ch where
  | bs (m X : Nat)
  | li (l : List FC)
def byC (X j : Nat) : C := .flat (.int .u8 (.ofNat (bget X j)))
def byL (m X : Nat) : List C := (List.range m).map (byC X)
def Ch.list : Ch → List C
  | .bs m X => byL m X
  | .li l => l.map absC
def Ch.len : Ch → Nat
  | .bs m _ => m
  | .li l => l.length
theorem Ch.len_eq (c : Ch) : c.list.length = c.len := by cases c <;> simp [Ch.list, Ch.len, byL]
def byF (X : Nat) : Nat → Nat → List FC
  | 0, _ => []
  | n + 1, j => .k .u8 (bget X j) :: byF X n (j + 1)
theorem byF_len (X : Nat) : ∀ n j, (byF X n j).length = n
  | 0, _ => rfl
  | n + 1, j => by simp [byF, byF_len X n]
theorem byF_get (X : Nat) : ∀ n j q, q < n → (byF X n j)[q]? = some (.k .u8 (bget X (j + q)))
  | 0, _, _, h => by omega
  | n + 1, j, 0, _ => rfl
  | n + 1, j, q + 1, h => by
    have := byF_get X n (j + 1) q (by omega)
    rw [show j + 1 + q = j + (q + 1) by omega] at this
    simpa [byF] using this
theorem byF_list (m X : Nat) : (byF X m 0).map absC = byL m X := by
  refine List.ext_getElem? fun j => ?_
  by_cases h : j < m
  · rw [List.getElem?_map, byF_get X m 0 j h]
    simp [byL, h, byC, absC]
  · rw [List.getElem?_eq_none (by simp [byF_len]; omega), List.getElem?_eq_none (by simp [byL]; omega)]
/-- as single cells -/
def Ch.cells : Ch → List FC
  | .bs m X => byF X m 0
  | .li l => l
theorem Ch.cells_eq (c : Ch) : c.cells.map absC = c.list := by
  cases c with
  | bs m X => exact byF_list m X
  | li l => rfl
/-- as a row of bytes, if it is one -/
def liBy : List FC → Option (Nat × Nat)
  | [] => some (0, 0)
  | .k .u8 n :: r => match liBy r with
    | some (m, X) => if Nat.blt n 256 then some (m + 1, n + 256 * X) else none
    | none => none
  | _ => none
theorem liBy_spec : ∀ {l : List FC} {m X : Nat}, liBy l = some (m, X) → byL m X = l.map absC
  | [], m, X, h => by cases h; rfl
  | c :: r, m, X, h => by
    unfold liBy at h
    split at h
    · rename_i heq; cases heq
    · rename_i n r' heq
      cases heq
      split at h
      · rename_i m' X' hr
        split at h
        · rename_i hn
          cases h
          have ih := liBy_spec hr
          have hn : n < 256 := by simpa [Nat.blt_eq] using hn
          refine List.ext_getElem? fun j => ?_
          cases j with
          | zero =>
            simp only [byL, List.map_cons, List.getElem?_cons_zero, absC]
            simp [byC, bget]
            omega
          | succ j =>
            have := congrArg (·[j]?) ih
            simp only [List.map_cons, List.getElem?_cons_succ, ← this]
            by_cases hj : j < m'
            · simp only [byL, List.getElem?_map, List.getElem?_range hj, List.getElem?_range (show j + 1 < m' + 1 by omega), Option.map_some]
              have e : bget (n + 256 * X') (j + 1) = bget X' j := by
                have : (n + 256 * X') / 256 ^ 1 = X' := by omega
                rw [Nat.add_comm j 1, ← bget_div, this]
              simp only [byC, e]
            · rw [List.getElem?_eq_none (by simp [byL]; omega), List.getElem?_eq_none (by simp [byL]; omega)]
        · cases h
      · cases h
    · cases h

/-! ### objects -/
inductive CT where
  | tr (d : Nat) (t : TR FC d)
  | bs (N : Nat)
structure FO where
  n : Nat
  cells : CT
  ty : TypeId
  rw : Bool
  live : Bool
  full : Bool
def atC (c : CT) (j : Nat) : FC := match c with
  | .tr d t => get d j t
  | .bs N => .k .u8 (bget N j)
def FO.list (fo : FO) : List C := (List.range fo.n).map fun j => absC (atC fo.cells j)
def FO.o (fo : FO) : O := ⟨fo.list, fo.ty, fo.rw, fo.live, fo.full⟩
def FO.ok (fo : FO) : Prop := match fo.cells with
  | .tr d _ => fo.n ≤ 8 ^ d
  | .bs _ => True
theorem FO.list_len (fo : FO) : fo.list.length = fo.n := by simp [FO.list]
theorem FO.list_get (fo : FO) {j : Nat} (h : j < fo.n) : fo.list[j]? = some (absC (atC fo.cells j)) := by simp [FO.list, h]
theorem byL_len (m X : Nat) : (byL m X).length = m := by simp [byL]
theorem byL_get {m X j : Nat} (h : j < m) : (byL m X)[j]? = some (byC X j) := by simp [byL, h]
theorem list_by (n N : Nat) (ty : TypeId) (rw live full : Bool) : (FO.mk n (.bs N) ty rw live full).list = byL n N := rfl
/-- cells into a tree, from a place on -/
def fillT (d : Nat) : List FC → Nat → TR FC d → TR FC d
  | [], _, t => t
  | c :: r, j, t => fillT d r (j + 1) (set d j c t)
theorem fillT_get {d : Nat} : ∀ {l : List FC} {j : Nat} {t : TR FC d} {q : Nat}, j + l.length ≤ 8 ^ d → q < 8 ^ d → get d q (fillT d l j t) = if q < j then get d q t else match l[q - j]? with | some c => c | none => get d q t
  | [], j, t, q, _, _ => by simp [fillT]
  | c :: r, j, t, q, h, hq => by
    simp only [List.length_cons] at h
    rw [fillT, fillT_get (by omega) hq]
    by_cases h1 : q < j
    · rw [if_pos (by omega), if_pos h1, get_ne d c t (by omega) hq (by omega)]
    · rw [if_neg h1]
      by_cases h2 : q = j
      · subst h2
        rw [if_pos (by omega), get_set d c t hq]
        simp
      · rw [if_neg (by omega), show q - j = (q - (j + 1)) + 1 by omega, List.getElem?_cons_succ]
        cases hc : r[q - (j + 1)]? with
        | some x => rfl
        | none => exact get_ne d c t (by omega) hq h2
/-- floors that so many cells need -/
def floors (n : Nat) : Nat := if Nat.ble n 8 then 1 else if Nat.ble n 64 then 2 else if Nat.ble n 512 then 3 else 4
def noC : FC := .b false
def ofCells (l : List FC) (n : Nat) : CT := match liBy l with
  | some (_, X) => .bs X
  | none => .tr (floors n) (fillT (floors n) l 0 (all noC (floors n)))
theorem floors_spec {n : Nat} (h : n ≤ 4096) : n ≤ 8 ^ floors n := by
  unfold floors
  split
  · rename_i h; simpa using h
  · split
    · rename_i h; simpa using h
    · split
      · rename_i h; simpa using h
      · simpa using h
theorem ofCells_spec {l : List FC} {n : Nat} (hn : l.length = n) (h : n ≤ 4096) (ty : TypeId) (rw live full : Bool) : (FO.mk n (ofCells l n) ty rw live full).list = l.map absC ∧ (FO.mk n (ofCells l n) ty rw live full).ok := by
  subst hn
  unfold ofCells
  split
  · rename_i m X hX
    have := liBy_spec hX
    have hl : m = l.length := by have := congrArg List.length this; simpa [byL_len] using this
    subst hl
    exact ⟨this, trivial⟩
  · have hf := floors_spec h
    refine ⟨List.ext_getElem? fun j => ?_, hf⟩
    by_cases hj : j < l.length
    · rw [FO.list_get _ hj, List.getElem?_map]
      show some (absC (get _ j (fillT _ l 0 _))) = _
      rw [fillT_get (by omega) (by omega), if_neg (by omega)]
      simp [hj]
    · rw [List.getElem?_eq_none (by rw [FO.list_len]; show l.length ≤ j; omega), List.getElem?_eq_none (by simp; omega)]
/-- some cells of an object -/
def subT (d : Nat) (t : TR FC d) : Nat → Nat → List FC
  | 0, _ => []
  | n + 1, j => get d j t :: subT d t n (j + 1)
theorem subT_get {d : Nat} {t : TR FC d} : ∀ {n j q : Nat}, q < n → (subT d t n j)[q]? = some (get d (j + q) t)
  | 0, _, _, h => by omega
  | n + 1, j, 0, _ => rfl
  | n + 1, j, q + 1, h => by
    have := subT_get (d := d) (t := t) (n := n) (j := j + 1) (q := q) (by omega)
    rw [show j + 1 + q = j + (q + 1) by omega] at this
    simpa [subT] using this
theorem subT_len {d : Nat} {t : TR FC d} : ∀ {n j : Nat}, (subT d t n j).length = n
  | 0, _ => rfl
  | n + 1, j => by simp [subT, subT_len]
def subC (c : CT) (off m : Nat) : Ch := match c with
  | .tr d t => .li (subT d t m off)
  | .bs N => .bs m (bsub N off m)
theorem subC_len (c : CT) (off m : Nat) : (subC c off m).len = m := by cases c <;> simp [subC, Ch.len, subT_len]
theorem subC_spec (fo : FO) {off m : Nat} (h : off + m ≤ fo.n) : (subC fo.cells off m).list = (fo.list.drop off).take m := by
  refine List.ext_getElem? fun j => ?_
  by_cases hj : j < m
  · rw [List.getElem?_take, if_pos hj, List.getElem?_drop, FO.list_get fo (by omega)]
    cases hc : fo.cells with
    | tr d t =>
      show ((subT d t m off).map absC)[j]? = _
      rw [List.getElem?_map, subT_get hj]; rfl
    | bs N =>
      show (byL m (bsub N off m))[j]? = _
      rw [byL_get hj, byC, bget_sub hj]; rfl
  · rw [List.getElem?_eq_none (by rw [Ch.len_eq, subC_len]; omega), List.getElem?_eq_none (by simp; omega)]
/-- an object as a tree -/
def toT (n : Nat) (c : CT) : CT := match c with
  | .bs N => .tr (floors n) (fillT (floors n) (byF N n 0) 0 (all noC (floors n)))
  | c => c
/-- cells laid in at a place -/
def putC (n : Nat) (c : CT) (off : Nat) (x : Ch) : CT := match c, x with
  | .bs N, .bs m X => .bs (bput N off m X)
  | .bs N, .li l => (match liBy l with
    | some (m, X) => .bs (bput N off m X)
    | none => .tr (floors n) (fillT (floors n) l off (fillT (floors n) (byF N n 0) 0 (all noC (floors n)))))
  | .tr d t, x => .tr d (fillT d x.cells off t)
/-- is there room for that? -/
def roomy (n : Nat) (c : CT) (x : Ch) : Bool := match c, x with
  | .bs _, .bs _ _ => true
  | _, _ => Nat.ble n 4096
theorem put_by {n off m X N : Nat} {ty : TypeId} {rw live full : Bool} (h : off + m ≤ n) : (FO.mk n (.bs (bput N off m X)) ty rw live full).list = (byL n N).take off ++ byL m X ++ (byL n N).drop (off + m) := by
  refine List.ext_getElem? fun j => ?_
  by_cases hj : j < n
  · rw [FO.list_get _ hj]
    show some (byC (bput N off m X) j) = _
    rw [byC, bget_put]
    by_cases h1 : j < off
    · rw [if_pos h1, List.append_assoc, List.getElem?_append_left (by simp [byL_len]; omega), List.getElem?_take, if_pos h1, byL_get hj]; rfl
    · rw [if_neg h1]
      have hmin : min off n = off := by omega
      by_cases h2 : j < off + m
      · rw [if_pos h2, List.append_assoc, List.getElem?_append_right (by simp [byL_len]; omega), List.getElem?_append_left (by simp [byL_len]; omega)]
        simp only [List.length_take, byL_len, hmin]
        rw [byL_get (by omega)]; rfl
      · rw [if_neg h2, List.getElem?_append_right (by simp [byL_len]; omega), List.getElem?_drop]
        simp only [List.length_append, List.length_take, byL_len, hmin]
        rw [show off + m + (j - (off + m)) = j by omega, byL_get hj]; rfl
  · rw [List.getElem?_eq_none (by rw [FO.list_len]; show n ≤ j; omega), List.getElem?_eq_none (by simp [byL_len]; omega)]
theorem put_tr {n off d : Nat} {t : TR FC d} {l : List FC} {ty : TypeId} {rw live full : Bool} (h : off + l.length ≤ n) (hd : n ≤ 8 ^ d) : (FO.mk n (.tr d (fillT d l off t)) ty rw live full).list = ((FO.mk n (.tr d t) ty rw live full).list).take off ++ l.map absC ++ ((FO.mk n (.tr d t) ty rw live full).list).drop (off + l.length) := by
  have hg : ∀ j, j < n → ((FO.mk n (.tr d t) ty rw live full).list)[j]? = some (absC (get d j t)) := fun j hj => FO.list_get _ hj
  have hl : ((FO.mk n (.tr d t) ty rw live full).list).length = n := FO.list_len _
  refine List.ext_getElem? fun j => ?_
  by_cases hj : j < n
  · rw [FO.list_get _ hj]
    show some (absC (get d j (fillT d l off t))) = _
    rw [fillT_get (by omega) (by omega)]
    by_cases h1 : j < off
    · rw [if_pos h1, List.append_assoc, List.getElem?_append_left (by simp [hl]; omega), List.getElem?_take, if_pos h1, hg j hj]
    · rw [if_neg h1]
      have hmin : min off n = off := by omega
      by_cases h2 : j < off + l.length
      · rw [List.append_assoc, List.getElem?_append_right (by simp [hl]; omega), List.getElem?_append_left (by simp [hl]; omega)]
        simp only [List.length_take, hl, hmin, List.getElem?_map]
        have : j - off < l.length := by omega
        simp [this]
      · rw [List.getElem?_append_right (by simp [hl]; omega), List.getElem?_drop]
        simp only [List.length_append, List.length_take, hl, hmin, List.length_map]
        rw [show off + l.length + (j - (off + l.length)) = j by omega, hg j hj, List.getElem?_eq_none (by omega)]
  · rw [List.getElem?_eq_none (by rw [FO.list_len]; show n ≤ j; omega), List.getElem?_eq_none (by simp [hl]; omega)]
theorem toT_spec {n N : Nat} (hn : n ≤ 4096) {ty : TypeId} {rw live full : Bool} : (FO.mk n (.tr (floors n) (fillT (floors n) (byF N n 0) 0 (all noC (floors n)))) ty rw live full).list = byL n N := by
  have hf := floors_spec hn
  have := put_tr (n := n) (off := 0) (d := floors n) (t := all noC (floors n)) (l := byF N n 0) (ty := ty) (rw := rw) (live := live) (full := full) (by rw [byF_len]; omega) hf
  rw [this, byF_list, List.drop_of_length_le (by rw [FO.list_len, byF_len]; show n ≤ 0 + n; omega)]
  simp
theorem putC_spec (fo : FO) (hok : fo.ok) (x : Ch) {off : Nat} (h : off + x.len ≤ fo.n) (hr : roomy fo.n fo.cells x = true) (f : Bool) : (FO.mk fo.n (putC fo.n fo.cells off x) fo.ty fo.rw fo.live f).list = fo.list.take off ++ x.list ++ fo.list.drop (off + x.len) ∧ (FO.mk fo.n (putC fo.n fo.cells off x) fo.ty fo.rw fo.live f).ok := by
  obtain ⟨n, cells, ty, rw, live, full⟩ := fo
  simp only at *
  cases cells with
  | bs N => cases x with
    | bs m X => exact ⟨put_by h, trivial⟩
    | li l =>
      have hn : n ≤ 4096 := by simpa [roomy] using hr
      simp only [putC]
      split
      · rename_i m X hX
        have e := liBy_spec hX
        have hl : m = l.length := by have := congrArg List.length e; simpa [byL_len] using this
        refine ⟨?_, trivial⟩
        subst hl
        have := put_by (n := n) (off := off) (m := l.length) (X := X) (N := N) (ty := ty) (rw := rw) (live := live) (full := f) h
        rw [this, e]; rfl
      · have h' : off + l.length ≤ n := h
        refine ⟨?_, floors_spec hn⟩
        rw [put_tr h' (floors_spec hn), toT_spec hn]; rfl
  | tr d t =>
    have hd : n ≤ 8 ^ d := hok
    have hxl : x.cells.length = x.len := by
      have := congrArg List.length x.cells_eq
      rw [List.length_map, Ch.len_eq] at this
      exact this
    refine ⟨?_, hd⟩
    show (FO.mk n (.tr d (fillT d x.cells off t)) ty rw live f).list = _
    rw [put_tr (by rw [hxl]; exact h) hd, x.cells_eq, hxl]; rfl
/-- one floor more -/
def grow1 {d : Nat} (t : TR FC d) : TR FC (d + 1) := (⟨t, all noC d, all noC d, all noC d, all noC d, all noC d, all noC d, all noC d⟩ : N8 (TR FC d))
theorem grow1_get {d : Nat} (t : TR FC d) {j : Nat} (h : j < 8 ^ d) : get (d + 1) j (grow1 t) = get d j t := by
  show get d (j % 8 ^ d) (sel (j / 8 ^ d) (grow1 t)) = _
  rw [Nat.mod_eq_of_lt h, Nat.div_eq_of_lt h]; rfl
/-- cells behind an object's -/
def appC (n : Nat) (c : CT) (x : Ch) : CT := match c, x with
  | .bs N, .bs m X => .bs (N % 256 ^ n + 256 ^ n * X)
  | .tr d t, x => if Nat.ble (n + x.len) (8 ^ d) then .tr d (fillT d x.cells n t) else if Nat.ble (n + x.len) (8 ^ (d + 1)) then .tr (d + 1) (fillT (d + 1) x.cells n (grow1 t)) else ofCells (subT d t n 0 ++ x.cells) (n + x.len)
  | .bs N, .li l => ofCells (byF N n 0 ++ l) (n + l.length)
theorem appC_spec (fo : FO) (hok : fo.ok) (x : Ch) (hr : roomy (fo.n + x.len) fo.cells x = true) (ty : TypeId) (rw live full : Bool) : (FO.mk (fo.n + x.len) (appC fo.n fo.cells x) ty rw live full).list = fo.list ++ x.list ∧ (FO.mk (fo.n + x.len) (appC fo.n fo.cells x) ty rw live full).ok := by
  obtain ⟨n, cells, ty0, rw0, live0, full0⟩ := fo
  have hxl : x.cells.length = x.len := by
    have := congrArg List.length x.cells_eq
    rw [List.length_map, Ch.len_eq] at this
    exact this
  simp only at *
  cases cells with
  | bs N => cases x with
    | bs m X =>
      refine ⟨List.ext_getElem? fun j => ?_, trivial⟩
      by_cases hj : j < n + m
      · rw [FO.list_get _ hj]
        show some (byC (N % 256 ^ n + 256 ^ n * X) j) = (byL n N ++ byL m X)[j]?
        rw [byC, bget_cat (Nat.mod_lt _ (p256 n))]
        by_cases h1 : j < n
        · rw [if_pos h1, List.getElem?_append_left (by simpa [byL_len] using h1), byL_get h1, bget_mod h1]; rfl
        · rw [if_neg h1, List.getElem?_append_right (by simp [byL_len]; omega), byL_len, byL_get (by omega)]; rfl
      · rw [List.getElem?_eq_none (by rw [FO.list_len]; show n + m ≤ j; omega), List.getElem?_eq_none (by rw [List.length_append, FO.list_len, Ch.len_eq]; show n + m ≤ j; omega)]
    | li l =>
      have hn : n + l.length ≤ 4096 := by simpa [roomy, Ch.len] using hr
      have := ofCells_spec (l := byF N n 0 ++ l) (n := n + l.length) (by simp [byF_len]) hn ty rw live full
      refine ⟨?_, this.2⟩
      show (FO.mk (n + l.length) (ofCells (byF N n 0 ++ l) (n + l.length)) ty rw live full).list = byL n N ++ l.map absC
      rw [this.1, List.map_append, byF_list]
  | tr d t =>
    have hd : n ≤ 8 ^ d := hok
    have hn : n + x.len ≤ 4096 := by simpa [roomy] using hr
    have key : ∀ (d' : Nat) (t' : TR FC d'), n + x.len ≤ 8 ^ d' → (∀ j, j < n → get d' j t' = get d j t) → (FO.mk (n + x.len) (.tr d' (fillT d' x.cells n t')) ty rw live full).list = (FO.mk n (.tr d t) ty0 rw0 live0 full0).list ++ x.list := fun d' t' h1 h2 => by
      refine List.ext_getElem? fun j => ?_
      by_cases hj : j < n + x.len
      · rw [FO.list_get _ hj]
        show some (absC (get d' j (fillT d' x.cells n t'))) = _
        rw [fillT_get (by omega) (by omega)]
        by_cases h3 : j < n
        · rw [if_pos h3, h2 j h3, List.getElem?_append_left (by rw [FO.list_len]; exact h3), FO.list_get _ h3]; rfl
        · rw [if_neg h3, List.getElem?_append_right (by rw [FO.list_len]; show n ≤ j; omega), FO.list_len, ← x.cells_eq, List.getElem?_map]
          have : j - n < x.cells.length := by omega
          simp [this]
      · rw [List.getElem?_eq_none (by rw [FO.list_len]; show n + x.len ≤ j; omega), List.getElem?_eq_none (by rw [List.length_append, FO.list_len, Ch.len_eq]; show n + x.len ≤ j; omega)]
    simp only [appC]
    split
    · rename_i h1
      have h1 : n + x.len ≤ 8 ^ d := by simpa using h1
      exact ⟨key d t h1 fun _ _ => rfl, h1⟩
    · split
      · rename_i h1
        have h1 : n + x.len ≤ 8 ^ (d + 1) := by simpa using h1
        exact ⟨key (d + 1) (grow1 t) h1 fun j hj => grow1_get t (by omega), h1⟩
      · have := ofCells_spec (l := subT d t n 0 ++ x.cells) (n := n + x.len) (by simp [subT_len, hxl]) hn ty rw live full
        refine ⟨?_, this.2⟩
        rw [this.1, List.map_append, x.cells_eq]
        congr 1
        refine List.ext_getElem? fun j => ?_
        by_cases hj : j < n
        · rw [List.getElem?_map, subT_get hj, FO.list_get _ hj, Nat.zero_add]; rfl
        · rw [List.getElem?_eq_none (by simp [subT_len]; omega), List.getElem?_eq_none (by rw [FO.list_len]; show n ≤ j; omega)]
end Fx
end Go.Proofs.Ytmjonmahecdngaa
