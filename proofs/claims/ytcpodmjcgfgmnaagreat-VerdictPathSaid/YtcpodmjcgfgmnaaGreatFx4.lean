/- Fx: a run of Go code that the kernel computes fast. Fourth part: numbers, texts, looks at memory, slices. No program. -/
import Derived.Test.YtcpodmjcgfgmnaaGreatMFxa
namespace Go.Proofs.YtcpodmjcgfgmnaaGreat
open Go.RowKit Ev
namespace Fx
variable {P:Program} {β:Type}
def Qni (r:Nat):Option FC:=if Nat.blt r 9223372036854775808 then some (.i r) else none
def binI (op:BinOp) (m n:Nat):Option FC:=match op with
 | .add=>Qni (m+n)
 | .sub=>if Nat.ble n m then Qni (m - n) else none
 | .mul=>Qni (m * n)
 | .lss=>some (.b (Nat.blt m n))
 | .gtr=>some (.b (Nat.blt n m))
 | .leq=>some (.b (!Nat.blt n m))
 | .geq=>some (.b (!Nat.blt m n))
 | .eql=>some (.b (Nat.beq m n))
 | .neq=>some (.b (!Nat.beq m n))
 | _=>none
theorem Qsz {x:Int} (h0:0≤x) (h1:x < 9223372036854775808):IntKind.wrap .i64 x=x:=by
 have e1:IntKind.wrap .i64 x=if x % 18446744073709551616≥9223372036854775808 then x % 18446744073709551616 - 18446744073709551616 else x % 18446744073709551616:=by
  simp [IntKind.wrap,IntKind.bits,IntKind.signed]
 rw [e1];split <;> omega
theorem Qf4 {r:Nat} {c:FC} (h:Qni r=some c):c=.i r∧Qg8 .i64 (.ofNat r)=.ofNat r:=by
 unfold Qni at h;split at h
 ·rename_i hr;cases h;have hr:r < 9223372036854775808:=by simpa [Nat.blt_eq] using hr
  refine ⟨rfl,?_⟩;rw [Qd5];exact Qsz (by simp only [Int.ofNat_eq_natCast];omega) (by simp only [Int.ofNat_eq_natCast];omega)
 ·cases h
theorem Qxi {op:BinOp} {m n:Nat} {c:FC} (h:binI op m n=some c):∃ v,Qfv op .i64 .i64 (.ofNat m) (.ofNat n)=some v∧absC c=.flat v:=by
 cases op <;> simp only [binI] at h
 case add =>
  obtain ⟨rfl,hw⟩:=Qf4 h;refine ⟨_,by simp only [Qfv,if_true];rfl,?_⟩;show C.flat (.int .i64 (.ofNat (m+n)))=.flat (.int .i64 (Qg8 .i64 (.ofNat (m+n))));rw [hw]
 case sub =>
  split at h
  ·rename_i hle;have hle:n≤m:=by simpa using hle
   obtain ⟨rfl,hw⟩:=Qf4 h;refine ⟨_,by simp only [Qfv,if_true];rfl,?_⟩;have e:(Int.ofNat m - Int.ofNat n)=Int.ofNat (m - n):=by simp only [Int.ofNat_eq_natCast];omega
   rw [e,hw];rfl
  ·cases h
 case mul =>
  obtain ⟨rfl,hw⟩:=Qf4 h;refine ⟨_,by simp only [Qfv,if_true];rfl,?_⟩;show C.flat (.int .i64 (.ofNat (m * n)))=.flat (.int .i64 (Qg8 .i64 (.ofNat (m * n))));rw [hw]
 all_goals first
  | (cases h;done)
  | (cases h;exact ⟨_,by simp only [Qfv,if_true];rfl,rfl⟩)
def zOf:FC→Option (IntKind × Int)
 | .i n=>some (.i64,.ofNat n)
 | .k kd n=>some (kd,.ofNat n)
 | .o (.flat (.int kd z))=>some (kd,z)
 | _=>none
theorem Qrg {c:FC} {kd:IntKind} {z:Int} (h:zOf c=some (kd,z)):absC c=.flat (.int kd z):=by
 unfold zOf at h;split at h <;> cases h <;> rfl
def binZ (op:BinOp) (a b:FC):Option FC:=match zOf a with
 | none=>none
 | some (k,x)=>match zOf b with
  | none=>none
  | some (k',y)=>match Qfv op k k' x y with
   | some v=>some (Qye v)
   | none=>none
def Qw2 (n N m M:Nat):Bool:=Nat.beq n m && Nat.beq (N % 256 ^ n) (M % 256 ^ n)
def strF (op:BinOp) (n N m M:Nat):Option FC:=match op with
 | .add=>if Nat.ble (n+m) 9223372036854775807 then some (.st (n+m) (N % 256 ^ n+256 ^ n * M)) else none
 | .eql=>some (.b (Qw2 n N m M))
 | .neq=>some (.b (!Qw2 n N m M))
 | _=>none
theorem Qm0 (n N m M:Nat):(rowL n N == rowL m M)=Qw2 n N m M:=by
 rw [Bool.eq_iff_iff];unfold Qw2;simp only [beq_iff_eq,Bool.and_eq_true,Nat.beq_eq];constructor
 ·intro h;have hl:n=m:=by have:=congrArg List.length h;simpa [Qbc] using this
  subst hl;refine ⟨rfl,Qu2 (n:=n) (Nat.mod_lt _ (p256 n)) (Nat.mod_lt _ (p256 n)) fun j hj=>?_⟩;rw [Qc4 hj,Qc4 hj];have:=congrArg (·[j]?) h;simp only [Qcr hj,Option.some.injEq] at this;have:=congrArg UInt8.toNat this;rwa [Qlm,Qlm] at this
 ·rintro ⟨rfl,h⟩;refine List.ext_getElem? fun j=>?_;by_cases hj:j < n
  ·rw [Qcr hj,Qcr hj,← Qc4 hj,h,Qc4 hj]
  ·rw [List.getElem?_eq_none (by rw [Qbc];omega),List.getElem?_eq_none (by rw [Qbc];omega)]
theorem Zaf (n N m M:Nat):rowL (n+m) (N % 256 ^ n+256 ^ n * M)=rowL n N++rowL m M:=by
 refine List.ext_getElem? fun j=>?_;by_cases hj:j < n+m
 ·rw [Qcr hj,Qss (Nat.mod_lt _ (p256 n))];by_cases h1:j < n
  ·rw [if_pos h1,List.getElem?_append_left (by rw [Qbc];exact h1),Qcr h1,Qc4 h1]
  ·rw [if_neg h1,List.getElem?_append_right (by rw [Qbc];omega),Qbc,Qcr (by omega)]
 ·rw [List.getElem?_eq_none (by rw [Qbc];omega),List.getElem?_eq_none (by rw [List.length_append,Qbc,Qbc];omega)]
def binF (op:BinOp) (a b:FC):Option FC:=match a,b with
 | .i m,.i n=>(match binI op m n with
  | some c=>some c
  | none=>binZ op (.i m) (.i n))
 | .st n N,.st m M=>strF op n N m M
 | a,b=>binZ op a b
def Qvq (P:Program) (n:Nat) (o:Oper) (op:BinOp) (gx gy:FE→FV):Step β:=fun fe fs k=>match gx fe with
 | .c a=>(match gy fe with
  | .c b=>(match binF op a b with
   | some c=>k (.c c) fs
   | none=>genF P n o fe fs k)
  | _=>genF P n o fe fs k)
 | _=>genF P n o fe fs k
theorem Qar {e:Look} {x:Operand} {c:FC} (h:e x=some (abs (.c c))):Qau e x=some (absC c):=by
 unfold Qau evX;rw [h];rfl
theorem Qxh {op:BinOp} {a b c:FC} (h:binZ op a b=some c):∃ k x k' y v,absC a=.flat (.int k x)∧absC b=.flat (.int k' y)∧Qfv op k k' x y=some v∧absC c=.flat v:=by
 unfold binZ at h;split at h
 ·cases h
 rename_i k x hx;split at h
 ·cases h
 rename_i k' y hy;split at h
 ·rename_i v hv;cases h;exact ⟨k,x,k',y,v,Qrg hx,Qrg hy,hv,Qli v⟩
 ·cases h
theorem Qsq {e:Look} {st:St} {o:Oper} {op:BinOp} {T T':TypeId} {x y:Operand} (ho:o.op=.binOp op T x y T') {k k':IntKind} {a b:Int} {v:Value} (hx:Qau e x=some (.flat (.int k a))) (hy:Qau e y=some (.flat (.int k' b))) (hv:Qfv op k k' a b=some v) :
  evOp P e st o=some (.s (.c (.flat v)),st):=by
 unfold evOp;simp only [ho,hx,hy,hv]
theorem Qya {n:Nat} {o:Oper} {op:BinOp} {T T':TypeId} {x y:Operand} (ho:o.op=.binOp op T x y T') {gx gy:FE→FV} (hx:∀ fe',lk (absE n fe') x=some (abs (gx fe'))) (hy:∀ fe',lk (absE n fe') y=some (abs (gy fe'))) :
  Rf n (evOp P · · o) (Qvq P n o op gx gy:Step β):=fun fe fs k r hok h=>by
 unfold Qvq at h;split at h
 ·rename_i a ha;split at h
  ·rename_i b hb;split at h
   ·rename_i c hc;have h1:=Qar (by rw [hx fe,ha]:lk (absE n fe) x=some (abs (.c a)));have h2:=Qar (by rw [hy fe,hb]:lk (absE n fe) y=some (abs (.c b)));refine ⟨.c c,fs,hok,(?_:evOp P (lk (absE n fe)) fs.st o=some (abs (.c c),fs.st)),h⟩;have zcase:binZ op a b=some c→evOp P (lk (absE n fe)) fs.st o=some (abs (.c c),fs.st):=fun hz=>by
     obtain ⟨k1,x1,k2,y1,v,e1,e2,e3,e4⟩:=Qxh hz;rw [Qsq ho (by rw [h1,e1]) (by rw [h2,e2]) e3];show _=some (PV.s (.c (absC c)),_);rw [e4]
    unfold binF at hc;split at hc
    ·split at hc
     ·rename_i hi;cases hc;obtain ⟨v,e3,e4⟩:=Qxi hi;rw [Qsq ho h1 h2 e3];show _=some (PV.s (.c (absC c)),_);rw [e4]
     ·exact zcase hc
    ·rename_i n1 N1 m1 M1;have h1:Qau (lk (absE n fe)) x=some (.str (rowL n1 N1)):=h1;have h2:Qau (lk (absE n fe)) y=some (.str (rowL m1 M1)):=h2;unfold strF at hc;split at hc
     ·split at hc
      ·rename_i hle;cases hc;have hle:(rowL n1 N1).length+(rowL m1 M1).length≤9223372036854775807:=by simpa [Qbc] using hle
       unfold evOp;simp only [ho,h1,h2,if_pos hle];show _=some (PV.s (.c (.str (rowL _ _))),_);rw [Zaf]
      ·cases hc
     ·cases hc;unfold evOp;simp only [ho,h1,h2,Qjw,Qm0];rfl
     ·cases hc;unfold evOp;simp only [ho,h1,h2,Qjw,Qm0];rfl
     ·cases hc
    ·exact zcase hc
   ·exact Qdb n o fe fs k r hok h
  ·exact Qdb n o fe fs k r hok h
 ·exact Qdb n o fe fs k r hok h
theorem Qwt {l:List C} {off n:Nat} (h:off+n≤l.length):Ev.fits l off n=true:=by
 unfold Ev.fits;split
 ·simpa using h
 ·rename_i n;simp;omega
def objF (fs:FSt) (i:Nat) (k:FO→Option β):Option β:=if Nat.blt i fs.n then k (get4 i fs.h) else none
theorem Qbf {fs:FSt} {i:Nat} {k:FO→Option β} {r:β} (h:objF fs i k=some r):i < fs.n∧k (get 4 i fs.h)=some r:=by
 unfold objF at h;split at h
 ·rename_i hi;exact ⟨by simpa [Nat.blt_eq] using hi,h⟩
 ·cases h
def Zcf (gx:FE→FV):Step β:=fun fe fs k=>match gx fe with
 | .c (.p i off)=>objF fs i fun fo=>if fo.live && Nat.blt off fo.n then k (.c (atC fo.cells off)) fs else none
 | _=>none
def Zce (m:Nat) (gx:FE→FV):Step β:=fun fe fs k=>match gx fe with
 | .c (.p i off)=>objF fs i fun fo=>if fo.live && Nat.ble (off+m) fo.n then k (.a (subC fo.cells off m).cells) fs else none
 | _=>none
def Qhg (P:Program) (T:TypeId) (gx:FE→FV):Option (Step β):=match P.underlying T with
 | none=>none
 | some d=>if Qfx d then (match Qc8 P T with
   | none=>none
   | some m=>some (Zce m gx)) else some (Zcf gx)
theorem Qqm {T:TypeId} {gx:FE→FV} {fe:FE} {fs:FSt} {k:Kont β} {r:β} {f:Step β} (hf:Qhg P T gx=some f) (h:f fe fs k=some r):∃ i off v s,gx fe=.c (.p i off)∧Qd3 P fs.st T i off=some s∧abs v=.s s∧k v fs=some r:=by
 unfold Qhg at hf;cases hd:P.underlying T with
 | none=>rw [hd] at hf;cases hf
 | some d =>
  rw [hd] at hf;simp only at hf;by_cases ha:Qfx d=true
  ·rw [if_pos ha] at hf;cases hm:Qc8 P T with
   | none=>rw [hm] at hf;cases hf
   | some m =>
    rw [hm] at hf;cases hf
    try simp only at h
    unfold Zce at h;split at h
    ·rename_i i off hp;obtain ⟨hi,h⟩:=Qbf h;split at h
     ·rename_i hc;simp only [Bool.and_eq_true,Nat.ble_eq] at hc;refine ⟨i,off,_,.a ((((get 4 i fs.h).list).drop off).take m),hp,?_,?_,h⟩
      ·unfold Qd3;rw [Qgh fs hi];simp only [FO.o,hc.1,Bool.true_eq_false,if_false,hd,ha,if_true,hm];rw [if_pos (Qwt (by rw [FO.list_len];exact hc.2))]
      ·show PV.s (.a ((subC _ off m).cells.map absC))=_;rw [Ch.cells_eq,Qgc _ hc.2]
     ·cases h
    ·cases h
  ·rw [if_neg ha] at hf;cases hf
   try simp only at h
   unfold Zcf at h;split at h
   ·rename_i i off hp;obtain ⟨hi,h⟩:=Qbf h;split at h
    ·rename_i hc;simp only [Bool.and_eq_true,Nat.blt_eq] at hc;refine ⟨i,off,_,.c (absC (atC (get 4 i fs.h).cells off)),hp,?_,rfl,h⟩;unfold Qd3;rw [Qgh fs hi];have ha':Qfx d=false:=by simpa using ha
     simp only [FO.o,hc.1,Bool.true_eq_false,if_false,hd,ha',FO.list_get _ hc.2,Bool.false_eq_true]
    ·cases h
   ·cases h
theorem Qvm {n:Nat} {o:Oper} {T:TypeId} {x:Operand} (ho:o.op=.load T x) {gx:FE→FV} (hx:∀ fe',lk (absE n fe') x=some (abs (gx fe'))) {f:Step β} (hf:Qhg P T gx=some f):Rf n (evOp P · · o) f:=fun fe fs k r hok h=>by
 obtain ⟨i,off,v,s,h1,h2,h3,h4⟩:=Qqm hf h;have hc:=Qar (by rw [hx fe,h1]:lk (absE n fe) x=some (abs (.c (.p i off))));refine ⟨v,fs,hok,?_,h4⟩;have hc:Qau (lk (absE n fe)) x=some (.ptr i off):=hc;unfold evOp;simp only [ho,hc,h2,h3]
def chOf:FV→Option Ch
 | .c x=>some (.li [x])
 | .a l=>some (.li l)
 | _=>none
theorem Qpd {v:FV} {x:Ch} (h:chOf v=some x):∃ s,abs v=.s s∧cellsOf s=x.list:=by
 unfold chOf at h;split at h
 ·cases h;exact ⟨_,rfl,rfl⟩
 ·cases h;exact ⟨_,rfl,rfl⟩
 ·cases h
def Qic (P:Program) (T:TypeId) (gx gy:FE→FV):Option (Step β):=match Qc8 P T with
 | none=>none
 | some m=>some fun fe fs k=>match gx fe with
  | .c (.p i off)=>objF fs i fun fo=>(match chOf (gy fe) with
   | some x=>if fo.live && (fo.rw && (Nat.beq x.len m && (Nat.ble (off+x.len) fo.n && Qnp fo.n fo.cells x))) then
     k .skip (setO fs i ⟨fo.n,putC fo.n fo.cells off x,fo.ty,fo.rw,fo.live,fo.full⟩ (minF fs.lo i)) else none
   | none=>none)
  | _=>none
theorem Qky {n:Nat} {o:Oper} {T:TypeId} {x y:Operand} (ho:o.op=.store T x y) {gx gy:FE→FV} (hx:∀ fe',lk (absE n fe') x=some (abs (gx fe'))) (hy:∀ fe',lk (absE n fe') y=some (abs (gy fe'))) {f:Step β} (hf:Qic P T gx gy=some f):Rf n (evOp P · · o) f:=fun fe fs k r hok h=>by
 unfold Qic at hf;cases hm:Qc8 P T with
 | none=>rw [hm] at hf;cases hf
 | some m =>
  rw [hm] at hf;cases hf
  try simp only at h
  split at h
  ·rename_i i off hp;obtain ⟨hi,h⟩:=Qbf h;split at h
   ·rename_i ch hch;split at h
    ·rename_i hc;simp only [Bool.and_eq_true,Nat.ble_eq,Nat.beq_eq] at hc;obtain ⟨hl,hrw,hlen,hle,hro⟩:=hc;obtain ⟨s,hs,hcs⟩:=Qpd hch;have hc1:Qau (lk (absE n fe)) x=some (.ptr i off):=Qar (by rw [hx fe,hp]:lk (absE n fe) x=some (abs (.c (.p i off))));have hc2:evX (lk (absE n fe)) y=some (.s s):=by show lk _ y=_;rw [hy fe,hs]
     have hp2:=Qu8 (get 4 i fs.h) (hok.obj i hi) ch hle hro (get 4 i fs.h).full;refine ⟨.skip,_,Qi0 hok hi hp2.2 _,?_,h⟩;rw [Qiz hok hi];unfold evOp;simp only [ho,hc1,hc2];unfold Qbm;rw [Qgh fs hi];have e1:(cellsOf s).length=m:=by rw [hcs,Ch.len_eq];exact hlen
     have e2:Ev.fits (get 4 i fs.h).o.cells off m=true:=Qwt (by show _≤(FO.list _).length;rw [FO.list_len,← hlen];exact hle);have e3:¬ ((get 4 i fs.h).o.live=false∨(get 4 i fs.h).o.rw=false):=by simp [FO.o,hl,hrw]
     simp only [if_neg e3,hm,e1,e2,and_self,if_true,Qe0];simp only [FO.o,hp2.1,hcs,hlen];rfl
    ·cases h
   ·cases h
  ·cases h
def Qvj (P:Program) (n:Nat) (o:Oper) (gx:FE→FV):Step β:=fun fe fs k=>match gx fe with
 | .c (.p i off)=>k (.c (.p i off)) fs
 | _=>genF P n o fe fs k
theorem Qx7 {n:Nat} {o:Oper} {x:Operand} (ho:o.op=.nilCheck x) {gx:FE→FV} (hx:∀ fe',lk (absE n fe') x=some (abs (gx fe'))):Rf n (evOp P · · o) (Qvj P n o gx:Step β):=fun fe fs k r hok h=>by
 unfold Qvj at h;split at h
 ·rename_i i off hp;have hc:Qau (lk (absE n fe)) x=some (.ptr i off):=Qar (by rw [hx fe,hp]:lk (absE n fe) x=some (abs (.c (.p i off))));refine ⟨_,fs,hok,?_,h⟩;unfold evOp;simp only [ho,hc,Zaq,if_true];rfl
 ·exact Qdb n o fe fs k r hok h
def Qif (P:Program) (T:TypeId) (f:Nat):Option Nat:=match P.underlying T with
 | some (.struct fields)=>(match fields[f]? with
  | none=>none
  | some fd=>(match Qc8 P fd.type with
   | none=>none
   | some n=>if n=0 then none else some fd.offset))
 | _=>none
theorem Qmw {T:TypeId} {f d:Nat} (h:Qif P T f=some d) (i off:Nat):Qdg P T f i off=some (.s (.c (.ptr i (off+d)))):=by
 unfold Qif at h;unfold Qdg;split at h
 ·rename_i fields hu;rw [hu];simp only;split at h
  ·cases h
  rename_i fd hf;simp only [hf];split at h
  ·cases h
  rename_i n hn;simp only [hn];split at h
  ·cases h
  rename_i h0;cases h;rw [if_neg h0]
 ·cases h
def fieldAt (d:Nat) (gx:FE→FV):Step β:=fun fe fs k=>match gx fe with
 | .c (.p i off)=>k (.c (.p i (off+d))) fs
 | _=>none
def Qey (P:Program) (T:TypeId) (f:Nat) (gx:FE→FV):Option (Step β):=match Qif P T f with
 | some d=>some (fieldAt d gx)
 | none=>none
theorem Qkc {n:Nat} {o:Oper} {T:TypeId} {x:Operand} {fd:Nat} (ho:o.op=.fieldAddr T x fd) {gx:FE→FV} (hx:∀ fe',lk (absE n fe') x=some (abs (gx fe'))) {f:Step β} (hf:Qey P T fd gx=some f):Rf n (evOp P · · o) f:=fun fe fs k r hok h=>by
 unfold Qey at hf;cases hd:Qif P T fd with
 | none=>rw [hd] at hf;cases hf
 | some d =>
  rw [hd] at hf;cases hf
  try simp only at h
  unfold fieldAt at h;split at h
  ·rename_i i off hp;have hc:Qau (lk (absE n fe)) x=some (.ptr i off):=Qar (by rw [hx fe,hp]:lk (absE n fe) x=some (abs (.c (.p i off))));refine ⟨_,fs,hok,?_,h⟩;unfold evOp;simp only [ho,hc,Qmw hd i off];rfl
  ·cases h
def Qo9 (P:Program) (T:TypeId):Option Nat:=match P.underlying T with
 | some (.slice el)=>Qc8 P el
 | _=>none
theorem Qj0 {T:TypeId} {z:Nat} (h:Qo9 P T=some z):∃ el,P.underlying T=some (.slice el)∧Qc8 P el=some z:=by
 unfold Qo9 at h;split at h
 ·exact ⟨_,by assumption,h⟩
 ·cases h
def Zcm (P:Program) (n:Nat) (o:Oper) (z:Nat) (gx gy:FE→FV):Step β:=fun fe fs k=>match gx fe with
 | .c (.s i off len sz)=>(match gy fe with
  | .c (.i j)=>if Nat.beq z sz && Nat.blt j len then k (.c (.p i (off+j * sz))) fs else none
  | _=>genF P n o fe fs k)
 | _=>genF P n o fe fs k
def Qex (P:Program) (n:Nat) (o:Oper) (T:TypeId) (gx gy:FE→FV):Option (Step β):=match Qo9 P T with
 | some z=>some (Zcm P n o z gx gy)
 | none=>some (genF P n o)
theorem Qkb {n:Nat} {o:Oper} {T:TypeId} {x y:Operand} (ho:o.op=.indexAddr T x y) {gx gy:FE→FV} (hx:∀ fe',lk (absE n fe') x=some (abs (gx fe'))) (hy:∀ fe',lk (absE n fe') y=some (abs (gy fe'))) {f:Step β} (hf:Qex P n o T gx gy=some f):Rf n (evOp P · · o) f:=fun fe fs k r hok h=>by
 unfold Qex at hf;cases hz':Qo9 P T with
 | none=>rw [hz'] at hf;cases hf;exact Qdb n o fe fs k r hok h
 | some z =>
  rw [hz'] at hf;cases hf
  try simp only at h
  obtain ⟨el,hu,hz⟩:=Qj0 hz';unfold Zcm at h;split at h
  ·rename_i i off len sz hp;split at h
   ·rename_i j hj;split at h
    ·rename_i hc;simp only [Bool.and_eq_true,Nat.beq_eq,Nat.blt_eq] at hc;obtain ⟨rfl,hlt⟩:=hc;have h1:Qau (lk (absE n fe)) x=some (.sl i off len z):=Qar (by rw [hx fe,hp]:lk (absE n fe) x=some (abs (.c (.s i off len z))));have h2:Qau (lk (absE n fe)) y=some (.flat (.int .i64 (.ofNat j))):=Qar (by rw [hy fe,hj]:lk (absE n fe) y=some (abs (.c (.i j))));refine ⟨_,fs,hok,?_,h⟩;unfold evOp;simp only [ho,h1,h2];have hb:Qc8 P el=some z∧(0:Int)≤.ofNat j∧(Int.ofNat j) < (len:Int):=⟨hz,by simp only [Int.ofNat_eq_natCast];omega,by simp only [Int.ofNat_eq_natCast];omega⟩;unfold Qdf;simp only [hu,if_pos hb];rfl
    ·cases h
   ·exact Qdb n o fe fs k r hok h
  ·exact Qdb n o fe fs k r hok h
def Qzs (P:Program) (n:Nat) (o:Oper) (gx gy:FE→FV):Step β:=fun fe fs k=>match gx fe with
 | .c (.st m N)=>(match gy fe with
  | .c (.i j)=>if Nat.blt j m then k (.c (.k .u8 (bget N j))) fs else none
  | _=>genF P n o fe fs k)
 | _=>genF P n o fe fs k
def Ql6 (P:Program) (n:Nat) (o:Oper) (T:TypeId) (gx gy:FE→FV):Option (Step β):=if Qcy P T then some (Qzs P n o gx gy) else some (genF P n o)
theorem Qtg {n:Nat} {o:Oper} {T:TypeId} {x y:Operand} (ho:o.op=.index T x y) {gx gy:FE→FV} (hx:∀ fe',lk (absE n fe') x=some (abs (gx fe'))) (hy:∀ fe',lk (absE n fe') y=some (abs (gy fe'))) {f:Step β} (hf:Ql6 P n o T gx gy=some f):Rf n (evOp P · · o) f:=fun fe fs k r hok h=>by
 unfold Ql6 at hf;by_cases hs:Qcy P T=true
 ·rw [if_pos hs] at hf;cases hf
  try simp only at h
  have hu:=Qee hs;unfold Qzs at h;split at h
  ·rename_i m N hp;split at h
   ·rename_i j hj;split at h
    ·rename_i hlt;have hlt:j < m:=by simpa [Nat.blt_eq] using hlt
     have h1:evX (lk (absE n fe)) x=some (.s (.c (.str (rowL m N)))):=by show lk _ x=_;rw [hx fe,hp];rfl
     have h2:Qau (lk (absE n fe)) y=some (.flat (.int .i64 (.ofNat j))):=Qar (by rw [hy fe,hj]:lk (absE n fe) y=some (abs (.c (.i j))));refine ⟨_,fs,hok,?_,h⟩;unfold evOp;simp only [ho,h1,h2];have hb:(0:Int)≤.ofNat j∧(Int.ofNat j) < ((rowL m N).length:Int):=by rw [Qbc];exact ⟨by simp only [Int.ofNat_eq_natCast];omega,by simp only [Int.ofNat_eq_natCast];omega⟩
     unfold Qju;simp only [hu,if_pos hb];have e1:(rowL m N).getD (Int.ofNat j).toNat 0=UInt8.ofNat (bget N j):=by
      show (rowL m N).getD j 0=_;rw [List.getD_eq_getElem?_getD,Qcr hlt];rfl
     rw [e1,Qlm];rfl
    ·cases h
   ·exact Qdb n o fe fs k r hok h
  ·exact Qdb n o fe fs k r hok h
 ·rw [if_neg hs] at hf;cases hf;exact Qdb n o fe fs k r hok h
def Qhh (P:Program) (n:Nat) (o:Oper) (j:Nat) (gx:FE→FV):Step β:=fun fe fs k=>match gx fe with
 | .t l=>(match l[j]? with
  | some s=>k (toFV s) fs
  | none=>none)
 | _=>genF P n o fe fs k
theorem Qn8 {n:Nat} {o:Oper} {x:Operand} {j:Nat} (ho:o.op=.extract x j) {gx:FE→FV} (hx:∀ fe',lk (absE n fe') x=some (abs (gx fe'))):Rf n (evOp P · · o) (Qhh P n o j gx:Step β):=fun fe fs k r hok h=>by
 unfold Qhh at h;split at h
 ·rename_i l hl;split at h
  ·rename_i s hs;have h1:evX (lk (absE n fe)) x=some (.t (l.map absS)):=by show lk _ x=_;rw [hx fe,hl];rfl
   refine ⟨_,fs,hok,?_,h⟩;unfold evOp;simp only [ho,h1,List.getElem?_map,hs,Option.map_some,Qnd]
  ·cases h
 ·exact Qdb n o fe fs k r hok h
def Qpy (gx:FE→FV):Step β:=fun fe fs k=>k (gx fe) fs
theorem Qn6 {n:Nat} {o:Oper} {x:Operand} (ho:o.op=.move x∨o.op=.assign x) {gx:FE→FV} (hx:∀ fe',lk (absE n fe') x=some (abs (gx fe'))):Rf n (evOp P · · o) (Qpy gx:Step β):=fun fe fs k r hok h=>by
 refine ⟨_,fs,hok,?_,h⟩;have h1:evX (lk (absE n fe)) x=some (abs (gx fe)):=hx fe;unfold evOp;rcases ho with ho | ho <;> simp only [ho,h1]
def Qpx (P:Program) (n:Nat) (o:Oper) (gc gx gy:FE→FV):Step β:=fun fe fs k=>match gc fe with
 | .c (.b true)=>k (gx fe) fs
 | .c (.b false)=>k (gy fe) fs
 | _=>genF P n o fe fs k
theorem Qvi {n:Nat} {o:Oper} {c x y:Operand} (ho:o.op=.pick c x y) {gc gx gy:FE→FV} (hc:∀ fe',lk (absE n fe') c=some (abs (gc fe'))) (hx:∀ fe',lk (absE n fe') x=some (abs (gx fe'))) (hy:∀ fe',lk (absE n fe') y=some (abs (gy fe'))) :
  Rf n (evOp P · · o) (Qpx P n o gc gx gy:Step β):=fun fe fs k r hok h=>by
 unfold Qpx at h;have h1:evX (lk (absE n fe)) x=some (abs (gx fe)):=hx fe;have h2:evX (lk (absE n fe)) y=some (abs (gy fe)):=hy fe;split at h
 ·rename_i hb;have h3:Qau (lk (absE n fe)) c=some (.flat (.bool true)):=Qar (by rw [hc fe,hb]:lk (absE n fe) c=some (abs (.c (.b true))));refine ⟨_,fs,hok,?_,h⟩;unfold evOp;simp only [ho,h3,if_true,h1]
 ·rename_i hb;have h3:Qau (lk (absE n fe)) c=some (.flat (.bool false)):=Qar (by rw [hc fe,hb]:lk (absE n fe) c=some (abs (.c (.b false))));refine ⟨_,fs,hok,?_,h⟩;unfold evOp;simp only [ho,h3,Bool.false_eq_true,if_false,h2]
 ·exact Qdb n o fe fs k r hok h
end Fx
end Go.Proofs.YtcpodmjcgfgmnaaGreat
