/- Fx: a run of Go code that the kernel computes fast. Sixth part: lengths, slices, fields, copies, conversions; any operation. No program. -/
import Derived.Test.YtcpodmjcgfgmnaaGreatFx5
namespace Go.Proofs.YtcpodmjcgfgmnaaGreat
open Go.RowKit Ev
namespace Fx
variable {P:Program} {β:Type}
def Qgu (P:Program) (T:TypeId):Bool:=match P.underlying T with
 | some (.slice _)=>true
 | _=>false
theorem Qmr {T:TypeId} (h:Qgu P T=true):∃ el,P.underlying T=some (.slice el):=by
 unfold Qgu at h;split at h
 ·exact ⟨_,by assumption⟩
 ·cases h
def lenF (str:Bool) (c:FC):Option Nat:=match c with
 | .s _ _ len _=>if str then none else some len
 | .st n _=>if str then some n else none
 | .o (.flat (.slice none 0 0))=>if str then none else some 0
 | .o (.emp _)=>if str then none else some 0
 | .o (.q _ _ _)=>if str then none else some 0
 | _=>none
def Qyk (str:Bool) (gx:FE→FV):Step β:=fun fe fs k=>match gx fe with
 | .c c=>(match lenF str c with
  | some m=>k (.c (.i m)) fs
  | none=>none)
 | _=>none
def Qvn (P:Program) (n:Nat) (o:Oper) (T:TypeId) (gx:FE→FV):Option (Step β):=if Qcy P T || Qgu P T then (match Qcy P T with
  | true=>some (Qyk true gx)
  | false=>some (Qyk false gx))
 else some (genF P n o)
theorem Qv9 {T:TypeId} (ht:(Qcy P T || Qgu P T)=true) {c:FC} {m:Nat} (h:lenF (Qcy P T) c=some m):Qlc P T (absC c)=some m:=by
 cases hs:Qcy P T with
 | true =>
  rw [hs] at h;have hu:=Qee hs;unfold lenF at h;split at h <;> simp at h
  ·subst h;unfold Qlc;rw [hu];simp only [absC,Qbc]
 | false =>
  rw [hs] at h ht;obtain ⟨el,hu⟩:=Qmr (by simpa using ht);unfold lenF at h;split at h <;> simp at h
  all_goals
   subst h;unfold Qlc;rw [hu];rfl
theorem Qx8 {n:Nat} {o:Oper} {T:TypeId} {x:Operand} {ts:Array TypeId} (ho:o.op=.call { callee:=.builtin .len,args:=#[x],argTypes:=ts }) (hts:ts[0]?=some T) (hmT:Qk4 T=false) {gx:FE→FV} (hx:∀ fe',lk (absE n fe') x=some (abs (gx fe'))) {f:Step β} (hf:Qvn P n o T gx=some f):Rf n (evOp P · · o) f:=fun fe fs k r hok h=>by
 unfold Qvn at hf;by_cases ht:(Qcy P T || Qgu P T)=true
 ·rw [if_pos ht] at hf;have hf':f=Qyk (Qcy P T) gx:=by
   split at hf
   ·rename_i hb;cases hf;rw [hb]
   ·rename_i hb;cases hf;rw [hb]
  subst hf';clear hf;unfold Qyk at h;split at h
  ·rename_i c hc;split at h
   ·rename_i m hm;have h1:=Qar (by rw [hx fe,hc]:lk (absE n fe) x=some (abs (.c c)));refine ⟨_,fs,hok,?_,h⟩;unfold evOp;simp only [ho,hts,hmT,h1,Qv9 ht hm];rfl
   ·cases h
  ·cases h
 ·rw [if_neg ht] at hf;cases hf;exact Qdb n o fe fs k r hok h
def optK {γ:Type} (n:Nat) (x:Option Operand) (K:Option (FE→FV)→Option γ):Option γ:=match x with
 | none=>K none
 | some y=>opdK n y fun g=>K (some g)
def Qzg (n:Nat) (x:Option Operand) (g:Option (FE→FV)):Prop:=match x,g with
 | none,none=>True
 | some y,some g=>∀ fe',lk (absE n fe') y=some (abs (g fe'))
 | _,_=>False
theorem Qn4 {γ:Type} {n:Nat} {x:Option Operand} {K:Option (FE→FV)→Option γ} {f:γ} (h:optK n x K=some f):∃ g,K g=some f∧Qzg n x g:=by
 cases x with
 | none=>exact ⟨none,h,trivial⟩
 | some y =>
  obtain ⟨g,h1,h2⟩:=Qak h;exact ⟨some g,h1,h2⟩
def bnd (g:Option (FE→FV)) (d:Nat) (fe:FE):Option Nat:=match g with
 | none=>some d
 | some g=>(match g fe with
  | .c (.i j)=>some j
  | _=>none)
theorem Qim {n:Nat} {x:Option Operand} {g:Option (FE→FV)} (hg:Qzg n x g) {d b:Nat} {fe:FE} (h:bnd g d fe=some b):Qbn (lk (absE n fe)) d x=some b:=by
 cases x with
 | none=>cases g with
  | none=>exact h
  | some g=>exact hg.elim
 | some y=>cases g with
  | none=>exact hg.elim
  | some g =>
   simp only [bnd] at h;split at h
   ·rename_i j hj;cases h;have e:evX (lk (absE n fe)) y=some (.s (.c (.flat (.int .i64 (.ofNat b))))):=by show lk _ y=_;rw [hg fe,hj];rfl
    simp only [Qbn,e];rw [if_pos (show (0:Int)≤.ofNat b by simp only [Int.ofNat_eq_natCast];omega)];rfl
   ·cases h
def Qzv (n N l h:Nat):Option FC:=if Nat.ble l h && Nat.ble h n then some (.st (h - l) (bsub N l (h - l))) else none
def Zct (i off len sz l h:Nat):Option FC:=if Nat.ble l h && Nat.ble h len then (if Nat.blt l h then some (.s i (off+l * sz) (h - l) sz) else some (.o (.q i (off+l * sz) sz))) else none
theorem Zbi {n N l h:Nat} (h1:l≤h) (h2:h≤n):rowL (h - l) (bsub N l (h - l))=((rowL n N).take h).drop l:=by
 refine List.ext_getElem? fun j=>?_;by_cases hj:j < h - l
 ·rw [Qcr hj,Qsr hj,List.getElem?_drop,List.getElem?_take,if_pos (by omega),Qcr (by omega)]
 ·rw [List.getElem?_eq_none (by rw [Qbc];omega),List.getElem?_eq_none (by simp [Qbc];omega)]
def Ql4 (P:Program) (n:Nat) (o:Oper) (T:TypeId) (gx:FE→FV) (lo hi:Option (FE→FV)):Step β:=fun fe fs k=>match gx fe with
 | .c (.st m N)=>if Qcy P T then (match bnd lo 0 fe with
  | none=>none
  | some l=>(match bnd hi m fe with
   | none=>none
   | some h=>(match Qzv m N l h with
    | some c=>k (.c c) fs
    | none=>none))) else none
 | .c (.s i off len sz)=>(match Qo9 P T with
  | none=>none
  | some z=>if Nat.beq z sz then (match bnd lo 0 fe with
   | none=>none
   | some l=>(match bnd hi len fe with
    | none=>none
    | some h=>(match Zct i off len sz l h with
     | some c=>k (.c c) fs
     | none=>none))) else none)
 | _=>genF P n o fe fs k
theorem Qtf {n:Nat} {o:Oper} {T:TypeId} {x:Operand} {lo hi:Option Operand} (ho:o.op=.slice T x lo hi none) {gx:FE→FV} {glo ghi:Option (FE→FV)} (hx:∀ fe',lk (absE n fe') x=some (abs (gx fe'))) (hlo:Qzg n lo glo) (hhi:Qzg n hi ghi) :
  Rf n (evOp P · · o) (Ql4 P n o T gx glo ghi:Step β):=fun fe fs k r hok h=>by
 unfold Ql4 at h;split at h
 ·rename_i m N hp;split at h
  ·rename_i hs;split at h
   ·cases h
   rename_i l hl;split at h
   ·cases h
   rename_i hh hhh;split at h
   ·rename_i c hc;unfold Qzv at hc;split at hc
    ·rename_i hb;cases hc;simp only [Bool.and_eq_true,Nat.ble_eq] at hb;have h1:Qau (lk (absE n fe)) x=some (.str (rowL m N)):=Qar (by rw [hx fe,hp]:lk (absE n fe) x=some (abs (.c (.st m N))));refine ⟨_,fs,hok,?_,h⟩;unfold evOp;simp only [ho,h1];unfold Qcn;simp only [Qee hs,Qim hlo hl,Qbc,Qim hhi hhh];rw [if_pos hb];show some (PV.s (.c (.str (((rowL m N).take hh).drop l))),_)=some (PV.s (.c (.str (rowL (hh - l) (bsub N l (hh - l))))),_);rw [Zbi hb.1 hb.2]
    ·cases hc
   ·cases h
  ·cases h
 ·rename_i i off len sz hp;split at h
  ·cases h
  rename_i z hz;split at h
  ·rename_i hzz;have hzz:z=sz:=by simpa using hzz
   subst hzz;split at h
   ·cases h
   rename_i l hl;split at h
   ·cases h
   rename_i hh hhh;split at h
   ·rename_i c hc;unfold Zct at hc;split at hc
    ·rename_i hb;simp only [Bool.and_eq_true,Nat.ble_eq] at hb;obtain ⟨el,hu,hel⟩:=Qj0 hz;have h1:Qau (lk (absE n fe)) x=some (.sl i off len z):=Qar (by rw [hx fe,hp]:lk (absE n fe) x=some (abs (.c (.s i off len z))));refine ⟨_,fs,hok,?_,h⟩;unfold evOp;simp only [ho,h1];unfold Qcn;simp only [hu,if_pos hel,Qim hlo hl,Qim hhi hhh];rw [if_pos hb];split at hc
     ·rename_i hlt;cases hc;rw [if_pos (by simpa [Nat.blt_eq] using hlt)];rfl
     ·rename_i hlt;cases hc;rw [if_neg (by simpa [Nat.blt_eq] using hlt)];rfl
    ·cases hc
   ·cases h
  ·cases h
 ·exact Qdb n o fe fs k r hok h
def Qry (P:Program) (T:TypeId) (f:Nat):Option (Nat × Option Nat):=match P.underlying T with
 | some (.struct fields)=>(match fields[f]? with
  | none=>none
  | some fd=>(match P.underlying fd.type with
   | none=>none
   | some d=>if Qfx d then (match Qc8 P fd.type with
     | none=>none
     | some n=>some (fd.offset,some n)) else some (fd.offset,none)))
 | _=>none
def Ql7 (P:Program) (T:TypeId) (f:Nat) (gx:FE→FV):Option (Step β):=match Qry P T f with
 | none=>none
 | some (off,none)=>some fun fe fs k=>(match gx fe with
  | .a l=>(match l[off]? with
   | some c=>k (.c c) fs
   | none=>none)
  | _=>none)
 | some (off,some m)=>some fun fe fs k=>(match gx fe with
  | .a l=>k (.a ((l.take (off+m)).drop off)) fs
  | _=>none)
theorem Qth {n:Nat} {o:Oper} {T:TypeId} {x:Operand} {fd:Nat} (ho:o.op=.field T x fd) {gx:FE→FV} (hx:∀ fe',lk (absE n fe') x=some (abs (gx fe'))) {f:Step β} (hf:Ql7 P T fd gx=some f):Rf n (evOp P · · o) f:=fun fe fs k r hok h=>by
 unfold Ql7 at hf;have key:∀ off m,Qry P T fd=some (off,m)→∀ cs:List C,Qjv P T fd cs=match m with
   | none=>(match cs[off]? with | some c=>some (.s (.c c)) | none=>none)
   | some n=>some (.s (.a ((cs.take (off+n)).drop off))):=fun off m hp cs=>by
  unfold Qry at hp;unfold Qjv;split at hp
  ·rename_i fields hu;simp only [hu];split at hp
   ·cases hp
   rename_i fdd hff;simp only [hff];unfold Qo4;split at hp
   ·cases hp
   rename_i d hd;simp only [hd];split at hp
   ·rename_i ha;rw [if_pos ha];split at hp
    ·cases hp
    rename_i n hn;cases hp;simp only [hn]
   ·rename_i ha;rw [if_neg ha];cases hp;simp only;cases cs[fdd.offset]? <;> rfl
  ·cases hp
 cases hp:Qry P T fd with
 | none=>rw [hp] at hf;cases hf
 | some q =>
  obtain ⟨off,m⟩:=q;rw [hp] at hf;cases m with
  | none =>
   cases hf
   try simp only at h
   split at h
   ·rename_i l hl;split at h
    ·rename_i c hc;have h1:evX (lk (absE n fe)) x=some (.s (.a (l.map absC))):=by show lk _ x=_;rw [hx fe,hl];rfl
     refine ⟨_,fs,hok,?_,h⟩;unfold evOp;simp only [ho,h1,key _ _ hp,List.getElem?_map,hc,Option.map_some];rfl
    ·cases h
   ·cases h
  | some m =>
   cases hf
   try simp only at h
   split at h
   ·rename_i l hl;have h1:evX (lk (absE n fe)) x=some (.s (.a (l.map absC))):=by show lk _ x=_;rw [hx fe,hl];rfl
    refine ⟨_,fs,hok,?_,h⟩;unfold evOp;simp only [ho,h1,key _ _ hp];simp [abs,List.map_drop,List.map_take]
   ·cases h
def Zbv:Ch→Option (Nat × Nat)
 | .bs m X=>some (m,X)
 | .li l=>liBy l
theorem Qua (X j:Nat):Qjx (byC X j)=some (UInt8.ofNat (bget X j)):=by
 unfold byC Qjx;simp only;have:=Qlm X j;rw [if_pos (by
  show ((UInt8.ofNat (bget X j)).toNat:Int)=_;rw [this];rfl)]
 rfl
theorem Qrd:∀ (l:List Nat) (X:Nat),all? Qjx (l.map (byC X))=some (l.map fun j=>UInt8.ofNat (bget X j))
 | [],_=>rfl
 | j :: r,X=>by simp only [List.map_cons,all?,Qua,Qrd r X]
theorem Qs3 {x:Ch} {m X:Nat} (h:Zbv x=some (m,X)):all? Qjx x.list=some (rowL m X)∧x.len=m:=by
 cases x with
 | bs m' X'=>cases h;exact ⟨Qrd _ _,rfl⟩
 | li l =>
  have e:=Qgs h;refine ⟨?_,?_⟩
  ·show all? Qjx (l.map absC)=_;rw [← e];exact Qrd _ _
  ·show l.length=m;have:=congrArg List.length e;simpa [Qcq] using this.symm
def Zax (fs:FSt) (c:FC) (k:Kont β):Option β:=match c with
 | .s i off len sz=>objF fs i fun fo=>if fo.live && (fo.rw && (fo.full && (Nat.beq off 0 && Nat.beq fo.n (len * sz)))) then
   Qhc (setO fs i (Qg2 fo) (minF fs.lo i)) ⟨fo.n,fo.cells,fo.ty,false,true,true⟩ (k (.c (.s fs.n 0 len sz))) else none
 | _=>none
theorem Qto {fs:FSt} {c:FC} {k:Kont β} {r:β} (hok:fs.ok) (h:Zax fs c k=some r):∃ v fs',fs'.ok∧Qjs fs.st (absC c)=some (abs v,fs'.st)∧k v fs'=some r:=by
 unfold Zax at h;split at h
 ·rename_i i off len sz;obtain ⟨hi,hh⟩:=Qbf h;clear h;split at hh
  ·rename_i hc;simp only [Bool.and_eq_true,Nat.beq_eq] at hc;obtain ⟨c1,c2,c3,c4,c5⟩:=hc;have hko:=Qi0 hok hi (fo:=Qg2 (get 4 i fs.h)) trivial (minF fs.lo i);have hf:(FO.mk (get 4 i fs.h).n (get 4 i fs.h).cells (get 4 i fs.h).ty false true true).ok:=hok.obj i hi;obtain ⟨g1,g2,g3⟩:=Qbe hko hf hh;refine ⟨_,_,g1,?_,g3⟩;rw [g2,Qiz hok hi,Qsp,Qe0];simp only [absC,Qjs];rw [Qgh fs hi];have:(get 4 i fs.h).o.live=true∧(get 4 i fs.h).o.rw=true∧(get 4 i fs.h).o.full=true∧off=0∧(get 4 i fs.h).o.cells.length=len * sz :=
    ⟨c1,c2,c3,c4,by show (FO.list _).length=_;rw [FO.list_len];exact c5⟩
   simp only;rw [if_pos this,Qcg];rfl
  ·cases hh
 ·cases h
def Qzh (fs:FSt) (c:FC) (k:Kont β):Option β:=srcF fs c fun ch m=>match Zbv ch with
 | some (n,X)=>if Nat.beq n m then k (.c (.st n X)) fs else none
 | none=>none
def dryF (P:Program) (n:Nat) (o:Oper):Step β:=fun fe fs k=>match Qel P (flk n fe) o with
 | some pv=>k (ofPV pv) fs
 | none=>none
def Qp3 (P:Program) (n:Nat) (o:Oper) (src dst:TypeId) (gx:FE→FV):Option (Step β) :=
 if src=dst∧Qct P src=true then some fun fe fs k=>(match gx fe with | .c c=>Zax fs c k | _=>none)
 else if Qct P src && Qcy P dst then some fun fe fs k=>(match gx fe with | .c c=>Qzh fs c k | _=>none)
 else some (dryF P n o)
theorem Qvo {n:Nat} {o:Oper} {src dst:TypeId} {x:Operand} (ho:o.op=.convert src dst x) {gx:FE→FV} (hx:∀ fe',lk (absE n fe') x=some (abs (gx fe'))) {f:Step β} (hf:Qp3 P n o src dst gx=some f):Rf n (evOp P · · o) f:=fun fe fs k r hok h=>by
 unfold Qp3 at hf;by_cases c1:src=dst∧Qct P src=true
 ·rw [if_pos c1] at hf;cases hf
  try simp only at h
  split at h
  ·rename_i c hc;obtain ⟨v,fs',g1,g2,g3⟩:=Qto hok h;have h1:=Qar (by rw [hx fe,hc]:lk (absE n fe) x=some (abs (.c c)));refine ⟨v,fs',g1,?_,g3⟩;unfold evOp;simp only [ho,if_pos c1,h1,g2]
  ·cases h
 ·rw [if_neg c1] at hf;by_cases c2:(Qct P src && Qcy P dst)=true
  ·rw [if_pos c2] at hf;cases hf
   try simp only at h
   split at h
   ·rename_i c hc;unfold Qzh at h;obtain ⟨ch,m,e1,e2⟩:=Qnh h;split at e2
    ·rename_i n1 X1 hr;split at e2
     ·rename_i hn;have hn:n1=m:=by simpa using hn
      obtain ⟨r1,r2⟩:=Qs3 hr;have h1:=Qar (by rw [hx fe,hc]:lk (absE n fe) x=some (abs (.c c)));refine ⟨_,fs,hok,?_,e2⟩;unfold evOp;simp only [ho,if_neg c1,c2,if_true,h1];unfold Qyx;simp only [e1,r1,Qbc,if_pos hn];rfl
     ·cases e2
    ·cases e2
   ·cases h
  ·rw [if_neg c2] at hf;cases hf
   try simp only at h
   unfold dryF at h;rw [Qk8] at h;split at h
   ·rename_i pv hpv;refine ⟨ofPV pv,fs,hok,?_,h⟩;unfold evOp;simp only [ho,if_neg c1,if_neg c2,hpv,Qsw]
   ·cases h
end Fx
end Go.Proofs.YtcpodmjcgfgmnaaGreat
namespace Go.Proofs.YtcpodmjcgfgmnaaGreat
open Go.RowKit Ev
namespace Fx
variable {P:Program} {β:Type}
def eqF (a b:FC):Bool:=match a,b with
 | .i m,.i n=>Nat.beq m n
 | .st n N,.st m M=>Qw2 n N m M
 | a,b=>eqK (absC a) (absC b)
theorem eqF_eq (a b:FC):eqF a b=eqK (absC a) (absC b):=by
 unfold eqF;split
 ·rename_i m n;show Nat.beq m n=((Int.ofNat m) == (Int.ofNat n));rw [Bool.eq_iff_iff,Nat.beq_eq,beq_iff_eq,Int.ofNat.injEq]
 ·rename_i n N m M;exact (Qm0 n N m M).symm
 ·rfl
def keyF (d:TypeDesc) (c:FC):Bool:=keyC d (match c with
 | .i _=>.flat (.int .i64 0)
 | .st _ _=>.str []
 | c=>absC c)
theorem Qmn (d:TypeDesc) (c:FC):keyF d c=keyC d (absC c):=by
 unfold keyF;split
 ·unfold keyC;split <;> simp_all [absC]
 ·unfold keyC;split <;> simp_all [absC]
 ·rfl
def getF (d:TypeDesc) (k:FC):List FC→Option (Option FC)
 | []=>some none
 | k' :: v :: r=>if keyF d k' then (if eqF k k' then some (some v) else getF d k r) else none
 | _=>none
def setF (d:TypeDesc) (k v:FC):List FC→Option (List FC)
 | []=>some [k,v]
 | k' :: u :: r=>if keyF d k' then (if eqF k k' then some (k' :: v :: r) else match setF d k v r with | some r'=>some (k' :: u :: r') | none=>none) else none
 | _=>none
theorem Qov {d:TypeDesc} {k:FC}:∀ {l:List FC} {r:Option FC},getF d k l=some r→getM d (absC k) (l.map absC)=some (r.map absC)
 | [],r,h=>by cases h;rfl
 | [x],r,h=>by cases h
 | k' :: v :: l,r,h=>by
  simp only [getF,Qmn,eqF_eq] at h;simp only [List.map_cons,getM];split at h
  ·rename_i h1;rw [if_pos h1];split at h
   ·rename_i h2;rw [if_pos h2];cases h;rfl
   ·rename_i h2;rw [if_neg h2];exact Qov h
  ·cases h
theorem Qnl {d:TypeDesc} {k v:FC}:∀ {l r:List FC},setF d k v l=some r→setM d (absC k) (absC v) (l.map absC)=some (r.map absC)
 | [],r,h=>by cases h;rfl
 | [x],r,h=>by cases h
 | k' :: u :: l,r,h=>by
  simp only [setF,Qmn,eqF_eq] at h;simp only [List.map_cons,setM];split at h
  ·rename_i h1;rw [if_pos h1];split at h
   ·rename_i h2;rw [if_pos h2];cases h;rfl
   ·rename_i h2;rw [if_neg h2];split at h
    ·rename_i r' hr';cases h;rw [Qnl hr'];rfl
    ·cases h
  ·cases h
def mapF (fo:FO):Option (List FC):=if fo.live then none else (match fo.cells with
 | .tr d t=>(match subT d t fo.n 0 with
  | .o (.emp true) :: rest=>some rest
  | _=>none)
 | _=>none)
theorem Qe1 {fs:FSt} {i:Nat} {rest:List FC} (hi:i < fs.n) (h:mapF (get 4 i fs.h)=some rest):Qmh fs.st i=some ((get 4 i fs.h).o,rest.map absC):=by
 unfold mapF at h;split at h
 ·cases h
 rename_i hl;split at h
 ·rename_i d t hc;split at h
  ·rename_i rest' hs;cases h;have hlist:(get 4 i fs.h).list=.emp true :: rest.map absC:=by
    have h1:=Qgc (get 4 i fs.h) (off:=0) (m:=(get 4 i fs.h).n) (by omega);rw [hc] at h1;simp only [subC,Ch.list,List.drop_zero] at h1;rw [hs,List.take_of_length_le (by rw [FO.list_len];omega)] at h1;rw [← h1];rfl
   unfold Qmh;rw [Qgh fs hi];simp only [FO.o,hlist];rw [if_neg hl]
  ·cases h
 ·cases h
def kvF (c:FC):Bool:=match c with
 | .i _=>true
 | .st _ _=>true
 | c=>(kvC (absC c)).isSome
theorem Qyn {c:FC} (h:kvF c=true):∃ x,kvC (absC c)=some x:=by
 unfold kvF at h;split at h
 ·exact ⟨_,rfl⟩
 ·exact ⟨_,rfl⟩
 ·exact Option.isSome_iff_exists.1 h
def Qhf:Step β:=fun _ fs k=>Qhc fs ⟨1,Qck [.o (.emp true)] 1,0,false,false,false⟩ fun fs'=>k (.c (.o (.mp fs.n))) fs'
theorem Qn7 {n:Nat} {o:Oper} {T:TypeId} (ho:o.op=.makeMap T none):Rf n (evOp P · · o) (Qhf:Step β):=fun fe fs k r hok h=>by
 unfold Qhf at h;obtain ⟨h1,h2⟩:=Qbx (l:=[.o (.emp true)]) (n:=1) rfl (by omega) 0 false false false;obtain ⟨g1,g2,g3⟩:=Qbe hok h2 h;refine ⟨_,_,g1,?_,g3⟩;rw [g2];unfold evOp;simp only [ho,Qcv,Qcg,FO.o,h1];rfl
def Qzo (z:FC) (ok:Bool) (r:Option FC):FV:=match r with
 | some v=>if ok then .t [.c v,.c (.b true)] else .c v
 | none=>if ok then .t [.c z,.c (.b false)] else .c z
theorem Qtu (z:FC) (ok:Bool) (r:Option FC):abs (Qzo z ok r)=Zcd (absC z) ok (r.map absC):=by
 cases r <;> cases ok <;> rfl
def Qzp (d:TypeDesc) (z:FC) (ok:Bool) (gx gy:FE→FV):Step β:=fun fe fs k=>match gx fe with
 | .c (.o (.mp i))=>(match gy fe with
  | .c y=>objF fs i fun fo=>(match mapF fo with
   | some rest=>if keyF d y then (match getF d y rest with
    | some r=>k (Qzo z ok r) fs
    | none=>none) else none
   | none=>none)
  | _=>none)
 | _=>none
def Qp2 (P:Program) (T:TypeId) (ok:Bool) (gx gy:FE→FV):Option (Step β):=match keyT P T with
 | some (d,el)=>(match Qxr P el with
  | some z=>some (Qzp d (ofC z) ok gx gy)
  | none=>none)
 | none=>none
theorem Qvl {n:Nat} {o:Oper} {T:TypeId} {x y:Operand} {ok:Bool} (ho:o.op=.lookup T x y ok) (h2T:Qkd P T=none) {gx gy:FE→FV} (hx:∀ fe',lk (absE n fe') x=some (abs (gx fe'))) (hy:∀ fe',lk (absE n fe') y=some (abs (gy fe'))) {f:Step β} (hf:Qp2 P T ok gx gy=some f):Rf n (evOp P · · o) f:=fun fe fs k r hok h=>by
 unfold Qp2 at hf;split at hf
 ·rename_i d el hk;split at hf
  ·rename_i z hz;cases hf;unfold Qzp at h;split at h
   ·rename_i i hgx;split at h
    ·rename_i c hgy;obtain ⟨hi,h⟩:=Qbf h;split at h
     ·rename_i rest hm;split at h
      ·rename_i hkey;split at h
       ·rename_i q hq;have h1:Qau (lk (absE n fe)) x=some (.mp i):=Qar (by rw [hx fe,hgx]:lk (absE n fe) x=some (abs (.c (.o (.mp i)))));have h2:evX (lk (absE n fe)) y=some (.s (.c (absC c))):=by unfold evX;rw [hy fe,hgy];rfl
        refine ⟨_,fs,hok,?_,h⟩;unfold evOp;simp only [ho,h1,h2];rw [Qmn] at hkey;unfold Qfe;simp only [h2T];unfold Qii;simp only [hk,Qe1 hi hm,hz,hkey,if_true,Qov hq,Qtu,Qg5]
       ·cases h
      ·cases h
     ·cases h
    ·cases h
   ·cases h
  ·cases hf
 ·cases hf
def Qr8 (gx:FE→FV):Step β:=fun fe fs k=>match gx fe with
 | .c (.o (.mp i))=>objF fs i fun fo=>(match mapF fo with
  | some rest=>if Qzr (rest.map absC) then none else k (.c (.i (rest.length / 2))) fs
  | none=>none)
 | _=>none
def Qi9 (P:Program) (T:TypeId) (gx:FE→FV):Option (Step β):=match keyT P T with
 | some _=>some (Qr8 gx)
 | none=>none
theorem Qp0 {n:Nat} {o:Oper} {T:TypeId} {x:Operand} {ts:Array TypeId} (ho:o.op=.call { callee:=.builtin .len,args:=#[x],argTypes:=ts }) (hts:ts[0]?=some T) (hmT:Qk4 T=true) {gx:FE→FV} (hx:∀ fe',lk (absE n fe') x=some (abs (gx fe'))) {f:Step β} (hf:Qi9 P T gx=some f):Rf n (evOp P · · o) f:=fun fe fs k r hok h=>by
 unfold Qi9 at hf;split at hf
 ·rename_i d hk;cases hf;unfold Qr8 at h;split at h
  ·rename_i i hgx;obtain ⟨hi,h⟩:=Qbf h;split at h
   ·rename_i rest hm;split at h
    ·cases h
    rename_i hns;have h1:Qau (lk (absE n fe)) x=some (.mp i):=Qar (by rw [hx fe,hgx]:lk (absE n fe) x=some (abs (.c (.o (.mp i)))));refine ⟨_,fs,hok,?_,h⟩;unfold evOp;simp only [ho,hts,hmT,h1];unfold Qih;simp only [hk,Qe1 hi hm,List.length_map,if_neg hns];rfl
   ·cases h
  ·cases h
 ·cases hf
def Qr7 (d:TypeDesc) (gx gy gz:FE→FV):Step β:=fun fe fs k=>match gx fe with
 | .c (.o (.mp i))=>(match gy fe with
  | .c y=>(match gz fe with
   | .c v=>objF fs i fun fo=>(match mapF fo with
    | some rest=>if keyF d y && kvF v then (match setF d y v rest with
     | some r=>if Nat.ble (r.length+1) 4096 then k .skip (setO fs i ⟨r.length+1,Qck (.o (.emp true) :: r) (r.length+1),fo.ty,fo.rw,fo.live,fo.full⟩ (minF fs.lo i)) else none
     | none=>none) else none
    | none=>none)
   | _=>none)
  | _=>none)
 | _=>none
def Qi8 (P:Program) (T:TypeId) (gx gy gz:FE→FV):Option (Step β):=match keyT P T with
 | some (d,_)=>some (Qr7 d gx gy gz)
 | none=>none
theorem Qpz {n:Nat} {o:Oper} {T:TypeId} {x y z:Operand} (ho:o.op=.mapUpdate T x y z∨o.op=.insert T x y z) (h2T:Qkd P T=none) {gx gy gz:FE→FV} (hx:∀ fe',lk (absE n fe') x=some (abs (gx fe'))) (hy:∀ fe',lk (absE n fe') y=some (abs (gy fe'))) (hz:∀ fe',lk (absE n fe') z=some (abs (gz fe'))) {f:Step β} (hf:Qi8 P T gx gy gz=some f):Rf n (evOp P · · o) f:=fun fe fs k r hok h=>by
 unfold Qi8 at hf;split at hf
 ·rename_i d el hk;cases hf;unfold Qr7 at h;split at h
  ·rename_i i hgx;split at h
   ·rename_i c hgy;split at h
    ·rename_i v hgz;obtain ⟨hi,h⟩:=Qbf h;split at h
     ·rename_i rest hm;split at h
      ·rename_i hkey;simp only [Bool.and_eq_true,Qmn] at hkey;obtain ⟨vv,hvv⟩:=Qyn hkey.2;split at h
       ·rename_i q hq;split at h
        ·rename_i hn;have hn:q.length+1≤4096:=by simpa using hn
         have h1:Qau (lk (absE n fe)) x=some (.mp i):=Qar (by rw [hx fe,hgx]:lk (absE n fe) x=some (abs (.c (.o (.mp i)))));have h2:evX (lk (absE n fe)) y=some (.s (.c (absC c))):=by unfold evX;rw [hy fe,hgy];rfl
         have h3:Qau (lk (absE n fe)) z=some (absC v):=Qar (by rw [hz fe,hgz]);obtain ⟨l1,l2⟩:=Qbx (l:=.o (.emp true) :: q) (n:=q.length+1) (by simp) hn (get 4 i fs.h).ty (get 4 i fs.h).rw (get 4 i fs.h).live (get 4 i fs.h).full;have key:Qek P fs.st T i (absC c) (absC v)=some (setO fs i ⟨q.length+1,Qck (.o (.emp true) :: q) (q.length+1),(get 4 i fs.h).ty,(get 4 i fs.h).rw,(get 4 i fs.h).live,(get 4 i fs.h).full⟩ (minF fs.lo i)).st:=by
          rw [Qiz hok hi,Qe0];unfold Qek;simp only [hk,Qe1 hi hm,hvv,hkey.1,if_true,Qnl hq,FO.o,l1];rfl
         refine ⟨_,_,Qi0 hok hi l2 _,?_,h⟩;unfold evOp;rcases ho with ho | ho <;> simp only [ho,h1,h2,h3,Qdm,h2T,key] <;> rfl
        ·cases h
       ·cases h
      ·cases h
     ·cases h
    ·cases h
   ·cases h
  ·cases h
 ·cases hf
def Qrz:List FC→Option (List FC)
 | []=>some []
 | .o (.emp false) :: ks=>some ks
 | _=>none
theorem Qi6 {l ks:List FC} (h:Qrz l=some ks):Qvf (l.map absC)=some (ks.map absC):=by
 unfold Qrz at h;split at h
 ·cases h;rfl
 ·cases h;rfl
 ·cases h
def Qhd (P:Program) (n:Nat) (kt:TypeId) (y:Operand) (gx:FE→FV):Step β:=fun fe fs k=>match gx fe,flk n fe y with
 | .c (.o (.mp i)),some pv=>(match Qte pv with
  | some p=>objF fs i fun fo=>(match mapF fo with
   | some rest=>(match Qrz rest with
    | some ks=>if keyB P kt p.1 p.2 && allK P kt (ks.map absC) then k (.c (.b (hasP p.1 p.2 (ks.map absC)))) fs else none
    | none=>none)
   | none=>none)
  | none=>none)
 | _,_=>none
theorem Ql5 {n:Nat} {o:Oper} {T kt:TypeId} {x y:Operand} (ho:o.op=.lookup T x y false) (h2T:Qkd P T=some kt) {gx:FE→FV} (hx:∀ fe',lk (absE n fe') x=some (abs (gx fe'))):Rf n (evOp P · · o) (Qhd P n kt y gx:Step β):=fun fe fs k r hok h=>by
 unfold Qhd at h;split at h
 ·rename_i i pv hgx hpv;split at h
  ·rename_i p hp;obtain ⟨hi,h⟩:=Qbf h;split at h
   ·rename_i rest hm;split at h
    ·rename_i ks hks;split at h
     ·rename_i hh;have h1:Qau (lk (absE n fe)) x=some (.mp i):=Qar (by rw [hx fe,hgx]:lk (absE n fe) x=some (abs (.c (.o (.mp i)))));have h2:evX (lk (absE n fe)) y=some pv:=by unfold evX;rw [← Qk8];exact hpv
      refine ⟨_,fs,hok,?_,h⟩;unfold evOp;simp only [ho,h1,h2];unfold Qfe;simp only [h2T,hp,Bool.false_eq_true,if_false];unfold Qho;simp only [Qe1 hi hm,Qi6 hks,hh,if_true];rfl
     ·cases h
    ·cases h
   ·cases h
  ·cases h
 ·cases h
def Qi7 (P:Program) (n:Nat) (kt:TypeId) (y:Operand) (gx gz:FE→FV):Step β:=fun fe fs k=>match gx fe,flk n fe y,gz fe with
 | .c (.o (.mp i)),some pv,.c (.b true)=>(match Qte pv with
  | some p=>objF fs i fun fo=>(match mapF fo with
   | some rest=>(match Qrz rest with
    | some ks=>if keyB P kt p.1 p.2 && allK P kt (ks.map absC) then (if hasP p.1 p.2 (ks.map absC) then none else (if Nat.ble (ks.length+3) 4096 then
      k .skip (setO fs i ⟨ks.length+3,Qck (.o (.emp true) :: .o (.emp false) :: (ks++[.o (.low p.1 p.2)])) (ks.length+3),fo.ty,fo.rw,fo.live,fo.full⟩ (minF fs.lo i)) else none)) else none
    | none=>none)
   | none=>none)
  | none=>none)
 | _,_,_=>none
theorem Qn5 {n:Nat} {o:Oper} {T kt:TypeId} {x y z:Operand} (ho:o.op=.mapUpdate T x y z∨o.op=.insert T x y z) (h2T:Qkd P T=some kt) {gx gz:FE→FV} (hx:∀ fe',lk (absE n fe') x=some (abs (gx fe'))) (hz:∀ fe',lk (absE n fe') z=some (abs (gz fe'))):Rf n (evOp P · · o) (Qi7 P n kt y gx gz:Step β):=fun fe fs k r hok h=>by
 unfold Qi7 at h;split at h
 ·rename_i i pv hgx hpv hgz;split at h
  ·rename_i p hp;obtain ⟨hi,h⟩:=Qbf h;split at h
   ·rename_i rest hm;split at h
    ·rename_i ks hks;split at h
     ·rename_i hh;split at h
      ·cases h
      rename_i hnh;split at h
      ·rename_i hn;have hn:ks.length+3≤4096:=by simpa using hn
       have h1:Qau (lk (absE n fe)) x=some (.mp i):=Qar (by rw [hx fe,hgx]:lk (absE n fe) x=some (abs (.c (.o (.mp i)))));have h2:evX (lk (absE n fe)) y=some pv:=by unfold evX;rw [← Qk8];exact hpv
       have h3:Qau (lk (absE n fe)) z=some (.flat (.bool true)):=Qar (by rw [hz fe,hgz]:lk (absE n fe) z=some (abs (.c (.b true))));obtain ⟨l1,l2⟩:=Qbx (l:=.o (.emp true) :: .o (.emp false) :: (ks++[.o (.low p.1 p.2)])) (n:=ks.length+3) (by simp) hn (get 4 i fs.h).ty (get 4 i fs.h).rw (get 4 i fs.h).live (get 4 i fs.h).full;have key:Qfd P fs.st kt i p.1 p.2=some (setO fs i ⟨ks.length+3,Qck (.o (.emp true) :: .o (.emp false) :: (ks++[.o (.low p.1 p.2)])) (ks.length+3),(get 4 i fs.h).ty,(get 4 i fs.h).rw,(get 4 i fs.h).live,(get 4 i fs.h).full⟩ (minF fs.lo i)).st:=by
        rw [Qiz hok hi,Qe0];unfold Qfd;simp only [Qe1 hi hm,Qi6 hks,hh,if_true,FO.o,l1];rw [if_neg hnh];simp [absC];rfl
       refine ⟨_,_,Qi0 hok hi l2 _,?_,h⟩;unfold evOp;rcases ho with ho | ho <;> simp only [ho,h1,h2,h3,Qdm,h2T,hp,key] <;> rfl
      ·cases h
     ·cases h
    ·cases h
   ·cases h
  ·cases h
 ·cases h
end Fx
end Go.Proofs.YtcpodmjcgfgmnaaGreat
