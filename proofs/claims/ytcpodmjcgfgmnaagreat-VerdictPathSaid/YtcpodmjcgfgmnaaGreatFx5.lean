/- Fx: a run of Go code that the kernel computes fast. Fifth part: what makes memory, copies, converts, slices. No program. -/
import Derived.Test.YtcpodmjcgfgmnaaGreatFx4
namespace Go.Proofs.YtcpodmjcgfgmnaaGreat
open Go.RowKit Ev
namespace Fx
variable {P:Program} {β:Type}
def Qhc (fs:FSt) (fo:FO) (k:FSt→Option β):Option β:=if Nat.blt fs.n 4096 then k (push fs fo) else none
theorem Qbe {fs:FSt} {fo:FO} {k:FSt→Option β} {r:β} (hok:fs.ok) (hf:fo.ok) (h:Qhc fs fo k=some r):(push fs fo).ok∧(push fs fo).st=⟨fs.st.h++[fo.o],fs.st.lo⟩∧k (push fs fo)=some r:=by
 unfold Qhc at h;split at h
 ·rename_i hn;have hn:fs.n < 4096:=by simpa [Nat.blt_eq] using hn
  exact ⟨Zai hok hn hf,Zah hn fo,h⟩
 ·cases h
def okCh:Ch→Bool
 | .bs _ _=>true
 | .li l=>Nat.ble l.length 4096
def ofCh:Ch→CT
 | .bs _ X=>.bs X
 | .li l=>Qck l l.length
theorem Qdw {x:Ch} (h:okCh x=true) (ty:TypeId) (rw live full:Bool):(FO.mk x.len (ofCh x) ty rw live full).list=x.list∧(FO.mk x.len (ofCh x) ty rw live full).ok:=by
 cases x with
 | bs m X=>exact ⟨rfl,trivial⟩
 | li l=>exact Qbx rfl (by simpa [okCh] using h) ty rw live full
def chC (l:List C):Ch:=.li (l.map ofC)
theorem Qil (l:List C):(chC l).list=l:=Qmg l
def Ql9 (P:Program) (T:TypeId):Option (Step β):=match Qlj P T with
 | none=>none
 | some zc=>some fun _ fs k=>if okCh (chC zc) then Qhc fs ⟨(chC zc).len,ofCh (chC zc),T,true,true,false⟩ (k (.c (.p fs.n 0))) else none
theorem Qtj {n:Nat} {o:Oper} {T:TypeId} (ho:o.op=.alloc T) {f:Step β} (hf:Ql9 P T=some f):Rf n (evOp P · · o) f:=fun fe fs k r hok h=>by
 unfold Ql9 at hf;cases hz:Qlj P T with
 | none=>rw [hz] at hf;cases hf
 | some zc =>
  rw [hz] at hf;cases hf
  try simp only at h
  split at h
  ·rename_i hc;obtain ⟨h1,h2⟩:=Qdw hc T true true false;obtain ⟨g1,g2,g3⟩:=Qbe hok h2 h;refine ⟨_,_,g1,?_,g3⟩;rw [g2];unfold evOp;simp only [ho];unfold Qlj at hz;unfold Qff;split at hz
   ·cases hz
   rename_i inf hi;split at hz
   ·cases hz
   rename_i z hzz
   first
    | (rw [hi];simp only [hzz,hz,FO.o,h1,Qil,Qcg];rfl)
    | (simp only [hz,FO.o,h1,Qil,Qcg];rfl)
    | simp only [hz,FO.o,h1,Qil,Qcg]
  ·cases h
def Qvp (T:TypeId) (gx:FE→FV):Step β:=fun fe fs k=>match chOf (gx fe) with
 | some x=>if okCh x then Qhc fs ⟨x.len,ofCh x,T,true,true,false⟩ (k (.c (.p fs.n 0))) else none
 | none=>none
theorem Qx9 {n:Nat} {o:Oper} {T:TypeId} {x:Operand} (ho:o.op=.box T x) {gx:FE→FV} (hx:∀ fe',lk (absE n fe') x=some (abs (gx fe'))):Rf n (evOp P · · o) (Qvp T gx:Step β):=fun fe fs k r hok h=>by
 unfold Qvp at h;split at h
 ·rename_i ch hch;split at h
  ·rename_i hc;obtain ⟨s,hs,hcs⟩:=Qpd hch;obtain ⟨h1,h2⟩:=Qdw hc T true true false;obtain ⟨g1,g2,g3⟩:=Qbe hok h2 h;refine ⟨_,_,g1,?_,g3⟩;rw [g2];have e1:evX (lk (absE n fe)) x=some (.s s):=by show lk _ x=_;rw [hx fe,hs]
   unfold evOp;simp only [ho,e1,Qw1,FO.o,h1,hcs,Qcg];rfl
  ·cases h
 ·cases h
def Qmc (zc:List C) (m:Nat):CT:=match zc with
 | [x]=>(match ofC x with
  | .k .u8 0=>.bs 0
  | y=>.tr (Qcz m) (all y (Qcz m)))
 | zc=>Qck ((repC zc m).map ofC) m
def mkOk (zc:List C) (m:Nat):Bool:=match zc with
 | [x]=>(match ofC x with
  | .k .u8 0=>true
  | _=>Nat.ble m 4096)
 | _=>Nat.ble m 4096
theorem Qxj (j:Nat):bget 0 j=0:=by simp [bget]
theorem Zav {zc:List C} {m:Nat} (h:mkOk zc m=true) (ty:TypeId) (rw live full:Bool):(FO.mk m (Qmc zc m) ty rw live full).list=repC zc m∧(FO.mk m (Qmc zc m) ty rw live full).ok:=by
 unfold Qmc;unfold mkOk at h;split
 ·rename_i x;simp only at h;have hx:=Qg5 x;split
  ·rename_i hc;rw [hc] at hx;refine ⟨List.ext_getElem? fun j=>?_,trivial⟩;by_cases hj:j < m
   ·rw [FO.list_get _ hj];show some (absC (.k .u8 (bget 0 j)))=(List.replicate m x)[j]?;rw [Qxj,List.getElem?_replicate,if_pos hj,hx]
   ·rw [List.getElem?_eq_none (by rw [FO.list_len];show m≤j;omega),List.getElem?_eq_none (by rw [Qdk];omega)]
  ·rename_i y hy;have hm:m≤4096:=by
    split at h
    ·rename_i hc;exact absurd hc hy
    ·simpa using h
   have hf:=Qdc hm;refine ⟨List.ext_getElem? fun j=>?_,hf⟩;by_cases hj:j < m
   ·rw [FO.list_get _ hj];show some (absC (get _ j (all (ofC x) _)))=(List.replicate m x)[j]?;rw [Qqt _ _ _ (by omega),hx,List.getElem?_replicate,if_pos hj]
   ·rw [List.getElem?_eq_none (by rw [FO.list_len];show m≤j;omega),List.getElem?_eq_none (by rw [Qdk];omega)]
 ·rename_i hne;have hm:m≤4096:=by
   split at h
   ·exact absurd rfl (hne _)
   ·simpa using h
  have:=Qbx (l:=(repC zc m).map ofC) (n:=m) (by rw [List.length_map,Qdk]) hm ty rw live full;exact ⟨by rw [this.1,Qmg],this.2⟩
structure MkSt where
 el:TypeId
 bytes:Nat
 size:Nat
 zc:List C
def mkSt (P:Program) (T:TypeId):Option MkSt:=match P.underlying T with
 | some (.slice el)=>(match P.info? el with
  | none=>none
  | some i=>(match Qlj P el with
   | none=>none
   | some zc=>if zc.length=i.size∧0 < i.size then some ⟨el,i.bytes,i.size,zc⟩ else none))
 | _=>none
theorem Qv0 {T:TypeId} {s:MkSt} (h:mkSt P T=some s) (st:St) (c:Nat) (hb:s.bytes * c≤140737488355328) (hc:c≤9223372036854775807) :
  Qjt P st T (.ofNat c) (.ofNat c)=some (.s (.c (.sl st.h.length 0 c s.size)),⟨st.h++[⟨repC s.zc (c * s.size),s.el,true,true,true⟩],st.lo⟩):=by
 unfold mkSt at h;split at h
 ·rename_i el hu;split at h
  ·cases h
  rename_i i hi;split at h
  ·cases h
  rename_i zc hz;split at h
  ·rename_i hh;cases h;unfold Qlj at hz;rw [hi] at hz;simp only at hz;split at hz
   ·cases hz
   rename_i z hzz;unfold Qjt;simp only [hu,hi,hzz,hz];have hb':(i.bytes:Int) * (Int.ofNat c)≤140737488355328:=by
    have hb:i.bytes * c≤140737488355328:=hb;have:((i.bytes * c:Nat):Int)≤140737488355328:=by omega
    rwa [Int.natCast_mul] at this
   have:Int.ofNat c=Int.ofNat c∧0≤Int.ofNat c∧(i.bytes:Int) * (Int.ofNat c)≤140737488355328∧Int.ofNat c≤9223372036854775807∧zc.length=i.size∧0 < i.size :=
    ⟨rfl,by simp only [Int.ofNat_eq_natCast];omega,hb',by simp only [Int.ofNat_eq_natCast];omega,hh.1,hh.2⟩
   rw [if_pos ⟨trivial,this.2⟩];rfl
  ·cases h
 ·cases h
def Qp1 (P:Program) (T:TypeId) (gx gy:FE→FV):Option (Step β):=match mkSt P T with
 | none=>none
 | some s=>some fun fe fs k=>match gx fe,gy fe with
  | .c (.i l),.c (.i c)=>if Nat.beq l c && (Nat.ble (s.bytes * c) 140737488355328 && (Nat.ble c 9223372036854775807 && mkOk s.zc (c * s.size))) then
    Qhc fs ⟨c * s.size,Qmc s.zc (c * s.size),s.el,true,true,true⟩ (k (.c (.s fs.n 0 c s.size))) else none
  | _,_=>none
theorem Qvk {n:Nat} {o:Oper} {T:TypeId} {x y:Operand} (ho:o.op=.makeSlice T x y) {gx gy:FE→FV} (hx:∀ fe',lk (absE n fe') x=some (abs (gx fe'))) (hy:∀ fe',lk (absE n fe') y=some (abs (gy fe'))) {f:Step β} (hf:Qp1 P T gx gy=some f):Rf n (evOp P · · o) f:=fun fe fs k r hok h=>by
 unfold Qp1 at hf;cases hs:mkSt P T with
 | none=>rw [hs] at hf;cases hf
 | some s =>
  rw [hs] at hf;cases hf
  try simp only at h
  split at h
  ·rename_i l c hl hc;split at h
   ·rename_i hh;simp only [Bool.and_eq_true,Nat.beq_eq,Nat.ble_eq] at hh;obtain ⟨rfl,hb,h63,hm⟩:=hh;obtain ⟨h1,h2⟩:=Zav hm s.el true true true;obtain ⟨g1,g2,g3⟩:=Qbe hok h2 h;refine ⟨_,_,g1,?_,g3⟩;rw [g2];have e1:Qau (lk (absE n fe)) x=some (.flat (.int .i64 (.ofNat l))):=Qar (by rw [hx fe,hl]:lk (absE n fe) x=some (abs (.c (.i l))));have e2:Qau (lk (absE n fe)) y=some (.flat (.int .i64 (.ofNat l))):=Qar (by rw [hy fe,hc]:lk (absE n fe) y=some (abs (.c (.i l))));unfold evOp;simp only [ho,e1,e2];rw [Qv0 hs fs.st l hb h63,Qcg];simp only [FO.o,h1];rfl
   ·cases h
  ·cases h
def Ql8 (P:Program) (n:Nat) (T:TypeId) (m:Nat) (ps:List (Nat × Operand)):Step β:=fun fe fs k=>match Qde (flk n fe) ps with
 | none=>none
 | some qs=>(match Qa4 P ⟨[],0⟩ T m qs with
  | some (.s (.c (.sl _ _ m' sz)),⟨[o],_⟩)=>if okCh (chC o.cells) then Qhc fs ⟨(chC o.cells).len,ofCh (chC o.cells),o.ty,o.rw,o.live,o.full⟩ (k (.c (.s fs.n 0 m' sz))) else none
  | _=>none)
theorem Qy4 {T:TypeId} {m m' i off sz lo:Nat} {qs:List (Nat × S)} {o:O} (h:Qa4 P ⟨[],0⟩ T m qs=some (.s (.c (.sl i off m' sz)),⟨[o],lo⟩)) (st:St):Qa4 P st T m qs=some (.s (.c (.sl st.h.length 0 m' sz)),⟨st.h++[o],st.lo⟩):=by
 unfold Qa4 at h ⊢
 repeat' split at h
 all_goals first
  | (cases h;done)
  | (simp only [List.length_nil,List.nil_append,Option.some.injEq,Prod.mk.injEq,PV.s.injEq,S.c.injEq,C.sl.injEq,St.mk.injEq,List.cons.injEq,and_true] at h
     obtain ⟨⟨_,_,rfl,rfl⟩,rfl,_⟩:=h;simp_all)
theorem Qti {n:Nat} {o:Oper} {T:TypeId} {m:Nat} {ps:Array (Nat × Operand)} (ho:o.op=.buildSlice T m ps):Rf n (evOp P · · o) (Ql8 P n T m ps.toList:Step β):=fun fe fs k r hok h=>by
 unfold Ql8 at h;rw [Qk8] at h;split at h
 ·cases h
 rename_i qs hq;split at h
 ·rename_i i off m' sz ob lo hb;split at h
  ·rename_i hc;obtain ⟨h1,h2⟩:=Qdw hc ob.ty ob.rw ob.live ob.full;obtain ⟨g1,g2,g3⟩:=Qbe hok h2 h;refine ⟨_,_,g1,?_,g3⟩;rw [g2];unfold evOp;simp only [ho,hq,Qy4 hb fs.st,Qcg];simp only [FO.o,h1,Qil];rfl
  ·cases h
 ·cases h
def srcF (fs:FSt) (c:FC) (k:Ch→Nat→Option β):Option β:=match c with
 | .s i off len sz=>objF fs i fun fo=>if fo.live && Nat.ble (off+len * sz) fo.n then k (subC fo.cells off (len * sz)) len else none
 | .o (.flat (.slice none 0 0))=>k (.li []) 0
 | .o (.emp _)=>k (.li []) 0
 | .o (.q _ _ _)=>k (.li []) 0
 | _=>none
theorem Qnh {fs:FSt} {c:FC} {k:Ch→Nat→Option β} {r:β} (h:srcF fs c k=some r):∃ ch len,Qem fs.st (absC c)=some (ch.list,len)∧k ch len=some r:=by
 unfold srcF at h;split at h
 ·rename_i i off len sz;obtain ⟨hi,h⟩:=Qbf h;split at h
  ·rename_i hc;simp only [Bool.and_eq_true,Nat.ble_eq] at hc;refine ⟨_,_,?_,h⟩;show Qem fs.st (.sl i off len sz)=_;simp only [Qem];rw [Qgh fs hi];have:(get 4 i fs.h).o.live=true∧((get 4 i fs.h).o.full=true∨off+len * sz≤(get 4 i fs.h).o.cells.length):=⟨hc.1,.inr (by show _≤(FO.list _).length;rw [FO.list_len];exact hc.2)⟩;simp only [if_pos this];rw [Qgc _ hc.2];rfl
  ·cases h
 ·exact ⟨_,_,rfl,h⟩
 ·exact ⟨_,_,rfl,h⟩
 ·exact ⟨_,_,rfl,h⟩
 ·cases h
structure AppSt where
 el:TypeId
 size:Nat
 bytes:Nat
def Qy8 (P:Program) (T:TypeId):Option AppSt:=match P.underlying T with
 | some (.slice el)=>(match P.info? el with
  | none=>none
  | some inf=>if inf.size=0∨inf.zero.map (·.cells.size)≠some inf.size then none else some ⟨el,inf.size,inf.bytes⟩)
 | _=>none
def appR (a:AppSt) (st:St) (s x:C):Option (PV × St):=match Qem st x with
 | none=>none
 | some (news,k) =>
  if k=0 then (match s with
   | .flat (.slice none 0 0)=>some (.s (.c s),st)
   | .sl _ _ _ _=>some (.s (.c s),st)
   | .emp _=>some (.s (.c s),st)
   | .q _ _ _=>some (.s (.c s),st)
   | _=>none)
  else if news.length≠k * a.size then none
  else match s with
  | .flat (.slice none 0 0)=>if k≤maxLen∧k * a.bytes≤140737488355328 then
    some (.s (.c (.sl st.h.length 0 k a.size)),⟨st.h++[⟨news,a.el,true,true,false⟩],st.lo⟩) else none
  | .emp true=>if k≤maxLen∧k * a.bytes≤140737488355328 then
    some (.s (.c (.sl st.h.length 0 k a.size)),⟨st.h++[⟨news,a.el,true,true,false⟩],st.lo⟩) else none
  | .sl i off len sz=>match st.h[i]? with
   | none=>none
   | some o=>if o.live=true∧o.full=true∧off=0∧sz=a.size∧o.cells.length=len * sz∧o.rw=false∧len+k≤maxLen∧(len+k) * a.bytes≤140737488355328 then
     some (.s (.c (.sl st.h.length 0 (len+k) sz)),⟨st.h++[⟨o.cells++news,a.el,true,true,false⟩],st.lo⟩)
    else if o.live=true∧o.rw=true∧o.ty=a.el∧sz=a.size∧o.cells.length=off+len * sz∧len+k≤maxLen∧(len+k) * a.bytes≤140737488355328 then
     some (.s (.c (.sl st.h.length 0 (len+k) sz)),⟨st.h.set i { o with live:=false,cells:=[] }++[⟨o.cells.drop off++news,a.el,true,true,false⟩],min st.lo i⟩) else none
  | .q i _off sz=>match st.h[i]? with
   | none=>none
   | some o=>if o.live=true∧o.rw=true∧o.ty=a.el∧sz=a.size∧k≤maxLen∧k * a.bytes≤140737488355328 then
     some (.s (.c (.sl st.h.length 0 k sz)),⟨st.h.set i { o with live:=false,cells:=[] }++[⟨news,a.el,true,true,false⟩],min st.lo i⟩) else none
  | _=>none
theorem Zc1 {T:TypeId} {a:AppSt} (h:Qy8 P T=some a) (st:St) (s x:C):Qen P st T s x=appR a st s x:=by
 unfold Qy8 at h;split at h
 ·rename_i el hu;split at h
  ·cases h
  rename_i inf hi;split at h
  ·cases h
  ·rename_i hn;cases h;unfold Qen;simp only [hu,hi,if_neg hn];rfl
 ·cases h
def Qg2 (fo:FO):FO:=⟨0,.bs 0,fo.ty,fo.rw,false,fo.full⟩
theorem Qsp (fo:FO):(Qg2 fo).o={ fo.o with live:=false,cells:=[] }:=rfl
def Qst (a:AppSt) (fs:FSt) (ch:Ch) (m:Nat) (k:Kont β):Option β :=
 if Nat.ble m maxLen && (Nat.ble (m * a.bytes) 140737488355328 && okCh ch) then Qhc fs ⟨ch.len,ofCh ch,a.el,true,true,false⟩ (k (.c (.s fs.n 0 m a.size))) else none
def Zc2 (a:AppSt) (fs:FSt) (i off len sz:Nat) (ch:Ch) (m:Nat) (k:Kont β):Option β:=objF fs i fun fo =>
 if fo.live && (Nat.beq off 0 && (Nat.beq sz a.size && (Nat.beq fo.n (len * sz) && (Nat.ble (len+m) maxLen && (Nat.ble ((len+m) * a.bytes) 140737488355328 && Qnp (fo.n+ch.len) fo.cells ch))))) then
  (if fo.rw then (if Nat.beq fo.ty a.el then Qhc (setO fs i (Qg2 fo) (minF fs.lo i)) ⟨fo.n+ch.len,appC fo.n fo.cells ch,a.el,true,true,false⟩ (k (.c (.s fs.n 0 (len+m) sz))) else none)
   else if fo.full then Qhc fs ⟨fo.n+ch.len,appC fo.n fo.cells ch,a.el,true,true,false⟩ (k (.c (.s fs.n 0 (len+m) sz))) else none) else none
def appQ (a:AppSt) (fs:FSt) (i off len sz:Nat) (ch:Ch) (m:Nat) (k:Kont β):Option β:=objF fs i fun fo =>
 if fo.live && (fo.rw && (Nat.beq fo.ty a.el && (Nat.beq sz a.size && (Nat.beq fo.n (off+len * sz) && (Nat.ble (len+m) maxLen && (Nat.ble ((len+m) * a.bytes) 140737488355328 && (okCh (subC fo.cells off (len * sz)) && Qnp (len * sz+ch.len) (ofCh (subC fo.cells off (len * sz))) ch))))))) then
  Qhc (setO fs i (Qg2 fo) (minF fs.lo i)) ⟨len * sz+ch.len,appC (len * sz) (ofCh (subC fo.cells off (len * sz))) ch,a.el,true,true,false⟩ (k (.c (.s fs.n 0 (len+m) sz))) else none
def appE (a:AppSt) (fs:FSt) (i _off sz:Nat) (ch:Ch) (m:Nat) (k:Kont β):Option β:=objF fs i fun fo =>
 if fo.live && (fo.rw && (Nat.beq fo.ty a.el && (Nat.beq sz a.size && (Nat.ble m maxLen && (Nat.ble (m * a.bytes) 140737488355328 && okCh ch))))) then
  Qhc (setO fs i (Qg2 fo) (minF fs.lo i)) ⟨ch.len,ofCh ch,a.el,true,true,false⟩ (k (.c (.s fs.n 0 m sz))) else none
def appF (a:AppSt) (fs:FSt) (s:FC) (ch:Ch) (m:Nat) (k:Kont β):Option β:=match s with
 | .s i off len sz=>if Nat.beq m 0 then k (.c (.s i off len sz)) fs else if Nat.beq ch.len (m * a.size) then (if Nat.beq off 0 then Zc2 a fs i off len sz ch m k else appQ a fs i off len sz ch m k) else none
 | .o (.flat (.slice none 0 0))=>if Nat.beq m 0 then k (.c (.o (.flat (.slice none 0 0)))) fs else if Nat.beq ch.len (m * a.size) then Qst a fs ch m k else none
 | .o (.q i off sz)=>if Nat.beq m 0 then k (.c (.o (.q i off sz))) fs else if Nat.beq ch.len (m * a.size) then appE a fs i off sz ch m k else none
 | .o (.emp z)=>if Nat.beq m 0 then k (.c (.o (.emp z))) fs else if z && Nat.beq ch.len (m * a.size) then Qst a fs ch m k else none
 | _=>none
def Qvr (P:Program) (T:TypeId) (gs gx:FE→FV):Option (Step β):=match Qy8 P T with
 | none=>none
 | some a=>some fun fe fs k=>match gs fe with
  | .c s=>(match gx fe with
   | .c x=>srcF fs x fun ch m=>appF a fs s ch m k
   | _=>none)
  | _=>none
theorem Qj8 {a:AppSt} {fs:FSt} {ch:Ch} {m:Nat} {k:Kont β} {r:β} (hok:fs.ok) (h:Qst a fs ch m k=some r):(m≤maxLen∧m * a.bytes≤140737488355328)∧∃ fs',fs'.ok∧fs'.st=⟨fs.st.h++[⟨ch.list,a.el,true,true,false⟩],fs.st.lo⟩∧k (.c (.s fs.n 0 m a.size)) fs'=some r:=by
 unfold Qst at h;split at h
 ·rename_i hc;simp only [Bool.and_eq_true,Nat.ble_eq] at hc;obtain ⟨h1,h2⟩:=Qdw hc.2.2 a.el true true false;obtain ⟨g1,g2,g3⟩:=Qbe hok h2 h;refine ⟨⟨hc.1,hc.2.1⟩,_,g1,?_,g3⟩;rw [g2];simp only [FO.o,h1]
 ·cases h
theorem Qxk {a:AppSt} {fs:FSt} {s:FC} {x:C} {ch:Ch} {m:Nat} {k:Kont β} {r:β} (hok:fs.ok) (hx:Qem fs.st x=some (ch.list,m)) (h:appF a fs s ch m k=some r) :
  ∃ v fs',fs'.ok∧appR a fs.st (absC s) x=some (abs v,fs'.st)∧k v fs'=some r:=by
 have hlen:ch.list.length=ch.len:=ch.len_eq;unfold appF at h;unfold appR;rw [hx];simp only;split at h
 ·rename_i i off len sz;by_cases hm:m=0
  ·rw [if_pos (by simpa using hm)] at h;rw [if_pos hm];exact ⟨_,fs,hok,rfl,h⟩
  ·rw [if_neg (by simpa using hm)] at h;rw [if_neg hm];split at h
   ·rename_i hl;have hl:ch.len=m * a.size:=by simpa using hl
    rw [if_neg (by rw [hlen];simp [hl])];split at h
    rotate_left
    ·unfold appQ at h;obtain ⟨hi,hh⟩:=Qbf h;clear h;split at hh
     ·rename_i hc;simp only [Bool.and_eq_true,Nat.beq_eq,Nat.ble_eq] at hc;obtain ⟨c1,hrw,hty,rfl,c4,c5,c6,c7,c8⟩:=hc;have hl0:(subC (get 4 i fs.h).cells off (len * a.size)).len=len * a.size:=Qrk _ _ _;obtain ⟨b1,b2⟩:=Qdw c7 a.el true true false;rw [hl0] at b1 b2;obtain ⟨a1,a2⟩:=Qpf (FO.mk (len * a.size) (ofCh (subC (get 4 i fs.h).cells off (len * a.size))) a.el true true false) b2 ch c8 a.el true true false;have hcl:(get 4 i fs.h).o.cells.length=off+len * a.size:=by show (FO.list _).length=_;rw [FO.list_len];exact c4
      have hsub:(subC (get 4 i fs.h).cells off (len * a.size)).list=(get 4 i fs.h).o.cells.drop off:=by
       rw [Qgc _ (by omega)];show ((get 4 i fs.h).o.cells.drop off).take _=_;rw [List.take_of_length_le (by rw [List.length_drop];omega)]
      simp only [absC];rw [Qgh fs hi];simp only;have hko:=Qi0 hok hi (fo:=Qg2 (get 4 i fs.h)) trivial (minF fs.lo i);obtain ⟨g1,g2,g3⟩:=Qbe hko a2 hh;refine ⟨_,_,g1,?_,g3⟩;rw [if_neg (fun hq=>by have:(get 4 i fs.h).rw=false:=hq.2.2.2.2.2.1;rw [hrw] at this;cases this)];rw [if_pos ⟨c1,hrw,hty,trivial,hcl,c5,c6⟩];rw [g2,Qiz hok hi,Qsp,Qe0,Qcg];simp only [FO.o,a1,b1,hsub];rfl
     ·cases hh
    rename_i hoff0;unfold Zc2 at h;obtain ⟨hi,hh⟩:=Qbf h;clear h;split at hh
    ·rename_i hc;simp only [Bool.and_eq_true,Nat.beq_eq,Nat.ble_eq] at hc;obtain ⟨c1,rfl,rfl,c4,c5,c6,c7⟩:=hc;obtain ⟨a1,a2⟩:=Qpf (get 4 i fs.h) (hok.obj i hi) ch c7 a.el true true false;have hcl:(get 4 i fs.h).o.cells.length=len * a.size:=by show (FO.list _).length=_;rw [FO.list_len];exact c4
     simp only [absC];rw [Qgh fs hi];simp only;split at hh
     ·rename_i hrw;split at hh
      ·rename_i hty;have hty:(get 4 i fs.h).ty=a.el:=by simpa using hty
       have hko:=Qi0 hok hi (fo:=Qg2 (get 4 i fs.h)) trivial (minF fs.lo i);obtain ⟨g1,g2,g3⟩:=Qbe hko a2 hh;refine ⟨_,_,g1,?_,g3⟩;rw [if_neg (fun hq=>by have:(get 4 i fs.h).rw=false:=hq.2.2.2.2.2.1;rw [hrw] at this;cases this)];rw [if_pos ⟨c1,hrw,hty,trivial,by rw [hcl,Nat.zero_add],c5,c6⟩];rw [List.drop_zero];rw [g2,Qiz hok hi,Qsp,Qe0,Qcg];simp only [FO.o,a1];rfl
      ·cases hh
     ·rename_i hrw;have hrw:(get 4 i fs.h).rw=false:=by simpa using hrw
      split at hh
      ·rename_i hf;obtain ⟨g1,g2,g3⟩:=Qbe hok a2 hh;refine ⟨_,_,g1,?_,g3⟩;rw [if_pos ⟨c1,hf,trivial,trivial,hcl,hrw,c5,c6⟩];rw [g2,Qcg];simp only [FO.o,a1];rfl
      ·cases hh
    ·cases hh
   ·cases h
 ·by_cases hm:m=0
  ·rw [if_pos (by simpa using hm)] at h;rw [if_pos hm];exact ⟨_,fs,hok,rfl,h⟩
  ·rw [if_neg (by simpa using hm)] at h;rw [if_neg hm];split at h
   ·rename_i hl;have hl:ch.len=m * a.size:=by simpa using hl
    rw [if_neg (by rw [hlen];simp [hl])];obtain ⟨hb,fs',g1,g2,g3⟩:=Qj8 hok h;refine ⟨_,fs',g1,?_,g3⟩;simp only [absC,if_pos hb,g2,Qcg];rfl
   ·cases h
 ·rename_i i off sz;by_cases hm:m=0
  ·rw [if_pos (by simpa using hm)] at h;rw [if_pos hm];exact ⟨_,fs,hok,rfl,h⟩
  ·rw [if_neg (by simpa using hm)] at h;rw [if_neg hm];split at h
   ·rename_i hl;have hl:ch.len=m * a.size:=by simpa using hl
    rw [if_neg (by rw [hlen];simp [hl])];unfold appE at h;obtain ⟨hi,hh⟩:=Qbf h;clear h;split at hh
    ·rename_i hc;simp only [Bool.and_eq_true,Nat.beq_eq,Nat.ble_eq] at hc;obtain ⟨c1,hrw,hty,rfl,c5,c6,c7⟩:=hc;obtain ⟨b1,b2⟩:=Qdw c7 a.el true true false;simp only [absC];rw [Qgh fs hi];simp only;have hko:=Qi0 hok hi (fo:=Qg2 (get 4 i fs.h)) trivial (minF fs.lo i);obtain ⟨g1,g2,g3⟩:=Qbe hko b2 hh;refine ⟨_,_,g1,?_,g3⟩;rw [if_pos ⟨c1,hrw,hty,trivial,c5,c6⟩];rw [g2,Qiz hok hi,Qsp,Qe0,Qcg];simp only [FO.o,b1];rfl
    ·cases hh
   ·cases h
 ·rename_i z;by_cases hm:m=0
  ·rw [if_pos (by simpa using hm)] at h;rw [if_pos hm];exact ⟨_,fs,hok,rfl,h⟩
  ·rw [if_neg (by simpa using hm)] at h;rw [if_neg hm];split at h
   ·rename_i hl;simp only [Bool.and_eq_true,Nat.beq_eq] at hl;obtain ⟨rfl,hl⟩:=hl;rw [if_neg (by rw [hlen];simp [hl])];obtain ⟨hb,fs',g1,g2,g3⟩:=Qj8 hok h;refine ⟨_,fs',g1,?_,g3⟩;simp only [absC,if_pos hb,g2,Qcg];rfl
   ·cases h
 ·cases h
theorem Qyc {n:Nat} {o:Oper} {T:TypeId} {s x:Operand} (ho:o.op=.call { callee:=.builtin .append,args:=#[s,x],argTypes:=#[T,T] }) {gs gx:FE→FV} (hs:∀ fe',lk (absE n fe') s=some (abs (gs fe'))) (hx:∀ fe',lk (absE n fe') x=some (abs (gx fe'))) {f:Step β} (hf:Qvr P T gs gx=some f):Rf n (evOp P · · o) f:=fun fe fs k r hok h=>by
 unfold Qvr at hf;cases ha:Qy8 P T with
 | none=>rw [ha] at hf;cases hf
 | some a =>
  rw [ha] at hf;cases hf
  try simp only at h
  split at h
  ·rename_i sc hsc;split at h
   ·rename_i xc hxc;obtain ⟨ch,m,e1,e2⟩:=Qnh h;obtain ⟨v,fs',g1,g2,g3⟩:=Qxk hok e1 e2;have h1:=Qar (by rw [hs fe,hsc]:lk (absE n fe) s=some (abs (.c sc)));have h2:=Qar (by rw [hx fe,hxc]:lk (absE n fe) x=some (abs (.c xc)));refine ⟨v,fs',g1,?_,g3⟩;unfold evOp;simp only [ho,if_true,h1,h2,Zc1 ha];exact g2
   ·cases h
  ·cases h
end Fx
end Go.Proofs.YtcpodmjcgfgmnaaGreat
