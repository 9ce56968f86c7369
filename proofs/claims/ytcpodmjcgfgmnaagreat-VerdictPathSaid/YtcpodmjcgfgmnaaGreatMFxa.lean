/- Fx: a run of Go code that the kernel computes fast. First part: trees of eight, numbers as rows of bytes. No program. -/
import Derived.Test.YtcpodmjcgfgmnaaGreatMEve
import Derived.WalkKit
namespace Go.Proofs.YtcpodmjcgfgmnaaGreat
namespace Fx
structure N8 (α:Type) where
 a0:α
 a1:α
 a2:α
 a3:α
 a4:α
 a5:α
 a6:α
 a7:α
def u0 {α:Type} (f:α→α) (t:N8 α):N8 α:=match t with | ⟨a0,a1,a2,a3,a4,a5,a6,a7⟩=>⟨f a0,a1,a2,a3,a4,a5,a6,a7⟩
def u1 {α:Type} (f:α→α) (t:N8 α):N8 α:=match t with | ⟨a0,a1,a2,a3,a4,a5,a6,a7⟩=>⟨a0,f a1,a2,a3,a4,a5,a6,a7⟩
def u2 {α:Type} (f:α→α) (t:N8 α):N8 α:=match t with | ⟨a0,a1,a2,a3,a4,a5,a6,a7⟩=>⟨a0,a1,f a2,a3,a4,a5,a6,a7⟩
def u3 {α:Type} (f:α→α) (t:N8 α):N8 α:=match t with | ⟨a0,a1,a2,a3,a4,a5,a6,a7⟩=>⟨a0,a1,a2,f a3,a4,a5,a6,a7⟩
def u4 {α:Type} (f:α→α) (t:N8 α):N8 α:=match t with | ⟨a0,a1,a2,a3,a4,a5,a6,a7⟩=>⟨a0,a1,a2,a3,f a4,a5,a6,a7⟩
def u5 {α:Type} (f:α→α) (t:N8 α):N8 α:=match t with | ⟨a0,a1,a2,a3,a4,a5,a6,a7⟩=>⟨a0,a1,a2,a3,a4,f a5,a6,a7⟩
def u6 {α:Type} (f:α→α) (t:N8 α):N8 α:=match t with | ⟨a0,a1,a2,a3,a4,a5,a6,a7⟩=>⟨a0,a1,a2,a3,a4,a5,f a6,a7⟩
def u7 {α:Type} (f:α→α) (t:N8 α):N8 α:=match t with | ⟨a0,a1,a2,a3,a4,a5,a6,a7⟩=>⟨a0,a1,a2,a3,a4,a5,a6,f a7⟩
def sel {α:Type} (k:Nat) (t:N8 α):α:=match k with
 | 0=>t.a0
 | 1=>t.a1
 | 2=>t.a2
 | 3=>t.a3
 | 4=>t.a4
 | 5=>t.a5
 | 6=>t.a6
 | _=>t.a7
def upd {α:Type} (k:Nat) (f:α→α) (t:N8 α):N8 α:=match k with
 | 0=>u0 f t
 | 1=>u1 f t
 | 2=>u2 f t
 | 3=>u3 f t
 | 4=>u4 f t
 | 5=>u5 f t
 | 6=>u6 f t
 | _=>u7 f t
theorem lt8 {k:Nat} (h:k < 8):k=0∨k=1∨k=2∨k=3∨k=4∨k=5∨k=6∨k=7:=by omega
theorem Qrp {α:Type} {k:Nat} (f:α→α) (t:N8 α) (h:k < 8):sel k (upd k f t)=f (sel k t):=by
 obtain rfl | rfl | rfl | rfl | rfl | rfl | rfl | rfl:=lt8 h <;> rfl
theorem Zb1 {α:Type} {k j:Nat} (f:α→α) (t:N8 α) (h:k < 8) (g:j < 8) (e:j≠k):sel j (upd k f t)=sel j t:=by
 obtain rfl | rfl | rfl | rfl | rfl | rfl | rfl | rfl:=lt8 h <;> obtain rfl | rfl | rfl | rfl | rfl | rfl | rfl | rfl:=lt8 g <;> first | rfl | exact absurd rfl e
def TR (α:Type):Nat→Type
 | 0=>α
 | d+1=>N8 (TR α d)
def get {α:Type}:(d:Nat)→Nat→TR α d→α
 | 0,_,t=>t
 | d+1,i,t=>get d (i % 8 ^ d) (sel (i / 8 ^ d) t)
def set {α:Type}:(d:Nat)→Nat→α→TR α d→TR α d
 | 0,_,v,_=>v
 | d+1,i,v,t=>upd (i / 8 ^ d) (set d (i % 8 ^ d) v) t
def all {α:Type} (v:α):(d:Nat)→TR α d
 | 0=>v
 | d+1=>(fun x=>(⟨x,x,x,x,x,x,x,x⟩:N8 _)) (all v d)
theorem Qw6 {i d:Nat} (h:i < 8 ^ (d+1)):i / 8 ^ d < 8:=by
 rw [Nat.div_lt_iff_lt_mul (Nat.pow_pos (by omega))];rwa [Nat.pow_succ,Nat.mul_comm] at h
theorem Qe8 {α:Type}:∀ (d:Nat) {i:Nat} (v:α) (t:TR α d),i < 8 ^ d→get d i (set d i v t)=v
 | 0,_,_,_,_=>rfl
 | d+1,i,v,t,h=>by
  have hm:i % 8 ^ d < 8 ^ d:=Nat.mod_lt _ (Nat.pow_pos (by omega));exact (congrArg (get d (i % 8 ^ d)) (Qrp (set d (i % 8 ^ d) v) (t:N8 (TR α d)) (Qw6 h))).trans (Qe8 d v _ hm)
theorem Qfz {α:Type}:∀ (d:Nat) {i j:Nat} (v:α) (t:TR α d),i < 8 ^ d→j < 8 ^ d→j≠i→get d j (set d i v t)=get d j t
 | 0,i,j,_,_,h,g,e=>by simp at h g;omega
 | d+1,i,j,v,t,h,g,e=>by
  have hm:i % 8 ^ d < 8 ^ d:=Nat.mod_lt _ (Nat.pow_pos (by omega));have gm:j % 8 ^ d < 8 ^ d:=Nat.mod_lt _ (Nat.pow_pos (by omega));by_cases e1:j / 8 ^ d=i / 8 ^ d
  ·show get d (j % 8 ^ d) (sel (j / 8 ^ d) (upd (i / 8 ^ d) (set d (i % 8 ^ d) v) (t:N8 (TR α d))))=get d (j % 8 ^ d) (sel (j / 8 ^ d) (t:N8 (TR α d)));rw [e1];refine (congrArg (get d (j % 8 ^ d)) (Qrp (set d (i % 8 ^ d) v) (t:N8 (TR α d)) (Qw6 h))).trans (Qfz d v _ hm gm fun e2=>e ?_);rw [← Nat.div_add_mod i (8 ^ d),← Nat.div_add_mod j (8 ^ d),e1,e2]
  ·exact congrArg (get d (j % 8 ^ d)) (Zb1 (set d (i % 8 ^ d) v) (t:N8 (TR α d)) (Qw6 h) (Qw6 g) e1)
theorem Qqt {α:Type} (v:α):∀ (d i:Nat),i < 8 ^ d→get d i (all v d)=v
 | 0,_,_=>rfl
 | d+1,i,h=>by
  have hm:i % 8 ^ d < 8 ^ d:=Nat.mod_lt _ (Nat.pow_pos (by omega));have:sel (i / 8 ^ d) (all v (d+1))=all v d:=by
   show sel (i / 8 ^ d) (⟨all v d,all v d,all v d,all v d,all v d,all v d,all v d,all v d⟩:N8 _)=all v d;obtain e | e | e | e | e | e | e | e:=lt8 (Qw6 h) <;> rw [e] <;> rfl
  exact (congrArg (get d (i % 8 ^ d)) this).trans (Qqt v d _ hm)
def bget (N j:Nat):Nat:=N / 256 ^ j % 256
def bsub (N a n:Nat):Nat:=N / 256 ^ a % 256 ^ n
def bput (N a m X:Nat):Nat:=N % 256 ^ a+256 ^ a * (X % 256 ^ m+256 ^ m * (N / 256 ^ (a+m)))
theorem p256 (n:Nat):0 < 256 ^ n:=Nat.pow_pos (by omega)
theorem Zbn (N j:Nat):bget N j < 256:=Nat.mod_lt _ (by omega)
theorem Qc4 {N n j:Nat} (h:j < n):bget (N % 256 ^ n) j=bget N j:=by
 unfold bget;obtain ⟨r,rfl⟩:∃ r,n=j+1+r:=⟨n - (j+1),by omega⟩;have e:256 ^ (j+1+r)=256 ^ j * (256 * 256 ^ r):=by rw [Nat.pow_add,Nat.pow_succ,Nat.mul_assoc]
 rw [e,Nat.mod_mul_right_div_self,Nat.mod_mul_right_mod]
theorem Qeq (N a j:Nat):bget (N / 256 ^ a) j=bget N (a+j):=by
 unfold bget;rw [Nat.div_div_eq_div_mul,← Nat.pow_add]
theorem Qsr {N a n j:Nat} (h:j < n):bget (bsub N a n) j=bget N (a+j):=by
 unfold bsub;rw [Qc4 h,Qeq]
theorem Qq6 {x y a j:Nat} (h:j < a):bget (x % 256 ^ a+256 ^ a * y) j=bget x j:=by
 rw [← Qc4 (N:=x % 256 ^ a+256 ^ a * y) h,← Qc4 (N:=x) h,Nat.add_mul_mod_self_left,Nat.mod_mod]
theorem Qq7 {x y a j:Nat} (hx:x < 256 ^ a):bget (x+256 ^ a * y) (a+j)=bget y j:=by
 rw [← Qeq,Nat.add_mul_div_left _ _ (p256 a),Nat.div_eq_of_lt hx,Nat.zero_add]
theorem Qy7 {N a m X j:Nat}:bget (bput N a m X) j=if j < a then bget N j else if j < a+m then bget X (j - a) else bget N j:=by
 unfold bput;have h1:N % 256 ^ a < 256 ^ a:=Nat.mod_lt _ (p256 a);have h2:X % 256 ^ m < 256 ^ m:=Nat.mod_lt _ (p256 m);by_cases c1:j < a
 ·rw [if_pos c1,Qq6 c1]
 ·rw [if_neg c1];obtain ⟨r,rfl⟩:∃ r,j=a+r:=⟨j - a,by omega⟩;rw [Qq7 h1];by_cases c2:a+r < a+m
  ·rw [if_pos c2,Qq6 (by omega),show a+r - a=r by omega]
  ·rw [if_neg c2];obtain ⟨q,rfl⟩:∃ q,r=m+q:=⟨r - m,by omega⟩;rw [Qq7 h2,Qeq,Nat.add_assoc]
theorem Qss {X Y a j:Nat} (hx:X < 256 ^ a):bget (X+256 ^ a * Y) j=if j < a then bget X j else bget Y (j - a):=by
 by_cases c1:j < a
 ·rw [if_pos c1];have:=Qq6 (x:=X) (y:=Y) c1;rwa [Nat.mod_eq_of_lt hx] at this
 ·rw [if_neg c1];obtain ⟨r,rfl⟩:∃ r,j=a+r:=⟨j - a,by omega⟩;rw [Qq7 hx,show a+r - a=r by omega]
theorem Qu2:∀ {n X Y:Nat},X < 256 ^ n→Y < 256 ^ n→(∀ j,j < n→bget X j=bget Y j)→X=Y
 | 0,X,Y,hx,hy,_=>by simp at hx hy;omega
 | n+1,X,Y,hx,hy,h=>by
  have h0:=h 0 (by omega);simp only [bget,Nat.pow_zero,Nat.div_one] at h0;have e:X / 256=Y / 256:=by
   refine Qu2 (n:=n) ?_ ?_ fun j hj=>?_
   ·rw [Nat.div_lt_iff_lt_mul (by omega)];rwa [Nat.pow_succ] at hx
   ·rw [Nat.div_lt_iff_lt_mul (by omega)];rwa [Nat.pow_succ] at hy
   ·have:=h (j+1) (by omega);rw [Nat.add_comm,← Qeq,← Qeq] at this;simpa using this
  omega
def Qh4:List UInt8→Nat
 | []=>0
 | b :: r=>b.toNat+256 * Qh4 r
theorem Qlh:∀ {l:List UInt8} {j:Nat} (h:j < l.length),bget (Qh4 l) j=l[j].toNat
 | b :: r,0,h=>by
  have hb:=b.toNat_lt;simp only [bget,Qh4,Nat.pow_zero,Nat.div_one,List.getElem_cons_zero];omega
 | b :: r,j+1,h=>by
  have hb:=b.toNat_lt;have ih:=Qlh (l:=r) (j:=j) (by simpa using h);have e:bget (Qh4 (b :: r)) (j+1)=bget (Qh4 (b :: r) / 256 ^ 1) j:=by rw [Qeq,Nat.add_comm]
  rw [e];have:Qh4 (b :: r) / 256 ^ 1=Qh4 r:=by simp only [Qh4];omega
  rw [this,ih];rfl
def rowL (n N:Nat):List UInt8:=(List.range n).map fun j=>UInt8.ofNat (bget N j)
theorem Qbc (n N:Nat):(rowL n N).length=n:=by simp [rowL]
theorem Qcr {n N j:Nat} (h:j < n):(rowL n N)[j]?=some (UInt8.ofNat (bget N j)):=by simp [rowL,h]
theorem Qlm (N j:Nat):(UInt8.ofNat (bget N j)).toNat=bget N j:=by
 have:=Zbn N j;simp;omega
theorem Qs9 (l:List UInt8):rowL l.length (Qh4 l)=l:=by
 refine List.ext_getElem (by simp [Qbc]) fun j h1 h2=>?_;have h:=Qcr (N:=Qh4 l) h2;rw [List.getElem?_eq_getElem h1] at h;rw [Option.some.inj h,Qlh h2];simp
end Fx
end Go.Proofs.YtcpodmjcgfgmnaaGreat
namespace Go.Proofs.YtcpodmjcgfgmnaaGreat
open Go.RowKit Ev
namespace Fx
inductive FC where
 | i (n:Nat)
 | k (kd:IntKind) (n:Nat)
 | b (x:Bool)
 | p (i off:Nat)
 | s (i off len sz:Nat)
 | st (n N:Nat)
 | o (x:C)
inductive FS where
 | c (x:FC)
 | a (l:List FC)
inductive FV where
 | c (x:FC)
 | a (l:List FC)
 | t (l:List FS)
 | skip
 | any
def absC:FC→C
 | .i n=>.flat (.int .i64 (.ofNat n))
 | .k kd n=>.flat (.int kd (.ofNat n))
 | .b x=>.flat (.bool x)
 | .p i off=>.ptr i off
 | .s i off len sz=>.sl i off len sz
 | .st n N=>.str (rowL n N)
 | .o x=>x
def absS:FS→S
 | .c x=>.c (absC x)
 | .a l=>.a (l.map absC)
def abs:FV→PV
 | .c x=>.s (.c (absC x))
 | .a l=>.s (.a (l.map absC))
 | .t l=>.t (l.map absS)
 | .skip=>.skip
 | .any=>.any
def ofI (kd:IntKind) (n:Int):FC:=match n with
 | .ofNat n=>(match kd with
  | .i64=>.i n
  | kd=>.k kd n)
 | n=>.o (.flat (.int kd n))
def Qye (v:Value):FC:=match v with
 | .int kd n=>ofI kd n
 | .bool x=>.b x
 | v=>.o (.flat v)
def ofC (c:C):FC:=match c with
 | .flat v=>Qye v
 | .str l=>.st l.length (Qh4 l)
 | .ptr i off=>.p i off
 | .sl i off len sz=>.s i off len sz
 | x=>.o x
def ofS (s:S):FS:=match s with
 | .c x=>.c (ofC x)
 | .a l=>.a (l.map ofC)
def ofPV (pv:PV):FV:=match pv with
 | .s (.c x)=>.c (ofC x)
 | .s (.a l)=>.a (l.map ofC)
 | .t l=>.t (l.map ofS)
 | .skip=>.skip
 | .any=>.any
theorem Qzd (kd:IntKind) (n:Int):absC (ofI kd n)=.flat (.int kd n):=by
 unfold ofI;split
 ·split <;> rfl
 ·rfl
theorem Qli (v:Value):absC (Qye v)=.flat v:=by
 unfold Qye;split
 ·exact Qzd _ _
 ·rfl
 ·rfl
theorem Qg5 (c:C):absC (ofC c)=c:=by
 unfold ofC;split
 ·exact Qli _
 ·show C.str (rowL _ (Qh4 _))=_;rw [Qs9]
 ·rfl
 ·rfl
 ·rfl
theorem Qmg (l:List C):(l.map ofC).map absC=l:=by
 rw [List.map_map]
 conv=>rhs;rw [← List.map_id l]
 exact List.map_congr_left fun c _=>Qg5 c
theorem Qsx (s:S):absS (ofS s)=s:=by
 cases s with
 | c x=>show S.c (absC (ofC x))=_;rw [Qg5]
 | a l=>show S.a ((l.map ofC).map absC)=_;rw [Qmg]
theorem Qsw (pv:PV):abs (ofPV pv)=pv:=by
 cases pv with
 | any=>rfl
 | skip=>rfl
 | s x=>cases x with
  | c x=>show PV.s (.c (absC (ofC x)))=_;rw [Qg5]
  | a l=>show PV.s (.a ((l.map ofC).map absC))=_;rw [Qmg]
 | t l =>
  show PV.t ((l.map ofS).map absS)=_;rw [List.map_map];congr 1
  conv=>rhs;rw [← List.map_id l]
  exact List.map_congr_left fun c _=>Qsx c
def toFV:FS→FV
 | .c x=>.c x
 | .a l=>.a l
theorem Qnd (s:FS):abs (toFV s)=.s (absS s):=by cases s <;> rfl
inductive Ch where
 | bs (m X:Nat)
 | li (l:List FC)
def byC (X j:Nat):C:=.flat (.int .u8 (.ofNat (bget X j)))
def byL (m X:Nat):List C:=(List.range m).map (byC X)
def Ch.list:Ch→List C
 | .bs m X=>byL m X
 | .li l=>l.map absC
def Ch.len:Ch→Nat
 | .bs m _=>m
 | .li l=>l.length
theorem Ch.len_eq (c:Ch):c.list.length=c.len:=by cases c <;> simp [Ch.list,Ch.len,byL]
def byF (X:Nat):Nat→Nat→List FC
 | 0,_=>[]
 | n+1,j=>.k .u8 (bget X j) :: byF X n (j+1)
theorem Qj4 (X:Nat):∀ n j,(byF X n j).length=n
 | 0,_=>rfl
 | n+1,j=>by simp [byF,Qj4 X n]
theorem Qxc (X:Nat):∀ n j q,q < n→(byF X n j)[q]?=some (.k .u8 (bget X (j+q)))
 | 0,_,_,h=>by omega
 | n+1,j,0,_=>rfl
 | n+1,j,q+1,h=>by
  have:=Qxc X n (j+1) q (by omega);rw [show j+1+q=j+(q+1) by omega] at this;simpa [byF] using this
theorem Qm8 (m X:Nat):(byF X m 0).map absC=byL m X:=by
 refine List.ext_getElem? fun j=>?_;by_cases h:j < m
 ·rw [List.getElem?_map,Qxc X m 0 j h];simp [byL,h,byC,absC]
 ·rw [List.getElem?_eq_none (by simp [Qj4];omega),List.getElem?_eq_none (by simp [byL];omega)]
def Ch.cells:Ch→List FC
 | .bs m X=>byF X m 0
 | .li l=>l
theorem Ch.cells_eq (c:Ch):c.cells.map absC=c.list:=by
 cases c with
 | bs m X=>exact Qm8 m X
 | li l=>rfl
def liBy:List FC→Option (Nat × Nat)
 | []=>some (0,0)
 | .k .u8 n :: r=>match liBy r with
  | some (m,X)=>if Nat.blt n 256 then some (m+1,n+256 * X) else none
  | none=>none
 | _=>none
theorem Qgs:∀ {l:List FC} {m X:Nat},liBy l=some (m,X)→byL m X=l.map absC
 | [],m,X,h=>by cases h;rfl
 | c :: r,m,X,h=>by
  unfold liBy at h;split at h
  ·rename_i heq;cases heq
  ·rename_i n r' heq;cases heq;split at h
   ·rename_i m' X' hr;split at h
    ·rename_i hn;cases h;have ih:=Qgs hr;have hn:n < 256:=by simpa [Nat.blt_eq] using hn
     refine List.ext_getElem? fun j=>?_;cases j with
     | zero =>
      simp only [byL,List.map_cons,List.getElem?_cons_zero,absC];simp [byC,bget];omega
     | succ j =>
      have:=congrArg (·[j]?) ih;simp only [List.map_cons,List.getElem?_cons_succ,← this];by_cases hj:j < m'
      ·simp only [byL,List.getElem?_map,List.getElem?_range hj,List.getElem?_range (show j+1 < m'+1 by omega),Option.map_some];have e:bget (n+256 * X') (j+1)=bget X' j:=by
        have:(n+256 * X') / 256 ^ 1=X':=by omega
        rw [Nat.add_comm j 1,← Qeq,this]
       simp only [byC,e]
      ·rw [List.getElem?_eq_none (by simp [byL];omega),List.getElem?_eq_none (by simp [byL];omega)]
    ·cases h
   ·cases h
  ·cases h
inductive CT where
 | tr (d:Nat) (t:TR FC d)
 | bs (N:Nat)
structure FO where
 n:Nat
 cells:CT
 ty:TypeId
 rw:Bool
 live:Bool
 full:Bool
def atC (c:CT) (j:Nat):FC:=match c with
 | .tr d t=>get d j t
 | .bs N=>.k .u8 (bget N j)
def FO.list (fo:FO):List C:=(List.range fo.n).map fun j=>absC (atC fo.cells j)
def FO.o (fo:FO):O:=⟨fo.list,fo.ty,fo.rw,fo.live,fo.full⟩
def FO.ok (fo:FO):Prop:=match fo.cells with
 | .tr d _=>fo.n≤8 ^ d
 | .bs _=>True
theorem FO.list_len (fo:FO):fo.list.length=fo.n:=by simp [FO.list]
theorem FO.list_get (fo:FO) {j:Nat} (h:j < fo.n):fo.list[j]?=some (absC (atC fo.cells j)):=by simp [FO.list,h]
theorem Qcq (m X:Nat):(byL m X).length=m:=by simp [byL]
theorem Qhp {m X j:Nat} (h:j < m):(byL m X)[j]?=some (byC X j):=by simp [byL,h]
def Qfb (d:Nat):List FC→Nat→TR FC d→TR FC d
 | [],_,t=>t
 | c :: r,j,t=>Qfb d r (j+1) (set d j c t)
theorem Qgy {d:Nat}:∀ {l:List FC} {j:Nat} {t:TR FC d} {q:Nat},j+l.length≤8 ^ d→q < 8 ^ d→get d q (Qfb d l j t)=if q < j then get d q t else match l[q - j]? with | some c=>c | none=>get d q t
 | [],j,t,q,_,_=>by simp [Qfb]
 | c :: r,j,t,q,h,hq=>by
  simp only [List.length_cons] at h;rw [Qfb,Qgy (by omega) hq];by_cases h1:q < j
  ·rw [if_pos (by omega),if_pos h1,Qfz d c t (by omega) hq (by omega)]
  ·rw [if_neg h1];by_cases h2:q=j
   ·subst h2;rw [if_pos (by omega),Qe8 d c t hq];simp
   ·rw [if_neg (by omega),show q - j=(q - (j+1))+1 by omega,List.getElem?_cons_succ];cases hc:r[q - (j+1)]? with
    | some x=>rfl
    | none=>exact Qfz d c t (by omega) hq h2
def Qcz (n:Nat):Nat:=if Nat.ble n 8 then 1 else if Nat.ble n 64 then 2 else if Nat.ble n 512 then 3 else 4
def noC:FC:=.b false
def Qck (l:List FC) (n:Nat):CT:=match liBy l with
 | some (_,X)=>.bs X
 | none=>.tr (Qcz n) (Qfb (Qcz n) l 0 (all noC (Qcz n)))
theorem Qdc {n:Nat} (h:n≤4096):n≤8 ^ Qcz n:=by
 unfold Qcz;split
 ·rename_i h;simpa using h
 ·split
  ·rename_i h;simpa using h
  ·split
   ·rename_i h;simpa using h
   ·simpa using h
theorem Qbx {l:List FC} {n:Nat} (hn:l.length=n) (h:n≤4096) (ty:TypeId) (rw live full:Bool):(FO.mk n (Qck l n) ty rw live full).list=l.map absC∧(FO.mk n (Qck l n) ty rw live full).ok:=by
 subst hn;unfold Qck;split
 ·rename_i m X hX;have:=Qgs hX;have hl:m=l.length:=by have:=congrArg List.length this;simpa [Qcq] using this
  subst hl;exact ⟨this,trivial⟩
 ·have hf:=Qdc h;refine ⟨List.ext_getElem? fun j=>?_,hf⟩;by_cases hj:j < l.length
  ·rw [FO.list_get _ hj,List.getElem?_map];show some (absC (get _ j (Qfb _ l 0 _)))=_;rw [Qgy (by omega) (by omega),if_neg (by omega)];simp [hj]
  ·rw [List.getElem?_eq_none (by rw [FO.list_len];show l.length≤j;omega),List.getElem?_eq_none (by simp;omega)]
def subT (d:Nat) (t:TR FC d):Nat→Nat→List FC
 | 0,_=>[]
 | n+1,j=>get d j t :: subT d t n (j+1)
theorem Qln {d:Nat} {t:TR FC d}:∀ {n j q:Nat},q < n→(subT d t n j)[q]?=some (get d (j+q) t)
 | 0,_,_,h=>by omega
 | n+1,j,0,_=>rfl
 | n+1,j,q+1,h=>by
  have:=Qln (d:=d) (t:=t) (n:=n) (j:=j+1) (q:=q) (by omega);rw [show j+1+q=j+(q+1) by omega] at this;simpa [subT] using this
theorem Qh8 {d:Nat} {t:TR FC d}:∀ {n j:Nat},(subT d t n j).length=n
 | 0,_=>rfl
 | n+1,j=>by simp [subT,Qh8]
def subC (c:CT) (off m:Nat):Ch:=match c with
 | .tr d t=>.li (subT d t m off)
 | .bs N=>.bs m (bsub N off m)
theorem Qrk (c:CT) (off m:Nat):(subC c off m).len=m:=by cases c <;> simp [subC,Ch.len,Qh8]
theorem Qgc (fo:FO) {off m:Nat} (h:off+m≤fo.n):(subC fo.cells off m).list=(fo.list.drop off).take m:=by
 refine List.ext_getElem? fun j=>?_;by_cases hj:j < m
 ·rw [List.getElem?_take,if_pos hj,List.getElem?_drop,FO.list_get fo (by omega)];cases hc:fo.cells with
  | tr d t =>
   show ((subT d t m off).map absC)[j]?=_;rw [List.getElem?_map,Qln hj];rfl
  | bs N =>
   show (byL m (bsub N off m))[j]?=_;rw [Qhp hj,byC,Qsr hj];rfl
 ·rw [List.getElem?_eq_none (by rw [Ch.len_eq,Qrk];omega),List.getElem?_eq_none (by simp;omega)]
def putC (n:Nat) (c:CT) (off:Nat) (x:Ch):CT:=match c,x with
 | .bs N,.bs m X=>.bs (bput N off m X)
 | .bs N,.li l=>(match liBy l with
  | some (m,X)=>.bs (bput N off m X)
  | none=>.tr (Qcz n) (Qfb (Qcz n) l off (Qfb (Qcz n) (byF N n 0) 0 (all noC (Qcz n)))))
 | .tr d t,x=>.tr d (Qfb d x.cells off t)
def Qnp (n:Nat) (c:CT) (x:Ch):Bool:=match c,x with
 | .bs _,.bs _ _=>true
 | _,_=>Nat.ble n 4096
theorem Qzl {n off m X N:Nat} {ty:TypeId} {rw live full:Bool} (h:off+m≤n):(FO.mk n (.bs (bput N off m X)) ty rw live full).list=(byL n N).take off++byL m X++(byL n N).drop (off+m):=by
 refine List.ext_getElem? fun j=>?_;by_cases hj:j < n
 ·rw [FO.list_get _ hj];show some (byC (bput N off m X) j)=_;rw [byC,Qy7];by_cases h1:j < off
  ·rw [if_pos h1,List.append_assoc,List.getElem?_append_left (by simp [Qcq];omega),List.getElem?_take,if_pos h1,Qhp hj];rfl
  ·rw [if_neg h1];have hmin:min off n=off:=by omega
   by_cases h2:j < off+m
   ·rw [if_pos h2,List.append_assoc,List.getElem?_append_right (by simp [Qcq];omega),List.getElem?_append_left (by simp [Qcq];omega)];simp only [List.length_take,Qcq,hmin];rw [Qhp (by omega)];rfl
   ·rw [if_neg h2,List.getElem?_append_right (by simp [Qcq];omega),List.getElem?_drop];simp only [List.length_append,List.length_take,Qcq,hmin];rw [show off+m+(j - (off+m))=j by omega,Qhp hj];rfl
 ·rw [List.getElem?_eq_none (by rw [FO.list_len];show n≤j;omega),List.getElem?_eq_none (by simp [Qcq];omega)]
theorem Qu7 {n off d:Nat} {t:TR FC d} {l:List FC} {ty:TypeId} {rw live full:Bool} (h:off+l.length≤n) (hd:n≤8 ^ d):(FO.mk n (.tr d (Qfb d l off t)) ty rw live full).list=((FO.mk n (.tr d t) ty rw live full).list).take off++l.map absC++((FO.mk n (.tr d t) ty rw live full).list).drop (off+l.length):=by
 have hg:∀ j,j < n→((FO.mk n (.tr d t) ty rw live full).list)[j]?=some (absC (get d j t)):=fun j hj=>FO.list_get _ hj;have hl:((FO.mk n (.tr d t) ty rw live full).list).length=n:=FO.list_len _;refine List.ext_getElem? fun j=>?_;by_cases hj:j < n
 ·rw [FO.list_get _ hj];show some (absC (get d j (Qfb d l off t)))=_;rw [Qgy (by omega) (by omega)];by_cases h1:j < off
  ·rw [if_pos h1,List.append_assoc,List.getElem?_append_left (by simp [hl];omega),List.getElem?_take,if_pos h1,hg j hj]
  ·rw [if_neg h1];have hmin:min off n=off:=by omega
   by_cases h2:j < off+l.length
   ·rw [List.append_assoc,List.getElem?_append_right (by simp [hl];omega),List.getElem?_append_left (by simp [hl];omega)];simp only [List.length_take,hl,hmin,List.getElem?_map];have:j - off < l.length:=by omega
    simp [this]
   ·rw [List.getElem?_append_right (by simp [hl];omega),List.getElem?_drop];simp only [List.length_append,List.length_take,hl,hmin,List.length_map];rw [show off+l.length+(j - (off+l.length))=j by omega,hg j hj,List.getElem?_eq_none (by omega)]
 ·rw [List.getElem?_eq_none (by rw [FO.list_len];show n≤j;omega),List.getElem?_eq_none (by simp [hl];omega)]
theorem Qxt {n N:Nat} (hn:n≤4096) {ty:TypeId} {rw live full:Bool}:(FO.mk n (.tr (Qcz n) (Qfb (Qcz n) (byF N n 0) 0 (all noC (Qcz n)))) ty rw live full).list=byL n N:=by
 have hf:=Qdc hn;have:=Qu7 (n:=n) (off:=0) (d:=Qcz n) (t:=all noC (Qcz n)) (l:=byF N n 0) (ty:=ty) (rw:=rw) (live:=live) (full:=full) (by rw [Qj4];omega) hf;rw [this,Qm8,List.drop_of_length_le (by rw [FO.list_len,Qj4];show n≤0+n;omega)];simp
theorem Qu8 (fo:FO) (hok:fo.ok) (x:Ch) {off:Nat} (h:off+x.len≤fo.n) (hr:Qnp fo.n fo.cells x=true) (f:Bool):(FO.mk fo.n (putC fo.n fo.cells off x) fo.ty fo.rw fo.live f).list=fo.list.take off++x.list++fo.list.drop (off+x.len)∧(FO.mk fo.n (putC fo.n fo.cells off x) fo.ty fo.rw fo.live f).ok:=by
 obtain ⟨n,cells,ty,rw,live,full⟩:=fo;simp only at *;cases cells with
 | bs N=>cases x with
  | bs m X=>exact ⟨Qzl h,trivial⟩
  | li l =>
   have hn:n≤4096:=by simpa [Qnp] using hr
   simp only [putC];split
   ·rename_i m X hX;have e:=Qgs hX;have hl:m=l.length:=by have:=congrArg List.length e;simpa [Qcq] using this
    refine ⟨?_,trivial⟩;subst hl;have:=Qzl (n:=n) (off:=off) (m:=l.length) (X:=X) (N:=N) (ty:=ty) (rw:=rw) (live:=live) (full:=f) h;rw [this,e];rfl
   ·have h':off+l.length≤n:=h;refine ⟨?_,Qdc hn⟩;rw [Qu7 h' (Qdc hn),Qxt hn];rfl
 | tr d t =>
  have hd:n≤8 ^ d:=hok;have hxl:x.cells.length=x.len:=by
   have:=congrArg List.length x.cells_eq;rw [List.length_map,Ch.len_eq] at this;exact this
  refine ⟨?_,hd⟩;show (FO.mk n (.tr d (Qfb d x.cells off t)) ty rw live f).list=_;rw [Qu7 (by rw [hxl];exact h) hd,x.cells_eq,hxl];rfl
def Qyt {d:Nat} (t:TR FC d):TR FC (d+1):=(⟨t,all noC d,all noC d,all noC d,all noC d,all noC d,all noC d,all noC d⟩:N8 (TR FC d))
theorem Qwm {d:Nat} (t:TR FC d) {j:Nat} (h:j < 8 ^ d):get (d+1) j (Qyt t)=get d j t:=by
 show get d (j % 8 ^ d) (sel (j / 8 ^ d) (Qyt t))=_;rw [Nat.mod_eq_of_lt h,Nat.div_eq_of_lt h];rfl
def appC (n:Nat) (c:CT) (x:Ch):CT:=match c,x with
 | .bs N,.bs _m X=>.bs (N % 256 ^ n+256 ^ n * X)
 | .tr d t,x=>if Nat.ble (n+x.len) (8 ^ d) then .tr d (Qfb d x.cells n t) else if Nat.ble (n+x.len) (8 ^ (d+1)) then .tr (d+1) (Qfb (d+1) x.cells n (Qyt t)) else Qck (subT d t n 0++x.cells) (n+x.len)
 | .bs N,.li l=>Qck (byF N n 0++l) (n+l.length)
theorem Qpf (fo:FO) (hok:fo.ok) (x:Ch) (hr:Qnp (fo.n+x.len) fo.cells x=true) (ty:TypeId) (rw live full:Bool):(FO.mk (fo.n+x.len) (appC fo.n fo.cells x) ty rw live full).list=fo.list++x.list∧(FO.mk (fo.n+x.len) (appC fo.n fo.cells x) ty rw live full).ok:=by
 obtain ⟨n,cells,ty0,rw0,live0,full0⟩:=fo;have hxl:x.cells.length=x.len:=by
  have:=congrArg List.length x.cells_eq;rw [List.length_map,Ch.len_eq] at this;exact this
 simp only at *;cases cells with
 | bs N=>cases x with
  | bs m X =>
   refine ⟨List.ext_getElem? fun j=>?_,trivial⟩;by_cases hj:j < n+m
   ·rw [FO.list_get _ hj];show some (byC (N % 256 ^ n+256 ^ n * X) j)=(byL n N++byL m X)[j]?;rw [byC,Qss (Nat.mod_lt _ (p256 n))];by_cases h1:j < n
    ·rw [if_pos h1,List.getElem?_append_left (by simpa [Qcq] using h1),Qhp h1,Qc4 h1];rfl
    ·rw [if_neg h1,List.getElem?_append_right (by simp [Qcq];omega),Qcq,Qhp (by omega)];rfl
   ·rw [List.getElem?_eq_none (by rw [FO.list_len];show n+m≤j;omega),List.getElem?_eq_none (by rw [List.length_append,FO.list_len,Ch.len_eq];show n+m≤j;omega)]
  | li l =>
   have hn:n+l.length≤4096:=by simpa [Qnp,Ch.len] using hr
   have:=Qbx (l:=byF N n 0++l) (n:=n+l.length) (by simp [Qj4]) hn ty rw live full;refine ⟨?_,this.2⟩;show (FO.mk (n+l.length) (Qck (byF N n 0++l) (n+l.length)) ty rw live full).list=byL n N++l.map absC;rw [this.1,List.map_append,Qm8]
 | tr d t =>
  have hd:n≤8 ^ d:=hok;have hn:n+x.len≤4096:=by simpa [Qnp] using hr
  have key:∀ (d':Nat) (t':TR FC d'),n+x.len≤8 ^ d'→(∀ j,j < n→get d' j t'=get d j t)→(FO.mk (n+x.len) (.tr d' (Qfb d' x.cells n t')) ty rw live full).list=(FO.mk n (.tr d t) ty0 rw0 live0 full0).list++x.list:=fun d' t' h1 h2=>by
   refine List.ext_getElem? fun j=>?_;by_cases hj:j < n+x.len
   ·rw [FO.list_get _ hj];show some (absC (get d' j (Qfb d' x.cells n t')))=_;rw [Qgy (by omega) (by omega)];by_cases h3:j < n
    ·rw [if_pos h3,h2 j h3,List.getElem?_append_left (by rw [FO.list_len];exact h3),FO.list_get _ h3];rfl
    ·rw [if_neg h3,List.getElem?_append_right (by rw [FO.list_len];show n≤j;omega),FO.list_len,← x.cells_eq,List.getElem?_map];have:j - n < x.cells.length:=by omega
     simp [this]
   ·rw [List.getElem?_eq_none (by rw [FO.list_len];show n+x.len≤j;omega),List.getElem?_eq_none (by rw [List.length_append,FO.list_len,Ch.len_eq];show n+x.len≤j;omega)]
  simp only [appC];split
  ·rename_i h1;have h1:n+x.len≤8 ^ d:=by simpa using h1
   exact ⟨key d t h1 fun _ _=>rfl,h1⟩
  ·split
   ·rename_i h1;have h1:n+x.len≤8 ^ (d+1):=by simpa using h1
    exact ⟨key (d+1) (Qyt t) h1 fun j hj=>Qwm t (by omega),h1⟩
   ·have:=Qbx (l:=subT d t n 0++x.cells) (n:=n+x.len) (by simp [Qh8,hxl]) hn ty rw live full;refine ⟨?_,this.2⟩;rw [this.1,List.map_append,x.cells_eq];congr 1;refine List.ext_getElem? fun j=>?_;by_cases hj:j < n
    ·rw [List.getElem?_map,Qln hj,FO.list_get _ hj,Nat.zero_add];rfl
    ·rw [List.getElem?_eq_none (by simp [Qh8];omega),List.getElem?_eq_none (by rw [FO.list_len];show n≤j;omega)]
end Fx
end Go.Proofs.YtcpodmjcgfgmnaaGreat
namespace Go.Proofs.YtcpodmjcgfgmnaaGreat
open Go.RowKit Ev
namespace Fx
variable {P:Program} {β:Type}
structure FSt where
 h:TR FO 4
 n:Nat
 lo:Nat
def FSt.st (fs:FSt):St:=⟨(List.range fs.n).map fun i=>(get 4 i fs.h).o,fs.lo⟩
structure FSt.ok (fs:FSt):Prop where
 n:fs.n≤4096
 obj:∀ i,i < fs.n→(get 4 i fs.h).ok
def Zdd:FO:=⟨0,.bs 0,0,false,false,false⟩
def st0:FSt:=⟨all Zdd 4,0,0⟩
theorem Zbz:st0.ok:=⟨by decide,fun i h=>by cases h⟩
theorem Qcg (fs:FSt):fs.st.h.length=fs.n:=by simp [FSt.st]
theorem Qgh (fs:FSt) {i:Nat} (h:i < fs.n):fs.st.h[i]?=some (get 4 i fs.h).o:=by simp [FSt.st,h]
def get4 (i:Nat) (t:TR FO 4):FO:=get 4 i t
def push (fs:FSt) (fo:FO):FSt:=⟨set 4 fs.n fo fs.h,fs.n+1,fs.lo⟩
def setO (fs:FSt) (i:Nat) (fo:FO) (lo:Nat):FSt:=⟨set 4 i fo fs.h,fs.n,lo⟩
def minF (a b:Nat):Nat:=if Nat.ble a b then a else b
theorem Qe0 (a b:Nat):minF a b=min a b:=by
 unfold minF;split
 ·rename_i h;have:a≤b:=by simpa using h
  omega
 ·rename_i h;have:¬ a≤b:=by simpa using h
  omega
theorem Zah {fs:FSt} (h:fs.n < 4096) (fo:FO):(push fs fo).st=⟨fs.st.h++[fo.o],fs.lo⟩:=by
 unfold FSt.st push;congr 1;refine List.ext_getElem? fun j=>?_;by_cases hj:j < fs.n
 ·rw [List.getElem?_append_left (by simpa using hj)];have:j < fs.n+1:=by omega
  simp only [List.getElem?_map,List.getElem?_range hj,List.getElem?_range this,Option.map_some];rw [Qfz 4 fo fs.h (i:=fs.n) (j:=j) h (show j < 8 ^ 4 by have:(8:Nat) ^ 4=4096:=rfl;omega) (by omega)]
 ·by_cases e:j=fs.n
  ·subst e;rw [List.getElem?_append_right (by simp)];have:fs.n < fs.n+1:=by omega
   simp only [List.getElem?_map,List.getElem?_range this,Option.map_some,List.length_map,List.length_range,Nat.sub_self];rw [Qe8 4 fo fs.h h];rfl
  ·rw [List.getElem?_eq_none (by simp;omega),List.getElem?_eq_none (by simp;omega)]
theorem Zai {fs:FSt} (hok:fs.ok) (h:fs.n < 4096) {fo:FO} (hf:fo.ok):(push fs fo).ok:=by
 refine ⟨h,fun i hi=>?_⟩;have hi:i < fs.n+1:=hi;show (get 4 i (set 4 fs.n fo fs.h)).ok;by_cases e:i=fs.n
 ·subst e;rw [Qe8 4 fo fs.h h];exact hf
 ·rw [Qfz 4 fo fs.h (i:=fs.n) (j:=i) h (show i < 8 ^ 4 by have:(8:Nat) ^ 4=4096:=rfl;omega) e];exact hok.obj i (by omega)
theorem Qiz {fs:FSt} (hok:fs.ok) {i:Nat} (h:i < fs.n) (fo:FO) (lo:Nat):(setO fs i fo lo).st=⟨fs.st.h.set i fo.o,lo⟩:=by
 have e4:(8:Nat) ^ 4=4096:=rfl;have hn:=hok.n;unfold FSt.st setO;congr 1;refine List.ext_getElem? fun j=>?_;by_cases hj:j < fs.n
 ·simp only [List.getElem?_map,List.getElem?_range hj,Option.map_some];by_cases e:j=i
  ·subst e;rw [Qe8 4 fo fs.h (by omega),List.getElem?_set_self (by simpa using hj)]
  ·rw [Qfz 4 fo fs.h (by omega) (by omega) e,List.getElem?_set_ne (by omega)];simp [hj]
 ·rw [List.getElem?_eq_none (by simp;omega),List.getElem?_eq_none (by simp;omega)]
theorem Qi0 {fs:FSt} (hok:fs.ok) {i:Nat} (h:i < fs.n) {fo:FO} (hf:fo.ok) (lo:Nat):(setO fs i fo lo).ok:=by
 have e4:(8:Nat) ^ 4=4096:=rfl;have hn:=hok.n;refine ⟨hok.n,fun j hj=>?_⟩;have hj:j < fs.n:=hj;show (get 4 j (set 4 i fo fs.h)).ok;by_cases e:j=i
 ·subst e;rw [Qe8 4 fo fs.h (by omega)];exact hf
 ·rw [Qfz 4 fo fs.h (by omega) (by omega) e];exact hok.obj j hj
theorem Zda (fs:FSt) (lo:Nat):(FSt.mk fs.h fs.n lo).st=⟨fs.st.h,lo⟩:=rfl
abbrev FE:=TR FV 3
abbrev Kont (β:Type):=FV→FSt→Option β
abbrev Step (β:Type):=FE→FSt→Kont β→Option β
def absE (n:Nat) (fe:FE):Env:=(List.range n).map fun t=>abs (get 3 t fe)
theorem Qft (n:Nat) (fe:FE):(absE n fe).length=n:=by simp [absE]
theorem Qc5 {n t:Nat} (fe:FE) (h:t < n):(absE n fe)[t]?=some (abs (get 3 t fe)):=by simp [absE,h]
theorem Qzc {n t:Nat} (hn:n≤512) (fe:FE) (v:FV):absE n (set 3 t v fe)=if t < n then (absE n fe).set t (abs v) else absE n (set 3 t v fe):=by
 split
 ·rename_i h;have e3:(8:Nat) ^ 3=512:=rfl;refine List.ext_getElem? fun j=>?_;by_cases hj:j < n
  ·rw [Qc5 _ hj];by_cases e:j=t
   ·subst e;rw [Qe8 3 v fe (by omega),List.getElem?_set_self (by rw [Qft];exact hj)]
   ·rw [Qfz 3 v fe (by omega) (by omega) e,List.getElem?_set_ne (by omega),Qc5 _ hj]
  ·rw [List.getElem?_eq_none (by rw [Qft];omega),List.getElem?_eq_none (by rw [List.length_set,Qft];omega)]
 ·rfl
def selK {γ:Type} {α:Type} (k:Nat) (K:(N8 α→α)→γ):γ:=match k with
 | 0=>K N8.a0
 | 1=>K N8.a1
 | 2=>K N8.a2
 | 3=>K N8.a3
 | 4=>K N8.a4
 | 5=>K N8.a5
 | 6=>K N8.a6
 | _=>K N8.a7
theorem Zad {γ α:Type} (k:Nat) (K:(N8 α→α)→γ):selK k K=K (sel k):=by
 unfold selK;split <;> first | rfl | skip
 rename_i h0 h1 h2 h3 h4 h5 h6;congr 1;funext t;unfold sel;split <;> first | rfl | (exfalso;simp_all)
def updK {γ:Type} {α:Type} (k:Nat) (K:((α→α)→N8 α→N8 α)→γ):γ:=match k with
 | 0=>K u0
 | 1=>K u1
 | 2=>K u2
 | 3=>K u3
 | 4=>K u4
 | 5=>K u5
 | 6=>K u6
 | _=>K u7
theorem Qz7 {γ α:Type} (k:Nat) (K:((α→α)→N8 α→N8 α)→γ):updK k K=K (upd k):=by
 unfold updK;split <;> first | rfl | skip
 rename_i h0 h1 h2 h3 h4 h5 h6;congr 1;funext f t;unfold upd;split <;> first | rfl | (exfalso;simp_all)
def accK {γ:Type} (t:Nat) (K:(FE→FV)→γ):γ :=
 selK (α:=TR FV 2) (t / 64) fun p2=>selK (α:=TR FV 1) (t % 64 / 8) fun p1=>selK (α:=FV) (t % 64 % 8) fun p0=>K fun e=>p0 (p1 (p2 e))
theorem Qnc {γ:Type} (t:Nat) (K:(FE→FV)→γ):accK t K=K (get 3 t):=by
 unfold accK;simp only [Zad];congr 1;funext e;show sel (t % 64 % 8) (sel (t % 64 / 8) (sel (t / 64) e))=sel (t % 8 ^ 2 % 8 ^ 1 / 8 ^ 0) (sel (t % 8 ^ 2 / 8 ^ 1) (sel (t / 8 ^ 2) e));simp
def putK {γ:Type} (t:Nat) (K:(FV→FE→FE)→γ):γ :=
 updK (α:=TR FV 2) (t / 64) fun p2=>updK (α:=TR FV 1) (t % 64 / 8) fun p1=>updK (α:=FV) (t % 64 % 8) fun p0=>K fun v e=>p2 (p1 (p0 fun _=>v)) e
theorem Zag {γ:Type} (t:Nat) (K:(FV→FE→FE)→γ):putK t K=K (set 3 t):=by
 unfold putK;simp only [Qz7];congr 1;funext v e;show upd (t / 64) (upd (t % 64 / 8) (upd (t % 64 % 8) fun _=>v)) e=upd (t / 8 ^ 2) (set 2 (t % 8 ^ 2) v) e;have h1:(upd (α:=FV) (t % 64 % 8) (fun _=>v):TR FV 1→TR FV 1)=set 1 (t % 8 ^ 2 % 8 ^ 1) v:=by
  funext e2;show upd (t % 64 % 8) (fun _=>v) e2=upd (t % 8 ^ 2 % 8 ^ 1 / 8 ^ 0) (fun _=>v) e2;simp only [Nat.pow_zero,Nat.div_one]
 have h2:(upd (α:=TR FV 1) (t % 64 / 8) (upd (α:=FV) (t % 64 % 8) fun _=>v):TR FV 2→TR FV 2)=set 2 (t % 8 ^ 2) v:=by
  funext e1;exact congrArg (fun f:TR FV 1→TR FV 1=>upd (α:=TR FV 1) (t % 64 / 8) f e1) h1
 exact congrArg (fun f:TR FV 2→TR FV 2=>upd (α:=TR FV 2) (t / 64) f e) h2
def opdK {γ:Type} (n:Nat) (x:Operand) (K:(FE→FV)→Option γ):Option γ:=match x with
 | .tmp t=>if Nat.blt t n then accK t K else none
 | .const v=>(match ofValue v with
  | some s=>K fun _=>toFV (ofS s)
  | none=>none)
 | .func f=>K fun _=>.c (.o (.fn f []))
 | .global _=>none
theorem Qak {γ:Type} {n:Nat} {x:Operand} {K:(FE→FV)→Option γ} {f:γ} (h:opdK n x K=some f):∃ g,K g=some f∧∀ fe',lk (absE n fe') x=some (abs (g fe')):=by
 cases x with
 | tmp t =>
  cases ht:Nat.blt t n with
  | true =>
   simp only [opdK,ht,if_true] at h;rw [Qnc] at h;exact ⟨_,h,fun fe'=>Qc5 fe' (by simpa [Nat.blt_eq] using ht)⟩
  | false=>simp only [opdK,ht,Bool.false_eq_true,if_false] at h;cases h
 | const v =>
  cases hs:ofValue v with
  | some s =>
   simp only [opdK,hs] at h;refine ⟨_,h,fun fe'=>?_⟩;simp only [lk,hs,Qnd,Qsx]
  | none=>simp only [opdK,hs] at h;cases h
 | func f=>exact ⟨_,h,fun fe'=>rfl⟩
 | global g=>cases h
def flk (n:Nat) (fe:FE):Look:=fun x=>match x with
 | .tmp t=>if Nat.blt t n then some (abs (get 3 t fe)) else none
 | .const v=>(match ofValue v with
  | some s=>some (.s s)
  | none=>none)
 | .func f=>some (.s (.c (.fn f [])))
 | .global _=>none
theorem Qk8 (n:Nat) (fe:FE):flk n fe=lk (absE n fe):=by
 funext x;cases x with
 | tmp t =>
  simp only [flk,lk];split
  ·rename_i h;rw [Qc5 fe (by simpa [Nat.blt_eq] using h)]
  ·rename_i h;rw [List.getElem?_eq_none];rw [Qft];simpa [Nat.blt_eq] using h
 | const v=>rfl
 | func f=>rfl
 | global g=>rfl
def Rf (n:Nat) (g:Look→St→Option (PV × St)) (f:Step β):Prop:=∀ fe fs k r,fs.ok→f fe fs k=some r→∃ v fs',fs'.ok∧g (lk (absE n fe)) fs.st=some (abs v,fs'.st)∧k v fs'=some r
theorem Zaj {e:Look} {o:Oper} {pv:PV} {st1:St} (hk:Qnw o.op=true) (h:evOp P e ⟨[],0⟩ o=some (pv,st1)) (st:St):evOp P e st o=some (pv,st):=by
 have dryc:∀ {st1:St},(match Qel P e o with | some pv=>some (pv,(⟨[],0⟩:St)) | none=>none)=some (pv,st1)→(match Qel P e o with | some pv=>some (pv,st) | none=>none)=some (pv,st):=fun h=>by
  split at h
  ·cases h;rfl
  ·cases h
 unfold evOp at h ⊢;split at h
 all_goals first
  | (rename_i ho;rw [ho] at hk;cases hk;done)
  | skip
 all_goals
  first
   | exact dryc h
   | (repeat' split at h
      all_goals first
       | (cases h;done)
       | exact dryc h
       | (cases h;first | rfl | (exfalso;rename_i h1 h2 _ _;simp [Qnw,h1,h2] at hk;done) | (exfalso;simp_all [Qnw];done) | simp_all))
def genF (P:Program) (n:Nat) (o:Oper):Step β:=fun fe fs k=>if Qnw o.op then (match evOp P (flk n fe) ⟨[],0⟩ o with
 | some (pv,_)=>k (ofPV pv) fs
 | none=>none) else none
theorem Qdb (n:Nat) (o:Oper):Rf n (evOp P · · o) (genF P n o:Step β):=fun fe fs k r hok h=>by
 unfold genF at h;split at h
 ·rename_i hp;split at h
  ·rename_i pv st1 hev;rw [Qk8] at hev;exact ⟨ofPV pv,fs,hok,by rw [Qsw];exact Zaj hp hev _,h⟩
  ·cases h
 ·cases h
end Fx
end Go.Proofs.YtcpodmjcgfgmnaaGreat
