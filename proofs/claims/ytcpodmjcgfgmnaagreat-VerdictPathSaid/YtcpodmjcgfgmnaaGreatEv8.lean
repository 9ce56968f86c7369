/- Ev: a function's code, run on what is Qh5 of its values. Eighth part: operations one behind the other. No program. -/
import Derived.Test.YtcpodmjcgfgmnaaGreatMEvb
import Derived.Test.YtcpodmjcgfgmnaaGreatMBase
import Derived.Lib.AppendZerosOnto
namespace Go.Proofs.YtcpodmjcgfgmnaaGreat
open Go.RowKit
namespace Ev
variable {P:Program}
variable (P)
def Qau (e:Look) (x:Operand):Option C:=match evX e x with
 | some (.s (.c c))=>some c
 | _=>none
variable {P}
theorem Qac {e:Look} {x:Operand} {c:C} (h:Qau e x=some c):evX e x=some (.s (.c c)):=by
 unfold Qau at h;split at h
 ·cases h;assumption
 ·cases h
theorem Qwx {op:BinOp} {k k':IntKind} {a b:Int} {v:Value} (h:Qfv op k k' a b=some v):one v=true:=by
 cases op <;> simp only [Qfv] at h <;> (repeat' split at h) <;> cases h <;> rfl
theorem Qo2 {m:M} {w:World} {a:Act} {e:Look} {o:Oper} {op:BinOp} {T T':TypeId} {x y:Operand} {k k':IntKind} {n n':Int} {v:Value} (he:EL m e a) (ho:o.op=.binOp op T x y T')
  (hx:evX e x=some (.s (.c (.flat (.int k n))))) (hy:evX e y=some (.s (.c (.flat (.int k' n'))))) (h:Qfv op k k' n n'=some v):DoesS P m w a o (.s (.c (.flat v))):=by
 have h1:a.eval x=.int k n:=(show VC m (.flat (.int k n)) (a.eval x) from Qai he hx).1;have h2:a.eval y=.int k' n':=(show VC m (.flat (.int k' n')) (a.eval y) from Qai he hy).1;exact DoesS.same (v:=v) (Qc3 ho (fun w=>by rw [h1,h2];simp [eqGuard]) (by rw [h1,h2];exact Qt7 h T w)) ⟨rfl,Qwx h⟩
variable (P)
def evOp (e:Look) (st:St) (o:Oper):Option (PV × St) :=
 match o.op with
 | .move x=>match evX e x with | some pv=>some (pv,st) | none=>none
 | .assign x=>match evX e x with | some pv=>some (pv,st) | none=>none
 | .pick c x y=>match Qau e c with
  | some (.flat (.bool t))=>match evX e (if t then x else y) with | some pv=>some (pv,st) | none=>none
  | _=>none
 | .alloc T=>Qff P st T
 | .box T x=>match evX e x with | some u=>Qw1 st T u | none=>none
 | .load T x=>match Qau e x with
  | some (.ptr i off)=>match Qd3 P st T i off with | some s=>some (.s s,st) | none=>none
  | _=>none
 | .store T x y=>match Qau e x,evX e y with
  | some (.ptr i off),some (.s s)=>match Qbm P st T i off s with | some st'=>some (.skip,st') | none=>none
  | _,_=>none
 | .nilCheck x=>match Qau e x with
  | some c=>if Zaq c then some (.s (.c c),st) else none
  | _=>none
 | .fieldAddr T x f=>match Qau e x with
  | some (.ptr i off)=>match Qdg P T f i off with | some pv=>some (pv,st) | none=>none
  | _=>none
 | .field T x f=>match evX e x with
  | some (.s (.a cs))=>match Qjv P T f cs with | some pv=>some (pv,st) | none=>none
  | _=>none
 | .indexAddr T x y=>match Qau e x,Qau e y with
  | some c,some (.flat (.int _ n))=>match Qdf P T n c with | some pv=>some (pv,st) | none=>none
  | _,_=>none
 | .index T x y=>match evX e x,Qau e y with
  | some (.s s),some (.flat (.int _ n))=>match Qju P T n s with | some pv=>some (pv,st) | none=>none
  | _,_=>none
 | .slice T x lo hi none=>match Qau e x with
  | some (.flat _)=>match Qel P e o with | some pv=>some (pv,st) | none=>none
  | some c=>match Qcn P e T lo hi c with | some c'=>some (.s (.c c'),st) | none=>none
  | none=>none
 | .makeSlice T x y=>match Qau e x,Qau e y with
  | some (.flat (.int _ l)),some (.flat (.int _ c))=>Qjt P st T l c
  | _,_=>none
 | .build T ps=>match Qde e ps.toList with
  | some qs=>match Qq0 P T qs with | some pv=>some (pv,st) | none=>none
  | none=>none
 | .buildSlice T n ps=>match Qde e ps.toList with
  | some qs=>Qa4 P st T n qs
  | none=>none
 | .makeFunc fn first caps=>match Qc7 e fn first caps with | some pv=>some (pv,st) | none=>none
 | .extract x k=>match evX e x with
  | some (.t xs)=>match xs[k]? with | some s=>some (.s s,st) | none=>none
  | _=>none
 | .convert src dst x=>if src=dst∧Qct P src=true then match Qau e x with
   | some c=>Qjs st c
   | none=>none
  else if Qct P src && Qcy P dst then match Qau e x with
   | some c=>match Qyx st c with | some c'=>some (.s (.c c'),st) | none=>none
   | none=>none
  else match Qel P e o with | some pv=>some (pv,st) | none=>none
 | .binOp op T x y _=>match Qau e x,Qau e y with
  | some (.flat (.int k a)),some (.flat (.int k' b))=>(match Qfv op k k' a b with
   | some v=>some (.s (.c (.flat v)),st)
   | none=>match Qel P e o with | some pv=>some (pv,st) | none=>none)
  | some (.str s),some (.str t)=>(match op with
   | .add=>if s.length+t.length≤9223372036854775807 then some (.s (.c (.str (s++t))),st) else none
   | op=>match Qjw op s t with | some b=>some (.s (.c (.flat (.bool b))),st) | none=>none)
  | some (.ptr i off),some d=>match Qt9 P op T (.ptr i off) d with | some b=>some (.s (.c (.flat (.bool b))),st) | none=>none
  | some (.sl i off n sz),some d=>match Qt9 P op T (.sl i off n sz) d with | some b=>some (.s (.c (.flat (.bool b))),st) | none=>none
  | some (.emp z),some d=>match Qt9 P op T (.emp z) d with | some b=>some (.s (.c (.flat (.bool b))),st) | none=>none
  | some (.q i off sz),some d=>match Qt9 P op T (.q i off sz) d with | some b=>some (.s (.c (.flat (.bool b))),st) | none=>none
  | _,_=>match Qel P e o with | some pv=>some (pv,st) | none=>none
 | .call { callee:=.builtin .len,args:=args,argTypes:=ts }=>match args.toList,ts[0]? with
  | [x],some T=>match Qk4 T with
   | true=>(match Qau e x with
    | some (.mp i)=>match Qih P st T i with | some n=>some (.s (.c (.flat (.int .i64 (n:Int)))),st) | none=>none
    | _=>none)
   | false=>(match Qau e x with
    | some c=>match Qlc P T c with | some n=>some (.s (.c (.flat (.int .i64 (n:Int)))),st) | none=>none
    | none=>none)
  | _,_=>none
 | .call { callee:=.builtin .append,args:=args,argTypes:=ts }=>match args.toList,ts.toList with
  | [s,x],[T,T']=>if T=T' then match Qau e s,Qau e x with
    | some c,some d=>Qen P st T c d
    | _,_=>none
   else none
  | _,_=>none
 | .makeMap _ none=>some (Qcv st)
 | .lookup T x y ok=>match Qau e x,evX e y with
  | some (.mp i),some k=>match Qfe P st T i k ok with | some pv=>some (pv,st) | none=>none
  | _,_=>none
 | .mapUpdate T x y z=>match Qau e x,evX e y,Qau e z with
  | some (.mp i),some k,some v=>match Qdm P st T i k v with | some st'=>some (.skip,st') | none=>none
  | _,_,_=>none
 | .insert T x y z=>match Qau e x,evX e y,Qau e z with
  | some (.mp i),some k,some v=>match Qdm P st T i k v with | some st'=>some (.skip,st') | none=>none
  | _,_,_=>none
 | _=>match Qel P e o with | some pv=>some (pv,st) | none=>none
variable {P}
theorem Qfg {m:M} {st st':St} {w:World} {a:Act} {e:Look} {o:Oper} {pv:PV} (hs:SR m st.h w) (he:EL m e a) (h:(match Qel P e o with | some pv=>some (pv,st) | none=>none)=some (pv,st')):Does P m st w a o pv st':=by
 split at h
 ·cases h;exact (Qso he (by assumption)).to hs
 ·cases h
theorem Qo5 {m:M} {st st':St} {w:World} {a:Act} {e:Look} {o:Oper} {pv:PV} (hs:SR m st.h w) (he:EL m e a) (h:evOp P e st o=some (pv,st')):Does P m st w a o pv st':=by
 unfold evOp at h;split at h
 ·rename_i x ho;split at h
  ·cases h;exact (Qgn he (.inl ho) (by assumption)).to hs
  ·cases h
 ·rename_i x ho;split at h
  ·cases h;exact (Qgn he (.inr ho) (by assumption)).to hs
  ·cases h
 ·rename_i c x y ho;split at h
  ·rename_i hc;split at h
   ·cases h;exact (Qnx he ho (Qac hc) (by assumption)).to hs
   ·cases h
  ·cases h
 ·rename_i T ho;exact Qo7 hs ho h
 ·rename_i T x ho;split at h
  ·exact Qub hs he ho (by assumption) h
  ·cases h
 ·rename_i T x ho;split at h
  ·rename_i hc;split at h
   ·cases h;exact Qv8 hs he ho (Qac hc) (by assumption)
   ·cases h
  ·cases h
 ·rename_i T x y ho;split at h
  ·rename_i hc hy;split at h
   ·cases h;exact Qs5 hs he ho (Qac hc) hy (by assumption)
   ·cases h
  ·cases h
 ·rename_i x ho;split at h
  ·rename_i hc;split at h
   ·cases h;exact (Qgm he ho (Qac hc) (by assumption)).to hs
   ·cases h
  ·cases h
 ·rename_i T x f ho;split at h
  ·rename_i hc;split at h
   ·cases h;exact (Qf0 he ho (Qac hc) (by assumption)).to hs
   ·cases h
  ·cases h
 ·rename_i T x f ho;split at h
  ·rename_i hc;split at h
   ·cases h;exact (Qk9 he ho hc (by assumption)).to hs
   ·cases h
  ·cases h
 ·rename_i T x y ho;split at h
  ·rename_i hc hy;split at h
   ·cases h;exact (Qfy he ho (Qac hc) (Qac hy) (by assumption)).to hs
   ·cases h
  ·cases h
 ·rename_i T x y ho;split at h
  ·rename_i hc hy;split at h
   ·cases h;exact (Qk5 he ho hc (Qac hy) (by assumption)).to hs
   ·cases h
  ·cases h
 ·rename_i T x lo hi ho;split at h
  ·exact Qfg hs he h
  ·rename_i hc;split at h
   ·cases h;exact (Qkr he ho (Qac hc) (by assumption)).to hs
   ·cases h
  ·cases h
 ·rename_i T x y ho;split at h
  ·rename_i hc hy;exact Qv5 hs he ho (Qac hc) (Qac hy) h
  ·cases h
 ·rename_i T ps ho;split at h
  ·rename_i hp;split at h
   ·cases h;exact (Qlg he ho hp (by assumption)).to hs
   ·cases h
  ·cases h
 ·rename_i T n ps ho;split at h
  ·rename_i hp;exact Qj5 hs he ho hp h
  ·cases h
 ·rename_i fn first caps ho
  split at h
  ·cases h;exact (Qgr he ho (by assumption)).to hs
  ·cases h
 ·rename_i x k ho;split at h
  ·rename_i hx;split at h
   ·cases h;exact (Qhy he ho hx (by assumption)).to hs
   ·cases h
  ·cases h
 ·rename_i src dst x ho;split at h
  ·rename_i hc;obtain ⟨rfl,hc⟩:=hc;split at h
   ·rename_i hx;exact Qv3 hs he ho hc (Qac hx) h
   ·cases h
  split at h
  ·rename_i hc;simp only [Bool.and_eq_true] at hc;split at h
   ·rename_i hx;split at h
    ·cases h;exact Qxw hs he ho hc.1 hc.2 (Qac hx) (by assumption)
    ·cases h
   ·cases h
  ·exact Qfg hs he h
 ·rename_i op T x y T' ho;split at h
  ·rename_i hx hy;split at h
   ·cases h;exact (Qo2 he ho (Qac hx) (Qac hy) (by assumption)).to hs
   ·exact Qfg hs he h
  ·rename_i hx hy;split at h
   ·split at h
    ·cases h;exact (Qsv he ho (Qac hx) (Qac hy) (by assumption)).to hs
    ·cases h
   ·split at h
    ·cases h;exact (Qle he ho (Qac hx) (Qac hy) (by assumption)).to hs
    ·cases h
  ·rename_i hx hy;split at h
   ·cases h;exact (Qdl he ho (Qac hx) (Qac hy) (by assumption)).to hs
   ·cases h
  ·rename_i hx hy;split at h
   ·cases h;exact (Qdl he ho (Qac hx) (Qac hy) (by assumption)).to hs
   ·cases h
  ·rename_i hx hy;split at h
   ·cases h;exact (Qdl he ho (Qac hx) (Qac hy) (by assumption)).to hs
   ·cases h
  ·rename_i hx hy;split at h
   ·cases h;exact (Qdl he ho (Qac hx) (Qac hy) (by assumption)).to hs
   ·cases h
  ·exact Qfg hs he h
 ·rename_i args ts ho;split at h
  ·rename_i x T hargs hts;have ha:args=#[x]:=by apply Array.ext';simpa using hargs
   subst ha;split at h
   ·split at h
    ·rename_i hx;split at h
     ·cases h;exact (Qqe hs he ho hts (Qac hx) (by assumption)).to hs
     ·cases h
    ·cases h
   ·split at h
    ·rename_i hx;split at h
     ·cases h;exact (Qr9 he ho hts (Qac hx) (by assumption)).to hs
     ·cases h
    ·cases h
  ·cases h
 ·rename_i args ts ho;split at h
  ·rename_i s x T T' hargs hts;split at h
   ·rename_i heq;subst heq;split at h
    ·rename_i hx hy;have ha:args=#[s,x]:=by apply Array.ext';simpa using hargs
     have ht:ts=#[T,T]:=by apply Array.ext';simpa using hts
     subst ha;subst ht;exact Qra hs he ho (Qac hx) (Qac hy) h
    ·cases h
   ·cases h
  ·cases h
 ·rename_i T ho;cases h;exact Qoi hs ho
 ·rename_i T x y ok ho;split at h
  ·rename_i hx hy;split at h
   ·cases h;exact (Qon hs he ho (Qac hx) hy (by assumption)).to hs
   ·cases h
  ·cases h
 ·rename_i T x y z ho;split at h
  ·rename_i hx hy hz;split at h
   ·cases h;exact Qi1 hs he (.inl ho) (Qac hx) hy (Qac hz) (by assumption)
   ·cases h
  ·cases h
 ·rename_i T x y z ho;split at h
  ·rename_i hx hy hz;split at h
   ·cases h;exact Qi1 hs he (.inr ho) (Qac hx) hy (Qac hz) (by assumption)
   ·cases h
  ·cases h
 ·exact Qfg hs he h
def Qnw:Op→Bool
 | .move _=>true
 | .assign _=>true
 | .pick ..=>true
 | .nilCheck _=>true
 | .fieldAddr ..=>true
 | .field ..=>true
 | .indexAddr ..=>true
 | .index ..=>true
 | .extract ..=>true
 | .build ..=>true
 | .makeFunc ..=>true
 | .slice ..=>true
 | .binOp ..=>true
 | .unOp ..=>true
 | .makeInterface ..=>true
 | .call { callee:=.builtin .len,argTypes:=ts,.. }=>!(ts[0]?.any Qk4)
 | .call { callee:=.builtin .min,.. }=>true
 | .call { callee:=.builtin .max,.. }=>true
 | _=>false
theorem Qij {e:Look} {st st':St} {o:Oper} {pv:PV} (h:(match Qel P e o with | some pv=>some (pv,st) | none=>none)=some (pv,st')):st'=st∧∀ (m:M) (w:World) (a:Act),EL m e a→DoesS P m w a o pv:=by
 split at h
 ·cases h;exact ⟨rfl,fun m w a he=>Qso he (by assumption)⟩
 ·cases h
theorem Qnv {e:Look} {st st':St} {o:Oper} {pv:PV} (hk:Qnw o.op=true) (h:evOp P e st o=some (pv,st')):st'=st∧∀ (m:M) (w:World) (a:Act),EL m e a→DoesS P m w a o pv:=by
 unfold evOp at h;split at h
 ·rename_i x ho;split at h
  ·cases h;exact ⟨rfl,fun m w a he=>Qgn he (.inl ho) (by assumption)⟩
  ·cases h
 ·rename_i x ho;split at h
  ·cases h;exact ⟨rfl,fun m w a he=>Qgn he (.inr ho) (by assumption)⟩
  ·cases h
 ·rename_i c x y ho;split at h
  ·rename_i hc;split at h
   ·cases h;exact ⟨rfl,fun m w a he=>Qnx he ho (Qac hc) (by assumption)⟩
   ·cases h
  ·cases h
 ·rename_i ho;rw [ho] at hk;cases hk
 ·rename_i ho;rw [ho] at hk;cases hk
 ·rename_i ho;rw [ho] at hk;cases hk
 ·rename_i ho;rw [ho] at hk;cases hk
 ·rename_i x ho;split at h
  ·rename_i hc;split at h
   ·cases h;exact ⟨rfl,fun m w a he=>Qgm he ho (Qac hc) (by assumption)⟩
   ·cases h
  ·cases h
 ·rename_i T x f ho;split at h
  ·rename_i hc;split at h
   ·cases h;exact ⟨rfl,fun m w a he=>Qf0 he ho (Qac hc) (by assumption)⟩
   ·cases h
  ·cases h
 ·rename_i T x f ho;split at h
  ·rename_i hc;split at h
   ·cases h;exact ⟨rfl,fun m w a he=>Qk9 he ho hc (by assumption)⟩
   ·cases h
  ·cases h
 ·rename_i T x y ho;split at h
  ·rename_i hc hy;split at h
   ·cases h;exact ⟨rfl,fun m w a he=>Qfy he ho (Qac hc) (Qac hy) (by assumption)⟩
   ·cases h
  ·cases h
 ·rename_i T x y ho;split at h
  ·rename_i hc hy;split at h
   ·cases h;exact ⟨rfl,fun m w a he=>Qk5 he ho hc (Qac hy) (by assumption)⟩
   ·cases h
  ·cases h
 ·rename_i T x lo hi ho;split at h
  ·exact Qij h
  ·rename_i hc;split at h
   ·cases h;exact ⟨rfl,fun m w a he=>Qkr he ho (Qac hc) (by assumption)⟩
   ·cases h
  ·cases h
 ·rename_i ho;rw [ho] at hk;cases hk
 ·rename_i T ps ho;split at h
  ·rename_i hp;split at h
   ·cases h;exact ⟨rfl,fun m w a he=>Qlg he ho hp (by assumption)⟩
   ·cases h
  ·cases h
 ·rename_i ho;rw [ho] at hk;cases hk
 ·rename_i fn first caps ho
  split at h
  ·cases h;exact ⟨rfl,fun m w a he=>Qgr he ho (by assumption)⟩
  ·cases h
 ·rename_i x k ho;split at h
  ·rename_i hx;split at h
   ·cases h;exact ⟨rfl,fun m w a he=>Qhy he ho hx (by assumption)⟩
   ·cases h
  ·cases h
 ·rename_i ho;rw [ho] at hk;cases hk
 ·rename_i op T x y T' ho;split at h
  ·rename_i hx hy;split at h
   ·cases h;exact ⟨rfl,fun m w a he=>Qo2 he ho (Qac hx) (Qac hy) (by assumption)⟩
   ·exact Qij h
  ·rename_i hx hy;split at h
   ·split at h
    ·cases h;exact ⟨rfl,fun m w a he=>Qsv he ho (Qac hx) (Qac hy) (by assumption)⟩
    ·cases h
   ·split at h
    ·cases h;exact ⟨rfl,fun m w a he=>Qle he ho (Qac hx) (Qac hy) (by assumption)⟩
    ·cases h
  ·rename_i hx hy;split at h
   ·cases h;exact ⟨rfl,fun m w a he=>Qdl he ho (Qac hx) (Qac hy) (by assumption)⟩
   ·cases h
  ·rename_i hx hy;split at h
   ·cases h;exact ⟨rfl,fun m w a he=>Qdl he ho (Qac hx) (Qac hy) (by assumption)⟩
   ·cases h
  ·rename_i hx hy;split at h
   ·cases h;exact ⟨rfl,fun m w a he=>Qdl he ho (Qac hx) (Qac hy) (by assumption)⟩
   ·cases h
  ·rename_i hx hy;split at h
   ·cases h;exact ⟨rfl,fun m w a he=>Qdl he ho (Qac hx) (Qac hy) (by assumption)⟩
   ·cases h
  ·exact Qij h
 ·rename_i args ts ho;split at h
  ·rename_i x T hargs hts;have ha:args=#[x]:=by apply Array.ext';simpa using hargs
   subst ha;split at h
   ·rename_i hmt;rw [ho] at hk;simp [Qnw,hts,hmt] at hk
   ·split at h
    ·rename_i hx;split at h
     ·cases h;exact ⟨rfl,fun m w a he=>Qr9 he ho hts (Qac hx) (by assumption)⟩
     ·cases h
    ·cases h
  ·cases h
 ·rename_i ho;rw [ho] at hk;cases hk
 ·rename_i ho;rw [ho] at hk;cases hk
 ·rename_i ho;rw [ho] at hk;cases hk
 ·rename_i ho;rw [ho] at hk;cases hk
 ·rename_i ho;rw [ho] at hk;cases hk
 ·exact Qij h
def Qeg (P:Program) (f:FuncId):Bool:=match P.funcs[f]? with
 | some fn=>fn.body.isSome
 | none=>false
abbrev Qav:=FuncId→List PV→St→Option (PV × St)
def Qfj (P:Program) (ev:Qav):Prop:=∀ F pvs st r st' m w args,ev F pvs st=some (r,st')→SR m st.h w→All2 (VP m) pvs args →
 Calls P F args.toArray w fun e w'=>∃ v m',e=.returned v∧VP m' r v∧Res m st w m' st' w'
def Zcx (p:Nat × Nat):PV:=.s (.c (.ptr p.1 p.2))
def Qce (e:Look) (c:Call):Option (FuncId × List PV):=match c.callee with
 | .value f=>match Qau e f with
  | some (.fn g caps)=>match all? (evX e) c.args.toList with
   | some as=>some (g,as++caps.map Zcx)
   | none=>none
  | some (.mt g i off)=>match all? (evX e) c.args.toList with
   | some as=>some (g,Zcx (i,off) :: as)
   | none=>none
  | _=>none
 | _=>none
def Qcx (P : Program) : Prop := ∀ (f : Nat) (fn : Func), P.funcs[f]? = some fn → (fn.name == "runtime.NumGoroutine") = false
theorem Qpk (hN:Qcx P) {m:M} {e:Look} {a:Act} {o:Oper} {c:Call} {g:FuncId} {pvs:List PV} {w:World} (he:EL m e a) (ho:o.op=.call c) (h:Qce e c=some (g,pvs)) (hb:Qeg P g=true) :
  ∃ args:List Value,(execOp a.eval o).run P w=.ok (.enter g args.toArray) w∧All2 (VP m) pvs args:=by
 unfold Qce at h;split at h
 ·rename_i f hf;split at h
  ·rename_i g' caps hg;split at h
   ·rename_i as has;cases h;obtain ⟨vs,hv,h2⟩:VC m (.fn g caps) (a.eval f):=Qai he (Qac hg);have hsp:=Qbh has;refine ⟨(c.args.map a.eval).toList++vs,?_,?_⟩
    ·unfold Qeg at hb;split at hb
     ·rename_i fn hfn;have hn:=hN g fn hfn;have hn' : ¬ fn.name = "runtime.NumGoroutine" := by simpa using hn
      have hb':¬ fn.body=none:=by cases hh:fn.body <;> simp_all
      have hc:∀ args,(callFunc g args).run P w=.ok (.enter g args) w:=fun args=>by
       simp [callFunc,hfn,hn',hb']
      have hap:(c.args.map a.eval).toList.toArray++vs.toArray=((c.args.map a.eval).toList++vs).toArray:=by simp
      obtain ⟨cl,cargs,cts⟩:=c;simp only at hf hv hap;subst hf;simp only [Array.toArray_toList] at hap;simp [execOp,ho,resolve,Deferred.ofValue,hv,invoke,hc]
     ·cases hb
    ·refine All2.append ⟨by rw [← hsp.1];simp,fun j x v hx hv=>?_⟩ ?_
     ·have hj:j < c.args.toList.length:=by rw [hsp.1];exact (List.getElem?_eq_some_iff.1 hx).1
      have h1:=hsp.2 j c.args.toList[j] x (by simp) hx;have hve:v=a.eval c.args.toList[j]:=by
       have hj':j < c.args.size:=by simpa using hj
       simp [hj'] at hv;simp [← hv]
      rw [hve];exact Qai he h1
     ·refine ⟨by simp [h2.1],fun j x v hx hv=>?_⟩;rw [List.getElem?_map] at hx;cases hc:caps[j]? with
      | none=>rw [hc] at hx;cases hx
      | some q =>
       rw [hc] at hx;cases hx;exact h2.2 j q v hc hv
   ·cases h
  ·rename_i g' i off hg;split at h
   ·rename_i as has;cases h;obtain ⟨p,hm,hv⟩:VC m (.mt g i off) (a.eval f):=Qai he (Qac hg);have hsp:=Qbh has;refine ⟨.pointer (some ⟨p.b,p.o+off,none⟩) :: (c.args.map a.eval).toList,?_,All2.cons ⟨p,hm,rfl⟩ ⟨by rw [← hsp.1];simp,fun j x v hx hv=>?_⟩⟩
    ·unfold Qeg at hb;split at hb
     ·rename_i fn hfn;have hn:=hN g fn hfn;have hn' : ¬ fn.name = "runtime.NumGoroutine" := by simpa using hn
      have hb':¬ fn.body=none:=by cases hh:fn.body <;> simp_all
      have hc:∀ args,(callFunc g args).run P w=.ok (.enter g args) w:=fun args=>by
       simp [callFunc,hfn,hn',hb']
      obtain ⟨cl,cargs,cts⟩:=c;simp only at hf hv;subst hf;have hap:#[.pointer (some ⟨p.b,p.o+off,none⟩)]++Array.map a.eval cargs=(Value.pointer (some ⟨p.b,p.o+off,none⟩) :: (Array.map a.eval cargs).toList).toArray:=by apply Array.ext';simp
      simp [execOp,ho,resolve,Deferred.ofValue,hv,invoke,hc,hap]
     ·cases hb
    ·have hj:j < c.args.toList.length:=by rw [hsp.1];exact (List.getElem?_eq_some_iff.1 hx).1
     have h1:=hsp.2 j c.args.toList[j] x (by simp) hx;have hve:v=a.eval c.args.toList[j]:=by
      have hj':j < c.args.size:=by simpa using hj
      simp [hj'] at hv;simp [← hv]
     rw [hve];exact Qai he h1
   ·cases h
  ·cases h
 ·cases h
variable (P)
def Qcf (ev:Qav) (e:Look) (st:St) (o:Oper):Option (PV × St) :=
 match o.op with
 | .call c=>match c.callee with
  | .builtin _=>evOp P e st o
  | _=>match Qce e c with
   | some (g,pvs)=>if Qeg P g then ev g pvs st else none
   | none=>none
 | _=>evOp P e st o
structure Plan where
 run:Qav→Look→St→Option (PV × St)
def Qr1 (x:Operand) (_:Qav) (e:Look) (st:St):Option (PV × St):=match evX e x with | some pv=>some (pv,st) | none=>none
def Qzm (o:Oper) (_:Qav) (e:Look) (st:St):Option (PV × St):=evOp P e st o
def Qzn (T:TypeId) (x:Operand) (_:Qav) (e:Look) (st:St):Option (PV × St):=match Qau e x with
  | some (.ptr i off)=>match Qd3 P st T i off with | some s=>some (.s s,st) | none=>none
  | _=>none
def Zb5 (c:Call) (ev:Qav) (e:Look) (st:St):Option (PV × St):=match Qce e c with
   | some (g,pvs)=>if Qeg P g then ev g pvs st else none
   | none=>none
def intC:C→Option (IntKind × Int)
 | .flat (.int k a)=>some (k,a)
 | _=>none
structure FI where
 f:IntKind→IntKind→Int→Int→Option Value
def fAdd (k k':IntKind) (a b:Int):Option Value:=if k=k' then some (.int k (Qg8 k (a+b))) else none
def fSub (k k':IntKind) (a b:Int):Option Value:=if k=k' then some (.int k (Qg8 k (a - b))) else none
def fLss (k k':IntKind) (a b:Int):Option Value:=if k=k' then some (.bool (ltF a b)) else none
def fEql (k k':IntKind) (a b:Int):Option Value:=if k=k' then some (.bool (eqF a b)) else none
def Zdc (op:BinOp) (k k':IntKind) (a b:Int):Option Value:=Qfv op k k' a b
def selI (op:BinOp):FI:=match op with
 | .add=>⟨fAdd⟩
 | .sub=>⟨fSub⟩
 | .lss=>⟨fLss⟩
 | .eql=>⟨fEql⟩
 | op=>⟨Zdc op⟩
theorem Zae (op:BinOp) (k k':IntKind) (a b:Int):(selI op).f k k' a b=Qfv op k k' a b:=by cases op <;> rfl
def Zap (f:IntKind→IntKind→Int→Int→Option Value) (x y:Operand) (o:Oper) (_:Qav) (e:Look) (st:St):Option (PV × St):=match Qau e x with
 | none=>evOp P e st o
 | some cx=>match intC cx with
  | none=>evOp P e st o
  | some (k,a)=>match Qau e y with
   | none=>evOp P e st o
   | some cy=>match intC cy with
    | none=>evOp P e st o
    | some (k',b)=>match f k k' a b with
     | some v=>some (.s (.c (.flat v)),st)
     | none=>evOp P e st o
def plan (o:Oper):Plan:=match o.op with
 | .move x=>⟨Qr1 x⟩
 | .assign x=>⟨Qr1 x⟩
 | .load T x=>⟨Qzn P T x⟩
 | .binOp op _ x y _=>match selI op with | ⟨f⟩=>⟨Zap P f x y o⟩
 | .call c=>match c.callee with
  | .builtin _=>⟨Qzm P o⟩
  | _=>⟨Zb5 P c⟩
 | _=>⟨Qzm P o⟩
def Qbd (ev:Qav) (e:Look) (st:St) (o:Oper):Option (PV × St):=(plan P o).run ev e st
variable {P}
theorem Qor {c:C} {k:IntKind} {a:Int} (h:intC c=some (k,a)):c=.flat (.int k a):=by
 unfold intC at h;split at h
 ·cases h;rfl
 ·cases h
theorem Qyb {ev:Qav} {e:Look} {st:St} {o:Oper} {op:BinOp} {T T':TypeId} {x y:Operand} (ho:o.op=.binOp op T x y T'):Zap P (selI op).f x y o ev e st=evOp P e st o:=by
 unfold Zap;split
 ·rfl
 ·rename_i cx hx;split
  ·rfl
  ·rename_i k a hcx;split
   ·rfl
   ·rename_i cy hy;split
    ·rfl
    ·rename_i k' b hcy;split
     ·rename_i v hv;have h1:=Qor hcx;have h2:=Qor hcy;subst h1;subst h2;rw [Zae] at hv;simp only [evOp,ho,hx,hy,hv]
     ·rfl
theorem Qbb {ev:Qav} {e:Look} {st:St} {o:Oper}:Qbd P ev e st o=Qcf P ev e st o:=by
 unfold Qbd plan Qcf;split
 ·rename_i x ho;simp only [Qr1,evOp,ho]
 ·rename_i x ho;simp only [Qr1,evOp,ho]
 ·rename_i T x ho;simp only [Qzn,evOp,ho]
 ·rename_i op T x y T' ho;simp only [ho];exact Qyb ho
 ·rename_i c ho;simp only [ho];obtain ⟨cl,args,ts⟩:=c;cases cl <;> rfl
 ·rename_i hcall;split
  ·rename_i c ho;exact (hcall c ho).elim
  ·rfl
def Zc6 (m:M) (st:St) (w:World) (a:Act) (o:Oper) (pv:PV) (st':St) (a':Act) (w':World):Prop:=∃ v m',a'=a.put o.dst v∧VP m' pv v∧Res m st w m' st' w'
theorem Qkm {m:M} {st st':St} {w:World} {a:Act} {o:Oper} {pv:PV} {Q:Exit→Act→World→Prop} (h:Does P m st w a o pv st'):o.wp P a w (Zc6 m st w a o pv st') Q:=by
 obtain ⟨nx,v,w',m',hr,hn,hv,hres⟩:=h;unfold Oper.wp;rw [hr];rcases hn with rfl | ⟨rfl,rfl⟩
 ·exact ⟨v,m',rfl,hv,hres⟩
 ·exact ⟨undef,m',rfl,hv,hres⟩
theorem Qiu (hN:Qcx P) {ev:Qav} (hev:Qfj P ev) {m:M} {st st':St} {w:World} {a:Act} {e:Look} {o:Oper} {pv:PV} {Q:Exit→Act→World→Prop} (hs:SR m st.h w) (he:EL m e a) (h:Qbd P ev e st o=some (pv,st')) :
  o.wp P a w (Zc6 m st w a o pv st') Q:=by
 rw [Qbb] at h;unfold Qcf at h;split at h
 ·rename_i c ho;split at h
  ·exact Qkm (Qo5 hs he h)
  ·split at h
   ·rename_i g pvs ht;split at h
    ·rename_i hb;obtain ⟨args,hr,hall⟩:=Qpk hN (w:=w) he ho ht hb;unfold Oper.wp;rw [hr];refine (hev g pvs st pv st' m w args h hs hall).mono fun e' w' ⟨v,m',he',hv,hres⟩=>?_;subst he';exact ⟨v,m',rfl,hv,hres⟩
    ·cases h
   ·cases h
 ·exact Qkm (Qo5 hs he h)
theorem Qiv {ev:Qav} {e:Look} {st st':St} {o:Oper} {pv:PV} (hk:Qnw o.op=true) (h:Qbd P ev e st o=some (pv,st')):st'=st∧∀ (m:M) (w:World) (a:Act),EL m e a→DoesS P m w a o pv:=by
 rw [Qbb] at h;unfold Qcf at h;split at h
 ·rename_i c ho;split at h
  ·exact Qnv hk h
  ·rename_i hne;exfalso;rw [ho] at hk;obtain ⟨cl,args,ts⟩:=c;cases cl with
   | builtin b=>exact hne b rfl
   | value f=>cases hk
   | invoke r n=>cases hk
 ·exact Qnv hk h
def Qcu:Op→Bool
 | .load ..=>true
 | _=>false
def Qc0 (o:Op):Bool:=Qnw o || Qcu o
variable (P)
def evLd (e:Look) (st:St) (o:Oper):Option S:=match o.op with
 | .load T x=>match Qau e x with
  | some (.ptr i off)=>Qd3 P st T i off
  | _=>none
 | _=>none
variable {P}
theorem Qmk {m:M} {st:St} {w:World} {a:Act} {e:Look} {o:Oper} {s:S} (hs:SR m st.h w) (he:EL m e a) (h:evLd P e st o=some s):DoesS P m w a o (.s s):=by
 unfold evLd at h;split at h
 ·rename_i T x ho;split at h
  ·rename_i hc;exact Qk2 hs he ho (Qac hc) h
  ·cases h
 ·cases h
theorem Qur {ev:Qav} {e:Look} {st st':St} {o:Oper} {pv:PV} (hk:Qcu o.op=true) (h:Qbd P ev e st o=some (pv,st')):st'=st:=by
 rw [Qbb] at h;unfold Qcf at h;split at h
 ·rename_i ho;rw [ho] at hk;cases hk
 ·unfold Qcu at hk;split at hk
  ·rename_i T x ho;simp only [evOp,ho] at h;split at h
   ·split at h
    ·cases h;rfl
    ·cases h
   ·cases h
  ·cases hk
theorem Qpn {ev:Qav} {e:Look} {st st':St} {o:Oper} {pv:PV} (hk:Qcu o.op=true) (h:Qbd P ev e st o=some (pv,st')):∃ s,evLd P e st o=some s∧pv=.s s:=by
 rw [Qbb] at h;unfold Qcf at h;split at h
 ·rename_i ho;rw [ho] at hk;cases hk
 ·unfold Qcu at hk;split at hk
  ·rename_i T x ho;simp only [evOp,ho] at h;unfold evLd;simp only [ho];split at h
   ·split at h
    ·rename_i s hs;cases h;exact ⟨s,hs,rfl⟩
    ·cases h
   ·cases h
  ·cases hk
theorem Qf8 {ev:Qav} {e:Look} {st st':St} {o:Oper} (hk:Qcu o.op=true) (h:Qbd P ev e st o=some (.skip,st')):False:=by
 obtain ⟨s,_,h2⟩:=Qpn hk h;cases h2
def eqV:Value→Value→Bool
 | .int k a,.int k' b=>decide (k=k') && a == b
 | .bool a,.bool b=>a == b
 | .pointer none,.pointer none=>true
 | .slice none a b,.slice none c d=>a == c && b == d
 | .nilIface,.nilIface=>true
 | _,_=>false
theorem Qyy {a b:Value} (h:eqV a b=true):a=b:=by
 unfold eqV at h;split at h <;> simp at h
 ·obtain ⟨rfl,rfl⟩:=h;rfl
 ·subst h;rfl
 ·rfl
 ·obtain ⟨rfl,rfl⟩:=h;rfl
 ·rfl
def eqC:C→C→Bool
 | .flat a,.flat b=>eqV a b
 | .str a,.str b=>a == b
 | .emp a,.emp b=>a == b
 | .q a b c,.q a' b' c'=>a == a' && b == b' && c == c'
 | .low a b,.low c d=>a == c && b == d
 | .sl a b c d,.sl a' b' c' d'=>a == a' && b == b' && c == c' && d == d'
 | .ptr a b,.ptr c d=>a == c && b == d
 | .fn f c,.fn g d=>f == g && c == d
 | _,_=>false
theorem Qsn {a b:C} (h:eqC a b=true):a=b:=by
 unfold eqC at h;split at h
 ·rw [Qyy h]
 ·simp at h;subst h;rfl
 ·simp at h;subst h;rfl
 ·simp at h;obtain ⟨⟨rfl,rfl⟩,rfl⟩:=h;rfl
 ·simp at h;obtain ⟨rfl,rfl⟩:=h;rfl
 ·simp at h;obtain ⟨⟨⟨rfl,rfl⟩,rfl⟩,rfl⟩:=h;rfl
 ·simp at h;obtain ⟨rfl,rfl⟩:=h;rfl
 ·simp at h;obtain ⟨rfl,rfl⟩:=h;rfl
 ·cases h
def eqCs:List C→List C→Bool
 | [],[]=>true
 | a :: x,b :: y=>eqC a b && eqCs x y
 | _,_=>false
theorem Qjy:∀ {a b:List C},eqCs a b=true→a=b
 | [],[],_=>rfl
 | a :: x,b :: y,h=>by
  simp only [eqCs,Bool.and_eq_true] at h;rw [Qsn h.1,Qjy h.2]
 | [],_ :: _,h=>by cases h
 | _ :: _,[],h=>by cases h
def eqS:S→S→Bool
 | .c a,.c b=>eqC a b
 | .a a,.a b=>eqCs a b
 | _,_=>false
theorem Qyz {a b:S} (h:eqS a b=true):a=b:=by
 cases a <;> cases b <;> simp [eqS] at h
 ·rw [Qsn h]
 ·rw [Qjy h]
def Qrq (r:Option S) (pv:PV):Bool:=match r,pv with
 | some a,.s b=>eqS a b
 | _,_=>false
theorem Qi3 {r:Option S} {pv:PV} (h:Qrq r pv=true):∃ s,r=some s∧pv=.s s:=by
 unfold Qrq at h;split at h
 ·exact ⟨_,rfl,by rw [Qyz h]⟩
 ·cases h
theorem Qip {m:M} {w:World} {a:Act} {o:Oper} {pv:PV} {Q:Exit→Act→World→Prop} (h:DoesS P m w a o pv):o.wp P a w (fun a' w'=>∃ v,a'=a.put o.dst v∧w'=w∧VP m pv v) Q:=by
 obtain ⟨v,hr,hv⟩:=h;unfold Oper.wp;rw [hr];exact ⟨v,rfl,rfl,hv⟩
def setE (e:Env) (d:Option Tmp) (pv:PV):Env:=match d with
 | some t=>e.set t pv
 | none=>e
theorem ER.put' {m:M} {e:Env} {a:Act} (h:ER m e a) {pv:PV} {v:Value} (hv:VP m pv v) (d:Option Tmp):ER m (setE e d pv) (a.put d v):=h.put hv d
def Qaz (ops:Array Oper) (e:Env) (o:Oper):Option Bool:=match o.guard with
 | none=>some true
 | some (j,want)=>match Flow.dstOf ops j with
  | none=>none
  | some d=>match e[d]? with
   | some (.s (.c (.flat (.bool b))))=>some (b == want)
   | some .skip=>some false
   | _=>none
theorem Qa7 {ops:Array Oper} {m:M} {e:Env} {a:Act} {o:Oper} {b:Bool} (he:ER m e a) (h:Qaz ops e o=some b):Region.wanted o (yielded ops a.tmps)=b:=by
 unfold Qaz at h;split at h
 ·cases h;rename_i hg;simp [Region.wanted,hg]
 ·rename_i j want hg;split at h
  ·cases h
  rename_i d hd;split at h
  ·rename_i b' hb;cases h;have hv:a.eval (.tmp d)=.bool b':=(show VP m (.s (.c (.flat (.bool b')))) (a.eval (.tmp d)) from Qe3 (x:=.tmp d) he hb).1;simp [Region.wanted,hg,Flow.yielded_of hd hv]
  ·rename_i hb;cases h;have hv:a.eval (.tmp d)=undef:=(show VP m .skip (a.eval (.tmp d)) from Qe3 (x:=.tmp d) he hb);simp [Region.wanted,hg,Flow.yielded_none hd hv]
  ·cases h
variable (P)
def Qjr (ev:Qav) (ops:Array Oper):List Oper→Env→St→Option (Env × St)
 | [],e,st=>some (e,st)
 | o :: r,e,st=>match Qaz ops e o with
  | none=>none
  | some false=>Qjr ev ops r (setE e o.dst .skip) st
  | some true=>match Qbd P ev (lk e) st o with
   | none=>none
   | some (pv,st')=>Qjr ev ops r (setE e o.dst pv) st'
variable {P}
theorem Quv (hN:Qcx P) {ev:Qav} (hev:Qfj P ev) {ops:Array Oper} {Q:Exit→Act→World→Prop}:∀ {l:List Oper} {m:M} {st st':St} {w:World} {a:Act} {e e':Env},SR m st.h w→ER m e a→Qjr P ev ops l e st=some (e',st') →
  (∀ a' w' m',ER m' e' a'→Res m st w m' st' w'→Q .normal a' w')→wpList P ops Q l a w
 | [],m,st,st',w,a,e,e',hs,he,h,hQ=>by
  cases h;exact hQ a w m he (Res.refl hs)
 | o :: r,m,st,st',w,a,e,e',hs,he,h,hQ=>by
  simp only [Qjr] at h;unfold wpList;cases hw:Qaz ops e o with
  | none=>rw [hw] at h;cases h
  | some b =>
   rw [hw] at h;rw [Qa7 he hw];cases b with
   | false =>
    simp only [Bool.false_eq_true,if_false];exact Quv hN hev hs (he.put' (pv:=.skip) rfl o.dst) h hQ
   | true =>
    simp only [if_true];cases hst:Qbd P ev (lk e) st o with
    | none=>simp only [hst] at h;cases h
    | some q =>
     obtain ⟨pv,st1⟩:=q;simp only [hst] at h;refine .inl (Oper.wp_mono ?_ (Qiu hN hev hs he.el hst));rintro a' w' ⟨v,m',rfl,hv,hres⟩;exact Quv hN hev hres.sr ((he.ext hres.fr.same).put' hv o.dst) h fun a2 w2 m2 h1 h2=>hQ a2 w2 m2 h1 (hres.trans h2)
end Ev
end Go.Proofs.YtcpodmjcgfgmnaaGreat
