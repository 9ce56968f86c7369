/- Ev: a function's code, run on what is known of its values. Eighth part: operations one behind the other. No program. -/
import Derived.Test.YtcpodmjcgfgmnaaMEvb
import Derived.Test.YtcpodmjcgfgmnaaMBase
namespace Go.Proofs.Ytcpodmjcgfgmnaa
open Go.RowKit
namespace Ev
variable {P:Program}
variable (P)
def cellX (e:Look) (x:Operand):Option C:=match evX e x with
 | some (.s (.c c))=>some c
 | _=>none
variable {P}
theorem cellX_spec {e:Look} {x:Operand} {c:C} (h:cellX e x=some c):evX e x=some (.s (.c c)):=by
 unfold cellX at h
 split at h
 ·cases h;assumption
 ·cases h
theorem fastI_one {op:BinOp} {k k':IntKind} {a b:Int} {v:Value} (h:fastI op k k' a b=some v):one v=true:=by
 cases op <;> simp only [fastI] at h <;> (repeat' split at h) <;> cases h <;> rfl
theorem fast_spec {m:M} {w:World} {a:Act} {e:Look} {o:Oper} {op:BinOp} {T T':TypeId} {x y:Operand} {k k':IntKind} {n n':Int} {v:Value} (he:EL m e a) (ho:o.op=.binOp op T x y T')
  (hx:evX e x=some (.s (.c (.flat (.int k n))))) (hy:evX e y=some (.s (.c (.flat (.int k' n'))))) (h:fastI op k k' n n'=some v):DoesS P m w a o (.s (.c (.flat v))):=by
 have h1:a.eval x=.int k n:=(show VC m (.flat (.int k n)) (a.eval x) from evX_spec he hx).1
 have h2:a.eval y=.int k' n':=(show VC m (.flat (.int k' n')) (a.eval y) from evX_spec he hy).1
 exact DoesS.same (v:=v) (exec_bin ho (fun w=>by rw [h1,h2];simp [eqGuard]) (by rw [h1,h2];exact fastI_spec h T w)) ⟨rfl,fastI_one h⟩
variable (P)
def isStrC:C→Bool
 | .str _=>true
 | _=>false
def oneT (T:TypeId):Bool:=match P.underlying T with
 | some (.slice el)=>sizeT P el == some 1
 | _=>false
def evOp (e:Look) (st:St) (o:Oper):Option (PV × St) :=
 match o.op with
 | .move x=>match evX e x with | some pv=>some (pv,st) | none=>none
 | .assign x=>match evX e x with | some pv=>some (pv,st) | none=>none
 | .pick c x y=>match cellX e c with
  | some (.flat (.bool t))=>match evX e (if t then x else y) with | some pv=>some (pv,st) | none=>none
  | _=>none
 | .alloc T=>evAlloc P st T
 | .box T x=>match evX e x with | some u=>evBox st T u | none=>none
 | .load T x=>match cellX e x with
  | some (.ptr i off)=>match evLoad P st T i off with | some s=>some (.s s,st) | none=>none
  | _=>none
 | .store T x y=>match cellX e x,evX e y with
  | some (.ptr i off),some (.s s)=>match evStore P st T i off s with | some st'=>some (.skip,st') | none=>none
  | _,_=>none
 | .nilCheck x=>match cellX e x with
  | some c=>if okNil c then some (.s (.c c),st) else none
  | _=>none
 | .fieldAddr T x f=>match cellX e x with
  | some (.ptr i off)=>match evFieldAddr P T f i off with | some pv=>some (pv,st) | none=>none
  | _=>none
 | .field T x f=>match evX e x with
  | some (.s (.a cs))=>match evField P T f cs with | some pv=>some (pv,st) | none=>none
  | _=>none
 | .indexAddr T x y=>match cellX e x,cellX e y with
  | some c,some (.flat (.int _ n))=>match evIndexAddr P T n c with | some pv=>some (pv,st) | none=>none
  | _,_=>none
 | .index T x y=>match evX e x,cellX e y with
  | some (.s s),some (.flat (.int _ n))=>match evIndex P T n s with | some pv=>some (pv,st) | none=>none
  | _,_=>none
 | .slice T x lo hi none=>match cellX e x with
  | some (.flat _)=>match evDry P e o with | some pv=>some (pv,st) | none=>none
  | some c=>match evSlice P e T lo hi c with | some c'=>some (.s (.c c'),st) | none=>none
  | none=>none
 | .slice T x lo (some hi) (some mx)=>match cellX e x with
  | some (.flat _)=>match evDry P e o with | some pv=>some (pv,st) | none=>none
  | some c=>match evSlice3 P e T lo hi mx c with | some c'=>some (.s (.c c'),st) | none=>none
  | none=>none
 | .makeSlice T x y=>match cellX e x,cellX e y with
  | some (.flat (.int _ l)),some (.flat (.int _ c))=>evMake P st T l c
  | _,_=>none
 | .build T ps=>match evParts e ps.toList with
  | some qs=>match evBuild P T qs with | some pv=>some (pv,st) | none=>none
  | none=>none
 | .buildSlice T n ps=>match evParts e ps.toList with
  | some qs=>evBuildSlice P st T n qs
  | none=>none
 | .makeFunc fn first caps=>match evMakeFunc e fn first caps with | some pv=>some (pv,st) | none=>none
 | .extract x k=>match evX e x with
  | some (.t xs)=>match xs[k]? with | some s=>some (.s s,st) | none=>none
  | _=>none
 | .convert src dst x=>if src=dst∧isBytesT P src=true then match cellX e x with
   | some c=>evMark st c
   | none=>none
  else if isBytesT P src && isStrT P dst then match cellX e x with
   | some c=>match evStr st c with | some c'=>some (.s (.c c'),st) | none=>none
   | none=>none
  else if isStrT P src && isBytesT P dst then match cellX e x with
   | some (.str l)=>evBytes st (bytesEl P dst) l
   | _=>none
  else match evDry P e o with | some pv=>some (pv,st) | none=>none
 | .binOp op T x y _=>match cellX e x,cellX e y with
  | some (.flat (.int k a)),some (.flat (.int k' b))=>(match fastI op k k' a b with
   | some v=>some (.s (.c (.flat v)),st)
   | none=>match evDry P e o with | some pv=>some (pv,st) | none=>none)
  | some (.str s),some (.str t)=>(match op with
   | .add=>if s.length+t.length≤9223372036854775807 then some (.s (.c (.str (s++t))),st) else none
   | op=>match evEqStr op s t with | some b=>some (.s (.c (.flat (.bool b))),st) | none=>none)
  | some (.low k r),some d=>match evLow op k r d with | some c=>some (.s (.c c),st) | none=>none
  | some (.ptr i off),some d=>match evNil P op T (.ptr i off) d with | some b=>some (.s (.c (.flat (.bool b))),st) | none=>none
  | some (.sl i off n sz),some d=>match evNil P op T (.sl i off n sz) d with | some b=>some (.s (.c (.flat (.bool b))),st) | none=>none
  | some (.emp z),some d=>match evNil P op T (.emp z) d with | some b=>some (.s (.c (.flat (.bool b))),st) | none=>none
  | some (.q i off sz),some d=>match evNil P op T (.q i off sz) d with | some b=>some (.s (.c (.flat (.bool b))),st) | none=>none
  | _,_=>match evDry P e o with | some pv=>some (pv,st) | none=>none
 | .call { callee:=.builtin .len,args:=args,argTypes:=ts }=>match args.toList,ts[0]? with
  | [x],some T=>match cellX e x with
   | some c=>match evLenT P T c with | some n=>some (.s (.c (.flat (.int .i64 (n:Int)))),st) | none=>none
   | none=>none
  | _,_=>none
 | .call { callee:=.builtin .append,args:=args,argTypes:=ts }=>match args.toList,ts.toList with
  | [s,x],[T,T']=>if T=T' then match cellX e s,cellX e x with
    | some c,some d=>evAppend P st T c d
    | _,_=>none
   else match cellX e s,cellX e x with
    | some c,some d=>evAppendZ P st T T' c d
    | _,_=>none
  | _,_=>none
 | .call { callee:=.builtin .copy,args:=args,argTypes:=ts }=>match args.toList,ts[0]? with
  | [d,s],some T=>match cellX e d,cellX e s with
   | some c,some x=>if isStrC x && !oneT P T then none else evCopy P st T c x
   | _,_=>none
  | _,_=>none
 | .makeMap _ none=>some (evMakeMap st)
 | .lookup T x y ok=>match cellX e x,cellX e y with
  | some (.mp i),some k=>match evLookup P st T i k ok with | some pv=>some (pv,st) | none=>none
  | _,_=>none
 | .mapUpdate T x y z=>match cellX e x,cellX e y,cellX e z with
  | some (.mp i),some k,some v=>match evMapSet P st T i k v with | some st'=>some (.skip,st') | none=>none
  | _,_,_=>none
 | .insert T x y z=>match cellX e x,cellX e y,cellX e z with
  | some (.mp i),some k,some v=>match evMapSet P st T i k v with | some st'=>some (.skip,st') | none=>none
  | _,_,_=>none
 | _=>match evDry P e o with | some pv=>some (pv,st) | none=>none
variable {P}
theorem dry_spec' {m:M} {st st':St} {w:World} {a:Act} {e:Look} {o:Oper} {pv:PV} (hs:SR m st.h w) (he:EL m e a) (h:(match evDry P e o with | some pv=>some (pv,st) | none=>none)=some (pv,st')):Does P m st w a o pv st':=by
 split at h
 ·cases h;exact (dry_spec he (by assumption)).to hs
 ·cases h
theorem evOp_spec {m:M} {st st':St} {w:World} {a:Act} {e:Look} {o:Oper} {pv:PV} (hs:SR m st.h w) (he:EL m e a) (h:evOp P e st o=some (pv,st')):Does P m st w a o pv st':=by
 unfold evOp at h
 split at h
 ·rename_i x ho
  split at h
  ·cases h;exact (move_spec he (.inl ho) (by assumption)).to hs
  ·cases h
 ·rename_i x ho
  split at h
  ·cases h;exact (move_spec he (.inr ho) (by assumption)).to hs
  ·cases h
 ·rename_i c x y ho
  split at h
  ·rename_i hc
   split at h
   ·cases h;exact (pick_spec he ho (cellX_spec hc) (by assumption)).to hs
   ·cases h
  ·cases h
 ·rename_i T ho;exact evAlloc_spec hs ho h
 ·rename_i T x ho
  split at h
  ·exact evBox_spec hs he ho (by assumption) h
  ·cases h
 ·rename_i T x ho
  split at h
  ·rename_i hc
   split at h
   ·cases h;exact load_spec hs he ho (cellX_spec hc) (by assumption)
   ·cases h
  ·cases h
 ·rename_i T x y ho
  split at h
  ·rename_i hc hy
   split at h
   ·cases h;exact store_spec hs he ho (cellX_spec hc) hy (by assumption)
   ·cases h
  ·cases h
 ·rename_i x ho
  split at h
  ·rename_i hc
   split at h
   ·cases h;exact (nilCheck_spec he ho (cellX_spec hc) (by assumption)).to hs
   ·cases h
  ·cases h
 ·rename_i T x f ho
  split at h
  ·rename_i hc
   split at h
   ·cases h;exact (fieldAddr_spec he ho (cellX_spec hc) (by assumption)).to hs
   ·cases h
  ·cases h
 ·rename_i T x f ho
  split at h
  ·rename_i hc
   split at h
   ·cases h;exact (field_spec he ho hc (by assumption)).to hs
   ·cases h
  ·cases h
 ·rename_i T x y ho
  split at h
  ·rename_i hc hy
   split at h
   ·cases h;exact (indexAddr_spec he ho (cellX_spec hc) (cellX_spec hy) (by assumption)).to hs
   ·cases h
  ·cases h
 ·rename_i T x y ho
  split at h
  ·rename_i hc hy
   split at h
   ·cases h;exact (index_spec he ho hc (cellX_spec hy) (by assumption)).to hs
   ·cases h
  ·cases h
 ·rename_i T x lo hi ho
  split at h
  ·exact dry_spec' hs he h
  ·rename_i hc
   split at h
   ·cases h;exact (slice_spec he ho (cellX_spec hc) (by assumption)).to hs
   ·cases h
  ·cases h
 ·rename_i T x lo hi mx ho
  split at h
  ·exact dry_spec' hs he h
  ·rename_i hc
   split at h
   ·cases h;exact (slice3_spec he ho (cellX_spec hc) (by assumption)).to hs
   ·cases h
  ·cases h
 ·rename_i T x y ho
  split at h
  ·rename_i hc hy
   exact make_spec hs he ho (cellX_spec hc) (cellX_spec hy) h
  ·cases h
 ·rename_i T ps ho
  split at h
  ·rename_i hp
   split at h
   ·cases h;exact (build_spec he ho hp (by assumption)).to hs
   ·cases h
  ·cases h
 ·rename_i T n ps ho
  split at h
  ·rename_i hp;exact buildSlice_spec hs he ho hp h
  ·cases h
 ·rename_i fn first caps ho
  split at h
  ·cases h;exact (makeFunc_spec he ho (by assumption)).to hs
  ·cases h
 ·rename_i x k ho
  split at h
  ·rename_i hx
   split at h
   ·cases h;exact (extract_spec he ho hx (by assumption)).to hs
   ·cases h
  ·cases h
 ·rename_i src dst x ho
  split at h
  ·rename_i hc
   obtain ⟨rfl,hc⟩:=hc
   split at h
   ·rename_i hx;exact mark_spec hs he ho hc (cellX_spec hx) h
   ·cases h
  split at h
  ·rename_i hc
   simp only [Bool.and_eq_true] at hc
   split at h
   ·rename_i hx
    split at h
    ·cases h;exact str_spec hs he ho hc.1 hc.2 (cellX_spec hx) (by assumption)
    ·cases h
   ·cases h
  ·split at h
   ·rename_i hc
    simp only [Bool.and_eq_true] at hc
    split at h
    ·rename_i hx;exact bytes_spec hs he ho hc.1 hc.2 (cellX_spec hx) h
    ·cases h
   ·exact dry_spec' hs he h
 ·rename_i op T x y T' ho
  split at h
  ·rename_i hx hy
   split at h
   ·cases h;exact (fast_spec he ho (cellX_spec hx) (cellX_spec hy) (by assumption)).to hs
   ·exact dry_spec' hs he h
  ·rename_i hx hy
   split at h
   ·split at h
    ·cases h;exact (add_spec he ho (cellX_spec hx) (cellX_spec hy) (by assumption)).to hs
    ·cases h
   ·split at h
    ·cases h;exact (eqStr_spec he ho (cellX_spec hx) (cellX_spec hy) (by assumption)).to hs
    ·cases h
  ·rename_i hx hy
   split at h
   ·cases h;exact (low_spec he ho (cellX_spec hx) (cellX_spec hy) (by assumption)).to hs
   ·cases h
  ·rename_i hx hy
   split at h
   ·cases h;exact (nil_spec he ho (cellX_spec hx) (cellX_spec hy) (by assumption)).to hs
   ·cases h
  ·rename_i hx hy
   split at h
   ·cases h;exact (nil_spec he ho (cellX_spec hx) (cellX_spec hy) (by assumption)).to hs
   ·cases h
  ·rename_i hx hy
   split at h
   ·cases h;exact (nil_spec he ho (cellX_spec hx) (cellX_spec hy) (by assumption)).to hs
   ·cases h
  ·rename_i hx hy
   split at h
   ·cases h;exact (nil_spec he ho (cellX_spec hx) (cellX_spec hy) (by assumption)).to hs
   ·cases h
  ·exact dry_spec' hs he h
 ·rename_i args ts ho
  split at h
  ·rename_i x T hargs hts
   split at h
   ·rename_i hx
    split at h
    ·cases h
     have ha:args=#[x]:=by apply Array.ext';simpa using hargs
     subst ha
     exact (len_spec he ho hts (cellX_spec hx) (by assumption)).to hs
    ·cases h
   ·cases h
  ·cases h
 ·rename_i args ts ho
  split at h
  ·rename_i s x T T' hargs hts
   split at h
   ·rename_i heq
    subst heq
    split at h
    ·rename_i hx hy
     have ha:args=#[s,x]:=by apply Array.ext';simpa using hargs
     have ht:ts=#[T,T]:=by apply Array.ext';simpa using hts
     subst ha;subst ht
     exact append_spec hs he ho (cellX_spec hx) (cellX_spec hy) h
    ·cases h
   ·split at h
    ·rename_i hx hy
     have ha:args=#[s,x]:=by apply Array.ext';simpa using hargs
     have ht:ts=#[T,T']:=by apply Array.ext';simpa using hts
     subst ha;subst ht
     exact appendZ_spec hs he ho (cellX_spec hx) (cellX_spec hy) h
    ·cases h
  ·cases h
 ·rename_i args ts ho
  split at h
  ·rename_i d s T hargs hts
   split at h
   ·rename_i hx hy
    split at h
    ·cases h
    ·rename_i hc
     have ha:args=#[d,s]:=by apply Array.ext';simpa using hargs
     subst ha
     refine copy_spec hs he ho hts (cellX_spec hx) (cellX_spec hy) (fun l hl el hu=>?_) h
     subst hl
     simp [isStrC,oneT,hu] at hc
     exact hc
   ·cases h
  ·cases h
 ·rename_i T ho
  cases h
  exact makeMap_spec hs ho
 ·rename_i T x y ok ho
  split at h
  ·rename_i hx hy
   split at h
   ·cases h;exact (lookup_spec hs he ho (cellX_spec hx) (cellX_spec hy) (by assumption)).to hs
   ·cases h
  ·cases h
 ·rename_i T x y z ho
  split at h
  ·rename_i hx hy hz
   split at h
   ·cases h;exact mapSet_spec hs he (.inl ho) (cellX_spec hx) (cellX_spec hy) (cellX_spec hz) (by assumption)
   ·cases h
  ·cases h
 ·rename_i T x y z ho
  split at h
  ·rename_i hx hy hz
   split at h
   ·cases h;exact mapSet_spec hs he (.inr ho) (cellX_spec hx) (cellX_spec hy) (cellX_spec hz) (by assumption)
   ·cases h
  ·cases h
 ·exact dry_spec' hs he h
def pureK:Op→Bool
 | .move _=>true
 | .assign _=>true
 | .pick ..=>true
 | .nilCheck _=>true
 | .fieldAddr ..=>true
 | .field ..=>true
 | .indexAddr ..=>true
 | .index ..=>true
 | .extract ..=>true
 | .build ..=>true
 | .makeFunc ..=>true
 | .slice ..=>true
 | .binOp ..=>true
 | .unOp ..=>true
 | .makeInterface ..=>true
 | .call { callee:=.builtin .len,.. }=>true
 | .call { callee:=.builtin .min,.. }=>true
 | .call { callee:=.builtin .max,.. }=>true
 | _=>false
theorem dry_pure {e:Look} {st st':St} {o:Oper} {pv:PV} (h:(match evDry P e o with | some pv=>some (pv,st) | none=>none)=some (pv,st')):st'=st∧∀ (m:M) (w:World) (a:Act),EL m e a→DoesS P m w a o pv:=by
 split at h
 ·cases h;exact ⟨rfl,fun m w a he=>dry_spec he (by assumption)⟩
 ·cases h
theorem pure_spec {e:Look} {st st':St} {o:Oper} {pv:PV} (hk:pureK o.op=true) (h:evOp P e st o=some (pv,st')):st'=st∧∀ (m:M) (w:World) (a:Act),EL m e a→DoesS P m w a o pv:=by
 unfold evOp at h
 split at h
 ·rename_i x ho
  split at h
  ·cases h;exact ⟨rfl,fun m w a he=>move_spec he (.inl ho) (by assumption)⟩
  ·cases h
 ·rename_i x ho
  split at h
  ·cases h;exact ⟨rfl,fun m w a he=>move_spec he (.inr ho) (by assumption)⟩
  ·cases h
 ·rename_i c x y ho
  split at h
  ·rename_i hc
   split at h
   ·cases h;exact ⟨rfl,fun m w a he=>pick_spec he ho (cellX_spec hc) (by assumption)⟩
   ·cases h
  ·cases h
 ·rename_i ho;rw [ho] at hk;cases hk
 ·rename_i ho;rw [ho] at hk;cases hk
 ·rename_i ho;rw [ho] at hk;cases hk
 ·rename_i ho;rw [ho] at hk;cases hk
 ·rename_i x ho
  split at h
  ·rename_i hc
   split at h
   ·cases h;exact ⟨rfl,fun m w a he=>nilCheck_spec he ho (cellX_spec hc) (by assumption)⟩
   ·cases h
  ·cases h
 ·rename_i T x f ho
  split at h
  ·rename_i hc
   split at h
   ·cases h;exact ⟨rfl,fun m w a he=>fieldAddr_spec he ho (cellX_spec hc) (by assumption)⟩
   ·cases h
  ·cases h
 ·rename_i T x f ho
  split at h
  ·rename_i hc
   split at h
   ·cases h;exact ⟨rfl,fun m w a he=>field_spec he ho hc (by assumption)⟩
   ·cases h
  ·cases h
 ·rename_i T x y ho
  split at h
  ·rename_i hc hy
   split at h
   ·cases h;exact ⟨rfl,fun m w a he=>indexAddr_spec he ho (cellX_spec hc) (cellX_spec hy) (by assumption)⟩
   ·cases h
  ·cases h
 ·rename_i T x y ho
  split at h
  ·rename_i hc hy
   split at h
   ·cases h;exact ⟨rfl,fun m w a he=>index_spec he ho hc (cellX_spec hy) (by assumption)⟩
   ·cases h
  ·cases h
 ·rename_i T x lo hi ho
  split at h
  ·exact dry_pure h
  ·rename_i hc
   split at h
   ·cases h;exact ⟨rfl,fun m w a he=>slice_spec he ho (cellX_spec hc) (by assumption)⟩
   ·cases h
  ·cases h
 ·rename_i T x lo hi mx ho
  split at h
  ·exact dry_pure h
  ·rename_i hc
   split at h
   ·cases h;exact ⟨rfl,fun m w a he=>slice3_spec he ho (cellX_spec hc) (by assumption)⟩
   ·cases h
  ·cases h
 ·rename_i ho;rw [ho] at hk;cases hk
 ·rename_i T ps ho
  split at h
  ·rename_i hp
   split at h
   ·cases h;exact ⟨rfl,fun m w a he=>build_spec he ho hp (by assumption)⟩
   ·cases h
  ·cases h
 ·rename_i ho;rw [ho] at hk;cases hk
 ·rename_i fn first caps ho
  split at h
  ·cases h;exact ⟨rfl,fun m w a he=>makeFunc_spec he ho (by assumption)⟩
  ·cases h
 ·rename_i x k ho
  split at h
  ·rename_i hx
   split at h
   ·cases h;exact ⟨rfl,fun m w a he=>extract_spec he ho hx (by assumption)⟩
   ·cases h
  ·cases h
 ·rename_i ho;rw [ho] at hk;cases hk
 ·rename_i op T x y T' ho
  split at h
  ·rename_i hx hy
   split at h
   ·cases h;exact ⟨rfl,fun m w a he=>fast_spec he ho (cellX_spec hx) (cellX_spec hy) (by assumption)⟩
   ·exact dry_pure h
  ·rename_i hx hy
   split at h
   ·split at h
    ·cases h;exact ⟨rfl,fun m w a he=>add_spec he ho (cellX_spec hx) (cellX_spec hy) (by assumption)⟩
    ·cases h
   ·split at h
    ·cases h;exact ⟨rfl,fun m w a he=>eqStr_spec he ho (cellX_spec hx) (cellX_spec hy) (by assumption)⟩
    ·cases h
  ·rename_i hx hy
   split at h
   ·cases h;exact ⟨rfl,fun m w a he=>low_spec he ho (cellX_spec hx) (cellX_spec hy) (by assumption)⟩
   ·cases h
  ·rename_i hx hy
   split at h
   ·cases h;exact ⟨rfl,fun m w a he=>nil_spec he ho (cellX_spec hx) (cellX_spec hy) (by assumption)⟩
   ·cases h
  ·rename_i hx hy
   split at h
   ·cases h;exact ⟨rfl,fun m w a he=>nil_spec he ho (cellX_spec hx) (cellX_spec hy) (by assumption)⟩
   ·cases h
  ·rename_i hx hy
   split at h
   ·cases h;exact ⟨rfl,fun m w a he=>nil_spec he ho (cellX_spec hx) (cellX_spec hy) (by assumption)⟩
   ·cases h
  ·rename_i hx hy
   split at h
   ·cases h;exact ⟨rfl,fun m w a he=>nil_spec he ho (cellX_spec hx) (cellX_spec hy) (by assumption)⟩
   ·cases h
  ·exact dry_pure h
 ·rename_i args ts ho
  split at h
  ·rename_i x T hargs hts
   split at h
   ·rename_i hx
    split at h
    ·cases h
     have ha:args=#[x]:=by apply Array.ext';simpa using hargs
     subst ha
     exact ⟨rfl,fun m w a he=>len_spec he ho hts (cellX_spec hx) (by assumption)⟩
    ·cases h
   ·cases h
  ·cases h
 ·rename_i ho;rw [ho] at hk;cases hk
 ·rename_i ho;rw [ho] at hk;cases hk
 ·rename_i ho;rw [ho] at hk;cases hk
 ·rename_i ho;rw [ho] at hk;cases hk
 ·rename_i ho;rw [ho] at hk;cases hk
 ·rename_i ho;rw [ho] at hk;cases hk
 ·exact dry_pure h
def hasBody (P:Program) (f:FuncId):Bool:=match P.funcs[f]? with
 | some fn=>fn.body.isSome
 | none=>false
abbrev CallE:=FuncId→List PV→St→Option (PV × St)
def CallOk (P:Program) (ev:CallE):Prop:=∀ F pvs st r st' m w args,ev F pvs st=some (r,st')→SR m st.h w→All2 (VP m) pvs args →
 Calls P F args.toArray w fun e w'=>∃ v m',e=.returned v∧VP m' r v∧Res m st w m' st' w'
def capPV (p:Nat × Nat):PV:=.s (.c (.ptr p.1 p.2))
def evTarget (e:Look) (c:Call):Option (FuncId × List PV):=match c.callee with
 | .value f=>match cellX e f with
  | some (.fn g caps)=>match all? (evX e) c.args.toList with
   | some as=>some (g,as++caps.map capPV)
   | none=>none
  | some (.mt g i off)=>match all? (evX e) c.args.toList with
   | some as=>some (g,capPV (i,off) :: as)
   | none=>none
  | _=>none
 | _=>none
def NoCount (P : Program) : Prop := ∀ (f : Nat) (fn : Func), P.funcs[f]? = some fn → (fn.name == "runtime.NumGoroutine") = false
theorem target_spec (hN:NoCount P) {m:M} {e:Look} {a:Act} {o:Oper} {c:Call} {g:FuncId} {pvs:List PV} {w:World} (he:EL m e a) (ho:o.op=.call c) (h:evTarget e c=some (g,pvs)) (hb:hasBody P g=true) :
  ∃ args:List Value,(execOp a.eval o).run P w=.ok (.enter g args.toArray) w∧All2 (VP m) pvs args:=by
 unfold evTarget at h
 split at h
 ·rename_i f hf
  split at h
  ·rename_i g' caps hg
   split at h
   ·rename_i as has
    cases h
    obtain ⟨vs,hv,h2⟩:VC m (.fn g caps) (a.eval f):=evX_spec he (cellX_spec hg)
    have hsp:=all?_spec has
    refine ⟨(c.args.map a.eval).toList++vs,?_,?_⟩
    ·unfold hasBody at hb
     split at hb
     ·rename_i fn hfn
      have hn:=hN g fn hfn
      have hn' : ¬ fn.name = "runtime.NumGoroutine" := by simpa using hn
      have hb':¬ fn.body=none:=by cases hh:fn.body <;> simp_all
      have hc:∀ args,(callFunc g args).run P w=.ok (.enter g args) w:=fun args=>by
       simp [callFunc,hfn,hn',hb']
      have hap:(c.args.map a.eval).toList.toArray++vs.toArray=((c.args.map a.eval).toList++vs).toArray:=by simp
      obtain ⟨cl,cargs,cts⟩:=c
      simp only at hf hv hap
      subst hf
      simp only [Array.toArray_toList] at hap
      simp [execOp,ho,resolve,Deferred.ofValue,hv,invoke,hc]
     ·cases hb
    ·refine All2.append ⟨by rw [← hsp.1];simp,fun j x v hx hv=>?_⟩ ?_
     ·have hj:j < c.args.toList.length:=by rw [hsp.1];exact (List.getElem?_eq_some_iff.1 hx).1
      have h1:=hsp.2 j c.args.toList[j] x (by simp) hx
      have hve:v=a.eval c.args.toList[j]:=by
       have hj':j < c.args.size:=by simpa using hj
       simp [hj'] at hv
       simp [← hv]
      rw [hve]
      exact evX_spec he h1
     ·refine ⟨by simp [h2.1],fun j x v hx hv=>?_⟩
      rw [List.getElem?_map] at hx
      cases hc:caps[j]? with
      | none=>rw [hc] at hx;cases hx
      | some q =>
       rw [hc] at hx
       cases hx
       exact h2.2 j q v hc hv
   ·cases h
  ·rename_i g' i off hg
   split at h
   ·rename_i as has
    cases h
    obtain ⟨p,hm,hv⟩:VC m (.mt g i off) (a.eval f):=evX_spec he (cellX_spec hg)
    have hsp:=all?_spec has
    refine ⟨.pointer (some ⟨p.b,p.o+off,none⟩) :: (c.args.map a.eval).toList,?_,All2.cons ⟨p,hm,rfl⟩ ⟨by rw [← hsp.1];simp,fun j x v hx hv=>?_⟩⟩
    ·unfold hasBody at hb
     split at hb
     ·rename_i fn hfn
      have hn:=hN g fn hfn
      have hn' : ¬ fn.name = "runtime.NumGoroutine" := by simpa using hn
      have hb':¬ fn.body=none:=by cases hh:fn.body <;> simp_all
      have hc:∀ args,(callFunc g args).run P w=.ok (.enter g args) w:=fun args=>by
       simp [callFunc,hfn,hn',hb']
      obtain ⟨cl,cargs,cts⟩:=c
      simp only at hf hv
      subst hf
      have hap:#[.pointer (some ⟨p.b,p.o+off,none⟩)]++Array.map a.eval cargs=(Value.pointer (some ⟨p.b,p.o+off,none⟩) :: (Array.map a.eval cargs).toList).toArray:=by apply Array.ext';simp
      simp [execOp,ho,resolve,Deferred.ofValue,hv,invoke,hc,hap]
     ·cases hb
    ·have hj:j < c.args.toList.length:=by rw [hsp.1];exact (List.getElem?_eq_some_iff.1 hx).1
     have h1:=hsp.2 j c.args.toList[j] x (by simp) hx
     have hve:v=a.eval c.args.toList[j]:=by
      have hj':j < c.args.size:=by simpa using hj
      simp [hj'] at hv
      simp [← hv]
     rw [hve]
     exact evX_spec he h1
   ·cases h
  ·cases h
 ·cases h
variable (P)
def evStepO (ev:CallE) (e:Look) (st:St) (o:Oper):Option (PV × St) :=
 match o.op with
 | .call c=>match c.callee with
  | .builtin _=>evOp P e st o
  | _=>match evTarget e c with
   | some (g,pvs)=>if hasBody P g then ev g pvs st else none
   | none=>none
 | _=>evOp P e st o
structure Plan where
 run:CallE→Look→St→Option (PV × St)
def opMove (x:Operand) (_:CallE) (e:Look) (st:St):Option (PV × St):=match evX e x with | some pv=>some (pv,st) | none=>none
def opRest (o:Oper) (_:CallE) (e:Look) (st:St):Option (PV × St):=evOp P e st o
def opLoad (T:TypeId) (x:Operand) (_:CallE) (e:Look) (st:St):Option (PV × St):=match cellX e x with
  | some (.ptr i off)=>match evLoad P st T i off with | some s=>some (.s s,st) | none=>none
  | _=>none
def opCall (c:Call) (ev:CallE) (e:Look) (st:St):Option (PV × St):=match evTarget e c with
   | some (g,pvs)=>if hasBody P g then ev g pvs st else none
   | none=>none
def intC:C→Option (IntKind × Int)
 | .flat (.int k a)=>some (k,a)
 | _=>none
structure FI where
 f:IntKind→IntKind→Int→Int→Option Value
def fAdd (k k':IntKind) (a b:Int):Option Value:=if k=k' then some (.int k (wrapF k (a+b))) else none
def fSub (k k':IntKind) (a b:Int):Option Value:=if k=k' then some (.int k (wrapF k (a - b))) else none
def fLss (k k':IntKind) (a b:Int):Option Value:=if k=k' then some (.bool (ltF a b)) else none
def fEql (k k':IntKind) (a b:Int):Option Value:=if k=k' then some (.bool (eqF a b)) else none
def fRest (op:BinOp) (k k':IntKind) (a b:Int):Option Value:=fastI op k k' a b
def selI (op:BinOp):FI:=match op with
 | .add=>⟨fAdd⟩
 | .sub=>⟨fSub⟩
 | .lss=>⟨fLss⟩
 | .eql=>⟨fEql⟩
 | op=>⟨fRest op⟩
theorem selI_eq (op:BinOp) (k k':IntKind) (a b:Int):(selI op).f k k' a b=fastI op k k' a b:=by cases op <;> rfl
def opBin (f:IntKind→IntKind→Int→Int→Option Value) (x y:Operand) (o:Oper) (_:CallE) (e:Look) (st:St):Option (PV × St):=match cellX e x with
 | none=>evOp P e st o
 | some cx=>match intC cx with
  | none=>evOp P e st o
  | some (k,a)=>match cellX e y with
   | none=>evOp P e st o
   | some cy=>match intC cy with
    | none=>evOp P e st o
    | some (k',b)=>match f k k' a b with
     | some v=>some (.s (.c (.flat v)),st)
     | none=>evOp P e st o
def plan (o:Oper):Plan:=match o.op with
 | .move x=>⟨opMove x⟩
 | .assign x=>⟨opMove x⟩
 | .load T x=>⟨opLoad P T x⟩
 | .binOp op _ x y _=>match selI op with | ⟨f⟩=>⟨opBin P f x y o⟩
 | .call c=>match c.callee with
  | .builtin _=>⟨opRest P o⟩
  | _=>⟨opCall P c⟩
 | _=>⟨opRest P o⟩
def evStep (ev:CallE) (e:Look) (st:St) (o:Oper):Option (PV × St):=(plan P o).run ev e st
variable {P}
theorem intC_spec {c:C} {k:IntKind} {a:Int} (h:intC c=some (k,a)):c=.flat (.int k a):=by
 unfold intC at h
 split at h
 ·cases h;rfl
 ·cases h
theorem opBin_eq {ev:CallE} {e:Look} {st:St} {o:Oper} {op:BinOp} {T T':TypeId} {x y:Operand} (ho:o.op=.binOp op T x y T'):opBin P (selI op).f x y o ev e st=evOp P e st o:=by
 unfold opBin
 split
 ·rfl
 ·rename_i cx hx
  split
  ·rfl
  ·rename_i k a hcx
   split
   ·rfl
   ·rename_i cy hy
    split
    ·rfl
    ·rename_i k' b hcy
     split
     ·rename_i v hv
      have h1:=intC_spec hcx
      have h2:=intC_spec hcy
      subst h1;subst h2
      rw [selI_eq] at hv
      simp only [evOp,ho,hx,hy,hv]
     ·rfl
theorem evStep_old {ev:CallE} {e:Look} {st:St} {o:Oper}:evStep P ev e st o=evStepO P ev e st o:=by
 unfold evStep plan evStepO
 split
 ·rename_i x ho;simp only [opMove,evOp,ho]
 ·rename_i x ho;simp only [opMove,evOp,ho]
 ·rename_i T x ho;simp only [opLoad,evOp,ho]
 ·rename_i op T x y T' ho
  simp only [ho]
  exact opBin_eq ho
 ·rename_i c ho
  simp only [ho]
  obtain ⟨cl,args,ts⟩:=c
  cases cl <;> rfl
 ·rename_i hcall
  split
  ·rename_i c ho;exact (hcall c ho).elim
  ·rfl
def After (m:M) (st:St) (w:World) (a:Act) (o:Oper) (pv:PV) (st':St) (a':Act) (w':World):Prop:=∃ v m',a'=a.put o.dst v∧VP m' pv v∧Res m st w m' st' w'
theorem wp_of_does {m:M} {st st':St} {w:World} {a:Act} {o:Oper} {pv:PV} {Q:Exit→Act→World→Prop} (h:Does P m st w a o pv st'):o.wp P a w (After m st w a o pv st') Q:=by
 obtain ⟨nx,v,w',m',hr,hn,hv,hres⟩:=h
 unfold Oper.wp
 rw [hr]
 rcases hn with rfl | ⟨rfl,rfl⟩
 ·exact ⟨v,m',rfl,hv,hres⟩
 ·exact ⟨undef,m',rfl,hv,hres⟩
theorem step_wp (hN:NoCount P) {ev:CallE} (hev:CallOk P ev) {m:M} {st st':St} {w:World} {a:Act} {e:Look} {o:Oper} {pv:PV} {Q:Exit→Act→World→Prop} (hs:SR m st.h w) (he:EL m e a) (h:evStep P ev e st o=some (pv,st')) :
  o.wp P a w (After m st w a o pv st') Q:=by
 rw [evStep_old] at h
 unfold evStepO at h
 split at h
 ·rename_i c ho
  split at h
  ·exact wp_of_does (evOp_spec hs he h)
  ·split at h
   ·rename_i g pvs ht
    split at h
    ·rename_i hb
     obtain ⟨args,hr,hall⟩:=target_spec hN (w:=w) he ho ht hb
     unfold Oper.wp
     rw [hr]
     refine (hev g pvs st pv st' m w args h hs hall).mono fun e' w' ⟨v,m',he',hv,hres⟩=>?_
     subst he'
     exact ⟨v,m',rfl,hv,hres⟩
    ·cases h
   ·cases h
 ·exact wp_of_does (evOp_spec hs he h)
theorem step_pure {ev:CallE} {e:Look} {st st':St} {o:Oper} {pv:PV} (hk:pureK o.op=true) (h:evStep P ev e st o=some (pv,st')):st'=st∧∀ (m:M) (w:World) (a:Act),EL m e a→DoesS P m w a o pv:=by
 rw [evStep_old] at h
 unfold evStepO at h
 split at h
 ·rename_i c ho
  split at h
  ·exact pure_spec hk h
  ·rename_i hne
   exfalso
   rw [ho] at hk
   obtain ⟨cl,args,ts⟩:=c
   cases cl with
   | builtin b=>exact hne b rfl
   | value f=>cases hk
   | invoke r n=>cases hk
 ·exact pure_spec hk h
def isLoad:Op→Bool
 | .load ..=>true
 | _=>false
def floatK (o:Op):Bool:=pureK o || isLoad o
variable (P)
def evLd (e:Look) (st:St) (o:Oper):Option S:=match o.op with
 | .load T x=>match cellX e x with
  | some (.ptr i off)=>evLoad P st T i off
  | _=>none
 | _=>none
variable {P}
theorem ld_spec {m:M} {st:St} {w:World} {a:Act} {e:Look} {o:Oper} {s:S} (hs:SR m st.h w) (he:EL m e a) (h:evLd P e st o=some s):DoesS P m w a o (.s s):=by
 unfold evLd at h
 split at h
 ·rename_i T x ho
  split at h
  ·rename_i hc;exact loadS_spec hs he ho (cellX_spec hc) h
  ·cases h
 ·cases h
theorem step_load {ev:CallE} {e:Look} {st st':St} {o:Oper} {pv:PV} (hk:isLoad o.op=true) (h:evStep P ev e st o=some (pv,st')):st'=st:=by
 rw [evStep_old] at h
 unfold evStepO at h
 split at h
 ·rename_i ho;rw [ho] at hk;cases hk
 ·unfold isLoad at hk
  split at hk
  ·rename_i T x ho
   simp only [evOp,ho] at h
   split at h
   ·split at h
    ·cases h;rfl
    ·cases h
   ·cases h
  ·cases hk
theorem step_ld {ev:CallE} {e:Look} {st st':St} {o:Oper} {pv:PV} (hk:isLoad o.op=true) (h:evStep P ev e st o=some (pv,st')):∃ s,evLd P e st o=some s∧pv=.s s:=by
 rw [evStep_old] at h
 unfold evStepO at h
 split at h
 ·rename_i ho;rw [ho] at hk;cases hk
 ·unfold isLoad at hk
  split at hk
  ·rename_i T x ho
   simp only [evOp,ho] at h
   unfold evLd
   simp only [ho]
   split at h
   ·split at h
    ·rename_i s hs
     cases h;exact ⟨s,hs,rfl⟩
    ·cases h
   ·cases h
  ·cases hk
theorem load_noskip {ev:CallE} {e:Look} {st st':St} {o:Oper} (hk:isLoad o.op=true) (h:evStep P ev e st o=some (.skip,st')):False:=by
 obtain ⟨s,_,h2⟩:=step_ld hk h
 cases h2
def eqV:Value→Value→Bool
 | .int k a,.int k' b=>decide (k=k') && a == b
 | .bool a,.bool b=>a == b
 | .pointer none,.pointer none=>true
 | .slice none a b,.slice none c d=>a == c && b == d
 | .nilIface,.nilIface=>true
 | _,_=>false
theorem eqV_spec {a b:Value} (h:eqV a b=true):a=b:=by
 unfold eqV at h
 split at h <;> simp at h
 ·obtain ⟨rfl,rfl⟩:=h;rfl
 ·subst h;rfl
 ·rfl
 ·obtain ⟨rfl,rfl⟩:=h;rfl
 ·rfl
def eqC:C→C→Bool
 | .flat a,.flat b=>eqV a b
 | .str a,.str b=>a == b
 | .emp a,.emp b=>a == b
 | .q a b c,.q a' b' c'=>a == a' && b == b' && c == c'
 | .low a b,.low c d=>a == c && b == d
 | .sl a b c d,.sl a' b' c' d'=>a == a' && b == b' && c == c' && d == d'
 | .ptr a b,.ptr c d=>a == c && b == d
 | .fn f c,.fn g d=>f == g && c == d
 | _,_=>false
theorem eqC_spec {a b:C} (h:eqC a b=true):a=b:=by
 unfold eqC at h
 split at h
 ·rw [eqV_spec h]
 ·simp at h;subst h;rfl
 ·simp at h;subst h;rfl
 ·simp at h;obtain ⟨⟨rfl,rfl⟩,rfl⟩:=h;rfl
 ·simp at h;obtain ⟨rfl,rfl⟩:=h;rfl
 ·simp at h;obtain ⟨⟨⟨rfl,rfl⟩,rfl⟩,rfl⟩:=h;rfl
 ·simp at h;obtain ⟨rfl,rfl⟩:=h;rfl
 ·simp at h;obtain ⟨rfl,rfl⟩:=h;rfl
 ·cases h
def eqCs:List C→List C→Bool
 | [],[]=>true
 | a :: x,b :: y=>eqC a b && eqCs x y
 | _,_=>false
theorem eqCs_spec:∀ {a b:List C},eqCs a b=true→a=b
 | [],[],_=>rfl
 | a :: x,b :: y,h=>by
  simp only [eqCs,Bool.and_eq_true] at h
  rw [eqC_spec h.1,eqCs_spec h.2]
 | [],_ :: _,h=>by cases h
 | _ :: _,[],h=>by cases h
def eqS:S→S→Bool
 | .c a,.c b=>eqC a b
 | .a a,.a b=>eqCs a b
 | _,_=>false
theorem eqS_spec {a b:S} (h:eqS a b=true):a=b:=by
 cases a <;> cases b <;> simp [eqS] at h
 ·rw [eqC_spec h]
 ·rw [eqCs_spec h]
def sameLd (r:Option S) (pv:PV):Bool:=match r,pv with
 | some a,.s b=>eqS a b
 | _,_=>false
theorem sameLd_spec {r:Option S} {pv:PV} (h:sameLd r pv=true):∃ s,r=some s∧pv=.s s:=by
 unfold sameLd at h
 split at h
 ·exact ⟨_,rfl,by rw [eqS_spec h]⟩
 ·cases h
theorem wp_of_doesS {m:M} {w:World} {a:Act} {o:Oper} {pv:PV} {Q:Exit→Act→World→Prop} (h:DoesS P m w a o pv):o.wp P a w (fun a' w'=>∃ v,a'=a.put o.dst v∧w'=w∧VP m pv v) Q:=by
 obtain ⟨v,hr,hv⟩:=h
 unfold Oper.wp
 rw [hr]
 exact ⟨v,rfl,rfl,hv⟩
def setE (e:Env) (d:Option Tmp) (pv:PV):Env:=match d with
 | some t=>e.set t pv
 | none=>e
theorem ER.put' {m:M} {e:Env} {a:Act} (h:ER m e a) {pv:PV} {v:Value} (hv:VP m pv v) (d:Option Tmp):ER m (setE e d pv) (a.put d v):=h.put hv d
def wantedE (ops:Array Oper) (e:Env) (o:Oper):Option Bool:=match o.guard with
 | none=>some true
 | some (j,want)=>match Flow.dstOf ops j with
  | none=>none
  | some d=>match e[d]? with
   | some (.s (.c (.flat (.bool b))))=>some (b == want)
   | some .skip=>some false
   | _=>none
theorem wanted_spec {ops:Array Oper} {m:M} {e:Env} {a:Act} {o:Oper} {b:Bool} (he:ER m e a) (h:wantedE ops e o=some b):Region.wanted o (yielded ops a.tmps)=b:=by
 unfold wantedE at h
 split at h
 ·cases h;rename_i hg;simp [Region.wanted,hg]
 ·rename_i j want hg
  split at h
  ·cases h
  rename_i d hd
  split at h
  ·rename_i b' hb
   cases h
   have hv:a.eval (.tmp d)=.bool b':=(show VP m (.s (.c (.flat (.bool b')))) (a.eval (.tmp d)) from lk_spec (x:=.tmp d) he hb).1
   simp [Region.wanted,hg,Flow.yielded_of hd hv]
  ·rename_i hb
   cases h
   have hv:a.eval (.tmp d)=undef:=(show VP m .skip (a.eval (.tmp d)) from lk_spec (x:=.tmp d) he hb)
   simp [Region.wanted,hg,Flow.yielded_none hd hv]
  ·cases h
variable (P)
def evSeq (ev:CallE) (ops:Array Oper):List Oper→Env→St→Option (Env × St)
 | [],e,st=>some (e,st)
 | o :: r,e,st=>match wantedE ops e o with
  | none=>none
  | some false=>evSeq ev ops r (setE e o.dst .skip) st
  | some true=>match evStep P ev (lk e) st o with
   | none=>none
   | some (pv,st')=>evSeq ev ops r (setE e o.dst pv) st'
variable {P}
theorem seq_wp (hN:NoCount P) {ev:CallE} (hev:CallOk P ev) {ops:Array Oper} {Q:Exit→Act→World→Prop}:∀ {l:List Oper} {m:M} {st st':St} {w:World} {a:Act} {e e':Env},SR m st.h w→ER m e a→evSeq P ev ops l e st=some (e',st') →
  (∀ a' w' m',ER m' e' a'→Res m st w m' st' w'→Q .normal a' w')→wpList P ops Q l a w
 | [],m,st,st',w,a,e,e',hs,he,h,hQ=>by
  cases h
  exact hQ a w m he (Res.refl hs)
 | o :: r,m,st,st',w,a,e,e',hs,he,h,hQ=>by
  simp only [evSeq] at h
  unfold wpList
  cases hw:wantedE ops e o with
  | none=>rw [hw] at h;cases h
  | some b =>
   rw [hw] at h
   rw [wanted_spec he hw]
   cases b with
   | false =>
    simp only [Bool.false_eq_true,if_false]
    exact seq_wp hN hev hs (he.put' (pv:=.skip) rfl o.dst) h hQ
   | true =>
    simp only [if_true]
    cases hst:evStep P ev (lk e) st o with
    | none=>simp only [hst] at h;cases h
    | some q =>
     obtain ⟨pv,st1⟩:=q
     simp only [hst] at h
     refine .inl (Oper.wp_mono ?_ (step_wp hN hev hs he.el hst))
     rintro a' w' ⟨v,m',rfl,hv,hres⟩
     exact seq_wp hN hev hres.sr ((he.ext hres.fr.same).put' hv o.dst) h fun a2 w2 m2 h1 h2=>hQ a2 w2 m2 h1 (hres.trans h2)
end Ev
end Go.Proofs.Ytcpodmjcgfgmnaa
