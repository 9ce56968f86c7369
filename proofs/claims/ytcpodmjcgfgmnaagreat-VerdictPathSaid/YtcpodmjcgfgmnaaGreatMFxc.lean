/- Fx: a run of Go code that the kernel computes fast. Seventh part: any operation; regions; code; functions. No program. -/
import Derived.Test.YtcpodmjcgfgmnaaGreatMFxb
namespace Go.Proofs.YtcpodmjcgfgmnaaGreat
open Go.RowKit Ev
namespace Fx
variable {P:Program} {β:Type}
def binP (P:Program) (n:Nat) (o:Oper) (op:BinOp) (x y:Operand):Option (Step β):=opdK n x fun gx=>opdK n y fun gy=>some (Qvq P n o op gx gy)
def appP (P:Program) (n:Nat) (args:Array Operand) (ts:Array TypeId):Option (Step β):=match args.toList,ts.toList with
 | [s,x],[T,T']=>opdK n s fun gs=>opdK n x fun gx=>if T=T' then Qvr P T gs gx else none
 | _,_=>none
def lenP (P:Program) (n:Nat) (o:Oper) (args:Array Operand) (ts:Array TypeId):Option (Step β):=match args.toList,ts[0]? with
 | [x],some T=>if Qk4 T then opdK n x (Qi9 P T) else opdK n x (Qvn P n o T)
 | _,_=>none
def Zaz (P:Program) (n:Nat) (T:TypeId) (x y:Operand) (ok:Bool):Option (Step β):=match Qkd P T with
 | some kt=>if ok then none else opdK n x fun gx=>some (Qhd P n kt y gx)
 | none=>opdK n x fun gx=>opdK n y fun gy=>Qp2 P T ok gx gy
theorem Zay {n:Nat} {o:Oper} {T:TypeId} {x y:Operand} {ok:Bool} (ho:o.op=.lookup T x y ok) {f:Step β} (h:Zaz P n T x y ok=some f):Rf n (evOp P · · o) f:=by
 unfold Zaz at h;split at h
 ·rename_i kt hk;cases ok with
  | true=>cases h
  | false =>
   rw [if_neg (by simp)] at h;obtain ⟨g,h1,h2⟩:=Qak h;cases h1;exact Ql5 ho hk h2
 ·rename_i hk;obtain ⟨g,h1,h2⟩:=Qak h;obtain ⟨g',h3,h4⟩:=Qak h1;exact Qvl ho hk h2 h4 h3
def setP (P:Program) (n:Nat) (T:TypeId) (x y z:Operand):Option (Step β):=match Qkd P T with
 | some kt=>opdK n x fun gx=>opdK n z fun gz=>some (Qi7 P n kt y gx gz)
 | none=>opdK n x fun gx=>opdK n y fun gy=>opdK n z fun gz=>Qi8 P T gx gy gz
theorem Qzj {n:Nat} {o:Oper} {T:TypeId} {x y z:Operand} (ho:o.op=.mapUpdate T x y z∨o.op=.insert T x y z) {f:Step β} (h:setP P n T x y z=some f):Rf n (evOp P · · o) f:=by
 unfold setP at h;split at h
 ·rename_i kt hk;obtain ⟨g,h1,h2⟩:=Qak h;obtain ⟨g',h3,h4⟩:=Qak h1;cases h3;exact Qn5 ho hk h2 h4
 ·rename_i hk;obtain ⟨g,h1,h2⟩:=Qak h;obtain ⟨g',h3,h4⟩:=Qak h1;obtain ⟨g'',h5,h6⟩:=Qak h3;exact Qpz ho hk h2 h4 h6 h5
def Qvc (P:Program) (n:Nat) (o:Oper):Option (Step β):=match o.op with
 | .move x=>opdK n x fun g=>some (Qpy g)
 | .assign x=>opdK n x fun g=>some (Qpy g)
 | .pick c x y=>opdK n c fun gc=>opdK n x fun gx=>opdK n y fun gy=>some (Qpx P n o gc gx gy)
 | .alloc T=>Ql9 P T
 | .box T x=>opdK n x fun g=>some (Qvp T g)
 | .load T x=>opdK n x (Qhg P T)
 | .store T x y=>opdK n x fun gx=>opdK n y fun gy=>Qic P T gx gy
 | .nilCheck x=>opdK n x fun g=>some (Qvj P n o g)
 | .fieldAddr T x f=>opdK n x (Qey P T f)
 | .field T x f=>opdK n x (Ql7 P T f)
 | .indexAddr T x y=>opdK n x fun gx=>opdK n y fun gy=>Qex P n o T gx gy
 | .index T x y=>opdK n x fun gx=>opdK n y fun gy=>Ql6 P n o T gx gy
 | .slice T x lo hi none=>opdK n x fun gx=>optK n lo fun gl=>optK n hi fun gh=>some (Ql4 P n o T gx gl gh)
 | .makeSlice T x y=>opdK n x fun gx=>opdK n y fun gy=>Qp1 P T gx gy
 | .buildSlice T m ps=>some (Ql8 P n T m ps.toList)
 | .extract x j=>opdK n x fun g=>some (Qhh P n o j g)
 | .convert s d x=>opdK n x (Qp3 P n o s d)
 | .binOp op _ x y _=>binP P n o op x y
 | .call { callee:=.builtin .len,args:=args,argTypes:=ts }=>lenP P n o args ts
 | .call { callee:=.builtin .append,args:=args,argTypes:=ts }=>appP P n args ts
 | .makeMap _ none=>some Qhf
 | .lookup T x y ok=>Zaz P n T x y ok
 | .mapUpdate T x y z=>setP P n T x y z
 | .insert T x y z=>setP P n T x y z
 | _=>some (genF P n o)
theorem two {α:Type} {a:Array α} {x y:α} (h:a.toList=[x,y]):a=#[x,y]:=by apply Array.ext';simpa using h
theorem Zan {n:Nat} {o:Oper} {f:Step β} (h:Qvc P n o=some f):Rf n (evOp P · · o) f:=by
 unfold Qvc at h;split at h
 ·rename_i x ho;obtain ⟨g,h1,h2⟩:=Qak h;cases h1;exact Qn6 (.inl ho) h2
 ·rename_i x ho;obtain ⟨g,h1,h2⟩:=Qak h;cases h1;exact Qn6 (.inr ho) h2
 ·rename_i c x y ho;obtain ⟨g,h1,h2⟩:=Qak h;obtain ⟨g',h3,h4⟩:=Qak h1;obtain ⟨g'',h5,h6⟩:=Qak h3;cases h5;exact Qvi ho h2 h4 h6
 ·rename_i T ho;exact Qtj ho h
 ·rename_i T x ho;obtain ⟨g,h1,h2⟩:=Qak h;cases h1;exact Qx9 ho h2
 ·rename_i T x ho;obtain ⟨g,h1,h2⟩:=Qak h;exact Qvm ho h2 h1
 ·rename_i T x y ho;obtain ⟨g,h1,h2⟩:=Qak h;obtain ⟨g',h3,h4⟩:=Qak h1;exact Qky ho h2 h4 h3
 ·rename_i x ho;obtain ⟨g,h1,h2⟩:=Qak h;cases h1;exact Qx7 ho h2
 ·rename_i T x fd ho;obtain ⟨g,h1,h2⟩:=Qak h;exact Qkc ho h2 h1
 ·rename_i T x fd ho;obtain ⟨g,h1,h2⟩:=Qak h;exact Qth ho h2 h1
 ·rename_i T x y ho;obtain ⟨g,h1,h2⟩:=Qak h;obtain ⟨g',h3,h4⟩:=Qak h1;exact Qkb ho h2 h4 h3
 ·rename_i T x y ho;obtain ⟨g,h1,h2⟩:=Qak h;obtain ⟨g',h3,h4⟩:=Qak h1;exact Qtg ho h2 h4 h3
 ·rename_i T x lo hi ho;obtain ⟨g,h1,h2⟩:=Qak h;obtain ⟨g',h3,h4⟩:=Qn4 h1;obtain ⟨g'',h5,h6⟩:=Qn4 h3;cases h5;exact Qtf ho h2 h4 h6
 ·rename_i T x y ho;obtain ⟨g,h1,h2⟩:=Qak h;obtain ⟨g',h3,h4⟩:=Qak h1;exact Qvk ho h2 h4 h3
 ·rename_i T m ps ho;cases h;exact Qti ho
 ·rename_i x j ho;obtain ⟨g,h1,h2⟩:=Qak h;cases h1;exact Qn8 ho h2
 ·rename_i s d x ho;obtain ⟨g,h1,h2⟩:=Qak h;exact Qvo ho h2 h1
 ·rename_i op T x y T' ho;obtain ⟨g,h1,h2⟩:=Qak h;obtain ⟨g',h3,h4⟩:=Qak h1;cases h3;exact Qya ho h2 h4
 ·rename_i args ts ho;unfold lenP at h;split at h
  ·rename_i x T hargs hts;have ha:args=#[x]:=by apply Array.ext';simpa using hargs
   subst ha;cases hmT:Qk4 T with
   | true =>
    rw [hmT,if_pos rfl] at h;obtain ⟨g,h1,h2⟩:=Qak h;exact Qp0 ho hts hmT h2 h1
   | false =>
    rw [hmT,if_neg (by simp)] at h;obtain ⟨g,h1,h2⟩:=Qak h;exact Qx8 ho hts hmT h2 h1
  ·cases h
 ·rename_i args ts ho;unfold appP at h;split at h
  ·rename_i s x T T' hargs hts;obtain ⟨g,h1,h2⟩:=Qak h;obtain ⟨g',h3,h4⟩:=Qak h1;have ha:=two hargs;have ht:=two hts;subst ha;subst ht;split at h3
   ·rename_i e;subst e;exact Qyc ho h2 h4 h3
   ·cases h3
  ·cases h
 ·rename_i T ho;cases h;exact Qn7 ho
 ·rename_i T x y ok ho;exact Zay ho h
 ·rename_i T x y z ho;exact Qzj (.inl ho) h
 ·rename_i T x y z ho;exact Qzj (.inr ho) h
 ·cases h;exact Qdb n o
abbrev Qet (β:Type):=FuncId→List FV→FSt→Kont β→Option β
abbrev Qrf (β:Type):=Qet β→Step β
abbrev RunT (β:Type):=Qet β→FE→FSt→(FE→FSt→Option β)→Option β
def Qdq (ev:Qav) (fev:Qet β):Prop:=∀ F args fs k r,fs.ok→fev F args fs k=some r→∃ v fs',fs'.ok∧ev F (args.map abs) fs.st=some (abs v,fs'.st)∧k v fs'=some r
def Qx6 {γ:Type} (n:Nat):List Operand→(List (FE→FV)→Option γ)→Option γ
 | [],K=>K []
 | x :: r,K=>opdK n x fun g=>Qx6 n r fun gs=>K (g :: gs)
theorem Qhe {γ:Type} {n:Nat}:∀ {l:List Operand} {K:List (FE→FV)→Option γ} {f:γ},Qx6 n l K=some f→∃ gs,K gs=some f∧∀ fe,all? (evX (lk (absE n fe))) l=some ((gs.map fun q=>q fe).map abs)
 | [],K,f,h=>⟨[],h,fun _=>rfl⟩
 | x :: r,K,f,h=>by
  obtain ⟨g,h1,h2⟩:=Qak h;obtain ⟨gs,h3,h4⟩:=Qhe h1;refine ⟨g :: gs,h3,fun fe=>?_⟩;have e:evX (lk (absE n fe)) x=some (abs (g fe)):=h2 fe;simp only [all?,e,h4 fe,List.map_cons]
def capF (p:Nat × Nat):FV:=.c (.p p.1 p.2)
def Qzw (P:Program) (gf:FE→FV) (gs:List (FE→FV)):Qrf β:=fun fev fe fs k=>match gf fe with
 | .c (.o (.fn g caps))=>if Qeg P g then fev g ((gs.map fun q=>q fe)++caps.map capF) fs k else none
 | .c (.o (.mt g i off))=>if Qeg P g then fev g (.c (.p i off) :: gs.map fun q=>q fe) fs k else none
 | _=>none
def Zcy (g:FuncId) (gs:List (FE→FV)):Qrf β:=fun fev fe fs k=>fev g (gs.map fun q=>q fe) fs k
def Zcz (P:Program) (n:Nat) (c:Call):Option (Qrf β):=match c.callee with
 | .value (.func g)=>if Qeg P g then Qx6 n c.args.toList fun gs=>some (Zcy g gs) else none
 | .value f=>opdK n f fun gf=>Qx6 n c.args.toList fun gs=>some (Qzw P gf gs)
 | _=>none
def Zaa (P:Program) (n:Nat) (o:Oper):Option (Qrf β):=match o.op with
 | .call c=>(match c.callee with
  | .builtin _=>(match Qvc P n o with
   | some s=>some fun _=>s
   | none=>none)
  | _=>Zcz P n c)
 | _=>(match Qvc P n o with
  | some s=>some fun _=>s
  | none=>none)
theorem Qz9 {ev:Qav} {fev:Qet β} (hev:Qdq ev fev) {n:Nat} {o:Oper} {f:Qrf β} (h:Zaa P n o=some f):Rf n (Qbd P ev · · o) (f fev):=by
 intro fe fs k r hok hr;have old:∀ {s:Step β},Qvc P n o=some s→s fe fs k=some r→(∀ c,o.op=.call c→∃ b,c.callee=.builtin b)→∃ v fs',fs'.ok∧Qbd P ev (lk (absE n fe)) fs.st o=some (abs v,fs'.st)∧k v fs'=some r:=fun {s} hs hr hb=>by
  obtain ⟨v,fs',g1,g2,g3⟩:=Zan hs fe fs k r hok hr;refine ⟨v,fs',g1,?_,g3⟩;rw [Qbb];unfold Qcf;split
  ·rename_i c ho;obtain ⟨b,hb⟩:=hb c ho;rw [hb];exact g2
  ·exact g2
 unfold Zaa at h;split at h
 ·rename_i c ho;split at h
  ·rename_i b hb;split at h
   ·rename_i s hs;cases h;exact old hs hr fun c' hc'=>by rw [ho] at hc';cases hc';exact ⟨b,hb⟩
   ·cases h
  ·rename_i hnb;unfold Zcz at h;have step:∀ {g:FuncId} {pvs:List PV} {pv:PV} {st':St},Qce (lk (absE n fe)) c=some (g,pvs)→Qeg P g=true→ev g pvs fs.st=some (pv,st')→Qbd P ev (lk (absE n fe)) fs.st o=some (pv,st'):=fun ht hb he=>by
    rw [Qbb];unfold Qcf;rw [ho];cases hcl:c.callee with
    | builtin b=>exact (hnb b hcl).elim
    | value f=>simp only [ht,hb,if_true];exact he
    | invoke r m=>simp only [ht,hb,if_true];exact he
   split at h
   ·rename_i g hg;split at h
    ·rename_i hb;obtain ⟨gs,h1,h2⟩:=Qhe h;cases h1;obtain ⟨v,fs',g1,g2,g3⟩:=hev _ _ _ _ _ hok hr;refine ⟨v,fs',g1,step ?_ hb g2,g3⟩;unfold Qce;rw [hg];have e:Qau (lk (absE n fe)) (.func g)=some (.fn g []):=rfl;simp only [e,h2 fe,List.map_nil,List.append_nil]
    ·cases h
   ·rename_i f' a1 a2;obtain ⟨gf,h1,h2⟩:=Qak h;obtain ⟨gs,h3,h4⟩:=Qhe h1;cases h3;unfold Qzw at hr;split at hr
    ·rename_i g caps hgf;split at hr
     ·rename_i hb;obtain ⟨v,fs',g1,g2,g3⟩:=hev _ _ _ _ _ hok hr;refine ⟨v,fs',g1,step ?_ hb g2,g3⟩;unfold Qce
      first | rw [a1] | rw [a2]
      have e:Qau (lk (absE n fe)) f'=some (.fn g caps):=Qar (by rw [h2 fe,hgf]:lk (absE n fe) f'=some (abs (.c (.o (.fn g caps)))));simp only [e,h4 fe,List.map_append,List.map_map];rfl
     ·cases hr
    ·rename_i g i off hgf;split at hr
     ·rename_i hb;obtain ⟨v,fs',g1,g2,g3⟩:=hev _ _ _ _ _ hok hr;refine ⟨v,fs',g1,step ?_ hb g2,g3⟩;unfold Qce
      first | rw [a1] | rw [a2]
      have e:Qau (lk (absE n fe)) f'=some (.mt g i off):=Qar (by rw [h2 fe,hgf]:lk (absE n fe) f'=some (abs (.c (.o (.mt g i off)))));simp only [e,h4 fe,List.map_cons];rfl
     ·cases hr
    ·cases hr
   ·cases h
 ·rename_i hnc;split at h
  ·rename_i s hs;cases h;exact old hs hr fun c hc=>(hnc c hc).elim
  ·cases h
def putO {γ:Type} (n:Nat) (d:Option Tmp) (K:(FV→FE→FE)→Option γ):Option γ:=match d with
 | none=>K fun _ fe=>fe
 | some t=>if Nat.blt t n then putK t K else none
theorem Qnu {γ:Type} {n:Nat} (hn:n≤512) {d:Option Tmp} {K:(FV→FE→FE)→Option γ} {f:γ} (h:putO n d K=some f):∃ put,K put=some f∧∀ v fe,absE n (put v fe)=setE (absE n fe) d (abs v):=by
 unfold putO at h;split at h
 ·exact ⟨_,h,fun _ _=>rfl⟩
 ·rename_i t;cases ht:Nat.blt t n with
  | false=>rw [ht] at h;simp at h
  | true =>
   simp only [ht,if_true] at h;rw [Zag] at h;have ht:t < n:=by simpa [Nat.blt_eq] using ht
   exact ⟨_,h,fun v fe=>by rw [Qzc hn,if_pos ht];rfl⟩
def Qz6 (v:FV) (want:Bool):Option Bool:=match v with
 | .c (.b b)=>some (b == want)
 | .skip=>some false
 | _=>none
def Zc8 (s:Qrf β) (put:FV→FE→FE):RunT β:=fun fev fe fs k=>s fev fe fs fun v fs'=>k (put v fe) fs'
def Zb6 (s:Qrf β) (g:FE→FV) (want:Bool) (put:FV→FE→FE):RunT β:=fun fev fe fs k=>match Qz6 (g fe) want with
 | some true=>s fev fe fs fun v fs'=>k (put v fe) fs'
 | some false=>k (put .skip fe) fs
 | none=>none
def oneP (P:Program) (n:Nat) (ops:Array Oper) (o:Oper):Option (RunT β):=match Zaa P n o with
 | none=>none
 | some s=>(match o.guard with
  | none=>putO n o.dst fun put=>some (Zc8 s put)
  | some (j,want)=>(match Flow.dstOf ops j with
   | none=>none
   | some d=>if Nat.blt d n then accK d fun g=>putO n o.dst fun put=>some (Zb6 s g want put) else none))
def One1 (P:Program) (ev:Qav) (ops:Array Oper) (o:Oper) (e:Env) (st:St) (e':Env) (st':St):Prop :=
 (Qaz ops e o=some false∧e'=setE e o.dst .skip∧st'=st)∨(Qaz ops e o=some true∧∃ pv,Qbd P ev e st o=some (pv,st')∧e'=setE e o.dst pv)
def Quj (n:Nat) (g:Env→St→Env→St→Prop) (fev:Qet β) (f:RunT β):Prop:=∀ fe fs k r,fs.ok→f fev fe fs k=some r→∃ fe' fs',fs'.ok∧g (absE n fe) fs.st (absE n fe') fs'.st∧k fe' fs'=some r
theorem Qvs {ev:Qav} {fev:Qet β} (hev:Qdq ev fev) {n:Nat} (hn:n≤512) {ops:Array Oper} {o:Oper} {f:RunT β} (h:oneP P n ops o=some f):Quj n (One1 P ev ops o) fev f:=by
 unfold oneP at h;split at h
 ·cases h
 rename_i s hs;have hst:=Qz9 hev hs;split at h
 ·rename_i hg;obtain ⟨put,h1,h2⟩:=Qnu hn h;cases h1;intro fe fs k r hok hr;obtain ⟨v,fs',g1,g2,g3⟩:=hst fe fs _ r hok hr;refine ⟨put v fe,fs',g1,.inr ⟨by simp [Qaz,hg],_,g2,h2 _ _⟩,g3⟩
 ·rename_i j want hg;split at h
  ·cases h
  rename_i d hd;cases hdn:Nat.blt d n with
  | false=>rw [hdn] at h;simp at h
  | true =>
   simp only [hdn,if_true] at h;rw [Qnc] at h;obtain ⟨put,h1,h2⟩:=Qnu hn h;cases h1;have hdn:d < n:=by simpa [Nat.blt_eq] using hdn
   intro fe fs k r hok hr;have hw:∀ b,Qz6 (get 3 d fe) want=some b→Qaz ops (absE n fe) o=some b:=fun b hb=>by
    unfold Qaz;simp only [hg,hd,Qc5 fe hdn];unfold Qz6 at hb;split at hb
    ·rename_i b' e;rw [e];cases hb;rfl
    ·rename_i e;rw [e];cases hb;rfl
    ·cases hb
   unfold Zb6 at hr;split at hr
   ·rename_i hb;obtain ⟨v,fs',g1,g2,g3⟩:=hst fe fs _ r hok hr;exact ⟨put v fe,fs',g1,.inr ⟨hw _ hb,_,g2,h2 _ _⟩,g3⟩
   ·rename_i hb;exact ⟨put .skip fe,fs,hok,.inl ⟨hw _ hb,h2 _ _,rfl⟩,hr⟩
   ·cases hr
def seqP (P:Program) (n:Nat) (ops:Array Oper):List Oper→Option (RunT β)
 | []=>some fun _ fe fs k=>k fe fs
 | o :: r=>match oneP P n ops o with
  | none=>none
  | some f=>match seqP P n ops r with
   | none=>none
   | some g=>some fun fev fe fs k=>f fev fe fs fun fe' fs'=>g fev fe' fs' k
theorem Quw {ev:Qav} {fev:Qet β} (hev:Qdq ev fev) {n:Nat} (hn:n≤512) {ops:Array Oper}:∀ {l:List Oper} {f:RunT β},seqP P n ops l=some f→Quj n (fun e st e' st'=>Qjr P ev ops l e st=some (e',st')) fev f
 | [],f,h=>by cases h;exact fun fe fs k r hok hr=>⟨fe,fs,hok,rfl,hr⟩
 | o :: l,f,h=>by
  simp only [seqP] at h;split at h
  ·cases h
  rename_i f1 h1;split at h
  ·cases h
  rename_i f2 h2;cases h;intro fe fs k r hok hr;obtain ⟨fe1,fs1,a1,a2,a3⟩:=Qvs hev hn h1 fe fs _ r hok hr;obtain ⟨fe2,fs2,b1,b2,b3⟩:=Quw hev hn h2 fe1 fs1 k r a1 a3;refine ⟨fe2,fs2,b1,?_,b3⟩;simp only [Qjr];rcases a2 with ⟨w,e1,e2⟩ | ⟨w,pv,e1,e2⟩
  ·rw [w];simp only;rw [← e1,← e2];exact b2
  ·rw [w];simp only;rw [e1];simp only;rw [← e2];exact b2
def tP (P:Program) (n:Nat) (ops:Array Oper):List Oper→Option (RunT β)
 | []=>some fun _ fe fs k=>k fe fs
 | o :: r=>if o.dst.isNone then none else match oneP P n ops o with
  | none=>none
  | some f=>match tP P n ops r with
   | none=>none
   | some g=>some fun fev fe fs k=>f fev fe ⟨fs.h,fs.n,fs.n⟩ fun fe' fs'=>if Nat.ble fs.n fs'.lo then g fev fe' fs' k else none
theorem t_rf {ev:Qav} {fev:Qet β} (hev:Qdq ev fev) {n:Nat} (hn:n≤512) {ops:Array Oper}:∀ {l:List Oper} {f:RunT β},tP P n ops l=some f→Quj n (fun e st e' st'=>evT P ev ops l e st.h=some (e',st'.h)) fev f
 | [],f,h=>by cases h;exact fun fe fs k r hok hr=>⟨fe,fs,hok,rfl,hr⟩
 | o :: l,f,h=>by
  simp only [tP] at h;split at h
  ·cases h
  rename_i hd;split at h
  ·cases h
  rename_i f1 h1;split at h
  ·cases h
  rename_i f2 h2;cases h;intro fe fs k r hok hr;have hok0:(FSt.mk fs.h fs.n fs.n).ok:=⟨hok.n,hok.obj⟩;obtain ⟨fe1,fs1,a1,a2,a3⟩:=Qvs hev hn h1 fe ⟨fs.h,fs.n,fs.n⟩ _ r hok0 hr;split at a3
  ·rename_i hlo;have hlo:fs.n≤fs1.lo:=by simpa using hlo
   obtain ⟨fe2,fs2,b1,b2,b3⟩:=t_rf hev hn h2 fe1 fs1 k r a1 a3;refine ⟨fe2,fs2,b1,?_,b3⟩;cases hdd:o.dst with
   | none=>rw [hdd] at hd;exact (hd rfl).elim
   | some d =>
    have est:(⟨fs.st.h,fs.st.h.length⟩:St)=(FSt.mk fs.h fs.n fs.n).st:=by
     rw [Qcg];rfl
    simp only [evT,hdd];rcases a2 with ⟨w,e1,e2⟩ | ⟨w,pv,e1,e2⟩
    ·rw [w];simp only;rw [hdd] at e1;have e1:absE n fe1=(absE n fe).set d .skip:=e1;rw [← e1];have e2:fs1.st.h=fs.st.h:=by rw [e2];rfl
     rw [← e2];exact b2
    ·rw [w];simp only;rw [est,e1];simp only;rw [hdd] at e2;have e2:absE n fe1=(absE n fe).set d pv:=e2;rw [if_pos (show fs.st.h.length≤fs1.st.lo by rw [Qcg];exact hlo),← e2];exact b2
  ·cases a3
abbrev RunS (β:Type):=Qet β→FE→FSt→List FSt→(FE→FSt→List FSt→Option β)→Option β
def uP (P:Program) (n:Nat) (ops:Array Oper):List Oper→Option (RunS β)
 | []=>some fun _ fe fs acc k=>k fe fs acc
 | o :: r=>match oneP P n ops o with
  | none=>none
  | some f=>match uP P n ops r with
   | none=>none
   | some g=>some fun fev fe fs acc k=>f fev fe fs fun fe' fs'=>g fev fe' fs' (fs' :: acc) k
theorem u_rf {ev:Qav} {fev:Qet β} (hev:Qdq ev fev) {n:Nat} (hn:n≤512) {ops:Array Oper}:∀ {l:List Oper} {f:RunS β},uP P n ops l=some f→∀ (fe:FE) (fs:FSt) (acc:List FSt) (k:FE→FSt→List FSt→Option β) (r:β),fs.ok→(∀ x∈acc,x.ok)→f fev fe fs acc k=some r →
  ∃ (fe':FE) (fs':FSt) (V:List FSt),fs'.ok∧(∀ x∈V,x.ok)∧evU P ev ops l (absE n fe) fs.st=some (absE n fe',V.map FSt.st)∧((V.map FSt.st).getLast?).getD fs.st=fs'.st∧k fe' fs' (V.reverse++acc)=some r
 | [],f,h,fe,fs,acc,k,r,hok,_,hr=>by cases h;exact ⟨fe,fs,[],hok,by simp,rfl,rfl,hr⟩
 | o :: l,f,h,fe,fs,acc,k,r,hok,hacc,hr=>by
  simp only [uP] at h;split at h
  ·cases h
  rename_i f1 h1;split at h
  ·cases h
  rename_i f2 h2;cases h;obtain ⟨fe1,fs1,a1,a2,a3⟩:=Qvs hev hn h1 fe fs _ r hok hr;obtain ⟨fe2,fs2,V,b1,b2,b3,b4,b5⟩:=u_rf hev hn h2 fe1 fs1 (fs1 :: acc) k r a1 (fun x hx=>by
   rcases List.mem_cons.1 hx with rfl | hx
   ·exact a1
   ·exact hacc x hx) a3
  refine ⟨fe2,fs2,fs1 :: V,b1,fun x hx=>by
   rcases List.mem_cons.1 hx with rfl | hx
   ·exact a1
   ·exact b2 x hx,?_,?_,by simpa using b5⟩
  ·simp only [evU];rcases a2 with ⟨w,e1,e2⟩ | ⟨w,pv,e1,e2⟩
   ·rw [w];simp only;rw [← e1,← e2,b3];rfl
   ·rw [w];simp only;rw [e1];simp only;rw [← e2,b3];rfl
  ·rw [← b4];cases V with
   | nil=>rfl
   | cons a b=>simp [List.getLast?_cons]
theorem Zac {ev:Qav} {ops:Array Oper}:∀ {l:List Oper} {e e':Env} {st st':St},Qjr P ev ops l e st=some (e',st')→∃ sts,evU P ev ops l e st=some (e',sts)∧(sts.getLast?).getD st=st'
 | [],e,e',st,st',h=>by cases h;exact ⟨[],rfl,rfl⟩
 | o :: r,e,e',st,st',h=>by
  have last:∀ (s:St) (l:List St),((s :: l).getLast?).getD st=(l.getLast?).getD s:=fun s l=>by
   cases l with
   | nil=>rfl
   | cons a b=>simp [List.getLast?_cons]
  simp only [Qjr] at h;simp only [evU];split at h
  ·cases h
  ·rename_i hw;obtain ⟨sts,h1,h2⟩:=Zac h;rw [hw];simp only [h1];exact ⟨_,rfl,by rw [last];exact h2⟩
  ·rename_i hw;split at h
   ·cases h
   rename_i pv st1 hs;obtain ⟨sts,h1,h2⟩:=Zac h;rw [hw];simp only [hs,h1];exact ⟨_,rfl,by rw [last];exact h2⟩
def Qmu (P:Program) (n:Nat) (ops:Array Oper) (fe:FE) (sts:List FSt) (p:Nat × Nat):Bool:=match ops[p.1]?,sts[p.2]? with
 | some o,some fs=>(match o.dst with
  | some d=>if Nat.blt d n then (match abs (get 3 d fe) with
   | .skip=>true
   | pv=>(match o.op with
    | .load T x=>(match opdK n x (Qhg (β:=PV) P T) with
     | some f=>(match f fe fs (fun v _=>some (abs v)) with
      | some pv'=>(match pv' with
       | .s s=>Qrq (some s) pv
       | _=>false)
      | none=>false)
     | none=>false)
    | _=>false)) else false
  | none=>false)
 | _,_=>false
theorem Qoy {n:Nat} {ops:Array Oper} {fe:FE} {sts:List FSt} {p:Nat × Nat} (h:Qmu P n ops fe sts p=true):Qer P ops (absE n fe) (sts.map FSt.st) p=true:=by
 unfold Qmu at h;split at h
 ·rename_i o fs ho hfs;split at h
  ·rename_i d hd;split at h
   ·rename_i hdn;have hdn:d < n:=by simpa [Nat.blt_eq] using hdn
    unfold Qer;simp only [ho,List.getElem?_map,hfs,Option.map_some,hd,Qc5 fe hdn];split at h
    ·rename_i e;rw [e]
    ·rename_i pv hne;split at h
     ·rename_i T x hop;split at h
      ·rename_i f hf;split at h
       ·rename_i pv' hr;split at h
        ·rename_i s;obtain ⟨g,h1,h2⟩:=Qak hf;obtain ⟨i,off,v,s',e1,e2,e3,e4⟩:=Qqm h1 hr;have hc:Qau (lk (absE n fe)) x=some (.ptr i off):=Qar (by rw [h2 fe,e1]:lk (absE n fe) x=some (abs (.c (.p i off))));have e5:s'=s:=by
          have:=Option.some.inj e4;rw [e3] at this;exact (PV.s.inj this)
         subst e5;have hld:evLd P (lk (absE n fe)) fs.st o=some s':=by
          unfold evLd;simp only [hop,hc,e2]
         split
         ·rfl
         ·rename_i pv0 _ heq;cases heq;rw [hld];exact h
         ·rename_i heq;cases heq
        ·cases h
       ·cases h
      ·cases h
     ·cases h
   ·cases h
  ·cases h
 ·cases h
def Qpg (P:Program) (n:Nat) (ops:Array Oper) (n0:Nat) (fe:FE) (sts:List FSt):Option FSt:=match ops[(Qas ops).1]?,ops[(Qas ops).2]?,sts[(Qas ops).1 - n0]? with
 | some a,some b,some fs=>(match a.op,b.op with
  | .store _ x _,.store T' x' y'=>(match flk n fe x,flk n fe x' with
   | some (.s (.c (.ptr i _))),some (.s (.c (.ptr j _)))=>if Nat.beq i j then none else (match opdK n x' (fun gx=>opdK n y' fun gy=>Qic (β:=FSt) P T' gx gy) with
    | some f=>f fe fs fun _ fs'=>some fs'
    | none=>none)
   | _,_=>none)
  | _,_=>none)
 | _,_,_=>none
def Qph (P:Program) (n:Nat) (ops:Array Oper) (n0:Nat) (fe:FE) (sts:List FSt):Bool:=if Nat.blt (Qas ops).1 (Qas ops).2 then (match Qpg P n ops n0 fe sts with
  | some fs=>(Qg7 ops (Qas ops)).all fun i=>Qmu P n ops fe [fs] (i,0)
  | none=>false) else true
theorem Quk {n n0:Nat} {ops:Array Oper} {fe:FE} {sts:List FSt} {fsB:FSt} (hok:∀ x∈sts,x.ok) (h:Qpg P n ops n0 fe sts=some fsB):Qhq P ops n0 (absE n fe) (sts.map FSt.st)=some fsB.st:=by
 unfold Qpg at h;split at h
 ·rename_i a b fs ha hb hfs;split at h
  ·rename_i T0 x y0 T' x' y' hoa hob;split at h
   ·rename_i i off0 j off hx hx';split at h
    ·cases h
    rename_i hij;split at h
    ·rename_i f hf;obtain ⟨gx,h1,g1⟩:=Qak hf;obtain ⟨gy,h2,g2⟩:=Qak h1;obtain ⟨v,fs',_,e2,e3⟩:=Qky hob g1 g2 h2 fe fs _ fsB (hok fs (List.mem_of_getElem? hfs)) h;cases e3;rw [Qk8] at hx hx';have c1:Qau (lk (absE n fe)) x=some (.ptr i off0):=by unfold Qau evX;rw [hx]
     have c2:Qau (lk (absE n fe)) x'=some (.ptr j off):=by unfold Qau evX;rw [hx']
     unfold Qhq;simp only [ha,hb,List.getElem?_map,hfs,Option.map_some,hoa,hob,c1,c2];simp only [evOp,hob,c2] at e2;split at e2
     ·rename_i i2 off2 s hcc hs;cases hcc;simp only [hs];rw [if_neg (by simpa using hij)];split at e2
      ·rename_i st1 h9;simp only [Option.some.injEq,Prod.mk.injEq] at e2;rw [← e2.2];exact h9
      ·cases e2
     ·cases e2
    ·cases h
   ·cases h
  ·cases h
 ·cases h
theorem Qul {n n0:Nat} {ops:Array Oper} {fe:FE} {sts:List FSt} (hok:∀ x∈sts,x.ok) (h:Qph P n ops n0 fe sts=true):Qkl P ops n0 (absE n fe) (sts.map FSt.st)=true:=by
 unfold Qph at h;unfold Qkl;split at h
 ·rename_i hp;rw [if_pos hp];split at h
  ·rename_i fs hfs;rw [Quk hok hfs];simp only;rw [List.all_eq_true] at h ⊢;intro i hi;have:=Qoy (h i hi);simpa using this
  ·cases h
 ·rename_i hp;rw [if_neg hp]
def Zbx (t u:RunT β):RunT β:=fun fev fe fs k=>t fev fe fs fun fe' fs'=>u fev fe' ⟨fs'.h,fs'.n,fs.lo⟩ k
def uOf (P:Program) (n:Nat) (ops:Array Oper) (n0:Nat) (u:RunS β):RunT β:=fun fev fe fs k=>u fev fe fs [fs] fun fe' fs' acc=>if (Qcd ops n0).all (Qmu P n ops fe' acc.reverse) && Qph P n ops n0 fe' acc.reverse && (Qqo ops n0).all (Qwc ops (absE n fe') fs.st.h (acc.reverse.map FSt.st)) && Qoo P ops n0 (absE n fe') fs.st.h (acc.reverse.map FSt.st) then k fe' fs' else none
def uP2 (P:Program) (n:Nat) (ops:Array Oper) (n0:Nat):Option (RunT β):=match (Qcd ops n0).isEmpty && !Nat.blt (Qas ops).1 (Qas ops).2 && (Qqo ops n0).isEmpty with
 | true=>seqP P n ops (ops.toList.drop n0)
 | false=>(match uP P n ops (ops.toList.drop n0) with
  | some u=>some (uOf P n ops n0 u)
  | none=>none)
def regN (P:Program) (n:Nat) (ops:Array Oper) (n0:Nat):Option (RunT β):=(if Qb8 ops n0 && (ops.toList.all Qyl && ops.toList.all (Qy2 n)) then (match n0 with
   | 0=>uP2 P n ops 0
   | m+1=>(match tP P n ops (ops.toList.take (m+1)) with
    | none=>none
    | some t=>(match uP2 P n ops (m+1) with
     | none=>none
     | some u=>some (Zbx t u)))) else none)
def regP (P:Program) (n:Nat) (ops:Array Oper) (draw:Bool):Option (RunT β):=if draw then
  (match Qvy ops with
  | none=>regN P n ops (Zbj ops)
  | some (σ,n0)=>if Qrx σ ops.size then regN P n (Qbw σ ops) n0 else none)
 else seqP P n ops ops.toList
theorem Zbu {ev:Qav} {fev:Qet β} (hev:Qdq ev fev) {n n0:Nat} (hn:n≤512) {ops:Array Oper} {f:RunT β} (h:uP2 P n ops n0=some f) :
  Quj n (fun e st e' st'=>∃ sts,evU P ev ops (ops.toList.drop n0) e st=some (e',sts)∧(sts.getLast?).getD st=st'∧(Qcd ops n0).all (Qer P ops e' (st :: sts))=true∧Qkl P ops n0 e' (st :: sts)=true∧(Qqo ops n0).all (Qwc ops e' st.h (st :: sts))=true∧Qoo P ops n0 e' st.h (st :: sts)=true) fev f:=by
 unfold uP2 at h;split at h
 ·rename_i hf;intro fe fs k r hok hr;obtain ⟨fe',fs',a1,a2,a3⟩:=Quw hev hn h fe fs k r hok hr;obtain ⟨sts,b1,b2⟩:=Zac a2;simp only [Bool.and_eq_true,List.isEmpty_iff,Bool.not_eq_true'] at hf;exact ⟨fe',fs',a1,⟨sts,b1,b2,by rw [hf.1.1];rfl,by unfold Qkl;rw [if_neg (by rw [hf.1.2];simp)],by rw [hf.2];rfl,by unfold Qoo;rw [if_neg (by rw [hf.1.2];simp)]⟩,a3⟩
 ·split at h
  ·rename_i u hu;cases h;intro fe fs k r hok hr;unfold uOf at hr;obtain ⟨fe',fs',V,a1,a2,a3,a4,a5⟩:=u_rf hev hn hu fe fs [fs] _ r hok (fun x hx=>by simp at hx;subst hx;exact hok) hr;split at a5
   ·rename_i hall;simp only [Bool.and_eq_true] at hall;refine ⟨fe',fs',a1,⟨_,a3,a4,?_,?_,by simpa using hall.1.2,by simpa using hall.2⟩,a5⟩
    ·have hall:=hall.1.1.1;rw [List.all_eq_true] at hall ⊢;intro p hp;have:=Qoy (hall p hp);simpa using this
    ·have:=Qul (fun x hx=>by
      rw [List.mem_reverse,List.mem_append,List.mem_reverse] at hx;rcases hx with hx | hx
      ·exact a2 x hx
      ·simp at hx;subst hx;exact hok) hall.1.1.2
     simpa using this
   ·cases a5
  ·cases h
theorem Qu6 {ev:Qav} {fev:Qet β} (hev:Qdq ev fev) {n n0:Nat} (hn:n≤512) {ops:Array Oper} {f:RunT β} (h:regN P n ops n0=some f):Quj n (fun e st e' st'=>Qmz P ev ops n0 e st=some (e',st')) fev f:=by
 unfold regN at h;split at h
 ·rename_i hst;have hst':∀ fe,(Qb8 ops n0 && ops.toList.all Qyl && ops.toList.all (Qy2 (absE n fe).length))=true:=fun fe=>by
   rw [Qft];simp only [Bool.and_eq_true] at hst ⊢;exact ⟨⟨hst.1,hst.2.1⟩,hst.2.2⟩
  split at h
  ·intro fe fs k r hok hr;obtain ⟨fe',fs',a1,⟨sts,b1,b2,b3,b4,b5,b6⟩,a3⟩:=Zbu hev hn h fe fs k r hok hr;refine ⟨fe',fs',a1,?_,a3⟩;unfold Qmz;simp only [hst' fe,if_true];have eT:evT P ev ops (ops.toList.take 0) (absE n fe) fs.st.h=some (absE n fe,fs.st.h):=rfl;rw [eT];simp only [b1,b3,b4,b5,b6,Bool.and_self,if_true,b2]
  ·split at h
   ·cases h
   rename_i t ht;split at h
   ·cases h
   rename_i u hu;cases h;intro fe fs k r hok hr;unfold Zbx at hr;obtain ⟨fe1,fs1,a1,a2,a3⟩:=t_rf hev hn ht fe fs _ r hok hr;have hok1:(FSt.mk fs1.h fs1.n fs.lo).ok:=⟨a1.n,a1.obj⟩;obtain ⟨fe',fs',c1,⟨sts,b1,b2,b3,b4,b5,b6⟩,c3⟩:=Zbu hev hn hu fe1 ⟨fs1.h,fs1.n,fs.lo⟩ k r hok1 a3;refine ⟨fe',fs',c1,?_,c3⟩;unfold Qmz;simp only [hst' fe,if_true];rw [a2];have est:(⟨fs1.st.h,fs.st.lo⟩:St)=(FSt.mk fs1.h fs1.n fs.lo).st:=rfl;have esh:fs1.st.h=(FSt.mk fs1.h fs1.n fs.lo).st.h:=rfl;simp only [est,b1];rw [esh];simp only [b3,b4,b5,b6,Bool.and_self,if_true,b2]
 ·cases h
theorem Zb2 {ev:Qav} {fev:Qet β} (hev:Qdq ev fev) {n:Nat} (hn:n≤512) {ops:Array Oper} {draw:Bool} {f:RunT β} (h:regP P n ops draw=some f):Quj n (fun e st e' st'=>Qej P ev ops draw e st=some (e',st')) fev f:=by
 unfold regP at h;unfold Qej;cases draw with
 | false =>
  simp only [Bool.false_eq_true,if_false] at h ⊢;exact Quw hev hn h
 | true =>
  simp only [if_true] at h ⊢;cases hm:Qvy ops with
  | none =>
   rw [hm] at h;exact Qu6 hev hn h
  | some p =>
   obtain ⟨σ,n0⟩:=p;rw [hm] at h;simp only at h ⊢;split at h
   ·rename_i hp;simp only [hp,if_true];exact Qu6 hev hn h
   ·cases h
end Fx
end Go.Proofs.YtcpodmjcgfgmnaaGreat
namespace Go.Proofs.YtcpodmjcgfgmnaaGreat
open Go.RowKit Ev
namespace Fx
variable {P:Program} {β:Type}
abbrev KX (β:Type):=X→FE→FSt→Option β
abbrev Qkk (β:Type):=Qet β→Nat→FE→FSt→KX β→Option β
def Qyp (f:FE→FSt→KX β→Option β):Nat→FE→FSt→KX β→Option β
 | 0,_,_,_=>none
 | n+1,fe,fs,k=>f fe fs fun x fe' fs'=>match x with
  | .norm=>Qyp f n fe' fs' k
  | x=>k x fe' fs'
def seqC (f g:Qkk β):Qkk β:=fun fev N fe fs k=>f fev N fe fs fun x fe' fs'=>match x with
 | .norm=>g fev N fe' fs' k
 | x=>k x fe' fs'
def Zcv (q:FE→FV) (f g:Qkk β):Qkk β:=fun fev N fe fs k=>match q fe with
 | .c (.b true)=>f fev N fe fs k
 | .c (.b false)=>g fev N fe fs k
 | _=>none
def Zc0 (id:Nat) (f:Qkk β):Qkk β:=fun fev N fe fs k=>f fev N fe fs fun x fe' fs'=>match x with
 | .exit id'=>if Nat.beq id' id then k .norm fe' fs' else k (.exit id') fe' fs'
 | x=>k x fe' fs'
def Qg3 (P:Program) (n:Nat):Code→Option (Qkk β)
 | .skip=>some fun _ _ fe fs k=>k .norm fe fs
 | .region _ ops draw=>(match regP P n ops draw with
  | some f=>some fun fev _ fe fs k=>f fev fe fs (k .norm)
  | none=>none)
 | .seq a b=>(match Qg3 P n a with
  | none=>none
  | some f=>(match Qg3 P n b with
   | none=>none
   | some g=>some (seqC f g)))
 | .cond c a b=>opdK n c fun q=>(match Qg3 P n a with
  | none=>none
  | some f=>(match Qg3 P n b with
   | none=>none
   | some g=>some (Zcv q f g)))
 | .block id c=>(match Qg3 P n c with
  | none=>none
  | some f=>some (Zc0 id f))
 | .loop c=>(match Qg3 P n c with
  | none=>none
  | some f=>some fun fev N fe fs k=>Qyp (f fev N) N fe fs k)
 | .exit id=>some fun _ _ fe fs k=>k (.exit id) fe fs
 | .scope c=>Qg3 P n c
 | .label _=>some fun _ _ fe fs k=>k .norm fe fs
 | .ret=>some fun _ _ fe fs k=>k .ret fe fs
 | _=>none
def Zc5 (P:Program) (ev:Qav) (n N:Nat) (c:Code) (fev:Qet β) (f:Qkk β):Prop:=∀ fe fs k r,fs.ok→f fev N fe fs k=some r→∃ x fe' fs',fs'.ok∧Qa6 P ev N c (absE n fe) fs.st=some (x,absE n fe',fs'.st)∧k x fe' fs'=some r
theorem Zbl {ev:Qav} {fev:Qet β} (hev:Qdq ev fev) {n N:Nat} (hn:n≤512):∀ (c:Code) {f:Qkk β},Qg3 P n c=some f→Zc5 P ev n N c fev f:=by
 intro c;induction c with
 | skip=>intro f h;cases h;exact fun fe fs k r hok hr=>⟨.norm,fe,fs,hok,rfl,hr⟩
 | region id ops draw =>
  intro f h;simp only [Qg3] at h;split at h
  ·rename_i g hg;cases h;intro fe fs k r hok hr;obtain ⟨fe',fs',a1,a2,a3⟩:=Zb2 hev hn hg fe fs _ r hok hr;exact ⟨.norm,fe',fs',a1,by simp only [Qa6,a2],a3⟩
  ·cases h
 | seq a b iha ihb =>
  intro f h;simp only [Qg3] at h;split at h
  ·cases h
  rename_i f1 h1;split at h
  ·cases h
  rename_i f2 h2;cases h;intro fe fs k r hok hr;obtain ⟨x,fe1,fs1,a1,a2,a3⟩:=iha h1 fe fs _ r hok hr;cases x with
  | norm =>
   obtain ⟨x,fe2,fs2,b1,b2,b3⟩:=ihb h2 fe1 fs1 _ r a1 a3;exact ⟨x,fe2,fs2,b1,by simp only [Qa6,a2];exact b2,b3⟩
  | exit id=>exact ⟨.exit id,fe1,fs1,a1,by simp only [Qa6,a2],a3⟩
  | ret=>exact ⟨.ret,fe1,fs1,a1,by simp only [Qa6,a2],a3⟩
 | cond c a b iha ihb =>
  intro f h;simp only [Qg3] at h;obtain ⟨q,h,hq⟩:=Qak h;split at h
  ·cases h
  rename_i f1 h1;split at h
  ·cases h
  rename_i f2 h2;cases h;intro fe fs k r hok hr;unfold Zcv at hr;split at hr
  ·rename_i hb;have hc:Qau (lk (absE n fe)) c=some (.flat (.bool true)):=Qar (by rw [hq fe,hb]:lk (absE n fe) c=some (abs (.c (.b true))));obtain ⟨x,fe1,fs1,a1,a2,a3⟩:=iha h1 fe fs _ r hok hr;exact ⟨x,fe1,fs1,a1,by simp only [Qa6,hc];exact a2,a3⟩
  ·rename_i hb;have hc:Qau (lk (absE n fe)) c=some (.flat (.bool false)):=Qar (by rw [hq fe,hb]:lk (absE n fe) c=some (abs (.c (.b false))));obtain ⟨x,fe1,fs1,a1,a2,a3⟩:=ihb h2 fe fs _ r hok hr;exact ⟨x,fe1,fs1,a1,by simp only [Qa6,hc];exact a2,a3⟩
  ·cases hr
 | block id c ih =>
  intro f h;simp only [Qg3] at h;split at h
  ·cases h
  rename_i f1 h1;cases h;intro fe fs k r hok hr;obtain ⟨x,fe1,fs1,a1,a2,a3⟩:=ih h1 fe fs _ r hok hr;cases x with
  | norm=>exact ⟨.norm,fe1,fs1,a1,by simp only [Qa6,a2],a3⟩
  | exit id' =>
   simp only at a3;split at a3
   ·rename_i hid;have hid:id'=id:=by simpa using hid
    exact ⟨.norm,fe1,fs1,a1,by simp only [Qa6,a2,if_pos hid],a3⟩
   ·rename_i hid;have hid:¬ id'=id:=by simpa using hid
    exact ⟨.exit id',fe1,fs1,a1,by simp only [Qa6,a2,if_neg hid],a3⟩
  | ret=>exact ⟨.ret,fe1,fs1,a1,by simp only [Qa6,a2],a3⟩
 | loop c ih =>
  intro f h;simp only [Qg3] at h;split at h
  ·cases h
  rename_i f1 h1;cases h;have key:∀ m fe fs k r,fs.ok→Qyp (f1 fev N) m fe fs k=some r→∃ x fe' fs',fs'.ok∧iter (Qa6 P ev N c) m (absE n fe) fs.st=some (x,absE n fe',fs'.st)∧k x fe' fs'=some r:=by
   intro m;induction m with
   | zero=>intro fe fs k r _ hr;cases hr
   | succ m ihm =>
    intro fe fs k r hok hr;simp only [Qyp] at hr;obtain ⟨x,fe1,fs1,a1,a2,a3⟩:=ih h1 fe fs _ r hok hr;cases x with
    | norm =>
     obtain ⟨x,fe2,fs2,b1,b2,b3⟩:=ihm fe1 fs1 k r a1 a3;exact ⟨x,fe2,fs2,b1,by simp only [iter,a2];exact b2,b3⟩
    | exit id=>exact ⟨.exit id,fe1,fs1,a1,by simp only [iter,a2],a3⟩
    | ret=>exact ⟨.ret,fe1,fs1,a1,by simp only [iter,a2],a3⟩
  exact fun fe fs k r hok hr=>key N fe fs k r hok hr
 | exit id=>intro f h;cases h;exact fun fe fs k r hok hr=>⟨.exit id,fe,fs,hok,rfl,hr⟩
 | scope c ih=>intro f h;exact ih h
 | label l=>intro f h;cases h;exact fun fe fs k r hok hr=>⟨.norm,fe,fs,hok,rfl,hr⟩
 | ret=>intro f h;cases h;exact fun fe fs k r hok hr=>⟨.ret,fe,fs,hok,rfl,hr⟩
 | rangeFunc f ps a b _ _=>intro f h;cases h
 | goto l=>intro f h;cases h
 | refuse s=>intro f h;cases h
abbrev ResT:=FE→FSt→Option FS
def fsOf:FV→Option FS
 | .c x=>some (.c x)
 | .a l=>some (.a l)
 | _=>none
theorem Qow {v:FV} {s:FS} (h:fsOf v=some s):abs v=.s (absS s):=by
 unfold fsOf at h;split at h <;> cases h <;> rfl
def Qta (P:Program) (n:Nat) (r:ResultVar):Option ResT:=match r with
 | .tmp t=>if Nat.blt t n then accK t fun g=>some fun fe _=>fsOf (g fe) else none
 | .cell t T=>if Nat.blt t n then accK t fun g=>(match Qhg (β:=FS) P T g with
  | some f=>some fun fe fs=>f fe fs fun v _=>fsOf v
  | none=>none) else none
theorem Qu4 {n:Nat} {r:ResultVar} {f:ResT} (h:Qta P n r=some f) {fe:FE} {fs:FSt} {s:FS} (hs:f fe fs=some s):Qb0 P (absE n fe) fs.st r=some (absS s):=by
 cases r with
 | tmp t =>
  cases ht:Nat.blt t n with
  | false=>simp [Qta,ht] at h
  | true =>
   simp only [Qta,ht,if_true] at h;rw [Qnc] at h;cases h;have ht:t < n:=by simpa [Nat.blt_eq] using ht
   simp only [Qb0,Qc5 fe ht];rw [Qow hs]
 | cell t T =>
  cases ht:Nat.blt t n with
  | false=>simp [Qta,ht] at h
  | true =>
   simp only [Qta,ht,if_true] at h;rw [Qnc] at h;split at h
   ·rename_i g hg;cases h;have ht:t < n:=by simpa [Nat.blt_eq] using ht
    obtain ⟨i,off,v,s',e1,e2,e3,e4⟩:=Qqm hg hs;have e5:=Qow e4;rw [e3] at e5;simp only [Qb0,Qc5 fe ht,e1];show Qd3 P fs.st T i off=_;rw [e2,PV.s.inj e5]
   ·cases h
def resP (P:Program) (n:Nat):List ResultVar→Option (List ResT)
 | []=>some []
 | r :: l=>match Qta P n r with
  | none=>none
  | some f=>match resP P n l with
   | none=>none
   | some fs=>some (f :: fs)
def Qns (fe:FE) (fs:FSt):List ResT→Option (List FS)
 | []=>some []
 | f :: l=>match f fe fs with
  | none=>none
  | some s=>match Qns fe fs l with
   | none=>none
   | some ss=>some (s :: ss)
theorem Qi4 {n:Nat} {fe:FE} {fs:FSt}:∀ {l:List ResultVar} {ts:List ResT} {ss:List FS},resP P n l=some ts→Qns fe fs ts=some ss→all? (Qb0 P (absE n fe) fs.st) l=some (ss.map absS)
 | [],ts,ss,h,hs=>by cases h;cases hs;rfl
 | r :: l,ts,ss,h,hs=>by
  simp only [resP] at h;split at h
  ·cases h
  rename_i f1 h1;split at h
  ·cases h
  rename_i f2 h2;cases h;simp only [Qns] at hs;split at hs
  ·cases hs
  rename_i s hs1;split at hs
  ·cases hs
  rename_i ss' hs2;cases hs;simp only [all?,Qu4 h1 hs1,Qi4 h2 hs2,List.map_cons]
def pvF (l:List FS):FV:=match l with
 | [s]=>toFV s
 | l=>.t l
theorem Qx2 (l:List FS):abs (pvF l)=pvOf (l.map absS):=by
 unfold pvF;split
 ·exact Qnd _
 ·rename_i h;cases l with
  | nil=>rfl
  | cons a b=>cases b with
   | nil=>exact absurd rfl (h a)
   | cons c d=>rfl
def Qk0:FC→Bool
 | .p _ _=>false
 | .s _ _ _ _=>false
 | .o c=>Qp6 c
 | _=>true
def Qvx:FS→Bool
 | .c x=>Qk0 x
 | .a l=>l.all Qk0
def Zb9:FV→Bool
 | .c x=>Qk0 x
 | .a l=>l.all Qk0
 | .t l=>l.all Qvx
 | _=>false
theorem Qjb (c:FC):Qp6 (absC c)=Qk0 c:=by cases c <;> rfl
theorem Qoa (s:FS):Qvw (absS s)=Qvx s:=by
 cases s with
 | c x=>exact Qjb x
 | a l =>
  show (l.map absC).all Qp6=l.all Qk0;rw [List.all_map];congr 1;funext c;exact Qjb c
theorem Qyg (v:FV):noId (abs v)=Zb9 v:=by
 cases v with
 | c x=>exact Qjb x
 | a l=>exact Qoa (.a l)
 | t l =>
  show (l.map absS).all Qvw=l.all Qvx;rw [List.all_map];congr 1;funext c;exact Qoa c
 | skip=>rfl
 | any=>rfl
structure Comp (β:Type) where
 n:Nat
 run:Qkk β
 res:List ResT
def Zcw (P:Program) (F:FuncId):Option (Comp β):=match P.funcs[F]? with
 | none=>none
 | some fn=>(match fn.body with
  | none=>none
  | some c=>if Nat.ble fn.ntmps 512 then (match Qg3 P fn.ntmps c with
   | none=>none
   | some run=>(match resP P fn.ntmps fn.results.toList with
    | none=>none
    | some res=>some ⟨fn.ntmps,run,res⟩)) else none)
def Qt6:List FV→Nat→FE→FE
 | [],_,e=>e
 | v :: r,j,e=>Qt6 r (j+1) (set 3 j v e)
theorem Qo1:∀ {l:List FV} {j q:Nat} {e:FE},j+l.length≤512→q < 512→get 3 q (Qt6 l j e)=if q < j then get 3 q e else match l[q - j]? with | some v=>v | none=>get 3 q e
 | [],j,q,e,_,_=>by simp [Qt6]
 | v :: r,j,q,e,h,hq=>by
  have e3:(8:Nat) ^ 3=512:=rfl;simp only [List.length_cons] at h;rw [Qt6,Qo1 (by omega) hq];by_cases h1:q < j
  ·rw [if_pos (by omega),if_pos h1,Qfz 3 v e (by omega) (by omega) (by omega)]
  ·rw [if_neg h1];by_cases h2:q=j
   ·subst h2;rw [if_pos (by omega),Qe8 3 v e (by omega)];simp
   ·rw [if_neg (by omega),show q - j=(q - (j+1))+1 by omega,List.getElem?_cons_succ];cases hc:r[q - (j+1)]? with
    | some x=>rfl
    | none=>exact Qfz 3 v e (by omega) (by omega) h2
theorem Qww {l:List FV} {n:Nat} (h:l.length≤n) (hn:n≤512):absE n (Qt6 l 0 (all .skip 3))=l.map abs++List.replicate (n - (l.map abs).length) PV.skip:=by
 have e3:(8:Nat) ^ 3=512:=rfl;refine List.ext_getElem? fun j=>?_;by_cases hj:j < n
 ·rw [Qc5 _ hj,Qo1 (by omega) (by omega),if_neg (by omega),Nat.sub_zero];by_cases h1:j < l.length
  ·rw [List.getElem?_append_left (by simpa using h1)];simp [h1]
  ·rw [List.getElem?_append_right (by simp;omega),List.getElem?_eq_none (by omega)];simp only [List.getElem?_replicate,List.length_map];rw [if_pos (by omega),Qqt _ 3 _ (by omega)];rfl
 ·rw [List.getElem?_eq_none (by rw [Qft];omega),List.getElem?_eq_none (by simp;omega)]
def retF (fs fs':FSt) (v:FV) (k:Kont β):Option β:=if Zb9 v && Nat.ble fs.n fs'.lo then k v fs else k v ⟨fs'.h,fs'.n,minF fs.lo fs'.lo⟩
def runF (c:Comp β) (fev:Qet β) (N:Nat) (args:List FV) (fs:FSt) (k:Kont β):Option β :=
 if Nat.ble args.length c.n then c.run fev N (Qt6 args 0 (all .skip 3)) ⟨fs.h,fs.n,fs.n⟩ fun x fe' fs'=>match x with
  | .exit _=>none
  | _=>(match Qns fe' fs' c.res with
   | none=>none
   | some l=>retF fs fs' (pvF l) k)
 else none
abbrev Orc (β:Type):=FuncId→Option (List FV→FSt→Kont β→Option β)
def Qwo (P:Program) (orcF:Orc β) (N:Nat):Nat→Qet β
 | 0,_,_,_,_=>none
 | m+1,F,args,fs,k=>match orcF F with
  | some g=>g args fs k
  | none=>(match Zcw P F with
   | none=>none
   | some c=>runF c (Qwo P orcF N m) N args fs k)
structure OrcOk (orc:Qav) (orcF:Orc β):Prop where
 off:∀ F,orcF F=none→∀ a st,orc F a st=none
 on:∀ F g,orcF F=some g→∀ args fs k r,fs.ok→g args fs k=some r→∃ v fs',fs'.ok∧orc F (args.map abs) fs.st=some (abs v,fs'.st)∧k v fs'=some r
theorem Zcn {orc:Qav} {orcF:Orc β} (ho:OrcOk orc orcF) (N:Nat):∀ m,Qdq (Qh6 P orc N m) (Qwo P orcF N m)
 | 0=>fun F args fs k r hok h=>by cases h
 | m+1=>fun F args fs k r hok h=>by
  simp only [Qwo] at h;split at h
  ·rename_i g hg;obtain ⟨v,fs',a1,a2,a3⟩:=ho.on F g hg args fs k r hok h;exact ⟨v,fs',a1,by simp only [Qh6,a2],a3⟩
  ·rename_i hoff;split at h
   ·cases h
   rename_i c hc;unfold Zcw at hc;split at hc
   ·cases hc
   rename_i fn hfn;split at hc
   ·cases hc
   rename_i body hb;split at hc
   ·rename_i hn;have hn:fn.ntmps≤512:=by simpa using hn
    split at hc
    ·cases hc
    rename_i run hrun;split at hc
    ·cases hc
    rename_i res hres;cases hc;unfold runF at h;split at h
    ·rename_i hal;have hal:args.length≤fn.ntmps:=by simpa using hal
     have hok0:(FSt.mk fs.h fs.n fs.n).ok:=⟨hok.n,hok.obj⟩;obtain ⟨x,fe1,fs1,a1,a2,a3⟩:=Zbl (Zcn ho N m) hn body hrun _ _ _ r hok0 h;rw [Qww hal hn] at a2;have est:(FSt.mk fs.h fs.n fs.n).st=⟨fs.st.h,fs.st.h.length⟩:=by rw [Qcg];rfl
     rw [est] at a2;have fin:(match Qns fe1 fs1 res with | none=>none | some l=>retF fs fs1 (pvF l) k)=some r→(∀ id,x≠.exit id)→∃ v fs',fs'.ok∧Qh6 P orc N (m+1) F (args.map abs) fs.st=some (abs v,fs'.st)∧k v fs'=some r:=fun hr hx=>by
      split at hr
      ·cases hr
      rename_i l hl;have hra:=Qi4 hres hl;unfold retF at hr;have hev:Qh6 P orc N (m+1) F (args.map abs) fs.st=if noId (pvOf (l.map absS)) && decide (fs.st.h.length≤fs1.st.lo) then some (pvOf (l.map absS),fs.st) else some (pvOf (l.map absS),⟨fs1.st.h,min fs.st.lo fs1.st.lo⟩):=by
       simp only [Qh6,ho.off F hoff,hfn,hb,a2];cases x with
       | exit id=>exact (hx id rfl).elim
       | norm=>simp only [hra]
       | ret=>simp only [hra]
      rw [← Qx2,Qyg,Qcg] at hev;split at hr
      ·rename_i hc;simp only [Bool.and_eq_true,Nat.ble_eq] at hc;refine ⟨_,fs,hok,?_,hr⟩;rw [hev,if_pos (by rw [hc.1];simp;exact hc.2)]
      ·rename_i hc;refine ⟨_,⟨fs1.h,fs1.n,minF fs.lo fs1.lo⟩,⟨a1.n,a1.obj⟩,?_,hr⟩;rw [hev,if_neg (by
        intro hh;simp only [Bool.and_eq_true,decide_eq_true_eq] at hh;exact hc (by rw [hh.1];have:=hh.2;simp;exact this)),Zda,Qe0]
       rfl
     cases x with
     | exit id=>cases a3
     | norm=>exact fin a3 fun id e=>by cases e
     | ret=>exact fin a3 fun id e=>by cases e
    ·cases h
   ·cases hc
theorem Zb8:OrcOk (β:=β) Zar (fun _=>none):=⟨fun _ _ _ _=>rfl,fun F g h=>by cases h⟩
def endV:Kont Value:=fun v _=>match v with
 | .c (.i n)=>some (.int .i64 (.ofNat n))
 | .c (.k kd n)=>some (.int kd (.ofNat n))
 | .c (.b b)=>some (.bool b)
 | .c (.o (.flat v))=>some v
 | _=>none
theorem Qw3 {v:FV} {fs:FSt} {u:Value} (h:endV v fs=some u):abs v=.s (.c (.flat u)):=by
 unfold endV at h;split at h <;> cases h <;> rfl
theorem Qu1 (hN:Qcx P) (hM:P.follows .mixedOrders=true) {orc:Qav} {orcF:Orc Value} (horc:Qfj P orc) (hork:Qa9 orc) (ho:OrcOk orc orcF) {N m:Nat} {F:FuncId} {pvs:List FV} {v:Value} (h:Qwo P orcF N m F pvs st0 endV=some v)
  {args:List Value} (hargs:All2 (VP fun _=>none) (pvs.map abs) args) (w:World):Calls P F args.toArray w fun e w'=>e=.returned v∧Flow.Grow w w':=by
 obtain ⟨u,fs',_,h2,h3⟩:=Zcn ho N m F pvs st0 endV v Zbz h;rw [Qw3 h3] at h2;exact Qpc hN hM horc hork h2 hargs w
end Fx
end Go.Proofs.YtcpodmjcgfgmnaaGreat
