/- Ev: a function's code, run on what is Qh5 of its values. First part: what is Qh5, and of which world. No program. -/
import Derived.WalkKit
import Derived.Lib.Hide
import Derived.Laws.Strings
import Derived.Laws.IdiomStrings
import Derived.WalkSpells
namespace Go.Proofs.YtcpodmjcgfgmnaaGreat
open Go.RowKit
namespace Ev
def All2 {α β:Type} (R:α→β→Prop) (xs:List α) (vs:List β):Prop:=xs.length=vs.length∧∀ (j:Nat) x v,xs[j]?=some x→vs[j]?=some v→R x v
theorem All2.nil {α β:Type} {R:α→β→Prop}:All2 R [] []:=⟨rfl,fun j x v h=>by simp at h⟩
theorem All2.cons {α β:Type} {R:α→β→Prop} {x:α} {v:β} {xs:List α} {vs:List β} (h:R x v) (k:All2 R xs vs):All2 R (x :: xs) (v :: vs) :=
 ⟨by simp [k.1],fun j y u hy hu=>by
  cases j with
  | zero=>simp at hy hu;subst hy;subst hu;exact h
  | succ j=>exact k.2 j y u (by simpa using hy) (by simpa using hu)⟩
theorem All2.imp {α β:Type} {R R':α→β→Prop} {xs:List α} {vs:List β} (h:All2 R xs vs) (k:∀ x v,R x v→R' x v):All2 R' xs vs:=⟨h.1,fun j x v a b=>k _ _ (h.2 j x v a b)⟩
theorem All2.append {α β:Type} {R:α→β→Prop} {xs ys:List α} {vs us:List β} (h:All2 R xs vs) (k:All2 R ys us):All2 R (xs++ys) (vs++us):=by
 refine ⟨by simp [h.1,k.1],fun j x v hx hv=>?_⟩;by_cases hj:j < xs.length
 ·rw [List.getElem?_append_left hj] at hx;rw [List.getElem?_append_left (by rw [← h.1];exact hj)] at hv;exact h.2 j x v hx hv
 ·rw [List.getElem?_append_right (by omega)] at hx;rw [List.getElem?_append_right (by rw [← h.1];omega),← h.1] at hv;exact k.2 _ x v hx hv
theorem All2.take {α β:Type} {R:α→β→Prop} {xs:List α} {vs:List β} (h:All2 R xs vs) (n:Nat):All2 R (xs.take n) (vs.take n):=by
 refine ⟨by simp [h.1],fun j x v hx hv=>?_⟩;rw [List.getElem?_take] at hx hv;split at hx
 ·rw [if_pos (by assumption)] at hv;exact h.2 j x v hx hv
 ·cases hx
theorem All2.drop {α β:Type} {R:α→β→Prop} {xs:List α} {vs:List β} (h:All2 R xs vs) (n:Nat):All2 R (xs.drop n) (vs.drop n):=by
 refine ⟨by simp [h.1],fun j x v hx hv=>?_⟩;rw [List.getElem?_drop] at hx hv;exact h.2 _ x v hx hv
theorem All2.map {α β γ:Type} {R:α→β→Prop} (f:γ→α) (g:γ→β) (h:∀ c,R (f c) (g c)) (l:List γ):All2 R (l.map f) (l.map g):=by
 refine ⟨by simp,fun j x v hx hv=>?_⟩;rw [List.getElem?_map] at hx hv;cases hc:l[j]? with
 | none=>rw [hc] at hx;cases hx
 | some c=>rw [hc] at hx hv;cases hx;cases hv;exact h c
inductive C where
 | flat (v:Value)
 | str (l:List UInt8)
 | emp (z:Bool)
 | low (k r:Nat)
 | sl (i off len sz:Nat)
 | q (i off sz:Nat)
 | ptr (i off:Nat)
 | fn (f:FuncId) (caps:List (Nat × Nat))
 | mt (f:FuncId) (i off:Nat)
 | mp (i:Nat)
 deriving Inhabited
inductive S where
 | c (x:C)
 | a (cs:List C)
 deriving Inhabited
inductive PV where
 | any
 | skip
 | s (x:S)
 | t (xs:List S)
 deriving Inhabited
structure O where
 cells:List C
 ty:TypeId
 rw:Bool
 live:Bool
 full:Bool
 deriving Inhabited
structure St where
 h:List O
 lo:Nat
abbrev Env:=List PV
structure Pl where
 b:Nat
 o:Nat
 n:Nat
abbrev M:=Nat→Option Pl
theorem Qmq {c:Prop} [Decidable c] (A B:Addr):(if c then some A else some B)=some (if c then A else B):=by split <;> rfl
def one (v:Value):Bool:=v.oneCell'
def str' (l:List UInt8):Value:=.string ⟨l.toArray⟩
def VC (m:M):C→Value→Prop
 | .flat v,x=>x=v∧one v=true
 | .str l,x=>x=str' l
 | .emp z,x=>∃ a cap,x=.slice (some a) 0 cap∧(z=true→cap=0)
 | .low k r,x=>∃ n:Int,x=.int .i64 n∧n % ((2 ^ k:Nat):Int)=(r:Int)
 | .sl i off len sz,x=>∃ p cap,m i=some p∧x=.slice (some ⟨p.b,p.o+off,none⟩) len cap∧len≤cap∧cap≤maxLen∧p.o+off+cap * sz≤p.n
 | .q i off sz,x=>∃ p a cap,m i=some p∧x=.slice (some a) 0 cap∧cap≤maxLen∧(0 < cap→a=⟨p.b,p.o+off,none⟩∧p.o+off+cap * sz≤p.n)
 | .ptr i off,x=>∃ p,m i=some p∧x=.pointer (some ⟨p.b,p.o+off,none⟩)
 | .fn f caps,x=>∃ as:List Value,x=.func (.func f) #[] as.toArray∧All2 (fun c v=>∃ p,m c.1=some p∧v=.pointer (some ⟨p.b,p.o+c.2,none⟩)) caps as
 | .mt f i off,x=>∃ p,m i=some p∧x=.func (.func f) #[.pointer (some ⟨p.b,p.o+off,none⟩)] #[]
 | .mp i,x=>∃ p,m i=some p∧x=.map (some p.b)
def VS (m:M):S→Value→Prop
 | .c x,v=>VC m x v
 | .a cs,v=>∃ vs:List Value,v=.agg vs.toArray∧All2 (VC m) cs vs
def VP (m:M):PV→Value→Prop
 | .any,_=>True
 | .skip,v=>v=undef
 | .s x,v=>VS m x v
 | .t xs,v=>∃ vs:List Value,v=.tuple vs.toArray∧All2 (VS m) xs vs
theorem VC.one {m:M} {c:C} {v:Value} (h:VC m c v):v.oneCell'=true:=by
 cases c with
 | flat u=>obtain ⟨rfl,h⟩:=h;exact h
 | str l=>cases h;rfl
 | emp z=>obtain ⟨a,cap,rfl,_⟩:=h;rfl
 | low k r=>obtain ⟨n,rfl,_⟩:=h;rfl
 | sl i off len sz=>obtain ⟨p,cap,_,rfl,_⟩:=h;rfl
 | q i off sz=>obtain ⟨p,a,cap,_,rfl,_⟩:=h;rfl
 | ptr i off=>obtain ⟨p,_,rfl⟩:=h;rfl
 | fn f caps=>obtain ⟨as,rfl,_⟩:=h;rfl
 | mt f i off=>obtain ⟨p,_,rfl⟩:=h;rfl
 | mp i=>obtain ⟨p,_,rfl⟩:=h;rfl
theorem VC.ext {m m':M} {c:C} {v:Value} (h:VC m c v) (k:∀ i p,m i=some p→m' i=some p):VC m' c v:=by
 cases c with
 | flat u=>exact h
 | str l=>exact h
 | emp z=>exact h
 | low k r=>exact h
 | sl i off len sz=>obtain ⟨p,cap,h1,h2⟩:=h;exact ⟨p,cap,k _ _ h1,h2⟩
 | q i off sz=>obtain ⟨p,a,cap,h1,h2⟩:=h;exact ⟨p,a,cap,k _ _ h1,h2⟩
 | ptr i off=>obtain ⟨p,h1,h2⟩:=h;exact ⟨p,k _ _ h1,h2⟩
 | fn f caps=>obtain ⟨as,h1,h2⟩:=h;exact ⟨as,h1,h2.imp fun c v ⟨p,a,b⟩=>⟨p,k _ _ a,b⟩⟩
 | mt f i off=>obtain ⟨p,h1,h2⟩:=h;exact ⟨p,k _ _ h1,h2⟩
 | mp i=>obtain ⟨p,h1,h2⟩:=h;exact ⟨p,k _ _ h1,h2⟩
theorem VS.ext {m m':M} {c:S} {v:Value} (h:VS m c v) (k:∀ i p,m i=some p→m' i=some p):VS m' c v:=by
 cases c with
 | c x=>exact VC.ext h k
 | a cs=>obtain ⟨vs,h1,h2⟩:=h;exact ⟨vs,h1,h2.imp fun _ _ h=>h.ext k⟩
theorem VP.ext {m m':M} {c:PV} {v:Value} (h:VP m c v) (k:∀ i p,m i=some p→m' i=some p):VP m' c v:=by
 cases c with
 | any=>exact trivial
 | skip=>exact h
 | s x=>exact VS.ext h k
 | t cs=>obtain ⟨vs,h1,h2⟩:=h;exact ⟨vs,h1,h2.imp fun _ _ h=>h.ext k⟩
def kvC:C→Option Value
 | .flat (.int .i64 n)=>some (.int .i64 n)
 | .str l=>some (str' l)
 | _=>none
def Qh7 (o:O) (rest:List C):Prop:=o.live=false∧o.cells=.emp true :: rest
def prV (a b:Nat):Value:=.agg #[.int .i64 (a:Int),.int .i64 (b:Int)]
def prC:C→Option (Value × Value)
 | .low a b=>some (prV a b,.bool true)
 | _=>none
def Zdf (w:World) (b:Nat) (rest:List C):Prop:=∃ es clock,w.heap[b]?=some (.map es clock)∧((rest.map kvC=es.toList.flatMap fun e=>[some e.key,some e.val])∨∃ ks,rest=.emp false :: ks∧ks.map prC=es.toList.map fun e=>some (e.key,e.val))
structure MR (m:M) (h:List O) (w:World):Prop where
 at_:∀ i p o rest,m i=some p→h[i]?=some o→Qh7 o rest→Zdf w p.b rest
 sep:∀ i j p q o o' r r',m i=some p→m j=some q→h[i]?=some o→h[j]?=some o'→Qh7 o r→Qh7 o' r'→i≠j→p.b≠q.b
theorem MR.keep {m m':M} {h h':List O} {w w':World} (k:MR m h w) (ho:∀ i p o rest,m' i=some p→h'[i]?=some o→Qh7 o rest→m i=some p∧h[i]?=some o)
  (hw:∀ (b:Nat) es clock,w.heap[b]?=some (.map es clock)→w'.heap[b]?=some (.map es clock)):MR m' h' w' :=
 ⟨fun i p o rest a b c=>by
  obtain ⟨x,y⟩:=ho i p o rest a b c;obtain ⟨es,cl,z,u⟩:=k.at_ i p o rest x y c;exact ⟨es,cl,hw _ _ _ z,u⟩,
 fun i j p q o o' r r' a b c d e f=>by
  obtain ⟨x,y⟩:=ho i p o r a c e;obtain ⟨x',y'⟩:=ho j q o' r' b d f;exact k.sep i j p q o o' r r' x x' y y' e f⟩
theorem MR.grow {m m':M} {h h':List O} {w w':World} (k:MR m h w) (ho:∀ i p o rest,m' i=some p→h'[i]?=some o→Qh7 o rest→m i=some p∧h[i]?=some o)
  (hw:∀ (b:Nat),b < w.heap.size→w'.heap[b]?=w.heap[b]?):MR m' h' w' :=
 k.keep ho fun b es cl hb=>by rw [hw b (Array.getElem?_eq_some_iff.1 hb).1];exact hb
structure SR (m:M) (h:List O) (w:World):Prop where
 dom:∀ i p,m i=some p→i < h.length
 obj:∀ i p o,m i=some p→h[i]?=some o→o.live=true→∃ cur fr,w.heap[p.b]?=some (.cells cur o.ty fr)∧cur.size=p.n∧p.o+o.cells.length≤p.n ∧
  (∀ j c,o.cells[j]?=some c→∃ v,cur[p.o+j]?=some v∧VC m c v)∧(o.rw=true→fr=(0,0))∧(o.full=true→p.o=0∧o.cells.length=p.n)
 sep:∀ i j p q o o',m i=some p→m j=some q→h[i]?=some o→h[j]?=some o'→o.rw=true→o.live=true→o'.live=true→i≠j→p.b≠q.b
 mr:MR m h w
structure Fr (lo:Nat) (m:M) (n:Nat) (w:World) (m':M) (w':World):Prop where
 same:∀ i p,m i=some p→m' i=some p
 back:∀ i,i < n→m' i=m i
 new:∀ j p,n≤j→m' j=some p→w.heap.size≤p.b∨∃ i q,lo≤i∧i < n∧m i=some q∧q.b=p.b
 size:w.heap.size≤w'.heap.size
 os:w'.os=w.os
 tape:w'.tape=w.tape
 output:w'.output=w.output
 keep:∀ b,b < w.heap.size→(∀ i p,lo≤i→i < n→m i=some p→p.b≠b)→w'.heap[b]?=w.heap[b]?
theorem Fr.refl (lo:Nat) {m:M} {n:Nat} (w:World) (hd:∀ i p,m i=some p→i < n):Fr lo m n w m w :=
 ⟨fun _ _ h=>h,fun _ _=>rfl,fun j p hj h=>by have:=hd j p h;omega,Nat.le_refl _,rfl,rfl,rfl,fun _ _ _=>rfl⟩
theorem Fr.trans {lo:Nat} {m m1 m2:M} {n n1:Nat} {w w1 w2:World} (h:Fr lo m n w m1 w1) (k:Fr lo m1 n1 w1 m2 w2) (hn:n≤n1):Fr lo m n w m2 w2 where
 same:=fun i p a=>k.same i p (h.same i p a)
 back:=fun i hi=>(k.back i (by omega)).trans (h.back i hi)
 new:=fun j p hj a=>by
  by_cases hj1:j < n1
  ·rw [k.back j hj1] at a;exact h.new j p hj a
  ·rcases k.new j p (by omega) a with c | ⟨i,q,c1,c2,c3,c4⟩
   ·exact .inl (Nat.le_trans h.size c)
   ·by_cases hi:i < n
    ·rw [h.back i hi] at c3;exact .inr ⟨i,q,c1,hi,c3,c4⟩
    ·rcases h.new i q (by omega) c3 with d | ⟨i',q',d1,d2,d3,d4⟩
     ·exact .inl (by omega)
     ·exact .inr ⟨i',q',d1,d2,d3,d4.trans c4⟩
 size:=Nat.le_trans h.size k.size
 os:=k.os.trans h.os
 tape:=k.tape.trans h.tape
 output:=k.output.trans h.output
 keep:=fun b hb hne=>by
  rw [k.keep b (Nat.lt_of_lt_of_le hb h.size) fun i p c1 c2 c3=>?_]
  ·exact h.keep b hb hne
  ·by_cases hi:i < n
   ·rw [h.back i hi] at c3;exact hne i p c1 hi c3
   ·rcases h.new i p (by omega) c3 with d | ⟨i',q',d1,d2,d3,d4⟩
    ·omega
    ·rw [← d4];exact hne i' q' d1 d2 d3
theorem Fr.mono {lo lo':Nat} {m m':M} {n:Nat} {w w':World} (h:Fr lo m n w m' w') (k:lo'≤lo):Fr lo' m n w m' w' :=
 { h with
   new:=fun j p hj a=>(h.new j p hj a).imp id fun ⟨i,q,c1,c⟩=>⟨i,q,by omega,c⟩
   keep:=fun b hb hne=>h.keep b hb fun i p c1=>hne i p (by omega) }
structure Res (m:M) (st:St) (w:World) (m':M) (st':St) (w':World):Prop where
 sr:SR m' st'.h w'
 fr:Fr st'.lo m st.h.length w m' w'
 len:st.h.length≤st'.h.length
 lo:st'.lo≤st.lo
 old:∀ i,i < st.h.length→i < st'.lo→st'.h[i]?=st.h[i]?
theorem Res.refl {m:M} {st:St} {w:World} (h:SR m st.h w):Res m st w m st w:=⟨h,Fr.refl _ w h.dom,Nat.le_refl _,Nat.le_refl _,fun _ _ _=>rfl⟩
theorem Res.trans {m m1 m2:M} {st st1 st2:St} {w w1 w2:World} (h:Res m st w m1 st1 w1) (k:Res m1 st1 w1 m2 st2 w2):Res m st w m2 st2 w2 :=
 ⟨k.sr,(h.fr.mono k.lo).trans k.fr h.len,Nat.le_trans h.len k.len,Nat.le_trans k.lo h.lo,fun i hi hl=>(k.old i (by have:=h.len;omega) hl).trans (h.old i hi (by have:=k.lo;omega))⟩
theorem SR.drew {m:M} {h:List O} {w:World} (hs:SR m h w):SR m h w.drew:=⟨hs.dom,hs.obj,hs.sep,hs.mr.keep (fun _ _ _ _ a b _=>⟨a,b⟩) fun _ _ _ h=>h⟩
def put (m:M) (i:Nat) (p:Pl):M:=fun j=>if j=i then some p else m j
theorem Qat (m:M) (i:Nat) (p:Pl):put m i p i=some p:=by simp [put]
theorem Qa0 (m:M) {i j:Nat} (p:Pl) (h:j≠i):put m i p j=m j:=by simp [put,h]
theorem Ql1 {m:M} {n:Nat} (p:Pl) (hd:∀ i q,m i=some q→i < n):∀ i q,m i=some q→put m n p i=some q:=fun i q h=>by
 have:=hd i q h;rw [Qa0 m p (by omega),h]
theorem SR.lt {m:M} {h:List O} {w:World} (hs:SR m h w) {i:Nat} {p:Pl} {o:O} (hm:m i=some p) (ho:h[i]?=some o) (hl:o.live=true):p.b < w.heap.size:=by
 obtain ⟨cur,fr,hb,_⟩:=hs.obj i p o hm ho hl;exact (Array.getElem?_eq_some_iff.1 hb).1
theorem Res.alloc {m:M} {st:St} {w:World} (hs:SR m st.h w) (cs:List C) (vs:List Value) (T:TypeId) (hv:All2 (VC m) cs vs) (extra:List Value) (fl:Bool) (hfl:fl=true→extra=[]) :
  Res m st w (put m st.h.length ⟨w.heap.size,0,vs.length+extra.length⟩) ⟨st.h++[⟨cs,T,true,true,fl⟩],st.lo⟩ (w.alloc (.cells (vs++extra).toArray T)):=by
 have hext:=Ql1 (n:=st.h.length) ⟨w.heap.size,0,vs.length+extra.length⟩ hs.dom;have hold:∀ b,b < w.heap.size→(w.alloc (.cells (vs++extra).toArray T)).heap[b]?=w.heap[b]?:=fun b hb=>Below.heap_alloc w _ b hb;refine ⟨⟨?_,?_,?_,hs.mr.grow (fun i p o rest hm ho hmp=>?_) hold⟩,⟨hext,?_,?_,by simp,rfl,rfl,rfl,fun b hb _=>hold b hb⟩,by simp,Nat.le_refl _,fun i hi _=>by simp [List.getElem?_append_left hi]⟩
 ·intro i p hm;by_cases hi:i=st.h.length
  ·subst hi;simp
  ·rw [Qa0 _ _ hi] at hm;have:=hs.dom i p hm;simp;omega
 ·intro i p o hm ho hl;by_cases hi:i=st.h.length
  ·subst hi;rw [Qat] at hm;cases hm;have:o=⟨cs,T,true,true,fl⟩:=by simpa using ho.symm
   subst this;refine ⟨_,_,heap_alloc_new w _,by simp,by simp [hv.1],fun j c hc=>?_,(fun _=>rfl),(fun h=>⟨rfl,by simp [hfl h,hv.1]⟩)⟩;have hj:j < vs.length:=by rw [← hv.1];exact (List.getElem?_eq_some_iff.1 hc).1
   refine ⟨vs[j],by simp [List.getElem?_append_left hj],(hv.2 j c vs[j] hc (by simp [hj])).ext hext⟩
  ·rw [Qa0 _ _ hi] at hm;have hlt:=hs.dom i p hm;rw [List.getElem?_append_left hlt] at ho;obtain ⟨cur,fr,h1,h2,h3,h4,h5⟩:=hs.obj i p o hm ho hl;exact ⟨cur,fr,by rw [hold _ (Array.getElem?_eq_some_iff.1 h1).1];exact h1,h2,h3,fun j c hc=>by obtain ⟨v,a,b⟩:=h4 j c hc;exact ⟨v,a,b.ext hext⟩,h5⟩
 ·intro i j p q o o' hi hj ho ho' hrw hl hl' hne;by_cases ei:i=st.h.length
  ·subst ei;rw [Qat] at hi;cases hi;rw [Qa0 _ _ (Ne.symm hne)] at hj;rw [List.getElem?_append_left (hs.dom j q hj)] at ho';have:=hs.lt hj ho' hl';show w.heap.size≠q.b;omega
  ·rw [Qa0 _ _ ei] at hi;rw [List.getElem?_append_left (hs.dom i p hi)] at ho;by_cases ej:j=st.h.length
   ·subst ej;rw [Qat] at hj;cases hj;have:=hs.lt hi ho hl;show p.b≠w.heap.size;omega
   ·rw [Qa0 _ _ ej] at hj;rw [List.getElem?_append_left (hs.dom j q hj)] at ho';exact hs.sep i j p q o o' hi hj ho ho' hrw hl hl' hne
 ·by_cases e:i=st.h.length
  ·subst e;have:o=⟨cs,T,true,true,fl⟩:=by simpa using ho.symm
   subst this;cases hmp.1
  ·rw [Qa0 _ _ e] at hm;exact ⟨hm,by rwa [List.getElem?_append_left (hs.dom i p hm)] at ho⟩
 ·intro i hi;exact Qa0 _ _ (by omega)
 ·intro j p hj hm;by_cases ej:j=st.h.length
  ·subst ej;rw [Qat] at hm;cases hm;exact .inl (Nat.le_refl _)
  ·rw [Qa0 _ _ ej] at hm;have:=hs.dom j p hm;omega
theorem Res.write {m:M} {st:St} {w:World} (hs:SR m st.h w) {i:Nat} {p:Pl} {o:O} (hm:m i=some p) (ho:st.h[i]?=some o) (hl:o.live=true) (hrw:o.rw=true)
  {cur:Array Value} (hb:w.heap[p.b]?=some (.cells cur o.ty (0,0))) (cs:List C) (cur':Array Value) (hsz:cur'.size=cur.size) (hn:p.o+cs.length≤cur'.size)
  (hc:∀ (j:Nat) c,cs[j]?=some c→∃ v,cur'[p.o+j]?=some v∧VC m c v) (fl:Bool) (hfl:fl=true→p.o=0∧cs.length=cur.size) :
  Res m st w m ⟨st.h.set i { o with cells:=cs,full:=fl },min st.lo i⟩ (w.setRow p.b cur'):=by
 have hi:i < st.h.length:=hs.dom i p hm;have hpn:cur.size=p.n:=by
  obtain ⟨cur0,fr,h1,h2,_⟩:=hs.obj i p o hm ho hl;rw [hb] at h1;cases h1;exact h2
 refine ⟨⟨fun j q hj=>by simpa using hs.dom j q hj,?_,?_,hs.mr.keep (fun j q o' rest hj ho' hmp=>⟨hj,?_⟩) (fun b es cl hb'=>?_)⟩,⟨fun _ _ h=>h,fun _ _=>rfl,fun j q hj hmj=>by have:=hs.dom j q hmj;omega,by simp,rfl,rfl,rfl,fun b hb' hne=>?_⟩,by simp,Nat.min_le_left _ _,fun j hj hjl=>?_⟩
 ·intro j q o' hj ho' hl';by_cases e:j=i
  ·subst e;rw [hm] at hj;cases hj;have:o'={ o with cells:=cs,full:=fl }:=by simpa [List.getElem?_set,hi] using ho'.symm
   subst this;refine ⟨cur',(0,0),setRow_heap w p.b cur cur' _ _ hb,by rw [hsz,hpn],by show p.o+cs.length≤p.n;rw [← hpn,← hsz];omega,hc,(fun _=>rfl),(fun h=>⟨(hfl h).1,(hfl h).2.trans hpn⟩)⟩
  ·have ho'':st.h[j]?=some o':=by simpa [List.getElem?_set,Ne.symm e] using ho'
   obtain ⟨c1,fr,h1,h2⟩:=hs.obj j q o' hj ho'' hl';exact ⟨c1,fr,by rw [setRow_other w p.b q.b cur' (hs.sep i j p q o o' hm hj ho ho'' hrw hl hl' (Ne.symm e)).symm];exact h1,h2⟩
 ·intro a b pa pb oa ob ha hb1 hoa hob hrwa hla hlb hne;have key:∀ (j:Nat) (oj:O),(st.h.set i { o with cells:=cs,full:=fl })[j]?=some oj→∃ oj',st.h[j]?=some oj'∧oj'.rw=oj.rw∧oj'.live=oj.live:=fun j oj hj=>by
   by_cases e:j=i
   ·subst e;have:oj={ o with cells:=cs,full:=fl }:=by simpa [List.getElem?_set,hi] using hj.symm
    subst this;exact ⟨o,ho,rfl,rfl⟩
   ·exact ⟨oj,by simpa [List.getElem?_set,Ne.symm e] using hj,rfl,rfl⟩
  obtain ⟨oa',k1,k2,k3⟩:=key a oa hoa;obtain ⟨ob',j1,j2,j3⟩:=key b ob hob;exact hs.sep a b pa pb oa' ob' ha hb1 k1 j1 (k2 ▸ hrwa) (k3 ▸ hla) (j3 ▸ hlb) hne
 ·by_cases e:j=i
  ·subst e;have:o'={ o with cells:=cs,full:=fl }:=by simpa [List.getElem?_set,hi] using ho'.symm
   subst this;have:=hmp.1;rw [show ({ o with cells:=cs,full:=fl }:O).live=o.live from rfl,hl] at this;cases this
  ·simpa [List.getElem?_set,Ne.symm e] using ho'
 ·rw [setRow_other w p.b b cur' (fun e=>by subst e;rw [hb] at hb';cases hb')];exact hb'
 ·exact setRow_other w p.b b cur' (fun e=>hne i p (Nat.min_le_right _ _) hi hm e.symm)
 ·have:j≠i:=by
   have:min st.lo i≤i:=Nat.min_le_right _ _;show j≠i;have hjl':j < min st.lo i:=hjl;omega
  simp [Ne.symm this]
theorem SR.kill {m:M} {h:List O} {w:World} (hs:SR m h w) (i:Nat) (o:O) (hi:h[i]?=some o):SR m (h.set i { o with live:=false,cells:=[] }) w:=by
 have key:∀ (j:Nat) (oj:O),(h.set i { o with live:=false,cells:=[] })[j]?=some oj→oj.live=true→h[j]?=some oj:=fun j oj hj hl=>by
  by_cases e:j=i
  ·subst e;have hlt:=(List.getElem?_eq_some_iff.1 hi).1;have:oj={ o with live:=false,cells:=[] }:=by simpa [List.getElem?_set,hlt] using hj.symm
   subst this;cases hl
  ·simpa [List.getElem?_set,Ne.symm e] using hj
 exact ⟨fun j q hj=>by simpa using hs.dom j q hj,fun j q o' hj ho' hl'=>hs.obj j q o' hj (key j o' ho' hl') hl',
  fun a b pa pb oa ob ha hb hoa hob hrw hla hlb hne=>hs.sep a b pa pb oa ob ha hb (key a oa hoa hla) (key b ob hob hlb) hrw hla hlb hne,
  hs.mr.keep (fun j q o' rest hj ho' hmp=>⟨hj,by
   by_cases e:j=i
   ·subst e;have hlt:=(List.getElem?_eq_some_iff.1 hi).1;have:o'={ o with live:=false,cells:=[] }:=by simpa [List.getElem?_set,hlt] using ho'.symm
    subst this;cases hmp.2
   ·simpa [List.getElem?_set,Ne.symm e] using ho'⟩) fun _ _ _ h=>h⟩
end Ev
end Go.Proofs.YtcpodmjcgfgmnaaGreat
namespace Go.Proofs.YtcpodmjcgfgmnaaGreat
open Go.RowKit
namespace Ev
def all? {α β:Type} (f:α→Option β):List α→Option (List β)
 | []=>some []
 | x :: r=>match f x with
  | none=>none
  | some y=>match all? f r with
   | none=>none
   | some ys=>some (y :: ys)
theorem Qbh {α β:Type} {f:α→Option β}:∀ {xs:List α} {ys:List β},all? f xs=some ys→All2 (fun x y=>f x=some y) xs ys
 | [],ys,h=>by cases h;exact All2.nil
 | x :: r,ys,h=>by
  simp only [all?] at h;cases hx:f x with
  | none=>simp [hx] at h
  | some y =>
   cases hr:all? f r with
   | none=>simp [hx,hr] at h
   | some zs =>
    simp only [hx,hr,Option.some.injEq] at h;subst h;exact All2.cons hx (Qbh hr)
theorem All2.flip {α β:Type} {R:α→β→Prop} {xs:List α} {vs:List β} (h:All2 R xs vs):All2 (fun v x=>R x v) vs xs:=⟨h.1.symm,fun j v x a b=>h.2 j x v b a⟩
def Qja (v:Value):Option C:=match v with
 | .string s=>some (.str s.data.toList)
 | v=>if one v then some (.flat v) else none
theorem Qcl {m:M} {v:Value} {c:C} (h:Qja v=some c):VC m c v:=by
 unfold Qja at h;split at h
 ·cases h;rfl
 ·split at h
  ·cases h;exact ⟨rfl,by assumption⟩
  ·cases h
def ofValue (v:Value):Option S:=match v with
 | .agg cs=>match all? Qja cs.toList with | some l=>some (.a l) | none=>none
 | v=>match Qja v with | some c=>some (.c c) | none=>none
theorem Qhu {m:M} {v:Value} {s:S} (h:ofValue v=some s):VS m s v:=by
 unfold ofValue at h;split at h
 ·rename_i cs;split at h
  ·cases h;rename_i l hl;exact ⟨cs.toList,rfl,⟨(Qbh hl).1.symm,fun j x u hx hu=>Qcl ((Qbh hl).2 j u x hu hx)⟩⟩
  ·cases h
 ·split at h
  ·cases h;rename_i hc;exact Qcl hc
  ·cases h
def Qrj:C→Option Value
 | .flat v=>some v
 | .str l=>some (str' l)
 | _=>none
theorem Qiq {m:M} {c:C} {u v:Value} (h:Qrj c=some u) (k:VC m c v):v=u:=by
 cases c <;> simp [Qrj] at h
 ·subst h;exact k.1
 ·subst h;exact k
def Qz8:S→Option Value
 | .c x=>Qrj x
 | .a cs=>match all? Qrj cs with | some l=>some (.agg l.toArray) | none=>none
theorem Qs2 {m:M} {s:S} {u v:Value} (h:Qz8 s=some u) (k:VS m s v):v=u:=by
 cases s with
 | c x=>exact Qiq h k
 | a cs =>
  simp only [Qz8] at h;split at h
  ·cases h;rename_i l hl;obtain ⟨vs,rfl,hv⟩:=k;have hs:=Qbh hl;congr 2;refine List.ext_getElem? fun j=>?_;by_cases hj:j < cs.length
   ·have h1:j < vs.length:=by rw [← hv.1];exact hj
    have h2:j < l.length:=by rw [← hs.1];exact hj
    rw [List.getElem?_eq_getElem h1,List.getElem?_eq_getElem h2];have a:=hs.2 j cs[j] l[j] (by simp) (by simp);have b:=hv.2 j cs[j] vs[j] (by simp) (by simp);rw [Qiq a b]
   ·rw [List.getElem?_eq_none (by rw [← hv.1];omega),List.getElem?_eq_none (by rw [← hs.1];omega)]
  ·cases h
def cellsOf:S→List C
 | .c x=>[x]
 | .a cs=>cs
theorem Qfi {m:M} {s:S} {v:Value} (h:VS m s v):All2 (VC m) (cellsOf s) v.cells.toList:=by
 cases s with
 | c x =>
  have h1:=VC.one h;have:v.cells=#[v]:=by cases v <;> first | rfl | cases h1
  rw [this];exact All2.cons h All2.nil
 | a cs=>obtain ⟨vs,rfl,hv⟩:=h;simpa [Value.cells,cellsOf] using hv
abbrev Look:=Operand→Option PV
def evX (e:Look) (x:Operand):Option PV:=e x
def lk (e:Env):Look
 | .tmp t=>e[t]?
 | .const v=>match ofValue v with | some s=>some (.s s) | none=>none
 | .func f=>some (.s (.c (.fn f [])))
 | .global _=>none
structure ER (m:M) (e:Env) (a:Act):Prop where
 defers:a.defers=[]
 slots:All2 (VP m) e a.tmps.toList
theorem ER.ext {m m':M} {e:Env} {a:Act} (h:ER m e a) (k:∀ i p,m i=some p→m' i=some p):ER m' e a:=⟨h.defers,h.slots.imp fun _ _ h=>h.ext k⟩
theorem Qe3 {m:M} {e:Env} {a:Act} (h:ER m e a) {x:Operand} {pv:PV} (hx:lk e x=some pv):VP m pv (a.eval x):=by
 cases x with
 | tmp t =>
  have hlt:t < e.length:=(List.getElem?_eq_some_iff.1 hx).1;have ht:t < a.tmps.toList.length:=by rw [← h.slots.1];exact hlt
  have:=h.slots.2 t pv a.tmps.toList[t] hx (by simp);have e1:a.eval (.tmp t)=a.tmps.toList[t]:=by
   have ht':t < a.tmps.size:=by simpa using ht
   simp [Act.eval,ht']
  rw [e1];exact this
 | const v =>
  simp only [lk] at hx;split at hx
  ·cases hx;rename_i hs;exact Qhu hs
  ·cases hx
 | func f=>cases hx;exact ⟨[],rfl,All2.nil⟩
 | global g=>cases hx
instance:Coe Env Look:=⟨lk⟩
def EL (m:M) (e:Look) (a:Act):Prop:=∀ x pv,e x=some pv→VP m pv (a.eval x)
theorem Qai {m:M} {e:Look} {a:Act} (h:EL m e a) {x:Operand} {pv:PV} (hx:evX e x=some pv):VP m pv (a.eval x):=h x pv hx
theorem ER.el {m:M} {e:Env} {a:Act} (h:ER m e a):EL m (lk e) a:=fun _ _ hx=>Qe3 h hx
theorem ER.put {m:M} {e:Env} {a:Act} (h:ER m e a) {pv:PV} {v:Value} (hv:VP m pv v):∀ d,ER m (match d with | some t=>e.set t pv | none=>e) (a.put d v)
 | none=>h
 | some t=>⟨h.defers,⟨by simp [Act.put,h.slots.1],fun j x u hx hu=>by
   simp only [Act.put,Array.toList_setIfInBounds] at hu;by_cases ej:j=t
   ·subst ej;have hlt:=(List.getElem?_eq_some_iff.1 hx).1;rw [List.length_set] at hlt;have hlt':j < a.tmps.toList.length:=by rw [← h.slots.1];exact hlt
    rw [List.getElem?_set_self hlt] at hx;rw [List.getElem?_set_self hlt'] at hu;cases hx;cases hu;exact hv
   ·rw [List.getElem?_set_ne (Ne.symm ej)] at hx hu;exact h.slots.2 j x u hx hu⟩⟩
variable (P:Program)
def dry {α:Type}:Sem α→Option α
 | .pure a=>some a
 | .program k=>dry (k P)
 | _=>none
variable {P}
theorem Qw4 {α:Type} {s:Sem α} {a:α} (h:dry P s=some a) (w:World):s.run P w=.ok a w:=by
 induction s with
 | pure b=>cases h;rfl
 | program k ih=>exact ih P h
 | load _ _ _ _=>cases h
 | store _ _ _ _ _=>cases h
 | new _ _ _=>cases h
 | shape _ _ _=>cases h
 | freeze _ _ _ _=>cases h
 | frozen _ _ _=>cases h
 | getObj _ _ _=>cases h
 | setObj _ _ _ _=>cases h
 | choose _ _ _=>cases h
 | sys _ _ _=>cases h
 | mark _ _ _=>cases h
 | halt _=>cases h
def Does (P:Program) (m:M) (st:St) (w:World) (a:Act) (o:Oper) (pv:PV) (st':St):Prop :=
 ∃ nx v w' m',(execOp a.eval o).run P w=.ok nx w'∧(nx=.value v∨nx=.skip∧v=undef)∧VP m' pv v∧Res m st w m' st' w'
def DoesS (P:Program) (m:M) (w:World) (a:Act) (o:Oper) (pv:PV):Prop:=∃ v,(execOp a.eval o).run P w=.ok (.value v) w∧VP m pv v
theorem DoesS.same {m:M} {w:World} {a:Act} {o:Oper} {pv:PV} {v:Value} (h:(execOp a.eval o).run P w=.ok (.value v) w) (hv:VP m pv v):DoesS P m w a o pv:=⟨v,h,hv⟩
theorem Does.same {m:M} {st:St} {w:World} {a:Act} {o:Oper} {pv:PV} {v:Value} (hs:SR m st.h w) (h:(execOp a.eval o).run P w=.ok (.value v) w) (hv:VP m pv v):Does P m st w a o pv st :=
 ⟨_,v,w,m,h,.inl rfl,hv,Res.refl hs⟩
def Qfx:TypeDesc→Bool
 | .struct _ | .array _ _=>true
 | _=>false
theorem Qgj {T:TypeId} {d:TypeDesc} (h:P.underlying T=some d) (w:World):(isAgg T).run P w=.ok (Qfx d) w:=by
 unfold isAgg;rw [Sem.run_bind,run_underlying h w];cases d <;> simp [Qfx]
variable (P)
def Qc8 (T:TypeId):Option Nat:=match P.info? T with | some i=>some i.size | none=>none
variable {P}
theorem Qa3 {T:TypeId} {n:Nat} (h:Qc8 P T=some n) (w:World):(sizeOf T).run P w=.ok n w:=by
 unfold Qc8 at h;split at h
 ·cases h;rename_i i hi;simp [sizeOf,typeInfo,hi]
 ·cases h
theorem DoesS.to {m:M} {st:St} {w:World} {a:Act} {o:Oper} {pv:PV} (h:DoesS P m w a o pv) (hs:SR m st.h w):Does P m st w a o pv st:=by
 obtain ⟨v,h1,h2⟩:=h;exact Does.same hs h1 h2
def fits (l:List C) (off n:Nat):Bool:=match n with
 | 0=>decide (off≤l.length)
 | n+1=>decide (((l.drop off).take (n+1)).length=n+1)
theorem Qo0 {l:List C} {off n:Nat} (h:fits l off n=true):off+n≤l.length:=by
 unfold fits at h;split at h
 ·simpa using h
 ·rename_i n;have h:=of_decide_eq_true h;simp only [List.length_take,List.length_drop] at h;omega
variable (P)
def Qd3 (st:St) (T:TypeId) (i off:Nat):Option S :=
 match st.h[i]? with
 | none=>none
 | some o=>if o.live=false then none else match P.underlying T with
  | none=>none
  | some d=>if Qfx d then match Qc8 P T with
    | none=>none
    | some n=>if fits o.cells off n=true then some (.a ((o.cells.drop off).take n)) else none
   else match o.cells[off]? with | some c=>some (.c c) | none=>none
variable {P}
theorem Qhw {m:M} {st:St} {w:World} (hs:SR m st.h w) {T:TypeId} {i off:Nat} {s:S} (h:Qd3 P st T i off=some s) {p:Pl} (hm:m i=some p) :
  ∃ v,(loadVar T ⟨p.b,p.o+off,none⟩).run P w=.ok v w∧VS m s v:=by
 unfold Qd3 at h;split at h
 ·cases h
 rename_i o ho;split at h
 ·cases h
 rename_i hl;have hl:o.live=true:=by cases h':o.live <;> simp_all
 obtain ⟨cur,fr,hb,hsz,hle,hcell,_⟩:=hs.obj i p o hm ho hl;split at h
 ·cases h
 rename_i d hd;split at h
 ·rename_i hagg;split at h
  ·cases h
  rename_i n hn;split at h
  ·rename_i hoff;have hoff:=Qo0 hoff;cases h;have hlen:((cur.toList.drop (p.o+off)).take n).length=n:=by simp;omega
   refine ⟨.agg ((cur.toList.drop (p.o+off)).take n).toArray,?_,_,rfl,⟨?_,fun j c v hc hv=>?_⟩⟩
   ·have hlc:=run_loadCells_list (P:=P) w ⟨p.b,p.o+off,none⟩ ((cur.toList.drop (p.o+off)).take n) (fun j v hv=>by
     rw [Addr.add_lit,cell_of_row w p.b _ cur _ _ hb];rw [List.getElem?_take] at hv;split at hv
     ·rw [List.getElem?_drop] at hv;simpa using hv
     ·cases hv)
    rw [hlen] at hlc;simp [loadVar,Sem.run_bind,Qgj hd,hagg,Qa3 hn,hlc]
   ·rw [hlen];simp;omega
   ·rw [List.getElem?_take] at hc hv;split at hc
    ·rw [if_pos (by assumption),List.getElem?_drop] at hv;rw [List.getElem?_drop] at hc;obtain ⟨u,hu,hvc⟩:=hcell _ c hc;have:v=u:=by
      rw [← Nat.add_assoc] at hu;have hv':cur[p.o+off+j]?=some v:=by simpa using hv
      rw [hv'] at hu;cases hu;rfl
     subst this;exact hvc
    ·cases hc
  ·cases h
 ·rename_i hagg;split at h
  ·cases h;rename_i c hc;obtain ⟨u,hu,hvc⟩:=hcell _ c hc;refine ⟨u,?_,hvc⟩;have hc':w.cell? ⟨p.b,p.o+off,none⟩=some u:=by rw [cell_of_row w p.b _ cur _ _ hb];exact hu
   have hag:Qfx d=false:=by simpa using hagg
   simp [loadVar,Sem.run_bind,Qgj hd,hag,load,Sem.run,hc']
  ·cases h
variable (P)
def Qbm (st:St) (T:TypeId) (i off:Nat) (s:S):Option St :=
 match st.h[i]? with
 | none=>none
 | some o=>if o.live=false∨o.rw=false then none else match Qc8 P T with
  | none=>none
  | some n=>if (cellsOf s).length=n∧fits o.cells off n=true then
    some ⟨st.h.set i { o with cells:=o.cells.take off++cellsOf s++o.cells.drop (off+n),full:=o.full },min st.lo i⟩ else none
variable {P}
theorem Qlp {m:M} {st st':St} {w:World} (hs:SR m st.h w) {T:TypeId} {i off:Nat} {s:S} (h:Qbm P st T i off s=some st') {p:Pl} (hm:m i=some p) {v:Value} (hv:VS m s v) :
  ∃ w',(storeVar T ⟨p.b,p.o+off,none⟩ v).run P w=.ok () w'∧Res m st w m st' w':=by
 unfold Qbm at h;split at h
 ·cases h
 rename_i o ho;split at h
 ·cases h
 rename_i hlr;have hl:o.live=true:=by cases h':o.live <;> simp_all
 have hrw:o.rw=true:=by cases h':o.rw <;> simp_all
 split at h
 ·cases h
 rename_i n hn;split at h
 ·rename_i hc;have hc:(cellsOf s).length=n∧off+n≤o.cells.length:=⟨hc.1,Qo0 hc.2⟩;cases h;obtain ⟨cur,fr,hb,hsz,hle,hcell,hf⟩:=hs.obj i p o hm ho hl;obtain rfl:=hf.1 hrw;have hcs:=Qfi hv;have hvl:v.cells.toList.length=n:=by rw [← hcs.1];exact hc.1
  have hone:∀ u∈v.cells.toList,u.oneCell'=true:=fun u hu=>by
   obtain ⟨j,hj,rfl⟩:=List.mem_iff_getElem.1 hu;have hj':j < (cellsOf s).length:=by rw [hcs.1];exact hj
   exact (hcs.2 j (cellsOf s)[j] _ (by simp) (by simp)).one
  have hst:=run_storeCells_at P p.b (p.o+off) o.ty v.cells.toList 0 cur w hb (by rw [hvl];omega) hone;simp only [Nat.add_zero] at hst;have hsz':v.cells.size=n:=by simpa using hvl
  refine ⟨w.setRow p.b (List.take (p.o+off) cur.toList++v.cells.toList++List.drop (p.o+off+v.cells.toList.length) cur.toList).toArray,by simp only [storeVar,Sem.run_bind,Qa3 hn,Result.andThen_ok,hsz',ne_eq,not_true_eq_false,if_false];simpa using hst,?_⟩;refine Res.write hs hm ho hl hrw hb _ _ (by simp;omega) (by simp;omega) (fun j c hj=>?_) o.full (fun h=>by
   obtain ⟨hf0,hfl⟩:=hf.2 h;refine ⟨hf0,?_⟩;simp only [List.length_append,List.length_take,List.length_drop,hc.1];omega)
  have hol:p.o+o.cells.length≤cur.size:=by omega
  rw [hvl];by_cases j1:j < off
  ·rw [List.append_assoc,List.getElem?_append_left (by simp;omega),List.getElem?_take,if_pos j1] at hj;obtain ⟨u,hu,hvc⟩:=hcell j c hj;refine ⟨u,?_,hvc⟩;simp only [List.getElem?_toArray,List.append_assoc];rw [List.getElem?_append_left (by simp;omega),List.getElem?_take,if_pos (by omega)];simpa using hu
  ·by_cases j2:j < off+n
   ·rw [List.append_assoc,List.getElem?_append_right (by simp;omega),List.getElem?_append_left (by simp;omega)] at hj;have hmin:min off o.cells.length=off:=by omega
    simp only [List.length_take,hmin] at hj;have hj3:j - off < v.cells.toList.length:=by omega
    refine ⟨v.cells.toList[j - off],?_,hcs.2 _ c _ hj (by simp)⟩;simp only [List.getElem?_toArray,List.append_assoc];have hmin2:min (p.o+off) cur.size=p.o+off:=by omega
    rw [List.getElem?_append_right (by simp;omega),List.getElem?_append_left (by simp [hmin2];omega)];simp only [List.length_take,Array.length_toList,hmin2,show p.o+j - (p.o+off)=j - off by omega];simp
   ·have hmin:min off o.cells.length=off:=by omega
    rw [List.getElem?_append_right (by simp;omega),List.getElem?_drop] at hj;simp only [List.length_append,List.length_take,hmin,hc.1] at hj;rw [show off+n+(j - (off+n))=j by omega] at hj;obtain ⟨u,hu,hvc⟩:=hcell j c hj;refine ⟨u,?_,hvc⟩;have hmin2:min (p.o+off) cur.size=p.o+off:=by omega
    simp only [List.getElem?_toArray];rw [List.getElem?_append_right (by simp;omega),List.getElem?_drop];simp only [List.length_append,List.length_take,Array.length_toList,hmin2];have hvs:v.cells.size=n:=hsz';rw [hvs,show p.o+off+n+(p.o+j - (p.o+off+n))=p.o+j by omega];simpa using hu
 ·cases h
end Ev
end Go.Proofs.YtcpodmjcgfgmnaaGreat
namespace Go.Proofs.YtcpodmjcgfgmnaaGreat
open Go.RowKit
namespace Ev
variable {P:Program}
theorem Qhb (w:World) (T:TypeId) (v:Value):(newVar T v).run P w=.ok ⟨w.heap.size,0,none⟩ (w.alloc (.cells v.cells T)):=by
 rfl
theorem Res.new {m:M} {st:St} {w:World} (hs:SR m st.h w) (cs:List C) (v:Value) (T:TypeId) (hv:All2 (VC m) cs v.cells.toList) :
  Res m st w (put m st.h.length ⟨w.heap.size,0,v.cells.size⟩) ⟨st.h++[⟨cs,T,true,true,false⟩],st.lo⟩ (w.alloc (.cells v.cells T)):=by
 have:=Res.alloc hs cs v.cells.toList T hv [] false (fun h=>by cases h);simpa using this
variable (P)
def Qff (st:St) (T:TypeId):Option (PV × St) :=
 match P.info? T with
 | none=>none
 | some i=>match i.zero with
  | none=>none
  | some z=>match all? Qja z.cells.toList with
   | none=>none
   | some cs=>some (.s (.c (.ptr st.h.length 0)),⟨st.h++[⟨cs,T,true,true,false⟩],st.lo⟩)
variable {P}
theorem Qo7 {m:M} {st st':St} {w:World} {a:Act} {o:Oper} {T:TypeId} {pv:PV} (hs:SR m st.h w) (ho:o.op=.alloc T) (h:Qff P st T=some (pv,st')):Does P m st w a o pv st':=by
 unfold Qff at h;split at h
 ·cases h
 rename_i i hi;split at h
 ·cases h
 rename_i z hz;split at h
 ·cases h
 rename_i cs hcs;cases h;have hv:All2 (VC m) cs z.cells.toList:=(Qbh hcs).flip.imp fun _ _ h=>Qcl h;refine ⟨_,.pointer (some ⟨w.heap.size,0,none⟩),_,_,?_,.inl rfl,?_,Res.new hs cs z T hv⟩
 ·simp [execOp,ho,Instr.alloc,zeroValue,typeInfo,hi,hz,Sem.run_bind,Qhb]
 ·exact ⟨_,Qat _ _ _,by simp⟩
def Qw1 (st:St) (T:TypeId):PV→Option (PV × St)
 | .s u=>some (.s (.c (.ptr st.h.length 0)),⟨st.h++[⟨cellsOf u,T,true,true,false⟩],st.lo⟩)
 | _=>none
theorem Qub {m:M} {st st':St} {w:World} {a:Act} {e:Look} {o:Oper} {T:TypeId} {x:Operand} {u pv:PV} (hs:SR m st.h w) (he:EL m e a) (ho:o.op=.box T x) (hx:evX e x=some u) (h:Qw1 st T u=some (pv,st')):Does P m st w a o pv st':=by
 cases u with
 | s u =>
  cases h;have hv:VS m u (a.eval x):=Qai he hx;refine ⟨_,.pointer (some ⟨w.heap.size,0,none⟩),_,_,?_,.inl rfl,?_,Res.new hs _ (a.eval x) T (Qfi hv)⟩
  ·simp [execOp,ho,Instr.box,Qhb]
  ·exact ⟨_,Qat _ _ _,by simp⟩
 | any=>cases h
 | skip=>cases h
 | t xs=>cases h
theorem Qk2 {m:M} {st:St} {w:World} {a:Act} {e:Look} {o:Oper} {T:TypeId} {x:Operand} {i off:Nat} {s:S} (hs:SR m st.h w) (he:EL m e a) (ho:o.op=.load T x) (hx:evX e x=some (.s (.c (.ptr i off)))) (h:Qd3 P st T i off=some s):DoesS P m w a o (.s s):=by
 obtain ⟨p,hm,hv⟩:VC m (.ptr i off) (a.eval x):=Qai he hx;obtain ⟨v,hr,hvs⟩:=Qhw hs h hm;exact DoesS.same (by simp [execOp,ho,Instr.loadAt,Instr.sureAddr,hv,hr]) hvs
theorem Qv8 {m:M} {st:St} {w:World} {a:Act} {e:Look} {o:Oper} {T:TypeId} {x:Operand} {i off:Nat} {s:S} (hs:SR m st.h w) (he:EL m e a) (ho:o.op=.load T x) (hx:evX e x=some (.s (.c (.ptr i off)))) (h:Qd3 P st T i off=some s):Does P m st w a o (.s s) st :=
 (Qk2 hs he ho hx h).to hs
theorem Qs5 {m:M} {st st':St} {w:World} {a:Act} {e:Look} {o:Oper} {T:TypeId} {x y:Operand} {i off:Nat} {s:S} (hs:SR m st.h w) (he:EL m e a) (ho:o.op=.store T x y) (hx:evX e x=some (.s (.c (.ptr i off)))) (hy:evX e y=some (.s s)) (h:Qbm P st T i off s=some st'):Does P m st w a o .skip st':=by
 obtain ⟨p,hm,hv⟩:VC m (.ptr i off) (a.eval x):=Qai he hx;have hvs:VS m s (a.eval y):=Qai he hy;obtain ⟨w',hr,hres⟩:=Qlp hs h hm hvs;exact ⟨.skip,undef,w',m,by simp [execOp,ho,Instr.storeAt,Instr.sureAddr,hv,hr],.inr ⟨rfl,rfl⟩,rfl,hres⟩
variable (P)
def Qdg (T:TypeId) (f:Nat) (i off:Nat):Option PV :=
 match P.underlying T with
 | some (.struct fields)=>match fields[f]? with
  | none=>none
  | some fd=>match Qc8 P fd.type with
   | none=>none
   | some n=>if n=0 then none else some (.s (.c (.ptr i (off+fd.offset))))
 | _=>none
variable {P}
theorem Qf0 {m:M} {w:World} {a:Act} {e:Look} {o:Oper} {T:TypeId} {x:Operand} {f i off:Nat} {pv:PV} (he:EL m e a) (ho:o.op=.fieldAddr T x f) (hx:evX e x=some (.s (.c (.ptr i off)))) (h:Qdg P T f i off=some pv):DoesS P m w a o pv:=by
 obtain ⟨p,hm,hv⟩:VC m (.ptr i off) (a.eval x):=Qai he hx;unfold Qdg at h;split at h
 ·rename_i fields hu;split at h
  ·cases h
  rename_i fd hf;split at h
  ·cases h
  rename_i n hn;split at h
  ·cases h
  rename_i h0;cases h;refine DoesS.same (v:=.pointer (some ⟨p.b,p.o+off+fd.offset,none⟩)) ?_ ⟨p,hm,by rw [Nat.add_assoc]⟩;have hfp:(fieldPlace ⟨p.b,p.o+off,none⟩ fd).run P w=.ok ⟨p.b,p.o+off+fd.offset,none⟩ w:=by
   simp [fieldPlace,Sem.run_bind,Qa3 hn,h0,Addr.add_lit]
  simp [execOp,ho,Instr.fieldAt,run_underlying hu,hf,Instr.sureAddr,hv,Sem.run_bind,hfp]
 ·cases h
variable (P)
def Qo4 (T:TypeId) (cs:List C) (off:Nat):Option S :=
 match P.underlying T with
 | none=>none
 | some d=>if Qfx d then match Qc8 P T with
   | none=>none
   | some n=>some (.a ((cs.take (off+n)).drop off))
  else match cs[off]? with | some c=>some (.c c) | none=>none
variable {P}
theorem Qn0 {m:M} {w:World} {T:TypeId} {cs:List C} {vs:List Value} {off:Nat} {s:S} (hv:All2 (VC m) cs vs) (h:Qo4 P T cs off=some s) :
  ∃ v,(part T vs.toArray off).run P w=.ok v w∧VS m s v:=by
 unfold Qo4 at h;split at h
 ·cases h
 rename_i d hd;split at h
 ·rename_i hagg;split at h
  ·cases h
  rename_i n hn;cases h;refine ⟨.agg ((vs.take (off+n)).drop off).toArray,?_,_,rfl,(hv.take _).drop _⟩;simp [part,Sem.run_bind,Qgj hd,hagg,Qa3 hn,List.drop_take]
 ·rename_i hagg;split at h
  ·rename_i c hc;cases h;have hlt:off < vs.length:=by rw [← hv.1];exact (List.getElem?_eq_some_iff.1 hc).1
   have hag:Qfx d=false:=by simpa using hagg
   exact ⟨vs[off],by simp [part,Sem.run_bind,Qgj hd,hag,hlt],hv.2 off c _ hc (by simp)⟩
  ·cases h
variable (P)
def Qjv (T:TypeId) (f:Nat) (cs:List C):Option PV :=
 match P.underlying T with
 | some (.struct fields)=>match fields[f]? with
  | none=>none
  | some fd=>match Qo4 P fd.type cs fd.offset with | some s=>some (.s s) | none=>none
 | _=>none
variable {P}
theorem Qk9 {m:M} {w:World} {a:Act} {e:Look} {o:Oper} {T:TypeId} {x:Operand} {f:Nat} {cs:List C} {pv:PV} (he:EL m e a) (ho:o.op=.field T x f) (hx:evX e x=some (.s (.a cs))) (h:Qjv P T f cs=some pv):DoesS P m w a o pv:=by
 obtain ⟨vs,hv,h2⟩:VS m (.a cs) (a.eval x):=Qai he hx;unfold Qjv at h;split at h
 ·rename_i fields hu;split at h
  ·cases h
  rename_i fd hf;split at h
  ·rename_i s hp;cases h;obtain ⟨v,hr,hvs⟩:=Qn0 (w:=w) h2 hp;exact DoesS.same (by simp [execOp,ho,Instr.field,run_underlying hu,hf,asAgg,hv,Sem.run_bind,hr]) hvs
  ·cases h
 ·cases h
variable (P)
def Qdf (T:TypeId) (n:Int):C→Option PV
 | .sl i off len sz=>match P.underlying T with
  | some (.slice el)=>if Qc8 P el=some sz∧0≤n∧n < len then some (.s (.c (.ptr i (off+n.toNat * sz)))) else none
  | _=>none
 | .ptr i off=>match P.underlying T with
  | some (.array len el)=>match Qc8 P el with
   | some sz=>if 0≤n∧n < len then some (.s (.c (.ptr i (off+n.toNat * sz)))) else none
   | none=>none
  | _=>none
 | _=>none
variable {P}
theorem Qfy {m:M} {w:World} {a:Act} {e:Look} {o:Oper} {T:TypeId} {x y:Operand} {k:IntKind} {n:Int} {c:C} {pv:PV} (he:EL m e a) (ho:o.op=.indexAddr T x y) (hx:evX e x=some (.s (.c c))) (hy:evX e y=some (.s (.c (.flat (.int k n))))) (h:Qdf P T n c=some pv):DoesS P m w a o pv:=by
 have hn:a.eval y=.int k n:=(show VC m (.flat (.int k n)) (a.eval y) from Qai he hy).1;have hc:VC m c (a.eval x):=Qai he hx;cases c with
 | sl i off len sz =>
  obtain ⟨p,cap,hm,hv,_⟩:=hc;simp only [Qdf] at h;split at h
  ·rename_i el hu;split at h
   ·rename_i hh;cases h;refine DoesS.same (v:=.pointer (some ⟨p.b,p.o+off+n.toNat * sz,none⟩)) ?_ ⟨p,hm,by rw [Nat.add_assoc]⟩;simp [execOp,ho,Instr.indexAt,asIntOf,hn,hv,run_underlying hu,Sem.run_bind,hh.2,Qa3 hh.1,Addr.add_lit]
   ·cases h
  ·cases h
 | ptr i off =>
  obtain ⟨p,hm,hv⟩:=hc;simp only [Qdf] at h;split at h
  ·rename_i len el hu;split at h
   ·rename_i sz hz;split at h
    ·rename_i hh;cases h;refine DoesS.same (v:=.pointer (some ⟨p.b,p.o+off+n.toNat * sz,none⟩)) ?_ ⟨p,hm,by rw [Nat.add_assoc]⟩;simp [execOp,ho,Instr.indexAt,asIntOf,hn,hv,run_underlying hu,Sem.run_bind,hh,Instr.sureAddr,Qa3 hz,Addr.add_lit]
    ·cases h
   ·cases h
  ·cases h
 | flat v=>cases h
 | str l=>cases h
 | emp z=>cases h
 | low k r=>cases h
 | fn f caps=>cases h
 | mt f i off=>cases h
 | mp _=>cases h
 | q _ _ _=>cases h
variable (P)
def Qju (T:TypeId) (n:Int):S→Option PV
 | .c (.str l)=>match P.underlying T with
  | some .string=>if 0≤n∧n < l.length then some (.s (.c (.flat (.int .u8 (l.getD n.toNat 0).toNat)))) else none
  | _=>none
 | .a cs=>match P.underlying T with
  | some (.array len el)=>match Qc8 P el with
   | some sz=>if 0≤n∧n < len then match Qo4 P el cs (n.toNat * sz) with | some s=>some (.s s) | none=>none else none
   | none=>none
  | _=>none
 | _=>none
variable {P}
theorem Qk5 {m:M} {w:World} {a:Act} {e:Look} {o:Oper} {T:TypeId} {x y:Operand} {k:IntKind} {n:Int} {s:S} {pv:PV} (he:EL m e a) (ho:o.op=.index T x y) (hx:evX e x=some (.s s)) (hy:evX e y=some (.s (.c (.flat (.int k n))))) (h:Qju P T n s=some pv):DoesS P m w a o pv:=by
 have hn:a.eval y=.int k n:=(show VC m (.flat (.int k n)) (a.eval y) from Qai he hy).1;have hc:VS m s (a.eval x):=Qai he hx;cases s with
 | a cs =>
  obtain ⟨vs,hv,h2⟩:=hc;simp only [Qju] at h;split at h
  ·rename_i len el hu;split at h
   ·rename_i sz hz;split at h
    ·rename_i hh;split at h
     ·rename_i s hp;cases h;obtain ⟨v,hr,hvs⟩:=Qn0 (w:=w) h2 hp;refine DoesS.same (v:=v) ?_ hvs;simp [execOp,ho,Instr.index,asIntOf,hn,hv,run_underlying hu,Sem.run_bind,hh,Qa3 hz,hr]
     ·cases h
    ·cases h
   ·cases h
  ·cases h
 | c c =>
  cases c with
  | str l =>
   have hv:a.eval x=str' l:=hc;simp only [Qju] at h;split at h
   ·rename_i hu;split at h
    ·rename_i hh;cases h;have hlt:n.toNat < l.length:=by omega
     refine DoesS.same (v:=.int .u8 (l.getD n.toNat 0).toNat) ?_ ⟨rfl,rfl⟩;have hget:(⟨l.toArray⟩:ByteArray)[n.toNat]?=some l[n.toNat]:=by
      show (if h:n.toNat < (⟨l.toArray⟩:ByteArray).size then some _ else none)=_;rw [dif_pos (by simpa [ByteArray.size] using hlt)];rfl
     simp [execOp,ho,Instr.index,asIntOf,hn,hv,str',run_underlying hu,Sem.run_bind,hh.1,hget,hlt]
    ·cases h
   ·cases h
  | flat v=>cases h
  | emp z=>cases h
  | low k r=>cases h
  | sl i off len sz=>cases h
  | ptr i off=>cases h
  | fn f caps=>cases h
  | mt f i off=>cases h
  | mp _=>cases h
  | q _ _ _=>cases h
theorem Qhy {m:M} {w:World} {a:Act} {e:Look} {o:Oper} {x:Operand} {k:Nat} {xs:List S} {s:S} (he:EL m e a) (ho:o.op=.extract x k) (hx:evX e x=some (.t xs)) (h:xs[k]?=some s):DoesS P m w a o (.s s):=by
 obtain ⟨vs,hv,h2⟩:VP m (.t xs) (a.eval x):=Qai he hx;have hlt:k < vs.length:=by rw [← h2.1];exact (List.getElem?_eq_some_iff.1 h).1
 exact DoesS.same (v:=vs[k]) (by simp [execOp,ho,Instr.extract,hv,hlt]) (h2.2 k s _ h (by simp))
theorem Qgn {m:M} {w:World} {a:Act} {e:Look} {o:Oper} {x:Operand} {pv:PV} (he:EL m e a) (ho:o.op=.move x∨o.op=.assign x) (hx:evX e x=some pv):DoesS P m w a o pv :=
 DoesS.same (v:=a.eval x) (by rcases ho with ho | ho <;> simp [execOp,ho]) (Qai he hx)
theorem Qnx {m:M} {w:World} {a:Act} {e:Look} {o:Oper} {c x y:Operand} {t:Bool} {pv:PV} (he:EL m e a) (ho:o.op=.pick c x y) (hc:evX e c=some (.s (.c (.flat (.bool t))))) (hx:evX e (if t then x else y)=some pv):DoesS P m w a o pv:=by
 have hb:a.eval c=.bool t:=(show VC m (.flat (.bool t)) (a.eval c) from Qai he hc).1;refine DoesS.same (v:=a.eval (if t then x else y)) ?_ (Qai he hx);cases t <;> simp [execOp,ho,hb,asBool]
def Zaq:C→Bool
 | .ptr _ _=>true
 | .fn _ _=>true
 | _=>false
theorem Qgm {m:M} {w:World} {a:Act} {e:Look} {o:Oper} {x:Operand} {c:C} (he:EL m e a) (ho:o.op=.nilCheck x) (hx:evX e x=some (.s (.c c))) (h:Zaq c=true):DoesS P m w a o (.s (.c c)):=by
 have hc:VC m c (a.eval x):=Qai he hx;refine DoesS.same (v:=a.eval x) ?_ (Qai he hx);cases c with
 | ptr i off=>obtain ⟨p,_,hv⟩:=hc;simp [execOp,ho,hv]
 | fn f caps=>obtain ⟨as,hv,_⟩:=hc;simp [execOp,ho,hv]
 | mt f i off=>cases h
 | mp _=>cases h
 | q _ _ _=>cases h
 | flat v=>cases h
 | str l=>cases h
 | emp z=>cases h
 | low k r=>cases h
 | sl i off len sz=>cases h
def Zak:PV→Option (Nat × Nat)
 | .s (.c (.ptr i off))=>some (i,off)
 | _=>none
def Qc7 (e:Look) (fn:Fn) (first caps:Array Operand):Option PV :=
 match fn with
 | .func f=>if first.toList.isEmpty then match all? (fun x=>match evX e x with | some pv=>Zak pv | none=>none) caps.toList with
   | some l=>some (.s (.c (.fn f l)))
   | none=>none
  else match first.toList,caps.toList with
   | [x],[]=>match evX e x with
    | some (.s (.c (.ptr i off)))=>some (.s (.c (.mt f i off)))
    | _=>none
   | _,_=>none
 | _=>none
theorem Qgr {m:M} {w:World} {a:Act} {e:Look} {o:Oper} {fn:Fn} {first caps:Array Operand} {pv:PV} (he:EL m e a) (ho:o.op=.makeFunc fn first caps) (h:Qc7 e fn first caps=some pv):DoesS P m w a o pv:=by
 unfold Qc7 at h;split at h
 ·rename_i f;split at h
  ·rename_i hf;split at h
   ·rename_i l hl;cases h;have hf':first=#[]:=by
     have:first.toList=[]:=by simpa using hf
     exact Array.toList_eq_nil_iff.1 this
    subst hf';refine DoesS.same (v:=.func (.func f) #[] (caps.map a.eval)) (by simp [execOp,ho,Instr.makeFunc]) ⟨(caps.map a.eval).toList,by rw [Array.toArray_toList],?_⟩;have hsp:=Qbh hl;refine ⟨by rw [← hsp.1];simp,fun j c v hc hv=>?_⟩;have hj:j < caps.toList.length:=by rw [hsp.1];exact (List.getElem?_eq_some_iff.1 hc).1
    have h1:(match evX e caps.toList[j] with | some pv=>Zak pv | none=>none)=some c:=hsp.2 j caps.toList[j] c (by simp) hc;split at h1
    ·rename_i pv' hpv;have hval:=Qai he hpv;have hve:v=a.eval caps.toList[j]:=by
      have hj':j < caps.size:=by simpa using hj
      simp [hj'] at hv;simp [← hv]
     cases pv' with
     | s u =>
      cases u with
      | c x =>
       cases x with
       | ptr i off =>
        simp only [Zak,Option.some.injEq] at h1;subst h1;obtain ⟨p,hm,hx⟩:=hval;exact ⟨p,hm,by rw [hve,hx]⟩
       | flat _=>cases h1
       | str _=>cases h1
       | emp z=>cases h1
       | low k r=>cases h1
       | sl _ _ _ _=>cases h1
       | fn _ _=>cases h1
       | mt _ _ _=>cases h1
       | mp _=>cases h1
       | q _ _ _=>cases h1
      | a _=>cases h1
     | any=>cases h1
     | skip=>cases h1
     | t _=>cases h1
    ·cases h1
   ·cases h
  ·split at h
   ·rename_i x hf hc;split at h
    ·rename_i i off hx;cases h;have hf':first=#[x]:=by apply Array.ext';simpa using hf
     have hc':caps=#[]:=by apply Array.ext';simpa using hc
     subst hf';subst hc';obtain ⟨p,hm,hv⟩:VC m (.ptr i off) (a.eval x):=Qai he hx;exact DoesS.same (v:=.func (.func f) #[a.eval x] #[]) (by simp [execOp,ho,Instr.makeFunc]) ⟨p,hm,by rw [hv]⟩
    ·cases h
   ·cases h
 ·cases h
end Ev
end Go.Proofs.YtcpodmjcgfgmnaaGreat
namespace Go.Proofs.YtcpodmjcgfgmnaaGreat
open Go.RowKit
namespace Ev
variable {P:Program}
def Qbn (e:Look) (dflt:Nat):Option Operand→Option Nat
 | none=>some dflt
 | some x=>match evX e x with
  | some (.s (.c (.flat (.int _ n))))=>if 0≤n then some n.toNat else none
  | _=>none
theorem Qo6 {m:M} {e:Look} {a:Act} (he:EL m e a) {d b:Nat} {x:Operand} (h:Qbn e d (some x)=some b):∃ k n,a.eval x=.int k n∧0≤n∧n.toNat=b:=by
 simp only [Qbn] at h;split at h
 ·rename_i k n hx;split at h
  ·cases h;exact ⟨k,n,(show VC m (.flat (.int k n)) (a.eval x) from Qai he hx).1,by assumption,rfl⟩
  ·cases h
 ·cases h
theorem Qfl {m:M} {e:Look} {a:Act} (he:EL m e a) (w:World) {isS:Bool} {len cap:Nat} {lo hi:Option Operand} {l h:Nat} (hlo:Qbn e 0 lo=some l) (hhi:Qbn e len hi=some h) (h1:l≤h) (h2:h≤len) (h3:len≤cap) :
  (Instr.sliceBounds isS len cap (lo.map a.eval) (hi.map a.eval) none).run P w=.ok (l,h,cap) w:=by
 have hb:∀ (x:Operand) (y b d:Nat) (code:BoundsCode),Qbn e d (some x)=some b→b≤y→(Instr.sliceBound (a.eval x) y code).run P w=.ok b w:=fun x y b d code hx hy=>by
  obtain ⟨k,n,hv,h0,rfl⟩:=Qo6 he hx;have:n≤(y:Int):=by omega
  simp [Instr.sliceBound,asIntOf,hv,h0,this]
 unfold Instr.sliceBounds;cases lo with
 | none =>
  cases hlo;cases hi with
  | none=>cases hhi;simp
  | some x=>simp [hb x cap h len _ hhi (by omega)]
 | some x =>
  have hl:=fun c=>hb x h l 0 c hlo h1;cases hi with
  | none=>cases hhi;simp [hl]
  | some y=>simp [hb y cap h len _ hhi (by omega),hl]
variable (P)
def Qcn (e:Look) (T:TypeId) (lo hi:Option Operand):C→Option C
 | .str s=>match P.underlying T with
  | some .string=>match Qbn e 0 lo,Qbn e s.length hi with
   | some l,some h=>if l≤h∧h≤s.length then some (.str ((s.take h).drop l)) else none
   | _,_=>none
  | _=>none
 | .sl i off len sz=>match P.underlying T with
  | some (.slice el)=>if Qc8 P el=some sz then match Qbn e 0 lo,Qbn e len hi with
   | some l,some h=>if l≤h∧h≤len then some (if l < h then .sl i (off+l * sz) (h - l) sz else .q i (off+l * sz) sz) else none
   | _,_=>none
   else none
  | _=>none
 | .q i off sz=>match P.underlying T with
  | some (.slice el)=>if Qc8 P el=some sz then match Qbn e 0 lo,Qbn e 0 hi with
   | some 0,some 0=>some (.q i off sz)
   | _,_=>none
   else none
  | _=>none
 | .emp z=>match P.underlying T with
  | some (.slice el)=>match Qc8 P el with
   | some _=>match Qbn e 0 lo,Qbn e 0 hi with
    | some 0,some 0=>some (.emp z)
    | _,_=>none
   | none=>none
  | _=>none
 | _=>none
variable {P}
theorem Qkr {m:M} {w:World} {a:Act} {e:Look} {o:Oper} {T:TypeId} {x:Operand} {lo hi:Option Operand} {c c':C} (he:EL m e a) (ho:o.op=.slice T x lo hi none) (hx:evX e x=some (.s (.c c))) (h:Qcn P e T lo hi c=some c'):DoesS P m w a o (.s (.c c')):=by
 have hc:VC m c (a.eval x):=Qai he hx;cases c with
 | str s =>
  have hv:a.eval x=str' s:=hc;simp only [Qcn] at h;split at h
  ·rename_i hu;split at h
   ·rename_i l hh hl h1;split at h
    ·rename_i hle;cases h;have hsz:(⟨s.toArray⟩:ByteArray).size=s.length:=by simp [ByteArray.size]
     have hb:=Qfl (P:=P) he w (isS:=false) hl h1 hle.1 hle.2 (Nat.le_refl _);have hex:(⟨s.toArray⟩:ByteArray).extract l hh=⟨((s.take hh).drop l).toArray⟩:=by
      apply ByteArray.ext;rw [ByteArray.data_extract];apply Array.ext';simp [List.drop_take]
     refine DoesS.same (v:=.string ⟨((s.take hh).drop l).toArray⟩) ?_ rfl;simp [execOp,ho,Instr.sliceAt,Instr.slice,hv,str',run_underlying hu,Sem.run_bind,hsz,hb,hex]
    ·cases h
   ·cases h
  ·cases h
 | sl i off len sz =>
  obtain ⟨p,cap,hm,hv,h1,h2,h3⟩:=hc;simp only [Qcn] at h;split at h
  ·rename_i el hu;split at h
   ·rename_i hz;split at h
    ·rename_i l hh hl hhi;split at h
     ·rename_i hle;have hb:=Qfl (P:=P) he w (isS:=true) hl hhi hle.1 hle.2 h1;have hr:(execOp a.eval o).run P w=.ok (.value (.slice (if cap=l then (some ⟨p.b,p.o+off,none⟩) else (some (Addr.add ⟨p.b,p.o+off,none⟩ (l * sz)))) (hh - l) (cap - l))) w:=by
       simp [execOp,ho,Instr.sliceAt,Instr.slice,hv,run_underlying hu,Sem.run_bind,hb,Qa3 hz]
      by_cases hlt:l < hh
      ·rw [if_pos hlt] at h;cases h;refine DoesS.same hr ⟨p,cap - l,hm,?_,by omega,by omega,?_⟩
       ·rw [if_neg (by omega),Addr.add_lit,Nat.add_assoc]
       ·have:(cap - l) * sz+l * sz=cap * sz:=by rw [← Nat.add_mul,Nat.sub_add_cancel (by omega)]
        omega
      ·rw [if_neg hlt] at h;cases h;refine DoesS.same hr ?_;have:hh - l=0:=by omega
       rw [this,Qmq];refine ⟨p,_,cap - l,hm,rfl,by omega,fun hp=>⟨by rw [if_neg (by omega),Addr.add_lit,Nat.add_assoc],?_⟩⟩;have:(cap - l) * sz+l * sz=cap * sz:=by rw [← Nat.add_mul,Nat.sub_add_cancel (by omega)]
       omega
     ·cases h
    ·cases h
   ·cases h
  ·cases h
 | q i off sz =>
  obtain ⟨p,x0,cap,hm,hv,h1,h2⟩:=hc;simp only [Qcn] at h;split at h
  ·rename_i el hu;split at h
   ·rename_i hz;split at h
    ·rename_i hl hhi;cases h;have hb:=Qfl (P:=P) he w (isS:=true) hl hhi (Nat.le_refl _) (Nat.le_refl _) (Nat.zero_le cap);refine DoesS.same (v:=.slice (if cap=0 then some x0 else some (x0.add (0 * sz))) 0 cap) ?_ ?_
     ·simp [execOp,ho,Instr.sliceAt,Instr.slice,hv,run_underlying hu,Sem.run_bind,hb,Qa3 hz]
     ·rw [Qmq];refine ⟨p,_,cap,hm,rfl,h1,fun hp=>⟨?_,(h2 hp).2⟩⟩;rw [if_neg (by omega),(h2 hp).1,Addr.add_lit,Nat.zero_mul,Nat.add_zero]
    ·cases h
   ·cases h
  ·cases h
 | emp z =>
  obtain ⟨x0,cap,hv,hz0⟩:=hc;simp only [Qcn] at h;split at h
  ·rename_i el hu;split at h
   ·rename_i sz hz;split at h
    ·rename_i hl hhi;cases h;have hb:=Qfl (P:=P) he w (isS:=true) (len:=0) (cap:=cap) hl hhi (Nat.le_refl _) (Nat.le_refl _) (Nat.zero_le _);have hr:(execOp a.eval o).run P w=.ok (.value (.slice (if cap=0 then some x0 else some (x0.add (0 * sz))) 0 cap)) w:=by
      simp [execOp,ho,Instr.sliceAt,Instr.slice,hv,run_underlying hu,Sem.run_bind,hb,Qa3 hz]
     rw [Qmq] at hr;exact DoesS.same hr ⟨_,_,rfl,hz0⟩
    ·cases h
   ·cases h
  ·cases h
 | flat v=>cases h
 | low k r=>cases h
 | ptr i off=>cases h
 | fn f caps=>cases h
 | mt f i off=>cases h
 | mp _=>cases h
def repC (z:List C) (n:Nat):List C:=match z with
 | [c]=>List.replicate n c
 | z=>(List.range n).map fun i=>z.getD (i % z.length) default
theorem Qdk (z:List C) (n:Nat):(repC z n).length=n:=by unfold repC;split <;> simp
theorem Qx1 {z:List C} {n j:Nat} {c:C} (h:(repC z n)[j]?=some c) (h0:0 < z.length):z[j % z.length]?=some c:=by
 have hj:j < n:=by have:=(List.getElem?_eq_some_iff.1 h).1;rwa [Qdk] at this
 unfold repC at h;split at h
 ·rename_i c0;rw [List.getElem?_replicate,if_pos hj] at h;simpa [Nat.mod_one] using h
 ·rw [List.getElem?_map,List.getElem?_range hj] at h;have hm:j % z.length < z.length:=Nat.mod_lt _ h0;simp [hm] at h;rw [List.getElem?_eq_getElem hm,h]
theorem Qjg {m:M} {z:List C} {zs:Array Value} (h:All2 (VC m) z zs.toList) (n:Nat) (h0:n≠0→0 < z.length):All2 (VC m) (repC z n) (madeCells zs n).toList:=by
 refine ⟨by simp [Qdk,madeCells],fun j c v hc hv=>?_⟩;have hj:j < n:=by have:=(List.getElem?_eq_some_iff.1 hc).1;rwa [Qdk] at this
 have hz:=h0 (by omega);have h1:=Qx1 hc hz;have hl:z.length=zs.size:=by simpa using h.1
 have hm:j % zs.size < zs.size:=Nat.mod_lt _ (by omega);rw [hl] at h1;refine h.2 _ c v h1 ?_;simp [madeCells,hj] at hv;rw [← hv];simp [hm]
variable (P)
def Qjt (st:St) (T:TypeId) (l c:Int):Option (PV × St) :=
 match P.underlying T with
 | some (.slice el)=>match P.info? el with
  | none=>none
  | some i=>match i.zero with
   | none=>none
   | some z=>match all? Qja z.cells.toList with
    | none=>none
    | some zc=>if l=c∧0≤c∧(i.bytes:Int) * c≤140737488355328∧c≤9223372036854775807∧zc.length=i.size∧0 < i.size then
      some (.s (.c (.sl st.h.length 0 c.toNat i.size)),⟨st.h++[⟨repC zc (c.toNat * i.size),el,true,true,true⟩],st.lo⟩) else none
 | _=>none
variable {P}
theorem Qv5 {m:M} {st st':St} {w:World} {a:Act} {e:Look} {o:Oper} {T:TypeId} {x y:Operand} {k k':IntKind} {l c:Int} {pv:PV} (hs:SR m st.h w) (he:EL m e a) (ho:o.op=.makeSlice T x y) (hx:evX e x=some (.s (.c (.flat (.int k l))))) (hy:evX e y=some (.s (.c (.flat (.int k' c))))) (h:Qjt P st T l c=some (pv,st')):Does P m st w a o pv st':=by
 have hxv:a.eval x=.int k l:=(show VC m (.flat (.int k l)) (a.eval x) from Qai he hx).1;have hyv:a.eval y=.int k' c:=(show VC m (.flat (.int k' c)) (a.eval y) from Qai he hy).1;unfold Qjt at h;split at h
 ·rename_i el hu;split at h
  ·cases h
  rename_i i hi;split at h
  ·cases h
  rename_i z hz;split at h
  ·cases h
  rename_i zc hzc;split at h
  ·rename_i hh;obtain ⟨rfl,h0,hb,h63,hzl,hsz⟩:=hh;cases h;have hr:=run_make (P:=P) w T el i z hu hi hz k k' l l h0 (Int.le_refl _) (by omega) h63;have hv:All2 (VC m) zc z.cells.toList:=(Qbh hzc).flip.imp fun _ _ h=>Qcl h;have hm:=Qjg hv (l.toNat * i.size) (fun _=>by omega);have hres:=Res.alloc hs _ (madeCells z.cells (l.toNat * i.size)).toList el hm [] true (fun _=>rfl);simp only [List.append_nil,Array.toArray_toList,List.length_nil,Nat.add_zero,Array.length_toList,size_madeCells] at hres;refine ⟨_,.slice (some ⟨w.heap.size,0,none⟩) l.toNat l.toNat,_,_,?_,.inl rfl,?_,hres⟩
   ·simp [execOp,ho,hxv,hyv,hr]
   ·exact ⟨_,_,Qat _ _ _,rfl,Nat.le_refl _,by simp only [maxLen];omega,by simp⟩
  ·cases h
 ·cases h
def Zcq:C→Option Nat
 | .str l=>some l.length
 | .sl _ _ len _=>some len
 | .emp _=>some 0
 | .q _ _ _=>some 0
 | .flat (.slice none 0 0)=>some 0
 | _=>none
variable (P)
def Qlc (T:TypeId) (c:C):Option Nat:=match P.underlying T,c with
 | some .string,.str l=>some l.length
 | some (.slice _),.str _=>none
 | some (.slice _),c=>Zcq c
 | _,_=>none
variable {P}
theorem Qr9 {m:M} {w:World} {a:Act} {e:Look} {o:Oper} {T:TypeId} {x:Operand} {c:C} {n:Nat} {ts:Array TypeId} (he:EL m e a) (ho:o.op=.call { callee:=.builtin .len,args:=#[x],argTypes:=ts }) (hts:ts[0]?=some T) (hx:evX e x=some (.s (.c c))) (h:Qlc P T c=some n) :
  DoesS P m w a o (.s (.c (.flat (.int .i64 (n:Int))))):=by
 have hc:VC m c (a.eval x):=Qai he hx;have key:∀ {d:TypeDesc},P.underlying T=some d→((match d,a.eval x with | .string,.string s=>s.size=n | .slice _,.slice _ k _=>k=n | _,_=>False))→DoesS P m w a o (.s (.c (.flat (.int .i64 (n:Int))))):=fun {d} hd hk=>by
  refine DoesS.same (v:=.int .i64 (n:Int)) ?_ ⟨rfl,rfl⟩;cases d <;> cases hv:a.eval x <;> simp only [hv] at hk <;> try exact hk.elim
  ·subst hk;simp [execOp,ho,resolve,invoke,builtin,Builtin.len_,hts,hv,run_underlying hd,Sem.run_bind,goInt]
  ·subst hk;simp [execOp,ho,resolve,invoke,builtin,Builtin.len_,hts,hv,run_underlying hd,Sem.run_bind,goInt]
 unfold Qlc at h;cases hd:P.underlying T with
 | none=>rw [hd] at h;cases c <;> cases h
 | some d =>
  rw [hd] at h;cases d <;> cases c <;> try (cases h;done)
  ·rename_i l;cases h;have hv:a.eval x=str' l:=hc;exact key hd (by rw [hv];simp [str',ByteArray.size])
  ·rename_i el v;simp only [Zcq] at h;split at h
   ·rename_i hcc;cases hcc
   ·rename_i hcc;cases hcc
   ·rename_i hcc;cases hcc
   ·rename_i hcc;cases hcc
   ·rename_i hcc;cases h;cases hcc;exact key hd (by rw [hc.1])
   ·cases h
  ·cases h;obtain ⟨x0,cap,hv,_⟩:=hc;exact key hd (by rw [hv])
  ·cases h;obtain ⟨p,cap,_,hv,_⟩:=hc;exact key hd (by rw [hv])
  ·cases h;obtain ⟨p,a,cap,_,hv,_⟩:=hc;exact key hd (by rw [hv])
end Ev
end Go.Proofs.YtcpodmjcgfgmnaaGreat
namespace Go.Proofs.YtcpodmjcgfgmnaaGreat
open Go.RowKit
namespace Ev
variable {P:Program}
def Qkg (place:Nat→Option (Nat × Nat)) (cells:List C):List (Nat × S)→Option (List C)
 | []=>some cells
 | (i,s) :: rest=>match place i with
  | none=>none
  | some (off,size)=>if (cellsOf s).length=size∧off+size≤cells.length then Qkg place (cells.take off++cellsOf s++cells.drop (off+size)) rest else none
def Qnm (off:Nat) (vs:List Value) (k:Nat) (cells:Array Value):Array Value:=(vs.zipIdx k).foldl (fun cs x=>cs.setIfInBounds (off+x.2) x.1) cells
theorem Qks (off:Nat):∀ (vs:List Value) (k:Nat) (cells:Array Value),off+k+vs.length≤cells.size→(Qnm off vs k cells).toList=cells.toList.take (off+k)++vs++cells.toList.drop (off+k+vs.length)
 | [],k,cells,_=>by simp [Qnm]
 | v :: vs,k,cells,h=>by
  simp only [List.length_cons] at h;have ih:=Qks off vs (k+1) (cells.setIfInBounds (off+k) v) (by simp;omega);have e:Qnm off (v :: vs) k cells=Qnm off vs (k+1) (cells.setIfInBounds (off+k) v):=by simp [Qnm,List.zipIdx_cons]
  rw [e,ih,Array.toList_setIfInBounds];refine List.ext_getElem? fun j=>?_;have hlen:cells.toList.length=cells.size:=by simp
  rcases Nat.lt_trichotomy j (off+k) with hj | hj | hj
  ·rw [List.append_assoc,List.append_assoc,List.getElem?_append_left (by simp;omega),List.getElem?_append_left (by simp;omega),List.getElem?_take,List.getElem?_take,if_pos (by omega),if_pos hj,List.getElem?_set_ne (by omega)]
  ·subst hj;rw [List.append_assoc,List.append_assoc,List.getElem?_append_left (by simp;omega),List.getElem?_take,if_pos (by omega),List.getElem?_set_self (by omega),List.getElem?_append_right (by simp;omega)];have:min (off+k) cells.size=off+k:=by omega
   simp [this]
  ·have m1:min (off+(k+1)) cells.size=off+(k+1):=by omega
   have m2:min (off+k) cells.size=off+k:=by omega
   have r1:=List.getElem?_append_right (l₁:=List.take (off+(k+1)) (cells.toList.set (off+k) v)) (l₂:=vs++List.drop (off+(k+1)+vs.length) (cells.toList.set (off+k) v)) (i:=j) (by simp;omega);have r2:=List.getElem?_append_right (l₁:=List.take (off+k) cells.toList) (l₂:=v :: vs++List.drop (off+k+(v :: vs).length) cells.toList) (i:=j) (by simp;omega);rw [List.append_assoc,List.append_assoc,r1,r2];simp only [List.length_take,List.length_set,hlen,m1,m2];rw [show j - (off+k)=(j - (off+(k+1)))+1 by omega];simp only [List.cons_append,List.getElem?_cons_succ];by_cases hv:j - (off+(k+1)) < vs.length
   ·rw [List.getElem?_append_left hv,List.getElem?_append_left hv]
   ·rw [List.getElem?_append_right (by omega),List.getElem?_append_right (by omega),List.getElem?_drop,List.getElem?_drop,List.getElem?_set_ne (by omega)];congr 1;simp only [List.length_cons];omega
theorem Qfa {m:M} (place:Nat→Option (Nat × Nat)):∀ {ps:List (Nat × S)} {cells:List C} {out:List C} {vs:Array Value} {qs:List (Nat × Value)},Qkg place cells ps=some out→All2 (VC m) cells vs.toList→All2 (fun p q=>p.1=q.1∧VS m p.2 q.2) ps qs →
  ∃ us,Instr.fill place vs qs=some us∧All2 (VC m) out us.toList
 | [],cells,out,vs,qs,h,hv,hq=>by
  have:qs=[]:=List.eq_nil_of_length_eq_zero hq.1.symm;subst this;cases h;exact ⟨vs,rfl,hv⟩
 | (i,s) :: ps,cells,out,vs,qs,h,hv,hq=>by
  cases qs with
  | nil=>exact absurd hq.1 (by simp)
  | cons q qs =>
   obtain ⟨h1,h2⟩:i=q.1∧VS m s q.2:=hq.2 0 _ _ rfl rfl;have hq':All2 (fun p q=>p.1=q.1∧VS m p.2 q.2) ps qs:=⟨by have:=hq.1;simpa using this,fun j x v hx hv=>hq.2 (j+1) x v (by simpa using hx) (by simpa using hv)⟩;simp only [Qkg] at h;split at h
   ·cases h
   rename_i off size hp;split at h
   ·rename_i hc;have hcs:=Qfi h2;have hsz:q.2.cells.size=size:=by have:=hcs.1;simp at this;omega
    have hvl:cells.length=vs.size:=by simpa using hv.1
    have hset:(q.2.cells.zipIdx.foldl (fun cs (x:Value × Nat)=>cs.setIfInBounds (off+x.2) x.1) vs)=Qnm off q.2.cells.toList 0 vs:=by
     rw [Qnm,← Array.foldl_toList,Array.toList_zipIdx]
    have hsp:=Qks off q.2.cells.toList 0 vs (by simp;omega);have hnew:All2 (VC m) (cells.take off++cellsOf s++cells.drop (off+size)) (Qnm off q.2.cells.toList 0 vs).toList:=by
     rw [hsp,Nat.add_zero];have:q.2.cells.toList.length=size:=by simpa using hsz
     rw [this];exact ((hv.take _).append hcs).append (hv.drop _)
    obtain ⟨us,hf,hu⟩:=Qfa place h hnew hq';refine ⟨us,?_,hu⟩;obtain ⟨qi,qv⟩:=q;simp only at h1 hsz hset hf;subst h1;simp only [Instr.fill,hp];rw [if_neg (by simp;omega),← hf];congr 1
   ·cases h
variable (P)
def Qde (e:Look) (ps:List (Nat × Operand)):Option (List (Nat × S)):=all? (fun p=>match evX e p.2 with | some (.s s)=>some (p.1,s) | _=>none) ps
variable {P}
theorem Qfc {m:M} {e:Look} {a:Act} (he:EL m e a) {ps:Array (Nat × Operand)} {qs:List (Nat × S)} (h:Qde e ps.toList=some qs) :
  All2 (fun p q=>p.1=q.1∧VS m p.2 q.2) qs (ps.map fun p=>(p.1,a.eval p.2)).toList:=by
 have hs:=Qbh h;refine ⟨by rw [← hs.1];simp,fun j x v hx hv=>?_⟩;have hj:j < ps.toList.length:=by rw [hs.1];exact (List.getElem?_eq_some_iff.1 hx).1
 have h1:(match evX e (ps.toList[j]).2 with | some (.s s)=>some ((ps.toList[j]).1,s) | _=>none)=some x:=hs.2 j ps.toList[j] x (by simp) hx;have hv':v=((ps.toList[j]).1,a.eval (ps.toList[j]).2):=by
  have hj':j < ps.size:=by simpa using hj
  simp [hj'] at hv;simp [← hv]
 subst hv';split at h1
 ·rename_i s hs';cases h1;exact ⟨rfl,Qai he hs'⟩
 ·cases h1
variable (P)
def Qlj (T:TypeId):Option (List C):=match P.info? T with
 | none=>none
 | some i=>match i.zero with
  | none=>none
  | some z=>all? Qja z.cells.toList
def Qq0 (T:TypeId) (ps:List (Nat × S)):Option PV :=
 match Qlj P T with
 | none=>none
 | some zc=>match P.underlying T with
  | some (.struct fields)=>match dry P (fields.mapM fun f=>do pure (f.offset,← sizeOf f.type)) with
   | none=>none
   | some places=>match Qkg (places[·]?) zc ps with | some cs=>some (.s (.a cs)) | none=>none
  | some (.array _ el)=>match Qc8 P el with
   | none=>none
   | some size=>match Qkg (fun i=>some (i * size,size)) zc ps with | some cs=>some (.s (.a cs)) | none=>none
  | _=>none
variable {P}
theorem Qg6 {m:M} {T:TypeId} {zc:List C} (h:Qlj P T=some zc):∃ z,(∀ w,(zeroValue T).run P w=.ok z w)∧All2 (VC m) zc z.cells.toList:=by
 unfold Qlj at h;split at h
 ·cases h
 rename_i i hi;split at h
 ·cases h
 rename_i z hz;exact ⟨z,fun w=>by simp [zeroValue,typeInfo,hi,hz],(Qbh h).flip.imp fun _ _ h=>Qcl h⟩
theorem Qlg {m:M} {w:World} {a:Act} {e:Look} {o:Oper} {T:TypeId} {ps:Array (Nat × Operand)} {qs:List (Nat × S)} {pv:PV} (he:EL m e a) (ho:o.op=.build T ps) (hp:Qde e ps.toList=some qs) (h:Qq0 P T qs=some pv):DoesS P m w a o pv:=by
 have hps:=Qfc he hp;unfold Qq0 at h;split at h
 ·cases h
 rename_i zc hzc;obtain ⟨z,hz,hzv⟩:=Qg6 (m:=m) hzc;split at h
 ·rename_i fields hu;split at h
  ·cases h
  rename_i places hpl;have hrun:=Qw4 hpl w;split at h
  ·rename_i cs hf;cases h;obtain ⟨us,hfill,hus⟩:=Qfa _ hf hzv hps;refine DoesS.same (v:=.agg us) ?_ ⟨us.toList,by simp,hus⟩;simp only [execOp,ho,Instr.build,Sem.run_bind,hz w,Result.andThen_ok,run_underlying hu,hrun,hfill,Sem.run_pure]
  ·cases h
 ·rename_i el hu;split at h
  ·cases h
  rename_i size hsz;split at h
  ·rename_i cs hf;cases h;obtain ⟨us,hfill,hus⟩:=Qfa _ hf hzv hps;refine DoesS.same (v:=.agg us) ?_ ⟨us.toList,by simp,hus⟩;simp only [execOp,ho,Instr.build,Sem.run_bind,hz w,Result.andThen_ok,run_underlying hu,Qa3 hsz,hfill,Sem.run_pure]
  ·cases h
 ·cases h
variable (P)
def Qa4 (st:St) (T:TypeId) (n:Nat) (ps:List (Nat × S)):Option (PV × St) :=
 match P.underlying T with
 | some (.slice el)=>match Qlj P el with
  | none=>none
  | some zc=>match Qc8 P el with
   | none=>none
   | some size=>if n * size≤16777216∧0 < size∧zc.length=size then match Qkg (fun i=>some (i * size,size)) (repC zc (n * size)) ps with
     | some cs=>some (.s (.c (.sl st.h.length 0 n size)),⟨st.h++[⟨cs,el,true,true,true⟩],st.lo⟩)
     | none=>none
    else none
 | _=>none
variable {P}
theorem Qj5 {m:M} {st st':St} {w:World} {a:Act} {e:Look} {o:Oper} {T:TypeId} {n:Nat} {ps:Array (Nat × Operand)} {qs:List (Nat × S)} {pv:PV} (hs:SR m st.h w) (he:EL m e a) (ho:o.op=.buildSlice T n ps) (hp:Qde e ps.toList=some qs) (h:Qa4 P st T n qs=some (pv,st')):Does P m st w a o pv st':=by
 have hps:=Qfc he hp;unfold Qa4 at h;split at h
 ·rename_i el hu;split at h
  ·cases h
  rename_i zc hzc;obtain ⟨z,hz,hzv⟩:=Qg6 (m:=m) hzc;split at h
  ·cases h
  rename_i size hsz;split at h
  ·rename_i hh;obtain ⟨h24,h0,hzl⟩:=hh;split at h
   ·rename_i cs hf;cases h;have hmade:=Qjg hzv (n * size) (fun _=>by omega);obtain ⟨us,hfill,hus⟩:=Qfa _ hf hmade hps;have hlen:cs.length=n * size:=by
     have key:∀ {ps:List (Nat × S)} {cells out:List C} {place:Nat→Option (Nat × Nat)},Qkg place cells ps=some out→out.length=cells.length:=by
      intro ps;induction ps with
      | nil=>intro cells out place h;cases h;rfl
      | cons p ps ih =>
       intro cells out place h;obtain ⟨i,s⟩:=p;simp only [Qkg] at h;split at h
       ·cases h
       ·split at h
        ·rename_i hc;rw [ih h];simp only [List.length_append,List.length_take,List.length_drop];omega
        ·cases h
     rw [key hf,Qdk]
    have hul:us.size=n * size:=by have:=hus.1;simp at this;omega
    have hres:=Res.alloc hs cs us.toList el hus [] true (fun _=>rfl);simp only [List.append_nil,Array.toArray_toList,List.length_nil,Nat.add_zero,Array.length_toList,hul] at hres;refine ⟨_,.slice (some ⟨w.heap.size,0,none⟩) n n,_,_,?_,.inl rfl,?_,hres⟩
    ·have h24':¬ (n * size > 2 ^ 24):=by omega
     have hfill':Instr.fill (fun i=>some (i * size,size)) ((Array.range (n * size)).map (z.cells[· % z.cells.size]!)) (ps.map fun p=>(p.1,a.eval p.2)).toList=some us:=hfill;by_cases hn:n * size=0
     ·have hn0:Instr.fill (fun i=>some (i * size,size)) ((Array.range (n * size)).map ((#[]:Array Value)[· % (#[]:Array Value).size]!)) (ps.map fun p=>(p.1,a.eval p.2)).toList=some us:=by
       rw [← hfill',hn,show Array.range 0=#[] from rfl];simp
      simp only [execOp,ho,Instr.buildSlice,Sem.run_bind,run_underlying hu,Result.andThen_ok,Qa3 hsz,if_neg h24',if_pos hn,Sem.run_pure,hn0];rfl
     ·simp only [execOp,ho,Instr.buildSlice,Sem.run_bind,run_underlying hu,Result.andThen_ok,Qa3 hsz,if_neg h24',if_neg hn,hz w,Sem.run_pure,hfill'];rfl
    ·exact ⟨_,_,Qat _ _ _,by simp,Nat.le_refl _,by
      have:n≤n * size:=Nat.le_mul_of_pos_right _ h0;simp only [maxLen];omega,by simp⟩
   ·cases h
  ·cases h
 ·cases h
end Ev
end Go.Proofs.YtcpodmjcgfgmnaaGreat
