/- A slice that reads as a list of cells. No program. -/
import Derived.Test.YtcnmaplopbbmaaaGreatOwn
import Derived.Test.YtcnmaplopbbmaaaGreatFlow
namespace Go.Proofs.YtcnmaplopbbmaaaGreat
open Go.RowKit
def Seg (sz:Nat) (w:World) (v:Value) (n:Nat) (xs:List Value):Prop :=
 ∃ a cap,v=.slice a n cap∧xs.length=n * sz∧(a=none→n=0∧cap=0)∧∀ j,j < xs.length→∃ b off,a=some ⟨b,off,none⟩∧b < w.heap.size∧w.cell? ⟨b,off+j,none⟩=xs[j]?
theorem Seg.shape {sz:Nat} {w:World} {v:Value} {n:Nat} {xs:List Value} (h:Seg sz w v n xs) (hl:xs≠[]) :
  ∃ b off cap,v=.slice (some ⟨b,off,none⟩) n cap∧b < w.heap.size∧∀ j,j < xs.length→w.cell? ⟨b,off+j,none⟩=xs[j]? := by
 obtain ⟨a,cap,rfl,hm,_,hc⟩:=h
 have h0:0 < xs.length:=List.length_pos_iff.2 hl
 obtain ⟨b,off,rfl,hb,_⟩:=hc 0 h0
 refine ⟨b,off,cap,rfl,hb,fun j hj=>?_⟩
 obtain ⟨b',off',e,_,h'⟩:=hc j hj
 cases e
 exact h'
theorem Seg.grow {sz:Nat} {w w':World} {v:Value} {n:Nat} {xs:List Value} (h:Seg sz w v n xs) (g:Flow.Grow w w'):Seg sz w' v n xs:=by
 obtain ⟨a,cap,rfl,hm,hn,hc⟩:=h
 refine ⟨a,cap,rfl,hm,hn,fun j hj=>?_⟩
 obtain ⟨b,off,ha,hb,hcell⟩:=hc j hj
 exact ⟨b,off,ha,Nat.lt_of_lt_of_le hb g.size,(World.cell?_of_block (g.block b hb (by simp))).trans hcell⟩
theorem Seg.of_own {sz:Nat} {w:World} {base e:Nat} {v:Value} {n:Nat} {xs:List Value} (h:w.ownsRow base e sz v n xs):Seg sz w v n xs:=by
 have hlen:=h.1
 rcases h.2 with ⟨rfl,h0⟩ | ⟨g,cap,cur,rfl,_,hg,_⟩
 ·subst h0
  exact ⟨none,0,rfl,hlen,fun _=>⟨rfl,rfl⟩,fun j hj=>by omega⟩
 ·refine ⟨some ⟨g,0,none⟩,cap,rfl,hlen,by simp,fun j hj=>⟨g,0,rfl,(Array.getElem?_eq_some_iff.1 hg).1,?_⟩⟩
  rw [Nat.zero_add,h.cellAt j (by omega)]
theorem Seg.nil (sz:Nat) (w:World):Seg sz w (.slice none 0 0) 0 []:=⟨none,0,rfl,by simp,fun _=>⟨rfl,rfl⟩,fun j hj=>by simp at hj⟩
theorem Seg.len {sz:Nat} {w:World} {a:Option Addr} {n cap:Nat} {m:Nat} {xs:List Value} (h:Seg sz w (.slice a n cap) m xs):n=m∧xs.length=n * sz:=by
 obtain ⟨a',cap',e,hm,_⟩:=h
 cases e
 exact ⟨rfl,hm⟩
theorem Seg.cells {sz:Nat} {w:World} {a:Option Addr} {n cap m:Nat} {xs:List Value} (h:Seg sz w (.slice a n cap) m xs):∀ ad,a=some ad→∀ j u,xs[j]? = some u→w.cell? (ad.add j)=some u:=by
 obtain ⟨a',cap',e,_,_,hc⟩:=h
 cases e
 intro ad had j u hu
 obtain ⟨b,off,ha,_,hcell⟩:=hc j (List.getElem?_eq_some_iff.1 hu).1
 rw [ha] at had
 cases had
 rw [Addr.add_lit,hcell,hu]
def Ints (w:World) (v:Value) (zs:List Int):Prop:=Seg 1 w v zs.length (zs.map (Value.int .i64))
theorem Ints.grow {w w':World} {v:Value} {zs:List Int} (h:Ints w v zs) (g:Flow.Grow w w'):Ints w' v zs:=Seg.grow h g
theorem Ints.shape {w:World} {v:Value} {zs:List Int} (h:Ints w v zs) (hl:zs≠[]) :
  ∃ b off cap,v=.slice (some ⟨b,off,none⟩) zs.length cap∧b < w.heap.size∧∀ j,j < zs.length→w.cell? ⟨b,off+j,none⟩=some (.int .i64 (zs.getD j 0)):=by
 obtain ⟨b,off,cap,hv,hb,hc⟩:=Seg.shape h (by simpa using hl)
 refine ⟨b,off,cap,hv,hb,fun j hj=>?_⟩
 rw [hc j (by simpa using hj)]
 simp [hj]
def Bools (w:World) (v:Value) (bs:List Bool):Prop:=Seg 1 w v bs.length (bs.map Value.bool)
theorem Bools.grow {w w':World} {v:Value} {bs:List Bool} (h:Bools w v bs) (g:Flow.Grow w w'):Bools w' v bs:=Seg.grow h g
theorem Bools.shape {w:World} {v:Value} {bs:List Bool} (h:Bools w v bs) (hl:bs≠[]) :
  ∃ b off cap,v=.slice (some ⟨b,off,none⟩) bs.length cap∧b < w.heap.size∧∀ j,j < bs.length→w.cell? ⟨b,off+j,none⟩=some (.bool (bs.getD j false)):=by
 obtain ⟨b,off,cap,hv,hb,hc⟩:=Seg.shape h (by simpa using hl)
 refine ⟨b,off,cap,hv,hb,fun j hj=>?_⟩
 rw [hc j (by simpa using hj)]
 simp [hj]
def Rows2 (w:World) (v:Value) (zss:List (List Int)):Prop :=
 ∃ vs:List Value,Seg 1 w v zss.length vs∧∀ i,i < zss.length→Ints w (vs.getD i undef) (zss.getD i [])
theorem Rows2.grow {w w':World} {v:Value} {zss:List (List Int)} (h:Rows2 w v zss) (g:Flow.Grow w w'):Rows2 w' v zss:=by
 obtain ⟨vs,h1,h2⟩:=h
 exact ⟨vs,h1.grow g,fun i hi=>(h2 i hi).grow g⟩
theorem Rows2.val {w:World} {v:Value} {zss:List (List Int)} (h:Rows2 w v zss):∃ a cap,v=.slice a zss.length cap:=by
 obtain ⟨vs,⟨a,cap,hv,_⟩,_⟩:=h
 exact ⟨a,cap,hv⟩
theorem Rows2.shape {w:World} {v:Value} {zss:List (List Int)} (h:Rows2 w v zss) (hl:zss≠[]) :
  ∃ b off cap,v=.slice (some ⟨b,off,none⟩) zss.length cap∧b < w.heap.size∧∀ j,j < zss.length→∃ u,w.cell? ⟨b,off+j,none⟩=some u∧Ints w u (zss.getD j []):=by
 obtain ⟨vs,h1,h2⟩:=h
 have hlen:vs.length=zss.length:=by
  obtain ⟨a,cap,_,hm,_⟩:=h1
  simpa using hm
 obtain ⟨b,off,cap,hv,hb,hc⟩:=h1.shape (by intro e;rw [e] at hlen;exact hl (List.eq_nil_of_length_eq_zero hlen.symm))
 refine ⟨b,off,cap,hv,hb,fun j hj=>⟨vs.getD j undef,?_,h2 j hj⟩⟩
 rw [hc j (by omega)]
 simp [show j < vs.length by omega]
end Go.Proofs.YtcnmaplopbbmaaaGreat
namespace Go.Proofs.YtcnmaplopbbmaaaGreat
open Go.RowKit
theorem Xm2.cell_grow {w w':World} {a:Addr} {v:Value} (g:Flow.Grow w w') (h:w.cell? a=some v):w'.cell? a=some v:=by
 have hlt:=World.block_lt_of_cell? w a h
 unfold World.cell? at h ⊢
 rw [g.block a.block hlt (by simp)]
 exact h
end Go.Proofs.YtcnmaplopbbmaaaGreat
namespace Go.Proofs.YtcnmaplopbbmaaaGreat
open Go.RowKit
namespace Gr
theorem flat_len {α:Type} {f:α→List Value} {k:Nat} (hk:∀ x,(f x).length=k):∀ xs:List α,(xs.flatMap f).length=xs.length * k
 | []=>by simp
 | x :: xs=>by
  rw [List.flatMap_cons,List.length_append,hk,flat_len hk xs,List.length_cons,Nat.succ_mul]
  omega
theorem flat_get {α:Type} {f:α→List Value} {k:Nat} (hk:∀ x,(f x).length=k):∀ (xs:List α) (j:Nat) (x:α),xs[j]? = some x→∀ q,q < k→(xs.flatMap f)[j * k+q]? = (f x)[q]?
 | [],j,x,h,_,_=>by simp at h
 | y :: xs,0,x,h,q,hq=>by
  simp at h
  subst h
  rw [List.flatMap_cons,List.getElem?_append_left (by rw [hk];omega),Nat.zero_mul,Nat.zero_add]
 | y :: xs,j+1,x,h,q,hq=>by
  have h':xs[j]? = some x:=by simpa using h
  rw [List.flatMap_cons,List.getElem?_append_right (by rw [hk,Nat.succ_mul];omega),hk,Nat.succ_mul,show j * k+k+q - k=j * k+q by omega]
  exact flat_get hk xs j x h' q hq
def Recs {α:Type} (k:Nat) (f:α→List Value) (w:World) (v:Value) (xs:List α):Prop:=Seg k w v xs.length (xs.flatMap f)
theorem Recs.grow {α:Type} {k:Nat} {f:α→List Value} {w w':World} {v:Value} {xs:List α} (h:Recs k f w v xs) (g:Flow.Grow w w'):Recs k f w' v xs:=Seg.grow h g
theorem Recs.form {α:Type} {k:Nat} {f:α→List Value} {w:World} {v:Value} {xs:List α} (h:Recs k f w v xs):∃ a cap,v=.slice a xs.length cap:=by
 obtain ⟨a,cap,e,_⟩:=h;exact ⟨a,cap,e⟩
theorem Recs.at {α:Type} {k:Nat} {f:α→List Value} (hk:∀ x,(f x).length=k) (h0:0 < k) {w:World} {a:Option Addr} {n cap:Nat} {xs:List α} (h:Recs k f w (.slice a n cap) xs) {j:Nat} {x:α} (hx:xs[j]? = some x) :
  ∃ b off,a=some ⟨b,off,none⟩∧∀ q u,(f x)[q]? = some u→w.cell? ⟨b,off+(j * k+q),none⟩=some u:=by
 obtain ⟨a',cap',e,hl,_,hc⟩:=h
 cases e
 have hj:=(List.getElem?_eq_some_iff.1 hx).1
 have hlen:=flat_len hk xs
 have hm:(j+1) * k≤xs.length * k:=Nat.mul_le_mul_right _ hj
 rw [Nat.succ_mul] at hm
 obtain ⟨b,off,rfl,_,c0⟩:=hc (j * k) (by omega)
 refine ⟨b,off,rfl,fun q u hu=>?_⟩
 have hq:q < k:=by rw [← hk x];exact (List.getElem?_eq_some_iff.1 hu).1
 obtain ⟨_,_,e1,_,c1⟩:=hc (j * k+q) (by omega)
 cases e1
 rw [c1,flat_get hk xs j x hx q hq,hu]
structure Nd where
 kind:Int
 id:ByteArray
 fr:Int
 to:Int
 msg:Int
 rep:Int
 loop:Bool
def Nd.cells (n:Nd):List Value:=[.int .i64 n.kind,.string n.id,.int .i64 n.fr,.int .i64 n.to,.int .i64 n.msg,.int .i64 n.rep,.bool n.loop]
abbrev Ed:=Int × Int
def ecells (e:Ed):List Value:=[.int .i64 e.1,.int .i64 e.2]
theorem Nd.cells_len (n:Nd):n.cells.length=7:=rfl
theorem ecells_len (e:Ed):(ecells e).length=2:=rfl
def NdsAt (w:World) (v:Value) (ns:List Nd):Prop:=Recs 7 Nd.cells w v ns
def EsAt (w:World) (v:Value) (es:List Ed):Prop:=Recs 2 ecells w v es
theorem EsAt.at {w:World} {a:Option Addr} {n cap:Nat} {es:List Ed} (h:EsAt w (.slice a n cap) es) {j:Nat} (hj:j < es.length):∃ b off,a=some ⟨b,off,none⟩ ∧
  w.cell? ⟨b,off+j * 2,none⟩=some (.int .i64 (es.getD j (0,0)).1)∧w.cell? ⟨b,off+j * 2+1,none⟩=some (.int .i64 (es.getD j (0,0)).2):=by
 have hx:es[j]? = some (es.getD j (0,0)):=by rw [List.getD_eq_getElem?_getD,List.getElem?_eq_getElem hj];rfl
 obtain ⟨b,off,rfl,hc⟩:=Recs.at ecells_len (by omega) h hx
 exact ⟨b,off,rfl,hc 0 _ rfl,by rw [Nat.add_assoc];exact hc 1 _ rfl⟩
def nd0:Nd:=⟨0,⟨#[]⟩,0,0,0,0,false⟩
theorem NdsAt.at {w:World} {a:Option Addr} {n cap:Nat} {ns:List Nd} (h:NdsAt w (.slice a n cap) ns) {j:Nat} (hj:j < ns.length):∃ b off,a=some ⟨b,off,none⟩ ∧
  w.cell? ⟨b,off+j * 7,none⟩=some (.int .i64 (ns.getD j nd0).kind)∧w.cell? ⟨b,off+j * 7+1,none⟩=some (.string (ns.getD j nd0).id)∧w.cell? ⟨b,off+j * 7+2,none⟩=some (.int .i64 (ns.getD j nd0).fr)∧w.cell? ⟨b,off+j * 7+3,none⟩=some (.int .i64 (ns.getD j nd0).to) ∧
  w.cell? ⟨b,off+j * 7+4,none⟩=some (.int .i64 (ns.getD j nd0).msg)∧w.cell? ⟨b,off+j * 7+5,none⟩=some (.int .i64 (ns.getD j nd0).rep)∧w.cell? ⟨b,off+j * 7+6,none⟩=some (.bool (ns.getD j nd0).loop):=by
 have hx:ns[j]? = some (ns.getD j nd0):=by rw [List.getD_eq_getElem?_getD,List.getElem?_eq_getElem hj];rfl
 obtain ⟨b,off,rfl,hc⟩:=Recs.at Nd.cells_len (by omega) h hx
 refine ⟨b,off,rfl,hc 0 _ rfl,?_,?_,?_,?_,?_,?_⟩ <;> rw [Nat.add_assoc]
 ·exact hc 1 _ rfl
 ·exact hc 2 _ rfl
 ·exact hc 3 _ rfl
 ·exact hc 4 _ rfl
 ·exact hc 5 _ rfl
 ·exact hc 6 _ rfl
def inE (es:List Ed) (n:Int):Nat→List Int
 | 0=>[]
 | i+1=>inE es n i++if (es.getD i (0,0)).2=n then [(i:Int)] else []
def outE (es:List Ed) (n:Int):Nat→List Int
 | 0=>[]
 | i+1=>outE es n i++if (es.getD i (0,0)).1=n then [(i:Int)] else []
def tasks (ns:List Nd):Nat→List Int
 | 0=>[]
 | i+1=>tasks ns i++if (ns.getD i nd0).kind=3 then [(i:Int)] else []
theorem inE_len (es:List Ed) (n:Int):∀ i,(inE es n i).length≤i
 | 0=>Nat.le_refl _
 | i+1=>by have:=inE_len es n i;rw [inE,List.length_append];split <;> simp <;> omega
theorem outE_len (es:List Ed) (n:Int):∀ i,(outE es n i).length≤i
 | 0=>Nat.le_refl _
 | i+1=>by have:=outE_len es n i;rw [outE,List.length_append];split <;> simp <;> omega
theorem tasks_len (ns:List Nd):∀ i,(tasks ns i).length≤i
 | 0=>Nat.le_refl _
 | i+1=>by have:=tasks_len ns i;rw [tasks,List.length_append];split <;> simp <;> omega
end Gr
end Go.Proofs.YtcnmaplopbbmaaaGreat
namespace Go.Proofs.YtcnmaplopbbmaaaGreat
open Go.RowKit
namespace Ch
abbrev S:=ByteArray
def pick (p:List Int) (a:Nat):Nat:=if a < p.length then (p.getD a 0 % 2 ^ 24).toNat else a * 7919 % 65536
theorem pick_lt (p:List Int) (a:Nat):pick p a < 16777216:=by
 unfold pick
 split <;> omega
def two (n:Nat):S:=⟨#[UInt8.ofNat (97+n / 26 % 26),UInt8.ofNat (97+n % 26)]⟩
abbrev Fl:=S × S × S × S
abbrev Sq:=S × S × S
structure It where
 kind:Int
 id:S
 first:S
 parts:List S
 flows:List S
 loop:Bool
structure Mk where
 at_:Nat
 n:Nat
 flows:List Fl
 items:List It
 seqs:List Sq
structure Cx where
 p:List Int
 parts:List S
 pre:S
def Cx.name (c:Cx) (s:S) (n:Nat):S:=c.pre++(s++two n)
def lS:S:=⟨#[115]⟩
def lT:S:=⟨#[116]⟩
def lF:S:=⟨#[102]⟩
def lG:S:=⟨#[103]⟩
def lB:S:=⟨#[98]⟩
def lE:S:=⟨#[101]⟩
def nE:S:=⟨#[]⟩
def msg (n:Nat):S:=if n=0 then ⟨#[109,97]⟩ else if n=1 then ⟨#[109,98]⟩ else ⟨#[109,99]⟩
def msgD:S:=⟨#[109,100]⟩
def Mk.item (m:Mk) (i:It):Mk:={ m with items:=m.items++[i] }
def Mk.named (m:Mk):Mk:={ m with n:=m.n+1 }
def Mk.flow (m:Mk) (f:Fl):Mk:={ m with flows:=m.flows++[f] }
def Mk.next (m:Mk):Mk:={ m with at_:=m.at_+1 }
def seqT (c:Cx) (m:Mk) (a b:S):Mk:={ m.named with seqs:=m.seqs++[(c.name lS (m.n+1),a,b)] }
def Cx.who (c:Cx) (x:Nat):Nat × Nat :=
 (x % 16 % c.parts.length,(x % 16 % c.parts.length+1+x / 16 % 16 % (c.parts.length - 1)) % c.parts.length)
def Cx.part (c:Cx) (i:Nat):S:=c.parts.getD i nE
def taskT (c:Cx) (m:Mk) (x:Nat):S × Mk :=
 let a:=c.part (c.who x).1
 let b:=c.part (c.who x).2
 let t:=c.name lT (m.n+1)
 let f:=c.name lF (m.n+2)
 let g:=c.name lF (m.n+3)
 let lp:=decide (x / 16384 % 8=0)
 if x / 4096 % 4=0 then (t,(((m.named.named.named).flow (f,a,b,msg (x / 256 % 16 % 3))).flow (g,b,a,msgD)).item ⟨3,t,a,[a,b],[f,g],lp⟩)
 else (t,((m.named.named).flow (f,a,b,msg (x / 256 % 16 % 3))).item ⟨3,t,a,[a,b],[f],lp⟩)
def leafT (c:Cx) (m:Mk) (from_:S) (x:Nat):S × Mk:=((taskT c m (x / 8)).1,seqT c (taskT c m (x / 8)).2 from_ (taskT c m (x / 8)).1)
def gate (k:Int) (a:S):It:=⟨k,a,nE,[],[],false⟩
def partT (c:Cx):Nat→S→Mk→S × Mk
 | 0,from_,m=>leafT c m.next from_ (pick c.p m.at_)
 | d+1,from_,m =>
  if pick c.p m.at_ % 8 < 3∨9 < m.items.length then leafT c m.next from_ (pick c.p m.at_)
  else if pick c.p m.at_ % 8 < 5 then partT c d (partT c d from_ m.next).1 (partT c d from_ m.next).2
  else
   let k:Int:=if pick c.p m.at_ % 8=7 then 5 else 4
   let a:=c.name lG (m.n+1)
   let s:=partT c d a (seqT c (m.next.named.item (gate k a)) from_ a)
   let t:=partT c d a s.2
   let b:=c.name lG (t.2.n+1)
   let m3:=seqT c (seqT c (t.2.named.item (gate k b)) s.1 b) t.1 b
   if k=4∧pick c.p m.at_ / 1048576 % 4=0 then (b,seqT c m3 b a) else (b,m3)
def levelT (c:Cx) (m:Mk) (d:Nat):Mk :=
 let a:=c.name lB (m.n+1)
 let b:=partT c d a (m.named.item (gate 1 a))
 let e:=c.name lE (b.2.n+1)
 seqT c (b.2.named.item (gate 2 e)) b.1 e
structure Up (m m':Mk) (k:Nat):Prop where
 at_:m'.at_+1≤m.at_+2 * k
 n:m'.n+6≤m.n+10 * k
 flows:m'.flows.length≤m.flows.length+2 * k
 items:m'.items.length+2≤m.items.length+3 * k
 seqs:m'.seqs.length+4≤m.seqs.length+5 * k
theorem leaf_up (c:Cx) (m:Mk) (from_:S) (x:Nat):Up m (leafT c m.next from_ x).2 1:=by
 unfold leafT taskT
 dsimp only
 split <;> exact ⟨by simp [seqT,Mk.named,Mk.flow,Mk.item,Mk.next],by simp [seqT,Mk.named,Mk.flow,Mk.item,Mk.next],by simp [seqT,Mk.named,Mk.flow,Mk.item,Mk.next],by simp [seqT,Mk.named,Mk.flow,Mk.item,Mk.next],by simp [seqT,Mk.named,Mk.flow,Mk.item,Mk.next]⟩
theorem Up.wide {m m':Mk} {k k':Nat} (h:Up m m' k) (hk:k≤k'):Up m m' k':=by
 obtain ⟨h1,h2,h3,h4,h5⟩:=h
 exact ⟨by omega,by omega,by omega,by omega,by omega⟩
theorem part_up (c:Cx):∀ (d:Nat) (from_:S) (m:Mk),Up m (partT c d from_ m).2 (2 ^ d)
 | 0,from_,m=>leaf_up c m from_ _
 | d+1,from_,m=>by
  have hp:1≤2 ^ d:=Nat.one_le_two_pow
  have h2:2 ^ (d+1)=2 * 2 ^ d:=by rw [Nat.pow_succ,Nat.mul_comm]
  rw [h2,partT]
  split
  ·exact (leaf_up c m from_ _).wide (by omega)
  ·split
   ·have h1:=part_up c d from_ m.next
    have h3:=part_up c d (partT c d from_ m.next).1 (partT c d from_ m.next).2
    generalize partT c d (partT c d from_ m.next).1 (partT c d from_ m.next).2=y at *
    generalize partT c d from_ m.next=z at *
    obtain ⟨a1,a2,a3,a4,a5⟩:=h1
    obtain ⟨b1,b2,b3,b4,b5⟩:=h3
    simp only [Mk.next] at a1 a2 a3 a4 a5
    exact ⟨by omega,by omega,by omega,by omega,by omega⟩
   ·dsimp only
    generalize (if pick c.p m.at_ % 8=7 then (5:Int) else 4)=k
    generalize c.name lG (m.n+1)=a
    have h1:=part_up c d a (seqT c (m.next.named.item (gate k a)) from_ a)
    generalize partT c d a (seqT c (m.next.named.item (gate k a)) from_ a)=s at *
    have h3:=part_up c d a s.2
    generalize partT c d a s.2=t at *
    obtain ⟨a1,a2,a3,a4,a5⟩:=h1
    obtain ⟨b1,b2,b3,b4,b5⟩:=h3
    simp only [seqT,Mk.next,Mk.named,Mk.item,List.length_append,List.length_singleton] at a1 a2 a3 a4 a5
    split <;> exact ⟨by simp only [seqT,Mk.named,Mk.item];omega,by simp only [seqT,Mk.named,Mk.item];omega,by simp only [seqT,Mk.named,Mk.item];omega,by simp only [seqT,Mk.named,Mk.item,List.length_append,List.length_singleton];omega,by simp only [seqT,Mk.named,Mk.item,List.length_append,List.length_singleton];omega⟩
end Ch
end Go.Proofs.YtcnmaplopbbmaaaGreat
namespace Go.Proofs.YtcnmaplopbbmaaaGreat
open Go.RowKit
namespace Flow
def fitsN (m n:Nat) (ops:Array Oper):Bool :=
 (List.range m).all fun i =>
   (match dstOf ops i with | some d=>decide (d < n) && (List.range i).all (fun j=>dstOf ops j != some d) | none=>false) &&
   (match ops[i]? with | some o=>o.after.toList.all (fun e=>!Region.binds .any e || decide (e.on < i)) | none=>false)
def lastOk (m:Nat) (ops:Array Oper) (S:List (List Nat)):Bool :=
 (ops.size == m+1) && (match ops[m]? with | some o=>o.dst.isNone && o.guard.isNone && o.after.toList.all (fun e=>!Region.binds .any e || decide (e.on < m)) | none=>false) && (List.range m).all fun k=>(S.getD m []).contains k
section
variable {P:Program} {ops:Array Oper} {Q:Exit→Act→World→Prop} {a0:Act} {C:World→Prop} {R:World→World→Prop} {Fs:List Fact} {S:List (List Nat)} {m:Nat}
theorem any_tail (hfit:fitsN m a0.tmps.size ops=true) (hlast:lastOk m ops S=true) (hlean:leans ops S=true) (hst:Stable R Fs) (hR0:∀ w,R w w) (hC:∀ w w',C w→R w w'→C w') (hF:Fs.length=m)
  (hones:Ones P ops Q a0 C R Fs (ops.toList.take m) S Fs)
  (hend:∀ a w o,ops[m]? = some o→C w→Off ops a0 a→(∀ k,k < m→known ops Fs a w k)→o.wp P a w (fun a' w'=>Q .normal a' w') Q) :
  ∀ (fuel:Nat) (listed:Array Bool) (a:Act) (w:World),listed.size=ops.size→listed.getD m true=false→left listed=fuel→C w→Off ops a0 a →
   (∀ k,listed.getD k false=true→known ops Fs a w k)→(∀ m,listed.getD m false=true→∀ k∈S.getD m [],listed.getD k false=true)→wpAny P .any ops Q fuel listed a w:=by
 simp only [lastOk,Bool.and_eq_true,beq_iff_eq,List.all_eq_true,List.mem_range,List.contains_iff_mem] at hlast
 obtain ⟨⟨hsize,hlo⟩,hall⟩:=hlast
 obtain ⟨ol,hol⟩:∃ o,ops[m]? = some o:=by
  cases h:ops[m]? with
  | none=>simp [h] at hlo
  | some o=>exact ⟨o,rfl⟩
 simp only [hol,Bool.and_eq_true,Option.isNone_iff_eq_none,List.all_eq_true,Bool.or_eq_true,Bool.not_eq_true',decide_eq_true_eq] at hlo
 obtain ⟨⟨hld,hlg⟩,hlaf⟩:=hlo
 have hsh:∀ i o,i < m→ops[i]? = some o→∃ d,o.dst=some d∧d < a0.tmps.size∧(∀ j,j < i→dstOf ops j≠some d)∧∀ e∈o.after,Region.binds .any e=true→e.on < i:=by
  intro i o hi ho
  have h:=(List.all_eq_true.1 hfit) i (by simpa using hi)
  simp only [dstOf,ho,Option.bind_some] at h
  cases hd:o.dst with
  | none=>simp [hd] at h
  | some d =>
   simp only [hd,Bool.and_eq_true,decide_eq_true_eq,List.all_eq_true,List.mem_range,bne_iff_ne,Bool.or_eq_true,Bool.not_eq_true'] at h
   exact ⟨d,rfl,h.1.1,fun j hj=>h.1.2 j hj,fun e he hb=>(h.2 e (by simpa using he)).resolve_left (by simp [hb])⟩
 have hdl:dstOf ops m=none:=by simp [dstOf,hol,hld]
 have hdm:∀ i d,dstOf ops i=some d→i < m:=by
  intro i d hi
  have:i < ops.size:=by
   cases ho:ops[i]? with
   | none=>simp [dstOf,ho] at hi
   | some o=>exact (Array.getElem?_eq_some_iff.1 ho).1
  rcases Nat.lt_or_ge i m with h | h
  ·exact h
  ·have:i=m:=by omega
   subst this
   rw [hdl] at hi;cases hi
 have hdist:∀ i j d,dstOf ops i=some d→dstOf ops j=some d→i=j:=by
  intro i j d hi hj
  have g:∀ i j,dstOf ops i=some d→dstOf ops j=some d→¬ j < i:=by
   intro i j hi hj hlt
   cases ho:ops[i]? with
   | none=>simp [dstOf,ho] at hi
   | some o =>
    obtain ⟨d',hd',_,hne,_⟩:=hsh i o (hdm i d hi) ho
    have:d'=d:=by simpa [dstOf,ho,hd'] using hi
    subst this
    exact hne j hlt hj
  have:=g i j hi hj
  have:=g j i hj hi
  omega
 have hbnd:∀ i o,ops[i]? = some o→∀ e∈o.after,Region.binds .any e=true→e.on < i:=by
  intro i o ho e he hb
  have hi:=(Array.getElem?_eq_some_iff.1 ho).1
  rcases Nat.lt_or_ge i m with h | h
  ·obtain ⟨_,_,_,_,hh⟩:=hsh i o h ho
   exact hh e he hb
  ·have:i=m:=by omega
   subst this
   rw [hol] at ho;cases ho
   exact (hlaf e (by simpa using he)).resolve_left (by simp [hb])
 have hfull:∀ (listed:Array Bool),listed.size=ops.size→Region.ready .any ops listed=[]→∀ n i,i < n→i < ops.size→listed.getD i false=true:=by
  intro listed hsz hr n
  induction n with
  | zero=>intro i h;omega
  | succ n ih =>
   intro i hi hio
   by_cases hin:i < n
   ·exact ih i hin hio
   ·have hin:i=n:=by omega
    cases hl:listed.getD i false with
    | true=>rfl
    | false =>
     exfalso
     have ho:ops[i]? = some ops[i]:=by simp [hio]
     have hb:=hbnd i _ ho
     have:i∈Region.ready .any ops listed:=mem_ready.2 ⟨by
      have:i < listed.size:=by omega
      simpa [this] using hl,_,ho,fun e he hbe=>ih e.on (by have:=hb e he hbe;omega) (by have:=hb e he hbe;omega)⟩
     rw [hr] at this
     cases this
 have hno:∀ (listed:Array Bool),listed.size=ops.size→listed.getD m true=false→Region.ready .any ops listed=[]→False:=by
  intro listed hsz hu hr
  have:=getD_true_of_false (hfull listed hsz hr (m+1) m (by omega) (by omega))
  rw [this] at hu;cases hu
 intro fuel
 induction fuel with
 | zero =>
  intro listed a w hsz hu hl hCw hoff hk _
  exfalso
  have:=left_set hu
  omega
 | succ fuel ih =>
  intro listed a w hsz hu hl hCw hoff hk hcl
  refine ⟨fun hr=>(hno listed hsz hu hr).elim,fun i hi=>?_⟩
  obtain ⟨hun,o,ho,hal⟩:=mem_ready.1 hi
  have hio:i < ops.size:=(Array.getElem?_eq_some_iff.1 ho).1
  have hSi:∀ k∈S.getD i [],listed.getD k false=true:=by
   intro k hkS
   have h:=(List.all_eq_true.1 hlean) i (by simpa using hio)
   have h:=(List.all_eq_true.1 h) k hkS
   simp only [ho,List.any_eq_true,Bool.and_eq_true,Bool.or_eq_true,beq_iff_eq,List.contains_iff_mem] at h
   obtain ⟨e,he,hb,hek⟩:=h
   have hle:=hal e (by simpa using he) hb
   rcases hek with rfl | hek
   ·exact hle
   ·exact hcl e.on hle k hek
  by_cases him:i=m
  ·subst him
   rw [hol] at ho;cases ho
   have hlk:∀ k,k < i→listed.getD k false=true:=fun k hk2=>hSi k (hall k hk2)
   have hw:=hend a w ol hol hCw hoff fun k hk2=>hk k (hlk k hk2)
   unfold wpOp
   have hwant:Region.wanted ol (yielded ops a.tmps)=true:=want_none hlg
   simp only [hol,hwant,if_true]
   refine .inl (Oper.wp_mono (fun a' w' hq=>?_) hw)
   have hdn:∀ k,k < ops.size→(listed.setIfInBounds i true).getD k false=true:=by
    intro k hk2
    by_cases e:k=i
    ·subst e
     have:k < listed.size:=by omega
     simp [this]
    ·exact getD_set_true (hlk k (by omega))
   have hf0:fuel=0:=by
    have h1:=left_set hun
    have h2:left (listed.setIfInBounds i true)=0:=by
     unfold left
     rw [List.countP_eq_zero]
     intro x hx
     obtain ⟨k,hk2,rfl⟩:=List.getElem_of_mem hx
     have hk3:k < ops.size:=by simpa [hsz] using hk2
     have:=hdn k hk3
     have hk4:k < (listed.setIfInBounds i true).size:=by simpa using hk2
     rw [Array.getD_eq_getD_getElem?,Array.getElem?_eq_getElem hk4] at this
     have h5:(listed.setIfInBounds i true)[k]=true:=this
     rw [Array.getElem_toList,h5]
     simp
    omega
   subst hf0
   have hr:Region.ready .any ops (listed.setIfInBounds i true)=[]:=by
    cases hr:Region.ready .any ops (listed.setIfInBounds i true) with
    | nil=>rfl
    | cons j r =>
     have hj:j∈Region.ready .any ops (listed.setIfInBounds i true):=by rw [hr];simp
     obtain ⟨h1,oj,hoj,_⟩:=mem_ready.1 hj
     have:=getD_true_of_false (hdn j (Array.getElem?_eq_some_iff.1 hoj).1)
     rw [this] at h1;cases h1
   exact ⟨hr,hq⟩
  ·have him':i < m:=by omega
   obtain ⟨d,hd,hdn,_,_⟩:=hsh i o him' ho
   have hone:=ones_at hones i o (by rw [List.getElem?_take_of_lt him'];simpa using ho) a w hCw hoff (facts_mem fun k hkS=>hk k (hSi k hkS))
   have next:∀ v w',R w w'→holds (Fs.getD i (.inr fun _ _=>True)) v w'→wpAny P .any ops Q fuel (listed.setIfInBounds i true) (a.put o.dst v) w':=by
    intro v w' hR hv
    refine ih _ _ _ (by simpa using hsz) ?_ (by have:=left_set hun;omega) (hC _ _ hCw hR) ⟨(put_defers _ _ _).trans hoff.defers,(put_size _ _ _).trans hoff.size,fun t ht=>?_⟩ (fun k hkl d' hd'=>?_) (fun m hm k hkS=>?_)
    ·rw [getD_set_ne true him];exact hu
    ·rw [hd,eval_put_ne (fun e=>ht i (by simp [dstOf,ho,hd,e]))]
     exact hoff.same t ht
    ·by_cases e:k=i
     ·subst e
      have:d'=d:=by simpa [dstOf,ho,hd] using hd'.symm
      subst this
      rw [hd,eval_put_same (by rw [hoff.size];exact hdn)]
      exact hv
     ·have hdd:d≠d':=fun e'=>e (hdist k i d' hd' (by simp [dstOf,ho,hd,e']))
      rw [hd,eval_put_ne hdd]
      rw [getD_set_ne false (Ne.symm e)] at hkl
      exact holds_stable hst k _ _ _ hR (hk k hkl d' hd')
    ·by_cases e:m=i
     ·subst e;exact getD_set_true (hSi k hkS)
     ·rw [getD_set_ne false (Ne.symm e)] at hm
      exact getD_set_true (hcl m hm k hkS)
   unfold wpOp
   simp only [ho]
   rcases hone with ⟨hw,hone⟩ | ⟨hw,hone⟩
   ·simp only [hw,if_true]
    exact .inl (Oper.wp_mono (fun a' w' ⟨v,e,hR,hv⟩=>by subst e;exact next v w' hR hv) hone)
   ·simp only [hw,Bool.false_eq_true,if_false]
    exact next undef w (hR0 w) hone
theorem region_tail {id:Nat} {w:World} (m:Nat) (hm:P.follows .mixedOrders=true) (hfit:fitsN m a0.tmps.size ops=true) (hlast:lastOk m ops S=true) (hlean:leans ops S=true) (hF:Fs.length=m)
  (hst:Stable R Fs) (hR0:∀ w,R w w) (hC:∀ w w',C w→R w w'→C w') (h0:C w.drew)
  (hones:Ones P ops Q a0 C R Fs (ops.toList.take m) S Fs)
  (hend:∀ a w o,ops[m]? = some o→C w→Off ops a0 a→(∀ k,k < m→known ops Fs a w k)→o.wp P a w (fun a' w'=>Q .normal a' w') Q):(Code.region id ops true).wp P Q a0 w:=by
 have hsz:ops.size=m+1:=by
  simp only [lastOk,Bool.and_eq_true,beq_iff_eq] at hlast
  exact hlast.1.1
 exact wp_region_any hm (any_tail hfit hlast hlean hst hR0 hC hF hones hend ops.size (Array.replicate ops.size false) a0 w.drew (by simp) (by simp [hsz])
  (by simp [left,List.countP_replicate]) h0 ⟨rfl,rfl,fun _ _=>rfl⟩
  (fun k hk=>by rcases Nat.lt_or_ge k ops.size with h | h <;> simp [h] at hk)
  (fun m hk=>by rcases Nat.lt_or_ge m ops.size with h | h <;> simp [h] at hk))
theorem region_tail2 {id:Nat} {w:World} (m:Nat) (hm:P.follows .mixedOrders=true) (hfit:fitsN m a0.tmps.size ops=true) (hlast:lastOk m ops S=true) (hlean:leans ops S=true) (hF:Fs.length=m)
  (hst:Stable R Fs) (hR0:∀ w,R w w) (hC:∀ w w',C w→R w w'→C w') (h0:C w.drew)
  (hones:Ones P ops Q a0 C R Fs (ops.toList.take m) S Fs)
  (hend:∀ w o,ops[m]? = some o→C w→ends (fun _ a w=>o.wp P a w (fun a' w'=>Q .normal a' w') Q) (ops.toList.take m) Fs a0 w):(Code.region id ops true).wp P Q a0 w:=by
 refine region_tail m hm hfit hlast hlean hF hst hR0 hC h0 hones fun a w o ho hCw hoff hk=>?_
 have hsz:ops.size=m+1:=by
  simp only [lastOk,Bool.and_eq_true,beq_iff_eq] at hlast
  exact hlast.1.1
 have hdl:∀ k,m≤k→dstOf ops k=none:=by
  intro k hk2
  rcases Nat.lt_or_ge k (m+1) with h | h
  ·have:k=m:=by omega
   subst this
   simp only [lastOk,Bool.and_eq_true,ho] at hlast
   have:=hlast.1.2.1.1
   simp [dstOf,ho] at this ⊢
   exact this
  ·have:ops[k]? = none:=by simp;omega
   simp [dstOf,this]
 refine ends_all (Q:=fun _ a w=>o.wp P a w (fun a' w'=>Q .normal a' w') Q) (ops.toList.take m) Fs a0 (fun i oi hoi=>?_) (by simp [hF,hsz]) hoff.defers.symm hoff.size.symm (fun t ht=>(hoff.same t fun k hk2=>?_).symm) (hend w o ho hCw)
 ·have him:i < m:=by
   have:=(List.getElem?_eq_some_iff.1 hoi).1
   simp at this;omega
  rw [List.getElem?_take_of_lt him] at hoi
  have ho':ops[i]? = some oi:=by simpa using hoi
  have h:=(List.all_eq_true.1 hfit) i (by simpa using him)
  simp only [dstOf,ho',Option.bind_some] at h
  cases hd:oi.dst with
  | none=>simp [hd] at h
  | some d =>
   simp only [hd,Bool.and_eq_true,decide_eq_true_eq] at h
   exact ⟨d,rfl,by rw [hoff.size];exact h.1.1,hk i him d (by simp [dstOf,ho',hd])⟩
 ·rcases Nat.lt_or_ge k m with h | h
  ·cases hok:ops[k]? with
   | none=>simp [dstOf,hok] at hk2
   | some ok =>
    refine ht ok ?_ (by simpa [dstOf,hok] using hk2)
    refine List.mem_of_getElem? (i:=k) ?_
    rw [List.getElem?_take_of_lt h]
    simpa using hok
  ·rw [hdl k h] at hk2;cases hk2
end
end Flow
end Go.Proofs.YtcnmaplopbbmaaaGreat
