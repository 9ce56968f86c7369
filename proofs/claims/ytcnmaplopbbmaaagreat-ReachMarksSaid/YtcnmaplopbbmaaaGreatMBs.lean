/- Plain: a choreography that is made of picks keeps to the rules: ids are unlike, one way leads out of each task, none into the start. No program. -/
import Derived.Test.YtcnmaplopbbmaaaGreatMBq
import Derived.Test.YtcnmaplopbbmaaaGreatFlLevel
namespace Go.Proofs.YtcnmaplopbbmaaaGreat
open Go.RowKit
namespace Ch
theorem ba_toList {a b:S} (h:a=b):a.data.toList=b.data.toList:=by rw [h]
theorem two_inj {a b:Nat} (ha:a≤675) (hb:b≤675) (h:(two a).data.toList=(two b).data.toList):a=b:=by
 unfold two at h
 simp only [List.cons.injEq,and_true] at h
 obtain ⟨h1,h2⟩:=h
 have e1:=congrArg UInt8.toNat h1
 have e2:=congrArg UInt8.toNat h2
 simp only [UInt8.toNat_ofNat'] at e1 e2
 omega
theorem name_inj (c:Cx) {l l':S} {k k':Nat} (hl:l.data.toList.length=1) (hl':l'.data.toList.length=1) (hk:k≤675) (hk':k'≤675) (h:c.name l k=c.name l' k'):k=k':=by
 have e:=ba_toList h
 unfold Cx.name at e
 simp only [ByteArray.data_append,Array.toList_append] at e
 have e2:=List.append_cancel_left e
 have e3:=(List.append_inj e2 (by omega)).2
 exact two_inj hk hk' e3
def Old (c:Cx) (n:Nat) (x:S):Prop:=∃ l k,l.data.toList.length=1∧k≤n∧x=c.name l k
theorem Old.up {c:Cx} {n m:Nat} {x:S} (h:Old c n x) (hn:n≤m):Old c m x:=by
 obtain ⟨l,k,h1,h2,h3⟩:=h
 exact ⟨l,k,h1,by omega,h3⟩
theorem Old.ne {c:Cx} {n k:Nat} {x l:S} (h:Old c n x) (hl:l.data.toList.length=1) (hk:n < k) (h5:k≤675):x≠c.name l k:=by
 obtain ⟨l',k',h1,h2,rfl⟩:=h
 intro e
 have:=name_inj c h1 hl (by omega) h5 e
 omega
def TaskOk (c:Cx) (fs:List Fl) (it:It):Prop:=∃ a b,a < c.parts.length∧b < c.parts.length∧a≠b∧∃ x∈fs,x.2.1=c.part a∧x.2.2.1=c.part b∧(it.flows=[x.1]∨∃ y∈fs,it.flows=[x.1,y.1])
theorem TaskOk.up {c:Cx} {fs gs:List Fl} {it:It} (h:TaskOk c fs it) (hs:∀ x∈fs,x∈gs):TaskOk c gs it:=by
 obtain ⟨a,b,h1,h2,h3,x,hx,h4,h5,h6⟩:=h
 refine ⟨a,b,h1,h2,h3,x,hs x hx,h4,h5,?_⟩
 rcases h6 with h6 | ⟨y,hy,h6⟩
 ·exact .inl h6
 ·exact .inr ⟨y,hs y hy,h6⟩
def Mk.ids (m:Mk):List S:=m.items.map (·.id)
def cnt (qs:List Sq) (x:S):Nat:=qs.countP fun q=>decide (q.2.1=x)
theorem cnt_zero {qs:List Sq} {x:S} (h:∀ q∈qs,q.2.1≠x):cnt qs x=0:=by
 unfold cnt
 rw [List.countP_eq_zero]
 intro q hq
 simpa using h q hq
structure St (c:Cx) (st:S) (o:List S) (m:Mk):Prop where
 head:∃ rest,m.items=gate 1 st :: rest∧∀ it∈rest,it.kind≠1
 num:∀ it∈m.items,Old c m.n it.id
 nd:m.ids.Nodup
 fnum:∀ x∈m.flows,Old c m.n x.1
 fnd:(m.flows.map (·.1)).Nodup
 src:∀ q∈m.seqs,q.2.1∈m.ids
 dst:∀ q∈m.seqs,∃ it∈m.items,it.id=q.2.2∧it.kind≠1
 out:∀ it∈m.items,it.kind=3∨it.kind=1→(it.id∈o→cnt m.seqs it.id=0)∧(it.id∉o→cnt m.seqs it.id=1)
 tk:∀ it∈m.items,it.kind=3→TaskOk c m.flows it
 os:∀ x∈o,x∈m.ids
theorem St.same {c:Cx} {st:S} {o:List S} {m m':Mk} (h:St c st o m) (hn:m.n≤m'.n) (h1:m'.items=m.items) (h2:m'.seqs=m.seqs) (h3:m'.flows=m.flows):St c st o m':=by
 obtain ⟨a1,a2,a3,a4,a5,a6,a7,a8,a9,a10⟩:=h
 refine ⟨by rw [h1];exact a1,by rw [h1];exact fun it hi=>(a2 it hi).up hn,by unfold Mk.ids;rw [h1];exact a3,by rw [h3];exact fun x hx=>(a4 x hx).up hn,by rw [h3];exact a5,by unfold Mk.ids;rw [h1,h2];exact a6,by rw [h1,h2];exact a7,by rw [h1,h2];exact a8,by rw [h1,h3];exact a9,by unfold Mk.ids;rw [h1];exact a10⟩
theorem St.conv {c:Cx} {st:S} {o o':List S} {m:Mk} (h:St c st o m) (hc:∀ it∈m.items,it.kind=3∨it.kind=1→(it.id∈o↔it.id∈o')) (ho:∀ x∈o',x∈m.ids):St c st o' m:=by
 obtain ⟨a1,a2,a3,a4,a5,a6,a7,a8,a9,a10⟩:=h
 refine ⟨a1,a2,a3,a4,a5,a6,a7,fun it hi hk=>?_,a9,ho⟩
 exact ⟨fun e=>(a8 it hi hk).1 ((hc it hi hk).2 e),fun e=>(a8 it hi hk).2 fun e'=>e ((hc it hi hk).1 e')⟩
theorem nodup_uniq {α:Type} {f:α→S}:∀ {l:List α},(l.map f).Nodup→∀ {a b:α},a∈l→b∈l→f a=f b→a=b
 | [],_,_,_,ha,_,_=>by simp at ha
 | x :: l,h,a,b,ha,hb,e=>by
  rw [List.map_cons,List.nodup_cons] at h
  rcases List.mem_cons.1 ha with ha | ha
  ·rcases List.mem_cons.1 hb with hb | hb
   ·rw [ha,hb]
   ·exact absurd (by rw [← ha,e];exact List.mem_map.2 ⟨b,hb,rfl⟩) h.1
  ·rcases List.mem_cons.1 hb with hb | hb
   ·exact absurd (by rw [← hb,← e];exact List.mem_map.2 ⟨a,ha,rfl⟩) h.1
   ·exact nodup_uniq h.2 ha hb e
theorem St.uniq {c:Cx} {st:S} {o:List S} {m:Mk} (h:St c st o m) {a b:It} (ha:a∈m.items) (hb:b∈m.items) (e:a.id=b.id):a=b:=by
 have:=h.nd
 unfold Mk.ids at this
 exact nodup_uniq this ha hb e
theorem St.new {c:Cx} {st:S} {o:List S} {m:Mk} (h:St c st o m) {l:S} {k:Nat} (hl:l.data.toList.length=1) (hk:m.n < k) (h5:k≤675):c.name l k∉m.ids:=by
 intro hm
 obtain ⟨it,hi,e⟩:=List.mem_map.1 hm
 exact (h.num it hi).ne hl hk h5 e
theorem nodup_snoc {l:List S} {x:S} (h:l.Nodup) (hx:x∉l):(l++[x]).Nodup:=by
 rw [List.nodup_append]
 refine ⟨h,by simp,fun a ha b hb e=>?_⟩
 simp at hb
 exact hx (by rw [← hb,← e];exact ha)
theorem St.item {c:Cx} {st:S} {o:List S} {m:Mk} (h:St c st o m) (it:It) (hn:it.id∉m.ids) (ho:Old c m.n it.id) (hk:it.kind≠1) (ht:it.kind=3→TaskOk c m.flows it):St c st (it.id :: o) (m.item it):=by
 obtain ⟨a1,a2,a3,a4,a5,a6,a7,a8,a9,a10⟩:=h
 have hids:(m.item it).ids=m.ids++[it.id]:=by unfold Mk.ids Mk.item;simp
 refine ⟨?_,?_,?_,a4,a5,?_,?_,?_,?_,?_⟩
 ·obtain ⟨rest,e,hr⟩:=a1
  refine ⟨rest++[it],by unfold Mk.item;simp [e],fun x hx=>?_⟩
  rcases List.mem_append.1 hx with hx | hx
  ·exact hr x hx
  ·simp at hx;rw [hx];exact hk
 ·intro x hx
  rcases List.mem_append.1 hx with hx | hx
  ·exact a2 x hx
  ·simp at hx;rw [hx];exact ho
 ·rw [hids]
  exact nodup_snoc a3 hn
 ·intro q hq
  rw [hids]
  exact List.mem_append.2 (.inl (a6 q hq))
 ·intro q hq
  obtain ⟨x,hx,h1,h2⟩:=a7 q hq
  exact ⟨x,List.mem_append.2 (.inl hx),h1,h2⟩
 ·intro x hx hxk
  rcases List.mem_append.1 hx with hx | hx
  ·have hne:x.id≠it.id:=fun e=>hn (by rw [← e];exact List.mem_map.2 ⟨x,hx,rfl⟩)
   have:=a8 x hx hxk
   show (_→cnt m.seqs x.id=_)∧(_→cnt m.seqs x.id=_)
   exact ⟨fun e=>this.1 (by simpa [hne] using e),fun e=>this.2 (by simpa [hne] using e)⟩
  ·simp at hx
   subst hx
   show (_→cnt m.seqs x.id=_)∧(_→cnt m.seqs x.id=_)
   exact ⟨fun _=>cnt_zero fun q hq e=>hn (by rw [← e];exact a6 q hq),fun e=>absurd (List.mem_cons_self) e⟩
 ·intro x hx hxk
  rcases List.mem_append.1 hx with hx | hx
  ·exact a9 x hx hxk
  ·simp at hx;rw [hx] at hxk ⊢;exact ht hxk
 ·intro x hx
  rw [hids]
  rcases List.mem_cons.1 hx with hx | hx
  ·rw [hx];exact List.mem_append.2 (.inr (List.mem_singleton.2 rfl))
  ·exact List.mem_append.2 (.inl (a10 x hx))
theorem St.flow {c:Cx} {st:S} {o:List S} {m:Mk} (h:St c st o m) (x:Fl) (hn:x.1∉m.flows.map (·.1)) (ho:Old c m.n x.1):St c st o (m.flow x):=by
 obtain ⟨a1,a2,a3,a4,a5,a6,a7,a8,a9,a10⟩:=h
 refine ⟨a1,a2,a3,?_,?_,a6,a7,a8,fun it hi hk=>(a9 it hi hk).up fun y hy=>List.mem_append.2 (.inl hy),a10⟩
 ·intro y hy
  rcases List.mem_append.1 hy with hy | hy
  ·exact a4 y hy
  ·simp at hy;rw [hy];exact ho
 ·unfold Mk.flow
  simp only [List.map_append,List.map_cons,List.map_nil]
  exact nodup_snoc a5 hn
def Free (m:Mk) (o:List S) (f:S):Prop:=f∈m.ids∧∀ it∈m.items,it.id=f→it.kind=3∨it.kind=1→f∈o
def Gt (m:Mk) (a:S):Prop:=∃ k,k≠3∧k≠1∧gate k a∈m.items
theorem Gt.free {c:Cx} {st a:S} {o o':List S} {m:Mk} (h:Gt m a) (s:St c st o m):Free m o' a:=by
 obtain ⟨k,h1,h2,h3⟩:=h
 refine ⟨List.mem_map.2 ⟨_,h3,rfl⟩,fun it hi e hk=>?_⟩
 have:=s.uniq hi h3 e
 subst this
 rcases hk with hk | hk
 ·exact absurd hk h1
 ·exact absurd hk h2
theorem Gt.up {m m':Mk} {a:S} (h:Gt m a) (hs:∀ it∈m.items,it∈m'.items):Gt m' a:=by
 obtain ⟨k,h1,h2,h3⟩:=h
 exact ⟨k,h1,h2,hs _ h3⟩
structure Done (c:Cx) (st f:S) (o:List S) (m:Mk) (t:S) (m':Mk):Prop where
 st:St c st (t :: o.filter fun x=>decide (x≠f)) m'
 more:∀ it∈m.items,it∈m'.items
 is:∃ it∈m'.items,it.id=t∧it.kind≠1
 new:t∉m.ids
theorem l1 (b:UInt8):(⟨#[b]⟩:S).data.toList.length=1:=rfl
theorem Free.item {m:Mk} {o:List S} {f:S} (h:Free m o f) (it:It) (hn:it.id∉m.ids):Free (m.item it) (it.id :: o) f:=by
 refine ⟨?_,fun z hz e hk=>?_⟩
 ·unfold Mk.ids Mk.item
  simp only [List.map_append]
  exact List.mem_append.2 (.inl h.1)
 ·rcases List.mem_append.1 hz with hz | hz
  ·exact List.mem_cons_of_mem _ (h.2 z hz e hk)
  ·simp at hz
   rw [hz] at e
   exact absurd (by rw [e];exact h.1) hn
theorem Done.free {c:Cx} {st f t:S} {o:List S} {m m':Mk} (h:Done c st f o m t m'):Free m' (t :: o.filter fun x=>decide (x≠f)) t :=
 ⟨by obtain ⟨it,hi,e,_⟩:=h.is;exact List.mem_map.2 ⟨it,hi,e⟩,fun _ _ _ _=>List.mem_cons_self⟩
theorem Done.mem {c:Cx} {st f t:S} {o:List S} {m m':Mk} (h:Done c st f o m t m'):t∈m'.ids:=h.free.1
theorem Gt.ne {c:Cx} {st a:S} {o:List S} {m:Mk} (h:Gt m a) (s:St c st o m) {z:It} (hz:z∈m.items) (hk:z.kind=3∨z.kind=1):z.id≠a:=by
 obtain ⟨k,h1,h2,h3⟩:=h
 intro e
 have:=s.uniq hz h3 e
 subst this
 rcases hk with hk | hk
 ·exact h1 hk
 ·exact h2 hk
end Ch
end Go.Proofs.YtcnmaplopbbmaaaGreat
namespace Go.Proofs.YtcnmaplopbbmaaaGreat
open Go.RowKit
namespace Fl
structure NdOk (np nm:Nat) (nd:Gr.Nd):Prop where
 f0:0≤nd.fr
 f1:nd.fr < np
 t0:0≤nd.to
 t1:nd.to < np
 ne:nd.fr≠nd.to
 m0:0≤nd.msg
 m1:nd.msg < nm
 r0:-1≤nd.rep
 r1:nd.rep < nm
theorem NdOk.up {np nm nm':Nat} {nd:Gr.Nd} (h:NdOk np nm nd) (hn:nm≤nm'):NdOk np nm' nd:=by
 obtain ⟨a1,a2,a3,a4,a5,a6,a7,a8,a9⟩:=h
 exact ⟨a1,a2,a3,a4,a5,a6,by omega,a8,by omega⟩
end Fl
namespace Gr
end Gr
namespace Fl
def pickG (p:List Int):Gr.G:=(graphT (Ch.ctx p ⟨#[]⟩).parts (Ch.chorT p ⟨#[]⟩).flows (Ch.chorT p ⟨#[]⟩).items (Ch.chorT p ⟨#[]⟩).seqs).1
theorem pickG_few (p:List Int):(pickG p).np≤4∧(pickG p).nm≤48∧(pickG p).ns.length≤24∧(pickG p).es.length≤37:=by
 have h:=graphT_len (Ch.ctx p ⟨#[]⟩).parts (Ch.chorT p ⟨#[]⟩).flows (Ch.chorT p ⟨#[]⟩).items (Ch.chorT p ⟨#[]⟩).seqs
 have k:=Ch.chor_up p ⟨#[]⟩
 have hm:=(Ch.many_le p).2
 have hl:(Ch.ctx p ⟨#[]⟩).parts.length=Ch.many p:=by unfold Ch.ctx;simp only [Ch.pnms_len]
 rw [hl] at h
 unfold pickG
 omega
end Fl
end Go.Proofs.YtcnmaplopbbmaaaGreat
namespace Go.Proofs.YtcnmaplopbbmaaaGreat
open Go.RowKit
theorem m4_set {w:World} {X:Nat} {T:TypeId} {b0 b1 b2 b3:Value} (c0 c1 c2 c3:Value) (h:w.heap[X]? = some (.cells #[b0,b1,b2,b3] T (0,0))):((((w.setCell ⟨X,0,none⟩ c0).setCell ⟨X,1,none⟩ c1).setCell ⟨X,2,none⟩ c2).setCell ⟨X,3,none⟩ c3).heap[X]? = some (.cells #[c0,c1,c2,c3] T (0,0)):=by
 have h0:=set_cells h 0 c0
 simp only [List.setIfInBounds_toArray,List.set_cons_zero] at h0
 have h1:=set_cells h0 1 c1
 simp only [List.setIfInBounds_toArray,List.set_cons_zero,List.set_cons_succ] at h1
 have h2:=set_cells h1 2 c2
 simp only [List.setIfInBounds_toArray,List.set_cons_zero,List.set_cons_succ] at h2
 have h3:=set_cells h2 3 c3
 simp only [List.setIfInBounds_toArray,List.set_cons_zero,List.set_cons_succ] at h3
 exact h3
theorem m4_by (w:World) (X:Nat) (c0 c1 c2 c3:Value):w.grownBy ((((w.setCell ⟨X,0,none⟩ c0).setCell ⟨X,1,none⟩ c1).setCell ⟨X,2,none⟩ c2).setCell ⟨X,3,none⟩ c3) (some X) :=
 by_trans (by_trans (by_trans (by_set _ _ _ _) (by_set _ _ _ _)) (by_set _ _ _ _)) (by_set _ _ _ _)
theorem m4_cells {w:World} {X:Nat} {T:TypeId} {b0 b1 b2 b3:Value} (h:w.heap[X]? = some (.cells #[b0,b1,b2,b3] T (0,0))):w.cell? ⟨X,0,none⟩=some b0∧w.cell? ⟨X,1,none⟩=some b1∧w.cell? ⟨X,2,none⟩=some b2∧w.cell? ⟨X,3,none⟩=some b3∧∀ k,w.frozen? ⟨X,k,none⟩=false :=
 ⟨(cell_of_row w X 0 _ _ _ h).trans rfl,(cell_of_row w X 1 _ _ _ h).trans rfl,(cell_of_row w X 2 _ _ _ h).trans rfl,(cell_of_row w X 3 _ _ _ h).trans rfl,fun k=>frozen_of_row w X k _ _ h⟩
theorem flGraph_res (tmps:Array Value) (w:World) (X:Nat) (c0 c1 c2 c3 e:Value) (h2:tmps.getD 2 undef=.pointer (some ⟨X,0,none⟩)) (h3:tmps.getD 3 undef=e) (hx:w.heap[X]? = some (.cells #[c0,c1,c2,c3] 27 (0,0))) :
  (results Tryz.f9 tmps).run Tryz.prog w=.ok (.tuple #[.agg #[c0,c1,c2,c3],e]) w:=by
 obtain ⟨x0,x1,x2,x3,_⟩:=m4_cells hx
 simp only [Array.getD_eq_getD_getElem?] at h2 h3
 simp [results,Tryz.results9,h2,h3,x0,x1,x2,x3,go_sem]
theorem Gr.Recs.nil {α:Type} (k:Nat) (f:α→List Value) (w:World):Gr.Recs k f w (.slice none 0 0) []:=⟨none,0,rfl,by simp,fun _=>⟨rfl,rfl⟩,fun j hj=>by simp at hj⟩
theorem Fl.pcells_len (x:Ch.S):(Ch.pcells x).length=2:=rfl
structure Fl.GO (w:World) (v0 v1 v2 v3:Value) (g:Gr.G):Prop where
 parts:∃ a c,v0=.slice a g.np c
 msgs:∃ a c,v1=.slice a g.nm c
 nodes:w.ownsRow 0 52 7 v2 g.ns.length (g.ns.flatMap Gr.Nd.cells)
 edges:w.ownsRow 0 56 2 v3 g.es.length (g.es.flatMap Gr.ecells)
theorem Fl.GO.gat {w:World} {v0 v1 v2 v3:Value} {g:Gr.G} (h:Fl.GO w v0 v1 v2 v3 g):Gr.GAt w v0 v1 v2 v3 g:=⟨h.parts,h.msgs,Seg.of_own h.nodes,Seg.of_own h.edges⟩
theorem Fl.GO.keep {w w':World} {v0 v1 v2 v3:Value} {g:Gr.G} {T0:TypeId} {r:Option Nat} (h:Fl.GO w v0 v1 v2 v3 g) (k:TY w (some T0) r) (b:w.grownBy w' r) (h1:some T0≠some 52) (h2:some T0≠some 56):Fl.GO w' v0 v1 v2 v3 g :=
 ⟨h.parts,h.msgs,k.keep_own b h.nodes h1,k.keep_own b h.edges h2⟩
theorem own_nil (w:World) (bs e sz:Nat):w.ownsRow bs e sz (.slice none 0 0) 0 []:=World.ownsRow_nil _ _ _ _
set_option maxRecDepth 100000 in
set_option maxHeartbeats 8000000 in
theorem flGraph_any (W:World) (nm:ByteArray) (vp va vf vi vs:Value) (c:Ch.Cx) (m:Ch.Mk) (hk:Ch.Kd m.items) (hp:c.parts.length≤1000) (hf:m.flows.length≤1000) (hn:m.items.length≤1000) (hq:m.seqs.length≤1000) (h:Ch.MkAt W c m vp va vf vi vs) :
  Calls Tryz.prog 9 #[.agg #[.string nm,va,vf,vi,vs]] W fun e w'=>∃ v0 v1 v2 v3 er,e=.returned (.tuple #[.agg #[v0,v1,v2,v3],.int .i64 er])∧Fl.GO w' v0 v1 v2 v3 (Fl.graphT c.parts m.flows m.items m.seqs).1∧Flow.Grow W w':=by
 have H:=Lib.hid h
 obtain ⟨p0,p1,a0,a1,f0,f1,i0,i1,s0,s1,rfl,rfl,rfl,rfl,rfl⟩:=h.forms
 obtain ⟨pl,hpl⟩:∃ l,l=c.parts:=⟨_,rfl⟩
 obtain ⟨pn,hpn⟩:∃ n,n=c.parts.length:=⟨_,rfl⟩
 have Hpl:=Lib.hid hpl
 have Hpn:Hid (pn=pl.length):=Lib.hid (by rw [hpl];exact hpn)
 have HLv:=Lib.hid fun (W1 w:World) (B:Nat) (gp:Value) (g:Flow.Grow W W1) (hm:Fl.FM W1 w B nm (.slice a0 c.parts.length a1) (.slice f0 m.flows.length f1) (.slice i0 m.items.length i1) (.slice s0 m.seqs.length s1) gp (.slice none 0 0) (.slice none 0 0) (.slice none 0 0) c.parts [] [] [] 0) =>
  flLevel_any W1 B nm _ _ gp _ _ _ _ _ c.parts m.flows m.items m.seqs w (flTask_any W1 B nm _ _ _ _ gp _ c.parts [] m.flows (by omega) (by omega) (Seg.of_own (own_keep h.flows g)) ⟨⟨_,_,_,rfl⟩,⟨_,_,_,rfl⟩,⟨_,_,_,rfl⟩⟩) hk hn hq hm (h.items.grow g) (Seg.of_own (own_keep h.seqs g))
 have HPs:Hid (∀ w,Flow.Grow W w→Gr.Recs 2 Ch.pcells w (.slice a0 pl.length a1) pl):=Lib.hid fun w g=>by
  have k:=Seg.of_own (own_keep h.parts g)
  rw [← hpl] at k
  exact k
 rw [← hpn,← hpl] at HLv
 rw [← hpl]
 rw [← Hpn.out]
 obtain ⟨G,hG⟩:∃ G,G=(Fl.graphT pl m.flows m.items m.seqs).1:=⟨_,rfl⟩
 have HGt:=Lib.hid hG
 rw [← hG]
 clear hG
 rw [← hpn] at hp
 rw [← Hpn.out] at HPs
 clear h hpl hpn hk
 generalize m.items.length=n at *
 generalize m.flows.length=fn at *
 generalize m.seqs.length=qn at *
 obtain ⟨i9,hi,hz,hs,hb⟩:=info_parts08 info_str12
 have HIn:=Lib.hid (And.intro hi (And.intro hz (And.intro hs hb)))
 clear hi hz hs hb
 go_enter Tryz.func9,Tryz.ntmps9
 go_upto_region 1 with fail
 have HBw10:Hid (((W.alloc (.cells #[.string nm,.slice a0 pn a1,.slice f0 fn f1,.slice i0 n i1,.slice s0 qn s1] 48)).alloc (.cells #[.slice none 0 0,.slice none 0 0,.slice none 0 0,.slice none 0 0] 27)).heap[W.heap.size]? = some (.cells #[.string nm,.slice a0 pn a1,.slice f0 fn f1,.slice i0 n i1,.slice s0 qn s1] 48 (0,0))):=Lib.hid (lay2_0 _ _ _)
 have HBw11:Hid (((W.alloc (.cells #[.string nm,.slice a0 pn a1,.slice f0 fn f1,.slice i0 n i1,.slice s0 qn s1] 48)).alloc (.cells #[.slice none 0 0,.slice none 0 0,.slice none 0 0,.slice none 0 0] 27)).heap[W.heap.size+1]? = some (.cells #[.slice none 0 0,.slice none 0 0,.slice none 0 0,.slice none 0 0] 27 (0,0))):=Lib.hid (lay2_1 _ _ _)
 have HGw1:Hid (Flow.Grow W ((W.alloc (.cells #[.string nm,.slice a0 pn a1,.slice f0 fn f1,.slice i0 n i1,.slice s0 qn s1] 48)).alloc (.cells #[.slice none 0 0,.slice none 0 0,.slice none 0 0,.slice none 0 0] 27))):=Lib.hid (lay2_g _ _ _)
 have HSw1:Hid (((W.alloc (.cells #[.string nm,.slice a0 pn a1,.slice f0 fn f1,.slice i0 n i1,.slice s0 qn s1] 48)).alloc (.cells #[.slice none 0 0,.slice none 0 0,.slice none 0 0,.slice none 0 0] 27)).heap.size=W.heap.size+1+1):=Lib.hid (by simp)
 generalize (W.alloc (.cells #[.string nm,.slice a0 pn a1,.slice f0 fn f1,.slice i0 n i1,.slice s0 qn s1] 48)).alloc (.cells #[.slice none 0 0,.slice none 0 0,.slice none 0 0,.slice none 0 0] 27)=w1 at *
 obtain ⟨X,hX⟩:∃ X,X=W.heap.size:=⟨_,rfl⟩
 rw [← hX] at HBw10 HBw11 HSw1 ⊢
 have HXw1:=Lib.hid hX
 clear hX
 have CXw1:Hid (∀ wq,Flow.Grow w1 wq→wq.cell? ⟨X,0,none⟩=some (.string nm)∧wq.cell? ⟨X,1,none⟩=some (.slice a0 pn a1)∧wq.cell? ⟨X,2,none⟩=some (.slice f0 fn f1)∧wq.cell? ⟨X,3,none⟩=some (.slice i0 n i1)∧wq.cell? ⟨X,4,none⟩=some (.slice s0 qn s1)∧wq.cell? ⟨X+1,0,none⟩=some (.slice none 0 0)∧wq.cell? ⟨X+1,1,none⟩=some (.slice none 0 0)∧wq.cell? ⟨X+1,2,none⟩=some (.slice none 0 0)∧wq.cell? ⟨X+1,3,none⟩=some (.slice none 0 0)):=Lib.hid (fun wq g=>⟨lay_cell g HBw10.out rfl,lay_cell g HBw10.out rfl,lay_cell g HBw10.out rfl,lay_cell g HBw10.out rfl,lay_cell g HBw10.out rfl,lay_cell g HBw11.out rfl,lay_cell g HBw11.out rfl,lay_cell g HBw11.out rfl,lay_cell g HBw11.out rfl⟩)
 have FXw1:Hid (∀ wq,Flow.Grow w1 wq→(∀ k,wq.frozen? ⟨X,k,none⟩=false)∧(∀ k,wq.frozen? ⟨X+1,k,none⟩=false)):=Lib.hid (fun wq g=>⟨fun k=>lay_frozen g HBw10.out k,fun k=>lay_frozen g HBw11.out k⟩)
 obtain ⟨c00,c01,c02,c03,c04,c10,c11,c12,c13⟩:=CXw1.out w1 (Flow.grow_refl _)
 go_upto_region 2 with fail
 have HBw20:Hid ((w1.alloc (.cells #[.string nm,.slice a0 pn a1,.slice f0 fn f1,.slice i0 n i1,.slice s0 qn s1,.slice none 0 0,.slice none 0 0,.slice none 0 0,.slice none 0 0,.int .i64 0] 79)).heap[w1.heap.size]? = some (.cells #[.string nm,.slice a0 pn a1,.slice f0 fn f1,.slice i0 n i1,.slice s0 qn s1,.slice none 0 0,.slice none 0 0,.slice none 0 0,.slice none 0 0,.int .i64 0] 79 (0,0))):=Lib.hid (lay1_0 _ _)
 have HGw2:Hid (Flow.Grow w1 (w1.alloc (.cells #[.string nm,.slice a0 pn a1,.slice f0 fn f1,.slice i0 n i1,.slice s0 qn s1,.slice none 0 0,.slice none 0 0,.slice none 0 0,.slice none 0 0,.int .i64 0] 79))):=Lib.hid (lay1_g _ _)
 have HSw2:Hid ((w1.alloc (.cells #[.string nm,.slice a0 pn a1,.slice f0 fn f1,.slice i0 n i1,.slice s0 qn s1,.slice none 0 0,.slice none 0 0,.slice none 0 0,.slice none 0 0,.int .i64 0] 79)).heap.size=w1.heap.size+1):=Lib.hid (by simp)
 generalize w1.alloc (.cells #[.string nm,.slice a0 pn a1,.slice f0 fn f1,.slice i0 n i1,.slice s0 qn s1,.slice none 0 0,.slice none 0 0,.slice none 0 0,.slice none 0 0,.int .i64 0] 79)=w2 at *
 obtain ⟨B,hB⟩:∃ X,X=w1.heap.size:=⟨_,rfl⟩
 rw [← hB] at HBw20 HSw2 ⊢
 have HXw2:=Lib.hid hB
 clear hB
 have CXw2:Hid (∀ wq,Flow.Grow w2 wq→wq.cell? ⟨B,0,none⟩=some (.string nm)∧wq.cell? ⟨B,1,none⟩=some (.slice a0 pn a1)∧wq.cell? ⟨B,2,none⟩=some (.slice f0 fn f1)∧wq.cell? ⟨B,3,none⟩=some (.slice i0 n i1)∧wq.cell? ⟨B,4,none⟩=some (.slice s0 qn s1)∧wq.cell? ⟨B,5,none⟩=some (.slice none 0 0)∧wq.cell? ⟨B,6,none⟩=some (.slice none 0 0)∧wq.cell? ⟨B,7,none⟩=some (.slice none 0 0)∧wq.cell? ⟨B,8,none⟩=some (.slice none 0 0)∧wq.cell? ⟨B,9,none⟩=some (.int .i64 0)):=Lib.hid (fun wq g=>⟨lay_cell g HBw20.out rfl,lay_cell g HBw20.out rfl,lay_cell g HBw20.out rfl,lay_cell g HBw20.out rfl,lay_cell g HBw20.out rfl,lay_cell g HBw20.out rfl,lay_cell g HBw20.out rfl,lay_cell g HBw20.out rfl,lay_cell g HBw20.out rfl,lay_cell g HBw20.out rfl⟩)
 have FXw2:Hid (∀ wq,Flow.Grow w2 wq→(∀ k,wq.frozen? ⟨B,k,none⟩=false)):=Lib.hid (fun wq g=>fun k=>lay_frozen g HBw20.out k)
 have hXW:Hid (W.heap.size≤X):=Lib.hid (by rw [HXw1.out];exact Nat.le_refl _)
 have HG1:=Lib.hid HGw1.out
 have HX1:=Lib.hid HBw10.out
 have HY1:=Lib.hid HBw11.out
 have HF2:Hid (Fl.FM w1 w2 B nm (.slice a0 pn a1) (.slice f0 fn f1) (.slice i0 n i1) (.slice s0 qn s1) (.slice none 0 0) (.slice none 0 0) (.slice none 0 0) (.slice none 0 0) [] [] [] [] 0):=Lib.hid ⟨HBw20.out,by rw [HXw2.out];exact Nat.le_refl _,HGw2.out,own_nil _ _ _ _,own_nil _ _ _ _,.inl rfl,own_nil _ _ _ _,own_nil _ _ _ _⟩
 have x1:=Xm2.cell_grow HGw2.out c01
 clear HGw2 HSw2 HBw20 HXw2 CXw2 FXw2 c00 c01 c02 c03 c04 c10 c11 c12 c13
 go_upto_region 3 with fail
 clear x1
 go_loopw [6,13] (fun v6 vk wr=>∃ (k:Nat) (gp:Value),k≤pn∧vk=.int .i64 (k:Int)∧Hid (Fl.FM w1 wr B nm (.slice a0 pn a1) (.slice f0 fn f1) (.slice i0 n i1) (.slice s0 qn s1) gp (.slice none 0 0) (.slice none 0 0) (.slice none 0 0) (pl.take k) [] [] [] 0)) (fun v6 vk _=>pn - (intOf vk).toNat)
 case atStart=>exact ⟨0,_,by omega,rfl,HF2⟩
 case round =>
  obtain ⟨k,gp,hk,rfl,HF⟩:=hrel
  rename World=>wr
  clear HF2
  by_cases hkn:k < pn
  ·have d1:decide ((k:Int) < (pn:Int))=true:=by simp;omega
   obtain ⟨s,hsk⟩:∃ s,pl[k]? = some s:=⟨_,List.getElem?_eq_getElem (by rw [← Hpn.out];exact hkn)⟩
   have Hs:=Lib.hid hsk
   obtain ⟨b,off,hb,c0⟩:=Gr.Recs.at Fl.pcells_len (by decide) (HPs.out wr (HG1.out.trans HF.out.grow)) hsk
   subst hb
   have q0:=c0 0 _ rfl
   have q1:=c0 1 _ rfl
   simp only [Nat.add_zero] at q0
   simp only [← Nat.add_assoc] at q1
   simp only [Ch.nE] at q1
   clear c0 hsk
   go_upto_region 5 with fail
   have HBw30:Hid ((wr.alloc (.cells #[.string s,.string ⟨#[]⟩] 81)).heap[wr.heap.size]? = some (.cells #[.string s,.string ⟨#[]⟩] 81 (0,0))):=Lib.hid (lay1_0 _ _)
   have HGw3:Hid (Flow.Grow wr (wr.alloc (.cells #[.string s,.string ⟨#[]⟩] 81))):=Lib.hid (lay1_g _ _)
   have HSw3:Hid ((wr.alloc (.cells #[.string s,.string ⟨#[]⟩] 81)).heap.size=wr.heap.size+1):=Lib.hid (by simp)
   generalize wr.alloc (.cells #[.string s,.string ⟨#[]⟩] 81)=w3 at *
   obtain ⟨Y,hY⟩:∃ X,X=wr.heap.size:=⟨_,rfl⟩
   rw [← hY] at HBw30 HSw3 ⊢
   have HXw3:=Lib.hid hY
   clear hY
   have CXw3:Hid (∀ wq,Flow.Grow w3 wq→wq.cell? ⟨Y,0,none⟩=some (.string s)∧wq.cell? ⟨Y,1,none⟩=some (.string ⟨#[]⟩)):=Lib.hid (fun wq g=>⟨lay_cell g HBw30.out rfl,lay_cell g HBw30.out rfl⟩)
   have FXw3:Hid (∀ wq,Flow.Grow w3 wq→(∀ k,wq.frozen? ⟨Y,k,none⟩=false)):=Lib.hid (fun wq g=>fun k=>lay_frozen g HBw30.out k)
   clear q0 q1
   have HF3:=Lib.hid (HF.out.keep HGw3.out)
   obtain ⟨c00,c01⟩:=CXw3.out w3 (Flow.grow_refl _)
   obtain ⟨g0,g1,hgp⟩:=own_form HF3.out.parts
   have hkl:(pl.take k).length=k:=by rw [List.length_take,← Hpn.out];omega
   rw [hkl] at hgp
   have Hkl:=Lib.hid hkl
   subst hgp
   obtain ⟨x0,x1,x2,x3,x4,x5,x6,x7,x8,x9,xf⟩:=m10_cells HF3.out.box
   have Hgr:Hid (∀ wz:World,Flow.Grow w3 wz→wz.ownsRow w1.heap.size 9 1 (.slice g0 k g1) k ((pl.take k).map Value.string)):=Lib.hid fun wz g=>by
    have k':=(HF3.out.keep g).parts
    rw [Hkl.out] at k'
    exact k'
   have Hend:Hid (∀ wz wy:World,Flow.Grow w3 wz→∀ v',wy.ownsRow w1.heap.size 9 1 v' (k+1) ((pl.take k).map Value.string++[.string s])→wz.grownBy wy (Value.slice g0 k g1).ownBlock→Fl.FM w1 (wy.setCell ⟨B,5,none⟩ v') B nm (.slice (some ⟨b,off,none⟩) pn a1) (.slice f0 fn f1) (.slice i0 n i1) (.slice s0 qn s1) v' (.slice none 0 0) (.slice none 0 0) (.slice none 0 0) (pl.take k++[s]) [] [] [] 0∧wy.heap[B]? = some (.cells #[.string nm,.slice (some ⟨b,off,none⟩) pn a1,.slice f0 fn f1,.slice i0 n i1,.slice s0 qn s1,.slice g0 k g1,.slice none 0 0,.slice none 0 0,.slice none 0 0,.int .i64 0] 79 (0,0))):=Lib.hid fun wz wy g v' o k' =>
    ⟨(HF3.out.keep g).part rfl s (by rw [Hkl.out];exact o) k',(TY.own (Hgr.out wz g)).keep_blk k' (heap_keep g HF3.out.box) (by decide)⟩
   have Hsz:Hid (∀ wz:World,Flow.Grow w3 wz→w1.heap.size≤wz.heap.size):=Lib.hid fun wz g=>(HF3.out.grow.trans g).size
   have x5a:∀ x,(w3.alloc x).cell? ⟨B,5,none⟩=some (.slice g0 k g1):=fun x=>Xm2.cell_grow (Flow.grow_alloc _ _) x5
   clear x0 x1 x2 x3 x4 x6 x7 x8 x9 hkl
   go_upto_region 5 with fail
   go_region_law (
    go_loud (refine step_append_lies _ rfl _ _ 23 rfl w1.heap.size 9 i9 (.string ⟨#[]⟩) 1 16 Tryz.underlying23 HIn.out.1 HIn.out.2.1 HIn.out.2.2.1 HIn.out.2.2.2 rfl (by decide) (.slice g0 k g1) k ((pl.take k).map Value.string) rfl (Hgr.out _ (by first | exact (Flow.grow_alloc _ _).trans (Flow.grow_drew _) | exact (Flow.grow_drew _).trans (Flow.grow_alloc _ _))) ⟨w3.heap.size,0,none⟩ 1 1 [.string s] rfl rfl (fun j u hj=>by rw [Addr.add_lit,Nat.zero_add];exact cells_of (heap_alloc_new _ _) j u hj) (by intro u hu;simp at hu;rw [hu];rfl) (by decide) (by unfold maxLen;omega) (by omega) (Hsz.out _ (by first | exact (Flow.grow_alloc _ _).trans (Flow.grow_drew _) | exact (Flow.grow_drew _).trans (Flow.grow_alloc _ _))) _ rfl ?_);
    intro g4 c4' w4 hown4 hgrow4 hat4 hlt4;
    have He:=Lib.hid (Hend.out _ w4 (by first | exact (Flow.grow_alloc _ _).trans (Flow.grow_drew _) | exact (Flow.grow_drew _).trans (Flow.grow_alloc _ _)) _ hown4 hgrow4);
    obtain ⟨z0,z1,z2,z3,z4,z5,z6,z7,z8,z9,zf⟩:=m10_cells He.out.2;
    have HF5:=Lib.hid He.out.1;
    clear hown4 hgrow4 hat4 hlt4 He z0 z1 z2 z3 z4 z6 z7 z8 z9)
   all_goals
    clear x5 x5a xf z5 zf c00 c01
    generalize w4.setCell ⟨B,5,none⟩ (.slice (some ⟨g4,0,none⟩) (k+1) c4')=w5 at *
    go_wp2_with fail
    go_roundw
    case rel=>exact ⟨k+1,_,by omega,by go_num,Lib.hid (by have:=HF5.out;rw [List.take_add_one,Hs.out];exact this)⟩
    case measure=>simp [intOf];omega
  ·obtain rfl:k=pn:=by omega
   have d1:decide ((k:Int) < (k:Int))=false:=by simp
   rw [Hpn.out,List.take_length,← Hpn.out] at HF
   have HLc:=Lib.hid (HLv.out w1 wr B gp HG1.out HF.out)
   have y3:=Xm2.cell_grow HF.out.grow ((cell_of_row w1 X 3 _ _ _ HX1.out).trans rfl)
   have y4:=Xm2.cell_grow HF.out.grow ((cell_of_row w1 X 4 _ _ _ HX1.out).trans rfl)
   simp at y3 y4
   obtain ⟨A,hA⟩:∃ A,A=Fl.itemsT m.flows pl m.items ([],[],0):=⟨_,rfl⟩
   obtain ⟨E,hE⟩:∃ E,E=Fl.edgesT (m.items.map (·.id)) m.seqs ([],A.2.2):=⟨_,rfl⟩
   have HT:Hid (Fl.graphT pl m.flows m.items m.seqs=if E.2=0 then (⟨A.1,E.1,pl.length,A.2.1.length⟩,0) else (⟨[],[],0,0⟩,E.2)):=Lib.hid (by rw [hE,hA];rfl)
   rw [← hA] at HLc
   rw [← hE] at HLc
   rw [HT.out] at HGt
   clear hA hE HT HLv
   obtain ⟨ns,ml,er0⟩:=A
   obtain ⟨es,er⟩:=E
   simp only at HLc HGt
   go_upto_region 8 with (go_at_call 21;refine HLc.out.mono ?_;rintro e w6 ⟨v,gm6,gn6,ge6,rfl,hf⟩;have HF6:=Lib.hid hf;clear hf)
   clear y3 y4 HLc HF
   obtain ⟨x0,x1,x2,x3,x4,x5,x6,x7,x8,x9,xf⟩:=m10_cells HF6.out.box
   have HY6:=Lib.hid (heap_keep HF6.out.grow HY1.out)
   obtain ⟨y0,y1,y2,y3,yf⟩:=m4_cells HY6.out
   have HG6:=Lib.hid (HG1.out.trans HF6.out.grow)
   obtain ⟨u0,u1,e0⟩:=own_form HF6.out.parts
   obtain ⟨u2,u3,e1⟩:=own_form HF6.out.msgs
   obtain ⟨u4,u5,e2⟩:=own_form HF6.out.nodes
   obtain ⟨u6,u7,e3⟩:=own_form HF6.out.edges
   subst e0 e1 e2 e3
   have hYW:Hid (W.heap.size≤X+1):=Lib.hid (by have:=hXW.out;omega)
   clear HX1 HXw1 HSw1 HBw10 HBw11 CXw1 FXw1 HGw1
   generalize X+1=Y at *
   by_cases he:er=0
   ·have d2:(er != 0)=false:=by simp [he]
    have HGe:Hid (G=⟨ns,es,pl.length,ml.length⟩):=Lib.hid (by rw [HGt.out,if_pos he])
    clear he HGt
    go_wp2_with fail
    have hx:=m4_set (.slice u0 pl.length u1) (.slice u2 ml.length u3) (.slice u4 ns.length u5) (.slice u6 es.length u7) HY6.out
    have kb:=m4_by w6 Y (.slice u0 pl.length u1) (.slice u2 ml.length u3) (.slice u4 ns.length u5) (.slice u6 es.length u7)
    have hlo:=hYW.out
    have tb:=TY.blk HY6.out
    exact bodyPost_ret (flGraph_res _ _ Y _ _ _ _ _ rfl rfl hx) rfl ⟨_,_,_,_,0,rfl,by rw [HGe.out];exact ⟨⟨u0,u1,rfl⟩,⟨u2,u3,rfl⟩,own_base (tb.keep_own kb HF6.out.nodes (by decide)) (Nat.zero_le _),own_base (tb.keep_own kb HF6.out.edges (by decide)) (Nat.zero_le _)⟩,grow_row HG6.out kb (fun b e=>by cases e;omega)⟩
   ·have d2:(er != 0)=true:=by simp [he]
    have HGe:Hid (G=⟨[],[],0,0⟩):=Lib.hid (by rw [HGt.out,if_neg he])
    clear he HGt
    have kb:=m4_by w6 Y (.slice none 0 0) (.slice none 0 0) (.slice none 0 0) (.slice none 0 0)
    have HB7:=(TY.blk HY6.out).keep_blk kb HF6.out.box (by decide)
    have z9:=(cell_of_row _ B 9 _ _ _ HB7).trans rfl
    simp at z9
    clear x0 x1 x2 x3 x4 x5 x6 x7 x8
    go_upto_region 9 with fail
    go_region
    go_wp2_with fail
    have hx:=heap_keep (Flow.grow_drew _) (m4_set (.slice none 0 0) (.slice none 0 0) (.slice none 0 0) (.slice none 0 0) HY6.out)
    have hlo:=hYW.out
    have hg:=(grow_row HG6.out kb (fun b e=>by cases e;omega)).trans (Flow.grow_drew _)
    exact bodyPost_ret (flGraph_res _ _ Y _ _ _ _ _ rfl rfl hx) rfl ⟨_,_,_,_,er,rfl,by rw [HGe.out];exact ⟨⟨none,0,rfl⟩,⟨none,0,rfl⟩,own_nil _ _ _ _,own_nil _ _ _ _⟩,hg⟩
end Go.Proofs.YtcnmaplopbbmaaaGreat
