/- Plain: a choreography that is made of picks keeps to the rules: ids are unlike, one way leads out of each task, none into the start. No program. -/
import Derived.Test.YtcnmaplopbbmaaaMBr
namespace Go.Proofs.Ytcnmaplopbbmaaa
open Go.RowKit
namespace Ch
theorem ba_toList {a b:S} (h:a=b):a.data.toList=b.data.toList:=by rw [h]
theorem two_inj {a b:Nat} (ha:a≤675) (hb:b≤675) (h:(two a).data.toList=(two b).data.toList):a=b:=by
 unfold two at h
 simp only [List.cons.injEq,and_true] at h
 obtain ⟨h1,h2⟩:=h
 have e1:=congrArg UInt8.toNat h1
 have e2:=congrArg UInt8.toNat h2
 simp only [UInt8.toNat_ofNat'] at e1 e2
 omega
theorem name_inj (c:Cx) {l l':S} {k k':Nat} (hl:l.data.toList.length=1) (hl':l'.data.toList.length=1) (hk:k≤675) (hk':k'≤675) (h:c.name l k=c.name l' k'):k=k':=by
 have e:=ba_toList h
 unfold Cx.name at e
 simp only [ByteArray.data_append,Array.toList_append] at e
 have e2:=List.append_cancel_left e
 have e3:=(List.append_inj e2 (by omega)).2
 exact two_inj hk hk' e3
def Old (c:Cx) (n:Nat) (x:S):Prop:=∃ l k,l.data.toList.length=1∧k≤n∧x=c.name l k
theorem Old.up {c:Cx} {n m:Nat} {x:S} (h:Old c n x) (hn:n≤m):Old c m x:=by
 obtain ⟨l,k,h1,h2,h3⟩:=h
 exact ⟨l,k,h1,by omega,h3⟩
theorem Old.ne {c:Cx} {n k:Nat} {x l:S} (h:Old c n x) (hl:l.data.toList.length=1) (hk:n < k) (h5:k≤675):x≠c.name l k:=by
 obtain ⟨l',k',h1,h2,rfl⟩:=h
 intro e
 have:=name_inj c h1 hl (by omega) h5 e
 omega
def TaskOk (c:Cx) (fs:List Fl) (it:It):Prop:=∃ a b,a < c.parts.length∧b < c.parts.length∧a≠b∧∃ x∈fs,x.2.1=c.part a∧x.2.2.1=c.part b∧(it.flows=[x.1]∨∃ y∈fs,it.flows=[x.1,y.1])
theorem TaskOk.up {c:Cx} {fs gs:List Fl} {it:It} (h:TaskOk c fs it) (hs:∀ x∈fs,x∈gs):TaskOk c gs it:=by
 obtain ⟨a,b,h1,h2,h3,x,hx,h4,h5,h6⟩:=h
 refine ⟨a,b,h1,h2,h3,x,hs x hx,h4,h5,?_⟩
 rcases h6 with h6 | ⟨y,hy,h6⟩
 ·exact .inl h6
 ·exact .inr ⟨y,hs y hy,h6⟩
def Mk.ids (m:Mk):List S:=m.items.map (·.id)
def cnt (qs:List Sq) (x:S):Nat:=qs.countP fun q=>decide (q.2.1=x)
theorem cnt_app (a b:List Sq) (x:S):cnt (a++b) x=cnt a x+cnt b x:=List.countP_append
theorem cnt_one (s f t x:S):cnt [(s,f,t)] x=if f=x then 1 else 0:=by
 unfold cnt
 rw [List.countP_singleton]
 simp
theorem cnt_zero {qs:List Sq} {x:S} (h:∀ q∈qs,q.2.1≠x):cnt qs x=0:=by
 unfold cnt
 rw [List.countP_eq_zero]
 intro q hq
 simpa using h q hq
structure St (c:Cx) (st:S) (o:List S) (m:Mk):Prop where
 head:∃ rest,m.items=gate 1 st :: rest∧∀ it∈rest,it.kind≠1
 num:∀ it∈m.items,Old c m.n it.id
 nd:m.ids.Nodup
 fnum:∀ x∈m.flows,Old c m.n x.1
 fnd:(m.flows.map (·.1)).Nodup
 src:∀ q∈m.seqs,q.2.1∈m.ids
 dst:∀ q∈m.seqs,∃ it∈m.items,it.id=q.2.2∧it.kind≠1
 out:∀ it∈m.items,it.kind=3∨it.kind=1→(it.id∈o→cnt m.seqs it.id=0)∧(it.id∉o→cnt m.seqs it.id=1)
 tk:∀ it∈m.items,it.kind=3→TaskOk c m.flows it
 os:∀ x∈o,x∈m.ids
theorem St.same {c:Cx} {st:S} {o:List S} {m m':Mk} (h:St c st o m) (hn:m.n≤m'.n) (h1:m'.items=m.items) (h2:m'.seqs=m.seqs) (h3:m'.flows=m.flows):St c st o m':=by
 obtain ⟨a1,a2,a3,a4,a5,a6,a7,a8,a9,a10⟩:=h
 refine ⟨by rw [h1];exact a1,by rw [h1];exact fun it hi=>(a2 it hi).up hn,by unfold Mk.ids;rw [h1];exact a3,by rw [h3];exact fun x hx=>(a4 x hx).up hn,by rw [h3];exact a5,by unfold Mk.ids;rw [h1,h2];exact a6,by rw [h1,h2];exact a7,by rw [h1,h2];exact a8,by rw [h1,h3];exact a9,by unfold Mk.ids;rw [h1];exact a10⟩
theorem St.conv {c:Cx} {st:S} {o o':List S} {m:Mk} (h:St c st o m) (hc:∀ it∈m.items,it.kind=3∨it.kind=1→(it.id∈o↔it.id∈o')) (ho:∀ x∈o',x∈m.ids):St c st o' m:=by
 obtain ⟨a1,a2,a3,a4,a5,a6,a7,a8,a9,a10⟩:=h
 refine ⟨a1,a2,a3,a4,a5,a6,a7,fun it hi hk=>?_,a9,ho⟩
 exact ⟨fun e=>(a8 it hi hk).1 ((hc it hi hk).2 e),fun e=>(a8 it hi hk).2 fun e'=>e ((hc it hi hk).1 e')⟩
theorem nodup_uniq {α:Type} {f:α→S}:∀ {l:List α},(l.map f).Nodup→∀ {a b:α},a∈l→b∈l→f a=f b→a=b
 | [],_,_,_,ha,_,_=>by simp at ha
 | x :: l,h,a,b,ha,hb,e=>by
  rw [List.map_cons,List.nodup_cons] at h
  rcases List.mem_cons.1 ha with ha | ha
  ·rcases List.mem_cons.1 hb with hb | hb
   ·rw [ha,hb]
   ·exact absurd (by rw [← ha,e];exact List.mem_map.2 ⟨b,hb,rfl⟩) h.1
  ·rcases List.mem_cons.1 hb with hb | hb
   ·exact absurd (by rw [← hb,← e];exact List.mem_map.2 ⟨a,ha,rfl⟩) h.1
   ·exact nodup_uniq h.2 ha hb e
theorem St.uniq {c:Cx} {st:S} {o:List S} {m:Mk} (h:St c st o m) {a b:It} (ha:a∈m.items) (hb:b∈m.items) (e:a.id=b.id):a=b:=by
 have:=h.nd
 unfold Mk.ids at this
 exact nodup_uniq this ha hb e
theorem St.new {c:Cx} {st:S} {o:List S} {m:Mk} (h:St c st o m) {l:S} {k:Nat} (hl:l.data.toList.length=1) (hk:m.n < k) (h5:k≤675):c.name l k∉m.ids:=by
 intro hm
 obtain ⟨it,hi,e⟩:=List.mem_map.1 hm
 exact (h.num it hi).ne hl hk h5 e
theorem St.newf {c:Cx} {st:S} {o:List S} {m:Mk} (h:St c st o m) {l:S} {k:Nat} (hl:l.data.toList.length=1) (hk:m.n < k) (h5:k≤675):c.name l k∉m.flows.map (·.1):=by
 intro hm
 obtain ⟨it,hi,e⟩:=List.mem_map.1 hm
 exact (h.fnum it hi).ne hl hk h5 e
theorem nodup_snoc {l:List S} {x:S} (h:l.Nodup) (hx:x∉l):(l++[x]).Nodup:=by
 rw [List.nodup_append]
 refine ⟨h,by simp,fun a ha b hb e=>?_⟩
 simp at hb
 exact hx (by rw [← hb,← e];exact ha)
theorem St.item {c:Cx} {st:S} {o:List S} {m:Mk} (h:St c st o m) (it:It) (hn:it.id∉m.ids) (ho:Old c m.n it.id) (hk:it.kind≠1) (ht:it.kind=3→TaskOk c m.flows it):St c st (it.id :: o) (m.item it):=by
 obtain ⟨a1,a2,a3,a4,a5,a6,a7,a8,a9,a10⟩:=h
 have hids:(m.item it).ids=m.ids++[it.id]:=by unfold Mk.ids Mk.item;simp
 refine ⟨?_,?_,?_,a4,a5,?_,?_,?_,?_,?_⟩
 ·obtain ⟨rest,e,hr⟩:=a1
  refine ⟨rest++[it],by unfold Mk.item;simp [e],fun x hx=>?_⟩
  rcases List.mem_append.1 hx with hx | hx
  ·exact hr x hx
  ·simp at hx;rw [hx];exact hk
 ·intro x hx
  rcases List.mem_append.1 hx with hx | hx
  ·exact a2 x hx
  ·simp at hx;rw [hx];exact ho
 ·rw [hids]
  exact nodup_snoc a3 hn
 ·intro q hq
  rw [hids]
  exact List.mem_append.2 (.inl (a6 q hq))
 ·intro q hq
  obtain ⟨x,hx,h1,h2⟩:=a7 q hq
  exact ⟨x,List.mem_append.2 (.inl hx),h1,h2⟩
 ·intro x hx hxk
  rcases List.mem_append.1 hx with hx | hx
  ·have hne:x.id≠it.id:=fun e=>hn (by rw [← e];exact List.mem_map.2 ⟨x,hx,rfl⟩)
   have:=a8 x hx hxk
   show (_→cnt m.seqs x.id=_)∧(_→cnt m.seqs x.id=_)
   exact ⟨fun e=>this.1 (by simpa [hne] using e),fun e=>this.2 (by simpa [hne] using e)⟩
  ·simp at hx
   subst hx
   show (_→cnt m.seqs x.id=_)∧(_→cnt m.seqs x.id=_)
   exact ⟨fun _=>cnt_zero fun q hq e=>hn (by rw [← e];exact a6 q hq),fun e=>absurd (List.mem_cons_self) e⟩
 ·intro x hx hxk
  rcases List.mem_append.1 hx with hx | hx
  ·exact a9 x hx hxk
  ·simp at hx;rw [hx] at hxk ⊢;exact ht hxk
 ·intro x hx
  rw [hids]
  rcases List.mem_cons.1 hx with hx | hx
  ·rw [hx];exact List.mem_append.2 (.inr (List.mem_singleton.2 rfl))
  ·exact List.mem_append.2 (.inl (a10 x hx))
theorem St.flow {c:Cx} {st:S} {o:List S} {m:Mk} (h:St c st o m) (x:Fl) (hn:x.1∉m.flows.map (·.1)) (ho:Old c m.n x.1):St c st o (m.flow x):=by
 obtain ⟨a1,a2,a3,a4,a5,a6,a7,a8,a9,a10⟩:=h
 refine ⟨a1,a2,a3,?_,?_,a6,a7,a8,fun it hi hk=>(a9 it hi hk).up fun y hy=>List.mem_append.2 (.inl hy),a10⟩
 ·intro y hy
  rcases List.mem_append.1 hy with hy | hy
  ·exact a4 y hy
  ·simp at hy;rw [hy];exact ho
 ·unfold Mk.flow
  simp only [List.map_append,List.map_cons,List.map_nil]
  exact nodup_snoc a5 hn
def Free (m:Mk) (o:List S) (f:S):Prop:=f∈m.ids∧∀ it∈m.items,it.id=f→it.kind=3∨it.kind=1→f∈o
theorem St.seq {c:Cx} {st:S} {o:List S} {m:Mk} (h:St c st o m) (f t:S) (hf:Free m o f) (ht:∃ it∈m.items,it.id=t∧it.kind≠1):St c st (o.filter fun x=>decide (x≠f)) (seqT c m f t):=by
 have h0:St c st o m.named:=h.same (Nat.le_succ _) rfl rfl rfl
 obtain ⟨a1,a2,a3,a4,a5,a6,a7,a8,a9,a10⟩:=h0
 refine ⟨a1,a2,a3,a4,a5,?_,?_,?_,a9,fun x hx=>a10 x (List.mem_filter.1 hx).1⟩
 ·intro q hq
  rcases List.mem_append.1 hq with hq | hq
  ·exact a6 q hq
  ·simp at hq;rw [hq];exact hf.1
 ·intro q hq
  rcases List.mem_append.1 hq with hq | hq
  ·exact a7 q hq
  ·simp at hq;rw [hq];exact ht
 ·intro it hi hk
  have:=a8 it hi hk
  have e:(seqT c m f t).seqs=m.seqs++[(c.name lS (m.n+1),f,t)]:=rfl
  rw [e,cnt_app,cnt_one]
  have e2:(it.id∈o→cnt m.seqs it.id=0)∧(it.id∉o→cnt m.seqs it.id=1):=this
  by_cases hfi:f=it.id
  ·have hfo:=hf.2 it hi hfi.symm hk
   rw [hfi] at hfo
   rw [if_pos hfi,e2.1 hfo]
   exact ⟨fun e=>by simp [hfi] at e,fun _=>rfl⟩
  ·have hn:it.id≠f:=fun e=>hfi e.symm
   rw [if_neg hfi]
   exact ⟨fun e=>e2.1 (List.mem_filter.1 e).1,fun e=>e2.2 fun e'=>e (List.mem_filter.2 ⟨e',by simpa using hn⟩)⟩
def Gt (m:Mk) (a:S):Prop:=∃ k,k≠3∧k≠1∧gate k a∈m.items
theorem Gt.free {c:Cx} {st a:S} {o o':List S} {m:Mk} (h:Gt m a) (s:St c st o m):Free m o' a:=by
 obtain ⟨k,h1,h2,h3⟩:=h
 refine ⟨List.mem_map.2 ⟨_,h3,rfl⟩,fun it hi e hk=>?_⟩
 have:=s.uniq hi h3 e
 subst this
 rcases hk with hk | hk
 ·exact absurd hk h1
 ·exact absurd hk h2
theorem Gt.up {m m':Mk} {a:S} (h:Gt m a) (hs:∀ it∈m.items,it∈m'.items):Gt m' a:=by
 obtain ⟨k,h1,h2,h3⟩:=h
 exact ⟨k,h1,h2,hs _ h3⟩
structure Done (c:Cx) (st f:S) (o:List S) (m:Mk) (t:S) (m':Mk):Prop where
 st:St c st (t :: o.filter fun x=>decide (x≠f)) m'
 more:∀ it∈m.items,it∈m'.items
 is:∃ it∈m'.items,it.id=t∧it.kind≠1
 new:t∉m.ids
theorem l1 (b:UInt8):(⟨#[b]⟩:S).data.toList.length=1:=rfl
theorem who_two (c:Cx) (x:Nat) (h:2≤c.parts.length):(c.who x).1 < c.parts.length∧(c.who x).2 < c.parts.length∧(c.who x).1≠(c.who x).2:=by
 unfold Cx.who
 simp only
 generalize c.parts.length=n at *
 have h1:x % 16 % n < n:=Nat.mod_lt _ (by omega)
 have h2:x / 16 % 16 % (n - 1) < n - 1:=Nat.mod_lt _ (by omega)
 generalize x % 16 % n=a at *
 generalize x / 16 % 16 % (n - 1)=b at *
 refine ⟨h1,Nat.mod_lt _ (by omega),?_⟩
 by_cases h3:a+1+b < n
 ·rw [Nat.mod_eq_of_lt h3];omega
 ·rw [Nat.mod_eq_sub_mod (by omega),Nat.mod_eq_of_lt (by omega)];omega
theorem leaf_rule (c:Cx) (hp:2≤c.parts.length) (st f:S) (o:List S) (m:Mk) (x:Nat) (h:St c st o m) (hf:Free m o f) (hn:m.n+10≤675):Done c st f o m (leafT c m.next f x).1 (leafT c m.next f x).2:=by
 obtain ⟨w1,w2,w3⟩:=who_two c (x / 8) hp
 unfold leafT
 generalize x / 8=y at *
 have ht:(taskT c m.next y).1=c.name lT (m.n+1):=by
  unfold taskT
  dsimp only
  split <;> rfl
 have key:∃ it,it.id=c.name lT (m.n+1)∧it.kind=3∧(taskT c m.next y).2.items=m.items++[it]∧St c st (it.id :: o) (taskT c m.next y).2:=by
  unfold taskT
  dsimp only
  split
  ·have s0:St c st o m.next.named.named.named:=h.same (by simp [Mk.named,Mk.next];omega) rfl rfl rfl
   have s1:=s0.flow (c.name lF (m.n+2),c.part (c.who y).1,c.part (c.who y).2,msg (y / 256 % 16 % 3)) (h.newf (l1 _) (by omega) (by omega)) ⟨lF,m.n+2,l1 _,by simp [Mk.named,Mk.next],rfl⟩
   have s2:=s1.flow (c.name lF (m.n+3),c.part (c.who y).2,c.part (c.who y).1,msgD) (by
    unfold Mk.flow
    simp only [List.map_append,List.map_cons,List.map_nil,List.mem_append,List.mem_singleton]
    rintro (e | e)
    ·exact h.newf (l1 _) (by omega) (by omega) e
    ·have:=name_inj c (l1 _) (l1 _) (by omega) (by omega) e;omega) ⟨lF,m.n+3,l1 _,by simp [Mk.named,Mk.next,Mk.flow],rfl⟩
   have s3:=s2.item ⟨3,c.name lT (m.n+1),c.part (c.who y).1,[c.part (c.who y).1,c.part (c.who y).2],[c.name lF (m.n+2),c.name lF (m.n+3)],decide (y / 16384 % 8=0)⟩ (h.new (l1 _) (by omega) (by omega)) ⟨lT,m.n+1,l1 _,by simp [Mk.named,Mk.next,Mk.flow],rfl⟩ (by simp) (fun _=>⟨_,_,w1,w2,w3,_,List.mem_append.2 (.inl (List.mem_append.2 (.inr (List.mem_singleton.2 rfl)))),rfl,rfl,.inr ⟨_,List.mem_append.2 (.inr (List.mem_singleton.2 rfl)),rfl⟩⟩)
   exact ⟨_,rfl,rfl,rfl,s3⟩
  ·have s0:St c st o m.next.named.named:=h.same (by simp [Mk.named,Mk.next];omega) rfl rfl rfl
   have s1:=s0.flow (c.name lF (m.n+2),c.part (c.who y).1,c.part (c.who y).2,msg (y / 256 % 16 % 3)) (h.newf (l1 _) (by omega) (by omega)) ⟨lF,m.n+2,l1 _,by simp [Mk.named,Mk.next],rfl⟩
   have s3:=s1.item ⟨3,c.name lT (m.n+1),c.part (c.who y).1,[c.part (c.who y).1,c.part (c.who y).2],[c.name lF (m.n+2)],decide (y / 16384 % 8=0)⟩ (h.new (l1 _) (by omega) (by omega)) ⟨lT,m.n+1,l1 _,by simp [Mk.named,Mk.next,Mk.flow],rfl⟩ (by simp) (fun _=>⟨_,_,w1,w2,w3,_,List.mem_append.2 (.inr (List.mem_singleton.2 rfl)),rfl,rfl,.inl rfl⟩)
   exact ⟨_,rfl,rfl,rfl,s3⟩
 rw [ht]
 obtain ⟨it,hid,hk,hi,hs⟩:=key
 generalize (taskT c m.next y).2=m2 at *
 have hfn:f≠it.id:=fun e=>h.new (l1 116) (show m.n < m.n+1 by omega) (by omega) (by rw [show c.name ⟨#[116]⟩ (m.n+1)=it.id from hid.symm,← e];exact hf.1)
 have hf2:Free m2 (it.id :: o) f:=by
  refine ⟨?_,fun z hz e hzk=>?_⟩
  ·unfold Mk.ids
   rw [hi,List.map_append]
   exact List.mem_append.2 (.inl hf.1)
  ·rw [hi] at hz
   rcases List.mem_append.1 hz with hz | hz
   ·exact List.mem_cons_of_mem _ (hf.2 z hz e hzk)
   ·simp at hz
    rw [hz] at e
    exact absurd e.symm hfn
 have hit:it∈m2.items:=by rw [hi];exact List.mem_append.2 (.inr (List.mem_singleton.2 rfl))
 have s:=hs.seq f (c.name lT (m.n+1)) hf2 ⟨it,hit,hid,by omega⟩
 refine ⟨?_,fun z hz=>?_,⟨it,hit,hid,by omega⟩,h.new (l1 _) (by omega) (by omega)⟩
 ·rw [← hid]
  rw [← hid] at s
  refine s.conv (fun z _ _=>?_) (fun z hz=>?_)
  ·simp [Ne.symm hfn]
  ·apply s.os
   simpa [List.filter_cons,Ne.symm hfn] using hz
 ·show z∈m2.items
  rw [hi]
  exact List.mem_append.2 (.inl hz)
theorem Free.item {m:Mk} {o:List S} {f:S} (h:Free m o f) (it:It) (hn:it.id∉m.ids):Free (m.item it) (it.id :: o) f:=by
 refine ⟨?_,fun z hz e hk=>?_⟩
 ·unfold Mk.ids Mk.item
  simp only [List.map_append]
  exact List.mem_append.2 (.inl h.1)
 ·rcases List.mem_append.1 hz with hz | hz
  ·exact List.mem_cons_of_mem _ (h.2 z hz e hk)
  ·simp at hz
   rw [hz] at e
   exact absurd (by rw [e];exact h.1) hn
theorem ids_more {m m':Mk} (h:∀ it∈m.items,it∈m'.items) {x:S} (hx:x∈m.ids):x∈m'.ids:=by
 obtain ⟨it,hi,rfl⟩:=List.mem_map.1 hx
 exact List.mem_map.2 ⟨it,h it hi,rfl⟩
theorem Done.free {c:Cx} {st f t:S} {o:List S} {m m':Mk} (h:Done c st f o m t m'):Free m' (t :: o.filter fun x=>decide (x≠f)) t :=
 ⟨by obtain ⟨it,hi,e,_⟩:=h.is;exact List.mem_map.2 ⟨it,hi,e⟩,fun _ _ _ _=>List.mem_cons_self⟩
theorem Done.mem {c:Cx} {st f t:S} {o:List S} {m m':Mk} (h:Done c st f o m t m'):t∈m'.ids:=h.free.1
theorem Gt.ne {c:Cx} {st a:S} {o:List S} {m:Mk} (h:Gt m a) (s:St c st o m) {z:It} (hz:z∈m.items) (hk:z.kind=3∨z.kind=1):z.id≠a:=by
 obtain ⟨k,h1,h2,h3⟩:=h
 intro e
 have:=s.uniq hz h3 e
 subst this
 rcases hk with hk | hk
 ·exact h1 hk
 ·exact h2 hk
set_option maxHeartbeats 4000000 in
theorem part_rule (c:Cx) (hp:2≤c.parts.length) (st:S):∀ (d:Nat) (f:S) (o:List S) (m:Mk),St c st o m→Free m o f→m.n+10 * 2 ^ d≤675→Done c st f o m (partT c d f m).1 (partT c d f m).2
 | 0,f,o,m,h,hf,hn=>leaf_rule c hp st f o m _ h hf (by simpa using hn)
 | d+1,f,o,m,h,hf,hn=>by
  have hp2:1≤2 ^ d:=Nat.one_le_two_pow
  have h2:2 ^ (d+1)=2 * 2 ^ d:=by rw [Nat.pow_succ,Nat.mul_comm]
  rw [h2] at hn
  rw [partT]
  split
  ·exact leaf_rule c hp st f o m _ h hf (by omega)
  ·have hm0:St c st o m.next:=h.same (Nat.le_refl _) rfl rfl rfl
   split
   ·have p1:=part_rule c hp st d f o m.next hm0 hf (by simp only [Mk.next];omega)
    have u1:=(part_up c d f m.next).n
    generalize partT c d f m.next=r at *
    obtain ⟨a,m1⟩:=r
    simp only [Mk.next] at u1
    have p2:=part_rule c hp st d a _ m1 p1.st p1.free (by omega)
    simp only
    generalize partT c d a m1=r at *
    obtain ⟨b,m2⟩:=r
    simp only at p1 p2 ⊢
    have ha:a∉o:=fun e=>p1.new (h.os _ e)
    have hb:b∉m.ids:=fun e=>p2.new (ids_more p1.more e)
    refine ⟨p2.st.conv (fun z hz hk=>?_) (fun z hz=>?_),fun z hz=>p2.more z (p1.more z hz),p2.is,hb⟩
    ·simp only [List.mem_cons,List.mem_filter,decide_eq_true_eq]
     constructor
     ·rintro (e | ⟨e | e,e2⟩)
      ·exact .inl e
      ·exact absurd e e2
      ·exact .inr e
     ·rintro (e | ⟨e,e2⟩)
      ·exact .inl e
      ·exact .inr ⟨.inr ⟨e,e2⟩,fun e3=>ha (by rw [← e3];exact e)⟩
    ·rcases List.mem_cons.1 hz with hz | hz
     ·rw [hz];exact p2.mem
     ·exact ids_more p2.more (ids_more p1.more (h.os z (List.mem_filter.1 hz).1))
   ·dsimp only
    obtain ⟨k,hk⟩:∃ k:Int,k=if pick c.p m.at_ % 8=7 then (5:Int) else 4:=⟨_,rfl⟩
    rw [← hk]
    have hk3:k≠3∧k≠1:=by rw [hk];split <;> exact ⟨by decide,by decide⟩
    obtain ⟨a,ha⟩:∃ a,a=c.name lG (m.n+1):=⟨_,rfl⟩
    rw [← ha]
    have han:a∉m.ids:=by rw [ha];exact h.new (l1 _) (by omega) (by omega)
    have s0:St c st o m.next.named:=h.same (Nat.le_succ _) rfl rfl rfl
    have s1:=s0.item (gate k a) han ⟨lG,m.n+1,l1 _,Nat.le_refl _,ha⟩ hk3.2 (fun e=>absurd e hk3.1)
    have g1:Gt (m.next.named.item (gate k a)) a:=⟨k,hk3.1,hk3.2,List.mem_append.2 (.inr (List.mem_singleton.2 rfl))⟩
    have f1:Free (m.next.named.item (gate k a)) (a :: o) f:=Free.item (m:=m.next.named) hf (gate k a) han
    have s2:=s1.seq f a f1 ⟨gate k a,List.mem_append.2 (.inr (List.mem_singleton.2 rfl)),rfl,hk3.2⟩
    have g2:Gt (seqT c (m.next.named.item (gate k a)) f a) a:=g1
    have hm2:∀ it∈m.items,it∈(seqT c (m.next.named.item (gate k a)) f a).items:=fun it hi=>List.mem_append.2 (.inl hi)
    have s3:St c st (o.filter fun x=>decide (x≠f)) (seqT c (m.next.named.item (gate k a)) f a):=s2.conv (fun z hz hzk=>by
     have hne:=g2.ne s2 hz hzk
     simp only [List.mem_filter,List.mem_cons,decide_eq_true_eq,gate]
     constructor
     ·rintro ⟨e | e,e2⟩
      ·exact absurd e hne
      ·exact ⟨e,e2⟩
     ·rintro ⟨e,e2⟩
      exact ⟨.inr e,e2⟩) (fun z hz=>ids_more hm2 (h.os z (List.mem_filter.1 hz).1))
    have hn2:(seqT c (m.next.named.item (gate k a)) f a).n=m.n+2:=rfl
    generalize seqT c (m.next.named.item (gate k a)) f a=m1 at *
    have p1:=part_rule c hp st d a _ m1 s3 (g2.free s3) (by omega)
    have u1:=(part_up c d a m1).n
    generalize partT c d a m1=r at *
    obtain ⟨s,m2⟩:=r
    simp only at p1 u1 ⊢
    have p2:=part_rule c hp st d a _ m2 p1.st ((g2.up p1.more).free p1.st) (by omega)
    have u2:=(part_up c d a m2).n
    generalize partT c d a m2=r at *
    obtain ⟨t,m3⟩:=r
    simp only at p2 u2 ⊢
    obtain ⟨b,hb⟩:∃ b,b=c.name lG (m3.n+1):=⟨_,rfl⟩
    rw [← hb]
    have hbn:b∉m3.ids:=by rw [hb];exact p2.st.new (l1 _) (by omega) (by omega)
    have t0:St c st _ m3.named:=p2.st.same (Nat.le_succ _) rfl rfl rfl
    have t1:=t0.item (gate k b) hbn ⟨lG,m3.n+1,l1 _,Nat.le_refl _,hb⟩ hk3.2 (fun e=>absurd e hk3.1)
    have hg:gate k b∈(m3.named.item (gate k b)).items:=List.mem_append.2 (.inr (List.mem_singleton.2 rfl))
    have hm3:∀ it∈m3.items,it∈(m3.named.item (gate k b)).items:=fun it hi=>List.mem_append.2 (.inl hi)
    have gb1:Gt (m3.named.item (gate k b)) b:=⟨k,hk3.1,hk3.2,hg⟩
    generalize m3.named.item (gate k b)=m4 at *
    have a1:a∈m1.ids:=(g2.free (o':=[]) s3).1
    have sa:s≠a:=fun e=>p1.new (by rw [e];exact a1)
    have ts:t≠s:=fun e=>p2.new (by rw [e];exact p1.mem)
    have ta:t≠a:=fun e=>p2.new (by rw [e];exact ids_more p1.more a1)
    have hso:s∉o:=fun e=>p1.new (ids_more hm2 (h.os _ e))
    have hto:t∉o:=fun e=>p2.new (ids_more p1.more (ids_more hm2 (h.os _ e)))
    have fs:Free m4 ((gate k b).id :: t :: List.filter (fun x=>decide (x≠a)) (s :: List.filter (fun x=>decide (x≠a)) (List.filter (fun x=>decide (x≠f)) o))) s :=
     ⟨ids_more hm3 (ids_more p2.more p1.mem),fun _ _ _ _=>by simp [sa]⟩
    have q1:=t1.seq s b fs ⟨_,hg,rfl,hk3.2⟩
    have ft:Free (seqT c m4 s b) (((gate k b).id :: t :: List.filter (fun x=>decide (x≠a)) (s :: List.filter (fun x=>decide (x≠a)) (List.filter (fun x=>decide (x≠f)) o))).filter fun x=>decide (x≠s)) t :=
     ⟨ids_more hm3 p2.mem,fun _ _ _ _=>by simp [ts]⟩
    have q2:=q1.seq t b ft ⟨_,hg,rfl,hk3.2⟩
    have gb:Gt (seqT c (seqT c m4 s b) t b) b:=gb1
    have ga:Gt (seqT c (seqT c m4 s b) t b) a:=((g2.up p1.more).up p2.more).up hm3
    have hfin:St c st (b :: o.filter fun x=>decide (x≠f)) (seqT c (seqT c m4 s b) t b):=q2.conv (fun z hz hzk=>by
     have na:=ga.ne q2 hz hzk
     have nb:=gb.ne q2 hz hzk
     simp only [List.mem_filter,List.mem_cons,decide_eq_true_eq,gate]
     constructor
     ·rintro ⟨⟨e | e | ⟨e | ⟨e,e3⟩,e2⟩,e4⟩,e5⟩
      ·exact absurd e nb
      ·exact absurd e e5
      ·exact absurd e e4
      ·exact .inr e
     ·rintro (e | ⟨e,e2⟩)
      ·exact absurd e nb
      ·exact ⟨⟨.inr (.inr ⟨.inr ⟨⟨e,e2⟩,na⟩,na⟩),fun e3=>hso (by rw [← e3];exact e)⟩,fun e3=>hto (by rw [← e3];exact e)⟩) (fun z hz=>by
     rcases List.mem_cons.1 hz with hz | hz
     ·rw [hz];exact (gb.free (o':=[]) q2).1
     ·exact ids_more hm3 (ids_more p2.more (ids_more p1.more (ids_more hm2 (h.os z (List.mem_filter.1 hz).1)))))
    have hmore:∀ it∈m.items,it∈m4.items:=fun it hi=>hm3 it (p2.more it (p1.more it (hm2 it hi)))
    have hbm:b∉m.ids:=fun e=>hbn (ids_more p2.more (ids_more p1.more (ids_more hm2 e)))
    split
    ·obtain ⟨ka,ka3,ka1,hga⟩:=ga
     have q3:=hfin.seq b a (gb.free hfin) ⟨_,hga,rfl,ka1⟩
     have gb3:Gt (seqT c (seqT c (seqT c m4 s b) t b) b a) b:=gb1
     refine ⟨q3.conv (fun z hz hzk=>?_) hfin.os,hmore,⟨_,hg,rfl,hk3.2⟩,hbm⟩
     have nb:=gb3.ne q3 hz hzk
     simp [nb]
    ·exact ⟨hfin,hmore,⟨_,hg,rfl,hk3.2⟩,hbm⟩
theorem chor_rule (p:List Int) (pre:S):∃ st,St (ctx p pre) st [] (chorT p pre):=by
 obtain ⟨c,hc⟩:∃ c,c=ctx p pre:=⟨_,rfl⟩
 have hp:2≤c.parts.length:=by
  rw [hc]
  unfold ctx
  simp only [pnms_len]
  exact (many_le p).1
 unfold chorT
 rw [← hc]
 clear hc
 unfold levelT
 dsimp only
 obtain ⟨a,ha⟩:∃ a,a=c.name lB (mk0.n+1):=⟨_,rfl⟩
 rw [← ha]
 have hI:(mk0.named.item (gate 1 a)).items=[gate 1 a]:=rfl
 have hQ:(mk0.named.item (gate 1 a)).seqs=[]:=rfl
 have hF:(mk0.named.item (gate 1 a)).flows=[]:=rfl
 have hN:(mk0.named.item (gate 1 a)).n=1:=rfl
 generalize mk0.named.item (gate 1 a)=m1 at *
 have hids:m1.ids=[a]:=by unfold Mk.ids;rw [hI];rfl
 have s1:St c a [a] m1:=by
  refine ⟨⟨[],hI,by simp⟩,?_,by rw [hids];simp,by rw [hF];simp,by rw [hF];simp,by rw [hQ];simp,by rw [hQ];simp,?_,?_,by rw [hids];simp⟩
  ·rw [hI,hN]
   intro it hi
   simp at hi
   rw [hi]
   exact ⟨lB,1,l1 _,Nat.le_refl _,ha⟩
  ·rw [hI,hQ]
   intro it hi _
   simp at hi
   rw [hi]
   simp [cnt,gate]
  ·rw [hI]
   intro it hi hk
   simp at hi
   rw [hi] at hk
   simp [gate] at hk
 have d:=part_rule c hp a 3 a [a] m1 s1 ⟨by rw [hids];simp,fun _ _ _ _=>by simp⟩ (by rw [hN];decide)
 have u:=(part_up c 3 a m1).n
 generalize partT c 3 a m1=r at *
 obtain ⟨b,m2⟩:=r
 simp only at d u ⊢
 obtain ⟨e,he⟩:∃ e,e=c.name lE (m2.n+1):=⟨_,rfl⟩
 rw [← he]
 have hen:e∉m2.ids:=by rw [he];exact d.st.new (l1 _) (by omega) (by omega)
 have t0:St c a _ m2.named:=d.st.same (Nat.le_succ _) rfl rfl rfl
 have t1:=t0.item (gate 2 e) hen ⟨lE,m2.n+1,l1 _,Nat.le_refl _,he⟩ (by simp [gate]) (by simp [gate])
 have hg:gate 2 e∈(m2.named.item (gate 2 e)).items:=List.mem_append.2 (.inr (List.mem_singleton.2 rfl))
 have g1:Gt (m2.named.item (gate 2 e)) e:=⟨2,by decide,by decide,hg⟩
 have fb:=Free.item (m:=m2.named) d.free (gate 2 e) hen
 have q:=t1.seq b e fb ⟨_,hg,rfl,by simp [gate]⟩
 have g2:Gt (seqT c (m2.named.item (gate 2 e)) b e) e:=g1
 refine ⟨a,q.conv (fun z hz hk=>?_) (by simp)⟩
 have ne:=g2.ne q hz hk
 simp [gate,ne]
end Ch
end Go.Proofs.Ytcnmaplopbbmaaa
