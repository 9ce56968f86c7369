/- Plain: the graph of a choreography that is made of picks may be, or it has too many places. No program. -/
import Derived.Test.YtcnmaplopbbmaaaChRule
namespace Go.Proofs.Ytcnmaplopbbmaaa
open Go.RowKit
namespace Fl
theorem place_is {l:List S} {x:S} (h:x∈l):∃ i:Nat,place l x=(i:Int)∧i < l.length∧l[i]? = some x:=by
 unfold place Gr.idx
 split
 ·rename_i i e
  rw [List.findIdx?_eq_some_iff_getElem] at e
  obtain ⟨hi,h1,_⟩:=e
  exact ⟨i,rfl,hi,by rw [List.getElem?_eq_getElem hi];simpa using h1⟩
 ·rename_i e
  rw [List.findIdx?_eq_none_iff] at e
  simpa using e x h
theorem nodup_get {l:List S} (h:l.Nodup) {i j:Nat} {x:S} (hi:l[i]? = some x) (hj:l[j]? = some x):i=j:=by
 obtain ⟨a1,a2⟩:=List.getElem?_eq_some_iff.1 hi
 obtain ⟨b1,b2⟩:=List.getElem?_eq_some_iff.1 hj
 rw [List.nodup_iff_pairwise_ne,List.pairwise_iff_getElem] at h
 rcases Nat.lt_trichotomy i j with k | k | k
 ·exact absurd (a2.trans b2.symm) (h i j a1 b1 k)
 ·exact k
 ·exact absurd (b2.trans a2.symm) (h j i b1 a1 k)
theorem place_nth {l:List S} (h:l.Nodup) {i:Nat} {x:S} (hi:l[i]? = some x):place l x=(i:Int):=by
 obtain ⟨j,e,_,hj⟩:=place_is (List.mem_of_getElem? hi)
 rw [e,nodup_get h hj hi]
theorem flowOf_is {fs:List Ch.Fl} (h:(fs.map (·.1)).Nodup) {x:Ch.Fl} (hx:x∈fs):0≤place (fs.map (·.1)) x.1∧flowOf fs x.1=x:=by
 obtain ⟨i,e,hi,hj⟩:=place_is (l:=fs.map (·.1)) (List.mem_map.2 ⟨x,hx,rfl⟩)
 refine ⟨by omega,?_⟩
 unfold flowOf
 rw [e,Int.toNat_natCast]
 rw [List.getElem?_map] at hj
 cases hy:fs[i]? with
 | none=>rw [hy] at hj;simp at hj
 | some y =>
  rw [hy] at hj
  simp only [Option.map_some,Option.some.injEq] at hj
  rw [List.getD_eq_getElem?_getD,hy,Option.getD_some]
  exact Ch.nodup_uniq h (List.mem_of_getElem? hy) hx hj
theorem msgT_in (ml:List S) (x:S):0≤(msgT ml x).1∧(msgT ml x).1 < ((msgT ml x).2.length:Int)∧ml.length≤(msgT ml x).2.length:=by
 unfold msgT
 split
 ·rename_i h
  refine ⟨h,?_,Nat.le_refl _⟩
  simp only
  unfold place Gr.idx
  split
  ·rename_i i e
   rw [List.findIdx?_eq_some_iff_getElem] at e
   obtain ⟨hi,_⟩:=e
   omega
  ·omega
 ·exact ⟨by simp only;omega,by simp only [List.length_append,List.length_singleton];omega,by simp⟩
structure NdOk (np nm:Nat) (nd:Gr.Nd):Prop where
 f0:0≤nd.fr
 f1:nd.fr < np
 t0:0≤nd.to
 t1:nd.to < np
 ne:nd.fr≠nd.to
 m0:0≤nd.msg
 m1:nd.msg < nm
 r0:-1≤nd.rep
 r1:nd.rep < nm
theorem NdOk.up {np nm nm':Nat} {nd:Gr.Nd} (h:NdOk np nm nd) (hn:nm≤nm'):NdOk np nm' nd:=by
 obtain ⟨a1,a2,a3,a4,a5,a6,a7,a8,a9⟩:=h
 exact ⟨a1,a2,a3,a4,a5,a6,by omega,a8,by omega⟩
theorem part_at {c:Ch.Cx} (hd:c.parts.Nodup) {a:Nat} (h:a < c.parts.length):place c.parts (c.part a)=(a:Int):=by
 apply place_nth hd
 unfold Ch.Cx.part
 rw [List.getD_eq_getElem?_getD,List.getElem?_eq_getElem h]
 rfl
theorem task_ok {c:Ch.Cx} (hd:c.parts.Nodup) {fs:List Ch.Fl} (hf:(fs.map (·.1)).Nodup) {it:Ch.It} (h:Ch.TaskOk c fs it) (ml:List S) :
  (taskT fs c.parts ml it).2.2=false∧(taskT fs c.parts ml it).1.kind=3∧NdOk c.parts.length (taskT fs c.parts ml it).2.1.length (taskT fs c.parts ml it).1∧ml.length≤(taskT fs c.parts ml it).2.1.length:=by
 obtain ⟨a,b,ha,hb,hab,x,hx,hxa,hxb,h6⟩:=h
 obtain ⟨x0,x1⟩:=flowOf_is hf hx
 have pa:=part_at hd ha
 have pb:=part_at hd hb
 rw [← hxa] at pa
 rw [← hxb] at pb
 obtain ⟨m1,m2,m3⟩:=msgT_in ml x.2.2.2
 have e1:flowStep fs c.parts 0 x.1 (nd0 it,ml)=some (⟨3,it.id,a,b,(msgT ml x.2.2.2).1,-1,it.loop⟩,(msgT ml x.2.2.2).2):=by
  unfold flowStep
  rw [if_neg (by omega),if_neg (by decide),x1,pa,pb]
  rfl
 have key:∀ (nd:Gr.Nd) (ml':List S),flowsT fs c.parts 0 it.flows (nd0 it,ml)=((nd,ml'),false)→nd.kind=3→nd.fr=a→nd.to=b→0≤nd.msg→nd.msg < ml'.length→-1≤nd.rep→nd.rep < ml'.length→ml.length≤ml'.length→(taskT fs c.parts ml it).2.2=false∧(taskT fs c.parts ml it).1.kind=3∧NdOk c.parts.length (taskT fs c.parts ml it).2.1.length (taskT fs c.parts ml it).1∧ml.length≤(taskT fs c.parts ml it).2.1.length:=by
  intro nd ml' e h1 h2 h3 h4 h5 h6 h7 h8
  unfold taskT
  rw [e]
  simp only
  have d1:decide (nd.fr < 0)=false:=by simp;omega
  have d2:decide (nd.to < 0)=false:=by simp;omega
  have d3:decide (nd.fr=nd.to)=false:=by simp;omega
  refine ⟨by rw [d1,d2,d3];rfl,h1,⟨by omega,by omega,by omega,by omega,by omega,h4,h5,h6,h7⟩,h8⟩
 rcases h6 with h6 | ⟨y,hy,h6⟩
 ·refine key ⟨3,it.id,a,b,(msgT ml x.2.2.2).1,-1,it.loop⟩ (msgT ml x.2.2.2).2 (by rw [h6,flowsT,e1];simp only [flowsT]) rfl rfl rfl m1 m2 (by simp) (by simp only;omega) m3
 ·obtain ⟨y0,y1⟩:=flowOf_is hf hy
  obtain ⟨n1,n2,n3⟩:=msgT_in (msgT ml x.2.2.2).2 y.2.2.2
  have e2:flowStep fs c.parts 1 y.1 (⟨3,it.id,a,b,(msgT ml x.2.2.2).1,-1,it.loop⟩,(msgT ml x.2.2.2).2)=some (⟨3,it.id,a,b,(msgT ml x.2.2.2).1,(msgT (msgT ml x.2.2.2).2 y.2.2.2).1,it.loop⟩,(msgT (msgT ml x.2.2.2).2 y.2.2.2).2):=by
   unfold flowStep
   rw [if_neg (by omega),if_pos rfl,y1]
  refine key ⟨3,it.id,a,b,(msgT ml x.2.2.2).1,(msgT (msgT ml x.2.2.2).2 y.2.2.2).1,it.loop⟩ (msgT (msgT ml x.2.2.2).2 y.2.2.2).2 (by rw [h6,flowsT,e1];simp only;rw [flowsT,e2];simp only [flowsT]) rfl rfl rfl m1 (by simp only;omega) (by simp only;omega) n2 (by omega)
theorem items_ok {c:Ch.Cx} (hd:c.parts.Nodup) {fs:List Ch.Fl} (hf:(fs.map (·.1)).Nodup):∀ (its:List Ch.It) (a:List Gr.Nd × List S × Int),(∀ it∈its,it.kind=3→Ch.TaskOk c fs it)→(∀ nd∈a.1,nd.kind=3→NdOk c.parts.length a.2.1.length nd) →
  (itemsT fs c.parts its a).2.2=a.2.2∧(itemsT fs c.parts its a).1.map (·.kind)=a.1.map (·.kind)++its.map (·.kind)∧(∀ nd∈(itemsT fs c.parts its a).1,nd.kind=3→NdOk c.parts.length (itemsT fs c.parts its a).2.1.length nd)
 | [],a,_,ha=>⟨rfl,by simp [itemsT],ha⟩
 | it :: l,a,h,ha=>by
  have e:itemsT fs c.parts (it :: l) a=itemsT fs c.parts l (itemT fs c.parts it a):=rfl
  rw [e]
  have hstep:(itemT fs c.parts it a).2.2=a.2.2∧(itemT fs c.parts it a).1.map (·.kind)=a.1.map (·.kind)++[it.kind]∧∀ nd∈(itemT fs c.parts it a).1,nd.kind=3→NdOk c.parts.length (itemT fs c.parts it a).2.1.length nd:=by
   unfold itemT
   by_cases hk:it.kind=3
   ·rw [if_pos hk]
    obtain ⟨h1,h2,h3,h4⟩:=task_ok hd hf (h it List.mem_cons_self hk) a.2.1
    refine ⟨by simp only [errN,h1];rfl,by simp [h2,hk],?_⟩
    intro nd hn hk3
    simp only at hn ⊢
    rcases List.mem_append.1 hn with hn | hn
    ·exact (ha nd hn hk3).up h4
    ·simp at hn
     rw [hn]
     exact h3
   ·rw [if_neg hk]
    refine ⟨rfl,by simp,?_⟩
    intro nd hn hk3
    simp only at hn ⊢
    rcases List.mem_append.1 hn with hn | hn
    ·exact ha nd hn hk3
    ·simp at hn
     rw [hn] at hk3
     exact absurd hk3 hk
  obtain ⟨h1,h2,h3⟩:=items_ok hd hf l (itemT fs c.parts it a) (fun x hx=>h x (List.mem_cons_of_mem _ hx)) hstep.2.2
  exact ⟨h1.trans hstep.1,by rw [h2,hstep.2.1];simp,h3⟩
def edOf (ids:List S) (q:Ch.Sq):Gr.Ed:=(place ids q.2.1,place ids q.2.2)
theorem edges_ok {ids:List S}:∀ (qs:List Ch.Sq) (a:List Gr.Ed × Int),(∀ q∈qs,q.2.1∈ids∧q.2.2∈ids)→edgesT ids qs a=(a.1++qs.map (edOf ids),a.2)
 | [],a,_=>by simp [edgesT]
 | q :: l,a,h=>by
  have e:edgesT ids (q :: l) a=edgesT ids l (edgeT ids q a):=rfl
  obtain ⟨i,e1,_⟩:=place_is (h q List.mem_cons_self).1
  obtain ⟨j,e2,_⟩:=place_is (h q List.mem_cons_self).2
  have e3:edgeT ids q a=(a.1++[edOf ids q],a.2):=by
   unfold edgeT
   rw [if_neg (by omega)]
   rfl
  rw [e,e3,edges_ok l _ (fun x hx=>h x (List.mem_cons_of_mem _ hx))]
  simp
end Fl
namespace Gr
theorem inE_none (es:List Ed) (x:Int):∀ n,(∀ k,k < n→(es.getD k (0,0)).2≠x)→inE es x n=[]
 | 0,_=>rfl
 | n+1,h=>by rw [inE,inE_none es x n (fun k hk=>h k (by omega)),if_neg (h n (by omega))];rfl
theorem outE_count (es:List Ed) (x:Int):∀ n,n≤es.length→(outE es x n).length=(es.take n).countP fun e=>decide (e.1=x)
 | 0,_=>rfl
 | n+1,h=>by
  rw [outE,List.length_append,outE_count es x n (by omega),List.take_add_one,List.getElem?_eq_getElem (by omega),Option.toList_some,List.countP_append,List.countP_singleton,List.getD_eq_getElem?_getD,List.getElem?_eq_getElem (by omega),Option.getD_some]
  by_cases e:(es[n]'(by omega)).1=x
  ·simp [e]
  ·simp [e]
theorem starts_count (ns:List Nd):∀ n,n≤ns.length→starts ns n=(ns.take n).countP fun e=>decide (e.kind=1)
 | 0,_=>rfl
 | n+1,h=>by
  rw [starts,starts_count ns n (by omega),List.take_add_one,List.getElem?_eq_getElem (by omega),Option.toList_some,List.countP_append,List.countP_singleton,List.getD_eq_getElem?_getD,List.getElem?_eq_getElem (by omega),Option.getD_some]
  simp
theorem G.chkN_no (g:G):∀ k i,(∀ j,i≤j→j < i+k→g.nodeOk (g.nd j)=true∧g.nodeBad j=false)→g.chkN i k=none
 | 0,_,_=>rfl
 | k+1,i,h=>by
  obtain ⟨h1,h2⟩:=h i (Nat.le_refl _) (by omega)
  rw [G.chkN,h1,h2]
  simp only [Bool.true_eq_false,Bool.false_eq_true,if_false]
  exact G.chkN_no g k (i+1) fun j a b=>h j (by omega) (by omega)
theorem G.chkE_no (g:G):∀ k i,(∀ j,i≤j→j < i+k→g.edgeOk (g.es.getD j (0,0))=true)→g.chkE i k=none
 | 0,_,_=>rfl
 | k+1,i,h=>by
  rw [G.chkE,h i (Nat.le_refl _) (by omega)]
  simp only [Bool.true_eq_false,if_false]
  exact G.chkE_no g k (i+1) fun j a b=>h j (by omega) (by omega)
end Gr
namespace Fl
theorem graph_rule {c:Ch.Cx} {m:Ch.Mk} {st:S} (h:Ch.St c st [] m) (hk:Ch.Kd m.items) (hd:c.parts.Nodup) :
  (graphT c.parts m.flows m.items m.seqs).1.check=0∨(graphT c.parts m.flows m.items m.seqs).1.check=5:=by
 obtain ⟨i1,i2,i3⟩:=items_ok hd h.fnd m.items ([],[],0) h.tk (by simp)
 have e1:=edges_ok (ids:=m.items.map fun it:Ch.It=>it.id) m.seqs ([],(itemsT m.flows c.parts m.items ([],[],0)).2.2) (fun q hq=>⟨show q.2.1∈m.ids from h.src q hq,by obtain ⟨it,hi,e,_⟩:=h.dst q hq;exact List.mem_map.2 ⟨it,hi,e⟩⟩)
 unfold graphT
 simp only
 rw [e1]
 simp only at i1 i2 i3 ⊢
 rw [if_pos i1]
 simp only
 rw [List.nil_append]
 generalize itemsT m.flows c.parts m.items ([],[],0)=r at *
 obtain ⟨ns,ml,er⟩:=r
 simp only at i1 i2 i3 ⊢
 rw [List.map_nil,List.nil_append] at i2
 clear i1 e1
 obtain ⟨g,hg⟩:∃ g:Gr.G,g=⟨ns,m.seqs.map (edOf (m.items.map (·.id))),c.parts.length,ml.length⟩:=⟨_,rfl⟩
 rw [← hg]
 have hnl:ns.length=m.items.length:=by have:=congrArg List.length i2;simpa using this
 have gns:g.ns=ns:=by rw [hg]
 have ges:g.es=m.seqs.map (edOf (m.items.map (·.id))):=by rw [hg]
 have gnp:g.np=c.parts.length:=by rw [hg]
 have gnm:g.nm=ml.length:=by rw [hg]
 clear hg
 have hkd:∀ j (hj:j < m.items.length),(g.nd j).kind=m.items[j].kind∧g.nd j∈ns:=by
  intro j hj
  have hj':j < ns.length:=by omega
  have:=congrArg (fun l=>l[j]?) i2
  simp only [List.getElem?_map,List.getElem?_eq_getElem hj,List.getElem?_eq_getElem hj',Option.map_some,Option.some.injEq] at this
  unfold Gr.G.nd
  rw [gns,List.getD_eq_getElem?_getD,List.getElem?_eq_getElem hj',Option.getD_some]
  exact ⟨this,List.getElem_mem hj'⟩
 have hout:∀ j (hj:j < m.items.length),(g.out (j:Int)).length=Ch.cnt m.seqs m.items[j].id:=by
  intro j hj
  unfold Gr.G.out
  rw [Gr.outE_count _ _ _ (Nat.le_refl _),List.take_length,ges,List.countP_map]
  unfold Ch.cnt
  apply List.countP_congr
  intro q hq
  obtain ⟨i,p1,p2,p3⟩:=place_is (h.src q hq)
  have hjj:m.ids[j]? = some m.items[j].id:=by unfold Ch.Mk.ids;rw [List.getElem?_map,List.getElem?_eq_getElem hj];rfl
  have p4:place (m.items.map (·.id)) q.2.1=(i:Int):=p1
  simp only [Function.comp,edOf,p4,decide_eq_true_eq]
  constructor
  ·intro e
   have:i=j:=by omega
   subst this
   rw [p3] at hjj
   exact Option.some.inj hjj
  ·intro e
   rw [e] at p3
   rw [nodup_get h.nd p3 hjj]
 obtain ⟨rest,hr1,hr2⟩:=h.head
 have hks:∀ j (hj:j < m.items.length),m.items[j].kind=1→j=0:=by
  intro j hj e
  cases j with
  | zero=>rfl
  | succ j =>
   have h1:m.items[j+1]? = rest[j]? := by rw [hr1];rfl
   rw [List.getElem?_eq_getElem hj] at h1
   exact absurd e (hr2 _ (List.mem_of_getElem? h1.symm))
 have hin:g.inn 0=[]:=by
  unfold Gr.G.inn
  apply Gr.inE_none
  intro k hk
  rw [ges,List.length_map] at hk
  rw [ges,List.getD_eq_getElem?_getD,List.getElem?_map,List.getElem?_eq_getElem hk]
  simp only [Option.map_some,Option.getD_some,edOf]
  obtain ⟨it,hi,e,hne⟩:=h.dst _ (List.getElem_mem hk)
  obtain ⟨i,p1,p2,p3⟩:=place_is (l:=m.items.map (·.id)) (x:=it.id) (List.mem_map.2 ⟨it,hi,rfl⟩)
  rw [← e,p1]
  intro e0
  have:i=0:=by omega
  subst this
  rw [List.getElem?_map,hr1] at p3
  simp only [List.getElem?_cons_zero,Option.map_some,Option.some.injEq] at p3
  have:=h.uniq (a:=Ch.gate 1 st) (b:=it) (by rw [hr1];exact List.mem_cons_self) hi p3
  rw [← this] at hne
  exact hne rfl
 unfold Gr.G.check
 rw [gnp]
 split
 ·exact .inr rfl
 ·left
  have hN:g.chkN 0 g.ns.length=none:=by
   apply Gr.G.chkN_no
   intro j _ hj
   rw [gns] at hj
   have hj2:j < m.items.length:=by omega
   obtain ⟨k1,k2⟩:=hkd j hj2
   have kk:=hk _ (List.getElem_mem hj2)
   rw [← k1] at kk
   constructor
   ·unfold Gr.G.nodeOk
    rw [if_neg (by omega)]
    by_cases e3:(g.nd j).kind=3
    ·rw [if_neg (by simp [e3])]
     obtain ⟨a1,a2,a3,a4,a5,a6,a7,a8,a9⟩:=i3 _ k2 e3
     unfold Gr.G.partOk
     rw [gnp,gnm]
     simp [a1,a2,a3,a4,a5,a6,a7,a8,a9]
    ·rw [if_pos e3]
   ·unfold Gr.G.nodeBad
    rw [hout j hj2]
    by_cases e1:(g.nd j).kind=1
    ·have e0:=hks j hj2 (by rw [← k1];exact e1)
     subst e0
     have o1:=(h.out _ (List.getElem_mem hj2) (.inr (by rw [← k1];exact e1))).2 (by simp)
     rw [o1]
     rw [show ((0:Nat):Int)=0 from rfl,hin]
     simp
    ·by_cases e3:(g.nd j).kind=3
     ·have o1:=(h.out _ (List.getElem_mem hj2) (.inl (by rw [← k1];exact e3))).2 (by simp)
      rw [o1]
      simp [e1]
     ·simp [e1,e3]
  have hE:g.chkE 0 g.es.length=none:=by
   apply Gr.G.chkE_no
   intro j _ hj
   rw [ges,List.length_map,Nat.zero_add] at hj
   rw [ges,List.getD_eq_getElem?_getD,List.getElem?_map,List.getElem?_eq_getElem hj]
   simp only [Option.map_some,Option.getD_some,edOf]
   obtain ⟨i,p1,p2,_⟩:=place_is (h.src _ (List.getElem_mem hj))
   obtain ⟨it,hi,e,_⟩:=h.dst _ (List.getElem_mem hj)
   obtain ⟨i',q1,q2,_⟩:=place_is (l:=m.items.map (·.id)) (x:=it.id) (List.mem_map.2 ⟨it,hi,rfl⟩)
   have p4:place (m.items.map (·.id)) m.seqs[j].2.1=(i:Int):=p1
   rw [← e]
   unfold Gr.G.edgeOk
   have p5:i < m.items.length:=by unfold Ch.Mk.ids at p2;simpa using p2
   have q5:i' < m.items.length:=by simpa using q2
   simp only [p4,q1,gns,hnl]
   simp
   omega
  have hS:Gr.starts g.ns g.ns.length=1:=by
   rw [Gr.starts_count _ _ (Nat.le_refl _),List.take_length,gns]
   have e1:ns.countP (fun e=>decide (e.kind=1))=(ns.map (·.kind)).countP (fun k=>decide (k=1)):=by rw [List.countP_map];rfl
   rw [e1,i2,hr1,List.map_cons,List.countP_cons]
   have e2:(rest.map (·.kind)).countP (fun k=>decide (k=1))=0:=by
    rw [List.countP_eq_zero]
    intro k hk
    obtain ⟨it,hi,rfl⟩:=List.mem_map.1 hk
    simpa using hr2 it hi
   rw [e2]
   simp [Ch.gate]
  rw [hN,hE,hS]
  rfl
theorem pnms_nodup (pre:S) (n:Nat) (h:n≤4):(Ch.pnms pre n).Nodup:=by
 unfold Ch.pnms
 rw [List.nodup_iff_pairwise_ne,List.pairwise_map]
 have inj:∀ i j,i < 4→j < 4→i≠j→pre++Ch.pnm i≠pre++Ch.pnm j:=by
  intro i j hi hj hne e
  have e2:=Ch.ba_toList e
  simp only [ByteArray.data_append,Array.toList_append] at e2
  have e3:=List.append_cancel_left e2
  have e4:(Ch.pnm i).data.toList≠(Ch.pnm j).data.toList:=by
   match i,j,hi,hj,hne with
   | 0,0,_,_,h=>exact absurd rfl h
   | 0,1,_,_,_=>decide
   | 0,2,_,_,_=>decide
   | 0,3,_,_,_=>decide
   | 1,0,_,_,_=>decide
   | 1,1,_,_,h=>exact absurd rfl h
   | 1,2,_,_,_=>decide
   | 1,3,_,_,_=>decide
   | 2,0,_,_,_=>decide
   | 2,1,_,_,_=>decide
   | 2,2,_,_,h=>exact absurd rfl h
   | 2,3,_,_,_=>decide
   | 3,0,_,_,_=>decide
   | 3,1,_,_,_=>decide
   | 3,2,_,_,_=>decide
   | 3,3,_,_,h=>exact absurd rfl h
  exact e4 e3
 have hr:(List.range n).Pairwise (fun a b=>a≠b∧a < n∧b < n):=by
  have h1:=List.nodup_range (n:=n)
  rw [List.nodup_iff_pairwise_ne] at h1
  refine h1.imp_of_mem ?_
  intro a b ha hb hne
  exact ⟨hne,List.mem_range.1 ha,List.mem_range.1 hb⟩
 exact hr.imp fun {a b} ⟨h1,h2,h3⟩=>inj a b (by omega) (by omega) h1
def pickG (p:List Int):Gr.G:=(graphT (Ch.ctx p ⟨#[]⟩).parts (Ch.chorT p ⟨#[]⟩).flows (Ch.chorT p ⟨#[]⟩).items (Ch.chorT p ⟨#[]⟩).seqs).1
theorem pick_rule (p:List Int):(pickG p).check=0∨(pickG p).check=5:=by
 obtain ⟨st,h⟩:=Ch.chor_rule p ⟨#[]⟩
 have hm:=(Ch.many_le p).2
 exact graph_rule h (Ch.chor_kind p _) (pnms_nodup _ _ hm)
theorem pickG_few (p:List Int):(pickG p).np≤4∧(pickG p).nm≤48∧(pickG p).ns.length≤24∧(pickG p).es.length≤37:=by
 have h:=graphT_len (Ch.ctx p ⟨#[]⟩).parts (Ch.chorT p ⟨#[]⟩).flows (Ch.chorT p ⟨#[]⟩).items (Ch.chorT p ⟨#[]⟩).seqs
 have k:=Ch.chor_up p ⟨#[]⟩
 have hm:=(Ch.many_le p).2
 have hl:(Ch.ctx p ⟨#[]⟩).parts.length=Ch.many p:=by unfold Ch.ctx;simp only [Ch.pnms_len]
 rw [hl] at h
 unfold pickG
 omega
end Fl
end Go.Proofs.Ytcnmaplopbbmaaa
