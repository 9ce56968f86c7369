/- Plain law: a graph that may be: what its tasks hold, its interactions (as the document has them, and as the game has them), where the first tokens are. No program. -/
import Derived.Test.YtcnmaplopbbmaaaGreatRLab
import Derived.Test.YtcnmaplopbbmaaaGreatMAz
import Derived.Test.YtcnmaplopbbmaaaGreatMAn
import Derived.Test.YtcnmaplopbbmaaaGreatGComp2
import Derived.Test.YtcnmaplopbbmaaaGreatFlow
namespace Go.Proofs.YtcnmaplopbbmaaaGreat
open Go.RowKit
namespace Gr
theorem ltL_lex {a b:Lb} (h:a.1 < b.1∨(a.1=b.1∧(a.2.1 < b.2.1∨(a.2.1=b.2.1∧a.2.2 < b.2.2)))):ltL a b:=by
 unfold ltL
 omega
theorem rising_eq:∀ {L M:List Lb},L.Pairwise ltL→M.Pairwise ltL→(∀ x,x∈L↔x∈M)→L=M
 | [],[],_,_,_=>rfl
 | [],y :: M,_,_,h=>by have:=(h y).2 (by simp);simp at this
 | x :: L,[],_,_,h=>by have:=(h x).1 (by simp);simp at this
 | x :: L,y :: M,hL,hM,h=>by
  rw [List.pairwise_cons] at hL hM
  have hxy:x=y:=by
   have h1:=(h x).1 (by simp)
   have h2:=(h y).2 (by simp)
   rcases List.mem_cons.1 h1 with e | e
   ·exact e
   ·rcases List.mem_cons.1 h2 with e2 | e2
    ·exact e2.symm
    ·exact absurd rfl (ltL_ne (ltL_trans (hL.1 y e2) (hM.1 x e)))
  subst hxy
  congr 1
  refine rising_eq hL.2 hM.2 fun z=>?_
  have hz:=h z
  rw [List.mem_cons,List.mem_cons] at hz
  constructor
  ·intro hm
   rcases hz.1 (.inr hm) with e | e
   ·subst e;exact absurd rfl (ltL_ne (hL.1 z hm))
   ·exact e
  ·intro hm
   rcases hz.2 (.inr hm) with e | e
   ·subst e;exact absurd rfl (ltL_ne (hM.1 z hm))
   ·exact e
theorem srt_pair {L:List Lb} (h:Srt L):L.Pairwise ltL:=by
 rw [List.pairwise_iff_getElem]
 intro i j hi hj hij
 have:=h i j hij hj
 rwa [List.getD_eq_getElem?_getD,List.getD_eq_getElem?_getD,List.getElem?_eq_getElem hi,List.getElem?_eq_getElem hj] at this
theorem G.labels_rising (g:G):g.labels.Pairwise ltL:=by
 unfold G.labels G.la
 rw [List.pairwise_flatMap]
 refine ⟨fun a _=>?_,?_⟩
 ·unfold G.lb
  rw [List.pairwise_flatMap]
  refine ⟨fun b _=>?_,?_⟩
  ·unfold G.lm
   rw [List.pairwise_flatMap]
   refine ⟨fun m _=>by split <;> simp,?_⟩
   refine List.pairwise_lt_range.imp fun {m m'} hm x hx y hy=>?_
   split at hx <;> simp at hx
   split at hy <;> simp at hy
   subst hx hy
   exact ltL_lex (.inr ⟨rfl,.inr ⟨rfl,by show (m:Int) < m';omega⟩⟩)
  ·refine List.pairwise_lt_range.imp fun {b b'} hb x hx y hy=>?_
   unfold G.lm at hx hy
   rw [List.mem_flatMap] at hx hy
   obtain ⟨m,_,hx⟩:=hx
   obtain ⟨m',_,hy⟩:=hy
   split at hx <;> simp at hx
   split at hy <;> simp at hy
   subst hx hy
   exact ltL_lex (.inr ⟨rfl,.inl (by show (b:Int) < b';omega)⟩)
 ·refine List.pairwise_lt_range.imp fun {a a'} ha x hx y hy=>?_
  unfold G.lb at hx hy
  rw [List.mem_flatMap] at hx hy
  obtain ⟨b,_,hx⟩:=hx
  obtain ⟨b',_,hy⟩:=hy
  unfold G.lm at hx hy
  rw [List.mem_flatMap] at hx hy
  obtain ⟨m,_,hx⟩:=hx
  obtain ⟨m',_,hy⟩:=hy
  split at hx <;> simp at hx
  split at hy <;> simp at hy
  subst hx hy
  exact ltL_lex (.inl (by show (a:Int) < a';omega))
theorem G.mem_labels (g:G) (x:Lb):x∈g.labels↔0≤x.1∧x.1 < g.np∧0≤x.2.1∧x.2.1 < g.np∧0≤x.2.2∧x.2.2 < g.nm∧g.ns.any (labIs x.1 x.2.1 x.2.2)=true:=by
 unfold G.labels G.la G.lb G.lm G.isN
 simp only [List.mem_flatMap,List.mem_range,List.take_length]
 constructor
 ·rintro ⟨a,ha,b,hb,m,hm,h⟩
  split at h <;> simp at h
  rename_i hi
  subst h
  exact ⟨by simp,by simpa using ha,by simp,by simpa using hb,by simp,by simpa using hm,hi⟩
 ·rintro ⟨h0,h1,h2,h3,h4,h5,h6⟩
  obtain ⟨x0,x1,x2⟩:=x
  simp only at h0 h1 h2 h3 h4 h5 h6
  obtain ⟨a,rfl⟩:=Int.eq_ofNat_of_zero_le h0
  obtain ⟨b,rfl⟩:=Int.eq_ofNat_of_zero_le h2
  obtain ⟨m,rfl⟩:=Int.eq_ofNat_of_zero_le h4
  exact ⟨a,by omega,b,by omega,m,by omega,by rw [if_pos h6];simp⟩
theorem G.mem_gath (g:G) (x:Lb):x∈g.gath g.ns.length↔∃ n∈g.ns,n.kind=3∧(x=n.first∨(0≤n.rep∧x=n.back)):=by
 unfold G.gath labs
 rw [List.take_length,List.mem_flatMap]
 constructor
 ·rintro ⟨n,hn,h⟩
  refine ⟨n,hn,?_⟩
  simp [List.range_succ,lab1] at h
  rcases h with h | h
  ·exact ⟨h.1,.inl h.2⟩
  ·exact ⟨h.1.1,.inr ⟨h.1.2,h.2⟩⟩
 ·rintro ⟨n,hn,hk,h⟩
  refine ⟨n,hn,?_⟩
  simp [List.range_succ,lab1,hk]
  rcases h with h | h
  ·exact .inl h
  ·exact .inr h
theorem G.chkN_none (g:G):∀ k i,g.chkN i k=none→∀ j,i≤j→j < i+k→g.nodeOk (g.nd j)=true∧g.nodeBad j=false
 | 0,i,_,j,h1,h2=>by omega
 | k+1,i,h,j,h1,h2=>by
  rw [G.chkN] at h
  split at h
  ·cases h
  ·split at h
   ·cases h
   ·rename_i a b
    by_cases hj:j=i
    ·subst hj
     exact ⟨by simpa using a,by simpa using b⟩
    ·exact g.chkN_none k (i+1) h j (by omega) (by omega)
theorem G.chkE_none (g:G):∀ k i,g.chkE i k=none→∀ j,i≤j→j < i+k→g.edgeOk (g.es.getD j (0,0))=true
 | 0,i,_,j,h1,h2=>by omega
 | k+1,i,h,j,h1,h2=>by
  rw [G.chkE] at h
  split at h
  ·cases h
  ·rename_i a
   by_cases hj:j=i
   ·subst hj;simpa using a
   ·exact g.chkE_none k (i+1) h j (by omega) (by omega)
structure G.May (g:G):Prop where
 np:g.np≤16
 pl:g.places≤64
 node:∀ j,j < g.ns.length→g.nodeOk (g.nd j)=true
 bad:∀ j,j < g.ns.length→g.nodeBad j=false
 edge:∀ j,j < g.es.length→g.edgeOk (g.es.getD j (0,0))=true
 one:starts g.ns g.ns.length=1
theorem G.check_may {g:G} (h:g.check=0):g.May:=by
 unfold G.check at h
 split at h
 ·cases h
 ·rename_i h0
  cases hn:g.chkN 0 g.ns.length with
  | some c =>
   rw [hn] at h
   simp only at h
   exfalso
   have key:∀ k i c,g.chkN i k=some c→c≠0:=by
    intro k
    induction k with
    | zero=>intro i c h;cases h
    | succ k ih =>
     intro i c h
     rw [G.chkN] at h
     split at h
     ·cases h;decide
     ·split at h
      ·cases h;decide
      ·exact ih _ _ h
   exact key _ _ _ hn h
  | none =>
   rw [hn] at h
   simp only at h
   cases he:g.chkE 0 g.es.length with
   | some c =>
    rw [he] at h
    simp only at h
    exfalso
    have key:∀ k i c,g.chkE i k=some c→c≠0:=by
     intro k
     induction k with
     | zero=>intro i c h;cases h
     | succ k ih =>
      intro i c h
      rw [G.chkE] at h
      split at h
      ·cases h;decide
      ·exact ih _ _ h
    exact key _ _ _ he h
   | none =>
    rw [he] at h
    simp only at h
    split at h
    ·cases h
    ·rename_i h1
     exact ⟨by omega,by omega,fun j hj=>(g.chkN_none _ _ hn j (by omega) (by omega)).1,fun j hj=>(g.chkN_none _ _ hn j (by omega) (by omega)).2,fun j hj=>g.chkE_none _ _ he j (by omega) (by omega),by omega⟩
theorem G.May.task {g:G} (h:g.May) {n:Nd} (hn:n∈g.ns) (hk:n.kind=3):0≤n.fr∧n.fr < g.np∧0≤n.to∧n.to < g.np∧n.fr≠n.to∧0≤n.msg∧n.msg < g.nm∧-1≤n.rep∧n.rep < g.nm:=by
 obtain ⟨j,hj,rfl⟩:=List.mem_iff_getElem.1 hn
 have:=h.node j hj
 have e:g.nd j=g.ns[j]:=by unfold G.nd;rw [List.getD_eq_getElem?_getD,List.getElem?_eq_getElem hj];rfl
 rw [e] at this
 unfold G.nodeOk G.partOk at this
 rw [hk] at this
 simp at this
 omega
theorem G.May.labels {g:G} (h:g.May) {L:List Lb} (hL:LabOf g L):L=g.labels:=by
 refine rising_eq (srt_pair hL.srt) g.labels_rising fun x=>?_
 rw [hL.mem,g.mem_gath,g.mem_labels]
 constructor
 ·rintro ⟨n,hn,hk,hx⟩
  have ht:=h.task hn hk
  rcases hx with rfl | ⟨hr,rfl⟩
  ·refine ⟨ht.1,ht.2.1,ht.2.2.1,ht.2.2.2.1,ht.2.2.2.2.2.1,ht.2.2.2.2.2.2.1,?_⟩
   rw [List.any_eq_true]
   exact ⟨n,hn,by simp [labIs,hk,Nd.first]⟩
  ·refine ⟨ht.2.2.1,ht.2.2.2.1,ht.1,ht.2.1,hr,ht.2.2.2.2.2.2.2.2,?_⟩
   rw [List.any_eq_true]
   exact ⟨n,hn,by simp [labIs,hk,Nd.back]⟩
 ·rintro ⟨_,_,_,_,h4,_,h6⟩
  rw [List.any_eq_true] at h6
  obtain ⟨n,hn,hi⟩:=h6
  simp [labIs] at hi
  obtain ⟨hk,hi⟩:=hi
  refine ⟨n,hn,hk,?_⟩
  obtain ⟨x0,x1,x2⟩:=x
  rcases hi with ⟨⟨e1,e2⟩,e3⟩ | ⟨⟨e1,e2⟩,e3⟩
  ·exact .inl (by simp [Nd.first] at *;omega)
  ·exact .inr ⟨by simp at *;omega,by simp [Nd.back] at *;omega⟩
theorem idx_mem {L:List Lb} {x:Lb} (h:x∉L):idx L x=-1:=idx_miss fun k hk e=>h (by rw [← e,List.getD_eq_getElem?_getD,List.getElem?_eq_getElem hk];exact List.getElem_mem hk)
theorem G.May.zero {g:G} (h:g.May):∀ i < g.ns.length,(g.nd i).kind=3→(g.nd i).rep < 0→idx g.labels (0,0,0)=idx g.labels (g.nd i).back:=by
 intro i hi hk hr
 rw [idx_mem,idx_mem]
 ·rw [g.mem_labels]
  rintro ⟨_,_,_,_,h4,_⟩
  simp [Nd.back] at h4
  omega
 ·rw [g.mem_labels]
  rintro ⟨_,_,_,_,_,_,h6⟩
  rw [List.any_eq_true] at h6
  obtain ⟨n,hn,hi⟩:=h6
  simp [labIs] at hi
  have:=h.task hn hi.1
  omega
end Gr
end Go.Proofs.YtcnmaplopbbmaaaGreat
namespace Go.Proofs.YtcnmaplopbbmaaaGreat
open Go.RowKit
namespace Gr
def G.firstL (g:G) (k:Nat):List Bool:=(List.range 64).map fun j=>decide (j < k) && (g.nd (g.es.getD j (0,0)).1.toNat).kind == 1
theorem G.firstL_len (g:G) (k:Nat):(g.firstL k).length=64:=by simp [firstL]
theorem G.firstL_zero (g:G):g.firstL 0=List.replicate 64 false:=by
 unfold firstL
 simp only [Nat.not_lt_zero,decide_false,Bool.false_and]
 rfl
theorem G.firstL_step (g:G) (k:Nat):(g.firstL k).set k ((g.nd (g.es.getD k (0,0)).1.toNat).kind == 1)=g.firstL (k+1):=by
 refine List.ext_getElem (by simp [firstL]) fun i h1 h2=>?_
 rw [List.getElem_set]
 simp only [firstL,List.getElem_map,List.getElem_range]
 by_cases h:k=i
 ·subst h;simp
 ·have:(i < k)=(i < k+1):=by apply propext;omega
  simp [h,this]
theorem puts_get (l:List Int):∀ t:Tk,InP l→∀ j,j < t.1.length→(l.foldl put1 t).1.getD j false=(t.1.getD j false || decide ((j:Int)∈l)):=by
 induction l with
 | nil=>intro t _ j _;simp
 | cons p l ih =>
  intro t hl j hj
  have hp:=hl p (by simp)
  rw [List.foldl_cons,ih _ (fun q hq=>hl q (by simp [hq])) j (by rw [put1_len];exact hj)]
  unfold put1
  simp only [List.getD_eq_getElem?_getD,List.getElem?_set]
  by_cases e:(j:Int)=p
  ·subst e
   simp [hj]
  ·rw [if_neg (by omega)]
   simp [e]
theorem outE_iff (es:List Ed) (n:Int) (p:Int):∀ k,p∈outE es n k↔∃ j:Nat,j < k∧p=j∧(es.getD j (0,0)).1=n
 | 0=>by simp [outE]
 | k+1=>by
  rw [outE,List.mem_append,outE_iff es n p k]
  constructor
  ·rintro (⟨j,hj,h⟩ | h)
   ·exact ⟨j,by omega,h⟩
   ·split at h <;> simp at h
    rename_i e
    exact ⟨k,by omega,h,e⟩
  ·rintro ⟨j,hj,h,e⟩
   by_cases hk:j=k
   ·subst hk
    exact .inr (by rw [if_pos e];simp [h])
   ·exact .inl ⟨j,by omega,h,e⟩
theorem starts_none (ns:List Nd):∀ k,starts ns k=0→∀ j,j < k→(ns.getD j nd0).kind≠1
 | 0,_,j,hj=>by omega
 | k+1,h,j,hj=>by
  rw [starts] at h
  by_cases e:j=k
  ·subst e
   intro he
   rw [if_pos he] at h
   omega
  ·exact starts_none ns k (by omega) j (by omega)
theorem starts_one (ns:List Nd):∀ k,starts ns k=1→∀ i j,i < k→j < k→(ns.getD i nd0).kind=1→(ns.getD j nd0).kind=1→i=j
 | 0,_,i,j,hi,_,_,_=>by omega
 | k+1,h,i,j,hi,hj,ei,ej=>by
  rw [starts] at h
  by_cases e:(ns.getD k nd0).kind=1
  ·rw [if_pos e] at h
   have h0:=starts_none ns k (by omega)
   by_cases h1:i=k
   ·by_cases h2:j=k
    ·omega
    ·exact absurd ej (h0 j (by omega))
   ·exact absurd ei (h0 i (by omega))
  ·rw [if_neg e] at h
   have hne:∀ q,(ns.getD q nd0).kind=1→q≠k:=fun q hq e2=>e (by rw [← e2];exact hq)
   exact starts_one ns k (by omega) i j (by have:=hne i ei;omega) (by have:=hne j ej;omega) ei ej
theorem starts_some (ns:List Nd):∀ k,starts ns k≠0→∃ j,j < k∧(ns.getD j nd0).kind=1
 | 0,h=>absurd rfl h
 | k+1,h=>by
  rw [starts] at h
  by_cases e:(ns.getD k nd0).kind=1
  ·exact ⟨k,by omega,e⟩
  ·rw [if_neg e] at h
   obtain ⟨j,hj,e⟩:=starts_some ns k (by omega)
   exact ⟨j,by omega,e⟩
theorem start1_at (ns:List Nd):∀ k i s:Nat,i≤s→s < i+k→(ns.getD s nd0).kind=1→(∀ j,i≤j→j < s→(ns.getD j nd0).kind≠1)→start1 ns i k=s
 | 0,i,s,h1,h2,_,_=>by omega
 | k+1,i,s,h1,h2,h3,h4=>by
  rw [start1]
  by_cases e:i=s
  ·subst e
   rw [if_pos h3]
  ·rw [if_neg (h4 i (by omega) (by omega))]
   exact start1_at ns k (i+1) s (by omega) (by omega) h3 fun j a b=>h4 j (by omega) b
theorem start1_hit (ns:List Nd) {n:Nat} (s:Nat) (hs:s < n) (e:(ns.getD s nd0).kind=1) (h:∀ j,j < s→(ns.getD j nd0).kind≠1):start1 ns 0 n=s:=start1_at ns n 0 s (by omega) (by omega) e fun j _ hj=>h j hj
theorem G.May.start {g:G} (h:g.May):∃ s:Nat,g.start=s∧s < g.ns.length∧∀ j,j < g.ns.length→((g.nd j).kind=1↔j=s):=by
 obtain ⟨s,hs,e⟩:=starts_some g.ns g.ns.length (by rw [h.one];decide)
 refine ⟨s,?_,hs,fun j hj=>⟨fun ej=>starts_one g.ns g.ns.length h.one j s hj hs ej e,fun ej=>by subst ej;exact e⟩⟩
 unfold G.start
 exact start1_hit (n:=g.ns.length) g.ns s hs e (fun j hj ej=>by have:=starts_one g.ns g.ns.length h.one j s (by omega) hs ej e;omega)
theorem G.May.fit {g:G} (h:g.May) (hf:g.Few):g.Fit:=⟨hf,h.pl⟩
theorem G.May.firstL {g:G} (h:g.May) (hf:g.Few):g.first.1=g.firstL g.es.length:=by
 obtain ⟨s,hs,hs1,hs2⟩:=h.start
 have hl:g.first.1.length=64:=by
  unfold G.first
  rw [G.outT_len]
  simp [t0]
 refine List.ext_getElem (by rw [hl,G.firstL_len]) fun j h1 h2=>?_
 rw [hl] at h1
 have e:=puts_get (g.out g.start) t0 ((h.fit hf).out g.start) j (by simp [t0];exact h1)
 have e2:g.first.1.getD j false=_:=e
 rw [List.getD_eq_getElem?_getD,List.getElem?_eq_getElem (by rw [hl];exact h1)] at e2
 simp only [Option.getD_some] at e2
 rw [e2]
 have e3:t0.1.getD j false=false:=by
  have:∀ n j:Nat,(List.replicate n false).getD j false=false:=fun n j=>by
   rw [List.getD_eq_getElem?_getD,List.getElem?_replicate]
   split <;> rfl
  exact this 64 j
 rw [e3,Bool.false_or]
 simp only [G.firstL,List.getElem_map,List.getElem_range]
 rw [Bool.eq_iff_iff]
 simp only [decide_eq_true_eq,Bool.and_eq_true,beq_iff_eq]
 unfold G.out
 rw [outE_iff]
 constructor
 ·rintro ⟨k,hk,e,ek⟩
  have:k=j:=by omega
  subst this
  refine ⟨hk,?_⟩
  rw [ek,hs,Int.toNat_natCast]
  exact (hs2 s hs1).2 rfl
 ·rintro ⟨hj,ek⟩
  refine ⟨j,hj,rfl,?_⟩
  have he:=h.edge j hj
  simp [G.edgeOk] at he
  have:=(hs2 (g.es.getD j (0,0)).1.toNat (by simp;omega)).1 ek
  rw [hs]
  simp at this ⊢
  omega
end Gr
end Go.Proofs.YtcnmaplopbbmaaaGreat
namespace Go.Proofs.YtcnmaplopbbmaaaGreat
open Go.RowKit
set_option maxRecDepth 100000 in
set_option maxHeartbeats 1000000 in
theorem rfind_any (v:Value) (L:List Gr.Lb) (x:Gr.Lb) (W:World) (hL:L.length≤1000000) (h:Gr.LbsAt W v L) :
  Calls Tryz.prog 80 #[v,.agg (Gr.lcells x).toArray] W fun e w'=>e=.returned (.int .i64 (Gr.idx L x))∧Flow.Grow W w':=by
 have H:=Lib.hid h
 obtain ⟨ao,ac,rfl⟩:=h.form
 obtain ⟨n,hn⟩:∃ k,k=L.length:=⟨_,rfl⟩
 have Hn:=Lib.hid hn
 rw [← hn] at hL H ⊢
 clear h hn
 obtain ⟨R,hR⟩:∃ R,R=Gr.idx L x:=⟨_,rfl⟩
 have HR:=Lib.hid hR
 rw [← hR]
 clear hR
 obtain ⟨y0,y1,y2⟩:=x
 show Calls _ _ #[_,.agg #[.int .i64 y0,.int .i64 y1,.int .i64 y2]] W _
 go_enter Tryz.func80,Tryz.ntmps80
 go_upto_region 1 with fail
 have HBw10:Hid ((W.alloc (.cells #[.int .i64 y0,.int .i64 y1,.int .i64 y2] 104)).heap[W.heap.size]? = some (.cells #[.int .i64 y0,.int .i64 y1,.int .i64 y2] 104 (0,0))):=Lib.hid (lay1_0 _ _)
 have HGw1:Hid (Flow.Grow W (W.alloc (.cells #[.int .i64 y0,.int .i64 y1,.int .i64 y2] 104))):=Lib.hid (lay1_g _ _)
 have HSw1:Hid ((W.alloc (.cells #[.int .i64 y0,.int .i64 y1,.int .i64 y2] 104)).heap.size=W.heap.size+1):=Lib.hid (by simp)
 generalize W.alloc (.cells #[.int .i64 y0,.int .i64 y1,.int .i64 y2] 104)=w1 at *
 obtain ⟨X,hX⟩:∃ X,X=W.heap.size:=⟨_,rfl⟩
 rw [← hX] at HBw10 HSw1 ⊢
 have HXw1:=Lib.hid hX
 clear hX
 have CXw1:Hid (∀ wq,Flow.Grow w1 wq→wq.cell? ⟨X,0,none⟩=some (.int .i64 y0)∧wq.cell? ⟨X,1,none⟩=some (.int .i64 y1)∧wq.cell? ⟨X,2,none⟩=some (.int .i64 y2)):=Lib.hid (fun wq g=>⟨lay_cell g HBw10.out rfl,lay_cell g HBw10.out rfl,lay_cell g HBw10.out rfl⟩)
 have FXw1:Hid (∀ wq,Flow.Grow w1 wq→(∀ k,wq.frozen? ⟨X,k,none⟩=false)):=Lib.hid (fun wq g=>fun k=>lay_frozen g HBw10.out k)
 have HL:=Lib.hid (Gr.Recs.grow H.out HGw1.out)
 go_wp2_with fail
 go_loopw [5] (fun vi wr=>∃ j:Nat,j≤n∧vi=.int .i64 j∧Hid (∀ k,k < j→L.getD k (0,0,0)≠(y0,y1,y2))∧Hid (Flow.Grow w1 wr)) (fun vi _=>n - (intOf vi).toNat)
 case atStart=>exact ⟨0,by omega,rfl,Lib.hid (fun k hk=>by omega),Lib.hid (Flow.grow_refl _)⟩
 case round =>
  obtain ⟨j,hj,rfl,HB,HG⟩:=hrel
  rename World=>wr
  by_cases hjn:j < n
  ·obtain ⟨b,off,rfl,p0,p1,p2⟩:=Gr.LbsAt.at HL.out (j:=j) (by rw [← Hn.out];exact hjn)
   obtain ⟨x,hx⟩:∃ x,x=L.getD j (0,0,0):=⟨_,rfl⟩
   have Hx:=Lib.hid hx
   rw [← hx] at p0 p1 p2
   clear hx
   obtain ⟨x0,x1,x2⟩:=x
   simp only at p0 p1 p2
   obtain ⟨t,ht⟩:∃ t:Bool,t=(decide (x0=y0) && decide (x1=y1) && decide (x2=y2)):=⟨_,rfl⟩
   have HV:=Lib.hid ht
   clear ht
   go_upto_region 4 with fail
   obtain ⟨c00,c01,c02⟩:=CXw1.out wr (HG.out)
   refine Flow.region_grown (Fs:=[.inl ((.slice (some ⟨b,off,none⟩) n ac)),.inl ((.int .i64 (j:Int))),.inl ((.pointer (some ⟨b,off+j * 3,none⟩))),.inl ((.agg #[.int .i64 x0,.int .i64 x1,.int .i64 x2])),.inl ((.agg #[.int .i64 y0,.int .i64 y1,.int .i64 y2])),.inl ((.bool t))])
    (S:=[[],[],[0,1],[2],[],[3,4]]) (by kernel_rfl) (by kernel_rfl) (by kernel_rfl) rfl ?stab4 ?ones4 ?ends4
   case ones4 =>
    refine Flow.Ones.cons ?_ ?_
    ·intro a w hC hoff _
     have e0:a.eval (.tmp 0)=(.slice (some ⟨b,off,none⟩) n ac):=hoff.at 0 (by kernel_rfl)
     refine .inl ⟨Flow.want_none rfl,?_⟩
     exact Flow.run_same (Flow.exec_move (.inl rfl) e0) Flow.grow_refl
    refine Flow.Ones.cons ?_ ?_
    ·intro a w hC hoff _
     have e5:a.eval (.tmp 5)=(.int .i64 (j:Int)):=hoff.at 5 (by kernel_rfl)
     refine .inl ⟨Flow.want_none rfl,?_⟩
     exact Flow.run_same (Flow.exec_move (.inl rfl) e5) Flow.grow_refl
    refine Flow.Ones.cons ?_ ?_
    ·rintro a w hC hoff ⟨k0,k1,-⟩
     have e12:a.eval (.tmp 12)=(.slice (some ⟨b,off,none⟩) n ac):=k0 12 rfl
     have e13:a.eval (.tmp 13)=(.int .i64 (j:Int)):=k1 13 rfl
     refine .inl ⟨Flow.want_none rfl,?_⟩
     refine Flow.run_same ?_ Flow.grow_refl
     have ec:=Flow.eval_const a
     generalize a.eval=ρ at e12 e13 ec ⊢
     simp [execOp,e12,e13,go_sem];intro hh;omega
    refine Flow.Ones.cons ?_ ?_
    ·rintro a w hC hoff ⟨k2,-⟩
     have e14:a.eval (.tmp 14)=(.pointer (some ⟨b,off+j * 3,none⟩)):=k2 14 rfl
     refine .inl ⟨Flow.want_none rfl,?_⟩
     refine Flow.run_same ?_ Flow.grow_refl
     have ec:=Flow.eval_const a
     generalize a.eval=ρ at e14 ec ⊢
     have h0:=Xm2.cell_grow (HG.out.trans hC) p0
     have h1:=Xm2.cell_grow (HG.out.trans hC) p1
     have h2:=Xm2.cell_grow (HG.out.trans hC) p2
     simp [execOp,e14,h0,h1,h2,go_sem]
    refine Flow.Ones.cons ?_ ?_
    ·intro a w hC hoff _
     have e3:a.eval (.tmp 3)=(.pointer (some ⟨X,0,none⟩)):=hoff.at 3 (by kernel_rfl)
     refine .inl ⟨Flow.want_none rfl,?_⟩
     refine Flow.run_same ?_ Flow.grow_refl
     have ec:=Flow.eval_const a
     generalize a.eval=ρ at e3 ec ⊢
     have h0:=Xm2.cell_grow hC c00
     have h1:=Xm2.cell_grow hC c01
     have h2:=Xm2.cell_grow hC c02
     simp [execOp,e3,h0,h1,h2,go_sem]
    refine Flow.Ones.cons ?_ ?_
    ·rintro a w hC hoff ⟨k3,k4,-⟩
     have e15:a.eval (.tmp 15)=(.agg #[.int .i64 x0,.int .i64 x1,.int .i64 x2]):=k3 15 rfl
     have e16:a.eval (.tmp 16)=(.agg #[.int .i64 y0,.int .i64 y1,.int .i64 y2]):=k4 16 rfl
     refine .inl ⟨Flow.want_none rfl,?_⟩
     refine Flow.run_same ?_ Flow.grow_refl
     have ec:=Flow.eval_const a
     generalize a.eval=ρ at e15 e16 ec ⊢
     have hv:=HV.out
     simp [execOp,e15,e16,guard_lab,run_eql_struct,go_sem];rw [hv];by_cases h1:x0=y0 <;> by_cases h2:x1=y1 <;> by_cases h3:x2=y2 <;> simp [h1,h2,h3]
    exact trivial
   case stab4=>exact trivial
   case ends4 =>
    intro w3 hg
    simp only [Flow.ends]
    simp only [Act.put,List.setIfInBounds_toArray,List.set_cons_succ,List.set_cons_zero]
    have HG3:=Lib.hid (HG.out.trans hg)
    clear hg c00 c01 c02 p0 p1 p2
    cases t with
    | true =>
     have HE:Hid (R=(j:Int)):=Lib.hid (by
      have:=HV.out
      simp at this
      rw [HR.out]
      exact Gr.idx_first (by rw [← Hn.out];exact hjn) (by rw [← Hx.out];simp [this]) HB.out)
     go_wp2_with fail
     go_ret
     exact ⟨by rw [HE.out];rfl,HGw1.out.trans HG3.out⟩
    | false =>
     have HB2:Hid (∀ k,k < j+1→L.getD k (0,0,0)≠(y0,y1,y2)):=Lib.hid fun k hk=>by
      by_cases h:k < j
      ·exact HB.out k h
      ·obtain rfl:k=j:=by omega
       rw [← Hx.out]
       have:=HV.out
       intro e
       cases e
       simp at this
     go_wp2_with fail
     go_roundw
     case rel=>exact ⟨j+1,by omega,by go_num,HB2,HG3⟩
     case measure=>simp [intOf];omega
  ·obtain rfl:j=n:=by omega
   have HE:Hid (R=-1):=Lib.hid (by rw [HR.out];exact Gr.idx_none fun k hk=>HB.out k (by rw [Hn.out];exact hk))
   go_wp2_with fail
   go_ret
   exact ⟨by rw [HE.out];rfl,HGw1.out.trans HG.out⟩
end Go.Proofs.YtcnmaplopbbmaaaGreat
namespace Go.Proofs.YtcnmaplopbbmaaaGreat
open Go.RowKit
namespace Flow
def seat (o:Oper):Option Tmp:=match o.dst with
 | some d=>some d
 | none=>match o.op with
  | .store _ (.tmp s) _=>some s
  | _=>none
def seatOf (ops:Array Oper) (k:Nat):Option Tmp:=(ops[k]?).bind seat
def knownS (ops:Array Oper) (Fs:List Fact) (a:Act) (w:World) (k:Nat):Prop :=
 ∀ d,seatOf ops k=some d→holds (Fs.getD k (.inr fun _ _=>True)) (a.eval (.tmp d)) w
def factsS (ops:Array Oper) (Fs:List Fact) (a:Act) (w:World):List Nat→Prop
 | []=>True
 | k :: r=>knownS ops Fs a w k∧factsS ops Fs a w r
theorem factsS_mem {ops:Array Oper} {Fs:List Fact} {a:Act} {w:World}:∀ {l:List Nat},(∀ k∈l,knownS ops Fs a w k)→factsS ops Fs a w l
 | [],_=>trivial
 | k :: r,h=>⟨h k (by simp),factsS_mem fun j hj=>h j (by simp [hj])⟩
def told (o:Oper) (f:Fact) (a:Act) (v:Value) (w':World):Prop:=match o.dst with
 | some _=>holds f v w'
 | none=>∀ s,seat o=some s→holds f (a.eval (.tmp s)) w'
def OneS (P:Program) (ops:Array Oper) (Q:Exit→Act→World→Prop) (a0:Act) (C:Act→World→Prop) (Fs:List Fact) (i:Nat) (ks:List Nat) (f:Fact) (o:Oper):Prop :=
 ∀ a w,C a w→Off ops a0 a→factsS ops Fs a w ks →
  (Region.wanted o (yielded ops a.tmps)=true∧o.wp P a w (fun a' w'=>∃ v,a'=a.put o.dst v∧C a' w'∧(∀ k,k≠i→(∀ d,o.dst=some d→seatOf ops k≠some d)→knownS ops Fs a w k→knownS ops Fs a' w' k)∧told o f a v w') Q) ∨
  (Region.wanted o (yielded ops a.tmps)=false∧o.dst.isSome=true∧C (a.put o.dst undef) w∧holds f undef w)
def OnesS (P:Program) (ops:Array Oper) (Q:Exit→Act→World→Prop) (a0:Act) (C:Act→World→Prop) (Fs:List Fact):Nat→List Oper→List (List Nat)→List Fact→Prop
 | i,o :: l,ks :: S,f :: F=>OneS P ops Q a0 C Fs i ks f o∧OnesS P ops Q a0 C Fs (i+1) l S F
 | _,[],_,_=>True
 | _,_,_,_=>False
theorem OnesS.cons {P:Program} {ops:Array Oper} {Q:Exit→Act→World→Prop} {a0:Act} {C:Act→World→Prop} {Fs:List Fact} {i:Nat} {o:Oper} {l:List Oper} {ks:List Nat} {S:List (List Nat)} {f:Fact} {F:List Fact}
  (h:OneS P ops Q a0 C Fs i ks f o) (k:OnesS P ops Q a0 C Fs (i+1) l S F):OnesS P ops Q a0 C Fs i (o :: l) (ks :: S) (f :: F):=⟨h,k⟩
section
variable {P:Program} {ops:Array Oper} {Q:Exit→Act→World→Prop} {a0:Act} {C:Act→World→Prop} {Fs:List Fact} {S:List (List Nat)}
end
theorem OneS.quiet {P:Program} {ops:Array Oper} {Q:Exit→Act→World→Prop} {a0:Act} {C:Act→World→Prop} {Fs:List Fact} {i:Nat} {ks:List Nat} {f:Fact} {o:Oper} {d:Tmp} (hd:o.dst=some d) (hst:Stable Grow Fs)
  (hC:∀ a w w' v,C a w→Grow w w'→C (a.put (some d) v) w')
  (h:∀ a w,C a w→Off ops a0 a→factsS ops Fs a w ks→Region.wanted o (yielded ops a.tmps)=true∧o.wp P a w (fun a' w'=>∃ v,a'=a.put o.dst v∧Grow w w'∧holds f v w') Q):OneS P ops Q a0 C Fs i ks f o:=by
 intro a w hCw hoff hf
 obtain ⟨hw,hwp⟩:=h a w hCw hoff hf
 refine .inl ⟨hw,Oper.wp_mono (fun a' w' ⟨v,e,hg,hv⟩=>?_) hwp⟩
 subst e
 refine ⟨v,rfl,by rw [hd];exact hC _ _ _ _ hCw hg,fun k hk hs hkn d' hd'=>?_,by unfold told;rw [hd];exact hv⟩
 rw [hd,eval_put_ne (fun e=>hs d hd (by rw [hd',e]))]
 exact holds_stable hst k _ _ _ hg (hkn d' hd')
end Flow
end Go.Proofs.YtcnmaplopbbmaaaGreat
