/- Ev: a function's code, run on what is Qh5 of its values. Sixth part: append, texts, comparisons; what asks nothing of the world. No program. -/
import Derived.Test.YtcpodmjcgfgmnaaGreatMEva
import Derived.MapKept
import Derived.DeepKeys3
namespace Go.Proofs.YtcpodmjcgfgmnaaGreat
open Go.RowKit
namespace Ev
variable {P:Program}
theorem Res.killed {m:M} {st:St} {w:World} (hs:SR m st.h w) {i:Nat} {o:O} (ho:st.h[i]?=some o):Res m st w m ⟨st.h.set i { o with live:=false,cells:=[] },min st.lo i⟩ w:=by
 have hi:=(List.getElem?_eq_some_iff.1 ho).1;refine ⟨hs.kill i o ho,Fr.refl _ w hs.dom,by simp,Nat.min_le_left _ _,fun j hj hjl=>?_⟩;have:j≠i:=by
  have h1:min st.lo i≤i:=Nat.min_le_right _ _;have hjl':j < min st.lo i:=hjl;omega
 simp [Ne.symm this]
theorem Res.draw {m:M} {st:St} {w w':World} (hr:Res m st w m st w'):Res m st w m st w'.drew :=
 ⟨hr.sr.drew,⟨hr.fr.same,hr.fr.back,hr.fr.new,hr.fr.size,hr.fr.os,hr.fr.tape,hr.fr.output,hr.fr.keep⟩,hr.len,hr.lo,hr.old⟩
theorem Res.draw2 {m:M} {st st1:St} {w:World} (hr:Res m st w m st1 w):Res m st w m st1 w.drew :=
 ⟨hr.sr.drew,⟨hr.fr.same,hr.fr.back,hr.fr.new,hr.fr.size,hr.fr.os,hr.fr.tape,hr.fr.output,hr.fr.keep⟩,hr.len,hr.lo,hr.old⟩
theorem Res.drew {m:M} {st:St} {w:World} (hs:SR m st.h w):Res m st w m st w.drew:=(Res.refl hs).draw
theorem Res.draw' {m m':M} {st st1 st':St} {w w':World} (hr:Res m st w m st1 w) (k:Res m st1 w.drew m' st' w'):Res m st w m' st' w' :=
 hr.draw2.trans k
theorem Res.room {m:M} {st:St} {w:World} (hs:SR m st.h w) {i:Nat} {p:Pl} {o:O} (hm:m i=some p) (ho:st.h[i]?=some o) (hl:o.live=true) (hrw:o.rw=true)
  {cur:Array Value} (hb:w.heap[p.b]?=some (.cells cur o.ty (0,0))) (cs:List C) (cur':Array Value) (hsz:cur'.size=cur.size) (q:Pl) (hqb:q.b=p.b) (hqn:q.n=p.n) (hn:q.o+cs.length≤cur'.size)
  (hc:∀ (j:Nat) c,cs[j]?=some c→∃ v,cur'[q.o+j]?=some v∧VC m c v) :
  Res m st w (put m st.h.length q) ⟨st.h.set i { o with live:=false,cells:=[] }++[⟨cs,o.ty,true,true,false⟩],min st.lo i⟩ (w.setRow p.b cur'):=by
 have hi:i < st.h.length:=hs.dom i p hm;have hpn:cur.size=p.n:=by
  obtain ⟨cur0,fr,h1,h2,_⟩:=hs.obj i p o hm ho hl;rw [hb] at h1;cases h1;exact h2
 have hext:=Ql1 (n:=st.h.length) q hs.dom;have hlen:(st.h.set i { o with live:=false,cells:=[] }).length=st.h.length:=by simp
 have old:∀ (j:Nat) (oj:O) (q:Pl),m j=some q→(st.h.set i { o with live:=false,cells:=[] }++[⟨cs,o.ty,true,true,false⟩])[j]?=some oj→oj.live=true→j≠i∧st.h[j]?=some oj:=fun j oj q hmj hj hlj=>by
  have hjl:=hs.dom j q hmj;rw [List.getElem?_append_left (by rw [hlen];exact hjl)] at hj;by_cases e:j=i
  ·subst e;have:oj={ o with live:=false,cells:=[] }:=by simpa [List.getElem?_set,hi] using hj.symm
   subst this;cases hlj
  ·exact ⟨e,by simpa [List.getElem?_set,Ne.symm e] using hj⟩
 refine ⟨⟨?_,?_,?_,hs.mr.keep (fun j q' oj rest hj hoj hmp=>?_) (fun b es cl hb'=>?_)⟩,⟨hext,fun j hj=>Qa0 _ _ (by omega),?_,by simp,rfl,rfl,rfl,fun b hb' hne=>?_⟩,by simp,Nat.min_le_left _ _,fun j hj hjl=>?_⟩
 ·intro j q' hj;by_cases e:j=st.h.length
  ·subst e;simp
  ·rw [Qa0 _ _ e] at hj;have:=hs.dom j q' hj;simp;omega
 ·intro j q' oj hj hoj hlj;by_cases e:j=st.h.length
  ·subst e;rw [Qat] at hj;cases hj;have:oj=⟨cs,o.ty,true,true,false⟩:=by
    rw [List.getElem?_append_right (by rw [hlen];exact Nat.le_refl _),hlen] at hoj;simpa using hoj.symm
   subst this;refine ⟨cur',(0,0),by rw [hqb];exact setRow_heap w p.b cur cur' _ _ hb,by rw [hsz,hpn,hqn],by show q.o+cs.length≤q.n;rw [hqn,← hpn,← hsz];omega,fun j c hcj=>?_,(fun _=>rfl),(fun h=>by cases h)⟩;obtain ⟨v,h1,h2⟩:=hc j c hcj;exact ⟨v,h1,h2.ext hext⟩
  ·rw [Qa0 _ _ e] at hj;obtain ⟨hne,hoj'⟩:=old j oj q' hj hoj hlj;obtain ⟨c1,fr,h1,h2,h3,h4,h5⟩:=hs.obj j q' oj hj hoj' hlj;exact ⟨c1,fr,by rw [setRow_other w p.b q'.b cur' (hs.sep i j p q' o oj hm hj ho hoj' hrw hl hlj (Ne.symm hne)).symm];exact h1,h2,h3,fun k c hk=>by obtain ⟨v,a,b⟩:=h4 k c hk;exact ⟨v,a,b.ext hext⟩,h5⟩
 ·intro a b pa pb oa ob ha hb1 hoa hob hrwa hla hlb hne;by_cases ea:a=st.h.length
  ·subst ea;rw [Qat] at ha;cases ha;rw [Qa0 _ _ (Ne.symm hne)] at hb1;obtain ⟨k1,k2⟩:=old b ob pb hb1 hob hlb;rw [hqb];exact hs.sep i b p pb o ob hm hb1 ho k2 hrw hl hlb (Ne.symm k1)
  ·rw [Qa0 _ _ ea] at ha;obtain ⟨k1,k2⟩:=old a oa pa ha hoa hla;by_cases eb:b=st.h.length
   ·subst eb;rw [Qat] at hb1;cases hb1;rw [hqb];exact (hs.sep i a p pa o oa hm ha ho k2 hrw hl hla (Ne.symm k1)).symm
   ·rw [Qa0 _ _ eb] at hb1;obtain ⟨j1,j2⟩:=old b ob pb hb1 hob hlb;exact hs.sep a b pa pb oa ob ha hb1 k2 j2 hrwa hla hlb hne
 ·by_cases e:j=st.h.length
  ·subst e;have:oj=⟨cs,o.ty,true,true,false⟩:=by
    rw [List.getElem?_append_right (by rw [hlen];exact Nat.le_refl _),hlen] at hoj;simpa using hoj.symm
   subst this;cases hmp.1
  ·rw [Qa0 _ _ e] at hj;refine ⟨hj,?_⟩;rw [List.getElem?_append_left (by rw [hlen];exact hs.dom j q' hj)] at hoj;by_cases e:j=i
   ·subst e;have:oj={ o with live:=false,cells:=[] }:=by simpa [List.getElem?_set,hi] using hoj.symm
    subst this;cases hmp.2
   ·simpa [List.getElem?_set,Ne.symm e] using hoj
 ·rw [setRow_other w p.b b cur' (fun e=>by subst e;rw [hb] at hb';cases hb')];exact hb'
 ·intro j q' hj hmj;by_cases e:j=st.h.length
  ·subst e;rw [Qat] at hmj;cases hmj;exact .inr ⟨i,p,Nat.min_le_right _ _,hi,hm,hqb.symm⟩
  ·rw [Qa0 _ _ e] at hmj;have:=hs.dom j q' hmj;omega
 ·exact setRow_other w p.b b cur' (fun e=>hne i p (Nat.min_le_right _ _) hi hm e.symm)
 ·have:j≠i:=by
   have h1:min st.lo i≤i:=Nat.min_le_right _ _;have hjl':j < min st.lo i:=hjl;omega
  rw [List.getElem?_append_left (by simpa using hj)];simp [Ne.symm this]
def Qem (st:St):C→Option (List C × Nat)
 | .flat (.slice none 0 0)=>some ([],0)
 | .emp _=>some ([],0)
 | .q _ _ _=>some ([],0)
 | .sl i off len sz=>match st.h[i]? with
  | none=>none
  | some o=>if o.live=true∧(o.full=true∨off+len * sz≤o.cells.length) then some ((o.cells.drop off).take (len * sz),len) else none
 | _=>none
theorem Qh0 {m:M} {st:St} {w:World} (hs:SR m st.h w) {c:C} {v:Value} (hv:VC m c v) {cs:List C} {n:Nat} (h:Qem st c=some (cs,n)) :
  ∃ ad cap vs,v=.slice ad n cap∧All2 (VC m) cs vs∧(∀ a,ad=some a→∀ j u,vs[j]?=some u→w.cell? (a.add j)=some u)∧(0 < n→ad≠none):=by
 unfold Qem at h;split at h
 ·cases h;exact ⟨none,0,[],hv.1,All2.nil,by simp,by simp⟩
 ·cases h;obtain ⟨a,cap,rfl,_⟩:=hv;exact ⟨some a,cap,[],rfl,All2.nil,fun a _ j u hu=>by simp at hu,by simp⟩
 ·cases h;obtain ⟨p,a,cap,_,rfl,_⟩:=hv;exact ⟨some a,cap,[],rfl,All2.nil,fun a _ j u hu=>by simp at hu,by simp⟩
 ·rename_i i off len sz;split at h
  ·cases h
  rename_i o ho;split at h
  ·rename_i hh;cases h;obtain ⟨p,cap,hm,rfl,hle,_,hcp⟩:=hv;obtain ⟨cur,fr,hb,hsz,hlen,hcell,hff⟩:=hs.obj i p o hm ho hh.1;have hh:o.live=true∧off+n * sz≤o.cells.length:=⟨hh.1,hh.2.elim (fun hf=>by
    obtain ⟨f1,f2⟩:=hff.2 hf;have:n * sz≤cap * sz:=Nat.mul_le_mul_right _ hle;rw [f1] at hcp;omega) id⟩
   refine ⟨_,cap,(cur.toList.drop (p.o+off)).take (n * sz),rfl,⟨by simp;omega,fun j c v hc hv=>?_⟩,fun a ha j u hu=>?_,by simp⟩
   ·rw [List.getElem?_take] at hc hv;split at hc
    ·rw [if_pos (by assumption),List.getElem?_drop] at hv;rw [List.getElem?_drop] at hc;obtain ⟨u,hu,hvc⟩:=hcell _ c hc;rw [← Nat.add_assoc] at hu;have hv':cur[p.o+off+j]?=some v:=by simpa using hv
     rw [hv'] at hu;cases hu;exact hvc
    ·cases hc
   ·cases ha;rw [Addr.add_lit,cell_of_row w p.b _ cur _ _ hb];rw [List.getElem?_take] at hu;split at hu
    ·rw [List.getElem?_drop] at hu;simpa using hu
    ·cases hu
  ·cases h
 ·cases h
variable (P)
def Qen (st:St) (T:TypeId) (s x:C):Option (PV × St) :=
 match P.underlying T with
 | some (.slice el)=>match P.info? el with
  | none=>none
  | some inf=>if inf.size=0∨inf.zero.map (·.cells.size)≠some inf.size then none else match Qem st x with
   | none=>none
   | some (news,k) =>
    if k=0 then (match s with
     | .flat (.slice none 0 0)=>some (.s (.c s),st)
     | .sl _ _ _ _=>some (.s (.c s),st)
     | .emp _=>some (.s (.c s),st)
     | .q _ _ _=>some (.s (.c s),st)
     | _=>none)
    else if news.length≠k * inf.size then none
    else match s with
    | .flat (.slice none 0 0)=>if k≤maxLen∧k * inf.bytes≤140737488355328 then
      some (.s (.c (.sl st.h.length 0 k inf.size)),⟨st.h++[⟨news,el,true,true,false⟩],st.lo⟩) else none
    | .emp true=>if k≤maxLen∧k * inf.bytes≤140737488355328 then
      some (.s (.c (.sl st.h.length 0 k inf.size)),⟨st.h++[⟨news,el,true,true,false⟩],st.lo⟩) else none
    | .sl i off len sz=>match st.h[i]? with
     | none=>none
     | some o=>if o.live=true∧o.full=true∧off=0∧sz=inf.size∧o.cells.length=len * sz∧o.rw=false∧len+k≤maxLen∧(len+k) * inf.bytes≤140737488355328 then
       some (.s (.c (.sl st.h.length 0 (len+k) sz)),⟨st.h++[⟨o.cells++news,el,true,true,false⟩],st.lo⟩)
      else if o.live=true∧o.rw=true∧o.ty=el∧sz=inf.size∧o.cells.length=off+len * sz∧len+k≤maxLen∧(len+k) * inf.bytes≤140737488355328 then
       some (.s (.c (.sl st.h.length 0 (len+k) sz)),⟨st.h.set i { o with live:=false,cells:=[] }++[⟨o.cells.drop off++news,el,true,true,false⟩],min st.lo i⟩) else none
    | .q i _off sz=>match st.h[i]? with
     | none=>none
     | some o=>if o.live=true∧o.rw=true∧o.ty=el∧sz=inf.size∧k≤maxLen∧k * inf.bytes≤140737488355328 then
       some (.s (.c (.sl st.h.length 0 k sz)),⟨st.h.set i { o with live:=false,cells:=[] }++[⟨news,el,true,true,false⟩],min st.lo i⟩) else none
    | _=>none
 | _=>none
variable {P}
theorem Qdj (w:World) (t ty e:TypeId) (i:TypeInfo) (ht:P.underlying t=some (.slice e)) (hi:P.info? e=some i)
  (g off sLen sCap:Nat) (cur:Array Value) (hg:w.heap[g]?=some (.cells cur e (0,0)))
  (a:Addr) (m c:Nat) (news:List Value) (hl:news.length=m * i.size) (hnews:∀ j u,news[j]?=some u→w.cell? (a.add j)=some u) (h1:∀ u∈news,u.oneCell'=true)
  (hroom:sLen+m≤sCap) (hfit:off+sLen * i.size+news.length≤cur.size) :
  (Builtin.append_ #[t,t] ty #[.slice (some ⟨g,off,none⟩) sLen sCap,.slice (some a) m c]).run P w =
    .ok (.slice (some ⟨g,off,none⟩) (sLen+m) sCap) (w.setRow g (cur.toList.take (off+sLen * i.size)++news++cur.toList.drop (off+sLen * i.size+news.length)).toArray):=by
 have hf:=run_firstCells_some (P:=P) w i.size m a m c news hl hnews;have hst:=run_storeCells_at P g (off+sLen * i.size) e news 0 cur w hg (by simpa using hfit) h1;simp only [Nat.add_zero] at hst;simp [Builtin.append_,run_underlying ht,sizeOf,typeInfo,hi,Builtin.lenOf,hroom,hf,Addr.add_lit,hst]
theorem Qku {m:M} {cur:Array Value} {d k:Nat} {olds news:List C} {ovs vs:List Value} (hold:All2 (VC m) olds ovs) (hov:∀ (j:Nat) v,ovs[j]?=some v→cur[d+j]?=some v) (hall:All2 (VC m) news vs) (hk:k=d+ovs.length) (hfit:k+vs.length≤cur.size) :
  (cur.toList.take k++vs++cur.toList.drop (k+vs.length)).toArray.size=cur.size∧d+(olds++news).length≤(cur.toList.take k++vs++cur.toList.drop (k+vs.length)).toArray.size ∧
  ∀ (j:Nat) c,(olds++news)[j]?=some c→∃ v,(cur.toList.take k++vs++cur.toList.drop (k+vs.length)).toArray[d+j]?=some v∧VC m c v:=by
 subst hk;have e1:(cur.toList.take (d+ovs.length)++vs++cur.toList.drop (d+ovs.length+vs.length)).toArray.size=cur.size:=by simp;omega
 refine ⟨e1,by rw [e1,List.length_append,hold.1,hall.1];omega,fun j c hj=>?_⟩;simp only [List.getElem?_toArray,List.append_assoc];have ht:(cur.toList.take (d+ovs.length)).length=d+ovs.length:=by simp;omega
 by_cases h1:j < olds.length
 ·rw [List.getElem?_append_left h1] at hj;have h2:j < ovs.length:=by rw [← hold.1];exact h1
  have hv:=hov j _ (List.getElem?_eq_getElem h2);refine ⟨ovs[j],?_,hold.2 j c _ hj (List.getElem?_eq_getElem h2)⟩;rw [List.getElem?_append_left (by rw [ht];omega),List.getElem?_take,if_pos (by omega)];simpa using hv
 ·rw [List.getElem?_append_right (by omega)] at hj;have h2:j - olds.length < vs.length:=by rw [← hall.1];exact (List.getElem?_eq_some_iff.1 hj).1
  refine ⟨vs[j - olds.length],?_,hall.2 _ c _ hj (List.getElem?_eq_getElem h2)⟩;have:=hold.1;rw [List.getElem?_append_right (by rw [ht];omega),ht,show d+j - (d+ovs.length)=j - olds.length by omega,List.getElem?_append_left h2,List.getElem?_eq_getElem h2]
theorem exec_append {a:Act} {o:Oper} {s x:Operand} {T:TypeId} (ho:o.op=.call { callee:=.builtin .append,args:=#[s,x],argTypes:=#[T,T] }) {w w':World} {v:Value}
  (h:(Builtin.append_ #[T,T] o.type #[a.eval s,a.eval x]).run P w=.ok v w'):(execOp a.eval o).run P w=.ok (.value v) w':=by
 simp [execOp,ho,resolve,invoke,builtin,h]
theorem Qra {m:M} {st st':St} {w:World} {a:Act} {e:Look} {o:Oper} {T:TypeId} {s x:Operand} {cs cx:C} {pv:PV} (hs:SR m st.h w) (he:EL m e a) (ho:o.op=.call { callee:=.builtin .append,args:=#[s,x],argTypes:=#[T,T] })
  (hsx:evX e s=some (.s (.c cs))) (hxx:evX e x=some (.s (.c cx))) (h:Qen P st T cs cx=some (pv,st')):Does P m st w a o pv st':=by
 have hcs:VC m cs (a.eval s):=Qai he hsx;have hcx:VC m cx (a.eval x):=Qai he hxx;unfold Qen at h;split at h
 ·rename_i el hu;split at h
  ·cases h
  rename_i inf hi;split at h
  ·cases h
  rename_i hnz;obtain ⟨z,hz,hzs⟩:∃ z,inf.zero=some z∧z.cells.size=inf.size:=by
   cases hh:inf.zero with
   | none=>simp [hh] at hnz
   | some z=>exact ⟨z,rfl,by simpa [hh] using (not_or.1 hnz).2⟩
  have hsz:inf.size≠0:=fun hh=>hnz (.inl hh);split at h
  ·cases h
  rename_i news k hcells;obtain ⟨ad,cap,vs,hxv,hall,hmem,hnone⟩:=Qh0 hs hcx hcells;split at h
  ·rename_i hk;subst hk;have hvs:∀ (base:Option Addr) (len sc:Nat),len≤sc→a.eval s=.slice base len sc→(execOp a.eval o).run P w=.ok (.value (.slice base len sc)) w:=fun base len sc hle hsv=>by
    refine exec_append ho ?_;rw [hsv,hxv];have hf:(Builtin.firstCells inf.size 0 (.slice ad 0 cap)).run P w=.ok #[] w:=by cases ad <;> simp [Builtin.firstCells,loadCells,loadCellsFrom]
    cases base <;> simp [Builtin.append_,run_underlying hu,sizeOf,typeInfo,hi,Builtin.lenOf,hf,hle,storeCells]
   split at h
   ·cases h;exact Does.same hs (hvs none 0 0 (Nat.le_refl _) hcs.1) ⟨rfl,rfl⟩
   ·cases h;obtain ⟨p,sc,h1,h2,h3,h4,h5⟩:=hcs;exact Does.same hs (hvs _ _ _ h3 h2) ⟨p,sc,h1,rfl,h3,h4,h5⟩
   ·cases h;obtain ⟨x0,sc,h2,h3⟩:=hcs;exact Does.same hs (hvs _ _ _ (Nat.zero_le _) h2) ⟨_,_,rfl,h3⟩
   ·cases h;obtain ⟨p,x0,sc,h1,h2,h3⟩:=hcs;exact Does.same hs (hvs _ _ _ (Nat.zero_le _) h2) ⟨p,_,_,h1,rfl,h3⟩
   ·cases h
  ·rename_i hk;split at h
   ·cases h
   rename_i hnl;have hnl:news.length=k * inf.size:=by simpa using hnl
   have hvl:vs.length=k * inf.size:=by rw [← hall.1];exact hnl
   cases ad with
   | none=>exact absurd rfl (hnone (by omega))
   | some ad =>
   have hone:∀ u∈vs,u.oneCell'=true:=fun u hu'=>by
    obtain ⟨j,hj,rfl⟩:=List.mem_iff_getElem.1 hu';have hj':j < news.length:=by rw [hall.1];exact hj
    exact (hall.2 j news[j] _ (by simp) (by simp)).one
   split at h
   ·split at h
    ·rename_i hb;cases h;have hr:=run_append_nil (P:=P) w T o.type el inf z hu hi hz ad k cap vs hvl (hmem ad rfl) (by omega) (by have:=hb.1;simp only [maxLen] at this;omega) (by omega);have hres:=(Res.drew hs).trans (Res.alloc (hs.drew) news vs el hall (Builtin.zeroCells z.cells (grownCap w k 0 el - k)).toList false (fun h=>by cases h));have e1:(vs++(Builtin.zeroCells z.cells (grownCap w k 0 el - k)).toList).toArray=vs.toArray++Builtin.zeroCells z.cells (grownCap w k 0 el - k):=by apply Array.ext';simp
     rw [e1] at hres;refine ⟨_,.slice (some ⟨w.heap.size,0,none⟩) k (grownCap w k 0 el),_,_,exec_append ho (by rw [hcs.1,hxv];exact hr),.inl rfl,?_,hres⟩;refine ⟨_,grownCap w k 0 el,Qat _ _ _,rfl,grownCap_ge w k 0 el,grownCap_le_maxLen w k 0 el hb.1,?_⟩;simp only [Nat.zero_add,Array.length_toList,size_zeroCells,hzs,hvl,Nat.add_zero];have hg:=grownCap_ge w k 0 el;rw [← Nat.add_mul];exact Nat.mul_le_mul_right _ (by omega)
    ·cases h
   ·split at h
    ·rename_i hb;cases h;obtain ⟨x0,sc,hsv,hsc⟩:=hcs;have hsc:=hsc rfl;subst hsc;have hr:(Builtin.append_ #[T,T] o.type #[.slice (some x0) 0 0,.slice (some ad) k cap]).run P w=.ok (.slice (some ⟨w.heap.size,0,none⟩) k (grownCap w k 0 el)) (w.drew.alloc (.cells (vs.toArray++Builtin.zeroCells z.cells (grownCap w k 0 el - k)) el)):=by
      have:=run_append_grow (P:=P) w T o.type el inf z hu hi hz x0 0 0 [] (by simp) (by simp) ad k cap vs hvl (hmem ad rfl) (by omega) (by have:=hb.1;simp only [maxLen] at this;omega) (growslice_fits (by omega) (by rw [Nat.zero_add];omega));simpa using this
     have hres:=(Res.drew hs).trans (Res.alloc (hs.drew) news vs el hall (Builtin.zeroCells z.cells (grownCap w k 0 el - k)).toList false (fun h=>by cases h));have e1:(vs++(Builtin.zeroCells z.cells (grownCap w k 0 el - k)).toList).toArray=vs.toArray++Builtin.zeroCells z.cells (grownCap w k 0 el - k):=by apply Array.ext';simp
     rw [e1] at hres;refine ⟨_,.slice (some ⟨w.heap.size,0,none⟩) k (grownCap w k 0 el),_,_,exec_append ho (by rw [hsv,hxv];exact hr),.inl rfl,?_,hres⟩;refine ⟨_,grownCap w k 0 el,Qat _ _ _,rfl,grownCap_ge w k 0 el,grownCap_le_maxLen w k 0 el hb.1,?_⟩;simp only [Nat.zero_add,Array.length_toList,size_zeroCells,hzs,hvl,Nat.add_zero];have hg:=grownCap_ge w k 0 el;rw [← Nat.add_mul];exact Nat.mul_le_mul_right _ (by omega)
    ·cases h
   ·rename_i i off len sz;split at h
    ·cases h
    rename_i ob hob;split at h
    ·rename_i hh;obtain ⟨hl,hfu,rfl,rfl,hcl,_,hmx,hbt⟩:=hh;cases h;obtain ⟨p,sc,hm,hsv,hle,hsm,hcap⟩:=hcs;obtain ⟨cur,fr,hb,hcz,hpl,hcell,hf⟩:=hs.obj i p ob hm hob hl;obtain ⟨hpo,hpn⟩:=hf.2 hfu;simp only [hpo,Nat.zero_add] at hsv hcap hcell hpl;have hscl:sc≤len:=by
      rw [← hpn,hcl] at hcap;exact Nat.le_of_mul_le_mul_right hcap (by omega)
     have holen:(cur.toList.take (len * inf.size)).length=len * inf.size:=by simp;omega
     have hold:All2 (VC m) ob.cells (cur.toList.take (len * inf.size)):=⟨by rw [holen,hcl],fun j c v hc hv=>by
      rw [List.getElem?_take] at hv;split at hv
      ·obtain ⟨u,hu',hvc⟩:=hcell j c hc;have hv':cur[j]?=some v:=by simpa using hv
       rw [hv'] at hu';cases hu';exact hvc
      ·cases hv⟩
     have hholds:∀ j v,(cur.toList.take (len * inf.size))[j]?=some v→w.cell? ((⟨p.b,0,none⟩:Addr).add j)=some v:=fun j v hv=>by
      rw [Addr.add_lit,cell_of_row w p.b _ cur _ _ hb,Nat.zero_add];rw [List.getElem?_take] at hv;split at hv
      ·simpa using hv
      ·cases hv
     have hr:=run_append_grow (P:=P) w T o.type el inf z hu hi hz ⟨p.b,0,none⟩ len sc (cur.toList.take (len * inf.size)) holen hholds ad k cap vs hvl (hmem ad rfl) (by omega) (by simp only [maxLen] at hmx;omega) (growslice_fits (by omega) hbt);have hres:=(Res.drew hs).trans (Res.alloc hs.drew (ob.cells++news) (cur.toList.take (len * inf.size)++vs) el (hold.append hall) (Builtin.zeroCells z.cells (grownCap w (len+k) sc el - (len+k))).toList false (fun h=>by cases h));have e1:(cur.toList.take (len * inf.size)++vs++(Builtin.zeroCells z.cells (grownCap w (len+k) sc el - (len+k))).toList).toArray=(cur.toList.take (len * inf.size)).toArray++vs.toArray++Builtin.zeroCells z.cells (grownCap w (len+k) sc el - (len+k)):=by apply Array.ext';simp
     rw [e1] at hres;refine ⟨_,.slice (some ⟨w.heap.size,0,none⟩) (len+k) (grownCap w (len+k) sc el),_,_,exec_append ho (by rw [hsv,hxv];exact hr),.inl rfl,?_,hres⟩;have hg:=grownCap_ge w (len+k) sc el;refine ⟨_,grownCap w (len+k) sc el,Qat _ _ _,rfl,hg,grownCap_le_maxLen w (len+k) sc el hmx,?_⟩;simp only [Nat.zero_add,Array.length_toList,size_zeroCells,hzs,List.length_append,holen,hvl,Nat.add_zero];rw [← Nat.add_mul,← Nat.add_mul];exact Nat.mul_le_mul_right _ (by omega)
    split at h
    ·rename_i hh;obtain ⟨hl,hrw,rfl,rfl,hcl,hmx,hbt⟩:=hh;cases h;obtain ⟨p,sc,hm,hsv,hle,hsm,hcap⟩:=hcs;obtain ⟨cur,fr,hb,hcz,hpl,hcell,hf⟩:=hs.obj i p ob hm hob hl;obtain rfl:=hf.1 hrw;have hdl:(ob.cells.drop off).length=len * inf.size:=by rw [List.length_drop];omega
     have holen:((cur.toList.drop (p.o+off)).take (len * inf.size)).length=len * inf.size:=by simp;omega
     have hov:∀ (j:Nat) v,((cur.toList.drop (p.o+off)).take (len * inf.size))[j]?=some v→cur[p.o+off+j]?=some v:=fun j v hv=>by
      rw [List.getElem?_take] at hv;split at hv
      ·rw [List.getElem?_drop] at hv;simpa using hv
      ·cases hv
     have hold:All2 (VC m) (ob.cells.drop off) ((cur.toList.drop (p.o+off)).take (len * inf.size)):=⟨by rw [holen,hdl],fun j c v hc hv=>by
      rw [List.getElem?_drop] at hc;obtain ⟨u,hu',hvc⟩:=hcell _ c hc;have hv':=hov j v hv;rw [← Nat.add_assoc] at hu';rw [hv'] at hu';cases hu';exact hvc⟩
     by_cases hroom:len+k≤sc
     ·have hfit:p.o+off+len * inf.size+vs.length≤cur.size:=by
       have:(len+k) * inf.size≤sc * inf.size:=Nat.mul_le_mul_right _ hroom;rw [Nat.add_mul] at this;omega
      have hr:=Qdj (P:=P) w T o.type ob.ty inf hu hi p.b (p.o+off) len sc cur hb ad k cap vs hvl (hmem ad rfl) hone hroom hfit;obtain ⟨r1,r2,r3⟩:=Qku (k:=p.o+off+len * inf.size) hold hov hall (by rw [holen]) hfit;have hres:=Res.room hs hm hob hl hrw hb (ob.cells.drop off++news) _ r1 ⟨p.b,p.o+off,p.n⟩ rfl rfl r2 r3;refine ⟨_,.slice (some ⟨p.b,p.o+off,none⟩) (len+k) sc,_,_,exec_append ho (by rw [hsv,hxv];exact hr),.inl rfl,?_,hres⟩;exact ⟨_,sc,Qat _ _ _,rfl,hroom,hsm,hcap⟩
     ·have hholds:∀ j v,((cur.toList.drop (p.o+off)).take (len * inf.size))[j]?=some v→w.cell? ((⟨p.b,p.o+off,none⟩:Addr).add j)=some v:=fun j v hv=>by
       rw [Addr.add_lit,cell_of_row w p.b _ cur _ _ hb];exact hov j v hv
      have hr:=run_append_grow (P:=P) w T o.type ob.ty inf z hu hi hz ⟨p.b,p.o+off,none⟩ len sc ((cur.toList.drop (p.o+off)).take (len * inf.size)) holen hholds ad k cap vs hvl (hmem ad rfl) (by omega) (by simp only [maxLen] at hmx;omega) (growslice_fits (by omega) hbt);have hres:=(Res.killed hs hob).draw' (Res.alloc ((hs.kill i ob hob).drew) (ob.cells.drop off++news) ((cur.toList.drop (p.o+off)).take (len * inf.size)++vs) ob.ty (hold.append hall) (Builtin.zeroCells z.cells (grownCap w (len+k) sc ob.ty - (len+k))).toList false (fun h=>by cases h));have e1:((cur.toList.drop (p.o+off)).take (len * inf.size)++vs++(Builtin.zeroCells z.cells (grownCap w (len+k) sc ob.ty - (len+k))).toList).toArray=((cur.toList.drop (p.o+off)).take (len * inf.size)).toArray++vs.toArray++Builtin.zeroCells z.cells (grownCap w (len+k) sc ob.ty - (len+k)):=by apply Array.ext';simp
      rw [e1] at hres;simp only [List.length_set] at hres;refine ⟨_,.slice (some ⟨w.heap.size,0,none⟩) (len+k) (grownCap w (len+k) sc ob.ty),_,_,exec_append ho (by rw [hsv,hxv];exact hr),.inl rfl,?_,hres⟩;have hg:=grownCap_ge w (len+k) sc ob.ty;refine ⟨_,grownCap w (len+k) sc ob.ty,Qat _ _ _,rfl,hg,grownCap_le_maxLen w (len+k) sc ob.ty hmx,?_⟩;simp only [Nat.zero_add,Array.length_toList,size_zeroCells,hzs,List.length_append,holen,hvl,Nat.add_zero];rw [← Nat.add_mul,← Nat.add_mul];exact Nat.mul_le_mul_right _ (by omega)
    ·cases h
   ·rename_i i off sz;split at h
    ·cases h
    rename_i ob hob;split at h
    ·rename_i hh;obtain ⟨hl,hrw,rfl,rfl,hmx,hbt⟩:=hh;cases h;obtain ⟨p,x0,sc,hm,hsv,hsm,hcap⟩:=hcs;obtain ⟨cur,fr,hb,hcz,hpl,hcell,hf⟩:=hs.obj i p ob hm hob hl;obtain rfl:=hf.1 hrw;by_cases hroom:k≤sc
     ·obtain ⟨rfl,hcap'⟩:=hcap (by omega);have hfit:p.o+off+0 * inf.size+vs.length≤cur.size:=by
       have:k * inf.size≤sc * inf.size:=Nat.mul_le_mul_right _ hroom;omega
      have hr:=Qdj (P:=P) w T o.type ob.ty inf hu hi p.b (p.o+off) 0 sc cur hb ad k cap vs hvl (hmem ad rfl) hone (by omega) hfit;obtain ⟨r1,r2,r3⟩:=Qku (k:=p.o+off+0 * inf.size) (d:=p.o+off) (olds:=[]) (ovs:=[]) All2.nil (by simp) hall (by simp) hfit;have hres:=Res.room hs hm hob hl hrw hb ([]++news) _ r1 ⟨p.b,p.o+off,p.n⟩ rfl rfl r2 r3;rw [Nat.zero_add] at hr;refine ⟨_,.slice (some ⟨p.b,p.o+off,none⟩) k sc,_,_,exec_append ho (by rw [hsv,hxv];exact hr),.inl rfl,?_,hres⟩;exact ⟨_,sc,Qat _ _ _,rfl,hroom,hsm,by simpa using hcap'⟩
     ·have hr:(Builtin.append_ #[T,T] o.type #[.slice (some x0) 0 sc,.slice (some ad) k cap]).run P w=.ok (.slice (some ⟨w.heap.size,0,none⟩) k (grownCap w k sc ob.ty)) (w.drew.alloc (.cells (vs.toArray++Builtin.zeroCells z.cells (grownCap w k sc ob.ty - k)) ob.ty)):=by
       have:=run_append_grow (P:=P) w T o.type ob.ty inf z hu hi hz x0 0 sc [] (by simp) (by simp) ad k cap vs hvl (hmem ad rfl) (by omega) (by simp only [maxLen] at hmx;omega) (growslice_fits (by omega) (by rw [Nat.zero_add];omega));simpa using this
      have hres:=(Res.killed hs hob).draw' (Res.alloc ((hs.kill i ob hob).drew) news vs ob.ty hall (Builtin.zeroCells z.cells (grownCap w k sc ob.ty - k)).toList false (fun h=>by cases h));have e1:(vs++(Builtin.zeroCells z.cells (grownCap w k sc ob.ty - k)).toList).toArray=vs.toArray++Builtin.zeroCells z.cells (grownCap w k sc ob.ty - k):=by apply Array.ext';simp
      rw [e1] at hres;simp only [List.length_set] at hres;refine ⟨_,.slice (some ⟨w.heap.size,0,none⟩) k (grownCap w k sc ob.ty),_,_,exec_append ho (by rw [hsv,hxv];exact hr),.inl rfl,?_,hres⟩;have hg:=grownCap_ge w k sc ob.ty;refine ⟨_,grownCap w k sc ob.ty,Qat _ _ _,rfl,hg,grownCap_le_maxLen w k sc ob.ty hmx,?_⟩;simp only [Nat.zero_add,Array.length_toList,size_zeroCells,hzs,hvl,Nat.add_zero];rw [← Nat.add_mul];exact Nat.mul_le_mul_right _ (by omega)
    ·cases h
   ·cases h
 ·cases h
end Ev
end Go.Proofs.YtcpodmjcgfgmnaaGreat
namespace Go.Proofs.YtcpodmjcgfgmnaaGreat
open Go.RowKit
namespace Ev
variable {P:Program}
def Qjx:C→Option UInt8
 | .flat (.int .u8 n)=>if ((UInt8.ofNat n.toNat).toNat:Int)=n then some (UInt8.ofNat n.toNat) else none
 | _=>none
variable (P)
def Qct (T:TypeId):Bool:=match P.underlying T with
 | some (.slice e)=>match P.underlying e with
  | some (.int .u8)=>true
  | _=>false
 | _=>false
def Qcy (T:TypeId):Bool:=match P.underlying T with
 | some .string=>true
 | _=>false
variable {P}
theorem Qgv {T:TypeId} (h:Qct P T=true):∃ e,P.underlying T=some (.slice e)∧P.underlying e=some (.int .u8):=by
 unfold Qct at h;split at h
 ·split at h
  ·exact ⟨_,by assumption,by assumption⟩
  ·cases h
 ·cases h
theorem Qee {T:TypeId} (h:Qcy P T=true):P.underlying T=some .string:=by
 unfold Qcy at h;split at h
 ·assumption
 ·cases h
def Qyx (st:St) (c:C):Option C:=match Qem st c with
 | none=>none
 | some (cs,n)=>match all? Qjx cs with
  | none=>none
  | some l=>if l.length=n then some (.str l) else none
theorem Qxw {m:M} {st:St} {w:World} {a:Act} {e:Look} {o:Oper} {src dst:TypeId} {x:Operand} {c c':C} (hs:SR m st.h w) (he:EL m e a) (ho:o.op=.convert src dst x) (hsr:Qct P src=true) (hd:Qcy P dst=true) (hx:evX e x=some (.s (.c c))) (h:Qyx st c=some c') :
  Does P m st w a o (.s (.c c')) st:=by
 have hc:VC m c (a.eval x):=Qai he hx;obtain ⟨el,hu,hue⟩:=Qgv hsr;have hd:=Qee hd;unfold Qyx at h;split at h
 ·cases h
 rename_i cs n hcells;obtain ⟨ad,cap,vs,hv,hall,hmem,hnone⟩:=Qh0 hs hc hcells;split at h
 ·cases h
 rename_i l hl;split at h
 ·rename_i hn;cases h;have hsp:=Qbh hl;refine Does.same hs (v:=str' l) ?_ rfl;have key:(convert src dst (.slice ad n cap)).run P w=.ok (str' l) w:=by
   cases ad with
   | none =>
    have hn0:n=0:=by
     rcases Nat.eq_zero_or_pos n with h0 | h0
     ·exact h0
     ·exact absurd rfl (hnone h0)
    subst hn0;have:l=[]:=List.eq_nil_of_length_eq_zero hn;subst this;rw [run_convert_bytes_string w src dst el none 0 cap hu hue hd];simp [Conv.bytesToString];rfl
   | some ad =>
    subst hn;refine run_convert_bytes_back w src dst el ad cap l hu hue hd fun j hj=>?_;have hj1:j < cs.length:=by rw [hsp.1];exact hj
    have hj2:j < vs.length:=by rw [← hall.1];exact hj1
    have h1:=hsp.2 j cs[j] l[j] (by simp) (by simp);have h2:=hall.2 j cs[j] vs[j] (by simp) (by simp);rw [hmem ad rfl j vs[j] (by simp)];congr 1;generalize cs[j]=c0 at h1 h2;unfold Qjx at h1;split at h1
    ·rename_i k;split at h1
     ·rename_i hk;rw [h2.1,← Option.some.inj h1,hk]
     ·cases h1
    ·cases h1
  simp [execOp,ho,hv,key]
 ·cases h
theorem Qsv {m:M} {w:World} {a:Act} {e:Look} {o:Oper} {T T':TypeId} {x y:Operand} {s t:List UInt8} (he:EL m e a) (ho:o.op=.binOp .add T x y T') (hx:evX e x=some (.s (.c (.str s)))) (hy:evX e y=some (.s (.c (.str t)))) (h:s.length+t.length≤9223372036854775807) :
  DoesS P m w a o (.s (.c (.str (s++t)))):=by
 have h1:a.eval x=str' s:=(show VC m (.str s) (a.eval x) from Qai he hx);have h2:a.eval y=str' t:=(show VC m (.str t) (a.eval y) from Qai he hy);refine DoesS.same (v:=str' (s++t)) ?_ rfl;have hn:¬ ((((⟨s.toArray⟩:ByteArray).size+(⟨t.toArray⟩:ByteArray).size:Nat):Int) > IntKind.i64.max):=by
  simp [ByteArray.size,IntKind.max,IntKind.signed,IntKind.bits];omega
 have hap:(⟨s.toArray⟩:ByteArray)++⟨t.toArray⟩=⟨(s++t).toArray⟩:=by
  apply ByteArray.ext;simp [ByteArray.data_append]
 simp only [execOp,ho,h1,h2,str',eqGuard,binOp,Op.stringOp,if_neg hn,hap];rfl
def Qjw (op:BinOp) (s t:List UInt8):Option Bool:=match op with
 | .eql=>some (s == t)
 | .neq=>some (!(s == t))
 | _=>none
theorem Qle {m:M} {w:World} {a:Act} {e:Look} {o:Oper} {op:BinOp} {T T':TypeId} {x y:Operand} {s t:List UInt8} {b:Bool} (he:EL m e a) (ho:o.op=.binOp op T x y T') (hx:evX e x=some (.s (.c (.str s)))) (hy:evX e y=some (.s (.c (.str t)))) (h:Qjw op s t=some b) :
  DoesS P m w a o (.s (.c (.flat (.bool b)))):=by
 have h1:a.eval x=str' s:=(show VC m (.str s) (a.eval x) from Qai he hx);have h2:a.eval y=str' t:=(show VC m (.str t) (a.eval y) from Qai he hy);refine DoesS.same (v:=.bool b) ?_ ⟨rfl,rfl⟩;have e1:(⟨s.toArray⟩:ByteArray).toList=s:=ByteArray.toList_mk s;have e2:(⟨t.toArray⟩:ByteArray).toList=t:=ByteArray.toList_mk t;unfold Qjw at h;split at h
 ·cases h;simp [execOp,ho,h1,h2,str',eqGuard,binOp,Op.stringOp,e1,e2]
 ·cases h;simp [execOp,ho,h1,h2,str',eqGuard,binOp,Op.stringOp,e1,e2]
 ·cases h
def valX (e:Look) (x:Operand):Option Value:=match evX e x with
 | some (.s s)=>Qz8 s
 | _=>none
theorem Qun {m:M} {e:Look} {a:Act} (he:EL m e a) {x:Operand} {v:Value} (h:valX e x=some v):a.eval x=v:=by
 unfold valX at h;split at h
 ·rename_i s hs;exact Qs2 h (Qai he hs)
 ·cases h
def rho (e:Look) (x:Operand):Value:=(valX e x).getD undef
def Qq2:Op→Bool
 | .binOp ..=>true
 | .unOp ..=>true
 | .convert ..=>true
 | .slice ..=>true
 | .makeInterface ..=>true
 | .typeAssert ..=>true
 | .call { callee:=.builtin .min,.. }=>true
 | .call { callee:=.builtin .max,.. }=>true
 | .call { callee:=.builtin .len,.. }=>true
 | _=>false
theorem Qlb {ρ ρ':Operand→Value} {o:Oper} (hk:Qq2 o.op=true) (h:∀ x∈o.op.operands.toList,ρ x=ρ' x):execOp ρ o=execOp ρ' o:=by
 obtain ⟨d,op,ty,pos,after,g⟩:=o;cases op with
 | binOp op t x y yt =>
  have h1:=h x (by simp [Op.operands]);have h2:=h y (by simp [Op.operands]);simp [execOp,h1,h2]
 | unOp op t x=>have h1:=h x (by simp [Op.operands]);simp [execOp,h1]
 | convert s t x=>have h1:=h x (by simp [Op.operands]);simp [execOp,h1]
 | makeInterface t x=>have h1:=h x (by simp [Op.operands]);simp [execOp,h1]
 | typeAssert x t u c=>have h1:=h x (by simp [Op.operands]);simp [execOp,h1]
 | slice t x l hh mx =>
  have h1:=h x (by simp [Op.operands]);have e1:l.map ρ=l.map ρ':=by cases l with | none=>rfl | some y=>simp [h y (by simp [Op.operands])]
  have e2:hh.map ρ=hh.map ρ':=by cases hh with | none=>rfl | some y=>simp [h y (by simp [Op.operands])]
  have e3:mx.map ρ=mx.map ρ':=by cases mx with | none=>rfl | some y=>simp [h y (by simp [Op.operands])]
  simp [execOp,h1,e1,e2,e3]
 | call c =>
  obtain ⟨cl,args,ts⟩:=c;cases cl with
  | builtin b =>
   have e1:args.map ρ=args.map ρ':=by
    apply Array.ext';simp only [Array.toList_map];exact List.map_congr_left fun x hx=>h x (by simpa [Op.operands,Call.operands] using hx)
   simp [execOp,resolve,e1]
  | value f=>cases hk
  | invoke r n=>cases hk
 | _=>cases hk
variable (P)
def Qel (e:Look) (o:Oper):Option PV :=
 if Qq2 o.op && o.op.operands.toList.all (fun x=>(valX e x).isSome) then match dry P (execOp (rho e) o) with
  | some (.value v)=>match ofValue v with | some s=>some (.s s) | none=>none
  | _=>none
 else none
variable {P}
theorem Qso {m:M} {w:World} {a:Act} {e:Look} {o:Oper} {pv:PV} (he:EL m e a) (h:Qel P e o=some pv):DoesS P m w a o pv:=by
 unfold Qel at h;split at h
 ·rename_i hh;simp only [Bool.and_eq_true,List.all_eq_true] at hh;have hc:=Qlb (ρ:=a.eval) (ρ':=rho e) hh.1 fun x hx=>by
   have:=hh.2 x hx;cases hv:valX e x with
   | none=>rw [hv] at this;cases this
   | some v=>rw [Qun he hv,rho,hv];rfl
  split at h
  ·rename_i v hv;split at h
   ·rename_i s hsv;cases h;exact DoesS.same (v:=v) (by rw [hc];exact Qw4 hv w) (Qhu hsv)
   ·cases h
  ·cases h
 ·cases h
variable (P)
def Qt9 (op:BinOp) (T:TypeId) (x y:C):Option Bool:=match x,y with
 | .ptr _ _,.flat (.pointer none)=>match P.underlying T with
  | some (.pointer _)=>(match op with | .eql=>some false | .neq=>some true | _=>none)
  | _=>none
 | .sl _ _ _ _,.flat (.slice none 0 0)=>match P.underlying T with
  | some (.slice _)=>(match op with | .eql=>some false | .neq=>some true | _=>none)
  | _=>none
 | .emp _,.flat (.slice none 0 0)=>match P.underlying T with
  | some (.slice _)=>(match op with | .eql=>some false | .neq=>some true | _=>none)
  | _=>none
 | .q _ _ _,.flat (.slice none 0 0)=>match P.underlying T with
  | some (.slice _)=>(match op with | .eql=>some false | .neq=>some true | _=>none)
  | _=>none
 | _,_=>none
variable {P}
theorem Qc3 {ρ:Operand→Value} {o:Oper} {op:BinOp} {T T':TypeId} {x y:Operand} (ho:o.op=.binOp op T x y T') {w:World} {v:Value}
  (hg:∀ w,(eqGuard op T x y (ρ x) (ρ y)).run P w=.ok () w) (h:(binOp op T (ρ x) (ρ y)).run P w=.ok v w):(execOp ρ o).run P w=.ok (.value v) w:=by
 simp [execOp,ho,hg,h]
theorem Qdl {m:M} {w:World} {a:Act} {e:Look} {o:Oper} {op:BinOp} {T T':TypeId} {x y:Operand} {c d:C} {b:Bool} (he:EL m e a) (ho:o.op=.binOp op T x y T') (hx:evX e x=some (.s (.c c))) (hy:evX e y=some (.s (.c d))) (h:Qt9 P op T c d=some b) :
  DoesS P m w a o (.s (.c (.flat (.bool b)))):=by
 have hc:VC m c (a.eval x):=Qai he hx;have hd:VC m d (a.eval y):=Qai he hy;refine DoesS.same (v:=.bool b) ?_ ⟨rfl,rfl⟩;unfold Qt9 at h;split at h
 ·obtain ⟨p,_,h1⟩:=hc;have h2:=hd.1;have hg:∀ w,(eqGuard op T x y (a.eval x) (a.eval y)).run P w=.ok () w:=fun w=>by rw [h1,h2];simp [eqGuard]
  split at h
  ·rename_i el hu;have hu':P.underlying T=some (.pointer (P.pointee T)):=by rw [hu];simp [Program.pointee,hu]
   split at h
   ·cases h;exact Qc3 ho hg (by rw [h1,h2];exact run_eql_pointer_nil w T (some _) hu')
   ·cases h;exact Qc3 ho hg (by rw [h1,h2];exact run_neq_pointer_nil w T (some _) hu')
   ·cases h
  ·cases h
 ·obtain ⟨p,cap,_,h1,_⟩:=hc;have h2:=hd.1;have hg:∀ w,(eqGuard op T x y (a.eval x) (a.eval y)).run P w=.ok () w:=fun w=>by rw [h1,h2];simp [eqGuard]
  split at h
  ·rename_i el hu;split at h
   ·cases h;exact Qc3 ho hg (by rw [h1,h2];exact Lib.run_eql_slice_nil w T el (some _) _ _ _ _ hu)
   ·cases h;exact Qc3 ho hg (by rw [h1,h2];exact run_neq_slice_nil_any w T el (some _) _ _ _ _ hu)
   ·cases h
  ·cases h
 ·obtain ⟨p,cap,h1,_⟩:=hc;have h2:=hd.1;have hg:∀ w,(eqGuard op T x y (a.eval x) (a.eval y)).run P w=.ok () w:=fun w=>by rw [h1,h2];simp [eqGuard]
  split at h
  ·rename_i el hu;split at h
   ·cases h;exact Qc3 ho hg (by rw [h1,h2];exact Lib.run_eql_slice_nil w T el (some _) _ _ _ _ hu)
   ·cases h;exact Qc3 ho hg (by rw [h1,h2];exact run_neq_slice_nil_any w T el (some _) _ _ _ _ hu)
   ·cases h
  ·cases h
 ·obtain ⟨p,x0,cap,_,h1,_⟩:=hc;have h2:=hd.1;have hg:∀ w,(eqGuard op T x y (a.eval x) (a.eval y)).run P w=.ok () w:=fun w=>by rw [h1,h2];simp [eqGuard]
  split at h
  ·rename_i el hu;split at h
   ·cases h;exact Qc3 ho hg (by rw [h1,h2];exact Lib.run_eql_slice_nil w T el (some _) _ _ _ _ hu)
   ·cases h;exact Qc3 ho hg (by rw [h1,h2];exact run_neq_slice_nil_any w T el (some _) _ _ _ _ hu)
   ·cases h
  ·cases h
 ·cases h
end Ev
end Go.Proofs.YtcpodmjcgfgmnaaGreat
namespace Go.Proofs.YtcpodmjcgfgmnaaGreat
open Go.RowKit
namespace Ev
variable {P:Program}
variable (P)
variable {P}
theorem i64_mask (n:Int) (k:Nat) (hk:k≤62) (m:Int) (hm:m=2 ^ k - 1):bits .and .i64 n m=n % 2 ^ k:=by
 subst hm;have hp:(2:Nat) ^ k≤2 ^ 62:=Nat.pow_le_pow_right (by omega) hk;have h1:1≤(2:Nat) ^ k:=Nat.one_le_two_pow;have e:((2:Int) ^ k - 1)=((2 ^ k - 1:Nat):Int):=by
  rw [Int.ofNat_sub h1];simp
 have hpi:((2:Int) ^ k)=((2 ^ k:Nat):Int):=by simp
 have Qp5:∀ a:Nat,a < 2 ^ 63→(BitVec.ofInt 64 (a:Int)).toNat=a:=fun a ha=>by rw [BitVec.toNat_ofInt];omega
 rw [e,hpi];show IntKind.i64.wrap ((BitVec.ofInt 64 n &&& BitVec.ofInt 64 ((2 ^ k - 1:Nat):Int)).toNat:Nat)=_;rw [BitVec.toNat_and,Qp5 (2 ^ k - 1) (by omega),Nat.and_two_pow_sub_one_eq_mod,BitVec.toNat_ofInt,IntKind.wrap_i64];have hd:((2:Int) ^ 64)=(2 ^ k:Nat) * (2 ^ (64 - k):Nat):=by
  rw [← Int.natCast_mul,← Nat.pow_add,show k+(64 - k)=64 from by omega];rfl
 have h3:((n % ((2 ^ 64:Nat):Int)).toNat:Int)=n % 2 ^ 64:=by omega
 have h4:(((n % ((2 ^ 64:Nat):Int)).toNat % 2 ^ k:Nat):Int)=n % ((2 ^ k:Nat):Int):=by
  rw [Int.natCast_emod,h3,hd,Int.emod_emod_of_dvd _ (Int.dvd_mul_right _ _)]
 have h5:n % ((2 ^ k:Nat):Int) < ((2 ^ k:Nat):Int):=Int.emod_lt_of_pos _ (by omega);have h6:0≤n % ((2 ^ k:Nat):Int):=Int.emod_nonneg _ (by omega);rw [h4];omega
variable (P)
variable {P}
variable (P)
variable {P}
def Qjs (st:St):C→Option (PV × St)
 | .sl i off len sz=>match st.h[i]? with
  | none=>none
  | some o=>if o.live=true∧o.rw=true∧o.full=true∧off=0∧o.cells.length=len * sz then
    some (.s (.c (.sl st.h.length 0 len sz)),⟨st.h.set i { o with live:=false,cells:=[] }++[⟨o.cells,o.ty,false,true,true⟩],min st.lo i⟩) else none
 | _=>none
theorem Qqv (w:World) (b n:Nat) (cur:Array Value) (ty:TypeId) (fr:Nat × Nat) (h:w.heap[b]?=some (.cells cur ty fr)):∃ fr',(w.freeze ⟨b,n,none⟩ 1).heap[b]?=some (.cells cur ty fr'):=by
 have hlt:=(Array.getElem?_eq_some_iff.1 h).1;have hv:=(Array.getElem?_eq_some_iff.1 h).2;unfold World.freeze;rw [if_neg (by decide)];obtain ⟨lo,hi⟩:=fr;simp [Array.getElem?_modify,h]
theorem Qe9 (w:World) (b n k:Nat) (h:k≠b):(w.freeze ⟨b,n,none⟩ 1).heap[k]?=w.heap[k]?:=by
 unfold World.freeze;rw [if_neg (by decide)];simp [Array.getElem?_modify,Ne.symm h]
theorem Qqu (w:World) (b n:Nat):(w.freeze ⟨b,n,none⟩ 1).heap.size=w.heap.size:=by
 unfold World.freeze;rw [if_neg (by decide)];simp
theorem Qwp (w:World) (b n:Nat):(w.freeze ⟨b,n,none⟩ 1).os=w.os∧(w.freeze ⟨b,n,none⟩ 1).tape=w.tape∧(w.freeze ⟨b,n,none⟩ 1).output=w.output:=by
 unfold World.freeze;rw [if_neg (by decide)];exact ⟨rfl,rfl,rfl⟩
theorem Res.mark {m:M} {st:St} {w:World} (hs:SR m st.h w) {i:Nat} {p:Pl} {o:O} (hm:m i=some p) (ho:st.h[i]?=some o) (hl:o.live=true) (hrw:o.rw=true) (hfu:o.full=true) (n:Nat) :
  Res m st w (put m st.h.length p) ⟨st.h.set i { o with live:=false,cells:=[] }++[⟨o.cells,o.ty,false,true,true⟩],min st.lo i⟩ (w.freeze ⟨p.b,n,none⟩ 1):=by
 have hi:i < st.h.length:=hs.dom i p hm;obtain ⟨cur,fr,hb,hcz,hpl,hcell,hf⟩:=hs.obj i p o hm ho hl;obtain ⟨fr',hb'⟩:=Qqv w p.b n cur o.ty fr hb;have hext:=Ql1 (n:=st.h.length) p hs.dom;have hlen:(st.h.set i { o with live:=false,cells:=[] }).length=st.h.length:=by simp
 have old:∀ (j:Nat) (oj:O) (q:Pl),m j=some q→(st.h.set i { o with live:=false,cells:=[] }++[⟨o.cells,o.ty,false,true,true⟩])[j]?=some oj→oj.live=true→j≠i∧st.h[j]?=some oj:=fun j oj q hmj hj hlj=>by
  have hjl:=hs.dom j q hmj;rw [List.getElem?_append_left (by rw [hlen];exact hjl)] at hj;by_cases e:j=i
  ·subst e;have:oj={ o with live:=false,cells:=[] }:=by simpa [List.getElem?_set,hi] using hj.symm
   subst this;cases hlj
  ·exact ⟨e,by simpa [List.getElem?_set,Ne.symm e] using hj⟩
 have last:∀ (oj:O),(st.h.set i { o with live:=false,cells:=[] }++[⟨o.cells,o.ty,false,true,true⟩])[st.h.length]?=some oj→oj=⟨o.cells,o.ty,false,true,true⟩:=fun oj hoj=>by
  rw [List.getElem?_append_right (by rw [hlen];exact Nat.le_refl _),hlen] at hoj;simpa using hoj.symm
 obtain ⟨os1,os2,os3⟩:=Qwp w p.b n;refine ⟨⟨?_,?_,?_,hs.mr.keep (fun j q oj rest hj hoj hmp=>?_) (fun b es cl hb'=>?_)⟩,⟨hext,fun j hj=>Qa0 _ _ (by omega),?_,by rw [Qqu];exact Nat.le_refl _,os1,os2,os3,fun b hb' hne=>?_⟩,by simp,Nat.min_le_left _ _,fun j hj hjl=>?_⟩
 ·intro j q hj;by_cases e:j=st.h.length
  ·subst e;simp
  ·rw [Qa0 _ _ e] at hj;have:=hs.dom j q hj;simp;omega
 ·intro j q oj hj hoj hlj;by_cases e:j=st.h.length
  ·subst e;rw [Qat] at hj;cases hj;have:=last oj hoj;subst this;exact ⟨cur,fr',hb',hcz,hpl,fun k c hk=>by obtain ⟨v,a,b⟩:=hcell k c hk;exact ⟨v,a,b.ext hext⟩,(fun h=>by cases h),(fun _=>hf.2 hfu)⟩
  ·rw [Qa0 _ _ e] at hj;obtain ⟨hne,hoj'⟩:=old j oj q hj hoj hlj;obtain ⟨c1,f1,h1,h2,h3,h4,h5⟩:=hs.obj j q oj hj hoj' hlj;exact ⟨c1,f1,by rw [Qe9 w p.b n q.b (hs.sep i j p q o oj hm hj ho hoj' hrw hl hlj (Ne.symm hne)).symm];exact h1,h2,h3,fun k c hk=>by obtain ⟨v,a,b⟩:=h4 k c hk;exact ⟨v,a,b.ext hext⟩,h5⟩
 ·intro a b pa pb oa ob ha hb1 hoa hob hrwa hla hlb hne;by_cases ea:a=st.h.length
  ·subst ea;have:=last oa hoa;subst this;cases hrwa
  ·rw [Qa0 _ _ ea] at ha;obtain ⟨k1,k2⟩:=old a oa pa ha hoa hla;by_cases eb:b=st.h.length
   ·subst eb;rw [Qat] at hb1;cases hb1;exact (hs.sep i a p pa o oa hm ha ho k2 hrw hl hla (Ne.symm k1)).symm
   ·rw [Qa0 _ _ eb] at hb1;obtain ⟨j1,j2⟩:=old b ob pb hb1 hob hlb;exact hs.sep a b pa pb oa ob ha hb1 k2 j2 hrwa hla hlb hne
 ·by_cases e:j=st.h.length
  ·subst e;have:=last oj hoj;subst this;cases hmp.1
  ·rw [Qa0 _ _ e] at hj;refine ⟨hj,?_⟩;rw [List.getElem?_append_left (by rw [hlen];exact hs.dom j q hj)] at hoj;by_cases e:j=i
   ·subst e;have:oj={ o with live:=false,cells:=[] }:=by simpa [List.getElem?_set,hi] using hoj.symm
    subst this;cases hmp.2
   ·simpa [List.getElem?_set,Ne.symm e] using hoj
 ·rw [Qe9 w p.b n b (fun e=>by subst e;rw [hb] at hb';cases hb')];exact hb'
 ·intro j q hj hmj;by_cases e:j=st.h.length
  ·subst e;rw [Qat] at hmj;cases hmj;exact .inr ⟨i,p,Nat.min_le_right _ _,hi,hm,rfl⟩
  ·rw [Qa0 _ _ e] at hmj;have:=hs.dom j q hmj;omega
 ·exact Qe9 w p.b n b (fun e=>hne i p (Nat.min_le_right _ _) hi hm e.symm)
 ·have:j≠i:=by
   have h1:min st.lo i≤i:=Nat.min_le_right _ _;have hjl':j < min st.lo i:=hjl;omega
  rw [List.getElem?_append_left (by simpa using hj)];simp [Ne.symm this]
theorem Qv3 {m:M} {st st':St} {w:World} {a:Act} {e:Look} {o:Oper} {T:TypeId} {x:Operand} {c:C} {pv:PV} (hs:SR m st.h w) (he:EL m e a) (ho:o.op=.convert T T x) (hd:Qct P T=true) (hx:evX e x=some (.s (.c c))) (h:Qjs st c=some (pv,st')):Does P m st w a o pv st':=by
 have hc:VC m c (a.eval x):=Qai he hx;obtain ⟨el,hu,hue⟩:=Qgv hd;unfold Qjs at h;split at h
 ·rename_i i off len sz;split at h
  ·cases h
  rename_i ob hob;split at h
  ·rename_i hh;obtain ⟨hl,hrw,hfu,rfl,hcl⟩:=hh;cases h;obtain ⟨p,cap,hm,hv,hle,hmx,hcap⟩:=hc;obtain ⟨cur,fr,hb,hcz,hpl,hcell,hf⟩:=hs.obj i p ob hm hob hl;have hres:=Res.mark hs hm hob hl hrw hfu cur.size;refine ⟨_,.slice (some ⟨p.b,p.o+0,none⟩) len cap,_,_,?_,.inl rfl,⟨p,cap,Qat _ _ _,rfl,hle,hmx,hcap⟩,hres⟩;have hsh:w.shape? p.b=some (ob.ty,cur.size):=by simp [World.shape?,hb]
   have hcv:(convert T T (.slice (some ⟨p.b,p.o+0,none⟩) len cap)).run P w=.ok (.slice (some ⟨p.b,p.o+0,none⟩) len cap) (w.freeze ⟨p.b,cur.size,none⟩ 1):=by
    simp [convert,run_underlying hu,run_underlying hue,markStringish,hsh,shape,Sem.run]
   simp only [Nat.add_zero] at hv hcv;simp [execOp,ho,hv,hcv]
  ·cases h
 ·cases h
end Ev
end Go.Proofs.YtcpodmjcgfgmnaaGreat
namespace Go.Proofs.YtcpodmjcgfgmnaaGreat
open Go.RowKit
namespace Ev
variable {P:Program}
theorem Qsb {m:M} {c:C} {x:Value} (h:kvC c=some x):VC m c x:=by
 unfold kvC at h;split at h
 ·cases h;exact ⟨rfl,rfl⟩
 ·cases h;exact rfl
 ·cases h
theorem Qwf {m:M} {c:C} {x y:Value} (h:kvC c=some x) (k:VC m c y):y=x:=by
 unfold kvC at h;split at h
 ·cases h;exact k.1
 ·cases h;exact k
 ·cases h
def eqK:C→C→Bool
 | .flat (.int .i64 a),.flat (.int .i64 b)=>a == b
 | .str a,.str b=>a == b
 | _,_=>false
def keyC (d:TypeDesc) (c:C):Bool:=match d,c with
 | .int .i64,.flat (.int .i64 _)=>true
 | .string,.str _=>true
 | _,_=>false
theorem Qxx {a b:List UInt8} (h:str' a=str' b):a=b:=by
 unfold str' at h;injection h with h;have:=congrArg ByteArray.data h;simpa using congrArg Array.toList this
theorem Qhk {d:TypeDesc} {c:C} {x:Value} (h:keyC d c=true) (k:kvC c=some x):MapKept.IsKey d x:=by
 unfold keyC at h;split at h
 ·cases k;simp [MapKept.IsKey]
 ·cases k;simp [MapKept.IsKey,str']
 ·cases h
theorem Quy {d:TypeDesc} {a b:C} {x y:Value} (ha:keyC d a=true) (hb:keyC d b=true) (hx:kvC a=some x) (hy:kvC b=some y):Instr.sameNow d x y=some (eqK a b):=by
 have h1:=Qhk ha hx;have h2:=Qhk hb hy;obtain ⟨r,hr,hiff⟩:=MapKept.sameNow_of_keys h1 h2;rw [hr];congr 1;rw [Bool.eq_iff_iff,hiff];unfold keyC at ha;split at ha
 ·unfold keyC at hb;split at hb
  ·cases hx;cases hy;simp [eqK]
  ·exact absurd ‹TypeDesc.int IntKind.i64=TypeDesc.string› (by simp)
  ·cases hb
 ·unfold keyC at hb;split at hb
  ·exact absurd ‹TypeDesc.string=TypeDesc.int IntKind.i64› (by simp)
  ·cases hx;cases hy;simp only [eqK,beq_iff_eq];exact ⟨Qxx,fun h=>by rw [h]⟩
  ·cases hb
 ·cases ha
def getM (d:TypeDesc) (k:C):List C→Option (Option C)
 | []=>some none
 | k' :: v :: r=>if keyC d k' then (if eqK k k' then some (some v) else getM d k r) else none
 | _=>none
def setM (d:TypeDesc) (k v:C):List C→Option (List C)
 | []=>some [k,v]
 | k' :: u :: r=>if keyC d k' then (if eqK k k' then some (k' :: v :: r) else match setM d k v r with | some r'=>some (k' :: u :: r') | none=>none) else none
 | _=>none
abbrev Qcm (es:List MapEntry):List (Option Value):=es.flatMap fun e=>[some e.key,some e.val]
theorem Qou {d:TypeDesc} {k:C} {kv:Value} (hk:keyC d k=true) (hkv:kvC k=some kv):∀ {rest:List C} {es:List MapEntry} {r:Option C} (i:Nat),rest.map kvC=Qcm es→getM d k rest=some r →
  (r=none∧Instr.findNow d kv es i=some none)∨∃ j v,∃ e:MapEntry,r=some v∧Instr.findNow d kv es i=some (some (j,e.val))∧kvC v=some e.val
 | [],es,r,i,he,h=>by
  cases h;cases es with
  | nil=>exact .inl ⟨rfl,rfl⟩
  | cons e es=>simp [Qcm] at he
 | [x],es,r,i,he,h=>by cases h
 | k' :: v :: rest,es,r,i,he,h=>by
  cases es with
  | nil=>simp [Qcm] at he
  | cons e es =>
   simp only [Qcm,List.map_cons,List.flatMap_cons,List.cons_append,List.nil_append,List.cons.injEq] at he;obtain ⟨e1,e2,e3⟩:=he;simp only [getM] at h;split at h
   ·rename_i hk';have hs:=Quy hk hk' hkv e1;split at h
    ·rename_i hq;cases h;rw [hq] at hs;exact .inr ⟨i,v,e,rfl,by simp [Instr.findNow,hs],e2⟩
    ·rename_i hq;rw [Bool.not_eq_true] at hq;rw [hq] at hs;rcases Qou hk hkv (i+1) e3 h with ⟨g1,g2⟩ | ⟨j,u,e',g1,g2,g3⟩
     ·exact .inl ⟨g1,by simp [Instr.findNow,hs,g2]⟩
     ·exact .inr ⟨j,u,e',g1,by simp [Instr.findNow,hs,g2],g3⟩
   ·cases h
theorem Qnk {d:TypeDesc} {k v:C} {kv vv:Value} (hk:keyC d k=true) (hkv:kvC k=some kv) (hvv:kvC v=some vv):∀ {rest rest':List C} {es:List MapEntry} (i:Nat),rest.map kvC=Qcm es→setM d k v rest=some rest' →
  (Instr.findNow d kv es i=some none∧∀ b,rest'.map kvC=Qcm (es++[{ key:=kv,val:=vv,born:=b }])) ∨
  ∃ j,∃ e:MapEntry,Instr.findNow d kv es i=some (some (i+j,e.val))∧es[j]?=some e∧e.key=kv∧rest'.map kvC=Qcm (es.modify j fun e=>{ e with key:=kv,val:=vv })
 | [],rest',es,i,he,h=>by
  cases h;cases es with
  | nil=>exact .inl ⟨rfl,fun b=>by simp [Qcm,hkv,hvv]⟩
  | cons e es=>simp [Qcm] at he
 | [x],rest',es,i,he,h=>by cases h
 | k' :: u :: rest,rest',es,i,he,h=>by
  cases es with
  | nil=>simp [Qcm] at he
  | cons e es =>
   simp only [Qcm,List.map_cons,List.flatMap_cons,List.cons_append,List.nil_append,List.cons.injEq] at he;obtain ⟨e1,e2,e3⟩:=he;simp only [setM] at h;split at h
   ·rename_i hk';have hs:=Quy hk hk' hkv e1;split at h
    ·rename_i hq;cases h;rw [hq] at hs;have hke:e.key=kv:=by
      obtain ⟨r,hr,hiff⟩:=MapKept.sameNow_of_keys (Qhk hk hkv) (Qhk hk' e1);rw [hs] at hr;cases hr;exact (hiff.1 rfl).symm
     exact .inr ⟨0,e,by simp [Instr.findNow,hs],rfl,hke,by simp [Qcm,List.modify,hvv,e1,hke,e3]⟩
    ·rename_i hq;rw [Bool.not_eq_true] at hq;rw [hq] at hs;split at h
     ·rename_i r' hr';cases h;rcases Qnk hk hkv hvv (i+1) e3 hr' with ⟨g1,g2⟩ | ⟨j,e',g1,g2,g3,g4⟩
      ·refine .inl ⟨by simp [Instr.findNow,hs,g1],fun b=>?_⟩;have:=g2 b;simp only [Qcm,List.map_cons,List.cons_append,List.flatMap_cons,List.nil_append,e1,e2,List.cons.injEq,true_and] at this ⊢;exact this
      ·exact .inr ⟨j+1,e',by simp [Instr.findNow,hs,g1];omega,by simpa using g2,g3,by simp only [Qcm,List.modify_succ_cons,List.map_cons,List.flatMap_cons,List.cons_append,List.nil_append,e1,e2,List.cons.injEq,true_and] at g4 ⊢;exact g4⟩
     ·cases h
   ·cases h
theorem Qsc (d:TypeDesc) (z:Bool):keyC d (.emp z)=false:=by unfold keyC;split <;> simp_all
theorem Qwn {d:TypeDesc} {k:C} {rest:List C} {r:Option C} {es:List MapEntry} (h:rest.map kvC=Qcm es∨∃ ks,rest=.emp false :: ks∧ks.map prC=es.map fun e=>some (e.key,e.val)) (hr:getM d k rest=some r):rest.map kvC=Qcm es:=by
 rcases h with h | ⟨ks,rfl,_⟩
 ·exact h
 ·cases ks with
  | nil=>simp [getM] at hr
  | cons x y=>simp [getM,Qsc] at hr
theorem Quu {d:TypeDesc} {k v:C} {rest r:List C} {es:List MapEntry} (h:rest.map kvC=Qcm es∨∃ ks,rest=.emp false :: ks∧ks.map prC=es.map fun e=>some (e.key,e.val)) (hr:setM d k v rest=some r):rest.map kvC=Qcm es:=by
 rcases h with h | ⟨ks,rfl,_⟩
 ·exact h
 ·cases ks with
  | nil=>simp [setM] at hr
  | cons x y=>simp [setM,Qsc] at hr
def Qmh (st:St) (i:Nat):Option (O × List C):=match st.h[i]? with
 | some o=>if o.live then none else (match o.cells with
  | .emp true :: rest=>some (o,rest)
  | _=>none)
 | none=>none
theorem Qd0 {st:St} {i:Nat} {o:O} {rest:List C} (h:Qmh st i=some (o,rest)):st.h[i]?=some o∧Qh7 o rest:=by
 unfold Qmh at h;split at h
 ·rename_i o' ho;split at h
  ·cases h
  ·rename_i hl;split at h
   ·rename_i rest' hc;cases h;exact ⟨ho,by simpa using hl,hc⟩
   ·cases h
 ·cases h
def Qcv (st:St):PV × St:=(.s (.c (.mp st.h.length)),⟨st.h++[⟨[.emp true],0,false,false,false⟩],st.lo⟩)
theorem Qoi {m:M} {st:St} {w:World} {a:Act} {o:Oper} {T:TypeId} (hs:SR m st.h w) (ho:o.op=.makeMap T none):Does P m st w a o (Qcv st).1 (Qcv st).2:=by
 have hext:=Ql1 (n:=st.h.length) ⟨w.heap.size,0,0⟩ hs.dom;have hold:∀ b,b < w.heap.size→(w.alloc (.map #[] 0)).heap[b]?=w.heap[b]?:=fun b hb=>Below.heap_alloc w _ b hb;have hlast:∀ (x:O),(st.h++[⟨[.emp true],0,false,false,false⟩])[st.h.length]?=some x→x=⟨[.emp true],0,false,false,false⟩:=fun x hx=>by simpa using hx.symm
 have hdead:∀ (i:Nat) (p:Pl) (x:O),put m st.h.length ⟨w.heap.size,0,0⟩ i=some p→(st.h++[⟨[.emp true],0,false,false,false⟩])[i]?=some x→x.live=true→m i=some p∧st.h[i]?=some x:=fun i p x hm hx hl=>by
  by_cases e:i=st.h.length
  ·subst e;rw [hlast x hx] at hl;cases hl
  ·rw [Qa0 _ _ e] at hm;exact ⟨hm,by rwa [List.getElem?_append_left (hs.dom i p hm)] at hx⟩
 have hmap:∀ (i:Nat) (p:Pl) (x:O) (r:List C),put m st.h.length ⟨w.heap.size,0,0⟩ i=some p→(st.h++[⟨[.emp true],0,false,false,false⟩])[i]?=some x→Qh7 x r→(i=st.h.length∧p.b=w.heap.size∧r=[])∨(i≠st.h.length∧p.b < w.heap.size∧m i=some p∧st.h[i]?=some x):=fun i p x r hm hx hmp=>by
  by_cases e:i=st.h.length
  ·subst e;have:=hlast x hx;subst this;rw [Qat] at hm;cases hm;have:=hmp.2;simp at this;exact .inl ⟨rfl,rfl,this⟩
  ·rw [Qa0 _ _ e] at hm;have hx':st.h[i]?=some x:=by rwa [List.getElem?_append_left (hs.dom i p hm)] at hx
   obtain ⟨es,cl,h1,_⟩:=hs.mr.at_ i p x r hm hx' hmp;exact .inr ⟨e,(Array.getElem?_eq_some_iff.1 h1).1,hm,hx'⟩
 refine ⟨.value (.map (some w.heap.size)),.map (some w.heap.size),w.alloc (.map #[] 0),put m st.h.length ⟨w.heap.size,0,0⟩,?_,.inl rfl,⟨_,Qat _ _ _,rfl⟩,⟨⟨?_,?_,?_,⟨?_,?_⟩⟩,⟨hext,?_,?_,by simp,rfl,rfl,rfl,fun b hb _=>hold b hb⟩,by simp [Qcv],Nat.le_refl _,fun i hi _=>by simp [Qcv,List.getElem?_append_left hi]⟩⟩
 ·simp [execOp,ho,run_makeMap]
 ·intro i p hm;by_cases hi:i=st.h.length
  ·subst hi;simp [Qcv]
  ·rw [Qa0 _ _ hi] at hm;have:=hs.dom i p hm;simp [Qcv];omega
 ·intro i p x hm hx hl;obtain ⟨a1,a2⟩:=hdead i p x hm hx hl;obtain ⟨cur,fr,h1,h2,h3,h4,h5⟩:=hs.obj i p x a1 a2 hl;exact ⟨cur,fr,by rw [hold _ (Array.getElem?_eq_some_iff.1 h1).1];exact h1,h2,h3,fun j c hc=>by obtain ⟨v,a,b⟩:=h4 j c hc;exact ⟨v,a,b.ext hext⟩,h5⟩
 ·intro i j p q x y hi hj hx hy hrw hl hl' hne;obtain ⟨a1,a2⟩:=hdead i p x hi hx hl;obtain ⟨b1,b2⟩:=hdead j q y hj hy hl';exact hs.sep i j p q x y a1 b1 a2 b2 hrw hl hl' hne
 ·intro i p x r hm hx hmp;rcases hmap i p x r hm hx hmp with ⟨_,b,rfl⟩ | ⟨_,b,c,d⟩
  ·exact ⟨#[],0,by rw [b];exact heap_alloc_new w _,.inl rfl⟩
  ·obtain ⟨es,cl,h1,h2⟩:=hs.mr.at_ i p x r c d hmp;exact ⟨es,cl,by rw [hold _ b];exact h1,h2⟩
 ·intro i j p q x y r r' hi hj hx hy hmx hmy hne;rcases hmap i p x r hi hx hmx with ⟨a1,a2,_⟩ | ⟨a1,a2,a3,a4⟩ <;> rcases hmap j q y r' hj hy hmy with ⟨b1,b2,_⟩ | ⟨b1,b2,b3,b4⟩
  ·omega
  ·omega
  ·omega
  ·exact hs.mr.sep i j p q x y r r' a3 b3 a4 b4 hmx hmy hne
 ·intro i hi;exact Qa0 _ _ (by omega)
 ·intro j p hj hm;by_cases ej:j=st.h.length
  ·subst ej;rw [Qat] at hm;cases hm;exact .inl (Nat.le_refl _)
  ·rw [Qa0 _ _ ej] at hm;have:=hs.dom j p hm;omega
variable (P)
def Qxr (T:TypeId):Option C:=match P.info? T with
 | none=>none
 | some i=>match i.zero with
  | some (.int .i64 n)=>some (.flat (.int .i64 n))
  | _=>none
def keyT (T:TypeId):Option (TypeDesc × TypeId):=match P.underlying T with
 | some (.map kt el)=>match P.underlying kt with
  | some d=>some (d,el)
  | none=>none
 | _=>none
variable {P}
theorem Qsy {T:TypeId} {z:C} (h:Qxr P T=some z):∃ x,kvC z=some x∧∀ w,(zeroValue T).run P w=.ok x w:=by
 unfold Qxr at h;split at h
 ·cases h
 ·rename_i i hi;split at h
  ·rename_i n hz;cases h;exact ⟨_,rfl,fun w=>by simp [zeroValue,typeInfo,hi,hz]⟩
  ·cases h
theorem Qjk {T:TypeId} {d:TypeDesc} {el:TypeId} (h:keyT P T=some (d,el)):∃ kt,P.underlying T=some (.map kt el)∧P.underlying kt=some d:=by
 unfold keyT at h;split at h
 ·rename_i kt el' hu;split at h
  ·rename_i d' hd;cases h;exact ⟨kt,hu,hd⟩
  ·cases h
 ·cases h
def Zcd (z:C) (ok:Bool) (r:Option C):PV:=match r with
 | some v=>if ok then .t [.c v,.c (.flat (.bool true))] else .s (.c v)
 | none=>if ok then .t [.c z,.c (.flat (.bool false))] else .s (.c z)
variable (P)
def Qii (st:St) (T:TypeId) (i:Nat) (k:C) (ok:Bool):Option PV:=match keyT P T with
 | none=>none
 | some (d,el)=>match Qmh st i with
  | none=>none
  | some (_,rest)=>match Qxr P el with
   | none=>none
   | some z=>if keyC d k then (match getM d k rest with
    | none=>none
    | some r=>some (Zcd z ok r)) else none
def Qek (st:St) (T:TypeId) (i:Nat) (k v:C):Option St:=match keyT P T with
 | none=>none
 | some (d,_)=>match Qmh st i with
  | none=>none
  | some (o,rest)=>match kvC v with
   | none=>none
   | some _=>if keyC d k then (match setM d k v rest with
    | none=>none
    | some rest'=>some ⟨st.h.set i { o with cells:=.emp true :: rest' },min st.lo i⟩) else none
variable {P}
theorem Qwh {d:TypeDesc} {k:C} (h:keyC d k=true):∃ x,kvC k=some x:=by
 unfold keyC at h;split at h
 ·exact ⟨_,rfl⟩
 ·exact ⟨_,rfl⟩
 ·cases h
theorem Qql {m:M} {st:St} {w:World} {a:Act} {e:Look} {o:Oper} {T:TypeId} {x y:Operand} {ok:Bool} {i:Nat} {k:C} {pv:PV} (hs:SR m st.h w) (he:EL m e a) (ho:o.op=.lookup T x y ok)
  (hx:evX e x=some (.s (.c (.mp i)))) (hy:evX e y=some (.s (.c k))) (h:Qii P st T i k ok=some pv):DoesS P m w a o pv:=by
 obtain ⟨p,hm,hv⟩:∃ p,m i=some p∧a.eval x=.map (some p.b):=Qai he hx;have hkc:VC m k (a.eval y):=Qai he hy;unfold Qii at h;split at h
 ·cases h
 rename_i d el hkt;obtain ⟨kt,hT,hd⟩:=Qjk hkt;split at h
 ·cases h
 rename_i ob rest hmo;obtain ⟨hob,hmp⟩:=Qd0 hmo;split at h
 ·cases h
 rename_i z hz;obtain ⟨zx,hzx,hzr⟩:=Qsy hz;split at h
 rotate_left
 ·cases h
 rename_i hk;obtain ⟨kv,hkv⟩:=Qwh hk;have hky:=Qwf hkv hkc;have hik:=Qhk hk hkv;split at h
 ·cases h
 rename_i r hr;cases h;obtain ⟨es,cl,hb,hfl⟩:=hs.mr.at_ i p ob rest hm hob hmp;replace hfl:=Qwn hfl hr;rcases Qou hk hkv 0 hfl hr with ⟨rfl,g⟩ | ⟨j,v,en,rfl,g,gv⟩
 ·cases ok
  ·exact DoesS.same (v:=zx) (by simp [execOp,ho,hv,hky,Instr.lookup,run_underlying hT,MapKept.run_getObj_map hb,MapKept.run_checkKey hd hik,MapKept.run_findKey hd g,hzr,Result.andThen]) (Qsb hzx)
  ·refine DoesS.same (v:=.tuple #[zx,.bool false]) (by simp [execOp,ho,hv,hky,Instr.lookup,run_underlying hT,MapKept.run_getObj_map hb,MapKept.run_checkKey hd hik,MapKept.run_findKey hd g,hzr,Result.andThen]) ?_;exact ⟨[zx,.bool false],rfl,All2.cons (Qsb hzx) (All2.cons ⟨rfl,rfl⟩ All2.nil)⟩
 ·cases ok
  ·exact DoesS.same (v:=en.val) (by simp [execOp,ho,hv,hky,Instr.lookup,run_underlying hT,MapKept.run_getObj_map hb,MapKept.run_checkKey hd hik,MapKept.run_findKey hd g,Result.andThen]) (Qsb gv)
  ·refine DoesS.same (v:=.tuple #[en.val,.bool true]) (by simp [execOp,ho,hv,hky,Instr.lookup,run_underlying hT,MapKept.run_getObj_map hb,MapKept.run_checkKey hd hik,MapKept.run_findKey hd g,Result.andThen]) ?_;exact ⟨[en.val,.bool true],rfl,All2.cons (Qsb gv) (All2.cons ⟨rfl,rfl⟩ All2.nil)⟩
theorem Qqb {m:M} {st:St} {w:World} {a:Act} {o:Oper} (hs:SR m st.h w) {i:Nat} {p:Pl} {ob:O} {rest rest':List C} (hm:m i=some p) (hob:st.h[i]?=some ob) (hmp:Qh7 ob rest) {es es':Array MapEntry} {cl cl':Nat} (hb:w.heap[p.b]?=some (.map es cl))
  (hes:(rest'.map kvC=Qcm es'.toList)∨∃ ks,rest'=.emp false :: ks∧ks.map prC=es'.toList.map fun e=>some (e.key,e.val)) (hrun:(execOp a.eval o).run P w=.ok .skip { w with heap:=w.heap.setIfInBounds p.b (.map es' cl') }) :
  Does P m st w a o .skip ⟨st.h.set i { ob with cells:=.emp true :: rest' },min st.lo i⟩:=by
 have hi:i < st.h.length:=hs.dom i p hm;have hset:=MapKept.heap_set (o':=.map es' cl') hb;have other:∀ (j:Nat) (x:O),(st.h.set i { ob with cells:=.emp true :: rest' })[j]?=some x→(j=i∧x={ ob with cells:=.emp true :: rest' })∨(j≠i∧st.h[j]?=some x):=fun j x hj=>by
  by_cases e:j=i
  ·subst e;exact .inl ⟨rfl,by simpa [List.getElem?_set,hi] using hj.symm⟩
  ·exact .inr ⟨e,by simpa [List.getElem?_set,Ne.symm e] using hj⟩
 have live:∀ (j:Nat) (x:O),(st.h.set i { ob with cells:=.emp true :: rest' })[j]?=some x→x.live=true→st.h[j]?=some x:=fun j x hj hl=>by
  rcases other j x hj with ⟨_,rfl⟩ | ⟨_,h⟩
  ·have:=hmp.1;rw [show ({ ob with cells:=.emp true :: rest' }:O).live=ob.live from rfl,this] at hl;cases hl
  ·exact h
 have maps:∀ (j:Nat) (x:O) (r:List C),(st.h.set i { ob with cells:=.emp true :: rest' })[j]?=some x→Qh7 x r→(j=i∧r=rest')∨(j≠i∧st.h[j]?=some x):=fun j x r hj hr=>by
  rcases other j x hj with ⟨e,rfl⟩ | h
  ·have:=hr.2;simp at this;exact .inl ⟨e,this.symm⟩
  ·exact .inr h
 have some_map:∀ (j:Nat) (x:O) (r:List C),(st.h.set i { ob with cells:=.emp true :: rest' })[j]?=some x→Qh7 x r→∃ x' r',st.h[j]?=some x'∧Qh7 x' r':=fun j x r hj hr=>by
  rcases maps j x r hj hr with ⟨e,_⟩ | ⟨_,h⟩
  ·subst e;exact ⟨ob,rest,hob,hmp⟩
  ·exact ⟨x,r,h,hr⟩
 refine ⟨.skip,undef,{ w with heap:=w.heap.setIfInBounds p.b (.map es' cl') },m,?_,.inr ⟨rfl,rfl⟩,rfl,⟨⟨fun j q hj=>by simpa using hs.dom j q hj,?_,?_,⟨?_,?_⟩⟩,⟨fun _ _ h=>h,fun _ _=>rfl,fun j q hj hmj=>by have:=hs.dom j q hmj;omega,by simp,rfl,rfl,rfl,fun b hb' hne=>?_⟩,by simp,Nat.min_le_left _ _,fun j hj hjl=>?_⟩⟩
 ·exact hrun
 ·intro j q x hj hxj hl;obtain ⟨cur,fr,h1,h2⟩:=hs.obj j q x hj (live j x hxj hl) hl;refine ⟨cur,fr,?_,h2⟩;rw [← h1];exact hset.2 q.b fun e=>by rw [e,hb] at h1;cases h1
 ·intro j1 j2 p1 p2 x1 x2 a1 a2 b1 b2 hrw l1 l2 hne;exact hs.sep j1 j2 p1 p2 x1 x2 a1 a2 (live _ _ b1 l1) (live _ _ b2 l2) hrw l1 l2 hne
 ·intro j q x r hj hxj hmx;rcases maps j x r hxj hmx with ⟨rfl,rfl⟩ | ⟨hne,hxj'⟩
  ·rw [hm] at hj;cases hj;exact ⟨es',cl',hset.1,hes⟩
  ·obtain ⟨es1,cl1,h1,h2⟩:=hs.mr.at_ j q x r hj hxj' hmx;refine ⟨es1,cl1,?_,h2⟩;rw [← h1];exact hset.2 q.b fun e=>(hs.mr.sep j i q p x ob r rest hj hm hxj' hob hmx hmp hne) e
 ·intro j1 j2 p1 p2 x1 x2 r1 r2 a1 a2 b1 b2 c1 c2 hne;obtain ⟨y1,s1,d1,e1⟩:=some_map j1 x1 r1 b1 c1;obtain ⟨y2,s2,d2,e2⟩:=some_map j2 x2 r2 b2 c2;exact hs.mr.sep j1 j2 p1 p2 y1 y2 s1 s2 a1 a2 d1 d2 e1 e2 hne
 ·exact hset.2 b (fun e=>hne i p (Nat.min_le_right _ _) hi hm e.symm)
 ·have:j≠i:=by
   have h1:min st.lo i≤i:=Nat.min_le_right _ _;have hjl':j < min st.lo i:=hjl;omega
  simp [Ne.symm this]
theorem Qqc {m:M} {st st':St} {w:World} {a:Act} {e:Look} {o:Oper} {T:TypeId} {x y z:Operand} {i:Nat} {k v:C} (hs:SR m st.h w) (he:EL m e a) (ho:o.op=.mapUpdate T x y z∨o.op=.insert T x y z)
  (hx:evX e x=some (.s (.c (.mp i)))) (hy:evX e y=some (.s (.c k))) (hz:evX e z=some (.s (.c v))) (h:Qek P st T i k v=some st'):Does P m st w a o .skip st':=by
 obtain ⟨p,hm,hv⟩:∃ p,m i=some p∧a.eval x=.map (some p.b):=Qai he hx;have hkc:VC m k (a.eval y):=Qai he hy;have hvc:VC m v (a.eval z):=Qai he hz;unfold Qek at h;split at h
 ·cases h
 rename_i d el hkt;obtain ⟨kt,hT,hd⟩:=Qjk hkt;split at h
 ·cases h
 rename_i ob rest hmo;obtain ⟨hob,hmp⟩:=Qd0 hmo;split at h
 ·cases h
 rename_i vv hvv;split at h
 rotate_left
 ·cases h
 rename_i hk;obtain ⟨kv,hkv⟩:=Qwh hk;have hky:=Qwf hkv hkc;have hvy:=Qwf hvv hvc;have hik:=Qhk hk hkv;split at h
 ·cases h
 rename_i rest' hr;cases h;obtain ⟨es,cl,hb,hfl⟩:=hs.mr.at_ i p ob rest hm hob hmp;replace hfl:=Quu hfl hr;have fin:∀ (es':Array MapEntry) (cl':Nat),rest'.map kvC=Qcm es'.toList→(Instr.mapUpdate T (.map (some p.b)) kv vv).run P w=.ok () { w with heap:=w.heap.setIfInBounds p.b (.map es' cl') }→Does P m st w a o .skip ⟨st.h.set i { ob with cells:=.emp true :: rest' },min st.lo i⟩:=fun es' cl' hes hrun =>
  Qqb (cl':=cl') hs hm hob hmp hb (.inl hes) (by rcases ho with ho | ho <;> simp [execOp,ho,hv,hky,hvy,hrun])
 rcases Qnk hk hkv hvv 0 hfl hr with ⟨g1,g2⟩ | ⟨j,en,g1,g2,g3,g4⟩
 ·refine fin (es.push { key:=kv,val:=vv,born:=cl }) (cl+1) (by rw [g2 cl];simp) ?_;simp [Instr.mapUpdate,run_underlying hT,MapKept.run_getObj_map hb,MapKept.run_checkKey hd hik,MapKept.run_findKey hd g1,MapKept.run_setObj_map _ hb,Result.andThen]
 ·have hj:es[j]?=some en:=by simpa using g2
  refine fin (es.modify j fun e=>{ e with key:=kv,val:=vv }) cl (by rw [g4];simp) ?_;simp [Instr.mapUpdate,run_underlying hT,MapKept.run_getObj_map hb,MapKept.run_checkKey hd hik,MapKept.run_findKey hd g1,hj,g3,MapKept.run_keyThatStays hik,MapKept.run_setObj_map _ hb,Result.andThen]
def Qk4 (T:TypeId):Bool:=T == 81 || T == 157
def Qzr:List C→Bool
 | .emp false :: _=>true
 | _=>false
def Qih (P:Program) (st:St) (T:TypeId) (i:Nat):Option Nat:=match keyT P T with
 | none=>none
 | some _=>match Qmh st i with
  | none=>none
  | some (_,rest)=>if Qzr rest then none else some (rest.length / 2)
theorem Qwq (l:List MapEntry):(Qcm l).length=2 * l.length:=by
 induction l with
 | nil=>rfl
 | cons e r ih =>
  simp [Qcm] at ih ⊢;omega
theorem Qqe {m:M} {st:St} {w:World} {a:Act} {e:Look} {o:Oper} {T:TypeId} {x:Operand} {i n:Nat} {ts:Array TypeId} (hs:SR m st.h w) (he:EL m e a) (ho:o.op=.call { callee:=.builtin .len,args:=#[x],argTypes:=ts }) (hts:ts[0]?=some T)
  (hx:evX e x=some (.s (.c (.mp i)))) (h:Qih P st T i=some n):DoesS P m w a o (.s (.c (.flat (.int .i64 (n:Int))))):=by
 obtain ⟨p,hm,hv⟩:∃ p,m i=some p∧a.eval x=.map (some p.b):=Qai he hx;unfold Qih at h;split at h
 ·cases h
 rename_i dd hkt;obtain ⟨kt,hT,_⟩:=Qjk (d:=dd.1) (el:=dd.2) hkt;split at h
 ·cases h
 rename_i ob rest hmo;obtain ⟨hob,hmp⟩:=Qd0 hmo;split at h
 ·cases h
 rename_i hns;cases h;obtain ⟨es,cl,hb,hfl⟩:=hs.mr.at_ i p ob rest hm hob hmp;replace hfl:rest.map kvC=Qcm es.toList:=by
  rcases hfl with h | ⟨ks,rfl,_⟩
  ·exact h
  ·exact absurd rfl hns
 have hl:rest.length / 2=es.size:=by
  have:=congrArg List.length hfl;rw [List.length_map,Qwq] at this;simp at this;omega
 rw [hl];refine DoesS.same (v:=.int .i64 (es.size:Int)) ?_ ⟨rfl,rfl⟩;simp [execOp,ho,resolve,invoke,builtin,Builtin.len_,hts,hv,run_underlying hT,MapKept.run_getObj_map hb,Sem.run_bind,goInt,Result.andThen]
end Ev
end Go.Proofs.YtcpodmjcgfgmnaaGreat
namespace Go.Proofs.YtcpodmjcgfgmnaaGreat
open Go.RowKit
namespace Ev
variable {P:Program}
variable (P)
def Zbr (kt:TypeId):Bool:=match P.underlying kt with
 | some (.array _ _)=>true
 | some (.struct _)=>true
 | _=>false
def Qzu (el:TypeId):Bool:=match P.info? el with
 | some i=>(match i.zero with
  | some (.bool false)=>true
  | _=>false)
 | none=>false
def Qkd (T:TypeId):Option TypeId:=match P.underlying T with
 | some (.map kt el)=>if P.keyTypeAt 3 kt && P.tiled 3 kt && Zbr P kt && Qzu P el then some kt else none
 | _=>none
variable {P}
theorem Qk3 {T kt:TypeId} (h:Qkd P T=some kt):∃ el,P.underlying T=some (.map kt el)∧WideMaps.KeyLaw P kt∧∀ w,(zeroValue el).run P w=.ok (.bool false) w:=by
 unfold Qkd at h;split at h
 ·rename_i kt' el hu;split at h
  ·rename_i hh;cases h;simp only [Bool.and_eq_true] at hh;obtain ⟨⟨⟨h1,h2⟩,h3⟩,h4⟩:=hh;refine ⟨el,hu,deep_law (m:=3) (by omega) h1 h2 ?_,fun w=>?_⟩
   ·unfold Zbr at h3;split at h3
    ·rename_i e;rw [e]
    ·rename_i e;rw [e]
    ·cases h3
   ·unfold Qzu at h4;split at h4
    ·rename_i i hi;split at h4
     ·rename_i hz;simp [zeroValue,typeInfo,hi,hz]
     ·cases h4
    ·cases h4
  ·cases h
 ·cases h
def Qte (pv:PV):Option (Nat × Nat):=match pv with
 | .s (.a [.flat (.int .i64 (.ofNat a)),.flat (.int .i64 (.ofNat b))])=>some (a,b)
 | _=>none
theorem Qkx {m:M} {pv:PV} {v:Value} {a b:Nat} (h:Qte pv=some (a,b)) (hv:VP m pv v):v=prV a b:=by
 unfold Qte at h;split at h
 ·cases h;obtain ⟨vs,rfl,hl,hv⟩:=hv;have h2:vs.length=2:=by rw [← hl];rfl
  match vs,h2 with
  | [x,y],_ =>
   have hx:x=_∧_:=hv 0 _ x rfl rfl;have hy:y=_∧_:=hv 1 _ y rfl rfl;rw [hx.1,hy.1];rfl
 ·cases h
variable (P)
def keyB (kt:TypeId) (a b:Nat):Bool:=(keyOf P kt (prV a b)).isSome
def allK (kt:TypeId) (ks:List C):Bool:=ks.all fun c=>match c with
 | .low a b=>keyB P kt a b
 | _=>false
variable {P}
def Qvf:List C→Option (List C)
 | []=>some []
 | .emp false :: ks=>some ks
 | _=>none
def hasP (a b:Nat) (ks:List C):Bool:=ks.any fun c=>match c with
 | .low a' b'=>Nat.beq a a' && Nat.beq b b'
 | _=>false
theorem Qkw {rest ks:List C} {es:List MapEntry} (h:rest.map kvC=Qcm es∨∃ ks,rest=.emp false :: ks∧ks.map prC=es.map fun e=>some (e.key,e.val)) (hp:Qvf rest=some ks):ks.map prC=es.map fun e=>some (e.key,e.val):=by
 unfold Qvf at hp;split at hp
 ·cases hp;rcases h with h | ⟨ks,h,_⟩
  ·cases es with
   | nil=>rfl
   | cons e r=>simp [Qcm] at h
  ·cases h
 ·cases hp;rcases h with h | ⟨ks',h,h'⟩
  ·cases es with
   | nil=>simp [Qcm] at h
   | cons e r=>simp [Qcm,kvC] at h
  ·cases h;exact h'
 ·cases hp
theorem Zal {a b a' b':Nat} (h:prV a b=prV a' b'):a=a'∧b=b':=by
 unfold prV at h;simp at h;omega
theorem has_mem {a b:Nat} {ks:List C}:hasP a b ks=true↔C.low a b∈ks:=by
 unfold hasP;rw [List.any_eq_true];constructor
 ·rintro ⟨c,hc,h⟩;split at h
  ·simp only [Bool.and_eq_true,Nat.beq_eq] at h;obtain ⟨rfl,rfl⟩:=h;exact hc
  ·cases h
 ·exact fun h=>⟨_,h,by simp⟩
theorem Qn1 {kt:TypeId} (K:WideMaps.KeyLaw P kt) {ks:List C} {es:List MapEntry} (he:ks.map prC=es.map fun e=>some (e.key,e.val)) {a b:Nat} (hk:keyB P kt a b=true) (hall:allK P kt ks=true) (w:World) :
  (hasP a b ks=false∧(Instr.findKey kt (prV a b) es).run P w=.ok none w)∨∃ j e,hasP a b ks=true∧(Instr.findKey kt (prV a b) es).run P w=.ok (some (j,e.val)) w∧es[j]?=some e∧e.key=prV a b∧e.val=.bool true:=by
 have back:∀ e∈es,∃ x y,C.low x y∈ks∧e.key=prV x y∧e.val=.bool true:=fun e hm=>by
  obtain ⟨j,hj,rfl⟩:=List.mem_iff_getElem.1 hm;have h1:=congrArg (fun l=>l[j]?) he;simp only [List.getElem?_map,List.getElem?_eq_getElem hj,Option.map_some] at h1;cases hc:ks[j]? with
  | none=>rw [hc] at h1;cases h1
  | some c =>
   rw [hc] at h1;simp only [Option.map_some,Option.some.injEq] at h1;unfold prC at h1;split at h1
   ·rename_i x y;simp only [Option.some.injEq,Prod.mk.injEq] at h1;exact ⟨x,y,List.mem_of_getElem? hc,h1.1.symm,h1.2.symm⟩
   ·cases h1
 obtain ⟨l,hl⟩:=Option.isSome_iff_exists.1 hk;rcases K.find w hl es (fun e hm=>by
   obtain ⟨x,y,h1,h2,_⟩:=back e hm;have:=List.all_eq_true.1 hall _ h1;rw [h2];exact Option.isSome_iff_exists.1 this) with ⟨h1,h2⟩ | ⟨j,e,h1,h2,h3⟩
 ·refine .inl ⟨?_,h1⟩;cases hh:hasP a b ks with
  | false=>rfl
  | true =>
   have hm:=has_mem.1 hh;obtain ⟨j,hj,hjc⟩:=List.mem_iff_getElem.1 hm;have h4:=congrArg (fun l=>l[j]?) he;simp only [List.getElem?_map,List.getElem?_eq_getElem hj,hjc,Option.map_some,prC] at h4;cases hc:es[j]? with
   | none=>rw [hc] at h4;cases h4
   | some e =>
    rw [hc] at h4;simp only [Option.map_some,Option.some.injEq,Prod.mk.injEq] at h4;exact absurd h4.1.symm (h2 e (List.mem_of_getElem? hc))
 ·obtain ⟨x,y,g1,g2,g3⟩:=back e (List.mem_of_getElem? h2);obtain ⟨rfl,rfl⟩:=Zal (g2.symm.trans h3);exact .inr ⟨j,e,has_mem.2 g1,h1,h2,h3,g3⟩
variable (P)
def Qho (st:St) (kt:TypeId) (i a b:Nat):Option Bool:=match Qmh st i with
 | none=>none
 | some (_,rest)=>match Qvf rest with
  | none=>none
  | some ks=>if keyB P kt a b && allK P kt ks then some (hasP a b ks) else none
def Qfd (st:St) (kt:TypeId) (i a b:Nat):Option St:=match Qmh st i with
 | none=>none
 | some (o,rest)=>match Qvf rest with
  | none=>none
  | some ks=>if keyB P kt a b && allK P kt ks then some ⟨st.h.set i { o with cells:=.emp true :: .emp false :: (if hasP a b ks then ks else ks++[.low a b]) },min st.lo i⟩ else none
def Qfe (st:St) (T:TypeId) (i:Nat) (k:PV) (ok:Bool):Option PV:=match Qkd P T with
 | some kt=>(match Qte k with
  | some p=>if ok then none else (match Qho P st kt i p.1 p.2 with
   | some b=>some (.s (.c (.flat (.bool b))))
   | none=>none)
  | none=>none)
 | none=>(match k with
  | .s (.c c)=>Qii P st T i c ok
  | _=>none)
def Qdm (st:St) (T:TypeId) (i:Nat) (k:PV) (v:C):Option St:=match Qkd P T with
 | some kt=>(match Qte k,v with
  | some p,.flat (.bool true)=>Qfd P st kt i p.1 p.2
  | _,_=>none)
 | none=>(match k with
  | .s (.c c)=>Qek P st T i c v
  | _=>none)
variable {P}
theorem Qon {m:M} {st:St} {w:World} {a:Act} {e:Look} {o:Oper} {T:TypeId} {x y:Operand} {ok:Bool} {i:Nat} {k pv:PV} (hs:SR m st.h w) (he:EL m e a) (ho:o.op=.lookup T x y ok)
  (hx:evX e x=some (.s (.c (.mp i)))) (hy:evX e y=some k) (h:Qfe P st T i k ok=some pv):DoesS P m w a o pv:=by
 unfold Qfe at h;split at h
 ·rename_i kt hkt;obtain ⟨el,hT,K,hz⟩:=Qk3 hkt;split at h
  ·rename_i p hp;split at h
   ·cases h
   rename_i hok;split at h
   ·rename_i b hb;cases h;obtain ⟨q,hm,hv⟩:∃ p,m i=some p∧a.eval x=.map (some p.b):=Qai he hx;have hky:=Qkx hp (Qai he hy:VP m k (a.eval y));unfold Qho at hb;split at hb
    ·cases hb
    rename_i ob rest hmo;obtain ⟨hob,hmp⟩:=Qd0 hmo;split at hb
    ·cases hb
    rename_i ks hks;split at hb
    ·rename_i hh;simp only [Bool.and_eq_true] at hh;cases hb;obtain ⟨es,cl,hbl,hfl⟩:=hs.mr.at_ i q ob rest hm hob hmp;obtain ⟨l,hl⟩:=Option.isSome_iff_exists.1 hh.1;have hck:=fun em=>K.check w em hl;have hok':ok=false:=by simpa using hok
     subst hok';rcases Qn1 K (Qkw hfl hks) hh.1 hh.2 w with ⟨g1,g2⟩ | ⟨j,en,g1,g2,g3,g4,g5⟩
     ·rw [g1];exact DoesS.same (v:=.bool false) (by simp [execOp,ho,hv,hky,Instr.lookup,run_underlying hT,MapKept.run_getObj_map hbl,hck,g2,hz,Result.andThen]) ⟨rfl,rfl⟩
     ·rw [g1];exact DoesS.same (v:=.bool true) (by simp [execOp,ho,hv,hky,Instr.lookup,run_underlying hT,MapKept.run_getObj_map hbl,hck,g2,g5,Result.andThen]) ⟨rfl,rfl⟩
    ·cases hb
   ·cases h
  ·cases h
 ·split at h
  ·exact Qql hs he ho hx hy h
  ·cases h
theorem Qi1 {m:M} {st st':St} {w:World} {a:Act} {e:Look} {o:Oper} {T:TypeId} {x y z:Operand} {i:Nat} {k:PV} {v:C} (hs:SR m st.h w) (he:EL m e a) (ho:o.op=.mapUpdate T x y z∨o.op=.insert T x y z)
  (hx:evX e x=some (.s (.c (.mp i)))) (hy:evX e y=some k) (hz:evX e z=some (.s (.c v))) (h:Qdm P st T i k v=some st'):Does P m st w a o .skip st':=by
 unfold Qdm at h;split at h
 ·rename_i kt hkt;obtain ⟨el,hT,K,_⟩:=Qk3 hkt;split at h
  ·rename_i p hp;obtain ⟨q,hm,hv⟩:∃ p,m i=some p∧a.eval x=.map (some p.b):=Qai he hx;have hky:=Qkx hp (Qai he hy:VP m k (a.eval y));have hvc:a.eval z=.bool true∧_:=Qai he hz;have hvz:=hvc.1;unfold Qfd at h;split at h
   ·cases h
   rename_i ob rest hmo;obtain ⟨hob,hmp⟩:=Qd0 hmo;split at h
   ·cases h
   rename_i ks hks;split at h
   ·rename_i hh;simp only [Bool.and_eq_true] at hh;cases h;obtain ⟨es,cl,hbl,hfl⟩:=hs.mr.at_ i q ob rest hm hob hmp;obtain ⟨l,hl⟩:=Option.isSome_iff_exists.1 hh.1;have hck:=fun em=>K.check w em hl;have hps:=Qkw hfl hks;rcases Qn1 K hps hh.1 hh.2 w with ⟨g1,g2⟩ | ⟨j,en,g1,g2,g3,g4,g5⟩
    ·rw [g1];refine Qqb (es':=es.push { key:=prV p.1 p.2,val:=.bool true,born:=cl }) (cl':=cl+1) hs hm hob hmp hbl (.inr ⟨_,rfl,by simp [hps,prC]⟩) ?_;rcases ho with ho | ho <;> simp [execOp,ho,hv,hky,hvz,Instr.mapUpdate,run_underlying hT,MapKept.run_getObj_map hbl,hck,g2,MapKept.run_setObj_map _ hbl,Result.andThen]
    ·rw [g1];have hj:es[j]?=some en:=by simpa using g3
     refine Qqb (es':=es.modify j fun e=>{ e with key:=prV p.1 p.2,val:=.bool true }) (cl':=cl) hs hm hob hmp hbl (.inr ⟨_,rfl,?_⟩) ?_
     ·rw [if_pos rfl,hps];refine List.ext_getElem? fun q=>?_;simp only [List.getElem?_map,Array.toList_modify,List.getElem?_modify];by_cases e:j=q
      ·subst e;rw [g3];simp [g4,g5]
      ·cases es.toList[q]? <;> simp [e]
     ·rcases ho with ho | ho <;> simp [execOp,ho,hv,hky,hvz,Instr.mapUpdate,run_underlying hT,MapKept.run_getObj_map hbl,hck,g2,hj,g4,K.stays w hl,MapKept.run_setObj_map _ hbl,Result.andThen]
   ·cases h
  ·cases h
 ·split at h
  ·exact Qqc hs he ho hx hy hz h
  ·cases h
end Ev
end Go.Proofs.YtcpodmjcgfgmnaaGreat
namespace Go.Proofs.YtcpodmjcgfgmnaaGreat
open Go.RowKit
namespace Ev
variable {P:Program}
def Qg8 (k:IntKind) (n:Int):Int:=match k with
 | .i64=>(match n % 18446744073709551616 with
  | .ofNat m=>if Nat.ble 9223372036854775808 m then Int.subNatNat m 18446744073709551616 else .ofNat m
  | r=>r)
 | .u64=>n % 18446744073709551616
 | .u32=>n % 4294967296
 | .u8=>n % 256
 | k=>k.wrap n
theorem Qd5 (k:IntKind) (n:Int):Qg8 k n=k.wrap n:=by
 cases k <;> simp only [Qg8] <;> try rfl
 have hp:0≤n % 18446744073709551616:=Int.emod_nonneg _ (by decide);have e1:IntKind.wrap .i64 n=if n % 18446744073709551616≥9223372036854775808 then n % 18446744073709551616 - 18446744073709551616 else n % 18446744073709551616:=by
  simp [IntKind.wrap,IntKind.bits,IntKind.signed]
 rw [e1];cases hm:n % 18446744073709551616 with
 | ofNat m =>
  simp only [Nat.ble_eq];by_cases h:9223372036854775808≤m
  ·rw [if_pos h,if_pos (show (Int.ofNat m)≥9223372036854775808 by simp only [Int.ofNat_eq_natCast];omega),Int.subNatNat_eq_coe];rfl
  ·rw [if_neg h,if_neg (show ¬ (Int.ofNat m)≥9223372036854775808 by simp only [Int.ofNat_eq_natCast];omega)]
 | negSucc m=>rw [hm] at hp;omega
def ltF:Int→Int→Bool
 | .ofNat a,.ofNat b=>Nat.blt a b
 | a,b=>decide (a < b)
theorem Zcc (a b:Int):ltF a b=decide (a < b):=by
 unfold ltF;split
 ·rename_i a b;rw [Bool.eq_iff_iff];simp [Nat.blt_eq]
 ·rfl
def eqF:Int→Int→Bool
 | .ofNat a,.ofNat b=>Nat.beq a b
 | a,b=>decide (a=b)
theorem eqF_eq (a b:Int):eqF a b=decide (a=b):=by
 unfold eqF;split
 ·rename_i a b;rw [Bool.eq_iff_iff];simp [Nat.beq_eq];omega
 ·rfl
theorem Qtk (a b:Int):(!decide (b < a))=decide (a≤b):=by rw [Bool.eq_iff_iff];simp [Int.not_lt]
def Qma (op:BinOp) (a b:Nat):Option Nat:=match op with
 | .and=>some (Nat.land a b)
 | .or=>some (Nat.lor a b)
 | .xor=>some (Nat.xor a b)
 | _=>none
def Qfv (op:BinOp) (k k':IntKind) (a b:Int):Option Value:=match op with
 | .add=>if k=k' then some (.int k (Qg8 k (a+b))) else none
 | .sub=>if k=k' then some (.int k (Qg8 k (a - b))) else none
 | .mul=>if k=k' then some (.int k (Qg8 k (a * b))) else none
 | .lss=>if k=k' then some (.bool (ltF a b)) else none
 | .gtr=>if k=k' then some (.bool (ltF b a)) else none
 | .leq=>if k=k' then some (.bool (!ltF b a)) else none
 | .geq=>if k=k' then some (.bool (!ltF a b)) else none
 | .eql=>if k=k' then some (.bool (eqF a b)) else none
 | .neq=>if k=k' then some (.bool (!eqF a b)) else none
 | .quo=>if k=k' then (match b with | .ofNat (b+1)=>some (.int k (Qg8 k (a.tdiv (.ofNat (b+1))))) | _=>none) else none
 | .rem=>if k=k' then (match b with | .ofNat (b+1)=>some (.int k (a.tmod (.ofNat (b+1)))) | _=>none) else none
 | .shr=>match a,b with
  | .ofNat a,.ofNat b=>if Nat.ble b 63 && Nat.ble b k.bits then some (.int k (.ofNat (Nat.shiftRight a b))) else none
  | _,_=>none
 | .shl=>match a,b with
  | .ofNat a,.ofNat b=>if Nat.ble b 63 && Nat.ble b k.bits then some (.int k (Qg8 k (.ofNat (Nat.shiftLeft a b)))) else none
  | _,_=>none
 | .and | .or | .xor=>match a,b with
  | .ofNat a,.ofNat b=>if k=k'∧a < 2 ^ k.bits∧b < 2 ^ k.bits then (match Qma op a b with | some r=>some (.int k (Qg8 k (.ofNat r))) | none=>none) else none
  | _,_=>none
 | _=>none
theorem Qt7 {op:BinOp} {k k':IntKind} {a b:Int} {v:Value} (h:Qfv op k k' a b=some v) (T:TypeId) (w:World):(binOp op T (.int k a) (.int k' b)).run P w=.ok v w:=by
 cases op <;> simp only [Qfv] at h
 case quo =>
  split at h
  ·subst k';split at h
   ·rename_i n;cases h;have:(Int.ofNat (n+1))≠0:=by simp only [Int.ofNat_eq_natCast];omega
    simp only [binOp,Op.intDiv,Qd5,if_neg this,ne_eq,not_true_eq_false,if_false];rfl
   ·cases h
  ·cases h
 case rem =>
  split at h
  ·subst k';split at h
   ·rename_i n;cases h;have:(Int.ofNat (n+1))≠0:=by simp only [Int.ofNat_eq_natCast];omega
    simp only [binOp,Op.intDiv,if_neg this,ne_eq,not_true_eq_false,if_false];rfl
   ·cases h
  ·cases h
 case shr =>
  split at h
  ·rename_i a b;split at h
   ·rename_i hb;cases h;simp only [Bool.and_eq_true,Nat.ble_eq] at hb;have h0:¬ (Int.ofNat b < 0):=by simp only [Int.ofNat_eq_natCast];omega
    have hmin:min (Int.ofNat b).toNat k.bits=b:=by show min b k.bits=b;exact Nat.min_eq_left hb.2
    have e:(Int.ofNat (Nat.shiftRight a b))=(Int.ofNat a).fdiv (2 ^ b):=by
     show ((a >>> b:Nat):Int)=_;rw [Nat.shiftRight_eq_div_pow,Int.natCast_ediv,Int.natCast_pow];rw [Int.fdiv_eq_ediv_of_nonneg _ (by exact_mod_cast Nat.zero_le _)];rfl
    simp only [binOp,Op.shift,if_neg h0,hmin,← e];rfl
   ·cases h
  ·cases h
 case shl =>
  split at h
  ·rename_i a b;split at h
   ·rename_i hb;cases h;simp only [Bool.and_eq_true,Nat.ble_eq] at hb;have h0:¬ (Int.ofNat b < 0):=by simp only [Int.ofNat_eq_natCast];omega
    have hmin:min (Int.ofNat b).toNat k.bits=b:=by show min b k.bits=b;exact Nat.min_eq_left hb.2
    have e:(Int.ofNat (Nat.shiftLeft a b))=(Int.ofNat a) * (2 ^ b):=by
     show ((a <<< b:Nat):Int)=_;rw [Nat.shiftLeft_eq,Int.natCast_mul,Int.natCast_pow];rfl
    simp only [binOp,Op.shift,if_neg h0,hmin,Qd5,e];rfl
   ·cases h
  ·cases h
 case and =>
  split at h
  ·rename_i a b;split at h
   ·rename_i hh;obtain ⟨rfl,ha,hb⟩:=hh;simp only [Qma] at h;cases h;have e:(BitVec.ofInt k.bits (Int.ofNat a) &&& BitVec.ofInt k.bits (Int.ofNat b)).toNat=Nat.land a b:=by
     show (BitVec.ofInt k.bits (a:Int) &&& BitVec.ofInt k.bits (b:Int)).toNat=a &&& b;rw [BitVec.ofInt_natCast,BitVec.ofInt_natCast,BitVec.toNat_and,BitVec.toNat_ofNat,BitVec.toNat_ofNat,Nat.mod_eq_of_lt ha,Nat.mod_eq_of_lt hb]
    simp only [binOp,Op.intBits,Qd5,ne_eq,not_true_eq_false,if_false,e];rfl
   ·cases h
  ·cases h
 case or =>
  split at h
  ·rename_i a b;split at h
   ·rename_i hh;obtain ⟨rfl,ha,hb⟩:=hh;simp only [Qma] at h;cases h;have e:(BitVec.ofInt k.bits (Int.ofNat a) ||| BitVec.ofInt k.bits (Int.ofNat b)).toNat=Nat.lor a b:=by
     show (BitVec.ofInt k.bits (a:Int) ||| BitVec.ofInt k.bits (b:Int)).toNat=a ||| b
     rw [BitVec.ofInt_natCast,BitVec.ofInt_natCast,BitVec.toNat_or,BitVec.toNat_ofNat,BitVec.toNat_ofNat,Nat.mod_eq_of_lt ha,Nat.mod_eq_of_lt hb]
    simp only [binOp,Op.intBits,Qd5,ne_eq,not_true_eq_false,if_false,e];rfl
   ·cases h
  ·cases h
 case xor =>
  split at h
  ·rename_i a b;split at h
   ·rename_i hh;obtain ⟨rfl,ha,hb⟩:=hh;simp only [Qma] at h;cases h;have e:(BitVec.ofInt k.bits (Int.ofNat a) ^^^ BitVec.ofInt k.bits (Int.ofNat b)).toNat=Nat.xor a b:=by
     show (BitVec.ofInt k.bits (a:Int) ^^^ BitVec.ofInt k.bits (b:Int)).toNat=a ^^^ b;rw [BitVec.ofInt_natCast,BitVec.ofInt_natCast,BitVec.toNat_xor,BitVec.toNat_ofNat,BitVec.toNat_ofNat,Nat.mod_eq_of_lt ha,Nat.mod_eq_of_lt hb]
    simp only [binOp,Op.intBits,Qd5,ne_eq,not_true_eq_false,if_false,e];rfl
   ·cases h
  ·cases h
 all_goals first
  | (cases h;done)
  | (split at h
     ·subst k';cases h;simp only [binOp,Op.intArith,Op.intCmp,Qd5,Zcc,eqF_eq,Qtk,ne_eq,not_true_eq_false,if_false]
      first
       | rfl
       | (simp;done)
       | (simp;omega)
     ·cases h)
end Ev
end Go.Proofs.YtcpodmjcgfgmnaaGreat
