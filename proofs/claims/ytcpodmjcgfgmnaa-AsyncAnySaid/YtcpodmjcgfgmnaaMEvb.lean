/- Ev: a function's code, run on what is known of its values. Sixth part: append, texts, comparisons; what asks nothing of the world. No program. -/
import Derived.Test.YtcpodmjcgfgmnaaMEva
import Derived.MapKept
import Derived.Lib.AppendZerosOnto
namespace Go.Proofs.Ytcpodmjcgfgmnaa
open Go.RowKit
namespace Ev
variable {P:Program}
theorem Res.killed {m:M} {st:St} {w:World} (hs:SR m st.h w) {i:Nat} {o:O} (ho:st.h[i]?=some o):Res m st w m ⟨st.h.set i { o with live:=false,cells:=[] },min st.lo i⟩ w:=by
 have hi:=(List.getElem?_eq_some_iff.1 ho).1
 refine ⟨hs.kill i o ho,Fr.refl _ w hs.dom,by simp,Nat.min_le_left _ _,fun j hj hjl=>?_⟩
 have:j≠i:=by
  have h1:min st.lo i≤i:=Nat.min_le_right _ _
  have hjl':j < min st.lo i:=hjl
  omega
 simp [Ne.symm this]
theorem Res.draw {m:M} {st:St} {w w':World} (hr:Res m st w m st w'):Res m st w m st w'.drew :=
 ⟨hr.sr.drew,⟨hr.fr.same,hr.fr.back,hr.fr.new,hr.fr.size,hr.fr.os,hr.fr.tape,hr.fr.output,hr.fr.keep⟩,hr.len,hr.lo,hr.old⟩
theorem Res.draw2 {m:M} {st st1:St} {w:World} (hr:Res m st w m st1 w):Res m st w m st1 w.drew :=
 ⟨hr.sr.drew,⟨hr.fr.same,hr.fr.back,hr.fr.new,hr.fr.size,hr.fr.os,hr.fr.tape,hr.fr.output,hr.fr.keep⟩,hr.len,hr.lo,hr.old⟩
theorem Res.drew {m:M} {st:St} {w:World} (hs:SR m st.h w):Res m st w m st w.drew:=(Res.refl hs).draw
theorem Res.draw' {m m':M} {st st1 st':St} {w w':World} (hr:Res m st w m st1 w) (k:Res m st1 w.drew m' st' w'):Res m st w m' st' w' :=
 hr.draw2.trans k
theorem Res.room {m:M} {st:St} {w:World} (hs:SR m st.h w) {i:Nat} {p:Pl} {o:O} (hm:m i=some p) (ho:st.h[i]?=some o) (hl:o.live=true) (hrw:o.rw=true)
  {cur:Array Value} (hb:w.heap[p.b]?=some (.cells cur o.ty (0,0))) (cs:List C) (cur':Array Value) (hsz:cur'.size=cur.size) (q:Pl) (hqb:q.b=p.b) (hqn:q.n=p.n) (hn:q.o+cs.length≤cur'.size)
  (hc:∀ (j:Nat) c,cs[j]?=some c→∃ v,cur'[q.o+j]?=some v∧VC m c v) :
  Res m st w (put m st.h.length q) ⟨st.h.set i { o with live:=false,cells:=[] }++[⟨cs,o.ty,true,true,false⟩],min st.lo i⟩ (w.setRow p.b cur'):=by
 have hi:i < st.h.length:=hs.dom i p hm
 have hpn:cur.size=p.n:=by
  obtain ⟨cur0,fr,h1,h2,_⟩:=hs.obj i p o hm ho hl
  rw [hb] at h1;cases h1;exact h2
 have hext:=put_ext (n:=st.h.length) q hs.dom
 have hlen:(st.h.set i { o with live:=false,cells:=[] }).length=st.h.length:=by simp
 have old:∀ (j:Nat) (oj:O) (q:Pl),m j=some q→(st.h.set i { o with live:=false,cells:=[] }++[⟨cs,o.ty,true,true,false⟩])[j]?=some oj→oj.live=true→j≠i∧st.h[j]?=some oj:=fun j oj q hmj hj hlj=>by
  have hjl:=hs.dom j q hmj
  rw [List.getElem?_append_left (by rw [hlen];exact hjl)] at hj
  by_cases e:j=i
  ·subst e
   have:oj={ o with live:=false,cells:=[] }:=by simpa [List.getElem?_set,hi] using hj.symm
   subst this
   cases hlj
  ·exact ⟨e,by simpa [List.getElem?_set,Ne.symm e] using hj⟩
 refine ⟨⟨?_,?_,?_,hs.mr.keep (fun j q' oj rest hj hoj hmp=>?_) (fun b es cl hb'=>?_)⟩,⟨hext,fun j hj=>put_ne _ _ (by omega),?_,by simp,rfl,rfl,rfl,fun b hb' hne=>?_⟩,by simp,Nat.min_le_left _ _,fun j hj hjl=>?_⟩
 ·intro j q' hj
  by_cases e:j=st.h.length
  ·subst e;simp
  ·rw [put_ne _ _ e] at hj;have:=hs.dom j q' hj;simp;omega
 ·intro j q' oj hj hoj hlj
  by_cases e:j=st.h.length
  ·subst e
   rw [put_same] at hj;cases hj
   have:oj=⟨cs,o.ty,true,true,false⟩:=by
    rw [List.getElem?_append_right (by rw [hlen];exact Nat.le_refl _),hlen] at hoj
    simpa using hoj.symm
   subst this
   refine ⟨cur',(0,0),by rw [hqb];exact setRow_heap w p.b cur cur' _ _ hb,by rw [hsz,hpn,hqn],by show q.o+cs.length≤q.n;rw [hqn,← hpn,← hsz];omega,fun j c hcj=>?_,(fun _=>rfl),(fun h=>by cases h)⟩
   obtain ⟨v,h1,h2⟩:=hc j c hcj
   exact ⟨v,h1,h2.ext hext⟩
  ·rw [put_ne _ _ e] at hj
   obtain ⟨hne,hoj'⟩:=old j oj q' hj hoj hlj
   obtain ⟨c1,fr,h1,h2,h3,h4,h5⟩:=hs.obj j q' oj hj hoj' hlj
   exact ⟨c1,fr,by rw [setRow_other w p.b q'.b cur' (hs.sep i j p q' o oj hm hj ho hoj' hrw hl hlj (Ne.symm hne)).symm];exact h1,h2,h3,fun k c hk=>by obtain ⟨v,a,b⟩:=h4 k c hk;exact ⟨v,a,b.ext hext⟩,h5⟩
 ·intro a b pa pb oa ob ha hb1 hoa hob hrwa hla hlb hne
  by_cases ea:a=st.h.length
  ·subst ea
   rw [put_same] at ha;cases ha
   rw [put_ne _ _ (Ne.symm hne)] at hb1
   obtain ⟨k1,k2⟩:=old b ob pb hb1 hob hlb
   rw [hqb]
   exact hs.sep i b p pb o ob hm hb1 ho k2 hrw hl hlb (Ne.symm k1)
  ·rw [put_ne _ _ ea] at ha
   obtain ⟨k1,k2⟩:=old a oa pa ha hoa hla
   by_cases eb:b=st.h.length
   ·subst eb
    rw [put_same] at hb1;cases hb1
    rw [hqb]
    exact (hs.sep i a p pa o oa hm ha ho k2 hrw hl hla (Ne.symm k1)).symm
   ·rw [put_ne _ _ eb] at hb1
    obtain ⟨j1,j2⟩:=old b ob pb hb1 hob hlb
    exact hs.sep a b pa pb oa ob ha hb1 k2 j2 hrwa hla hlb hne
 ·by_cases e:j=st.h.length
  ·subst e
   have:oj=⟨cs,o.ty,true,true,false⟩:=by
    rw [List.getElem?_append_right (by rw [hlen];exact Nat.le_refl _),hlen] at hoj
    simpa using hoj.symm
   subst this
   cases hmp.1
  ·rw [put_ne _ _ e] at hj
   refine ⟨hj,?_⟩
   rw [List.getElem?_append_left (by rw [hlen];exact hs.dom j q' hj)] at hoj
   by_cases e:j=i
   ·subst e
    have:oj={ o with live:=false,cells:=[] }:=by simpa [List.getElem?_set,hi] using hoj.symm
    subst this
    cases hmp.2
   ·simpa [List.getElem?_set,Ne.symm e] using hoj
 ·rw [setRow_other w p.b b cur' (fun e=>by subst e;rw [hb] at hb';cases hb')];exact hb'
 ·intro j q' hj hmj
  by_cases e:j=st.h.length
  ·subst e;rw [put_same] at hmj;cases hmj;exact .inr ⟨i,p,Nat.min_le_right _ _,hi,hm,hqb.symm⟩
  ·rw [put_ne _ _ e] at hmj;have:=hs.dom j q' hmj;omega
 ·exact setRow_other w p.b b cur' (fun e=>hne i p (Nat.min_le_right _ _) hi hm e.symm)
 ·have:j≠i:=by
   have h1:min st.lo i≤i:=Nat.min_le_right _ _
   have hjl':j < min st.lo i:=hjl
   omega
  rw [List.getElem?_append_left (by simpa using hj)]
  simp [Ne.symm this]
def evCells (st:St):C→Option (List C × Nat)
 | .flat (.slice none 0 0)=>some ([],0)
 | .emp _=>some ([],0)
 | .q _ _ _=>some ([],0)
 | .sl i off len sz=>match st.h[i]? with
  | none=>none
  | some o=>if o.live=true∧(o.full=true∨off+len * sz≤o.cells.length) then some ((o.cells.drop off).take (len * sz),len) else none
 | _=>none
theorem evCells_spec {m:M} {st:St} {w:World} (hs:SR m st.h w) {c:C} {v:Value} (hv:VC m c v) {cs:List C} {n:Nat} (h:evCells st c=some (cs,n)) :
  ∃ ad cap vs,v=.slice ad n cap∧All2 (VC m) cs vs∧(∀ a,ad=some a→∀ j u,vs[j]?=some u→w.cell? (a.add j)=some u)∧(0 < n→ad≠none):=by
 unfold evCells at h
 split at h
 ·cases h;exact ⟨none,0,[],hv.1,All2.nil,by simp,by simp⟩
 ·cases h;obtain ⟨a,cap,rfl,_⟩:=hv;exact ⟨some a,cap,[],rfl,All2.nil,fun a _ j u hu=>by simp at hu,by simp⟩
 ·cases h;obtain ⟨p,a,cap,_,rfl,_⟩:=hv;exact ⟨some a,cap,[],rfl,All2.nil,fun a _ j u hu=>by simp at hu,by simp⟩
 ·rename_i i off len sz
  split at h
  ·cases h
  rename_i o ho
  split at h
  ·rename_i hh
   cases h
   obtain ⟨p,cap,hm,rfl,hle,_,hcp⟩:=hv
   obtain ⟨cur,fr,hb,hsz,hlen,hcell,hff⟩:=hs.obj i p o hm ho hh.1
   have hh:o.live=true∧off+n * sz≤o.cells.length:=⟨hh.1,hh.2.elim (fun hf=>by
    obtain ⟨f1,f2⟩:=hff.2 hf
    have:n * sz≤cap * sz:=Nat.mul_le_mul_right _ hle
    rw [f1] at hcp
    omega) id⟩
   refine ⟨_,cap,(cur.toList.drop (p.o+off)).take (n * sz),rfl,⟨by simp;omega,fun j c v hc hv=>?_⟩,fun a ha j u hu=>?_,by simp⟩
   ·rw [List.getElem?_take] at hc hv
    split at hc
    ·rw [if_pos (by assumption),List.getElem?_drop] at hv
     rw [List.getElem?_drop] at hc
     obtain ⟨u,hu,hvc⟩:=hcell _ c hc
     rw [← Nat.add_assoc] at hu
     have hv':cur[p.o+off+j]?=some v:=by simpa using hv
     rw [hv'] at hu;cases hu;exact hvc
    ·cases hc
   ·cases ha
    rw [Addr.add_lit,cell_of_row w p.b _ cur _ _ hb]
    rw [List.getElem?_take] at hu
    split at hu
    ·rw [List.getElem?_drop] at hu;simpa using hu
    ·cases hu
  ·cases h
 ·cases h
variable (P)
def evAppend (st:St) (T:TypeId) (s x:C):Option (PV × St) :=
 match P.underlying T with
 | some (.slice el)=>match P.info? el with
  | none=>none
  | some inf=>if inf.size=0∨inf.zero.map (·.cells.size)≠some inf.size then none else match evCells st x with
   | none=>none
   | some (news,k) =>
    if k=0 then (match s with
     | .flat (.slice none 0 0)=>some (.s (.c s),st)
     | .sl _ _ _ _=>some (.s (.c s),st)
     | .emp _=>some (.s (.c s),st)
     | .q _ _ _=>some (.s (.c s),st)
     | _=>none)
    else if news.length≠k * inf.size then none
    else match s with
    | .flat (.slice none 0 0)=>if k≤maxLen∧k * inf.bytes≤140737488355328 then
      some (.s (.c (.sl st.h.length 0 k inf.size)),⟨st.h++[⟨news,el,true,true,false⟩],st.lo⟩) else none
    | .emp true=>if k≤maxLen∧k * inf.bytes≤140737488355328 then
      some (.s (.c (.sl st.h.length 0 k inf.size)),⟨st.h++[⟨news,el,true,true,false⟩],st.lo⟩) else none
    | .sl i off len sz=>match st.h[i]? with
     | none=>none
     | some o=>if o.live=true∧o.full=true∧off=0∧sz=inf.size∧o.cells.length=len * sz∧o.rw=false∧len+k≤maxLen∧(len+k) * inf.bytes≤140737488355328 then
       some (.s (.c (.sl st.h.length 0 (len+k) sz)),⟨st.h++[⟨o.cells++news,el,true,true,false⟩],st.lo⟩)
      else if o.live=true∧o.rw=true∧o.ty=el∧sz=inf.size∧o.cells.length=off+len * sz∧len+k≤maxLen∧(len+k) * inf.bytes≤140737488355328 then
       some (.s (.c (.sl st.h.length 0 (len+k) sz)),⟨st.h.set i { o with live:=false,cells:=[] }++[⟨o.cells.drop off++news,el,true,true,false⟩],min st.lo i⟩) else none
    | .q i _off sz=>match st.h[i]? with
     | none=>none
     | some o=>if o.live=true∧o.rw=true∧o.ty=el∧sz=inf.size∧k≤maxLen∧k * inf.bytes≤140737488355328 then
       some (.s (.c (.sl st.h.length 0 k sz)),⟨st.h.set i { o with live:=false,cells:=[] }++[⟨news,el,true,true,false⟩],min st.lo i⟩) else none
    | _=>none
 | _=>none
variable {P}
theorem run_append_room_at (w:World) (t ty e:TypeId) (i:TypeInfo) (ht:P.underlying t=some (.slice e)) (hi:P.info? e=some i)
  (g off sLen sCap:Nat) (cur:Array Value) (hg:w.heap[g]?=some (.cells cur e (0,0)))
  (a:Addr) (m c:Nat) (news:List Value) (hl:news.length=m * i.size) (hnews:∀ j u,news[j]?=some u→w.cell? (a.add j)=some u) (h1:∀ u∈news,u.oneCell'=true)
  (hroom:sLen+m≤sCap) (hfit:off+sLen * i.size+news.length≤cur.size) :
  (Builtin.append_ #[t,t] ty #[.slice (some ⟨g,off,none⟩) sLen sCap,.slice (some a) m c]).run P w =
    .ok (.slice (some ⟨g,off,none⟩) (sLen+m) sCap) (w.setRow g (cur.toList.take (off+sLen * i.size)++news++cur.toList.drop (off+sLen * i.size+news.length)).toArray):=by
 have hf:=run_firstCells_some (P:=P) w i.size m a m c news hl hnews
 have hst:=run_storeCells_at P g (off+sLen * i.size) e news 0 cur w hg (by simpa using hfit) h1
 simp only [Nat.add_zero] at hst
 simp [Builtin.append_,run_underlying ht,sizeOf,typeInfo,hi,Builtin.lenOf,hroom,hf,Addr.add_lit,hst]
theorem room_cells {m:M} {cur:Array Value} {d k:Nat} {olds news:List C} {ovs vs:List Value} (hold:All2 (VC m) olds ovs) (hov:∀ (j:Nat) v,ovs[j]?=some v→cur[d+j]?=some v) (hall:All2 (VC m) news vs) (hk:k=d+ovs.length) (hfit:k+vs.length≤cur.size) :
  (cur.toList.take k++vs++cur.toList.drop (k+vs.length)).toArray.size=cur.size∧d+(olds++news).length≤(cur.toList.take k++vs++cur.toList.drop (k+vs.length)).toArray.size ∧
  ∀ (j:Nat) c,(olds++news)[j]?=some c→∃ v,(cur.toList.take k++vs++cur.toList.drop (k+vs.length)).toArray[d+j]?=some v∧VC m c v:=by
 subst hk
 have e1:(cur.toList.take (d+ovs.length)++vs++cur.toList.drop (d+ovs.length+vs.length)).toArray.size=cur.size:=by simp;omega
 refine ⟨e1,by rw [e1,List.length_append,hold.1,hall.1];omega,fun j c hj=>?_⟩
 simp only [List.getElem?_toArray,List.append_assoc]
 have ht:(cur.toList.take (d+ovs.length)).length=d+ovs.length:=by simp;omega
 by_cases h1:j < olds.length
 ·rw [List.getElem?_append_left h1] at hj
  have h2:j < ovs.length:=by rw [← hold.1];exact h1
  have hv:=hov j _ (List.getElem?_eq_getElem h2)
  refine ⟨ovs[j],?_,hold.2 j c _ hj (List.getElem?_eq_getElem h2)⟩
  rw [List.getElem?_append_left (by rw [ht];omega),List.getElem?_take,if_pos (by omega)]
  simpa using hv
 ·rw [List.getElem?_append_right (by omega)] at hj
  have h2:j - olds.length < vs.length:=by rw [← hall.1];exact (List.getElem?_eq_some_iff.1 hj).1
  refine ⟨vs[j - olds.length],?_,hall.2 _ c _ hj (List.getElem?_eq_getElem h2)⟩
  have:=hold.1
  rw [List.getElem?_append_right (by rw [ht];omega),ht,show d+j - (d+ovs.length)=j - olds.length by omega,List.getElem?_append_left h2,List.getElem?_eq_getElem h2]
theorem exec_append {a:Act} {o:Oper} {s x:Operand} {T:TypeId} (ho:o.op=.call { callee:=.builtin .append,args:=#[s,x],argTypes:=#[T,T] }) {w w':World} {v:Value}
  (h:(Builtin.append_ #[T,T] o.type #[a.eval s,a.eval x]).run P w=.ok v w'):(execOp a.eval o).run P w=.ok (.value v) w':=by
 simp [execOp,ho,resolve,invoke,builtin,h]
theorem append_spec {m:M} {st st':St} {w:World} {a:Act} {e:Look} {o:Oper} {T:TypeId} {s x:Operand} {cs cx:C} {pv:PV} (hs:SR m st.h w) (he:EL m e a) (ho:o.op=.call { callee:=.builtin .append,args:=#[s,x],argTypes:=#[T,T] })
  (hsx:evX e s=some (.s (.c cs))) (hxx:evX e x=some (.s (.c cx))) (h:evAppend P st T cs cx=some (pv,st')):Does P m st w a o pv st':=by
 have hcs:VC m cs (a.eval s):=evX_spec he hsx
 have hcx:VC m cx (a.eval x):=evX_spec he hxx
 unfold evAppend at h
 split at h
 ·rename_i el hu
  split at h
  ·cases h
  rename_i inf hi
  split at h
  ·cases h
  rename_i hnz
  obtain ⟨z,hz,hzs⟩:∃ z,inf.zero=some z∧z.cells.size=inf.size:=by
   cases hh:inf.zero with
   | none=>simp [hh] at hnz
   | some z=>exact ⟨z,rfl,by simpa [hh] using (not_or.1 hnz).2⟩
  have hsz:inf.size≠0:=fun hh=>hnz (.inl hh)
  split at h
  ·cases h
  rename_i news k hcells
  obtain ⟨ad,cap,vs,hxv,hall,hmem,hnone⟩:=evCells_spec hs hcx hcells
  split at h
  ·rename_i hk
   subst hk
   have hvs:∀ (base:Option Addr) (len sc:Nat),len≤sc→a.eval s=.slice base len sc→(execOp a.eval o).run P w=.ok (.value (.slice base len sc)) w:=fun base len sc hle hsv=>by
    refine exec_append ho ?_
    rw [hsv,hxv]
    have hf:(Builtin.firstCells inf.size 0 (.slice ad 0 cap)).run P w=.ok #[] w:=by cases ad <;> simp [Builtin.firstCells,loadCells,loadCellsFrom]
    cases base <;> simp [Builtin.append_,run_underlying hu,sizeOf,typeInfo,hi,Builtin.lenOf,hf,hle,storeCells]
   split at h
   ·cases h;exact Does.same hs (hvs none 0 0 (Nat.le_refl _) hcs.1) ⟨rfl,rfl⟩
   ·cases h;obtain ⟨p,sc,h1,h2,h3,h4,h5⟩:=hcs;exact Does.same hs (hvs _ _ _ h3 h2) ⟨p,sc,h1,rfl,h3,h4,h5⟩
   ·cases h;obtain ⟨x0,sc,h2,h3⟩:=hcs;exact Does.same hs (hvs _ _ _ (Nat.zero_le _) h2) ⟨_,_,rfl,h3⟩
   ·cases h;obtain ⟨p,x0,sc,h1,h2,h3⟩:=hcs;exact Does.same hs (hvs _ _ _ (Nat.zero_le _) h2) ⟨p,_,_,h1,rfl,h3⟩
   ·cases h
  ·rename_i hk
   split at h
   ·cases h
   rename_i hnl
   have hnl:news.length=k * inf.size:=by simpa using hnl
   have hvl:vs.length=k * inf.size:=by rw [← hall.1];exact hnl
   cases ad with
   | none=>exact absurd rfl (hnone (by omega))
   | some ad =>
   have hone:∀ u∈vs,u.oneCell'=true:=fun u hu'=>by
    obtain ⟨j,hj,rfl⟩:=List.mem_iff_getElem.1 hu'
    have hj':j < news.length:=by rw [hall.1];exact hj
    exact (hall.2 j news[j] _ (by simp) (by simp)).one
   split at h
   ·split at h
    ·rename_i hb
     cases h
     have hr:=run_append_nil (P:=P) w T o.type el inf z hu hi hz ad k cap vs hvl (hmem ad rfl) (by omega) (by have:=hb.1;simp only [maxLen] at this;omega) (by omega)
     have hres:=(Res.drew hs).trans (Res.alloc (hs.drew) news vs el hall (Builtin.zeroCells z.cells (grownCap w k 0 el - k)).toList false (fun h=>by cases h))
     have e1:(vs++(Builtin.zeroCells z.cells (grownCap w k 0 el - k)).toList).toArray=vs.toArray++Builtin.zeroCells z.cells (grownCap w k 0 el - k):=by apply Array.ext';simp
     rw [e1] at hres
     refine ⟨_,.slice (some ⟨w.heap.size,0,none⟩) k (grownCap w k 0 el),_,_,exec_append ho (by rw [hcs.1,hxv];exact hr),.inl rfl,?_,hres⟩
     refine ⟨_,grownCap w k 0 el,put_same _ _ _,rfl,grownCap_ge w k 0 el,grownCap_le_maxLen w k 0 el hb.1,?_⟩
     simp only [Nat.zero_add,Array.length_toList,size_zeroCells,hzs,hvl,Nat.add_zero]
     have hg:=grownCap_ge w k 0 el
     rw [← Nat.add_mul]
     exact Nat.mul_le_mul_right _ (by omega)
    ·cases h
   ·split at h
    ·rename_i hb
     cases h
     obtain ⟨x0,sc,hsv,hsc⟩:=hcs
     have hsc:=hsc rfl
     subst hsc
     have hr:(Builtin.append_ #[T,T] o.type #[.slice (some x0) 0 0,.slice (some ad) k cap]).run P w=.ok (.slice (some ⟨w.heap.size,0,none⟩) k (grownCap w k 0 el)) (w.drew.alloc (.cells (vs.toArray++Builtin.zeroCells z.cells (grownCap w k 0 el - k)) el)):=by
      have:=run_append_grow (P:=P) w T o.type el inf z hu hi hz x0 0 0 [] (by simp) (by simp) ad k cap vs hvl (hmem ad rfl) (by omega) (by have:=hb.1;simp only [maxLen] at this;omega) (growslice_fits (by omega) (by rw [Nat.zero_add];omega))
      simpa using this
     have hres:=(Res.drew hs).trans (Res.alloc (hs.drew) news vs el hall (Builtin.zeroCells z.cells (grownCap w k 0 el - k)).toList false (fun h=>by cases h))
     have e1:(vs++(Builtin.zeroCells z.cells (grownCap w k 0 el - k)).toList).toArray=vs.toArray++Builtin.zeroCells z.cells (grownCap w k 0 el - k):=by apply Array.ext';simp
     rw [e1] at hres
     refine ⟨_,.slice (some ⟨w.heap.size,0,none⟩) k (grownCap w k 0 el),_,_,exec_append ho (by rw [hsv,hxv];exact hr),.inl rfl,?_,hres⟩
     refine ⟨_,grownCap w k 0 el,put_same _ _ _,rfl,grownCap_ge w k 0 el,grownCap_le_maxLen w k 0 el hb.1,?_⟩
     simp only [Nat.zero_add,Array.length_toList,size_zeroCells,hzs,hvl,Nat.add_zero]
     have hg:=grownCap_ge w k 0 el
     rw [← Nat.add_mul]
     exact Nat.mul_le_mul_right _ (by omega)
    ·cases h
   ·rename_i i off len sz
    split at h
    ·cases h
    rename_i ob hob
    split at h
    ·rename_i hh
     obtain ⟨hl,hfu,rfl,rfl,hcl,_,hmx,hbt⟩:=hh
     cases h
     obtain ⟨p,sc,hm,hsv,hle,hsm,hcap⟩:=hcs
     obtain ⟨cur,fr,hb,hcz,hpl,hcell,hf⟩:=hs.obj i p ob hm hob hl
     obtain ⟨hpo,hpn⟩:=hf.2 hfu
     simp only [hpo,Nat.zero_add] at hsv hcap hcell hpl
     have hscl:sc≤len:=by
      rw [← hpn,hcl] at hcap
      exact Nat.le_of_mul_le_mul_right hcap (by omega)
     have holen:(cur.toList.take (len * inf.size)).length=len * inf.size:=by simp;omega
     have hold:All2 (VC m) ob.cells (cur.toList.take (len * inf.size)):=⟨by rw [holen,hcl],fun j c v hc hv=>by
      rw [List.getElem?_take] at hv
      split at hv
      ·obtain ⟨u,hu',hvc⟩:=hcell j c hc
       have hv':cur[j]?=some v:=by simpa using hv
       rw [hv'] at hu';cases hu';exact hvc
      ·cases hv⟩
     have hholds:∀ j v,(cur.toList.take (len * inf.size))[j]?=some v→w.cell? ((⟨p.b,0,none⟩:Addr).add j)=some v:=fun j v hv=>by
      rw [Addr.add_lit,cell_of_row w p.b _ cur _ _ hb,Nat.zero_add]
      rw [List.getElem?_take] at hv
      split at hv
      ·simpa using hv
      ·cases hv
     have hr:=run_append_grow (P:=P) w T o.type el inf z hu hi hz ⟨p.b,0,none⟩ len sc (cur.toList.take (len * inf.size)) holen hholds ad k cap vs hvl (hmem ad rfl) (by omega) (by simp only [maxLen] at hmx;omega) (growslice_fits (by omega) hbt)
     have hres:=(Res.drew hs).trans (Res.alloc hs.drew (ob.cells++news) (cur.toList.take (len * inf.size)++vs) el (hold.append hall) (Builtin.zeroCells z.cells (grownCap w (len+k) sc el - (len+k))).toList false (fun h=>by cases h))
     have e1:(cur.toList.take (len * inf.size)++vs++(Builtin.zeroCells z.cells (grownCap w (len+k) sc el - (len+k))).toList).toArray=(cur.toList.take (len * inf.size)).toArray++vs.toArray++Builtin.zeroCells z.cells (grownCap w (len+k) sc el - (len+k)):=by apply Array.ext';simp
     rw [e1] at hres
     refine ⟨_,.slice (some ⟨w.heap.size,0,none⟩) (len+k) (grownCap w (len+k) sc el),_,_,exec_append ho (by rw [hsv,hxv];exact hr),.inl rfl,?_,hres⟩
     have hg:=grownCap_ge w (len+k) sc el
     refine ⟨_,grownCap w (len+k) sc el,put_same _ _ _,rfl,hg,grownCap_le_maxLen w (len+k) sc el hmx,?_⟩
     simp only [Nat.zero_add,Array.length_toList,size_zeroCells,hzs,List.length_append,holen,hvl,Nat.add_zero]
     rw [← Nat.add_mul,← Nat.add_mul]
     exact Nat.mul_le_mul_right _ (by omega)
    split at h
    ·rename_i hh
     obtain ⟨hl,hrw,rfl,rfl,hcl,hmx,hbt⟩:=hh
     cases h
     obtain ⟨p,sc,hm,hsv,hle,hsm,hcap⟩:=hcs
     obtain ⟨cur,fr,hb,hcz,hpl,hcell,hf⟩:=hs.obj i p ob hm hob hl
     obtain rfl:=hf.1 hrw
     have hdl:(ob.cells.drop off).length=len * inf.size:=by rw [List.length_drop];omega
     have holen:((cur.toList.drop (p.o+off)).take (len * inf.size)).length=len * inf.size:=by simp;omega
     have hov:∀ (j:Nat) v,((cur.toList.drop (p.o+off)).take (len * inf.size))[j]?=some v→cur[p.o+off+j]?=some v:=fun j v hv=>by
      rw [List.getElem?_take] at hv
      split at hv
      ·rw [List.getElem?_drop] at hv;simpa using hv
      ·cases hv
     have hold:All2 (VC m) (ob.cells.drop off) ((cur.toList.drop (p.o+off)).take (len * inf.size)):=⟨by rw [holen,hdl],fun j c v hc hv=>by
      rw [List.getElem?_drop] at hc
      obtain ⟨u,hu',hvc⟩:=hcell _ c hc
      have hv':=hov j v hv
      rw [← Nat.add_assoc] at hu'
      rw [hv'] at hu';cases hu';exact hvc⟩
     by_cases hroom:len+k≤sc
     ·have hfit:p.o+off+len * inf.size+vs.length≤cur.size:=by
       have:(len+k) * inf.size≤sc * inf.size:=Nat.mul_le_mul_right _ hroom
       rw [Nat.add_mul] at this
       omega
      have hr:=run_append_room_at (P:=P) w T o.type ob.ty inf hu hi p.b (p.o+off) len sc cur hb ad k cap vs hvl (hmem ad rfl) hone hroom hfit
      obtain ⟨r1,r2,r3⟩:=room_cells (k:=p.o+off+len * inf.size) hold hov hall (by rw [holen]) hfit
      have hres:=Res.room hs hm hob hl hrw hb (ob.cells.drop off++news) _ r1 ⟨p.b,p.o+off,p.n⟩ rfl rfl r2 r3
      refine ⟨_,.slice (some ⟨p.b,p.o+off,none⟩) (len+k) sc,_,_,exec_append ho (by rw [hsv,hxv];exact hr),.inl rfl,?_,hres⟩
      exact ⟨_,sc,put_same _ _ _,rfl,hroom,hsm,hcap⟩
     ·have hholds:∀ j v,((cur.toList.drop (p.o+off)).take (len * inf.size))[j]?=some v→w.cell? ((⟨p.b,p.o+off,none⟩:Addr).add j)=some v:=fun j v hv=>by
       rw [Addr.add_lit,cell_of_row w p.b _ cur _ _ hb]
       exact hov j v hv
      have hr:=run_append_grow (P:=P) w T o.type ob.ty inf z hu hi hz ⟨p.b,p.o+off,none⟩ len sc ((cur.toList.drop (p.o+off)).take (len * inf.size)) holen hholds ad k cap vs hvl (hmem ad rfl) (by omega) (by simp only [maxLen] at hmx;omega) (growslice_fits (by omega) hbt)
      have hres:=(Res.killed hs hob).draw' (Res.alloc ((hs.kill i ob hob).drew) (ob.cells.drop off++news) ((cur.toList.drop (p.o+off)).take (len * inf.size)++vs) ob.ty (hold.append hall) (Builtin.zeroCells z.cells (grownCap w (len+k) sc ob.ty - (len+k))).toList false (fun h=>by cases h))
      have e1:((cur.toList.drop (p.o+off)).take (len * inf.size)++vs++(Builtin.zeroCells z.cells (grownCap w (len+k) sc ob.ty - (len+k))).toList).toArray=((cur.toList.drop (p.o+off)).take (len * inf.size)).toArray++vs.toArray++Builtin.zeroCells z.cells (grownCap w (len+k) sc ob.ty - (len+k)):=by apply Array.ext';simp
      rw [e1] at hres
      simp only [List.length_set] at hres
      refine ⟨_,.slice (some ⟨w.heap.size,0,none⟩) (len+k) (grownCap w (len+k) sc ob.ty),_,_,exec_append ho (by rw [hsv,hxv];exact hr),.inl rfl,?_,hres⟩
      have hg:=grownCap_ge w (len+k) sc ob.ty
      refine ⟨_,grownCap w (len+k) sc ob.ty,put_same _ _ _,rfl,hg,grownCap_le_maxLen w (len+k) sc ob.ty hmx,?_⟩
      simp only [Nat.zero_add,Array.length_toList,size_zeroCells,hzs,List.length_append,holen,hvl,Nat.add_zero]
      rw [← Nat.add_mul,← Nat.add_mul]
      exact Nat.mul_le_mul_right _ (by omega)
    ·cases h
   ·rename_i i off sz
    split at h
    ·cases h
    rename_i ob hob
    split at h
    ·rename_i hh
     obtain ⟨hl,hrw,rfl,rfl,hmx,hbt⟩:=hh
     cases h
     obtain ⟨p,x0,sc,hm,hsv,hsm,hcap⟩:=hcs
     obtain ⟨cur,fr,hb,hcz,hpl,hcell,hf⟩:=hs.obj i p ob hm hob hl
     obtain rfl:=hf.1 hrw
     by_cases hroom:k≤sc
     ·obtain ⟨rfl,hcap'⟩:=hcap (by omega)
      have hfit:p.o+off+0 * inf.size+vs.length≤cur.size:=by
       have:k * inf.size≤sc * inf.size:=Nat.mul_le_mul_right _ hroom
       omega
      have hr:=run_append_room_at (P:=P) w T o.type ob.ty inf hu hi p.b (p.o+off) 0 sc cur hb ad k cap vs hvl (hmem ad rfl) hone (by omega) hfit
      obtain ⟨r1,r2,r3⟩:=room_cells (k:=p.o+off+0 * inf.size) (d:=p.o+off) (olds:=[]) (ovs:=[]) All2.nil (by simp) hall (by simp) hfit
      have hres:=Res.room hs hm hob hl hrw hb ([]++news) _ r1 ⟨p.b,p.o+off,p.n⟩ rfl rfl r2 r3
      rw [Nat.zero_add] at hr
      refine ⟨_,.slice (some ⟨p.b,p.o+off,none⟩) k sc,_,_,exec_append ho (by rw [hsv,hxv];exact hr),.inl rfl,?_,hres⟩
      exact ⟨_,sc,put_same _ _ _,rfl,hroom,hsm,by simpa using hcap'⟩
     ·have hr:(Builtin.append_ #[T,T] o.type #[.slice (some x0) 0 sc,.slice (some ad) k cap]).run P w=.ok (.slice (some ⟨w.heap.size,0,none⟩) k (grownCap w k sc ob.ty)) (w.drew.alloc (.cells (vs.toArray++Builtin.zeroCells z.cells (grownCap w k sc ob.ty - k)) ob.ty)):=by
       have:=run_append_grow (P:=P) w T o.type ob.ty inf z hu hi hz x0 0 sc [] (by simp) (by simp) ad k cap vs hvl (hmem ad rfl) (by omega) (by simp only [maxLen] at hmx;omega) (growslice_fits (by omega) (by rw [Nat.zero_add];omega))
       simpa using this
      have hres:=(Res.killed hs hob).draw' (Res.alloc ((hs.kill i ob hob).drew) news vs ob.ty hall (Builtin.zeroCells z.cells (grownCap w k sc ob.ty - k)).toList false (fun h=>by cases h))
      have e1:(vs++(Builtin.zeroCells z.cells (grownCap w k sc ob.ty - k)).toList).toArray=vs.toArray++Builtin.zeroCells z.cells (grownCap w k sc ob.ty - k):=by apply Array.ext';simp
      rw [e1] at hres
      simp only [List.length_set] at hres
      refine ⟨_,.slice (some ⟨w.heap.size,0,none⟩) k (grownCap w k sc ob.ty),_,_,exec_append ho (by rw [hsv,hxv];exact hr),.inl rfl,?_,hres⟩
      have hg:=grownCap_ge w k sc ob.ty
      refine ⟨_,grownCap w k sc ob.ty,put_same _ _ _,rfl,hg,grownCap_le_maxLen w k sc ob.ty hmx,?_⟩
      simp only [Nat.zero_add,Array.length_toList,size_zeroCells,hzs,hvl,Nat.add_zero]
      rw [← Nat.add_mul]
      exact Nat.mul_le_mul_right _ (by omega)
    ·cases h
   ·cases h
 ·cases h
end Ev
end Go.Proofs.Ytcpodmjcgfgmnaa
namespace Go.Proofs.Ytcpodmjcgfgmnaa
open Go.RowKit
namespace Ev
variable {P:Program}
def evByte:C→Option UInt8
 | .flat (.int .u8 n)=>if ((UInt8.ofNat n.toNat).toNat:Int)=n then some (UInt8.ofNat n.toNat) else none
 | _=>none
variable (P)
def isBytesT (T:TypeId):Bool:=match P.underlying T with
 | some (.slice e)=>match P.underlying e with
  | some (.int .u8)=>true
  | _=>false
 | _=>false
def isStrT (T:TypeId):Bool:=match P.underlying T with
 | some .string=>true
 | _=>false
variable {P}
theorem isBytesT_spec {T:TypeId} (h:isBytesT P T=true):∃ e,P.underlying T=some (.slice e)∧P.underlying e=some (.int .u8):=by
 unfold isBytesT at h
 split at h
 ·split at h
  ·exact ⟨_,by assumption,by assumption⟩
  ·cases h
 ·cases h
theorem isStrT_spec {T:TypeId} (h:isStrT P T=true):P.underlying T=some .string:=by
 unfold isStrT at h
 split at h
 ·assumption
 ·cases h
def evStr (st:St) (c:C):Option C:=match evCells st c with
 | none=>none
 | some (cs,n)=>match all? evByte cs with
  | none=>none
  | some l=>if l.length=n then some (.str l) else none
theorem str_spec {m:M} {st:St} {w:World} {a:Act} {e:Look} {o:Oper} {src dst:TypeId} {x:Operand} {c c':C} (hs:SR m st.h w) (he:EL m e a) (ho:o.op=.convert src dst x) (hsr:isBytesT P src=true) (hd:isStrT P dst=true) (hx:evX e x=some (.s (.c c))) (h:evStr st c=some c') :
  Does P m st w a o (.s (.c c')) st:=by
 have hc:VC m c (a.eval x):=evX_spec he hx
 obtain ⟨el,hu,hue⟩:=isBytesT_spec hsr
 have hd:=isStrT_spec hd
 unfold evStr at h
 split at h
 ·cases h
 rename_i cs n hcells
 obtain ⟨ad,cap,vs,hv,hall,hmem,hnone⟩:=evCells_spec hs hc hcells
 split at h
 ·cases h
 rename_i l hl
 split at h
 ·rename_i hn
  cases h
  have hsp:=all?_spec hl
  refine Does.same hs (v:=str' l) ?_ rfl
  have key:(convert src dst (.slice ad n cap)).run P w=.ok (str' l) w:=by
   cases ad with
   | none =>
    have hn0:n=0:=by
     rcases Nat.eq_zero_or_pos n with h0 | h0
     ·exact h0
     ·exact absurd rfl (hnone h0)
    subst hn0
    have:l=[]:=List.eq_nil_of_length_eq_zero hn
    subst this
    rw [run_convert_bytes_string w src dst el none 0 cap hu hue hd]
    simp [Conv.bytesToString]
    rfl
   | some ad =>
    subst hn
    refine run_convert_bytes_back w src dst el ad cap l hu hue hd fun j hj=>?_
    have hj1:j < cs.length:=by rw [hsp.1];exact hj
    have hj2:j < vs.length:=by rw [← hall.1];exact hj1
    have h1:=hsp.2 j cs[j] l[j] (by simp) (by simp)
    have h2:=hall.2 j cs[j] vs[j] (by simp) (by simp)
    rw [hmem ad rfl j vs[j] (by simp)]
    congr 1
    generalize cs[j]=c0 at h1 h2
    unfold evByte at h1
    split at h1
    ·rename_i k
     split at h1
     ·rename_i hk
      rw [h2.1,← Option.some.inj h1,hk]
     ·cases h1
    ·cases h1
  simp [execOp,ho,hv,key]
 ·cases h
theorem add_spec {m:M} {w:World} {a:Act} {e:Look} {o:Oper} {T T':TypeId} {x y:Operand} {s t:List UInt8} (he:EL m e a) (ho:o.op=.binOp .add T x y T') (hx:evX e x=some (.s (.c (.str s)))) (hy:evX e y=some (.s (.c (.str t)))) (h:s.length+t.length≤9223372036854775807) :
  DoesS P m w a o (.s (.c (.str (s++t)))):=by
 have h1:a.eval x=str' s:=(show VC m (.str s) (a.eval x) from evX_spec he hx)
 have h2:a.eval y=str' t:=(show VC m (.str t) (a.eval y) from evX_spec he hy)
 refine DoesS.same (v:=str' (s++t)) ?_ rfl
 have hn:¬ ((((⟨s.toArray⟩:ByteArray).size+(⟨t.toArray⟩:ByteArray).size:Nat):Int) > IntKind.i64.max):=by
  simp [ByteArray.size,IntKind.max,IntKind.signed,IntKind.bits];omega
 have hap:(⟨s.toArray⟩:ByteArray)++⟨t.toArray⟩=⟨(s++t).toArray⟩:=by
  apply ByteArray.ext;simp [ByteArray.data_append]
 simp only [execOp,ho,h1,h2,str',eqGuard,binOp,Op.stringOp,if_neg hn,hap]
 rfl
def evEqStr (op:BinOp) (s t:List UInt8):Option Bool:=match op with
 | .eql=>some (s == t)
 | .neq=>some (!(s == t))
 | _=>none
theorem eqStr_spec {m:M} {w:World} {a:Act} {e:Look} {o:Oper} {op:BinOp} {T T':TypeId} {x y:Operand} {s t:List UInt8} {b:Bool} (he:EL m e a) (ho:o.op=.binOp op T x y T') (hx:evX e x=some (.s (.c (.str s)))) (hy:evX e y=some (.s (.c (.str t)))) (h:evEqStr op s t=some b) :
  DoesS P m w a o (.s (.c (.flat (.bool b)))):=by
 have h1:a.eval x=str' s:=(show VC m (.str s) (a.eval x) from evX_spec he hx)
 have h2:a.eval y=str' t:=(show VC m (.str t) (a.eval y) from evX_spec he hy)
 refine DoesS.same (v:=.bool b) ?_ ⟨rfl,rfl⟩
 have e1:(⟨s.toArray⟩:ByteArray).toList=s:=ByteArray.toList_mk s
 have e2:(⟨t.toArray⟩:ByteArray).toList=t:=ByteArray.toList_mk t
 unfold evEqStr at h
 split at h
 ·cases h;simp [execOp,ho,h1,h2,str',eqGuard,binOp,Op.stringOp,e1,e2]
 ·cases h;simp [execOp,ho,h1,h2,str',eqGuard,binOp,Op.stringOp,e1,e2]
 ·cases h
def valX (e:Look) (x:Operand):Option Value:=match evX e x with
 | some (.s s)=>toVal s
 | _=>none
theorem valX_spec {m:M} {e:Look} {a:Act} (he:EL m e a) {x:Operand} {v:Value} (h:valX e x=some v):a.eval x=v:=by
 unfold valX at h
 split at h
 ·rename_i s hs
  exact toVal_spec h (evX_spec he hs)
 ·cases h
def rho (e:Look) (x:Operand):Value:=(valX e x).getD undef
def dryKind:Op→Bool
 | .binOp ..=>true
 | .unOp ..=>true
 | .convert ..=>true
 | .slice ..=>true
 | .makeInterface ..=>true
 | .typeAssert ..=>true
 | .call { callee:=.builtin .min,.. }=>true
 | .call { callee:=.builtin .max,.. }=>true
 | .call { callee:=.builtin .len,.. }=>true
 | _=>false
theorem exec_congr {ρ ρ':Operand→Value} {o:Oper} (hk:dryKind o.op=true) (h:∀ x∈o.op.operands.toList,ρ x=ρ' x):execOp ρ o=execOp ρ' o:=by
 obtain ⟨d,op,ty,pos,after,g⟩:=o
 cases op with
 | binOp op t x y yt =>
  have h1:=h x (by simp [Op.operands])
  have h2:=h y (by simp [Op.operands])
  simp [execOp,h1,h2]
 | unOp op t x=>have h1:=h x (by simp [Op.operands]);simp [execOp,h1]
 | convert s t x=>have h1:=h x (by simp [Op.operands]);simp [execOp,h1]
 | makeInterface t x=>have h1:=h x (by simp [Op.operands]);simp [execOp,h1]
 | typeAssert x t u c=>have h1:=h x (by simp [Op.operands]);simp [execOp,h1]
 | slice t x l hh mx =>
  have h1:=h x (by simp [Op.operands])
  have e1:l.map ρ=l.map ρ':=by cases l with | none=>rfl | some y=>simp [h y (by simp [Op.operands])]
  have e2:hh.map ρ=hh.map ρ':=by cases hh with | none=>rfl | some y=>simp [h y (by simp [Op.operands])]
  have e3:mx.map ρ=mx.map ρ':=by cases mx with | none=>rfl | some y=>simp [h y (by simp [Op.operands])]
  simp [execOp,h1,e1,e2,e3]
 | call c =>
  obtain ⟨cl,args,ts⟩:=c
  cases cl with
  | builtin b =>
   have e1:args.map ρ=args.map ρ':=by
    apply Array.ext'
    simp only [Array.toList_map]
    exact List.map_congr_left fun x hx=>h x (by simpa [Op.operands,Call.operands] using hx)
   simp [execOp,resolve,e1]
  | value f=>cases hk
  | invoke r n=>cases hk
 | _=>cases hk
variable (P)
def evDry (e:Look) (o:Oper):Option PV :=
 if dryKind o.op && o.op.operands.toList.all (fun x=>(valX e x).isSome) then match dry P (execOp (rho e) o) with
  | some (.value v)=>match ofValue v with | some s=>some (.s s) | none=>none
  | _=>none
 else none
variable {P}
theorem dry_spec {m:M} {w:World} {a:Act} {e:Look} {o:Oper} {pv:PV} (he:EL m e a) (h:evDry P e o=some pv):DoesS P m w a o pv:=by
 unfold evDry at h
 split at h
 ·rename_i hh
  simp only [Bool.and_eq_true,List.all_eq_true] at hh
  have hc:=exec_congr (ρ:=a.eval) (ρ':=rho e) hh.1 fun x hx=>by
   have:=hh.2 x hx
   cases hv:valX e x with
   | none=>rw [hv] at this;cases this
   | some v=>rw [valX_spec he hv,rho,hv];rfl
  split at h
  ·rename_i v hv
   split at h
   ·rename_i s hsv
    cases h
    exact DoesS.same (v:=v) (by rw [hc];exact dry_run hv w) (ofValue_spec hsv)
   ·cases h
  ·cases h
 ·cases h
variable (P)
def evNil (op:BinOp) (T:TypeId) (x y:C):Option Bool:=match x,y with
 | .ptr _ _,.flat (.pointer none)=>match P.underlying T with
  | some (.pointer _)=>(match op with | .eql=>some false | .neq=>some true | _=>none)
  | _=>none
 | .sl _ _ _ _,.flat (.slice none 0 0)=>match P.underlying T with
  | some (.slice _)=>(match op with | .eql=>some false | .neq=>some true | _=>none)
  | _=>none
 | .emp _,.flat (.slice none 0 0)=>match P.underlying T with
  | some (.slice _)=>(match op with | .eql=>some false | .neq=>some true | _=>none)
  | _=>none
 | .q _ _ _,.flat (.slice none 0 0)=>match P.underlying T with
  | some (.slice _)=>(match op with | .eql=>some false | .neq=>some true | _=>none)
  | _=>none
 | _,_=>none
variable {P}
theorem exec_bin {ρ:Operand→Value} {o:Oper} {op:BinOp} {T T':TypeId} {x y:Operand} (ho:o.op=.binOp op T x y T') {w:World} {v:Value}
  (hg:∀ w,(eqGuard op T x y (ρ x) (ρ y)).run P w=.ok () w) (h:(binOp op T (ρ x) (ρ y)).run P w=.ok v w):(execOp ρ o).run P w=.ok (.value v) w:=by
 simp [execOp,ho,hg,h]
theorem nil_spec {m:M} {w:World} {a:Act} {e:Look} {o:Oper} {op:BinOp} {T T':TypeId} {x y:Operand} {c d:C} {b:Bool} (he:EL m e a) (ho:o.op=.binOp op T x y T') (hx:evX e x=some (.s (.c c))) (hy:evX e y=some (.s (.c d))) (h:evNil P op T c d=some b) :
  DoesS P m w a o (.s (.c (.flat (.bool b)))):=by
 have hc:VC m c (a.eval x):=evX_spec he hx
 have hd:VC m d (a.eval y):=evX_spec he hy
 refine DoesS.same (v:=.bool b) ?_ ⟨rfl,rfl⟩
 unfold evNil at h
 split at h
 ·obtain ⟨p,_,h1⟩:=hc
  have h2:=hd.1
  have hg:∀ w,(eqGuard op T x y (a.eval x) (a.eval y)).run P w=.ok () w:=fun w=>by rw [h1,h2];simp [eqGuard]
  split at h
  ·rename_i el hu
   have hu':P.underlying T=some (.pointer (P.pointee T)):=by rw [hu];simp [Program.pointee,hu]
   split at h
   ·cases h;exact exec_bin ho hg (by rw [h1,h2];exact run_eql_pointer_nil w T (some _) hu')
   ·cases h;exact exec_bin ho hg (by rw [h1,h2];exact run_neq_pointer_nil w T (some _) hu')
   ·cases h
  ·cases h
 ·obtain ⟨p,cap,_,h1,_⟩:=hc
  have h2:=hd.1
  have hg:∀ w,(eqGuard op T x y (a.eval x) (a.eval y)).run P w=.ok () w:=fun w=>by rw [h1,h2];simp [eqGuard]
  split at h
  ·rename_i el hu
   split at h
   ·cases h;exact exec_bin ho hg (by rw [h1,h2];exact Lib.run_eql_slice_nil w T el (some _) _ _ _ _ hu)
   ·cases h;exact exec_bin ho hg (by rw [h1,h2];exact run_neq_slice_nil_any w T el (some _) _ _ _ _ hu)
   ·cases h
  ·cases h
 ·obtain ⟨p,cap,h1,_⟩:=hc
  have h2:=hd.1
  have hg:∀ w,(eqGuard op T x y (a.eval x) (a.eval y)).run P w=.ok () w:=fun w=>by rw [h1,h2];simp [eqGuard]
  split at h
  ·rename_i el hu
   split at h
   ·cases h;exact exec_bin ho hg (by rw [h1,h2];exact Lib.run_eql_slice_nil w T el (some _) _ _ _ _ hu)
   ·cases h;exact exec_bin ho hg (by rw [h1,h2];exact run_neq_slice_nil_any w T el (some _) _ _ _ _ hu)
   ·cases h
  ·cases h
 ·obtain ⟨p,x0,cap,_,h1,_⟩:=hc
  have h2:=hd.1
  have hg:∀ w,(eqGuard op T x y (a.eval x) (a.eval y)).run P w=.ok () w:=fun w=>by rw [h1,h2];simp [eqGuard]
  split at h
  ·rename_i el hu
   split at h
   ·cases h;exact exec_bin ho hg (by rw [h1,h2];exact Lib.run_eql_slice_nil w T el (some _) _ _ _ _ hu)
   ·cases h;exact exec_bin ho hg (by rw [h1,h2];exact run_neq_slice_nil_any w T el (some _) _ _ _ _ hu)
   ·cases h
  ·cases h
 ·cases h
end Ev
end Go.Proofs.Ytcpodmjcgfgmnaa
namespace Go.Proofs.Ytcpodmjcgfgmnaa
open Go.RowKit
namespace Ev
variable {P:Program}
def srcCells (st:St):C→Option (List C × Nat)
 | .str l=>some (l.map fun b=>.flat (.int .u8 b.toNat),l.length)
 | c=>evCells st c
variable (P)
def evCopy (st:St) (T:TypeId) (d s:C):Option (PV × St) :=
 match P.underlying T with
 | some (.slice el)=>match sizeT P el with
  | none=>none
  | some sz=>match srcCells st s with
   | none=>none
   | some (cs,k)=>match d with
    | .sl i off len sz'=>match st.h[i]? with
     | none=>none
     | some o=>if o.live=true∧o.rw=true∧sz'=sz∧cs.length=k * sz∧(o.full=true∨off+min k len * sz≤o.cells.length) then
       some (.s (.c (.flat (.int .i64 ((min k len:Nat):Int)))),⟨st.h.set i { o with cells:=o.cells.take off++cs.take (min k len * sz)++o.cells.drop (off+min k len * sz),full:=o.full },min st.lo i⟩) else none
    | _=>none
 | _=>none
variable {P}
theorem src_spec {m:M} {st:St} {w:World} (hs:SR m st.h w) {c:C} {v:Value} (hv:VC m c v) {cs:List C} {n:Nat} (h:srcCells st c=some (cs,n)) (size:Nat) (hcl:cs.length=n * size) (hsz:∀ l,c=.str l→size=1) :
  (Builtin.lenOf v).run P w=.ok n w∧∃ vs,All2 (VC m) cs vs∧∀ k,k≤n→(Builtin.firstCells size k v).run P w=.ok (vs.take (k * size)).toArray w:=by
 by_cases hstr:∃ l,c=.str l
 ·obtain ⟨l,rfl⟩:=hstr
  have h1:=hsz l rfl
  subst h1
  cases h
  have hv:v=str' l:=hv
  subst hv
  refine ⟨by simp [Builtin.lenOf,str',ByteArray.size],l.map fun b=>.int .u8 (b.toNat:Int),All2.map _ _ (fun b=>⟨rfl,rfl⟩) l,fun k hk=>?_⟩
  have hex:(⟨l.toArray⟩:ByteArray).extract 0 k=⟨(l.take k).toArray⟩:=by
   apply ByteArray.ext
   rw [ByteArray.data_extract]
   apply Array.ext'
   simp
  simp [Builtin.firstCells,str',hex]
 ·have hc:evCells st c=some (cs,n):=by
   cases c <;> first | exact h | exact absurd ⟨_,rfl⟩ hstr
  obtain ⟨ad,cap,vs,rfl,hall,hmem,hnone⟩:=evCells_spec hs hv hc
  refine ⟨by simp [Builtin.lenOf],vs,hall,fun k hk=>?_⟩
  have hvl:vs.length=n * size:=by rw [← hall.1];exact hcl
  have hks:k * size≤n * size:=Nat.mul_le_mul_right _ hk
  cases ad with
  | none =>
   have hn:n=0:=by
    rcases Nat.eq_zero_or_pos n with h0 | h0
    ·exact h0
    ·exact absurd rfl (hnone h0)
   subst hn
   have:vs=[]:=List.eq_nil_of_length_eq_zero (by rw [hvl];simp)
   subst this
   simp [Builtin.firstCells]
  | some b =>
   refine run_firstCells_some (P:=P) w size k b n cap (vs.take (k * size)) (by simp;omega) fun j u hu=>?_
   rw [List.getElem?_take] at hu
   split at hu
   ·exact hmem b rfl j u hu
   ·cases hu
theorem copy_spec {m:M} {st st':St} {w:World} {a:Act} {e:Look} {o:Oper} {T:TypeId} {ts:Array TypeId} {d s:Operand} {cd cs:C} {pv:PV} (hs:SR m st.h w) (he:EL m e a) (ho:o.op=.call { callee:=.builtin .copy,args:=#[d,s],argTypes:=ts }) (hts:ts[0]?=some T)
  (hd:evX e d=some (.s (.c cd))) (hsx:evX e s=some (.s (.c cs))) (hstr:∀ l,cs=.str l→∀ el,P.underlying T=some (.slice el)→sizeT P el=some 1) (h:evCopy P st T cd cs=some (pv,st')):Does P m st w a o pv st':=by
 have hcd:VC m cd (a.eval d):=evX_spec he hd
 have hcs:VC m cs (a.eval s):=evX_spec he hsx
 unfold evCopy at h
 split at h
 ·rename_i el hu
  split at h
  ·cases h
  rename_i sz hsz
  split at h
  ·cases h
  rename_i news k hsrc
  split at h
  ·rename_i i off len sz'
   split at h
   ·cases h
   rename_i ob hob
   split at h
   ·rename_i hh
    obtain ⟨hl,hrw,rfl,hnl,hfit⟩:=hh
    cases h
    obtain ⟨p,cap,hm,hdv,hle,hmx,hcap⟩:=hcd
    obtain ⟨cur,fr,hb,hcz,hpl,hcell,hf⟩:=hs.obj i p ob hm hob hl
    have hfl:=fun h=>(hf.2 h).2
    have hf0:=fun h=>(hf.2 h).1
    obtain rfl:=hf.1 hrw
    have hfit:off+min k len * sz'≤ob.cells.length:=hfit.elim (fun hf=>by
     have e:=hfl hf
     have e0:=hf0 hf
     have h1:min k len * sz'≤cap * sz':=Nat.mul_le_mul_right _ (Nat.le_trans (Nat.min_le_right _ _) hle)
     omega) id
    obtain ⟨hlen,vs,hall,hfirst⟩:=src_spec (P:=P) hs hcs hsrc sz' hnl (fun l hl'=>by have:=hstr l hl' el hu;rw [hsz] at this;cases this;rfl)
    have hmin:Nat.min k len=min k len:=rfl
    have hf:=hfirst (min k len) (Nat.min_le_left _ _)
    have hvl:vs.length=k * sz':=by rw [← hall.1];exact hnl
    have hnk:min k len * sz'≤k * sz':=Nat.mul_le_mul_right _ (Nat.min_le_left _ _)
    have htl:(vs.take (min k len * sz')).length=min k len * sz':=by simp;omega
    have hall':=hall.take (min k len * sz')
    have hone:∀ u∈vs.take (min k len * sz'),u.oneCell'=true:=fun u hu'=>by
     obtain ⟨j,hj,rfl⟩:=List.mem_iff_getElem.1 hu'
     have hj':j < (news.take (min k len * sz')).length:=by rw [hall'.1];exact hj
     exact (hall'.2 j _ _ (List.getElem?_eq_getElem hj') (List.getElem?_eq_getElem hj)).one
    have hst:=run_storeCells_at P p.b (p.o+off) ob.ty (vs.take (min k len * sz')) 0 cur w hb (by rw [htl];omega) hone
    simp only [Nat.add_zero,htl] at hst
    generalize hK:min k len * sz'=K at *
    have hres:=Res.write hs hm hob hl hrw hb (ob.cells.take off++news.take K++ob.cells.drop (off+K)) (cur.toList.take (p.o+off)++vs.take K++cur.toList.drop (p.o+off+K)).toArray
     (by simp;omega) (by have:=hall'.1;simp at this ⊢;omega) (fun j c hj=>by
       have htk:(vs.take K).length=K:=htl
       have hnt:(news.take K).length=K:=by rw [hall'.1,htl]
       simp only [List.getElem?_toArray,List.append_assoc]
       have hmin2:(cur.toList.take (p.o+off)).length=p.o+off:=by simp;omega
       by_cases j1:j < off
       ·rw [List.append_assoc,List.getElem?_append_left (by simp;omega),List.getElem?_take,if_pos j1] at hj
        obtain ⟨u,hu,hvc⟩:=hcell j c hj
        refine ⟨u,?_,hvc⟩
        rw [List.getElem?_append_left (by omega),List.getElem?_take,if_pos (by omega)]
        simpa using hu
       ·have hmin1:(ob.cells.take off).length=off:=by simp;omega
        rw [List.append_assoc,List.getElem?_append_right (by omega),hmin1] at hj
        rw [List.getElem?_append_right (by omega),hmin2,show p.o+j - (p.o+off)=j - off by omega]
        by_cases j2:j < off+K
        ·rw [List.getElem?_append_left (by omega)] at hj
         have hj3:j - off < (vs.take K).length:=by omega
         refine ⟨(vs.take K)[j - off],?_,hall'.2 _ c _ hj (List.getElem?_eq_getElem hj3)⟩
         rw [List.getElem?_append_left hj3,List.getElem?_eq_getElem hj3]
        ·rw [List.getElem?_append_right (by omega),List.getElem?_drop,hnt,show off+K+(j - off - K)=j by omega] at hj
         obtain ⟨u,hu,hvc⟩:=hcell j c hj
         refine ⟨u,?_,hvc⟩
         rw [List.getElem?_append_right (by omega),List.getElem?_drop,htk,show p.o+off+K+(j - off - K)=p.o+j by omega]
         simpa using hu) ob.full (fun h=>by
       have e:=hfl h
       have e0:=hf0 h
       have hnt:(news.take K).length=K:=by rw [hall'.1,htl]
       refine ⟨e0,?_⟩
       simp only [List.length_append,List.length_take,List.length_drop] at hnt ⊢
       omega)
    refine ⟨_,.int .i64 ((min k len:Nat):Int),_,m,?_,.inl rfl,⟨rfl,rfl⟩,hres⟩
    simp only [execOp,ho,resolve,invoke,builtin,Sem.run_bind,Sem.run_pure,Result.andThen_ok,List.map_toArray,List.map_cons,List.map_nil]
    have hrun:(Builtin.copy_ ts o.type #[a.eval d,a.eval s]).run P w=.ok (.int .i64 ((min k len:Nat):Int)) (w.setRow p.b (cur.toList.take (p.o+off)++vs.take K++cur.toList.drop (p.o+off+K)).toArray):=by
     simp only [Builtin.copy_,hts,hdv]
     simp [run_underlying hu,Sem.run_bind,hlen,run_sizeOf hsz,hmin,hf,hst,goInt]
    rw [hrun]
    rfl
   ·cases h
  ·cases h
 ·cases h
def evLow (op:BinOp) (k r:Nat) (y:C):Option C:=match op,y with
 | .and,.flat (.int .i64 n)=>match (List.range (k+1)).find? (fun j=>decide (n=2 ^ j - 1)) with
  | some j=>if j≤62 then some (.flat (.int .i64 ((r % 2 ^ j:Nat):Int))) else none
  | none=>none
 | .shr,.flat (.int _ n)=>if 0≤n∧n.toNat≤k∧n.toNat≤63 then some (.low (k - n.toNat) (r / 2 ^ n.toNat)) else none
 | _,_=>none
theorem i64_mask (n:Int) (k:Nat) (hk:k≤62) (m:Int) (hm:m=2 ^ k - 1):bits .and .i64 n m=n % 2 ^ k:=by
 subst hm
 have hp:(2:Nat) ^ k≤2 ^ 62:=Nat.pow_le_pow_right (by omega) hk
 have h1:1≤(2:Nat) ^ k:=Nat.one_le_two_pow
 have e:((2:Int) ^ k - 1)=((2 ^ k - 1:Nat):Int):=by
  rw [Int.ofNat_sub h1];simp
 have hpi:((2:Int) ^ k)=((2 ^ k:Nat):Int):=by simp
 have ofInt64:∀ a:Nat,a < 2 ^ 63→(BitVec.ofInt 64 (a:Int)).toNat=a:=fun a ha=>by rw [BitVec.toNat_ofInt];omega
 rw [e,hpi]
 show IntKind.i64.wrap ((BitVec.ofInt 64 n &&& BitVec.ofInt 64 ((2 ^ k - 1:Nat):Int)).toNat:Nat)=_
 rw [BitVec.toNat_and,ofInt64 (2 ^ k - 1) (by omega),Nat.and_two_pow_sub_one_eq_mod,BitVec.toNat_ofInt,IntKind.wrap_i64]
 have hd:((2:Int) ^ 64)=(2 ^ k:Nat) * (2 ^ (64 - k):Nat):=by
  rw [← Int.natCast_mul,← Nat.pow_add,show k+(64 - k)=64 from by omega];rfl
 have h3:((n % ((2 ^ 64:Nat):Int)).toNat:Int)=n % 2 ^ 64:=by omega
 have h4:(((n % ((2 ^ 64:Nat):Int)).toNat % 2 ^ k:Nat):Int)=n % ((2 ^ k:Nat):Int):=by
  rw [Int.natCast_emod,h3,hd,Int.emod_emod_of_dvd _ (Int.dvd_mul_right _ _)]
 have h5:n % ((2 ^ k:Nat):Int) < ((2 ^ k:Nat):Int):=Int.emod_lt_of_pos _ (by omega)
 have h6:0≤n % ((2 ^ k:Nat):Int):=Int.emod_nonneg _ (by omega)
 rw [h4]
 omega
theorem low_spec {m:M} {w:World} {a:Act} {e:Look} {o:Oper} {op:BinOp} {T T':TypeId} {x y:Operand} {k r:Nat} {d c:C} (he:EL m e a) (ho:o.op=.binOp op T x y T') (hx:evX e x=some (.s (.c (.low k r)))) (hy:evX e y=some (.s (.c d))) (h:evLow op k r d=some c) :
  DoesS P m w a o (.s (.c c)):=by
 obtain ⟨n,hv,hn⟩:VC m (.low k r) (a.eval x):=evX_spec he hx
 have hd:VC m d (a.eval y):=evX_spec he hy
 unfold evLow at h
 split at h
 ·rename_i mk
  have hm:a.eval y=.int .i64 mk:=hd.1
  split at h
  ·rename_i j hj
   split at h
   ·rename_i hj62
    cases h
    have hjk:j≤k:=by
     have:=List.mem_of_find?_eq_some hj
     simp at this
     omega
    have hmk:mk=2 ^ j - 1:=by have:=List.find?_some hj;simpa using this
    have hb:=i64_mask n j hj62 mk hmk
    have hval:n % 2 ^ j=((r % 2 ^ j:Nat):Int):=by
     have hdvd:((2 ^ j:Nat):Int) ∣ ((2 ^ k:Nat):Int):=by
      rw [← Nat.sub_add_cancel hjk,Nat.pow_add,Int.natCast_mul]
      exact Int.dvd_mul_left _ _
     have h1:=Int.emod_emod_of_dvd n hdvd
     rw [hn] at h1
     rw [Int.natCast_emod]
     have h2:((2 ^ j:Nat):Int)=2 ^ j:=by simp
     rw [h2] at h1 ⊢
     exact h1.symm
    refine DoesS.same (v:=.int .i64 ((r % 2 ^ j:Nat):Int)) ?_ ⟨rfl,rfl⟩
    refine exec_bin ho (fun w=>by rw [hv,hm];simp [eqGuard]) ?_
    rw [hv,hm,← hval,← hb]
    rfl
   ·cases h
  ·cases h
 ·rename_i yk mk
  have hm:a.eval y=.int yk mk:=hd.1
  split at h
  ·rename_i hh
   cases h
   have hneg:¬ mk < 0:=by omega
   have hmin:min mk.toNat IntKind.i64.bits=mk.toNat:=by simp [IntKind.bits];omega
   refine DoesS.same (v:=.int .i64 (n.fdiv (2 ^ mk.toNat))) ?_ ⟨_,rfl,?_⟩
   ·refine exec_bin ho (fun w=>by rw [hv,hm];simp [eqGuard]) ?_
    rw [hv,hm]
    simp [binOp]
    exact (Int.fdiv_eq_ediv_of_nonneg _ (Int.pow_nonneg (by decide))).symm
   ·have hp:(0:Int) < ((2 ^ mk.toNat:Nat):Int):=by have:=Nat.two_pow_pos mk.toNat;omega
    have e1:(2:Int) ^ mk.toNat=((2 ^ mk.toNat:Nat):Int):=by simp
    rw [Int.fdiv_eq_ediv_of_nonneg _ (by rw [e1];omega),e1]
    have e2:((2 ^ k:Nat):Int)=((2 ^ mk.toNat:Nat):Int) * ((2 ^ (k - mk.toNat):Nat):Int):=by
     rw [← Int.natCast_mul,← Nat.pow_add,Nat.add_sub_cancel' hh.2.1]
    rw [e2] at hn
    have hd:=Int.emod_add_mul_ediv n (((2 ^ mk.toNat:Nat):Int) * ((2 ^ (k - mk.toNat):Nat):Int))
    have hq:(0:Int) < ((2 ^ (k - mk.toNat):Nat):Int):=by have:=Nat.two_pow_pos (k - mk.toNat);omega
    have hlt:n % (((2 ^ mk.toNat:Nat):Int) * ((2 ^ (k - mk.toNat):Nat):Int)) < ((2 ^ mk.toNat:Nat):Int) * ((2 ^ (k - mk.toNat):Nat):Int):=Int.emod_lt_of_pos _ (Int.mul_pos hp hq)
    rw [hn] at hd hlt
    generalize n / (((2 ^ mk.toNat:Nat):Int) * ((2 ^ (k - mk.toNat):Nat):Int))=t at hd
    rw [← hd,Int.mul_assoc,Int.add_mul_ediv_left _ _ (by omega),Int.add_mul_emod_self_left,Int.natCast_ediv]
    exact Int.emod_eq_of_lt (Int.ediv_nonneg (by omega) (by omega)) (Int.ediv_lt_of_lt_mul hp (by rw [Int.mul_comm];exact hlt))
  ·cases h
 ·cases h
variable (P)
def evSlice3 (e:Look) (T:TypeId) (lo:Option Operand) (hi mx:Operand):C→Option C
 | .sl i off len sz=>match P.underlying T with
  | some (.slice el)=>if sizeT P el=some sz then match evBound e 0 lo,evBound e 0 (some hi),evBound e 0 (some mx) with
   | some l,some h,some m=>if l≤h∧h≤m∧m≤len then some (if l < h then .sl i (off+l * sz) (h - l) sz else .emp (m == l)) else none
   | _,_,_=>none
   else none
  | _=>none
 | _=>none
variable {P}
theorem slice3_spec {m:M} {w:World} {a:Act} {e:Look} {o:Oper} {T:TypeId} {x:Operand} {lo:Option Operand} {hi mx:Operand} {c c':C} (he:EL m e a) (ho:o.op=.slice T x lo (some hi) (some mx)) (hx:evX e x=some (.s (.c c))) (h:evSlice3 P e T lo hi mx c=some c'):DoesS P m w a o (.s (.c c')):=by
 have hc:VC m c (a.eval x):=evX_spec he hx
 cases c with
 | sl i off len sz =>
  obtain ⟨p,cap,hm,hv,h1,h2,h3⟩:=hc
  simp only [evSlice3] at h
  split at h
  ·rename_i el hu
   split at h
   ·rename_i hz
    split at h
    ·rename_i l hh mm hl hhi hmx
     split at h
     ·rename_i hle
      have hb:∀ (x:Operand) (y b:Nat) (code:BoundsCode),evBound e 0 (some x)=some b→b≤y→(Instr.sliceBound (a.eval x) y code).run P w=.ok b w:=fun x y b code hx hy=>by
       obtain ⟨k,n,hv,h0,rfl⟩:=evBound_spec he hx
       have:n≤(y:Int):=by omega
       simp [Instr.sliceBound,asIntOf,hv,h0,this]
      have hbs:(Instr.sliceBounds true len cap (lo.map a.eval) (some (a.eval hi)) (some (a.eval mx))).run P w=.ok (l,hh,mm) w:=by
       unfold Instr.sliceBounds
       cases lo with
       | none =>
        cases hl
        simp [hb mx cap mm _ hmx (by omega),hb hi mm hh _ hhi hle.2.1]
       | some y=>simp [hb mx cap mm _ hmx (by omega),hb hi mm hh _ hhi hle.2.1,hb y hh l _ hl hle.1]
      have hr:(execOp a.eval o).run P w=.ok (.value (.slice (if mm=l then (some ⟨p.b,p.o+off,none⟩) else (some (Addr.add ⟨p.b,p.o+off,none⟩ (l * sz)))) (hh - l) (mm - l))) w:=by
       simp [execOp,ho,Instr.sliceAt,Instr.slice,hv,run_underlying hu,Sem.run_bind,hbs,run_sizeOf hz]
      by_cases hlt:l < hh
      ·rw [if_pos hlt] at h
       cases h
       refine DoesS.same hr ⟨p,mm - l,hm,?_,by omega,by omega,?_⟩
       ·rw [if_neg (by omega),Addr.add_lit,Nat.add_assoc]
       ·have:(mm - l) * sz+l * sz=mm * sz:=by rw [← Nat.add_mul,Nat.sub_add_cancel (by omega)]
        have:mm * sz≤cap * sz:=Nat.mul_le_mul_right _ (by omega)
        omega
      ·rw [if_neg hlt] at h
       cases h
       refine DoesS.same hr ?_
       have:hh - l=0:=by omega
       rw [this,ite_some]
       exact ⟨_,_,rfl,fun hz=>by have:mm=l:=by simpa using hz
                                 omega⟩
     ·cases h
    ·cases h
   ·cases h
  ·cases h
 | emp z=>cases h
 | low k r=>cases h
 | str s=>cases h
 | flat v=>cases h
 | ptr i off=>cases h
 | fn f caps=>cases h
 | mt f i off=>cases h
 | mp _=>cases h
 | q _ _ _=>cases h
variable (P)
def bytesEl (T:TypeId):TypeId:=match P.underlying T with
 | some (.slice e)=>e
 | _=>0
variable {P}
def evBytes (st:St) (el:TypeId) (l:List UInt8):Option (PV × St) :=
 if l.length≤maxLen then some (.s (.c (.sl st.h.length 0 l.length 1)),⟨st.h++[⟨l.map fun b=>.flat (.int .u8 b.toNat),el,false,true,false⟩],st.lo⟩) else none
theorem Res.allocRo {m:M} {st:St} {w:World} (hs:SR m st.h w) (cs:List C) (cur:Array Value) (T:TypeId) (fr:Nat × Nat) (hn:cs.length≤cur.size) (hv:∀ (j:Nat) c,cs[j]?=some c→∃ v,cur[j]?=some v∧VC m c v) :
  Res m st w (put m st.h.length ⟨w.heap.size,0,cur.size⟩) ⟨st.h++[⟨cs,T,false,true,false⟩],st.lo⟩ (w.alloc (.cells cur T fr)):=by
 have hext:=put_ext (n:=st.h.length) ⟨w.heap.size,0,cur.size⟩ hs.dom
 have hold:∀ b,b < w.heap.size→(w.alloc (.cells cur T fr)).heap[b]?=w.heap[b]?:=fun b hb=>Below.heap_alloc w _ b hb
 refine ⟨⟨?_,?_,?_,hs.mr.grow (fun i p o rest hm ho hmp=>?_) hold⟩,⟨hext,?_,?_,by simp,rfl,rfl,rfl,fun b hb _=>hold b hb⟩,by simp,Nat.le_refl _,fun i hi _=>by simp [List.getElem?_append_left hi]⟩
 ·intro i p hm
  by_cases hi:i=st.h.length
  ·subst hi;simp
  ·rw [put_ne _ _ hi] at hm;have:=hs.dom i p hm;simp;omega
 ·intro i p o hm ho hl
  by_cases hi:i=st.h.length
  ·subst hi
   rw [put_same] at hm
   cases hm
   have:o=⟨cs,T,false,true,false⟩:=by simpa using ho.symm
   subst this
   refine ⟨_,_,heap_alloc_new w _,rfl,by show 0+cs.length≤cur.size;omega,fun j c hc=>?_,(fun h=>by cases h),(fun h=>by cases h)⟩
   obtain ⟨v,h1,h2⟩:=hv j c hc
   exact ⟨v,by rw [Nat.zero_add];exact h1,h2.ext hext⟩
  ·rw [put_ne _ _ hi] at hm
   have hlt:=hs.dom i p hm
   rw [List.getElem?_append_left hlt] at ho
   obtain ⟨cur,fr,h1,h2,h3,h4,h5⟩:=hs.obj i p o hm ho hl
   exact ⟨cur,fr,by rw [hold _ (Array.getElem?_eq_some_iff.1 h1).1];exact h1,h2,h3,fun j c hc=>by obtain ⟨v,a,b⟩:=h4 j c hc;exact ⟨v,a,b.ext hext⟩,h5⟩
 ·intro i j p q o o' hi hj ho ho' hrw hl hl' hne
  by_cases ei:i=st.h.length
  ·subst ei
   have:o=⟨cs,T,false,true,false⟩:=by simpa using ho.symm
   subst this
   cases hrw
  ·rw [put_ne _ _ ei] at hi
   rw [List.getElem?_append_left (hs.dom i p hi)] at ho
   by_cases ej:j=st.h.length
   ·subst ej
    rw [put_same] at hj;cases hj
    have:=hs.lt hi ho hl
    show p.b≠w.heap.size
    omega
   ·rw [put_ne _ _ ej] at hj
    rw [List.getElem?_append_left (hs.dom j q hj)] at ho'
    exact hs.sep i j p q o o' hi hj ho ho' hrw hl hl' hne
 ·by_cases e:i=st.h.length
  ·subst e
   have:o=⟨cs,T,false,true,false⟩:=by simpa using ho.symm
   subst this
   cases hmp.1
  ·rw [put_ne _ _ e] at hm
   exact ⟨hm,by rwa [List.getElem?_append_left (hs.dom i p hm)] at ho⟩
 ·intro i hi
  exact put_ne _ _ (by omega)
 ·intro j p hj hm
  by_cases ej:j=st.h.length
  ·subst ej;rw [put_same] at hm;cases hm;exact .inl (Nat.le_refl _)
  ·rw [put_ne _ _ ej] at hm;have:=hs.dom j p hm;omega
theorem bytes_spec {m:M} {st st':St} {w:World} {a:Act} {e:Look} {o:Oper} {src dst:TypeId} {x:Operand} {l:List UInt8} {pv:PV} (hs:SR m st.h w) (he:EL m e a) (ho:o.op=.convert src dst x) (hsr:isStrT P src=true) (hd:isBytesT P dst=true) (hx:evX e x=some (.s (.c (.str l)))) (h:evBytes st (bytesEl P dst) l=some (pv,st')) :
  Does P m st w a o pv st':=by
 have hc:a.eval x=str' l:=(show VC m (.str l) (a.eval x) from evX_spec he hx)
 obtain ⟨el,hu,hue⟩:=isBytesT_spec hd
 have hsrc:=isStrT_spec hsr
 have hel:bytesEl P dst=el:=by simp [bytesEl,hu]
 rw [hel] at h
 unfold evBytes at h
 split at h
 ·rename_i hl
  cases h
  have hsz:(⟨l.toArray⟩:ByteArray).size=l.length:=by simp [ByteArray.size]
  have hr:=run_bytes_of_string (P:=P) w src dst el ⟨l.toArray⟩ hsrc hu hue
  rw [hsz] at hr
  have hg:=grownCap_ge w l.length 0 el
  have hbs:(bytesRow ⟨l.toArray⟩ (grownCap w l.length 0 el)).size=grownCap w l.length 0 el:=by
   simp [bytesRow,hsz];omega
  have hres:=(Res.drew hs).trans (Res.allocRo hs.drew (l.map fun b=>.flat (.int .u8 b.toNat)) (bytesRow ⟨l.toArray⟩ (grownCap w l.length 0 el)) el ((bytesRow ⟨l.toArray⟩ (grownCap w l.length 0 el)).size,(bytesRow ⟨l.toArray⟩ (grownCap w l.length 0 el)).size+1) (by rw [hbs];simp;omega) (fun j c hj=>by
   have hjl:j < l.length:=by have:=(List.getElem?_eq_some_iff.1 hj).1;simpa using this
   rw [List.getElem?_map,List.getElem?_eq_getElem hjl] at hj
   cases hj
   refine ⟨.int .u8 (l[j].toNat:Int),?_,rfl,rfl⟩
   rw [bytesRow,Array.getElem?_append_left (by simp;exact hjl)]
   simp [hjl]))
  refine ⟨_,.slice (some ⟨w.heap.size,0,none⟩) l.length (grownCap w l.length 0 el),_,_,?_,.inl rfl,?_,hres⟩
  ·simp [execOp,ho,hc,str',hr]
  ·exact ⟨_,_,put_same _ _ _,rfl,hg,grownCap_le_maxLen w l.length 0 el hl,by rw [hbs];simp⟩
 ·cases h
def evMark (st:St):C→Option (PV × St)
 | .sl i off len sz=>match st.h[i]? with
  | none=>none
  | some o=>if o.live=true∧o.rw=true∧o.full=true∧off=0∧o.cells.length=len * sz then
    some (.s (.c (.sl st.h.length 0 len sz)),⟨st.h.set i { o with live:=false,cells:=[] }++[⟨o.cells,o.ty,false,true,true⟩],min st.lo i⟩) else none
 | _=>none
theorem freeze_same (w:World) (b n:Nat) (cur:Array Value) (ty:TypeId) (fr:Nat × Nat) (h:w.heap[b]?=some (.cells cur ty fr)):∃ fr',(w.freeze ⟨b,n,none⟩ 1).heap[b]?=some (.cells cur ty fr'):=by
 have hlt:=(Array.getElem?_eq_some_iff.1 h).1
 have hv:=(Array.getElem?_eq_some_iff.1 h).2
 unfold World.freeze
 rw [if_neg (by decide)]
 obtain ⟨lo,hi⟩:=fr
 simp [Array.getElem?_modify,h]
theorem freeze_other (w:World) (b n k:Nat) (h:k≠b):(w.freeze ⟨b,n,none⟩ 1).heap[k]?=w.heap[k]?:=by
 unfold World.freeze
 rw [if_neg (by decide)]
 simp [Array.getElem?_modify,Ne.symm h]
theorem freeze_size (w:World) (b n:Nat):(w.freeze ⟨b,n,none⟩ 1).heap.size=w.heap.size:=by
 unfold World.freeze
 rw [if_neg (by decide)]
 simp
theorem freeze_os (w:World) (b n:Nat):(w.freeze ⟨b,n,none⟩ 1).os=w.os∧(w.freeze ⟨b,n,none⟩ 1).tape=w.tape∧(w.freeze ⟨b,n,none⟩ 1).output=w.output:=by
 unfold World.freeze
 rw [if_neg (by decide)]
 exact ⟨rfl,rfl,rfl⟩
theorem Res.mark {m:M} {st:St} {w:World} (hs:SR m st.h w) {i:Nat} {p:Pl} {o:O} (hm:m i=some p) (ho:st.h[i]?=some o) (hl:o.live=true) (hrw:o.rw=true) (hfu:o.full=true) (n:Nat) :
  Res m st w (put m st.h.length p) ⟨st.h.set i { o with live:=false,cells:=[] }++[⟨o.cells,o.ty,false,true,true⟩],min st.lo i⟩ (w.freeze ⟨p.b,n,none⟩ 1):=by
 have hi:i < st.h.length:=hs.dom i p hm
 obtain ⟨cur,fr,hb,hcz,hpl,hcell,hf⟩:=hs.obj i p o hm ho hl
 obtain ⟨fr',hb'⟩:=freeze_same w p.b n cur o.ty fr hb
 have hext:=put_ext (n:=st.h.length) p hs.dom
 have hlen:(st.h.set i { o with live:=false,cells:=[] }).length=st.h.length:=by simp
 have old:∀ (j:Nat) (oj:O) (q:Pl),m j=some q→(st.h.set i { o with live:=false,cells:=[] }++[⟨o.cells,o.ty,false,true,true⟩])[j]?=some oj→oj.live=true→j≠i∧st.h[j]?=some oj:=fun j oj q hmj hj hlj=>by
  have hjl:=hs.dom j q hmj
  rw [List.getElem?_append_left (by rw [hlen];exact hjl)] at hj
  by_cases e:j=i
  ·subst e
   have:oj={ o with live:=false,cells:=[] }:=by simpa [List.getElem?_set,hi] using hj.symm
   subst this
   cases hlj
  ·exact ⟨e,by simpa [List.getElem?_set,Ne.symm e] using hj⟩
 have last:∀ (oj:O),(st.h.set i { o with live:=false,cells:=[] }++[⟨o.cells,o.ty,false,true,true⟩])[st.h.length]?=some oj→oj=⟨o.cells,o.ty,false,true,true⟩:=fun oj hoj=>by
  rw [List.getElem?_append_right (by rw [hlen];exact Nat.le_refl _),hlen] at hoj
  simpa using hoj.symm
 obtain ⟨os1,os2,os3⟩:=freeze_os w p.b n
 refine ⟨⟨?_,?_,?_,hs.mr.keep (fun j q oj rest hj hoj hmp=>?_) (fun b es cl hb'=>?_)⟩,⟨hext,fun j hj=>put_ne _ _ (by omega),?_,by rw [freeze_size];exact Nat.le_refl _,os1,os2,os3,fun b hb' hne=>?_⟩,by simp,Nat.min_le_left _ _,fun j hj hjl=>?_⟩
 ·intro j q hj
  by_cases e:j=st.h.length
  ·subst e;simp
  ·rw [put_ne _ _ e] at hj;have:=hs.dom j q hj;simp;omega
 ·intro j q oj hj hoj hlj
  by_cases e:j=st.h.length
  ·subst e
   rw [put_same] at hj;cases hj
   have:=last oj hoj
   subst this
   exact ⟨cur,fr',hb',hcz,hpl,fun k c hk=>by obtain ⟨v,a,b⟩:=hcell k c hk;exact ⟨v,a,b.ext hext⟩,(fun h=>by cases h),(fun _=>hf.2 hfu)⟩
  ·rw [put_ne _ _ e] at hj
   obtain ⟨hne,hoj'⟩:=old j oj q hj hoj hlj
   obtain ⟨c1,f1,h1,h2,h3,h4,h5⟩:=hs.obj j q oj hj hoj' hlj
   exact ⟨c1,f1,by rw [freeze_other w p.b n q.b (hs.sep i j p q o oj hm hj ho hoj' hrw hl hlj (Ne.symm hne)).symm];exact h1,h2,h3,fun k c hk=>by obtain ⟨v,a,b⟩:=h4 k c hk;exact ⟨v,a,b.ext hext⟩,h5⟩
 ·intro a b pa pb oa ob ha hb1 hoa hob hrwa hla hlb hne
  by_cases ea:a=st.h.length
  ·subst ea
   have:=last oa hoa
   subst this
   cases hrwa
  ·rw [put_ne _ _ ea] at ha
   obtain ⟨k1,k2⟩:=old a oa pa ha hoa hla
   by_cases eb:b=st.h.length
   ·subst eb
    rw [put_same] at hb1;cases hb1
    exact (hs.sep i a p pa o oa hm ha ho k2 hrw hl hla (Ne.symm k1)).symm
   ·rw [put_ne _ _ eb] at hb1
    obtain ⟨j1,j2⟩:=old b ob pb hb1 hob hlb
    exact hs.sep a b pa pb oa ob ha hb1 k2 j2 hrwa hla hlb hne
 ·by_cases e:j=st.h.length
  ·subst e
   have:=last oj hoj
   subst this
   cases hmp.1
  ·rw [put_ne _ _ e] at hj
   refine ⟨hj,?_⟩
   rw [List.getElem?_append_left (by rw [hlen];exact hs.dom j q hj)] at hoj
   by_cases e:j=i
   ·subst e
    have:oj={ o with live:=false,cells:=[] }:=by simpa [List.getElem?_set,hi] using hoj.symm
    subst this
    cases hmp.2
   ·simpa [List.getElem?_set,Ne.symm e] using hoj
 ·rw [freeze_other w p.b n b (fun e=>by subst e;rw [hb] at hb';cases hb')];exact hb'
 ·intro j q hj hmj
  by_cases e:j=st.h.length
  ·subst e;rw [put_same] at hmj;cases hmj;exact .inr ⟨i,p,Nat.min_le_right _ _,hi,hm,rfl⟩
  ·rw [put_ne _ _ e] at hmj;have:=hs.dom j q hmj;omega
 ·exact freeze_other w p.b n b (fun e=>hne i p (Nat.min_le_right _ _) hi hm e.symm)
 ·have:j≠i:=by
   have h1:min st.lo i≤i:=Nat.min_le_right _ _
   have hjl':j < min st.lo i:=hjl
   omega
  rw [List.getElem?_append_left (by simpa using hj)]
  simp [Ne.symm this]
theorem mark_spec {m:M} {st st':St} {w:World} {a:Act} {e:Look} {o:Oper} {T:TypeId} {x:Operand} {c:C} {pv:PV} (hs:SR m st.h w) (he:EL m e a) (ho:o.op=.convert T T x) (hd:isBytesT P T=true) (hx:evX e x=some (.s (.c c))) (h:evMark st c=some (pv,st')):Does P m st w a o pv st':=by
 have hc:VC m c (a.eval x):=evX_spec he hx
 obtain ⟨el,hu,hue⟩:=isBytesT_spec hd
 unfold evMark at h
 split at h
 ·rename_i i off len sz
  split at h
  ·cases h
  rename_i ob hob
  split at h
  ·rename_i hh
   obtain ⟨hl,hrw,hfu,rfl,hcl⟩:=hh
   cases h
   obtain ⟨p,cap,hm,hv,hle,hmx,hcap⟩:=hc
   obtain ⟨cur,fr,hb,hcz,hpl,hcell,hf⟩:=hs.obj i p ob hm hob hl
   have hres:=Res.mark hs hm hob hl hrw hfu cur.size
   refine ⟨_,.slice (some ⟨p.b,p.o+0,none⟩) len cap,_,_,?_,.inl rfl,⟨p,cap,put_same _ _ _,rfl,hle,hmx,hcap⟩,hres⟩
   have hsh:w.shape? p.b=some (ob.ty,cur.size):=by simp [World.shape?,hb]
   have hcv:(convert T T (.slice (some ⟨p.b,p.o+0,none⟩) len cap)).run P w=.ok (.slice (some ⟨p.b,p.o+0,none⟩) len cap) (w.freeze ⟨p.b,cur.size,none⟩ 1):=by
    simp [convert,run_underlying hu,run_underlying hue,markStringish,hsh,shape,Sem.run]
   simp only [Nat.add_zero] at hv hcv
   simp [execOp,ho,hv,hcv]
  ·cases h
 ·cases h
end Ev
end Go.Proofs.Ytcpodmjcgfgmnaa
namespace Go.Proofs.Ytcpodmjcgfgmnaa
open Go.RowKit
namespace Ev
variable {P:Program}
theorem kvC_vc {m:M} {c:C} {x:Value} (h:kvC c=some x):VC m c x:=by
 unfold kvC at h
 split at h
 ·cases h;exact ⟨rfl,rfl⟩
 ·cases h;exact rfl
 ·cases h
theorem kvC_eq {m:M} {c:C} {x y:Value} (h:kvC c=some x) (k:VC m c y):y=x:=by
 unfold kvC at h
 split at h
 ·cases h;exact k.1
 ·cases h;exact k
 ·cases h
def eqK:C→C→Bool
 | .flat (.int .i64 a),.flat (.int .i64 b)=>a == b
 | .str a,.str b=>a == b
 | _,_=>false
def keyC (d:TypeDesc) (c:C):Bool:=match d,c with
 | .int .i64,.flat (.int .i64 _)=>true
 | .string,.str _=>true
 | _,_=>false
theorem str'_inj {a b:List UInt8} (h:str' a=str' b):a=b:=by
 unfold str' at h
 injection h with h
 have:=congrArg ByteArray.data h
 simpa using congrArg Array.toList this
theorem keyC_is {d:TypeDesc} {c:C} {x:Value} (h:keyC d c=true) (k:kvC c=some x):MapKept.IsKey d x:=by
 unfold keyC at h
 split at h
 ·cases k;simp [MapKept.IsKey]
 ·cases k;simp [MapKept.IsKey,str']
 ·cases h
theorem same_of {d:TypeDesc} {a b:C} {x y:Value} (ha:keyC d a=true) (hb:keyC d b=true) (hx:kvC a=some x) (hy:kvC b=some y):Instr.sameNow d x y=some (eqK a b):=by
 have h1:=keyC_is ha hx
 have h2:=keyC_is hb hy
 obtain ⟨r,hr,hiff⟩:=MapKept.sameNow_of_keys h1 h2
 rw [hr]
 congr 1
 rw [Bool.eq_iff_iff,hiff]
 unfold keyC at ha
 split at ha
 ·unfold keyC at hb
  split at hb
  ·cases hx;cases hy;simp [eqK]
  ·exact absurd ‹TypeDesc.int IntKind.i64=TypeDesc.string› (by simp)
  ·cases hb
 ·unfold keyC at hb
  split at hb
  ·exact absurd ‹TypeDesc.string=TypeDesc.int IntKind.i64› (by simp)
  ·cases hx;cases hy
   simp only [eqK,beq_iff_eq]
   exact ⟨str'_inj,fun h=>by rw [h]⟩
  ·cases hb
 ·cases ha
def getM (d:TypeDesc) (k:C):List C→Option (Option C)
 | []=>some none
 | k' :: v :: r=>if keyC d k' then (if eqK k k' then some (some v) else getM d k r) else none
 | _=>none
def setM (d:TypeDesc) (k v:C):List C→Option (List C)
 | []=>some [k,v]
 | k' :: u :: r=>if keyC d k' then (if eqK k k' then some (k' :: v :: r) else match setM d k v r with | some r'=>some (k' :: u :: r') | none=>none) else none
 | _=>none
abbrev flatE (es:List MapEntry):List (Option Value):=es.flatMap fun e=>[some e.key,some e.val]
theorem getM_spec {d:TypeDesc} {k:C} {kv:Value} (hk:keyC d k=true) (hkv:kvC k=some kv):∀ {rest:List C} {es:List MapEntry} {r:Option C} (i:Nat),rest.map kvC=flatE es→getM d k rest=some r →
  (r=none∧Instr.findNow d kv es i=some none)∨∃ j v,∃ e:MapEntry,r=some v∧Instr.findNow d kv es i=some (some (j,e.val))∧kvC v=some e.val
 | [],es,r,i,he,h=>by
  cases h
  cases es with
  | nil=>exact .inl ⟨rfl,rfl⟩
  | cons e es=>simp [flatE] at he
 | [x],es,r,i,he,h=>by cases h
 | k' :: v :: rest,es,r,i,he,h=>by
  cases es with
  | nil=>simp [flatE] at he
  | cons e es =>
   simp only [flatE,List.map_cons,List.flatMap_cons,List.cons_append,List.nil_append,List.cons.injEq] at he
   obtain ⟨e1,e2,e3⟩:=he
   simp only [getM] at h
   split at h
   ·rename_i hk'
    have hs:=same_of hk hk' hkv e1
    split at h
    ·rename_i hq
     cases h
     rw [hq] at hs
     exact .inr ⟨i,v,e,rfl,by simp [Instr.findNow,hs],e2⟩
    ·rename_i hq
     rw [Bool.not_eq_true] at hq
     rw [hq] at hs
     rcases getM_spec hk hkv (i+1) e3 h with ⟨g1,g2⟩ | ⟨j,u,e',g1,g2,g3⟩
     ·exact .inl ⟨g1,by simp [Instr.findNow,hs,g2]⟩
     ·exact .inr ⟨j,u,e',g1,by simp [Instr.findNow,hs,g2],g3⟩
   ·cases h
theorem setM_spec {d:TypeDesc} {k v:C} {kv vv:Value} (hk:keyC d k=true) (hkv:kvC k=some kv) (hvv:kvC v=some vv):∀ {rest rest':List C} {es:List MapEntry} (i:Nat),rest.map kvC=flatE es→setM d k v rest=some rest' →
  (Instr.findNow d kv es i=some none∧∀ b,rest'.map kvC=flatE (es++[{ key:=kv,val:=vv,born:=b }])) ∨
  ∃ j,∃ e:MapEntry,Instr.findNow d kv es i=some (some (i+j,e.val))∧es[j]?=some e∧e.key=kv∧rest'.map kvC=flatE (es.modify j fun e=>{ e with key:=kv,val:=vv })
 | [],rest',es,i,he,h=>by
  cases h
  cases es with
  | nil=>exact .inl ⟨rfl,fun b=>by simp [flatE,hkv,hvv]⟩
  | cons e es=>simp [flatE] at he
 | [x],rest',es,i,he,h=>by cases h
 | k' :: u :: rest,rest',es,i,he,h=>by
  cases es with
  | nil=>simp [flatE] at he
  | cons e es =>
   simp only [flatE,List.map_cons,List.flatMap_cons,List.cons_append,List.nil_append,List.cons.injEq] at he
   obtain ⟨e1,e2,e3⟩:=he
   simp only [setM] at h
   split at h
   ·rename_i hk'
    have hs:=same_of hk hk' hkv e1
    split at h
    ·rename_i hq
     cases h
     rw [hq] at hs
     have hke:e.key=kv:=by
      obtain ⟨r,hr,hiff⟩:=MapKept.sameNow_of_keys (keyC_is hk hkv) (keyC_is hk' e1)
      rw [hs] at hr;cases hr
      exact (hiff.1 rfl).symm
     exact .inr ⟨0,e,by simp [Instr.findNow,hs],rfl,hke,by simp [flatE,List.modify,hvv,e1,hke,e3]⟩
    ·rename_i hq
     rw [Bool.not_eq_true] at hq
     rw [hq] at hs
     split at h
     ·rename_i r' hr'
      cases h
      rcases setM_spec hk hkv hvv (i+1) e3 hr' with ⟨g1,g2⟩ | ⟨j,e',g1,g2,g3,g4⟩
      ·refine .inl ⟨by simp [Instr.findNow,hs,g1],fun b=>?_⟩
       have:=g2 b
       simp only [flatE,List.map_cons,List.cons_append,List.flatMap_cons,List.nil_append,e1,e2,List.cons.injEq,true_and] at this ⊢
       exact this
      ·exact .inr ⟨j+1,e',by simp [Instr.findNow,hs,g1];omega,by simpa using g2,g3,by simp only [flatE,List.modify_succ_cons,List.map_cons,List.flatMap_cons,List.cons_append,List.nil_append,e1,e2,List.cons.injEq,true_and] at g4 ⊢;exact g4⟩
     ·cases h
   ·cases h
def mapOf (st:St) (i:Nat):Option (O × List C):=match st.h[i]? with
 | some o=>if o.live then none else (match o.cells with
  | .emp true :: rest=>some (o,rest)
  | _=>none)
 | none=>none
theorem mapOf_spec {st:St} {i:Nat} {o:O} {rest:List C} (h:mapOf st i=some (o,rest)):st.h[i]?=some o∧IsMap o rest:=by
 unfold mapOf at h
 split at h
 ·rename_i o' ho
  split at h
  ·cases h
  ·rename_i hl
   split at h
   ·rename_i rest' hc
    cases h
    exact ⟨ho,by simpa using hl,hc⟩
   ·cases h
 ·cases h
def evMakeMap (st:St):PV × St:=(.s (.c (.mp st.h.length)),⟨st.h++[⟨[.emp true],0,false,false,false⟩],st.lo⟩)
theorem makeMap_spec {m:M} {st:St} {w:World} {a:Act} {o:Oper} {T:TypeId} (hs:SR m st.h w) (ho:o.op=.makeMap T none):Does P m st w a o (evMakeMap st).1 (evMakeMap st).2:=by
 have hext:=put_ext (n:=st.h.length) ⟨w.heap.size,0,0⟩ hs.dom
 have hold:∀ b,b < w.heap.size→(w.alloc (.map #[] 0)).heap[b]?=w.heap[b]?:=fun b hb=>Below.heap_alloc w _ b hb
 have hlast:∀ (x:O),(st.h++[⟨[.emp true],0,false,false,false⟩])[st.h.length]?=some x→x=⟨[.emp true],0,false,false,false⟩:=fun x hx=>by simpa using hx.symm
 have hdead:∀ (i:Nat) (p:Pl) (x:O),put m st.h.length ⟨w.heap.size,0,0⟩ i=some p→(st.h++[⟨[.emp true],0,false,false,false⟩])[i]?=some x→x.live=true→m i=some p∧st.h[i]?=some x:=fun i p x hm hx hl=>by
  by_cases e:i=st.h.length
  ·subst e
   rw [hlast x hx] at hl
   cases hl
  ·rw [put_ne _ _ e] at hm
   exact ⟨hm,by rwa [List.getElem?_append_left (hs.dom i p hm)] at hx⟩
 have hmap:∀ (i:Nat) (p:Pl) (x:O) (r:List C),put m st.h.length ⟨w.heap.size,0,0⟩ i=some p→(st.h++[⟨[.emp true],0,false,false,false⟩])[i]?=some x→IsMap x r→(i=st.h.length∧p.b=w.heap.size∧r=[])∨(i≠st.h.length∧p.b < w.heap.size∧m i=some p∧st.h[i]?=some x):=fun i p x r hm hx hmp=>by
  by_cases e:i=st.h.length
  ·subst e
   have:=hlast x hx
   subst this
   rw [put_same] at hm
   cases hm
   have:=hmp.2
   simp at this
   exact .inl ⟨rfl,rfl,this⟩
  ·rw [put_ne _ _ e] at hm
   have hx':st.h[i]?=some x:=by rwa [List.getElem?_append_left (hs.dom i p hm)] at hx
   obtain ⟨es,cl,h1,_⟩:=hs.mr.at_ i p x r hm hx' hmp
   exact .inr ⟨e,(Array.getElem?_eq_some_iff.1 h1).1,hm,hx'⟩
 refine ⟨.value (.map (some w.heap.size)),.map (some w.heap.size),w.alloc (.map #[] 0),put m st.h.length ⟨w.heap.size,0,0⟩,?_,.inl rfl,⟨_,put_same _ _ _,rfl⟩,⟨⟨?_,?_,?_,⟨?_,?_⟩⟩,⟨hext,?_,?_,by simp,rfl,rfl,rfl,fun b hb _=>hold b hb⟩,by simp [evMakeMap],Nat.le_refl _,fun i hi _=>by simp [evMakeMap,List.getElem?_append_left hi]⟩⟩
 ·simp [execOp,ho,run_makeMap]
 ·intro i p hm
  by_cases hi:i=st.h.length
  ·subst hi;simp [evMakeMap]
  ·rw [put_ne _ _ hi] at hm;have:=hs.dom i p hm;simp [evMakeMap];omega
 ·intro i p x hm hx hl
  obtain ⟨a1,a2⟩:=hdead i p x hm hx hl
  obtain ⟨cur,fr,h1,h2,h3,h4,h5⟩:=hs.obj i p x a1 a2 hl
  exact ⟨cur,fr,by rw [hold _ (Array.getElem?_eq_some_iff.1 h1).1];exact h1,h2,h3,fun j c hc=>by obtain ⟨v,a,b⟩:=h4 j c hc;exact ⟨v,a,b.ext hext⟩,h5⟩
 ·intro i j p q x y hi hj hx hy hrw hl hl' hne
  obtain ⟨a1,a2⟩:=hdead i p x hi hx hl
  obtain ⟨b1,b2⟩:=hdead j q y hj hy hl'
  exact hs.sep i j p q x y a1 b1 a2 b2 hrw hl hl' hne
 ·intro i p x r hm hx hmp
  rcases hmap i p x r hm hx hmp with ⟨_,b,rfl⟩ | ⟨_,b,c,d⟩
  ·exact ⟨#[],0,by rw [b];exact heap_alloc_new w _,rfl⟩
  ·obtain ⟨es,cl,h1,h2⟩:=hs.mr.at_ i p x r c d hmp
   exact ⟨es,cl,by rw [hold _ b];exact h1,h2⟩
 ·intro i j p q x y r r' hi hj hx hy hmx hmy hne
  rcases hmap i p x r hi hx hmx with ⟨a1,a2,_⟩ | ⟨a1,a2,a3,a4⟩ <;> rcases hmap j q y r' hj hy hmy with ⟨b1,b2,_⟩ | ⟨b1,b2,b3,b4⟩
  ·omega
  ·omega
  ·omega
  ·exact hs.mr.sep i j p q x y r r' a3 b3 a4 b4 hmx hmy hne
 ·intro i hi
  exact put_ne _ _ (by omega)
 ·intro j p hj hm
  by_cases ej:j=st.h.length
  ·subst ej;rw [put_same] at hm;cases hm;exact .inl (Nat.le_refl _)
  ·rw [put_ne _ _ ej] at hm;have:=hs.dom j p hm;omega
variable (P)
def zeroN (T:TypeId):Option C:=match P.info? T with
 | none=>none
 | some i=>match i.zero with
  | some (.int .i64 n)=>some (.flat (.int .i64 n))
  | _=>none
def keyT (T:TypeId):Option (TypeDesc × TypeId):=match P.underlying T with
 | some (.map kt el)=>match P.underlying kt with
  | some d=>some (d,el)
  | none=>none
 | _=>none
variable {P}
theorem zeroN_spec {T:TypeId} {z:C} (h:zeroN P T=some z):∃ x,kvC z=some x∧∀ w,(zeroValue T).run P w=.ok x w:=by
 unfold zeroN at h
 split at h
 ·cases h
 ·rename_i i hi
  split at h
  ·rename_i n hz
   cases h
   exact ⟨_,rfl,fun w=>by simp [zeroValue,typeInfo,hi,hz]⟩
  ·cases h
theorem keyT_spec {T:TypeId} {d:TypeDesc} {el:TypeId} (h:keyT P T=some (d,el)):∃ kt,P.underlying T=some (.map kt el)∧P.underlying kt=some d:=by
 unfold keyT at h
 split at h
 ·rename_i kt el' hu
  split at h
  ·rename_i d' hd
   cases h
   exact ⟨kt,hu,hd⟩
  ·cases h
 ·cases h
def lookR (z:C) (ok:Bool) (r:Option C):PV:=match r with
 | some v=>if ok then .t [.c v,.c (.flat (.bool true))] else .s (.c v)
 | none=>if ok then .t [.c z,.c (.flat (.bool false))] else .s (.c z)
variable (P)
def evLookup (st:St) (T:TypeId) (i:Nat) (k:C) (ok:Bool):Option PV:=match keyT P T with
 | none=>none
 | some (d,el)=>match mapOf st i with
  | none=>none
  | some (_,rest)=>match zeroN P el with
   | none=>none
   | some z=>if keyC d k then (match getM d k rest with
    | none=>none
    | some r=>some (lookR z ok r)) else none
def evMapSet (st:St) (T:TypeId) (i:Nat) (k v:C):Option St:=match keyT P T with
 | none=>none
 | some (d,_)=>match mapOf st i with
  | none=>none
  | some (o,rest)=>match kvC v with
   | none=>none
   | some _=>if keyC d k then (match setM d k v rest with
    | none=>none
    | some rest'=>some ⟨st.h.set i { o with cells:=.emp true :: rest' },min st.lo i⟩) else none
variable {P}
theorem keyC_kv {d:TypeDesc} {k:C} (h:keyC d k=true):∃ x,kvC k=some x:=by
 unfold keyC at h
 split at h
 ·exact ⟨_,rfl⟩
 ·exact ⟨_,rfl⟩
 ·cases h
theorem lookup_spec {m:M} {st:St} {w:World} {a:Act} {e:Look} {o:Oper} {T:TypeId} {x y:Operand} {ok:Bool} {i:Nat} {k:C} {pv:PV} (hs:SR m st.h w) (he:EL m e a) (ho:o.op=.lookup T x y ok)
  (hx:evX e x=some (.s (.c (.mp i)))) (hy:evX e y=some (.s (.c k))) (h:evLookup P st T i k ok=some pv):DoesS P m w a o pv:=by
 obtain ⟨p,hm,hv⟩:∃ p,m i=some p∧a.eval x=.map (some p.b):=evX_spec he hx
 have hkc:VC m k (a.eval y):=evX_spec he hy
 unfold evLookup at h
 split at h
 ·cases h
 rename_i d el hkt
 obtain ⟨kt,hT,hd⟩:=keyT_spec hkt
 split at h
 ·cases h
 rename_i ob rest hmo
 obtain ⟨hob,hmp⟩:=mapOf_spec hmo
 split at h
 ·cases h
 rename_i z hz
 obtain ⟨zx,hzx,hzr⟩:=zeroN_spec hz
 split at h
 rotate_left
 ·cases h
 rename_i hk
 obtain ⟨kv,hkv⟩:=keyC_kv hk
 have hky:=kvC_eq hkv hkc
 have hik:=keyC_is hk hkv
 split at h
 ·cases h
 rename_i r hr
 cases h
 obtain ⟨es,cl,hb,hfl⟩:=hs.mr.at_ i p ob rest hm hob hmp
 rcases getM_spec hk hkv 0 hfl hr with ⟨rfl,g⟩ | ⟨j,v,en,rfl,g,gv⟩
 ·cases ok
  ·exact DoesS.same (v:=zx) (by simp [execOp,ho,hv,hky,Instr.lookup,run_underlying hT,MapKept.run_getObj_map hb,MapKept.run_checkKey hd hik,MapKept.run_findKey hd g,hzr,Result.andThen]) (kvC_vc hzx)
  ·refine DoesS.same (v:=.tuple #[zx,.bool false]) (by simp [execOp,ho,hv,hky,Instr.lookup,run_underlying hT,MapKept.run_getObj_map hb,MapKept.run_checkKey hd hik,MapKept.run_findKey hd g,hzr,Result.andThen]) ?_
   exact ⟨[zx,.bool false],rfl,All2.cons (kvC_vc hzx) (All2.cons ⟨rfl,rfl⟩ All2.nil)⟩
 ·cases ok
  ·exact DoesS.same (v:=en.val) (by simp [execOp,ho,hv,hky,Instr.lookup,run_underlying hT,MapKept.run_getObj_map hb,MapKept.run_checkKey hd hik,MapKept.run_findKey hd g,Result.andThen]) (kvC_vc gv)
  ·refine DoesS.same (v:=.tuple #[en.val,.bool true]) (by simp [execOp,ho,hv,hky,Instr.lookup,run_underlying hT,MapKept.run_getObj_map hb,MapKept.run_checkKey hd hik,MapKept.run_findKey hd g,Result.andThen]) ?_
   exact ⟨[en.val,.bool true],rfl,All2.cons (kvC_vc gv) (All2.cons ⟨rfl,rfl⟩ All2.nil)⟩
theorem mapSet_spec {m:M} {st st':St} {w:World} {a:Act} {e:Look} {o:Oper} {T:TypeId} {x y z:Operand} {i:Nat} {k v:C} (hs:SR m st.h w) (he:EL m e a) (ho:o.op=.mapUpdate T x y z∨o.op=.insert T x y z)
  (hx:evX e x=some (.s (.c (.mp i)))) (hy:evX e y=some (.s (.c k))) (hz:evX e z=some (.s (.c v))) (h:evMapSet P st T i k v=some st'):Does P m st w a o .skip st':=by
 obtain ⟨p,hm,hv⟩:∃ p,m i=some p∧a.eval x=.map (some p.b):=evX_spec he hx
 have hkc:VC m k (a.eval y):=evX_spec he hy
 have hvc:VC m v (a.eval z):=evX_spec he hz
 unfold evMapSet at h
 split at h
 ·cases h
 rename_i d el hkt
 obtain ⟨kt,hT,hd⟩:=keyT_spec hkt
 split at h
 ·cases h
 rename_i ob rest hmo
 obtain ⟨hob,hmp⟩:=mapOf_spec hmo
 split at h
 ·cases h
 rename_i vv hvv
 split at h
 rotate_left
 ·cases h
 rename_i hk
 obtain ⟨kv,hkv⟩:=keyC_kv hk
 have hky:=kvC_eq hkv hkc
 have hvy:=kvC_eq hvv hvc
 have hik:=keyC_is hk hkv
 split at h
 ·cases h
 rename_i rest' hr
 cases h
 obtain ⟨es,cl,hb,hfl⟩:=hs.mr.at_ i p ob rest hm hob hmp
 have hi:i < st.h.length:=hs.dom i p hm
 have fin:∀ (es':Array MapEntry) (cl':Nat),rest'.map kvC=flatE es'.toList→(Instr.mapUpdate T (.map (some p.b)) kv vv).run P w=.ok () { w with heap:=w.heap.setIfInBounds p.b (.map es' cl') }→Does P m st w a o .skip ⟨st.h.set i { ob with cells:=.emp true :: rest' },min st.lo i⟩:=fun es' cl' hes hrun=>by
  have hset:=MapKept.heap_set (o':=.map es' cl') hb
  have other:∀ (j:Nat) (x:O),(st.h.set i { ob with cells:=.emp true :: rest' })[j]?=some x→(j=i∧x={ ob with cells:=.emp true :: rest' })∨(j≠i∧st.h[j]?=some x):=fun j x hj=>by
   by_cases e:j=i
   ·subst e;exact .inl ⟨rfl,by simpa [List.getElem?_set,hi] using hj.symm⟩
   ·exact .inr ⟨e,by simpa [List.getElem?_set,Ne.symm e] using hj⟩
  have live:∀ (j:Nat) (x:O),(st.h.set i { ob with cells:=.emp true :: rest' })[j]?=some x→x.live=true→st.h[j]?=some x:=fun j x hj hl=>by
   rcases other j x hj with ⟨_,rfl⟩ | ⟨_,h⟩
   ·have:=hmp.1
    rw [show ({ ob with cells:=.emp true :: rest' }:O).live=ob.live from rfl,this] at hl
    cases hl
   ·exact h
  have maps:∀ (j:Nat) (x:O) (r:List C),(st.h.set i { ob with cells:=.emp true :: rest' })[j]?=some x→IsMap x r→(j=i∧r=rest')∨(j≠i∧st.h[j]?=some x):=fun j x r hj hr=>by
   rcases other j x hj with ⟨e,rfl⟩ | h
   ·have:=hr.2
    simp at this
    exact .inl ⟨e,this.symm⟩
   ·exact .inr h
  have some_map:∀ (j:Nat) (x:O) (r:List C),(st.h.set i { ob with cells:=.emp true :: rest' })[j]?=some x→IsMap x r→∃ x' r',st.h[j]?=some x'∧IsMap x' r':=fun j x r hj hr=>by
   rcases maps j x r hj hr with ⟨e,_⟩ | ⟨_,h⟩
   ·subst e;exact ⟨ob,rest,hob,hmp⟩
   ·exact ⟨x,r,h,hr⟩
  refine ⟨.skip,undef,{ w with heap:=w.heap.setIfInBounds p.b (.map es' cl') },m,?_,.inr ⟨rfl,rfl⟩,rfl,⟨⟨fun j q hj=>by simpa using hs.dom j q hj,?_,?_,⟨?_,?_⟩⟩,⟨fun _ _ h=>h,fun _ _=>rfl,fun j q hj hmj=>by have:=hs.dom j q hmj;omega,by simp,rfl,rfl,rfl,fun b hb' hne=>?_⟩,by simp,Nat.min_le_left _ _,fun j hj hjl=>?_⟩⟩
  ·rcases ho with ho | ho <;> simp [execOp,ho,hv,hky,hvy,hrun]
  ·intro j q x hj hxj hl
   obtain ⟨cur,fr,h1,h2⟩:=hs.obj j q x hj (live j x hxj hl) hl
   refine ⟨cur,fr,?_,h2⟩
   rw [← h1]
   exact hset.2 q.b fun e=>by rw [e,hb] at h1;cases h1
  ·intro j1 j2 p1 p2 x1 x2 a1 a2 b1 b2 hrw l1 l2 hne
   exact hs.sep j1 j2 p1 p2 x1 x2 a1 a2 (live _ _ b1 l1) (live _ _ b2 l2) hrw l1 l2 hne
  ·intro j q x r hj hxj hmx
   rcases maps j x r hxj hmx with ⟨rfl,rfl⟩ | ⟨hne,hxj'⟩
   ·rw [hm] at hj;cases hj
    exact ⟨es',cl',hset.1,hes⟩
   ·obtain ⟨es1,cl1,h1,h2⟩:=hs.mr.at_ j q x r hj hxj' hmx
    refine ⟨es1,cl1,?_,h2⟩
    rw [← h1]
    exact hset.2 q.b fun e=>(hs.mr.sep j i q p x ob r rest hj hm hxj' hob hmx hmp hne) e
  ·intro j1 j2 p1 p2 x1 x2 r1 r2 a1 a2 b1 b2 c1 c2 hne
   obtain ⟨y1,s1,d1,e1⟩:=some_map j1 x1 r1 b1 c1
   obtain ⟨y2,s2,d2,e2⟩:=some_map j2 x2 r2 b2 c2
   exact hs.mr.sep j1 j2 p1 p2 y1 y2 s1 s2 a1 a2 d1 d2 e1 e2 hne
  ·exact hset.2 b (fun e=>hne i p (Nat.min_le_right _ _) hi hm e.symm)
  ·have:j≠i:=by
    have h1:min st.lo i≤i:=Nat.min_le_right _ _
    have hjl':j < min st.lo i:=hjl
    omega
   simp [Ne.symm this]
 rcases setM_spec hk hkv hvv 0 hfl hr with ⟨g1,g2⟩ | ⟨j,en,g1,g2,g3,g4⟩
 ·refine fin (es.push { key:=kv,val:=vv,born:=cl }) (cl+1) (by rw [g2 cl];simp) ?_
  simp [Instr.mapUpdate,run_underlying hT,MapKept.run_getObj_map hb,MapKept.run_checkKey hd hik,MapKept.run_findKey hd g1,MapKept.run_setObj_map _ hb,Result.andThen]
 ·have hj:es[j]?=some en:=by simpa using g2
  refine fin (es.modify j fun e=>{ e with key:=kv,val:=vv }) cl (by rw [g4];simp) ?_
  simp [Instr.mapUpdate,run_underlying hT,MapKept.run_getObj_map hb,MapKept.run_checkKey hd hik,MapKept.run_findKey hd g1,hj,g3,MapKept.run_keyThatStays hik,MapKept.run_setObj_map _ hb,Result.andThen]
end Ev
end Go.Proofs.Ytcpodmjcgfgmnaa
namespace Go.Proofs.Ytcpodmjcgfgmnaa
open Go.RowKit
namespace Ev
variable {P:Program}
theorem run_append_room_zeros (w:World) (t tn ty e:TypeId) (i:TypeInfo) (z:Value) (kq kn:IntKind) (ht:P.underlying t=some (.slice e)) (htn:P.underlying tn=some (.int kn)) (hi:P.info? e=some i) (hz:i.zero=some z) (hs:0 < i.size) (hzs:z.cells.size=i.size)
  (g off sLen sCap:Nat) (cur:Array Value) (hg:w.heap[g]?=some (.cells cur e (0,0))) (k:Nat) (h0:0 < k) (h63:(k:Int)≤9223372036854775807) (h48:k * i.bytes≤281474976710656)
  (h1:∀ u∈(Builtin.zeroCells z.cells k).toList,u.oneCell'=true) (hroom:sLen+k≤sCap) (hfit:off+sLen * i.size+k * i.size≤cur.size) :
  (Builtin.append_ #[t,tn] ty #[.slice (some ⟨g,off,none⟩) sLen sCap,.int kq k]).run P w =
    .ok (.slice (some ⟨g,off,none⟩) (sLen+k) sCap) (w.setRow g (cur.toList.take (off+sLen * i.size)++(Builtin.zeroCells z.cells k).toList++cur.toList.drop (off+sLen * i.size+(Builtin.zeroCells z.cells k).toList.length)).toArray):=by
 have hst:=run_storeCells_at P g (off+sLen * i.size) e (Builtin.zeroCells z.cells k).toList 0 cur w hg (by simp only [Array.length_toList,size_zeroCells,hzs];omega) h1
 simp only [Nat.add_zero] at hst
 have hk:k≠0:=by omega
 have hw:IntKind.i64.wrap (k:Int)=k:=by rw [IntKind.wrap_i64];omega
 have h48i:¬ (281474976710656 < (k:Int) * (i.bytes:Int)):=by
  rw [← Int.natCast_mul]
  omega
 have hneg:¬ ((k:Int) < 0):=by omega
 have hns:¬ (k * i.size=0):=Nat.mul_ne_zero hk (by omega)
 simp only [Array.length_toList] at hst
 simp [Builtin.append_,run_underlying ht,run_underlying htn,sizeOf,typeInfo,zeroValue,hi,hz,asInt,asIntOf,hw,hneg,hns,h48i,hroom,Addr.add_lit,hst]
variable (P)
def isIntT (T:TypeId):Bool:=match P.underlying T with
 | some (.int _)=>true
 | _=>false
def evAppendZ (st:St) (T Tn:TypeId) (s x:C):Option (PV × St) :=
 match P.underlying T,x with
 | some (.slice el),.flat (.int _ n)=>match P.info? el with
  | none=>none
  | some inf=>match inf.zero with
   | none=>none
   | some z=>match z.cells.toList with
    | [v]=>match ofCell v with
     | none=>none
     | some c=>if ¬ (inf.size=1∧isIntT P Tn=true∧0 < n∧n≤9223372036854775807) then none else match s with
      | .sl i off len sz=>match st.h[i]? with
       | none=>none
       | some o=>if o.live=true∧o.rw=true∧o.ty=el∧off=0∧sz=1∧o.cells.length=len∧len+n.toNat≤maxLen∧(len+n.toNat) * inf.bytes≤140737488355328 then
         some (.s (.c (.sl st.h.length 0 (len+n.toNat) 1)),⟨st.h.set i { o with live:=false,cells:=[] }++[⟨o.cells++List.replicate n.toNat c,el,true,true,false⟩],min st.lo i⟩) else none
      | _=>none
    | _=>none
 | _,_=>none
variable {P}
theorem exec_appendZ {a:Act} {o:Oper} {s x:Operand} {T Tn:TypeId} (ho:o.op=.call { callee:=.builtin .append,args:=#[s,x],argTypes:=#[T,Tn] }) {w w':World} {v:Value}
  (h:(Builtin.append_ #[T,Tn] o.type #[a.eval s,a.eval x]).run P w=.ok v w'):(execOp a.eval o).run P w=.ok (.value v) w':=by
 simp [execOp,ho,resolve,invoke,builtin,h]
theorem zeroCells_one (v:Value) (z:Array Value) (hz:z.toList=[v]) (n:Nat):(Builtin.zeroCells z n).toList=List.replicate n v:=by
 have:z=#[v]:=by apply Array.ext';simpa using hz
 subst this
 apply List.ext_getElem
 ·simp [size_zeroCells]
 ·intro i h1 h2
  simp [Builtin.zeroCells,Nat.mod_one]
theorem appendZ_spec {m:M} {st st':St} {w:World} {a:Act} {e:Look} {o:Oper} {T Tn:TypeId} {s x:Operand} {cs cx:C} {pv:PV} (hs:SR m st.h w) (he:EL m e a) (ho:o.op=.call { callee:=.builtin .append,args:=#[s,x],argTypes:=#[T,Tn] })
  (hsx:evX e s=some (.s (.c cs))) (hxx:evX e x=some (.s (.c cx))) (h:evAppendZ P st T Tn cs cx=some (pv,st')):Does P m st w a o pv st':=by
 have hcs:VC m cs (a.eval s):=evX_spec he hsx
 have hcx:VC m cx (a.eval x):=evX_spec he hxx
 unfold evAppendZ at h
 split at h
 ·rename_i el kq n hu
  have hxv:a.eval x=.int kq n:=hcx.1
  split at h
  ·cases h
  rename_i inf hi
  split at h
  ·cases h
  rename_i z hz
  split at h
  ·rename_i v hzv
   split at h
   ·cases h
   rename_i c hc
   split at h
   ·cases h
   rename_i hg
   have hg:=Decidable.of_not_not hg
   obtain ⟨hsz,htn,hn0,hn63⟩:=hg
   obtain ⟨kn,htn⟩:∃ kn,P.underlying Tn=some (.int kn):=by
    unfold isIntT at htn
    split at htn
    ·exact ⟨_,by assumption⟩
    ·cases htn
   obtain ⟨k,rfl⟩:∃ k:Nat,n=k:=⟨n.toNat,by omega⟩
   simp only [Int.toNat_natCast] at h
   have hk0:0 < k:=by omega
   have hzs:z.cells.size=inf.size:=by rw [hsz,← Array.length_toList,hzv];rfl
   have hzl:=zeroCells_one v z.cells hzv
   have hvc:VC m c v:=ofCell_spec hc
   have hone:∀ u∈(Builtin.zeroCells z.cells k).toList,u.oneCell'=true:=fun u hu'=>by
    rw [hzl] at hu'
    rw [List.eq_of_mem_replicate hu']
    exact hvc.one
   have hall:All2 (VC m) (List.replicate k c) (List.replicate k v):=⟨by simp,fun j c' v' h1 h2=>by
    have e1:=List.eq_of_mem_replicate (List.mem_of_getElem? h1)
    have e2:=List.eq_of_mem_replicate (List.mem_of_getElem? h2)
    subst e1;subst e2;exact hvc⟩
   split at h
   ·rename_i i off len sz
    split at h
    ·cases h
    rename_i ob hob
    split at h
    ·rename_i hh
     obtain ⟨hl,hrw,rfl,rfl,rfl,hcl,hmx,hbt⟩:=hh
     cases h
     obtain ⟨p,sc,hm,hsv,hle,hsm,hcap⟩:=hcs
     obtain ⟨cur,fr,hb,hcz,hpl,hcell,hf⟩:=hs.obj i p ob hm hob hl
     obtain rfl:=hf.1 hrw
     simp only [Nat.mul_one,Nat.add_zero] at hsv hcap
     have holen:((cur.toList.drop p.o).take len).length=len:=by simp;omega
     have hov:∀ (j:Nat) v,((cur.toList.drop p.o).take len)[j]?=some v→cur[p.o+j]?=some v:=fun j v hv=>by
      rw [List.getElem?_take] at hv
      split at hv
      ·rw [List.getElem?_drop] at hv;simpa using hv
      ·cases hv
     have hold:All2 (VC m) ob.cells ((cur.toList.drop p.o).take len):=⟨by rw [holen,hcl],fun j c v hc hv=>by
      obtain ⟨u,hu',hvc⟩:=hcell j c hc
      rw [hov j v hv] at hu';cases hu';exact hvc⟩
     have hkb:k * inf.bytes≤(len+k) * inf.bytes:=Nat.mul_le_mul_right _ (by omega)
     by_cases hroom:len+k≤sc
     ·have hr:=run_append_room_zeros (P:=P) w T Tn o.type ob.ty inf z kq kn hu htn hi hz (by omega) hzs p.b p.o len sc cur hb k hk0 hn63 (by omega) hone hroom (by rw [hsz,hcz];omega)
      rw [hsz,hzl,Nat.mul_one,List.length_replicate] at hr
      obtain ⟨r1,r2,r3⟩:=room_cells (k:=p.o+len) hold hov hall (by rw [holen]) (by rw [List.length_replicate,hcz];omega)
      rw [List.length_replicate] at r1 r2 r3
      have hres:=Res.room hs hm hob hl hrw hb (ob.cells++List.replicate k c) _ r1 ⟨p.b,p.o,p.n⟩ rfl rfl r2 r3
      refine ⟨_,.slice (some ⟨p.b,p.o,none⟩) (len+k) sc,_,_,exec_appendZ ho (by rw [hsv,hxv];exact hr),.inl rfl,?_,hres⟩
      exact ⟨_,sc,put_same _ _ _,rfl,hroom,hsm,by simpa using hcap⟩
     ·have hholds:∀ j v,((cur.toList.drop p.o).take len)[j]?=some v→w.drew.cell? ((⟨p.b,p.o,none⟩:Addr).add j)=some v:=fun j v hv=>by
       have:w.cell? ((⟨p.b,p.o,none⟩:Addr).add j)=some v:=by
        rw [Addr.add_lit,cell_of_row w p.b _ cur _ _ hb]
        exact hov j v hv
       simpa using this
      have hfo:=run_firstCells_some (P:=P) w.drew inf.size len ⟨p.b,p.o,none⟩ len sc ((cur.toList.drop p.o).take len) (by rw [holen,hsz,Nat.mul_one]) hholds
      have hr:=Go.Lib.run_append_grow_zeros (P:=P) w T Tn o.type ob.ty inf z kq kn hu htn hi hz (some ⟨p.b,p.o,none⟩) len sc ((cur.toList.drop p.o).take len) hfo k hk0 (by omega) (by omega) (by simp only [maxLen] at hmx;omega) (by omega) (growslice_fits (by omega) hbt)
      have hres:=(Res.killed hs hob).draw' (Res.alloc ((hs.kill i ob hob).drew) (ob.cells++List.replicate k c) ((cur.toList.drop p.o).take len++List.replicate k v) ob.ty (hold.append hall) (Builtin.zeroCells z.cells (grownCap w (len+k) sc ob.ty - (len+k))).toList false (fun h=>by cases h))
      have e1:((cur.toList.drop p.o).take len++List.replicate k v++(Builtin.zeroCells z.cells (grownCap w (len+k) sc ob.ty - (len+k))).toList).toArray=((cur.toList.drop p.o).take len).toArray++Builtin.zeroCells z.cells k++Builtin.zeroCells z.cells (grownCap w (len+k) sc ob.ty - (len+k)):=by apply Array.ext';simp [hzl]
      rw [e1] at hres
      simp only [List.length_set] at hres
      refine ⟨_,.slice (some ⟨w.heap.size,0,none⟩) (len+k) (grownCap w (len+k) sc ob.ty),_,_,exec_appendZ ho (by rw [hsv,hxv];exact hr),.inl rfl,?_,hres⟩
      have hg:=grownCap_ge w (len+k) sc ob.ty
      refine ⟨_,grownCap w (len+k) sc ob.ty,put_same _ _ _,rfl,hg,grownCap_le_maxLen w (len+k) sc ob.ty hmx,?_⟩
      simp only [Nat.zero_add,Array.length_toList,size_zeroCells,hzs,hsz,List.length_append,holen,List.length_replicate,Nat.add_zero,Nat.mul_one]
      omega
    ·cases h
   ·cases h
  ·cases h
 ·cases h
end Ev
end Go.Proofs.Ytcpodmjcgfgmnaa
namespace Go.Proofs.Ytcpodmjcgfgmnaa
open Go.RowKit
namespace Ev
variable {P:Program}
def wrapF (k:IntKind) (n:Int):Int:=match k with
 | .i64=>(match n % 18446744073709551616 with
  | .ofNat m=>if Nat.ble 9223372036854775808 m then Int.subNatNat m 18446744073709551616 else .ofNat m
  | r=>r)
 | .u64=>n % 18446744073709551616
 | .u32=>n % 4294967296
 | .u8=>n % 256
 | k=>k.wrap n
theorem wrapF_eq (k:IntKind) (n:Int):wrapF k n=k.wrap n:=by
 cases k <;> simp only [wrapF] <;> try rfl
 have hp:0≤n % 18446744073709551616:=Int.emod_nonneg _ (by decide)
 have e1:IntKind.wrap .i64 n=if n % 18446744073709551616≥9223372036854775808 then n % 18446744073709551616 - 18446744073709551616 else n % 18446744073709551616:=by
  simp [IntKind.wrap,IntKind.bits,IntKind.signed]
 rw [e1]
 cases hm:n % 18446744073709551616 with
 | ofNat m =>
  simp only [Nat.ble_eq]
  by_cases h:9223372036854775808≤m
  ·rw [if_pos h,if_pos (show (Int.ofNat m)≥9223372036854775808 by simp only [Int.ofNat_eq_natCast];omega),Int.subNatNat_eq_coe];rfl
  ·rw [if_neg h,if_neg (show ¬ (Int.ofNat m)≥9223372036854775808 by simp only [Int.ofNat_eq_natCast];omega)]
 | negSucc m=>rw [hm] at hp;omega
def ltF:Int→Int→Bool
 | .ofNat a,.ofNat b=>Nat.blt a b
 | a,b=>decide (a < b)
theorem ltF_eq (a b:Int):ltF a b=decide (a < b):=by
 unfold ltF
 split
 ·rename_i a b
  rw [Bool.eq_iff_iff]
  simp [Nat.blt_eq]
 ·rfl
def eqF:Int→Int→Bool
 | .ofNat a,.ofNat b=>Nat.beq a b
 | a,b=>decide (a=b)
theorem eqF_eq (a b:Int):eqF a b=decide (a=b):=by
 unfold eqF
 split
 ·rename_i a b
  rw [Bool.eq_iff_iff]
  simp [Nat.beq_eq]
  omega
 ·rfl
theorem not_lt_dec (a b:Int):(!decide (b < a))=decide (a≤b):=by rw [Bool.eq_iff_iff];simp [Int.not_lt]
def natBits (op:BinOp) (a b:Nat):Option Nat:=match op with
 | .and=>some (Nat.land a b)
 | .or=>some (Nat.lor a b)
 | .xor=>some (Nat.xor a b)
 | _=>none
def fastI (op:BinOp) (k k':IntKind) (a b:Int):Option Value:=match op with
 | .add=>if k=k' then some (.int k (wrapF k (a+b))) else none
 | .sub=>if k=k' then some (.int k (wrapF k (a - b))) else none
 | .mul=>if k=k' then some (.int k (wrapF k (a * b))) else none
 | .lss=>if k=k' then some (.bool (ltF a b)) else none
 | .gtr=>if k=k' then some (.bool (ltF b a)) else none
 | .leq=>if k=k' then some (.bool (!ltF b a)) else none
 | .geq=>if k=k' then some (.bool (!ltF a b)) else none
 | .eql=>if k=k' then some (.bool (eqF a b)) else none
 | .neq=>if k=k' then some (.bool (!eqF a b)) else none
 | .quo=>if k=k' then (match b with | .ofNat (b+1)=>some (.int k (wrapF k (a.tdiv (.ofNat (b+1))))) | _=>none) else none
 | .rem=>if k=k' then (match b with | .ofNat (b+1)=>some (.int k (a.tmod (.ofNat (b+1)))) | _=>none) else none
 | .shr=>match a,b with
  | .ofNat a,.ofNat b=>if Nat.ble b 63 && Nat.ble b k.bits then some (.int k (.ofNat (Nat.shiftRight a b))) else none
  | _,_=>none
 | .shl=>match a,b with
  | .ofNat a,.ofNat b=>if Nat.ble b 63 && Nat.ble b k.bits then some (.int k (wrapF k (.ofNat (Nat.shiftLeft a b)))) else none
  | _,_=>none
 | .and | .or | .xor=>match a,b with
  | .ofNat a,.ofNat b=>if k=k'∧a < 2 ^ k.bits∧b < 2 ^ k.bits then (match natBits op a b with | some r=>some (.int k (wrapF k (.ofNat r))) | none=>none) else none
  | _,_=>none
 | _=>none
theorem fastI_spec {op:BinOp} {k k':IntKind} {a b:Int} {v:Value} (h:fastI op k k' a b=some v) (T:TypeId) (w:World):(binOp op T (.int k a) (.int k' b)).run P w=.ok v w:=by
 cases op <;> simp only [fastI] at h
 case quo =>
  split at h
  ·subst k'
   split at h
   ·rename_i n
    cases h
    have:(Int.ofNat (n+1))≠0:=by simp only [Int.ofNat_eq_natCast];omega
    simp only [binOp,Op.intDiv,wrapF_eq,if_neg this,ne_eq,not_true_eq_false,if_false];rfl
   ·cases h
  ·cases h
 case rem =>
  split at h
  ·subst k'
   split at h
   ·rename_i n
    cases h
    have:(Int.ofNat (n+1))≠0:=by simp only [Int.ofNat_eq_natCast];omega
    simp only [binOp,Op.intDiv,if_neg this,ne_eq,not_true_eq_false,if_false];rfl
   ·cases h
  ·cases h
 case shr =>
  split at h
  ·rename_i a b
   split at h
   ·rename_i hb
    cases h
    simp only [Bool.and_eq_true,Nat.ble_eq] at hb
    have h0:¬ (Int.ofNat b < 0):=by simp only [Int.ofNat_eq_natCast];omega
    have hmin:min (Int.ofNat b).toNat k.bits=b:=by show min b k.bits=b;exact Nat.min_eq_left hb.2
    have e:(Int.ofNat (Nat.shiftRight a b))=(Int.ofNat a).fdiv (2 ^ b):=by
     show ((a >>> b:Nat):Int)=_
     rw [Nat.shiftRight_eq_div_pow,Int.natCast_ediv,Int.natCast_pow]
     rw [Int.fdiv_eq_ediv_of_nonneg _ (by exact_mod_cast Nat.zero_le _)]
     rfl
    simp only [binOp,Op.shift,if_neg h0,hmin,← e];rfl
   ·cases h
  ·cases h
 case shl =>
  split at h
  ·rename_i a b
   split at h
   ·rename_i hb
    cases h
    simp only [Bool.and_eq_true,Nat.ble_eq] at hb
    have h0:¬ (Int.ofNat b < 0):=by simp only [Int.ofNat_eq_natCast];omega
    have hmin:min (Int.ofNat b).toNat k.bits=b:=by show min b k.bits=b;exact Nat.min_eq_left hb.2
    have e:(Int.ofNat (Nat.shiftLeft a b))=(Int.ofNat a) * (2 ^ b):=by
     show ((a <<< b:Nat):Int)=_
     rw [Nat.shiftLeft_eq,Int.natCast_mul,Int.natCast_pow]
     rfl
    simp only [binOp,Op.shift,if_neg h0,hmin,wrapF_eq,e];rfl
   ·cases h
  ·cases h
 case and =>
  split at h
  ·rename_i a b
   split at h
   ·rename_i hh
    obtain ⟨rfl,ha,hb⟩:=hh
    simp only [natBits] at h
    cases h
    have e:(BitVec.ofInt k.bits (Int.ofNat a) &&& BitVec.ofInt k.bits (Int.ofNat b)).toNat=Nat.land a b:=by
     show (BitVec.ofInt k.bits (a:Int) &&& BitVec.ofInt k.bits (b:Int)).toNat=a &&& b
     rw [BitVec.ofInt_natCast,BitVec.ofInt_natCast,BitVec.toNat_and,BitVec.toNat_ofNat,BitVec.toNat_ofNat,Nat.mod_eq_of_lt ha,Nat.mod_eq_of_lt hb]
    simp only [binOp,Op.intBits,wrapF_eq,ne_eq,not_true_eq_false,if_false,e];rfl
   ·cases h
  ·cases h
 case or =>
  split at h
  ·rename_i a b
   split at h
   ·rename_i hh
    obtain ⟨rfl,ha,hb⟩:=hh
    simp only [natBits] at h
    cases h
    have e:(BitVec.ofInt k.bits (Int.ofNat a) ||| BitVec.ofInt k.bits (Int.ofNat b)).toNat=Nat.lor a b:=by
     show (BitVec.ofInt k.bits (a:Int) ||| BitVec.ofInt k.bits (b:Int)).toNat=a ||| b
     rw [BitVec.ofInt_natCast,BitVec.ofInt_natCast,BitVec.toNat_or,BitVec.toNat_ofNat,BitVec.toNat_ofNat,Nat.mod_eq_of_lt ha,Nat.mod_eq_of_lt hb]
    simp only [binOp,Op.intBits,wrapF_eq,ne_eq,not_true_eq_false,if_false,e];rfl
   ·cases h
  ·cases h
 case xor =>
  split at h
  ·rename_i a b
   split at h
   ·rename_i hh
    obtain ⟨rfl,ha,hb⟩:=hh
    simp only [natBits] at h
    cases h
    have e:(BitVec.ofInt k.bits (Int.ofNat a) ^^^ BitVec.ofInt k.bits (Int.ofNat b)).toNat=Nat.xor a b:=by
     show (BitVec.ofInt k.bits (a:Int) ^^^ BitVec.ofInt k.bits (b:Int)).toNat=a ^^^ b
     rw [BitVec.ofInt_natCast,BitVec.ofInt_natCast,BitVec.toNat_xor,BitVec.toNat_ofNat,BitVec.toNat_ofNat,Nat.mod_eq_of_lt ha,Nat.mod_eq_of_lt hb]
    simp only [binOp,Op.intBits,wrapF_eq,ne_eq,not_true_eq_false,if_false,e];rfl
   ·cases h
  ·cases h
 all_goals first
  | (cases h;done)
  | (split at h
     ·subst k'
      cases h
      simp only [binOp,Op.intArith,Op.intCmp,wrapF_eq,ltF_eq,eqF_eq,not_lt_dec,ne_eq,not_true_eq_false,if_false]
      first
       | rfl
       | (simp;done)
       | (simp;omega)
     ·cases h)
end Ev
end Go.Proofs.Ytcpodmjcgfgmnaa
