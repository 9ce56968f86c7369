/- A region that draws its order and ends in one operation that waits for all others (an append), and one that writes down what it gave: operation by operation, whatever relation of worlds these keep to. No program. -/
import Derived.Test.YtcnmaplopbbmaaaGreatMAd
import Derived.Test.YtcnmaplopbbmaaaGreatGBegin
namespace Go.Proofs.YtcnmaplopbbmaaaGreat
open Go.RowKit
namespace Flow
abbrev first (m:Nat) (ops:Array Oper):Array Oper:=(ops.toList.take m).toArray
def fitA (m n:Nat) (ops:Array Oper) (S:List (List Nat)):Bool :=
 (ops.size == m+2) && ((List.range m).all fun i=>match ops[i]? with
   | some o=>o.guard.isNone && (match o.dst with | some d=>decide (d < n) && (List.range i).all (fun j=>dstOf ops j != some d) | none=>false) && o.after.toList.all (fun e=>!Region.binds .any e || decide (e.on < i))
   | none=>false) &&
 (match ops[m]? with | some o=>o.guard.isNone && o.after.toList.all (fun e=>!Region.binds .any e || decide (e.on < m)) | none=>false) &&
 (match ops[m+1]? with | some o=>o.guard.isNone && o.after.toList.all (fun e=>!Region.binds .any e || decide (e.on < m+1)) | none=>false) &&
 ((List.range m).all fun k=>(S.getD m []).contains k) && (S.getD (m+1) []).contains m
section
variable {P:Program} {ops:Array Oper} {Q:Exit→Act→World→Prop} {a0:Act} {C:World→Prop} {R:World→World→Prop} {Fs:List Fact} {S:List (List Nat)} {m:Nat}
theorem first_at {i:Nat} (h:i < m):(first m ops)[i]? = ops[i]? := by
 unfold first
 rw [List.getElem?_toArray,List.getElem?_take_of_lt h,Array.getElem?_toList]
theorem first_no {i:Nat} (h:m≤i):(first m ops)[i]? = none:=by
 unfold first
 rw [List.getElem?_toArray]
 exact List.getElem?_eq_none (by simp;omega)
theorem first_dst {i:Nat} {d:Tmp} (h:dstOf (first m ops) i=some d):i < m∧dstOf ops i=some d:=by
 rcases Nat.lt_or_ge i m with hi | hi
 ·refine ⟨hi,?_⟩
  unfold dstOf at h ⊢
  rwa [first_at hi] at h
 ·unfold dstOf at h
  rw [first_no hi] at h
  cases h
theorem any_tailA (hfit:fitA m a0.tmps.size ops S=true) (hlean:leans ops S=true) (hst:Stable R Fs) (hC:∀ w w',C w→R w w'→C w')
  (hones:Ones P (first m ops) Q a0 C R Fs (first m ops).toList S Fs)
  (hend:∀ a w oa ob,ops[m]? = some oa→ops[m+1]? = some ob→C w→Off (first m ops) a0 a→(∀ k,k < m→known (first m ops) Fs a w k)→oa.wp P a w (fun a' w'=>ob.wp P a' w' (fun a'' w''=>Q .normal a'' w'') Q) Q) :
  ∀ (fuel:Nat) (listed:Array Bool) (a:Act) (w:World),listed.size=ops.size→listed.getD m true=false→listed.getD (m+1) true=false→left listed=fuel→C w→Off (first m ops) a0 a →
   (∀ k,listed.getD k false=true→known (first m ops) Fs a w k)→(∀ j,listed.getD j false=true→∀ k∈S.getD j [],listed.getD k false=true)→wpAny P .any ops Q fuel listed a w:=by
 simp only [fitA,Bool.and_eq_true,beq_iff_eq,List.all_eq_true,List.mem_range,List.contains_iff_mem] at hfit
 obtain ⟨⟨⟨⟨⟨hsize,hshape⟩,hA⟩,hB⟩,hall⟩,hBm⟩:=hfit
 obtain ⟨oa,hoa⟩:∃ o,ops[m]? = some o:=⟨_,Array.getElem?_eq_getElem (by omega)⟩
 obtain ⟨ob,hob⟩:∃ o,ops[m+1]? = some o:=⟨_,Array.getElem?_eq_getElem (by omega)⟩
 simp only [hoa,Bool.and_eq_true,Option.isNone_iff_eq_none,List.all_eq_true,Bool.or_eq_true,Bool.not_eq_true',decide_eq_true_eq] at hA
 simp only [hob,Bool.and_eq_true,Option.isNone_iff_eq_none,List.all_eq_true,Bool.or_eq_true,Bool.not_eq_true',decide_eq_true_eq] at hB
 have hsh:∀ i o,i < m→ops[i]? = some o→o.guard=none∧(∃ d,o.dst=some d∧d < a0.tmps.size∧(∀ j,j < i→dstOf ops j≠some d))∧∀ e∈o.after,Region.binds .any e=true→e.on < i:=by
  intro i o hi ho
  have h:=hshape i hi
  simp only [ho,Bool.and_eq_true,Option.isNone_iff_eq_none] at h
  obtain ⟨⟨hg,h1⟩,h2⟩:=h
  cases hd:o.dst with
  | none=>simp [hd] at h1
  | some d =>
   simp only [hd,Bool.and_eq_true,decide_eq_true_eq,List.all_eq_true,List.mem_range,bne_iff_ne] at h1
   simp only [List.all_eq_true,Bool.or_eq_true,Bool.not_eq_true',decide_eq_true_eq] at h2
   exact ⟨hg,⟨d,rfl,h1.1,fun j hj=>h1.2 j hj⟩,fun e he hb=>(h2 e (by simpa using he)).resolve_left (by simp [hb])⟩
 have hdist:∀ i j d,dstOf (first m ops) i=some d→dstOf (first m ops) j=some d→i=j:=by
  intro i j d hi hj
  obtain ⟨hi1,hi⟩:=first_dst hi
  obtain ⟨hj1,hj⟩:=first_dst hj
  have g:∀ i j,i < m→dstOf ops i=some d→dstOf ops j=some d→¬ j < i:=by
   intro i j him hi hj hlt
   cases ho:ops[i]? with
   | none=>simp [dstOf,ho] at hi
   | some o =>
    obtain ⟨_,⟨d',hd',_,hne⟩,_⟩:=hsh i o him ho
    have:d'=d:=by simpa [dstOf,ho,hd'] using hi
    subst this
    exact hne j hlt hj
  have:=g i j hi1 hi hj
  have:=g j i hj1 hj hi
  omega
 have hbnd:∀ i o,ops[i]? = some o→∀ e∈o.after,Region.binds .any e=true→e.on < i:=by
  intro i o ho e he hb
  have hi:=(Array.getElem?_eq_some_iff.1 ho).1
  rcases Nat.lt_or_ge i m with h | h
  ·exact (hsh i o h ho).2.2 e he hb
  ·rcases (show i=m∨i=m+1 by omega) with rfl | rfl
   ·rw [hoa] at ho;cases ho
    exact (hA.2 e (by simpa using he)).resolve_left (by simp [hb])
   ·rw [hob] at ho;cases ho
    exact (hB.2 e (by simpa using he)).resolve_left (by simp [hb])
 have hfull:∀ (listed:Array Bool),listed.size=ops.size→Region.ready .any ops listed=[]→∀ n i,i < n→i < ops.size→listed.getD i false=true:=by
  intro listed hsz hr n
  induction n with
  | zero=>intro i h;omega
  | succ n ih =>
   intro i hi hio
   by_cases hin:i < n
   ·exact ih i hin hio
   ·have hin:i=n:=by omega
    cases hl:listed.getD i false with
    | true=>rfl
    | false =>
     exfalso
     have ho:ops[i]? = some ops[i]:=by simp [hio]
     have hb:=hbnd i _ ho
     have:i∈Region.ready .any ops listed:=mem_ready.2 ⟨by
      have:i < listed.size:=by omega
      simpa [this] using hl,_,ho,fun e he hbe=>ih e.on (by have:=hb e he hbe;omega) (by have:=hb e he hbe;omega)⟩
     rw [hr] at this
     cases this
 have hno:∀ (listed:Array Bool),listed.size=ops.size→listed.getD m true=false→Region.ready .any ops listed=[]→False:=by
  intro listed hsz hu hr
  have:=getD_true_of_false (hfull listed hsz hr (m+1) m (by omega) (by omega))
  rw [this] at hu;cases hu
 intro fuel
 induction fuel with
 | zero =>
  intro listed a w hsz hu hu1 hl hCw hoff hk _
  exfalso
  have:=left_set hu
  omega
 | succ fuel ih =>
  intro listed a w hsz hu hu1 hl hCw hoff hk hcl
  refine ⟨fun hr=>(hno listed hsz hu hr).elim,fun i hi=>?_⟩
  obtain ⟨hun,o,ho,hal⟩:=mem_ready.1 hi
  have hio:i < ops.size:=(Array.getElem?_eq_some_iff.1 ho).1
  have hSi:∀ k∈S.getD i [],listed.getD k false=true:=by
   intro k hkS
   have h:=(List.all_eq_true.1 hlean) i (by simpa using hio)
   have h:=(List.all_eq_true.1 h) k hkS
   simp only [ho,List.any_eq_true,Bool.and_eq_true,Bool.or_eq_true,beq_iff_eq,List.contains_iff_mem] at h
   obtain ⟨e,he,hb,hek⟩:=h
   have hle:=hal e (by simpa using he) hb
   rcases hek with rfl | hek
   ·exact hle
   ·exact hcl e.on hle k hek
  by_cases him:i < m
  ·obtain ⟨hg,⟨d,hd,hdn,_⟩,_⟩:=hsh i o him ho
   have hof:(first m ops)[i]? = some o:=by rw [first_at him];exact ho
   have hone:=ones_at hones i o (by rw [Array.getElem?_toList];exact hof) a w hCw hoff (facts_mem fun k hkS=>hk k (hSi k hkS))
   have next:∀ v w',R w w'→holds (Fs.getD i (.inr fun _ _=>True)) v w'→wpAny P .any ops Q fuel (listed.setIfInBounds i true) (a.put o.dst v) w':=by
    intro v w' hR hv
    refine ih _ _ _ (by simpa using hsz) ?_ ?_ (by have:=left_set hun;omega) (hC _ _ hCw hR) ⟨(put_defers _ _ _).trans hoff.defers,(put_size _ _ _).trans hoff.size,fun t ht=>?_⟩ (fun k hkl d' hd'=>?_) (fun j hm k hkS=>?_)
    ·rw [getD_set_ne true (by omega)];exact hu
    ·rw [getD_set_ne true (by omega)];exact hu1
    ·rw [hd,eval_put_ne (fun e=>ht i (by simp [dstOf,hof,hd,e]))]
     exact hoff.same t ht
    ·by_cases e:k=i
     ·subst e
      have:d'=d:=by simpa [dstOf,hof,hd] using hd'.symm
      subst this
      rw [hd,eval_put_same (by rw [hoff.size];exact hdn)]
      exact hv
     ·have hdd:d≠d':=fun e'=>e (hdist k i d' hd' (by simp [dstOf,hof,hd,e']))
      rw [hd,eval_put_ne hdd]
      rw [getD_set_ne false (Ne.symm e)] at hkl
      exact holds_stable hst k _ _ _ hR (hk k hkl d' hd')
    ·by_cases e:j=i
     ·subst e;exact getD_set_true (hSi k hkS)
     ·rw [getD_set_ne false (Ne.symm e)] at hm
      exact getD_set_true (hcl j hm k hkS)
   unfold wpOp
   simp only [ho]
   rcases hone with ⟨hw,hone⟩ | ⟨hw,hone⟩
   ·rw [want_none hg]
    simp only [if_true]
    exact .inl (Oper.wp_mono (fun a' w' ⟨v,e,hR,hv⟩=>by subst e;exact next v w' hR hv) hone)
   ·rw [want_none hg] at hw;cases hw
  ·have hi2:i=m:=by
    rcases (show i=m∨i=m+1 by omega) with h | h
    ·exact h
    ·exfalso
     subst h
     have:=getD_true_of_false (hSi m hBm)
     rw [this] at hu;cases hu
   subst hi2
   rw [hoa] at ho;cases ho
   have hlk:∀ k,k < i→listed.getD k false=true:=fun k hk2=>hSi k (hall k hk2)
   have hw:=hend a w oa ob hoa hob hCw hoff fun k hk2=>hk k (hlk k hk2)
   unfold wpOp
   have hwant:Region.wanted oa (yielded ops a.tmps)=true:=want_none hA.1
   simp only [hoa,hwant,if_true]
   refine .inl (Oper.wp_mono (fun a' w' hq=>?_) hw)
   have hdn:∀ k,k < ops.size→k≠i+1→(listed.setIfInBounds i true).getD k false=true:=by
    intro k hk2 hk3
    by_cases e:k=i
    ·subst e
     have:k < listed.size:=by omega
     simp [this]
    ·exact getD_set_true (hlk k (by omega))
   have hu2:(listed.setIfInBounds i true).getD (i+1) true=false:=by rw [getD_set_ne true (by omega)];exact hu1
   have hdn2:∀ k,k < ops.size→((listed.setIfInBounds i true).setIfInBounds (i+1) true).getD k false=true:=by
    intro k hk2
    by_cases e:k=i+1
    ·subst e
     exact set_same (by simp;omega)
    ·exact getD_set_true (hdn k hk2 e)
   have hf1:fuel=1:=by
    have h1:=left_set hun
    have h2:=left_set hu2
    have h3:left ((listed.setIfInBounds i true).setIfInBounds (i+1) true)=0:=left_all (fun k hk2=>hdn2 k (by simp at hk2;omega))
    omega
   subst hf1
   refine any_only hob hB.1 (mem_ready.2 ⟨hu2,ob,hob,fun e he hbe=>?_⟩) (fun j hj=>?_) (Oper.wp_mono (fun a'' w'' hq2=>any_done (by simp [hsz]) hdn2 hq2) hq)
   ·have:=(hB.2 e (by simpa using he)).resolve_left (by simp [hbe])
    exact hdn e.on (by omega) (by omega)
   ·obtain ⟨h1,oj,hoj,_⟩:=mem_ready.1 hj
    have hjs:=(Array.getElem?_eq_some_iff.1 hoj).1
    rcases Nat.decEq j (i+1) with h | h
    ·exfalso
     have:=getD_true_of_false (hdn j hjs h)
     rw [this] at h1;cases h1
    ·exact h
theorem region_tailA {id:Nat} {w:World} (m:Nat) (hm:P.follows .mixedOrders=true) (hfit:fitA m a0.tmps.size ops S=true) (hlean:leans ops S=true) (hF:Fs.length=m)
  (hst:Stable R Fs) (hC:∀ w w',C w→R w w'→C w') (h0:C w.drew)
  (hones:Ones P (first m ops) Q a0 C R Fs (first m ops).toList S Fs)
  (hend:∀ w oa ob,ops[m]? = some oa→ops[m+1]? = some ob→C w→ends (fun _ a w=>oa.wp P a w (fun a' w'=>ob.wp P a' w' (fun a'' w''=>Q .normal a'' w'') Q) Q) (first m ops).toList Fs a0 w):(Code.region id ops true).wp P Q a0 w:=by
 have hsz:ops.size=m+2:=by
  simp only [fitA,Bool.and_eq_true,beq_iff_eq] at hfit
  exact hfit.1.1.1.1.1
 refine wp_region_any hm (any_tailA hfit hlean hst hC hones (fun a w oa ob hoa hob hCw hoff hk=>?_) ops.size (Array.replicate ops.size false) a0 w.drew (by simp) (by simp [hsz]) (by simp [hsz])
  (by simp [left,List.countP_replicate]) h0 ⟨rfl,rfl,fun _ _=>rfl⟩
  (fun k hk=>by rcases Nat.lt_or_ge k ops.size with h | h <;> simp [h] at hk)
  (fun m hk=>by rcases Nat.lt_or_ge m ops.size with h | h <;> simp [h] at hk))
 refine ends_all (Q:=fun _ a w=>oa.wp P a w (fun a' w'=>ob.wp P a' w' (fun a'' w''=>Q .normal a'' w'') Q) Q) (first m ops).toList Fs a0 (fun i oi hoi=>?_) (by simp [hF];omega) hoff.defers.symm hoff.size.symm (fun t ht=>(hoff.same t fun k hk2=>?_).symm) (hend w oa ob hoa hob hCw)
 ·have hoi':(first m ops)[i]? = some oi:=by rw [← Array.getElem?_toList];exact hoi
  have him:i < m:=by
   rcases Nat.lt_or_ge i m with h | h
   ·exact h
   ·rw [first_no h] at hoi';cases hoi'
  have ho:=hoi'
  rw [first_at him] at ho
  simp only [fitA,Bool.and_eq_true,List.all_eq_true,List.mem_range] at hfit
  have h:=hfit.1.1.1.1.2 i him
  simp only [ho,Bool.and_eq_true] at h
  cases hd:oi.dst with
  | none=>simp [hd] at h
  | some d =>
   simp only [hd,Bool.and_eq_true,decide_eq_true_eq] at h
   exact ⟨d,rfl,by rw [hoff.size];exact h.1.2.1,hk i him d (by simp [dstOf,hoi',hd])⟩
 ·cases hok:(first m ops)[k]? with
  | none=>simp [dstOf,hok] at hk2
  | some ok =>
   refine ht ok ?_ (by simpa [dstOf,hok] using hk2)
   exact List.mem_of_getElem? (i:=k) (by rw [Array.getElem?_toList];exact hok)
end
end Flow
end Go.Proofs.YtcnmaplopbbmaaaGreat
namespace Go.Proofs.YtcnmaplopbbmaaaGreat
open Go.RowKit
theorem info_turn:(Tryz.prog.info? 99).map (fun i=>(i.zero,i.size,i.bytes))=some (some (.agg #[.int .i64 0,.int .u64 0]),2,16):=by kernel_rfl
theorem by_own {W w w':World} {B r:Option Nat} (h:W.grownBy w B) (k:w.grownBy w' r) (hr:∀ g,r=some g→W.heap.size≤g):W.grownBy w' B:=by
 refine ⟨k.os.trans h.os,k.tape.trans h.tape,k.output.trans h.output,Nat.le_trans h.size k.size,fun b hb hn=>?_⟩
 exact (k.block b (Nat.lt_of_lt_of_le hb h.size) (fun e=>by have:=hr b e.symm;omega)).trans (h.block b hb hn)
theorem own_by {w w':World} {bs e sz n B:Nat} {v:Value} {xs:List Value} (h:w.ownsRow bs e sz v n xs) (g:w.grownBy w' (some B)) (hB:B < bs):w'.ownsRow bs e sz v n xs :=
 h.kept g (by
  rcases h.2 with ⟨rfl,rfl⟩ | ⟨q,cap,cur,hv,hq,_⟩
  ·exact .inl rfl
  ·refine .inr fun e=>?_
   rw [hv] at e
   simp [Value.ownBlock] at e
   omega)
theorem own_lo {w:World} {bs e sz n:Nat} {v:Value} {xs:List Value} (h:w.ownsRow bs e sz v n xs):∀ g,v.ownBlock=some g→bs≤g:=fun g e=>(h.lt g e).1
section
variable {P:Program} {W w:World} {ops:Array Oper} {rest:List Oper} {o:Oper} {a:Act} {Q:Exit→Act→World→Prop}
theorem wpList_appB {B:Nat} (hgd:o.guard=none) (s x:Operand) (t:TypeId) (ho:o.op=.call { callee:=.builtin .append,args:=#[s,x],argTypes:=#[t,t] })
  (e:TypeId) (i:TypeInfo) (z:Value) (size bytes:Nat) (ht:P.underlying t=some (.slice e)) (hi:P.info? e=some i) (hz:i.zero=some z)
  (hsize:i.size=size) (hby:i.bytes=bytes) (hzs:z.cells.size=size) (hsz:0 < size)
  (v:Value) (n:Nat) (xs:List Value) (hs:a.eval s=v) (hown:w.ownsRow W.heap.size e size v n xs) (hg:W.grownBy w (some B))
  (q:Nat) (cs:List Value) (k cp:Nat) (hx:a.eval x=.slice (some ⟨q,0,none⟩) k cp) (hcs:cs.length=k * size) (hq:∀ j u,cs[j]? = some u→w.cell? ⟨q,j,none⟩=some u) (h1:∀ u∈cs,u.oneCell'=true)
  (hk0:0 < k) (hn:n≤10000000000) (hk:k≤10000000000) (hb:bytes≤1000)
  (h:∀ v' w',w'.ownsRow W.heap.size e size v' (n+k) (xs++cs)→W.grownBy w' (some B)→w.grownBy w' v.ownBlock→(∃ g c,v'=.slice (some ⟨g,0,none⟩) (n+k) c)→wpList P ops Q rest (a.put o.dst v') w'):wpList P ops Q (o :: rest) a w:=by
 refine wpList_append_lies (P:=P) w hgd s x t ho W.heap.size e i z size bytes ht hi hz hsize hby hzs hsz v n xs hs hown ⟨q,0,none⟩ k cp cs hx hcs
  (fun j u hj=>?_) h1 hk0 (by unfold maxLen;omega) ?_ hg.size _ rfl fun g cap w' h2 h3 h4 h5=>?_
 ·rw [Addr.add_lit,Nat.zero_add]
  exact hq j u hj
 ·have:(n+k) * bytes≤20000000000 * 1000:=Nat.mul_le_mul (by omega) hb
  omega
 ·exact h _ _ h2 (by_own hg h3 (own_lo hown)) h3 ⟨_,_,rfl⟩
end
theorem exec_appB {P:Program} {o:Oper} {ρ:Operand→Value} {w:World} (bs:Nat) (s x:Operand) (t:TypeId) (ho:o.op=.call { callee:=.builtin .append,args:=#[s,x],argTypes:=#[t,t] })
  (e:TypeId) (i:TypeInfo) (z:Value) (size bytes:Nat) (ht:P.underlying t=some (.slice e)) (hi:P.info? e=some i) (hz:i.zero=some z)
  (hsize:i.size=size) (hby:i.bytes=bytes) (hzs:z.cells.size=size) (hsz:0 < size)
  (v:Value) (n:Nat) (xs:List Value) (hs:ρ s=v) (hown:w.ownsRow bs e size v n xs) (hbs:bs≤w.heap.size)
  (q:Nat) (cs:List Value) (k cp:Nat) (hx:ρ x=.slice (some ⟨q,0,none⟩) k cp) (hcs:cs.length=k * size) (hq:∀ j u,cs[j]? = some u→w.cell? ⟨q,j,none⟩=some u) (h1:∀ u∈cs,u.oneCell'=true)
  (hn:n≤10000000000) (hk:k≤10000000000) (hb:bytes≤1000) :
  ∃ v' w',(execOp ρ o).run P w=.ok (.value v') w'∧w'.ownsRow bs e size v' (n+k) (xs++cs)∧w.grownBy w' v.ownBlock:=by
 obtain ⟨v',w',hr,h2,h3,_⟩:=run_append_own (P:=P) w bs t o.type e i z size bytes ht hi hz hsize hby hzs hsz v n xs hown ⟨q,0,none⟩ k cp cs hcs (fun j u hj=>by rw [Addr.add_lit,Nat.zero_add];exact hq j u hj) h1 (by unfold maxLen;omega) (by
  have:(n+k) * bytes≤20000000000 * 1000:=Nat.mul_le_mul (by omega) hb
  omega) hbs
 refine ⟨v',w',?_,h2,h3⟩
 unfold execOp
 simp only [ho,resolve,invoke,builtin,Sem.run_bind,Sem.run_pure,Result.andThen_ok,List.map_toArray,List.map_cons,List.map_nil,hs,hx,hr]
theorem wp_appB {P:Program} {o:Oper} {a:Act} {w:World} {K:Act→World→Prop} {Q:Exit→Act→World→Prop} (bs:Nat) (s x:Operand) (t:TypeId) (ho:o.op=.call { callee:=.builtin .append,args:=#[s,x],argTypes:=#[t,t] })
  (e:TypeId) (i:TypeInfo) (z:Value) (size bytes:Nat) (ht:P.underlying t=some (.slice e)) (hi:P.info? e=some i) (hz:i.zero=some z)
  (hsize:i.size=size) (hby:i.bytes=bytes) (hzs:z.cells.size=size) (hsz:0 < size)
  (v:Value) (n:Nat) (xs:List Value) (hs:a.eval s=v) (hown:w.ownsRow bs e size v n xs) (hbs:bs≤w.heap.size)
  (q:Nat) (cs:List Value) (k cp:Nat) (hx:a.eval x=.slice (some ⟨q,0,none⟩) k cp) (hcs:cs.length=k * size) (hq:∀ j u,cs[j]? = some u→w.cell? ⟨q,j,none⟩=some u) (h1:∀ u∈cs,u.oneCell'=true)
  (hn:n≤10000000000) (hk:k≤10000000000) (hb:bytes≤1000)
  (h:∀ v' w',w'.ownsRow bs e size v' (n+k) (xs++cs)→w.grownBy w' v.ownBlock→K (a.put o.dst v') w'):o.wp P a w K Q:=by
 obtain ⟨v',w',hr,h2,h3⟩:=exec_appB (P:=P) (o:=o) (ρ:=a.eval) bs s x t ho e i z size bytes ht hi hz hsize hby hzs hsz v n xs hs hown hbs q cs k cp hx hcs hq h1 hn hk hb
 exact Flow.run_wp hr (h v' w' h2 h3)
theorem cells_of {w:World} {q:Nat} {cs:Array Value} {qt:TypeId} (hq:w.heap[q]? = some (.cells cs qt (0,0))):∀ (j:Nat) (u:Value),cs.toList[j]? = some u→w.cell? ⟨q,j,none⟩=some u:=fun j u hj=>by
 rw [cell_of_row w q _ _ _ _ hq,← hj]
 exact Array.getElem?_toList.symm
namespace Gr
def tcells (t:Tn):List Value:=[.int .i64 t.1,.int .u64 (Mark.ofBools t.2.1:Int)]
def bad (ts:List Tn):Bool:=ts.any (·.2.2)
theorem bad_append (a b:List Tn):bad (a++b)=(bad a || bad b):=List.any_append
theorem err_err (a b:Bool):err b (err a 0)=err (a || b) 0:=by cases a <;> cases b <;> rfl
theorem err_inj {a b:Bool} (h:err a 0=err b 0):a=b:=by cases a <;> cases b <;> simp [err] at h <;> rfl
section
variable {W w w':World} {B:Nat} {v0 v1 v2 v3 lv:Value} {g:G} {L:List Lb}
theorem Gm.nd7 {e:Int} {nb no cn i:Nat} (h:Gm w B v0 v1 (.slice (some ⟨nb,no,none⟩) g.ns.length cn) v3 lv g L e) (hi:i < g.ns.length) :
  w.cell? ⟨nb,no+i * 7,none⟩=some (.int .i64 (g.nd i).kind)∧w.cell? ⟨nb,no+i * 7+1,none⟩=some (.string (g.nd i).id)∧w.cell? ⟨nb,no+i * 7+2,none⟩=some (.int .i64 (g.nd i).fr)∧w.cell? ⟨nb,no+i * 7+3,none⟩=some (.int .i64 (g.nd i).to)∧w.cell? ⟨nb,no+i * 7+4,none⟩=some (.int .i64 (g.nd i).msg)∧w.cell? ⟨nb,no+i * 7+5,none⟩=some (.int .i64 (g.nd i).rep)∧w.cell? ⟨nb,no+i * 7+6,none⟩=some (.bool (g.nd i).loop):=by
 obtain ⟨b,o,e1,cs⟩:=NdsAt.at h.at.nodes hi
 cases e1
 exact cs
theorem Gm.inj {e e':Int} (h:Gm w B v0 v1 v2 v3 lv g L e) (k:Gm w B v0 v1 v2 v3 lv g L e'):e=e':=by
 have:=h.row.symm.trans k.row
 simp [gcells] at this
 exact this
structure RB (B:Nat) (v0 v1 v2 v3 lv:Value) (g:G) (L:List Lb) (bT:Bool) (w w':World):Prop where
 by_:w.grownBy w' (some B)
 gm:∀ u,Gm w B v0 v1 v2 v3 lv g L (err u 0)→∃ u',Gm w' B v0 v1 v2 v3 lv g L (err u' 0)∧(u=true→u'=true)∧(u'=true→u=true∨bT=true)
theorem RB.grow {bT:Bool} (h:Flow.Grow w w'):RB B v0 v1 v2 v3 lv g L bT w w':=⟨by_grow h,fun u k=>⟨u,k.grow h,id,.inl⟩⟩
theorem RB.refl {bT:Bool} (w:World):RB B v0 v1 v2 v3 lv g L bT w w:=RB.grow (Flow.grow_refl w)
theorem RB.trans {bT:Bool} {w'':World} (h:RB B v0 v1 v2 v3 lv g L bT w w') (k:RB B v0 v1 v2 v3 lv g L bT w' w''):RB B v0 v1 v2 v3 lv g L bT w w'' :=
 ⟨by_trans h.by_ k.by_,fun u h0=>by
  obtain ⟨u1,g1,a1,b1⟩:=h.gm u h0
  obtain ⟨u2,g2,a2,b2⟩:=k.gm u1 g1
  exact ⟨u2,g2,fun e=>a2 (a1 e),fun e=>(b2 e).elim b1 .inr⟩⟩
theorem RB.call {bT b u:Bool} (h:Gm w B v0 v1 v2 v3 lv g L (err u 0)) (hb:w.grownBy w' (some B)) (k:Gm w' B v0 v1 v2 v3 lv g L (err b (err u 0))) (hT:b=true→bT=true):RB B v0 v1 v2 v3 lv g L bT w w' :=
 ⟨hb,fun u1 h1=>by
  obtain rfl:=err_inj (h.inj h1)
  rw [err_err] at k
  exact ⟨_,k,fun e=>by rw [e];rfl,fun e=>by cases hu:u with | true=>exact .inl rfl | false=>rw [hu,Bool.false_or] at e;exact .inr (hT e)⟩⟩
theorem RB.wrong {bT:Bool} (h:RB B v0 v1 v2 v3 lv g L bT w w') (k:Gm w B v0 v1 v2 v3 lv g L (err true 0)):Gm w' B v0 v1 v2 v3 lv g L (err true 0):=by
 obtain ⟨u,h1,h2,_⟩:=h.gm true k
 rwa [h2 rfl] at h1
theorem RB.done {bT u:Bool} (h:RB B v0 v1 v2 v3 lv g L bT w w') (k:Gm w B v0 v1 v2 v3 lv g L (err u 0)) (hT:bT=true→Gm w' B v0 v1 v2 v3 lv g L (err true 0)):Gm w' B v0 v1 v2 v3 lv g L (err (u || bT) 0):=by
 obtain ⟨u1,h1,h2,h3⟩:=h.gm u k
 cases bT with
 | true=>rw [Bool.or_true];exact hT rfl
 | false =>
  rw [Bool.or_false]
  have:u1=u:=by
   cases u with
   | true=>exact h2 rfl
   | false=>cases u1 with | false=>rfl | true=>simp at h3
  rwa [this] at h1
structure TI (W w:World) (B:Nat) (v0 v1 v2 v3 lv:Value) (g:G) (L:List Lb) (u:Bool) (out:Value) (ts:List Tn):Prop where
 by_:W.grownBy w (some B)
 gm:Gm w B v0 v1 v2 v3 lv g L (err u 0)
 own:w.ownsRow W.heap.size 99 2 out ts.length (ts.flatMap tcells)
 old:∃ e,Gm W B v0 v1 v2 v3 lv g L e
variable {u:Bool} {out:Value} {ts:List Tn}
theorem TI.lt (h:TI W w B v0 v1 v2 v3 lv g L u out ts):B < W.heap.size:=by obtain ⟨e,k⟩:=h.old;exact k.lt
theorem TI.grow (h:TI W w B v0 v1 v2 v3 lv g L u out ts) (k:Flow.Grow w w'):TI W w' B v0 v1 v2 v3 lv g L u out ts:=⟨by_trans h.by_ (by_grow k),h.gm.grow k,own_keep h.own k,h.old⟩
theorem TI.from {w1:World} (h:TI w1 w B v0 v1 v2 v3 lv g L u out ts) (k:W.grownBy w1 (some B)) {e:Int} (old:Gm W B v0 v1 v2 v3 lv g L e):TI W w B v0 v1 v2 v3 lv g L u out ts:=by
 refine ⟨by_trans k h.by_,h.gm,⟨h.own.1,?_⟩,⟨e,old⟩⟩
 rcases h.own.2 with hn | ⟨q,cap,cur,h1,h2,h3⟩
 ·exact .inl hn
 ·exact .inr ⟨q,cap,cur,h1,Nat.le_trans k.size h2,h3⟩
theorem TI.start {e:Int} (old:Gm W B v0 v1 v2 v3 lv g L e) (h:Gm W B v0 v1 v2 v3 lv g L (err u 0)):TI W W B v0 v1 v2 v3 lv g L u (.slice none 0 0) [] :=
 ⟨by_grow (Flow.grow_refl _),h,World.ownsRow_nil _ _ _ _,⟨e,old⟩⟩
theorem TI.call {b:Bool} (h:TI W w B v0 v1 v2 v3 lv g L u out ts) (hb:w.grownBy w' (some B)) (k:Gm w' B v0 v1 v2 v3 lv g L (err b (err u 0))):TI W w' B v0 v1 v2 v3 lv g L (u || b) out ts :=
 ⟨by_trans h.by_ hb,by rw [← err_err];exact k,own_by h.own hb h.lt,h.old⟩
theorem TI.rb {bT:Bool} (h:TI W w B v0 v1 v2 v3 lv g L u out ts) (k:RB B v0 v1 v2 v3 lv g L bT w w') (hT:bT=true→Gm w' B v0 v1 v2 v3 lv g L (err true 0)):TI W w' B v0 v1 v2 v3 lv g L (u || bT) out ts :=
 ⟨by_trans h.by_ k.by_,k.done h.gm hT,own_by h.own k.by_ h.lt,h.old⟩
theorem TI.after {u':Bool} {out':Value} {ts':List Tn} (h:TI W w B v0 v1 v2 v3 lv g L u out ts) (k:TI w w' B v0 v1 v2 v3 lv g L u' out' ts'):TI W w' B v0 v1 v2 v3 lv g L u' out ts :=
 ⟨by_trans h.by_ k.by_,k.gm,own_by h.own k.by_ h.lt,h.old⟩
theorem TI.app {out':Value} {new:List Tn} (h:TI W w B v0 v1 v2 v3 lv g L u out ts) (o:w'.ownsRow W.heap.size 99 2 out' (ts.length+new.length) (ts.flatMap tcells++new.flatMap tcells)) (k:w.grownBy w' out.ownBlock):TI W w' B v0 v1 v2 v3 lv g L u out' (ts++new):=by
 have lo:=own_lo h.own
 have hl:=h.lt
 obtain ⟨e,old⟩:=h.old
 have hb:=by_own h.by_ k lo
 refine ⟨hb,old.by hb ((k.block B h.gm.lt (fun e=>by have:=lo B e.symm;omega)).trans h.gm.row),by rw [List.length_append,List.flatMap_append];exact o,⟨e,old⟩⟩
end
end Gr
end Go.Proofs.YtcnmaplopbbmaaaGreat
