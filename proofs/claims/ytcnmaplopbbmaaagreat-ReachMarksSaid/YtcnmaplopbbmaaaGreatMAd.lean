/- A region that draws its order and ends in an append and a store of what it gave, the place of the store reckoned whenever. No program. -/
import Derived.Test.YtcnmaplopbbmaaaGreatMAc
import Derived.Test.YtcnmaplopbbmaaaGreatOwn
import Derived.Test.YtcnmaplopbbmaaaGreatProg
import Derived.WalkKit
import Derived.Outline
import Derived.Lib.Hide
namespace Go.Proofs.YtcnmaplopbbmaaaGreat
open Go.RowKit
namespace Flow
def fit3 (m n:Nat) (ops:Array Oper) (S:List (List Nat)):Bool :=
 (ops.size == m+3) &&
 ((List.range (m+2)).all fun i =>
   (match dstOf ops i with | some d=>decide (d < n) && (List.range i).all (fun j=>dstOf ops j != some d) | none=>false) &&
   (match ops[i]? with | some o=>o.after.toList.all (fun e=>!Region.binds .any e || decide (e.on < i)) | none=>false)) &&
 (match ops[m]? with | some o=>o.guard.isNone | none=>false) &&
 (match ops[m+1]? with | some o=>o.guard.isNone | none=>false) &&
 (match ops[m+2]? with
   | some o=>o.dst.isNone && o.guard.isNone && o.after.toList.all (fun e=>!Region.binds .any e || decide (e.on < m+2)) && o.after.toList.any (fun e=>Region.binds .any e && e.on == m) && o.after.toList.any (fun e=>Region.binds .any e && e.on == m+1)
   | none=>false) &&
 ((List.range m).all fun k=>(S.getD m []).contains k) &&
 ((List.range m).all fun i=>(S.getD i []).all fun k=>decide (k < m))
section
variable {P:Program} {ops:Array Oper} {Q:Exit→Act→World→Prop} {a0:Act} {C:World→Prop} {R:World→World→Prop} {Fs:List Fact} {S:List (List Nat)} {m:Nat} {c:Value} {T:Value→World→Prop}
theorem run_wp {o:Oper} {a:Act} {w w':World} {v:Value} {K:Act→World→Prop} (h:(execOp a.eval o).run P w=.ok (.value v) w') (hK:K (a.put o.dst v) w'):o.wp P a w K Q:=by
 unfold Oper.wp
 rw [h]
 exact hK
theorem any_only {listed:Array Bool} {a:Act} {w:World} {fuel i:Nat} {o:Oper} (ho:ops[i]? = some o) (hg:o.guard=none) (hi:i∈Region.ready .any ops listed) (hj:∀ j,j∈Region.ready .any ops listed→j=i)
  (h:o.wp P a w (wpAny P .any ops Q fuel (listed.setIfInBounds i true)) Q):wpAny P .any ops Q (fuel+1) listed a w:=by
 refine ⟨fun hr=>(by rw [hr] at hi;cases hi),fun j hjr=>?_⟩
 obtain rfl:=hj j hjr
 unfold wpOp
 have hwant:Region.wanted o (yielded ops a.tmps)=true:=want_none hg
 simp only [ho,hwant,if_true]
 exact .inl h
theorem left_all {listed:Array Bool} (h:∀ k,k < listed.size→listed.getD k false=true):left listed=0:=by
 unfold left
 rw [List.countP_eq_zero]
 intro x hx
 obtain ⟨k,hk2,rfl⟩:=List.getElem_of_mem hx
 have hk3:k < listed.size:=by simpa using hk2
 have:=h k hk3
 rw [Array.getD_eq_getD_getElem?,Array.getElem?_eq_getElem hk3] at this
 have h5:listed[k]=true:=this
 rw [Array.getElem_toList,h5]
 simp
theorem any_done {listed:Array Bool} {a:Act} {w:World} {fuel:Nat} (_hsz:listed.size=ops.size) (h:∀ k,k < ops.size→listed.getD k false=true) (hq:Q .normal a w):wpAny P .any ops Q fuel listed a w:=by
 have hr:Region.ready .any ops listed=[]:=by
  cases hr:Region.ready .any ops listed with
  | nil=>rfl
  | cons j r =>
   have hj:j∈Region.ready .any ops listed:=by rw [hr];simp
   obtain ⟨h1,oj,hoj,_⟩:=mem_ready.1 hj
   have:=getD_true_of_false (h j (Array.getElem?_eq_some_iff.1 hoj).1)
   rw [this] at h1;cases h1
 cases fuel with
 | zero=>exact ⟨hr,hq⟩
 | succ n=>exact ⟨fun _=>hq,fun i hi=>by rw [hr] at hi;cases hi⟩
theorem set_same {listed:Array Bool} {k:Nat} (h:k < listed.size):(listed.setIfInBounds k true).getD k false=true:=by simp [h]
theorem any_tail3 {oa of' os:Oper} (hoa:ops[m]? = some oa) (hof:ops[m+1]? = some of') (hos:ops[m+2]? = some os) (hfit:fit3 m a0.tmps.size ops S=true) (hlean:leans ops S=true) (hst:Stable R Fs) (hR0:∀ w,R w w) (hC:∀ w w',C w→R w w'→C w')
  (hF:Fs.length=m) (hones:Ones P ops Q a0 C R Fs (ops.toList.take m) S Fs)
  (happ:∀ a w,C w→Off ops a0 a→(∀ k,k < m→known ops Fs a w k)→∃ v w',(execOp a.eval oa).run P w=.ok (.value v) w'∧T v w')
  (hfa:∀ a w,Off ops a0 a→(execOp a.eval of').run P w=.ok (.value c) w)
  (hend:∀ a w,Off ops a0 a→(∀ d,oa.dst=some d→T (a.eval (.tmp d)) w)→(∀ d,of'.dst=some d→a.eval (.tmp d)=c)→os.wp P a w (fun a' w'=>Q .normal a' w') Q) :
  ∀ (fuel:Nat) (listed:Array Bool) (a:Act) (w:World),listed.size=ops.size→listed.getD m true=false→listed.getD (m+2) true=false→left listed=fuel→C w→Off ops a0 a →
   (∀ k,k < m→listed.getD k false=true→known ops Fs a w k)→(listed.getD (m+1) false=true→∀ d,of'.dst=some d→a.eval (.tmp d)=c)→(∀ m,listed.getD m false=true→∀ k∈S.getD m [],listed.getD k false=true)→wpAny P .any ops Q fuel listed a w:=by
 simp only [fit3,hoa,hof,hos,Bool.and_eq_true,beq_iff_eq,List.all_eq_true,List.mem_range,List.contains_iff_mem,Option.isNone_iff_eq_none,List.any_eq_true,decide_eq_true_eq] at hfit
 obtain ⟨⟨⟨⟨⟨⟨hsize,hshape⟩,hga⟩,hgf⟩,⟨⟨⟨⟨hsd,hsg⟩,hsaf⟩,hsm⟩,hsm1⟩⟩,hall⟩,hlow⟩:=hfit
 have hsh:∀ i o,i < m+2→ops[i]? = some o→∃ d,o.dst=some d∧d < a0.tmps.size∧(∀ j,j < i→dstOf ops j≠some d)∧∀ e∈o.after,Region.binds .any e=true→e.on < i:=by
  intro i o hi ho
  have h:=hshape i hi
  simp only [dstOf,ho,Option.bind_some] at h
  cases hd:o.dst with
  | none=>simp [hd] at h
  | some d =>
   simp only [hd,Bool.and_eq_true,decide_eq_true_eq,List.all_eq_true,List.mem_range,bne_iff_ne,Bool.or_eq_true,Bool.not_eq_true'] at h
   exact ⟨d,rfl,h.1.1,fun j hj=>h.1.2 j hj,fun e he hb=>(h.2 e (by simpa using he)).resolve_left (by simp [hb])⟩
 have hds:dstOf ops (m+2)=none:=by simp [dstOf,hos,hsd]
 have hdm:∀ i d,dstOf ops i=some d→i < m+2:=by
  intro i d hi
  have:i < ops.size:=by
   cases ho:ops[i]? with
   | none=>simp [dstOf,ho] at hi
   | some o=>exact (Array.getElem?_eq_some_iff.1 ho).1
  rcases Nat.lt_or_ge i (m+2) with h | h
  ·exact h
  ·have:i=m+2:=by omega
   subst this
   rw [hds] at hi;cases hi
 have hdist:∀ i j d,dstOf ops i=some d→dstOf ops j=some d→i=j:=by
  intro i j d hi hj
  have g:∀ i j,dstOf ops i=some d→dstOf ops j=some d→¬ j < i:=by
   intro i j hi hj hlt
   cases ho:ops[i]? with
   | none=>simp [dstOf,ho] at hi
   | some o =>
    obtain ⟨d',hd',_,hne,_⟩:=hsh i o (hdm i d hi) ho
    have:d'=d:=by simpa [dstOf,ho,hd'] using hi
    subst this
    exact hne j hlt hj
  have:=g i j hi hj
  have:=g j i hj hi
  omega
 obtain ⟨da,hda,hdan,_,hma⟩:=hsh m oa (by omega) hoa
 obtain ⟨df,hdf,hdfn,_,hmf⟩:=hsh (m+1) of' (by omega) hof
 have hdaf:da≠df:=fun e=>by
  have:=hdist m (m+1) da (by simp [dstOf,hoa,hda]) (by simp [dstOf,hof,hdf,e])
  omega
 have offput:∀ {a:Act} {i:Nat} {o:Oper} {d:Tmp} {v:Value},Off ops a0 a→ops[i]? = some o→o.dst=some d→Off ops a0 (a.put (some d) v):=by
  intro a i o d v hoff ho hd
  refine ⟨(put_defers _ _ _).trans hoff.defers,(put_size _ _ _).trans hoff.size,fun t ht=>?_⟩
  rw [eval_put_ne (fun e=>ht i (by simp [dstOf,ho,hd,e]))]
  exact hoff.same t ht
 have fin1:∀ (listed:Array Bool) (a:Act) (w:World),listed.size=ops.size→(∀ k,k < m+2→listed.getD k false=true)→listed.getD (m+2) true=false→Off ops a0 a→T (a.eval (.tmp da)) w→a.eval (.tmp df)=c→∀ fuel,left listed=fuel→wpAny P .any ops Q fuel listed a w:=by
  intro listed a w hsz hl hu hoff hT hc fuel hleft
  have hw:=hend a w hoff (fun d hd=>by rw [hda] at hd;cases hd;exact hT) (fun d hd=>by rw [hdf] at hd;cases hd;exact hc)
  obtain ⟨n,rfl⟩:∃ n,fuel=n+1:=⟨fuel - 1,by have:=left_set hu;omega⟩
  refine any_only hos hsg (mem_ready.2 ⟨hu,os,hos,fun e he hb=>hl e.on ?_⟩) (fun j hj=>?_) ?_
  ·have:=hsaf e (by simpa using he)
   simp [hb] at this
   exact this
  ·obtain ⟨h1,o,ho,_⟩:=mem_ready.1 hj
   have hjs:=(Array.getElem?_eq_some_iff.1 ho).1
   rcases Nat.lt_or_ge j (m+2) with h | h
   ·have:=getD_true_of_false (hl j h)
    rw [this] at h1;cases h1
   ·omega
  ·refine Oper.wp_mono (fun a' w' hq=>?_) hw
   refine any_done (by simpa using hsz) (fun k hk=>?_) hq
   by_cases e:k=m+2
   ·subst e;exact set_same (by omega)
   ·exact getD_set_true (hl k (by omega))
 have fin2:∀ (listed:Array Bool) (a:Act) (w:World),listed.size=ops.size→(∀ k,k < m+1→listed.getD k false=true)→listed.getD (m+2) true=false→Off ops a0 a→T (a.eval (.tmp da)) w→(listed.getD (m+1) false=true→a.eval (.tmp df)=c)→∀ fuel,left listed=fuel→wpAny P .any ops Q fuel listed a w:=by
  intro listed a w hsz hl hu hoff hT hc fuel hleft
  cases h1:listed.getD (m+1) false with
  | true=>exact fin1 listed a w hsz (fun k hk=>by by_cases e:k=m+1;(subst e;exact h1);exact hl k (by omega)) hu hoff hT (hc h1) fuel hleft
  | false =>
   have hu1:listed.getD (m+1) true=false:=by
    have:m+1 < listed.size:=by omega
    simp [this] at h1 ⊢
    exact h1
   obtain ⟨n,rfl⟩:∃ n,fuel=n+1:=⟨fuel - 1,by have:=left_set hu1;omega⟩
   refine any_only hof hgf (mem_ready.2 ⟨hu1,of',hof,fun e he hb=>hl e.on (hmf e he hb)⟩) (fun j hj=>?_) ?_
   ·obtain ⟨g1,o,ho,g2⟩:=mem_ready.1 hj
    have hjs:=(Array.getElem?_eq_some_iff.1 ho).1
    rcases Nat.lt_or_ge j (m+1) with h | h
    ·have:=getD_true_of_false (hl j h)
     rw [this] at g1;cases g1
    ·rcases (by omega:j=m+1∨j=m+2) with h | h
     ·exact h
     ·exfalso
      subst h
      rw [hos] at ho;cases ho
      obtain ⟨e,he,hb,hem⟩:=hsm1
      have:=g2 e (by simpa using he) hb
      rw [hem,h1] at this
      cases this
   ·refine run_wp (hfa a w hoff) ?_
    rw [hdf]
    refine fin1 _ _ _ (by simpa using hsz) (fun k hk=>?_) ?_ (offput hoff hof hdf) ?_ (eval_put_same (by rw [hoff.size];exact hdfn)) n (by have:=left_set hu1;omega)
    ·by_cases e:k=m+1
     ·subst e;exact set_same (by omega)
     ·exact getD_set_true (hl k (by omega))
    ·rw [getD_set_ne true (by omega)];exact hu
    ·rw [eval_put_ne hdaf.symm];exact hT
 intro fuel
 induction fuel with
 | zero =>
  intro listed a w hsz hu _ hl hCw hoff hk _ _
  exfalso
  have:=left_set hu
  omega
 | succ fuel ih =>
  intro listed a w hsz hu hu2 hl hCw hoff hk hkf hcl
  have hum:listed.getD m false=false:=by
   have:m < listed.size:=by omega
   simp [this] at hu ⊢
   exact hu
  have hus:∀ o,ops[m+2]? = some o→(∀ e∈o.after,Region.binds .any e=true→listed.getD e.on false=true)→False:=by
   intro o ho h
   rw [hos] at ho;cases ho
   obtain ⟨e,he,hb,hem⟩:=hsm
   have:=h e (by simpa using he) hb
   rw [hem,hum] at this
   cases this
  have hfull:Region.ready .any ops listed=[]→False:=by
   intro hr
   have key:∀ n i,i < n→i < m+1→listed.getD i false=true:=by
    intro n
    induction n with
    | zero=>intro i h;omega
    | succ n ihn =>
     intro i hi hio
     by_cases hin:i < n
     ·exact ihn i hin hio
     ·cases hl2:listed.getD i false with
      | true=>rfl
      | false =>
       exfalso
       have hlt:i < ops.size:=by omega
       have ho:ops[i]? = some ops[i]:=by simp [hlt]
       obtain ⟨_,_,_,_,hb⟩:=hsh i _ (by omega) ho
       have:i∈Region.ready .any ops listed:=mem_ready.2 ⟨by
        have:i < listed.size:=by omega
        simpa [this] using hl2,_,ho,fun e he hbe=>ihn e.on (by have:=hb e he hbe;omega) (by have:=hb e he hbe;omega)⟩
       rw [hr] at this
       cases this
   have:=key (m+1) m (by omega) (by omega)
   rw [hum] at this;cases this
  refine ⟨fun hr=>(hfull hr).elim,fun i hi=>?_⟩
  obtain ⟨hun,o,ho,hal⟩:=mem_ready.1 hi
  have hio:i < ops.size:=(Array.getElem?_eq_some_iff.1 ho).1
  have hSi:∀ k∈S.getD i [],listed.getD k false=true:=by
   intro k hkS
   have h:=(List.all_eq_true.1 hlean) i (by simpa using hio)
   have h:=(List.all_eq_true.1 h) k hkS
   simp only [ho,List.any_eq_true,Bool.and_eq_true,Bool.or_eq_true,beq_iff_eq,List.contains_iff_mem] at h
   obtain ⟨e,he,hb,hek⟩:=h
   have hle:=hal e (by simpa using he) hb
   rcases hek with rfl | hek
   ·exact hle
   ·exact hcl e.on hle k hek
  have hne2:i≠m+2:=by
   rintro rfl
   exact hus o ho hal
  by_cases him:i=m
  ·subst him
   rw [hoa] at ho;cases ho
   have hlk:∀ k,k < i→listed.getD k false=true:=fun k hk2=>hSi k (hall k hk2)
   obtain ⟨v,w',hrun,hT⟩:=happ a w hCw hoff fun k hk2=>hk k hk2 (hlk k hk2)
   unfold wpOp
   have hwant:Region.wanted oa (yielded ops a.tmps)=true:=want_none hga
   simp only [hoa,hwant,if_true]
   refine .inl (run_wp hrun ?_)
   rw [hda]
   refine fin2 _ _ _ (by simpa using hsz) (fun k hk2=>?_) ?_ (offput hoff hoa hda) ?_ (fun h=>?_) fuel (by have:=left_set hun;omega)
   ·by_cases e:k=i
    ·subst e;exact set_same (by omega)
    ·exact getD_set_true (hlk k (by omega))
   ·rw [getD_set_ne true (by omega)];exact hu2
   ·rw [eval_put_same (by rw [hoff.size];exact hdan)];exact hT
   ·rw [getD_set_ne false (by omega)] at h
    rw [eval_put_ne hdaf]
    exact hkf h df hdf
  ·have hcl':∀ j,listed.getD j false=true→∀ k∈S.getD j [],(listed.setIfInBounds i true).getD k false=true:=fun j hj k hkS=>getD_set_true (hcl j hj k hkS)
   have hclos:∀ j,(listed.setIfInBounds i true).getD j false=true→∀ k∈S.getD j [],(listed.setIfInBounds i true).getD k false=true:=by
    intro j hj k hkS
    by_cases e:j=i
    ·subst e;exact getD_set_true (hSi k hkS)
    ·rw [getD_set_ne false (Ne.symm e)] at hj
     exact hcl' j hj k hkS
   by_cases hif:i=m+1
   ·subst hif
    rw [hof] at ho;cases ho
    unfold wpOp
    have hwant:Region.wanted of' (yielded ops a.tmps)=true:=want_none hgf
    simp only [hof,hwant,if_true]
    refine .inl (run_wp (hfa a w hoff) ?_)
    rw [hdf]
    refine ih _ _ _ (by simpa using hsz) ?_ ?_ (by have:=left_set hun;omega) hCw (offput hoff hof hdf) (fun k hkm hkl d' hd'=>?_) (fun _ d hd=>?_) hclos
    ·rw [getD_set_ne true (by omega)];exact hu
    ·rw [getD_set_ne true (by omega)];exact hu2
    ·have hdd:df≠d':=fun e'=>by
      have:=hdist (m+1) k d' (by simp [dstOf,hof,hdf,e']) hd'
      omega
     rw [eval_put_ne hdd]
     rw [getD_set_ne false (by omega)] at hkl
     exact hk k hkm hkl d' hd'
    ·rw [hdf] at hd;cases hd
     exact eval_put_same (by rw [hoff.size];exact hdfn)
   ·have him':i < m:=by omega
    obtain ⟨d,hd,hdn,_,_⟩:=hsh i o (by omega) ho
    have hone:=ones_at hones i o (by rw [List.getElem?_take_of_lt him'];simpa using ho) a w hCw hoff (facts_mem fun k hkS=>hk k (by
     exact hlow i him' k hkS) (hSi k hkS))
    have next:∀ v w',R w w'→holds (Fs.getD i (.inr fun _ _=>True)) v w'→wpAny P .any ops Q fuel (listed.setIfInBounds i true) (a.put o.dst v) w':=by
     intro v w' hR hv
     rw [hd]
     refine ih _ _ _ (by simpa using hsz) ?_ ?_ (by have:=left_set hun;omega) (hC _ _ hCw hR) (offput hoff ho hd) (fun k hkm hkl d' hd'=>?_) (fun hl1 d' hd'=>?_) hclos
     ·rw [getD_set_ne true him];exact hu
     ·rw [getD_set_ne true hne2];exact hu2
     ·by_cases e:k=i
      ·subst e
       have:d'=d:=by simpa [dstOf,ho,hd] using hd'.symm
       subst this
       rw [eval_put_same (by rw [hoff.size];exact hdn)]
       exact hv
      ·have hdd:d≠d':=fun e'=>e (hdist k i d' hd' (by simp [dstOf,ho,hd,e']))
       rw [eval_put_ne hdd]
       rw [getD_set_ne false (Ne.symm e)] at hkl
       exact holds_stable hst k _ _ _ hR (hk k hkm hkl d' hd')
     ·have hdd:d≠d':=fun e'=>by
       have:=hdist i (m+1) d' (by simp [dstOf,ho,hd,e']) (by simp [dstOf,hof,hd'])
       omega
      rw [eval_put_ne hdd]
      rw [getD_set_ne false (by omega)] at hl1
      exact hkf hl1 d' hd'
    unfold wpOp
    simp only [ho]
    rcases hone with ⟨hw,hone⟩ | ⟨hw,hone⟩
    ·simp only [hw,if_true]
     exact .inl (Oper.wp_mono (fun a' w' ⟨v,e,hR,hv⟩=>by subst e;exact next v w' hR hv) hone)
    ·simp only [hw,Bool.false_eq_true,if_false]
     exact next undef w (hR0 w) hone
theorem region_tail3 {id:Nat} {w:World} (m:Nat) {oa of' os:Oper} (hm:P.follows .mixedOrders=true) (hoa:ops[m]? = some oa) (hof:ops[m+1]? = some of') (hos:ops[m+2]? = some os) (hfit:fit3 m a0.tmps.size ops S=true) (hlean:leans ops S=true) (hF:Fs.length=m)
  (hst:Stable R Fs) (hR0:∀ w,R w w) (hC:∀ w w',C w→R w w'→C w') (h0:C w.drew)
  (hones:Ones P ops Q a0 C R Fs (ops.toList.take m) S Fs)
  (happ:∀ a w,C w→Off ops a0 a→(∀ k,k < m→known ops Fs a w k)→∃ v w',(execOp a.eval oa).run P w=.ok (.value v) w'∧T v w')
  (hfa:∀ a w,Off ops a0 a→(execOp a.eval of').run P w=.ok (.value c) w)
  (hend:∀ w,ends (fun _ a w=>os.wp P a w (fun a' w'=>Q .normal a' w') Q) (ops.toList.take (m+2)) (List.replicate m (.inr fun _ _=>True)++[.inr T,.inl c]) a0 w):(Code.region id ops true).wp P Q a0 w:=by
 have hf:=hfit
 simp only [fit3,hoa,hof,hos,Bool.and_eq_true,beq_iff_eq,List.all_eq_true,List.mem_range] at hf
 obtain ⟨⟨⟨⟨⟨⟨hsize,hshape⟩,_⟩,_⟩,_⟩,_⟩,_⟩:=hf
 refine wp_region_any hm (any_tail3 (T:=T) (c:=c) hoa hof hos hfit hlean hst hR0 hC hF hones happ hfa (fun a w hoff hT hc=>?_) ops.size (Array.replicate ops.size false) a0 w.drew (by simp) (by simp [hsize]) (by simp [hsize])
  (by simp [left,List.countP_replicate]) h0 ⟨rfl,rfl,fun _ _=>rfl⟩
  (fun k _ hk=>by rcases Nat.lt_or_ge k ops.size with h | h <;> simp [h] at hk)
  (fun hk=>by rcases Nat.lt_or_ge (m+1) ops.size with h | h <;> simp [h] at hk)
  (fun m hk=>by rcases Nat.lt_or_ge m ops.size with h | h <;> simp [h] at hk))
 refine ends_all (Q:=fun _ a w=>os.wp P a w (fun a' w'=>Q .normal a' w') Q) (ops.toList.take (m+2)) (List.replicate m (.inr fun _ _=>True)++[(Sum.inr T:Fact),(Sum.inl c:Fact)]) a0 (fun i oi hoi=>?_) (by simp [hsize]) hoff.defers.symm hoff.size.symm (fun t ht=>(hoff.same t fun k hk2=>?_).symm) (hend w)
 ·have him:i < m+2:=by
   have:=(List.getElem?_eq_some_iff.1 hoi).1
   simp at this;omega
  rw [List.getElem?_take_of_lt him] at hoi
  have ho':ops[i]? = some oi:=by simpa using hoi
  have h:=hshape i him
  simp only [dstOf,ho',Option.bind_some] at h
  cases hd:oi.dst with
  | none=>simp [hd] at h
  | some d =>
   simp only [hd,Bool.and_eq_true,decide_eq_true_eq] at h
   refine ⟨d,rfl,by rw [hoff.size];exact h.1.1,?_⟩
   rcases (by omega:i < m∨i=m∨i=m+1) with e | e | e
   ·have:(List.replicate m (Sum.inr fun _ _=>True:Fact)++[(Sum.inr T:Fact),(Sum.inl c:Fact)]).getD i (.inr fun _ _=>True)=.inr fun _ _=>True:=by
     rw [List.getD_eq_getElem?_getD,List.getElem?_append_left (by simpa using e),List.getElem?_replicate,if_pos e]
     rfl
    rw [this]
    trivial
   ·subst e
    have:(List.replicate i (Sum.inr fun _ _=>True:Fact)++[(Sum.inr T:Fact),(Sum.inl c:Fact)]).getD i (.inr fun _ _=>True)=.inr T:=by
     rw [List.getD_eq_getElem?_getD,List.getElem?_append_right (by simp)]
     simp
    rw [this]
    rw [hoa] at ho';cases ho'
    exact hT d hd
   ·subst e
    have:(List.replicate m (Sum.inr fun _ _=>True:Fact)++[(Sum.inr T:Fact),(Sum.inl c:Fact)]).getD (m+1) (.inr fun _ _=>True)=.inl c:=by
     rw [List.getD_eq_getElem?_getD,List.getElem?_append_right (by simp)]
     simp
    rw [this]
    rw [hof] at ho';cases ho'
    exact hc d hd
 ·rcases Nat.lt_or_ge k (m+2) with h | h
  ·cases hok:ops[k]? with
   | none=>simp [dstOf,hok] at hk2
   | some ok =>
    refine ht ok ?_ (by simpa [dstOf,hok] using hk2)
    refine List.mem_of_getElem? (i:=k) ?_
    rw [List.getElem?_take_of_lt h]
    simpa using hok
  ·exfalso
   cases hok:ops[k]? with
   | none=>simp [dstOf,hok] at hk2
   | some ok =>
    have hkl:=(Array.getElem?_eq_some_iff.1 hok).1
    have:k=m+2:=by omega
    subst this
    rw [hos] at hok;cases hok
    have hf2:=hfit
    simp only [fit3,hoa,hof,hos,Bool.and_eq_true,Option.isNone_iff_eq_none] at hf2
    have:=hf2.1.1.2.1.1.1.1
    simp [dstOf,hos,this] at hk2
end
end Flow
end Go.Proofs.YtcnmaplopbbmaaaGreat
namespace Go.Proofs.YtcnmaplopbbmaaaGreat
open Go.RowKit
namespace Bits
theorem ofInt64 (a:Nat) (ha:a < 2 ^ 63):(BitVec.ofInt 64 (a:Int)).toNat=a:=by
 rw [BitVec.toNat_ofInt];omega
theorem i64_mask (n:Int) (k:Nat) (hk:k≤62) (m:Int) (hm:m=2 ^ k - 1):bits .and .i64 n m=n % 2 ^ k:=by
 subst hm
 have hp:(2:Nat) ^ k≤2 ^ 62:=Nat.pow_le_pow_right (by omega) hk
 have h1:1≤(2:Nat) ^ k:=Nat.one_le_two_pow
 have e:((2:Int) ^ k - 1)=((2 ^ k - 1:Nat):Int):=by
  rw [Int.ofNat_sub h1];simp
 have hpi:((2:Int) ^ k)=((2 ^ k:Nat):Int):=by simp
 rw [e,hpi]
 show IntKind.i64.wrap ((BitVec.ofInt 64 n &&& BitVec.ofInt 64 ((2 ^ k - 1:Nat):Int)).toNat:Nat)=_
 rw [BitVec.toNat_and,ofInt64 (2 ^ k - 1) (by omega),Nat.and_two_pow_sub_one_eq_mod,BitVec.toNat_ofInt,IntKind.wrap_i64]
 have hd:((2:Int) ^ 64)=(2 ^ k:Nat) * (2 ^ (64 - k):Nat):=by
  rw [← Int.natCast_mul,← Nat.pow_add,show k+(64 - k)=64 from by omega];rfl
 have h3:((n % ((2 ^ 64:Nat):Int)).toNat:Int)=n % 2 ^ 64:=by omega
 have h4:(((n % ((2 ^ 64:Nat):Int)).toNat % 2 ^ k:Nat):Int)=n % ((2 ^ k:Nat):Int):=by
  rw [Int.natCast_emod,h3,hd,Int.emod_emod_of_dvd _ (Int.dvd_mul_right _ _)]
 have h5:n % ((2 ^ k:Nat):Int) < ((2 ^ k:Nat):Int):=Int.emod_lt_of_pos _ (by omega)
 have h6:0≤n % ((2 ^ k:Nat):Int):=Int.emod_nonneg _ (by omega)
 rw [h4]
 omega
end Bits
end Go.Proofs.YtcnmaplopbbmaaaGreat
namespace Go.Proofs.YtcnmaplopbbmaaaGreat
open Go.RowKit
namespace Mark
def bit (p:Int):Nat:=if 0≤p∧p < 64 then 2 ^ p.toNat else 0
def has (m:Nat) (p:Int):Bool:=decide (0≤p∧p < 64) && m.testBit p.toNat
def ofBools:List Bool→Nat
 | []=>0
 | b :: l=>(if b then 1 else 0)+2 * ofBools l
theorem bit_in {p:Int} (h:0≤p) (h':p < 64):bit p=2 ^ p.toNat:=if_pos ⟨h,h'⟩
theorem bit_out {p:Int} (h:¬ (0≤p∧p < 64)):bit p=0:=if_neg h
theorem bit_lt (p:Int):bit p < 2 ^ 64:=by
 unfold bit
 split
 ·exact Nat.pow_lt_pow_right (by omega) (by omega)
 ·exact Nat.two_pow_pos _
theorem has_in {m:Nat} {p:Int} (h:0≤p) (h':p < 64):has m p=m.testBit p.toNat:=by simp [has,h,h']
theorem has_out {m:Nat} {p:Int} (h:¬ (0≤p∧p < 64)):has m p=false:=by simp [has];intro a b;exact absurd ⟨a,b⟩ h
theorem and_pow (m i:Nat):m &&& 2 ^ i=if m.testBit i then 2 ^ i else 0:=by
 apply Nat.eq_of_testBit_eq
 intro j
 rw [Nat.testBit_and,Nat.testBit_two_pow]
 by_cases hj:i=j
 ·subst hj
  cases h:m.testBit i <;> simp
 ·cases h:m.testBit i <;> simp [hj]
theorem and_bit (m:Nat) (p:Int):m &&& bit p=if has m p then bit p else 0:=by
 by_cases h:0≤p∧p < 64
 ·rw [bit_in h.1 h.2,has_in h.1 h.2,and_pow]
 ·rw [bit_out h,has_out h];simp
theorem bit_pos {p:Int} (h:0≤p) (h':p < 64):0 < bit p:=by rw [bit_in h h'];exact Nat.two_pow_pos _
theorem has_bit {m:Nat} {p:Int} (h:has m p=true):0 < bit p:=by
 by_cases hp:0≤p∧p < 64
 ·exact bit_pos hp.1 hp.2
 ·rw [has_out hp] at h;cases h
theorem and_bit_ne (m:Nat) (p:Int):(m &&& bit p≠0)↔has m p=true:=by
 rw [and_bit]
 cases h:has m p
 ·simp
 ·have:=has_bit h
  simp
  omega
theorem ofBools_lt:∀ l:List Bool,ofBools l < 2 ^ l.length
 | []=>by simp [ofBools]
 | b :: l=>by
  have:=ofBools_lt l
  rw [ofBools,List.length_cons,Nat.pow_succ]
  split <;> omega
theorem testBit_ofBools:∀ (l:List Bool) (i:Nat),(ofBools l).testBit i=l.getD i false
 | [],i=>by simp [ofBools]
 | b :: l,0=>by
  rw [ofBools,Nat.testBit_zero]
  cases b <;> simp <;> omega
 | b :: l,i+1=>by
  rw [ofBools,Nat.testBit_succ]
  have:((if b then 1 else 0)+2 * ofBools l) / 2=ofBools l:=by split <;> omega
  rw [this,testBit_ofBools l i]
  simp
theorem ofBools_ext {l:List Bool} {m n:Nat} (hl:l.length=n) (hm:m < 2 ^ n) (h:∀ i,i < n→m.testBit i=l.getD i false):m=ofBools l:=by
 apply Nat.eq_of_testBit_eq
 intro i
 rw [testBit_ofBools]
 by_cases hi:i < n
 ·exact h i hi
 ·rw [Nat.testBit_lt_two_pow (Nat.lt_of_lt_of_le hm (Nat.pow_le_pow_right (by omega) (by omega)))]
  simp [List.getD_eq_getElem?_getD,List.getElem?_eq_none (show l.length≤i by omega)]
theorem set_true {l:List Bool} {i:Nat} (hl:l.length=64) (hi:i < 64):ofBools l ||| 2 ^ i=ofBools (l.set i true):=by
 have hm:=ofBools_lt l
 rw [hl] at hm
 refine ofBools_ext (n:=64) (by simpa using hl) (Nat.or_lt_two_pow hm (Nat.pow_lt_pow_right (by omega) hi)) fun j hj=>?_
 rw [Nat.testBit_or,testBit_ofBools,Nat.testBit_two_pow]
 by_cases h:i=j
 ·subst h
  simp [show i < l.length by omega]
 ·simp [h,List.getElem?_set_ne h]
theorem set_false {l:List Bool} {i:Nat} (hl:l.length=64) (hi:i < 64):ofBools l &&& (18446744073709551615 - 2 ^ i)=ofBools (l.set i false):=by
 have hm:=ofBools_lt l
 rw [hl] at hm
 have hp:2 ^ i < 2 ^ 64:=Nat.pow_lt_pow_right (by omega) hi
 refine ofBools_ext (n:=64) (by simpa using hl) (Nat.lt_of_le_of_lt Nat.and_le_left hm) fun j hj=>?_
 rw [Nat.testBit_and,testBit_ofBools]
 have e:(18446744073709551615 - 2 ^ i).testBit j=!(2 ^ i).testBit j:=by
  have:=Nat.testBit_two_pow_sub_succ hp j
  rw [show (2:Nat) ^ 64 - (2 ^ i+1)=18446744073709551615 - 2 ^ i by omega] at this
  rw [this]
  simp [hj]
 rw [e,Nat.testBit_two_pow]
 by_cases h:i=j
 ·subst h
  simp [show i < l.length by omega]
 ·simp [h,List.getElem?_set_ne h]
theorem ofBools_false (n:Nat):ofBools (List.replicate n false)=0:=by
 induction n with
 | zero=>rfl
 | succ n ih=>rw [List.replicate_succ,ofBools,ih];rfl
theorem ofBools_snoc:∀ (l:List Bool) (b:Bool),ofBools (l++[b])=ofBools l+(if b then 2 ^ l.length else 0)
 | [],b=>by cases b <;> rfl
 | x :: l,b=>by
  rw [List.cons_append,ofBools,ofBools_snoc l b,ofBools,List.length_cons,Nat.pow_succ]
  split <;> split <;> omega
end Mark
end Go.Proofs.YtcnmaplopbbmaaaGreat
namespace Go.Proofs.YtcnmaplopbbmaaaGreat
open Go.RowKit
def mk (m:Nat):Value:=.int .u64 (m:Int)
theorem ret_mark {a b:Int} {c:Bool} (h:a=b):Ending.returned (.tuple #[.int .u64 a,.bool c])=.returned (.tuple #[.int .u64 b,.bool c]):=by rw [h]
theorem pow_u64 {k:Nat} (h:2 ^ k≤2 ^ 63):IntKind.u64.wrap (2 ^ k)=((2 ^ k:Nat):Int):=by
 have e:((2:Int) ^ k)=((2 ^ k:Nat):Int):=by simp
 rw [e]
 generalize 2 ^ k=q at h
 exact IntWalk.u64_in _ (by omega)
theorem ret_u64 {a b:Int} (h:a=b):Ending.returned (.int .u64 a)=.returned (.int .u64 b):=by rw [h]
set_option maxRecDepth 100000 in
set_option maxHeartbeats 400000 in
theorem bit_any (p:Int) (w:World):Calls Tryz.prog 71 #[.int .i64 p] w fun e w'=>e=.returned (.int .u64 (Mark.bit p:Int))∧w=w':=by
 by_cases h0:0≤p
 ·by_cases h1:p < 64
  ·have hp:(2:Nat) ^ p.toNat≤2 ^ 63:=Nat.pow_le_pow_right (by omega) (by omega)
   have Hb:Hid (_=_):=Lib.hid (Mark.bit_in h0 h1)
   go_enter Tryz.func71,Tryz.ntmps71
   go_wp2
   go_ret
   exact ⟨ret_u64 (by rw [Hb.out];exact pow_u64 hp),rfl⟩
  ·have Hb:Hid (_=_):=Lib.hid (Mark.bit_out (p:=p) (by omega))
   go_enter Tryz.func71,Tryz.ntmps71
   go_wp2
   go_ret
   exact ⟨ret_u64 (by rw [Hb.out];rfl),rfl⟩
 ·have Hb:Hid (_=_):=Lib.hid (Mark.bit_out (p:=p) (by omega))
  go_enter Tryz.func71,Tryz.ntmps71
  go_wp2
  go_ret
  exact ⟨ret_u64 (by rw [Hb.out];rfl),rfl⟩
set_option maxRecDepth 100000 in
set_option maxHeartbeats 400000 in
theorem has_any (m:Nat) (p:Int) (w:World) (hm:m < 2 ^ 64):Calls Tryz.prog 77 #[.int .u64 (m:Int),.int .i64 p] w fun e w'=>e=.returned (.bool (Mark.has m p))∧w=w':=by
 have hlt:=Mark.bit_lt p
 have hand:=bits_and_u64_nat m (Mark.bit p) (by omega) (by omega)
 go_enter Tryz.func77,Tryz.ntmps77
 go_wp2_with (go_at_call 71;refine (bit_any p _).mono ?_;rintro e w' ⟨rfl,rfl⟩)
 go_ret
 refine ⟨congrArg (fun b=>Ending.returned (.bool b)) ?_,rfl⟩
 have:=Mark.and_bit_ne m p
 cases h:Mark.has m p <;> simp [h] at this ⊢ <;> omega
set_option maxRecDepth 100000 in
set_option maxHeartbeats 400000 in
theorem put_no (m:Nat) (p:Int) (w:World) (hm:m < 2 ^ 64) (h:¬ (0≤p∧p < 64)∨Mark.has m p=true) :
  Calls Tryz.prog 103 #[.int .u64 (m:Int),.int .i64 p] w fun e w'=>e=.returned (.tuple #[.int .u64 (m:Int),.bool false])∧w=w':=by
 have hlt:=Mark.bit_lt p
 have hand:=bits_and_u64_nat m (Mark.bit p) (by omega) (by omega)
 by_cases hz:Mark.bit p=0
 ·have hb:(((Mark.bit p:Nat):Int) == 0)=true:=by simp [hz]
  go_enter Tryz.func103,Tryz.ntmps103
  clear hz
  go_wp2_with (go_at_call 71;refine (bit_any p _).mono ?_;rintro e w' ⟨rfl,rfl⟩)
  go_ret2
  exact ⟨rfl,rfl⟩
 ·have hb:(((Mark.bit p:Nat):Int) == 0)=false:=by simp [hz]
  have hh:Mark.has m p=true:=by
   rcases h with h | h
   ·exact absurd (Mark.bit_out h) hz
   ·exact h
  have hn:(((m &&& Mark.bit p:Nat):Int) != 0)=true:=by
   have:=(Mark.and_bit_ne m p).2 hh
   simp;omega
  go_enter Tryz.func103,Tryz.ntmps103
  clear hz hh h
  go_wp2_with (go_at_call 71;refine (bit_any p _).mono ?_;rintro e w' ⟨rfl,rfl⟩)
  go_ret2
  exact ⟨rfl,rfl⟩
set_option maxRecDepth 100000 in
set_option maxHeartbeats 400000 in
theorem put_yes (m:Nat) (p:Int) (w:World) (hm:m < 2 ^ 64) (h0:0≤p) (h1:p < 64) (h:Mark.has m p=false) :
  Calls Tryz.prog 103 #[.int .u64 (m:Int),.int .i64 p] w fun e w'=>e=.returned (.tuple #[.int .u64 ((m ||| 2 ^ p.toNat:Nat):Int),.bool true])∧w=w':=by
 have hlt:=Mark.bit_lt p
 have hand:=bits_and_u64_nat m (Mark.bit p) (by omega) (by omega)
 have hor:=bits_or_u64_nat m (Mark.bit p) (by omega) (by omega)
 have hb:(((Mark.bit p:Nat):Int) == 0)=false:=by have:=Mark.bit_pos h0 h1;simp;omega
 have hn:(((m &&& Mark.bit p:Nat):Int) != 0)=false:=by
  have:=mt (Mark.and_bit_ne m p).1 (by simp [h])
  simp;omega
 have Hb:Hid (_=_):=Lib.hid (Mark.bit_in h0 h1)
 go_enter Tryz.func103,Tryz.ntmps103
 clear h
 go_wp2_with (go_at_call 71;refine (bit_any p _).mono ?_;rintro e w' ⟨rfl,rfl⟩)
 go_ret2
 exact ⟨ret_mark (by rw [← Hb.out]),rfl⟩
theorem wrap_u64_nat (X:Nat):IntKind.u64.wrap ((X:Int) * 2)=((2 * X % 2 ^ 64:Nat):Int):=by
 rw [IntKind.wrap_u64]
 omega
end Go.Proofs.YtcnmaplopbbmaaaGreat
