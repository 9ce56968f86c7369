/- A region that draws its order and ends in one operation that waits for all others (a store): operation by operation. No program. -/
import Derived.Test.YtcpodmjcgfgmnaaGreatMBase
namespace Go.Proofs.YtcpodmjcgfgmnaaGreat
open Go.RowKit
namespace Flow
section
variable {P:Program} {ops:Array Oper} {Q:Exit→Act→World→Prop} {a0:Act} {C:World→Prop} {R:World→World→Prop} {Fs:List Fact} {S:List (List Nat)} {m:Nat}
end
end Flow
end Go.Proofs.YtcpodmjcgfgmnaaGreat
namespace Go.Proofs.YtcpodmjcgfgmnaaGreat
open Go.RowKit
namespace Flow
def fit3 (m n:Nat) (ops:Array Oper) (S:List (List Nat)):Bool :=
 (ops.size == m+3) &&
 ((List.range (m+2)).all fun i =>
   (match dstOf ops i with | some d=>decide (d < n) && (List.range i).all (fun j=>dstOf ops j != some d) | none=>false) &&
   (match ops[i]? with | some o=>o.after.toList.all (fun e=>!Region.binds .any e || decide (e.on < i)) | none=>false)) &&
 (match ops[m]? with | some o=>o.guard.isNone | none=>false) &&
 (match ops[m+1]? with | some o=>o.guard.isNone | none=>false) &&
 (match ops[m+2]? with
   | some o=>o.dst.isNone && o.guard.isNone && o.after.toList.all (fun e=>!Region.binds .any e || decide (e.on < m+2)) && o.after.toList.any (fun e=>Region.binds .any e && e.on == m) && o.after.toList.any (fun e=>Region.binds .any e && e.on == m+1)
   | none=>false) &&
 ((List.range m).all fun k=>(S.getD m []).contains k) &&
 ((List.range m).all fun i=>(S.getD i []).all fun k=>decide (k < m))
section
variable {P:Program} {ops:Array Oper} {Q:Exit→Act→World→Prop} {a0:Act} {C:World→Prop} {R:World→World→Prop} {Fs:List Fact} {S:List (List Nat)} {m:Nat} {c:Value} {T:Value→World→Prop}
theorem Qu0 {o:Oper} {a:Act} {w w':World} {v:Value} {K:Act→World→Prop} (h:(execOp a.eval o).run P w=.ok (.value v) w') (hK:K (a.put o.dst v) w'):o.wp P a w K Q:=by
 unfold Oper.wp;rw [h];exact hK
theorem Qsu {listed:Array Bool} {a:Act} {w:World} {fuel i:Nat} {o:Oper} (ho:ops[i]?=some o) (hg:o.guard=none) (hi:i∈Region.ready .any ops listed) (hj:∀ j,j∈Region.ready .any ops listed→j=i)
  (h:o.wp P a w (wpAny P .any ops Q fuel (listed.setIfInBounds i true)) Q):wpAny P .any ops Q (fuel+1) listed a w:=by
 refine ⟨fun hr=>(by rw [hr] at hi;cases hi),fun j hjr=>?_⟩;obtain rfl:=hj j hjr;unfold wpOp;have hwant:Region.wanted o (yielded ops a.tmps)=true:=want_none hg;simp only [ho,hwant,if_true];exact .inl h
theorem Qy9 {listed:Array Bool} {a:Act} {w:World} {fuel:Nat} (_hsz:listed.size=ops.size) (h:∀ k,k < ops.size→listed.getD k false=true) (hq:Q .normal a w):wpAny P .any ops Q fuel listed a w:=by
 have hr:Region.ready .any ops listed=[]:=by
  cases hr:Region.ready .any ops listed with
  | nil=>rfl
  | cons j r =>
   have hj:j∈Region.ready .any ops listed:=by rw [hr];simp
   obtain ⟨h1,oj,hoj,_⟩:=mem_ready.1 hj;have:=getD_true_of_false (h j (Array.getElem?_eq_some_iff.1 hoj).1);rw [this] at h1;cases h1
 cases fuel with
 | zero=>exact ⟨hr,hq⟩
 | succ n=>exact ⟨fun _=>hq,fun i hi=>by rw [hr] at hi;cases hi⟩
theorem Qlv {listed:Array Bool} {k:Nat} (h:k < listed.size):(listed.setIfInBounds k true).getD k false=true:=by simp [h]
theorem Qxl {oa of' os:Oper} (hoa:ops[m]?=some oa) (hof:ops[m+1]?=some of') (hos:ops[m+2]?=some os) (hfit:fit3 m a0.tmps.size ops S=true) (hlean:Qtv ops S=true) (hst:Qes R Fs) (hR0:∀ w,R w w) (hC:∀ w w',C w→R w w'→C w')
  (hF:Fs.length=m) (hones:Ones P ops Q a0 C R Fs (ops.toList.take m) S Fs)
  (happ:∀ a w,C w→Off ops a0 a→(∀ k,k < m→Qh5 ops Fs a w k)→∃ v w',(execOp a.eval oa).run P w=.ok (.value v) w'∧T v w')
  (hfa:∀ a w,Off ops a0 a→(execOp a.eval of').run P w=.ok (.value c) w)
  (hend:∀ a w,Off ops a0 a→(∀ d,oa.dst=some d→T (a.eval (.tmp d)) w)→(∀ d,of'.dst=some d→a.eval (.tmp d)=c)→os.wp P a w (fun a' w'=>Q .normal a' w') Q) :
  ∀ (fuel:Nat) (listed:Array Bool) (a:Act) (w:World),listed.size=ops.size→listed.getD m true=false→listed.getD (m+2) true=false→left listed=fuel→C w→Off ops a0 a →
   (∀ k,k < m→listed.getD k false=true→Qh5 ops Fs a w k)→(listed.getD (m+1) false=true→∀ d,of'.dst=some d→a.eval (.tmp d)=c)→(∀ m,listed.getD m false=true→∀ k∈S.getD m [],listed.getD k false=true)→wpAny P .any ops Q fuel listed a w:=by
 simp only [fit3,hoa,hof,hos,Bool.and_eq_true,beq_iff_eq,List.all_eq_true,List.mem_range,List.contains_iff_mem,Option.isNone_iff_eq_none,List.any_eq_true,decide_eq_true_eq] at hfit;obtain ⟨⟨⟨⟨⟨⟨hsize,hshape⟩,hga⟩,hgf⟩,⟨⟨⟨⟨hsd,hsg⟩,hsaf⟩,hsm⟩,hsm1⟩⟩,hall⟩,hlow⟩:=hfit;have hsh:∀ i o,i < m+2→ops[i]?=some o→∃ d,o.dst=some d∧d < a0.tmps.size∧(∀ j,j < i→dstOf ops j≠some d)∧∀ e∈o.after,Region.binds .any e=true→e.on < i:=by
  intro i o hi ho;have h:=hshape i hi;simp only [dstOf,ho,Option.bind_some] at h;cases hd:o.dst with
  | none=>simp [hd] at h
  | some d =>
   simp only [hd,Bool.and_eq_true,decide_eq_true_eq,List.all_eq_true,List.mem_range,bne_iff_ne,Bool.or_eq_true,Bool.not_eq_true'] at h;exact ⟨d,rfl,h.1.1,fun j hj=>h.1.2 j hj,fun e he hb=>(h.2 e (by simpa using he)).resolve_left (by simp [hb])⟩
 have hds:dstOf ops (m+2)=none:=by simp [dstOf,hos,hsd]
 have hdm:∀ i d,dstOf ops i=some d→i < m+2:=by
  intro i d hi;have:i < ops.size:=by
   cases ho:ops[i]? with
   | none=>simp [dstOf,ho] at hi
   | some o=>exact (Array.getElem?_eq_some_iff.1 ho).1
  rcases Nat.lt_or_ge i (m+2) with h | h
  ·exact h
  ·have:i=m+2:=by omega
   subst this;rw [hds] at hi;cases hi
 have hdist:∀ i j d,dstOf ops i=some d→dstOf ops j=some d→i=j:=by
  intro i j d hi hj;have g:∀ i j,dstOf ops i=some d→dstOf ops j=some d→¬ j < i:=by
   intro i j hi hj hlt;cases ho:ops[i]? with
   | none=>simp [dstOf,ho] at hi
   | some o =>
    obtain ⟨d',hd',_,hne,_⟩:=hsh i o (hdm i d hi) ho;have:d'=d:=by simpa [dstOf,ho,hd'] using hi
    subst this;exact hne j hlt hj
  have:=g i j hi hj;have:=g j i hj hi;omega
 obtain ⟨da,hda,hdan,_,hma⟩:=hsh m oa (by omega) hoa;obtain ⟨df,hdf,hdfn,_,hmf⟩:=hsh (m+1) of' (by omega) hof;have hdaf:da≠df:=fun e=>by
  have:=hdist m (m+1) da (by simp [dstOf,hoa,hda]) (by simp [dstOf,hof,hdf,e]);omega
 have offput:∀ {a:Act} {i:Nat} {o:Oper} {d:Tmp} {v:Value},Off ops a0 a→ops[i]?=some o→o.dst=some d→Off ops a0 (a.put (some d) v):=by
  intro a i o d v hoff ho hd;refine ⟨(put_defers _ _ _).trans hoff.defers,(put_size _ _ _).trans hoff.size,fun t ht=>?_⟩;rw [eval_put_ne (fun e=>ht i (by simp [dstOf,ho,hd,e]))];exact hoff.same t ht
 have fin1:∀ (listed:Array Bool) (a:Act) (w:World),listed.size=ops.size→(∀ k,k < m+2→listed.getD k false=true)→listed.getD (m+2) true=false→Off ops a0 a→T (a.eval (.tmp da)) w→a.eval (.tmp df)=c→∀ fuel,left listed=fuel→wpAny P .any ops Q fuel listed a w:=by
  intro listed a w hsz hl hu hoff hT hc fuel hleft;have hw:=hend a w hoff (fun d hd=>by rw [hda] at hd;cases hd;exact hT) (fun d hd=>by rw [hdf] at hd;cases hd;exact hc);obtain ⟨n,rfl⟩:∃ n,fuel=n+1:=⟨fuel - 1,by have:=left_set hu;omega⟩;refine Qsu hos hsg (mem_ready.2 ⟨hu,os,hos,fun e he hb=>hl e.on ?_⟩) (fun j hj=>?_) ?_
  ·have:=hsaf e (by simpa using he);simp [hb] at this;exact this
  ·obtain ⟨h1,o,ho,_⟩:=mem_ready.1 hj;have hjs:=(Array.getElem?_eq_some_iff.1 ho).1;rcases Nat.lt_or_ge j (m+2) with h | h
   ·have:=getD_true_of_false (hl j h);rw [this] at h1;cases h1
   ·omega
  ·refine Oper.wp_mono (fun a' w' hq=>?_) hw;refine Qy9 (by simpa using hsz) (fun k hk=>?_) hq;by_cases e:k=m+2
   ·subst e;exact Qlv (by omega)
   ·exact getD_set_true (hl k (by omega))
 have fin2:∀ (listed:Array Bool) (a:Act) (w:World),listed.size=ops.size→(∀ k,k < m+1→listed.getD k false=true)→listed.getD (m+2) true=false→Off ops a0 a→T (a.eval (.tmp da)) w→(listed.getD (m+1) false=true→a.eval (.tmp df)=c)→∀ fuel,left listed=fuel→wpAny P .any ops Q fuel listed a w:=by
  intro listed a w hsz hl hu hoff hT hc fuel hleft;cases h1:listed.getD (m+1) false with
  | true=>exact fin1 listed a w hsz (fun k hk=>by by_cases e:k=m+1;(subst e;exact h1);exact hl k (by omega)) hu hoff hT (hc h1) fuel hleft
  | false =>
   have hu1:listed.getD (m+1) true=false:=by
    have:m+1 < listed.size:=by omega
    simp [this] at h1 ⊢;exact h1
   obtain ⟨n,rfl⟩:∃ n,fuel=n+1:=⟨fuel - 1,by have:=left_set hu1;omega⟩;refine Qsu hof hgf (mem_ready.2 ⟨hu1,of',hof,fun e he hb=>hl e.on (hmf e he hb)⟩) (fun j hj=>?_) ?_
   ·obtain ⟨g1,o,ho,g2⟩:=mem_ready.1 hj;have hjs:=(Array.getElem?_eq_some_iff.1 ho).1;rcases Nat.lt_or_ge j (m+1) with h | h
    ·have:=getD_true_of_false (hl j h);rw [this] at g1;cases g1
    ·rcases (by omega:j=m+1∨j=m+2) with h | h
     ·exact h
     ·exfalso;subst h;rw [hos] at ho;cases ho;obtain ⟨e,he,hb,hem⟩:=hsm1;have:=g2 e (by simpa using he) hb;rw [hem,h1] at this;cases this
   ·refine Qu0 (hfa a w hoff) ?_;rw [hdf];refine fin1 _ _ _ (by simpa using hsz) (fun k hk=>?_) ?_ (offput hoff hof hdf) ?_ (eval_put_same (by rw [hoff.size];exact hdfn)) n (by have:=left_set hu1;omega)
    ·by_cases e:k=m+1
     ·subst e;exact Qlv (by omega)
     ·exact getD_set_true (hl k (by omega))
    ·rw [getD_set_ne true (by omega)];exact hu
    ·rw [eval_put_ne hdaf.symm];exact hT
 intro fuel;induction fuel with
 | zero =>
  intro listed a w hsz hu _ hl hCw hoff hk _ _;exfalso;have:=left_set hu;omega
 | succ fuel ih =>
  intro listed a w hsz hu hu2 hl hCw hoff hk hkf hcl;have hum:listed.getD m false=false:=by
   have:m < listed.size:=by omega
   simp [this] at hu ⊢;exact hu
  have hus:∀ o,ops[m+2]?=some o→(∀ e∈o.after,Region.binds .any e=true→listed.getD e.on false=true)→False:=by
   intro o ho h;rw [hos] at ho;cases ho;obtain ⟨e,he,hb,hem⟩:=hsm;have:=h e (by simpa using he) hb;rw [hem,hum] at this;cases this
  have hfull:Region.ready .any ops listed=[]→False:=by
   intro hr;have key:∀ n i,i < n→i < m+1→listed.getD i false=true:=by
    intro n;induction n with
    | zero=>intro i h;omega
    | succ n ihn =>
     intro i hi hio;by_cases hin:i < n
     ·exact ihn i hin hio
     ·cases hl2:listed.getD i false with
      | true=>rfl
      | false =>
       exfalso;have hlt:i < ops.size:=by omega
       have ho:ops[i]?=some ops[i]:=by simp [hlt]
       obtain ⟨_,_,_,_,hb⟩:=hsh i _ (by omega) ho;have:i∈Region.ready .any ops listed:=mem_ready.2 ⟨by
        have:i < listed.size:=by omega
        simpa [this] using hl2,_,ho,fun e he hbe=>ihn e.on (by have:=hb e he hbe;omega) (by have:=hb e he hbe;omega)⟩
       rw [hr] at this;cases this
   have:=key (m+1) m (by omega) (by omega);rw [hum] at this;cases this
  refine ⟨fun hr=>(hfull hr).elim,fun i hi=>?_⟩;obtain ⟨hun,o,ho,hal⟩:=mem_ready.1 hi;have hio:i < ops.size:=(Array.getElem?_eq_some_iff.1 ho).1;have hSi:∀ k∈S.getD i [],listed.getD k false=true:=by
   intro k hkS;have h:=(List.all_eq_true.1 hlean) i (by simpa using hio);have h:=(List.all_eq_true.1 h) k hkS;simp only [ho,List.any_eq_true,Bool.and_eq_true,Bool.or_eq_true,beq_iff_eq,List.contains_iff_mem] at h;obtain ⟨e,he,hb,hek⟩:=h;have hle:=hal e (by simpa using he) hb;rcases hek with rfl | hek
   ·exact hle
   ·exact hcl e.on hle k hek
  have hne2:i≠m+2:=by
   rintro rfl;exact hus o ho hal
  by_cases him:i=m
  ·subst him;rw [hoa] at ho;cases ho;have hlk:∀ k,k < i→listed.getD k false=true:=fun k hk2=>hSi k (hall k hk2);obtain ⟨v,w',hrun,hT⟩:=happ a w hCw hoff fun k hk2=>hk k hk2 (hlk k hk2);unfold wpOp;have hwant:Region.wanted oa (yielded ops a.tmps)=true:=want_none hga;simp only [hoa,hwant,if_true];refine .inl (Qu0 hrun ?_);rw [hda];refine fin2 _ _ _ (by simpa using hsz) (fun k hk2=>?_) ?_ (offput hoff hoa hda) ?_ (fun h=>?_) fuel (by have:=left_set hun;omega)
   ·by_cases e:k=i
    ·subst e;exact Qlv (by omega)
    ·exact getD_set_true (hlk k (by omega))
   ·rw [getD_set_ne true (by omega)];exact hu2
   ·rw [eval_put_same (by rw [hoff.size];exact hdan)];exact hT
   ·rw [getD_set_ne false (by omega)] at h;rw [eval_put_ne hdaf];exact hkf h df hdf
  ·have hcl':∀ j,listed.getD j false=true→∀ k∈S.getD j [],(listed.setIfInBounds i true).getD k false=true:=fun j hj k hkS=>getD_set_true (hcl j hj k hkS);have hclos:∀ j,(listed.setIfInBounds i true).getD j false=true→∀ k∈S.getD j [],(listed.setIfInBounds i true).getD k false=true:=by
    intro j hj k hkS;by_cases e:j=i
    ·subst e;exact getD_set_true (hSi k hkS)
    ·rw [getD_set_ne false (Ne.symm e)] at hj;exact hcl' j hj k hkS
   by_cases hif:i=m+1
   ·subst hif;rw [hof] at ho;cases ho;unfold wpOp;have hwant:Region.wanted of' (yielded ops a.tmps)=true:=want_none hgf;simp only [hof,hwant,if_true];refine .inl (Qu0 (hfa a w hoff) ?_);rw [hdf];refine ih _ _ _ (by simpa using hsz) ?_ ?_ (by have:=left_set hun;omega) hCw (offput hoff hof hdf) (fun k hkm hkl d' hd'=>?_) (fun _ d hd=>?_) hclos
    ·rw [getD_set_ne true (by omega)];exact hu
    ·rw [getD_set_ne true (by omega)];exact hu2
    ·have hdd:df≠d':=fun e'=>by
      have:=hdist (m+1) k d' (by simp [dstOf,hof,hdf,e']) hd';omega
     rw [eval_put_ne hdd];rw [getD_set_ne false (by omega)] at hkl;exact hk k hkm hkl d' hd'
    ·rw [hdf] at hd;cases hd;exact eval_put_same (by rw [hoff.size];exact hdfn)
   ·have him':i < m:=by omega
    obtain ⟨d,hd,hdn,_,_⟩:=hsh i o (by omega) ho;have hone:=Qp4 hones i o (by rw [List.getElem?_take_of_lt him'];simpa using ho) a w hCw hoff (Qjn fun k hkS=>hk k (by
     exact hlow i him' k hkS) (hSi k hkS))
    have next:∀ v w',R w w'→holds (Fs.getD i (.inr fun _ _=>True)) v w'→wpAny P .any ops Q fuel (listed.setIfInBounds i true) (a.put o.dst v) w':=by
     intro v w' hR hv;rw [hd];refine ih _ _ _ (by simpa using hsz) ?_ ?_ (by have:=left_set hun;omega) (hC _ _ hCw hR) (offput hoff ho hd) (fun k hkm hkl d' hd'=>?_) (fun hl1 d' hd'=>?_) hclos
     ·rw [getD_set_ne true him];exact hu
     ·rw [getD_set_ne true hne2];exact hu2
     ·by_cases e:k=i
      ·subst e;have:d'=d:=by simpa [dstOf,ho,hd] using hd'.symm
       subst this;rw [eval_put_same (by rw [hoff.size];exact hdn)];exact hv
      ·have hdd:d≠d':=fun e'=>e (hdist k i d' hd' (by simp [dstOf,ho,hd,e']));rw [eval_put_ne hdd];rw [getD_set_ne false (Ne.symm e)] at hkl;exact Qb7 hst k _ _ _ hR (hk k hkm hkl d' hd')
     ·have hdd:d≠d':=fun e'=>by
       have:=hdist i (m+1) d' (by simp [dstOf,ho,hd,e']) (by simp [dstOf,hof,hd']);omega
      rw [eval_put_ne hdd];rw [getD_set_ne false (by omega)] at hl1;exact hkf hl1 d' hd'
    unfold wpOp;simp only [ho];rcases hone with ⟨hw,hone⟩ | ⟨hw,hone⟩
    ·simp only [hw,if_true];exact .inl (Oper.wp_mono (fun a' w' ⟨v,e,hR,hv⟩=>by subst e;exact next v w' hR hv) hone)
    ·simp only [hw,Bool.false_eq_true,if_false];exact next undef w (hR0 w) hone
theorem region_tail3 {id:Nat} {w:World} (m:Nat) {oa of' os:Oper} (hm:P.follows .mixedOrders=true) (hoa:ops[m]?=some oa) (hof:ops[m+1]?=some of') (hos:ops[m+2]?=some os) (hfit:fit3 m a0.tmps.size ops S=true) (hlean:Qtv ops S=true) (hF:Fs.length=m)
  (hst:Qes R Fs) (hR0:∀ w,R w w) (hC:∀ w w',C w→R w w'→C w') (h0:C w.drew)
  (hones:Ones P ops Q a0 C R Fs (ops.toList.take m) S Fs)
  (happ:∀ a w,C w→Off ops a0 a→(∀ k,k < m→Qh5 ops Fs a w k)→∃ v w',(execOp a.eval oa).run P w=.ok (.value v) w'∧T v w')
  (hfa:∀ a w,Off ops a0 a→(execOp a.eval of').run P w=.ok (.value c) w)
  (hend:∀ w,ends (fun _ a w=>os.wp P a w (fun a' w'=>Q .normal a' w') Q) (ops.toList.take (m+2)) (List.replicate m (.inr fun _ _=>True)++[.inr T,.inl c]) a0 w):(Code.region id ops true).wp P Q a0 w:=by
 have hf:=hfit;simp only [fit3,hoa,hof,hos,Bool.and_eq_true,beq_iff_eq,List.all_eq_true,List.mem_range] at hf;obtain ⟨⟨⟨⟨⟨⟨hsize,hshape⟩,_⟩,_⟩,_⟩,_⟩,_⟩:=hf;refine wp_region_any hm (Qxl (T:=T) (c:=c) hoa hof hos hfit hlean hst hR0 hC hF hones happ hfa (fun a w hoff hT hc=>?_) ops.size (Array.replicate ops.size false) a0 w.drew (by simp) (by simp [hsize]) (by simp [hsize])
  (by simp [left,List.countP_replicate]) h0 ⟨rfl,rfl,fun _ _=>rfl⟩
  (fun k _ hk=>by rcases Nat.lt_or_ge k ops.size with h | h <;> simp [h] at hk)
  (fun hk=>by rcases Nat.lt_or_ge (m+1) ops.size with h | h <;> simp [h] at hk)
  (fun m hk=>by rcases Nat.lt_or_ge m ops.size with h | h <;> simp [h] at hk))
 refine Qm1 (Q:=fun _ a w=>os.wp P a w (fun a' w'=>Q .normal a' w') Q) (ops.toList.take (m+2)) (List.replicate m (.inr fun _ _=>True)++[(Sum.inr T:Fact),(Sum.inl c:Fact)]) a0 (fun i oi hoi=>?_) (by simp [hsize]) hoff.defers.symm hoff.size.symm (fun t ht=>(hoff.same t fun k hk2=>?_).symm) (hend w)
 ·have him:i < m+2:=by
   have:=(List.getElem?_eq_some_iff.1 hoi).1;simp at this;omega
  rw [List.getElem?_take_of_lt him] at hoi;have ho':ops[i]?=some oi:=by simpa using hoi
  have h:=hshape i him;simp only [dstOf,ho',Option.bind_some] at h;cases hd:oi.dst with
  | none=>simp [hd] at h
  | some d =>
   simp only [hd,Bool.and_eq_true,decide_eq_true_eq] at h;refine ⟨d,rfl,by rw [hoff.size];exact h.1.1,?_⟩;rcases (by omega:i < m∨i=m∨i=m+1) with e | e | e
   ·have:(List.replicate m (Sum.inr fun _ _=>True:Fact)++[(Sum.inr T:Fact),(Sum.inl c:Fact)]).getD i (.inr fun _ _=>True)=.inr fun _ _=>True:=by
     rw [List.getD_eq_getElem?_getD,List.getElem?_append_left (by simpa using e),List.getElem?_replicate,if_pos e];rfl
    rw [this];trivial
   ·subst e;have:(List.replicate i (Sum.inr fun _ _=>True:Fact)++[(Sum.inr T:Fact),(Sum.inl c:Fact)]).getD i (.inr fun _ _=>True)=.inr T:=by
     rw [List.getD_eq_getElem?_getD,List.getElem?_append_right (by simp)];simp
    rw [this];rw [hoa] at ho';cases ho';exact hT d hd
   ·subst e;have:(List.replicate m (Sum.inr fun _ _=>True:Fact)++[(Sum.inr T:Fact),(Sum.inl c:Fact)]).getD (m+1) (.inr fun _ _=>True)=.inl c:=by
     rw [List.getD_eq_getElem?_getD,List.getElem?_append_right (by simp)];simp
    rw [this];rw [hof] at ho';cases ho';exact hc d hd
 ·rcases Nat.lt_or_ge k (m+2) with h | h
  ·cases hok:ops[k]? with
   | none=>simp [dstOf,hok] at hk2
   | some ok =>
    refine ht ok ?_ (by simpa [dstOf,hok] using hk2);refine List.mem_of_getElem? (i:=k) ?_;rw [List.getElem?_take_of_lt h];simpa using hok
  ·exfalso;cases hok:ops[k]? with
   | none=>simp [dstOf,hok] at hk2
   | some ok =>
    have hkl:=(Array.getElem?_eq_some_iff.1 hok).1;have:k=m+2:=by omega
    subst this;rw [hos] at hok;cases hok;have hf2:=hfit;simp only [fit3,hoa,hof,hos,Bool.and_eq_true,Option.isNone_iff_eq_none] at hf2;have:=hf2.1.1.2.1.1.1.1;simp [dstOf,hos,this] at hk2
end
end Flow
theorem exec_append {P:Program} {o:Oper} {ρ:Operand→Value} {w:World} (s x:Operand) (t:TypeId) (ho:o.op=.call { callee:=.builtin .append,args:=#[s,x],argTypes:=#[t,t] })
  (e:TypeId) (i:TypeInfo) (z:Value) (size bytes:Nat) (ht:P.underlying t=some (.slice e)) (hi:P.info? e=some i) (hz:i.zero=some z)
  (hsize:i.size=size) (hby:i.bytes=bytes) (hzs:z.cells.size=size) (hsz:0 < size)
  (v:Value) (n:Nat) (xs:List Value) (hs:ρ s=v) (hown:w.ownsRow 0 e size v n xs)
  (ad:Addr) (m c:Nat) (news:List Value) (hx:ρ x=.slice (some ad) m c) (hl:news.length=m * size) (hnews:∀ j u,news[j]?=some u→w.cell? (ad.add j)=some u) (h1:∀ u∈news,u.oneCell'=true)
  (h63:n+m≤maxLen) (hbytes:(n+m) * bytes≤140737488355328) :
  ∃ v' w',(execOp ρ o).run P w=.ok (.value v') w'∧w'.ownsRow 0 e size v' (n+m) (xs++news)∧w.grownBy w' v.ownBlock∧Moved w v v':=by
 obtain ⟨v',w',hr,h2,h3,_⟩:=run_append_own (P:=P) w 0 t o.type e i z size bytes ht hi hz hsize hby hzs hsz v n xs hown ad m c news hl hnews h1 h63 hbytes (Nat.zero_le _);have hm:=Qjc w 0 t o.type e i z size bytes ht hi hz hsize hby v n xs hown ad m c news hl hnews h1 h63 hbytes hr;refine ⟨v',w',?_,h2,h3,hm.1⟩;unfold execOp;simp only [ho,resolve,invoke,builtin,Sem.run_bind,Sem.run_pure,Result.andThen_ok,List.map_toArray,List.map_cons,List.map_nil,hs,hx,hr]
theorem Qg0 {P:Program} {o:Oper} {ρ:Operand→Value} {w:World} {T:Value→World→Prop} (s x:Operand) (t:TypeId) (ho:o.op=.call { callee:=.builtin .append,args:=#[s,x],argTypes:=#[t,t] })
  (e:TypeId) (i:TypeInfo) (z:Value) (size bytes:Nat) (ht:P.underlying t=some (.slice e)) (hi:P.info? e=some i) (hz:i.zero=some z)
  (hsize:i.size=size) (hby:i.bytes=bytes) (hzs:z.cells.size=size) (hsz:0 < size)
  (v:Value) (n:Nat) (xs:List Value) (hs:ρ s=v) (hown:w.ownsRow 0 e size v n xs)
  (ad:Addr) (m c:Nat) (news:List Value) (hx:ρ x=.slice (some ad) m c) (hl:news.length=m * size) (hnews:∀ j u,news[j]?=some u→w.cell? (ad.add j)=some u) (h1:∀ u∈news,u.oneCell'=true)
  (h63:n+m≤maxLen) (hbytes:(n+m) * bytes≤140737488355328) (hT:∀ v' w',w'.ownsRow 0 e size v' (n+m) (xs++news)→w.grownBy w' v.ownBlock→Moved w v v'→T v' w') :
  ∃ v' w',(execOp ρ o).run P w=.ok (.value v') w'∧T v' w':=by
 obtain ⟨v',w',h,h2,h3,h4⟩:=exec_append s x t ho e i z size bytes ht hi hz hsize hby hzs hsz v n xs hs hown ad m c news hx hl hnews h1 h63 hbytes;exact ⟨v',w',h,hT v' w' h2 h3 h4⟩
theorem Qht {w:World} {B e sz:Nat} {v:Value} {n:Nat} {xs:List Value} (h:w.ownsRow 0 e sz v n xs) (hb:∀ g,v.ownBlock=some g→B≤g):w.ownsRow B e sz v n xs:=by
 refine ⟨h.1,?_⟩;rcases h.2 with h0 | ⟨g,cap,cur,h1,_,h3⟩
 ·exact .inl h0
 ·exact .inr ⟨g,cap,cur,h1,hb g (by rw [h1];rfl),h3⟩
theorem Qhs {w:World} {B e sz:Nat} {v:Value} {n:Nat} {xs:List Value} (h:w.ownsRow B e sz v n xs):w.ownsRow 0 e sz v n xs:=by
 refine ⟨h.1,?_⟩;rcases h.2 with h0 | ⟨g,cap,cur,h1,_,h3⟩
 ·exact .inl h0
 ·exact .inr ⟨g,cap,cur,h1,Nat.zero_le _,h3⟩
end Go.Proofs.YtcpodmjcgfgmnaaGreat
namespace Go.Proofs.YtcpodmjcgfgmnaaGreat
open Go.RowKit
namespace Flow
def seat (o:Oper):Option Tmp:=match o.dst with
 | some d=>some d
 | none=>match o.op with
  | .store _ (.tmp s) _=>some s
  | _=>none
def Qch (ops:Array Oper) (k:Nat):Option Tmp:=(ops[k]?).bind seat
def Qjj (ops:Array Oper) (Fs:List Fact) (a:Act) (w:World) (k:Nat):Prop :=
 ∀ d,Qch ops k=some d→holds (Fs.getD k (.inr fun _ _=>True)) (a.eval (.tmp d)) w
def Qgz (ops:Array Oper) (Fs:List Fact) (a:Act) (w:World):List Nat→Prop
 | []=>True
 | k :: r=>Qjj ops Fs a w k∧Qgz ops Fs a w r
theorem Qla {ops:Array Oper} {Fs:List Fact} {a:Act} {w:World}:∀ {l:List Nat},(∀ k∈l,Qjj ops Fs a w k)→Qgz ops Fs a w l
 | [],_=>trivial
 | k :: r,h=>⟨h k (by simp),Qla fun j hj=>h j (by simp [hj])⟩
def told (o:Oper) (f:Fact) (a:Act) (v:Value) (w':World):Prop:=match o.dst with
 | some _=>holds f v w'
 | none=>∀ s,seat o=some s→holds f (a.eval (.tmp s)) w'
def OneS (P:Program) (ops:Array Oper) (Q:Exit→Act→World→Prop) (a0:Act) (C:Act→World→Prop) (Fs:List Fact) (i:Nat) (ks:List Nat) (f:Fact) (o:Oper):Prop :=
 ∀ a w,C a w→Off ops a0 a→Qgz ops Fs a w ks →
  (Region.wanted o (yielded ops a.tmps)=true∧o.wp P a w (fun a' w'=>∃ v,a'=a.put o.dst v∧C a' w'∧(∀ k,k≠i→(∀ d,o.dst=some d→Qch ops k≠some d)→Qjj ops Fs a w k→Qjj ops Fs a' w' k)∧told o f a v w') Q) ∨
  (Region.wanted o (yielded ops a.tmps)=false∧o.dst.isSome=true∧C (a.put o.dst undef) w∧holds f undef w)
def OnesS (P:Program) (ops:Array Oper) (Q:Exit→Act→World→Prop) (a0:Act) (C:Act→World→Prop) (Fs:List Fact):Nat→List Oper→List (List Nat)→List Fact→Prop
 | i,o :: l,ks :: S,f :: F=>OneS P ops Q a0 C Fs i ks f o∧OnesS P ops Q a0 C Fs (i+1) l S F
 | _,[],_,_=>True
 | _,_,_,_=>False
theorem OnesS.cons {P:Program} {ops:Array Oper} {Q:Exit→Act→World→Prop} {a0:Act} {C:Act→World→Prop} {Fs:List Fact} {i:Nat} {o:Oper} {l:List Oper} {ks:List Nat} {S:List (List Nat)} {f:Fact} {F:List Fact}
  (h:OneS P ops Q a0 C Fs i ks f o) (k:OnesS P ops Q a0 C Fs (i+1) l S F):OnesS P ops Q a0 C Fs i (o :: l) (ks :: S) (f :: F):=⟨h,k⟩
section
end
end Flow
end Go.Proofs.YtcpodmjcgfgmnaaGreat
namespace Go.Proofs.YtcpodmjcgfgmnaaGreat
open Go.RowKit
namespace Flow
def Qs1 (D S:List (List Nat)) (E:List Nat) (k i:Nat):Bool:=E.contains k || (List.range D.length).any fun m=>m != i && !(S.getD i []).contains m && (D.getD m []).contains k
structure OffG (ops:Array Oper) (S:List (List Nat)) (a0:Act) (L:Nat→Bool) (a:Act):Prop extends Off ops a0 a where
 still:∀ t,(∀ k,dstOf ops k=some t→L k=false)→a.eval (.tmp t)=a0.eval (.tmp t)
 cl:∀ m,L m=true→∀ k∈S.getD m [],L k=true
def before (ops:Array Oper) (S:List (List Nat)) (t:Tmp) (i:Nat):Bool:=(List.range ops.size).all fun k=>dstOf ops k != some t || (S.getD k []).contains i
theorem OffG.at2 {ops:Array Oper} {S:List (List Nat)} {a0:Act} {L:Nat→Bool} {a:Act} (h:OffG ops S a0 L a) (t:Tmp) (i:Nat) (hi:L i=false) (hb:before ops S t i=true):a.eval (.tmp t)=a0.eval (.tmp t):=by
 refine h.still t fun k hk=>?_;have hks:k < ops.size:=by
  rcases Nat.lt_or_ge k ops.size with h | h
  ·exact h
  ·simp [dstOf,h] at hk
 have h1:=(List.all_eq_true.1 hb) k (by simpa using hks);simp only [hk,bne_self_eq_false,Bool.false_or,List.contains_iff_mem] at h1;cases hL:L k with
 | false=>rfl
 | true=>rw [h.cl k hL i h1] at hi;cases hi
def ad (L:Nat→Bool) (i:Nat):Nat→Bool:=fun k=>k == i || L k
def OneG (P:Program) (ops:Array Oper) (Q:Exit→Act→World→Prop) (a0:Act) (C:(Nat→Bool)→World→Prop) (Fs:List Fact) (D S:List (List Nat)) (E:List Nat) (i:Nat) (f:Fact) (o:Oper):Prop :=
 ∀ L a w,C L w→L i=false→OffG ops S a0 L a→Qgz ops Fs a w (D.getD i []) →
  (Region.wanted o (yielded ops a.tmps)=true∧o.wp P a w (fun a' w'=>∃ v,a'=a.put o.dst v∧C (ad L i) w'∧(∀ k,k≠i→Qs1 D S E k i=true→(S.getD k []).contains i=false→∀ u,holds (Fs.getD k (.inr fun _ _=>True)) u w→holds (Fs.getD k (.inr fun _ _=>True)) u w')∧told o f a v w') Q) ∨
  (Region.wanted o (yielded ops a.tmps)=false∧o.dst.isSome=true∧C (ad L i) w∧holds f undef w)
def OnesG (P:Program) (ops:Array Oper) (Q:Exit→Act→World→Prop) (a0:Act) (C:(Nat→Bool)→World→Prop) (Fs:List Fact) (D S:List (List Nat)) (E:List Nat):Nat→List Oper→List Fact→Prop
 | i,o :: l,f :: F=>OneG P ops Q a0 C Fs D S E i f o∧OnesG P ops Q a0 C Fs D S E (i+1) l F
 | _,[],_=>True
 | _,_,_=>False
theorem OnesG.cons {P:Program} {ops:Array Oper} {Q:Exit→Act→World→Prop} {a0:Act} {C:(Nat→Bool)→World→Prop} {Fs:List Fact} {D S:List (List Nat)} {E:List Nat} {i:Nat} {o:Oper} {l:List Oper} {f:Fact} {F:List Fact}
  (h:OneG P ops Q a0 C Fs D S E i f o) (k:OnesG P ops Q a0 C Fs D S E (i+1) l F):OnesG P ops Q a0 C Fs D S E i (o :: l) (f :: F):=⟨h,k⟩
theorem Qr2 {P:Program} {ops:Array Oper} {Q:Exit→Act→World→Prop} {a0:Act} {C:(Nat→Bool)→World→Prop} {Fs:List Fact} {D S:List (List Nat)} {E:List Nat} :
  ∀ {l:List Oper} {F:List Fact} {n:Nat},OnesG P ops Q a0 C Fs D S E n l F→∀ i o,l[i]?=some o→OneG P ops Q a0 C Fs D S E (n+i) (F.getD i (.inr fun _ _=>True)) o
 | [],_,_,_,i,o,h=>by simp at h
 | x :: l,[],_,h,_,_,_=>h.elim
 | x :: l,f :: F,n,h,0,o,ho=>by simp at ho;subst ho;exact h.1
 | x :: l,f :: F,n,h,i+1,o,ho=>by
  have:=Qr2 h.2 i o (by simpa using ho);rw [show n+(i+1)=n+1+i by omega];exact this
def Qdo (Q:Exit→Act→World→Prop) (E:List Nat):Nat→List Oper→List Fact→Act→World→Prop
 | i,o :: l,f :: F,a,w=>match o.dst with
  | some d=>match f with
   | .inl c=>Qdo Q E (i+1) l F (a.put (some d) c) w
   | .inr Φ=>∀ v,(E.contains i=true→Φ v w)→Qdo Q E (i+1) l F (a.put (some d) v) w
  | none=>(∀ s,seat o=some s→E.contains i=true→holds f (a.eval (.tmp s)) w)→Qdo Q E (i+1) l F a w
 | _,_,_,a,w=>Q .normal a w
def Zco (n:Nat) (ops:Array Oper) (D S:List (List Nat)):Bool :=
 ((List.range ops.size).all fun i =>
   (match dstOf ops i with
     | some d=>decide (d < n) && (List.range i).all (fun j=>dstOf ops j != some d)
     | none=>match Qch ops i with
      | some s=>(List.range ops.size).all fun j=>dstOf ops j != some s || (decide (j < i) && (S.getD i []).contains j)
      | none=>false) &&
   (match ops[i]? with | some o=>o.after.toList.all (fun e=>!Region.binds .any e || decide (e.on < i)) | none=>false)) &&
 (List.range ops.size).all (fun i=>(D.getD i []).all fun k=>(S.getD i []).contains k) && decide (D.length=ops.size)
theorem Qjz {Q:Exit→Act→World→Prop} {a:Act} {w:World} {E:List Nat}:∀ (l:List Oper) (F:List Fact) (n:Nat) (b:Act),
  (∀ i o,l[i]?=some o→(∃ d,o.dst=some d∧d < a.tmps.size∧(∀ c,F.getD i (.inr fun _ _=>True)=.inl c→a.eval (.tmp d)=c)∧(E.contains (n+i)=true→holds (F.getD i (.inr fun _ _=>True)) (a.eval (.tmp d)) w))∨(o.dst=none∧∀ s,seat o=some s→E.contains (n+i)=true→holds (F.getD i (.inr fun _ _=>True)) (a.eval (.tmp s)) w)) →
  (∀ (i:Nat) (o:Oper) (s:Tmp),l[i]?=some o→o.dst=none→seat o=some s→∀ (j:Nat) (o':Oper),i≤j→l[j]?=some o'→o'.dst≠some s) →
  l.length≤F.length→b.defers=a.defers→b.tmps.size=a.tmps.size→(∀ t,(∀ o∈l,o.dst≠some t)→b.eval (.tmp t)=a.eval (.tmp t))→Qdo Q E n l F b w→Q .normal a w
 | [],_,n,b,_,_,_,hd,hs,he,h=>by
  have:b=a:=Qxn hd hs fun t=>he t (by simp);subst this;simpa [Qdo] using h
 | o :: l,[],n,b,_,_,hl,_,_,_,_=>by simp at hl
 | o :: l,f :: F,n,b,hk,hq,hl,hd,hs,he,h=>by
  have hk':∀ i o',l[i]?=some o'→(∃ d,o'.dst=some d∧d < a.tmps.size∧(∀ c,F.getD i (.inr fun _ _=>True)=.inl c→a.eval (.tmp d)=c)∧(E.contains (n+1+i)=true→holds (F.getD i (.inr fun _ _=>True)) (a.eval (.tmp d)) w))∨(o'.dst=none∧∀ s,seat o'=some s→E.contains (n+1+i)=true→holds (F.getD i (.inr fun _ _=>True)) (a.eval (.tmp s)) w) :=
   fun i o' ho'=>by
    have:=hk (i+1) o' (by simpa using ho');rw [show n+(i+1)=n+1+i by omega] at this;exact this
  have hq':∀ (i:Nat) (o':Oper) (s:Tmp),l[i]?=some o'→o'.dst=none→seat o'=some s→∀ (j:Nat) (o'':Oper),i≤j→l[j]?=some o''→o''.dst≠some s :=
   fun i o' s h1 h2 h3 j o'' hij h4=>hq (i+1) o' s (by simpa using h1) h2 h3 (j+1) o'' (by omega) (by simpa using h4)
  rcases hk 0 o rfl with ⟨d,hod,hdn,hv,hf⟩ | ⟨hod,hf⟩
  ·have go:Qdo Q E (n+1) l F (b.put (some d) (a.eval (.tmp d))) w→Q .normal a w:=fun h=>by
    refine Qjz l F (n+1) _ hk' hq' (by simpa using hl) ((put_defers _ _ _).trans hd) ((put_size _ _ _).trans hs) (fun t ht=>?_) h;by_cases e:d=t
    ·subst e;rw [eval_put_same (by rw [hs];exact hdn)]
    ·rw [eval_put_ne e];refine he t fun o' ho'=>?_;rcases List.mem_cons.1 ho' with rfl | ho'
     ·rw [hod];simpa using e
     ·exact ht o' ho'
   cases f with
   | inl c =>
    have e:a.eval (.tmp d)=c:=hv c rfl;rw [e] at go;simp only [Qdo,hod] at h;exact go h
   | inr Φ =>
    simp only [Qdo,hod] at h;exact go (h _ hf)
  ·simp only [Qdo,hod] at h;refine Qjz l F (n+1) b hk' hq' (by simpa using hl) hd hs (fun t ht=>he t fun o' ho'=>?_) (h fun s hss=>?_)
   ·rcases List.mem_cons.1 ho' with rfl | ho'
    ·rw [hod];simp
    ·exact ht o' ho'
   ·rw [he s (fun o' ho'=>by
     obtain ⟨j,hj⟩:=List.mem_iff_getElem?.1 ho';exact hq 0 o s rfl hod hss j o' (by omega) hj)]
    exact hf s hss
section
variable {P:Program} {ops:Array Oper} {Q:Exit→Act→World→Prop} {a0:Act} {C:(Nat→Bool)→World→Prop} {Fs:List Fact} {D S:List (List Nat)} {E:List Nat}
def Zcg (ops:Array Oper) (Fs:List Fact) (D:List (List Nat)) (E:List Nat) (listed:Array Bool) (a:Act) (w:World) (k:Nat):Prop :=
 (∀ d c,dstOf ops k=some d→Fs.getD k (.inr fun _ _=>True)=.inl c→a.eval (.tmp d)=c) ∧
 ((E.contains k=true∨∃ m,m < D.length∧listed.getD m false=false∧k∈D.getD m [])→Qjj ops Fs a w k)
theorem Qkf {listed:Array Bool} {i n:Nat} (h:i < n) (hs:listed.size=n):(listed.setIfInBounds i true).getD i false=true:=by
 simp [show i < listed.size by omega]
theorem Zbo (hfit:Zco a0.tmps.size ops D S=true) (hlean:Qtv ops S=true) (hF:Fs.length=ops.size)
  (hones:OnesG P ops Q a0 C Fs D S E 0 ops.toList Fs) (hend:∀ L w,(∀ k,k < ops.size→L k=true)→C L w→Qdo Q E 0 ops.toList Fs a0 w) :
  ∀ (fuel:Nat) (listed:Array Bool) (a:Act) (w:World),listed.size=ops.size→left listed=fuel→C (fun k=>listed.getD k false) w→Off ops a0 a→(∀ t,(∀ k,dstOf ops k=some t→listed.getD k false=false)→a.eval (.tmp t)=a0.eval (.tmp t)) →
   (∀ k,listed.getD k false=true→Zcg ops Fs D E listed a w k)→(∀ m,listed.getD m false=true→∀ k∈S.getD m [],listed.getD k false=true)→wpAny P .any ops Q fuel listed a w:=by
 have hfit1:=(Bool.and_eq_true_iff.1 (Bool.and_eq_true_iff.1 hfit).1).1;have hDS:∀ i,i < ops.size→∀ k∈D.getD i [],k∈S.getD i []:=fun i hi k hk=>by
  have h:=(List.all_eq_true.1 (Bool.and_eq_true_iff.1 (Bool.and_eq_true_iff.1 hfit).1).2) i (by simpa using hi);have:=(List.all_eq_true.1 h) k hk;simpa using this
 have hDl:D.length=ops.size:=of_decide_eq_true (Bool.and_eq_true_iff.1 hfit).2;have hsh:∀ i o,ops[i]?=some o→((∃ d,o.dst=some d∧d < a0.tmps.size∧(∀ j,j < i→dstOf ops j≠some d))∨(o.dst=none∧∃ s,seat o=some s∧∀ j,dstOf ops j=some s→j < i∧j∈S.getD i []))∧∀ e∈o.after,Region.binds .any e=true→e.on < i:=by
  intro i o ho;have hi:i < ops.size:=(Array.getElem?_eq_some_iff.1 ho).1;have h:=(List.all_eq_true.1 hfit1) i (by simpa using hi);simp only [Bool.and_eq_true,ho] at h;refine ⟨?_,fun e he hb=>by
   have:=(List.all_eq_true.1 h.2) e (by simpa using he);simpa [hb] using this⟩
  have h:=h.1;simp only [dstOf,ho,Option.bind_some] at h;cases hd:o.dst with
  | none =>
   simp only [hd,Qch,ho,Option.bind_some] at h;cases hs:seat o with
   | none=>simp [hs] at h
   | some s =>
    simp only [hs,List.all_eq_true,List.mem_range,Bool.or_eq_true,bne_iff_ne,Bool.and_eq_true,decide_eq_true_eq,List.contains_iff_mem] at h;refine .inr ⟨rfl,s,rfl,fun j hj=>?_⟩;have hjo:j < ops.size:=by
     rcases Nat.lt_or_ge j ops.size with h | h
     ·exact h
     ·simp [dstOf,h] at hj
    rcases h j hjo with h1 | h1
    ·exact absurd hj h1
    ·exact h1
  | some d =>
   simp only [hd,Bool.and_eq_true,decide_eq_true_eq,List.all_eq_true,List.mem_range,bne_iff_ne] at h;exact .inl ⟨d,rfl,h.1,fun j hj=>h.2 j hj⟩
 have hdist:∀ i j d,dstOf ops i=some d→dstOf ops j=some d→i=j:=by
  intro i j d hi hj;have g:∀ i j,dstOf ops i=some d→dstOf ops j=some d→¬ j < i:=by
   intro i j hi hj hlt;cases ho:ops[i]? with
   | none=>simp [dstOf,ho] at hi
   | some o =>
    rcases (hsh i o ho).1 with ⟨d',hd',_,hne⟩ | ⟨hd',_⟩
    ·have:d'=d:=by simpa [dstOf,ho,hd'] using hi
     subst this;exact hne j hlt hj
    ·simp [dstOf,ho,hd'] at hi
  have:=g i j hi hj;have:=g j i hj hi;omega
 have hdone:∀ (listed:Array Bool) (a:Act) (w:World),listed.size=ops.size→C (fun k=>listed.getD k false) w→Off ops a0 a→(∀ k,listed.getD k false=true→Zcg ops Fs D E listed a w k) →
   Region.ready .any ops listed=[]→Q .normal a w:=by
  intro listed a w hsz hCw hoff hk hr;have hall:∀ n i,i < n→i < ops.size→listed.getD i false=true:=by
   intro n;induction n with
   | zero=>intro i h;omega
   | succ n ih =>
    intro i hi hio;by_cases hin:i < n
    ·exact ih i hin hio
    ·have hin:i=n:=by omega
     cases hl:listed.getD i false with
     | true=>rfl
     | false =>
      exfalso;have ho:ops[i]?=some ops[i]:=by simp [hio]
      have hb:=(hsh i _ ho).2;have:i∈Region.ready .any ops listed:=mem_ready.2 ⟨by
       have:i < listed.size:=by omega
       simpa [this] using hl,_,ho,fun e he hbe=>ih e.on (by have:=hb e he hbe;omega) (by have:=hb e he hbe;omega)⟩
      rw [hr] at this;cases this
  refine Qjz ops.toList Fs 0 a0 (fun i o ho=>?_) (fun i o s ho hd hs j o' hij ho'=>?_) (by simp [hF]) hoff.defers.symm hoff.size.symm (fun t ht=>(hoff.same t fun k hk=>?_).symm) (hend _ w (fun k hk=>hall (k+1) k (by omega) hk) hCw)
  ·have ho':ops[i]?=some o:=by simpa using ho
   have hki:=hk i (hall (i+1) i (by omega) (Array.getElem?_eq_some_iff.1 ho').1);rw [Nat.zero_add];rcases (hsh i o ho').1 with ⟨d,hd,hdn,_⟩ | ⟨hd,_⟩
   ·exact .inl ⟨d,hd,by rw [hoff.size];exact hdn,fun c hc=>hki.1 d c (by simp [dstOf,ho',hd]) hc,fun hE=>hki.2 (.inl hE) d (by simp [Qch,ho',seat,hd])⟩
   ·exact .inr ⟨hd,fun s hs hE=>hki.2 (.inl hE) s (by simp [Qch,ho',hs])⟩
  ·have h1:ops[i]?=some o:=by simpa using ho
   have h2:ops[j]?=some o':=by simpa using ho'
   rcases (hsh i o h1).1 with ⟨d,hd',_⟩ | ⟨_,s',hs',hall'⟩
   ·rw [hd] at hd';cases hd'
   ·have:s'=s:=by rw [hs] at hs';injection hs' with e;exact e.symm
    subst this;intro he;have:=(hall' j (by simp [dstOf,h2,he])).1;omega
  ·cases ho:ops[k]? with
   | none=>simp [dstOf,ho] at hk
   | some o=>exact ht o (by have:=Array.mem_of_getElem? ho;simpa using this) (by simpa [dstOf,ho] using hk)
 intro fuel;induction fuel with
 | zero =>
  intro listed a w hsz hl hCw hoff _ hk _;have hr:Region.ready .any ops listed=[]:=by
   cases hr:Region.ready .any ops listed with
   | nil=>rfl
   | cons i r =>
    have hi:i∈Region.ready .any ops listed:=by rw [hr];simp
    have:=left_set (mem_ready.1 hi).1;omega
  exact ⟨hr,hdone listed a w hsz hCw hoff hk hr⟩
 | succ fuel ih =>
  intro listed a w hsz hl hCw hoff hstill hk hcl;refine ⟨hdone listed a w hsz hCw hoff hk,fun i hi=>?_⟩;obtain ⟨hun,o,ho,hall⟩:=mem_ready.1 hi;have hcase:=(hsh i o ho).1;have hio:i < ops.size:=(Array.getElem?_eq_some_iff.1 ho).1;have hunf:listed.getD i false=false:=by
   cases h:listed.getD i false with
   | false=>rfl
   | true=>rw [getD_true_of_false h] at hun;cases hun
  have hne:∀ k,listed.getD k false=true→k≠i:=fun k hk e=>by subst e;rw [hk] at hunf;cases hunf
  have hSi:∀ k∈S.getD i [],listed.getD k false=true:=by
   intro k hkS;have h:=(List.all_eq_true.1 hlean) i (by simpa using hio);have h:=(List.all_eq_true.1 h) k hkS;simp only [ho,List.any_eq_true,Bool.and_eq_true,Bool.or_eq_true,beq_iff_eq,List.contains_iff_mem] at h;obtain ⟨e,he,hb,hek⟩:=h;have hle:=hall e (by simpa using he) hb;rcases hek with rfl | hek
   ·exact hle
   ·exact hcl e.on hle k hek
  have hone:=Qr2 hones i o (by simpa using ho) (fun k=>listed.getD k false) a w hCw (by rw [Nat.zero_add];exact hunf) ⟨hoff,hstill,hcl⟩ (by
   rw [Nat.zero_add];exact Qla fun k hkD=>(hk k (hSi k (hDS i hio k hkD))).2 (.inr ⟨i,by omega,hunf,hkD⟩))
  rw [Nat.zero_add] at hone;have hadd:(fun k=>(listed.setIfInBounds i true).getD k false)=ad (fun k=>listed.getD k false) i:=by
   funext k;unfold ad;by_cases e:k=i
   ·subst e;simp [show k < listed.size by omega]
   ·rw [getD_set_ne false (Ne.symm e)];simp [e]
  have next:∀ v w',C (ad (fun k=>listed.getD k false) i) w'→(∀ k,k≠i→Qs1 D S E k i=true→(S.getD k []).contains i=false→∀ u,holds (Fs.getD k (.inr fun _ _=>True)) u w→holds (Fs.getD k (.inr fun _ _=>True)) u w')→told o (Fs.getD i (.inr fun _ _=>True)) a v w'→wpAny P .any ops Q fuel (listed.setIfInBounds i true) (a.put o.dst v) w':=by
   intro v w' hCn hkeep hv;have hput:∀ d',o.dst≠some d'→(a.put o.dst v).eval (.tmp d')=a.eval (.tmp d'):=by
    intro d' h;cases hd:o.dst with
    | none=>rfl
    | some d=>exact eval_put_ne (fun e=>h (by rw [hd,e]))
   refine ih _ _ _ (by simpa using hsz) (by have:=left_set hun;omega) (by rw [hadd];exact hCn) ⟨(put_defers _ _ _).trans hoff.defers,(put_size _ _ _).trans hoff.size,fun t ht=>?_⟩ (fun t ht=>?_) (fun k hkl=>?_) (fun m hm k hkS=>?_)
   ·rw [hput t (fun e=>ht i (by simp [dstOf,ho,e]))];exact hoff.same t ht
   ·have hti:o.dst≠some t:=fun e=>by
     have:=ht i (by simp [dstOf,ho,e]);rw [Qkf hio hsz] at this;cases this
    rw [hput t hti];refine hstill t fun k hk=>?_;have:=ht k hk;by_cases e:k=i
    ·subst e;exact hunf
    ·rwa [getD_set_ne false (Ne.symm e)] at this
   ·by_cases e:k=i
    ·subst e;rcases hcase with ⟨d,hd,hdn,_⟩ | ⟨hd,_⟩
     ·have hev:(a.put o.dst v).eval (.tmp d)=v:=by rw [hd,eval_put_same (by rw [hoff.size];exact hdn)]
      have hv':holds (Fs.getD k (.inr fun _ _=>True)) v w':=by simpa only [told,hd] using hv
      refine ⟨fun d' c hd' hc=>?_,fun _ d' hd'=>?_⟩
      ·have:d'=d:=by simpa [dstOf,ho,hd] using hd'.symm
       subst this;rw [hev];rw [hc] at hv';exact hv'
      ·have:d'=d:=by simpa [Qch,ho,seat,hd] using hd'.symm
       subst this;rw [hev];exact hv'
     ·refine ⟨fun d' c hd' hc=>by simp [dstOf,ho,hd] at hd',fun _ d' hd'=>?_⟩;rw [hput d' (by rw [hd];simp)];simp only [told,hd] at hv;exact hv d' (by simpa [Qch,ho] using hd')
    ·rw [getD_set_ne false (Ne.symm e)] at hkl;obtain ⟨hk1,hk2⟩:=hk k hkl;have hdk:∀ d',Qch ops k=some d'→o.dst≠some d':=fun d' hd' hod=>by
      cases hok:ops[k]? with
      | none=>simp [Qch,hok] at hd'
      | some ok =>
       rcases (hsh k ok hok).1 with ⟨dk,hdk,_⟩ | ⟨hdk,s,hs,hall'⟩
       ·have:d'=dk:=by simpa [Qch,hok,seat,hdk] using hd'.symm
        subst this;exact e (hdist k i d' (by simp [dstOf,hok,hdk]) (by simp [dstOf,ho,hod]))
       ·have:s=d':=by simpa [Qch,hok,hs] using hd'
        subst this;exact hne i (hcl k hkl i (hall' i (by simp [dstOf,ho,hod])).2) rfl
     refine ⟨fun d' c hd' hc=>?_,fun hlive d' hd'=>?_⟩
     ·rw [hput d' (hdk d' (by
       cases hok:ops[k]? with
       | none=>simp [dstOf,hok] at hd'
       | some ok =>
        have hdo:ok.dst=some d':=by simpa [dstOf,hok] using hd'
        simp [Qch,hok,seat,hdo]))]
      exact hk1 d' c hd' hc
     ·have hlive':E.contains k=true∨∃ m,m < D.length∧m≠i∧listed.getD m false=false∧k∈D.getD m []:=by
       rcases hlive with h | ⟨m,hm,hml,hkm⟩
       ·exact .inl h
       ·refine .inr ⟨m,hm,fun em=>?_,?_,hkm⟩
        ·subst em;simp [show m < listed.size by omega] at hml
        ·by_cases em:m=i
         ·subst em;simp [show m < listed.size by omega] at hml
         ·rwa [getD_set_ne false (Ne.symm em)] at hml
      rw [hput d' (hdk d' hd')];refine hkeep k e ?_ ?_ _ (hk2 (hlive'.imp id fun ⟨m,hm,_,hml,hkm⟩=>⟨m,hm,hml,hkm⟩) d' hd')
      ·unfold Qs1;rcases hlive' with h | ⟨m,hm,hmi,hmlf,hkm⟩
       ·rw [h];rfl
       ·rw [Bool.or_eq_true];refine .inr (List.any_eq_true.2 ⟨m,by simpa using hm,?_⟩);simp only [Bool.and_eq_true,bne_iff_ne,List.contains_iff_mem,Bool.not_eq_true'];refine ⟨⟨hmi,?_⟩,hkm⟩;cases hc:(S.getD i []).contains m with
        | false=>rfl
        | true =>
         have:=hSi m (by simpa using hc);rw [hmlf] at this;cases this
      ·cases hc:(S.getD k []).contains i with
       | false=>rfl
       | true=>exact absurd rfl (hne i (hcl k hkl i (by simpa using hc)))
   ·by_cases e:m=i
    ·subst e;exact getD_set_true (hSi k hkS)
    ·rw [getD_set_ne false (Ne.symm e)] at hm;exact getD_set_true (hcl m hm k hkS)
  unfold wpOp;simp only [ho];rcases hone with ⟨hw,hone⟩ | ⟨hw,hsome,hCs,hone⟩
  ·simp only [hw,if_true];exact .inl (Oper.wp_mono (fun a' w' ⟨v,e,hCn,hkeep,hv⟩=>by subst e;exact next v w' hCn hkeep hv) hone)
  ·simp only [hw,Bool.false_eq_true,if_false];exact next undef w hCs (fun k _ _ _ u h=>h) (by
    unfold told;cases hd:o.dst with
    | none=>simp [hd] at hsome
    | some d=>exact hone)
theorem regionG {id:Nat} {w:World} (D S:List (List Nat)) (E:List Nat) (hm:P.follows .mixedOrders=true) (hfit:Zco a0.tmps.size ops D S=true) (hlean:Qtv ops S=true) (hF:Fs.length=ops.size)
  (h0:C (fun _=>false) w.drew) (hones:OnesG P ops Q a0 C Fs D S E 0 ops.toList Fs) (hend:∀ L w,(∀ k,k < ops.size→L k=true)→C L w→Qdo Q E 0 ops.toList Fs a0 w):(Code.region id ops true).wp P Q a0 w :=
 wp_region_any hm (Zbo hfit hlean hF hones hend ops.size (Array.replicate ops.size false) a0 w.drew (by simp)
  (by simp [left,List.countP_replicate]) (by
    have:(fun k=>(Array.replicate ops.size false).getD k false)=fun _=>false:=by
     funext k;rcases Nat.lt_or_ge k ops.size with h | h <;> simp [h]
    rw [this];exact h0) ⟨rfl,rfl,fun _ _=>rfl⟩ (fun _ _=>rfl)
  (fun k hk=>by rcases Nat.lt_or_ge k ops.size with h | h <;> simp [h] at hk)
  (fun m hk=>by rcases Nat.lt_or_ge m ops.size with h | h <;> simp [h] at hk))
theorem OneG.q {i:Nat} {f:Fact} {o:Oper} {d:Tmp} (hd:o.dst=some d) (hst:Qes Grow Fs) (hC:∀ L w w' i,C L w→Grow w w'→C (ad L i) w')
  (h:∀ L a w,C L w→L i=false→OffG ops S a0 L a→Qgz ops Fs a w (D.getD i [])→(Region.wanted o (yielded ops a.tmps)=true∧o.wp P a w (fun a' w'=>∃ v,a'=a.put o.dst v∧Grow w w'∧holds f v w') Q)∨(Region.wanted o (yielded ops a.tmps)=false∧holds f undef w)):OneG P ops Q a0 C Fs D S E i f o:=by
 intro L a w hCw hLi hoff hf;rcases h L a w hCw hLi hoff hf with ⟨hw,hwp⟩ | ⟨hw,hu⟩
 ·refine .inl ⟨hw,Oper.wp_mono (fun a' w' ⟨v,e,hg,hv⟩=>?_) hwp⟩;subst e;exact ⟨v,rfl,hC _ _ _ _ hCw hg,fun k _ _ _ u hk=>Qb7 hst k _ _ _ hg hk,by unfold told;rw [hd];exact hv⟩
 ·exact .inr ⟨hw,by rw [hd];rfl,hC _ _ _ _ hCw (grow_refl w),hu⟩
def Zbs (Fs:List Fact) (D S:List (List Nat)) (E:List Nat) (i:Nat):Bool:=(List.range Fs.length).all fun k=>k == i || !Qs1 D S E k i || (S.getD k []).contains i || (match Fs[k]? with | some (.inl _)=>true | _=>false)
theorem OneG.w {i:Nat} {f:Fact} {o:Oper} (hwv:Zbs Fs D S E i=true)
  (h:∀ L a w,C L w→L i=false→OffG ops S a0 L a→Qgz ops Fs a w (D.getD i [])→Region.wanted o (yielded ops a.tmps)=true∧o.wp P a w (fun a' w'=>∃ v,a'=a.put o.dst v∧C (ad L i) w'∧told o f a v w') Q):OneG P ops Q a0 C Fs D S E i f o:=by
 intro L a w hCw hLi hoff hf;obtain ⟨hw,hwp⟩:=h L a w hCw hLi hoff hf;refine .inl ⟨hw,Oper.wp_mono (fun a' w' ⟨v,e,hg,hv⟩=>⟨v,e,hg,fun k hk hwt hS u hku=>?_,hv⟩) hwp⟩;rcases Nat.lt_or_ge k Fs.length with hl | hl
 ·have h1:=(List.all_eq_true.1 hwv) k (by simpa using hl);have hki:(k == i)=false:=by simpa using hk
  rw [hki,hwt,hS] at h1;have e:Fs.getD k (.inr fun _ _=>True)=Fs[k]:=by simp [hl]
  rw [e] at hku ⊢;rw [List.getElem?_eq_getElem hl] at h1;cases hfk:Fs[k] with
  | inl c=>rw [hfk] at hku;exact hku
  | inr Φ=>rw [hfk] at h1;simp at h1
 ·have e:Fs.getD k (.inr fun _ _=>True)=.inr fun _ _=>True:=by simp [hl]
  rw [e];exact trivial
end
def Qze (K:World→World→Prop) (D S:List (List Nat)) (E:List Nat) (i:Nat):Nat→List Fact→Prop
 | n,.inl _ :: F=>Qze K D S E i (n+1) F
 | n,.inr Φ :: F=>((n == i || !Qs1 D S E n i || (S.getD n []).contains i)=true∨∀ w w',K w w'→∀ u,Φ u w→Φ u w')∧Qze K D S E i (n+1) F
 | _,[]=>True
theorem Qmo {K:World→World→Prop} {D S:List (List Nat)} {E:List Nat} {i:Nat}:∀ {F:List Fact} {n:Nat},Qze K D S E i n F→∀ k,n+k≠i→Qs1 D S E (n+k) i=true→(S.getD (n+k) []).contains i=false→∀ w w',K w w'→∀ u,holds (F.getD k (.inr fun _ _=>True)) u w→holds (F.getD k (.inr fun _ _=>True)) u w'
 | [],_,_,k,_,_,_,_,_,_,_,_=>by cases k <;> exact trivial
 | .inl c :: F,n,h,0,_,_,_,_,_,_,_,hu=>hu
 | .inr Φ :: F,n,h,0,h1,h2,h3,w,w',hK,u,hu=>by
  rcases h.1 with h | h
  ·simp only [Nat.add_zero] at h1 h2 h3;rw [h2,h3] at h;simp [h1] at h
  ·exact h w w' hK u hu
 | .inl c :: F,n,h,k+1,h1,h2,h3,w,w',hK,u,hu=>Qmo (F:=F) (n:=n+1) h k (by omega) (by rw [show n+1+k=n+(k+1) by omega];exact h2) (by rw [show n+1+k=n+(k+1) by omega];exact h3) w w' hK u hu
 | .inr Φ :: F,n,h,k+1,h1,h2,h3,w,w',hK,u,hu=>Qmo (F:=F) (n:=n+1) h.2 k (by omega) (by rw [show n+1+k=n+(k+1) by omega];exact h2) (by rw [show n+1+k=n+(k+1) by omega];exact h3) w w' hK u hu
theorem OneG.k {P:Program} {ops:Array Oper} {Q:Exit→Act→World→Prop} {a0:Act} {C:(Nat→Bool)→World→Prop} {Fs:List Fact} {D S:List (List Nat)} {E:List Nat} {i:Nat} {f:Fact} {o:Oper} (K:World→World→Prop) (hk:Qze K D S E i 0 Fs)
  (h:∀ L a w,C L w→L i=false→OffG ops S a0 L a→Qgz ops Fs a w (D.getD i [])→Region.wanted o (yielded ops a.tmps)=true∧o.wp P a w (fun a' w'=>∃ v,a'=a.put o.dst v∧C (ad L i) w'∧K w w'∧told o f a v w') Q):OneG P ops Q a0 C Fs D S E i f o:=by
 intro L a w hCw hLi hoff hf;obtain ⟨hw,hwp⟩:=h L a w hCw hLi hoff hf;refine .inl ⟨hw,Oper.wp_mono (fun a' w' ⟨v,e,hg,hK,hv⟩=>⟨v,e,hg,fun k h1 h2 h3 u hu=>?_,hv⟩) hwp⟩;exact Qmo hk k (by simpa using h1) (by simpa using h2) (by simpa using h3) w w' hK u hu
theorem endsG_v {Q:Exit→Act→World→Prop} {E:List Nat} {i:Nat} {o:Oper} {l:List Oper} {d:Tmp} {c:Value} {F:List Fact} {a:Act} {w:World} (hd:o.dst=some d) (h:Qdo Q E (i+1) l F (a.put (some d) c) w):Qdo Q E i (o :: l) (.inl c :: F) a w:=by
 simp only [Qdo,hd];exact h
theorem endsG_r {Q:Exit→Act→World→Prop} {E:List Nat} {i:Nat} {o:Oper} {l:List Oper} {d:Tmp} {Φ:Value→World→Prop} {F:List Fact} {a:Act} {w:World} (hd:o.dst=some d) (h:∀ v,(E.contains i=true→Φ v w)→Qdo Q E (i+1) l F (a.put (some d) v) w):Qdo Q E i (o :: l) (.inr Φ :: F) a w:=by
 simp only [Qdo,hd];exact h
theorem endsG_s {Q:Exit→Act→World→Prop} {E:List Nat} {i:Nat} {o:Oper} {l:List Oper} {Φ:Value→World→Prop} {s:Tmp} {F:List Fact} {a:Act} {w:World} (hd:o.dst=none) (hs:seat o=some s) (hE:E.contains i=true) (h:Φ (a.eval (.tmp s)) w→Qdo Q E (i+1) l F a w):Qdo Q E i (o :: l) (.inr Φ :: F) a w:=by
 simp only [Qdo,hd];exact fun k=>h (k s hs hE)
theorem endsG_nil {Q:Exit→Act→World→Prop} {E:List Nat} {i:Nat} {F:List Fact} {a:Act} {w:World} (h:Q .normal a w):Qdo Q E i [] F a w:=by
 cases F <;> exact h
theorem kv {ops:Array Oper} {Fs:List Fact} {a:Act} {w:World} {k:Nat} {s:Tmp} {c:Value} (h:Qjj ops Fs a w k) (hs:Qch ops k=some s) (hf:Fs.getD k (.inr fun _ _=>True)=.inl c):a.eval (.tmp s)=c:=by
 have:=h s hs;rw [hf] at this;exact this
theorem kr {ops:Array Oper} {Fs:List Fact} {a:Act} {w:World} {k:Nat} {s:Tmp} {Φ:Value→World→Prop} (h:Qjj ops Fs a w k) (hs:Qch ops k=some s) (hf:Fs.getD k (.inr fun _ _=>True)=.inr Φ):Φ (a.eval (.tmp s)) w:=by
 have:=h s hs;rw [hf] at this;exact this
theorem OnesG.start {P:Program} {ops:Array Oper} {Q:Exit→Act→World→Prop} {a0:Act} {C:(Nat→Bool)→World→Prop} {Fs:List Fact} {D S:List (List Nat)} {E:List Nat} {l:List Oper} (hst:Qes Grow Fs) (hcg:∀ L w w' i,C L w→Grow w w'→C (ad L i) w')
  (h:Qes Grow Fs→(∀ L w w' i,C L w→Grow w w'→C (ad L i) w')→OnesG P ops Q a0 C Fs D S E 0 l Fs):OnesG P ops Q a0 C Fs D S E 0 l Fs:=h hst hcg
theorem oq {P:Program} {ops:Array Oper} {Q:Exit→Act→World→Prop} {a0:Act} {C:(Nat→Bool)→World→Prop} {Fs:List Fact} {D S:List (List Nat)} {E:List Nat} {i:Nat} {o:Oper} {l:List Oper} {f:Fact} {F:List Fact} {d:Tmp} (hd:o.dst=some d) (hst:Qes Grow Fs) (hC:∀ L w w' i,C L w→Grow w w'→C (ad L i) w')
  (h:∀ L a w,C L w→L i=false→OffG ops S a0 L a→Qgz ops Fs a w (D.getD i [])→(Region.wanted o (yielded ops a.tmps)=true∧o.wp P a w (fun a' w'=>∃ v,a'=a.put o.dst v∧Grow w w'∧holds f v w') Q)∨(Region.wanted o (yielded ops a.tmps)=false∧holds f undef w))
  (k:OnesG P ops Q a0 C Fs D S E (i+1) l F):OnesG P ops Q a0 C Fs D S E i (o :: l) (f :: F):=OnesG.cons (OneG.q hd hst hC h) k
theorem gs {P:Program} {Q:Exit→Act→World→Prop} {ops:Array Oper} {o:Oper} {a:Act} {w:World} {c:Value} (hg:o.guard=none) (hr:(execOp a.eval o).run P w=.ok (.value c) w) :
  (Region.wanted o (yielded ops a.tmps)=true∧o.wp P a w (fun a' w'=>∃ v,a'=a.put o.dst v∧Grow w w'∧holds (.inl c) v w') Q)∨(Region.wanted o (yielded ops a.tmps)=false∧holds (.inl c) undef w):=.inl ⟨want_none hg,run_same hr grow_refl⟩
theorem gy {P:Program} {Q:Exit→Act→World→Prop} {ops:Array Oper} {o:Oper} {a:Act} {w:World} {c:Value} {j:Nat} {d:Tmp} {b:Bool} (hg:o.guard=some (j,b)) (hd:dstOf ops j=some d) (hv:a.eval (.tmp d)=.bool b) (hr:(execOp a.eval o).run P w=.ok (.value c) w) :
  (Region.wanted o (yielded ops a.tmps)=true∧o.wp P a w (fun a' w'=>∃ v,a'=a.put o.dst v∧Grow w w'∧holds (.inl c) v w') Q)∨(Region.wanted o (yielded ops a.tmps)=false∧holds (.inl c) undef w):=.inl ⟨want_yes hg hd hv,run_same hr grow_refl⟩
end Flow
end Go.Proofs.YtcpodmjcgfgmnaaGreat
namespace Go.Proofs.YtcpodmjcgfgmnaaGreat
open Go.RowKit
namespace Flow
def pt (A:Nat):Value:=.pointer (some ⟨A,0,none⟩)
theorem Qu9 {A B:Nat} (h:pt A=pt B):A=B:=by
 simpa [pt] using h
structure Cn (wo:World) (ss:List Tmp) (a:Act) (w:World):Prop where
 grow:Grow wo w
 old:∀ s∈ss,∀ A,a.eval (.tmp s)=pt A→A < w.heap.size
 apart:∀ s∈ss,∀ t∈ss,s≠t→∀ A,wo.heap.size≤A→a.eval (.tmp s)=pt A→a.eval (.tmp t)≠pt A
theorem Cn.start {w:World} {ss:List Tmp} {a:Act} (h:∀ s∈ss,∀ A,a.eval (.tmp s)=pt A→A < w.heap.size):Cn w ss a w.drew :=
 ⟨grow_drew w,h,fun s hs _ _ _ A hA e=>absurd (h s hs A e) (by omega)⟩
theorem Cn.lay {wo:World} {ss:List Tmp} {a:Act} {w:World} (h:Cn wo ss a w) {d:Tmp} (hn:d < a.tmps.size) (o:Obj):Cn wo ss (a.put (some d) (pt w.heap.size)) (w.alloc o) where
 grow:=h.grow.trans (grow_alloc w o)
 old:=fun s hs A e=>by
  have hsz:(w.alloc o).heap.size=w.heap.size+1:=by simp
  by_cases hd:d=s
  ·subst hd;rw [eval_put_same hn] at e;have:=Qu9 e;omega
  ·rw [eval_put_ne hd] at e;have:=h.old s hs A e;omega
 apart:=fun s hs t ht hne A hA e=>by
  by_cases hd:d=s
  ·subst hd;rw [eval_put_same hn] at e;have:=Qu9 e;rw [eval_put_ne hne];intro e2;have:=h.old t ht A e2;omega
  ·rw [eval_put_ne hd] at e;have h1:=h.old s hs A e;by_cases hd2:d=t
   ·subst hd2;rw [eval_put_same hn];intro e2;have:=Qu9 e2;omega
   ·rw [eval_put_ne hd2];exact h.apart s hs t ht hne A hA e
inductive FK where
 | v (c:Value)
 | a (T:TypeId) (m:Nat)
 | s (T:TypeId) (cs:Array Value)
def FK.fact (n:Nat):FK→Fact
 | .v c=>.inl c
 | .a T m=>.inr fun v w=>∃ A cs,v=pt A∧n≤A∧w.heap[A]?=some (.cells cs T (0,0))∧cs.size=m
 | .s T cs=>.inr fun v w=>∃ A,v=pt A∧n≤A∧w.heap[A]?=some (.cells cs T (0,0))
theorem Qot {w w':World} (g:Grow w w') {A:Nat} {o:Obj} (h:w.heap[A]?=some o):w'.heap[A]?=some o:=by
 have hA:A < w.heap.size:=(Array.getElem?_eq_some_iff.1 h).1;rw [g.block A hA (by simp)];exact h
theorem Qgg (n:Nat):∀ l:List FK,Qes Grow (l.map (FK.fact n))
 | []=>trivial
 | .v _ :: l=>Qgg n l
 | .a _ _ :: l=>⟨fun _ _ _ g ⟨A,cs,h1,h2,h3,h4⟩=>⟨A,cs,h1,h2,Qot g h3,h4⟩,Qgg n l⟩
 | .s _ _ :: l=>⟨fun _ _ _ g ⟨A,h1,h2,h3⟩=>⟨A,h1,h2,Qot g h3⟩,Qgg n l⟩
def Zci (ss:List Tmp) (ops:Array Oper) (s:Tmp) (i:Nat) (l:List FK):Bool:=(List.range ops.size).all fun k=>k == i || match l[k]? with
 | some (.v _)=>true
 | some (.a _ _)=>(match Qch ops k with | some t=>ss.contains t | none=>true)
 | some (.s _ _)=>(match Qch ops k with | some t=>ss.contains t && t != s | none=>true)
 | none=>false
section
variable {P:Program} {ops:Array Oper} {Q:Exit→Act→World→Prop} {a0:Act} {wo:World} {ss:List Tmp} {l:List FK}
theorem OneS.alloc {i:Nat} {ks:List Nat} {o:Oper} {d:Tmp} {T:TypeId} {m:Nat} {cs:Array Value} (hd:o.dst=some d) (hn':decide (d < a0.tmps.size)=true) (hg:o.guard=none) (hm:cs.size=m)
  (hrun:∀ ρ w,(execOp ρ o).run P w=.ok (.value (pt w.heap.size)) (w.alloc (.cells cs T))):OneS P ops Q a0 (Cn wo ss) (l.map (FK.fact wo.heap.size)) i ks (FK.fact wo.heap.size (.a T m)) o:=by
 intro a w hC hoff _;have hn:=of_decide_eq_true hn';refine .inl ⟨want_none hg,?_⟩;unfold Oper.wp;rw [hrun];have hna:d < a.tmps.size:=by rw [hoff.size];exact hn
 refine ⟨_,rfl,by rw [hd];exact hC.lay hna _,fun k hk hs hkn d' hd'=>?_,?_⟩
 ·rw [hd,eval_put_ne (fun e=>hs d hd (by rw [hd',e]))];exact Qb7 (Qgg _ l) k _ _ _ (grow_alloc w _) (hkn d' hd')
 ·unfold told;rw [hd];exact ⟨w.heap.size,cs,rfl,hC.grow.size,heap_alloc_new _ _,hm⟩
theorem Qyu (l:List FK) (n k:Nat):(l.map (FK.fact n)).getD k (.inr fun _ _=>True)=match l[k]? with | some f=>FK.fact n f | none=>.inr fun _ _=>True:=by
 rw [List.getD_eq_getElem?_getD,List.getElem?_map];cases l[k]? <;> rfl
theorem OneS.store {i:Nat} {ks:List Nat} {o:Oper} {s x:Tmp} {T:TypeId} {cs:Array Value} (hop:o.op=.store T (.tmp s) (.tmp x)) (hd:o.dst=none) (hg:o.guard=none) (hss:s∈ss)
  (hbe:Zci ss ops s i l=true)
  (hrun:∀ (ρ:Operand→Value) w A old,Grow wo w→wo.heap.size≤A→ρ (.tmp s)=pt A→ρ (.tmp x)=.agg cs→w.heap[A]?=some (.cells old T (0,0))→old.size=cs.size→∃ w',(execOp ρ o).run P w=.ok .skip w'∧Grow wo w'∧w'.heap.size=w.heap.size∧w'.heap[A]?=some (.cells cs T (0,0))∧∀ B,B≠A→w'.heap[B]?=w.heap[B]?)
  (h:∀ a w,Cn wo ss a w→Off ops a0 a→Qgz ops (l.map (FK.fact wo.heap.size)) a w ks→holds (FK.fact wo.heap.size (.a T cs.size)) (a.eval (.tmp s)) w∧a.eval (.tmp x)=.agg cs) :
  OneS P ops Q a0 (Cn wo ss) (l.map (FK.fact wo.heap.size)) i ks (FK.fact wo.heap.size (.s T cs)) o:=by
 intro a w hC hoff hf;obtain ⟨⟨A,old,hs,hA,hAo,hsz⟩,hx⟩:=h a w hC hoff hf;obtain ⟨w',hr,hgw,hws,hAn,hB⟩:=hrun a.eval w A old hC.grow hA hs hx hAo hsz;refine .inl ⟨want_none hg,?_⟩;unfold Oper.wp;rw [hr,Oper.upon_skip];have hput:∀ v,a.put o.dst v=a:=fun v=>by rw [hd];rfl
 refine ⟨undef,rfl,?_,fun k hk _ hkn d' hd'=>?_,?_⟩
 ·rw [hput];exact ⟨hgw,fun t ht B e=>by rw [hws];exact hC.old t ht B e,hC.apart⟩
 ·rw [hput];have hkn:=hkn d' hd';rw [Qyu] at hkn ⊢;have hks:k < ops.size:=by
   rcases Nat.lt_or_ge k ops.size with h | h
   ·exact h
   ·simp [Qch,h] at hd'
  have hb:=(List.all_eq_true.1 hbe) k (by simpa using hks);cases hl:l[k]? with
  | none=>exact trivial
  | some f =>
   rw [hl] at hb hkn;have hki:(k == i)=false:=by simpa using hk
   cases f with
   | v c=>exact hkn
   | a T' m =>
    obtain ⟨A',cs',h1,h2,h3,h4⟩:=hkn;by_cases e:A'=A
    ·subst e;rw [hAo] at h3;cases h3;exact ⟨A',cs,h1,h2,hAn,by omega⟩
    ·exact ⟨A',cs',h1,h2,by rw [hB A' e];exact h3,h4⟩
   | s T' cs' =>
    simp only [hki,Bool.false_or,hd',Bool.and_eq_true,bne_iff_ne,List.contains_iff_mem] at hb;obtain ⟨A',h1,h2,h3⟩:=hkn;have e:A'≠A:=by
     intro e;subst e;exact hC.apart d' hb.1 s hss hb.2 A' h2 h1 hs
    exact ⟨A',h1,h2,by rw [hB A' e];exact h3⟩
 ·unfold told;rw [hd];intro s' hs';have:s'=s:=by
   simp only [seat,hd,hop] at hs';injection hs' with e;exact e.symm
  subst this;exact ⟨A,hs,hA,hAn⟩
end
theorem alloc_run {P:Program} {o:Oper} {T:TypeId} {i:TypeInfo} {z:Value} (hop:o.op=.alloc T) (hi:P.info? T=some i) (hz:i.zero=some z) (ρ:Operand→Value) (w:World) :
  (execOp ρ o).run P w=.ok (.value (pt w.heap.size)) (w.alloc (.cells z.cells T)):=by
 simp [execOp,hop,Instr.alloc,zeroValue,typeInfo,hi,hz,newVar,newRow,pt]
theorem store_run {P:Program} {o:Oper} {T:TypeId} {i:TypeInfo} {s x:Tmp} {cs:Array Value} (hop:o.op=.store T (.tmp s) (.tmp x)) (hi:P.info? T=some i) {m:Nat} (hz0:i.size=m) (hz1:cs.size=m) (h1:∀ v∈cs.toList,v.oneCell'=true)
  {wo:World} (ρ:Operand→Value) (w:World) (A:Nat) (old:Array Value) (hg:Grow wo w) (hA:wo.heap.size≤A) (hs:ρ (.tmp s)=pt A) (hx:ρ (.tmp x)=.agg cs) (hb:w.heap[A]?=some (.cells old T (0,0))) (ho:old.size=cs.size) :
  ∃ w',(execOp ρ o).run P w=.ok .skip w'∧Grow wo w'∧w'.heap.size=w.heap.size∧w'.heap[A]?=some (.cells cs T (0,0))∧∀ B,B≠A→w'.heap[B]?=w.heap[B]?:=by
 have hz:i.size=cs.size:=hz0.trans hz1.symm;have hst:=run_storeCells_at (P:=P) A 0 T cs.toList 0 old w hb (by simp;omega) h1;have e:(old.toList.take (0+0)++cs.toList++old.toList.drop (0+0+cs.toList.length)).toArray=cs:=by
  rw [List.take_zero,List.nil_append,List.drop_eq_nil_of_le (by simp;omega),List.append_nil]
 rw [e] at hst;have hne:∀ B,B≠A→(w.setRow A cs).heap[B]?=w.heap[B]?:=fun B hB=>by
  unfold World.setRow;simp [Array.getElem?_modify,Ne.symm hB]
 have hsz:(w.setRow A cs).heap.size=w.heap.size:=by
  unfold World.setRow;simp
 refine ⟨w.setRow A cs,?_,?_,hsz,setRow_heap w A _ _ _ _ hb,hne⟩
 ·simp [execOp,hop,hs,hx,pt,Instr.storeAt,Instr.sureAddr,storeVar,sizeOf,typeInfo,hi,hz,Value.cells,hst]
 ·refine ⟨?_,?_,?_,by rw [hsz];exact hg.size,fun k hk hn=>?_⟩
  ·rw [← hg.os];rfl
  ·rw [← hg.tape];rfl
  ·rw [← hg.output];rfl
  ·rw [hne k (by omega)];exact hg.block k hk hn
end Flow
end Go.Proofs.YtcpodmjcgfgmnaaGreat
