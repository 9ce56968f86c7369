/- galliardref23.Space by its contract. -/
import Derived.Test.YtcpodmjcgfgmnaaSpSt
import Derived.Test.YtcpodmjcgfgmnaaExplore
import Derived.Test.YtcpodmjcgfgmnaaAsEnds
import Derived.Test.YtcpodmjcgfgmnaaRefSt
import Derived.Deep.DeepCutAuto
namespace Go.Proofs.Ytcpodmjcgfgmnaa
open Go.RowKit Go.Maps
namespace As
open Pr
def rrF (f:Cfg→List Stp) (n:Nat):List (List Nat):=(List.range n).map fun j=>tos (stage f j) (f ((stage f j).getD j first))
theorem rrF_succ (f:Cfg→List Stp) (n:Nat):rrF f (n+1)=rrF f n++[tos (stage f n) (f ((stage f n).getD n first))]:=by simp [rrF,List.range_succ]
theorem rrF_len (f:Cfg→List Stp) (n:Nat):(rrF f n).length=n:=by simp [rrF]
def SpPost (ps:List Pd) (L room most:Nat) (e:Ending) (w':World):Prop :=
 (e=.returned (.tuple #[.slice none 0 0,.slice none 0 0,.slice none 0 0,.bool false])∧Beyond (sf ps L room) most) ∨
 (∃ (n:Nat) (aa:Option Addr) (ac:Nat) (ta:Option Addr) (tc:Nat) (ba:Option Addr) (bc:Nat),e=.returned (.tuple #[.slice aa n ac,.slice ta n tc,.slice ba n bc,.bool true])∧Ends (sf ps L room) n∧n≤most ∧
   SpAt w' n (.slice aa n ac) (.slice ta n tc) (.slice ba n bc) (stage (sf ps L room) n) (rrF (sf ps L room) n) (blF (bf ps L room) (sf ps L room) n))
end As
theorem results_tmp4 {fn:Func} {t u v x:Tmp} (h:fn.results=#[.tmp t,.tmp u,.tmp v,.tmp x]) (tmps:Array Value) (P:Program) (w:World) :
  (results fn tmps).run P w=.ok (.tuple #[tmps.getD t undef,tmps.getD u undef,tmps.getD v undef,tmps.getD x undef]) w:=by
 simp [results,h]
theorem own_zero {w:World} {B e h:Nat} (hh:w.heap[h]?=some (.cells #[] e (0,0))) (hB:B≤h):w.ownsRow B e 1 (.slice (some ⟨h,0,none⟩) 0 0) 0 []:=⟨rfl,.inr ⟨h,0,#[],rfl,hB,hh,Nat.le_refl _,by decide,rfl,rfl⟩⟩
open As in
set_option maxRecDepth 100000 in
set_option maxHeartbeats 4000000 in
theorem space_any (L room most:Nat) (vp vl:Value) (css:List (List Value)) (ps:List Pr.Pd) (W:World) (h8:room≤8) (hL:L≤4) (hm1:1≤most) (hm2:most≤100000) (hP:Pr.PeersAt W vp (Pr.labsL L) css ps) (hLs:Pr.LsAt W vl (Pr.labsL L)) :
  Calls Try.prog 22 #[vp,vl,.int .i64 (room:Nat),.int .i64 (most:Nat)] W fun e w'=>SpPost ps L room most e w'∧Flow.Grow W w':=by
 have HF:=Lib.hid (refFirst_any vp _ css ps W hP)
 have HPa:=Lib.hid hP
 have HLs:=Lib.hid hLs
 have HOk:Hid (∀ j,j < 3→(ps.getD j default).Ok (Pr.labsL L) j):=Lib.hid (by
  obtain ⟨_,_,_,_,_,hpa⟩:=hP.at_
  intro j hj
  obtain ⟨_,_,_,p,hp,_,_,_,_,_,_,_,_,_,f9⟩:=hpa j hj
  rw [← hp]
  exact f9)
 obtain ⟨pb,po,pc,rfl,_,_⟩:=hP.at_
 obtain ⟨al,cl,rfl,_⟩:=id hLs
 clear hP hLs
 obtain ⟨iR,hiR,hR0,hR1,hR2⟩:=info_parts info_rcfg
 obtain ⟨iS,hiS,hS0,hS1,hS2⟩:=info_parts info_ints
 obtain ⟨iB,hiB,hB0,hB1,hB2⟩:=info_parts info_bool
 obtain ⟨iI,hiI,hI0,hI1,hI2⟩:=info_parts info_int
 go_enter Try.func22,Try.ntmps22
 go_upto_region 3 with (go_at_call 10;refine HF.out.mono ?_;rintro e w1 ⟨⟨sa,sn,sc,va,vn,vc,rfl,hcd⟩,hg⟩;have HCd:=Lib.hid hcd;have HG1:=Lib.hid hg;clear hcd hg)
 have HBw20:Hid ((((w1.alloc (.cells #[.slice sa sn sc,.slice va vn vc] 46)).alloc (.cells #[] 39)).alloc (.cells #[] 4)).heap[w1.heap.size]?=some (.cells #[.slice sa sn sc,.slice va vn vc] 46 (0,0))):=Lib.hid (lay3_0 _ _ _ _)
 have HBw21:Hid ((((w1.alloc (.cells #[.slice sa sn sc,.slice va vn vc] 46)).alloc (.cells #[] 39)).alloc (.cells #[] 4)).heap[w1.heap.size+1]?=some (.cells #[] 39 (0,0))):=Lib.hid (lay3_1 _ _ _ _)
 have HBw22:Hid ((((w1.alloc (.cells #[.slice sa sn sc,.slice va vn vc] 46)).alloc (.cells #[] 39)).alloc (.cells #[] 4)).heap[w1.heap.size+1+1]?=some (.cells #[] 4 (0,0))):=Lib.hid (lay3_2 _ _ _ _)
 have HGw2:Hid (Flow.Grow w1 (((w1.alloc (.cells #[.slice sa sn sc,.slice va vn vc] 46)).alloc (.cells #[] 39)).alloc (.cells #[] 4))):=Lib.hid (lay3_g _ _ _ _)
 have HSw2:Hid ((((w1.alloc (.cells #[.slice sa sn sc,.slice va vn vc] 46)).alloc (.cells #[] 39)).alloc (.cells #[] 4)).heap.size=w1.heap.size+1+1+1):=Lib.hid (by simp)
 generalize ((w1.alloc (.cells #[.slice sa sn sc,.slice va vn vc] 46)).alloc (.cells #[] 39)).alloc (.cells #[] 4)=w2 at *
 obtain ⟨A,hA⟩:∃ X,X=w1.heap.size:=⟨_,rfl⟩
 rw [← hA] at HBw20 HBw21 HBw22 HSw2 ⊢
 have HXw2:=Lib.hid hA
 clear hA
 have CXw2:Hid (∀ wq,Flow.Grow w2 wq→wq.cell? ⟨A,0,none⟩=some (.slice sa sn sc)∧wq.cell? ⟨A,1,none⟩=some (.slice va vn vc)):=Lib.hid (fun wq g=>⟨lay_cell g HBw20.out rfl,lay_cell g HBw20.out rfl⟩)
 have FXw2:Hid (∀ wq,Flow.Grow w2 wq→(∀ k,wq.frozen? ⟨A,k,none⟩=false)∧(∀ k,wq.frozen? ⟨A+1,k,none⟩=false)∧(∀ k,wq.frozen? ⟨A+1+1,k,none⟩=false)):=Lib.hid (fun wq g=>⟨fun k=>lay_frozen g HBw20.out k,fun k=>lay_frozen g HBw21.out k,fun k=>lay_frozen g HBw22.out k⟩)
 have HE0:Hid (SpD w1 w2 (.slice (some ⟨A,0,none⟩) 1 1) (.slice (some ⟨A+1,0,none⟩) 0 0) (.slice (some ⟨A+1+1,0,none⟩) 0 0) [] [(.slice sa sn sc,.slice va vn vc)] [first] [] [] []):=Lib.hid (by
  have hA:=HXw2.out
  exact {
   grow:=HGw2.out
   hcs:=rfl
   aown:=⟨rfl,.inr ⟨A,1,_,rfl,by omega,HBw20.out,Nat.le_refl _,by decide,rfl,rfl⟩⟩
   hrl:=rfl
   town:=own_zero HBw21.out (by omega)
   bown:=own_zero HBw22.out (by omega)
   cfg:=fun j hj=>by
    obtain rfl:j=0:=by simpa using hj
    refine HCd.out.sub (mask_of (Sub.of_grow HGw2.out) fun b hb=>?_)
    obtain ⟨u,hu,e⟩:=mem_obs.1 hb
    simp only [List.mem_cons,List.not_mem_nil,or_false] at hu
    rcases hu with rfl | rfl | rfl <;> (simp only [Value.ownBlock,Option.some.injEq] at e;omega)
   row:=fun j hj=>by cases hj })
 have hst1:(stage (sf ps L room) 0).length=1:=rfl
 go_wp2_with fail
 go_loopw [12,13,14,15] (fun av tv bv iv wr=>∃ (i:Nat) (cs:List (Value × Value)) (rows:List Value),i≤(stage (sf ps L room) i).length∧(stage (sf ps L room) i).length≤most∧Hid (∀ j,j < i→j < (stage (sf ps L room) j).length)∧iv=.int .i64 i∧Hid (SpD w1 wr av tv bv [] cs (stage (sf ps L room) i) rows (rrF (sf ps L room) i) (blF (bf ps L room) (sf ps L room) i))) (fun _ _ _ iv _=>most+1 - (intOf iv).toNat)
 case atStart=>exact ⟨0,_,_,by omega,by omega,Lib.hid (fun j hj=>by omega),rfl,HE0⟩
 case round =>
  clear HE0 HCd hst1
  obtain ⟨i,cs,rows,hi1,hi2,HJ,rfl,HE⟩:=hrel
  rename World=>wo
  obtain ⟨vq1,hvq1⟩:∃ v,v=u12:=⟨_,rfl⟩
  obtain ⟨vq2,hvq2⟩:∃ v,v=u13:=⟨_,rfl⟩
  obtain ⟨vq3,hvq3⟩:∃ v,v=u14:=⟨_,rfl⟩
  obtain ⟨ca,cc,hcv⟩:=own_form HE.out.aown
  obtain ⟨ea,ec,hsv⟩:=own_form HE.out.town
  rw [rrF_len] at hsv
  obtain ⟨ba,bc,hbv⟩:=own_form HE.out.bown
  rw [blF_len] at hbv
  subst hcv hsv hbv
  clear hvq1 hvq2 hvq3
  have HSd:=Lib.hid (fun c hc=>stage_gd (room:=room) hL HOk.out i c hc)
  have Hgd:Hid (Gd ps room ((stage (sf ps L room) i).getD i first)):=Lib.hid (by
   rw [List.getD_eq_getElem?_getD]
   cases e:(stage (sf ps L room) i)[i]? with
   | none=>exact gd_first HOk.out
   | some x=>exact stage_gd hL HOk.out i x (List.mem_of_getElem? e))
  have Hnd:=Lib.hid (stage_nodup (sf ps L room) i)
  have Hrl:=Lib.hid (rrF_succ (sf ps L room) i)
  have Hbl:=Lib.hid (blF_succ (bf ps L room) (sf ps L room) i)
  have Hst1:Hid (stage (sf ps L room) (i+1)=exts (stage (sf ps L room) i) (sf ps L room ((stage (sf ps L room) i).getD i first))):=Lib.hid rfl
  have Hstf:=Lib.hid (show stage (fun c=>stepsI ps (Pr.labsL L) room c 3) i=stage (sf ps L room) i from rfl)
  rw [Hstf.out] at HSd
  clear Hstf
  have HrlL:=Lib.hid (rrF_len (sf ps L room) i)
  have HblL:=Lib.hid (blF_len (bf ps L room) (sf ps L room) i)
  generalize hrl0:rrF (sf ps L room) i=rl at *
  generalize hbl0:blF (bf ps L room) (sf ps L room) i=bl at *
  have Hrl0:=Lib.hid hrl0
  have Hbl0:=Lib.hid hbl0
  clear hrl0 hbl0
  generalize hall:stage (sf ps L room) i=all at *
  have Hall:=Lib.hid hall
  clear hall
  generalize hn:all.length=n at *
  have Hn:=Lib.hid hn
  clear hn
  by_cases hin:i < n
  ·have hid:decide ((i:Int) < (n:Int))=true:=by simp;omega
   obtain ⟨g,c,vS,vB,ev,t0,t1,hcf⟩:=HE.out.cell (i:=i) (by rw [Hn.out];exact hin)
   obtain ⟨rfl,rfl⟩:ca=some ⟨g,0,none⟩∧cc=c:=by injection ev with a b c;exact ⟨a,c⟩
   generalize all.getD i first=c0 at *
   obtain ⟨ua,uc,mb,mo,mc,rfl,rfl⟩:=hcf.form Hgd.out.wf.len Hgd.out.wf.boxes
   have HStp:=Lib.hid (refSteps_any L room _ _ _ _ css ps c0 (mask wo (obs [.slice (some ⟨g,0,none⟩) n cc,.slice ea i ec,.slice ba i bc])) wo (mask_self _ _) hL (by omega) (HPa.out.grow (HG1.out.trans HE.out.grow)) (HLs.out.grow (HG1.out.trans HE.out.grow)) hcf Hgd.out.wf (fun j=>by have:=Hgd.out.bl j;omega))
   clear hcf ev
   obtain ⟨l,hl⟩:∃ l,l=stepsI ps (Pr.labsL L) room c0 3:=⟨_,rfl⟩
   obtain ⟨bk,hbk⟩:∃ b,b=blkI ps (Pr.labsL L) room c0 3:=⟨_,rfl⟩
   rw [← hl,← hbk] at HStp
   have Hl:=Lib.hid hl
   have Hl2:Hid (sf ps L room c0=l):=Lib.hid hl.symm
   have Hbk2:Hid (bf ps L room c0=bk):=Lib.hid hbk.symm
   clear hl hbk
   rw [Hl2.out] at Hst1 Hrl
   rw [Hbk2.out] at Hbl
   have hi0:(0:Int)≤(i:Int):=by omega
   have hid2:(i:Int) < (n:Int):=by omega
   go_upto_region 7 with (go_at_call 11;refine HStp.out.mono ?_;rintro e w3 ⟨⟨oa,oc,rfl,hst⟩,hg⟩;have HSt:=Lib.hid hst;have HG3:=Lib.hid hg;clear hst hg)
   clear t0 t1 HStp
   generalize hm:l.length=m at *
   have Hm:=Lib.hid hm
   have hm12:m≤12:=by
    rw [← hm,Hl.out]
    refine stepsI_len (i:=3) fun j hj=>?_
    rw [(HOk.out j hj).acts]
    have:=Pr.acts_len j (Pr.labsL L) (Pr.labsL L).length
    have:=Pr.labsL_len hL
    omega
   clear hm
   go_upto_region 8 with fail
   have HBw40:Hid ((w3.alloc (.cells #[] 3)).heap[w3.heap.size]?=some (.cells #[] 3 (0,0))):=Lib.hid (lay1_0 _ _)
   have HGw4:Hid (Flow.Grow w3 (w3.alloc (.cells #[] 3))):=Lib.hid (lay1_g _ _)
   have HSw4:Hid ((w3.alloc (.cells #[] 3)).heap.size=w3.heap.size+1):=Lib.hid (by simp)
   generalize w3.alloc (.cells #[] 3)=w4 at *
   obtain ⟨N1,hN1⟩:∃ X,X=w3.heap.size:=⟨_,rfl⟩
   rw [← hN1] at HBw40 HSw4 ⊢
   have HXw4:=Lib.hid hN1
   clear hN1
   have FXw4:Hid (∀ wq,Flow.Grow w4 wq→(∀ k,wq.frozen? ⟨N1,k,none⟩=false)):=Lib.hid (fun wq g=>fun k=>lay_frozen g HBw40.out k)
   have HI0:Hid (SpI w1 w4 (.slice (some ⟨g,0,none⟩) n cc) (.slice ea i ec) (.slice ba i bc) (.slice (some ⟨N1,0,none⟩) 0 0) (.slice oa m oc) cs all rows rl bl l []):=Lib.hid (by
    have h1:=HE.out.grow.size
    have h2:=HG3.out.size
    have h3:=HXw4.out
    have hy:∀ u∈[Value.slice (some ⟨N1,0,none⟩) 0 0],∀ b,u.ownBlock=some b→b∈obs []∨w3.heap.size≤b:=fun u hu b hb=>by
     rw [List.mem_singleton] at hu
     subst hu
     have e':some N1=some b:=hb
     injection e' with e'
     exact .inr (by omega)
    refine ⟨(HE.out.grow_ HG3.out).lx HGw4.out hy,own_zero HBw40.out (by omega),?_⟩
    have hto:=HSt.out.toAt (L:=obs [.slice (some ⟨g,0,none⟩) n cc,.slice ea i ec,.slice ba i bc]) (mask_grow HG3.out) (fun b hb=>by
     obtain ⟨u,hu,e⟩:=mem_obs.1 hb
     simp only [List.mem_cons,List.not_mem_nil,or_false] at hu
     rcases hu with rfl | rfl | rfl
     ·exact (HE.out.aown.lt b e).2
     ·exact (HE.out.town.lt b e).2
     ·exact (HE.out.bown.lt b e).2)
    exact hto.sub (spL_sub HGw4.out hy))
   go_wp2_with fail
   go_loopw [12,18,19] (fun av nv kv wr=>∃ (k:Nat) (cs:List (Value × Value)),k≤m∧kv=.int .i64 k∧Hid (SpI w1 wr av (.slice ea i ec) (.slice ba i bc) nv (.slice oa m oc) cs (exts all (l.take k)) rows rl bl l (tos all (l.take k)))) (fun _ _ kv _=>m - (intOf kv).toNat)
   case atStart=>exact ⟨0,cs,by omega,rfl,HI0⟩
   case round =>
    clear HI0
    obtain ⟨k,cs2,hkm,rfl,HI⟩:=hrel
    rename World=>wi
    obtain ⟨vq1,hvq1⟩:∃ v,v=u12:=⟨_,rfl⟩
    obtain ⟨vq2,hvq2⟩:∃ v,v=u18:=⟨_,rfl⟩
    obtain ⟨ca2,cc2,hcv⟩:=own_form HI.out.sp.aown
    obtain ⟨na,nc,hnv⟩:=own_form HI.out.nx
    subst hcv hnv
    clear hvq1 hvq2
    have hlen:(exts all (l.take k)).length≤most+12:=by
     have h1:=exts_len (l.take k) all
     rw [List.length_take,Hn.out] at h1
     omega
    by_cases hk:k < m
    ·obtain ⟨q',kk,d,hlk,hq3,hkk,hstp⟩:=steps_at (ps:=ps) (ls:=Pr.labsL L) (room:=room) (c:=c0) (k:=k) (by rw [← Hl.out,Hm.out];exact hk)
     rw [← Hl.out] at hlk
     have Hgdd:=Lib.hid (Hgd.out.stp hL HOk.out hq3 hkk (by rw [hstp]))
     have HT1:Hid (l.take (k+1)=l.take k++[(q',kk,d)]):=Lib.hid (by rw [List.take_add_one,hlk];rfl)
     have HE1:Hid (exts all (l.take (k+1))=ext (exts all (l.take k)) d):=Lib.hid (by rw [HT1.out,exts_snoc])
     have HO1:Hid (tos all (l.take (k+1))=tos all (l.take k)++[(exts all (l.take k)).idxOf d]):=Lib.hid (by rw [HT1.out,tos_snoc])
     have HTl:Hid ((tos all (l.take k)).length=k):=Lib.hid (by rw [tos_len,List.length_take,Hm.out];omega)
     have HAd:Hid ((exts all (l.take k)).Nodup):=Lib.hid (exts_nodup Hnd.out)
     have HAg:Hid (∀ x∈exts all (l.take k),Gd ps room x):=Lib.hid (fun x hx=>by
      rcases exts_mem hx with h1 | ⟨⟨a,q,y⟩,h1,rfl⟩
      ·exact HSd.out x h1
      ·have h2:=List.mem_of_mem_take h1
       rw [Hl.out] at h2
       obtain ⟨h3,h4,h5⟩:=steps_mem h2
       exact Hgd.out.stp hL HOk.out h3 h4 h5)
     have hld:(l.getD k dstp).2.2=d:=by rw [List.getD_eq_getElem?_getD,hlk];rfl
     clear hlk hstp HT1
     generalize tos all (l.take k)=tk at *
     generalize exts all (l.take k)=ak at *
     rw [HTl.out]
     obtain ⟨g2,c2,dS,dB,ev2,t2,t3,hcd⟩:=HI.out.lead k (by rw [Hm.out];exact hk)
     rw [hld] at hcd
     obtain ⟨rfl,rfl⟩:oa=some ⟨g2,0,none⟩∧oc=c2:=by injection ev2 with a b c;exact ⟨a,c⟩
     obtain ⟨ya,yc,yb,yo,yz,rfl,rfl⟩:=hcd.form Hgdd.out.wf.len Hgdd.out.wf.boxes
     have HCd:=Lib.hid hcd
     replace t2:=(mask_self _ _).cell _ _ t2
     replace t3:=(mask_self _ _).cell _ _ t3
     have HT2:=Lib.hid t2
     have HT3:=Lib.hid t3
     clear hcd ev2 hld t2 t3
     have hk0:(0:Int)≤(k:Int):=by omega
     have hkd:(k:Int) < (m:Int):=by omega
     have hkd':decide ((k:Int) < (m:Int))=true:=by simp;omega
     go_wp2_with fail
     go_loopw [20,21] (fun sv jv wr=>∃ (j:Nat) (a:Int),j≤ak.length∧jv=.int .i64 j∧sv=.int .i64 a∧Hid (AtOk ak d j a)∧Hid (Flow.Grow wi wr)) (fun _ jv _=>ak.length - (intOf jv).toNat)
     case atStart=>exact ⟨0,-1,by omega,rfl,rfl,Lib.hid (.inl ⟨fun q hq=>by omega,rfl⟩),Lib.hid (Flow.grow_refl _)⟩
     case round =>
      obtain ⟨j,a,hj,rfl,rfl,HA,HG⟩:=hrel
      rename World=>wj
      by_cases hja:j < ak.length
      ·obtain ⟨g5,c5,jS,jB,ev5,s0,s1,hcj⟩:=HI.out.sp.cell (i:=j) hja
       obtain ⟨rfl,rfl⟩:ca2=some ⟨g5,0,none⟩∧cc2=c5:=by injection ev5 with a b c;exact ⟨a,c⟩
       have hgj:Gd ps room (ak.getD j first):=HAg.out _ (by rw [List.getD_eq_getElem?_getD,List.getElem?_eq_getElem hja];exact List.getElem_mem hja)
       have HAs:=Lib.hid (HA.out.step hja)
       have HSm:Hid (∀ wq,Flow.Grow wi wq→Calls Try.prog 42 #[.agg #[jS,jB],.agg #[.slice ya 3 yc,.slice (some ⟨yb,yo,none⟩) 9 yz]] wq fun e w'=>∃ v,e=.returned v∧Flow.Grow wq w'∧v=.bool (decide (ak.getD j first=d))):=Lib.hid (fun wq g=>by
        refine (refSame_any jS jB _ _ (ak.getD j first) d wq hgj.wf.len hgj.wf.boxes Hgdd.out.wf.len Hgdd.out.wf.boxes (fun q=>by have:=hgj.bl q;omega) (fun q=>by have:=Hgdd.out.bl q;omega) ((hcj.sub (mask_self _ _)).grow g) ((HCd.out.sub (mask_self _ _)).grow g)).mono ?_
        rintro e w' ⟨rfl,hg⟩
        exact ⟨_,rfl,hg,rfl⟩)
       obtain ⟨ja,jc,jb,jo,jz,rfl,rfl⟩:=hcj.form hgj.wf.len hgj.wf.boxes
       have HS0:=Lib.hid s0
       have HS1:=Lib.hid s1
       clear hcj hgj s0 s1 ev5
       generalize ak.getD j first=cj at *
       have hj0:(0:Int)≤(j:Int):=by omega
       have hjd:(j:Int) < (ak.length:Int):=by omega
       have hjd':decide ((j:Int) < (ak.length:Int))=true:=by simp;omega
       generalize hbb:decide (cj=d)=bb at *
       have Hbb:=Lib.hid hbb
       clear hbb
       go_upto_region 15 with fail
       refine Flow.regionG (C:=fun _ wq=>Flow.Grow wj wq) (Fs:=[.inl ((.slice (some ⟨g5,0,none⟩) ak.length cc2)),.inl ((.int .i64 (j:Int))),.inl ((.pointer (some ⟨g5,j * 2,none⟩))),.inl ((.agg #[.slice ja 3 jc,.slice (some ⟨jb,jo,none⟩) 9 jz])),.inl ((.slice (some ⟨g2,0,none⟩) m oc)),.inl ((.int .i64 (k:Int))),.inl ((.pointer (some ⟨g2,k * 4,none⟩))),.inl ((.pointer (some ⟨g2,k * 4+2,none⟩))),.inl ((.agg #[.slice ya 3 yc,.slice (some ⟨yb,yo,none⟩) 9 yz])),.inl ((.bool bb))])
        [[],[],[0,1],[2],[],[],[4,5],[6],[7],[3,8]] [[],[],[0,1],[0,1,2],[],[],[4,5],[4,5,6],[4,5,6,7],[0,1,2,3,4,5,6,7,8]] [9] (by kernel_rfl) (by kernel_rfl) (by kernel_rfl) rfl (Flow.grow_drew _) ?ones15 ?ends15
       case ones15 =>
        refine Flow.OnesG.start (by exact trivial) (fun L w w' i=>(fun _ _ h g=>h.trans g) w w') fun HST HCG=>?_
        refine Flow.oq rfl HST HCG ?_ ?_
        ·intro L a w hC hLi hoff _
         exact Flow.gs rfl (Flow.exec_move (.inl rfl) (hoff.at2 12 0 hLi (by kernel_rfl)))
        refine Flow.oq rfl HST HCG ?_ ?_
        ·intro L a w hC hLi hoff _
         exact Flow.gs rfl (Flow.exec_move (.inl rfl) (hoff.at2 21 1 hLi (by kernel_rfl)))
        refine Flow.oq rfl HST HCG ?_ ?_
        ·rintro L a w hC hLi hoff ⟨k0,k1,-⟩
         have e57:=Flow.kv k0 rfl rfl
         have e58:=Flow.kv k1 rfl rfl
         refine Flow.gs rfl ?_
         generalize a.eval=ρ at e57 e58 ⊢
         simp [execOp,e57,e58,go_sem];intro hh;omega
        refine Flow.oq rfl HST HCG ?_ ?_
        ·rintro L a w hC hLi hoff ⟨k2,-⟩
         have e59:=Flow.kv k2 rfl rfl
         refine Flow.gs rfl ?_
         generalize a.eval=ρ at e59 ⊢
         have h0:=Xm2.cell_grow (HG.out.trans hC) HS0.out
         have h1:=Xm2.cell_grow (HG.out.trans hC) HS1.out
         simp [execOp,e59,h0,h1,go_sem]
        refine Flow.oq rfl HST HCG ?_ ?_
        ·intro L a w hC hLi hoff _
         exact Flow.gs rfl (Flow.exec_move (.inl rfl) (hoff.at2 16 4 hLi (by kernel_rfl)))
        refine Flow.oq rfl HST HCG ?_ ?_
        ·intro L a w hC hLi hoff _
         exact Flow.gs rfl (Flow.exec_move (.inl rfl) (hoff.at2 19 5 hLi (by kernel_rfl)))
        refine Flow.oq rfl HST HCG ?_ ?_
        ·rintro L a w hC hLi hoff ⟨k4,k5,-⟩
         have e61:=Flow.kv k4 rfl rfl
         have e62:=Flow.kv k5 rfl rfl
         refine Flow.gs rfl ?_
         generalize a.eval=ρ at e61 e62 ⊢
         simp [execOp,e61,e62,go_sem];intro hh;omega
        refine Flow.oq rfl HST HCG ?_ ?_
        ·rintro L a w hC hLi hoff ⟨k6,-⟩
         have e63:=Flow.kv k6 rfl rfl
         refine Flow.gs rfl ?_
         generalize a.eval=ρ at e63 ⊢
         simp [execOp,e63,go_sem]
        refine Flow.oq rfl HST HCG ?_ ?_
        ·rintro L a w hC hLi hoff ⟨k7,-⟩
         have e64:=Flow.kv k7 rfl rfl
         refine Flow.gs rfl ?_
         generalize a.eval=ρ at e64 ⊢
         have h0:=Xm2.cell_grow (HG.out.trans hC) HT2.out
         have h1:=Xm2.cell_grow (HG.out.trans hC) HT3.out
         simp [execOp,e64,h0,h1,go_sem]
        refine Flow.oq rfl HST HCG ?_ ?_
        ·rintro L a w hC hLi hoff ⟨k3,k8,-⟩
         have e60:=Flow.kv k3 rfl rfl
         have e65:=Flow.kv k8 rfl rfl
         exact .inl ⟨Flow.want_none rfl,Flow.run_call (Flow.exec_call rfl Try.func42 (by kernel_rfl) (by kernel_rfl) (by simp only [List.map_toArray,List.map_cons,List.map_nil,e60,e65] <;> rfl)) (HSm.out w (HG.out.trans hC))⟩
        exact trivial
       case ends15 =>
        intro LL wx hLL hC
        iterate 10 refine Flow.endsG_v rfl ?_
        refine Flow.endsG_nil ?_
        simp only [Act.put,List.setIfInBounds_toArray,List.set_cons_succ,List.set_cons_zero]
        have HGx:=Lib.hid (HG.out.trans hC)
        clear hC
        cases bb with
        | true =>
         go_wp2_with fail
         go_roundw
         case rel=>exact ⟨j+1,(j:Int),by omega,by go_num,rfl,Lib.hid (by have h:=HAs.out;rw [if_pos (of_decide_eq_true Hbb.out)] at h;exact h),HGx⟩
         case measure=>simp [intOf];omega
        | false =>
         go_wp2_with fail
         go_roundw
         case rel=>exact ⟨j+1,a,by omega,by go_num,rfl,Lib.hid (by have h:=HAs.out;rw [if_neg (of_decide_eq_false Hbb.out)] at h;exact h),HGx⟩
         case measure=>simp [intOf];omega
      ·obtain rfl:j=ak.length:=by omega
       have HIj:=Lib.hid (HI.out.grow_ HG.out)
       have HCj:Hid (∀ wq,Flow.Grow wj wq→CfgAt (mask wq (obs [.slice ca2 ak.length cc2,.slice ea i ec,.slice ba i bc,.slice na k nc])) (.slice ya 3 yc) (.slice (some ⟨yb,yo,none⟩) 9 yz) d):=Lib.hid (fun wq g=>by
        have h:=HCd.out.sub (mask_grow (HG.out.trans g))
        rw [HTl.out] at h
        exact h)
       rw [HTl.out] at HIj
       have hBj:w1.heap.size≤wj.heap.size:=HIj.out.sp.grow.size
       rcases HA.out.done HAd.out with ⟨hnm,rfl⟩ | ⟨hmm,rfl⟩
       ·have t2:=Xm2.cell_grow HG.out HT2.out
        have t3:=Xm2.cell_grow HG.out HT3.out
        clear HI HCd HT2 HT3 HA
        go_upto_region 20 with (at_builtin;refine wpList_appG w1.heap.size rfl _ _ 83 rfl 46 iR _ 2 48 Try.underlying83 hiR hR0 hR1 hR2 rfl (by decide) (.slice ca2 ak.length cc2) ak.length (rcCells cs2) rfl (own_keep HIj.out.sp.aown (Flow.grow_alloc _ _)) (by simp;omega) _ #[.slice ya 3 yc,.slice (some ⟨yb,yo,none⟩) 9 yz] 46 rfl (heap_alloc_new _ _) rfl (by intro u hu;simp at hu;rcases hu with rfl | rfl <;> rfl) (by omega) (by decide) ?_;intro gg c5 w5 hO hk hat;have HI5:=Lib.hid ((HIj.out.grow_ (Flow.grow_alloc _ _)).pushCfg hO hk hat (HCj.out _ (Flow.grow_alloc _ _)));clear hO hk hat)
        clear t2 t3
        have HN5:Hid (w5.ownsRow w1.heap.size 3 1 (.slice na k nc) k ((tk.map Int.ofNat).map (Value.int .i64))):=Lib.hid (by have h:=HI5.out.nx;rw [HTl.out] at h;exact h)
        have hB5:w1.heap.size≤w5.heap.size:=HI5.out.sp.grow.size
        go_wp2_with (at_builtin;refine wpList_appG w1.heap.size rfl _ _ 39 rfl 3 iI _ 1 8 Try.underlying39 hiI hI0 hI1 hI2 rfl (by decide) (.slice na k nc) k ((tk.map Int.ofNat).map (Value.int .i64)) rfl (own_keep HN5.out (Flow.grow_alloc _ _)) (by simp;omega) _ #[.int .i64 (ak.length:Int)] 3 rfl (heap_alloc_new _ _) rfl (by intro u hu;simp at hu;subst hu;rfl) (by omega) (by decide) ?_;intro gz c6 w6 hO hk hat;rw [← HTl.out] at hO;have HI6:=Lib.hid ((HI5.out.grow_ (Flow.grow_alloc _ _)).pushNx hO hk hat);rw [HTl.out] at HI6;clear hO hk hat)
        go_roundw
        case rel=>exact ⟨k+1,_,by omega,by go_num,Lib.hid (by rw [HE1.out,HO1.out,idxOf_new hnm,ext,if_neg hnm];exact HI6.out)⟩
        case measure=>simp [intOf];omega
       ·clear HI HCd HT2 HT3 HA
        have HIx:Hid (tk++[ak.idxOf d]=tk++[ak.idxOf d]):=Lib.hid rfl
        generalize hix:ak.idxOf d=x at *
        have Hix:=Lib.hid hix
        clear hix
        have hx0:decide ((x:Int) < 0)=false:=by simp
        have hx1:¬ (x:Int) < 0:=by omega
        have HN5:Hid (wj.ownsRow w1.heap.size 3 1 (.slice na k nc) k ((tk.map Int.ofNat).map (Value.int .i64))):=Lib.hid (by have h:=HIj.out.nx;rw [HTl.out] at h;exact h)
        go_wp2_with (at_builtin;refine wpList_appG w1.heap.size rfl _ _ 39 rfl 3 iI _ 1 8 Try.underlying39 hiI hI0 hI1 hI2 rfl (by decide) (.slice na k nc) k ((tk.map Int.ofNat).map (Value.int .i64)) rfl (own_keep HN5.out (Flow.grow_alloc _ _)) (by simp;omega) _ #[.int .i64 (x:Int)] 3 rfl (heap_alloc_new _ _) rfl (by intro u hu;simp at hu;subst hu;rfl) (by omega) (by decide) ?_;intro gz c6 w6 hO hk hat;rw [← HTl.out] at hO;have HI6:=Lib.hid ((HIj.out.grow_ (Flow.grow_alloc _ _)).pushNx hO hk hat);rw [HTl.out] at HI6;clear hO hk hat)
        go_roundw
        case rel=>exact ⟨k+1,_,by omega,by go_num,Lib.hid (by rw [HE1.out,HO1.out,ext,if_pos hmm];exact HI6.out)⟩
        case measure=>simp [intOf];omega
    ·obtain rfl:k=m:=by omega
     have htl:l.take k=l:=by rw [← Hm.out,List.take_length]
     rw [htl] at HI hlen ⊢
     have HTl:Hid ((tos all l).length=k):=Lib.hid (by rw [tos_len,Hm.out])
     rw [HTl.out] at HI ⊢
     have HI1:=HI
     rw [← Hst1.out] at hlen ⊢
     have hge:n≤(stage (sf ps L room) (i+1)).length:=by
      have h5:=(exts_pre l all).length_le
      rw [← Hst1.out,Hn.out] at h5
      exact h5
     rw [← Hst1.out] at HI1
     clear HI htl Hst1
     have HJ2:Hid (∀ j,j < i+1→j < (stage (sf ps L room) j).length):=Lib.hid (fun j hj=>by
      by_cases e:j < i
      ·exact HJ.out j e
      ·obtain rfl:j=i:=by omega
       rw [Hall.out,Hn.out]
       exact hin)
     generalize hal:stage (sf ps L room) (i+1)=al2 at *
     have Hal:=Lib.hid hal
     clear hal
     by_cases hbig:most < al2.length
     ·have d4:decide ((al2.length:Int) > (most:Int))=true:=by simp;omega
      have d5:(most:Int) < (al2.length:Int):=by omega
      go_wp2_with fail
      (try simp only [Exit.inBlock,Exit.then]);refine bodyPost_ret (results_tmp4 rfl _ _ _) rfl ?_
      exact ⟨.inl ⟨rfl,i,fun j hj=>HJ2.out j (by omega),by rw [Hal.out];exact hbig⟩,HG1.out.trans HI1.out.sp.grow⟩
     ·have d4:decide ((al2.length:Int) > (most:Int))=false:=by simp;omega
      have d5:¬ (most:Int) < (al2.length:Int):=by omega
      have HOs:Hid (wi.ownsRow w1.heap.size 39 1 (.slice ea i ec) i rows):=Lib.hid (by have h:=HI1.out.sp.town;rw [HrlL.out] at h;exact h)
      have hBi:w1.heap.size≤wi.heap.size:=HI1.out.sp.grow.size
      go_wp2_with (first
       | (at_builtin;refine wpList_appG w1.heap.size rfl _ _ 25 rfl 39 iS _ 1 24 Try.underlying25 hiS hS0 hS1 hS2 rfl (by decide) (.slice ea i ec) i rows rfl (own_keep HOs.out (Flow.grow_alloc _ _)) (by simp;omega) _ #[.slice na k nc] 39 rfl (heap_alloc_new _ _) rfl (by intro u hu;simp at hu;subst hu;rfl) (by omega) (by decide) ?_;intro gg c5 w5 hO hk hat;rw [← HrlL.out] at hO;have HE5:=Lib.hid ((HI1.out.sp.grow_ (Flow.grow_alloc _ _)).pushRow hO hk hat (own_keep HI1.out.nx (Flow.grow_alloc _ _)));have HOb:Hid (w5.ownsRow w1.heap.size 4 1 (.slice ba i bc) i (bl.map Value.bool)):=Lib.hid (by have h:=HE5.out.bown;rw [HblL.out] at h;exact h);have hB5:w1.heap.size≤w5.heap.size:=HE5.out.grow.size;clear hO hk hat)
       | (at_builtin;refine wpList_appG w1.heap.size rfl _ _ 24 rfl 4 iB _ 1 1 Try.underlying24 hiB hB0 hB1 hB2 rfl (by decide) (.slice ba i bc) i (bl.map Value.bool) rfl (own_keep HOb.out (Flow.grow_alloc _ _)) (by simp;omega) _ #[.bool bk] 4 rfl (heap_alloc_new _ _) rfl (by intro u hu;simp at hu;subst hu;rfl) (by omega) (by decide) ?_;intro gz c6 w6 hO hk hat;rw [← HblL.out] at hO;have HE6:=Lib.hid ((HE5.out.grow_ (Flow.grow_alloc _ _)).pushBlk hO hk hat);rw [HblL.out] at HE6;clear hO hk hat))
      rw [HrlL.out] at HE6
      go_roundw
      case rel=>exact ⟨i+1,cs2,_,by rw [Hal.out];omega,by rw [Hal.out];omega,HJ2,by go_num,Lib.hid (by rw [Hal.out,Hrl.out,Hbl.out];exact HE6.out)⟩
      case measure=>simp [intOf];omega
  ·obtain rfl:i=n:=by omega
   go_wp2_with fail
   (try simp only [Exit.inBlock,Exit.then]);refine bodyPost_ret (results_tmp4 rfl _ _ _) rfl ?_
   refine ⟨.inr ⟨i,ca,cc,ea,ec,ba,bc,rfl,⟨by rw [Hall.out];exact Hn.out,HJ.out⟩,hi2,?_⟩,HG1.out.trans HE.out.grow⟩
   rw [Hall.out,Hrl0.out,Hbl0.out]
   exact HE.out.done ⟨Hn.out,HrlL.out,HblL.out⟩
end Go.Proofs.Ytcpodmjcgfgmnaa
