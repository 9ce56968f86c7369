/- galliardlaw29.AsyncSteps returns true. -/
import Derived.Test.YtcpodmjcgfgmnaaAsSteps
import Derived.Test.YtcpodmjcgfgmnaaRefSt
import Derived.Test.YtcpodmjcgfgmnaaMAsC
import Derived.Test.YtcpodmjcgfgmnaaMAsB
import Derived.Test.YtcpodmjcgfgmnaaAsMay
import Derived.Test.YtcpodmjcgfgmnaaMAsA
import Derived.Test.YtcpodmjcgfgmnaaStRd
import Derived.Test.YtcpodmjcgfgmnaaAwake29
import Derived.Test.YtcpodmjcgfgmnaaMBase
import Derived.Test.YtcpodmjcgfgmnaaMFlow
import Derived.Test.YtcpodmjcgfgmnaaMLay
import Derived.Deep.DeepCutAuto
namespace Go.Proofs.Ytcpodmjcgfgmnaa
open Go.RowKit Go.Maps
namespace As
structure ASt (w6:World) (Y room:Nat) (ps:List Pr.Pd) (c:Cfg) (vS vM uS uB:Value) (w:World):Prop where
 good:Good ps room c
 grow:Flow.Grow w6 w
 cy:w.heap[Y]?=some (.cells #[vS,.int .i64 3,.int .i64 (room:Nat),vM] 43 (0,0))
 cz:w.heap[Y+1]?=some (.cells #[uS,uB] 46 (0,0))
 ca:CfgAt (mask w [Y,Y+1]) vS vM c
 cb:CfgAt (mask w [Y,Y+1]) uS uB c
theorem ASt.more {w6 w w':World} {Y room:Nat} {ps:List Pr.Pd} {c:Cfg} {vS vM uS uB:Value} (h:ASt w6 Y room ps c vS vM uS uB w) (g:Flow.Grow w w'):ASt w6 Y room ps c vS vM uS uB w' :=
 ⟨h.good,h.grow.trans g,heap_keep g h.cy,heap_keep g h.cz,h.ca.sub (mask_grow g),h.cb.sub (mask_grow g)⟩
structure SwC (w6 wi:World) (Y:Nat) (L:Nat→Bool) (w:World):Prop where
 grow:Flow.Grow w6 w
 size:wi.heap.size≤w.heap.size
 same:∀ b,b < wi.heap.size→b≠Y→b≠Y+1→w.heap[b]?=wi.heap[b]?
 y:L 9=false→w.heap[Y]?=wi.heap[Y]?
 z:L 10=false→w.heap[Y+1]?=wi.heap[Y+1]?
theorem SwC.cell {w6 wi w:World} {Y g off:Nat} {L:Nat→Bool} {v:Value} (h:SwC w6 wi Y L w) (h1:g≠Y) (h2:g≠Y+1) (hc:wi.cell? ⟨g,off,none⟩=some v):w.cell? ⟨g,off,none⟩=some v:=(World.cell?_of_block (h.same g (cell_lt hc) h1 h2)).trans hc
theorem SwC.more {w6 wi w w':World} {Y:Nat} {L:Nat→Bool} (h:SwC w6 wi Y L w) (hY:Y+1 < wi.heap.size) (g:Flow.Grow w w') (i:Nat):SwC w6 wi Y (Flow.ad L i) w' :=
 have hs:=h.size
 ⟨h.grow.trans g,Nat.le_trans h.size g.size,fun b h1 h2 h3=>(g.block b (by omega) (by simp)).trans (h.same b h1 h2 h3),fun e=>(g.block Y (by omega) (by simp)).trans (h.y (by unfold Flow.ad at e; simp at e; exact e.2)),fun e=>(g.block (Y+1) (by omega) (by simp)).trans (h.z (by unfold Flow.ad at e; simp at e; exact e.2))⟩
end As
theorem any_P (v:Value) (zs:List Int) (fin s0 s1:Int) (n:Nat) (W:World) (hn:n≤9223372036854775807) (h:Seg 3 W v n (zs.map (Value.int .i64))) :
  Calls Try.prog 5 #[v,.int .i64 fin,.agg #[.int .i64 s0,.int .i64 s1]] W (Pr.AnyP (Ref18.labels s0) W):=(any23 v zs fin s0 s1 n W hn h).mono fun _ _ h=>Pr.any_peers h
open As in
set_option maxRecDepth 100000 in
set_option maxHeartbeats 4000000 in
theorem asyncSteps_walk (v:Value) (zs:List Int) (n:Nat) (n0 n1 n2:Int) (vw:Value) (ws:List Int) (W:World) (hn:n≤9223372036854775807) (h:Seg 3 W v n (zs.map (Value.int .i64))) (hw:Ints W vw ws) (hwn:ws.length≤9223372036854775807) :
  Calls Try.prog 4 #[v,.agg #[.int .i64 n0,.int .i64 n1,.int .i64 n2],vw] W fun e w'=>e=.returned (.bool true)∧Flow.Grow W w':=by
 have HZ:=Lib.hid h
 have HW:=Lib.hid hw
 obtain ⟨av,cv,rfl,_⟩:=id h
 obtain ⟨aw,cw,rfl,_⟩:=id hw
 clear h hw
 obtain ⟨p,hp⟩:∃ p,p=ws.length:=⟨_,rfl⟩
 have Hp:=Lib.hid hp
 rw [← hp] at HW hwn ⊢
 clear hp
 have hand:∀ x:Int,bits .and .i64 x 1=x % 2:=fun x=>by
  have:=Bits.i64_mask x 1 (by omega) 1 (by decide)
  rwa [show (2:Int) ^ 1=2 by decide] at this
 have hand16:∀ x:Int,bits .and .i64 x 65535=x % 65536:=fun x=>by
  have:=Bits.i64_mask x 16 (by omega) 65535 (by decide)
  rwa [show (2:Int) ^ 16=65536 by decide] at this
 go_enter Try.func4,Try.ntmps4
 go_upto_region 1 with fail
 have HB0:Hid ((W.alloc (.cells #[.int .i64 n0,.int .i64 n1,.int .i64 n2] 38)).heap[W.heap.size]?=some (.cells #[.int .i64 n0,.int .i64 n1,.int .i64 n2] 38 (0,0))):=Lib.hid (heap_alloc_new _ _)
 have HG0:Hid (Flow.Grow W (W.alloc (.cells #[.int .i64 n0,.int .i64 n1,.int .i64 n2] 38))):=Lib.hid (Flow.grow_alloc _ _)
 generalize W.alloc (.cells #[.int .i64 n0,.int .i64 n1,.int .i64 n2] 38)=w1 at *
 obtain ⟨X,hX⟩:∃ X,X=W.heap.size:=⟨_,rfl⟩
 rw [← hX] at HB0 ⊢
 clear hX
 have c0:=(cell_of_row w1 X 0 _ _ _ HB0.out).trans rfl
 have c1:=(cell_of_row w1 X 1 _ _ _ HB0.out).trans rfl
 have c2:=(cell_of_row w1 X 2 _ _ _ HB0.out).trans rfl
 have HAny:Hid (∀ fin,Calls Try.prog 5 #[.slice av n cv,.int .i64 fin,.agg #[.int .i64 n0,.int .i64 n1]] w1 (Pr.AnyP (Ref18.labels n0) w1)):=Lib.hid (fun fin=>any_P _ zs fin n0 n1 n w1 hn (Seg.grow HZ.out HG0.out))
 generalize Ref18.labels n0=LN at *
 go_upto_region 2 with (go_at_call 5; refine (HAny.out _).mono ?_; rintro e w2 ⟨S,af,an,al,k,cf,cn,cl,rfl,hL,hls,hg,hpe⟩; have HLs:=Lib.hid hls; have HG2:=Lib.hid hg; have HPe:=Lib.hid hpe; clear hls hg hpe)
 have HGa:Hid (Flow.Grow w2 (w2.alloc (.cells #[.int .i64 (LN:Int),.int .i64 (S:Int),.slice af k cf,.slice an k cn] 27))):=Lib.hid (Flow.grow_alloc _ _)
 have HDb:Hid ((w2.alloc (.cells #[.int .i64 (LN:Int),.int .i64 (S:Int),.slice af k cf,.slice an k cn] 27)).heap[w2.heap.size]?=some (.cells #[.int .i64 (LN:Int),.int .i64 (S:Int),.slice af k cf,.slice an k cn] 27 (0,0))):=Lib.hid (heap_alloc_new _ _)
 generalize w2.alloc (.cells #[.int .i64 (LN:Int),.int .i64 (S:Int),.slice af k cf,.slice an k cn] 27)=w3 at *
 have d0:=(cell_of_row w3 _ 0 _ _ _ HDb.out).trans rfl
 have d1:=(cell_of_row w3 _ 1 _ _ _ HDb.out).trans rfl
 have d2:=(cell_of_row w3 _ 2 _ _ _ HDb.out).trans rfl
 have d3:=(cell_of_row w3 _ 3 _ _ _ HDb.out).trans rfl
 have HPw:=Lib.hid (HPe.out w3 HGa.out)
 go_upto_region 3 with (go_at_call 6; refine HPw.out.mono ?_; rintro e w4 ⟨hr,hg⟩; have HG4:=Lib.hid (HGa.out.trans hg); clear hg; rcases hr with rfl | ⟨vp,css,ps,rfl,hpa⟩)
 ·clear c0 c1 c2 d0 d1 d2 d3
  go_wp2_with (go_at_call 7; refine (awake29 _).mono ?_; rintro e w5 ⟨rfl,hg⟩; have HG5:=Lib.hid hg; clear hg)
  go_ret
  exact ⟨rfl,HG0.out.trans (HG2.out.trans (HG4.out.trans HG5.out))⟩
 ·have HPa:=Lib.hid hpa
  obtain ⟨pb,po,pc,rfl,_,_⟩:=hpa.at_
  clear hpa d0 d1 d2 d3
  have HGw:Hid (Flow.Grow W w4):=Lib.hid (HG0.out.trans (HG2.out.trans HG4.out))
  have HLs4:=Lib.hid (HLs.out.grow HG4.out)
  clear c0 c1 c2
  have c2:=(cell_of_row w4 X 2 _ _ _ (heap_keep (HG2.out.trans HG4.out) HB0.out)).trans rfl
  have hrm:IntKind.i64.wrap (n2 % 2+1)=n2 % 2+1:=by
   rw [IntKind.wrap_i64]; omega
  go_upto_region 6 with fail
  obtain ⟨room,hr,hr1,hr2⟩:∃ r:Nat,n2 % 2+1=(r:Int)∧1≤r∧r≤2:=⟨(n2 % 2+1).toNat,by omega,by omega,by omega⟩
  rw [hr]
  clear hrm hr c2 HZ
  have HF:=Lib.hid (fun wq (g:Flow.Grow w4 wq)=>asyncFirst_any room _ _ css ps wq hr1 (by omega) (HPa.out.grow g))
  have HR:=Lib.hid (fun wq (g:Flow.Grow w4 wq)=>refFirst_any _ _ css ps wq (HPa.out.grow g))
  go_upto_region 7 with (first
   | (go_at_call 9; refine (HF.out _ (Flow.grow_refl _)).mono ?_; rintro e w5 ⟨⟨sa,sn,sc,ma,mn,mc,rfl,hc5⟩,hg5⟩; have HC5:=Lib.hid hc5; have HG5:=Lib.hid hg5; clear hc5 hg5)
   | (go_at_call 10; refine (HR.out _ HG5.out).mono ?_; rintro e w6 ⟨⟨ra,rn,rc,ba,bn,bc,rfl,hc6⟩,hg6⟩; have HC6:=Lib.hid hc6; have HG6:=Lib.hid hg6; clear hc6 hg6))
  have HG46:=Lib.hid (HG5.out.trans HG6.out)
  have HBw70:Hid (((w6.alloc (.cells #[.slice sa sn sc,.int .i64 3,.int .i64 (room:Nat),.slice ma mn mc] 43)).alloc (.cells #[.slice ra rn rc,.slice ba bn bc] 46)).heap[w6.heap.size]?=some (.cells #[.slice sa sn sc,.int .i64 3,.int .i64 (room:Nat),.slice ma mn mc] 43 (0,0))):=Lib.hid (lay2_0 _ _ _)
  have HBw71:Hid (((w6.alloc (.cells #[.slice sa sn sc,.int .i64 3,.int .i64 (room:Nat),.slice ma mn mc] 43)).alloc (.cells #[.slice ra rn rc,.slice ba bn bc] 46)).heap[w6.heap.size+1]?=some (.cells #[.slice ra rn rc,.slice ba bn bc] 46 (0,0))):=Lib.hid (lay2_1 _ _ _)
  have HGw7:Hid (Flow.Grow w6 ((w6.alloc (.cells #[.slice sa sn sc,.int .i64 3,.int .i64 (room:Nat),.slice ma mn mc] 43)).alloc (.cells #[.slice ra rn rc,.slice ba bn bc] 46))):=Lib.hid (lay2_g _ _ _)
  have HSw7:Hid (((w6.alloc (.cells #[.slice sa sn sc,.int .i64 3,.int .i64 (room:Nat),.slice ma mn mc] 43)).alloc (.cells #[.slice ra rn rc,.slice ba bn bc] 46)).heap.size=w6.heap.size+1+1):=Lib.hid (by simp)
  generalize (w6.alloc (.cells #[.slice sa sn sc,.int .i64 3,.int .i64 (room:Nat),.slice ma mn mc] 43)).alloc (.cells #[.slice ra rn rc,.slice ba bn bc] 46)=w7 at *
  obtain ⟨Y,hY⟩:∃ X,X=w6.heap.size:=⟨_,rfl⟩
  rw [← hY] at HBw70 HBw71 HSw7 ⊢
  have HXw7:=Lib.hid hY
  clear hY
  have CXw7:Hid (∀ wq,Flow.Grow w7 wq→wq.cell? ⟨Y,0,none⟩=some (.slice sa sn sc)∧wq.cell? ⟨Y,1,none⟩=some (.int .i64 3)∧wq.cell? ⟨Y,2,none⟩=some (.int .i64 (room:Nat))∧wq.cell? ⟨Y,3,none⟩=some (.slice ma mn mc)∧wq.cell? ⟨Y+1,0,none⟩=some (.slice ra rn rc)∧wq.cell? ⟨Y+1,1,none⟩=some (.slice ba bn bc)):=Lib.hid (fun wq g=>⟨lay_cell g HBw70.out rfl,lay_cell g HBw70.out rfl,lay_cell g HBw70.out rfl,lay_cell g HBw70.out rfl,lay_cell g HBw71.out rfl,lay_cell g HBw71.out rfl⟩)
  have FXw7:Hid (∀ wq,Flow.Grow w7 wq→(∀ k,wq.frozen? ⟨Y,k,none⟩=false)∧(∀ k,wq.frozen? ⟨Y+1,k,none⟩=false)):=Lib.hid (fun wq g=>⟨fun k=>lay_frozen g HBw70.out k,fun k=>lay_frozen g HBw71.out k⟩)
  have HOk:Hid (∀ j,j < 3→(ps.getD j default).Ok (Pr.labsL LN) j):=Lib.hid (by
   obtain ⟨_,_,_,_,_,hpa⟩:=HPa.out.at_
   intro j hj
   obtain ⟨_,_,_,p,hp,_,_,_,_,_,_,_,_,_,f9⟩:=hpa j hj
   rw [← hp]
   exact f9)
  have HA7:Hid (ASt w6 Y room ps first (.slice sa sn sc) (.slice ma mn mc) (.slice ra rn rc) (.slice ba bn bc) w7):=Lib.hid (by
   have hs:Sub w6 (mask w7 [Y,Y+1]):=mask_of (Sub.of_grow HGw7.out) (by intro b hb; have:=HXw7.out; simp at hb; omega)
   exact ⟨good_first HOk.out,HGw7.out,HBw70.out,HBw71.out,(HC5.out.grow HG6.out).sub hs,HC6.out.sub hs⟩)
  clear HC5 HC6 HF HR
  go_wp2_with fail
  go_loopw [14] (fun iv wr=>∃ (i:Nat) (c:Cfg) (vS vM uS uB:Value),i≤12∧iv=.int .i64 i∧Hid (ASt w6 Y room ps c vS vM uS uB wr)) (fun iv _=>12 - (intOf iv).toNat)
  case atStart=>exact ⟨0,_,_,_,_,_,by omega,rfl,HA7⟩
  case round =>
   clear HA7
   obtain ⟨i,c,vS,vM,uS,uB,hi12,rfl,HA⟩:=hrel
   rename World=>wo
   obtain ⟨sa',sc',mb,mo,mc',rfl,rfl⟩:=HA.out.ca.form HA.out.good.wf.len HA.out.good.wf.boxes
   obtain ⟨ta,tc,ub,uo,uc,rfl,rfl⟩:=HA.out.cb.form HA.out.good.wf.len HA.out.good.wf.boxes
   by_cases hip:i < p
   ·have d1:decide ((i:Int) < (p:Nat))=true:=by simp; omega
    by_cases hi:i < 12
    ·have d2:decide ((i:Int) < 12)=true:=by simp; omega
     have hbl:∀ j,(c.2.getD j []).length≤100000:=fun j=>by have:=HA.out.good.bl j; omega
     have HRs:=Lib.hid (refSteps_any LN room _ _ _ _ css ps c (mask wo [Y,Y+1]) wo (mask_self _ _) hL (by omega) (HPa.out.grow (HG46.out.trans HA.out.grow)) (HLs4.out.grow (HG46.out.trans HA.out.grow)) HA.out.cb HA.out.good.wf hbl)
     have HSt:=Lib.hid (fun wq (g:Flow.Grow wo wq)=>asyncSteps_any LN room _ _ _ _ css ps c (mask wo [Y,Y+1]) wq ((mask_self _ _).trans (Sub.of_grow g)) hL (by omega) (HPa.out.grow (HG46.out.trans (HA.out.grow.trans g))) (HLs4.out.grow (HG46.out.trans (HA.out.grow.trans g))) HA.out.ca HA.out.good.wf hbl)
     have Hbl:=Lib.hid hbl
     clear hbl
     obtain ⟨l,hl⟩:∃ l,l=stepsI ps (Pr.labsL LN) room c 3:=⟨_,rfl⟩
     obtain ⟨bk,hbk⟩:∃ b,b=blkI ps (Pr.labsL LN) room c 3:=⟨_,rfl⟩
     rw [← hl,← hbk] at HRs HSt
     have Hl:=Lib.hid hl
     clear hl hbk
     have z0:=(cell_of_row wo (Y+1) 0 _ _ _ HA.out.cz).trans rfl
     have z1:=(cell_of_row wo (Y+1) 1 _ _ _ HA.out.cz).trans rfl
     have HYo:Hid (∀ wq,Flow.Grow wo wq→wq.cell? ⟨Y,0,none⟩=some (.slice sa' 3 sc')∧wq.cell? ⟨Y,1,none⟩=some (.int .i64 3)∧wq.cell? ⟨Y,2,none⟩=some (.int .i64 (room:Nat))∧wq.cell? ⟨Y,3,none⟩=some (.slice (some ⟨mb,mo,none⟩) 9 mc')):=Lib.hid (fun wq g=>⟨lay_cell g HA.out.cy rfl,lay_cell g HA.out.cy rfl,lay_cell g HA.out.cy rfl,lay_cell g HA.out.cy rfl⟩)
     go_upto_region 11 with (go_at_call 11; refine HRs.out.mono ?_; rintro e w8 ⟨⟨oa,oc,rfl,hst⟩,hg⟩; have HRd:=Lib.hid hst; have HG8:=Lib.hid hg; clear hst hg)
     clear z0 z1
     obtain ⟨y0,y1,y2,y3⟩:=HYo.out w8 HG8.out
     go_upto_region 12 with (go_at_call 12; refine (HSt.out _ HG8.out).mono ?_; rintro e w9 ⟨⟨ga,gc,xa,xc,rfl,hst⟩,hg⟩; have HSd:=Lib.hid hst; have HG9:=Lib.hid hg; clear hst hg)
     clear y0 y1 y2 y3 HRs HSt
     have HG89:=Lib.hid (HG8.out.trans HG9.out)
     generalize hm:l.length=m at *
     have Hm:=Lib.hid hm
     have hm12:m≤12:=by
      rw [← hm,Hl.out]
      refine stepsI_len (i:=3) fun j hj=>?_
      rw [(HOk.out j hj).acts]
      have:=Pr.acts_len j (Pr.labsL LN) (Pr.labsL LN).length
      have:=Pr.labsL_len hL
      omega
     clear hm
     have e1:(bk != bk)=false:=by simp
     have e2:((m:Int) != (m:Int))=false:=by simp
     go_wp2_with fail
     go_loopw [20] (fun kv wr=>∃ k:Nat,k≤m∧kv=.int .i64 k∧Hid (Flow.Grow w9 wr)) (fun kv _=>m - (intOf kv).toNat)
     case atStart=>exact ⟨0,by omega,rfl,Lib.hid (Flow.grow_refl _)⟩
     case round =>
      obtain ⟨k,hkm,rfl,HGk⟩:=hrel
      rename World=>wi
      by_cases hk:k < m
      ·obtain ⟨q',kk,d,hlk,hq3,hkk,hstp⟩:=steps_at (ps:=ps) (ls:=Pr.labsL LN) (room:=room) (c:=c) (k:=k) (by rw [← Hl.out,Hm.out]; exact hk)
       rw [← Hl.out] at hlk
       obtain ⟨g1,g2,c1,c2,dS,dM,ev1,ev2,s0,s1,s2,t0,t1,t2,t3,hdd,_,_⟩:=HSd.out.read (by rw [Hm.out]; exact hk) hlk
       obtain ⟨g3,c3,eS,eB,ev3,r0,r1,r2,r3,hde,_⟩:=HRd.out.read (by rw [Hm.out]; exact hk) hlk
       have hgd:=HA.out.good.stp HOk.out hq3 hkk (by rw [hstp])
       have hne:=stp_ne hL HA.out.good HOk.out hq3 hkk (by rw [hstp])
       have hdbl:∀ j,(d.2.getD j []).length≤100000:=fun j=>by have:=hgd.bl j; omega
       have hcd:=hdd.atS ((mask_self _ _).trans (Sub.of_grow HG89.out))
       have hce:=(hde.atS ((mask_self _ _).trans (Sub.of_grow HG8.out))).grow HG9.out
       obtain ⟨ua,uc',vb,vo,vc,rfl,rfl⟩:=hcd.form hgd.wf.len hgd.wf.boxes
       obtain ⟨pa,pc',qb,qo,qc,rfl,rfl⟩:=hce.form hgd.wf.len hgd.wf.boxes
       obtain ⟨rfl,rfl⟩:ga=some ⟨g1,0,none⟩∧gc=c1:=by injection ev1 with a b c; exact ⟨a,c⟩
       obtain ⟨rfl,rfl⟩:xa=some ⟨g2,0,none⟩∧xc=c2:=by injection ev2 with a b c; exact ⟨a,c⟩
       obtain ⟨rfl,rfl⟩:oa=some ⟨g3,0,none⟩∧oc=c3:=by injection ev3 with a b c; exact ⟨a,c⟩
       have HSc:Hid (∀ wq,Flow.Grow wi wq→wq.cell? ⟨g1,k * 3,none⟩=some (.int .i64 (q':Int))∧wq.cell? ⟨g1,k * 3+1,none⟩=some (.int .i64 (kk:Int))∧wq.cell? ⟨g1,k * 3+2,none⟩=some (.int .i64 (-1))):=Lib.hid (fun wq g=>⟨Xm2.cell_grow (HGk.out.trans g) s0,Xm2.cell_grow (HGk.out.trans g) s1,Xm2.cell_grow (HGk.out.trans g) s2⟩)
       have HTc:Hid (∀ wq,Flow.Grow wi wq→wq.cell? ⟨g2,k * 4,none⟩=some (.slice ua 3 uc')∧wq.cell? ⟨g2,k * 4+1,none⟩=some (.int .i64 3)∧wq.cell? ⟨g2,k * 4+2,none⟩=some (.int .i64 (room:Nat))∧wq.cell? ⟨g2,k * 4+3,none⟩=some (.slice (some ⟨vb,vo,none⟩) 9 vc)):=Lib.hid (fun wq g=>⟨Xm2.cell_grow (HGk.out.trans g) t0,Xm2.cell_grow (HGk.out.trans g) t1,Xm2.cell_grow (HGk.out.trans g) t2,Xm2.cell_grow (HGk.out.trans g) t3⟩)
       have HRc:Hid (∀ wq,Flow.Grow wi wq→wq.cell? ⟨g3,k * 4,none⟩=some (.int .i64 (q':Int))∧wq.cell? ⟨g3,k * 4+1,none⟩=some (.int .i64 (kk:Int))∧wq.cell? ⟨g3,k * 4+2,none⟩=some (.slice pa 3 pc')∧wq.cell? ⟨g3,k * 4+3,none⟩=some (.slice (some ⟨qb,qo,none⟩) 9 qc)):=Lib.hid (fun wq g=>⟨Xm2.cell_grow (HG9.out.trans (HGk.out.trans g)) r0,Xm2.cell_grow (HG9.out.trans (HGk.out.trans g)) r1,Xm2.cell_grow (HG9.out.trans (HGk.out.trans g)) r2,Xm2.cell_grow (HG9.out.trans (HGk.out.trans g)) r3⟩)
       have HGi:=Lib.hid (HG89.out.trans HGk.out)
       have HV:Hid (∀ wq,Flow.Grow wi wq→Sub (mask wo [Y,Y+1]) wq):=Lib.hid (fun wq g=>(mask_self _ _).trans (Sub.of_grow (HGi.out.trans g)))
       have HDo:Hid (∀ wq,Flow.Grow wi wq→Calls Try.prog 13 #[.slice (some ⟨pb,po,none⟩) 3 pc,.slice al LN cl,.agg #[.slice sa' 3 sc',.int .i64 3,.int .i64 (room:Nat),.slice (some ⟨mb,mo,none⟩) 9 mc'],.int .i64 q',.int .i64 kk] wq fun e w'=>∃ v,e=.returned v∧Flow.Grow wq w'∧∃ xa xc yb yo yc,v=.tuple #[.agg #[.slice xa 3 xc,.int .i64 3,.int .i64 (room:Nat),.slice (some ⟨yb,yo,none⟩) 9 yc],.bool true,.bool false]∧CfgD (mask wo [Y,Y+1]) w' wi.heap.size (.slice xa 3 xc) (.slice (some ⟨yb,yo,none⟩) 9 yc) d):=Lib.hid (fun wq g=>by
        have g6:=HG46.out.trans (HA.out.grow.trans (HGi.out.trans g))
        refine (asyncDo_any LN room q' kk _ _ _ _ css ps c (mask wo [Y,Y+1]) wq (HV.out wq g) hL (by omega) (HPa.out.grow g6) (HLs4.out.grow g6) HA.out.ca HA.out.good.wf hq3 hkk Hbl.out).mono ?_
        rintro e w' ⟨hp,hg⟩
        rw [hstp] at hp
        obtain ⟨xa,xn,xc,ya,yn,yc,rfl,hcf⟩:=hp
        obtain ⟨xa',xc',yb,yo,yc',e1,e2⟩:=(hcf.atS (HV.out w' (g.trans hg))).form hgd.wf.len hgd.wf.boxes
        rw [e1,e2] at hcf ⊢
        exact ⟨_,rfl,hg,xa',xc',yb,yo,yc',rfl,hcf.mono g.size⟩)
       have HAl:Hid (∀ (xS xM:Value) wq,Flow.Grow wi wq→CfgAt wq xS xM d→Calls Try.prog 14 #[.agg #[xS,.int .i64 3,.int .i64 (room:Nat),xM],.agg #[.slice pa 3 pc',.slice (some ⟨qb,qo,none⟩) 9 qc],.int .i64 3] wq fun e w'=>∃ v,e=.returned v∧Flow.Grow wq w'∧v=.bool true):=Lib.hid (fun xS xM wq g hx=>by
        refine (alike_any room xS xM _ _ d wq hgd.wf.boxes hgd.wf.len hdbl hx (hce.grow (HGk.out.trans g))).mono ?_
        rintro e w' ⟨rfl,hg⟩
        exact ⟨_,rfl,hg,rfl⟩)
       have HSm:Hid (∀ (xS xM:Value) wq,Flow.Grow wi wq→CfgAt wq xS xM d→Calls Try.prog 15 #[.agg #[xS,.int .i64 3,.int .i64 (room:Nat),xM],.agg #[.slice ua 3 uc',.int .i64 3,.int .i64 (room:Nat),.slice (some ⟨vb,vo,none⟩) 9 vc]] wq fun e w'=>∃ v,e=.returned v∧Flow.Grow wq w'∧v=.bool true):=Lib.hid (fun xS xM wq g hx=>by
        refine (asyncSame_any room xS xM _ _ d d wq hgd.wf.boxes hgd.wf.boxes hgd.wf.len hgd.wf.len (fun j=>by have:=hdbl j; omega) (fun j=>by have:=hdbl j; omega) hx (hcd.grow (HGk.out.trans g))).mono ?_
        rintro e w' ⟨rfl,hg⟩
        exact ⟨_,rfl,hg,by rw [decide_eq_true rfl]⟩)
       have HSn:Hid (∀ (xS xM:Value) wq,Flow.Grow wi wq→CfgAt wq xS xM d→Calls Try.prog 15 #[.agg #[xS,.int .i64 3,.int .i64 (room:Nat),xM],.agg #[.slice sa' 3 sc',.int .i64 3,.int .i64 (room:Nat),.slice (some ⟨mb,mo,none⟩) 9 mc']] wq fun e w'=>∃ v,e=.returned v∧Flow.Grow wq w'∧v=.bool false):=Lib.hid (fun xS xM wq g hx=>by
        refine (asyncSame_any room xS xM _ _ d c wq hgd.wf.boxes HA.out.good.wf.boxes hgd.wf.len HA.out.good.wf.len (fun j=>by have:=hdbl j; omega) (fun j=>by have:=Hbl.out j; omega) hx ((HA.out.ca.sub (mask_self _ _)).grow (HGi.out.trans g))).mono ?_
        rintro e w' ⟨rfl,hg⟩
        exact ⟨_,rfl,hg,by rw [decide_eq_false hne]⟩)
       have HYi:Hid (∀ wq,Flow.Grow wi wq→wq.cell? ⟨Y,0,none⟩=some (.slice sa' 3 sc')∧wq.cell? ⟨Y,1,none⟩=some (.int .i64 3)∧wq.cell? ⟨Y,2,none⟩=some (.int .i64 (room:Nat))∧wq.cell? ⟨Y,3,none⟩=some (.slice (some ⟨mb,mo,none⟩) 9 mc')):=Lib.hid (fun wq g=>HYo.out wq (HGi.out.trans g))
       have hkd:decide ((k:Int) < (m:Int))=true:=by simp; omega
       clear s0 s1 s2 t0 t1 t2 t3 r0 r1 r2 r3 hdd hde hgd hne hdbl hcd hce ev1 ev2 ev3 hlk hstp
       obtain ⟨iM,hiM,hM0,hM1,hM2⟩:=info_parts info_config
       go_upto_region 17 with fail
       refine Flow.regionG (C:=fun _ wq=>Flow.Grow wi wq) (Fs:=[.inl ((.slice (some ⟨pb,po,none⟩) 3 pc)),.inl ((.slice al LN cl)),.inl ((.agg #[.slice sa' 3 sc',.int .i64 3,.int .i64 (room:Nat),.slice (some ⟨mb,mo,none⟩) 9 mc'])),.inl ((.slice (some ⟨g3,0,none⟩) m oc)),.inl ((.int .i64 (k:Int))),.inl ((.pointer (some ⟨g3,k * 4,none⟩))),.inl ((.pointer (some ⟨g3,k * 4,none⟩))),.inl ((.int .i64 (q':Int))),.inl ((.slice (some ⟨g3,0,none⟩) m oc)),.inl ((.int .i64 (k:Int))),.inl ((.pointer (some ⟨g3,k * 4,none⟩))),.inl ((.pointer (some ⟨g3,k * 4+1,none⟩))),.inl ((.int .i64 (kk:Int))),.inr (fun v w=>∃ xa xc yb yo yc,v=.tuple #[.agg #[.slice xa 3 xc,.int .i64 3,.int .i64 (room:Nat),.slice (some ⟨yb,yo,none⟩) 9 yc],.bool true,.bool false]∧CfgD (mask wo [Y,Y+1]) w wi.heap.size (.slice xa 3 xc) (.slice (some ⟨yb,yo,none⟩) 9 yc) d),.inr (fun v w=>∃ xa xc yb yo yc,v=.tuple #[.agg #[.slice xa 3 xc,.int .i64 3,.int .i64 (room:Nat),.slice (some ⟨yb,yo,none⟩) 9 yc],.bool true,.bool false]∧CfgD (mask wo [Y,Y+1]) w wi.heap.size (.slice xa 3 xc) (.slice (some ⟨yb,yo,none⟩) 9 yc) d),.inr (fun v w=>∃ xa xc yb yo yc,v=.agg #[.slice xa 3 xc,.int .i64 3,.int .i64 (room:Nat),.slice (some ⟨yb,yo,none⟩) 9 yc]∧CfgD (mask wo [Y,Y+1]) w wi.heap.size (.slice xa 3 xc) (.slice (some ⟨yb,yo,none⟩) 9 yc) d),.inl ((.bool true)),.inl ((.bool false)),.inr (fun v w=>∃ A cs,v=.pointer (some ⟨A,0,none⟩)∧wi.heap.size≤A∧w.heap[A]?=some (.cells cs 43 (0,0))∧cs.size=4),.inr (fun v w=>∃ A xa xc yb yo yc,v=.pointer (some ⟨A,0,none⟩)∧wi.heap.size≤A∧w.heap[A]?=some (.cells #[.slice xa 3 xc,.int .i64 3,.int .i64 (room:Nat),.slice (some ⟨yb,yo,none⟩) 9 yc] 43 (0,0))∧CfgD (mask wo [Y,Y+1]) w wi.heap.size (.slice xa 3 xc) (.slice (some ⟨yb,yo,none⟩) 9 yc) d),.inl ((.bool true)),.inl ((.bool false))])
        [[],[],[],[],[],[3,4],[5],[6],[],[],[8,9],[10],[11],[0,1,2,7,12],[13],[14],[14],[14],[],[18,15],[16],[17]] [[],[],[],[],[],[3,4],[3,4,5],[3,4,5,6],[],[],[8,9],[8,9,10],[8,9,10,11],[0,1,2,3,4,5,6,7,8,9,10,11,12],[0,1,2,3,4,5,6,7,8,9,10,11,12,13],[0,1,2,3,4,5,6,7,8,9,10,11,12,13,14],[0,1,2,3,4,5,6,7,8,9,10,11,12,13,14],[0,1,2,3,4,5,6,7,8,9,10,11,12,13,14],[],[0,1,2,3,4,5,6,7,8,9,10,11,12,13,14,15,18],[0,1,2,3,4,5,6,7,8,9,10,11,12,13,14,16],[0,1,2,3,4,5,6,7,8,9,10,11,12,13,14,17]] [19] (by kernel_rfl) (by kernel_rfl) (by kernel_rfl) rfl (Flow.grow_drew _) ?ones17 ?ends17
       case ones17 =>
        have HST:Flow.Stable Flow.Grow [.inl ((.slice (some ⟨pb,po,none⟩) 3 pc)),.inl ((.slice al LN cl)),.inl ((.agg #[.slice sa' 3 sc',.int .i64 3,.int .i64 (room:Nat),.slice (some ⟨mb,mo,none⟩) 9 mc'])),.inl ((.slice (some ⟨g3,0,none⟩) m oc)),.inl ((.int .i64 (k:Int))),.inl ((.pointer (some ⟨g3,k * 4,none⟩))),.inl ((.pointer (some ⟨g3,k * 4,none⟩))),.inl ((.int .i64 (q':Int))),.inl ((.slice (some ⟨g3,0,none⟩) m oc)),.inl ((.int .i64 (k:Int))),.inl ((.pointer (some ⟨g3,k * 4,none⟩))),.inl ((.pointer (some ⟨g3,k * 4+1,none⟩))),.inl ((.int .i64 (kk:Int))),.inr (fun v w=>∃ xa xc yb yo yc,v=.tuple #[.agg #[.slice xa 3 xc,.int .i64 3,.int .i64 (room:Nat),.slice (some ⟨yb,yo,none⟩) 9 yc],.bool true,.bool false]∧CfgD (mask wo [Y,Y+1]) w wi.heap.size (.slice xa 3 xc) (.slice (some ⟨yb,yo,none⟩) 9 yc) d),.inr (fun v w=>∃ xa xc yb yo yc,v=.tuple #[.agg #[.slice xa 3 xc,.int .i64 3,.int .i64 (room:Nat),.slice (some ⟨yb,yo,none⟩) 9 yc],.bool true,.bool false]∧CfgD (mask wo [Y,Y+1]) w wi.heap.size (.slice xa 3 xc) (.slice (some ⟨yb,yo,none⟩) 9 yc) d),.inr (fun v w=>∃ xa xc yb yo yc,v=.agg #[.slice xa 3 xc,.int .i64 3,.int .i64 (room:Nat),.slice (some ⟨yb,yo,none⟩) 9 yc]∧CfgD (mask wo [Y,Y+1]) w wi.heap.size (.slice xa 3 xc) (.slice (some ⟨yb,yo,none⟩) 9 yc) d),.inl ((.bool true)),.inl ((.bool false)),.inr (fun v w=>∃ A cs,v=.pointer (some ⟨A,0,none⟩)∧wi.heap.size≤A∧w.heap[A]?=some (.cells cs 43 (0,0))∧cs.size=4),.inr (fun v w=>∃ A xa xc yb yo yc,v=.pointer (some ⟨A,0,none⟩)∧wi.heap.size≤A∧w.heap[A]?=some (.cells #[.slice xa 3 xc,.int .i64 3,.int .i64 (room:Nat),.slice (some ⟨yb,yo,none⟩) 9 yc] 43 (0,0))∧CfgD (mask wo [Y,Y+1]) w wi.heap.size (.slice xa 3 xc) (.slice (some ⟨yb,yo,none⟩) 9 yc) d),.inl ((.bool true)),.inl ((.bool false))]:=by exact ⟨fun _ _ _ g ⟨a,b,c,d,e,h1,h2⟩=>⟨a,b,c,d,e,h1,h2.grow g⟩,fun _ _ _ g ⟨a,b,c,d,e,h1,h2⟩=>⟨a,b,c,d,e,h1,h2.grow g⟩,fun _ _ _ g ⟨a,b,c,d,e,h1,h2⟩=>⟨a,b,c,d,e,h1,h2.grow g⟩,fun _ _ _ g ⟨A,cs,h1,h2,h3,h4⟩=>⟨A,cs,h1,h2,heap_keep g h3,h4⟩,fun _ _ _ g ⟨A,a,b,c,d,e,h1,h2,h3,h4⟩=>⟨A,a,b,c,d,e,h1,h2,heap_keep g h3,h4.grow g⟩,trivial⟩
        have HCG:∀ (L:Nat→Bool) (w w':World) (i:Nat),(fun wq=>Flow.Grow wi wq) w→Flow.Grow w w'→(fun wq=>Flow.Grow wi wq) w':=fun L w w' i=>(fun _ _ h g=>h.trans g) w w'
        refine Flow.OnesG.cons ?_ ?_
        ·refine Flow.OneG.q rfl HST HCG ?_
         intro L a w hC hLi hoff _
         have e9:a.eval (.tmp 9)=(.slice (some ⟨pb,po,none⟩) 3 pc):=hoff.at2 9 0 hLi (by kernel_rfl)
         refine .inl ⟨Flow.want_none rfl,?_⟩
         exact Flow.run_same (Flow.exec_move (.inl rfl) e9) Flow.grow_refl
        refine Flow.OnesG.cons ?_ ?_
        ·refine Flow.OneG.q rfl HST HCG ?_
         intro L a w hC hLi hoff _
         have e8:a.eval (.tmp 8)=(.slice al LN cl):=hoff.at2 8 1 hLi (by kernel_rfl)
         refine .inl ⟨Flow.want_none rfl,?_⟩
         exact Flow.run_same (Flow.exec_move (.inl rfl) e8) Flow.grow_refl
        refine Flow.OnesG.cons ?_ ?_
        ·refine Flow.OneG.q rfl HST HCG ?_
         intro L a w hC hLi hoff _
         have e12:a.eval (.tmp 12)=(.pointer (some ⟨Y,0,none⟩)):=hoff.at2 12 2 hLi (by kernel_rfl)
         refine .inl ⟨Flow.want_none rfl,?_⟩
         refine Flow.run_same ?_ Flow.grow_refl
         have ec:=Flow.eval_const a
         generalize a.eval=ρ at e12 ec ⊢
         obtain ⟨h0,h1,h2,h3⟩:=HYi.out w hC
         simp [execOp,e12,h0,h1,h2,h3,go_sem]
        refine Flow.OnesG.cons ?_ ?_
        ·refine Flow.OneG.q rfl HST HCG ?_
         intro L a w hC hLi hoff _
         have e15:a.eval (.tmp 15)=(.slice (some ⟨g3,0,none⟩) m oc):=hoff.at2 15 3 hLi (by kernel_rfl)
         refine .inl ⟨Flow.want_none rfl,?_⟩
         exact Flow.run_same (Flow.exec_move (.inl rfl) e15) Flow.grow_refl
        refine Flow.OnesG.cons ?_ ?_
        ·refine Flow.OneG.q rfl HST HCG ?_
         intro L a w hC hLi hoff _
         have e20:a.eval (.tmp 20)=(.int .i64 (k:Int)):=hoff.at2 20 4 hLi (by kernel_rfl)
         refine .inl ⟨Flow.want_none rfl,?_⟩
         exact Flow.run_same (Flow.exec_move (.inl rfl) e20) Flow.grow_refl
        refine Flow.OnesG.cons ?_ ?_
        ·refine Flow.OneG.q rfl HST HCG ?_
         rintro L a w hC hLi hoff ⟨k3,k4,-⟩
         have e119:a.eval (.tmp 119)=(.slice (some ⟨g3,0,none⟩) m oc):=k3 119 rfl
         have e120:a.eval (.tmp 120)=(.int .i64 (k:Int)):=k4 120 rfl
         refine .inl ⟨Flow.want_none rfl,?_⟩
         refine Flow.run_same ?_ Flow.grow_refl
         have ec:=Flow.eval_const a
         generalize a.eval=ρ at e119 e120 ec ⊢
         simp [execOp,e119,e120,go_sem]; intro hh; omega
        refine Flow.OnesG.cons ?_ ?_
        ·refine Flow.OneG.q rfl HST HCG ?_
         rintro L a w hC hLi hoff ⟨k5,-⟩
         have e121:a.eval (.tmp 121)=(.pointer (some ⟨g3,k * 4,none⟩)):=k5 121 rfl
         refine .inl ⟨Flow.want_none rfl,?_⟩
         refine Flow.run_same ?_ Flow.grow_refl
         have ec:=Flow.eval_const a
         generalize a.eval=ρ at e121 ec ⊢
         simp [execOp,e121,go_sem]
        refine Flow.OnesG.cons ?_ ?_
        ·refine Flow.OneG.q rfl HST HCG ?_
         rintro L a w hC hLi hoff ⟨k6,-⟩
         have e122:a.eval (.tmp 122)=(.pointer (some ⟨g3,k * 4,none⟩)):=k6 122 rfl
         refine .inl ⟨Flow.want_none rfl,?_⟩
         refine Flow.run_same ?_ Flow.grow_refl
         have ec:=Flow.eval_const a
         generalize a.eval=ρ at e122 ec ⊢
         obtain ⟨h0,_⟩:=HRc.out w hC
         simp [execOp,e122,h0,go_sem]
        refine Flow.OnesG.cons ?_ ?_
        ·refine Flow.OneG.q rfl HST HCG ?_
         intro L a w hC hLi hoff _
         have e15:a.eval (.tmp 15)=(.slice (some ⟨g3,0,none⟩) m oc):=hoff.at2 15 8 hLi (by kernel_rfl)
         refine .inl ⟨Flow.want_none rfl,?_⟩
         exact Flow.run_same (Flow.exec_move (.inl rfl) e15) Flow.grow_refl
        refine Flow.OnesG.cons ?_ ?_
        ·refine Flow.OneG.q rfl HST HCG ?_
         intro L a w hC hLi hoff _
         have e20:a.eval (.tmp 20)=(.int .i64 (k:Int)):=hoff.at2 20 9 hLi (by kernel_rfl)
         refine .inl ⟨Flow.want_none rfl,?_⟩
         exact Flow.run_same (Flow.exec_move (.inl rfl) e20) Flow.grow_refl
        refine Flow.OnesG.cons ?_ ?_
        ·refine Flow.OneG.q rfl HST HCG ?_
         rintro L a w hC hLi hoff ⟨k8,k9,-⟩
         have e124:a.eval (.tmp 124)=(.slice (some ⟨g3,0,none⟩) m oc):=k8 124 rfl
         have e125:a.eval (.tmp 125)=(.int .i64 (k:Int)):=k9 125 rfl
         refine .inl ⟨Flow.want_none rfl,?_⟩
         refine Flow.run_same ?_ Flow.grow_refl
         have ec:=Flow.eval_const a
         generalize a.eval=ρ at e124 e125 ec ⊢
         simp [execOp,e124,e125,go_sem]; intro hh; omega
        refine Flow.OnesG.cons ?_ ?_
        ·refine Flow.OneG.q rfl HST HCG ?_
         rintro L a w hC hLi hoff ⟨k10,-⟩
         have e126:a.eval (.tmp 126)=(.pointer (some ⟨g3,k * 4,none⟩)):=k10 126 rfl
         refine .inl ⟨Flow.want_none rfl,?_⟩
         refine Flow.run_same ?_ Flow.grow_refl
         have ec:=Flow.eval_const a
         generalize a.eval=ρ at e126 ec ⊢
         simp [execOp,e126,go_sem]
        refine Flow.OnesG.cons ?_ ?_
        ·refine Flow.OneG.q rfl HST HCG ?_
         rintro L a w hC hLi hoff ⟨k11,-⟩
         have e127:a.eval (.tmp 127)=(.pointer (some ⟨g3,k * 4+1,none⟩)):=k11 127 rfl
         refine .inl ⟨Flow.want_none rfl,?_⟩
         refine Flow.run_same ?_ Flow.grow_refl
         have ec:=Flow.eval_const a
         generalize a.eval=ρ at e127 ec ⊢
         obtain ⟨_,h0,_⟩:=HRc.out w hC
         simp [execOp,e127,h0,go_sem]
        refine Flow.OnesG.cons ?_ ?_
        ·refine Flow.OneG.q rfl HST HCG ?_
         rintro L a w hC hLi hoff ⟨k0,k1,k2,k7,k12,-⟩
         have e116:a.eval (.tmp 116)=(.slice (some ⟨pb,po,none⟩) 3 pc):=k0 116 rfl
         have e117:a.eval (.tmp 117)=(.slice al LN cl):=k1 117 rfl
         have e118:a.eval (.tmp 118)=(.agg #[.slice sa' 3 sc',.int .i64 3,.int .i64 (room:Nat),.slice (some ⟨mb,mo,none⟩) 9 mc']):=k2 118 rfl
         have e123:a.eval (.tmp 123)=(.int .i64 (q':Int)):=k7 123 rfl
         have e128:a.eval (.tmp 128)=(.int .i64 (kk:Int)):=k12 128 rfl
         refine .inl ⟨Flow.want_none rfl,?_⟩
         exact Flow.run_call (Flow.exec_call (args:=#[((.slice (some ⟨pb,po,none⟩) 3 pc)),((.slice al LN cl)),((.agg #[.slice sa' 3 sc',.int .i64 3,.int .i64 (room:Nat),.slice (some ⟨mb,mo,none⟩) 9 mc'])),((.int .i64 (q':Int))),((.int .i64 (kk:Int)))]) rfl Try.func13 (by kernel_rfl) (by kernel_rfl) (by simp only [List.map_toArray,List.map_cons,List.map_nil,e116,e117,e118,e123,e128] <;> rfl)) (HDo.out w hC)
        refine Flow.OnesG.cons ?_ ?_
        ·refine Flow.OneG.q rfl HST HCG ?_
         rintro L a w hC hLi hoff ⟨k13,-⟩
         have e129:(fun v w=>∃ xa xc yb yo yc,v=.tuple #[.agg #[.slice xa 3 xc,.int .i64 3,.int .i64 (room:Nat),.slice (some ⟨yb,yo,none⟩) 9 yc],.bool true,.bool false]∧CfgD (mask wo [Y,Y+1]) w wi.heap.size (.slice xa 3 xc) (.slice (some ⟨yb,yo,none⟩) 9 yc) d) (a.eval (.tmp 129)) w:=k13 129 rfl
         refine .inl ⟨Flow.want_none rfl,?_⟩
         exact Flow.run_val (Flow.exec_move (.inl rfl) rfl) (Flow.grow_refl _) e129
        refine Flow.OnesG.cons ?_ ?_
        ·refine Flow.OneG.q rfl HST HCG ?_
         rintro L a w hC hLi hoff ⟨k14,-⟩
         have e115:(fun v w=>∃ xa xc yb yo yc,v=.tuple #[.agg #[.slice xa 3 xc,.int .i64 3,.int .i64 (room:Nat),.slice (some ⟨yb,yo,none⟩) 9 yc],.bool true,.bool false]∧CfgD (mask wo [Y,Y+1]) w wi.heap.size (.slice xa 3 xc) (.slice (some ⟨yb,yo,none⟩) 9 yc) d) (a.eval (.tmp 115)) w:=k14 115 rfl
         refine .inl ⟨Flow.want_none rfl,?_⟩
         obtain ⟨xa,xc,yb,yo,yc,e115,hcx⟩:=e115
         refine Flow.run_val (v:=.agg #[.slice xa 3 xc,.int .i64 3,.int .i64 (room:Nat),.slice (some ⟨yb,yo,none⟩) 9 yc]) (w':=w) ?_ (Flow.grow_refl _) ⟨xa,xc,yb,yo,yc,rfl,hcx⟩
         generalize a.eval=ρ at e115 ⊢
         simp [execOp,e115,go_sem]
        refine Flow.OnesG.cons ?_ ?_
        ·refine Flow.OneG.q rfl HST HCG ?_
         rintro L a w hC hLi hoff ⟨k14,-⟩
         have e115:(fun v w=>∃ xa xc yb yo yc,v=.tuple #[.agg #[.slice xa 3 xc,.int .i64 3,.int .i64 (room:Nat),.slice (some ⟨yb,yo,none⟩) 9 yc],.bool true,.bool false]∧CfgD (mask wo [Y,Y+1]) w wi.heap.size (.slice xa 3 xc) (.slice (some ⟨yb,yo,none⟩) 9 yc) d) (a.eval (.tmp 115)) w:=k14 115 rfl
         refine .inl ⟨Flow.want_none rfl,?_⟩
         obtain ⟨xa,xc,yb,yo,yc,e115,_⟩:=e115
         refine Flow.run_same ?_ Flow.grow_refl
         generalize a.eval=ρ at e115 ⊢
         simp [execOp,e115,go_sem]
        refine Flow.OnesG.cons ?_ ?_
        ·refine Flow.OneG.q rfl HST HCG ?_
         rintro L a w hC hLi hoff ⟨k14,-⟩
         have e115:(fun v w=>∃ xa xc yb yo yc,v=.tuple #[.agg #[.slice xa 3 xc,.int .i64 3,.int .i64 (room:Nat),.slice (some ⟨yb,yo,none⟩) 9 yc],.bool true,.bool false]∧CfgD (mask wo [Y,Y+1]) w wi.heap.size (.slice xa 3 xc) (.slice (some ⟨yb,yo,none⟩) 9 yc) d) (a.eval (.tmp 115)) w:=k14 115 rfl
         refine .inl ⟨Flow.want_none rfl,?_⟩
         obtain ⟨xa,xc,yb,yo,yc,e115,_⟩:=e115
         refine Flow.run_same ?_ Flow.grow_refl
         generalize a.eval=ρ at e115 ⊢
         simp [execOp,e115,go_sem]
        refine Flow.OnesG.cons ?_ ?_
        ·refine Flow.OneG.q rfl HST HCG ?_
         intro L a w hC hLi hoff _
         refine .inl ⟨Flow.want_none rfl,?_⟩
         refine Flow.run_val (v:=.pointer (some ⟨w.heap.size,0,none⟩)) (w':=w.alloc (.cells #[.slice none 0 0,.int .i64 0,.int .i64 0,.slice none 0 0] 43)) (Flow.alloc_run rfl hiM hM0 _ _) (Flow.grow_alloc _ _) ⟨_,_,rfl,hC.size,heap_alloc_new _ _,rfl⟩
        refine Flow.OnesG.cons ?_ ?_
        ·refine Flow.OneG.k (fun w w'=>∃ g,w.grownBy w' (some g)∧∃ cs,w.heap[g]?=some (.cells cs 43 (0,0))) (by exact ⟨.inl rfl,.inr fun _ _ ⟨g,K,cs,hk⟩ u ⟨a,b,c,d,e,h1,h2⟩=>⟨a,b,c,d,e,h1,h2.kept K (fun g' e'=>by cases e'; exact ⟨cs,_,hk,by decide,by decide⟩)⟩,.inl rfl,.inl rfl,.inl rfl,trivial⟩) ?_
         rintro L a w hC hLi hoff ⟨k18,k15,-⟩
         have e21:(fun v w=>∃ A cs,v=.pointer (some ⟨A,0,none⟩)∧wi.heap.size≤A∧w.heap[A]?=some (.cells cs 43 (0,0))∧cs.size=4) (a.eval (.tmp 21)) w:=k18 21 rfl
         have e130:(fun v w=>∃ xa xc yb yo yc,v=.agg #[.slice xa 3 xc,.int .i64 3,.int .i64 (room:Nat),.slice (some ⟨yb,yo,none⟩) 9 yc]∧CfgD (mask wo [Y,Y+1]) w wi.heap.size (.slice xa 3 xc) (.slice (some ⟨yb,yo,none⟩) 9 yc) d) (a.eval (.tmp 130)) w:=k15 130 rfl
         refine ⟨Flow.want_none rfl,?_⟩
         obtain ⟨A,cs,e21,hA,hAc,hcs⟩:=e21
         obtain ⟨xa,xc,yb,yo,yc,e130,hcx⟩:=e130
         refine wp_sto (s:=21) (x:=130) rfl rfl hiM hM1 rfl (by intro v hv; simp at hv; rcases hv with rfl | rfl | rfl | rfl <;> rfl) (W:=wi) A hC hA e21 e130 ⟨cs,hAc,hcs⟩ fun w' h2 h3 h4 h5=>?_
         have hgb:w.grownBy w' (some A):=⟨h2.os.trans hC.os.symm,h2.tape.trans hC.tape.symm,h2.output.trans hC.output.symm,Nat.le_of_eq h3.symm,fun b _ hb=>h5 b (fun e=>hb (by rw [e]))⟩
         exact ⟨undef,rfl,h2,⟨A,hgb,cs,hAc⟩,fun s hs=>⟨A,xa,xc,yb,yo,yc,by cases hs; exact e21,hA,h4,hcx.kept (r:=some A) hgb (fun g e=>by cases e; exact ⟨cs,_,hAc,by decide,by decide⟩)⟩⟩
        refine Flow.OnesG.cons ?_ ?_
        ·refine Flow.OneG.q rfl HST HCG ?_
         rintro L a w hC hLi hoff ⟨k16,-⟩
         have e131:a.eval (.tmp 131)=(.bool true):=k16 131 rfl
         refine .inl ⟨Flow.want_none rfl,?_⟩
         exact Flow.run_same (Flow.exec_move (.inr rfl) e131) Flow.grow_refl
        refine Flow.OnesG.cons ?_ ?_
        ·refine Flow.OneG.q rfl HST HCG ?_
         rintro L a w hC hLi hoff ⟨k17,-⟩
         have e132:a.eval (.tmp 132)=(.bool false):=k17 132 rfl
         refine .inl ⟨Flow.want_none rfl,?_⟩
         exact Flow.run_same (Flow.exec_move (.inr rfl) e132) Flow.grow_refl
        exact trivial
       case ends17 =>
        intro LL wx hLL hC
        refine Flow.endsG_v rfl ?_
        refine Flow.endsG_v rfl ?_
        refine Flow.endsG_v rfl ?_
        refine Flow.endsG_v rfl ?_
        refine Flow.endsG_v rfl ?_
        refine Flow.endsG_v rfl ?_
        refine Flow.endsG_v rfl ?_
        refine Flow.endsG_v rfl ?_
        refine Flow.endsG_v rfl ?_
        refine Flow.endsG_v rfl ?_
        refine Flow.endsG_v rfl ?_
        refine Flow.endsG_v rfl ?_
        refine Flow.endsG_v rfl ?_
        refine Flow.endsG_r rfl fun v129 _=>?_
        refine Flow.endsG_r rfl fun v115 _=>?_
        refine Flow.endsG_r rfl fun v130 _=>?_
        refine Flow.endsG_v rfl ?_
        refine Flow.endsG_v rfl ?_
        refine Flow.endsG_r rfl fun v21 _=>?_
        refine Flow.endsG_s rfl rfl rfl fun hE19=>?_
        refine Flow.endsG_v rfl ?_
        refine Flow.endsG_v rfl ?_
        refine Flow.endsG_nil ?_
        simp only [Act.put,List.setIfInBounds_toArray,List.set_cons_succ,List.set_cons_zero]
        obtain ⟨A,xa',xc',yb,yo,yc,hv,hA,hAc,hcx⟩:=hE19
        obtain rfl:v21=.pointer (some ⟨A,0,none⟩):=by rw [← hv]; kernel_rfl
        have HXc:=Lib.hid (hcx.atS (HV.out _ hC))
        have HXa:Hid (∀ wq,Flow.Grow wx wq→wq.cell? ⟨A,0,none⟩=some (.slice xa' 3 xc')∧wq.cell? ⟨A,1,none⟩=some (.int .i64 3)∧wq.cell? ⟨A,2,none⟩=some (.int .i64 (room:Nat))∧wq.cell? ⟨A,3,none⟩=some (.slice (some ⟨yb,yo,none⟩) 9 yc)):=Lib.hid (fun wq g=>⟨lay_cell g hAc rfl,lay_cell g hAc rfl,lay_cell g hAc rfl,lay_cell g hAc rfl⟩)
        have HGx:=Lib.hid hC
        clear hv hA hAc hcx hC
        have s1:Try.prog.eqGuardType Try.prog.depth 60=false:=by as_aux_lemma=>kernel_rfl
        have s2:Try.prog.stoodInHeld 60=false:=by as_aux_lemma=>kernel_rfl
        go_upto_region 18 with fail
        refine Flow.regionG (C:=fun _ wq=>Flow.Grow wx wq) (Fs:=[.inl ((.slice (some ⟨g1,0,none⟩) m gc)),.inl ((.int .i64 (k:Int))),.inl ((.pointer (some ⟨g1,k * 3,none⟩))),.inl ((.agg #[.int .i64 (q':Int),.int .i64 (kk:Int),.int .i64 (-1)])),.inl ((.slice (some ⟨g3,0,none⟩) m oc)),.inl ((.int .i64 (k:Int))),.inl ((.pointer (some ⟨g3,k * 4,none⟩))),.inl ((.pointer (some ⟨g3,k * 4,none⟩))),.inl ((.int .i64 (q':Int))),.inl ((.slice (some ⟨g3,0,none⟩) m oc)),.inl ((.int .i64 (k:Int))),.inl ((.pointer (some ⟨g3,k * 4,none⟩))),.inl ((.pointer (some ⟨g3,k * 4+1,none⟩))),.inl ((.int .i64 (kk:Int))),.inl ((.agg #[.int .i64 (q':Int),.int .i64 (kk:Int),.int .i64 (-1)])),.inl ((.bool false)),.inl ((.bool false)),.inl ((.bool true)),.inl ((.bool false)),.inl ((.bool false)),.inl ((.bool false)),.inl ((.bool false)),.inl ((.bool false)),.inl ((.bool false)),.inl ((.agg #[.slice xa' 3 xc',.int .i64 3,.int .i64 (room:Nat),.slice (some ⟨yb,yo,none⟩) 9 yc])),.inl ((.slice (some ⟨g3,0,none⟩) m oc)),.inl ((.int .i64 (k:Int))),.inl ((.pointer (some ⟨g3,k * 4,none⟩))),.inl ((.pointer (some ⟨g3,k * 4+2,none⟩))),.inl ((.agg #[.slice pa 3 pc',.slice (some ⟨qb,qo,none⟩) 9 qc])),.inl ((.bool true)),.inl ((.bool false)),.inl ((.bool false)),.inl ((.bool false)),.inl ((.agg #[.slice xa' 3 xc',.int .i64 3,.int .i64 (room:Nat),.slice (some ⟨yb,yo,none⟩) 9 yc])),.inl ((.slice (some ⟨g2,0,none⟩) m xc)),.inl ((.int .i64 (k:Int))),.inl ((.pointer (some ⟨g2,k * 4,none⟩))),.inl ((.agg #[.slice ua 3 uc',.int .i64 3,.int .i64 (room:Nat),.slice (some ⟨vb,vo,none⟩) 9 vc])),.inl ((.bool true)),.inl ((.bool false)),.inl ((.bool false)),.inl ((.bool false)),.inl ((.agg #[.slice xa' 3 xc',.int .i64 3,.int .i64 (room:Nat),.slice (some ⟨yb,yo,none⟩) 9 yc])),.inl ((.agg #[.slice sa' 3 sc',.int .i64 3,.int .i64 (room:Nat),.slice (some ⟨mb,mo,none⟩) 9 mc'])),.inl ((.bool false)),.inl ((.bool false))])
         [[],[],[0,1],[2],[],[],[4,5],[6],[7],[],[],[9,10],[11],[12],[8,13],[3,14],[15],[16],[17,16],[16,18],[19],[20],[20,21],[22],[23],[23],[23],[25,26,23],[27,23],[28,23],[24,29,23],[30,23],[23,31],[32],[33],[33],[33],[35,36,33],[37,33],[34,38,33],[39,33],[33,40],[41],[42],[42],[43,44,42],[42,45]] [[],[],[0,1],[0,1,2],[],[],[4,5],[4,5,6],[4,5,6,7],[],[],[9,10],[9,10,11],[9,10,11,12],[4,5,6,7,8,9,10,11,12,13],[0,1,2,3,4,5,6,7,8,9,10,11,12,13,14],[0,1,2,3,4,5,6,7,8,9,10,11,12,13,14,15],[0,1,2,3,4,5,6,7,8,9,10,11,12,13,14,15,16],[0,1,2,3,4,5,6,7,8,9,10,11,12,13,14,15,16,17],[0,1,2,3,4,5,6,7,8,9,10,11,12,13,14,15,16,17,18],[0,1,2,3,4,5,6,7,8,9,10,11,12,13,14,15,16,17,18,19],[0,1,2,3,4,5,6,7,8,9,10,11,12,13,14,15,16,17,18,19,20],[0,1,2,3,4,5,6,7,8,9,10,11,12,13,14,15,16,17,18,19,20,21],[0,1,2,3,4,5,6,7,8,9,10,11,12,13,14,15,16,17,18,19,20,21,22],[0,1,2,3,4,5,6,7,8,9,10,11,12,13,14,15,16,17,18,19,20,21,22,23],[0,1,2,3,4,5,6,7,8,9,10,11,12,13,14,15,16,17,18,19,20,21,22,23],[0,1,2,3,4,5,6,7,8,9,10,11,12,13,14,15,16,17,18,19,20,21,22,23],[0,1,2,3,4,5,6,7,8,9,10,11,12,13,14,15,16,17,18,19,20,21,22,23,25,26],[0,1,2,3,4,5,6,7,8,9,10,11,12,13,14,15,16,17,18,19,20,21,22,23,25,26,27],[0,1,2,3,4,5,6,7,8,9,10,11,12,13,14,15,16,17,18,19,20,21,22,23,25,26,27,28],[0,1,2,3,4,5,6,7,8,9,10,11,12,13,14,15,16,17,18,19,20,21,22,23,24,25,26,27,28,29],[0,1,2,3,4,5,6,7,8,9,10,11,12,13,14,15,16,17,18,19,20,21,22,23,24,25,26,27,28,29,30],[0,1,2,3,4,5,6,7,8,9,10,11,12,13,14,15,16,17,18,19,20,21,22,23,24,25,26,27,28,29,30,31],[0,1,2,3,4,5,6,7,8,9,10,11,12,13,14,15,16,17,18,19,20,21,22,23,24,25,26,27,28,29,30,31,32],[0,1,2,3,4,5,6,7,8,9,10,11,12,13,14,15,16,17,18,19,20,21,22,23,24,25,26,27,28,29,30,31,32,33],[0,1,2,3,4,5,6,7,8,9,10,11,12,13,14,15,16,17,18,19,20,21,22,23,24,25,26,27,28,29,30,31,32,33],[0,1,2,3,4,5,6,7,8,9,10,11,12,13,14,15,16,17,18,19,20,21,22,23,24,25,26,27,28,29,30,31,32,33],[0,1,2,3,4,5,6,7,8,9,10,11,12,13,14,15,16,17,18,19,20,21,22,23,24,25,26,27,28,29,30,31,32,33,35,36],[0,1,2,3,4,5,6,7,8,9,10,11,12,13,14,15,16,17,18,19,20,21,22,23,24,25,26,27,28,29,30,31,32,33,35,36,37],[0,1,2,3,4,5,6,7,8,9,10,11,12,13,14,15,16,17,18,19,20,21,22,23,24,25,26,27,28,29,30,31,32,33,34,35,36,37,38],[0,1,2,3,4,5,6,7,8,9,10,11,12,13,14,15,16,17,18,19,20,21,22,23,24,25,26,27,28,29,30,31,32,33,34,35,36,37,38,39],[0,1,2,3,4,5,6,7,8,9,10,11,12,13,14,15,16,17,18,19,20,21,22,23,24,25,26,27,28,29,30,31,32,33,34,35,36,37,38,39,40],[0,1,2,3,4,5,6,7,8,9,10,11,12,13,14,15,16,17,18,19,20,21,22,23,24,25,26,27,28,29,30,31,32,33,34,35,36,37,38,39,40,41],[0,1,2,3,4,5,6,7,8,9,10,11,12,13,14,15,16,17,18,19,20,21,22,23,24,25,26,27,28,29,30,31,32,33,34,35,36,37,38,39,40,41,42],[0,1,2,3,4,5,6,7,8,9,10,11,12,13,14,15,16,17,18,19,20,21,22,23,24,25,26,27,28,29,30,31,32,33,34,35,36,37,38,39,40,41,42],[0,1,2,3,4,5,6,7,8,9,10,11,12,13,14,15,16,17,18,19,20,21,22,23,24,25,26,27,28,29,30,31,32,33,34,35,36,37,38,39,40,41,42,43,44],[0,1,2,3,4,5,6,7,8,9,10,11,12,13,14,15,16,17,18,19,20,21,22,23,24,25,26,27,28,29,30,31,32,33,34,35,36,37,38,39,40,41,42,43,44,45]] [46] (by kernel_rfl) (by kernel_rfl) (by kernel_rfl) rfl (Flow.grow_drew _) ?ones18 ?ends18
        case ones18 =>
         have HST:Flow.Stable Flow.Grow [.inl ((.slice (some ⟨g1,0,none⟩) m gc)),.inl ((.int .i64 (k:Int))),.inl ((.pointer (some ⟨g1,k * 3,none⟩))),.inl ((.agg #[.int .i64 (q':Int),.int .i64 (kk:Int),.int .i64 (-1)])),.inl ((.slice (some ⟨g3,0,none⟩) m oc)),.inl ((.int .i64 (k:Int))),.inl ((.pointer (some ⟨g3,k * 4,none⟩))),.inl ((.pointer (some ⟨g3,k * 4,none⟩))),.inl ((.int .i64 (q':Int))),.inl ((.slice (some ⟨g3,0,none⟩) m oc)),.inl ((.int .i64 (k:Int))),.inl ((.pointer (some ⟨g3,k * 4,none⟩))),.inl ((.pointer (some ⟨g3,k * 4+1,none⟩))),.inl ((.int .i64 (kk:Int))),.inl ((.agg #[.int .i64 (q':Int),.int .i64 (kk:Int),.int .i64 (-1)])),.inl ((.bool false)),.inl ((.bool false)),.inl ((.bool true)),.inl ((.bool false)),.inl ((.bool false)),.inl ((.bool false)),.inl ((.bool false)),.inl ((.bool false)),.inl ((.bool false)),.inl ((.agg #[.slice xa' 3 xc',.int .i64 3,.int .i64 (room:Nat),.slice (some ⟨yb,yo,none⟩) 9 yc])),.inl ((.slice (some ⟨g3,0,none⟩) m oc)),.inl ((.int .i64 (k:Int))),.inl ((.pointer (some ⟨g3,k * 4,none⟩))),.inl ((.pointer (some ⟨g3,k * 4+2,none⟩))),.inl ((.agg #[.slice pa 3 pc',.slice (some ⟨qb,qo,none⟩) 9 qc])),.inl ((.bool true)),.inl ((.bool false)),.inl ((.bool false)),.inl ((.bool false)),.inl ((.agg #[.slice xa' 3 xc',.int .i64 3,.int .i64 (room:Nat),.slice (some ⟨yb,yo,none⟩) 9 yc])),.inl ((.slice (some ⟨g2,0,none⟩) m xc)),.inl ((.int .i64 (k:Int))),.inl ((.pointer (some ⟨g2,k * 4,none⟩))),.inl ((.agg #[.slice ua 3 uc',.int .i64 3,.int .i64 (room:Nat),.slice (some ⟨vb,vo,none⟩) 9 vc])),.inl ((.bool true)),.inl ((.bool false)),.inl ((.bool false)),.inl ((.bool false)),.inl ((.agg #[.slice xa' 3 xc',.int .i64 3,.int .i64 (room:Nat),.slice (some ⟨yb,yo,none⟩) 9 yc])),.inl ((.agg #[.slice sa' 3 sc',.int .i64 3,.int .i64 (room:Nat),.slice (some ⟨mb,mo,none⟩) 9 mc'])),.inl ((.bool false)),.inl ((.bool false))]:=by exact trivial
         have HCG:∀ (L:Nat→Bool) (w w':World) (i:Nat),(fun wq=>Flow.Grow wx wq) w→Flow.Grow w w'→(fun wq=>Flow.Grow wx wq) w':=fun L w w' i=>(fun _ _ h g=>h.trans g) w w'
         refine Flow.OnesG.cons ?_ ?_
         ·refine Flow.OneG.q rfl HST HCG ?_
          intro L a w hC hLi hoff _
          have e17:a.eval (.tmp 17)=(.slice (some ⟨g1,0,none⟩) m gc):=hoff.at2 17 0 hLi (by kernel_rfl)
          refine .inl ⟨Flow.want_none rfl,?_⟩
          exact Flow.run_same (Flow.exec_move (.inl rfl) e17) Flow.grow_refl
         refine Flow.OnesG.cons ?_ ?_
         ·refine Flow.OneG.q rfl HST HCG ?_
          intro L a w hC hLi hoff _
          have e20:a.eval (.tmp 20)=(.int .i64 (k:Int)):=hoff.at2 20 1 hLi (by kernel_rfl)
          refine .inl ⟨Flow.want_none rfl,?_⟩
          exact Flow.run_same (Flow.exec_move (.inl rfl) e20) Flow.grow_refl
         refine Flow.OnesG.cons ?_ ?_
         ·refine Flow.OneG.q rfl HST HCG ?_
          rintro L a w hC hLi hoff ⟨k0,k1,-⟩
          have e133:a.eval (.tmp 133)=(.slice (some ⟨g1,0,none⟩) m gc):=k0 133 rfl
          have e134:a.eval (.tmp 134)=(.int .i64 (k:Int)):=k1 134 rfl
          refine .inl ⟨Flow.want_none rfl,?_⟩
          refine Flow.run_same ?_ Flow.grow_refl
          have ec:=Flow.eval_const a
          generalize a.eval=ρ at e133 e134 ec ⊢
          simp [execOp,e133,e134,go_sem]; intro hh; omega
         refine Flow.OnesG.cons ?_ ?_
         ·refine Flow.OneG.q rfl HST HCG ?_
          rintro L a w hC hLi hoff ⟨k2,-⟩
          have e135:a.eval (.tmp 135)=(.pointer (some ⟨g1,k * 3,none⟩)):=k2 135 rfl
          refine .inl ⟨Flow.want_none rfl,?_⟩
          refine Flow.run_same ?_ Flow.grow_refl
          have ec:=Flow.eval_const a
          generalize a.eval=ρ at e135 ec ⊢
          obtain ⟨h0,h1,h2⟩:=HSc.out w (HGx.out.trans hC)
          simp [execOp,e135,h0,h1,h2,go_sem]
         refine Flow.OnesG.cons ?_ ?_
         ·refine Flow.OneG.q rfl HST HCG ?_
          intro L a w hC hLi hoff _
          have e15:a.eval (.tmp 15)=(.slice (some ⟨g3,0,none⟩) m oc):=hoff.at2 15 4 hLi (by kernel_rfl)
          refine .inl ⟨Flow.want_none rfl,?_⟩
          exact Flow.run_same (Flow.exec_move (.inl rfl) e15) Flow.grow_refl
         refine Flow.OnesG.cons ?_ ?_
         ·refine Flow.OneG.q rfl HST HCG ?_
          intro L a w hC hLi hoff _
          have e20:a.eval (.tmp 20)=(.int .i64 (k:Int)):=hoff.at2 20 5 hLi (by kernel_rfl)
          refine .inl ⟨Flow.want_none rfl,?_⟩
          exact Flow.run_same (Flow.exec_move (.inl rfl) e20) Flow.grow_refl
         refine Flow.OnesG.cons ?_ ?_
         ·refine Flow.OneG.q rfl HST HCG ?_
          rintro L a w hC hLi hoff ⟨k4,k5,-⟩
          have e137:a.eval (.tmp 137)=(.slice (some ⟨g3,0,none⟩) m oc):=k4 137 rfl
          have e138:a.eval (.tmp 138)=(.int .i64 (k:Int)):=k5 138 rfl
          refine .inl ⟨Flow.want_none rfl,?_⟩
          refine Flow.run_same ?_ Flow.grow_refl
          have ec:=Flow.eval_const a
          generalize a.eval=ρ at e137 e138 ec ⊢
          simp [execOp,e137,e138,go_sem]; intro hh; omega
         refine Flow.OnesG.cons ?_ ?_
         ·refine Flow.OneG.q rfl HST HCG ?_
          rintro L a w hC hLi hoff ⟨k6,-⟩
          have e139:a.eval (.tmp 139)=(.pointer (some ⟨g3,k * 4,none⟩)):=k6 139 rfl
          refine .inl ⟨Flow.want_none rfl,?_⟩
          refine Flow.run_same ?_ Flow.grow_refl
          have ec:=Flow.eval_const a
          generalize a.eval=ρ at e139 ec ⊢
          simp [execOp,e139,go_sem]
         refine Flow.OnesG.cons ?_ ?_
         ·refine Flow.OneG.q rfl HST HCG ?_
          rintro L a w hC hLi hoff ⟨k7,-⟩
          have e140:a.eval (.tmp 140)=(.pointer (some ⟨g3,k * 4,none⟩)):=k7 140 rfl
          refine .inl ⟨Flow.want_none rfl,?_⟩
          refine Flow.run_same ?_ Flow.grow_refl
          have ec:=Flow.eval_const a
          generalize a.eval=ρ at e140 ec ⊢
          obtain ⟨h0,_⟩:=HRc.out w (HGx.out.trans hC)
          simp [execOp,e140,h0,go_sem]
         refine Flow.OnesG.cons ?_ ?_
         ·refine Flow.OneG.q rfl HST HCG ?_
          intro L a w hC hLi hoff _
          have e15:a.eval (.tmp 15)=(.slice (some ⟨g3,0,none⟩) m oc):=hoff.at2 15 9 hLi (by kernel_rfl)
          refine .inl ⟨Flow.want_none rfl,?_⟩
          exact Flow.run_same (Flow.exec_move (.inl rfl) e15) Flow.grow_refl
         refine Flow.OnesG.cons ?_ ?_
         ·refine Flow.OneG.q rfl HST HCG ?_
          intro L a w hC hLi hoff _
          have e20:a.eval (.tmp 20)=(.int .i64 (k:Int)):=hoff.at2 20 10 hLi (by kernel_rfl)
          refine .inl ⟨Flow.want_none rfl,?_⟩
          exact Flow.run_same (Flow.exec_move (.inl rfl) e20) Flow.grow_refl
         refine Flow.OnesG.cons ?_ ?_
         ·refine Flow.OneG.q rfl HST HCG ?_
          rintro L a w hC hLi hoff ⟨k9,k10,-⟩
          have e142:a.eval (.tmp 142)=(.slice (some ⟨g3,0,none⟩) m oc):=k9 142 rfl
          have e143:a.eval (.tmp 143)=(.int .i64 (k:Int)):=k10 143 rfl
          refine .inl ⟨Flow.want_none rfl,?_⟩
          refine Flow.run_same ?_ Flow.grow_refl
          have ec:=Flow.eval_const a
          generalize a.eval=ρ at e142 e143 ec ⊢
          simp [execOp,e142,e143,go_sem]; intro hh; omega
         refine Flow.OnesG.cons ?_ ?_
         ·refine Flow.OneG.q rfl HST HCG ?_
          rintro L a w hC hLi hoff ⟨k11,-⟩
          have e144:a.eval (.tmp 144)=(.pointer (some ⟨g3,k * 4,none⟩)):=k11 144 rfl
          refine .inl ⟨Flow.want_none rfl,?_⟩
          refine Flow.run_same ?_ Flow.grow_refl
          have ec:=Flow.eval_const a
          generalize a.eval=ρ at e144 ec ⊢
          simp [execOp,e144,go_sem]
         refine Flow.OnesG.cons ?_ ?_
         ·refine Flow.OneG.q rfl HST HCG ?_
          rintro L a w hC hLi hoff ⟨k12,-⟩
          have e145:a.eval (.tmp 145)=(.pointer (some ⟨g3,k * 4+1,none⟩)):=k12 145 rfl
          refine .inl ⟨Flow.want_none rfl,?_⟩
          refine Flow.run_same ?_ Flow.grow_refl
          have ec:=Flow.eval_const a
          generalize a.eval=ρ at e145 ec ⊢
          obtain ⟨_,h0,_⟩:=HRc.out w (HGx.out.trans hC)
          simp [execOp,e145,h0,go_sem]
         refine Flow.OnesG.cons ?_ ?_
         ·refine Flow.OneG.q rfl HST HCG ?_
          rintro L a w hC hLi hoff ⟨k8,k13,-⟩
          have e141:a.eval (.tmp 141)=(.int .i64 (q':Int)):=k8 141 rfl
          have e146:a.eval (.tmp 146)=(.int .i64 (kk:Int)):=k13 146 rfl
          refine .inl ⟨Flow.want_none rfl,?_⟩
          refine Flow.run_same ?_ Flow.grow_refl
          have ec:=Flow.eval_const a
          generalize a.eval=ρ at e141 e146 ec ⊢
          simp [execOp,e141,e146,ec,go_sem]
         refine Flow.OnesG.cons ?_ ?_
         ·refine Flow.OneG.q rfl HST HCG ?_
          rintro L a w hC hLi hoff ⟨k3,k14,-⟩
          have e136:a.eval (.tmp 136)=(.agg #[.int .i64 (q':Int),.int .i64 (kk:Int),.int .i64 (-1)]):=k3 136 rfl
          have e147:a.eval (.tmp 147)=(.agg #[.int .i64 (q':Int),.int .i64 (kk:Int),.int .i64 (-1)]):=k14 147 rfl
          refine .inl ⟨Flow.want_none rfl,?_⟩
          refine Flow.run_same ?_ Flow.grow_refl
          have ec:=Flow.eval_const a
          generalize a.eval=ρ at e136 e147 ec ⊢
          simp [execOp,e136,e147,s1,s2,go_sem]
         refine Flow.OnesG.cons ?_ ?_
         ·refine Flow.OneG.q rfl HST HCG ?_
          rintro L a w hC hLi hoff ⟨k15,-⟩
          have e148:a.eval (.tmp 148)=(.bool false):=k15 148 rfl
          refine .inl ⟨Flow.want_none rfl,?_⟩
          exact Flow.run_same (Flow.exec_move (.inl rfl) e148) Flow.grow_refl
         refine Flow.OnesG.cons ?_ ?_
         ·refine Flow.OneG.q rfl HST HCG ?_
          rintro L a w hC hLi hoff ⟨k16,-⟩
          have e149:a.eval (.tmp 149)=(.bool false):=k16 149 rfl
          have e22:a.eval (.tmp 22)=(.bool true):=hoff.at2 22 17 hLi (by kernel_rfl)
          refine .inl ⟨Flow.want_yes rfl rfl e149,?_⟩
          exact Flow.run_same (Flow.exec_move (.inl rfl) e22) Flow.grow_refl
         refine Flow.OnesG.cons ?_ ?_
         ·refine Flow.OneG.q rfl HST HCG ?_
          rintro L a w hC hLi hoff ⟨k17,k16,-⟩
          have e150:a.eval (.tmp 150)=(.bool true):=k17 150 rfl
          have e149:a.eval (.tmp 149)=(.bool false):=k16 149 rfl
          refine .inl ⟨Flow.want_yes rfl rfl e149,?_⟩
          refine Flow.run_same ?_ Flow.grow_refl
          have ec:=Flow.eval_const a
          generalize a.eval=ρ at e150 ec ⊢
          simp [execOp,e150,go_sem]
         refine Flow.OnesG.cons ?_ ?_
         ·refine Flow.OneG.q rfl HST HCG ?_
          rintro L a w hC hLi hoff ⟨k16,k18,-⟩
          have e149:a.eval (.tmp 149)=(.bool false):=k16 149 rfl
          have e151:a.eval (.tmp 151)=(.bool false):=k18 151 rfl
          refine .inl ⟨Flow.want_none rfl,?_⟩
          exact Flow.run_same (Flow.exec_pick_no rfl e149 e151) Flow.grow_refl
         refine Flow.OnesG.cons ?_ ?_
         ·refine Flow.OneG.q rfl HST HCG ?_
          rintro L a w hC hLi hoff ⟨k19,-⟩
          have e152:a.eval (.tmp 152)=(.bool false):=k19 152 rfl
          refine .inl ⟨Flow.want_none rfl,?_⟩
          exact Flow.run_same (Flow.exec_move (.inl rfl) e152) Flow.grow_refl
         refine Flow.OnesG.cons ?_ ?_
         ·refine Flow.OneG.q rfl HST HCG ?_
          rintro L a w hC hLi hoff ⟨k20,-⟩
          have e153:a.eval (.tmp 153)=(.bool false):=k20 153 rfl
          have e23:a.eval (.tmp 23)=(.bool false):=hoff.at2 23 21 hLi (by kernel_rfl)
          refine .inl ⟨Flow.want_yes rfl rfl e153,?_⟩
          exact Flow.run_same (Flow.exec_move (.inl rfl) e23) Flow.grow_refl
         refine Flow.OnesG.cons ?_ ?_
         ·refine Flow.OneG.q rfl HST HCG ?_
          rintro L a w hC hLi hoff ⟨k20,k21,-⟩
          have e153:a.eval (.tmp 153)=(.bool false):=k20 153 rfl
          have e154:a.eval (.tmp 154)=(.bool false):=k21 154 rfl
          refine .inl ⟨Flow.want_none rfl,?_⟩
          exact Flow.run_same (Flow.exec_pick_no rfl e153 e154) Flow.grow_refl
         refine Flow.OnesG.cons ?_ ?_
         ·refine Flow.OneG.q rfl HST HCG ?_
          rintro L a w hC hLi hoff ⟨k22,-⟩
          have e155:a.eval (.tmp 155)=(.bool false):=k22 155 rfl
          refine .inl ⟨Flow.want_none rfl,?_⟩
          exact Flow.run_same (Flow.exec_move (.inl rfl) e155) Flow.grow_refl
         refine Flow.OnesG.cons ?_ ?_
         ·refine Flow.OneG.q rfl HST HCG ?_
          rintro L a w hC hLi hoff ⟨k23,-⟩
          have e156:a.eval (.tmp 156)=(.bool false):=k23 156 rfl
          have e21:a.eval (.tmp 21)=(.pointer (some ⟨A,0,none⟩)):=hoff.at2 21 24 hLi (by kernel_rfl)
          refine .inl ⟨Flow.want_yes rfl rfl e156,?_⟩
          refine Flow.run_same ?_ Flow.grow_refl
          have ec:=Flow.eval_const a
          generalize a.eval=ρ at e21 ec ⊢
          obtain ⟨h0,h1,h2,h3⟩:=HXa.out w hC
          simp [execOp,e21,h0,h1,h2,h3,go_sem]
         refine Flow.OnesG.cons ?_ ?_
         ·refine Flow.OneG.q rfl HST HCG ?_
          rintro L a w hC hLi hoff ⟨k23,-⟩
          have e156:a.eval (.tmp 156)=(.bool false):=k23 156 rfl
          have e15:a.eval (.tmp 15)=(.slice (some ⟨g3,0,none⟩) m oc):=hoff.at2 15 25 hLi (by kernel_rfl)
          refine .inl ⟨Flow.want_yes rfl rfl e156,?_⟩
          exact Flow.run_same (Flow.exec_move (.inl rfl) e15) Flow.grow_refl
         refine Flow.OnesG.cons ?_ ?_
         ·refine Flow.OneG.q rfl HST HCG ?_
          rintro L a w hC hLi hoff ⟨k23,-⟩
          have e156:a.eval (.tmp 156)=(.bool false):=k23 156 rfl
          have e20:a.eval (.tmp 20)=(.int .i64 (k:Int)):=hoff.at2 20 26 hLi (by kernel_rfl)
          refine .inl ⟨Flow.want_yes rfl rfl e156,?_⟩
          exact Flow.run_same (Flow.exec_move (.inl rfl) e20) Flow.grow_refl
         refine Flow.OnesG.cons ?_ ?_
         ·refine Flow.OneG.q rfl HST HCG ?_
          rintro L a w hC hLi hoff ⟨k25,k26,k23,-⟩
          have e158:a.eval (.tmp 158)=(.slice (some ⟨g3,0,none⟩) m oc):=k25 158 rfl
          have e159:a.eval (.tmp 159)=(.int .i64 (k:Int)):=k26 159 rfl
          have e156:a.eval (.tmp 156)=(.bool false):=k23 156 rfl
          refine .inl ⟨Flow.want_yes rfl rfl e156,?_⟩
          refine Flow.run_same ?_ Flow.grow_refl
          have ec:=Flow.eval_const a
          generalize a.eval=ρ at e158 e159 ec ⊢
          simp [execOp,e158,e159,go_sem]; intro hh; omega
         refine Flow.OnesG.cons ?_ ?_
         ·refine Flow.OneG.q rfl HST HCG ?_
          rintro L a w hC hLi hoff ⟨k27,k23,-⟩
          have e160:a.eval (.tmp 160)=(.pointer (some ⟨g3,k * 4,none⟩)):=k27 160 rfl
          have e156:a.eval (.tmp 156)=(.bool false):=k23 156 rfl
          refine .inl ⟨Flow.want_yes rfl rfl e156,?_⟩
          refine Flow.run_same ?_ Flow.grow_refl
          have ec:=Flow.eval_const a
          generalize a.eval=ρ at e160 ec ⊢
          simp [execOp,e160,go_sem]
         refine Flow.OnesG.cons ?_ ?_
         ·refine Flow.OneG.q rfl HST HCG ?_
          rintro L a w hC hLi hoff ⟨k28,k23,-⟩
          have e161:a.eval (.tmp 161)=(.pointer (some ⟨g3,k * 4+2,none⟩)):=k28 161 rfl
          have e156:a.eval (.tmp 156)=(.bool false):=k23 156 rfl
          refine .inl ⟨Flow.want_yes rfl rfl e156,?_⟩
          refine Flow.run_same ?_ Flow.grow_refl
          have ec:=Flow.eval_const a
          generalize a.eval=ρ at e161 ec ⊢
          obtain ⟨_,_,h0,h1⟩:=HRc.out w (HGx.out.trans hC)
          simp [execOp,e161,h0,h1,go_sem]
         refine Flow.OnesG.cons ?_ ?_
         ·refine Flow.OneG.q rfl HST HCG ?_
          rintro L a w hC hLi hoff ⟨k24,k29,k23,-⟩
          have e157:a.eval (.tmp 157)=(.agg #[.slice xa' 3 xc',.int .i64 3,.int .i64 (room:Nat),.slice (some ⟨yb,yo,none⟩) 9 yc]):=k24 157 rfl
          have e162:a.eval (.tmp 162)=(.agg #[.slice pa 3 pc',.slice (some ⟨qb,qo,none⟩) 9 qc]):=k29 162 rfl
          have e156:a.eval (.tmp 156)=(.bool false):=k23 156 rfl
          refine .inl ⟨Flow.want_yes rfl rfl e156,?_⟩
          exact Flow.run_call (Flow.exec_call (args:=#[((.agg #[.slice xa' 3 xc',.int .i64 3,.int .i64 (room:Nat),.slice (some ⟨yb,yo,none⟩) 9 yc])),((.agg #[.slice pa 3 pc',.slice (some ⟨qb,qo,none⟩) 9 qc])),((.int .i64 3))]) rfl Try.func14 (by kernel_rfl) (by kernel_rfl) (by simp only [List.map_toArray,List.map_cons,List.map_nil,e157,e162] <;> rfl)) (HAl.out _ _ w (HGx.out.trans hC) (HXc.out.grow hC))
         refine Flow.OnesG.cons ?_ ?_
         ·refine Flow.OneG.q rfl HST HCG ?_
          rintro L a w hC hLi hoff ⟨k30,k23,-⟩
          have e163:a.eval (.tmp 163)=(.bool true):=k30 163 rfl
          have e156:a.eval (.tmp 156)=(.bool false):=k23 156 rfl
          refine .inl ⟨Flow.want_yes rfl rfl e156,?_⟩
          refine Flow.run_same ?_ Flow.grow_refl
          have ec:=Flow.eval_const a
          generalize a.eval=ρ at e163 ec ⊢
          simp [execOp,e163,go_sem]
         refine Flow.OnesG.cons ?_ ?_
         ·refine Flow.OneG.q rfl HST HCG ?_
          rintro L a w hC hLi hoff ⟨k23,k31,-⟩
          have e156:a.eval (.tmp 156)=(.bool false):=k23 156 rfl
          have e164:a.eval (.tmp 164)=(.bool false):=k31 164 rfl
          refine .inl ⟨Flow.want_none rfl,?_⟩
          exact Flow.run_same (Flow.exec_pick_no rfl e156 e164) Flow.grow_refl
         refine Flow.OnesG.cons ?_ ?_
         ·refine Flow.OneG.q rfl HST HCG ?_
          rintro L a w hC hLi hoff ⟨k32,-⟩
          have e165:a.eval (.tmp 165)=(.bool false):=k32 165 rfl
          refine .inl ⟨Flow.want_none rfl,?_⟩
          exact Flow.run_same (Flow.exec_move (.inl rfl) e165) Flow.grow_refl
         refine Flow.OnesG.cons ?_ ?_
         ·refine Flow.OneG.q rfl HST HCG ?_
          rintro L a w hC hLi hoff ⟨k33,-⟩
          have e166:a.eval (.tmp 166)=(.bool false):=k33 166 rfl
          have e21:a.eval (.tmp 21)=(.pointer (some ⟨A,0,none⟩)):=hoff.at2 21 34 hLi (by kernel_rfl)
          refine .inl ⟨Flow.want_yes rfl rfl e166,?_⟩
          refine Flow.run_same ?_ Flow.grow_refl
          have ec:=Flow.eval_const a
          generalize a.eval=ρ at e21 ec ⊢
          obtain ⟨h0,h1,h2,h3⟩:=HXa.out w hC
          simp [execOp,e21,h0,h1,h2,h3,go_sem]
         refine Flow.OnesG.cons ?_ ?_
         ·refine Flow.OneG.q rfl HST HCG ?_
          rintro L a w hC hLi hoff ⟨k33,-⟩
          have e166:a.eval (.tmp 166)=(.bool false):=k33 166 rfl
          have e18:a.eval (.tmp 18)=(.slice (some ⟨g2,0,none⟩) m xc):=hoff.at2 18 35 hLi (by kernel_rfl)
          refine .inl ⟨Flow.want_yes rfl rfl e166,?_⟩
          exact Flow.run_same (Flow.exec_move (.inl rfl) e18) Flow.grow_refl
         refine Flow.OnesG.cons ?_ ?_
         ·refine Flow.OneG.q rfl HST HCG ?_
          rintro L a w hC hLi hoff ⟨k33,-⟩
          have e166:a.eval (.tmp 166)=(.bool false):=k33 166 rfl
          have e20:a.eval (.tmp 20)=(.int .i64 (k:Int)):=hoff.at2 20 36 hLi (by kernel_rfl)
          refine .inl ⟨Flow.want_yes rfl rfl e166,?_⟩
          exact Flow.run_same (Flow.exec_move (.inl rfl) e20) Flow.grow_refl
         refine Flow.OnesG.cons ?_ ?_
         ·refine Flow.OneG.q rfl HST HCG ?_
          rintro L a w hC hLi hoff ⟨k35,k36,k33,-⟩
          have e168:a.eval (.tmp 168)=(.slice (some ⟨g2,0,none⟩) m xc):=k35 168 rfl
          have e169:a.eval (.tmp 169)=(.int .i64 (k:Int)):=k36 169 rfl
          have e166:a.eval (.tmp 166)=(.bool false):=k33 166 rfl
          refine .inl ⟨Flow.want_yes rfl rfl e166,?_⟩
          refine Flow.run_same ?_ Flow.grow_refl
          have ec:=Flow.eval_const a
          generalize a.eval=ρ at e168 e169 ec ⊢
          simp [execOp,e168,e169,go_sem]; intro hh; omega
         refine Flow.OnesG.cons ?_ ?_
         ·refine Flow.OneG.q rfl HST HCG ?_
          rintro L a w hC hLi hoff ⟨k37,k33,-⟩
          have e170:a.eval (.tmp 170)=(.pointer (some ⟨g2,k * 4,none⟩)):=k37 170 rfl
          have e166:a.eval (.tmp 166)=(.bool false):=k33 166 rfl
          refine .inl ⟨Flow.want_yes rfl rfl e166,?_⟩
          refine Flow.run_same ?_ Flow.grow_refl
          have ec:=Flow.eval_const a
          generalize a.eval=ρ at e170 ec ⊢
          obtain ⟨h0,h1,h2,h3⟩:=HTc.out w (HGx.out.trans hC)
          simp [execOp,e170,h0,h1,h2,h3,go_sem]
         refine Flow.OnesG.cons ?_ ?_
         ·refine Flow.OneG.q rfl HST HCG ?_
          rintro L a w hC hLi hoff ⟨k34,k38,k33,-⟩
          have e167:a.eval (.tmp 167)=(.agg #[.slice xa' 3 xc',.int .i64 3,.int .i64 (room:Nat),.slice (some ⟨yb,yo,none⟩) 9 yc]):=k34 167 rfl
          have e171:a.eval (.tmp 171)=(.agg #[.slice ua 3 uc',.int .i64 3,.int .i64 (room:Nat),.slice (some ⟨vb,vo,none⟩) 9 vc]):=k38 171 rfl
          have e166:a.eval (.tmp 166)=(.bool false):=k33 166 rfl
          refine .inl ⟨Flow.want_yes rfl rfl e166,?_⟩
          exact Flow.run_call (Flow.exec_call (args:=#[((.agg #[.slice xa' 3 xc',.int .i64 3,.int .i64 (room:Nat),.slice (some ⟨yb,yo,none⟩) 9 yc])),((.agg #[.slice ua 3 uc',.int .i64 3,.int .i64 (room:Nat),.slice (some ⟨vb,vo,none⟩) 9 vc]))]) rfl Try.func15 (by kernel_rfl) (by kernel_rfl) (by simp only [List.map_toArray,List.map_cons,List.map_nil,e167,e171] <;> rfl)) (HSm.out _ _ w (HGx.out.trans hC) (HXc.out.grow hC))
         refine Flow.OnesG.cons ?_ ?_
         ·refine Flow.OneG.q rfl HST HCG ?_
          rintro L a w hC hLi hoff ⟨k39,k33,-⟩
          have e172:a.eval (.tmp 172)=(.bool true):=k39 172 rfl
          have e166:a.eval (.tmp 166)=(.bool false):=k33 166 rfl
          refine .inl ⟨Flow.want_yes rfl rfl e166,?_⟩
          refine Flow.run_same ?_ Flow.grow_refl
          have ec:=Flow.eval_const a
          generalize a.eval=ρ at e172 ec ⊢
          simp [execOp,e172,go_sem]
         refine Flow.OnesG.cons ?_ ?_
         ·refine Flow.OneG.q rfl HST HCG ?_
          rintro L a w hC hLi hoff ⟨k33,k40,-⟩
          have e166:a.eval (.tmp 166)=(.bool false):=k33 166 rfl
          have e173:a.eval (.tmp 173)=(.bool false):=k40 173 rfl
          refine .inl ⟨Flow.want_none rfl,?_⟩
          exact Flow.run_same (Flow.exec_pick_no rfl e166 e173) Flow.grow_refl
         refine Flow.OnesG.cons ?_ ?_
         ·refine Flow.OneG.q rfl HST HCG ?_
          rintro L a w hC hLi hoff ⟨k41,-⟩
          have e174:a.eval (.tmp 174)=(.bool false):=k41 174 rfl
          refine .inl ⟨Flow.want_none rfl,?_⟩
          exact Flow.run_same (Flow.exec_move (.inl rfl) e174) Flow.grow_refl
         refine Flow.OnesG.cons ?_ ?_
         ·refine Flow.OneG.q rfl HST HCG ?_
          rintro L a w hC hLi hoff ⟨k42,-⟩
          have e175:a.eval (.tmp 175)=(.bool false):=k42 175 rfl
          have e21:a.eval (.tmp 21)=(.pointer (some ⟨A,0,none⟩)):=hoff.at2 21 43 hLi (by kernel_rfl)
          refine .inl ⟨Flow.want_yes rfl rfl e175,?_⟩
          refine Flow.run_same ?_ Flow.grow_refl
          have ec:=Flow.eval_const a
          generalize a.eval=ρ at e21 ec ⊢
          obtain ⟨h0,h1,h2,h3⟩:=HXa.out w hC
          simp [execOp,e21,h0,h1,h2,h3,go_sem]
         refine Flow.OnesG.cons ?_ ?_
         ·refine Flow.OneG.q rfl HST HCG ?_
          rintro L a w hC hLi hoff ⟨k42,-⟩
          have e175:a.eval (.tmp 175)=(.bool false):=k42 175 rfl
          have e12:a.eval (.tmp 12)=(.pointer (some ⟨Y,0,none⟩)):=hoff.at2 12 44 hLi (by kernel_rfl)
          refine .inl ⟨Flow.want_yes rfl rfl e175,?_⟩
          refine Flow.run_same ?_ Flow.grow_refl
          have ec:=Flow.eval_const a
          generalize a.eval=ρ at e12 ec ⊢
          obtain ⟨h0,h1,h2,h3⟩:=HYi.out w (HGx.out.trans hC)
          simp [execOp,e12,h0,h1,h2,h3,go_sem]
         refine Flow.OnesG.cons ?_ ?_
         ·refine Flow.OneG.q rfl HST HCG ?_
          rintro L a w hC hLi hoff ⟨k43,k44,k42,-⟩
          have e176:a.eval (.tmp 176)=(.agg #[.slice xa' 3 xc',.int .i64 3,.int .i64 (room:Nat),.slice (some ⟨yb,yo,none⟩) 9 yc]):=k43 176 rfl
          have e177:a.eval (.tmp 177)=(.agg #[.slice sa' 3 sc',.int .i64 3,.int .i64 (room:Nat),.slice (some ⟨mb,mo,none⟩) 9 mc']):=k44 177 rfl
          have e175:a.eval (.tmp 175)=(.bool false):=k42 175 rfl
          refine .inl ⟨Flow.want_yes rfl rfl e175,?_⟩
          exact Flow.run_call (Flow.exec_call (args:=#[((.agg #[.slice xa' 3 xc',.int .i64 3,.int .i64 (room:Nat),.slice (some ⟨yb,yo,none⟩) 9 yc])),((.agg #[.slice sa' 3 sc',.int .i64 3,.int .i64 (room:Nat),.slice (some ⟨mb,mo,none⟩) 9 mc']))]) rfl Try.func15 (by kernel_rfl) (by kernel_rfl) (by simp only [List.map_toArray,List.map_cons,List.map_nil,e176,e177] <;> rfl)) (HSn.out _ _ w (HGx.out.trans hC) (HXc.out.grow hC))
         refine Flow.OnesG.cons ?_ ?_
         ·refine Flow.OneG.q rfl HST HCG ?_
          rintro L a w hC hLi hoff ⟨k42,k45,-⟩
          have e175:a.eval (.tmp 175)=(.bool false):=k42 175 rfl
          have e178:a.eval (.tmp 178)=(.bool false):=k45 178 rfl
          refine .inl ⟨Flow.want_none rfl,?_⟩
          exact Flow.run_same (Flow.exec_pick_no rfl e175 e178) Flow.grow_refl
         exact trivial
        case ends18 =>
         intro LL wx hLL hC
         refine Flow.endsG_v rfl ?_
         refine Flow.endsG_v rfl ?_
         refine Flow.endsG_v rfl ?_
         refine Flow.endsG_v rfl ?_
         refine Flow.endsG_v rfl ?_
         refine Flow.endsG_v rfl ?_
         refine Flow.endsG_v rfl ?_
         refine Flow.endsG_v rfl ?_
         refine Flow.endsG_v rfl ?_
         refine Flow.endsG_v rfl ?_
         refine Flow.endsG_v rfl ?_
         refine Flow.endsG_v rfl ?_
         refine Flow.endsG_v rfl ?_
         refine Flow.endsG_v rfl ?_
         refine Flow.endsG_v rfl ?_
         refine Flow.endsG_v rfl ?_
         refine Flow.endsG_v rfl ?_
         refine Flow.endsG_v rfl ?_
         refine Flow.endsG_v rfl ?_
         refine Flow.endsG_v rfl ?_
         refine Flow.endsG_v rfl ?_
         refine Flow.endsG_v rfl ?_
         refine Flow.endsG_v rfl ?_
         refine Flow.endsG_v rfl ?_
         refine Flow.endsG_v rfl ?_
         refine Flow.endsG_v rfl ?_
         refine Flow.endsG_v rfl ?_
         refine Flow.endsG_v rfl ?_
         refine Flow.endsG_v rfl ?_
         refine Flow.endsG_v rfl ?_
         refine Flow.endsG_v rfl ?_
         refine Flow.endsG_v rfl ?_
         refine Flow.endsG_v rfl ?_
         refine Flow.endsG_v rfl ?_
         refine Flow.endsG_v rfl ?_
         refine Flow.endsG_v rfl ?_
         refine Flow.endsG_v rfl ?_
         refine Flow.endsG_v rfl ?_
         refine Flow.endsG_v rfl ?_
         refine Flow.endsG_v rfl ?_
         refine Flow.endsG_v rfl ?_
         refine Flow.endsG_v rfl ?_
         refine Flow.endsG_v rfl ?_
         refine Flow.endsG_v rfl ?_
         refine Flow.endsG_v rfl ?_
         refine Flow.endsG_v rfl ?_
         refine Flow.endsG_v rfl ?_
         refine Flow.endsG_nil ?_
         simp only [Act.put,List.setIfInBounds_toArray,List.set_cons_succ,List.set_cons_zero]
         have HGy:=Lib.hid (HGk.out.trans (HGx.out.trans hC))
         clear hC
         go_wp2_with fail
         go_roundw
         case rel=>exact ⟨k+1,by omega,by go_num,HGy⟩
         case measure=>simp [intOf]; omega
      ·obtain rfl:k=m:=by omega
       by_cases hm0:k=0
       ·subst hm0
        go_upto_region 23 with fail
        have HT:=Lib.hid (HA.out.more (HG89.out.trans HGk.out))
        clear HA
        generalize wi=wt at *
        have HNeg:=Lib.hid (fun wq (g:Flow.Grow wt wq)=>asyncDo_neg room _ _ _ _ _ css ps c wq (HPa.out.grow (HG46.out.trans (HT.out.grow.trans g))) (HLs4.out.grow (HG46.out.trans (HT.out.grow.trans g))) ((HT.out.ca.sub (mask_self _ _)).grow g) HT.out.good.wf.boxes HT.out.good.wf.len)
        have HFar:=Lib.hid (fun wq (g:Flow.Grow wt wq)=>asyncDo_far LN room _ _ _ _ css ps c wq hL (HPa.out.grow (HG46.out.trans (HT.out.grow.trans g))) (HLs4.out.grow (HG46.out.trans (HT.out.grow.trans g))) ((HT.out.ca.sub (mask_self _ _)).grow g) HT.out.good.wf.boxes HT.out.good.wf.len)
        have HEx:=Lib.hid (fun (r:Int) (hr:r < 1∨8 < r) wq (g:Flow.Grow wt wq)=>exploreBad_any LN r _ _ css ps wq hr hL (HPa.out.grow (HG46.out.trans (HT.out.grow.trans g))) (HLs4.out.grow (HG46.out.trans (HT.out.grow.trans g))))
        have HYc:Hid (∀ wq,Flow.Grow wt wq→wq.cell? ⟨Y,0,none⟩=some (.slice sa' 3 sc')∧wq.cell? ⟨Y,1,none⟩=some (.int .i64 3)∧wq.cell? ⟨Y,2,none⟩=some (.int .i64 (room:Nat))∧wq.cell? ⟨Y,3,none⟩=some (.slice (some ⟨mb,mo,none⟩) 9 mc')):=Lib.hid (fun wq g=>⟨lay_cell g HT.out.cy rfl,lay_cell g HT.out.cy rfl,lay_cell g HT.out.cy rfl,lay_cell g HT.out.cy rfl⟩)
        obtain ⟨q0,q1,q2,q3⟩:=HYc.out wt (Flow.grow_refl _)
        go_upto_region 24 with (go_at_call 13; refine (HNeg.out _ (Flow.grow_refl _)).mono ?_; rintro e w20 ⟨rfl,hg⟩; have HG20:=Lib.hid hg; clear hg)
        have HBw210:Hid ((w20.alloc (.cells #[.slice sa' 3 sc',.int .i64 3,.int .i64 (room:Nat),.slice (some ⟨mb,mo,none⟩) 9 mc'] 43)).heap[w20.heap.size]?=some (.cells #[.slice sa' 3 sc',.int .i64 3,.int .i64 (room:Nat),.slice (some ⟨mb,mo,none⟩) 9 mc'] 43 (0,0))):=Lib.hid (lay1_0 _ _)
        have HGw21:Hid (Flow.Grow w20 (w20.alloc (.cells #[.slice sa' 3 sc',.int .i64 3,.int .i64 (room:Nat),.slice (some ⟨mb,mo,none⟩) 9 mc'] 43))):=Lib.hid (lay1_g _ _)
        have HSw21:Hid ((w20.alloc (.cells #[.slice sa' 3 sc',.int .i64 3,.int .i64 (room:Nat),.slice (some ⟨mb,mo,none⟩) 9 mc'] 43)).heap.size=w20.heap.size+1):=Lib.hid (by simp)
        generalize w20.alloc (.cells #[.slice sa' 3 sc',.int .i64 3,.int .i64 (room:Nat),.slice (some ⟨mb,mo,none⟩) 9 mc'] 43)=w21 at *
        obtain ⟨Z1,hZ1⟩:∃ X,X=w20.heap.size:=⟨_,rfl⟩
        rw [← hZ1] at HBw210 HSw21 ⊢
        have HXw21:=Lib.hid hZ1
        clear hZ1
        have CXw21:Hid (∀ wq,Flow.Grow w21 wq→wq.cell? ⟨Z1,0,none⟩=some (.slice sa' 3 sc')∧wq.cell? ⟨Z1,1,none⟩=some (.int .i64 3)∧wq.cell? ⟨Z1,2,none⟩=some (.int .i64 (room:Nat))∧wq.cell? ⟨Z1,3,none⟩=some (.slice (some ⟨mb,mo,none⟩) 9 mc')):=Lib.hid (fun wq g=>⟨lay_cell g HBw210.out rfl,lay_cell g HBw210.out rfl,lay_cell g HBw210.out rfl,lay_cell g HBw210.out rfl⟩)
        have FXw21:Hid (∀ wq,Flow.Grow w21 wq→(∀ k,wq.frozen? ⟨Z1,k,none⟩=false)):=Lib.hid (fun wq g=>fun k=>lay_frozen g HBw210.out k)
        have HG21:=Lib.hid (HG20.out.trans HGw21.out)
        clear q0 q1 q2 q3
        obtain ⟨q0,q1,q2,q3⟩:=HYc.out w21 HG21.out
        go_upto_region 25 with (go_at_call 13; refine (HFar.out _ HG21.out).mono ?_; rintro e w22 ⟨rfl,hg⟩; have HG22:=Lib.hid hg; clear hg)
        have HBw230:Hid ((w22.alloc (.cells #[.slice sa' 3 sc',.int .i64 3,.int .i64 (room:Nat),.slice (some ⟨mb,mo,none⟩) 9 mc'] 43)).heap[w22.heap.size]?=some (.cells #[.slice sa' 3 sc',.int .i64 3,.int .i64 (room:Nat),.slice (some ⟨mb,mo,none⟩) 9 mc'] 43 (0,0))):=Lib.hid (lay1_0 _ _)
        have HGw23:Hid (Flow.Grow w22 (w22.alloc (.cells #[.slice sa' 3 sc',.int .i64 3,.int .i64 (room:Nat),.slice (some ⟨mb,mo,none⟩) 9 mc'] 43))):=Lib.hid (lay1_g _ _)
        have HSw23:Hid ((w22.alloc (.cells #[.slice sa' 3 sc',.int .i64 3,.int .i64 (room:Nat),.slice (some ⟨mb,mo,none⟩) 9 mc'] 43)).heap.size=w22.heap.size+1):=Lib.hid (by simp)
        generalize w22.alloc (.cells #[.slice sa' 3 sc',.int .i64 3,.int .i64 (room:Nat),.slice (some ⟨mb,mo,none⟩) 9 mc'] 43)=w23 at *
        obtain ⟨Z2,hZ2⟩:∃ X,X=w22.heap.size:=⟨_,rfl⟩
        rw [← hZ2] at HBw230 HSw23 ⊢
        have HXw23:=Lib.hid hZ2
        clear hZ2
        have CXw23:Hid (∀ wq,Flow.Grow w23 wq→wq.cell? ⟨Z2,0,none⟩=some (.slice sa' 3 sc')∧wq.cell? ⟨Z2,1,none⟩=some (.int .i64 3)∧wq.cell? ⟨Z2,2,none⟩=some (.int .i64 (room:Nat))∧wq.cell? ⟨Z2,3,none⟩=some (.slice (some ⟨mb,mo,none⟩) 9 mc')):=Lib.hid (fun wq g=>⟨lay_cell g HBw230.out rfl,lay_cell g HBw230.out rfl,lay_cell g HBw230.out rfl,lay_cell g HBw230.out rfl⟩)
        have FXw23:Hid (∀ wq,Flow.Grow w23 wq→(∀ k,wq.frozen? ⟨Z2,k,none⟩=false)):=Lib.hid (fun wq g=>fun k=>lay_frozen g HBw230.out k)
        have HG23:=Lib.hid (HG21.out.trans (HG22.out.trans HGw23.out))
        clear q0 q1 q2 q3
        go_upto_region 26 with (go_at_call 16; refine (HEx.out 0 (by omega) _ HG23.out).mono ?_; rintro e w24 ⟨rfl,hg⟩; have HG24:=Lib.hid hg; clear hg)
        have HBw250:Hid ((w24.alloc (.cells #[.slice none 0 0,.slice none 0 0,.slice none 0 0] 65)).heap[w24.heap.size]?=some (.cells #[.slice none 0 0,.slice none 0 0,.slice none 0 0] 65 (0,0))):=Lib.hid (lay1_0 _ _)
        have HGw25:Hid (Flow.Grow w24 (w24.alloc (.cells #[.slice none 0 0,.slice none 0 0,.slice none 0 0] 65))):=Lib.hid (lay1_g _ _)
        have HSw25:Hid ((w24.alloc (.cells #[.slice none 0 0,.slice none 0 0,.slice none 0 0] 65)).heap.size=w24.heap.size+1):=Lib.hid (by simp)
        generalize w24.alloc (.cells #[.slice none 0 0,.slice none 0 0,.slice none 0 0] 65)=w25 at *
        obtain ⟨Z3,hZ3⟩:∃ X,X=w24.heap.size:=⟨_,rfl⟩
        rw [← hZ3] at HBw250 HSw25 ⊢
        have HXw25:=Lib.hid hZ3
        clear hZ3
        have CXw25:Hid (∀ wq,Flow.Grow w25 wq→wq.cell? ⟨Z3,0,none⟩=some (.slice none 0 0)∧wq.cell? ⟨Z3,1,none⟩=some (.slice none 0 0)∧wq.cell? ⟨Z3,2,none⟩=some (.slice none 0 0)):=Lib.hid (fun wq g=>⟨lay_cell g HBw250.out rfl,lay_cell g HBw250.out rfl,lay_cell g HBw250.out rfl⟩)
        have FXw25:Hid (∀ wq,Flow.Grow w25 wq→(∀ k,wq.frozen? ⟨Z3,k,none⟩=false)):=Lib.hid (fun wq g=>fun k=>lay_frozen g HBw250.out k)
        have HG25:=Lib.hid (HG23.out.trans (HG24.out.trans HGw25.out))
        go_upto_region 27 with (go_at_call 16; refine (HEx.out 9 (by omega) _ HG25.out).mono ?_; rintro e w26 ⟨rfl,hg⟩; have HG26:=Lib.hid hg; clear hg)
        have HBw270:Hid ((w26.alloc (.cells #[.slice none 0 0,.slice none 0 0,.slice none 0 0] 65)).heap[w26.heap.size]?=some (.cells #[.slice none 0 0,.slice none 0 0,.slice none 0 0] 65 (0,0))):=Lib.hid (lay1_0 _ _)
        have HGw27:Hid (Flow.Grow w26 (w26.alloc (.cells #[.slice none 0 0,.slice none 0 0,.slice none 0 0] 65))):=Lib.hid (lay1_g _ _)
        have HSw27:Hid ((w26.alloc (.cells #[.slice none 0 0,.slice none 0 0,.slice none 0 0] 65)).heap.size=w26.heap.size+1):=Lib.hid (by simp)
        generalize w26.alloc (.cells #[.slice none 0 0,.slice none 0 0,.slice none 0 0] 65)=w27 at *
        obtain ⟨Z4,hZ4⟩:∃ X,X=w26.heap.size:=⟨_,rfl⟩
        rw [← hZ4] at HBw270 HSw27 ⊢
        have HXw27:=Lib.hid hZ4
        clear hZ4
        have CXw27:Hid (∀ wq,Flow.Grow w27 wq→wq.cell? ⟨Z4,0,none⟩=some (.slice none 0 0)∧wq.cell? ⟨Z4,1,none⟩=some (.slice none 0 0)∧wq.cell? ⟨Z4,2,none⟩=some (.slice none 0 0)):=Lib.hid (fun wq g=>⟨lay_cell g HBw270.out rfl,lay_cell g HBw270.out rfl,lay_cell g HBw270.out rfl⟩)
        have FXw27:Hid (∀ wq,Flow.Grow w27 wq→(∀ k,wq.frozen? ⟨Z4,k,none⟩=false)):=Lib.hid (fun wq g=>fun k=>lay_frozen g HBw270.out k)
        have HG27:=Lib.hid (HG25.out.trans (HG26.out.trans HGw27.out))
        go_wp2_with (go_at_call 7; refine (awake29 _).mono ?_; rintro e w28 ⟨rfl,hg⟩; have HG28:=Lib.hid hg; clear hg)
        go_ret
        exact ⟨rfl,HGw.out.trans (HG46.out.trans (HT.out.grow.trans (HG27.out.trans HG28.out)))⟩
       ·have HGW:Hid (Flow.Grow W wi):=Lib.hid (HGw.out.trans (HG46.out.trans (HA.out.grow.trans (HG89.out.trans HGk.out))))
        obtain ⟨kb,ko,rfl,hcell⟩:=ints_at HW.out (j:=i) (by rw [← Hp.out]; exact hip)
        have hpc:=Xm2.cell_grow HGW.out hcell
        clear hcell
        generalize ws.getD i 0=z at *
        have hz:=hand16 z
        obtain ⟨zn,hzn,hz6⟩:∃ zn:Nat,z % 65536=(zn:Int)∧zn < 65536:=⟨(z % 65536).toNat,by omega,by omega⟩
        rw [hzn] at hz
        have hk0:decide ((k:Int)=0)=false:=by simp; exact hm0
        have hk1:((k:Int) == 0)=false:=by simp; exact hm0
        go_upto_region 22 with fail
        obtain ⟨j,hj,hjk⟩:∃ j:Nat,(zn:Int) % (k:Int)=(j:Int)∧j < k:=⟨zn % k,by omega,Nat.mod_lt _ (by omega)⟩
        rw [hj]
        clear hj hz hzn hpc hz6
        obtain ⟨q',kk,d,hlk,hq3,hkk,hstp⟩:=steps_at (ps:=ps) (ls:=Pr.labsL LN) (room:=room) (c:=c) (k:=j) (by rw [← Hl.out,Hm.out]; exact hjk)
        rw [← Hl.out] at hlk
        obtain ⟨g1,g2,c1,c2,dS,dM,ev1,ev2,_,_,_,t0,t1,t2,t3,hdd,_,hb2⟩:=HSd.out.read (by rw [Hm.out]; exact hjk) hlk
        obtain ⟨g3,c3,eS,eB,ev3,_,_,r2,r3,hde,hb3⟩:=HRd.out.read (by rw [Hm.out]; exact hjk) hlk
        have hgd:=HA.out.good.stp HOk.out hq3 hkk (by rw [hstp])
        obtain ⟨ua,uc',vb,vo,vc,rfl,rfl⟩:=(hdd.atS ((mask_self _ _).trans (Sub.of_grow HG89.out))).form hgd.wf.len hgd.wf.boxes
        obtain ⟨pa,pc',qb,qo,qc,rfl,rfl⟩:=(hde.atS ((mask_self _ _).trans (Sub.of_grow HG8.out))).form hgd.wf.len hgd.wf.boxes
        obtain ⟨rfl,rfl⟩:xa=some ⟨g2,0,none⟩∧xc=c2:=by injection ev2 with a b c; exact ⟨a,c⟩
        obtain ⟨rfl,rfl⟩:oa=some ⟨g3,0,none⟩∧oc=c3:=by injection ev3 with a b c; exact ⟨a,c⟩
        have HT0:=Lib.hid (Xm2.cell_grow HGk.out t0)
        have HT1:=Lib.hid (Xm2.cell_grow HGk.out t1)
        have HT2:=Lib.hid (Xm2.cell_grow HGk.out t2)
        have HT3:=Lib.hid (Xm2.cell_grow HGk.out t3)
        have HR2:=Lib.hid (Xm2.cell_grow (HG9.out.trans HGk.out) r2)
        have HR3:=Lib.hid (Xm2.cell_grow (HG9.out.trans HGk.out) r3)
        have Hdd:=Lib.hid hdd
        have Hde:=Lib.hid hde
        have Hgd:=Lib.hid hgd
        clear t0 t1 t2 t3 r2 r3 hdd hde hgd ev1 ev2 ev3
        obtain ⟨iM,hiM,hM0,hM1,hM2⟩:=info_parts info_config
        obtain ⟨iR,hiR,hR0,hR1,hR2⟩:=info_parts info_rcfg
        have HY0:=Lib.hid (heap_keep (HG89.out.trans HGk.out) HA.out.cy)
        have HZ0:=Lib.hid (heap_keep (HG89.out.trans HGk.out) HA.out.cz)
        have HY1:Hid (Y+1 < wi.heap.size):=Lib.hid (Array.getElem?_eq_some_iff.1 HZ0.out).1
        have HG6i:=Lib.hid (HA.out.grow.trans (HG89.out.trans HGk.out))
        have hYo:Y+1 < wo.heap.size:=(Array.getElem?_eq_some_iff.1 HA.out.cz).1
        have hY8:=HG8.out.size
        have n1:g2≠Y:=by omega
        have n2:g2≠Y+1:=by omega
        have n3:g3≠Y:=by omega
        have n4:g3≠Y+1:=by omega
        refine Flow.regionG (C:=SwC w6 wi Y) (Fs:=[.inl ((.slice (some ⟨g2,0,none⟩) k xc)),.inl ((.int .i64 (j:Int))),.inl ((.pointer (some ⟨g2,j * 4,none⟩))),.inl ((.agg #[.slice ua 3 uc',.int .i64 3,.int .i64 (room:Nat),.slice (some ⟨vb,vo,none⟩) 9 vc])),.inl ((.slice (some ⟨g3,0,none⟩) k oc)),.inl ((.int .i64 (j:Int))),.inl ((.pointer (some ⟨g3,j * 4,none⟩))),.inl ((.pointer (some ⟨g3,j * 4+2,none⟩))),.inl ((.agg #[.slice pa 3 pc',.slice (some ⟨qb,qo,none⟩) 9 qc])),.inr (fun _ w=>w.heap[Y]?=some (.cells #[.slice ua 3 uc',.int .i64 3,.int .i64 (room:Nat),.slice (some ⟨vb,vo,none⟩) 9 vc] 43 (0,0))),.inr (fun _ w=>w.heap[Y+1]?=some (.cells #[.slice pa 3 pc',.slice (some ⟨qb,qo,none⟩) 9 qc] 46 (0,0)))])
         [[],[],[0,1],[2],[],[],[4,5],[6],[7],[3],[8]] [[],[],[0,1],[0,1,2],[],[],[4,5],[4,5,6],[4,5,6,7],[0,1,2,3],[4,5,6,7,8]] [9,10] (by kernel_rfl) (by kernel_rfl) (by kernel_rfl) rfl (⟨HG6i.out.trans (Flow.grow_drew _),Nat.le_refl _,fun _ _ _ _=>rfl,fun _=>rfl,fun _=>rfl⟩) ?ones22 ?ends22
        case ones22 =>
         have HST:Flow.Stable Flow.Grow [.inl ((.slice (some ⟨g2,0,none⟩) k xc)),.inl ((.int .i64 (j:Int))),.inl ((.pointer (some ⟨g2,j * 4,none⟩))),.inl ((.agg #[.slice ua 3 uc',.int .i64 3,.int .i64 (room:Nat),.slice (some ⟨vb,vo,none⟩) 9 vc])),.inl ((.slice (some ⟨g3,0,none⟩) k oc)),.inl ((.int .i64 (j:Int))),.inl ((.pointer (some ⟨g3,j * 4,none⟩))),.inl ((.pointer (some ⟨g3,j * 4+2,none⟩))),.inl ((.agg #[.slice pa 3 pc',.slice (some ⟨qb,qo,none⟩) 9 qc])),.inr (fun _ w=>w.heap[Y]?=some (.cells #[.slice ua 3 uc',.int .i64 3,.int .i64 (room:Nat),.slice (some ⟨vb,vo,none⟩) 9 vc] 43 (0,0))),.inr (fun _ w=>w.heap[Y+1]?=some (.cells #[.slice pa 3 pc',.slice (some ⟨qb,qo,none⟩) 9 qc] 46 (0,0)))]:=by exact ⟨fun _ _ _ g h=>heap_keep g h,fun _ _ _ g h=>heap_keep g h,trivial⟩
         have HCG:∀ (L:Nat→Bool) (w w':World) (i':Nat),(SwC w6 wi Y) L w→Flow.Grow w w'→(SwC w6 wi Y) (Flow.ad L i') w':=fun L w w' i h g=>h.more HY1.out g i
         refine Flow.OnesG.cons ?_ ?_
         ·refine Flow.OneG.q rfl HST HCG ?_
          intro L a w hC hLi hoff _
          have e18:a.eval (.tmp 18)=(.slice (some ⟨g2,0,none⟩) k xc):=hoff.at2 18 0 hLi (by kernel_rfl)
          refine .inl ⟨Flow.want_none rfl,?_⟩
          exact Flow.run_same (Flow.exec_move (.inl rfl) e18) Flow.grow_refl
         refine Flow.OnesG.cons ?_ ?_
         ·refine Flow.OneG.q rfl HST HCG ?_
          intro L a w hC hLi hoff _
          have e24:a.eval (.tmp 24)=(.int .i64 (j:Int)):=hoff.at2 24 1 hLi (by kernel_rfl)
          refine .inl ⟨Flow.want_none rfl,?_⟩
          exact Flow.run_same (Flow.exec_move (.inl rfl) e24) Flow.grow_refl
         refine Flow.OnesG.cons ?_ ?_
         ·refine Flow.OneG.q rfl HST HCG ?_
          rintro L a w hC hLi hoff ⟨k0,k1,-⟩
          have e191:a.eval (.tmp 191)=(.slice (some ⟨g2,0,none⟩) k xc):=k0 191 rfl
          have e192:a.eval (.tmp 192)=(.int .i64 (j:Int)):=k1 192 rfl
          refine .inl ⟨Flow.want_none rfl,?_⟩
          refine Flow.run_same ?_ Flow.grow_refl
          have ec:=Flow.eval_const a
          generalize a.eval=ρ at e191 e192 ec ⊢
          simp [execOp,e191,e192,go_sem]; intro hh; omega
         refine Flow.OnesG.cons ?_ ?_
         ·refine Flow.OneG.q rfl HST HCG ?_
          rintro L a w hC hLi hoff ⟨k2,-⟩
          have e193:a.eval (.tmp 193)=(.pointer (some ⟨g2,j * 4,none⟩)):=k2 193 rfl
          refine .inl ⟨Flow.want_none rfl,?_⟩
          have h0:=hC.cell n1 n2 HT0.out
          have h1:=hC.cell n1 n2 HT1.out
          have h2:=hC.cell n1 n2 HT2.out
          have h3:=hC.cell n1 n2 HT3.out
          refine Flow.run_same ?_ Flow.grow_refl
          generalize a.eval=ρ at e193 ⊢
          simp [execOp,e193,h0,h1,h2,h3,go_sem]
         refine Flow.OnesG.cons ?_ ?_
         ·refine Flow.OneG.q rfl HST HCG ?_
          intro L a w hC hLi hoff _
          have e15:a.eval (.tmp 15)=(.slice (some ⟨g3,0,none⟩) k oc):=hoff.at2 15 4 hLi (by kernel_rfl)
          refine .inl ⟨Flow.want_none rfl,?_⟩
          exact Flow.run_same (Flow.exec_move (.inl rfl) e15) Flow.grow_refl
         refine Flow.OnesG.cons ?_ ?_
         ·refine Flow.OneG.q rfl HST HCG ?_
          intro L a w hC hLi hoff _
          have e24:a.eval (.tmp 24)=(.int .i64 (j:Int)):=hoff.at2 24 5 hLi (by kernel_rfl)
          refine .inl ⟨Flow.want_none rfl,?_⟩
          exact Flow.run_same (Flow.exec_move (.inl rfl) e24) Flow.grow_refl
         refine Flow.OnesG.cons ?_ ?_
         ·refine Flow.OneG.q rfl HST HCG ?_
          rintro L a w hC hLi hoff ⟨k4,k5,-⟩
          have e195:a.eval (.tmp 195)=(.slice (some ⟨g3,0,none⟩) k oc):=k4 195 rfl
          have e196:a.eval (.tmp 196)=(.int .i64 (j:Int)):=k5 196 rfl
          refine .inl ⟨Flow.want_none rfl,?_⟩
          refine Flow.run_same ?_ Flow.grow_refl
          have ec:=Flow.eval_const a
          generalize a.eval=ρ at e195 e196 ec ⊢
          simp [execOp,e195,e196,go_sem]; intro hh; omega
         refine Flow.OnesG.cons ?_ ?_
         ·refine Flow.OneG.q rfl HST HCG ?_
          rintro L a w hC hLi hoff ⟨k6,-⟩
          have e197:a.eval (.tmp 197)=(.pointer (some ⟨g3,j * 4,none⟩)):=k6 197 rfl
          refine .inl ⟨Flow.want_none rfl,?_⟩
          refine Flow.run_same ?_ Flow.grow_refl
          have ec:=Flow.eval_const a
          generalize a.eval=ρ at e197 ec ⊢
          simp [execOp,e197,go_sem]
         refine Flow.OnesG.cons ?_ ?_
         ·refine Flow.OneG.q rfl HST HCG ?_
          rintro L a w hC hLi hoff ⟨k7,-⟩
          have e198:a.eval (.tmp 198)=(.pointer (some ⟨g3,j * 4+2,none⟩)):=k7 198 rfl
          refine .inl ⟨Flow.want_none rfl,?_⟩
          have h2:=hC.cell n3 n4 HR2.out
          have h3:=hC.cell n3 n4 HR3.out
          refine Flow.run_same ?_ Flow.grow_refl
          generalize a.eval=ρ at e198 ⊢
          simp [execOp,e198,h2,h3,go_sem]
         refine Flow.OnesG.cons ?_ ?_
         ·refine Flow.OneG.k (fun w w'=>∀ b,b≠Y→w'.heap[b]?=w.heap[b]?) (by exact ⟨.inl rfl,.inr fun _ _ K u h=>(K (Y+1) (by omega)).trans h,trivial⟩) ?_
          rintro L a w hC hLi hoff ⟨k3,-⟩
          have e194:a.eval (.tmp 194)=(.agg #[.slice ua 3 uc',.int .i64 3,.int .i64 (room:Nat),.slice (some ⟨vb,vo,none⟩) 9 vc]):=k3 194 rfl
          have e12:a.eval (.tmp 12)=(.pointer (some ⟨Y,0,none⟩)):=hoff.at2 12 9 hLi (by kernel_rfl)
          refine ⟨Flow.want_none rfl,?_⟩
          refine wp_sto (s:=12) (x:=194) rfl rfl hiM hM1 rfl (by intro v hv; simp at hv; rcases hv with rfl | rfl | rfl | rfl <;> rfl) (W:=w6) Y hC.grow (by have:=HXw7.out; omega) e12 e194 ⟨_,(hC.y hLi).trans HY0.out,rfl⟩ fun w' h2 h3 h4 h5=>?_
          exact ⟨undef,rfl,⟨h2,by rw [h3]; exact hC.size,fun b h6 h7 h8=>(h5 b h7).trans (hC.same b h6 h7 h8),fun e=>by simp [Flow.ad] at e,fun e=>(h5 (Y+1) (by omega)).trans (hC.z (by simp [Flow.ad] at e; exact e))⟩,h5,fun s hs=>h4⟩
         refine Flow.OnesG.cons ?_ ?_
         ·refine Flow.OneG.k (fun w w'=>∀ b,b≠Y+1→w'.heap[b]?=w.heap[b]?) (by exact ⟨.inr fun _ _ K u h=>(K Y (by omega)).trans h,.inl rfl,trivial⟩) ?_
          rintro L a w hC hLi hoff ⟨k8,-⟩
          have e199:a.eval (.tmp 199)=(.agg #[.slice pa 3 pc',.slice (some ⟨qb,qo,none⟩) 9 qc]):=k8 199 rfl
          have e13:a.eval (.tmp 13)=(.pointer (some ⟨Y+1,0,none⟩)):=hoff.at2 13 10 hLi (by kernel_rfl)
          refine ⟨Flow.want_none rfl,?_⟩
          refine wp_sto (s:=13) (x:=199) rfl rfl hiR hR1 rfl (by intro v hv; simp at hv; rcases hv with rfl | rfl <;> rfl) (W:=w6) (Y+1) hC.grow (by have:=HXw7.out; omega) e13 e199 ⟨_,(hC.z hLi).trans HZ0.out,rfl⟩ fun w' h2 h3 h4 h5=>?_
          exact ⟨undef,rfl,⟨h2,by rw [h3]; exact hC.size,fun b h6 h7 h8=>(h5 b h8).trans (hC.same b h6 h7 h8),fun e=>(h5 Y (by omega)).trans (hC.y (by simp [Flow.ad] at e; exact e)),fun e=>by simp [Flow.ad] at e⟩,h5,fun s hs=>h4⟩
         exact trivial
        case ends22 =>
         intro LL wx hLL hC
         refine Flow.endsG_v rfl ?_
         refine Flow.endsG_v rfl ?_
         refine Flow.endsG_v rfl ?_
         refine Flow.endsG_v rfl ?_
         refine Flow.endsG_v rfl ?_
         refine Flow.endsG_v rfl ?_
         refine Flow.endsG_v rfl ?_
         refine Flow.endsG_v rfl ?_
         refine Flow.endsG_v rfl ?_
         refine Flow.endsG_s rfl rfl rfl fun hE9=>?_
         refine Flow.endsG_s rfl rfl rfl fun hE10=>?_
         refine Flow.endsG_nil ?_
         simp only [Act.put,List.setIfInBounds_toArray,List.set_cons_succ,List.set_cons_zero]
         have hY9:=hE9
         have hZ10:=hE10
         have hsub:Sub (mask w9 [Y,Y+1]) (mask wx [Y,Y+1]):=mask_sub (Nat.le_trans HGk.out.size hC.size) fun b hb hn=>⟨hn,by
          simp only [List.mem_cons,List.not_mem_nil,or_false,not_or] at hn
          exact (hC.same b (Nat.lt_of_lt_of_le hb HGk.out.size) hn.1 hn.2).trans (HGk.out.block b hb (by simp))⟩
         have hsub8:Sub (mask w8 [Y,Y+1]) (mask wx [Y,Y+1]):=(mask_grow HG9.out).trans hsub
         have HA':Hid (ASt w6 Y room ps d (.slice ua 3 uc') (.slice (some ⟨vb,vo,none⟩) 9 vc) (.slice pa 3 pc') (.slice (some ⟨qb,qo,none⟩) 9 qc) wx):=Lib.hid ⟨Hgd.out,hC.grow,hY9,hZ10,
          (Hdd.out.mask (mask_grow HG89.out) (fun b hb=>.inl (by have:=HG8.out.size; simp at hb; omega))).sub hsub,
          (Hde.out.mask (mask_grow HG8.out) (fun b hb=>.inl (by simp at hb; omega))).sub hsub8⟩
         clear hC hY9 hZ10 hsub hsub8 hYo hY8 n1 n2 n3 n4 hb2 hb3
         go_wp2_with fail
         go_roundw
         case rel=>exact ⟨i+1,d,_,_,_,_,by omega,by go_num,HA'⟩
         case measure=>simp [intOf]; omega
    ·obtain rfl:i=12:=by omega
     go_upto_region 23 with fail
     have HT:=HA
     clear HA
     generalize wo=wt at *
     have HNeg:=Lib.hid (fun wq (g:Flow.Grow wt wq)=>asyncDo_neg room _ _ _ _ _ css ps c wq (HPa.out.grow (HG46.out.trans (HT.out.grow.trans g))) (HLs4.out.grow (HG46.out.trans (HT.out.grow.trans g))) ((HT.out.ca.sub (mask_self _ _)).grow g) HT.out.good.wf.boxes HT.out.good.wf.len)
     have HFar:=Lib.hid (fun wq (g:Flow.Grow wt wq)=>asyncDo_far LN room _ _ _ _ css ps c wq hL (HPa.out.grow (HG46.out.trans (HT.out.grow.trans g))) (HLs4.out.grow (HG46.out.trans (HT.out.grow.trans g))) ((HT.out.ca.sub (mask_self _ _)).grow g) HT.out.good.wf.boxes HT.out.good.wf.len)
     have HEx:=Lib.hid (fun (r:Int) (hr:r < 1∨8 < r) wq (g:Flow.Grow wt wq)=>exploreBad_any LN r _ _ css ps wq hr hL (HPa.out.grow (HG46.out.trans (HT.out.grow.trans g))) (HLs4.out.grow (HG46.out.trans (HT.out.grow.trans g))))
     have HYc:Hid (∀ wq,Flow.Grow wt wq→wq.cell? ⟨Y,0,none⟩=some (.slice sa' 3 sc')∧wq.cell? ⟨Y,1,none⟩=some (.int .i64 3)∧wq.cell? ⟨Y,2,none⟩=some (.int .i64 (room:Nat))∧wq.cell? ⟨Y,3,none⟩=some (.slice (some ⟨mb,mo,none⟩) 9 mc')):=Lib.hid (fun wq g=>⟨lay_cell g HT.out.cy rfl,lay_cell g HT.out.cy rfl,lay_cell g HT.out.cy rfl,lay_cell g HT.out.cy rfl⟩)
     obtain ⟨q0,q1,q2,q3⟩:=HYc.out wt (Flow.grow_refl _)
     go_upto_region 24 with (go_at_call 13; refine (HNeg.out _ (Flow.grow_refl _)).mono ?_; rintro e w20 ⟨rfl,hg⟩; have HG20:=Lib.hid hg; clear hg)
     have HBw210:Hid ((w20.alloc (.cells #[.slice sa' 3 sc',.int .i64 3,.int .i64 (room:Nat),.slice (some ⟨mb,mo,none⟩) 9 mc'] 43)).heap[w20.heap.size]?=some (.cells #[.slice sa' 3 sc',.int .i64 3,.int .i64 (room:Nat),.slice (some ⟨mb,mo,none⟩) 9 mc'] 43 (0,0))):=Lib.hid (lay1_0 _ _)
     have HGw21:Hid (Flow.Grow w20 (w20.alloc (.cells #[.slice sa' 3 sc',.int .i64 3,.int .i64 (room:Nat),.slice (some ⟨mb,mo,none⟩) 9 mc'] 43))):=Lib.hid (lay1_g _ _)
     have HSw21:Hid ((w20.alloc (.cells #[.slice sa' 3 sc',.int .i64 3,.int .i64 (room:Nat),.slice (some ⟨mb,mo,none⟩) 9 mc'] 43)).heap.size=w20.heap.size+1):=Lib.hid (by simp)
     generalize w20.alloc (.cells #[.slice sa' 3 sc',.int .i64 3,.int .i64 (room:Nat),.slice (some ⟨mb,mo,none⟩) 9 mc'] 43)=w21 at *
     obtain ⟨Z1,hZ1⟩:∃ X,X=w20.heap.size:=⟨_,rfl⟩
     rw [← hZ1] at HBw210 HSw21 ⊢
     have HXw21:=Lib.hid hZ1
     clear hZ1
     have CXw21:Hid (∀ wq,Flow.Grow w21 wq→wq.cell? ⟨Z1,0,none⟩=some (.slice sa' 3 sc')∧wq.cell? ⟨Z1,1,none⟩=some (.int .i64 3)∧wq.cell? ⟨Z1,2,none⟩=some (.int .i64 (room:Nat))∧wq.cell? ⟨Z1,3,none⟩=some (.slice (some ⟨mb,mo,none⟩) 9 mc')):=Lib.hid (fun wq g=>⟨lay_cell g HBw210.out rfl,lay_cell g HBw210.out rfl,lay_cell g HBw210.out rfl,lay_cell g HBw210.out rfl⟩)
     have FXw21:Hid (∀ wq,Flow.Grow w21 wq→(∀ k,wq.frozen? ⟨Z1,k,none⟩=false)):=Lib.hid (fun wq g=>fun k=>lay_frozen g HBw210.out k)
     have HG21:=Lib.hid (HG20.out.trans HGw21.out)
     clear q0 q1 q2 q3
     obtain ⟨q0,q1,q2,q3⟩:=HYc.out w21 HG21.out
     go_upto_region 25 with (go_at_call 13; refine (HFar.out _ HG21.out).mono ?_; rintro e w22 ⟨rfl,hg⟩; have HG22:=Lib.hid hg; clear hg)
     have HBw230:Hid ((w22.alloc (.cells #[.slice sa' 3 sc',.int .i64 3,.int .i64 (room:Nat),.slice (some ⟨mb,mo,none⟩) 9 mc'] 43)).heap[w22.heap.size]?=some (.cells #[.slice sa' 3 sc',.int .i64 3,.int .i64 (room:Nat),.slice (some ⟨mb,mo,none⟩) 9 mc'] 43 (0,0))):=Lib.hid (lay1_0 _ _)
     have HGw23:Hid (Flow.Grow w22 (w22.alloc (.cells #[.slice sa' 3 sc',.int .i64 3,.int .i64 (room:Nat),.slice (some ⟨mb,mo,none⟩) 9 mc'] 43))):=Lib.hid (lay1_g _ _)
     have HSw23:Hid ((w22.alloc (.cells #[.slice sa' 3 sc',.int .i64 3,.int .i64 (room:Nat),.slice (some ⟨mb,mo,none⟩) 9 mc'] 43)).heap.size=w22.heap.size+1):=Lib.hid (by simp)
     generalize w22.alloc (.cells #[.slice sa' 3 sc',.int .i64 3,.int .i64 (room:Nat),.slice (some ⟨mb,mo,none⟩) 9 mc'] 43)=w23 at *
     obtain ⟨Z2,hZ2⟩:∃ X,X=w22.heap.size:=⟨_,rfl⟩
     rw [← hZ2] at HBw230 HSw23 ⊢
     have HXw23:=Lib.hid hZ2
     clear hZ2
     have CXw23:Hid (∀ wq,Flow.Grow w23 wq→wq.cell? ⟨Z2,0,none⟩=some (.slice sa' 3 sc')∧wq.cell? ⟨Z2,1,none⟩=some (.int .i64 3)∧wq.cell? ⟨Z2,2,none⟩=some (.int .i64 (room:Nat))∧wq.cell? ⟨Z2,3,none⟩=some (.slice (some ⟨mb,mo,none⟩) 9 mc')):=Lib.hid (fun wq g=>⟨lay_cell g HBw230.out rfl,lay_cell g HBw230.out rfl,lay_cell g HBw230.out rfl,lay_cell g HBw230.out rfl⟩)
     have FXw23:Hid (∀ wq,Flow.Grow w23 wq→(∀ k,wq.frozen? ⟨Z2,k,none⟩=false)):=Lib.hid (fun wq g=>fun k=>lay_frozen g HBw230.out k)
     have HG23:=Lib.hid (HG21.out.trans (HG22.out.trans HGw23.out))
     clear q0 q1 q2 q3
     go_upto_region 26 with (go_at_call 16; refine (HEx.out 0 (by omega) _ HG23.out).mono ?_; rintro e w24 ⟨rfl,hg⟩; have HG24:=Lib.hid hg; clear hg)
     have HBw250:Hid ((w24.alloc (.cells #[.slice none 0 0,.slice none 0 0,.slice none 0 0] 65)).heap[w24.heap.size]?=some (.cells #[.slice none 0 0,.slice none 0 0,.slice none 0 0] 65 (0,0))):=Lib.hid (lay1_0 _ _)
     have HGw25:Hid (Flow.Grow w24 (w24.alloc (.cells #[.slice none 0 0,.slice none 0 0,.slice none 0 0] 65))):=Lib.hid (lay1_g _ _)
     have HSw25:Hid ((w24.alloc (.cells #[.slice none 0 0,.slice none 0 0,.slice none 0 0] 65)).heap.size=w24.heap.size+1):=Lib.hid (by simp)
     generalize w24.alloc (.cells #[.slice none 0 0,.slice none 0 0,.slice none 0 0] 65)=w25 at *
     obtain ⟨Z3,hZ3⟩:∃ X,X=w24.heap.size:=⟨_,rfl⟩
     rw [← hZ3] at HBw250 HSw25 ⊢
     have HXw25:=Lib.hid hZ3
     clear hZ3
     have CXw25:Hid (∀ wq,Flow.Grow w25 wq→wq.cell? ⟨Z3,0,none⟩=some (.slice none 0 0)∧wq.cell? ⟨Z3,1,none⟩=some (.slice none 0 0)∧wq.cell? ⟨Z3,2,none⟩=some (.slice none 0 0)):=Lib.hid (fun wq g=>⟨lay_cell g HBw250.out rfl,lay_cell g HBw250.out rfl,lay_cell g HBw250.out rfl⟩)
     have FXw25:Hid (∀ wq,Flow.Grow w25 wq→(∀ k,wq.frozen? ⟨Z3,k,none⟩=false)):=Lib.hid (fun wq g=>fun k=>lay_frozen g HBw250.out k)
     have HG25:=Lib.hid (HG23.out.trans (HG24.out.trans HGw25.out))
     go_upto_region 27 with (go_at_call 16; refine (HEx.out 9 (by omega) _ HG25.out).mono ?_; rintro e w26 ⟨rfl,hg⟩; have HG26:=Lib.hid hg; clear hg)
     have HBw270:Hid ((w26.alloc (.cells #[.slice none 0 0,.slice none 0 0,.slice none 0 0] 65)).heap[w26.heap.size]?=some (.cells #[.slice none 0 0,.slice none 0 0,.slice none 0 0] 65 (0,0))):=Lib.hid (lay1_0 _ _)
     have HGw27:Hid (Flow.Grow w26 (w26.alloc (.cells #[.slice none 0 0,.slice none 0 0,.slice none 0 0] 65))):=Lib.hid (lay1_g _ _)
     have HSw27:Hid ((w26.alloc (.cells #[.slice none 0 0,.slice none 0 0,.slice none 0 0] 65)).heap.size=w26.heap.size+1):=Lib.hid (by simp)
     generalize w26.alloc (.cells #[.slice none 0 0,.slice none 0 0,.slice none 0 0] 65)=w27 at *
     obtain ⟨Z4,hZ4⟩:∃ X,X=w26.heap.size:=⟨_,rfl⟩
     rw [← hZ4] at HBw270 HSw27 ⊢
     have HXw27:=Lib.hid hZ4
     clear hZ4
     have CXw27:Hid (∀ wq,Flow.Grow w27 wq→wq.cell? ⟨Z4,0,none⟩=some (.slice none 0 0)∧wq.cell? ⟨Z4,1,none⟩=some (.slice none 0 0)∧wq.cell? ⟨Z4,2,none⟩=some (.slice none 0 0)):=Lib.hid (fun wq g=>⟨lay_cell g HBw270.out rfl,lay_cell g HBw270.out rfl,lay_cell g HBw270.out rfl⟩)
     have FXw27:Hid (∀ wq,Flow.Grow w27 wq→(∀ k,wq.frozen? ⟨Z4,k,none⟩=false)):=Lib.hid (fun wq g=>fun k=>lay_frozen g HBw270.out k)
     have HG27:=Lib.hid (HG25.out.trans (HG26.out.trans HGw27.out))
     go_wp2_with (go_at_call 7; refine (awake29 _).mono ?_; rintro e w28 ⟨rfl,hg⟩; have HG28:=Lib.hid hg; clear hg)
     go_ret
     exact ⟨rfl,HGw.out.trans (HG46.out.trans (HT.out.grow.trans (HG27.out.trans HG28.out)))⟩
   ·have d1:decide ((i:Int) < (p:Nat))=false:=by simp; omega
    go_upto_region 23 with fail
    have HT:=HA
    clear HA
    generalize wo=wt at *
    have HNeg:=Lib.hid (fun wq (g:Flow.Grow wt wq)=>asyncDo_neg room _ _ _ _ _ css ps c wq (HPa.out.grow (HG46.out.trans (HT.out.grow.trans g))) (HLs4.out.grow (HG46.out.trans (HT.out.grow.trans g))) ((HT.out.ca.sub (mask_self _ _)).grow g) HT.out.good.wf.boxes HT.out.good.wf.len)
    have HFar:=Lib.hid (fun wq (g:Flow.Grow wt wq)=>asyncDo_far LN room _ _ _ _ css ps c wq hL (HPa.out.grow (HG46.out.trans (HT.out.grow.trans g))) (HLs4.out.grow (HG46.out.trans (HT.out.grow.trans g))) ((HT.out.ca.sub (mask_self _ _)).grow g) HT.out.good.wf.boxes HT.out.good.wf.len)
    have HEx:=Lib.hid (fun (r:Int) (hr:r < 1∨8 < r) wq (g:Flow.Grow wt wq)=>exploreBad_any LN r _ _ css ps wq hr hL (HPa.out.grow (HG46.out.trans (HT.out.grow.trans g))) (HLs4.out.grow (HG46.out.trans (HT.out.grow.trans g))))
    have HYc:Hid (∀ wq,Flow.Grow wt wq→wq.cell? ⟨Y,0,none⟩=some (.slice sa' 3 sc')∧wq.cell? ⟨Y,1,none⟩=some (.int .i64 3)∧wq.cell? ⟨Y,2,none⟩=some (.int .i64 (room:Nat))∧wq.cell? ⟨Y,3,none⟩=some (.slice (some ⟨mb,mo,none⟩) 9 mc')):=Lib.hid (fun wq g=>⟨lay_cell g HT.out.cy rfl,lay_cell g HT.out.cy rfl,lay_cell g HT.out.cy rfl,lay_cell g HT.out.cy rfl⟩)
    obtain ⟨q0,q1,q2,q3⟩:=HYc.out wt (Flow.grow_refl _)
    go_upto_region 24 with (go_at_call 13; refine (HNeg.out _ (Flow.grow_refl _)).mono ?_; rintro e w20 ⟨rfl,hg⟩; have HG20:=Lib.hid hg; clear hg)
    have HBw210:Hid ((w20.alloc (.cells #[.slice sa' 3 sc',.int .i64 3,.int .i64 (room:Nat),.slice (some ⟨mb,mo,none⟩) 9 mc'] 43)).heap[w20.heap.size]?=some (.cells #[.slice sa' 3 sc',.int .i64 3,.int .i64 (room:Nat),.slice (some ⟨mb,mo,none⟩) 9 mc'] 43 (0,0))):=Lib.hid (lay1_0 _ _)
    have HGw21:Hid (Flow.Grow w20 (w20.alloc (.cells #[.slice sa' 3 sc',.int .i64 3,.int .i64 (room:Nat),.slice (some ⟨mb,mo,none⟩) 9 mc'] 43))):=Lib.hid (lay1_g _ _)
    have HSw21:Hid ((w20.alloc (.cells #[.slice sa' 3 sc',.int .i64 3,.int .i64 (room:Nat),.slice (some ⟨mb,mo,none⟩) 9 mc'] 43)).heap.size=w20.heap.size+1):=Lib.hid (by simp)
    generalize w20.alloc (.cells #[.slice sa' 3 sc',.int .i64 3,.int .i64 (room:Nat),.slice (some ⟨mb,mo,none⟩) 9 mc'] 43)=w21 at *
    obtain ⟨Z1,hZ1⟩:∃ X,X=w20.heap.size:=⟨_,rfl⟩
    rw [← hZ1] at HBw210 HSw21 ⊢
    have HXw21:=Lib.hid hZ1
    clear hZ1
    have CXw21:Hid (∀ wq,Flow.Grow w21 wq→wq.cell? ⟨Z1,0,none⟩=some (.slice sa' 3 sc')∧wq.cell? ⟨Z1,1,none⟩=some (.int .i64 3)∧wq.cell? ⟨Z1,2,none⟩=some (.int .i64 (room:Nat))∧wq.cell? ⟨Z1,3,none⟩=some (.slice (some ⟨mb,mo,none⟩) 9 mc')):=Lib.hid (fun wq g=>⟨lay_cell g HBw210.out rfl,lay_cell g HBw210.out rfl,lay_cell g HBw210.out rfl,lay_cell g HBw210.out rfl⟩)
    have FXw21:Hid (∀ wq,Flow.Grow w21 wq→(∀ k,wq.frozen? ⟨Z1,k,none⟩=false)):=Lib.hid (fun wq g=>fun k=>lay_frozen g HBw210.out k)
    have HG21:=Lib.hid (HG20.out.trans HGw21.out)
    clear q0 q1 q2 q3
    obtain ⟨q0,q1,q2,q3⟩:=HYc.out w21 HG21.out
    go_upto_region 25 with (go_at_call 13; refine (HFar.out _ HG21.out).mono ?_; rintro e w22 ⟨rfl,hg⟩; have HG22:=Lib.hid hg; clear hg)
    have HBw230:Hid ((w22.alloc (.cells #[.slice sa' 3 sc',.int .i64 3,.int .i64 (room:Nat),.slice (some ⟨mb,mo,none⟩) 9 mc'] 43)).heap[w22.heap.size]?=some (.cells #[.slice sa' 3 sc',.int .i64 3,.int .i64 (room:Nat),.slice (some ⟨mb,mo,none⟩) 9 mc'] 43 (0,0))):=Lib.hid (lay1_0 _ _)
    have HGw23:Hid (Flow.Grow w22 (w22.alloc (.cells #[.slice sa' 3 sc',.int .i64 3,.int .i64 (room:Nat),.slice (some ⟨mb,mo,none⟩) 9 mc'] 43))):=Lib.hid (lay1_g _ _)
    have HSw23:Hid ((w22.alloc (.cells #[.slice sa' 3 sc',.int .i64 3,.int .i64 (room:Nat),.slice (some ⟨mb,mo,none⟩) 9 mc'] 43)).heap.size=w22.heap.size+1):=Lib.hid (by simp)
    generalize w22.alloc (.cells #[.slice sa' 3 sc',.int .i64 3,.int .i64 (room:Nat),.slice (some ⟨mb,mo,none⟩) 9 mc'] 43)=w23 at *
    obtain ⟨Z2,hZ2⟩:∃ X,X=w22.heap.size:=⟨_,rfl⟩
    rw [← hZ2] at HBw230 HSw23 ⊢
    have HXw23:=Lib.hid hZ2
    clear hZ2
    have CXw23:Hid (∀ wq,Flow.Grow w23 wq→wq.cell? ⟨Z2,0,none⟩=some (.slice sa' 3 sc')∧wq.cell? ⟨Z2,1,none⟩=some (.int .i64 3)∧wq.cell? ⟨Z2,2,none⟩=some (.int .i64 (room:Nat))∧wq.cell? ⟨Z2,3,none⟩=some (.slice (some ⟨mb,mo,none⟩) 9 mc')):=Lib.hid (fun wq g=>⟨lay_cell g HBw230.out rfl,lay_cell g HBw230.out rfl,lay_cell g HBw230.out rfl,lay_cell g HBw230.out rfl⟩)
    have FXw23:Hid (∀ wq,Flow.Grow w23 wq→(∀ k,wq.frozen? ⟨Z2,k,none⟩=false)):=Lib.hid (fun wq g=>fun k=>lay_frozen g HBw230.out k)
    have HG23:=Lib.hid (HG21.out.trans (HG22.out.trans HGw23.out))
    clear q0 q1 q2 q3
    go_upto_region 26 with (go_at_call 16; refine (HEx.out 0 (by omega) _ HG23.out).mono ?_; rintro e w24 ⟨rfl,hg⟩; have HG24:=Lib.hid hg; clear hg)
    have HBw250:Hid ((w24.alloc (.cells #[.slice none 0 0,.slice none 0 0,.slice none 0 0] 65)).heap[w24.heap.size]?=some (.cells #[.slice none 0 0,.slice none 0 0,.slice none 0 0] 65 (0,0))):=Lib.hid (lay1_0 _ _)
    have HGw25:Hid (Flow.Grow w24 (w24.alloc (.cells #[.slice none 0 0,.slice none 0 0,.slice none 0 0] 65))):=Lib.hid (lay1_g _ _)
    have HSw25:Hid ((w24.alloc (.cells #[.slice none 0 0,.slice none 0 0,.slice none 0 0] 65)).heap.size=w24.heap.size+1):=Lib.hid (by simp)
    generalize w24.alloc (.cells #[.slice none 0 0,.slice none 0 0,.slice none 0 0] 65)=w25 at *
    obtain ⟨Z3,hZ3⟩:∃ X,X=w24.heap.size:=⟨_,rfl⟩
    rw [← hZ3] at HBw250 HSw25 ⊢
    have HXw25:=Lib.hid hZ3
    clear hZ3
    have CXw25:Hid (∀ wq,Flow.Grow w25 wq→wq.cell? ⟨Z3,0,none⟩=some (.slice none 0 0)∧wq.cell? ⟨Z3,1,none⟩=some (.slice none 0 0)∧wq.cell? ⟨Z3,2,none⟩=some (.slice none 0 0)):=Lib.hid (fun wq g=>⟨lay_cell g HBw250.out rfl,lay_cell g HBw250.out rfl,lay_cell g HBw250.out rfl⟩)
    have FXw25:Hid (∀ wq,Flow.Grow w25 wq→(∀ k,wq.frozen? ⟨Z3,k,none⟩=false)):=Lib.hid (fun wq g=>fun k=>lay_frozen g HBw250.out k)
    have HG25:=Lib.hid (HG23.out.trans (HG24.out.trans HGw25.out))
    go_upto_region 27 with (go_at_call 16; refine (HEx.out 9 (by omega) _ HG25.out).mono ?_; rintro e w26 ⟨rfl,hg⟩; have HG26:=Lib.hid hg; clear hg)
    have HBw270:Hid ((w26.alloc (.cells #[.slice none 0 0,.slice none 0 0,.slice none 0 0] 65)).heap[w26.heap.size]?=some (.cells #[.slice none 0 0,.slice none 0 0,.slice none 0 0] 65 (0,0))):=Lib.hid (lay1_0 _ _)
    have HGw27:Hid (Flow.Grow w26 (w26.alloc (.cells #[.slice none 0 0,.slice none 0 0,.slice none 0 0] 65))):=Lib.hid (lay1_g _ _)
    have HSw27:Hid ((w26.alloc (.cells #[.slice none 0 0,.slice none 0 0,.slice none 0 0] 65)).heap.size=w26.heap.size+1):=Lib.hid (by simp)
    generalize w26.alloc (.cells #[.slice none 0 0,.slice none 0 0,.slice none 0 0] 65)=w27 at *
    obtain ⟨Z4,hZ4⟩:∃ X,X=w26.heap.size:=⟨_,rfl⟩
    rw [← hZ4] at HBw270 HSw27 ⊢
    have HXw27:=Lib.hid hZ4
    clear hZ4
    have CXw27:Hid (∀ wq,Flow.Grow w27 wq→wq.cell? ⟨Z4,0,none⟩=some (.slice none 0 0)∧wq.cell? ⟨Z4,1,none⟩=some (.slice none 0 0)∧wq.cell? ⟨Z4,2,none⟩=some (.slice none 0 0)):=Lib.hid (fun wq g=>⟨lay_cell g HBw270.out rfl,lay_cell g HBw270.out rfl,lay_cell g HBw270.out rfl⟩)
    have FXw27:Hid (∀ wq,Flow.Grow w27 wq→(∀ k,wq.frozen? ⟨Z4,k,none⟩=false)):=Lib.hid (fun wq g=>fun k=>lay_frozen g HBw270.out k)
    have HG27:=Lib.hid (HG25.out.trans (HG26.out.trans HGw27.out))
    go_wp2_with (go_at_call 7; refine (awake29 _).mono ?_; rintro e w28 ⟨rfl,hg⟩; have HG28:=Lib.hid hg; clear hg)
    go_ret
    exact ⟨rfl,HGw.out.trans (HG46.out.trans (HT.out.grow.trans (HG27.out.trans HG28.out)))⟩
end Go.Proofs.Ytcpodmjcgfgmnaa
