/- galliardlaw31.VerdictPath returns true. -/
import Derived.Test.YtcpodmjcgfgmnaaGreatVpSt
import Derived.Test.YtcpodmjcgfgmnaaGreatAsFirst
import Derived.Test.YtcpodmjcgfgmnaaGreatAsDo
import Derived.Test.YtcpodmjcgfgmnaaGreatAwake31
import Derived.Test.YtcpodmjcgfgmnaaGreatMFnd
import Derived.Test.YtcpodmjcgfgmnaaGreatMBase
import Derived.Deep.DeepCutAuto
namespace Go.Proofs.YtcpodmjcgfgmnaaGreat
open Go.RowKit Go.Maps
theorem Zc4 (v:Value) (zs:List Int) (fin s0 s1:Int) (n:Nat) (W:World) (hn:n≤9223372036854775807) (h:Seg 3 W v n (zs.map (Value.int .i64))) :
  Calls Tryz.prog 5 #[v,.int .i64 fin,.agg #[.int .i64 s0,.int .i64 s1]] W (Pr.AnyP (Ref18.labels s0) W):=(Zde v zs fin s0 s1 n W hn h).mono fun _ _ h=>Pr.any_peers h
open As Pr in
set_option maxRecDepth 100000 in
set_option maxHeartbeats 8000000 in
theorem Qh3 (v:Value) (zs:List Int) (n:Nat) (s0 s1 s2:Int) (W:World) (hn:n≤9223372036854775807) (h:Seg 3 W v n (zs.map (Value.int .i64))) :
  Calls Tryz.prog 4 #[v,.agg #[.int .i64 s0,.int .i64 s1,.int .i64 s2]] W fun e w'=>e=.returned (.bool true)∧Flow.Grow W w':=by
 have HZ:=Lib.hid h;obtain ⟨av,cv,rfl,_⟩:=id h;clear h;have hand1:∀ x:Int,bits .and .i64 x 1=x % 2:=fun x=>by
  have:=Bits.i64_mask x 1 (by omega) 1 (by decide);rwa [show (2:Int) ^ 1=2 by decide] at this
 have hand255:∀ x:Int,bits .and .i64 x 255=x % 256:=fun x=>by
  have:=Bits.i64_mask x 8 (by omega) 255 (by decide);rwa [show (2:Int) ^ 8=256 by decide] at this
 go_enter Tryz.func4,Tryz.ntmps4;go_upto_region 1 with fail;have HBw10:Hid ((W.alloc (.cells #[.int .i64 s0,.int .i64 s1,.int .i64 s2] 38)).heap[W.heap.size]?=some (.cells #[.int .i64 s0,.int .i64 s1,.int .i64 s2] 38 (0,0))):=Lib.hid (Qb3 _ _);have HGw1:Hid (Flow.Grow W (W.alloc (.cells #[.int .i64 s0,.int .i64 s1,.int .i64 s2] 38))):=Lib.hid (Qb2 _ _);have HSw1:Hid ((W.alloc (.cells #[.int .i64 s0,.int .i64 s1,.int .i64 s2] 38)).heap.size=W.heap.size+1):=Lib.hid (by simp);generalize W.alloc (.cells #[.int .i64 s0,.int .i64 s1,.int .i64 s2] 38)=w1 at *;obtain ⟨X,hX⟩:∃ X,X=W.heap.size:=⟨_,rfl⟩;rw [← hX] at HBw10 HSw1 ⊢;have HXw1:=Lib.hid hX;clear hX;have CXw1:Hid (∀ wq,Flow.Grow w1 wq→wq.cell? ⟨X,0,none⟩=some (.int .i64 s0)∧wq.cell? ⟨X,1,none⟩=some (.int .i64 s1)∧wq.cell? ⟨X,2,none⟩=some (.int .i64 s2)):=Lib.hid (fun wq g=>⟨Qaa g HBw10.out rfl,Qaa g HBw10.out rfl,Qaa g HBw10.out rfl⟩);have FXw1:Hid (∀ wq,Flow.Grow w1 wq→(∀ k,wq.frozen? ⟨X,k,none⟩=false)):=Lib.hid (fun wq g=>fun k=>Qaf g HBw10.out k);obtain ⟨c00,c01,c02⟩:=CXw1.out w1 (Flow.grow_refl _);have HAny:Hid (Calls Tryz.prog 5 #[.slice av n cv,.int .i64 (s0 / 16),.agg #[.int .i64 s0,.int .i64 s1]] w1 (Pr.AnyP (Ref18.labels s0) w1)):=Lib.hid (Zc4 _ zs (s0 / 16) s0 s1 n w1 hn (Seg.grow HZ.out HGw1.out));generalize Ref18.labels s0=LN at *;go_upto_region 2 with (go_at_call 5;refine HAny.out.mono ?_;rintro e w2 ⟨S,af,an,al,k,cf,cn,cl,rfl,hL,hls,hg,hpe⟩;have HLs:=Lib.hid hls;have HG2:=Lib.hid hg;have HPe:=Lib.hid hpe;clear hls hg hpe);clear c00 c01 c02 HAny;have HBw30:Hid ((w2.alloc (.cells #[.int .i64 (LN:Int),.int .i64 (S:Int),.slice af k cf,.slice an k cn] 27)).heap[w2.heap.size]?=some (.cells #[.int .i64 (LN:Int),.int .i64 (S:Int),.slice af k cf,.slice an k cn] 27 (0,0))):=Lib.hid (Qb3 _ _);have HGw3:Hid (Flow.Grow w2 (w2.alloc (.cells #[.int .i64 (LN:Int),.int .i64 (S:Int),.slice af k cf,.slice an k cn] 27))):=Lib.hid (Qb2 _ _);have HSw3:Hid ((w2.alloc (.cells #[.int .i64 (LN:Int),.int .i64 (S:Int),.slice af k cf,.slice an k cn] 27)).heap.size=w2.heap.size+1):=Lib.hid (by simp);generalize w2.alloc (.cells #[.int .i64 (LN:Int),.int .i64 (S:Int),.slice af k cf,.slice an k cn] 27)=w3 at *;obtain ⟨Y,hY⟩:∃ X,X=w2.heap.size:=⟨_,rfl⟩;rw [← hY] at HBw30 HSw3 ⊢;have HXw3:=Lib.hid hY;clear hY;have CXw3:Hid (∀ wq,Flow.Grow w3 wq→wq.cell? ⟨Y,0,none⟩=some (.int .i64 (LN:Int))∧wq.cell? ⟨Y,1,none⟩=some (.int .i64 (S:Int))∧wq.cell? ⟨Y,2,none⟩=some (.slice af k cf)∧wq.cell? ⟨Y,3,none⟩=some (.slice an k cn)):=Lib.hid (fun wq g=>⟨Qaa g HBw30.out rfl,Qaa g HBw30.out rfl,Qaa g HBw30.out rfl,Qaa g HBw30.out rfl⟩);have FXw3:Hid (∀ wq,Flow.Grow w3 wq→(∀ k,wq.frozen? ⟨Y,k,none⟩=false)):=Lib.hid (fun wq g=>fun k=>Qaf g HBw30.out k);obtain ⟨d00,d01,d02,d03⟩:=CXw3.out w3 (Flow.grow_refl _);have HPw:=Lib.hid (HPe.out w3 HGw3.out);go_upto_region 3 with (go_at_call 6;refine HPw.out.mono ?_;rintro e w4 ⟨hr,hg⟩;have HG4:=Lib.hid (HGw3.out.trans hg);clear hg;rcases hr with rfl | ⟨vp,css,ps,rfl,hpa⟩)
 ·clear d00 d01 d02 d03;go_wp2_with (go_at_call 7;refine (Qq9 _).mono ?_;rintro e w5 ⟨rfl,hg⟩;have HG5:=Lib.hid hg;clear hg);go_ret;exact ⟨rfl,HGw1.out.trans (HG2.out.trans (HG4.out.trans HG5.out))⟩
 ·have HPa:=Lib.hid hpa;obtain ⟨pb,po,pc,rfl,_,_⟩:=hpa.at_;clear hpa d00 d01 d02 d03 HPw HPe;obtain ⟨room,hr,hr1,hr2⟩:∃ r:Nat,1+s2 / 256 % 2=(r:Int)∧1≤r∧r≤2:=⟨(1+s2 / 256 % 2).toNat,by omega,by omega,by omega⟩;have hwr:IntKind.i64.wrap (1+s2 / 256 % 2)=1+s2 / 256 % 2:=by
   rw [IntKind.wrap_i64];omega
  have HLs4:=Lib.hid (HLs.out.grow HG4.out);have HG14:Hid (Flow.Grow W w4):=Lib.hid (HGw1.out.trans (HG2.out.trans HG4.out));have CX:Hid (∀ wq,Flow.Grow w4 wq→wq.cell? ⟨X,0,none⟩=some (.int .i64 s0)∧wq.cell? ⟨X,1,none⟩=some (.int .i64 s1)∧wq.cell? ⟨X,2,none⟩=some (.int .i64 s2)):=Lib.hid (fun wq g=>CXw1.out wq (HG2.out.trans (HG4.out.trans g)));have HEx:Hid (Calls Tryz.prog 9 #[.slice (some ⟨pb,po,none⟩) 3 pc,.slice al LN cl,.int .i64 (1+s2 / 256 % 2)] w4 fun e w'=>Qz0 ps LN room e w'∧Flow.Grow w4 w'):=Lib.hid (by
   rw [hr];exact Qqy LN room _ _ css ps w4 hr1 (by omega) hL HPa.out HLs4.out)
  have Hr:=Lib.hid hr;clear hr;clear HLs HG2 HG4 HGw1 HGw3 CXw1 FXw1 HSw1 HBw10 HXw1 HSw3 HBw30 HXw3 CXw3 FXw3;obtain ⟨_,_,c2⟩:=CX.out w4 (Flow.grow_refl _);go_upto_region 6 with (go_at_call 9;refine HEx.out.mono ?_;rintro e w5 ⟨hx,hg⟩;have HG5:=Lib.hid hg;clear hg;rcases hx with ⟨rfl,_⟩ | ⟨N,ca,cc,sa,sc,ba,bc,rfl,hEn,hN,hAt⟩)
  ·clear c2;go_wp2_with (go_at_call 7;refine (Qq9 _).mono ?_;rintro e w6 ⟨rfl,hg⟩;have HG6:=Lib.hid hg;clear hg);go_ret;exact ⟨rfl,HG14.out.trans (HG5.out.trans ((Flow.grow_alloc _ _).trans HG6.out))⟩
  ·clear c2 HEx;have HE:Hid (As.Ends (sf ps LN room) N):=Lib.hid hEn;have HAt:=Lib.hid hAt;have hN1:1≤N:=by
    have h1:1≤(Qal (sf ps LN room) N).length:=Qb9 (sf ps LN room) (Nat.zero_le N);have h2:=hEn.1;omega
   have HOk:Hid (∀ j,j < 3→(ps.getD j default).Ok (Pr.labsL LN) j):=Lib.hid (by
    obtain ⟨_,_,_,_,_,hpa⟩:=HPa.out.at_;intro j hj;obtain ⟨_,_,_,p,hp,_,_,_,_,_,_,_,_,_,f9⟩:=hpa j hj;rw [← hp];exact f9)
   clear hEn hAt;have HBw60:Hid ((w5.alloc (.cells #[.slice ca N cc,.slice sa N sc,.slice ba N bc] 42)).heap[w5.heap.size]?=some (.cells #[.slice ca N cc,.slice sa N sc,.slice ba N bc] 42 (0,0))):=Lib.hid (Qb3 _ _);have HGw6:Hid (Flow.Grow w5 (w5.alloc (.cells #[.slice ca N cc,.slice sa N sc,.slice ba N bc] 42))):=Lib.hid (Qb2 _ _);have HSw6:Hid ((w5.alloc (.cells #[.slice ca N cc,.slice sa N sc,.slice ba N bc] 42)).heap.size=w5.heap.size+1):=Lib.hid (by simp);generalize w5.alloc (.cells #[.slice ca N cc,.slice sa N sc,.slice ba N bc] 42)=w6 at *;obtain ⟨C,hC⟩:∃ X,X=w5.heap.size:=⟨_,rfl⟩;rw [← hC] at HBw60 HSw6 ⊢;have HXw6:=Lib.hid hC;clear hC;have CXw6:Hid (∀ wq,Flow.Grow w6 wq→wq.cell? ⟨C,0,none⟩=some (.slice ca N cc)∧wq.cell? ⟨C,1,none⟩=some (.slice sa N sc)∧wq.cell? ⟨C,2,none⟩=some (.slice ba N bc)):=Lib.hid (fun wq g=>⟨Qaa g HBw60.out rfl,Qaa g HBw60.out rfl,Qaa g HBw60.out rfl⟩);have FXw6:Hid (∀ wq,Flow.Grow w6 wq→(∀ k,wq.frozen? ⟨C,k,none⟩=false)):=Lib.hid (fun wq g=>fun k=>Qaf g HBw60.out k);obtain ⟨e00,e01,e02⟩:=CXw6.out w6 (Flow.grow_refl _);obtain ⟨_,_,c2⟩:=CX.out w6 (HG5.out.trans HGw6.out);have hN0:decide ((N:Int)=0)=false:=by simp;omega
   go_upto_region 11 with fail;obtain ⟨k,hk,hkN⟩:∃ k:Nat,s2 % 256 % (N:Int)=(k:Int)∧k < N:=⟨(s2 % 256 % (N:Int)).toNat,by have:=Int.emod_nonneg (s2 % 256) (show (N:Int)≠0 by omega);omega,by have:=Int.emod_nonneg (s2 % 256) (show (N:Int)≠0 by omega);have:=Int.emod_lt_of_pos (s2 % 256) (show (0:Int) < N by omega);omega⟩;rw [hk];clear hk hN0 c2;have HPt:=Lib.hid (Qx5 (sf ps LN room) room N k _ _ _ _ w6 HE.out hN hkN (fun i _=>by have:=Qzi (room:=room) hL HOk.out ((Qal (sf ps LN room) i).getD i first);omega) (HAt.out.grow HGw6.out));go_upto_region 12 with (go_at_call 10;refine HPt.out.mono ?_;rintro e w7 ⟨⟨R,ov,hw,rfl,ho,hRN⟩,hg⟩;have HW:=Lib.hid hw;have HO:=Lib.hid ho;have HG7:=Lib.hid hg;clear hw ho hg);obtain ⟨oa,oc,hov⟩:=Qah HO.out;subst hov;clear e00 e01 e02 HPt;have HG47:Hid (Flow.Grow w4 w7):=Lib.hid (HG5.out.trans (HGw6.out.trans HG7.out));obtain ⟨_,_,c2⟩:=CX.out w7 HG47.out;have HF:Hid (Calls Tryz.prog 11 #[.slice (some ⟨pb,po,none⟩) 3 pc,.int .i64 (1+s2 / 256 % 2)] w7 fun e w'=>(∃ sa sn sc va vn vc,e=.returned (.agg #[.slice sa sn sc,.int .i64 3,.int .i64 (room:Nat),.slice va vn vc])∧∀ V,CfgD V w' w7.heap.size (.slice sa sn sc) (.slice va vn vc) first)∧Flow.Grow w7 w'):=Lib.hid (by
    rw [Hr.out];exact Qf2 room _ _ css ps w7 hr1 (by omega) (HPa.out.grow HG47.out))
   go_upto_region 13 with (go_at_call 11;refine HF.out.mono ?_;rintro e w8 ⟨⟨xa,xn,xc,ma,mn,mc,rfl,hcd⟩,hg⟩;have HC8:=Lib.hid (hcd w8);have HG8:=Lib.hid hg;clear hcd hg);clear c2 HF;have HBw90:Hid ((w8.alloc (.cells #[.slice xa xn xc,.int .i64 3,.int .i64 (room:Nat),.slice ma mn mc] 53)).heap[w8.heap.size]?=some (.cells #[.slice xa xn xc,.int .i64 3,.int .i64 (room:Nat),.slice ma mn mc] 53 (0,0))):=Lib.hid (Qb3 _ _);have HGw9:Hid (Flow.Grow w8 (w8.alloc (.cells #[.slice xa xn xc,.int .i64 3,.int .i64 (room:Nat),.slice ma mn mc] 53))):=Lib.hid (Qb2 _ _);have HSw9:Hid ((w8.alloc (.cells #[.slice xa xn xc,.int .i64 3,.int .i64 (room:Nat),.slice ma mn mc] 53)).heap.size=w8.heap.size+1):=Lib.hid (by simp);generalize w8.alloc (.cells #[.slice xa xn xc,.int .i64 3,.int .i64 (room:Nat),.slice ma mn mc] 53)=w9 at *;obtain ⟨D,hD⟩:∃ X,X=w8.heap.size:=⟨_,rfl⟩;rw [← hD] at HBw90 HSw9 ⊢;have HXw9:=Lib.hid hD;clear hD;have CXw9:Hid (∀ wq,Flow.Grow w9 wq→wq.cell? ⟨D,0,none⟩=some (.slice xa xn xc)∧wq.cell? ⟨D,1,none⟩=some (.int .i64 3)∧wq.cell? ⟨D,2,none⟩=some (.int .i64 (room:Nat))∧wq.cell? ⟨D,3,none⟩=some (.slice ma mn mc)):=Lib.hid (fun wq g=>⟨Qaa g HBw90.out rfl,Qaa g HBw90.out rfl,Qaa g HBw90.out rfl,Qaa g HBw90.out rfl⟩);have FXw9:Hid (∀ wq,Flow.Grow w9 wq→(∀ k,wq.frozen? ⟨D,k,none⟩=false)):=Lib.hid (fun wq g=>fun k=>Qaf g HBw90.out k);have HA0:Hid (ASq w8 D room ((Qal (sf ps LN room) N).getD 0 first) (.slice xa xn xc) (.slice ma mn mc) w9):=Lib.hid (by
    have hs:Sub w8 (mask w9 [D]):=Zaw (Sub.of_grow HGw9.out) (by intro b hb;have:=HXw9.out;simp at hb;omega);have hf:(Qal (sf ps LN room) N).getD 0 first=first:=Qg9 (sf ps LN room) (Nat.zero_le N) (q:=0) (show 0 < 1 from Nat.zero_lt_one)
    rw [hf];exact ⟨HGw9.out,HBw90.out,(HC8.out.atS (Sub.refl _)).sub hs⟩)
   obtain ⟨M,hM⟩:∃ M,M=R.length:=⟨_,rfl⟩;rw [← hM] at HO hRN ⊢;have HM:=Lib.hid hM;clear hM HC8;have HG49:Hid (Flow.Grow w4 w8):=Lib.hid (HG47.out.trans HG8.out);go_upto_region 14 with fail;go_loopw [15] (fun iv wr=>∃ (i u:Nat) (vS vM:Value),i≤M∧u < N∧iv=.int .i64 i∧Hid (As.Way (sf ps LN room) u (R.drop i) k)∧Hid (ASq w8 D room ((Qal (sf ps LN room) N).getD u first) vS vM wr)) (fun iv _=>M - (intOf iv).toNat)
   case atStart=>exact ⟨0,0,_,_,by omega,by omega,rfl,HW,HA0⟩
   case round =>
    clear HA0;obtain ⟨i,u,vS,vM,hiM,huN,rfl,HWu,HA⟩:=hrel
    rename World=>wo
    by_cases hi:i < M
    ·obtain ⟨pa,pq,t,d,hRi,hmem,htN,htd,hWt⟩:=Qxs HE.out huN (by rw [← HM.out];exact hi) HWu.out;have hcu:(Qal (sf ps LN room) N).getD u first=(Qal (sf ps LN room) u).getD u first:=Qg9 (sf ps LN room) (by omega) (HE.out.2 u huN)
     rw [← hcu] at hmem;have hgd:Gd ps room ((Qal (sf ps LN room) N).getD u first):=by
      rw [hcu,List.getD_eq_getElem?_getD,List.getElem?_eq_getElem (HE.out.2 u huN)];exact Qgf hL HOk.out u _ (List.getElem_mem _)
     clear hcu;generalize (Qal (sf ps LN room) N).getD u first=c at *
     obtain ⟨hq3,hkk,hst1⟩:=Qgd hmem;have hgd2:=hgd.stp hL HOk.out hq3 hkk hst1;obtain ⟨sa',sc',mb,mo,mc',rfl,rfl⟩:=HA.out.at_.form hgd.wf.len hgd.wf.boxes;have HWt:=Lib.hid hWt;have Htd:=Lib.hid htd;have HOw:=Lib.hid (Qab HO.out (HG8.out.trans HA.out.grow));obtain ⟨og,ogc,hoe,_,_⟩:=own_n HOw.out (by omega);obtain ⟨rfl,rfl⟩:oa=some ⟨og,0,none⟩∧oc=ogc:=by injection hoe with a b c;exact ⟨a,c⟩
     have HSc:Hid (∀ wq,Flow.Grow wo wq→wq.cell? ⟨og,i * 3,none⟩=some (.int .i64 (pa:Int))∧wq.cell? ⟨og,i * 3+1,none⟩=some (.int .i64 (pq:Int))):=Lib.hid (fun wq g=>by
      have t:∀ j,j < 3→wq.cell? ⟨og,i * 3+j,none⟩=(encT (pa,pq,t))[j]?:=fun j hj=>by
       rw [(Qab HOw.out g).cellAt (i * 3+j) (by omega)];exact Qdd (f:=encT) (m:=3) (fun _=>rfl) R i j _ hRi hj
      exact ⟨t 0 (by omega),t 1 (by omega)⟩)
     have HYi:Hid (∀ wq,Flow.Grow wo wq→wq.cell? ⟨D,0,none⟩=some (.slice sa' 3 sc')∧wq.cell? ⟨D,1,none⟩=some (.int .i64 3)∧wq.cell? ⟨D,2,none⟩=some (.int .i64 (room:Nat))∧wq.cell? ⟨D,3,none⟩=some (.slice (some ⟨mb,mo,none⟩) 9 mc')):=Lib.hid (fun wq g=>⟨Qaa g HA.out.cell rfl,Qaa g HA.out.cell rfl,Qaa g HA.out.cell rfl,Qaa g HA.out.cell rfl⟩);have HDo:Hid (∀ wq,Flow.Grow wo wq→Calls Tryz.prog 12 #[.slice (some ⟨pb,po,none⟩) 3 pc,.slice al LN cl,.agg #[.slice sa' 3 sc',.int .i64 3,.int .i64 (room:Nat),.slice (some ⟨mb,mo,none⟩) 9 mc'],.int .i64 pa,.int .i64 pq] wq fun e w'=>∃ v,e=.returned v∧Flow.Grow wq w'∧∃ xa xc yb yo yc,v=.tuple #[.agg #[.slice xa 3 xc,.int .i64 3,.int .i64 (room:Nat),.slice (some ⟨yb,yo,none⟩) 9 yc],.bool true,.bool false]∧CfgD (mask wo [D]) w' wo.heap.size (.slice xa 3 xc) (.slice (some ⟨yb,yo,none⟩) 9 yc) d):=Lib.hid (fun wq g=>by
      have g6:=HG49.out.trans (HA.out.grow.trans g);have hV:∀ w',Flow.Grow wo w'→Sub (mask wo [D]) w':=fun w' g'=>(Qcb _ _).trans (Sub.of_grow g');refine (Qj7 LN room pa pq _ _ _ _ css ps c (mask wo [D]) wq (hV wq g) hL (by omega) (HPa.out.grow g6) (HLs4.out.grow g6) HA.out.at_ hgd.wf hq3 hkk (fun j=>by have:=hgd.bl j;omega)).mono ?_;rintro e w' ⟨hp,hg⟩;rw [show As.stp ps (Pr.labsL LN) room c pa pq=(some d,(As.stp ps (Pr.labsL LN) room c pa pq).2) by rw [← hst1]] at hp;obtain ⟨xa,xn,xc,ya,yn,yc,rfl,hcf⟩:=hp;obtain ⟨xa',xc',yb,yo,yc',e1,e2⟩:=(hcf.atS (hV w' (g.trans hg))).form hgd2.wf.len hgd2.wf.boxes;rw [e1,e2] at hcf ⊢;exact ⟨_,rfl,hg,xa',xc',yb,yo,yc',rfl,hcf.mono g.size⟩)
     have hid:decide ((i:Int) < (M:Int))=true:=by simp;omega
     clear hRi hmem htd hWt hst1 hgd hgd2 hoe;obtain ⟨iM,hiM,hM0,hM1,hM2⟩:=info_parts Qby;go_upto_region 16 with fail
     refine Flow.regionG (C:=fun _ wq=>Flow.Grow wo wq) (Fs:=[.inl ((.slice (some ⟨pb,po,none⟩) 3 pc)),.inl ((.slice al LN cl)),.inl ((.agg #[.slice sa' 3 sc',.int .i64 3,.int .i64 (room:Nat),.slice (some ⟨mb,mo,none⟩) 9 mc'])),.inl ((.slice (some ⟨og,0,none⟩) M oc)),.inl ((.int .i64 (i:Int))),.inl ((.pointer (some ⟨og,i * 3,none⟩))),.inl ((.pointer (some ⟨og,i * 3,none⟩))),.inl ((.int .i64 (pa:Int))),.inl ((.slice (some ⟨og,0,none⟩) M oc)),.inl ((.int .i64 (i:Int))),.inl ((.pointer (some ⟨og,i * 3,none⟩))),.inl ((.pointer (some ⟨og,i * 3+1,none⟩))),.inl ((.int .i64 (pq:Int))),.inr (fun v w=>∃ xa xc yb yo yc,v=.tuple #[.agg #[.slice xa 3 xc,.int .i64 3,.int .i64 (room:Nat),.slice (some ⟨yb,yo,none⟩) 9 yc],.bool true,.bool false]∧CfgD (mask wo [D]) w wo.heap.size (.slice xa 3 xc) (.slice (some ⟨yb,yo,none⟩) 9 yc) d),.inr (fun v w=>∃ xa xc yb yo yc,v=.tuple #[.agg #[.slice xa 3 xc,.int .i64 3,.int .i64 (room:Nat),.slice (some ⟨yb,yo,none⟩) 9 yc],.bool true,.bool false]∧CfgD (mask wo [D]) w wo.heap.size (.slice xa 3 xc) (.slice (some ⟨yb,yo,none⟩) 9 yc) d),.inr (fun v w=>∃ xa xc yb yo yc,v=.agg #[.slice xa 3 xc,.int .i64 3,.int .i64 (room:Nat),.slice (some ⟨yb,yo,none⟩) 9 yc]∧CfgD (mask wo [D]) w wo.heap.size (.slice xa 3 xc) (.slice (some ⟨yb,yo,none⟩) 9 yc) d),.inl ((.bool true)),.inl ((.bool false)),.inr (fun v w=>∃ A cs,v=.pointer (some ⟨A,0,none⟩)∧wo.heap.size≤A∧w.heap[A]?=some (.cells cs 53 (0,0))∧cs.size=4),.inr (fun v w=>∃ A xa xc yb yo yc,v=.pointer (some ⟨A,0,none⟩)∧wo.heap.size≤A∧w.heap[A]?=some (.cells #[.slice xa 3 xc,.int .i64 3,.int .i64 (room:Nat),.slice (some ⟨yb,yo,none⟩) 9 yc] 53 (0,0))∧CfgD (mask wo [D]) w wo.heap.size (.slice xa 3 xc) (.slice (some ⟨yb,yo,none⟩) 9 yc) d),.inl ((.bool true)),.inl ((.bool false))])
      [[],[],[],[],[],[3,4],[5],[6],[],[],[8,9],[10],[11],[0,1,2,7,12],[13],[14],[14],[14],[],[18,15],[16],[17]] [[],[],[],[],[],[3,4],[3,4,5],[3,4,5,6],[],[],[8,9],[8,9,10],[8,9,10,11],[0,1,2,3,4,5,6,7,8,9,10,11,12],[0,1,2,3,4,5,6,7,8,9,10,11,12,13],[0,1,2,3,4,5,6,7,8,9,10,11,12,13,14],[0,1,2,3,4,5,6,7,8,9,10,11,12,13,14],[0,1,2,3,4,5,6,7,8,9,10,11,12,13,14],[],[0,1,2,3,4,5,6,7,8,9,10,11,12,13,14,15,18],[0,1,2,3,4,5,6,7,8,9,10,11,12,13,14,16],[0,1,2,3,4,5,6,7,8,9,10,11,12,13,14,17]] [19] (by kernel_rfl) (by kernel_rfl) (by kernel_rfl) rfl (Flow.grow_drew _) ?ones16 ?ends16
     case ones16 =>
      refine Flow.OnesG.start (by exact ⟨fun _ _ _ g ⟨a,b,c,d,e,h1,h2⟩=>⟨a,b,c,d,e,h1,h2.grow g⟩,fun _ _ _ g ⟨a,b,c,d,e,h1,h2⟩=>⟨a,b,c,d,e,h1,h2.grow g⟩,fun _ _ _ g ⟨a,b,c,d,e,h1,h2⟩=>⟨a,b,c,d,e,h1,h2.grow g⟩,fun _ _ _ g ⟨A,cs,h1,h2,h3,h4⟩=>⟨A,cs,h1,h2,Qae g h3,h4⟩,fun _ _ _ g ⟨A,a,b,c,d,e,h1,h2,h3,h4⟩=>⟨A,a,b,c,d,e,h1,h2,Qae g h3,h4.grow g⟩,trivial⟩) (fun L w w' i=>(fun _ _ h g=>h.trans g) w w') fun HST HCG=>?_;refine Flow.oq rfl HST HCG ?_ ?_
      ·intro L a w hC hLi hoff _;exact Flow.gs rfl (Flow.exec_move (.inl rfl) (hoff.at2 7 0 hLi (by kernel_rfl)))
      refine Flow.oq rfl HST HCG ?_ ?_
      ·intro L a w hC hLi hoff _;exact Flow.gs rfl (Flow.exec_move (.inl rfl) (hoff.at2 6 1 hLi (by kernel_rfl)))
      refine Flow.oq rfl HST HCG ?_ ?_
      ·intro L a w hC hLi hoff _;have e14:a.eval (.tmp 14)=(.pointer (some ⟨D,0,none⟩)):=hoff.at2 14 2 hLi (by kernel_rfl);refine Flow.gs rfl ?_;generalize a.eval=ρ at e14 ⊢;obtain ⟨h0,h1,h2,h3⟩:=HYi.out w hC;simp [execOp,e14,h0,h1,h2,h3,go_sem]
      refine Flow.oq rfl HST HCG ?_ ?_
      ·intro L a w hC hLi hoff _;exact Flow.gs rfl (Flow.exec_move (.inl rfl) (hoff.at2 12 3 hLi (by kernel_rfl)))
      refine Flow.oq rfl HST HCG ?_ ?_
      ·intro L a w hC hLi hoff _;exact Flow.gs rfl (Flow.exec_move (.inl rfl) (hoff.at2 15 4 hLi (by kernel_rfl)))
      refine Flow.oq rfl HST HCG ?_ ?_
      ·rintro L a w hC hLi hoff ⟨k3,k4,-⟩;have e102:=Flow.kv k3 rfl rfl;have e103:=Flow.kv k4 rfl rfl;refine Flow.gs rfl ?_;generalize a.eval=ρ at e102 e103 ⊢;simp [execOp,e102,e103,go_sem];intro hh;omega
      refine Flow.oq rfl HST HCG ?_ ?_
      ·rintro L a w hC hLi hoff ⟨k5,-⟩;have e104:=Flow.kv k5 rfl rfl;refine Flow.gs rfl ?_;generalize a.eval=ρ at e104 ⊢;simp [execOp,e104,go_sem]
      refine Flow.oq rfl HST HCG ?_ ?_
      ·rintro L a w hC hLi hoff ⟨k6,-⟩;have e105:=Flow.kv k6 rfl rfl;refine Flow.gs rfl ?_;generalize a.eval=ρ at e105 ⊢;obtain ⟨h0,_⟩:=HSc.out w hC;simp [execOp,e105,h0,go_sem]
      refine Flow.oq rfl HST HCG ?_ ?_
      ·intro L a w hC hLi hoff _;exact Flow.gs rfl (Flow.exec_move (.inl rfl) (hoff.at2 12 8 hLi (by kernel_rfl)))
      refine Flow.oq rfl HST HCG ?_ ?_
      ·intro L a w hC hLi hoff _;exact Flow.gs rfl (Flow.exec_move (.inl rfl) (hoff.at2 15 9 hLi (by kernel_rfl)))
      refine Flow.oq rfl HST HCG ?_ ?_
      ·rintro L a w hC hLi hoff ⟨k8,k9,-⟩;have e107:=Flow.kv k8 rfl rfl;have e108:=Flow.kv k9 rfl rfl;refine Flow.gs rfl ?_;generalize a.eval=ρ at e107 e108 ⊢;simp [execOp,e107,e108,go_sem];intro hh;omega
      refine Flow.oq rfl HST HCG ?_ ?_
      ·rintro L a w hC hLi hoff ⟨k10,-⟩;have e109:=Flow.kv k10 rfl rfl;refine Flow.gs rfl ?_;generalize a.eval=ρ at e109 ⊢;simp [execOp,e109,go_sem]
      refine Flow.oq rfl HST HCG ?_ ?_
      ·rintro L a w hC hLi hoff ⟨k11,-⟩;have e110:=Flow.kv k11 rfl rfl;refine Flow.gs rfl ?_;generalize a.eval=ρ at e110 ⊢;obtain ⟨_,h0⟩:=HSc.out w hC;simp [execOp,e110,h0,go_sem]
      refine Flow.oq rfl HST HCG ?_ ?_
      ·rintro L a w hC hLi hoff ⟨k0,k1,k2,k7,k12,-⟩;have e99:=Flow.kv k0 rfl rfl;have e100:=Flow.kv k1 rfl rfl;have e101:=Flow.kv k2 rfl rfl;have e106:=Flow.kv k7 rfl rfl;have e111:=Flow.kv k12 rfl rfl;exact .inl ⟨Flow.want_none rfl,Flow.run_call (Flow.exec_call rfl Tryz.func12 (by kernel_rfl) (by kernel_rfl) (by simp only [List.map_toArray,List.map_cons,List.map_nil,e99,e100,e101,e106,e111] <;> rfl)) (HDo.out w hC)⟩
      refine Flow.oq rfl HST HCG ?_ ?_
      ·rintro L a w hC hLi hoff ⟨k13,-⟩;have e112:=Flow.kr k13 rfl rfl;exact .inl ⟨Flow.want_none rfl,Flow.run_val (Flow.exec_move (.inl rfl) rfl) (Flow.grow_refl _) e112⟩
      refine Flow.oq rfl HST HCG ?_ ?_
      ·rintro L a w hC hLi hoff ⟨k14,-⟩;have e98:=Flow.kr k14 rfl rfl;refine .inl ⟨Flow.want_none rfl,?_⟩;obtain ⟨xa,xc,yb,yo,yc,e98,hcx⟩:=e98;refine Flow.run_val (v:=.agg #[.slice xa 3 xc,.int .i64 3,.int .i64 (room:Nat),.slice (some ⟨yb,yo,none⟩) 9 yc]) (w':=w) ?_ (Flow.grow_refl _) ⟨xa,xc,yb,yo,yc,rfl,hcx⟩;generalize a.eval=ρ at e98 ⊢;simp [execOp,e98,go_sem]
      refine Flow.oq rfl HST HCG ?_ ?_
      ·rintro L a w hC hLi hoff ⟨k14,-⟩;have e98:=Flow.kr k14 rfl rfl;refine .inl ⟨Flow.want_none rfl,?_⟩;obtain ⟨xa,xc,yb,yo,yc,e98,_⟩:=e98;refine Flow.run_same ?_ Flow.grow_refl;generalize a.eval=ρ at e98 ⊢;simp [execOp,e98,go_sem]
      refine Flow.oq rfl HST HCG ?_ ?_
      ·rintro L a w hC hLi hoff ⟨k14,-⟩;have e98:=Flow.kr k14 rfl rfl;refine .inl ⟨Flow.want_none rfl,?_⟩;obtain ⟨xa,xc,yb,yo,yc,e98,_⟩:=e98;refine Flow.run_same ?_ Flow.grow_refl;generalize a.eval=ρ at e98 ⊢;simp [execOp,e98,go_sem]
      refine Flow.oq rfl HST HCG ?_ ?_
      ·intro L a w hC hLi hoff _;refine .inl ⟨Flow.want_none rfl,?_⟩;refine Flow.run_val (v:=.pointer (some ⟨w.heap.size,0,none⟩)) (w':=w.alloc (.cells #[.slice none 0 0,.int .i64 0,.int .i64 0,.slice none 0 0] 53)) (Flow.alloc_run rfl hiM hM0 _ _) (Flow.grow_alloc _ _) ⟨_,_,rfl,hC.size,heap_alloc_new _ _,rfl⟩
      refine Flow.OnesG.cons (Flow.OneG.k (fun w w'=>∃ g,w.grownBy w' (some g)∧∃ cs,w.heap[g]?=some (.cells cs 53 (0,0))) (by exact ⟨.inl rfl,.inr fun _ _ ⟨g,K,cs,hk⟩ u ⟨a,b,c,d,e,h1,h2⟩=>⟨a,b,c,d,e,h1,h2.kept K (fun g' e'=>by cases e';exact ⟨cs,_,hk,by decide,by decide⟩)⟩,.inl rfl,.inl rfl,.inl rfl,trivial⟩) ?_) ?_
      ·rintro L a w hC hLi hoff ⟨k18,k15,-⟩;have e16:=Flow.kr k18 rfl rfl;have e113:=Flow.kr k15 rfl rfl;refine ⟨Flow.want_none rfl,?_⟩;obtain ⟨A,cs,e16,hA,hAc,hcs⟩:=e16;obtain ⟨xa,xc,yb,yo,yc,e113,hcx⟩:=e113;refine Qio (s:=16) (x:=113) rfl rfl hiM hM1 rfl (by intro v hv;simp at hv;rcases hv with rfl | rfl | rfl | rfl <;> rfl) (W:=wo) A hC hA e16 e113 ⟨cs,hAc,hcs⟩ fun w' h2 h3 h4 h5=>?_;have hgb:w.grownBy w' (some A):=⟨h2.os.trans hC.os.symm,h2.tape.trans hC.tape.symm,h2.output.trans hC.output.symm,Nat.le_of_eq h3.symm,fun b _ hb=>h5 b (fun e=>hb (by rw [e]))⟩;exact ⟨undef,rfl,h2,⟨A,hgb,cs,hAc⟩,fun s hs=>⟨A,xa,xc,yb,yo,yc,by cases hs;exact e16,hA,h4,hcx.kept (r:=some A) hgb (fun g e=>by cases e;exact ⟨cs,_,hAc,by decide,by decide⟩)⟩⟩
      refine Flow.oq rfl HST HCG ?_ ?_
      ·rintro L a w hC hLi hoff ⟨k16,-⟩;have e114:=Flow.kv k16 rfl rfl;exact Flow.gs rfl (Flow.exec_move (.inr rfl) e114)
      refine Flow.oq rfl HST HCG ?_ ?_
      ·rintro L a w hC hLi hoff ⟨k17,-⟩;have e115:=Flow.kv k17 rfl rfl;exact Flow.gs rfl (Flow.exec_move (.inr rfl) e115)
      exact trivial
     case ends16 =>
      intro LL wx hLL hC
      iterate 13 refine Flow.endsG_v rfl ?_
      refine Flow.endsG_r rfl fun v112 _=>?_;refine Flow.endsG_r rfl fun v98 _=>?_;refine Flow.endsG_r rfl fun v113 _=>?_
      iterate 2 refine Flow.endsG_v rfl ?_
      refine Flow.endsG_r rfl fun v16 _=>?_;refine Flow.endsG_s rfl rfl rfl fun hE19=>?_
      iterate 2 refine Flow.endsG_v rfl ?_
      refine Flow.endsG_nil ?_;simp only [Act.put,List.setIfInBounds_toArray,List.set_cons_succ,List.set_cons_zero];obtain ⟨A,xa',xc',yb,yo,yc,hv,hA,hAc,hcx⟩:=hE19;obtain rfl:v16=.pointer (some ⟨A,0,none⟩):=by rw [← hv];kernel_rfl
      have hDc:=Qae hC HA.out.cell;have hDo:D < wo.heap.size:=(Array.getElem?_eq_some_iff.1 HA.out.cell).1;have x0:=Qaa (Flow.grow_refl wx) hAc (k:=0) rfl;have x1:=Qaa (Flow.grow_refl wx) hAc (k:=1) rfl;have x2:=Qaa (Flow.grow_refl wx) hAc (k:=2) rfl;have x3:=Qaa (Flow.grow_refl wx) hAc (k:=3) rfl;have y0:=Qaa (Flow.grow_refl wx) hDc (k:=0) rfl;have y1:=Qaa (Flow.grow_refl wx) hDc (k:=1) rfl;have y2:=Qaa (Flow.grow_refl wx) hDc (k:=2) rfl;have y3:=Qaa (Flow.grow_refl wx) hDc (k:=3) rfl;have f0:=frozen_of_row wx D 0 _ _ hDc;have f1:=frozen_of_row wx D 1 _ _ hDc;have f2:=frozen_of_row wx D 2 _ _ hDc;have f3:=frozen_of_row wx D 3 _ _ hDc;have HA2:=Lib.hid (HA.out.next hC hcx hDo (by have:=HXw9.out;omega));clear hv hA hAc hcx hDc hC;go_wp2_with fail;go_roundw
      case rel=>exact ⟨i+1,t,_,_,by omega,htN,by go_num,HWt,by rw [Htd.out];exact HA2⟩
      case measure=>simp [intOf];omega
    ·obtain rfl:M=i:=by omega
     have hku:u=k:=by
      have h1:=HWu.out;rw [HM.out,List.drop_length] at h1;exact h1
     subst hku;have HA1:=HA;clear HA HWu hiM hi;obtain ⟨gs,so,sc2,hse,hrow⟩:=HAt.out.rows_ hN1;cases hse;have HRow:=Lib.hid hrow;have HG5o:Hid (Flow.Grow w5 wo):=Lib.hid (HGw6.out.trans (HG7.out.trans (HG8.out.trans HA1.out.grow)));have HG6o:Hid (Flow.Grow w6 wo):=Lib.hid (HG7.out.trans (HG8.out.trans HA1.out.grow));clear hrow;go_upto_region 21 with fail;have HN0:Hid ((wo.alloc (.cells #[.int .i64 0] 3)).ownsRow wo.heap.size 3 1 (.slice (some ⟨wo.heap.size,0,none⟩) 1 1) 1 (Qhi [0])):=Lib.hid (Ql3 (Nat.le_refl _) (heap_alloc_new _ _));have HGa:Hid (Flow.Grow wo (wo.alloc (.cells #[.int .i64 0] 3))):=Lib.hid (Flow.grow_alloc _ _);generalize wo.alloc (.cells #[.int .i64 0] 3)=wa at *;go_upto_region 22 with fail;go_loopw [19,20] (fun nv rv wr=>∃ (r:Nat) (nr:List Nat),r≤M∧nr.length≤N∧rv=.int .i64 r∧Hid (Flow.Grow wo wr)∧Hid (wr.ownsRow wo.heap.size 3 1 nv nr.length (Qhi nr))∧Hid (∀ t∈nr,As.Reach (sf ps LN room) r t)) (fun _ rv _=>M - (intOf rv).toNat)
     case atStart=>exact ⟨0,[0],by omega,hN1,rfl,HGa,HN0,Lib.hid (fun t ht=>by rw [List.mem_singleton] at ht;exact ht)⟩
     case round =>
      clear HN0 HGa;obtain ⟨r,nr,hrM,hnN,rfl,HGn,HNr,HRe⟩:=hrel
      rename World=>wn
      obtain ⟨na,nc,hnv⟩:=Qah HNr.out;subst hnv;obtain ⟨m,hm⟩:∃ m,m=nr.length:=⟨_,rfl⟩;rw [← hm] at HNr hnN ⊢;have Hm:=Lib.hid hm;clear hm;by_cases hr:r < M
      ·have hrd:decide ((r:Int) < (M:Int))=true:=by simp;omega
       go_upto_region 25 with fail;have HX0:Hid ((wn.alloc (.cells #[] 3)).ownsRow wn.heap.size 3 1 (.slice (some ⟨wn.heap.size,0,none⟩) 0 0) 0 (Qhi [])):=Lib.hid (Qn2 (heap_alloc_new _ _) (Nat.le_refl _));have HGb:Hid (Flow.Grow wn (wn.alloc (.cells #[] 3))):=Lib.hid (Flow.grow_alloc _ _);generalize wn.alloc (.cells #[] 3)=wb at *;go_upto_region 26 with fail;go_loopw [21,22] (fun xv iv wq=>∃ (i:Nat) (nx:List Nat),i≤m∧nx.length≤i * 12∧iv=.int .i64 i∧Hid (Flow.Grow wn wq)∧Hid (wq.ownsRow wn.heap.size 3 1 xv nx.length (Qhi nx))∧Hid (∀ t∈nx,As.Reach (sf ps LN room) (r+1) t)) (fun _ iv _=>m - (intOf iv).toNat)
       case atStart=>exact ⟨0,[],by omega,by simp,rfl,HGb,HX0,Lib.hid (by simp)⟩
       case round =>
        clear HX0 HGb;obtain ⟨i,nx,him,hxl,rfl,HGx,HXr,HXe⟩:=hrel
        rename World=>wx1
        by_cases hi:i < m
        ·obtain ⟨t0,ht0⟩:∃ t0,nr[i]?=some t0:=⟨_,List.getElem?_eq_getElem (by rw [← Hm.out];exact hi)⟩;obtain ⟨ng,ngc,hne,_,_⟩:=own_n HNr.out (by omega);obtain ⟨rfl,rfl⟩:na=some ⟨ng,0,none⟩∧nc=ngc:=by injection hne with a b c;exact ⟨a,c⟩
         have HNc:Hid (∀ wq,Flow.Grow wn wq→wq.cell? ⟨ng,i,none⟩=some (.int .i64 (t0:Int))):=Lib.hid (fun wq g=>by
          rw [(Qab HNr.out g).cellAt i (by omega),Qhi,List.getElem?_map,ht0];rfl)
         have HRt:=Lib.hid (HRe.out t0 (List.mem_of_getElem? ht0));have htu:¬ (t0:Int)=(u:Int):=fun e=>by
          have e':t0=u:=by omega
          have h1:=Qne HE.out HRt.out (e' ▸ HW.out);rw [← HM.out] at h1;omega
         have hteq:decide ((t0:Int)=(u:Int))=false:=decide_eq_false htu;have htN:=Qia HE.out HRt.out;obtain ⟨ra,ml,rc,c0,hml,hrq⟩:=HRow.out t0 htN;have hml2:ml≤12:=by rw [hml];exact Qzi hL HOk.out _
         have HCc:Hid (∀ wq,Flow.Grow wn wq→wq.cell? ⟨C,1,none⟩=some (.slice (some ⟨gs,so,none⟩) N sc)∧wq.cell? ⟨gs,so+t0,none⟩=some (.slice ra ml rc)):=Lib.hid (fun wq g=>⟨(CXw6.out wq (HG6o.out.trans (HGn.out.trans g))).2.1,Xm2.cell_grow (HG5o.out.trans (HGn.out.trans g)) c0⟩);have HRq:=Lib.hid hrq;clear hne ht0 c0 hml hrq;have y0:=HNc.out wx1 HGx.out;have b0:(0:Int)≤(i:Int):=by omega
         have b1:(i:Int) < (m:Int):=by omega
         have b2:(0:Int)≤(t0:Int):=by omega
         have b3:(t0:Int) < (N:Int):=by omega
         have hid:decide ((i:Int) < (m:Int))=true:=by simp;omega
         go_upto_region 30 with fail;clear y0 hteq htu;go_upto_region 31 with fail;go_loopw [21,23] (fun xv qv wq=>∃ (q:Nat) (nx:List Nat),q≤ml∧nx.length≤i * 12+q∧qv=.int .i64 q∧Hid (Flow.Grow wn wq)∧Hid (wq.ownsRow wn.heap.size 3 1 xv nx.length (Qhi nx))∧Hid (∀ t∈nx,As.Reach (sf ps LN room) (r+1) t)) (fun _ qv _=>ml - (intOf qv).toNat)
         case atStart=>exact ⟨0,nx,by omega,by omega,rfl,HGx,HXr,HXe⟩
         case round =>
          clear HGx HXr HXe hxl;obtain ⟨q,nx,hqm,hxl,rfl,HGx,HXr,HXe⟩:=hrel
          rename World=>wj
          obtain ⟨xa',xc',hxv⟩:=Qah HXr.out;subst hxv;obtain ⟨y1,y2⟩:=HCc.out wj HGx.out;have y0:=HNc.out wj HGx.out;by_cases hq:q < ml
          ·have hqd:decide ((q:Int) < (ml:Int))=true:=by simp;omega
           obtain ⟨rb,ro,pa,pz,t,d,rfl,hs,ht,_,_,c2⟩:=HRq.out q hq;have HTr:Hid (As.Reach (sf ps LN room) (r+1) t):=Lib.hid ⟨t0,pa,pz,HRt.out,q,d,hs,ht⟩;have HTc:Hid (∀ wq,Flow.Grow wn wq→wq.cell? ⟨rb,ro+q * 3+2,none⟩=some (.int .i64 (t:Int))):=Lib.hid (fun wq g=>Xm2.cell_grow (HG5o.out.trans (HGn.out.trans g)) c2);clear hs ht c2;obtain ⟨nl,hnl⟩:∃ nl,nl=nx.length:=⟨_,rfl⟩;rw [← hnl] at HXr hxl ⊢;have Hnl:=Lib.hid hnl;clear hnl;go_upto_region 31 with fail;go_quiet (fail);have HGq:Hid (Flow.Grow wj (wj.drewN nq)):=Lib.hid (Flow.grow_drewN _ _);generalize wj.drewN nq=wk at *;go_upto_region 33 with fail;have b4:(0:Int)≤(q:Int):=by omega
           have b5:(q:Int) < (ml:Int):=by omega
           have hnl2:nl≤1000000:=by omega
           clear y0 y1 y2;obtain ⟨i1,hi1,hy0,hy1,hy2⟩:=info_parts Qbo
           refine Flow.regionG (C:=NxC wn (.slice xa' nl xc') nl (Qhi nx)) (Fs:=[.inl ((.slice xa' nl xc')),.inl ((.pointer (some ⟨C,1,none⟩))),.inl ((.slice (some ⟨gs,so,none⟩) N sc)),.inl ((.slice (some ⟨ng,0,none⟩) m nc)),.inl ((.int .i64 (i:Int))),.inl ((.pointer (some ⟨ng,i,none⟩))),.inl ((.int .i64 (t0:Int))),.inl ((.pointer (some ⟨gs,so+t0,none⟩))),.inl ((.slice (some ⟨rb,ro,none⟩) ml rc)),.inl ((.int .i64 (q:Int))),.inl ((.pointer (some ⟨rb,ro+q * 3,none⟩))),.inl ((.pointer (some ⟨rb,ro+q * 3+2,none⟩))),.inl ((.int .i64 (t:Int))),.inr (fun v w=>∃ q,v=.slice (some ⟨q,0,none⟩) 1 1∧w.heap[q]?=some (.cells #[.int .i64 (t:Int)] 3 (0,0))),.inr (fun v w=>∃ a c,v=.slice a (nl+1) c∧w.ownsRow wn.heap.size 3 1 v (nl+1) (Qhi (nx++[t]))),.inr (fun v w=>∃ a c,v=.slice a (nl+1) c∧w.ownsRow wn.heap.size 3 1 v (nl+1) (Qhi (nx++[t])))])
            [[],[],[1],[],[],[3,4],[5],[2,6],[7],[],[8,9],[10],[11],[12],[0,13],[14]] [[],[],[1],[],[],[3,4],[3,4,5],[1,2,3,4,5,6],[1,2,3,4,5,6,7],[],[1,2,3,4,5,6,7,8,9],[1,2,3,4,5,6,7,8,9,10],[1,2,3,4,5,6,7,8,9,10,11],[1,2,3,4,5,6,7,8,9,10,11,12],[0,1,2,3,4,5,6,7,8,9,10,11,12,13],[0,1,2,3,4,5,6,7,8,9,10,11,12,13,14]] [15] (by kernel_rfl) (by kernel_rfl) (by kernel_rfl) rfl (⟨(HGx.out.trans HGq.out).trans (Flow.grow_drew _),fun _=>Qab (Qab HXr.out HGq.out) (Flow.grow_drew _)⟩) ?ones33 ?ends33
           case ones33 =>
            refine Flow.OnesG.start (by exact ⟨fun _ _ _ g ⟨q,h1,h2⟩=>⟨q,h1,Qae g h2⟩,fun _ _ _ g ⟨a,b,h1,h2⟩=>⟨a,b,h1,Qab h2 g⟩,fun _ _ _ g ⟨a,b,h1,h2⟩=>⟨a,b,h1,Qab h2 g⟩,trivial⟩) (fun L w w' i h g=>h.more g i) fun HST HCG=>?_;refine Flow.oq rfl HST HCG ?_ ?_
            ·intro L a w hC hLi hoff _;exact Flow.gs rfl (Flow.exec_move (.inl rfl) (hoff.at2 21 0 hLi (by kernel_rfl)))
            refine Flow.oq rfl HST HCG ?_ ?_
            ·intro L a w hC hLi hoff _;have e9:a.eval (.tmp 9)=(.pointer (some ⟨C,0,none⟩)):=hoff.at2 9 1 hLi (by kernel_rfl);refine Flow.gs rfl ?_;generalize a.eval=ρ at e9 ⊢;simp [execOp,e9,go_sem]
            refine Flow.oq rfl HST HCG ?_ ?_
            ·rintro L a w hC hLi hoff ⟨k1,-⟩;have e153:=Flow.kv k1 rfl rfl;refine Flow.gs rfl ?_;generalize a.eval=ρ at e153 ⊢;obtain ⟨h0,_⟩:=HCc.out w hC.grow;simp [execOp,e153,h0,go_sem]
            refine Flow.oq rfl HST HCG ?_ ?_
            ·intro L a w hC hLi hoff _;exact Flow.gs rfl (Flow.exec_move (.inl rfl) (hoff.at2 19 3 hLi (by kernel_rfl)))
            refine Flow.oq rfl HST HCG ?_ ?_
            ·intro L a w hC hLi hoff _;exact Flow.gs rfl (Flow.exec_move (.inl rfl) (hoff.at2 22 4 hLi (by kernel_rfl)))
            refine Flow.oq rfl HST HCG ?_ ?_
            ·rintro L a w hC hLi hoff ⟨k3,k4,-⟩;have e155:=Flow.kv k3 rfl rfl;have e156:=Flow.kv k4 rfl rfl;refine Flow.gs rfl ?_;generalize a.eval=ρ at e155 e156 ⊢;simp [execOp,e155,e156,go_sem];intro hh;omega
            refine Flow.oq rfl HST HCG ?_ ?_
            ·rintro L a w hC hLi hoff ⟨k5,-⟩;have e157:=Flow.kv k5 rfl rfl;refine Flow.gs rfl ?_;generalize a.eval=ρ at e157 ⊢;have h0:=HNc.out w hC.grow;simp [execOp,e157,h0,go_sem]
            refine Flow.oq rfl HST HCG ?_ ?_
            ·rintro L a w hC hLi hoff ⟨k2,k6,-⟩;have e154:=Flow.kv k2 rfl rfl;have e158:=Flow.kv k6 rfl rfl;refine Flow.gs rfl ?_;generalize a.eval=ρ at e154 e158 ⊢;simp [execOp,e154,e158,go_sem];intro hh;omega
            refine Flow.oq rfl HST HCG ?_ ?_
            ·rintro L a w hC hLi hoff ⟨k7,-⟩;have e159:=Flow.kv k7 rfl rfl;refine Flow.gs rfl ?_;generalize a.eval=ρ at e159 ⊢;obtain ⟨_,h0⟩:=HCc.out w hC.grow;simp [execOp,e159,h0,go_sem]
            refine Flow.oq rfl HST HCG ?_ ?_
            ·intro L a w hC hLi hoff _;exact Flow.gs rfl (Flow.exec_move (.inl rfl) (hoff.at2 23 9 hLi (by kernel_rfl)))
            refine Flow.oq rfl HST HCG ?_ ?_
            ·rintro L a w hC hLi hoff ⟨k8,k9,-⟩;have e160:=Flow.kv k8 rfl rfl;have e161:=Flow.kv k9 rfl rfl;refine Flow.gs rfl ?_;generalize a.eval=ρ at e160 e161 ⊢;simp [execOp,e160,e161,go_sem];intro hh;omega
            refine Flow.oq rfl HST HCG ?_ ?_
            ·rintro L a w hC hLi hoff ⟨k10,-⟩;have e162:=Flow.kv k10 rfl rfl;refine Flow.gs rfl ?_;generalize a.eval=ρ at e162 ⊢;simp [execOp,e162,go_sem]
            refine Flow.oq rfl HST HCG ?_ ?_
            ·rintro L a w hC hLi hoff ⟨k11,-⟩;have e163:=Flow.kv k11 rfl rfl;refine Flow.gs rfl ?_;generalize a.eval=ρ at e163 ⊢;have h0:=HTc.out w hC.grow;simp [execOp,e163,h0,go_sem]
            refine Flow.oq rfl HST HCG ?_ ?_
            ·rintro L a w hC hLi hoff ⟨k12,-⟩;have e164:=Flow.kv k12 rfl rfl;refine .inl ⟨Flow.want_none rfl,?_⟩;refine Flow.run_val (v:=.slice (some ⟨w.heap.size,0,none⟩) 1 1) (w':=w.alloc (.cells #[.int .i64 (t:Int)] 3)) ?_ (Flow.grow_alloc _ _) ⟨_,rfl,heap_alloc_new _ _⟩;generalize a.eval=ρ at e164 ⊢;simp [execOp,e164,go_sem]
            refine Flow.OnesG.cons (Flow.OneG.k (fun w w'=>w.grownBy w' (Value.slice xa' nl xc').ownBlock) (by exact ⟨.inl rfl,.inl rfl,.inl rfl,trivial⟩) ?_) ?_
            ·rintro L a w hC hLi hoff ⟨k0,k13,-⟩;have e152:=Flow.kv k0 rfl rfl;have e165:=Flow.kr k13 rfl rfl;refine ⟨Flow.want_none rfl,?_⟩;obtain ⟨q',he165,hq'⟩:=e165;have hown:=hC.own hLi;refine Qlk _ _ 49 rfl wn.heap.size 3 i1 _ 1 8 Tryz.underlying49 hi1 hy0 hy1 hy2 rfl (by decide) _ nl _ e152 hown q' #[.int .i64 (t:Int)] _ he165 hq' rfl (by intro u hu;simp at hu;rw [hu];rfl) hnl2 (by decide) hC.grow.size fun g cap w' h2 h3 h4 h5=>?_;exact ⟨_,rfl,⟨Qap hC.grow h3 h5,fun e=>by simp [Flow.ad] at e⟩,h3,_,_,rfl,by rw [Qhi,List.map_append];exact h2⟩
            refine Flow.oq rfl HST HCG ?_ ?_
            ·rintro L a w hC hLi hoff ⟨k14,-⟩;have e166:=Flow.kr k14 rfl rfl;exact .inl ⟨Flow.want_none rfl,Flow.run_val (Flow.exec_move (.inr rfl) rfl) (Flow.grow_refl _) e166⟩
            exact trivial
           case ends33 =>
            intro LL wx hLL hC
            iterate 13 refine Flow.endsG_v rfl ?_
            refine Flow.endsG_r rfl fun v165 _=>?_;refine Flow.endsG_r rfl fun v166 _=>?_;refine Flow.endsG_r rfl fun v21 hE21=>?_;replace hE21:=hE21 rfl;refine Flow.endsG_nil ?_;simp only [Act.put,List.setIfInBounds_toArray,List.set_cons_succ,List.set_cons_zero];obtain ⟨ga,gc,rfl,ho⟩:=hE21;have HO21:=Lib.hid ho;have HGc:=Lib.hid hC.grow;clear ho hC;go_wp2_with fail;go_roundw
            case rel=>exact ⟨q+1,nx++[t],by omega,by rw [List.length_append,← Hnl.out];simp;omega,by go_num,HGc,by rw [List.length_append,← Hnl.out];exact HO21,Lib.hid (fun x hx=>by
             rcases List.mem_append.1 hx with h | h
             ·exact HXe.out x h
             ·rw [List.mem_singleton.1 h];exact HTr.out)⟩
            case measure=>simp [intOf];omega
          ·obtain rfl:ml=q:=by omega
           go_upto_region 31 with fail;go_quiet (fail);have HGq:Hid (Flow.Grow wj (wj.drewN nq)):=Lib.hid (Flow.grow_drewN _ _);generalize wj.drewN nq=wk at *;go_wp2_with fail;go_roundw
           case rel=>exact ⟨i+1,nx,by omega,by omega,by go_num,Lib.hid (HGx.out.trans HGq.out),Lib.hid (Qab HXr.out HGq.out),HXe⟩
           case measure=>simp [intOf];omega
        ·obtain rfl:m=i:=by omega
         obtain ⟨xa',xc',hxv⟩:=Qah HXr.out;subst hxv;have hN2:nx.length≤24000:=by omega
         have HOn:Hid (Calls Tryz.prog 13 #[.slice xa' nx.length xc'] wx1 fun e w'=>(∃ (ov:Value) (nr':List Nat),e=.returned ov∧w'.ownsRow wx1.heap.size 3 1 ov nr'.length (Qhi nr')∧(∀ t∈nr',As.Reach (sf ps LN room) (r+1) t)∧nr'.length≤N)∧Flow.Grow wx1 w'):=Lib.hid (by
          have hi:=Qbz (zs:=nx.map (fun t:Nat=>(t:Int))) (by have h:=HXr.out;rw [show Qhi nx=(nx.map (fun t:Nat=>(t:Int))).map (Value.int .i64) by simp [Qhi]] at h;exact h) (by simp);refine (Qyd _ _ wx1 hi (by rw [List.length_map];omega)).mono ?_;rintro e w' ⟨⟨ov,rs,rfl,ho,hm,hd⟩,hg⟩;obtain ⟨nr',rfl,hn⟩:=Zat (P:=fun t=>t∈nx) (fun x hx=>by
           obtain ⟨t,ht,e⟩:=List.mem_map.1 (hm x hx);exact ⟨t,e.symm,ht⟩)
          refine ⟨⟨ov,nr',rfl,?_,fun t ht=>HXe.out t (hn t ht),Zau hd (fun t ht=>Qia HE.out (HXe.out t (hn t ht)))⟩,hg⟩;rw [List.length_map,List.map_map] at ho;exact ho)
         go_wp2_with (go_at_call 13;refine HOn.out.mono ?_;rintro e wy ⟨⟨ov,nr',rfl,ho,hre,hnl⟩,hg⟩;have HN2:=Lib.hid (own_mono ho (HGn.out.trans HGx.out).size);have HR2:=Lib.hid hre;have HG2:=Lib.hid (HGn.out.trans (HGx.out.trans hg));clear ho hre hg);go_roundw
         case rel=>exact ⟨r+1,nr',by omega,hnl,by go_num,HG2,HN2,HR2⟩
         case measure=>simp [intOf];omega
      ·obtain rfl:M=r:=by omega
       obtain ⟨gc,og,cc2,uS,uM,hce,u0,u1,u2,u3,hcu⟩:=HAt.out.cfg_ huN;cases hce;have hgd:Gd ps room ((Qal (sf ps LN room) N).getD u first):=by
        rw [List.getD_eq_getElem?_getD,List.getElem?_eq_getElem (by rw [HE.out.1];exact huN)];exact Qgf hL HOk.out N _ (List.getElem_mem _)
       have HUc:Hid (∀ wq,Flow.Grow wn wq→wq.cell? ⟨gc,og+u * 4,none⟩=some uS∧wq.cell? ⟨gc,og+u * 4+1,none⟩=some (.int .i64 3)∧wq.cell? ⟨gc,og+u * 4+2,none⟩=some (.int .i64 (room:Nat))∧wq.cell? ⟨gc,og+u * 4+3,none⟩=some uM):=Lib.hid (fun wq g=>⟨Xm2.cell_grow (HG5o.out.trans (HGn.out.trans g)) u0,Xm2.cell_grow (HG5o.out.trans (HGn.out.trans g)) u1,Xm2.cell_grow (HG5o.out.trans (HGn.out.trans g)) u2,Xm2.cell_grow (HG5o.out.trans (HGn.out.trans g)) u3⟩);have HDc:Hid (∀ wq,Flow.Grow wn wq→wq.cell? ⟨D,0,none⟩=some vS∧wq.cell? ⟨D,1,none⟩=some (.int .i64 3)∧wq.cell? ⟨D,2,none⟩=some (.int .i64 (room:Nat))∧wq.cell? ⟨D,3,none⟩=some vM):=Lib.hid (fun wq g=>⟨Qaa (HGn.out.trans g) HA1.out.cell rfl,Qaa (HGn.out.trans g) HA1.out.cell rfl,Qaa (HGn.out.trans g) HA1.out.cell rfl,Qaa (HGn.out.trans g) HA1.out.cell rfl⟩);have HSm:Hid (∀ wq,Flow.Grow wn wq→Calls Tryz.prog 14 #[.agg #[vS,.int .i64 3,.int .i64 (room:Nat),vM],.agg #[uS,.int .i64 3,.int .i64 (room:Nat),uM]] wq fun e w'=>∃ v,e=.returned v∧Flow.Grow wq w'∧v=.bool true):=Lib.hid (fun wq g=>by
        refine (Qm9 room vS vM uS uM _ _ wq hgd.wf.boxes hgd.wf.boxes hgd.wf.len hgd.wf.len (fun j=>by have:=hgd.bl j;omega) (fun j=>by have:=hgd.bl j;omega) ((HA1.out.at_.sub (Qcb _ _)).grow (HGn.out.trans g)) (hcu.grow (HG5o.out.trans (HGn.out.trans g)))).mono ?_;rintro e w' ⟨rfl,hg⟩;exact ⟨_,rfl,hg,by rw [decide_eq_true rfl]⟩)
       have HAw:Hid (∀ wq,Calls Tryz.prog 7 #[] wq fun e w'=>∃ v,e=.returned v∧Flow.Grow wq w'∧v=.bool true):=Lib.hid (fun wq=>(Qq9 wq).mono (by rintro e w' ⟨rfl,hg⟩;exact ⟨_,rfl,hg,rfl⟩));have HCc:Hid (∀ wq,Flow.Grow wn wq→wq.cell? ⟨C,0,none⟩=some (.slice (some ⟨gc,og,none⟩) N cc)∧wq.cell? ⟨C,1,none⟩=some (.slice (some ⟨gs,so,none⟩) N sc)∧wq.cell? ⟨C,2,none⟩=some (.slice ba N bc)):=Lib.hid (fun wq g=>CXw6.out wq (HG6o.out.trans (HGn.out.trans g)));clear u0 u1 u2 u3 hcu hgd;go_upto_region 35 with fail;obtain ⟨e0,e1,e2⟩:=HCc.out wn (Flow.grow_refl _);go_upto_region 36 with (go_at_call 10;refine (Qnz N (-1) _ _ _ _ _ (.inl (by decide))).mono ?_;rintro e wy ⟨rfl,hg⟩;have HGy:=Lib.hid hg;clear hg);clear e0 e1 e2;obtain ⟨e0,e1,e2⟩:=HCc.out wy HGy.out;go_upto_region 37 with (go_at_call 10;refine (Qnz N (N:Int) _ _ _ _ _ (.inr (Int.le_refl _))).mono ?_;rintro e wz ⟨rfl,hg⟩;have HGz:=Lib.hid (HGy.out.trans hg);clear hg);clear e0 e1 e2;have b2:(0:Int)≤(u:Int):=by omega
       have b3:(u:Int) < (N:Int):=by omega
       refine Flow.regionG (C:=fun _ wq=>Flow.Grow wz wq) (Fs:=[.inl ((.bool true)),.inl ((.bool true)),.inl ((.bool true)),.inl ((.bool true)),.inl ((.bool true)),.inl ((.agg #[vS,.int .i64 3,.int .i64 (room:Nat),vM])),.inl ((.pointer (some ⟨C,0,none⟩))),.inl ((.slice (some ⟨gc,og,none⟩) N cc)),.inl ((.int .i64 (u:Int))),.inl ((.pointer (some ⟨gc,og+u * 4,none⟩))),.inl ((.agg #[uS,.int .i64 3,.int .i64 (room:Nat),uM])),.inl ((.bool true)),.inl ((.bool true)),.inl ((.bool true)),.inl ((.bool false)),.inl ((.bool true)),.inl ((.bool true)),.inl ((.bool true)),.inl ((.bool false)),.inl ((.bool true)),.inl ((.bool true)),.inl ((.bool true))])
        [[],[0],[1],[1,2],[3],[4],[4],[6,4],[4],[7,8,4],[9,4],[5,10,4],[4,11],[12],[13],[14,13],[13,15],[16],[17],[18,17],[17,19],[20]] [[],[0],[0,1],[0,1,2],[0,1,2,3],[0,1,2,3,4],[0,1,2,3,4],[0,1,2,3,4,6],[0,1,2,3,4],[0,1,2,3,4,6,7,8],[0,1,2,3,4,6,7,8,9],[0,1,2,3,4,5,6,7,8,9,10],[0,1,2,3,4,5,6,7,8,9,10,11],[0,1,2,3,4,5,6,7,8,9,10,11,12],[0,1,2,3,4,5,6,7,8,9,10,11,12,13],[0,1,2,3,4,5,6,7,8,9,10,11,12,13,14],[0,1,2,3,4,5,6,7,8,9,10,11,12,13,14,15],[0,1,2,3,4,5,6,7,8,9,10,11,12,13,14,15,16],[0,1,2,3,4,5,6,7,8,9,10,11,12,13,14,15,16,17],[0,1,2,3,4,5,6,7,8,9,10,11,12,13,14,15,16,17,18],[0,1,2,3,4,5,6,7,8,9,10,11,12,13,14,15,16,17,18,19],[0,1,2,3,4,5,6,7,8,9,10,11,12,13,14,15,16,17,18,19,20]] [21] (by kernel_rfl) (by kernel_rfl) (by kernel_rfl) rfl (Flow.grow_drew _) ?ones37 ?ends37
       case ones37 =>
        refine Flow.OnesG.start (by exact trivial) (fun L w w' i=>(fun _ _ h g=>h.trans g) w w') fun HST HCG=>?_;refine Flow.oq rfl HST HCG ?_ ?_
        ·intro L a w hC hLi hoff _;exact .inl ⟨Flow.want_none rfl,Flow.run_call (Flow.exec_call rfl Tryz.func7 (by kernel_rfl) (by kernel_rfl) (by simp only [List.map_toArray,List.map_nil])) (HAw.out w)⟩
        refine Flow.oq rfl HST HCG ?_ ?_
        ·rintro L a w hC hLi hoff ⟨k0,-⟩;have e182:=Flow.kv k0 rfl rfl;exact Flow.gs rfl (Flow.exec_move (.inl rfl) e182)
        refine Flow.oq rfl HST HCG ?_ ?_
        ·rintro L a w hC hLi hoff ⟨k1,-⟩;have e183:=Flow.kv k1 rfl rfl;have e13:a.eval (.tmp 13)=(.bool true):=hoff.at2 13 2 hLi (by kernel_rfl);exact Flow.gy rfl rfl e183 (Flow.exec_move (.inl rfl) e13)
        refine Flow.oq rfl HST HCG ?_ ?_
        ·rintro L a w hC hLi hoff ⟨k1,k2,-⟩;have e183:=Flow.kv k1 rfl rfl;have e184:=Flow.kv k2 rfl rfl;exact Flow.gs rfl (Flow.exec_pick_yes rfl e183 e184)
        refine Flow.oq rfl HST HCG ?_ ?_
        ·rintro L a w hC hLi hoff ⟨k3,-⟩;have e185:=Flow.kv k3 rfl rfl;exact Flow.gs rfl (Flow.exec_move (.inl rfl) e185)
        refine Flow.oq rfl HST HCG ?_ ?_
        ·rintro L a w hC hLi hoff ⟨k4,-⟩;have e186:=Flow.kv k4 rfl rfl;have e14:a.eval (.tmp 14)=(.pointer (some ⟨D,0,none⟩)):=hoff.at2 14 5 hLi (by kernel_rfl);refine Flow.gy rfl rfl e186 ?_;generalize a.eval=ρ at e14 ⊢;obtain ⟨h0,h1,h2,h3⟩:=HDc.out w (HGz.out.trans hC);simp [execOp,e14,h0,h1,h2,h3,go_sem]
        refine Flow.oq rfl HST HCG ?_ ?_
        ·rintro L a w hC hLi hoff ⟨k4,-⟩;have e186:=Flow.kv k4 rfl rfl;have e9:a.eval (.tmp 9)=(.pointer (some ⟨C,0,none⟩)):=hoff.at2 9 6 hLi (by kernel_rfl);refine Flow.gy rfl rfl e186 ?_;generalize a.eval=ρ at e9 ⊢;simp [execOp,e9,go_sem]
        refine Flow.oq rfl HST HCG ?_ ?_
        ·rintro L a w hC hLi hoff ⟨k6,k4,-⟩;have e188:=Flow.kv k6 rfl rfl;have e186:=Flow.kv k4 rfl rfl;refine Flow.gy rfl rfl e186 ?_;generalize a.eval=ρ at e188 ⊢;obtain ⟨h0,_⟩:=HCc.out w (HGz.out.trans hC);simp [execOp,e188,h0,go_sem]
        refine Flow.oq rfl HST HCG ?_ ?_
        ·rintro L a w hC hLi hoff ⟨k4,-⟩;have e186:=Flow.kv k4 rfl rfl;have e11:a.eval (.tmp 11)=(.int .i64 (u:Int)):=hoff.at2 11 8 hLi (by kernel_rfl);exact Flow.gy rfl rfl e186 (Flow.exec_move (.inl rfl) e11)
        refine Flow.oq rfl HST HCG ?_ ?_
        ·rintro L a w hC hLi hoff ⟨k7,k8,k4,-⟩;have e189:=Flow.kv k7 rfl rfl;have e190:=Flow.kv k8 rfl rfl;have e186:=Flow.kv k4 rfl rfl;refine Flow.gy rfl rfl e186 ?_;generalize a.eval=ρ at e189 e190 ⊢;simp [execOp,e189,e190,go_sem];intro hh;omega
        refine Flow.oq rfl HST HCG ?_ ?_
        ·rintro L a w hC hLi hoff ⟨k9,k4,-⟩;have e191:=Flow.kv k9 rfl rfl;have e186:=Flow.kv k4 rfl rfl;refine Flow.gy rfl rfl e186 ?_;generalize a.eval=ρ at e191 ⊢;obtain ⟨h0,h1,h2,h3⟩:=HUc.out w (HGz.out.trans hC);simp [execOp,e191,h0,h1,h2,h3,go_sem]
        refine Flow.oq rfl HST HCG ?_ ?_
        ·rintro L a w hC hLi hoff ⟨k5,k10,k4,-⟩;have e187:=Flow.kv k5 rfl rfl;have e192:=Flow.kv k10 rfl rfl;have e186:=Flow.kv k4 rfl rfl;exact .inl ⟨Flow.want_yes rfl rfl e186,Flow.run_call (Flow.exec_call rfl Tryz.func14 (by kernel_rfl) (by kernel_rfl) (by simp only [List.map_toArray,List.map_cons,List.map_nil,e187,e192] <;> rfl)) (HSm.out w (HGz.out.trans hC))⟩
        refine Flow.oq rfl HST HCG ?_ ?_
        ·rintro L a w hC hLi hoff ⟨k4,k11,-⟩;have e186:=Flow.kv k4 rfl rfl;have e193:=Flow.kv k11 rfl rfl;exact Flow.gs rfl (Flow.exec_pick_yes rfl e186 e193)
        refine Flow.oq rfl HST HCG ?_ ?_
        ·rintro L a w hC hLi hoff ⟨k12,-⟩;have e194:=Flow.kv k12 rfl rfl;exact Flow.gs rfl (Flow.exec_move (.inl rfl) e194)
        refine Flow.oq rfl HST HCG ?_ ?_
        ·rintro L a w hC hLi hoff ⟨k13,-⟩;have e195:=Flow.kv k13 rfl rfl;have e25:a.eval (.tmp 25)=(.bool false):=hoff.at2 25 14 hLi (by kernel_rfl);exact Flow.gy rfl rfl e195 (Flow.exec_move (.inl rfl) e25)
        refine Flow.oq rfl HST HCG ?_ ?_
        ·rintro L a w hC hLi hoff ⟨k14,k13,-⟩;have e196:=Flow.kv k14 rfl rfl;have e195:=Flow.kv k13 rfl rfl;refine Flow.gy rfl rfl e195 ?_;generalize a.eval=ρ at e196 ⊢;simp [execOp,e196,go_sem]
        refine Flow.oq rfl HST HCG ?_ ?_
        ·rintro L a w hC hLi hoff ⟨k13,k15,-⟩;have e195:=Flow.kv k13 rfl rfl;have e197:=Flow.kv k15 rfl rfl;exact Flow.gs rfl (Flow.exec_pick_yes rfl e195 e197)
        refine Flow.oq rfl HST HCG ?_ ?_
        ·rintro L a w hC hLi hoff ⟨k16,-⟩;have e198:=Flow.kv k16 rfl rfl;exact Flow.gs rfl (Flow.exec_move (.inl rfl) e198)
        refine Flow.oq rfl HST HCG ?_ ?_
        ·rintro L a w hC hLi hoff ⟨k17,-⟩;have e199:=Flow.kv k17 rfl rfl;have e27:a.eval (.tmp 27)=(.bool false):=hoff.at2 27 18 hLi (by kernel_rfl);exact Flow.gy rfl rfl e199 (Flow.exec_move (.inl rfl) e27)
        refine Flow.oq rfl HST HCG ?_ ?_
        ·rintro L a w hC hLi hoff ⟨k18,k17,-⟩;have e200:=Flow.kv k18 rfl rfl;have e199:=Flow.kv k17 rfl rfl;refine Flow.gy rfl rfl e199 ?_;generalize a.eval=ρ at e200 ⊢;simp [execOp,e200,go_sem]
        refine Flow.oq rfl HST HCG ?_ ?_
        ·rintro L a w hC hLi hoff ⟨k17,k19,-⟩;have e199:=Flow.kv k17 rfl rfl;have e201:=Flow.kv k19 rfl rfl;exact Flow.gs rfl (Flow.exec_pick_yes rfl e199 e201)
        refine Flow.oq rfl HST HCG ?_ ?_
        ·rintro L a w hC hLi hoff ⟨k20,-⟩;have e202:=Flow.kv k20 rfl rfl;exact Flow.gs rfl (Flow.exec_move (.inr rfl) e202)
        exact trivial
       case ends37 =>
        intro LL wx hLL hC
        iterate 22 refine Flow.endsG_v rfl ?_
        refine Flow.endsG_nil ?_;simp only [Act.put,List.setIfInBounds_toArray,List.set_cons_succ,List.set_cons_zero];have HGx:=Lib.hid (HGz.out.trans hC);clear hC;go_wp2_with fail;go_ret;exact ⟨rfl,HG14.out.trans (HG5.out.trans (HG5o.out.trans (HGn.out.trans HGx.out)))⟩
end Go.Proofs.YtcpodmjcgfgmnaaGreat
