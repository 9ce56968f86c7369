/- mail.Count, peer.Ends, joint.Ends, async.Ends and galliardref23.Ends, Same by their contracts. -/
import Derived.Test.YtcpodmjcgfgmnaaMEx
import Derived.Test.YtcpodmjcgfgmnaaMAsC
namespace Go.Proofs.Ytcpodmjcgfgmnaa
open Go.RowKit
namespace As
open Pr
def finI (ps:List Pd) (c:Cfg) (i:Nat):Bool:=(List.range i).all fun j=>(ps.getD j default).fin.getD (c.1.getD j 0).toNat false
theorem finI_succ (ps:List Pd) (c:Cfg) (i:Nat):finI ps c (i+1)=(finI ps c i && (ps.getD i default).fin.getD (c.1.getD i 0).toNat false):=by
 unfold finI
 simp [List.range_succ]
def cntB (b:List (List Int)):Nat→Nat
 | 0=>0
 | j+1=>cntB b j+(b.getD j []).length
theorem cntB_le {b:List (List Int)} {m:Nat} (h:∀ j,(b.getD j []).length≤m):∀ n,cntB b n≤m * n
 | 0=>by simp [cntB]
 | n+1=>by
  have:=cntB_le h n
  have:=h n
  rw [cntB,Nat.mul_succ]
  omega
theorem cntB_zero {b:List (List Int)}:∀ {n:Nat},(∀ j,j < n→b.getD j []=[])→cntB b n=0
 | 0,_=>rfl
 | n+1,h=>by rw [cntB,cntB_zero fun j hj=>h j (by omega),h n (by omega)];rfl
theorem cntB_pos {b:List (List Int)} {n j:Nat} (hj:j < n) (h:b.getD j []≠[]):cntB b n≠0:=by
 induction n with
 | zero=>omega
 | succ n ih =>
  rw [cntB]
  by_cases e:j=n
  ·subst e
   have:=List.length_pos_iff.2 h
   omega
  ·have:=ih (by omega)
   omega
def endsB (ps:List Pd) (c:Cfg):Bool:=finI ps c 3 && cntB c.2 9 == 0
end As
open As in
set_option maxRecDepth 100000 in
set_option maxHeartbeats 1000000 in
theorem mailCount_any (room:Nat) (vM:Value) (vs:List Value) (b:List (List Int)) (W:World) (h9:b.length=9) (hlen:∀ j,(b.getD j []).length≤100000) (hR:BoxAt W vM vs b) :
  Calls Try.prog 40 #[.agg #[.int .i64 3,.int .i64 (room:Nat),vM]] W fun e w'=>e=.returned (.int .i64 (cntB b 9:Nat))∧Flow.Grow W w':=by
 obtain ⟨mb,mo,mc,hvm,hvl,hvc,_⟩:=hR.cells (by intro e;rw [e] at h9;cases h9)
 subst hvm
 have HBc:Hid (∀ j,j < 9→∃ ba bn bc,W.cell? ⟨mb,mo+j,none⟩=some (.slice ba bn bc)∧bn=(b.getD j []).length):=Lib.hid (fun j hj=>by
  obtain ⟨hI,ba,bn,bc,hbe,_⟩:=hR.2 j (by omega)
  have hcx:=hvc j (vs.getD j undef) (by simp [List.getD_eq_getElem?_getD,show j < vs.length by omega])
  rw [hbe] at hI hcx
  refine ⟨ba,bn,bc,hcx,?_⟩
  obtain ⟨a',c',e,_⟩:=hI
  injection e)
 have HCn:=Lib.hid (cntB_le hlen)
 have HLn:=Lib.hid hlen
 rw [h9]
 clear hR hvl hvc hlen
 go_enter Try.func40,Try.ntmps40
 go_upto_region 1 with fail
 have HBw10:Hid ((W.alloc (.cells #[.int .i64 3,.int .i64 (room:Nat),.slice (some ⟨mb,mo,none⟩) 9 mc] 41)).heap[W.heap.size]?=some (.cells #[.int .i64 3,.int .i64 (room:Nat),.slice (some ⟨mb,mo,none⟩) 9 mc] 41 (0,0))):=Lib.hid (lay1_0 _ _)
 have HGw1:Hid (Flow.Grow W (W.alloc (.cells #[.int .i64 3,.int .i64 (room:Nat),.slice (some ⟨mb,mo,none⟩) 9 mc] 41))):=Lib.hid (lay1_g _ _)
 have HSw1:Hid ((W.alloc (.cells #[.int .i64 3,.int .i64 (room:Nat),.slice (some ⟨mb,mo,none⟩) 9 mc] 41)).heap.size=W.heap.size+1):=Lib.hid (by simp)
 generalize W.alloc (.cells #[.int .i64 3,.int .i64 (room:Nat),.slice (some ⟨mb,mo,none⟩) 9 mc] 41)=w1 at *
 obtain ⟨X,hX⟩:∃ X,X=W.heap.size:=⟨_,rfl⟩
 rw [← hX] at HBw10 HSw1 ⊢
 have HXw1:=Lib.hid hX
 clear hX
 have CXw1:Hid (∀ wq,Flow.Grow w1 wq→wq.cell? ⟨X,0,none⟩=some (.int .i64 3)∧wq.cell? ⟨X,1,none⟩=some (.int .i64 (room:Nat))∧wq.cell? ⟨X,2,none⟩=some (.slice (some ⟨mb,mo,none⟩) 9 mc)):=Lib.hid (fun wq g=>⟨lay_cell g HBw10.out rfl,lay_cell g HBw10.out rfl,lay_cell g HBw10.out rfl⟩)
 have FXw1:Hid (∀ wq,Flow.Grow w1 wq→(∀ k,wq.frozen? ⟨X,k,none⟩=false)):=Lib.hid (fun wq g=>fun k=>lay_frozen g HBw10.out k)
 obtain ⟨c00,c01,c02⟩:=CXw1.out w1 (Flow.grow_refl _)
 go_wp2_with fail
 clear c00 c01 c02
 go_loopw [3,9] (fun nv iv wr=>∃ j:Nat,j≤9∧iv=.int .i64 j∧nv=.int .i64 (cntB b j:Nat)∧Hid (Flow.Grow w1 wr)) (fun _ iv _=>9 - (intOf iv).toNat)
 case atStart=>exact ⟨0,by omega,rfl,rfl,Lib.hid (Flow.grow_refl _)⟩
 case round =>
  obtain ⟨j,hj,rfl,rfl,HG⟩:=hrel
  rename World=>wo
  by_cases hj9:j < 9
  ·obtain ⟨ba,bn,bc,hcx,hbn⟩:=HBc.out j hj9
   replace hcx:=Xm2.cell_grow (HGw1.out.trans HG.out) hcx
   have h1:=HCn.out j
   have h2:=HLn.out j
   rw [← hbn] at h2
   have HK:Hid (cntB b (j+1)=cntB b j+bn):=Lib.hid (by rw [cntB,hbn])
   clear hbn
   generalize cntB b j=m at *
   have hw:IntKind.i64.wrap ((m:Int)+(bn:Int))=(m:Int)+(bn:Int):=IntWalk.i64_in _ (by omega)
   have hj0:(0:Int)≤(j:Int):=by omega
   have hjd:(j:Int) < 9:=by omega
   go_wp2_with fail
   go_roundw
   case rel=>exact ⟨j+1,by omega,by go_num,by rw [HK.out];simp,HG⟩
   case measure=>simp [intOf];omega
  ·obtain rfl:j=9:=by omega
   go_wp2_with fail
   go_ret
   exact ⟨rfl,HGw1.out.trans HG.out⟩
set_option maxRecDepth 100000 in
set_option maxHeartbeats 1000000 in
theorem peerEnds_any (i K s:Nat) (va vf vn:Value) (fin:List Bool) (W:World) (hs:s < fin.length) (_hf:fin.length≤1000000) (hF:Bools W vf fin) :
  Calls Try.prog 59 #[.agg #[.int .i64 (i:Nat),va,.int .i64 (K:Nat),.int .i64 0,vf,vn],.int .i64 (s:Nat)] W fun e w'=>e=.returned (.bool (fin.getD s false))∧Flow.Grow W w':=by
 obtain ⟨af,cf,rfl,_⟩:=id hF
 obtain ⟨fb,fo,rfl,q0⟩:=bools_at hF hs
 generalize fin.getD s false=bb at *
 generalize fin.length=n at *
 clear hF
 have d1:decide ((s:Int)≥0)=true:=by simp
 have d2:decide ((s:Int) < (n:Int))=true:=by simp;omega
 have d3:(0:Int)≤(s:Int):=by omega
 have d4:(s:Int) < (n:Int):=by omega
 go_enter Try.func59,Try.ntmps59
 go_upto_region 1 with fail
 have HB:Hid ((W.alloc (.cells #[.int .i64 (i:Nat),va,.int .i64 (K:Nat),.int .i64 0,.slice (some ⟨fb,fo,none⟩) n cf,vn] 77)).heap[W.heap.size]?=some (.cells #[.int .i64 (i:Nat),va,.int .i64 (K:Nat),.int .i64 0,.slice (some ⟨fb,fo,none⟩) n cf,vn] 77 (0,0))):=Lib.hid (heap_alloc_new _ _)
 have HG:Hid (Flow.Grow W (W.alloc (.cells #[.int .i64 (i:Nat),va,.int .i64 (K:Nat),.int .i64 0,.slice (some ⟨fb,fo,none⟩) n cf,vn] 77))):=Lib.hid (Flow.grow_alloc _ _)
 replace q0:=Xm2.cell_grow HG.out q0
 generalize W.alloc (.cells #[.int .i64 (i:Nat),va,.int .i64 (K:Nat),.int .i64 0,.slice (some ⟨fb,fo,none⟩) n cf,vn] 77)=w1 at *
 have c4:=(cell_of_row w1 _ 4 _ _ _ HB.out).trans rfl
 go_wp2_with fail
 go_ret
 exact ⟨rfl,HG.out⟩
open As in
set_option maxRecDepth 100000 in
set_option maxHeartbeats 1000000 in
theorem jointEnds_any (vp vS:Value) (ls:List Pr.Lb) (css:List (List Value)) (ps:List Pr.Pd) (c:Cfg) (W:World) (hP:Pr.PeersAt W vp ls css ps) (hw:Wf ps c) (hS:Ints W vS c.1) :
  Calls Try.prog 41 #[vp,vS] W fun e w'=>e=.returned (.bool (finI ps c 3))∧Flow.Grow W w':=by
 obtain ⟨pb,po,pc,rfl,hpb,hpa⟩:=hP.at_
 have HPa:=Lib.hid hpa
 have h3:=hw.len
 obtain ⟨sb,so,sc,hvs,_,hsc⟩:=Ints.shape hS (by intro e;rw [e] at h3;cases h3)
 subst hvs
 have HSc:=Lib.hid hsc
 have HRg:=Lib.hid hw.rng
 have Hc3:=Lib.hid h3
 rw [h3]
 clear hP hpa hS hsc hw h3
 go_enter Try.func41,Try.ntmps41
 go_wp2_with fail
 go_loopw [9] (fun iv wr=>∃ i:Nat,i≤3∧iv=.int .i64 i∧finI ps c i=true∧Hid (Flow.Grow W wr)) (fun iv _=>3 - (intOf iv).toNat)
 case atStart=>exact ⟨0,by omega,rfl,rfl,Lib.hid (Flow.grow_refl _)⟩
 case round =>
  obtain ⟨i,hi3,rfl,hfi,HG⟩:=hrel
  rename World=>wo
  by_cases hi:i < 3
  ·obtain ⟨va,vf,vn,p,hp,f0,f1,f2,f3,f4,f5,f6,f7,f8,f9⟩:=HPa.out i hi
   have hr:=HRg.out i hi
   have hs:=HSc.out i (by rw [Hc3.out];exact hi)
   have HFs:Hid (finI ps c (i+1)=(finI ps c i && p.fin.getD (c.1.getD i 0).toNat false)):=Lib.hid (by rw [finI_succ,hp])
   obtain ⟨s,hse,hsl⟩:∃ s:Nat,c.1.getD i 0=(s:Int)∧s < p.fin.length:=⟨(c.1.getD i 0).toNat,by omega,by rw [f9.fin,hp];omega⟩
   rw [hse] at hs HFs
   have HPe:Hid (∀ wq,Flow.Grow W wq→Calls Try.prog 59 #[.agg #[.int .i64 (i:Nat),va,.int .i64 (p.acts.length:Nat),.int .i64 0,vf,vn],.int .i64 (s:Nat)] wq fun e w'=>∃ v,e=.returned v∧Flow.Grow wq w'∧v=.bool (p.fin.getD s false)):=Lib.hid (fun wq g=>by
    refine (peerEnds_any i _ s va vf vn p.fin wq hsl (by have:=f9.few;have:=f9.fin;omega) (f7.grow g)).mono ?_
    rintro e w' ⟨rfl,hg⟩
    exact ⟨_,rfl,hg,rfl⟩)
   obtain ⟨aa,ac,rfl,_⟩:=id f6
   obtain ⟨af,cf,rfl,_⟩:=id f7
   obtain ⟨an,cn,rfl⟩:=f8.val
   simp only [Int.toNat_natCast] at HFs
   replace f0:=Xm2.cell_grow HG.out f0
   replace f1:=Xm2.cell_grow HG.out f1
   replace f2:=Xm2.cell_grow HG.out f2
   replace f3:=Xm2.cell_grow HG.out f3
   replace f4:=Xm2.cell_grow HG.out f4
   replace f5:=Xm2.cell_grow HG.out f5
   clear f6 f7 f8 f9 hp hr hse hsl
   generalize p.fin.getD s false=bb at *
   generalize p.acts.length=K at *
   generalize p.fin.length=F at *
   generalize p.rows.length=N at *
   have hi0:(0:Int)≤(i:Int):=by omega
   have hid:(i:Int) < 3:=by omega
   have hid':decide ((i:Int)≥3)=false:=by simp;omega
   go_upto_region 4 with fail
   have HBw20:Hid ((wo.alloc (.cells #[.int .i64 (i:Int),.slice aa K ac,.int .i64 (K:Nat),.int .i64 0,.slice af F cf,.slice an N cn] 77)).heap[wo.heap.size]?=some (.cells #[.int .i64 (i:Int),.slice aa K ac,.int .i64 (K:Nat),.int .i64 0,.slice af F cf,.slice an N cn] 77 (0,0))):=Lib.hid (lay1_0 _ _)
   have HGw2:Hid (Flow.Grow wo (wo.alloc (.cells #[.int .i64 (i:Int),.slice aa K ac,.int .i64 (K:Nat),.int .i64 0,.slice af F cf,.slice an N cn] 77))):=Lib.hid (lay1_g _ _)
   have HSw2:Hid ((wo.alloc (.cells #[.int .i64 (i:Int),.slice aa K ac,.int .i64 (K:Nat),.int .i64 0,.slice af F cf,.slice an N cn] 77)).heap.size=wo.heap.size+1):=Lib.hid (by simp)
   generalize wo.alloc (.cells #[.int .i64 (i:Int),.slice aa K ac,.int .i64 (K:Nat),.int .i64 0,.slice af F cf,.slice an N cn] 77)=w2 at *
   obtain ⟨Y,hY⟩:∃ X,X=wo.heap.size:=⟨_,rfl⟩
   rw [← hY] at HBw20 HSw2 ⊢
   have HXw2:=Lib.hid hY
   clear hY
   have CXw2:Hid (∀ wq,Flow.Grow w2 wq→wq.cell? ⟨Y,0,none⟩=some (.int .i64 (i:Int))∧wq.cell? ⟨Y,1,none⟩=some (.slice aa K ac)∧wq.cell? ⟨Y,2,none⟩=some (.int .i64 (K:Nat))∧wq.cell? ⟨Y,3,none⟩=some (.int .i64 0)∧wq.cell? ⟨Y,4,none⟩=some (.slice af F cf)∧wq.cell? ⟨Y,5,none⟩=some (.slice an N cn)):=Lib.hid (fun wq g=>⟨lay_cell g HBw20.out rfl,lay_cell g HBw20.out rfl,lay_cell g HBw20.out rfl,lay_cell g HBw20.out rfl,lay_cell g HBw20.out rfl,lay_cell g HBw20.out rfl⟩)
   have FXw2:Hid (∀ wq,Flow.Grow w2 wq→(∀ k,wq.frozen? ⟨Y,k,none⟩=false)):=Lib.hid (fun wq g=>fun k=>lay_frozen g HBw20.out k)
   replace hs:=Xm2.cell_grow (HG.out.trans HGw2.out) hs
   clear f0 f1 f2 f3 f4 f5
   refine Flow.regionG (C:=fun _ wq=>Flow.Grow w2 wq) (Fs:=[.inl ((.int .i64 (i:Int))),.inl ((.slice (some ⟨sb,so,none⟩) 3 sc)),.inl ((.int .i64 3)),.inl ((.bool false)),.inl ((.bool false)),.inl ((.agg #[.int .i64 (i:Int),.slice aa K ac,.int .i64 (K:Nat),.int .i64 0,.slice af F cf,.slice an N cn])),.inl ((.slice (some ⟨sb,so,none⟩) 3 sc)),.inl ((.int .i64 (i:Int))),.inl ((.pointer (some ⟨sb,so+i,none⟩))),.inl ((.int .i64 (s:Int))),.inl ((.bool bb)),.inl ((.bool (!bb))),.inl ((.bool (!bb)))])
    [[],[],[1],[0,2],[3],[4],[4],[4],[6,7,4],[8,4],[5,9,4],[10,4],[4,11]] [[],[],[1],[0,1,2],[0,1,2,3],[0,1,2,3,4],[0,1,2,3,4],[0,1,2,3,4],[0,1,2,3,4,6,7],[0,1,2,3,4,6,7,8],[0,1,2,3,4,5,6,7,8,9],[0,1,2,3,4,5,6,7,8,9,10],[0,1,2,3,4,5,6,7,8,9,10,11]] [12] (by kernel_rfl) (by kernel_rfl) (by kernel_rfl) rfl (Flow.grow_drew _) ?ones4 ?ends4
   case ones4 =>
    refine Flow.OnesG.start (by exact trivial) (fun L w w' i=>(fun _ _ h g=>h.trans g) w w') fun HST HCG=>?_
    refine Flow.oq rfl HST HCG ?_ ?_
    ·intro L a w hC hLi hoff _
     exact Flow.gs rfl (Flow.exec_move (.inl rfl) (hoff.at2 5 0 hLi (by kernel_rfl)))
    refine Flow.oq rfl HST HCG ?_ ?_
    ·intro L a w hC hLi hoff _
     exact Flow.gs rfl (Flow.exec_move (.inl rfl) (hoff.at2 1 1 hLi (by kernel_rfl)))
    refine Flow.oq rfl HST HCG ?_ ?_
    ·rintro L a w hC hLi hoff ⟨k1,-⟩
     have e15:=Flow.kv k1 rfl rfl
     refine Flow.gs rfl ?_
     generalize a.eval=ρ at e15 ⊢
     simp [e15,go_sem]
    refine Flow.oq rfl HST HCG ?_ ?_
    ·rintro L a w hC hLi hoff ⟨k0,k2,-⟩
     have e14:=Flow.kv k0 rfl rfl
     have e16:=Flow.kv k2 rfl rfl
     refine Flow.gs rfl ?_
     generalize a.eval=ρ at e14 e16 ⊢
     simp [execOp,e14,e16,hid',go_sem]
    refine Flow.oq rfl HST HCG ?_ ?_
    ·rintro L a w hC hLi hoff ⟨k3,-⟩
     have e17:=Flow.kv k3 rfl rfl
     exact Flow.gs rfl (Flow.exec_move (.inl rfl) e17)
    refine Flow.oq rfl HST HCG ?_ ?_
    ·rintro L a w hC hLi hoff ⟨k4,-⟩
     have e18:=Flow.kv k4 rfl rfl
     have e6:a.eval (.tmp 6)=(.pointer (some ⟨Y,0,none⟩)):=hoff.at2 6 5 hLi (by kernel_rfl)
     refine Flow.gy rfl rfl e18 ?_
     generalize a.eval=ρ at e6 ⊢
     obtain ⟨h0,h1,h2,h3,h4,h5⟩:=CXw2.out w hC
     simp [execOp,e6,h0,h1,h2,h3,h4,h5,go_sem]
    refine Flow.oq rfl HST HCG ?_ ?_
    ·rintro L a w hC hLi hoff ⟨k4,-⟩
     have e18:=Flow.kv k4 rfl rfl
     have e1:a.eval (.tmp 1)=(.slice (some ⟨sb,so,none⟩) 3 sc):=hoff.at2 1 6 hLi (by kernel_rfl)
     exact Flow.gy rfl rfl e18 (Flow.exec_move (.inl rfl) e1)
    refine Flow.oq rfl HST HCG ?_ ?_
    ·rintro L a w hC hLi hoff ⟨k4,-⟩
     have e18:=Flow.kv k4 rfl rfl
     have e5:a.eval (.tmp 5)=(.int .i64 (i:Int)):=hoff.at2 5 7 hLi (by kernel_rfl)
     exact Flow.gy rfl rfl e18 (Flow.exec_move (.inl rfl) e5)
    refine Flow.oq rfl HST HCG ?_ ?_
    ·rintro L a w hC hLi hoff ⟨k6,k7,k4,-⟩
     have e20:=Flow.kv k6 rfl rfl
     have e21:=Flow.kv k7 rfl rfl
     have e18:=Flow.kv k4 rfl rfl
     refine Flow.gy rfl rfl e18 ?_
     generalize a.eval=ρ at e20 e21 ⊢
     simp [execOp,e20,e21,go_sem];intro hh;omega
    refine Flow.oq rfl HST HCG ?_ ?_
    ·rintro L a w hC hLi hoff ⟨k8,k4,-⟩
     have e22:=Flow.kv k8 rfl rfl
     have e18:=Flow.kv k4 rfl rfl
     refine Flow.gy rfl rfl e18 ?_
     generalize a.eval=ρ at e22 ⊢
     have h0:=Xm2.cell_grow hC hs
     simp [execOp,e22,h0,go_sem]
    refine Flow.oq rfl HST HCG ?_ ?_
    ·rintro L a w hC hLi hoff ⟨k5,k9,k4,-⟩
     have e19:=Flow.kv k5 rfl rfl
     have e23:=Flow.kv k9 rfl rfl
     have e18:=Flow.kv k4 rfl rfl
     exact .inl ⟨Flow.want_yes rfl rfl e18,Flow.run_call (Flow.exec_call rfl Try.func59 (by kernel_rfl) (by kernel_rfl) (by simp only [List.map_toArray,List.map_cons,List.map_nil,e19,e23] <;> rfl)) (HPe.out w (HG.out.trans (HGw2.out.trans hC)))⟩
    refine Flow.oq rfl HST HCG ?_ ?_
    ·rintro L a w hC hLi hoff ⟨k10,k4,-⟩
     have e24:=Flow.kv k10 rfl rfl
     have e18:=Flow.kv k4 rfl rfl
     refine Flow.gy rfl rfl e18 ?_
     generalize a.eval=ρ at e24 ⊢
     simp [execOp,e24,go_sem]
    refine Flow.oq rfl HST HCG ?_ ?_
    ·rintro L a w hC hLi hoff ⟨k4,k11,-⟩
     have e18:=Flow.kv k4 rfl rfl
     have e25:=Flow.kv k11 rfl rfl
     exact Flow.gs rfl (Flow.exec_pick_no rfl e18 e25)
    exact trivial
   case ends4 =>
    intro LL wx hLL hC
    iterate 13 refine Flow.endsG_v rfl ?_
    refine Flow.endsG_nil ?_
    simp only [Act.put,List.setIfInBounds_toArray,List.set_cons_succ,List.set_cons_zero]
    have HGx:=Lib.hid (HG.out.trans (HGw2.out.trans hC))
    clear hC
    cases bb with
    | false =>
     have HF3:Hid (finI ps c 3=false):=Lib.hid (by
      have h1:finI ps c (i+1)=false:=by rw [HFs.out];simp
      have:i=0∨i=1∨i=2:=by omega
      rcases this with rfl | rfl | rfl
      ·rw [finI_succ,finI_succ,h1];simp
      ·rw [finI_succ,h1];simp
      ·exact h1)
     go_wp2_with fail
     go_ret
     exact ⟨by rw [HF3.out];rfl,HGx.out⟩
    | true =>
     go_wp2_with fail
     go_roundw
     case rel=>exact ⟨i+1,by omega,by go_num,by rw [HFs.out,hfi];rfl,HGx⟩
     case measure=>simp [intOf];omega
  ·obtain rfl:i=3:=by omega
   go_wp2_with fail
   go_ret
   exact ⟨by rw [hfi];rfl,HG.out⟩
open As in
set_option maxRecDepth 100000 in
set_option maxHeartbeats 1000000 in
theorem asyncEnds_any (room:Nat) (vp vS vM:Value) (ls:List Pr.Lb) (css:List (List Value)) (ps:List Pr.Pd) (c:Cfg) (W:World) (hP:Pr.PeersAt W vp ls css ps) (hw:Wf ps c) (hlen:∀ j,(c.2.getD j []).length≤100000) (hC:CfgAt W vS vM c) :
  Calls Try.prog 21 #[vp,.agg #[vS,.int .i64 3,.int .i64 (room:Nat),vM]] W fun e w'=>e=.returned (.bool (endsB ps c))∧Flow.Grow W w':=by
 obtain ⟨vs,hbx⟩:=hC.ml
 have HCt:Hid (∀ wq,Flow.Grow W wq→Calls Try.prog 40 #[.agg #[.int .i64 3,.int .i64 (room:Nat),vM]] wq fun e w'=>e=.returned (.int .i64 (cntB c.2 9:Nat))∧Flow.Grow wq w'):=Lib.hid (fun wq g=>mailCount_any room vM vs c.2 wq hw.boxes hlen (hbx.grow g))
 have HJ:Hid (∀ wq,Flow.Grow W wq→Calls Try.prog 41 #[vp,vS] wq fun e w'=>e=.returned (.bool (finI ps c 3))∧Flow.Grow wq w'):=Lib.hid (fun wq g=>jointEnds_any vp vS ls css ps c wq (hP.grow g) hw (hC.st.grow g))
 obtain ⟨sa,sc,mb,mo,mc,rfl,rfl⟩:=hC.form hw.len hw.boxes
 obtain ⟨pb,po,pc,rfl,_,_⟩:=hP.at_
 have HE:Hid (endsB ps c=(finI ps c 3 && cntB c.2 9 == 0)):=Lib.hid rfl
 have hcn:=cntB_le hlen 9
 clear hP hw hlen hC hbx
 generalize endsB ps c=eb at *
 generalize cntB c.2 9=n at *
 generalize finI ps c 3=fb at *
 go_enter Try.func21,Try.ntmps21
 go_upto_region 1 with fail
 have HBw10:Hid ((W.alloc (.cells #[.slice sa 3 sc,.int .i64 3,.int .i64 (room:Nat),.slice (some ⟨mb,mo,none⟩) 9 mc] 43)).heap[W.heap.size]?=some (.cells #[.slice sa 3 sc,.int .i64 3,.int .i64 (room:Nat),.slice (some ⟨mb,mo,none⟩) 9 mc] 43 (0,0))):=Lib.hid (lay1_0 _ _)
 have HGw1:Hid (Flow.Grow W (W.alloc (.cells #[.slice sa 3 sc,.int .i64 3,.int .i64 (room:Nat),.slice (some ⟨mb,mo,none⟩) 9 mc] 43))):=Lib.hid (lay1_g _ _)
 have HSw1:Hid ((W.alloc (.cells #[.slice sa 3 sc,.int .i64 3,.int .i64 (room:Nat),.slice (some ⟨mb,mo,none⟩) 9 mc] 43)).heap.size=W.heap.size+1):=Lib.hid (by simp)
 generalize W.alloc (.cells #[.slice sa 3 sc,.int .i64 3,.int .i64 (room:Nat),.slice (some ⟨mb,mo,none⟩) 9 mc] 43)=w1 at *
 obtain ⟨X,hX⟩:∃ X,X=W.heap.size:=⟨_,rfl⟩
 rw [← hX] at HBw10 HSw1 ⊢
 have HXw1:=Lib.hid hX
 clear hX
 have CXw1:Hid (∀ wq,Flow.Grow w1 wq→wq.cell? ⟨X,0,none⟩=some (.slice sa 3 sc)∧wq.cell? ⟨X,1,none⟩=some (.int .i64 3)∧wq.cell? ⟨X,2,none⟩=some (.int .i64 (room:Nat))∧wq.cell? ⟨X,3,none⟩=some (.slice (some ⟨mb,mo,none⟩) 9 mc)):=Lib.hid (fun wq g=>⟨lay_cell g HBw10.out rfl,lay_cell g HBw10.out rfl,lay_cell g HBw10.out rfl,lay_cell g HBw10.out rfl⟩)
 have FXw1:Hid (∀ wq,Flow.Grow w1 wq→(∀ k,wq.frozen? ⟨X,k,none⟩=false)):=Lib.hid (fun wq g=>fun k=>lay_frozen g HBw10.out k)
 obtain ⟨c00,c01,c02,c03⟩:=CXw1.out w1 (Flow.grow_refl _)
 by_cases hn:n=0
 ·subst hn
  go_wp2_with (first
   | (go_at_call 40;refine (HCt.out _ HGw1.out).mono ?_;rintro e w2 ⟨rfl,hg⟩;have HG2:=Lib.hid hg;clear hg;clear c00 c01 c02 c03;obtain ⟨c00,c01,c02,c03⟩:=CXw1.out w2 (HG2.out))
   | (go_at_call 41;refine (HJ.out _ (HGw1.out.trans HG2.out)).mono ?_;rintro e w3 ⟨rfl,hg⟩;have HG3:=Lib.hid hg;clear hg))
  go_ret
  exact ⟨by rw [HE.out];simp,HGw1.out.trans (HG2.out.trans HG3.out)⟩
 ·have d1:decide ((n:Int)=0)=false:=by simp;omega
  have d2:((n:Int) == 0)=false:=by simp;omega
  go_wp2_with (go_at_call 40;refine (HCt.out _ HGw1.out).mono ?_;rintro e w2 ⟨rfl,hg⟩;have HG2:=Lib.hid hg;clear hg)
  go_ret
  exact ⟨by rw [HE.out];simp [hn],HGw1.out.trans HG2.out⟩
open As in
set_option maxRecDepth 100000 in
set_option maxHeartbeats 1000000 in
theorem refEnds_any (vp vS vB:Value) (ls:List Pr.Lb) (css:List (List Value)) (ps:List Pr.Pd) (c:Cfg) (W:World) (hP:Pr.PeersAt W vp ls css ps) (hw:Wf ps c) (hlen:∀ j,(c.2.getD j []).length≤100000) (hC:CfgAt W vS vB c) :
  Calls Try.prog 23 #[vp,.agg #[vS,vB]] W fun e w'=>e=.returned (.bool (endsB ps c))∧Flow.Grow W w':=by
 obtain ⟨pb,po,pc,rfl,hpb,hpa⟩:=hP.at_
 have HPa:=Lib.hid hpa
 obtain ⟨vs,hR⟩:=hC.ml
 have h3:=hw.len
 have h9:=hw.boxes
 obtain ⟨sb,so,sc,hvs,_,hsc⟩:=Ints.shape hC.st (by intro e;rw [e] at h3;cases h3)
 obtain ⟨mb,mo,mc,hvm,hvl,hvc,_⟩:=hR.cells (by intro e;rw [e] at h9;cases h9)
 subst hvm hvs
 have HBc:Hid (∀ j,j < 9→∃ ba bn bc,W.cell? ⟨mb,mo+j,none⟩=some (.slice ba bn bc)∧bn=(c.2.getD j []).length):=Lib.hid (fun j hj=>by
  obtain ⟨hI,ba,bn,bc,hbe,_⟩:=hR.2 j (by omega)
  have hcx:=hvc j (vs.getD j undef) (by simp [List.getD_eq_getElem?_getD,show j < vs.length by omega])
  rw [hbe] at hI hcx
  refine ⟨ba,bn,bc,hcx,?_⟩
  obtain ⟨a',c',e,_⟩:=hI
  injection e)
 have HSc:=Lib.hid hsc
 have HRg:=Lib.hid hw.rng
 have Hc3:=Lib.hid h3
 have HLn:=Lib.hid hlen
 have HE:Hid (endsB ps c=(finI ps c 3 && cntB c.2 9 == 0)):=Lib.hid rfl
 rw [h3,h9]
 generalize endsB ps c=eb at *
 clear hP hpa hC hsc hw h3 h9 hR hvl hvc hlen
 go_enter Try.func23,Try.ntmps23
 go_upto_region 1 with fail
 have HBw10:Hid ((W.alloc (.cells #[.slice (some ⟨sb,so,none⟩) 3 sc,.slice (some ⟨mb,mo,none⟩) 9 mc] 46)).heap[W.heap.size]?=some (.cells #[.slice (some ⟨sb,so,none⟩) 3 sc,.slice (some ⟨mb,mo,none⟩) 9 mc] 46 (0,0))):=Lib.hid (lay1_0 _ _)
 have HGw1:Hid (Flow.Grow W (W.alloc (.cells #[.slice (some ⟨sb,so,none⟩) 3 sc,.slice (some ⟨mb,mo,none⟩) 9 mc] 46))):=Lib.hid (lay1_g _ _)
 have HSw1:Hid ((W.alloc (.cells #[.slice (some ⟨sb,so,none⟩) 3 sc,.slice (some ⟨mb,mo,none⟩) 9 mc] 46)).heap.size=W.heap.size+1):=Lib.hid (by simp)
 generalize W.alloc (.cells #[.slice (some ⟨sb,so,none⟩) 3 sc,.slice (some ⟨mb,mo,none⟩) 9 mc] 46)=w1 at *
 obtain ⟨X,hX⟩:∃ X,X=W.heap.size:=⟨_,rfl⟩
 rw [← hX] at HBw10 HSw1 ⊢
 have HXw1:=Lib.hid hX
 clear hX
 have CXw1:Hid (∀ wq,Flow.Grow w1 wq→wq.cell? ⟨X,0,none⟩=some (.slice (some ⟨sb,so,none⟩) 3 sc)∧wq.cell? ⟨X,1,none⟩=some (.slice (some ⟨mb,mo,none⟩) 9 mc)):=Lib.hid (fun wq g=>⟨lay_cell g HBw10.out rfl,lay_cell g HBw10.out rfl⟩)
 have FXw1:Hid (∀ wq,Flow.Grow w1 wq→(∀ k,wq.frozen? ⟨X,k,none⟩=false)):=Lib.hid (fun wq g=>fun k=>lay_frozen g HBw10.out k)
 go_wp2_with fail
 go_loopw [5] (fun iv wr=>∃ i:Nat,i≤3∧iv=.int .i64 i∧finI ps c i=true∧Hid (Flow.Grow w1 wr)) (fun iv _=>3 - (intOf iv).toNat)
 case atStart=>exact ⟨0,by omega,rfl,rfl,Lib.hid (Flow.grow_refl _)⟩
 case round =>
  obtain ⟨i,hi3,rfl,hfi,HG⟩:=hrel
  rename World=>wo
  by_cases hi:i < 3
  ·obtain ⟨va,vf,vn,p,hp,f0,f1,f2,f3,f4,f5,f6,f7,f8,f9⟩:=HPa.out i hi
   have hr:=HRg.out i hi
   have hs:=HSc.out i (by rw [Hc3.out];exact hi)
   have HFs:Hid (finI ps c (i+1)=(finI ps c i && p.fin.getD (c.1.getD i 0).toNat false)):=Lib.hid (by rw [finI_succ,hp])
   obtain ⟨s,hse,hsl⟩:∃ s:Nat,c.1.getD i 0=(s:Int)∧s < p.fin.length:=⟨(c.1.getD i 0).toNat,by omega,by rw [f9.fin,hp];omega⟩
   rw [hse] at hs HFs
   obtain ⟨af,cf,rfl,_⟩:=id f7
   obtain ⟨fb,fo,rfl,q0⟩:=bools_at f7 hsl
   simp only [Int.toNat_natCast] at HFs
   have HF4:=Lib.hid f4
   have HQ0:=Lib.hid q0
   have HS0:=Lib.hid hs
   clear f0 f1 f2 f3 f4 f5 f6 f7 f8 f9 hp hr hse q0 hs
   generalize p.fin.getD s false=bb at *
   generalize p.fin.length=F at *
   have hi0:(0:Int)≤(i:Int):=by omega
   have hid:(i:Int) < 3:=by omega
   have hid':decide ((i:Int) < 3)=true:=by simp;omega
   have hs1:(s:Int) < (F:Int):=by omega
   go_upto_region 4 with fail
   refine Flow.regionG (C:=fun _ wq=>Flow.Grow wo wq) (Fs:=[.inl ((.slice (some ⟨pb,po,none⟩) 3 pc)),.inl ((.int .i64 (i:Int))),.inl ((.pointer (some ⟨pb,po+i * 6,none⟩))),.inl ((.pointer (some ⟨pb,po+i * 6+2,none⟩))),.inl ((.pointer (some ⟨pb,po+i * 6+2+2,none⟩))),.inl ((.slice (some ⟨fb,fo,none⟩) F cf)),.inl ((.pointer (some ⟨X,0,none⟩))),.inl ((.slice (some ⟨sb,so,none⟩) 3 sc)),.inl ((.int .i64 (i:Int))),.inl ((.pointer (some ⟨sb,so+i,none⟩))),.inl ((.int .i64 (s:Int))),.inl ((.pointer (some ⟨fb,fo+s,none⟩))),.inl ((.bool bb)),.inl ((.bool (!bb)))])
    [[],[],[0,1],[2],[3],[4],[],[6],[],[7,8],[9],[5,10],[11],[12]] [[],[],[0,1],[0,1,2],[0,1,2,3],[0,1,2,3,4],[],[6],[],[6,7,8],[6,7,8,9],[0,1,2,3,4,5,6,7,8,9,10],[0,1,2,3,4,5,6,7,8,9,10,11],[0,1,2,3,4,5,6,7,8,9,10,11,12]] [13] (by kernel_rfl) (by kernel_rfl) (by kernel_rfl) rfl (Flow.grow_drew _) ?ones4 ?ends4
   case ones4 =>
    refine Flow.OnesG.start (by exact trivial) (fun L w w' i=>(fun _ _ h g=>h.trans g) w w') fun HST HCG=>?_
    refine Flow.oq rfl HST HCG ?_ ?_
    ·intro L a w hC hLi hoff _
     exact Flow.gs rfl (Flow.exec_move (.inl rfl) (hoff.at2 0 0 hLi (by kernel_rfl)))
    refine Flow.oq rfl HST HCG ?_ ?_
    ·intro L a w hC hLi hoff _
     exact Flow.gs rfl (Flow.exec_move (.inl rfl) (hoff.at2 5 1 hLi (by kernel_rfl)))
    refine Flow.oq rfl HST HCG ?_ ?_
    ·rintro L a w hC hLi hoff ⟨k0,k1,-⟩
     have e13:=Flow.kv k0 rfl rfl
     have e14:=Flow.kv k1 rfl rfl
     refine Flow.gs rfl ?_
     generalize a.eval=ρ at e13 e14 ⊢
     simp [execOp,e13,e14,go_sem];intro hh;omega
    refine Flow.oq rfl HST HCG ?_ ?_
    ·rintro L a w hC hLi hoff ⟨k2,-⟩
     have e15:=Flow.kv k2 rfl rfl
     refine Flow.gs rfl ?_
     generalize a.eval=ρ at e15 ⊢
     simp [execOp,e15,go_sem]
    refine Flow.oq rfl HST HCG ?_ ?_
    ·rintro L a w hC hLi hoff ⟨k3,-⟩
     have e16:=Flow.kv k3 rfl rfl
     refine Flow.gs rfl ?_
     generalize a.eval=ρ at e16 ⊢
     simp [execOp,e16,go_sem]
    refine Flow.oq rfl HST HCG ?_ ?_
    ·rintro L a w hC hLi hoff ⟨k4,-⟩
     have e17:=Flow.kv k4 rfl rfl
     refine Flow.gs rfl ?_
     generalize a.eval=ρ at e17 ⊢
     have h0:=Xm2.cell_grow (HGw1.out.trans (HG.out.trans hC)) HF4.out
     simp [execOp,e17,h0,go_sem]
    refine Flow.oq rfl HST HCG ?_ ?_
    ·intro L a w hC hLi hoff _
     have e3:a.eval (.tmp 3)=(.pointer (some ⟨X,0,none⟩)):=hoff.at2 3 6 hLi (by kernel_rfl)
     refine Flow.gs rfl ?_
     generalize a.eval=ρ at e3 ⊢
     simp [execOp,e3,go_sem]
    refine Flow.oq rfl HST HCG ?_ ?_
    ·rintro L a w hC hLi hoff ⟨k6,-⟩
     have e19:=Flow.kv k6 rfl rfl
     refine Flow.gs rfl ?_
     generalize a.eval=ρ at e19 ⊢
     obtain ⟨h0,_⟩:=CXw1.out w (HG.out.trans hC)
     simp [execOp,e19,h0,go_sem]
    refine Flow.oq rfl HST HCG ?_ ?_
    ·intro L a w hC hLi hoff _
     exact Flow.gs rfl (Flow.exec_move (.inl rfl) (hoff.at2 5 8 hLi (by kernel_rfl)))
    refine Flow.oq rfl HST HCG ?_ ?_
    ·rintro L a w hC hLi hoff ⟨k7,k8,-⟩
     have e20:=Flow.kv k7 rfl rfl
     have e21:=Flow.kv k8 rfl rfl
     refine Flow.gs rfl ?_
     generalize a.eval=ρ at e20 e21 ⊢
     simp [execOp,e20,e21,go_sem];intro hh;omega
    refine Flow.oq rfl HST HCG ?_ ?_
    ·rintro L a w hC hLi hoff ⟨k9,-⟩
     have e22:=Flow.kv k9 rfl rfl
     refine Flow.gs rfl ?_
     generalize a.eval=ρ at e22 ⊢
     have h0:=Xm2.cell_grow (HGw1.out.trans (HG.out.trans hC)) HS0.out
     simp [execOp,e22,h0,go_sem]
    refine Flow.oq rfl HST HCG ?_ ?_
    ·rintro L a w hC hLi hoff ⟨k5,k10,-⟩
     have e18:=Flow.kv k5 rfl rfl
     have e23:=Flow.kv k10 rfl rfl
     refine Flow.gs rfl ?_
     generalize a.eval=ρ at e18 e23 ⊢
     simp [execOp,e18,e23,go_sem];intro hh;omega
    refine Flow.oq rfl HST HCG ?_ ?_
    ·rintro L a w hC hLi hoff ⟨k11,-⟩
     have e24:=Flow.kv k11 rfl rfl
     refine Flow.gs rfl ?_
     generalize a.eval=ρ at e24 ⊢
     have h0:=Xm2.cell_grow (HGw1.out.trans (HG.out.trans hC)) HQ0.out
     simp [execOp,e24,h0,go_sem]
    refine Flow.oq rfl HST HCG ?_ ?_
    ·rintro L a w hC hLi hoff ⟨k12,-⟩
     have e25:=Flow.kv k12 rfl rfl
     refine Flow.gs rfl ?_
     generalize a.eval=ρ at e25 ⊢
     simp [execOp,e25,go_sem]
    exact trivial
   case ends4 =>
    intro LL wx hLL hC
    iterate 14 refine Flow.endsG_v rfl ?_
    refine Flow.endsG_nil ?_
    simp only [Act.put,List.setIfInBounds_toArray,List.set_cons_succ,List.set_cons_zero]
    have HGx:=Lib.hid (HG.out.trans hC)
    clear hC
    cases bb with
    | false =>
     have HF3:Hid (finI ps c 3=false):=Lib.hid (by
      have h1:finI ps c (i+1)=false:=by rw [HFs.out];simp
      have:i=0∨i=1∨i=2:=by omega
      rcases this with rfl | rfl | rfl
      ·rw [finI_succ,finI_succ,h1];simp
      ·rw [finI_succ,h1];simp
      ·exact h1)
     go_wp2_with fail
     go_ret
     exact ⟨by rw [HE.out,HF3.out];rfl,HGw1.out.trans HGx.out⟩
    | true =>
     go_wp2_with fail
     go_roundw
     case rel=>exact ⟨i+1,by omega,by go_num,by rw [HFs.out,hfi];rfl,HGx⟩
     case measure=>simp [intOf];omega
  ·obtain rfl:i=3:=by omega
   go_wp2_with fail
   go_loopw [6] (fun iv wr=>∃ j:Nat,j≤9∧iv=.int .i64 j∧(∀ q,q < j→c.2.getD q []=[])∧Hid (Flow.Grow w1 wr)) (fun iv _=>9 - (intOf iv).toNat)
   case atStart=>exact ⟨0,by omega,rfl,fun q hq=>by omega,HG⟩
   case round =>
    clear HG
    obtain ⟨j,hj,rfl,hq,HG⟩:=hrel
    rename World=>wi
    obtain ⟨c00,c01⟩:=CXw1.out wi (HG.out)
    by_cases hj9:j < 9
    ·obtain ⟨ba,bn,bc,hcx,hbn⟩:=HBc.out j hj9
     replace hcx:=Xm2.cell_grow (HGw1.out.trans HG.out) hcx
     have h2:=HLn.out j
     rw [← hbn] at h2
     have Hbn:=Lib.hid hbn
     have Hq:=Lib.hid hq
     clear hq hbn
     have hj0:(0:Int)≤(j:Int):=by omega
     have hjd:(j:Int) < 9:=by omega
     by_cases hb0:bn=0
     ·subst hb0
      go_wp2_with fail
      go_roundw
      case rel=>exact ⟨j+1,by omega,by go_num,fun q hq=>by
       by_cases e:q=j
       ·subst e;exact List.eq_nil_of_length_eq_zero Hbn.out.symm
       ·exact Hq.out q (by omega),HG⟩
      case measure=>simp [intOf];omega
     ·have d1:decide ((bn:Int) > 0)=true:=by simp;omega
      go_wp2_with fail
      go_ret
      refine ⟨?_,HGw1.out.trans HG.out⟩
      have hne:c.2.getD j []≠[]:=fun e=>hb0 (by rw [Hbn.out,e];rfl)
      have:=cntB_pos hj9 hne
      rw [HE.out]
      simp [this]
    ·obtain rfl:j=9:=by omega
     have Hq:=Lib.hid hq
     clear hq
     go_wp2_with fail
     go_ret
     refine ⟨?_,HGw1.out.trans HG.out⟩
     rw [HE.out,hfi,cntB_zero Hq.out]
     rfl
open As in
set_option maxRecDepth 100000 in
set_option maxHeartbeats 1000000 in
theorem refSame_any (vS vB uS uB:Value) (c d:Cfg) (W:World) (h3:c.1.length=3) (h9:c.2.length=9) (k3:d.1.length=3) (k9:d.2.length=9) (hl:∀ j,(c.2.getD j []).length≤100000) (kl:∀ j,(d.2.getD j []).length≤100000) (hC:CfgAt W vS vB c) (hD:CfgAt W uS uB d) :
  Calls Try.prog 42 #[.agg #[vS,vB],.agg #[uS,uB]] W fun e w'=>e=.returned (.bool (decide (c=d)))∧Flow.Grow W w':=by
 have HS:Hid (∀ wq,Flow.Grow W wq→Calls Try.prog 30 #[vS,uS] wq fun e w'=>e=.returned (.bool (decide (c.1=d.1)))∧Flow.Grow wq w'):=Lib.hid (fun wq g=>same18_any vS uS c.1 d.1 wq (by omega) (by omega) (hC.st.grow g) (hD.st.grow g))
 obtain ⟨vs,hv⟩:=hC.ml
 obtain ⟨us,hu⟩:=hD.ml
 have HSm:Hid (∀ j,j < 9→∀ wq,Flow.Grow W wq→Calls Try.prog 30 #[vs.getD j undef,us.getD j undef] wq fun e w'=>∃ v,e=.returned v∧Flow.Grow wq w'∧v=.bool (decide (c.2.getD j []=d.2.getD j []))):=Lib.hid (fun j hj wq g=>by
  refine (same18_any _ _ _ _ wq (by have:=hl j;omega) (by have:=kl j;omega) ((hv.2 j (by omega)).1.grow g) ((hu.2 j (by omega)).1.grow g)).mono ?_
  rintro e w' ⟨rfl,hg⟩
  exact ⟨_,rfl,hg,rfl⟩)
 obtain ⟨sa,sc,hvs,_⟩:=id hC.st
 obtain ⟨ta,tc,hts,_⟩:=id hD.st
 obtain ⟨vb,vo,vc,hvm,hvl,hvc,_⟩:=hv.cells (by intro e;rw [e] at h9;cases h9)
 obtain ⟨ub,uo,uc,hum,hul,huc,_⟩:=hu.cells (by intro e;rw [e] at k9;cases k9)
 have HVc:Hid (∀ j,j < 9→∃ ba bn bc,vs.getD j undef=.slice ba bn bc∧W.cell? ⟨vb,vo+j,none⟩=some (.slice ba bn bc)):=Lib.hid (fun j hj=>by
  obtain ⟨_,ba,bn,bc,hbe,_⟩:=hv.2 j (by omega)
  have hcx:=hvc j (vs.getD j undef) (by simp [List.getD_eq_getElem?_getD,show j < vs.length by omega])
  rw [hbe] at hcx
  exact ⟨ba,bn,bc,hbe,hcx⟩)
 have HUc:Hid (∀ j,j < 9→∃ ba bn bc,us.getD j undef=.slice ba bn bc∧W.cell? ⟨ub,uo+j,none⟩=some (.slice ba bn bc)):=Lib.hid (fun j hj=>by
  obtain ⟨_,ba,bn,bc,hbe,_⟩:=hu.2 j (by omega)
  have hcx:=huc j (us.getD j undef) (by simp [List.getD_eq_getElem?_getD,show j < us.length by omega])
  rw [hbe] at hcx
  exact ⟨ba,bn,bc,hbe,hcx⟩)
 have HEq:Hid (c.1=d.1→(∀ j,j < 9→c.2.getD j []=d.2.getD j [])→c=d):=Lib.hid (fun e1 e2=>Prod.ext e1 (List.ext_getElem (by omega) fun j hj hj'=>by
  have:=e2 j (by omega)
  simpa [List.getD_eq_getElem?_getD,hj,hj'] using this))
 subst hvs hts hvm hum
 rw [h3,k3] at HS
 rw [h3,h9,k3,k9]
 have Hne:Hid (c.1≠d.1→c≠d):=Lib.hid (fun h e=>h (by rw [e]))
 have Hnb:Hid (∀ j,c.2.getD j []≠d.2.getD j []→c≠d):=Lib.hid (fun j h e=>h (by rw [e]))
 clear hv hu hC hD hl kl hul huc hvl hvc h3 h9 k3 k9
 go_enter Try.func42,Try.ntmps42
 go_upto_region 1 with fail
 have HBw10:Hid (((W.alloc (.cells #[.slice sa 3 sc,.slice (some ⟨vb,vo,none⟩) 9 vc] 46)).alloc (.cells #[.slice ta 3 tc,.slice (some ⟨ub,uo,none⟩) 9 uc] 46)).heap[W.heap.size]?=some (.cells #[.slice sa 3 sc,.slice (some ⟨vb,vo,none⟩) 9 vc] 46 (0,0))):=Lib.hid (lay2_0 _ _ _)
 have HBw11:Hid (((W.alloc (.cells #[.slice sa 3 sc,.slice (some ⟨vb,vo,none⟩) 9 vc] 46)).alloc (.cells #[.slice ta 3 tc,.slice (some ⟨ub,uo,none⟩) 9 uc] 46)).heap[W.heap.size+1]?=some (.cells #[.slice ta 3 tc,.slice (some ⟨ub,uo,none⟩) 9 uc] 46 (0,0))):=Lib.hid (lay2_1 _ _ _)
 have HGw1:Hid (Flow.Grow W ((W.alloc (.cells #[.slice sa 3 sc,.slice (some ⟨vb,vo,none⟩) 9 vc] 46)).alloc (.cells #[.slice ta 3 tc,.slice (some ⟨ub,uo,none⟩) 9 uc] 46))):=Lib.hid (lay2_g _ _ _)
 have HSw1:Hid (((W.alloc (.cells #[.slice sa 3 sc,.slice (some ⟨vb,vo,none⟩) 9 vc] 46)).alloc (.cells #[.slice ta 3 tc,.slice (some ⟨ub,uo,none⟩) 9 uc] 46)).heap.size=W.heap.size+1+1):=Lib.hid (by simp)
 generalize (W.alloc (.cells #[.slice sa 3 sc,.slice (some ⟨vb,vo,none⟩) 9 vc] 46)).alloc (.cells #[.slice ta 3 tc,.slice (some ⟨ub,uo,none⟩) 9 uc] 46)=w1 at *
 obtain ⟨X,hX⟩:∃ X,X=W.heap.size:=⟨_,rfl⟩
 rw [← hX] at HBw10 HBw11 HSw1 ⊢
 have HXw1:=Lib.hid hX
 clear hX
 have CXw1:Hid (∀ wq,Flow.Grow w1 wq→wq.cell? ⟨X,0,none⟩=some (.slice sa 3 sc)∧wq.cell? ⟨X,1,none⟩=some (.slice (some ⟨vb,vo,none⟩) 9 vc)∧wq.cell? ⟨X+1,0,none⟩=some (.slice ta 3 tc)∧wq.cell? ⟨X+1,1,none⟩=some (.slice (some ⟨ub,uo,none⟩) 9 uc)):=Lib.hid (fun wq g=>⟨lay_cell g HBw10.out rfl,lay_cell g HBw10.out rfl,lay_cell g HBw11.out rfl,lay_cell g HBw11.out rfl⟩)
 have FXw1:Hid (∀ wq,Flow.Grow w1 wq→(∀ k,wq.frozen? ⟨X,k,none⟩=false)∧(∀ k,wq.frozen? ⟨X+1,k,none⟩=false)):=Lib.hid (fun wq g=>⟨fun k=>lay_frozen g HBw10.out k,fun k=>lay_frozen g HBw11.out k⟩)
 obtain ⟨c00,c01,c10,c11⟩:=CXw1.out w1 (Flow.grow_refl _)
 by_cases hst:c.1=d.1
 ·have HS1:Hid (∀ wq,Flow.Grow W wq→Calls Try.prog 30 #[.slice sa 3 sc,.slice ta 3 tc] wq fun e w'=>e=.returned (.bool true)∧Flow.Grow wq w'):=Lib.hid (fun wq g=>by
   have:=HS.out wq g
   rwa [decide_eq_true hst] at this)
  have Hst:=Lib.hid hst
  clear hst
  go_wp2_with (go_at_call 30;refine (HS1.out _ HGw1.out).mono ?_;rintro e w2 ⟨rfl,hg⟩;have HG2:=Lib.hid hg;clear hg;clear c00 c01 c10 c11;obtain ⟨c00,c01,c10,c11⟩:=CXw1.out w2 (HG2.out))
  clear c00 c01 c10 c11
  go_loopw [5] (fun iv wr=>∃ j:Nat,j≤9∧iv=.int .i64 j∧Hid (∀ q,q < j→c.2.getD q []=d.2.getD q [])∧Hid (Flow.Grow w1 wr)) (fun iv _=>9 - (intOf iv).toNat)
  case atStart=>exact ⟨0,by omega,rfl,Lib.hid (fun q hq=>by omega),HG2⟩
  case round =>
   clear HG2
   obtain ⟨j,hj,rfl,Hq,HG⟩:=hrel
   rename World=>wo
   obtain ⟨c00,c01,c10,c11⟩:=CXw1.out wo (HG.out)
   by_cases hj9:j < 9
   ·obtain ⟨ba,bn,bc,hbe,hcx⟩:=HVc.out j hj9
    obtain ⟨da,dn,dc,hde,hdx⟩:=HUc.out j hj9
    have HCall:=Lib.hid (HSm.out j hj9)
    rw [hbe,hde] at HCall
    have HCx:=Lib.hid hcx
    have HDx:=Lib.hid hdx
    clear hbe hde hcx hdx
    generalize hbb:decide (c.2.getD j []=d.2.getD j [])=bb at *
    have Hbb:=Lib.hid hbb
    clear hbb
    have hj0:(0:Int)≤(j:Int):=by omega
    have hjd:(j:Int) < 9:=by omega
    have hjd':decide ((j:Int) < 9)=true:=by simp;omega
    go_upto_region 6 with fail
    clear c00 c01 c10 c11
    refine Flow.regionG (C:=fun _ wq=>Flow.Grow wo wq) (Fs:=[.inl ((.pointer (some ⟨X,1,none⟩))),.inl ((.slice (some ⟨vb,vo,none⟩) 9 vc)),.inl ((.int .i64 (j:Int))),.inl ((.pointer (some ⟨vb,vo+j,none⟩))),.inl ((.slice ba bn bc)),.inl ((.pointer (some ⟨X+1,1,none⟩))),.inl ((.slice (some ⟨ub,uo,none⟩) 9 uc)),.inl ((.int .i64 (j:Int))),.inl ((.pointer (some ⟨ub,uo+j,none⟩))),.inl ((.slice da dn dc)),.inl ((.bool bb)),.inl ((.bool (!bb)))])
     [[],[0],[],[1,2],[3],[],[5],[],[6,7],[8],[4,9],[10]] [[],[0],[],[0,1,2],[0,1,2,3],[],[5],[],[5,6,7],[5,6,7,8],[0,1,2,3,4,5,6,7,8,9],[0,1,2,3,4,5,6,7,8,9,10]] [11] (by kernel_rfl) (by kernel_rfl) (by kernel_rfl) rfl (Flow.grow_drew _) ?ones6 ?ends6
    case ones6 =>
     refine Flow.OnesG.start (by exact trivial) (fun L w w' i=>(fun _ _ h g=>h.trans g) w w') fun HST HCG=>?_
     refine Flow.oq rfl HST HCG ?_ ?_
     ·intro L a w hC hLi hoff _
      have e2:a.eval (.tmp 2)=(.pointer (some ⟨X,0,none⟩)):=hoff.at2 2 0 hLi (by kernel_rfl)
      refine Flow.gs rfl ?_
      generalize a.eval=ρ at e2 ⊢
      simp [execOp,e2,go_sem]
     refine Flow.oq rfl HST HCG ?_ ?_
     ·rintro L a w hC hLi hoff ⟨k0,-⟩
      have e28:=Flow.kv k0 rfl rfl
      refine Flow.gs rfl ?_
      generalize a.eval=ρ at e28 ⊢
      obtain ⟨_,h0,_⟩:=CXw1.out w (HG.out.trans hC)
      simp [execOp,e28,h0,go_sem]
     refine Flow.oq rfl HST HCG ?_ ?_
     ·intro L a w hC hLi hoff _
      exact Flow.gs rfl (Flow.exec_move (.inl rfl) (hoff.at2 5 2 hLi (by kernel_rfl)))
     refine Flow.oq rfl HST HCG ?_ ?_
     ·rintro L a w hC hLi hoff ⟨k1,k2,-⟩
      have e29:=Flow.kv k1 rfl rfl
      have e30:=Flow.kv k2 rfl rfl
      refine Flow.gs rfl ?_
      generalize a.eval=ρ at e29 e30 ⊢
      simp [execOp,e29,e30,go_sem];intro hh;omega
     refine Flow.oq rfl HST HCG ?_ ?_
     ·rintro L a w hC hLi hoff ⟨k3,-⟩
      have e31:=Flow.kv k3 rfl rfl
      refine Flow.gs rfl ?_
      generalize a.eval=ρ at e31 ⊢
      have h0:=Xm2.cell_grow (HGw1.out.trans (HG.out.trans hC)) HCx.out
      simp [execOp,e31,h0,go_sem]
     refine Flow.oq rfl HST HCG ?_ ?_
     ·intro L a w hC hLi hoff _
      have e3:a.eval (.tmp 3)=(.pointer (some ⟨X+1,0,none⟩)):=hoff.at2 3 5 hLi (by kernel_rfl)
      refine Flow.gs rfl ?_
      generalize a.eval=ρ at e3 ⊢
      simp [execOp,e3,go_sem]
     refine Flow.oq rfl HST HCG ?_ ?_
     ·rintro L a w hC hLi hoff ⟨k5,-⟩
      have e33:=Flow.kv k5 rfl rfl
      refine Flow.gs rfl ?_
      generalize a.eval=ρ at e33 ⊢
      obtain ⟨_,_,_,h0⟩:=CXw1.out w (HG.out.trans hC)
      simp [execOp,e33,h0,go_sem]
     refine Flow.oq rfl HST HCG ?_ ?_
     ·intro L a w hC hLi hoff _
      exact Flow.gs rfl (Flow.exec_move (.inl rfl) (hoff.at2 5 7 hLi (by kernel_rfl)))
     refine Flow.oq rfl HST HCG ?_ ?_
     ·rintro L a w hC hLi hoff ⟨k6,k7,-⟩
      have e34:=Flow.kv k6 rfl rfl
      have e35:=Flow.kv k7 rfl rfl
      refine Flow.gs rfl ?_
      generalize a.eval=ρ at e34 e35 ⊢
      simp [execOp,e34,e35,go_sem];intro hh;omega
     refine Flow.oq rfl HST HCG ?_ ?_
     ·rintro L a w hC hLi hoff ⟨k8,-⟩
      have e36:=Flow.kv k8 rfl rfl
      refine Flow.gs rfl ?_
      generalize a.eval=ρ at e36 ⊢
      have h0:=Xm2.cell_grow (HGw1.out.trans (HG.out.trans hC)) HDx.out
      simp [execOp,e36,h0,go_sem]
     refine Flow.oq rfl HST HCG ?_ ?_
     ·rintro L a w hC hLi hoff ⟨k4,k9,-⟩
      have e32:=Flow.kv k4 rfl rfl
      have e37:=Flow.kv k9 rfl rfl
      exact .inl ⟨Flow.want_none rfl,Flow.run_call (Flow.exec_call rfl Try.func30 (by kernel_rfl) (by kernel_rfl) (by simp only [List.map_toArray,List.map_cons,List.map_nil,e32,e37] <;> rfl)) (HCall.out w (HGw1.out.trans (HG.out.trans hC)))⟩
     refine Flow.oq rfl HST HCG ?_ ?_
     ·rintro L a w hC hLi hoff ⟨k10,-⟩
      have e38:=Flow.kv k10 rfl rfl
      refine Flow.gs rfl ?_
      generalize a.eval=ρ at e38 ⊢
      simp [execOp,e38,go_sem]
     exact trivial
    case ends6 =>
     intro LL wx hLL hC
     iterate 12 refine Flow.endsG_v rfl ?_
     refine Flow.endsG_nil ?_
     simp only [Act.put,List.setIfInBounds_toArray,List.set_cons_succ,List.set_cons_zero]
     have HGx:=Lib.hid (HG.out.trans hC)
     clear hC
     cases bb with
     | false =>
      go_wp2_with fail
      go_ret
      exact ⟨by rw [decide_eq_false (Hnb.out j (of_decide_eq_false Hbb.out))];rfl,HGw1.out.trans HGx.out⟩
     | true =>
      go_wp2_with fail
      go_roundw
      case rel=>exact ⟨j+1,by omega,by go_num,Lib.hid (fun q hq=>by
       by_cases e:q=j
       ·subst e;exact of_decide_eq_true Hbb.out
       ·exact Hq.out q (by omega)),HGx⟩
      case measure=>simp [intOf];omega
   ·obtain rfl:j=9:=by omega
    go_wp2_with fail
    go_ret
    exact ⟨by rw [decide_eq_true (HEq.out Hst.out Hq.out)];rfl,HGw1.out.trans HG.out⟩
 ·have HS1:Hid (∀ wq,Flow.Grow W wq→Calls Try.prog 30 #[.slice sa 3 sc,.slice ta 3 tc] wq fun e w'=>e=.returned (.bool false)∧Flow.Grow wq w'):=Lib.hid (fun wq g=>by
   have:=HS.out wq g
   rwa [decide_eq_false hst] at this)
  go_wp2_with (go_at_call 30;refine (HS1.out _ HGw1.out).mono ?_;rintro e w2 ⟨rfl,hg⟩;have HG2:=Lib.hid hg;clear hg)
  go_ret
  exact ⟨by rw [decide_eq_false (Hne.out hst)];rfl,HGw1.out.trans HG2.out⟩
end Go.Proofs.Ytcpodmjcgfgmnaa
