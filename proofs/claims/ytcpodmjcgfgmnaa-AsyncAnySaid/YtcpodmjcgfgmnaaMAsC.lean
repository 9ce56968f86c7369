/- slices.Equal of ints, slices.EqualFunc of rows, mail.Same, async.Same, galliardref18.Same by their contracts. -/
import Derived.Test.YtcpodmjcgfgmnaaMAsA
import Derived.Test.YtcpodmjcgfgmnaaAsFirst
namespace Go.Proofs.Ytcpodmjcgfgmnaa
open Go.RowKit
set_option maxRecDepth 100000 in
set_option maxHeartbeats 1000000 in
theorem same18_any (v u:Value) (xs ys:List Int) (W:World) (hx:xs.length≤1000000) (hy:ys.length≤1000000) (hv:Ints W v xs) (hu:Ints W u ys) :
  Calls Try.prog 30 #[v,u] W fun e w'=>e=.returned (.bool (decide (xs=ys)))∧Flow.Grow W w':=by
 have HV:=Lib.hid hv
 have HU:=Lib.hid hu
 obtain ⟨a,c,rfl,_⟩:=id hv
 obtain ⟨a',c',rfl,_⟩:=id hu
 clear hv hu
 obtain ⟨n,hn⟩:∃ n,n=xs.length:=⟨_,rfl⟩
 obtain ⟨m,hm⟩:∃ m,m=ys.length:=⟨_,rfl⟩
 have Hn:=Lib.hid hn
 have Hm:=Lib.hid hm
 rw [← hn] at HV hx ⊢
 rw [← hm] at HU hy ⊢
 clear hn hm
 by_cases hl:n=m
 ·subst hl
  have hne:((n:Int) != (n:Int))=false:=by simp
  go_enter Try.func30,Try.ntmps30
  go_wp2_with fail
  go_loopw [5] (fun iv wr=>∃ i:Nat,i≤n∧iv=.int .i64 i∧Hid (xs.take i=ys.take i)∧Hid (Flow.Grow W wr)) (fun iv _=>n - (intOf iv).toNat)
  case atStart=>exact ⟨0,by omega,rfl,Lib.hid rfl,Lib.hid (Flow.grow_refl _)⟩
  case round =>
   obtain ⟨i,hi,rfl,HT,HG⟩:=hrel
   rename World=>wo
   by_cases hin:i < n
   ·have hix:i < xs.length:=by rw [← Hn.out];exact hin
    have hiy:i < ys.length:=by rw [← Hm.out];exact hin
    obtain ⟨b,o,rfl,x0⟩:=ints_at (HV.out.grow HG.out) (j:=i) hix
    obtain ⟨b',o',rfl,y0⟩:=ints_at (HU.out.grow HG.out) (j:=i) hiy
    have HX:=Lib.hid (show xs.take (i+1)=xs.take i++[xs.getD i 0] by rw [List.take_add_one,List.getD_eq_getElem?_getD,List.getElem?_eq_getElem hix];rfl)
    have HY:=Lib.hid (show ys.take (i+1)=ys.take i++[ys.getD i 0] by rw [List.take_add_one,List.getD_eq_getElem?_getD,List.getElem?_eq_getElem hiy];rfl)
    have HXY:Hid (xs=ys→xs.getD i 0=ys.getD i 0):=Lib.hid (fun e=>by rw [e])
    generalize xs.getD i 0=x at *
    generalize ys.getD i 0=y at *
    clear hix hiy
    go_upto_region 6 with fail
    by_cases hxy:x=y
    ·subst hxy
     have h1:(x != x)=false:=by simp
     go_quiet (fail)
     have HGq:Hid (Flow.Grow wo (wo.drewN nq)):=Lib.hid (Flow.grow_drewN _ _)
     generalize wo.drewN nq=w3 at *
     go_wp2_with fail
     go_roundw
     case rel=>exact ⟨i+1,by omega,by go_num,Lib.hid (by rw [HX.out,HY.out,HT.out]),Lib.hid (HG.out.trans HGq.out)⟩
     case measure=>simp [intOf];omega
    ·have h1:(x != y)=true:=by simpa using hxy
     have HN:Hid (decide (xs=ys)=false):=Lib.hid (decide_eq_false (fun e=>hxy (HXY.out e)))
     clear HXY hxy
     go_quiet (fail)
     have HGq:Hid (Flow.Grow wo (wo.drewN nq)):=Lib.hid (Flow.grow_drewN _ _)
     generalize wo.drewN nq=w3 at *
     go_wp2_with fail
     go_ret
     exact ⟨by rw [HN.out];rfl,HG.out.trans HGq.out⟩
   ·obtain rfl:n=i:=by omega
    have HE:Hid (decide (xs=ys)=true):=Lib.hid (decide_eq_true (by
     have:=HT.out
     rw [show n=xs.length from Hn.out] at this
     rw [List.take_length,show xs.length=ys.length by rw [← Hn.out,Hm.out],List.take_length] at this
     exact this))
    go_wp2_with fail
    go_ret
    exact ⟨by rw [HE.out];rfl,HG.out⟩
 ·have hne:((n:Int) != (m:Int))=true:=by simp;omega
  have HN:Hid (decide (xs=ys)=false):=Lib.hid (decide_eq_false (fun e=>hl (by rw [Hn.out,Hm.out,e])))
  go_enter Try.func30,Try.ntmps30
  go_wp2_with fail
  go_ret
  exact ⟨by rw [HN.out];rfl,Flow.grow_refl _⟩
end Go.Proofs.Ytcpodmjcgfgmnaa
namespace Go.Proofs.Ytcpodmjcgfgmnaa
open Go.RowKit
open As in
set_option maxRecDepth 100000 in
set_option maxHeartbeats 2000000 in
theorem alike_any (room:Nat) (vS vM uS uM:Value) (c:Cfg) (W:World) (h9:c.2.length=9) (h3:c.1.length=3) (hlen:∀ j,(c.2.getD j []).length≤100000) (hc:CfgAt W vS vM c) (hd:CfgAt W uS uM c) :
  Calls Try.prog 14 #[.agg #[vS,.int .i64 3,.int .i64 (room:Nat),vM],.agg #[uS,uM],.int .i64 3] W fun e w'=>e=.returned (.bool true)∧Flow.Grow W w':=by
 have HS:Hid (∀ wq,Flow.Grow W wq→Calls Try.prog 30 #[vS,uS] wq fun e w'=>e=.returned (.bool true)∧Flow.Grow wq w'):=Lib.hid (fun wq g=>by
  have h:=same18_any vS uS c.1 c.1 wq (by omega) (by omega) (hc.st.grow g) (hd.st.grow g)
  rwa [decide_eq_true rfl] at h)
 obtain ⟨vs,hv⟩:=hc.ml
 obtain ⟨us,hu⟩:=hd.ml
 have HBx:Hid (∀ (i k:Nat),i < 3→k < 3→∀ wq,Flow.Grow W wq→Calls Try.prog 31 #[.agg #[.int .i64 3,.int .i64 (room:Nat),vM],.int .i64 i,.int .i64 k] wq fun e w'=>∃ v,e=.returned v∧Flow.Grow wq w'∧Ints w' v (c.2.getD (i * 3+k) [])):=Lib.hid (fun i k hi hk wq g=>by
  refine (mailBox_any (room:Nat) i k vM vs c.2 wq h9 hi hk (hv.grow g) (hlen _)).mono ?_
  rintro e w' ⟨⟨v',rfl,ho⟩,hg⟩
  exact ⟨_,rfl,hg,ho⟩)
 have HSm:Hid (∀ (bx:Nat) (v u:Value) wq,Ints wq v (c.2.getD bx [])→Ints wq u (c.2.getD bx [])→Calls Try.prog 30 #[v,u] wq fun e w'=>∃ v,e=.returned v∧Flow.Grow wq w'∧v=.bool true):=Lib.hid (fun bx v u wq h1 h2=>by
  have h:=same18_any v u _ _ wq (by have:=hlen bx;omega) (by have:=hlen bx;omega) h1 h2
  rw [decide_eq_true rfl] at h
  refine h.mono ?_
  rintro e w' ⟨rfl,hg⟩
  exact ⟨_,rfl,hg,rfl⟩)
 obtain ⟨sa,sc,hvs,_⟩:=id hc.st
 obtain ⟨ta,tc,hts,_⟩:=id hd.st
 obtain ⟨vb,vo,vc,hvm,_,_,_⟩:=hv.cells (by intro e;rw [e] at h9;cases h9)
 obtain ⟨ub,uo,uc,hum,hul,huc,_⟩:=hu.cells (by intro e;rw [e] at h9;cases h9)
 have HUc:Hid (∀ bx,bx < 9→∃ ba bn bc,W.cell? ⟨ub,uo+bx,none⟩=some (.slice ba bn bc)∧Ints W (.slice ba bn bc) (c.2.getD bx [])):=Lib.hid (fun bx hb=>by
  obtain ⟨hI,ba,bn,bc,hbe,_⟩:=hu.2 bx (by omega)
  have hcx:=huc bx (us.getD bx undef) (by simp [List.getD_eq_getElem?_getD,show bx < us.length by omega])
  rw [hbe] at hI hcx
  exact ⟨ba,bn,bc,hcx,hI⟩)
 subst hvs hts hvm hum
 rw [h9] at HBx
 rw [h3] at HS
 rw [h9,h3]
 clear hv hu hc hd hlen hul huc
 go_enter Try.func14,Try.ntmps14
 go_upto_region 1 with fail
 have HBw10:Hid (((W.alloc (.cells #[.slice sa 3 sc,.int .i64 3,.int .i64 (room:Nat),.slice (some ⟨vb,vo,none⟩) 9 vc] 43)).alloc (.cells #[.slice ta 3 tc,.slice (some ⟨ub,uo,none⟩) 9 uc] 46)).heap[W.heap.size]?=some (.cells #[.slice sa 3 sc,.int .i64 3,.int .i64 (room:Nat),.slice (some ⟨vb,vo,none⟩) 9 vc] 43 (0,0))):=Lib.hid (lay2_0 _ _ _)
 have HBw11:Hid (((W.alloc (.cells #[.slice sa 3 sc,.int .i64 3,.int .i64 (room:Nat),.slice (some ⟨vb,vo,none⟩) 9 vc] 43)).alloc (.cells #[.slice ta 3 tc,.slice (some ⟨ub,uo,none⟩) 9 uc] 46)).heap[W.heap.size+1]?=some (.cells #[.slice ta 3 tc,.slice (some ⟨ub,uo,none⟩) 9 uc] 46 (0,0))):=Lib.hid (lay2_1 _ _ _)
 have HGw1:Hid (Flow.Grow W ((W.alloc (.cells #[.slice sa 3 sc,.int .i64 3,.int .i64 (room:Nat),.slice (some ⟨vb,vo,none⟩) 9 vc] 43)).alloc (.cells #[.slice ta 3 tc,.slice (some ⟨ub,uo,none⟩) 9 uc] 46))):=Lib.hid (lay2_g _ _ _)
 have HSw1:Hid (((W.alloc (.cells #[.slice sa 3 sc,.int .i64 3,.int .i64 (room:Nat),.slice (some ⟨vb,vo,none⟩) 9 vc] 43)).alloc (.cells #[.slice ta 3 tc,.slice (some ⟨ub,uo,none⟩) 9 uc] 46)).heap.size=W.heap.size+1+1):=Lib.hid (by simp)
 generalize (W.alloc (.cells #[.slice sa 3 sc,.int .i64 3,.int .i64 (room:Nat),.slice (some ⟨vb,vo,none⟩) 9 vc] 43)).alloc (.cells #[.slice ta 3 tc,.slice (some ⟨ub,uo,none⟩) 9 uc] 46)=w1 at *
 obtain ⟨X,hX⟩:∃ X,X=W.heap.size:=⟨_,rfl⟩
 rw [← hX] at HBw10 HBw11 HSw1 ⊢
 have HXw1:=Lib.hid hX
 clear hX
 have CXw1:Hid (∀ wq,Flow.Grow w1 wq→wq.cell? ⟨X,0,none⟩=some (.slice sa 3 sc)∧wq.cell? ⟨X,1,none⟩=some (.int .i64 3)∧wq.cell? ⟨X,2,none⟩=some (.int .i64 (room:Nat))∧wq.cell? ⟨X,3,none⟩=some (.slice (some ⟨vb,vo,none⟩) 9 vc)∧wq.cell? ⟨X+1,0,none⟩=some (.slice ta 3 tc)∧wq.cell? ⟨X+1,1,none⟩=some (.slice (some ⟨ub,uo,none⟩) 9 uc)):=Lib.hid (fun wq g=>⟨lay_cell g HBw10.out rfl,lay_cell g HBw10.out rfl,lay_cell g HBw10.out rfl,lay_cell g HBw10.out rfl,lay_cell g HBw11.out rfl,lay_cell g HBw11.out rfl⟩)
 have FXw1:Hid (∀ wq,Flow.Grow w1 wq→(∀ k,wq.frozen? ⟨X,k,none⟩=false)∧(∀ k,wq.frozen? ⟨X+1,k,none⟩=false)):=Lib.hid (fun wq g=>⟨fun k=>lay_frozen g HBw10.out k,fun k=>lay_frozen g HBw11.out k⟩)
 obtain ⟨c00,c01,c02,c03,c10,c11⟩:=CXw1.out w1 (Flow.grow_refl _)
 go_wp2_with (go_at_call 30;refine (HS.out _ HGw1.out).mono ?_;rintro e w2 ⟨rfl,hg⟩;have HG2:=Lib.hid hg;clear hg)
 clear c00 c01 c02 c03 c10 c11
 go_loopw [7] (fun iv wr=>∃ i:Nat,i≤3∧iv=.int .i64 i∧Hid (Flow.Grow w1 wr)) (fun iv _=>3 - (intOf iv).toNat)
 case atStart=>exact ⟨0,by omega,rfl,HG2⟩
 case round =>
  clear HG2
  obtain ⟨i,hi3,rfl,HG⟩:=hrel
  rename World=>wo
  by_cases hi:i < 3
  ·have hid:decide ((i:Int) < 3)=true:=by simp;omega
   go_wp2_with fail
   go_loopw [8] (fun kv wr=>∃ k:Nat,k≤3∧kv=.int .i64 k∧Hid (Flow.Grow w1 wr)) (fun kv _=>3 - (intOf kv).toNat)
   case atStart=>exact ⟨0,by omega,rfl,HG⟩
   case round =>
    clear HG
    obtain ⟨k,hk3,rfl,HG⟩:=hrel
    rename World=>wi
    by_cases hk:k < 3
    ·have hkd:decide ((k:Int) < 3)=true:=by simp;omega
     have m1:IntKind.i64.wrap ((i:Int) * 3)=(i:Int) * 3:=IntWalk.i64_in _ (by omega)
     have m2:IntKind.i64.wrap ((i:Int) * 3+(k:Int))=(i:Int) * 3+(k:Int):=IntWalk.i64_in _ (by omega)
     have hbx:i * 3+k < 9:=by omega
     obtain ⟨ba,bn,bc,hcx,hI⟩:=HUc.out (i * 3+k) hbx
     have HCx:=Lib.hid hcx
     have HI:=Lib.hid hI
     clear hcx hI
     have hn1:((i:Int) * 3+(k:Int)).toNat=i * 3+k:=by omega
     have hn2:(0:Int)≤(i:Int) * 3+(k:Int):=by omega
     have hn3:(i:Int) * 3+(k:Int) < 9:=by omega
     go_upto_region 9 with fail
     refine Flow.regionG (C:=fun _ wq=>Flow.Grow wi wq) (Fs:=[.inl ((.pointer (some ⟨X,1,none⟩))),.inl ((.agg #[.int .i64 3,.int .i64 (room:Nat),.slice (some ⟨vb,vo,none⟩) 9 vc])),.inl ((.int .i64 (i:Int))),.inl ((.int .i64 (k:Int))),.inr (fun v w=>Ints w v (c.2.getD (i * 3+k) [])),.inl ((.pointer (some ⟨X+1,1,none⟩))),.inl ((.slice (some ⟨ub,uo,none⟩) 9 uc)),.inl ((.int .i64 (i:Int))),.inl ((.int .i64 3)),.inl ((.int .i64 ((i:Int) * 3))),.inl ((.int .i64 (k:Int))),.inl ((.int .i64 ((i:Int) * 3+(k:Int)))),.inl ((.pointer (some ⟨ub,uo+(i * 3+k),none⟩))),.inl ((.slice ba bn bc)),.inl ((.bool true)),.inl ((.bool false))])
      [[],[0],[],[],[1,2,3],[],[5],[],[],[7,8],[],[9,10],[6,11],[12],[4,13],[14]] [[],[0],[],[],[0,1,2,3],[],[5],[],[],[7,8],[],[7,8,9,10],[5,6,7,8,9,10,11],[5,6,7,8,9,10,11,12],[0,1,2,3,4,5,6,7,8,9,10,11,12,13],[0,1,2,3,4,5,6,7,8,9,10,11,12,13,14]] [15] (by kernel_rfl) (by kernel_rfl) (by kernel_rfl) rfl (Flow.grow_drew _) ?ones9 ?ends9
     case ones9 =>
      refine Flow.OnesG.start (by exact ⟨fun _ _ _ g h=>h.grow g,trivial⟩) (fun L w w' i=>(fun _ _ h g=>h.trans g) w w') fun HST HCG=>?_
      refine Flow.oq rfl HST HCG ?_ ?_
      ·intro L a w hC hLi hoff _
       have e3:a.eval (.tmp 3)=(.pointer (some ⟨X,0,none⟩)):=hoff.at2 3 0 hLi (by kernel_rfl)
       refine Flow.gs rfl ?_
       generalize a.eval=ρ at e3 ⊢
       simp [execOp,e3,go_sem]
      refine Flow.oq rfl HST HCG ?_ ?_
      ·rintro L a w hC hLi hoff ⟨k0,-⟩
       have e25:=Flow.kv k0 rfl rfl
       refine Flow.gs rfl ?_
       generalize a.eval=ρ at e25 ⊢
       obtain ⟨_,h1,h2,h3,_⟩:=CXw1.out w (HG.out.trans hC)
       simp [execOp,e25,h1,h2,h3,go_sem]
      refine Flow.oq rfl HST HCG ?_ ?_
      ·intro L a w hC hLi hoff _
       exact Flow.gs rfl (Flow.exec_move (.inl rfl) (hoff.at2 7 2 hLi (by kernel_rfl)))
      refine Flow.oq rfl HST HCG ?_ ?_
      ·intro L a w hC hLi hoff _
       exact Flow.gs rfl (Flow.exec_move (.inl rfl) (hoff.at2 8 3 hLi (by kernel_rfl)))
      refine Flow.oq rfl HST HCG ?_ ?_
      ·rintro L a w hC hLi hoff ⟨k1,k2,k3,-⟩
       have e26:=Flow.kv k1 rfl rfl
       have e27:=Flow.kv k2 rfl rfl
       have e28:=Flow.kv k3 rfl rfl
       exact .inl ⟨Flow.want_none rfl,Flow.run_call (Flow.exec_call rfl Try.func31 (by kernel_rfl) (by kernel_rfl) (by simp only [List.map_toArray,List.map_cons,List.map_nil,e26,e27,e28] <;> rfl)) (HBx.out i k hi hk w (HGw1.out.trans (HG.out.trans hC)))⟩
      refine Flow.oq rfl HST HCG ?_ ?_
      ·intro L a w hC hLi hoff _
       have e4:a.eval (.tmp 4)=(.pointer (some ⟨X+1,0,none⟩)):=hoff.at2 4 5 hLi (by kernel_rfl)
       refine Flow.gs rfl ?_
       generalize a.eval=ρ at e4 ⊢
       simp [execOp,e4,go_sem]
      refine Flow.oq rfl HST HCG ?_ ?_
      ·rintro L a w hC hLi hoff ⟨k5,-⟩
       have e30:=Flow.kv k5 rfl rfl
       refine Flow.gs rfl ?_
       generalize a.eval=ρ at e30 ⊢
       obtain ⟨_,_,_,_,_,h5⟩:=CXw1.out w (HG.out.trans hC)
       simp [execOp,e30,h5,go_sem]
      refine Flow.oq rfl HST HCG ?_ ?_
      ·intro L a w hC hLi hoff _
       exact Flow.gs rfl (Flow.exec_move (.inl rfl) (hoff.at2 7 7 hLi (by kernel_rfl)))
      refine Flow.oq rfl HST HCG ?_ ?_
      ·intro L a w hC hLi hoff _
       exact Flow.gs rfl (Flow.exec_move (.inl rfl) (hoff.at2 2 8 hLi (by kernel_rfl)))
      refine Flow.oq rfl HST HCG ?_ ?_
      ·rintro L a w hC hLi hoff ⟨k7,k8,-⟩
       have e32:=Flow.kv k7 rfl rfl
       have e33:=Flow.kv k8 rfl rfl
       refine Flow.gs rfl ?_
       generalize a.eval=ρ at e32 e33 ⊢
       simp [execOp,e32,e33,m1,go_sem]
      refine Flow.oq rfl HST HCG ?_ ?_
      ·intro L a w hC hLi hoff _
       exact Flow.gs rfl (Flow.exec_move (.inl rfl) (hoff.at2 8 10 hLi (by kernel_rfl)))
      refine Flow.oq rfl HST HCG ?_ ?_
      ·rintro L a w hC hLi hoff ⟨k9,k10,-⟩
       have e34:=Flow.kv k9 rfl rfl
       have e35:=Flow.kv k10 rfl rfl
       refine Flow.gs rfl ?_
       generalize a.eval=ρ at e34 e35 ⊢
       simp [execOp,e34,e35,m2,go_sem]
      refine Flow.oq rfl HST HCG ?_ ?_
      ·rintro L a w hC hLi hoff ⟨k6,k11,-⟩
       have e31:=Flow.kv k6 rfl rfl
       have e36:=Flow.kv k11 rfl rfl
       refine Flow.gs rfl ?_
       generalize a.eval=ρ at e31 e36 ⊢
       simp [execOp,e31,e36,hn1,hn2,hn3,go_sem]
      refine Flow.oq rfl HST HCG ?_ ?_
      ·rintro L a w hC hLi hoff ⟨k12,-⟩
       have e37:=Flow.kv k12 rfl rfl
       refine Flow.gs rfl ?_
       generalize a.eval=ρ at e37 ⊢
       have h0:=Xm2.cell_grow (HGw1.out.trans (HG.out.trans hC)) HCx.out
       simp [execOp,e37,h0,go_sem]
      refine Flow.oq rfl HST HCG ?_ ?_
      ·rintro L a w hC hLi hoff ⟨k4,k13,-⟩
       have e29:=Flow.kr k4 rfl rfl
       have e38:=Flow.kv k13 rfl rfl
       exact .inl ⟨Flow.want_none rfl,Flow.run_call (Flow.exec_call rfl Try.func30 (by kernel_rfl) (by kernel_rfl) (by simp only [List.map_toArray,List.map_cons,List.map_nil,e38] <;> rfl)) (HSm.out (i * 3+k) _ _ w e29 (HI.out.grow (HGw1.out.trans (HG.out.trans hC))))⟩
      refine Flow.oq rfl HST HCG ?_ ?_
      ·rintro L a w hC hLi hoff ⟨k14,-⟩
       have e39:=Flow.kv k14 rfl rfl
       refine Flow.gs rfl ?_
       generalize a.eval=ρ at e39 ⊢
       simp [execOp,e39,go_sem]
      exact trivial
     case ends9 =>
      intro LL wx hLL hC
      iterate 4 refine Flow.endsG_v rfl ?_
      refine Flow.endsG_r rfl fun v29 _=>?_
      iterate 11 refine Flow.endsG_v rfl ?_
      refine Flow.endsG_nil ?_
      simp only [Act.put,List.setIfInBounds_toArray,List.set_cons_succ,List.set_cons_zero]
      have HGx:=Lib.hid (HG.out.trans hC)
      clear hC
      go_wp2_with fail
      go_roundw
      case rel=>exact ⟨k+1,by omega,by go_num,HGx⟩
      case measure=>simp [intOf];omega
    ·obtain rfl:k=3:=by omega
     go_wp2_with fail
     go_roundw
     case rel=>exact ⟨i+1,by omega,by go_num,HG⟩
     case measure=>simp [intOf];omega
  ·obtain rfl:i=3:=by omega
   go_wp2_with fail
   go_ret
   exact ⟨rfl,HGw1.out.trans HG.out⟩
end Go.Proofs.Ytcpodmjcgfgmnaa
