/- slices.Equal of ints, slices.EqualFunc of rows, mail.Same, async.Same, galliardref18.Same by their contracts. -/
import Derived.Test.YtcpodmjcgfgmnaaMAsA
import Derived.Test.YtcpodmjcgfgmnaaMAsB
namespace Go.Proofs.Ytcpodmjcgfgmnaa
open Go.RowKit
theorem equal_ints (v u:Value) (xs ys:List Int) (W:World) (hx:xs.length≤1000000) (hy:ys.length≤1000000) (hv:Ints W v xs) (hu:Ints W u ys) :
  Calls Try.prog 32 #[v,u] W fun e w'=>e=.returned (.bool (decide (xs=ys)))∧∃ q,w'=W.drewN q:=by
 obtain ⟨a,c,rfl,_⟩:=id hv
 obtain ⟨a',c',rfl,_⟩:=id hu
 by_cases hl:xs.length=ys.length
 ·by_cases h0:xs=[]
  ·subst h0
   have hy0:ys=[]:=List.eq_nil_of_length_eq_zero hl.symm
   subst hy0
   refine (Try.slices_Equal_int_empty a a' c 0 c' W (by decide)).mono ?_
   rintro e w' ⟨rfl,rfl⟩
   exact ⟨rfl,0,rfl⟩
  ·obtain ⟨b1,o1,c1,e1,_,h1⟩:=hv.shape h0
   obtain ⟨b2,o2,c2,e2,_,h2⟩:=hu.shape (by intro e; rw [e] at hl; exact h0 (List.eq_nil_of_length_eq_zero hl))
   cases e1
   cases e2
   refine (Try.slices_Equal_int b1 o1 xs.length c b2 o2 ys.length c' xs ys W (Nat.le_refl _) (Nat.le_refl _) (by omega) (by omega) h1 h2).mono ?_
   rintro e w' ⟨rfl,hq⟩
   refine ⟨?_,hq⟩
   rw [List.take_length,List.take_length]
   congr 2
   by_cases e:xs=ys <;> simp [e]
 ·refine (Try.slices_Equal_int_lens a a' xs.length c ys.length c' W hl).mono ?_
  rintro e w' ⟨rfl,rfl⟩
  refine ⟨?_,0,rfl⟩
  rw [decide_eq_false (fun e=>hl (by rw [e]))]
set_option maxRecDepth 100000 in
set_option maxHeartbeats 1000000 in
theorem same18_any (v u:Value) (xs ys:List Int) (W:World) (hx:xs.length≤1000000) (hy:ys.length≤1000000) (hv:Ints W v xs) (hu:Ints W u ys) :
  Calls Try.prog 30 #[v,u] W fun e w'=>e=.returned (.bool (decide (xs=ys)))∧Flow.Grow W w':=by
 have HV:=Lib.hid hv
 have HU:=Lib.hid hu
 obtain ⟨a,c,rfl,_⟩:=id hv
 obtain ⟨a',c',rfl,_⟩:=id hu
 clear hv hu
 obtain ⟨n,hn⟩:∃ n,n=xs.length:=⟨_,rfl⟩
 obtain ⟨m,hm⟩:∃ m,m=ys.length:=⟨_,rfl⟩
 have Hn:=Lib.hid hn
 have Hm:=Lib.hid hm
 rw [← hn] at HV hx ⊢
 rw [← hm] at HU hy ⊢
 clear hn hm
 by_cases hl:n=m
 ·subst hl
  have hne:((n:Int) != (n:Int))=false:=by simp
  go_enter Try.func30,Try.ntmps30
  go_wp2_with fail
  go_loopw [5] (fun iv wr=>∃ i:Nat,i≤n∧iv=.int .i64 i∧Hid (xs.take i=ys.take i)∧Hid (Flow.Grow W wr)) (fun iv _=>n - (intOf iv).toNat)
  case atStart=>exact ⟨0,by omega,rfl,Lib.hid rfl,Lib.hid (Flow.grow_refl _)⟩
  case round =>
   obtain ⟨i,hi,rfl,HT,HG⟩:=hrel
   rename World=>wo
   by_cases hin:i < n
   ·have hix:i < xs.length:=by rw [← Hn.out]; exact hin
    have hiy:i < ys.length:=by rw [← Hm.out]; exact hin
    obtain ⟨b,o,rfl,x0⟩:=ints_at (HV.out.grow HG.out) (j:=i) hix
    obtain ⟨b',o',rfl,y0⟩:=ints_at (HU.out.grow HG.out) (j:=i) hiy
    have HX:=Lib.hid (show xs.take (i+1)=xs.take i++[xs.getD i 0] by rw [List.take_add_one,List.getD_eq_getElem?_getD,List.getElem?_eq_getElem hix]; rfl)
    have HY:=Lib.hid (show ys.take (i+1)=ys.take i++[ys.getD i 0] by rw [List.take_add_one,List.getD_eq_getElem?_getD,List.getElem?_eq_getElem hiy]; rfl)
    have HXY:Hid (xs=ys→xs.getD i 0=ys.getD i 0):=Lib.hid (fun e=>by rw [e])
    generalize xs.getD i 0=x at *
    generalize ys.getD i 0=y at *
    clear hix hiy
    go_upto_region 6 with fail
    by_cases hxy:x=y
    ·subst hxy
     have h1:(x != x)=false:=by simp
     go_quiet (fail)
     have HGq:Hid (Flow.Grow wo (wo.drewN nq)):=Lib.hid (Flow.grow_drewN _ _)
     generalize wo.drewN nq=w3 at *
     go_wp2_with fail
     go_roundw
     case rel=>exact ⟨i+1,by omega,by go_num,Lib.hid (by rw [HX.out,HY.out,HT.out]),Lib.hid (HG.out.trans HGq.out)⟩
     case measure=>simp [intOf]; omega
    ·have h1:(x != y)=true:=by simpa using hxy
     have HN:Hid (decide (xs=ys)=false):=Lib.hid (decide_eq_false (fun e=>hxy (HXY.out e)))
     clear HXY hxy
     go_quiet (fail)
     have HGq:Hid (Flow.Grow wo (wo.drewN nq)):=Lib.hid (Flow.grow_drewN _ _)
     generalize wo.drewN nq=w3 at *
     go_wp2_with fail
     go_ret
     exact ⟨by rw [HN.out]; rfl,HG.out.trans HGq.out⟩
   ·obtain rfl:n=i:=by omega
    have HE:Hid (decide (xs=ys)=true):=Lib.hid (decide_eq_true (by
     have:=HT.out
     rw [show n=xs.length from Hn.out] at this
     rw [List.take_length,show xs.length=ys.length by rw [← Hn.out,Hm.out],List.take_length] at this
     exact this))
    go_wp2_with fail
    go_ret
    exact ⟨by rw [HE.out]; rfl,HG.out⟩
 ·have hne:((n:Int) != (m:Int))=true:=by simp; omega
  have HN:Hid (decide (xs=ys)=false):=Lib.hid (decide_eq_false (fun e=>hl (by rw [Hn.out,Hm.out,e])))
  go_enter Try.func30,Try.ntmps30
  go_wp2_with fail
  go_ret
  exact ⟨by rw [HN.out]; rfl,Flow.grow_refl _⟩
set_option maxRecDepth 100000 in
set_option maxHeartbeats 1000000 in
theorem equalFunc_rows (v u:Value) (b1 b2:List (List Int)) (vs us:List Value) (W:World) (hx:b1.length≤1000000) (hxr:∀ j,(b1.getD j []).length≤1000000) (hyr:∀ j,(b2.getD j []).length≤1000000) (hl:b1.length=b2.length) (hne:b1≠[]) (hv:BoxAt W v vs b1) (hu:BoxAt W u us b2) :
  Calls Try.prog 47 #[v,u,.func (.func 32) #[] #[]] W fun e w'=>e=.returned (.bool (decide (b1=b2)))∧Flow.Grow W w':=by
 have HV:=Lib.hid hv
 have HU:=Lib.hid hu
 have HXr:=Lib.hid hxr
 have HYr:=Lib.hid hyr
 obtain ⟨vb,vo,vc,rfl,hvl,hvc,_⟩:=hv.cells hne
 obtain ⟨ub,uo,uc,rfl,hul,huc,_⟩:=hu.cells (by intro e; rw [e] at hl; exact hne (List.eq_nil_of_length_eq_zero hl))
 have HCv:Hid (∀ j,j < b1.length→W.cell? ⟨vb,vo+j,none⟩=some (vs.getD j undef)):=Lib.hid (fun j hj=>hvc j _ (by simp [List.getD_eq_getElem?_getD,show j < vs.length by omega]))
 have HCu:Hid (∀ j,j < b1.length→W.cell? ⟨ub,uo+j,none⟩=some (us.getD j undef)):=Lib.hid (fun j hj=>huc j _ (by simp [List.getD_eq_getElem?_getD,show j < us.length by omega]))
 clear hv hu hxr hyr hvl hvc hul huc hne
 obtain ⟨n,hn⟩:∃ n,n=b1.length:=⟨_,rfl⟩
 have Hn:=Lib.hid hn
 have Hm:=Lib.hid (hn.trans hl)
 rw [← hl,← hn]
 rw [← hn] at hx
 clear hn hl
 have hne:((n:Int) != (n:Int))=false:=by simp
 go_enter Try.func47,Try.ntmps47
 go_wp2_with fail
 go_loopw [17] (fun iv wr=>∃ i:Nat,i≤n∧iv=.int .i64 i∧Hid (b1.take i=b2.take i)∧Hid (Flow.Grow W wr)) (fun iv _=>n - (intOf iv).toNat)
 case atStart=>exact ⟨0,by omega,rfl,Lib.hid rfl,Lib.hid (Flow.grow_refl _)⟩
 case round =>
  obtain ⟨i,hi,rfl,HT,HG⟩:=hrel
  rename World=>wo
  by_cases hin:i < n
  ·have hix:i < b1.length:=by rw [← Hn.out]; exact hin
   have hiy:i < b2.length:=by rw [← Hm.out]; exact hin
   have x0:=Xm2.cell_grow HG.out (HCv.out i hix)
   have y0:=Xm2.cell_grow HG.out (HCu.out i hix)
   have HEq:Hid (∀ wq,Flow.Grow W wq→Calls Try.prog 32 #[vs.getD i undef,us.getD i undef] wq fun e w'=>e=.returned (.bool (decide (b1.getD i []=b2.getD i [])))∧∃ q,w'=wq.drewN q):=Lib.hid (fun wq g=>equal_ints _ _ _ _ wq (HXr.out i) (HYr.out i) ((HV.out.2 i hix).1.grow g) ((HU.out.2 i hiy).1.grow g))
   obtain ⟨a1,n1,c1,hv1,_⟩:=(HV.out.2 i hix).2
   obtain ⟨a2,n2,c2,hv2,_⟩:=(HU.out.2 i hiy).2
   rw [hv1] at x0 HEq
   rw [hv2] at y0 HEq
   have HX:=Lib.hid (show b1.take (i+1)=b1.take i++[b1.getD i []] by rw [List.take_add_one,List.getD_eq_getElem?_getD,List.getElem?_eq_getElem hix]; rfl)
   have HY:=Lib.hid (show b2.take (i+1)=b2.take i++[b2.getD i []] by rw [List.take_add_one,List.getD_eq_getElem?_getD,List.getElem?_eq_getElem hiy]; rfl)
   have HXY:Hid (b1=b2→b1.getD i []=b2.getD i []):=Lib.hid (fun e=>by rw [e])
   obtain ⟨x,hxe⟩:∃ x,x=b1.getD i []:=⟨_,rfl⟩
   obtain ⟨y,hye⟩:∃ y,y=b2.getD i []:=⟨_,rfl⟩
   rw [← hxe,← hye] at HEq HXY
   rw [← hxe] at HX
   rw [← hye] at HY
   clear hix hiy hv1 hv2 hxe hye
   by_cases hxy:x=y
   ·subst hxy
    rw [decide_eq_true rfl] at HEq
    go_wp2_with (go_at_call 32; refine (HEq.out _ HG.out).mono ?_; rintro e w3 ⟨rfl,q,hq⟩; have HGq:Hid (Flow.Grow wo w3):=Lib.hid (by rw [hq]; exact Flow.grow_drewN _ _); clear hq)
    go_roundw
    case rel=>exact ⟨i+1,by omega,by go_num,Lib.hid (by rw [HX.out,HY.out,HT.out]),Lib.hid (HG.out.trans HGq.out)⟩
    case measure=>simp [intOf]; omega
   ·have HN:Hid (decide (b1=b2)=false):=Lib.hid (decide_eq_false (fun e=>hxy (HXY.out e)))
    rw [decide_eq_false hxy] at HEq
    clear HXY hxy
    go_wp2_with (go_at_call 32; refine (HEq.out _ HG.out).mono ?_; rintro e w3 ⟨rfl,q,hq⟩; have HGq:Hid (Flow.Grow wo w3):=Lib.hid (by rw [hq]; exact Flow.grow_drewN _ _); clear hq)
    go_ret
    exact ⟨by rw [HN.out]; rfl,HG.out.trans HGq.out⟩
  ·obtain rfl:n=i:=by omega
   have HE:Hid (decide (b1=b2)=true):=Lib.hid (decide_eq_true (by
    have:=HT.out
    rw [show n=b1.length from Hn.out] at this
    rw [List.take_length,show b1.length=b2.length by rw [← Hn.out,Hm.out],List.take_length] at this
    exact this))
   go_wp2_with fail
   go_ret
   exact ⟨by rw [HE.out]; rfl,HG.out⟩
set_option maxRecDepth 100000 in
set_option maxHeartbeats 1000000 in
theorem mailSame_any (room:Nat) (v u:Value) (b1 b2:List (List Int)) (vs us:List Value) (W:World) (h1:b1.length=9) (h2:b2.length=9) (hxr:∀ j,(b1.getD j []).length≤1000000) (hyr:∀ j,(b2.getD j []).length≤1000000) (hv:BoxAt W v vs b1) (hu:BoxAt W u us b2) :
  Calls Try.prog 33 #[.agg #[.int .i64 3,.int .i64 (room:Nat),v],.agg #[.int .i64 3,.int .i64 (room:Nat),u]] W fun e w'=>e=.returned (.bool (decide (b1=b2)))∧Flow.Grow W w':=by
 have HE:Hid (∀ wq,Flow.Grow W wq→Calls Try.prog 47 #[v,u,.func (.func 32) #[] #[]] wq fun e w'=>e=.returned (.bool (decide (b1=b2)))∧Flow.Grow wq w'):=Lib.hid (fun wq g=>equalFunc_rows v u b1 b2 vs us wq (by omega) hxr hyr (by omega) (by intro e; rw [e] at h1; cases h1) (hv.grow g) (hu.grow g))
 obtain ⟨vb,vo,vc,rfl,_,_,_⟩:=hv.cells (by intro e; rw [e] at h1; cases h1)
 obtain ⟨ub,uo,uc,rfl,_,_,_⟩:=hu.cells (by intro e; rw [e] at h2; cases h2)
 clear hv hu hxr hyr
 rw [h1,h2] at HE ⊢
 have hne3:((room:Int) == (room:Int))=true:=by simp
 go_enter Try.func33,Try.ntmps33
 go_upto_region 1 with fail
 have HBw10:Hid (((W.alloc (.cells #[.int .i64 3,.int .i64 (room:Nat),.slice (some ⟨vb,vo,none⟩) 9 vc] 41)).alloc (.cells #[.int .i64 3,.int .i64 (room:Nat),.slice (some ⟨ub,uo,none⟩) 9 uc] 41)).heap[W.heap.size]?=some (.cells #[.int .i64 3,.int .i64 (room:Nat),.slice (some ⟨vb,vo,none⟩) 9 vc] 41 (0,0))):=Lib.hid (lay2_0 _ _ _)
 have HBw11:Hid (((W.alloc (.cells #[.int .i64 3,.int .i64 (room:Nat),.slice (some ⟨vb,vo,none⟩) 9 vc] 41)).alloc (.cells #[.int .i64 3,.int .i64 (room:Nat),.slice (some ⟨ub,uo,none⟩) 9 uc] 41)).heap[W.heap.size+1]?=some (.cells #[.int .i64 3,.int .i64 (room:Nat),.slice (some ⟨ub,uo,none⟩) 9 uc] 41 (0,0))):=Lib.hid (lay2_1 _ _ _)
 have HGw1:Hid (Flow.Grow W ((W.alloc (.cells #[.int .i64 3,.int .i64 (room:Nat),.slice (some ⟨vb,vo,none⟩) 9 vc] 41)).alloc (.cells #[.int .i64 3,.int .i64 (room:Nat),.slice (some ⟨ub,uo,none⟩) 9 uc] 41))):=Lib.hid (lay2_g _ _ _)
 have HSw1:Hid (((W.alloc (.cells #[.int .i64 3,.int .i64 (room:Nat),.slice (some ⟨vb,vo,none⟩) 9 vc] 41)).alloc (.cells #[.int .i64 3,.int .i64 (room:Nat),.slice (some ⟨ub,uo,none⟩) 9 uc] 41)).heap.size=W.heap.size+1+1):=Lib.hid (by simp)
 generalize (W.alloc (.cells #[.int .i64 3,.int .i64 (room:Nat),.slice (some ⟨vb,vo,none⟩) 9 vc] 41)).alloc (.cells #[.int .i64 3,.int .i64 (room:Nat),.slice (some ⟨ub,uo,none⟩) 9 uc] 41)=w1 at *
 obtain ⟨X,hX⟩:∃ X,X=W.heap.size:=⟨_,rfl⟩
 rw [← hX] at HBw10 HBw11 HSw1 ⊢
 have HXw1:=Lib.hid hX
 clear hX
 have CXw1:Hid (∀ wq,Flow.Grow w1 wq→wq.cell? ⟨X,0,none⟩=some (.int .i64 3)∧wq.cell? ⟨X,1,none⟩=some (.int .i64 (room:Nat))∧wq.cell? ⟨X,2,none⟩=some (.slice (some ⟨vb,vo,none⟩) 9 vc)∧wq.cell? ⟨X+1,0,none⟩=some (.int .i64 3)∧wq.cell? ⟨X+1,1,none⟩=some (.int .i64 (room:Nat))∧wq.cell? ⟨X+1,2,none⟩=some (.slice (some ⟨ub,uo,none⟩) 9 uc)):=Lib.hid (fun wq g=>⟨lay_cell g HBw10.out rfl,lay_cell g HBw10.out rfl,lay_cell g HBw10.out rfl,lay_cell g HBw11.out rfl,lay_cell g HBw11.out rfl,lay_cell g HBw11.out rfl⟩)
 have FXw1:Hid (∀ wq,Flow.Grow w1 wq→(∀ k,wq.frozen? ⟨X,k,none⟩=false)∧(∀ k,wq.frozen? ⟨X+1,k,none⟩=false)):=Lib.hid (fun wq g=>⟨fun k=>lay_frozen g HBw10.out k,fun k=>lay_frozen g HBw11.out k⟩)
 obtain ⟨c00,c01,c02,c10,c11,c12⟩:=CXw1.out w1 (Flow.grow_refl _)
 cases hb:decide (b1=b2) with
 | true =>
  rw [hb] at HE
  go_wp2_with (go_at_call 47; refine (HE.out _ HGw1.out).mono ?_; rintro e w3 ⟨rfl,hg⟩; have HG3:=Lib.hid hg; clear hg)
  go_ret
  exact ⟨by rw [hb]; rfl,HGw1.out.trans HG3.out⟩
 | false =>
  rw [hb] at HE
  go_wp2_with (go_at_call 47; refine (HE.out _ HGw1.out).mono ?_; rintro e w3 ⟨rfl,hg⟩; have HG3:=Lib.hid hg; clear hg)
  go_ret
  exact ⟨by rw [hb]; rfl,HGw1.out.trans HG3.out⟩
open As in
set_option maxRecDepth 100000 in
set_option maxHeartbeats 1000000 in
theorem asyncSame_any (room:Nat) (vS vM uS uM:Value) (c d:Cfg) (W:World) (h1:c.2.length=9) (h2:d.2.length=9) (h3:c.1.length=3) (h4:d.1.length=3) (hxr:∀ j,(c.2.getD j []).length≤1000000) (hyr:∀ j,(d.2.getD j []).length≤1000000) (hc:CfgAt W vS vM c) (hd:CfgAt W uS uM d) :
  Calls Try.prog 15 #[.agg #[vS,.int .i64 3,.int .i64 (room:Nat),vM],.agg #[uS,.int .i64 3,.int .i64 (room:Nat),uM]] W fun e w'=>e=.returned (.bool (decide (c=d)))∧Flow.Grow W w':=by
 obtain ⟨vs,hv⟩:=hc.ml
 obtain ⟨us,hu⟩:=hd.ml
 have HM:Hid (∀ wq,Flow.Grow W wq→Calls Try.prog 33 #[.agg #[.int .i64 3,.int .i64 (room:Nat),vM],.agg #[.int .i64 3,.int .i64 (room:Nat),uM]] wq fun e w'=>e=.returned (.bool (decide (c.2=d.2)))∧Flow.Grow wq w'):=Lib.hid (fun wq g=>mailSame_any room vM uM c.2 d.2 vs us wq h1 h2 hxr hyr (hv.grow g) (hu.grow g))
 have HS:Hid (∀ wq,Flow.Grow W wq→Calls Try.prog 32 #[vS,uS] wq fun e w'=>e=.returned (.bool (decide (c.1=d.1)))∧∃ q,w'=wq.drewN q):=Lib.hid (fun wq g=>equal_ints vS uS c.1 d.1 wq (by omega) (by omega) (hc.st.grow g) (hd.st.grow g))
 obtain ⟨sa,sc,hvs,_⟩:=id hc.st
 obtain ⟨ta,tc,hts,_⟩:=id hd.st
 obtain ⟨vb,vo,vc,hvm,_,_,_⟩:=hv.cells (by intro e; rw [e] at h1; cases h1)
 obtain ⟨ub,uo,uc,hum,_,_,_⟩:=hu.cells (by intro e; rw [e] at h2; cases h2)
 subst hvs hts hvm hum
 have HR:Hid (decide (c=d)=(decide (c.1=d.1) && decide (c.2=d.2))):=Lib.hid (by
  obtain ⟨c1,c2⟩:=c
  obtain ⟨d1,d2⟩:=d
  by_cases e1:c1=d1 <;> by_cases e2:c2=d2 <;> simp [e1,e2])
 rw [h1,h2] at HM
 rw [h3,h4] at HS
 rw [h1,h2,h3,h4]
 clear hv hu hc hd hxr hyr
 generalize decide (c.1=d.1)=r1 at *
 generalize decide (c.2=d.2)=r2 at *
 go_enter Try.func15,Try.ntmps15
 go_upto_region 1 with fail
 have HBw10:Hid (((W.alloc (.cells #[.slice sa 3 sc,.int .i64 3,.int .i64 (room:Nat),.slice (some ⟨vb,vo,none⟩) 9 vc] 43)).alloc (.cells #[.slice ta 3 tc,.int .i64 3,.int .i64 (room:Nat),.slice (some ⟨ub,uo,none⟩) 9 uc] 43)).heap[W.heap.size]?=some (.cells #[.slice sa 3 sc,.int .i64 3,.int .i64 (room:Nat),.slice (some ⟨vb,vo,none⟩) 9 vc] 43 (0,0))):=Lib.hid (lay2_0 _ _ _)
 have HBw11:Hid (((W.alloc (.cells #[.slice sa 3 sc,.int .i64 3,.int .i64 (room:Nat),.slice (some ⟨vb,vo,none⟩) 9 vc] 43)).alloc (.cells #[.slice ta 3 tc,.int .i64 3,.int .i64 (room:Nat),.slice (some ⟨ub,uo,none⟩) 9 uc] 43)).heap[W.heap.size+1]?=some (.cells #[.slice ta 3 tc,.int .i64 3,.int .i64 (room:Nat),.slice (some ⟨ub,uo,none⟩) 9 uc] 43 (0,0))):=Lib.hid (lay2_1 _ _ _)
 have HGw1:Hid (Flow.Grow W ((W.alloc (.cells #[.slice sa 3 sc,.int .i64 3,.int .i64 (room:Nat),.slice (some ⟨vb,vo,none⟩) 9 vc] 43)).alloc (.cells #[.slice ta 3 tc,.int .i64 3,.int .i64 (room:Nat),.slice (some ⟨ub,uo,none⟩) 9 uc] 43))):=Lib.hid (lay2_g _ _ _)
 have HSw1:Hid (((W.alloc (.cells #[.slice sa 3 sc,.int .i64 3,.int .i64 (room:Nat),.slice (some ⟨vb,vo,none⟩) 9 vc] 43)).alloc (.cells #[.slice ta 3 tc,.int .i64 3,.int .i64 (room:Nat),.slice (some ⟨ub,uo,none⟩) 9 uc] 43)).heap.size=W.heap.size+1+1):=Lib.hid (by simp)
 generalize (W.alloc (.cells #[.slice sa 3 sc,.int .i64 3,.int .i64 (room:Nat),.slice (some ⟨vb,vo,none⟩) 9 vc] 43)).alloc (.cells #[.slice ta 3 tc,.int .i64 3,.int .i64 (room:Nat),.slice (some ⟨ub,uo,none⟩) 9 uc] 43)=w1 at *
 obtain ⟨X,hX⟩:∃ X,X=W.heap.size:=⟨_,rfl⟩
 rw [← hX] at HBw10 HBw11 HSw1 ⊢
 have HXw1:=Lib.hid hX
 clear hX
 have CXw1:Hid (∀ wq,Flow.Grow w1 wq→wq.cell? ⟨X,0,none⟩=some (.slice sa 3 sc)∧wq.cell? ⟨X,1,none⟩=some (.int .i64 3)∧wq.cell? ⟨X,2,none⟩=some (.int .i64 (room:Nat))∧wq.cell? ⟨X,3,none⟩=some (.slice (some ⟨vb,vo,none⟩) 9 vc)∧wq.cell? ⟨X+1,0,none⟩=some (.slice ta 3 tc)∧wq.cell? ⟨X+1,1,none⟩=some (.int .i64 3)∧wq.cell? ⟨X+1,2,none⟩=some (.int .i64 (room:Nat))∧wq.cell? ⟨X+1,3,none⟩=some (.slice (some ⟨ub,uo,none⟩) 9 uc)):=Lib.hid (fun wq g=>⟨lay_cell g HBw10.out rfl,lay_cell g HBw10.out rfl,lay_cell g HBw10.out rfl,lay_cell g HBw10.out rfl,lay_cell g HBw11.out rfl,lay_cell g HBw11.out rfl,lay_cell g HBw11.out rfl,lay_cell g HBw11.out rfl⟩)
 have FXw1:Hid (∀ wq,Flow.Grow w1 wq→(∀ k,wq.frozen? ⟨X,k,none⟩=false)∧(∀ k,wq.frozen? ⟨X+1,k,none⟩=false)):=Lib.hid (fun wq g=>⟨fun k=>lay_frozen g HBw10.out k,fun k=>lay_frozen g HBw11.out k⟩)
 obtain ⟨c00,c01,c02,c03,c10,c11,c12,c13⟩:=CXw1.out w1 (Flow.grow_refl _)
 cases r1 <;> cases r2
 all_goals
  go_wp2_with (first
   | (go_at_call 32; refine (HS.out _ HGw1.out).mono ?_; rintro e w3 ⟨rfl,q,hq⟩; have HG3:Hid (Flow.Grow w1 w3):=Lib.hid (by rw [hq]; exact Flow.grow_drewN _ _); clear hq; clear c00 c01 c02 c03 c10 c11 c12 c13; obtain ⟨c00,c01,c02,c03,c10,c11,c12,c13⟩:=CXw1.out w3 (HG3.out))
   | (go_at_call 33; refine (HM.out _ (HGw1.out.trans HG3.out)).mono ?_; rintro e w4 ⟨rfl,hg⟩; have HG4:=Lib.hid hg; clear hg))
  go_ret
  first
   | exact ⟨by rw [HR.out]; rfl,HGw1.out.trans (HG3.out.trans HG4.out)⟩
   | exact ⟨by rw [HR.out]; rfl,HGw1.out.trans HG3.out⟩
end Go.Proofs.Ytcpodmjcgfgmnaa
namespace Go.Proofs.Ytcpodmjcgfgmnaa
open Go.RowKit
open As in
set_option maxRecDepth 100000 in
set_option maxHeartbeats 2000000 in
theorem alike_any (room:Nat) (vS vM uS uM:Value) (c:Cfg) (W:World) (h9:c.2.length=9) (h3:c.1.length=3) (hlen:∀ j,(c.2.getD j []).length≤100000) (hc:CfgAt W vS vM c) (hd:CfgAt W uS uM c) :
  Calls Try.prog 14 #[.agg #[vS,.int .i64 3,.int .i64 (room:Nat),vM],.agg #[uS,uM],.int .i64 3] W fun e w'=>e=.returned (.bool true)∧Flow.Grow W w':=by
 have HS:Hid (∀ wq,Flow.Grow W wq→Calls Try.prog 30 #[vS,uS] wq fun e w'=>e=.returned (.bool true)∧Flow.Grow wq w'):=Lib.hid (fun wq g=>by
  have h:=same18_any vS uS c.1 c.1 wq (by omega) (by omega) (hc.st.grow g) (hd.st.grow g)
  rwa [decide_eq_true rfl] at h)
 obtain ⟨vs,hv⟩:=hc.ml
 obtain ⟨us,hu⟩:=hd.ml
 have HBx:Hid (∀ (i k:Nat),i < 3→k < 3→∀ wq,Flow.Grow W wq→Calls Try.prog 31 #[.agg #[.int .i64 3,.int .i64 (room:Nat),vM],.int .i64 i,.int .i64 k] wq fun e w'=>∃ v,e=.returned v∧Flow.Grow wq w'∧Ints w' v (c.2.getD (i * 3+k) [])):=Lib.hid (fun i k hi hk wq g=>by
  refine (mailBox_any (room:Nat) i k vM vs c.2 wq h9 hi hk (hv.grow g) (hlen _)).mono ?_
  rintro e w' ⟨⟨v',rfl,ho⟩,hg⟩
  exact ⟨_,rfl,hg,ho⟩)
 have HSm:Hid (∀ (bx:Nat) (v u:Value) wq,Ints wq v (c.2.getD bx [])→Ints wq u (c.2.getD bx [])→Calls Try.prog 30 #[v,u] wq fun e w'=>∃ v,e=.returned v∧Flow.Grow wq w'∧v=.bool true):=Lib.hid (fun bx v u wq h1 h2=>by
  have h:=same18_any v u _ _ wq (by have:=hlen bx; omega) (by have:=hlen bx; omega) h1 h2
  rw [decide_eq_true rfl] at h
  refine h.mono ?_
  rintro e w' ⟨rfl,hg⟩
  exact ⟨_,rfl,hg,rfl⟩)
 obtain ⟨sa,sc,hvs,_⟩:=id hc.st
 obtain ⟨ta,tc,hts,_⟩:=id hd.st
 obtain ⟨vb,vo,vc,hvm,_,_,_⟩:=hv.cells (by intro e; rw [e] at h9; cases h9)
 obtain ⟨ub,uo,uc,hum,hul,huc,_⟩:=hu.cells (by intro e; rw [e] at h9; cases h9)
 have HUc:Hid (∀ bx,bx < 9→∃ ba bn bc,W.cell? ⟨ub,uo+bx,none⟩=some (.slice ba bn bc)∧Ints W (.slice ba bn bc) (c.2.getD bx [])):=Lib.hid (fun bx hb=>by
  obtain ⟨hI,ba,bn,bc,hbe,_⟩:=hu.2 bx (by omega)
  have hcx:=huc bx (us.getD bx undef) (by simp [List.getD_eq_getElem?_getD,show bx < us.length by omega])
  rw [hbe] at hI hcx
  exact ⟨ba,bn,bc,hcx,hI⟩)
 subst hvs hts hvm hum
 rw [h9] at HBx
 rw [h3] at HS
 rw [h9,h3]
 clear hv hu hc hd hlen hul huc
 go_enter Try.func14,Try.ntmps14
 go_upto_region 1 with fail
 have HBw10:Hid (((W.alloc (.cells #[.slice sa 3 sc,.int .i64 3,.int .i64 (room:Nat),.slice (some ⟨vb,vo,none⟩) 9 vc] 43)).alloc (.cells #[.slice ta 3 tc,.slice (some ⟨ub,uo,none⟩) 9 uc] 46)).heap[W.heap.size]?=some (.cells #[.slice sa 3 sc,.int .i64 3,.int .i64 (room:Nat),.slice (some ⟨vb,vo,none⟩) 9 vc] 43 (0,0))):=Lib.hid (lay2_0 _ _ _)
 have HBw11:Hid (((W.alloc (.cells #[.slice sa 3 sc,.int .i64 3,.int .i64 (room:Nat),.slice (some ⟨vb,vo,none⟩) 9 vc] 43)).alloc (.cells #[.slice ta 3 tc,.slice (some ⟨ub,uo,none⟩) 9 uc] 46)).heap[W.heap.size+1]?=some (.cells #[.slice ta 3 tc,.slice (some ⟨ub,uo,none⟩) 9 uc] 46 (0,0))):=Lib.hid (lay2_1 _ _ _)
 have HGw1:Hid (Flow.Grow W ((W.alloc (.cells #[.slice sa 3 sc,.int .i64 3,.int .i64 (room:Nat),.slice (some ⟨vb,vo,none⟩) 9 vc] 43)).alloc (.cells #[.slice ta 3 tc,.slice (some ⟨ub,uo,none⟩) 9 uc] 46))):=Lib.hid (lay2_g _ _ _)
 have HSw1:Hid (((W.alloc (.cells #[.slice sa 3 sc,.int .i64 3,.int .i64 (room:Nat),.slice (some ⟨vb,vo,none⟩) 9 vc] 43)).alloc (.cells #[.slice ta 3 tc,.slice (some ⟨ub,uo,none⟩) 9 uc] 46)).heap.size=W.heap.size+1+1):=Lib.hid (by simp)
 generalize (W.alloc (.cells #[.slice sa 3 sc,.int .i64 3,.int .i64 (room:Nat),.slice (some ⟨vb,vo,none⟩) 9 vc] 43)).alloc (.cells #[.slice ta 3 tc,.slice (some ⟨ub,uo,none⟩) 9 uc] 46)=w1 at *
 obtain ⟨X,hX⟩:∃ X,X=W.heap.size:=⟨_,rfl⟩
 rw [← hX] at HBw10 HBw11 HSw1 ⊢
 have HXw1:=Lib.hid hX
 clear hX
 have CXw1:Hid (∀ wq,Flow.Grow w1 wq→wq.cell? ⟨X,0,none⟩=some (.slice sa 3 sc)∧wq.cell? ⟨X,1,none⟩=some (.int .i64 3)∧wq.cell? ⟨X,2,none⟩=some (.int .i64 (room:Nat))∧wq.cell? ⟨X,3,none⟩=some (.slice (some ⟨vb,vo,none⟩) 9 vc)∧wq.cell? ⟨X+1,0,none⟩=some (.slice ta 3 tc)∧wq.cell? ⟨X+1,1,none⟩=some (.slice (some ⟨ub,uo,none⟩) 9 uc)):=Lib.hid (fun wq g=>⟨lay_cell g HBw10.out rfl,lay_cell g HBw10.out rfl,lay_cell g HBw10.out rfl,lay_cell g HBw10.out rfl,lay_cell g HBw11.out rfl,lay_cell g HBw11.out rfl⟩)
 have FXw1:Hid (∀ wq,Flow.Grow w1 wq→(∀ k,wq.frozen? ⟨X,k,none⟩=false)∧(∀ k,wq.frozen? ⟨X+1,k,none⟩=false)):=Lib.hid (fun wq g=>⟨fun k=>lay_frozen g HBw10.out k,fun k=>lay_frozen g HBw11.out k⟩)
 obtain ⟨c00,c01,c02,c03,c10,c11⟩:=CXw1.out w1 (Flow.grow_refl _)
 go_wp2_with (go_at_call 30; refine (HS.out _ HGw1.out).mono ?_; rintro e w2 ⟨rfl,hg⟩; have HG2:=Lib.hid hg; clear hg)
 clear c00 c01 c02 c03 c10 c11
 go_loopw [7] (fun iv wr=>∃ i:Nat,i≤3∧iv=.int .i64 i∧Hid (Flow.Grow w1 wr)) (fun iv _=>3 - (intOf iv).toNat)
 case atStart=>exact ⟨0,by omega,rfl,HG2⟩
 case round =>
  clear HG2
  obtain ⟨i,hi3,rfl,HG⟩:=hrel
  rename World=>wo
  by_cases hi:i < 3
  ·have hid:decide ((i:Int) < 3)=true:=by simp; omega
   go_wp2_with fail
   go_loopw [8] (fun kv wr=>∃ k:Nat,k≤3∧kv=.int .i64 k∧Hid (Flow.Grow w1 wr)) (fun kv _=>3 - (intOf kv).toNat)
   case atStart=>exact ⟨0,by omega,rfl,HG⟩
   case round =>
    clear HG
    obtain ⟨k,hk3,rfl,HG⟩:=hrel
    rename World=>wi
    by_cases hk:k < 3
    ·have hkd:decide ((k:Int) < 3)=true:=by simp; omega
     have m1:IntKind.i64.wrap ((i:Int) * 3)=(i:Int) * 3:=IntWalk.i64_in _ (by omega)
     have m2:IntKind.i64.wrap ((i:Int) * 3+(k:Int))=(i:Int) * 3+(k:Int):=IntWalk.i64_in _ (by omega)
     have hbx:i * 3+k < 9:=by omega
     obtain ⟨ba,bn,bc,hcx,hI⟩:=HUc.out (i * 3+k) hbx
     have HCx:=Lib.hid hcx
     have HI:=Lib.hid hI
     clear hcx hI
     have hn1:((i:Int) * 3+(k:Int)).toNat=i * 3+k:=by omega
     have hn2:(0:Int)≤(i:Int) * 3+(k:Int):=by omega
     have hn3:(i:Int) * 3+(k:Int) < 9:=by omega
     go_upto_region 9 with fail
     refine Flow.regionG (C:=fun _ wq=>Flow.Grow wi wq) (Fs:=[.inl ((.pointer (some ⟨X,1,none⟩))),.inl ((.agg #[.int .i64 3,.int .i64 (room:Nat),.slice (some ⟨vb,vo,none⟩) 9 vc])),.inl ((.int .i64 (i:Int))),.inl ((.int .i64 (k:Int))),.inr (fun v w=>Ints w v (c.2.getD (i * 3+k) [])),.inl ((.pointer (some ⟨X+1,1,none⟩))),.inl ((.slice (some ⟨ub,uo,none⟩) 9 uc)),.inl ((.int .i64 (i:Int))),.inl ((.int .i64 3)),.inl ((.int .i64 ((i:Int) * 3))),.inl ((.int .i64 (k:Int))),.inl ((.int .i64 ((i:Int) * 3+(k:Int)))),.inl ((.pointer (some ⟨ub,uo+(i * 3+k),none⟩))),.inl ((.slice ba bn bc)),.inl ((.bool true)),.inl ((.bool false))])
      [[],[0],[],[],[1,2,3],[],[5],[],[],[7,8],[],[9,10],[6,11],[12],[4,13],[14]] [[],[0],[],[],[0,1,2,3],[],[5],[],[],[7,8],[],[7,8,9,10],[5,6,7,8,9,10,11],[5,6,7,8,9,10,11,12],[0,1,2,3,4,5,6,7,8,9,10,11,12,13],[0,1,2,3,4,5,6,7,8,9,10,11,12,13,14]] [15] (by kernel_rfl) (by kernel_rfl) (by kernel_rfl) rfl (Flow.grow_drew _) ?ones9 ?ends9
     case ones9 =>
      have HST:Flow.Stable Flow.Grow [.inl ((.pointer (some ⟨X,1,none⟩))),.inl ((.agg #[.int .i64 3,.int .i64 (room:Nat),.slice (some ⟨vb,vo,none⟩) 9 vc])),.inl ((.int .i64 (i:Int))),.inl ((.int .i64 (k:Int))),.inr (fun v w=>Ints w v (c.2.getD (i * 3+k) [])),.inl ((.pointer (some ⟨X+1,1,none⟩))),.inl ((.slice (some ⟨ub,uo,none⟩) 9 uc)),.inl ((.int .i64 (i:Int))),.inl ((.int .i64 3)),.inl ((.int .i64 ((i:Int) * 3))),.inl ((.int .i64 (k:Int))),.inl ((.int .i64 ((i:Int) * 3+(k:Int)))),.inl ((.pointer (some ⟨ub,uo+(i * 3+k),none⟩))),.inl ((.slice ba bn bc)),.inl ((.bool true)),.inl ((.bool false))]:=by exact ⟨fun _ _ _ g h=>h.grow g,trivial⟩
      have HCG:∀ (L:Nat→Bool) (w w':World) (i:Nat),(fun wq=>Flow.Grow wi wq) w→Flow.Grow w w'→(fun wq=>Flow.Grow wi wq) w':=fun L w w' i=>(fun _ _ h g=>h.trans g) w w'
      refine Flow.OnesG.cons ?_ ?_
      ·refine Flow.OneG.q rfl HST HCG ?_
       intro L a w hC hLi hoff _
       have e3:a.eval (.tmp 3)=(.pointer (some ⟨X,0,none⟩)):=hoff.at2 3 0 hLi (by kernel_rfl)
       refine .inl ⟨Flow.want_none rfl,?_⟩
       refine Flow.run_same ?_ Flow.grow_refl
       have ec:=Flow.eval_const a
       generalize a.eval=ρ at e3 ec ⊢
       simp [execOp,e3,go_sem]
      refine Flow.OnesG.cons ?_ ?_
      ·refine Flow.OneG.q rfl HST HCG ?_
       rintro L a w hC hLi hoff ⟨k0,-⟩
       have e25:a.eval (.tmp 25)=(.pointer (some ⟨X,1,none⟩)):=k0 25 rfl
       refine .inl ⟨Flow.want_none rfl,?_⟩
       refine Flow.run_same ?_ Flow.grow_refl
       have ec:=Flow.eval_const a
       generalize a.eval=ρ at e25 ec ⊢
       obtain ⟨_,h1,h2,h3,_⟩:=CXw1.out w (HG.out.trans hC)
       simp [execOp,e25,h1,h2,h3,go_sem]
      refine Flow.OnesG.cons ?_ ?_
      ·refine Flow.OneG.q rfl HST HCG ?_
       intro L a w hC hLi hoff _
       have e7:a.eval (.tmp 7)=(.int .i64 (i:Int)):=hoff.at2 7 2 hLi (by kernel_rfl)
       refine .inl ⟨Flow.want_none rfl,?_⟩
       exact Flow.run_same (Flow.exec_move (.inl rfl) e7) Flow.grow_refl
      refine Flow.OnesG.cons ?_ ?_
      ·refine Flow.OneG.q rfl HST HCG ?_
       intro L a w hC hLi hoff _
       have e8:a.eval (.tmp 8)=(.int .i64 (k:Int)):=hoff.at2 8 3 hLi (by kernel_rfl)
       refine .inl ⟨Flow.want_none rfl,?_⟩
       exact Flow.run_same (Flow.exec_move (.inl rfl) e8) Flow.grow_refl
      refine Flow.OnesG.cons ?_ ?_
      ·refine Flow.OneG.q rfl HST HCG ?_
       rintro L a w hC hLi hoff ⟨k1,k2,k3,-⟩
       have e26:a.eval (.tmp 26)=(.agg #[.int .i64 3,.int .i64 (room:Nat),.slice (some ⟨vb,vo,none⟩) 9 vc]):=k1 26 rfl
       have e27:a.eval (.tmp 27)=(.int .i64 (i:Int)):=k2 27 rfl
       have e28:a.eval (.tmp 28)=(.int .i64 (k:Int)):=k3 28 rfl
       refine .inl ⟨Flow.want_none rfl,?_⟩
       exact Flow.run_call (Flow.exec_call (args:=#[((.agg #[.int .i64 3,.int .i64 (room:Nat),.slice (some ⟨vb,vo,none⟩) 9 vc])),((.int .i64 (i:Int))),((.int .i64 (k:Int)))]) rfl Try.func31 (by kernel_rfl) (by kernel_rfl) (by simp only [List.map_toArray,List.map_cons,List.map_nil,e26,e27,e28] <;> rfl)) (HBx.out i k hi hk w (HGw1.out.trans (HG.out.trans hC)))
      refine Flow.OnesG.cons ?_ ?_
      ·refine Flow.OneG.q rfl HST HCG ?_
       intro L a w hC hLi hoff _
       have e4:a.eval (.tmp 4)=(.pointer (some ⟨X+1,0,none⟩)):=hoff.at2 4 5 hLi (by kernel_rfl)
       refine .inl ⟨Flow.want_none rfl,?_⟩
       refine Flow.run_same ?_ Flow.grow_refl
       have ec:=Flow.eval_const a
       generalize a.eval=ρ at e4 ec ⊢
       simp [execOp,e4,go_sem]
      refine Flow.OnesG.cons ?_ ?_
      ·refine Flow.OneG.q rfl HST HCG ?_
       rintro L a w hC hLi hoff ⟨k5,-⟩
       have e30:a.eval (.tmp 30)=(.pointer (some ⟨X+1,1,none⟩)):=k5 30 rfl
       refine .inl ⟨Flow.want_none rfl,?_⟩
       refine Flow.run_same ?_ Flow.grow_refl
       have ec:=Flow.eval_const a
       generalize a.eval=ρ at e30 ec ⊢
       obtain ⟨_,_,_,_,_,h5⟩:=CXw1.out w (HG.out.trans hC)
       simp [execOp,e30,h5,go_sem]
      refine Flow.OnesG.cons ?_ ?_
      ·refine Flow.OneG.q rfl HST HCG ?_
       intro L a w hC hLi hoff _
       have e7:a.eval (.tmp 7)=(.int .i64 (i:Int)):=hoff.at2 7 7 hLi (by kernel_rfl)
       refine .inl ⟨Flow.want_none rfl,?_⟩
       exact Flow.run_same (Flow.exec_move (.inl rfl) e7) Flow.grow_refl
      refine Flow.OnesG.cons ?_ ?_
      ·refine Flow.OneG.q rfl HST HCG ?_
       intro L a w hC hLi hoff _
       have e2:a.eval (.tmp 2)=(.int .i64 3):=hoff.at2 2 8 hLi (by kernel_rfl)
       refine .inl ⟨Flow.want_none rfl,?_⟩
       exact Flow.run_same (Flow.exec_move (.inl rfl) e2) Flow.grow_refl
      refine Flow.OnesG.cons ?_ ?_
      ·refine Flow.OneG.q rfl HST HCG ?_
       rintro L a w hC hLi hoff ⟨k7,k8,-⟩
       have e32:a.eval (.tmp 32)=(.int .i64 (i:Int)):=k7 32 rfl
       have e33:a.eval (.tmp 33)=(.int .i64 3):=k8 33 rfl
       refine .inl ⟨Flow.want_none rfl,?_⟩
       refine Flow.run_same ?_ Flow.grow_refl
       have ec:=Flow.eval_const a
       generalize a.eval=ρ at e32 e33 ec ⊢
       simp [execOp,e32,e33,m1,go_sem]
      refine Flow.OnesG.cons ?_ ?_
      ·refine Flow.OneG.q rfl HST HCG ?_
       intro L a w hC hLi hoff _
       have e8:a.eval (.tmp 8)=(.int .i64 (k:Int)):=hoff.at2 8 10 hLi (by kernel_rfl)
       refine .inl ⟨Flow.want_none rfl,?_⟩
       exact Flow.run_same (Flow.exec_move (.inl rfl) e8) Flow.grow_refl
      refine Flow.OnesG.cons ?_ ?_
      ·refine Flow.OneG.q rfl HST HCG ?_
       rintro L a w hC hLi hoff ⟨k9,k10,-⟩
       have e34:a.eval (.tmp 34)=(.int .i64 ((i:Int) * 3)):=k9 34 rfl
       have e35:a.eval (.tmp 35)=(.int .i64 (k:Int)):=k10 35 rfl
       refine .inl ⟨Flow.want_none rfl,?_⟩
       refine Flow.run_same ?_ Flow.grow_refl
       have ec:=Flow.eval_const a
       generalize a.eval=ρ at e34 e35 ec ⊢
       simp [execOp,e34,e35,m2,go_sem]
      refine Flow.OnesG.cons ?_ ?_
      ·refine Flow.OneG.q rfl HST HCG ?_
       rintro L a w hC hLi hoff ⟨k6,k11,-⟩
       have e31:a.eval (.tmp 31)=(.slice (some ⟨ub,uo,none⟩) 9 uc):=k6 31 rfl
       have e36:a.eval (.tmp 36)=(.int .i64 ((i:Int) * 3+(k:Int))):=k11 36 rfl
       refine .inl ⟨Flow.want_none rfl,?_⟩
       refine Flow.run_same ?_ Flow.grow_refl
       have ec:=Flow.eval_const a
       generalize a.eval=ρ at e31 e36 ec ⊢
       simp [execOp,e31,e36,hn1,hn2,hn3,go_sem]
      refine Flow.OnesG.cons ?_ ?_
      ·refine Flow.OneG.q rfl HST HCG ?_
       rintro L a w hC hLi hoff ⟨k12,-⟩
       have e37:a.eval (.tmp 37)=(.pointer (some ⟨ub,uo+(i * 3+k),none⟩)):=k12 37 rfl
       refine .inl ⟨Flow.want_none rfl,?_⟩
       refine Flow.run_same ?_ Flow.grow_refl
       have ec:=Flow.eval_const a
       generalize a.eval=ρ at e37 ec ⊢
       have h0:=Xm2.cell_grow (HGw1.out.trans (HG.out.trans hC)) HCx.out
       simp [execOp,e37,h0,go_sem]
      refine Flow.OnesG.cons ?_ ?_
      ·refine Flow.OneG.q rfl HST HCG ?_
       rintro L a w hC hLi hoff ⟨k4,k13,-⟩
       have e29:(fun v w=>Ints w v (c.2.getD (i * 3+k) [])) (a.eval (.tmp 29)) w:=k4 29 rfl
       have e38:a.eval (.tmp 38)=(.slice ba bn bc):=k13 38 rfl
       refine .inl ⟨Flow.want_none rfl,?_⟩
       exact Flow.run_call (Flow.exec_call (args:=#[a.eval (.tmp 29),((.slice ba bn bc))]) rfl Try.func30 (by kernel_rfl) (by kernel_rfl) (by simp only [List.map_toArray,List.map_cons,List.map_nil,e38] <;> rfl)) (HSm.out (i * 3+k) _ _ w e29 (HI.out.grow (HGw1.out.trans (HG.out.trans hC))))
      refine Flow.OnesG.cons ?_ ?_
      ·refine Flow.OneG.q rfl HST HCG ?_
       rintro L a w hC hLi hoff ⟨k14,-⟩
       have e39:a.eval (.tmp 39)=(.bool true):=k14 39 rfl
       refine .inl ⟨Flow.want_none rfl,?_⟩
       refine Flow.run_same ?_ Flow.grow_refl
       have ec:=Flow.eval_const a
       generalize a.eval=ρ at e39 ec ⊢
       simp [execOp,e39,go_sem]
      exact trivial
     case ends9 =>
      intro LL wx hLL hC
      refine Flow.endsG_v rfl ?_
      refine Flow.endsG_v rfl ?_
      refine Flow.endsG_v rfl ?_
      refine Flow.endsG_v rfl ?_
      refine Flow.endsG_r rfl fun v29 _=>?_
      refine Flow.endsG_v rfl ?_
      refine Flow.endsG_v rfl ?_
      refine Flow.endsG_v rfl ?_
      refine Flow.endsG_v rfl ?_
      refine Flow.endsG_v rfl ?_
      refine Flow.endsG_v rfl ?_
      refine Flow.endsG_v rfl ?_
      refine Flow.endsG_v rfl ?_
      refine Flow.endsG_v rfl ?_
      refine Flow.endsG_v rfl ?_
      refine Flow.endsG_v rfl ?_
      refine Flow.endsG_nil ?_
      simp only [Act.put,List.setIfInBounds_toArray,List.set_cons_succ,List.set_cons_zero]
      have HGx:=Lib.hid (HG.out.trans hC)
      clear hC
      go_wp2_with fail
      go_roundw
      case rel=>exact ⟨k+1,by omega,by go_num,HGx⟩
      case measure=>simp [intOf]; omega
    ·obtain rfl:k=3:=by omega
     go_wp2_with fail
     go_roundw
     case rel=>exact ⟨i+1,by omega,by go_num,HG⟩
     case measure=>simp [intOf]; omega
  ·obtain rfl:i=3:=by omega
   go_wp2_with fail
   go_ret
   exact ⟨rfl,HGw1.out.trans HG.out⟩
end Go.Proofs.Ytcpodmjcgfgmnaa
