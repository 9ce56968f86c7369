/- mail.Mail: at, with by their contracts; slices.Clone of any ints, of rows. -/
import Derived.Test.YtcpodmjcgfgmnaaMLay
import Derived.Test.YtcpodmjcgfgmnaaMPer
import Derived.Test.YtcpodmjcgfgmnaaMAct
import Derived.Deep.RegionHeld3
import Derived.Deep.AppendLies
import Derived.BigQuiet
namespace Go.Proofs.Ytcpodmjcgfgmnaa
open Go.RowKit
theorem clone_intsR (v:Value) (zs:List Int) (W:World) (hn:zs.length≤1000000) (h:Ints W v zs) :
  Calls Try.prog 29 #[v] W fun e w'=>(∃ v',e=.returned v'∧w'.ownsRow W.heap.size 3 1 v' zs.length (zs.map (Value.int .i64)))∧Flow.Grow W w':=by
 by_cases hz:zs=[]
 ·subst hz
  obtain ⟨a,cap,rfl,_,h0,_⟩:=h
  cases a with
  | none =>
   refine (Try.slices_Clone_nil_f29 _ _ W).mono ?_
   rintro e w' ⟨rfl,rfl⟩
   exact ⟨⟨_,rfl,World.ownsRow_nil _ _ _ _⟩,Flow.grow_refl _⟩
  | some ad =>
   refine (Try.slices_Clone_int_zero ad cap W).mono ?_
   rintro e w' ⟨v',rfl,ho,_,hb⟩
   exact ⟨⟨v',rfl,ho⟩,Flow.grow_below hb⟩
 ·obtain ⟨i1,hi1,hy0,hy1,hy2⟩:=info_parts info_int
  obtain ⟨b,off,cap,rfl,hc⟩:=seg_map h (by simpa using hz)
  refine (Try.slices_Clone_f29 i1 (.int .i64 0) 1 8 hi1 hy0 hy1 hy2 rfl (by decide) (Try.sizeOf3) b off zs.length cap (zs.map (Value.int .i64)) W (by simp) (by unfold maxLen;omega) (by omega) hc (fun u hu=>by obtain ⟨x,_,rfl⟩:=List.mem_map.1 hu;rfl)).mono ?_
  rintro e w' ⟨v',rfl,ho,_,hb⟩
  exact ⟨⟨v',rfl,ho⟩,Flow.grow_below hb⟩
theorem own_cap {w:World} {e sz n B:Nat} {v:Value} {xs:List Value} (h:w.ownsRow B e sz v n xs):∃ a n c,v=.slice a n c∧n≤c:=by
 rcases h.2 with ⟨h1,h0⟩ | ⟨g,cap,cur,hv,_,_,hc,_⟩
 ·exact ⟨_,_,_,h1,Nat.le_refl _⟩
 ·exact ⟨_,_,_,hv,hc⟩
def CapOk (v:Value):Prop:=∃ a n c,v=.slice a n c∧n≤c
def BoxAt (w:World) (v:Value) (vs:List Value) (b:List (List Int)):Prop:=Seg 1 w v b.length vs∧∀ i,i < b.length→Ints w (vs.getD i undef) (b.getD i [])∧CapOk (vs.getD i undef)
theorem BoxAt.rows {w:World} {v:Value} {vs:List Value} {b:List (List Int)} (h:BoxAt w v vs b):Rows2 w v b:=⟨vs,h.1,fun i hi=>(h.2 i hi).1⟩
theorem BoxAt.grow {w w':World} {v:Value} {vs:List Value} {b:List (List Int)} (h:BoxAt w v vs b) (g:Flow.Grow w w'):BoxAt w' v vs b:=⟨h.1.grow g,fun i hi=>⟨(h.2 i hi).1.grow g,(h.2 i hi).2⟩⟩
theorem BoxAt.cells {w:World} {v:Value} {vs:List Value} {b:List (List Int)} (h:BoxAt w v vs b) (hne:b≠[]):∃ (g off cap:Nat),v=.slice (some ⟨g,off,none⟩) b.length cap∧vs.length=b.length∧(∀ j u,vs[j]?=some u→w.cell? ⟨g,off+j,none⟩=some u)∧(∀ u∈vs,u.oneCell'=true):=by
 obtain ⟨h1,h2⟩:=h
 have hlen:vs.length=b.length:=by
  obtain ⟨a,cap,_,hm,_⟩:=h1
  simpa using hm
 obtain ⟨g,off,cap,hv,_,hc⟩:=h1.shape (by intro e;rw [e] at hlen;exact hne (List.eq_nil_of_length_eq_zero hlen.symm))
 refine ⟨g,off,cap,hv,hlen,fun j u hj=>by rw [hc j (List.getElem?_eq_some_iff.1 hj).1];exact hj,fun u hu=>?_⟩
 obtain ⟨j,hj,rfl⟩:=List.getElem_of_mem hu
 obtain ⟨a,c,e,_⟩:=(h2 j (by omega)).1
 rw [show vs[j]=vs.getD j undef by simp [hj],e]
 rfl
theorem clone_box (v:Value) (vs:List Value) (b:List (List Int)) (W0 W:World) (hg0:Flow.Grow W0 W) (hn:b.length≤1000000) (hne:b≠[]) (h:BoxAt W0 v vs b) :
  Calls Try.prog 60 #[v] W fun e w'=>(∃ v',e=.returned v'∧w'.ownsRow W.heap.size 39 1 v' b.length vs)∧Flow.Grow W w':=by
 obtain ⟨i1,hi1,hy0,hy1,hy2⟩:=info_parts info_ints
 obtain ⟨g,off,cap,rfl,hl,hc,h1⟩:=h.cells hne
 refine (Try.slices_Clone_f60 i1 (.slice none 0 0) 1 24 hi1 hy0 hy1 hy2 rfl (by decide) (Try.sizeOf39) g off b.length cap vs W (by simpa using hl) (by unfold maxLen;omega) (by omega) (fun j u hj=>Xm2.cell_grow hg0 (hc j u hj)) h1).mono ?_
 rintro e w' ⟨v',rfl,ho,_,hb⟩
 exact ⟨⟨v',rfl,ho⟩,Flow.grow_below hb⟩
theorem own_some {w:World} {e sz n B:Nat} {v:Value} {xs:List Value} (h:w.ownsRow B e sz v n xs) (hn:0 < n):∃ (g cap:Nat) (cur:Array Value),v=.slice (some ⟨g,0,none⟩) n cap∧B≤g∧w.heap[g]?=some (.cells cur e (0,0)):=by
 rcases h.2 with ⟨_,h0⟩ | ⟨g,cap,cur,hv,hB,hg,_⟩
 ·omega
 ·exact ⟨g,cap,cur,hv,hB,hg⟩
theorem row3_set {w:World} {g:Nat} {T:TypeId} {d0 d1 d2:Value} (c0 c1 c2:Value) (h:w.heap[g]?=some (.cells #[d0,d1,d2] T (0,0))) :
  (((w.setCell ⟨g,0,none⟩ c0).setCell ⟨g,1,none⟩ c1).setCell ⟨g,2,none⟩ c2).heap[g]?=some (.cells #[c0,c1,c2] T (0,0)):=by
 have h1:=heap_setCell_same w g 0 _ T c0 h
 have h2:=heap_setCell_same _ g 1 _ T c1 h1
 exact heap_setCell_same _ g 2 _ T c2 h2
theorem row3_grow {w0 w:World} {g:Nat} (c0 c1 c2:Value) (h:Flow.Grow w0 w) (hg:w0.heap.size≤g):Flow.Grow w0 (((w.setCell ⟨g,0,none⟩ c0).setCell ⟨g,1,none⟩ c1).setCell ⟨g,2,none⟩ c2) :=
 grow_set' (grow_set' (grow_set' h hg _ _) hg _ _) hg _ _
theorem row3_other {w:World} {Y k:Nat} {o:Obj} (c0 c1 c2:Value) (h:w.heap[k]?=some o) (hk:k≠Y):(((w.setCell ⟨Y,0,none⟩ c0).setCell ⟨Y,1,none⟩ c1).setCell ⟨Y,2,none⟩ c2).heap[k]?=some o :=
 set_other (set_other (set_other h hk) hk) hk
theorem row3_own {w:World} {B e sz n g c Y:Nat} {xs:List Value} (c0 c1 c2:Value) (h:w.ownsRow B e sz (.slice (some ⟨g,0,none⟩) n c) n xs) (hne:g≠Y):(((w.setCell ⟨Y,0,none⟩ c0).setCell ⟨Y,1,none⟩ c1).setCell ⟨Y,2,none⟩ c2).ownsRow B e sz (.slice (some ⟨g,0,none⟩) n c) n xs :=
 have hb:(Value.slice (some ⟨g,0,none⟩) n c).ownBlock=none∨(Value.slice (some ⟨g,0,none⟩) n c).ownBlock≠some Y:=.inr (by simpa [Value.ownBlock] using hne)
 ((h.kept (grownBy_set _ Y 0 c0) hb).kept (grownBy_set _ Y 1 c1) hb).kept (grownBy_set _ Y 2 c2) hb
set_option maxRecDepth 100000 in
set_option maxHeartbeats 1000000 in
theorem mailAt_any (room:Int) (la:Option Addr) (lc f t:Nat) (hf:f < 3) (ht:t < 3) (W:World) :
  Calls Try.prog 45 #[.agg #[.int .i64 3,.int .i64 room,.slice la 9 lc],.int .i64 f,.int .i64 t] W fun e w'=>e=.returned (.int .i64 ((f * 3+t:Nat):Int))∧Flow.Grow W w':=by
 have d1:decide ((f:Int) < 0)=false:=by simp
 have d2:decide ((f:Int)≥3)=false:=by simp;omega
 have d2n:decide (3≤f)=false:=by simp;omega
 have d3:decide ((t:Int) < 0)=false:=by simp
 have d4:decide ((t:Int)≥3)=false:=by simp;omega
 have d4n:decide (3≤t)=false:=by simp;omega
 have m1:IntKind.i64.wrap ((f:Int) * 3)=(f:Int) * 3:=IntWalk.i64_in _ (by omega)
 have m2:IntKind.i64.wrap ((f:Int) * 3+(t:Int))=(f:Int) * 3+(t:Int):=IntWalk.i64_in _ (by omega)
 go_enter Try.func45,Try.ntmps45
 go_upto_region 1 with fail
 have HBw10:Hid ((W.alloc (.cells #[.int .i64 3,.int .i64 room,.slice la 9 lc] 41)).heap[W.heap.size]?=some (.cells #[.int .i64 3,.int .i64 room,.slice la 9 lc] 41 (0,0))):=Lib.hid (lay1_0 _ _)
 have HGw1:Hid (Flow.Grow W (W.alloc (.cells #[.int .i64 3,.int .i64 room,.slice la 9 lc] 41))):=Lib.hid (lay1_g _ _)
 have HSw1:Hid ((W.alloc (.cells #[.int .i64 3,.int .i64 room,.slice la 9 lc] 41)).heap.size=W.heap.size+1):=Lib.hid (by simp)
 generalize W.alloc (.cells #[.int .i64 3,.int .i64 room,.slice la 9 lc] 41)=w1 at *
 obtain ⟨X,hX⟩:∃ X,X=W.heap.size:=⟨_,rfl⟩
 rw [← hX] at HBw10 HSw1 ⊢
 have HXw1:=Lib.hid hX
 clear hX
 have CXw1:Hid (∀ wq,Flow.Grow w1 wq→wq.cell? ⟨X,0,none⟩=some (.int .i64 3)∧wq.cell? ⟨X,1,none⟩=some (.int .i64 room)∧wq.cell? ⟨X,2,none⟩=some (.slice la 9 lc)):=Lib.hid (fun wq g=>⟨lay_cell g HBw10.out rfl,lay_cell g HBw10.out rfl,lay_cell g HBw10.out rfl⟩)
 have FXw1:Hid (∀ wq,Flow.Grow w1 wq→(∀ k,wq.frozen? ⟨X,k,none⟩=false)):=Lib.hid (fun wq g=>fun k=>lay_frozen g HBw10.out k)
 obtain ⟨c00,c01,c02⟩:=CXw1.out w1 (Flow.grow_refl _)
 go_wp2_with fail
 go_ret
 exact ⟨by simp,HGw1.out⟩
theorem mail_res1 (X:Nat) (tmps:Array Value) (w:World) (c0 c1 c2:Value) (h6:tmps.getD 6 undef=.pointer (some ⟨X,0,none⟩)) (hx:w.heap[X]?=some (.cells #[c0,c1,c2] 41 (0,0))) :
  (results Try.f46 tmps).run Try.prog w=.ok (.agg #[c0,c1,c2]) w:=by
 have x0:=(cell_of_row w X 0 _ _ _ hx).trans rfl
 have x1:=(cell_of_row w X 1 _ _ _ hx).trans rfl
 have x2:=(cell_of_row w X 2 _ _ _ hx).trans rfl
 simp at x0 x1 x2
 simp only [Array.getD_eq_getD_getElem?] at h6
 simp [results,Try.results46,h6,x0,x1,x2,go_sem]
set_option maxRecDepth 100000 in
set_option maxHeartbeats 1000000 in
theorem mailWith_any (room:Int) (vl vb:Value) (vs:List Value) (b:List (List Int)) (z:List Int) (i:Nat) (W:World) (h9:b.length=9) (hi:i < 9) (hR:BoxAt W vl vs b) (hb:Ints W vb z) :
  Calls Try.prog 46 #[.agg #[.int .i64 3,.int .i64 room,vl],.int .i64 i,vb] W fun e w'=>(∃ (g gc:Nat),e=.returned (.agg #[.int .i64 3,.int .i64 room,.slice (some ⟨g,0,none⟩) 9 gc])∧w'.ownsRow W.heap.size 39 1 (.slice (some ⟨g,0,none⟩) 9 gc) 9 (vs.set i vb))∧Flow.Grow W w':=by
 have HR:=Lib.hid hR
 have HB:=Lib.hid hb
 obtain ⟨lb,lo,lc,rfl,hvl,_,_⟩:=hR.cells (by intro e;rw [e] at h9;cases h9)
 obtain ⟨ba,bc,rfl,_⟩:=id hb
 clear hR hb
 have H9:=Lib.hid h9
 rw [h9] at HR hvl ⊢
 clear h9
 go_enter Try.func46,Try.ntmps46
 go_upto_region 1 with fail
 have HBw10:Hid (((W.alloc (.cells #[.int .i64 3,.int .i64 room,.slice (some ⟨lb,lo,none⟩) 9 lc] 41)).alloc (.cells #[.int .i64 0,.int .i64 0,.slice none 0 0] 41)).heap[W.heap.size]?=some (.cells #[.int .i64 3,.int .i64 room,.slice (some ⟨lb,lo,none⟩) 9 lc] 41 (0,0))):=Lib.hid (lay2_0 _ _ _)
 have HBw11:Hid (((W.alloc (.cells #[.int .i64 3,.int .i64 room,.slice (some ⟨lb,lo,none⟩) 9 lc] 41)).alloc (.cells #[.int .i64 0,.int .i64 0,.slice none 0 0] 41)).heap[W.heap.size+1]?=some (.cells #[.int .i64 0,.int .i64 0,.slice none 0 0] 41 (0,0))):=Lib.hid (lay2_1 _ _ _)
 have HGw1:Hid (Flow.Grow W ((W.alloc (.cells #[.int .i64 3,.int .i64 room,.slice (some ⟨lb,lo,none⟩) 9 lc] 41)).alloc (.cells #[.int .i64 0,.int .i64 0,.slice none 0 0] 41))):=Lib.hid (lay2_g _ _ _)
 have HSw1:Hid (((W.alloc (.cells #[.int .i64 3,.int .i64 room,.slice (some ⟨lb,lo,none⟩) 9 lc] 41)).alloc (.cells #[.int .i64 0,.int .i64 0,.slice none 0 0] 41)).heap.size=W.heap.size+1+1):=Lib.hid (by simp)
 generalize (W.alloc (.cells #[.int .i64 3,.int .i64 room,.slice (some ⟨lb,lo,none⟩) 9 lc] 41)).alloc (.cells #[.int .i64 0,.int .i64 0,.slice none 0 0] 41)=w1 at *
 obtain ⟨X,hX⟩:∃ X,X=W.heap.size:=⟨_,rfl⟩
 rw [← hX] at HBw10 HBw11 HSw1 ⊢
 have HXw1:=Lib.hid hX
 clear hX
 have CXw1:Hid (∀ wq,Flow.Grow w1 wq→wq.cell? ⟨X,0,none⟩=some (.int .i64 3)∧wq.cell? ⟨X,1,none⟩=some (.int .i64 room)∧wq.cell? ⟨X,2,none⟩=some (.slice (some ⟨lb,lo,none⟩) 9 lc)∧wq.cell? ⟨X+1,0,none⟩=some (.int .i64 0)∧wq.cell? ⟨X+1,1,none⟩=some (.int .i64 0)∧wq.cell? ⟨X+1,2,none⟩=some (.slice none 0 0)):=Lib.hid (fun wq g=>⟨lay_cell g HBw10.out rfl,lay_cell g HBw10.out rfl,lay_cell g HBw10.out rfl,lay_cell g HBw11.out rfl,lay_cell g HBw11.out rfl,lay_cell g HBw11.out rfl⟩)
 have FXw1:Hid (∀ wq,Flow.Grow w1 wq→(∀ k,wq.frozen? ⟨X,k,none⟩=false)∧(∀ k,wq.frozen? ⟨X+1,k,none⟩=false)):=Lib.hid (fun wq g=>⟨fun k=>lay_frozen g HBw10.out k,fun k=>lay_frozen g HBw11.out k⟩)
 obtain ⟨c00,c01,c02,c10,c11,c12⟩:=CXw1.out w1 (Flow.grow_refl _)
 have HCl:=Lib.hid (clone_box _ vs b W w1 HGw1.out (by have:=H9.out;omega) (by intro e;have:=H9.out;rw [e] at this;cases this) HR.out)
 go_upto_region 2 with (go_at_call 60;refine HCl.out.mono ?_;rintro e w2 ⟨⟨v2,rfl,ho⟩,hg⟩;rw [H9.out] at ho;obtain ⟨g,gc,cur,rfl,hgw,hcur⟩:=own_some ho (by decide);have HO:=Lib.hid ho;have HG2:=Lib.hid hg;have HC:=Lib.hid hcur;have HGw:=Lib.hid hgw;clear hg ho hcur hgw;obtain ⟨d00,d01,d02,d10,d11,d12⟩:=CXw1.out w2 (HG2.out);obtain ⟨f0,f1⟩:=FXw1.out w2 (HG2.out))
 have hXg:X < g∧X+1 < g:=by have:=HSw1.out;have:=HGw.out;omega
 have HK:Hid ((w2.setCell ⟨X,2,none⟩ (.slice (some ⟨g,0,none⟩) 9 gc)).heap[X]?=some (.cells #[.int .i64 3,.int .i64 room,.slice (some ⟨g,0,none⟩) 9 gc] 41 (0,0))∧(w2.setCell ⟨X,2,none⟩ (.slice (some ⟨g,0,none⟩) 9 gc)).heap[X+1]?=some (.cells #[.int .i64 0,.int .i64 0,.slice none 0 0] 41 (0,0))∧(w2.setCell ⟨X,2,none⟩ (.slice (some ⟨g,0,none⟩) 9 gc)).heap[g]?=some (.cells cur 39 (0,0))):=Lib.hid
  ⟨(set_cells (heap_keep HG2.out HBw10.out) 2 _).trans rfl,set_other (heap_keep HG2.out HBw11.out) (by omega),set_other HC.out (by omega)⟩
 have HO3:Hid ((w2.setCell ⟨X,2,none⟩ (.slice (some ⟨g,0,none⟩) 9 gc)).ownsRow w1.heap.size 39 1 (.slice (some ⟨g,0,none⟩) 9 gc) 9 vs):=Lib.hid (HO.out.kept (grownBy_set w2 X 2 _) (.inr (by simp [Value.ownBlock];omega)))
 have HG3:Hid (Flow.Grow W (w2.setCell ⟨X,2,none⟩ (.slice (some ⟨g,0,none⟩) 9 gc))):=Lib.hid (set_grow (HGw1.out.trans HG2.out) (by rw [← HXw1.out];exact Nat.le_refl _) _ _)
 generalize w2.setCell ⟨X,2,none⟩ (.slice (some ⟨g,0,none⟩) 9 gc)=w3 at *
 clear c00 c01 c02 c10 c11 c12 d00 d01 d02 d10 d11 d12 f0 f1 HO HC
 have d02:=(cell_of_row w3 X 2 _ _ _ HK.out.1).trans rfl
 have f0:=frozen_of_row w3 g i _ _ HK.out.2.2
 obtain ⟨u,g0⟩:∃ u,w3.cell? ⟨g,i,none⟩=some u:=by
  exact ⟨vs[i],by rw [HO3.out.cellAt i (by omega)];simp [hvl,hi]⟩
 go_upto_region 3 with fail
 have HK4:Hid ((w3.setCell ⟨g,i,none⟩ (.slice ba z.length bc)).heap[X]?=some (.cells #[.int .i64 3,.int .i64 room,.slice (some ⟨g,0,none⟩) 9 gc] 41 (0,0))∧(w3.setCell ⟨g,i,none⟩ (.slice ba z.length bc)).heap[X+1]?=some (.cells #[.int .i64 0,.int .i64 0,.slice none 0 0] 41 (0,0))):=Lib.hid
  ⟨set_other HK.out.1 (by omega),set_other HK.out.2.1 (by omega)⟩
 have HO4:Hid ((w3.setCell ⟨g,i,none⟩ (.slice ba z.length bc)).ownsRow w1.heap.size 39 1 (.slice (some ⟨g,0,none⟩) 9 gc) 9 (vs.set i (.slice ba z.length bc))):=Lib.hid (own_setAt _ HO3.out (by omega))
 have HG4:Hid (Flow.Grow W (w3.setCell ⟨g,i,none⟩ (.slice ba z.length bc))):=Lib.hid (set_grow HG3.out (by have:=HXw1.out;omega) _ _)
 generalize w3.setCell ⟨g,i,none⟩ (.slice ba z.length bc)=w4 at *
 clear d02 f0 g0 HK HO3 HG3
 have d00:=(cell_of_row w4 X 0 _ _ _ HK4.out.1).trans rfl
 have d01:=(cell_of_row w4 X 1 _ _ _ HK4.out.1).trans rfl
 have d02:=(cell_of_row w4 X 2 _ _ _ HK4.out.1).trans rfl
 have e00:=(cell_of_row w4 (X+1) 0 _ _ _ HK4.out.2).trans rfl
 have e01:=(cell_of_row w4 (X+1) 1 _ _ _ HK4.out.2).trans rfl
 have e02:=(cell_of_row w4 (X+1) 2 _ _ _ HK4.out.2).trans rfl
 have f0:=fun k=>frozen_of_row w4 (X+1) k _ _ HK4.out.2
 go_wp2_with fail
 have HG5:=row3_grow (.int .i64 3) (.int .i64 room) (.slice (some ⟨g,0,none⟩) 9 gc) HG4.out (g:=X+1) (by have:=HXw1.out;omega)
 exact bodyPost_ret (mail_res1 (X+1) _ _ _ _ _ rfl (row3_set _ _ _ HK4.out.2)) rfl ⟨⟨_,_,rfl,row3_own _ _ _ (Pr.own_mono HO4.out (by have:=HSw1.out;have:=HXw1.out;omega)) (by omega)⟩,HG5⟩
end Go.Proofs.Ytcpodmjcgfgmnaa
namespace Go.Proofs.Ytcpodmjcgfgmnaa
open Go.RowKit
theorem mail_res2 (X:Nat) (v:Value) (tmps:Array Value) (w:World) (c0 c1 c2:Value) (h8:tmps.getD 8 undef=.pointer (some ⟨X,0,none⟩)) (h9:tmps.getD 9 undef=v) (hx:w.heap[X]?=some (.cells #[c0,c1,c2] 41 (0,0))) :
  (results Try.f27 tmps).run Try.prog w=.ok (.tuple #[.agg #[c0,c1,c2],v]) w:=by
 have x0:=(cell_of_row w X 0 _ _ _ hx).trans rfl
 have x1:=(cell_of_row w X 1 _ _ _ hx).trans rfl
 have x2:=(cell_of_row w X 2 _ _ _ hx).trans rfl
 simp at x0 x1 x2
 simp only [Array.getD_eq_getD_getElem?] at h8 h9
 simp [results,Try.results27,h8,h9,x0,x1,x2,go_sem]
theorem info_mail:(Try.prog.info? 41).map (fun i=>(i.zero,i.size,i.bytes))=some (some (.agg #[.int .i64 0,.int .i64 0,.slice none 0 0]),3,40):=by kernel_rfl
set_option maxRecDepth 100000 in
set_option maxHeartbeats 1000000 in
theorem mailPut_yes (room f t:Nat) (z:Int) (vl:Value) (vs:List Value) (b:List (List Int)) (W:World) (hroom:room≤1000) (h9:b.length=9) (hf:f < 3) (ht:t < 3) (hR:BoxAt W vl vs b) (hr:(b.getD (f * 3+t) []).length < room) :
  Calls Try.prog 27 #[.agg #[.int .i64 3,.int .i64 (room:Nat),vl],.int .i64 f,.int .i64 t,.int .i64 z] W fun e w'=>(∃ (g gc h hc:Nat),e=.returned (.tuple #[.agg #[.int .i64 3,.int .i64 (room:Nat),.slice (some ⟨g,0,none⟩) 9 gc],.bool true])∧w'.ownsRow W.heap.size 39 1 (.slice (some ⟨g,0,none⟩) 9 gc) 9 (vs.set (f * 3+t) (.slice (some ⟨h,0,none⟩) ((b.getD (f * 3+t) []).length+1) hc)) ∧
   w'.ownsRow W.heap.size 3 1 (.slice (some ⟨h,0,none⟩) ((b.getD (f * 3+t) []).length+1) hc) ((b.getD (f * 3+t) []).length+1) ((b.getD (f * 3+t) []++[z]).map (Value.int .i64)))∧Flow.Grow W w':=by
 have HR:=Lib.hid hR
 have hk:f * 3+t < 9:=by omega
 obtain ⟨k,hkk⟩:∃ k,k=f * 3+t:=⟨_,rfl⟩
 have HAt:Hid (∀ wq la lc,Calls Try.prog 45 #[.agg #[.int .i64 3,.int .i64 (room:Nat),.slice la 9 lc],.int .i64 f,.int .i64 t] wq fun e w'=>e=.returned (.int .i64 (k:Nat))∧Flow.Grow wq w'):=Lib.hid (fun wq la lc=>by
  have h:=mailAt_any (room:Nat) la lc f t hf ht wq
  rwa [← hkk] at h)
 rw [← hkk] at hk hr ⊢
 clear hkk
 obtain ⟨lb,lo,lc,rfl,hvl,hcl,_⟩:=hR.cells (by intro e;rw [e] at h9;cases h9)
 obtain ⟨_,hints⟩:=hR
 have HI:=Lib.hid (hints k (by omega)).1
 have hc0:=hcl k (vs.getD k undef) (by simp [List.getD_eq_getElem?_getD,show k < vs.length by omega])
 obtain ⟨va,vn,vc,hva⟩:∃ va vn vc,vs.getD k undef=.slice va vn vc:=by
  obtain ⟨a,c,e,_⟩:=HI.out
  exact ⟨_,_,_,e⟩
 have HVn:Hid (vn=(b.getD k []).length):=Lib.hid (by
  obtain ⟨a,c,e,_⟩:=HI.out
  rw [hva] at e
  injection e)
 rw [hva] at HI hc0
 have HC0:=Lib.hid hc0
 have HW9:=Lib.hid h9
 rw [h9] at HR ⊢
 clear hva hcl hints hvl h9 hc0
 generalize b.getD k []=row at *
 rw [← HVn.out] at hr ⊢
 go_enter Try.func27,Try.ntmps27
 go_upto_region 1 with fail
 have HBw10:Hid (((W.alloc (.cells #[.int .i64 3,.int .i64 (room:Nat),.slice (some ⟨lb,lo,none⟩) 9 lc] 41)).alloc (.cells #[.int .i64 0,.int .i64 0,.slice none 0 0] 41)).heap[W.heap.size]?=some (.cells #[.int .i64 3,.int .i64 (room:Nat),.slice (some ⟨lb,lo,none⟩) 9 lc] 41 (0,0))):=Lib.hid (lay2_0 _ _ _)
 have HBw11:Hid (((W.alloc (.cells #[.int .i64 3,.int .i64 (room:Nat),.slice (some ⟨lb,lo,none⟩) 9 lc] 41)).alloc (.cells #[.int .i64 0,.int .i64 0,.slice none 0 0] 41)).heap[W.heap.size+1]?=some (.cells #[.int .i64 0,.int .i64 0,.slice none 0 0] 41 (0,0))):=Lib.hid (lay2_1 _ _ _)
 have HGw1:Hid (Flow.Grow W ((W.alloc (.cells #[.int .i64 3,.int .i64 (room:Nat),.slice (some ⟨lb,lo,none⟩) 9 lc] 41)).alloc (.cells #[.int .i64 0,.int .i64 0,.slice none 0 0] 41))):=Lib.hid (lay2_g _ _ _)
 have HSw1:Hid (((W.alloc (.cells #[.int .i64 3,.int .i64 (room:Nat),.slice (some ⟨lb,lo,none⟩) 9 lc] 41)).alloc (.cells #[.int .i64 0,.int .i64 0,.slice none 0 0] 41)).heap.size=W.heap.size+1+1):=Lib.hid (by simp)
 generalize (W.alloc (.cells #[.int .i64 3,.int .i64 (room:Nat),.slice (some ⟨lb,lo,none⟩) 9 lc] 41)).alloc (.cells #[.int .i64 0,.int .i64 0,.slice none 0 0] 41)=w1 at *
 obtain ⟨X,hX⟩:∃ X,X=W.heap.size:=⟨_,rfl⟩
 rw [← hX] at HBw10 HBw11 HSw1 ⊢
 have HXw1:=Lib.hid hX
 clear hX
 have CXw1:Hid (∀ wq,Flow.Grow w1 wq→wq.cell? ⟨X,0,none⟩=some (.int .i64 3)∧wq.cell? ⟨X,1,none⟩=some (.int .i64 (room:Nat))∧wq.cell? ⟨X,2,none⟩=some (.slice (some ⟨lb,lo,none⟩) 9 lc)∧wq.cell? ⟨X+1,0,none⟩=some (.int .i64 0)∧wq.cell? ⟨X+1,1,none⟩=some (.int .i64 0)∧wq.cell? ⟨X+1,2,none⟩=some (.slice none 0 0)):=Lib.hid (fun wq g=>⟨lay_cell g HBw10.out rfl,lay_cell g HBw10.out rfl,lay_cell g HBw10.out rfl,lay_cell g HBw11.out rfl,lay_cell g HBw11.out rfl,lay_cell g HBw11.out rfl⟩)
 have FXw1:Hid (∀ wq,Flow.Grow w1 wq→(∀ k,wq.frozen? ⟨X,k,none⟩=false)∧(∀ k,wq.frozen? ⟨X+1,k,none⟩=false)):=Lib.hid (fun wq g=>⟨fun k=>lay_frozen g HBw10.out k,fun k=>lay_frozen g HBw11.out k⟩)
 obtain ⟨c00,c01,c02,c10,c11,c12⟩:=CXw1.out w1 (Flow.grow_refl _)
 go_upto_region 2 with (go_at_call 45;refine (HAt.out _ _ _).mono ?_;rintro e w2 ⟨rfl,hg⟩;have HG2:=Lib.hid hg;clear hg)
 clear c00 c01 c02 c10 c11 c12
 obtain ⟨c00,c01,c02,c10,c11,c12⟩:=CXw1.out w2 (HG2.out)
 obtain ⟨f0,f1⟩:=FXw1.out w2 (HG2.out)
 have b0:=Xm2.cell_grow (HGw1.out.trans HG2.out) HC0.out
 have d1:decide ((k:Int) < 0)=false:=by simp
 have d2:decide ((vn:Int)≥(room:Int))=false:=by simp;omega
 have d2n:decide (room≤vn)=false:=by simp;omega
 go_quiet (fail)
 have HGq:Hid (Flow.Grow w2 (w2.drewN nq)):=Lib.hid (Flow.grow_drewN _ _)
 generalize w2.drewN nq=w3 at *
 clear c00 c01 c02 c10 c11 c12 f0 f1 b0
 obtain ⟨c00,c01,c02,c10,c11,c12⟩:=CXw1.out w3 (HG2.out.trans HGq.out)
 have HG3:Hid (Flow.Grow W w3):=Lib.hid (HGw1.out.trans (HG2.out.trans HGq.out))
 have b0:=Xm2.cell_grow HG3.out HC0.out
 have hlb:lb≠X+1:=by
  have h1:=HC0.out
  have h2:=HXw1.out
  intro e
  unfold World.cell? at h1
  rw [Array.getElem?_eq_none (by simp only;omega)] at h1
  cases h1
 have hX1:X≠X+1:=by omega
 obtain ⟨i0,hi,hz0,hz1,hz2⟩:=info_parts info_int
 obtain ⟨iM,hiM,hM0,hM1,hM2⟩:=info_parts info_mail
 have HCl:Hid (∀ wq,But W w3 (X+1) 41 3 wq→Calls Try.prog 29 #[.slice va vn vc] wq fun e w'=>∃ v,e=.returned v∧Flow.Grow wq w'∧w'.ownsRow w3.heap.size 3 1 v vn (row.map (Value.int .i64))):=Lib.hid (fun wq h=>by
  have c:=clone_intsR (.slice va vn vc) row wq (by have:=HVn.out;omega) (HI.out.grow h.grow)
  refine c.mono ?_
  rintro e w' ⟨⟨v',rfl,ho⟩,hg⟩
  rw [← HVn.out] at ho
  exact ⟨v',rfl,hg,Pr.own_mono ho h.size⟩)
 have HWi:Hid (∀ wq h hc,But W w3 (X+1) 41 3 wq→wq.ownsRow w3.heap.size 3 1 (.slice (some ⟨h,0,none⟩) (vn+1) hc) (vn+1) (row.map (Value.int .i64)++[.int .i64 z])→Calls Try.prog 46 #[.agg #[.int .i64 3,.int .i64 (room:Nat),.slice (some ⟨lb,lo,none⟩) 9 lc],.int .i64 (k:Nat),.slice (some ⟨h,0,none⟩) (vn+1) hc] wq fun e w'=>∃ v,e=.returned v∧Flow.Grow wq w'∧∃ g gc h hc,v=.agg #[.int .i64 3,.int .i64 (room:Nat),.slice (some ⟨g,0,none⟩) 9 gc]∧w'.ownsRow w3.heap.size 39 1 (.slice (some ⟨g,0,none⟩) 9 gc) 9 (vs.set k (.slice (some ⟨h,0,none⟩) (vn+1) hc))∧w'.ownsRow w3.heap.size 3 1 (.slice (some ⟨h,0,none⟩) (vn+1) hc) (vn+1) (row.map (Value.int .i64)++[.int .i64 z])):=Lib.hid (fun wq h hc hb ho=>by
  have hs:Ints wq (.slice (some ⟨h,0,none⟩) (vn+1) hc) (row++[z]):=by
   have:=Seg.of_own ho
   rw [show row.map (Value.int .i64)++[.int .i64 z]=(row++[z]).map (Value.int .i64) by simp] at this
   unfold Ints
   rwa [show (row++[z]).length=vn+1 by simp [HVn.out]]
  have c:=mailWith_any (room:Nat) (.slice (some ⟨lb,lo,none⟩) 9 lc) (.slice (some ⟨h,0,none⟩) (vn+1) hc) vs b (row++[z]) k wq HW9.out hk (HR.out.grow hb.grow) hs
  refine c.mono ?_
  rintro e w' ⟨⟨g,gc,rfl,hog⟩,hg⟩
  exact ⟨_,rfl,hg,g,gc,h,hc,rfl,Pr.own_mono hog hb.size,own_keep ho hg⟩)
 go_upto_region 4 with fail
 refine Flow.regionG (C:=fun _ wq=>But W w3 (X+1) 41 3 wq) (Fs:=[.inl ((.agg #[.int .i64 3,.int .i64 (room:Nat),.slice (some ⟨lb,lo,none⟩) 9 lc])),.inl ((.int .i64 (k:Nat))),.inl ((.pointer (some ⟨X,2,none⟩))),.inl ((.slice (some ⟨lb,lo,none⟩) 9 lc)),.inl ((.int .i64 (k:Nat))),.inl ((.pointer (some ⟨lb,lo+k,none⟩))),.inl ((.slice va vn vc)),.inr (fun v w=>w.ownsRow w3.heap.size 3 1 v vn (row.map (Value.int .i64))),.inl ((.int .i64 z)),.inr (fun v w=>∃ q,v=.slice (some ⟨q,0,none⟩) 1 1∧w.heap[q]?=some (.cells #[.int .i64 z] 3 (0,0))),.inr (fun v w=>∃ h hc,v=.slice (some ⟨h,0,none⟩) (vn+1) hc∧w.ownsRow w3.heap.size 3 1 v (vn+1) (row.map (Value.int .i64)++[.int .i64 z])),.inr (fun v w=>∃ g gc h hc,v=.agg #[.int .i64 3,.int .i64 (room:Nat),.slice (some ⟨g,0,none⟩) 9 gc]∧w.ownsRow w3.heap.size 39 1 (.slice (some ⟨g,0,none⟩) 9 gc) 9 (vs.set k (.slice (some ⟨h,0,none⟩) (vn+1) hc))∧w.ownsRow w3.heap.size 3 1 (.slice (some ⟨h,0,none⟩) (vn+1) hc) (vn+1) (row.map (Value.int .i64)++[.int .i64 z])),.inr (fun _ w=>∃ g gc h hc,w.heap[X+1]?=some (.cells #[.int .i64 3,.int .i64 (room:Nat),.slice (some ⟨g,0,none⟩) 9 gc] 41 (0,0))∧w.ownsRow w3.heap.size 39 1 (.slice (some ⟨g,0,none⟩) 9 gc) 9 (vs.set k (.slice (some ⟨h,0,none⟩) (vn+1) hc))∧w.ownsRow w3.heap.size 3 1 (.slice (some ⟨h,0,none⟩) (vn+1) hc) (vn+1) (row.map (Value.int .i64)++[.int .i64 z])),.inl ((Value.bool true))])
  [[],[],[],[2],[],[3,4],[5],[6],[],[8],[7,9],[0,1,10],[11],[]] [[],[],[],[2],[],[2,3,4],[2,3,4,5],[2,3,4,5,6],[],[8],[2,3,4,5,6,7,8,9],[0,1,2,3,4,5,6,7,8,9,10],[0,1,2,3,4,5,6,7,8,9,10,11],[]] [12] (by kernel_rfl) (by kernel_rfl) (by kernel_rfl) rfl (But.start HG3.out (heap_keep (HG2.out.trans HGq.out) HBw11.out) rfl) ?ones4 ?ends4
 case ones4 =>
  refine Flow.OnesG.start (by exact ⟨fun _ _ _ g h=>own_keep h g,fun _ _ _ g ⟨q,h1,h2⟩=>⟨q,h1,heap_keep g h2⟩,fun _ _ _ g ⟨h,hc,h1,h2⟩=>⟨h,hc,h1,own_keep h2 g⟩,fun _ _ _ g ⟨g',gc,h,hc,h1,h2,h3⟩=>⟨g',gc,h,hc,h1,own_keep h2 g,own_keep h3 g⟩,fun _ _ _ g ⟨g',gc,h,hc,h1,h2,h3⟩=>⟨g',gc,h,hc,heap_keep g h1,own_keep h2 g,own_keep h3 g⟩,trivial⟩) (fun L w w' i=>(fun _ _ h g=>h.more g) w w') fun HST HCG=>?_
  refine Flow.oq rfl HST HCG ?_ ?_
  ·intro L a w hC hLi hoff _
   have e4:a.eval (.tmp 4)=(.pointer (some ⟨X,0,none⟩)):=hoff.at2 4 0 hLi (by kernel_rfl)
   refine Flow.gs rfl ?_
   generalize a.eval=ρ at e4 ⊢
   have h0:=hC.cell c00 hX1
   have h1:=hC.cell c01 hX1
   have h2:=hC.cell c02 hX1
   simp [execOp,e4,h0,h1,h2,go_sem]
  refine Flow.oq rfl HST HCG ?_ ?_
  ·intro L a w hC hLi hoff _
   exact Flow.gs rfl (Flow.exec_move (.inl rfl) (hoff.at2 10 1 hLi (by kernel_rfl)))
  refine Flow.oq rfl HST HCG ?_ ?_
  ·intro L a w hC hLi hoff _
   have e4:a.eval (.tmp 4)=(.pointer (some ⟨X,0,none⟩)):=hoff.at2 4 2 hLi (by kernel_rfl)
   refine Flow.gs rfl ?_
   generalize a.eval=ρ at e4 ⊢
   simp [execOp,e4,go_sem]
  refine Flow.oq rfl HST HCG ?_ ?_
  ·rintro L a w hC hLi hoff ⟨k2,-⟩
   have e31:=Flow.kv k2 rfl rfl
   refine Flow.gs rfl ?_
   generalize a.eval=ρ at e31 ⊢
   have h2:=hC.cell c02 hX1
   simp [execOp,e31,h2,go_sem]
  refine Flow.oq rfl HST HCG ?_ ?_
  ·intro L a w hC hLi hoff _
   exact Flow.gs rfl (Flow.exec_move (.inl rfl) (hoff.at2 10 4 hLi (by kernel_rfl)))
  refine Flow.oq rfl HST HCG ?_ ?_
  ·rintro L a w hC hLi hoff ⟨k3,k4,-⟩
   have e32:=Flow.kv k3 rfl rfl
   have e33:=Flow.kv k4 rfl rfl
   refine Flow.gs rfl ?_
   generalize a.eval=ρ at e32 e33 ⊢
   simp [execOp,e32,e33,go_sem];intro hh;omega
  refine Flow.oq rfl HST HCG ?_ ?_
  ·rintro L a w hC hLi hoff ⟨k5,-⟩
   have e34:=Flow.kv k5 rfl rfl
   refine Flow.gs rfl ?_
   generalize a.eval=ρ at e34 ⊢
   have h2:=hC.cell b0 hlb
   simp [execOp,e34,h2,go_sem]
  refine Flow.oq rfl HST HCG ?_ ?_
  ·rintro L a w hC hLi hoff ⟨k6,-⟩
   have e35:=Flow.kv k6 rfl rfl
   exact .inl ⟨Flow.want_none rfl,Flow.run_call (Flow.exec_call rfl Try.func29 (by kernel_rfl) (by kernel_rfl) (by simp only [List.map_toArray,List.map_cons,List.map_nil,e35] <;> rfl)) (HCl.out w hC)⟩
  refine Flow.oq rfl HST HCG ?_ ?_
  ·intro L a w hC hLi hoff _
   exact Flow.gs rfl (Flow.exec_move (.inl rfl) (hoff.at2 3 8 hLi (by kernel_rfl)))
  refine Flow.oq rfl HST HCG ?_ ?_
  ·rintro L a w hC hLi hoff ⟨k8,-⟩
   have e37:=Flow.kv k8 rfl rfl
   refine .inl ⟨Flow.want_none rfl,?_⟩
   refine Flow.run_val (v:=.slice (some ⟨w.heap.size,0,none⟩) 1 1) (w':=w.alloc (.cells #[.int .i64 z] 3)) ?_ (Flow.grow_alloc _ _) ⟨_,rfl,heap_alloc_new _ _⟩
   generalize a.eval=ρ at e37 ⊢
   simp [execOp,e37,go_sem]
  refine Flow.OnesG.cons (Flow.OneG.w (by kernel_rfl) ?_) ?_
  ·rintro L a w hC hLi hoff ⟨k7,k9,-⟩
   have e36:=Flow.kr k7 rfl rfl
   have e38:=Flow.kr k9 rfl rfl
   refine ⟨Flow.want_none rfl,?_⟩
   obtain ⟨q,he38,hq⟩:=e38
   refine wp_app1 _ _ 39 rfl w3.heap.size 3 i0 _ 1 8 Try.underlying39 hi hz0 hz1 hz2 rfl (by decide) _ vn _ rfl e36 q #[.int .i64 z] _ he38 hq rfl (by intro u hu;simp at hu;subst hu;rfl) (by omega) (by decide) hC.size fun g cap w' h2 h3 h4 h5=>?_
   exact ⟨_,rfl,hC.row HG3.out.size h3 h5,g,cap,rfl,h2⟩
  refine Flow.oq rfl HST HCG ?_ ?_
  ·rintro L a w hC hLi hoff ⟨k0,k1,k10,-⟩
   have e29:=Flow.kv k0 rfl rfl
   have e30:=Flow.kv k1 rfl rfl
   have e39:=Flow.kr k10 rfl rfl
   refine .inl ⟨Flow.want_none rfl,?_⟩
   obtain ⟨h,hc,e39,ho⟩:=e39
   rw [e39] at ho
   exact Flow.run_call (Flow.exec_call (args:=#[.agg #[.int .i64 3,.int .i64 (room:Nat),.slice (some ⟨lb,lo,none⟩) 9 lc],.int .i64 (k:Nat),.slice (some ⟨h,0,none⟩) (vn+1) hc]) rfl Try.func46 (by kernel_rfl) (by kernel_rfl) (by simp only [List.map_toArray,List.map_cons,List.map_nil,e29,e30,e39] <;> rfl)) (HWi.out w h hc hC ho)
  refine Flow.OnesG.cons (Flow.OneG.w (by kernel_rfl) ?_) ?_
  ·rintro L a w hC hLi hoff ⟨k11,-⟩
   have e40:=Flow.kr k11 rfl rfl
   have e8:a.eval (.tmp 8)=(.pointer (some ⟨X+1,0,none⟩)):=hoff.at2 8 12 hLi (by kernel_rfl)
   refine ⟨Flow.want_none rfl,?_⟩
   obtain ⟨g,gc,h,hc,e40,ho1,ho2⟩:=e40
   refine wp_sto (s:=8) (x:=40) rfl rfl hiM hM1 rfl (by intro v hv;simp at hv;rcases hv with rfl | rfl | rfl <;> rfl) (W:=W) (X+1) hC.grow (by have:=HXw1.out;omega) e8 e40 hC.row_ fun w' h2 h3 h4 h5=>?_
   exact ⟨undef,rfl,hC.store h2 h3 h4 rfl h5,fun s _=>⟨g,gc,h,hc,h4,own_heap ho1 fun g' hg'=>h5 g' (by have:=(ho1.lt g' hg').1;have:=hC.lies;omega),own_heap ho2 fun g' hg'=>h5 g' (by have:=(ho2.lt g' hg').1;have:=hC.lies;omega)⟩⟩
  refine Flow.oq rfl HST HCG ?_ ?_
  ·intro L a w hC hLi hoff _
   exact Flow.gs rfl (Flow.exec_move (.inr rfl) rfl)
  exact trivial
 case ends4 =>
  intro LL wx hLL hC
  iterate 7 refine Flow.endsG_v rfl ?_
  refine Flow.endsG_r rfl fun v36 _=>?_
  refine Flow.endsG_v rfl ?_
  refine Flow.endsG_r rfl fun v38 _=>?_
  refine Flow.endsG_r rfl fun v39 _=>?_
  refine Flow.endsG_r rfl fun v40 _=>?_
  refine Flow.endsG_s rfl rfl rfl fun hE12=>?_
  refine Flow.endsG_v rfl ?_
  refine Flow.endsG_nil ?_
  simp only [Act.put,List.setIfInBounds_toArray,List.set_cons_succ,List.set_cons_zero]
  obtain ⟨g,gc,h,hc,hY,ho1,ho2⟩:=hE12
  go_wp2_with fail
  have hw:=HG3.out.size
  exact bodyPost_ret (mail_res2 (X+1) _ _ _ _ _ _ rfl rfl hY) rfl ⟨⟨g,gc,h,hc,rfl,Pr.own_mono ho1 hw,by rw [List.map_append];exact Pr.own_mono ho2 hw⟩,hC.grow⟩
set_option maxRecDepth 100000 in
set_option maxHeartbeats 1000000 in
theorem mailPut_no (room f t:Nat) (z:Int) (vl:Value) (vs:List Value) (b:List (List Int)) (W:World) (_hroom:room≤1000) (h9:b.length=9) (hf:f < 3) (ht:t < 3) (hR:BoxAt W vl vs b) (hr:¬ (b.getD (f * 3+t) []).length < room) :
  Calls Try.prog 27 #[.agg #[.int .i64 3,.int .i64 (room:Nat),vl],.int .i64 f,.int .i64 t,.int .i64 z] W fun e w'=>e=.returned (.tuple #[.agg #[.int .i64 3,.int .i64 (room:Nat),vl],.bool false])∧Flow.Grow W w':=by
 have HR:=Lib.hid hR
 have hk:f * 3+t < 9:=by omega
 obtain ⟨k,hkk⟩:∃ k,k=f * 3+t:=⟨_,rfl⟩
 have HAt:Hid (∀ wq la lc,Calls Try.prog 45 #[.agg #[.int .i64 3,.int .i64 (room:Nat),.slice la 9 lc],.int .i64 f,.int .i64 t] wq fun e w'=>e=.returned (.int .i64 (k:Nat))∧Flow.Grow wq w'):=Lib.hid (fun wq la lc=>by
  have h:=mailAt_any (room:Nat) la lc f t hf ht wq
  rwa [← hkk] at h)
 rw [← hkk] at hk hr
 clear hkk
 obtain ⟨lb,lo,lc,rfl,hvl,hcl,_⟩:=hR.cells (by intro e;rw [e] at h9;cases h9)
 obtain ⟨_,hints⟩:=hR
 have HI:=Lib.hid (hints k (by omega)).1
 have hc0:=hcl k (vs.getD k undef) (by simp [List.getD_eq_getElem?_getD,show k < vs.length by omega])
 obtain ⟨va,vn,vc,hva⟩:∃ va vn vc,vs.getD k undef=.slice va vn vc:=by
  obtain ⟨a,c,e,_⟩:=HI.out
  exact ⟨_,_,_,e⟩
 have HVn:Hid (vn=(b.getD k []).length):=Lib.hid (by
  obtain ⟨a,c,e,_⟩:=HI.out
  rw [hva] at e
  injection e)
 rw [hva] at HI hc0
 have HC0:=Lib.hid hc0
 have HW9:=Lib.hid h9
 rw [h9] at HR ⊢
 clear hva hcl hints hvl h9 hc0
 generalize b.getD k []=row at *
 rw [← HVn.out] at hr
 go_enter Try.func27,Try.ntmps27
 go_upto_region 1 with fail
 have HBw10:Hid (((W.alloc (.cells #[.int .i64 3,.int .i64 (room:Nat),.slice (some ⟨lb,lo,none⟩) 9 lc] 41)).alloc (.cells #[.int .i64 0,.int .i64 0,.slice none 0 0] 41)).heap[W.heap.size]?=some (.cells #[.int .i64 3,.int .i64 (room:Nat),.slice (some ⟨lb,lo,none⟩) 9 lc] 41 (0,0))):=Lib.hid (lay2_0 _ _ _)
 have HBw11:Hid (((W.alloc (.cells #[.int .i64 3,.int .i64 (room:Nat),.slice (some ⟨lb,lo,none⟩) 9 lc] 41)).alloc (.cells #[.int .i64 0,.int .i64 0,.slice none 0 0] 41)).heap[W.heap.size+1]?=some (.cells #[.int .i64 0,.int .i64 0,.slice none 0 0] 41 (0,0))):=Lib.hid (lay2_1 _ _ _)
 have HGw1:Hid (Flow.Grow W ((W.alloc (.cells #[.int .i64 3,.int .i64 (room:Nat),.slice (some ⟨lb,lo,none⟩) 9 lc] 41)).alloc (.cells #[.int .i64 0,.int .i64 0,.slice none 0 0] 41))):=Lib.hid (lay2_g _ _ _)
 have HSw1:Hid (((W.alloc (.cells #[.int .i64 3,.int .i64 (room:Nat),.slice (some ⟨lb,lo,none⟩) 9 lc] 41)).alloc (.cells #[.int .i64 0,.int .i64 0,.slice none 0 0] 41)).heap.size=W.heap.size+1+1):=Lib.hid (by simp)
 generalize (W.alloc (.cells #[.int .i64 3,.int .i64 (room:Nat),.slice (some ⟨lb,lo,none⟩) 9 lc] 41)).alloc (.cells #[.int .i64 0,.int .i64 0,.slice none 0 0] 41)=w1 at *
 obtain ⟨X,hX⟩:∃ X,X=W.heap.size:=⟨_,rfl⟩
 rw [← hX] at HBw10 HBw11 HSw1 ⊢
 have HXw1:=Lib.hid hX
 clear hX
 have CXw1:Hid (∀ wq,Flow.Grow w1 wq→wq.cell? ⟨X,0,none⟩=some (.int .i64 3)∧wq.cell? ⟨X,1,none⟩=some (.int .i64 (room:Nat))∧wq.cell? ⟨X,2,none⟩=some (.slice (some ⟨lb,lo,none⟩) 9 lc)∧wq.cell? ⟨X+1,0,none⟩=some (.int .i64 0)∧wq.cell? ⟨X+1,1,none⟩=some (.int .i64 0)∧wq.cell? ⟨X+1,2,none⟩=some (.slice none 0 0)):=Lib.hid (fun wq g=>⟨lay_cell g HBw10.out rfl,lay_cell g HBw10.out rfl,lay_cell g HBw10.out rfl,lay_cell g HBw11.out rfl,lay_cell g HBw11.out rfl,lay_cell g HBw11.out rfl⟩)
 have FXw1:Hid (∀ wq,Flow.Grow w1 wq→(∀ k,wq.frozen? ⟨X,k,none⟩=false)∧(∀ k,wq.frozen? ⟨X+1,k,none⟩=false)):=Lib.hid (fun wq g=>⟨fun k=>lay_frozen g HBw10.out k,fun k=>lay_frozen g HBw11.out k⟩)
 obtain ⟨c00,c01,c02,c10,c11,c12⟩:=CXw1.out w1 (Flow.grow_refl _)
 go_upto_region 2 with (go_at_call 45;refine (HAt.out _ _ _).mono ?_;rintro e w2 ⟨rfl,hg⟩;have HG2:=Lib.hid hg;clear hg)
 clear c00 c01 c02 c10 c11 c12
 obtain ⟨c00,c01,c02,c10,c11,c12⟩:=CXw1.out w2 (HG2.out)
 obtain ⟨f0,f1⟩:=FXw1.out w2 (HG2.out)
 have b0:=Xm2.cell_grow (HGw1.out.trans HG2.out) HC0.out
 have d1:decide ((k:Int) < 0)=false:=by simp
 have d2:decide ((vn:Int)≥(room:Int))=true:=by simp;omega
 have d2n:decide (room≤vn)=true:=by simp;omega
 go_quiet (fail)
 have HGq:Hid (Flow.Grow w2 (w2.drewN nq)):=Lib.hid (Flow.grow_drewN _ _)
 generalize w2.drewN nq=w3 at *
 clear c00 c01 c02 c10 c11 c12 f0 f1 b0
 obtain ⟨c00,c01,c02,c10,c11,c12⟩:=CXw1.out w3 (HG2.out.trans HGq.out)
 obtain ⟨f0,f1⟩:=FXw1.out w3 (HG2.out.trans HGq.out)
 have HG3:Hid (Flow.Grow W w3):=Lib.hid (HGw1.out.trans (HG2.out.trans HGq.out))
 go_wp2_with fail
 exact bodyPost_ret (mail_res2 (X+1) _ _ _ _ _ _ rfl rfl (row3_set _ _ _ (heap_keep (HG2.out.trans HGq.out) HBw11.out))) rfl ⟨rfl,row3_grow _ _ _ HG3.out (by have:=HXw1.out;omega)⟩
end Go.Proofs.Ytcpodmjcgfgmnaa
namespace Go.Proofs.Ytcpodmjcgfgmnaa
open Go.RowKit
theorem mail_res3 (X:Nat) (v:Value) (tmps:Array Value) (w:World) (c0 c1 c2:Value) (h8:tmps.getD 8 undef=.pointer (some ⟨X,0,none⟩)) (h9:tmps.getD 9 undef=v) (hx:w.heap[X]?=some (.cells #[c0,c1,c2] 41 (0,0))) :
  (results Try.f28 tmps).run Try.prog w=.ok (.tuple #[.agg #[c0,c1,c2],v]) w:=by
 have x0:=(cell_of_row w X 0 _ _ _ hx).trans rfl
 have x1:=(cell_of_row w X 1 _ _ _ hx).trans rfl
 have x2:=(cell_of_row w X 2 _ _ _ hx).trans rfl
 simp at x0 x1 x2
 simp only [Array.getD_eq_getD_getElem?] at h8 h9
 simp [results,Try.results28,h8,h9,x0,x1,x2,go_sem]
def tl1 (b o n c:Nat):Value:=.slice (some (if c=1 then ⟨b,o,none⟩ else ⟨b,o+1,none⟩)) (n - 1) (c - 1)
theorem Ints.tl {w:World} {b o n c:Nat} {z:Int} {rest:List Int} (h:Ints w (.slice (some ⟨b,o,none⟩) n c) (z :: rest)) (hc:n≤c):Ints w (tl1 b o n c) rest:=by
 obtain ⟨a,cap,e,hm,hn,hcl⟩:=h
 cases e
 refine ⟨_,_,rfl,by simp,by simp,fun j hj=>?_⟩
 simp only [List.length_map] at hj
 have hc1:¬ c=1:=by simp only [List.length_cons] at hc;omega
 obtain ⟨b',o',e,hb,hcell⟩:=hcl (j+1) (by simp;omega)
 cases e
 refine ⟨b,o+1,by simp [hc1],hb,?_⟩
 rw [show o+1+j=o+(j+1) by omega,hcell]
 simp
theorem tl1_cap (b o n c:Nat) (h:n≤c):CapOk (tl1 b o n c):=⟨_,_,_,rfl,by omega⟩
set_option maxRecDepth 100000 in
set_option maxHeartbeats 1000000 in
theorem mailTake_yes (room f t:Nat) (z:Int) (vl:Value) (vs:List Value) (b:List (List Int)) (W:World) (h9:b.length=9) (hf:f < 3) (ht:t < 3) (hR:BoxAt W vl vs b) (rest:List Int) (hrl:rest.length≤100000) (hr:b.getD (f * 3+t) []=z :: rest) :
  Calls Try.prog 28 #[.agg #[.int .i64 3,.int .i64 (room:Nat),vl],.int .i64 f,.int .i64 t,.int .i64 z] W fun e w'=>(∃ (g gc:Nat) (v':Value),e=.returned (.tuple #[.agg #[.int .i64 3,.int .i64 (room:Nat),.slice (some ⟨g,0,none⟩) 9 gc],.bool true])∧w'.ownsRow W.heap.size 39 1 (.slice (some ⟨g,0,none⟩) 9 gc) 9 (vs.set (f * 3+t) v') ∧
   w'.ownsRow W.heap.size 3 1 v' rest.length (rest.map (Value.int .i64)))∧Flow.Grow W w':=by
 have HR:=Lib.hid hR
 have hk:f * 3+t < 9:=by omega
 obtain ⟨k,hkk⟩:∃ k,k=f * 3+t:=⟨_,rfl⟩
 have HAt:Hid (∀ wq la lc,Calls Try.prog 45 #[.agg #[.int .i64 3,.int .i64 (room:Nat),.slice la 9 lc],.int .i64 f,.int .i64 t] wq fun e w'=>e=.returned (.int .i64 (k:Nat))∧Flow.Grow wq w'):=Lib.hid (fun wq la lc=>by
  have h:=mailAt_any (room:Nat) la lc f t hf ht wq
  rwa [← hkk] at h)
 rw [← hkk] at hk hr ⊢
 clear hkk
 obtain ⟨lb,lo,lc,rfl,hvl,hcl,_⟩:=hR.cells (by intro e;rw [e] at h9;cases h9)
 obtain ⟨_,hints⟩:=hR
 obtain ⟨hI,ca,cn,vc,hva,hcap⟩:=hints k (by omega)
 have hc0:=hcl k (vs.getD k undef) (by simp [List.getD_eq_getElem?_getD,show k < vs.length by omega])
 rw [hr] at hI
 rw [hva] at hI hc0
 obtain ⟨vb,vo,vq,hve,_,hcell⟩:=Ints.shape hI (by simp)
 have x0:=hcell 0 (by simp)
 simp only [Nat.add_zero,List.getD_cons_zero] at x0
 simp only [List.length_cons] at hve
 cases hve
 have HC0:=Lib.hid hc0
 have HX0:=Lib.hid x0
 have HW9:=Lib.hid h9
 have HTl:=Lib.hid (hI.tl hcap)
 rw [h9] at HR ⊢
 have Hcap:=Lib.hid hcap
 clear hva hcl hints hvl h9 hc0 hcell hI x0 hr hcap
 obtain ⟨n,hn⟩:∃ n,n=rest.length:=⟨_,rfl⟩
 have Hn:=Lib.hid hn
 rw [← hn] at HTl HC0 hrl ⊢
 clear hn
 go_enter Try.func28,Try.ntmps28
 go_upto_region 1 with fail
 have HBw10:Hid (((W.alloc (.cells #[.int .i64 3,.int .i64 (room:Nat),.slice (some ⟨lb,lo,none⟩) 9 lc] 41)).alloc (.cells #[.int .i64 0,.int .i64 0,.slice none 0 0] 41)).heap[W.heap.size]?=some (.cells #[.int .i64 3,.int .i64 (room:Nat),.slice (some ⟨lb,lo,none⟩) 9 lc] 41 (0,0))):=Lib.hid (lay2_0 _ _ _)
 have HBw11:Hid (((W.alloc (.cells #[.int .i64 3,.int .i64 (room:Nat),.slice (some ⟨lb,lo,none⟩) 9 lc] 41)).alloc (.cells #[.int .i64 0,.int .i64 0,.slice none 0 0] 41)).heap[W.heap.size+1]?=some (.cells #[.int .i64 0,.int .i64 0,.slice none 0 0] 41 (0,0))):=Lib.hid (lay2_1 _ _ _)
 have HGw1:Hid (Flow.Grow W ((W.alloc (.cells #[.int .i64 3,.int .i64 (room:Nat),.slice (some ⟨lb,lo,none⟩) 9 lc] 41)).alloc (.cells #[.int .i64 0,.int .i64 0,.slice none 0 0] 41))):=Lib.hid (lay2_g _ _ _)
 have HSw1:Hid (((W.alloc (.cells #[.int .i64 3,.int .i64 (room:Nat),.slice (some ⟨lb,lo,none⟩) 9 lc] 41)).alloc (.cells #[.int .i64 0,.int .i64 0,.slice none 0 0] 41)).heap.size=W.heap.size+1+1):=Lib.hid (by simp)
 generalize (W.alloc (.cells #[.int .i64 3,.int .i64 (room:Nat),.slice (some ⟨lb,lo,none⟩) 9 lc] 41)).alloc (.cells #[.int .i64 0,.int .i64 0,.slice none 0 0] 41)=w1 at *
 obtain ⟨X,hX⟩:∃ X,X=W.heap.size:=⟨_,rfl⟩
 rw [← hX] at HBw10 HBw11 HSw1 ⊢
 have HXw1:=Lib.hid hX
 clear hX
 have CXw1:Hid (∀ wq,Flow.Grow w1 wq→wq.cell? ⟨X,0,none⟩=some (.int .i64 3)∧wq.cell? ⟨X,1,none⟩=some (.int .i64 (room:Nat))∧wq.cell? ⟨X,2,none⟩=some (.slice (some ⟨lb,lo,none⟩) 9 lc)∧wq.cell? ⟨X+1,0,none⟩=some (.int .i64 0)∧wq.cell? ⟨X+1,1,none⟩=some (.int .i64 0)∧wq.cell? ⟨X+1,2,none⟩=some (.slice none 0 0)):=Lib.hid (fun wq g=>⟨lay_cell g HBw10.out rfl,lay_cell g HBw10.out rfl,lay_cell g HBw10.out rfl,lay_cell g HBw11.out rfl,lay_cell g HBw11.out rfl,lay_cell g HBw11.out rfl⟩)
 have FXw1:Hid (∀ wq,Flow.Grow w1 wq→(∀ k,wq.frozen? ⟨X,k,none⟩=false)∧(∀ k,wq.frozen? ⟨X+1,k,none⟩=false)):=Lib.hid (fun wq g=>⟨fun k=>lay_frozen g HBw10.out k,fun k=>lay_frozen g HBw11.out k⟩)
 obtain ⟨c00,c01,c02,c10,c11,c12⟩:=CXw1.out w1 (Flow.grow_refl _)
 go_upto_region 2 with (go_at_call 45;refine (HAt.out _ _ _).mono ?_;rintro e w2 ⟨rfl,hg⟩;have HG2:=Lib.hid hg;clear hg)
 clear c00 c01 c02 c10 c11 c12
 obtain ⟨c00,c01,c02,c10,c11,c12⟩:=CXw1.out w2 (HG2.out)
 have HG3:Hid (Flow.Grow W w2):=Lib.hid (HGw1.out.trans HG2.out)
 have b0:=Xm2.cell_grow HG3.out HC0.out
 have x0:=Xm2.cell_grow HG3.out HX0.out
 have d1:decide ((k:Int) < 0)=false:=by simp
 have hlb:lb≠X+1:=by
  have h1:=HC0.out
  have h2:=HXw1.out
  intro e
  unfold World.cell? at h1
  rw [Array.getElem?_eq_none (by simp only;omega)] at h1
  cases h1
 have hX1:X≠X+1:=by omega
 obtain ⟨iM,hiM,hM0,hM1,hM2⟩:=info_parts info_mail
 have HCl:Hid (∀ wq,But W w2 (X+1) 41 3 wq→Calls Try.prog 29 #[tl1 vb vo (n+1) vc] wq fun e w'=>∃ v,e=.returned v∧Flow.Grow wq w'∧w'.ownsRow w2.heap.size 3 1 v n (rest.map (Value.int .i64))):=Lib.hid (fun wq h=>by
  have c:=clone_intsR (tl1 vb vo (n+1) vc) rest wq (by have:=Hn.out;omega) (HTl.out.grow h.grow)
  refine c.mono ?_
  rintro e w' ⟨⟨v',rfl,ho⟩,hg⟩
  rw [← Hn.out] at ho
  exact ⟨v',rfl,hg,Pr.own_mono ho h.size⟩)
 have HWi:Hid (∀ wq v,But W w2 (X+1) 41 3 wq→wq.ownsRow w2.heap.size 3 1 v n (rest.map (Value.int .i64))→Calls Try.prog 46 #[.agg #[.int .i64 3,.int .i64 (room:Nat),.slice (some ⟨lb,lo,none⟩) 9 lc],.int .i64 (k:Nat),v] wq fun e w'=>∃ v2,e=.returned v2∧Flow.Grow wq w'∧∃ g gc v,v2=.agg #[.int .i64 3,.int .i64 (room:Nat),.slice (some ⟨g,0,none⟩) 9 gc]∧w'.ownsRow w2.heap.size 39 1 (.slice (some ⟨g,0,none⟩) 9 gc) 9 (vs.set k v)∧w'.ownsRow w2.heap.size 3 1 v n (rest.map (Value.int .i64))):=Lib.hid (fun wq v hb ho=>by
  have hs:Ints wq v rest:=by
   have:=Seg.of_own ho
   unfold Ints
   rwa [← Hn.out]
  have c:=mailWith_any (room:Nat) (.slice (some ⟨lb,lo,none⟩) 9 lc) v vs b rest k wq HW9.out hk (HR.out.grow hb.grow) hs
  refine c.mono ?_
  rintro e w' ⟨⟨g,gc,rfl,hog⟩,hg⟩
  exact ⟨_,rfl,hg,g,gc,v,rfl,Pr.own_mono hog hb.size,own_keep ho hg⟩)
 go_upto_region 4 with fail
 refine Flow.regionG (C:=fun _ wq=>But W w2 (X+1) 41 3 wq) (Fs:=[.inl ((.agg #[.int .i64 3,.int .i64 (room:Nat),.slice (some ⟨lb,lo,none⟩) 9 lc])),.inl ((.int .i64 (k:Nat))),.inl ((.pointer (some ⟨X,2,none⟩))),.inl ((.slice (some ⟨lb,lo,none⟩) 9 lc)),.inl ((.int .i64 (k:Nat))),.inl ((.pointer (some ⟨lb,lo+k,none⟩))),.inl ((.slice (some ⟨vb,vo,none⟩) (n+1) vc)),.inl ((tl1 vb vo (n+1) vc)),.inr (fun v w=>w.ownsRow w2.heap.size 3 1 v n (rest.map (Value.int .i64))),.inr (fun v2 w=>∃ g gc v,v2=.agg #[.int .i64 3,.int .i64 (room:Nat),.slice (some ⟨g,0,none⟩) 9 gc]∧w.ownsRow w2.heap.size 39 1 (.slice (some ⟨g,0,none⟩) 9 gc) 9 (vs.set k v)∧w.ownsRow w2.heap.size 3 1 v n (rest.map (Value.int .i64))),.inr (fun _ w=>∃ g gc v,w.heap[X+1]?=some (.cells #[.int .i64 3,.int .i64 (room:Nat),.slice (some ⟨g,0,none⟩) 9 gc] 41 (0,0))∧w.ownsRow w2.heap.size 39 1 (.slice (some ⟨g,0,none⟩) 9 gc) 9 (vs.set k v)∧w.ownsRow w2.heap.size 3 1 v n (rest.map (Value.int .i64))),.inl ((Value.bool true))])
  [[],[],[],[2],[],[3,4],[5],[6],[7],[0,1,8],[9],[]] [[],[],[],[2],[],[2,3,4],[2,3,4,5],[2,3,4,5,6],[2,3,4,5,6,7],[0,1,2,3,4,5,6,7,8],[0,1,2,3,4,5,6,7,8,9],[]] [10] (by kernel_rfl) (by kernel_rfl) (by kernel_rfl) rfl (But.start HG3.out (heap_keep HG2.out HBw11.out) rfl) ?ones4 ?ends4
 case ones4 =>
  refine Flow.OnesG.start (by exact ⟨fun _ _ _ g h=>own_keep h g,fun _ _ _ g ⟨g',gc,v,h1,h2,h3⟩=>⟨g',gc,v,h1,own_keep h2 g,own_keep h3 g⟩,fun _ _ _ g ⟨g',gc,v,h1,h2,h3⟩=>⟨g',gc,v,heap_keep g h1,own_keep h2 g,own_keep h3 g⟩,trivial⟩) (fun L w w' i=>(fun _ _ h g=>h.more g) w w') fun HST HCG=>?_
  refine Flow.oq rfl HST HCG ?_ ?_
  ·intro L a w hC hLi hoff _
   have e4:a.eval (.tmp 4)=(.pointer (some ⟨X,0,none⟩)):=hoff.at2 4 0 hLi (by kernel_rfl)
   refine Flow.gs rfl ?_
   generalize a.eval=ρ at e4 ⊢
   have h0:=hC.cell c00 hX1
   have h1:=hC.cell c01 hX1
   have h2:=hC.cell c02 hX1
   simp [execOp,e4,h0,h1,h2,go_sem]
  refine Flow.oq rfl HST HCG ?_ ?_
  ·intro L a w hC hLi hoff _
   exact Flow.gs rfl (Flow.exec_move (.inl rfl) (hoff.at2 10 1 hLi (by kernel_rfl)))
  refine Flow.oq rfl HST HCG ?_ ?_
  ·intro L a w hC hLi hoff _
   have e4:a.eval (.tmp 4)=(.pointer (some ⟨X,0,none⟩)):=hoff.at2 4 2 hLi (by kernel_rfl)
   refine Flow.gs rfl ?_
   generalize a.eval=ρ at e4 ⊢
   simp [execOp,e4,go_sem]
  refine Flow.oq rfl HST HCG ?_ ?_
  ·rintro L a w hC hLi hoff ⟨k2,-⟩
   have e40:=Flow.kv k2 rfl rfl
   refine Flow.gs rfl ?_
   generalize a.eval=ρ at e40 ⊢
   have h2:=hC.cell c02 hX1
   simp [execOp,e40,h2,go_sem]
  refine Flow.oq rfl HST HCG ?_ ?_
  ·intro L a w hC hLi hoff _
   exact Flow.gs rfl (Flow.exec_move (.inl rfl) (hoff.at2 10 4 hLi (by kernel_rfl)))
  refine Flow.oq rfl HST HCG ?_ ?_
  ·rintro L a w hC hLi hoff ⟨k3,k4,-⟩
   have e41:=Flow.kv k3 rfl rfl
   have e42:=Flow.kv k4 rfl rfl
   refine Flow.gs rfl ?_
   generalize a.eval=ρ at e41 e42 ⊢
   simp [execOp,e41,e42,go_sem];intro hh;omega
  refine Flow.oq rfl HST HCG ?_ ?_
  ·rintro L a w hC hLi hoff ⟨k5,-⟩
   have e43:=Flow.kv k5 rfl rfl
   refine Flow.gs rfl ?_
   generalize a.eval=ρ at e43 ⊢
   have h2:=hC.cell b0 hlb
   simp [execOp,e43,h2,go_sem]
  refine Flow.oq rfl HST HCG ?_ ?_
  ·rintro L a w hC hLi hoff ⟨k6,-⟩
   have e44:=Flow.kv k6 rfl rfl
   refine Flow.gs rfl ?_
   have ec:=Flow.eval_const a
   generalize a.eval=ρ at e44 ec ⊢
   unfold tl1
   by_cases hc1:vc=1
   ·simp [execOp,e44,hc1,ec,go_sem];intro hh;omega
   ·simp [execOp,e44,hc1,ec,go_sem];intro hh;omega
  refine Flow.oq rfl HST HCG ?_ ?_
  ·rintro L a w hC hLi hoff ⟨k7,-⟩
   have e45:=Flow.kv k7 rfl rfl
   exact .inl ⟨Flow.want_none rfl,Flow.run_call (Flow.exec_call rfl Try.func29 (by kernel_rfl) (by kernel_rfl) (by simp only [List.map_toArray,List.map_cons,List.map_nil,e45] <;> rfl)) (HCl.out w hC)⟩
  refine Flow.oq rfl HST HCG ?_ ?_
  ·rintro L a w hC hLi hoff ⟨k0,k1,k8,-⟩
   have e38:=Flow.kv k0 rfl rfl
   have e39:=Flow.kv k1 rfl rfl
   have e46:=Flow.kr k8 rfl rfl
   exact .inl ⟨Flow.want_none rfl,Flow.run_call (Flow.exec_call rfl Try.func46 (by kernel_rfl) (by kernel_rfl) (by simp only [List.map_toArray,List.map_cons,List.map_nil,e38,e39] <;> rfl)) (HWi.out w _ hC e46)⟩
  refine Flow.OnesG.cons (Flow.OneG.w (by kernel_rfl) ?_) ?_
  ·rintro L a w hC hLi hoff ⟨k9,-⟩
   have e47:=Flow.kr k9 rfl rfl
   have e8:a.eval (.tmp 8)=(.pointer (some ⟨X+1,0,none⟩)):=hoff.at2 8 10 hLi (by kernel_rfl)
   refine ⟨Flow.want_none rfl,?_⟩
   obtain ⟨g,gc,v,e47,ho1,ho2⟩:=e47
   refine wp_sto (s:=8) (x:=47) rfl rfl hiM hM1 rfl (by intro v hv;simp at hv;rcases hv with rfl | rfl | rfl <;> rfl) (W:=W) (X+1) hC.grow (by have:=HXw1.out;omega) e8 e47 hC.row_ fun w' h2 h3 h4 h5=>?_
   exact ⟨undef,rfl,hC.store h2 h3 h4 rfl h5,fun s _=>⟨g,gc,v,h4,own_heap ho1 fun g' hg'=>h5 g' (by have:=(ho1.lt g' hg').1;have:=hC.lies;omega),own_heap ho2 fun g' hg'=>h5 g' (by have:=(ho2.lt g' hg').1;have:=hC.lies;omega)⟩⟩
  refine Flow.oq rfl HST HCG ?_ ?_
  ·intro L a w hC hLi hoff _
   exact Flow.gs rfl (Flow.exec_move (.inr rfl) rfl)
  exact trivial
 case ends4 =>
  intro LL wx hLL hC
  iterate 8 refine Flow.endsG_v rfl ?_
  refine Flow.endsG_r rfl fun v46 _=>?_
  refine Flow.endsG_r rfl fun v47 _=>?_
  refine Flow.endsG_s rfl rfl rfl fun hE10=>?_
  refine Flow.endsG_v rfl ?_
  refine Flow.endsG_nil ?_
  simp only [Act.put,List.setIfInBounds_toArray,List.set_cons_succ,List.set_cons_zero]
  obtain ⟨g,gc,v,hY,ho1,ho2⟩:=hE10
  go_wp2_with fail
  have hw:=HG3.out.size
  exact bodyPost_ret (mail_res3 (X+1) _ _ _ _ _ _ rfl rfl hY) rfl ⟨⟨g,gc,v,rfl,Pr.own_mono ho1 hw,Pr.own_mono ho2 hw⟩,hC.grow⟩
set_option maxRecDepth 100000 in
set_option maxHeartbeats 1000000 in
theorem mailTake_no (room f t:Nat) (z:Int) (vl:Value) (vs:List Value) (b:List (List Int)) (W:World) (h9:b.length=9) (hf:f < 3) (ht:t < 3) (hR:BoxAt W vl vs b) (hr:(b.getD (f * 3+t) []).head?≠some z) :
  Calls Try.prog 28 #[.agg #[.int .i64 3,.int .i64 (room:Nat),vl],.int .i64 f,.int .i64 t,.int .i64 z] W fun e w'=>e=.returned (.tuple #[.agg #[.int .i64 3,.int .i64 (room:Nat),vl],.bool false])∧Flow.Grow W w':=by
 have HR:=Lib.hid hR
 have hk:f * 3+t < 9:=by omega
 obtain ⟨k,hkk⟩:∃ k,k=f * 3+t:=⟨_,rfl⟩
 have HAt:Hid (∀ wq la lc,Calls Try.prog 45 #[.agg #[.int .i64 3,.int .i64 (room:Nat),.slice la 9 lc],.int .i64 f,.int .i64 t] wq fun e w'=>e=.returned (.int .i64 (k:Nat))∧Flow.Grow wq w'):=Lib.hid (fun wq la lc=>by
  have h:=mailAt_any (room:Nat) la lc f t hf ht wq
  rwa [← hkk] at h)
 rw [← hkk] at hk hr
 clear hkk
 obtain ⟨lb,lo,lc,rfl,hvl,hcl,_⟩:=hR.cells (by intro e;rw [e] at h9;cases h9)
 obtain ⟨_,hints⟩:=hR
 obtain ⟨hI,ca,cn,vc,hva,hcap⟩:=hints k (by omega)
 have hc0:=hcl k (vs.getD k undef) (by simp [List.getD_eq_getElem?_getD,show k < vs.length by omega])
 rw [hva] at hI hc0
 have HC0:=Lib.hid hc0
 have HW9:=Lib.hid h9
 rw [h9] at HR ⊢
 clear hcl hints hvl h9 hc0
 generalize b.getD k []=row at *
 cases row with
 | nil =>
  obtain ⟨_,_,hve,_⟩:=id hI
  cases hve
  clear hva hcap hI
  go_enter Try.func28,Try.ntmps28
  go_upto_region 1 with fail
  have HBw10:Hid (((W.alloc (.cells #[.int .i64 3,.int .i64 (room:Nat),.slice (some ⟨lb,lo,none⟩) 9 lc] 41)).alloc (.cells #[.int .i64 0,.int .i64 0,.slice none 0 0] 41)).heap[W.heap.size]?=some (.cells #[.int .i64 3,.int .i64 (room:Nat),.slice (some ⟨lb,lo,none⟩) 9 lc] 41 (0,0))):=Lib.hid (lay2_0 _ _ _)
  have HBw11:Hid (((W.alloc (.cells #[.int .i64 3,.int .i64 (room:Nat),.slice (some ⟨lb,lo,none⟩) 9 lc] 41)).alloc (.cells #[.int .i64 0,.int .i64 0,.slice none 0 0] 41)).heap[W.heap.size+1]?=some (.cells #[.int .i64 0,.int .i64 0,.slice none 0 0] 41 (0,0))):=Lib.hid (lay2_1 _ _ _)
  have HGw1:Hid (Flow.Grow W ((W.alloc (.cells #[.int .i64 3,.int .i64 (room:Nat),.slice (some ⟨lb,lo,none⟩) 9 lc] 41)).alloc (.cells #[.int .i64 0,.int .i64 0,.slice none 0 0] 41))):=Lib.hid (lay2_g _ _ _)
  have HSw1:Hid (((W.alloc (.cells #[.int .i64 3,.int .i64 (room:Nat),.slice (some ⟨lb,lo,none⟩) 9 lc] 41)).alloc (.cells #[.int .i64 0,.int .i64 0,.slice none 0 0] 41)).heap.size=W.heap.size+1+1):=Lib.hid (by simp)
  generalize (W.alloc (.cells #[.int .i64 3,.int .i64 (room:Nat),.slice (some ⟨lb,lo,none⟩) 9 lc] 41)).alloc (.cells #[.int .i64 0,.int .i64 0,.slice none 0 0] 41)=w1 at *
  obtain ⟨X,hX⟩:∃ X,X=W.heap.size:=⟨_,rfl⟩
  rw [← hX] at HBw10 HBw11 HSw1 ⊢
  have HXw1:=Lib.hid hX
  clear hX
  have CXw1:Hid (∀ wq,Flow.Grow w1 wq→wq.cell? ⟨X,0,none⟩=some (.int .i64 3)∧wq.cell? ⟨X,1,none⟩=some (.int .i64 (room:Nat))∧wq.cell? ⟨X,2,none⟩=some (.slice (some ⟨lb,lo,none⟩) 9 lc)∧wq.cell? ⟨X+1,0,none⟩=some (.int .i64 0)∧wq.cell? ⟨X+1,1,none⟩=some (.int .i64 0)∧wq.cell? ⟨X+1,2,none⟩=some (.slice none 0 0)):=Lib.hid (fun wq g=>⟨lay_cell g HBw10.out rfl,lay_cell g HBw10.out rfl,lay_cell g HBw10.out rfl,lay_cell g HBw11.out rfl,lay_cell g HBw11.out rfl,lay_cell g HBw11.out rfl⟩)
  have FXw1:Hid (∀ wq,Flow.Grow w1 wq→(∀ k,wq.frozen? ⟨X,k,none⟩=false)∧(∀ k,wq.frozen? ⟨X+1,k,none⟩=false)):=Lib.hid (fun wq g=>⟨fun k=>lay_frozen g HBw10.out k,fun k=>lay_frozen g HBw11.out k⟩)
  obtain ⟨c00,c01,c02,c10,c11,c12⟩:=CXw1.out w1 (Flow.grow_refl _)
  go_upto_region 2 with (go_at_call 45;refine (HAt.out _ _ _).mono ?_;rintro e w2 ⟨rfl,hg⟩;have HG2:=Lib.hid hg;clear hg)
  clear c00 c01 c02 c10 c11 c12
  obtain ⟨c00,c01,c02,c10,c11,c12⟩:=CXw1.out w2 (HG2.out)
  obtain ⟨f0,f1⟩:=FXw1.out w2 (HG2.out)
  have HG3:Hid (Flow.Grow W w2):=Lib.hid (HGw1.out.trans HG2.out)
  have b0:=Xm2.cell_grow HG3.out HC0.out
  have d1:decide ((k:Int) < 0)=false:=by simp
  go_wp2_with fail
  exact bodyPost_ret (mail_res3 (X+1) _ _ _ _ _ _ rfl rfl (row3_set _ _ _ (heap_keep HG2.out HBw11.out))) rfl ⟨rfl,row3_grow _ _ _ HG3.out (by have:=HXw1.out;omega)⟩
 | cons y rest =>
  obtain ⟨vb,vo,vq,hve,_,hcell⟩:=Ints.shape hI (by simp)
  have x0:=hcell 0 (by simp)
  simp only [Nat.add_zero,List.getD_cons_zero] at x0
  simp only [List.length_cons] at hve
  cases hve
  have HX0:=Lib.hid x0
  have hyz:y≠z:=fun e=>hr (by rw [e];rfl)
  have hb1:(y != z)=true:=by simpa using hyz
  clear hva hcap hI hr x0 hcell hyz
  obtain ⟨n,hn⟩:∃ n,n=rest.length:=⟨_,rfl⟩
  rw [← hn] at HC0
  clear hn
  go_enter Try.func28,Try.ntmps28
  go_upto_region 1 with fail
  have HBw10:Hid (((W.alloc (.cells #[.int .i64 3,.int .i64 (room:Nat),.slice (some ⟨lb,lo,none⟩) 9 lc] 41)).alloc (.cells #[.int .i64 0,.int .i64 0,.slice none 0 0] 41)).heap[W.heap.size]?=some (.cells #[.int .i64 3,.int .i64 (room:Nat),.slice (some ⟨lb,lo,none⟩) 9 lc] 41 (0,0))):=Lib.hid (lay2_0 _ _ _)
  have HBw11:Hid (((W.alloc (.cells #[.int .i64 3,.int .i64 (room:Nat),.slice (some ⟨lb,lo,none⟩) 9 lc] 41)).alloc (.cells #[.int .i64 0,.int .i64 0,.slice none 0 0] 41)).heap[W.heap.size+1]?=some (.cells #[.int .i64 0,.int .i64 0,.slice none 0 0] 41 (0,0))):=Lib.hid (lay2_1 _ _ _)
  have HGw1:Hid (Flow.Grow W ((W.alloc (.cells #[.int .i64 3,.int .i64 (room:Nat),.slice (some ⟨lb,lo,none⟩) 9 lc] 41)).alloc (.cells #[.int .i64 0,.int .i64 0,.slice none 0 0] 41))):=Lib.hid (lay2_g _ _ _)
  have HSw1:Hid (((W.alloc (.cells #[.int .i64 3,.int .i64 (room:Nat),.slice (some ⟨lb,lo,none⟩) 9 lc] 41)).alloc (.cells #[.int .i64 0,.int .i64 0,.slice none 0 0] 41)).heap.size=W.heap.size+1+1):=Lib.hid (by simp)
  generalize (W.alloc (.cells #[.int .i64 3,.int .i64 (room:Nat),.slice (some ⟨lb,lo,none⟩) 9 lc] 41)).alloc (.cells #[.int .i64 0,.int .i64 0,.slice none 0 0] 41)=w1 at *
  obtain ⟨X,hX⟩:∃ X,X=W.heap.size:=⟨_,rfl⟩
  rw [← hX] at HBw10 HBw11 HSw1 ⊢
  have HXw1:=Lib.hid hX
  clear hX
  have CXw1:Hid (∀ wq,Flow.Grow w1 wq→wq.cell? ⟨X,0,none⟩=some (.int .i64 3)∧wq.cell? ⟨X,1,none⟩=some (.int .i64 (room:Nat))∧wq.cell? ⟨X,2,none⟩=some (.slice (some ⟨lb,lo,none⟩) 9 lc)∧wq.cell? ⟨X+1,0,none⟩=some (.int .i64 0)∧wq.cell? ⟨X+1,1,none⟩=some (.int .i64 0)∧wq.cell? ⟨X+1,2,none⟩=some (.slice none 0 0)):=Lib.hid (fun wq g=>⟨lay_cell g HBw10.out rfl,lay_cell g HBw10.out rfl,lay_cell g HBw10.out rfl,lay_cell g HBw11.out rfl,lay_cell g HBw11.out rfl,lay_cell g HBw11.out rfl⟩)
  have FXw1:Hid (∀ wq,Flow.Grow w1 wq→(∀ k,wq.frozen? ⟨X,k,none⟩=false)∧(∀ k,wq.frozen? ⟨X+1,k,none⟩=false)):=Lib.hid (fun wq g=>⟨fun k=>lay_frozen g HBw10.out k,fun k=>lay_frozen g HBw11.out k⟩)
  obtain ⟨c00,c01,c02,c10,c11,c12⟩:=CXw1.out w1 (Flow.grow_refl _)
  go_upto_region 2 with (go_at_call 45;refine (HAt.out _ _ _).mono ?_;rintro e w2 ⟨rfl,hg⟩;have HG2:=Lib.hid hg;clear hg)
  clear c00 c01 c02 c10 c11 c12
  obtain ⟨c00,c01,c02,c10,c11,c12⟩:=CXw1.out w2 (HG2.out)
  obtain ⟨f0,f1⟩:=FXw1.out w2 (HG2.out)
  have HG3:Hid (Flow.Grow W w2):=Lib.hid (HGw1.out.trans HG2.out)
  have b0:=Xm2.cell_grow HG3.out HC0.out
  have d1:decide ((k:Int) < 0)=false:=by simp
  have x0:=Xm2.cell_grow HG3.out HX0.out
  go_wp2_with fail
  exact bodyPost_ret (mail_res3 (X+1) _ _ _ _ _ _ rfl rfl (row3_set _ _ _ (heap_keep HG2.out HBw11.out))) rfl ⟨rfl,row3_grow _ _ _ HG3.out (by have:=HXw1.out;omega)⟩
set_option maxRecDepth 100000 in
set_option maxHeartbeats 1000000 in
theorem mailBox_any (room:Int) (f t:Nat) (vl:Value) (vs:List Value) (b:List (List Int)) (W:World) (h9:b.length=9) (hf:f < 3) (ht:t < 3) (hR:BoxAt W vl vs b) (hl:(b.getD (f * 3+t) []).length≤100000) :
  Calls Try.prog 31 #[.agg #[.int .i64 3,.int .i64 room,vl],.int .i64 f,.int .i64 t] W fun e w'=>(∃ v',e=.returned v'∧Ints w' v' (b.getD (f * 3+t) []))∧Flow.Grow W w':=by
 have HR:=Lib.hid hR
 have hk:f * 3+t < 9:=by omega
 obtain ⟨k,hkk⟩:∃ k,k=f * 3+t:=⟨_,rfl⟩
 have HAt:Hid (∀ wq la lc,Calls Try.prog 45 #[.agg #[.int .i64 3,.int .i64 room,.slice la 9 lc],.int .i64 f,.int .i64 t] wq fun e w'=>e=.returned (.int .i64 (k:Nat))∧Flow.Grow wq w'):=Lib.hid (fun wq la lc=>by
  have h:=mailAt_any room la lc f t hf ht wq
  rwa [← hkk] at h)
 rw [← hkk] at hk hl ⊢
 clear hkk
 obtain ⟨lb,lo,lc,rfl,hvl,hcl,_⟩:=hR.cells (by intro e;rw [e] at h9;cases h9)
 obtain ⟨_,hints⟩:=hR
 obtain ⟨hI,ca,cn,vc,hva,hcap⟩:=hints k (by omega)
 have hc0:=hcl k (vs.getD k undef) (by simp [List.getD_eq_getElem?_getD,show k < vs.length by omega])
 rw [hva] at hI hc0
 have HC0:=Lib.hid hc0
 have HW9:=Lib.hid h9
 rw [h9] at HR ⊢
 have HI:=Lib.hid hI
 clear hva hcap hcl hints hvl h9 hc0 hI
 generalize b.getD k []=row at *
 go_enter Try.func31,Try.ntmps31
 go_upto_region 1 with fail
 have HBw10:Hid ((W.alloc (.cells #[.int .i64 3,.int .i64 room,.slice (some ⟨lb,lo,none⟩) 9 lc] 41)).heap[W.heap.size]?=some (.cells #[.int .i64 3,.int .i64 room,.slice (some ⟨lb,lo,none⟩) 9 lc] 41 (0,0))):=Lib.hid (lay1_0 _ _)
 have HGw1:Hid (Flow.Grow W (W.alloc (.cells #[.int .i64 3,.int .i64 room,.slice (some ⟨lb,lo,none⟩) 9 lc] 41))):=Lib.hid (lay1_g _ _)
 have HSw1:Hid ((W.alloc (.cells #[.int .i64 3,.int .i64 room,.slice (some ⟨lb,lo,none⟩) 9 lc] 41)).heap.size=W.heap.size+1):=Lib.hid (by simp)
 generalize W.alloc (.cells #[.int .i64 3,.int .i64 room,.slice (some ⟨lb,lo,none⟩) 9 lc] 41)=w1 at *
 obtain ⟨X,hX⟩:∃ X,X=W.heap.size:=⟨_,rfl⟩
 rw [← hX] at HBw10 HSw1 ⊢
 have HXw1:=Lib.hid hX
 clear hX
 have CXw1:Hid (∀ wq,Flow.Grow w1 wq→wq.cell? ⟨X,0,none⟩=some (.int .i64 3)∧wq.cell? ⟨X,1,none⟩=some (.int .i64 room)∧wq.cell? ⟨X,2,none⟩=some (.slice (some ⟨lb,lo,none⟩) 9 lc)):=Lib.hid (fun wq g=>⟨lay_cell g HBw10.out rfl,lay_cell g HBw10.out rfl,lay_cell g HBw10.out rfl⟩)
 have FXw1:Hid (∀ wq,Flow.Grow w1 wq→(∀ k,wq.frozen? ⟨X,k,none⟩=false)):=Lib.hid (fun wq g=>fun k=>lay_frozen g HBw10.out k)
 obtain ⟨c00,c01,c02⟩:=CXw1.out w1 (Flow.grow_refl _)
 go_upto_region 2 with (go_at_call 45;refine (HAt.out _ _ _).mono ?_;rintro e w2 ⟨rfl,hg⟩;have HG2:=Lib.hid hg;clear hg)
 clear c00 c01 c02
 obtain ⟨c00,c01,c02⟩:=CXw1.out w2 (HG2.out)
 have HG3:Hid (Flow.Grow W w2):=Lib.hid (HGw1.out.trans HG2.out)
 have b0:=Xm2.cell_grow HG3.out HC0.out
 have d1:decide ((k:Int) < 0)=false:=by simp
 have HCl:=Lib.hid (clone_intsR _ row w2 (by omega) (HI.out.grow HG3.out))
 go_wp2_with (go_at_call 29;refine HCl.out.mono ?_;rintro e w3 ⟨⟨v',rfl,ho⟩,hg⟩;have HG4:=Lib.hid hg;have HO:=Lib.hid ho;clear hg ho)
 go_ret
 exact ⟨⟨_,rfl,Seg.of_own HO.out⟩,HG3.out.trans HG4.out⟩
end Go.Proofs.Ytcpodmjcgfgmnaa
