/- galliardref23.Labels, Any by their contracts. -/
import Derived.Test.YtcpodmjcgfgmnaaGreatRefDfa
import Derived.Deep.DeepCutAuto
import Derived.BigRegion
import Derived.Deep.RegionWith
namespace Go.Proofs.YtcpodmjcgfgmnaaGreat
open Go.RowKit
namespace Ref23
def labs:List (Int × Int × Int):=[(0,1,0),(0,1,1),(0,2,0),(1,0,0),(2,1,0)]
def labV:List Value:=[.int .i64 0,.int .i64 1,.int .i64 0,.int .i64 0,.int .i64 1,.int .i64 1,.int .i64 0,.int .i64 2,.int .i64 0,.int .i64 1,.int .i64 0,.int .i64 0,.int .i64 2,.int .i64 1,.int .i64 0]
def LabAt (w:World) (v:Value) (L:Nat):Prop:=Seg 3 w v L (labV.take (L * 3))
theorem LabAt.grow {w w':World} {v:Value} {L:Nat} (h:LabAt w v L) (g:Flow.Grow w w'):LabAt w' v L:=Seg.grow h g
theorem LabAt.of {w:World} {g L:Nat} (hL:L≤5) (h:w.heap[g]?=some (.cells labV.toArray 71 (0,0))):LabAt w (.slice (some ⟨g,0,none⟩) L 5) L:=by
 refine ⟨some ⟨g,0,none⟩,5,rfl,?_,by simp,fun j hj=>⟨g,0,rfl,(Array.getElem?_eq_some_iff.1 h).1,?_⟩⟩
 ·rw [List.length_take];show min (L * 3) 15=L * 3;omega
 ·rw [cell_of_row w g _ _ _ _ h,Nat.zero_add];rw [List.length_take] at hj;rw [List.getElem?_toArray,List.getElem?_take_of_lt (by omega)]
end Ref23
set_option maxRecDepth 100000 in
set_option maxHeartbeats 400000 in
theorem Qtx (L:Nat) (hL:L≤4) (W:World):Calls Tryz.prog 16 #[.int .i64 L] W fun e w'=>(∃ g,e=.returned (.slice (some ⟨g,0,none⟩) L 5)∧W.heap.size≤g∧w'.heap[g]?=some (.cells Ref23.labV.toArray 71 (0,0)))∧Flow.Grow W w':=by
 have e1:min (max (L:Int) 0) 5=(L:Int):=by omega
 go_enter Tryz.func16,Tryz.ntmps16;go_wp2;go_ret;exact ⟨⟨_,rfl,Nat.le_refl _,heap_alloc_new _ _⟩,Flow.grow_alloc _ _⟩
theorem Qxm (tmps:Array Value) (w:World) (X:Nat) (c0 c1 c2 c3 v:Value) (h6:tmps.getD 6 undef=.pointer (some ⟨X,0,none⟩)) (h7:tmps.getD 7 undef=v) (hx:w.heap[X]?=some (.cells #[c0,c1,c2,c3] 27 (0,0))) :
  (results Tryz.f5 tmps).run Tryz.prog w=.ok (.tuple #[.agg #[c0,c1,c2,c3],v]) w:=by
 have x0:=(cell_of_row w X 0 _ _ _ hx).trans rfl;have x1:=(cell_of_row w X 1 _ _ _ hx).trans rfl;have x2:=(cell_of_row w X 2 _ _ _ hx).trans rfl;have x3:=(cell_of_row w X 3 _ _ _ hx).trans rfl;simp at x0 x1 x2 x3;simp only [Array.getD_eq_getD_getElem?] at h6 h7;simp [results,Tryz.results5,h6,h7,x0,x1,x2,x3,go_sem]
theorem Qba {w:World} {g:Nat} {T:TypeId} {d0 d1 d2 d3:Value} (c0 c1 c2 c3:Value) (h:w.heap[g]?=some (.cells #[d0,d1,d2,d3] T (0,0))) :
  ((((w.setCell ⟨g,0,none⟩ c0).setCell ⟨g,1,none⟩ c1).setCell ⟨g,2,none⟩ c2).setCell ⟨g,3,none⟩ c3).heap[g]?=some (.cells #[c0,c1,c2,c3] T (0,0)):=by
 have h1:=heap_setCell_same w g 0 _ T c0 h;have h2:=heap_setCell_same _ g 1 _ T c1 h1;have h3:=heap_setCell_same _ g 2 _ T c2 h2;exact heap_setCell_same _ g 3 _ T c3 h3
theorem Qa2 {w0 w:World} {g:Nat} (c0 c1 c2 c3:Value) (h:Flow.Grow w0 w) (hg:w0.heap.size≤g):Flow.Grow w0 ((((w.setCell ⟨g,0,none⟩ c0).setCell ⟨g,1,none⟩ c1).setCell ⟨g,2,none⟩ c2).setCell ⟨g,3,none⟩ c3) :=
 Qag (Qag (Qag (Qag h hg _ _) hg _ _) hg _ _) hg _ _
namespace Ref23
def AnyPost (zs:List Int) (fin s0 s1:Int) (n:Nat) (W:World) (e:Ending) (w':World):Prop :=
 (∃ vf vn rs G vl,e=.returned (.tuple #[.agg #[.int .i64 (Ref18.labels s0:Int),.int .i64 (Ref18.start s1 (Ref18.states s1):Int),vf,vn],vl])∧W.heap.size≤G ∧
   DfaSt w' G (Ref18.labels s0) (Ref18.start s1 (Ref18.states s1)) vf vn (Ref18.finals fin (Ref18.states s1)) (Ref18.nexts (Ref18.states s1) (Ref18.labels s0) zs (Ref18.moves (Ref18.labels s0) n)) rs ∧
   LabAt w' vl (Ref18.labels s0))∧Flow.Grow W w'
end Ref23
set_option maxRecDepth 100000 in
set_option maxHeartbeats 1000000 in
theorem Zde (v:Value) (zs:List Int) (fin s0 s1:Int) (n:Nat) (W:World) (hn:n≤9223372036854775807) (h:Seg 3 W v n (zs.map (Value.int .i64))) :
  Calls Tryz.prog 5 #[v,.int .i64 fin,.agg #[.int .i64 s0,.int .i64 s1]] W (Ref23.AnyPost zs fin s0 s1 n W):=by
 have H:=Lib.hid h;have G1:=Lib.hid (Flow.grow_alloc W (.cells #[.int .i64 s0,.int .i64 s1] 23));have G2:=Lib.hid (G1.out.trans (Flow.grow_alloc _ (.cells #[.int .i64 0,.int .i64 0,.slice none 0 0,.slice none 0 0] 27)));have R2:Hid ((((W.alloc (.cells #[.int .i64 s0,.int .i64 s1] 23)).alloc (.cells #[.int .i64 0,.int .i64 0,.slice none 0 0,.slice none 0 0] 27))).heap[W.heap.size+1]?=some (.cells #[.int .i64 0,.int .i64 0,.slice none 0 0,.slice none 0 0] 27 (0,0))):=Lib.hid (by simpa using heap_alloc_new (W.alloc (.cells #[.int .i64 s0,.int .i64 s1] 23)) _);have HL:Hid (Ref18.labels s0≤4):=Lib.hid (by rw [Ref18.labels];omega);obtain ⟨X,hX⟩:∃ X,X=W.heap.size+1:=⟨_,rfl⟩;have HX:=Lib.hid hX;clear h hX;go_enter Tryz.func5,Tryz.ntmps5;go_upto_region 1 with fail;rw [← HX.out] at R2 ⊢;have A2:Hid ((((W.alloc (.cells #[.int .i64 s0,.int .i64 s1] 23)).alloc (.cells #[.int .i64 0,.int .i64 0,.slice none 0 0,.slice none 0 0] 27))).heap[W.heap.size]?=some (.cells #[.int .i64 s0,.int .i64 s1] 23 (0,0))):=Lib.hid (by
  rw [Below.heap_alloc _ _ _ (by simp)];exact heap_alloc_new _ _)
 generalize (W.alloc (.cells #[.int .i64 s0,.int .i64 s1] 23)).alloc (.cells #[.int .i64 0,.int .i64 0,.slice none 0 0,.slice none 0 0] 27)=w1 at *;have a0:w1.cell? ⟨W.heap.size,0,none⟩=some (.int .i64 s0):=(cell_of_row w1 _ 0 _ _ _ A2.out).trans rfl;have a1:w1.cell? ⟨W.heap.size,1,none⟩=some (.int .i64 s1):=(cell_of_row w1 _ 1 _ _ _ A2.out).trans rfl;have HD:=Lib.hid (Qtb v zs fin s0 s1 n w1 hn (H.out.grow G2.out));obtain ⟨L,hL⟩:∃ L,L=Ref18.labels s0:=⟨_,rfl⟩;obtain ⟨S,hS⟩:∃ S,S=Ref18.start s1 (Ref18.states s1):=⟨_,rfl⟩;obtain ⟨F,hF⟩:∃ F,F=Ref18.finals fin (Ref18.states s1):=⟨_,rfl⟩;obtain ⟨N,hN⟩:∃ N,N=Ref18.nexts (Ref18.states s1) (Ref18.labels s0) zs (Ref18.moves (Ref18.labels s0) n):=⟨_,rfl⟩;have HU:Hid (∀ e w',((∃ vf vn rs G vl,e=.returned (.tuple #[.agg #[.int .i64 (L:Int),.int .i64 (S:Int),vf,vn],vl])∧W.heap.size≤G∧DfaSt w' G L S vf vn F N rs∧Ref23.LabAt w' vl L)∧Flow.Grow W w')→Ref23.AnyPost zs fin s0 s1 n W e w'):=Lib.hid (fun e w' h=>by
  unfold Ref23.AnyPost;rw [← hN,← hL,← hS,← hF];exact h)
 rw [← hL] at HL;rw [← hN,← hL,← hS,← hF] at HD;clear hL hS hF hN hn;go_upto_region 2 with (go_at_call 15;refine HD.out.mono ?_;rintro e w3 ⟨⟨vf,vn,rs,rfl,hD⟩,hg3⟩;obtain ⟨fa,fc,rfl⟩:=Qaw hD.finals;obtain ⟨na,nc,rfl⟩:=Qaw hD.nexts);have HDf:=Lib.hid hD;have HX1:Hid (X < w1.heap.size):=Lib.hid (Array.getElem?_eq_some_iff.1 R2.out).1;have R4:=Lib.hid (And.intro (heap_alloc_new w3 (.cells #[.int .i64 (L:Int),.int .i64 (S:Int),.slice fa F.length fc,.slice na N.length nc] 27)) (Flow.grow_alloc w3 (.cells #[.int .i64 (L:Int),.int .i64 (S:Int),.slice fa F.length fc,.slice na N.length nc] 27)));obtain ⟨Y,hY⟩:∃ Y,Y=w3.heap.size:=⟨_,rfl⟩;have R3:Hid (w3.heap[X]?=_):=Lib.hid ((hg3.block X (Array.getElem?_eq_some_iff.1 R2.out).1 (by simp)).trans R2.out);have G3:=Lib.hid (G2.out.trans hg3);have HXY:Hid (X≠Y):=Lib.hid (by have:=(Array.getElem?_eq_some_iff.1 R3.out).1;omega);rw [← hY] at R4 ⊢;clear hY hD hg3 R2 A2 a0 a1 HD G1;generalize w3.alloc (.cells #[.int .i64 (L:Int),.int .i64 (S:Int),.slice fa F.length fc,.slice na N.length nc] 27)=w4 at *;have R5:Hid (w4.heap[X]?=_):=Lib.hid ((R4.out.2.block X (Array.getElem?_eq_some_iff.1 R3.out).1 (by simp)).trans R3.out);have CC:Hid (∀ wq,Flow.Grow w4 wq→(wq.cell? ⟨Y,0,none⟩=some (.int .i64 (L:Int))∧wq.cell? ⟨Y,1,none⟩=some (.int .i64 (S:Int))∧wq.cell? ⟨Y,2,none⟩=some (.slice fa F.length fc)∧wq.cell? ⟨Y,3,none⟩=some (.slice na N.length nc)∧wq.frozen? ⟨X,0,none⟩=false∧wq.frozen? ⟨X,1,none⟩=false∧wq.frozen? ⟨X,2,none⟩=false∧wq.frozen? ⟨X,3,none⟩=false ∧
   wq.cell? ⟨X,0,none⟩=some (.int .i64 0)∧wq.cell? ⟨X,1,none⟩=some (.int .i64 0)∧wq.cell? ⟨X,2,none⟩=some (.slice none 0 0)∧wq.cell? ⟨X,3,none⟩=some (.slice none 0 0))):=Lib.hid (fun wq h=>by
  have y:=(h.block Y (Array.getElem?_eq_some_iff.1 R4.out.1).1 (by simp)).trans R4.out.1;have x:=(h.block X (Array.getElem?_eq_some_iff.1 R5.out).1 (by simp)).trans R5.out;exact ⟨(cell_of_row wq _ 0 _ _ _ y).trans rfl,(cell_of_row wq _ 1 _ _ _ y).trans rfl,(cell_of_row wq _ 2 _ _ _ y).trans rfl,(cell_of_row wq _ 3 _ _ _ y).trans rfl,frozen_of_row wq _ _ _ _ x,frozen_of_row wq _ _ _ _ x,frozen_of_row wq _ _ _ _ x,frozen_of_row wq _ _ _ _ x,
   (cell_of_row wq _ 0 _ _ _ x).trans rfl,(cell_of_row wq _ 1 _ _ _ x).trans rfl,(cell_of_row wq _ 2 _ _ _ x).trans rfl,(cell_of_row wq _ 3 _ _ _ x).trans rfl⟩)
 have HW:Hid (∀ wq,Flow.Grow w4 wq→W.heap.size≤w1.heap.size+1∧DfaSt ((((wq.setCell ⟨X,0,none⟩ (.int .i64 (L:Int))).setCell ⟨X,1,none⟩ (.int .i64 (S:Int))).setCell ⟨X,2,none⟩ (.slice fa F.length fc)).setCell ⟨X,3,none⟩ (.slice na N.length nc)) (w1.heap.size+1) L S (.slice fa F.length fc) (.slice na N.length nc) F N rs ∧
   Flow.Grow W ((((wq.setCell ⟨X,0,none⟩ (.int .i64 (L:Int))).setCell ⟨X,1,none⟩ (.int .i64 (S:Int))).setCell ⟨X,2,none⟩ (.slice fa F.length fc)).setCell ⟨X,3,none⟩ (.slice na N.length nc)) ∧
   ((((wq.setCell ⟨X,0,none⟩ (.int .i64 (L:Int))).setCell ⟨X,1,none⟩ (.int .i64 (S:Int))).setCell ⟨X,2,none⟩ (.slice fa F.length fc)).setCell ⟨X,3,none⟩ (.slice na N.length nc)).heap[X]?=some (.cells #[.int .i64 (L:Int),.int .i64 (S:Int),.slice fa F.length fc,.slice na N.length nc] 27 (0,0))):=Lib.hid (fun wq h=>by
  have hx:=HX1.out;have hX:=HX.out;have hd:=HDf.out.grow (R4.out.2.trans h);exact ⟨by omega,(((hd.old (by omega) _ _).old (by omega) _ _).old (by omega) _ _).old (by omega) _ _,Qa2 _ _ _ _ (G3.out.trans (R4.out.2.trans h)) (by omega),Qba _ _ _ _ ((h.block X (Array.getElem?_eq_some_iff.1 R5.out).1 (by simp)).trans R5.out)⟩)
 obtain ⟨y0,y1,y2,y3,xf0,xf1,xf2,xf3,x0,x1,x2,x3⟩:=CC.out w4 (Flow.grow_refl _);go_region_with (go_at_call 16;refine (Qtx L HL.out _).mono ?_;rintro e w5 ⟨⟨vg,rfl,hvg,hl⟩,hg⟩;have HL5:=Lib.hid (And.intro hvg hl);have HG5:=Lib.hid ((Flow.grow_drew w4).trans hg);obtain ⟨z0,z1,z2,z3,zf0,zf1,zf2,zf3,u0,u1,u2,u3⟩:=CC.out w5 HG5.out;clear hl hg hvg)
 all_goals
  obtain ⟨h1,h2,h3,h4⟩:=HW.out w5 HG5.out;go_wp2_with fail;refine bodyPost_ret (Qxm _ _ X _ _ _ _ _ rfl rfl h4) rfl (HU.out _ _ ⟨⟨_,_,_,_,_,rfl,h1,h2,?_⟩,h3⟩);have hz:X < w4.heap.size:=(Array.getElem?_eq_some_iff.1 R5.out).1;have hv:X≠vg:=by have:=HL5.out.1;simp at this;omega
  have hL4:=HL.out;refine Ref23.LabAt.of (by omega) ?_;rw [Below.heap_setCell _ _ _ _ (Ne.symm hv),Below.heap_setCell _ _ _ _ (Ne.symm hv),Below.heap_setCell _ _ _ _ (Ne.symm hv),Below.heap_setCell _ _ _ _ (Ne.symm hv)];exact HL5.out.2
end Go.Proofs.YtcpodmjcgfgmnaaGreat
