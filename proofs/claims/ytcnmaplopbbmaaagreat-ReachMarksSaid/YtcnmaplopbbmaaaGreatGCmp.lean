/- alpha.Compare by its contract, with how much the world draws; slices.SortFunc of interactions. -/
import Derived.Test.YtcnmaplopbbmaaaGreatMAj
import Derived.Sort.Grow
import Derived.Deep.Draws
namespace Go.Proofs.YtcnmaplopbbmaaaGreat
open Go.RowKit
def GrowD (w w':World):Prop:=Flow.Grow w w'∧w.drawn≤w'.drawn
theorem GrowD.refl (w:World):GrowD w w:=⟨Flow.grow_refl w,Nat.le_refl _⟩
theorem GrowD.trans {w w' w'':World} (h:GrowD w w') (k:GrowD w' w''):GrowD w w'':=⟨h.1.trans k.1,Nat.le_trans h.2 k.2⟩
theorem GrowD.alloc (w:World) (o:Obj):GrowD w (w.alloc o):=⟨Flow.grow_alloc w o,Nat.le_refl _⟩
theorem GrowD.drew (w:World):GrowD w w.drew:=⟨Flow.grow_drew w,Nat.le_succ _⟩
theorem GrowD.form {w w':World} (h:GrowD w w'):∃ q os',w'=Go.Sort.grow (w.drewN q) os':=by
 obtain ⟨g,hd⟩:=h
 refine ⟨w'.drawn - w.drawn,w'.heap.extract w.heap.size w'.heap.size,?_⟩
 have hh:w.heap++w'.heap.extract w.heap.size w'.heap.size=w'.heap:=by
  refine Array.ext_getElem? fun i=>?_
  rw [Array.getElem?_append]
  split
  ·rename_i hi
   exact (g.block i hi (by simp)).symm
  ·rename_i hi
   rw [Array.getElem?_extract]
   split
   ·rw [show w.heap.size+(i - w.heap.size)=i by omega]
   ·rename_i h2
    rw [Array.getElem?_eq_none (by omega)]
 cases w
 cases w'
 have h1:=g.os
 have h2:=g.tape
 have h3:=g.output
 simp only at h1 h2 h3 hh hd
 subst h1 h2 h3
 simp only [Go.Sort.grow,World.drewN,hh,World.mk.injEq,true_and,and_true]
 omega
set_option maxRecDepth 100000 in
set_option maxHeartbeats 1000000 in
theorem compareD (a b:Gr.Lb) (W:World):Calls Tryz.prog 48 #[.agg (Gr.lcells a).toArray,.agg (Gr.lcells b).toArray] W fun e w'=>e=.returned (.int .i64 (Gr.cmpL a b))∧GrowD W w':=by
 obtain ⟨a0,a1,a2⟩:=a
 obtain ⟨b0,b1,b2⟩:=b
 show Calls _ _ #[.agg #[.int .i64 a0,.int .i64 a1,.int .i64 a2],.agg #[.int .i64 b0,.int .i64 b1,.int .i64 b2]] W fun e w'=>e=.returned (.int .i64 (Gr.orL [Lib.compareInt a0 b0,Lib.compareInt a1 b1,Lib.compareInt a2 b2]))∧GrowD W w'
 have HC0:=Lib.hid (Tryz.cmp_Compare_int a0 b0)
 have HC1:=Lib.hid (Tryz.cmp_Compare_int a1 b1)
 have HC2:=Lib.hid (Tryz.cmp_Compare_int a2 b2)
 generalize Lib.compareInt a0 b0=c0 at *
 generalize Lib.compareInt a1 b1=c1 at *
 generalize Lib.compareInt a2 b2=c2 at *
 go_enter Tryz.func48,Tryz.ntmps48
 go_upto_region 1 with fail
 obtain ⟨w1,hw1⟩:∃ w1,w1=(W.alloc (.cells #[.int .i64 a0,.int .i64 a1,.int .i64 a2] 104)).alloc (.cells #[.int .i64 b0,.int .i64 b1,.int .i64 b2] 104):=⟨_,rfl⟩
 have HG1:Hid (GrowD W w1):=Lib.hid (by rw [hw1];exact (GrowD.alloc _ _).trans (GrowD.alloc _ _))
 obtain ⟨X,hX⟩:∃ X,X=W.heap.size:=⟨_,rfl⟩
 have HX:Hid (w1.heap[X]? = some (.cells #[.int .i64 a0,.int .i64 a1,.int .i64 a2] 104 (0,0))):=Lib.hid (by rw [hw1,hX];exact ((Flow.grow_alloc _ _).block _ (by simp) (by simp)).trans (heap_alloc_new W _))
 have HY:Hid (w1.heap[X+1]? = some (.cells #[.int .i64 b0,.int .i64 b1,.int .i64 b2] 104 (0,0))):=Lib.hid (by rw [hw1,hX];exact hp_new2 W _ _)
 rw [← hw1,← hX]
 clear hw1 hX
 have q0:w1.cell? ⟨X,0,none⟩=some (.int .i64 a0):=(cell_of_row w1 X 0 _ _ _ HX.out).trans rfl
 have q1:w1.cell? ⟨X,1,none⟩=some (.int .i64 a1):=(cell_of_row w1 X 1 _ _ _ HX.out).trans rfl
 have q2:w1.cell? ⟨X,2,none⟩=some (.int .i64 a2):=(cell_of_row w1 X 2 _ _ _ HX.out).trans rfl
 have p0:w1.cell? ⟨X+1,0,none⟩=some (.int .i64 b0):=(cell_of_row w1 (X+1) 0 _ _ _ HY.out).trans rfl
 have p1:w1.cell? ⟨X+1,1,none⟩=some (.int .i64 b1):=(cell_of_row w1 (X+1) 1 _ _ _ HY.out).trans rfl
 have p2:w1.cell? ⟨X+1,2,none⟩=some (.int .i64 b2):=(cell_of_row w1 (X+1) 2 _ _ _ HY.out).trans rfl
 refine Flow.region (R:=GrowD) (C:=GrowD w1) (Fs:=[.inl ((.pointer (some ⟨X,0,none⟩))),.inl ((.int .i64 a0)),.inl ((.pointer (some ⟨X+1,0,none⟩))),.inl ((.int .i64 b0)),.inl ((.int .i64 c0)),.inl ((.pointer (some ⟨X,1,none⟩))),.inl ((.int .i64 a1)),.inl ((.pointer (some ⟨X+1,1,none⟩))),.inl ((.int .i64 b1)),.inl ((.int .i64 c1)),.inl ((.pointer (some ⟨X,2,none⟩))),.inl ((.int .i64 a2)),.inl ((.pointer (some ⟨X+1,2,none⟩))),.inl ((.int .i64 b2)),.inl ((.int .i64 c2)),.inr (fun v w=>Ints w v [c0,c1,c2]),.inl ((.int .i64 (Gr.orL [c0,c1,c2]))),.inl ((.int .i64 (Gr.orL [c0,c1,c2])))])
  (S:=[[],[0],[],[2],[1,3],[],[5],[],[7],[6,8],[],[10],[],[12],[11,13],[4,9,14],[15],[16]]) (by kernel_rfl) (by kernel_rfl) (by kernel_rfl) rfl ?stab1 (GrowD.refl) (fun _ _ h k=>h.trans k) (GrowD.drew _) ?ones1 ?ends1
 case ones1 =>
  refine Flow.Ones.cons ?_ ?_
  ·intro a w hC hoff _
   have e2:a.eval (.tmp 2)=(.pointer (some ⟨X,0,none⟩)):=hoff.at 2 (by kernel_rfl)
   refine .inl ⟨Flow.want_none rfl,?_⟩
   refine Flow.run_same ?_ GrowD.refl
   have ec:=Flow.eval_const a
   generalize a.eval=ρ at e2 ec ⊢
   simp [execOp,e2,go_sem]
  refine Flow.Ones.cons ?_ ?_
  ·rintro a w hC hoff ⟨k0,-⟩
   have e5:a.eval (.tmp 5)=(.pointer (some ⟨X,0,none⟩)):=k0 5 rfl
   refine .inl ⟨Flow.want_none rfl,?_⟩
   refine Flow.run_same ?_ GrowD.refl
   have ec:=Flow.eval_const a
   generalize a.eval=ρ at e5 ec ⊢
   have h0:=Xm2.cell_grow hC.1 q0
   simp [execOp,e5,h0,go_sem]
  refine Flow.Ones.cons ?_ ?_
  ·intro a w hC hoff _
   have e3:a.eval (.tmp 3)=(.pointer (some ⟨X+1,0,none⟩)):=hoff.at 3 (by kernel_rfl)
   refine .inl ⟨Flow.want_none rfl,?_⟩
   refine Flow.run_same ?_ GrowD.refl
   have ec:=Flow.eval_const a
   generalize a.eval=ρ at e3 ec ⊢
   simp [execOp,e3,go_sem]
  refine Flow.Ones.cons ?_ ?_
  ·rintro a w hC hoff ⟨k2,-⟩
   have e7:a.eval (.tmp 7)=(.pointer (some ⟨X+1,0,none⟩)):=k2 7 rfl
   refine .inl ⟨Flow.want_none rfl,?_⟩
   refine Flow.run_same ?_ GrowD.refl
   have ec:=Flow.eval_const a
   generalize a.eval=ρ at e7 ec ⊢
   have h0:=Xm2.cell_grow hC.1 p0
   simp [execOp,e7,h0,go_sem]
  refine Flow.Ones.cons ?_ ?_
  ·rintro a w hC hoff ⟨k1,k3,-⟩
   have e6:a.eval (.tmp 6)=(.int .i64 a0):=k1 6 rfl
   have e8:a.eval (.tmp 8)=(.int .i64 b0):=k3 8 rfl
   refine .inl ⟨Flow.want_none rfl,?_⟩
   exact Flow.run_call (Flow.exec_call rfl Tryz.func70 (by kernel_rfl) (by kernel_rfl) (by simp [e6,e8])) ((HC0.out _).mono fun e w' ⟨he,hg⟩=>⟨_,he,by rw [hg];exact GrowD.refl _,rfl⟩)
  refine Flow.Ones.cons ?_ ?_
  ·intro a w hC hoff _
   have e2:a.eval (.tmp 2)=(.pointer (some ⟨X,0,none⟩)):=hoff.at 2 (by kernel_rfl)
   refine .inl ⟨Flow.want_none rfl,?_⟩
   refine Flow.run_same ?_ GrowD.refl
   have ec:=Flow.eval_const a
   generalize a.eval=ρ at e2 ec ⊢
   simp [execOp,e2,go_sem]
  refine Flow.Ones.cons ?_ ?_
  ·rintro a w hC hoff ⟨k5,-⟩
   have e10:a.eval (.tmp 10)=(.pointer (some ⟨X,1,none⟩)):=k5 10 rfl
   refine .inl ⟨Flow.want_none rfl,?_⟩
   refine Flow.run_same ?_ GrowD.refl
   have ec:=Flow.eval_const a
   generalize a.eval=ρ at e10 ec ⊢
   have h0:=Xm2.cell_grow hC.1 q1
   simp [execOp,e10,h0,go_sem]
  refine Flow.Ones.cons ?_ ?_
  ·intro a w hC hoff _
   have e3:a.eval (.tmp 3)=(.pointer (some ⟨X+1,0,none⟩)):=hoff.at 3 (by kernel_rfl)
   refine .inl ⟨Flow.want_none rfl,?_⟩
   refine Flow.run_same ?_ GrowD.refl
   have ec:=Flow.eval_const a
   generalize a.eval=ρ at e3 ec ⊢
   simp [execOp,e3,go_sem]
  refine Flow.Ones.cons ?_ ?_
  ·rintro a w hC hoff ⟨k7,-⟩
   have e12:a.eval (.tmp 12)=(.pointer (some ⟨X+1,1,none⟩)):=k7 12 rfl
   refine .inl ⟨Flow.want_none rfl,?_⟩
   refine Flow.run_same ?_ GrowD.refl
   have ec:=Flow.eval_const a
   generalize a.eval=ρ at e12 ec ⊢
   have h0:=Xm2.cell_grow hC.1 p1
   simp [execOp,e12,h0,go_sem]
  refine Flow.Ones.cons ?_ ?_
  ·rintro a w hC hoff ⟨k6,k8,-⟩
   have e11:a.eval (.tmp 11)=(.int .i64 a1):=k6 11 rfl
   have e13:a.eval (.tmp 13)=(.int .i64 b1):=k8 13 rfl
   refine .inl ⟨Flow.want_none rfl,?_⟩
   exact Flow.run_call (Flow.exec_call rfl Tryz.func70 (by kernel_rfl) (by kernel_rfl) (by simp [e11,e13])) ((HC1.out _).mono fun e w' ⟨he,hg⟩=>⟨_,he,by rw [hg];exact GrowD.refl _,rfl⟩)
  refine Flow.Ones.cons ?_ ?_
  ·intro a w hC hoff _
   have e2:a.eval (.tmp 2)=(.pointer (some ⟨X,0,none⟩)):=hoff.at 2 (by kernel_rfl)
   refine .inl ⟨Flow.want_none rfl,?_⟩
   refine Flow.run_same ?_ GrowD.refl
   have ec:=Flow.eval_const a
   generalize a.eval=ρ at e2 ec ⊢
   simp [execOp,e2,go_sem]
  refine Flow.Ones.cons ?_ ?_
  ·rintro a w hC hoff ⟨k10,-⟩
   have e15:a.eval (.tmp 15)=(.pointer (some ⟨X,2,none⟩)):=k10 15 rfl
   refine .inl ⟨Flow.want_none rfl,?_⟩
   refine Flow.run_same ?_ GrowD.refl
   have ec:=Flow.eval_const a
   generalize a.eval=ρ at e15 ec ⊢
   have h0:=Xm2.cell_grow hC.1 q2
   simp [execOp,e15,h0,go_sem]
  refine Flow.Ones.cons ?_ ?_
  ·intro a w hC hoff _
   have e3:a.eval (.tmp 3)=(.pointer (some ⟨X+1,0,none⟩)):=hoff.at 3 (by kernel_rfl)
   refine .inl ⟨Flow.want_none rfl,?_⟩
   refine Flow.run_same ?_ GrowD.refl
   have ec:=Flow.eval_const a
   generalize a.eval=ρ at e3 ec ⊢
   simp [execOp,e3,go_sem]
  refine Flow.Ones.cons ?_ ?_
  ·rintro a w hC hoff ⟨k12,-⟩
   have e17:a.eval (.tmp 17)=(.pointer (some ⟨X+1,2,none⟩)):=k12 17 rfl
   refine .inl ⟨Flow.want_none rfl,?_⟩
   refine Flow.run_same ?_ GrowD.refl
   have ec:=Flow.eval_const a
   generalize a.eval=ρ at e17 ec ⊢
   have h0:=Xm2.cell_grow hC.1 p2
   simp [execOp,e17,h0,go_sem]
  refine Flow.Ones.cons ?_ ?_
  ·rintro a w hC hoff ⟨k11,k13,-⟩
   have e16:a.eval (.tmp 16)=(.int .i64 a2):=k11 16 rfl
   have e18:a.eval (.tmp 18)=(.int .i64 b2):=k13 18 rfl
   refine .inl ⟨Flow.want_none rfl,?_⟩
   exact Flow.run_call (Flow.exec_call rfl Tryz.func70 (by kernel_rfl) (by kernel_rfl) (by simp [e16,e18])) ((HC2.out _).mono fun e w' ⟨he,hg⟩=>⟨_,he,by rw [hg];exact GrowD.refl _,rfl⟩)
  refine Flow.Ones.cons ?_ ?_
  ·rintro a w hC hoff ⟨k4,k9,k14,-⟩
   have e9:a.eval (.tmp 9)=(.int .i64 c0):=k4 9 rfl
   have e14:a.eval (.tmp 14)=(.int .i64 c1):=k9 14 rfl
   have e19:a.eval (.tmp 19)=(.int .i64 c2):=k14 19 rfl
   refine .inl ⟨Flow.want_none rfl,?_⟩
   refine Flow.run_val (v:=.slice (some ⟨w.heap.size,0,none⟩) 3 3) (w':=w.alloc (.cells #[.int .i64 c0,.int .i64 c1,.int .i64 c2] 3)) ?_ (GrowD.alloc _ _) ?_
   ·generalize a.eval=ρ at e9 e14 e19 ⊢;simp [execOp,e9,e14,e19,go_sem]
   ·exact ⟨_,3,rfl,by simp,by simp,fun j hj=>⟨w.heap.size,0,rfl,by simp,by rw [Nat.zero_add,World.cell?_alloc_new];simp⟩⟩
  refine Flow.Ones.cons ?_ ?_
  ·rintro a w hC hoff ⟨k15,-⟩
   have e20:(fun v w=>Ints w v [c0,c1,c2]) (a.eval (.tmp 20)) w:=k15 20 rfl
   refine .inl ⟨Flow.want_none rfl,?_⟩
   exact Flow.run_call (Flow.exec_call rfl Tryz.func69 (by kernel_rfl) (by kernel_rfl) (by simp)) ((cmpOr_any _ _ w (by simp) e20).mono fun e w' ⟨he,hg⟩=>⟨_,he,by rw [← hg];exact GrowD.refl _,rfl⟩)
  refine Flow.Ones.cons ?_ ?_
  ·rintro a w hC hoff ⟨k16,-⟩
   have e21:a.eval (.tmp 21)=(.int .i64 (Gr.orL [c0,c1,c2])):=k16 21 rfl
   refine .inl ⟨Flow.want_none rfl,?_⟩
   exact Flow.run_same (Flow.exec_move (.inr rfl) e21) GrowD.refl
  exact trivial
 case stab1=>exact ⟨fun v w w' hR h=>Ints.grow h hR.1,trivial⟩
 case ends1 =>
  intro w' hg
  simp only [Flow.ends]
  intro v20 _
  simp only [Act.put,List.setIfInBounds_toArray,List.set_cons_succ,List.set_cons_zero]
  go_wp2
  go_ret
  exact ⟨rfl,HG1.out.trans hg⟩
end Go.Proofs.YtcnmaplopbbmaaaGreat
