/- graph.Places by its contract. -/
import Derived.Test.YtcnmaplopbbmaaaGreatMAh
import Derived.Test.YtcnmaplopbbmaaaGreatFlow
import Derived.Test.YtcnmaplopbbmaaaGreatOwn
namespace Go.Proofs.YtcnmaplopbbmaaaGreat
open Go.RowKit
set_option maxRecDepth 100000 in
set_option maxHeartbeats 1000000 in
theorem places_any (v0 v1 v2 v3:Value) (g:Gr.G) (W:World) (hf:g.Few) (h:Gr.GAt W v0 v1 v2 v3 g) :
  Calls Tryz.prog 11 #[.agg #[v0,v1,v2,v3]] W fun e w'=>e=.returned (.int .i64 (g.places:Int))∧Flow.Grow W w':=by
 have HT:Hid (∀ w,Flow.Grow W w→Calls Tryz.prog 25 #[.agg #[v0,v1,v2,v3]] w fun e w'=>(∃ a c,e=.returned (.slice a g.tasks.length c))∧Flow.Grow w w'):=Lib.hid fun w hg=>(graphTasks_any v0 v1 v2 _ g.ns w hf.ns (Gr.Recs.grow h.nodes hg)).mono fun e w' ⟨⟨va,a,b⟩,c⟩=>⟨by obtain ⟨x,y,rfl⟩:=own_form b;exact ⟨x,y,a⟩,c⟩
 have hl:g.tasks.length≤1000000:=Nat.le_trans (Gr.tasks_len g.ns _) hf.ns
 have hes:=hf.es
 have HB:Hid (g.places=g.es.length+2 * g.tasks.length):=Lib.hid rfl
 generalize g.places=r at *
 generalize g.tasks.length=t at *
 obtain ⟨⟨a0,c0,rfl⟩,⟨a1,c1,rfl⟩,h2,h3⟩:=h
 obtain ⟨a2,c2,rfl⟩:=Gr.Recs.form h2
 obtain ⟨a3,c3,rfl⟩:=Gr.Recs.form h3
 clear h2 h3 hf
 generalize g.ns.length=ln at *
 generalize g.es.length=le at *
 generalize g.np=lp at *
 generalize g.nm=lm at *
 go_enter Tryz.func11,Tryz.ntmps11
 go_upto_region 1 with fail
 obtain ⟨w1,hw1⟩:∃ w1,w1=W.alloc (.cells #[.slice a0 lp c0,.slice a1 lm c1,.slice a2 ln c2,.slice a3 le c3] 27):=⟨_,rfl⟩
 have HG1:Hid (Flow.Grow W w1):=Lib.hid (by rw [hw1];exact Flow.grow_alloc _ _)
 obtain ⟨X,hX⟩:∃ X,X=W.heap.size:=⟨_,rfl⟩
 have HX:Hid (w1.heap[X]? = some (.cells #[.slice a0 lp c0,.slice a1 lm c1,.slice a2 ln c2,.slice a3 le c3] 27 (0,0))):=Lib.hid (by rw [hw1,hX];exact heap_alloc_new W _)
 rw [← hw1,← hX]
 clear hw1 hX
 have q0:w1.cell? ⟨X,0,none⟩=some (.slice a0 lp c0):=(cell_of_row w1 X 0 _ _ _ HX.out).trans rfl
 have q1:w1.cell? ⟨X,1,none⟩=some (.slice a1 lm c1):=(cell_of_row w1 X 1 _ _ _ HX.out).trans rfl
 have q2:w1.cell? ⟨X,2,none⟩=some (.slice a2 ln c2):=(cell_of_row w1 X 2 _ _ _ HX.out).trans rfl
 have q3:w1.cell? ⟨X,3,none⟩=some (.slice a3 le c3):=(cell_of_row w1 X 3 _ _ _ HX.out).trans rfl
 refine Flow.region_grown (Fs:=[.inl ((.pointer (some ⟨X,3,none⟩))),.inl ((.slice a3 le c3)),.inl ((.int .i64 (le:Int))),.inl ((.agg #[.slice a0 lp c0,.slice a1 lm c1,.slice a2 ln c2,.slice a3 le c3])),.inr (fun v w=>∃ a c,v=.slice a t c),.inl ((.int .i64 (t:Int))),.inl ((.int .i64 (2 * t:Int))),.inl ((.int .i64 (r:Int))),.inl ((.int .i64 (r:Int)))])
  (S:=[[],[0],[1],[],[3],[4],[5],[2,6],[7]]) (by kernel_rfl) (by kernel_rfl) (by kernel_rfl) rfl ?stab1 ?ones1 ?ends1
 case ones1 =>
  refine Flow.Ones.cons ?_ ?_
  ·intro a w hC hoff _
   have e1:a.eval (.tmp 1)=(.pointer (some ⟨X,0,none⟩)):=hoff.at 1 (by kernel_rfl)
   refine .inl ⟨Flow.want_none rfl,?_⟩
   refine Flow.run_same ?_ Flow.grow_refl
   have ec:=Flow.eval_const a
   generalize a.eval=ρ at e1 ec ⊢
   simp [execOp,e1,go_sem]
  refine Flow.Ones.cons ?_ ?_
  ·rintro a w hC hoff ⟨k0,-⟩
   have e3:a.eval (.tmp 3)=(.pointer (some ⟨X,3,none⟩)):=k0 3 rfl
   refine .inl ⟨Flow.want_none rfl,?_⟩
   refine Flow.run_same ?_ Flow.grow_refl
   have ec:=Flow.eval_const a
   generalize a.eval=ρ at e3 ec ⊢
   have h0:=Xm2.cell_grow hC q3
   simp [execOp,e3,h0,go_sem]
  refine Flow.Ones.cons ?_ ?_
  ·rintro a w hC hoff ⟨k1,-⟩
   have e4:a.eval (.tmp 4)=(.slice a3 le c3):=k1 4 rfl
   refine .inl ⟨Flow.want_none rfl,?_⟩
   refine Flow.run_same ?_ Flow.grow_refl
   have ec:=Flow.eval_const a
   generalize a.eval=ρ at e4 ec ⊢
   simp [e4,go_sem]
  refine Flow.Ones.cons ?_ ?_
  ·intro a w hC hoff _
   have e1:a.eval (.tmp 1)=(.pointer (some ⟨X,0,none⟩)):=hoff.at 1 (by kernel_rfl)
   refine .inl ⟨Flow.want_none rfl,?_⟩
   refine Flow.run_same ?_ Flow.grow_refl
   have ec:=Flow.eval_const a
   generalize a.eval=ρ at e1 ec ⊢
   have h0:=Xm2.cell_grow hC q0
   have h1:=Xm2.cell_grow hC q1
   have h2:=Xm2.cell_grow hC q2
   have h3:=Xm2.cell_grow hC q3
   simp [execOp,e1,h0,h1,h2,h3,go_sem]
  refine Flow.Ones.cons ?_ ?_
  ·rintro a w hC hoff ⟨k3,-⟩
   have e6:a.eval (.tmp 6)=(.agg #[.slice a0 lp c0,.slice a1 lm c1,.slice a2 ln c2,.slice a3 le c3]):=k3 6 rfl
   refine .inl ⟨Flow.want_none rfl,?_⟩
   exact Flow.run_call (Flow.exec_call rfl Tryz.func25 (by kernel_rfl) (by kernel_rfl) (by simp [e6])) ((HT.out _ (HG1.out.trans hC)).mono fun e w' ⟨⟨a,c,he⟩,hg⟩=>⟨_,he,hg,a,c,rfl⟩)
  refine Flow.Ones.cons ?_ ?_
  ·rintro a w hC hoff ⟨k4,-⟩
   have e7:(fun v w=>∃ a c,v=.slice a t c) (a.eval (.tmp 7)) w:=k4 7 rfl
   refine .inl ⟨Flow.want_none rfl,?_⟩
   obtain ⟨x,y,h7⟩:=e7
   refine Flow.run_same ?_ Flow.grow_refl
   generalize a.eval=ρ at h7 ⊢
   simp [h7,go_sem]
  refine Flow.Ones.cons ?_ ?_
  ·rintro a w hC hoff ⟨k5,-⟩
   have e8:a.eval (.tmp 8)=(.int .i64 (t:Int)):=k5 8 rfl
   refine .inl ⟨Flow.want_none rfl,?_⟩
   refine Flow.run_same ?_ Flow.grow_refl
   have ec:=Flow.eval_const a
   generalize a.eval=ρ at e8 ec ⊢
   simp [execOp,e8,ec,go_sem];exact IntWalk.i64_in _ (by omega)
  refine Flow.Ones.cons ?_ ?_
  ·rintro a w hC hoff ⟨k2,k6,-⟩
   have e5:a.eval (.tmp 5)=(.int .i64 (le:Int)):=k2 5 rfl
   have e9:a.eval (.tmp 9)=(.int .i64 (2 * t:Int)):=k6 9 rfl
   refine .inl ⟨Flow.want_none rfl,?_⟩
   refine Flow.run_same ?_ Flow.grow_refl
   have ec:=Flow.eval_const a
   generalize a.eval=ρ at e5 e9 ec ⊢
   have hb:=HB.out
   simp [execOp,e5,e9,go_sem];rw [hb];exact IntWalk.i64_in _ (by omega)
  refine Flow.Ones.cons ?_ ?_
  ·rintro a w hC hoff ⟨k7,-⟩
   have e10:a.eval (.tmp 10)=(.int .i64 (r:Int)):=k7 10 rfl
   refine .inl ⟨Flow.want_none rfl,?_⟩
   exact Flow.run_same (Flow.exec_move (.inr rfl) e10) Flow.grow_refl
  exact trivial
 case stab1=>exact ⟨fun v w w' hR h=>h,trivial⟩
 case ends1 =>
  intro w' hg
  simp only [Flow.ends]
  intro v7 _
  simp only [Act.put,List.setIfInBounds_toArray,List.set_cons_succ,List.set_cons_zero]
  go_wp2
  go_ret
  exact ⟨rfl,HG1.out.trans hg⟩
end Go.Proofs.YtcnmaplopbbmaaaGreat
namespace Go.Proofs.YtcnmaplopbbmaaaGreat
open Go.RowKit
set_option maxRecDepth 100000 in
set_option maxHeartbeats 400000 in
theorem part_any (p:Int) (X:Nat) (a:Option Addr) (c:Nat) (g:Gr.G) (w:World) (_hf:g.np≤1000000) (hc:w.cell? ⟨X,0,none⟩=some (.slice a g.np c)) :
  Calls Tryz.prog 26 #[.int .i64 p,.pointer (some ⟨X,0,none⟩)] w fun e w'=>e=.returned (.bool (g.partOk p))∧w=w':=by
 have HP:Hid (g.partOk p=decide (0≤p∧p < (g.np:Int))):=Lib.hid rfl
 generalize g.partOk p=r at *
 by_cases h0:0≤p
 ·have d0:decide (0≤p)=true:=by simp [h0]
  by_cases h1:p < (g.np:Int)
  ·have d1:decide (p < (g.np:Int))=true:=by simp [h1]
   have HE:Hid (r=true):=Lib.hid (by rw [HP.out];simp [h0,h1])
   go_enter Tryz.func26,Tryz.ntmps26
   go_wp2_with fail
   go_ret
   exact ⟨by rw [HE.out];rfl,rfl⟩
  ·have d1:decide (p < (g.np:Int))=false:=by simp [h1]
   have HE:Hid (r=false):=Lib.hid (by rw [HP.out];simp [h1])
   go_enter Tryz.func26,Tryz.ntmps26
   go_wp2_with fail
   go_ret
   exact ⟨by rw [HE.out];rfl,rfl⟩
 ·have d0:decide (0≤p)=false:=by simp [h0]
  have HE:Hid (r=false):=Lib.hid (by rw [HP.out];simp [h0])
  go_enter Tryz.func26,Tryz.ntmps26
  go_wp2_with fail
  go_ret
  exact ⟨by rw [HE.out];rfl,rfl⟩
set_option maxRecDepth 100000 in
set_option maxHeartbeats 6000000 in
theorem node_any (v0 v1 v2 v3:Value) (g:Gr.G) (n:Gr.Nd) (W:World) (hf:g.Few) (h:Gr.GAt W v0 v1 v2 v3 g) :
  Calls Tryz.prog 12 #[.agg #[v0,v1,v2,v3],.agg n.cells.toArray] W fun e w'=>e=.returned (.bool (g.nodeOk n))∧Flow.Grow W w':=by
 obtain ⟨⟨a0,c0,rfl⟩,⟨a1,c1,rfl⟩,h2,h3⟩:=h
 obtain ⟨a2,c2,rfl⟩:=Gr.Recs.form h2
 obtain ⟨a3,c3,rfl⟩:=Gr.Recs.form h3
 clear h2 h3
 obtain ⟨x0,x1,x2,x3,x4,x5,x6⟩:=n
 have hf0:=hf.np
 have hf1:=hf.nm
 have HP:=Lib.hid fun p X a c (w:World) hc=>part_any p X a c g w hf0 hc
 have HN:Hid (g.nodeOk ⟨x0,x1,x2,x3,x4,x5,x6⟩=if x0 < 1∨6 < x0 then false else if x0≠3 then true else g.partOk x2 && g.partOk x3 && decide (x2≠x3) && decide (0≤x4∧x4 < (g.nm:Int)) && decide (-1≤x5∧x5 < (g.nm:Int))):=Lib.hid rfl
 show Calls _ _ #[_,.agg #[.int .i64 x0,.string x1,.int .i64 x2,.int .i64 x3,.int .i64 x4,.int .i64 x5,.bool x6]] W _
 generalize g.nodeOk ⟨x0,x1,x2,x3,x4,x5,x6⟩=r at *
 generalize g.ns.length=ln at *
 generalize g.es.length=le at *
 generalize g.np=lp at *
 generalize g.nm=lm at *
 clear hf
 have HP2:Hid (g.partOk x2=g.partOk x2):=Lib.hid rfl
 obtain ⟨b2,hb2⟩:∃ b,b=g.partOk x2:=⟨_,rfl⟩
 obtain ⟨b3,hb3⟩:∃ b,b=g.partOk x3:=⟨_,rfl⟩
 rw [← hb2,← hb3] at HN
 have Hb2:=Lib.hid hb2.symm
 have Hb3:=Lib.hid hb3.symm
 clear hb2 hb3 HP2
 have g1:(W.alloc (.cells #[.slice a0 lp c0,.slice a1 lm c1,.slice a2 ln c2,.slice a3 le c3] 27)).cell? ⟨W.heap.size,0,none⟩=some (.slice a0 lp c0):=(cell_of_row _ _ 0 _ _ _ (heap_alloc_new W _)).trans rfl
 have HG1:=Lib.hid g1
 clear g1
 by_cases h0:x0 < 1
 ·have d0:decide (x0 < 1)=true:=by simp [h0]
  have HE:Hid (r=false):=Lib.hid (by rw [HN.out];rw [if_pos (.inl h0)])
  go_enter Tryz.func12,Tryz.ntmps12
  go_wp2_with (go_at_call 26;refine (HP.out _ _ _ _ _ (Xm2.cell_grow (Flow.grow_alloc _ _) HG1.out)).mono ?_;rintro e w1 ⟨rfl,rfl⟩;first | rw [Hb2.out] | rw [Hb3.out])
  go_ret
  exact ⟨by rw [HE.out];rfl,(Flow.grow_alloc _ _).trans (Flow.grow_alloc _ _)⟩
 ·have d0:decide (x0 < 1)=false:=by simp [h0]
  by_cases h1:6 < x0
  ·have d1:decide (6 < x0)=true:=by simp [h1]
   have HE:Hid (r=false):=Lib.hid (by rw [HN.out];rw [if_pos (.inr h1)])
   go_enter Tryz.func12,Tryz.ntmps12
   go_wp2_with (go_at_call 26;refine (HP.out _ _ _ _ _ (Xm2.cell_grow (Flow.grow_alloc _ _) HG1.out)).mono ?_;rintro e w1 ⟨rfl,rfl⟩;first | rw [Hb2.out] | rw [Hb3.out])
   go_ret
   exact ⟨by rw [HE.out];rfl,(Flow.grow_alloc _ _).trans (Flow.grow_alloc _ _)⟩
  ·have d1:decide (6 < x0)=false:=by simp [h1]
   have HN2:=HN.out
   rw [if_neg (by rintro (h | h);exact h0 h;exact h1 h)] at HN2
   replace HN:=Lib.hid HN2
   clear HN2
   by_cases h2:x0=3
   ·have d2:(x0 != 3)=false:=by simp [h2]
    have HN2:=HN.out
    rw [if_neg (by simp [h2])] at HN2
    replace HN:=Lib.hid HN2
    clear HN2
    go_enter Tryz.func12,Tryz.ntmps12
    go_upto_region 6 with fail
    cases b2 with
    | false =>
     have HE:Hid (r=false):=Lib.hid (by rw [HN.out];simp)
     go_wp2_with (go_at_call 26;refine (HP.out _ _ _ _ _ (Xm2.cell_grow (Flow.grow_alloc _ _) HG1.out)).mono ?_;rintro e w1 ⟨rfl,rfl⟩;first | rw [Hb2.out] | rw [Hb3.out])
     go_ret
     exact ⟨by rw [HE.out];rfl,(Flow.grow_alloc _ _).trans (Flow.grow_alloc _ _)⟩
    | true =>
     cases b3 with
     | false =>
      have HE:Hid (r=false):=Lib.hid (by rw [HN.out];simp)
      go_wp2_with (go_at_call 26;refine (HP.out _ _ _ _ _ (Xm2.cell_grow (Flow.grow_alloc _ _) HG1.out)).mono ?_;rintro e w1 ⟨rfl,rfl⟩;first | rw [Hb2.out] | rw [Hb3.out])
      go_ret
      exact ⟨by rw [HE.out];rfl,(Flow.grow_alloc _ _).trans (Flow.grow_alloc _ _)⟩
     | true =>
      by_cases h5:x2=x3
      ·have d5:(x2 != x3)=false:=by simp [h5]
       have HE:Hid (r=false):=Lib.hid (by rw [HN.out];simp [h5])
       go_wp2_with (go_at_call 26;refine (HP.out _ _ _ _ _ (Xm2.cell_grow (Flow.grow_alloc _ _) HG1.out)).mono ?_;rintro e w1 ⟨rfl,rfl⟩;first | rw [Hb2.out] | rw [Hb3.out])
       go_ret
       exact ⟨by rw [HE.out];rfl,(Flow.grow_alloc _ _).trans (Flow.grow_alloc _ _)⟩
      ·have d5:(x2 != x3)=true:=by simp [h5]
       by_cases h6:0≤x4
       ·have d6:decide (0≤x4)=true:=by simp [h6]
        by_cases h7:x4 < (lm:Int)
        ·have d7:decide (x4 < (lm:Int))=true:=by simp [h7]
         by_cases h8:-1≤x5
         ·have d8:decide (-1≤x5)=true:=by simp [h8]
          by_cases h9:x5 < (lm:Int)
          ·have d9:decide (x5 < (lm:Int))=true:=by simp [h9]
           have HE:Hid (r=true):=Lib.hid (by rw [HN.out];simp [h5,h6,h7,h8,h9])
           go_wp2_with (go_at_call 26;refine (HP.out _ _ _ _ _ (Xm2.cell_grow (Flow.grow_alloc _ _) HG1.out)).mono ?_;rintro e w1 ⟨rfl,rfl⟩;first | rw [Hb2.out] | rw [Hb3.out])
           go_ret
           exact ⟨by rw [HE.out];rfl,(Flow.grow_alloc _ _).trans (Flow.grow_alloc _ _)⟩
          ·have d9:decide (x5 < (lm:Int))=false:=by simp [h9]
           have HE:Hid (r=false):=Lib.hid (by rw [HN.out];simp;omega)
           go_wp2_with (go_at_call 26;refine (HP.out _ _ _ _ _ (Xm2.cell_grow (Flow.grow_alloc _ _) HG1.out)).mono ?_;rintro e w1 ⟨rfl,rfl⟩;first | rw [Hb2.out] | rw [Hb3.out])
           go_ret
           exact ⟨by rw [HE.out];rfl,(Flow.grow_alloc _ _).trans (Flow.grow_alloc _ _)⟩
         ·have d8:decide (-1≤x5)=false:=by simp [h8]
          have HE:Hid (r=false):=Lib.hid (by rw [HN.out];simp;omega)
          go_wp2_with (go_at_call 26;refine (HP.out _ _ _ _ _ (Xm2.cell_grow (Flow.grow_alloc _ _) HG1.out)).mono ?_;rintro e w1 ⟨rfl,rfl⟩;first | rw [Hb2.out] | rw [Hb3.out])
          go_ret
          exact ⟨by rw [HE.out];rfl,(Flow.grow_alloc _ _).trans (Flow.grow_alloc _ _)⟩
        ·have d7:decide (x4 < (lm:Int))=false:=by simp [h7]
         have HE:Hid (r=false):=Lib.hid (by rw [HN.out];simp;omega)
         go_wp2_with (go_at_call 26;refine (HP.out _ _ _ _ _ (Xm2.cell_grow (Flow.grow_alloc _ _) HG1.out)).mono ?_;rintro e w1 ⟨rfl,rfl⟩;first | rw [Hb2.out] | rw [Hb3.out])
         go_ret
         exact ⟨by rw [HE.out];rfl,(Flow.grow_alloc _ _).trans (Flow.grow_alloc _ _)⟩
       ·have d6:decide (0≤x4)=false:=by simp [h6]
        have HE:Hid (r=false):=Lib.hid (by rw [HN.out];simp;omega)
        go_wp2_with (go_at_call 26;refine (HP.out _ _ _ _ _ (Xm2.cell_grow (Flow.grow_alloc _ _) HG1.out)).mono ?_;rintro e w1 ⟨rfl,rfl⟩;first | rw [Hb2.out] | rw [Hb3.out])
        go_ret
        exact ⟨by rw [HE.out];rfl,(Flow.grow_alloc _ _).trans (Flow.grow_alloc _ _)⟩
   ·have d2:(x0 != 3)=true:=by simp [h2]
    have HE:Hid (r=true):=Lib.hid (by rw [HN.out];rw [if_pos h2])
    go_enter Tryz.func12,Tryz.ntmps12
    go_wp2_with (go_at_call 26;refine (HP.out _ _ _ _ _ (Xm2.cell_grow (Flow.grow_alloc _ _) HG1.out)).mono ?_;rintro e w1 ⟨rfl,rfl⟩;first | rw [Hb2.out] | rw [Hb3.out])
    go_ret
    exact ⟨by rw [HE.out];rfl,(Flow.grow_alloc _ _).trans (Flow.grow_alloc _ _)⟩
end Go.Proofs.YtcnmaplopbbmaaaGreat
