/- slices.Compact of interactions by its contract. -/
import Derived.Test.YtcnmaplopbbmaaaGreatMAt
namespace Go.Proofs.YtcnmaplopbbmaaaGreat
open Go.RowKit
theorem Gr.cmpK_step (f:Nat→Gr.Lb) (i:Nat) (h:0 < i):Gr.cmpK f (i+1)=Gr.cmpK f i++if f i=f (i - 1) then [] else [f i]:=by
 obtain ⟨k,rfl⟩:∃ k,i=k+1:=⟨i - 1,by omega⟩
 rw [Gr.cmpK]
 rfl
theorem lab_dec (a b:Gr.Lb):decide (a=b)=(decide (a.1=b.1) && decide (a.2.1=b.2.1) && decide (a.2.2=b.2.2)):=by
 obtain ⟨a0,a1,a2⟩:=a
 obtain ⟨b0,b1,b2⟩:=b
 by_cases h1:a0=b0 <;> by_cases h2:a1=b1 <;> by_cases h3:a2=b2 <;> simp [h1,h2,h3]
theorem guard_lab (w:World) (op:BinOp) (x y:Operand) (xs ys:Array Value):(eqGuard op 104 x y (.agg xs) (.agg ys)).run Tryz.prog w=.ok () w :=
 run_eqGuard_agg w op _ x y xs ys (by kernel_rfl)
def Gr.Dist (f:Nat→Gr.Lb) (k:Nat):Prop:=∀ j,0 < j→j < k→f j≠f (j - 1)
theorem Gr.cmpK_dist (f:Nat→Gr.Lb):∀ k,Gr.Dist f k→(Gr.cmpK f k).length=k∧∀ j,j < k→(Gr.cmpK f k).getD j (0,0,0)=f j
 | 0,_=>⟨rfl,fun j hj=>by omega⟩
 | k+1,h=>by
  by_cases h0:k=0
  ·subst h0
   exact ⟨rfl,fun j hj=>by
    obtain rfl:j=0:=(by omega)
    rfl⟩
  ·obtain ⟨h1,h2⟩:=Gr.cmpK_dist f k (fun j a b=>h j a (by omega))
   rw [Gr.cmpK_step f k (by omega),if_neg (h k (by omega) (by omega))]
   refine ⟨by simp [h1],fun j hj=>?_⟩
   rw [List.getD_eq_getElem?_getD]
   by_cases e:j < k
   ·rw [List.getElem?_append_left (by omega),← List.getD_eq_getElem?_getD,h2 j e]
   ·obtain rfl:j=k:=by omega
    rw [List.getElem?_append_right (by omega),h1]
    simp
structure Gr.CI (W w:World) (g n:Nat) (f:Nat→Gr.Lb) (p k:Nat):Prop where
 by_:W.grownBy w (some g)
 len:k=(Gr.cmpK f p).length
 lt:k+1≤p
 row:∃ f',Gr.LRow w g n f'∧(∀ j,j < k→f' j=(Gr.cmpK f p).getD j (0,0,0))∧∀ j,p≤j+1→f' j=f j
theorem Gr.CI.grow {W w w':World} {g n p k:Nat} {f:Nat→Gr.Lb} (h:Gr.CI W w g n f p k) (d:Flow.Grow w w'):Gr.CI W w' g n f p k:=by
 obtain ⟨f',h1,h2,h3⟩:=h.row
 obtain ⟨cur,hg,hc⟩:=h1.row
 exact ⟨by_trans h.by_ (by_grow d),h.len,h.lt,f',⟨cur,heap_keep d hg,hc⟩,h2,h3⟩
theorem Gr.CI.skip {W w:World} {g n p k:Nat} {f:Nat→Gr.Lb} (h:Gr.CI W w g n f p k) (hp:0 < p) (e:f p=f (p - 1)):Gr.CI W w g n f (p+1) k:=by
 obtain ⟨f',h1,h2,h3⟩:=h.row
 have hs:=Gr.cmpK_step f p hp
 rw [if_pos e,List.append_nil] at hs
 exact ⟨h.by_,by rw [hs];exact h.len,by have:=h.lt;omega,f',h1,by rw [hs];exact h2,fun j hj=>h3 j (by omega)⟩
theorem Gr.CI.keep {W w:World} {g n p k:Nat} {f:Nat→Gr.Lb} (h:Gr.CI W w g n f p k) (hp:0 < p) (hpn:p < n) (e:f p≠f (p - 1)) :
  Gr.CI W (((w.setCell ⟨g,k * 3,none⟩ (.int .i64 (f p).1)).setCell ⟨g,k * 3+1,none⟩ (.int .i64 (f p).2.1)).setCell ⟨g,k * 3+2,none⟩ (.int .i64 (f p).2.2)) g n f (p+1) (k+1):=by
 obtain ⟨f',h1,h2,h3⟩:=h.row
 have hs:=Gr.cmpK_step f p hp
 rw [if_neg e] at hs
 have hl:=h.lt
 refine ⟨by_trans (by_trans (by_trans h.by_ (by_set _ _ _ _)) (by_set _ _ _ _)) (by_set _ _ _ _),by rw [hs,List.length_append,← h.len];rfl,by omega,_,h1.set (k:=k) (by omega) _ _ _,fun j hj=>?_,fun j hj=>?_⟩
 ·rw [hs,List.getD_eq_getElem?_getD]
  by_cases ej:j=k
  ·subst ej
   rw [if_pos rfl,List.getElem?_append_right (by rw [h.len];exact Nat.le_refl _),← h.len]
   simp
  ·rw [if_neg ej,List.getElem?_append_left (by rw [← h.len];omega),← List.getD_eq_getElem?_getD]
   exact h2 j (by omega)
 ·rw [if_neg (by omega)]
  exact h3 j (by omega)
set_option maxRecDepth 100000 in
set_option maxHeartbeats 4000000 in
theorem compact_any (g c n:Nat) (f:Nat→Gr.Lb) (W:World) (hn:n≤4000000) (hc:n≤c) (h:Gr.LRow W g n f) :
  Calls Tryz.prog 49 #[.slice (some ⟨g,0,none⟩) n c] W fun e w'=>e=.returned (.slice (some ⟨g,0,none⟩) (Gr.cmpK f n).length c)∧W.grownBy w' (some g) ∧
   ∃ f',Gr.LRow w' g (Gr.cmpK f n).length f'∧∀ j,j < (Gr.cmpK f n).length→f' j=(Gr.cmpK f n).getD j (0,0,0):=by
 have H:=Lib.hid h
 clear h
 by_cases hn2:n < 2
 ·have HD:Hid (Gr.Dist f n):=Lib.hid (fun j a b=>by omega)
  have hn2':(n:Int) < 2:=by omega
  go_enter Tryz.func49,Tryz.ntmps49
  go_wp2_with fail
  go_ret
  obtain ⟨h1,h2⟩:=Gr.cmpK_dist f n HD.out
  exact ⟨by rw [h1];rfl,by_grow (Flow.grow_refl _),f,by rw [h1];exact H.out,fun j hj=>(h2 j (by omega)).symm⟩
 ·have hn2':¬ (n:Int) < 2:=by omega
  go_enter Tryz.func49,Tryz.ntmps49
  go_wp2_with fail
  go_loopw [3] (fun vk wr=>∃ k:Nat,1≤k∧k≤n∧vk=.int .i64 k∧Hid (Gr.Dist f k)∧Hid (Flow.Grow W wr)) (fun vk _=>n - (intOf vk).toNat)
  case atStart=>exact ⟨1,by omega,by omega,rfl,Lib.hid (fun j a b=>by omega),Lib.hid (Flow.grow_refl _)⟩
  case round =>
   obtain ⟨k,hk1,hkn,rfl,HD,HG⟩:=hrel
   rename World=>wr
   by_cases hlt:k < n
   ·have hlt':(k:Int) < (n:Int):=by omega
    obtain ⟨p0,p1,p2⟩:=H.out.cells (j:=k) hlt
    obtain ⟨q0,q1,q2⟩:=H.out.cells (j:=k - 1) (by omega)
    have HV:Hid (decide (f k=f (k - 1))=(decide ((f k).1=(f (k - 1)).1) && decide ((f k).2.1=(f (k - 1)).2.1) && decide ((f k).2.2=(f (k - 1)).2.2))):=Lib.hid (lab_dec _ _)
    obtain ⟨t,ht⟩:∃ t,t=decide (f k=f (k - 1)):=⟨_,rfl⟩
    have Ht:=Lib.hid ht
    rw [← ht] at HV
    clear ht
    generalize (f k).1=x0 at *
    generalize (f k).2.1=x1 at *
    generalize (f k).2.2=x2 at *
    generalize (f (k - 1)).1=y0 at *
    generalize (f (k - 1)).2.1=y1 at *
    generalize (f (k - 1)).2.2=y2 at *
    go_upto_region 6 with fail
    refine Flow.region_grown (Fs:=[.inl ((.slice (some ⟨g,0,none⟩) n c)),.inl ((.int .i64 (k:Int))),.inl ((.pointer (some ⟨g,k * 3,none⟩))),.inl ((.agg #[.int .i64 x0,.int .i64 x1,.int .i64 x2])),.inl ((.slice (some ⟨g,0,none⟩) n c)),.inl ((.int .i64 (k:Int))),.inl ((.int .i64 ((k - 1:Nat):Int))),.inl ((.pointer (some ⟨g,(k - 1) * 3,none⟩))),.inl ((.agg #[.int .i64 y0,.int .i64 y1,.int .i64 y2])),.inl ((.bool t))])
     (S:=[[],[],[0,1],[2],[],[],[5],[4,6],[7],[3,8]]) (by kernel_rfl) (by kernel_rfl) (by kernel_rfl) rfl ?stab6 ?ones6 ?ends6
    case ones6 =>
     refine Flow.Ones.cons ?_ ?_
     ·intro a w hC hoff _
      have e0:a.eval (.tmp 0)=(.slice (some ⟨g,0,none⟩) n c):=hoff.at 0 (by kernel_rfl)
      refine .inl ⟨Flow.want_none rfl,?_⟩
      exact Flow.run_same (Flow.exec_move (.inl rfl) e0) Flow.grow_refl
     refine Flow.Ones.cons ?_ ?_
     ·intro a w hC hoff _
      have e3:a.eval (.tmp 3)=(.int .i64 (k:Int)):=hoff.at 3 (by kernel_rfl)
      refine .inl ⟨Flow.want_none rfl,?_⟩
      exact Flow.run_same (Flow.exec_move (.inl rfl) e3) Flow.grow_refl
     refine Flow.Ones.cons ?_ ?_
     ·rintro a w hC hoff ⟨k0,k1,-⟩
      have e16:a.eval (.tmp 16)=(.slice (some ⟨g,0,none⟩) n c):=k0 16 rfl
      have e17:a.eval (.tmp 17)=(.int .i64 (k:Int)):=k1 17 rfl
      refine .inl ⟨Flow.want_none rfl,?_⟩
      refine Flow.run_same ?_ Flow.grow_refl
      have ec:=Flow.eval_const a
      generalize a.eval=ρ at e16 e17 ec ⊢
      simp [execOp,e16,e17,go_sem];intro hh;omega
     refine Flow.Ones.cons ?_ ?_
     ·rintro a w hC hoff ⟨k2,-⟩
      have e18:a.eval (.tmp 18)=(.pointer (some ⟨g,k * 3,none⟩)):=k2 18 rfl
      refine .inl ⟨Flow.want_none rfl,?_⟩
      refine Flow.run_same ?_ Flow.grow_refl
      have ec:=Flow.eval_const a
      generalize a.eval=ρ at e18 ec ⊢
      have h0:=Xm2.cell_grow (HG.out.trans hC) p0
      have h1:=Xm2.cell_grow (HG.out.trans hC) p1
      have h2:=Xm2.cell_grow (HG.out.trans hC) p2
      simp [execOp,e18,h0,h1,h2,go_sem]
     refine Flow.Ones.cons ?_ ?_
     ·intro a w hC hoff _
      have e0:a.eval (.tmp 0)=(.slice (some ⟨g,0,none⟩) n c):=hoff.at 0 (by kernel_rfl)
      refine .inl ⟨Flow.want_none rfl,?_⟩
      exact Flow.run_same (Flow.exec_move (.inl rfl) e0) Flow.grow_refl
     refine Flow.Ones.cons ?_ ?_
     ·intro a w hC hoff _
      have e3:a.eval (.tmp 3)=(.int .i64 (k:Int)):=hoff.at 3 (by kernel_rfl)
      refine .inl ⟨Flow.want_none rfl,?_⟩
      exact Flow.run_same (Flow.exec_move (.inl rfl) e3) Flow.grow_refl
     refine Flow.Ones.cons ?_ ?_
     ·rintro a w hC hoff ⟨k5,-⟩
      have e21:a.eval (.tmp 21)=(.int .i64 (k:Int)):=k5 21 rfl
      refine .inl ⟨Flow.want_none rfl,?_⟩
      refine Flow.run_same ?_ Flow.grow_refl
      have ec:=Flow.eval_const a
      generalize a.eval=ρ at e21 ec ⊢
      simp [execOp,e21,ec,go_sem];rw [show ((k - 1:Nat):Int)=(k:Int) - 1 by omega];exact IntWalk.i64_in _ (by omega)
     refine Flow.Ones.cons ?_ ?_
     ·rintro a w hC hoff ⟨k4,k6,-⟩
      have e20:a.eval (.tmp 20)=(.slice (some ⟨g,0,none⟩) n c):=k4 20 rfl
      have e22:a.eval (.tmp 22)=(.int .i64 ((k - 1:Nat):Int)):=k6 22 rfl
      refine .inl ⟨Flow.want_none rfl,?_⟩
      refine Flow.run_same ?_ Flow.grow_refl
      have ec:=Flow.eval_const a
      generalize a.eval=ρ at e20 e22 ec ⊢
      simp [execOp,e20,e22,go_sem];intro hh;omega
     refine Flow.Ones.cons ?_ ?_
     ·rintro a w hC hoff ⟨k7,-⟩
      have e23:a.eval (.tmp 23)=(.pointer (some ⟨g,(k - 1) * 3,none⟩)):=k7 23 rfl
      refine .inl ⟨Flow.want_none rfl,?_⟩
      refine Flow.run_same ?_ Flow.grow_refl
      have ec:=Flow.eval_const a
      generalize a.eval=ρ at e23 ec ⊢
      have h0:=Xm2.cell_grow (HG.out.trans hC) q0
      have h1:=Xm2.cell_grow (HG.out.trans hC) q1
      have h2:=Xm2.cell_grow (HG.out.trans hC) q2
      simp [execOp,e23,h0,h1,h2,go_sem]
     refine Flow.Ones.cons ?_ ?_
     ·rintro a w hC hoff ⟨k3,k8,-⟩
      have e19:a.eval (.tmp 19)=(.agg #[.int .i64 x0,.int .i64 x1,.int .i64 x2]):=k3 19 rfl
      have e24:a.eval (.tmp 24)=(.agg #[.int .i64 y0,.int .i64 y1,.int .i64 y2]):=k8 24 rfl
      refine .inl ⟨Flow.want_none rfl,?_⟩
      refine Flow.run_same ?_ Flow.grow_refl
      have ec:=Flow.eval_const a
      generalize a.eval=ρ at e19 e24 ec ⊢
      have hv:=HV.out
      simp [execOp,e19,e24,guard_lab,run_eql_struct,go_sem];rw [hv];by_cases h1:x0=y0 <;> by_cases h2:x1=y1 <;> by_cases h3:x2=y2 <;> simp [h1,h2,h3]
     exact trivial
    case stab6=>exact trivial
    case ends6 =>
     intro w1 hg
     simp only [Flow.ends]
     simp only [Act.put,List.setIfInBounds_toArray,List.set_cons_succ,List.set_cons_zero]
     have HG1:=Lib.hid (HG.out.trans hg)
     clear hg p0 p1 p2 q0 q1 q2
     cases t with
     | false =>
      have HD2:Hid (Gr.Dist f (k+1)):=Lib.hid (fun j a b=>by
       by_cases e:j=k
       ·subst e;have:=Ht.out;simpa using this
       ·exact HD.out j a (by omega))
      go_wp2_with fail
      go_roundw
      case rel=>exact ⟨k+1,by omega,by omega,by go_num,HD2,HG1⟩
      case measure=>simp [intOf];omega
     | true =>
      have HK:Hid (f k=f (k - 1)):=Lib.hid (by have:=Ht.out;simpa using this.symm)
      have HI0:Hid (Gr.CI W w1 g n f (k+1) k):=Lib.hid (by
       obtain ⟨h1,h2⟩:=Gr.cmpK_dist f k HD.out
       have hs:=Gr.cmpK_step f k (by omega)
       rw [if_pos HK.out,List.append_nil] at hs
       obtain ⟨cur,hg,hcc⟩:=H.out.row
       exact ⟨by_grow HG1.out,by rw [hs,h1],Nat.le_refl _,f,⟨cur,heap_keep HG1.out hg,hcc⟩,fun j hj=>by rw [hs];exact (h2 j hj).symm,fun j _=>rfl⟩)
      have hkc:(k:Int)≤(c:Int):=by omega
      clear HV
      go_wp2_with fail
      go_loopw [3,5] (fun vk vj wr=>∃ kk q:Nat,1≤q∧k+q≤n∧vk=.int .i64 kk∧vj=.int .i64 q∧kk < k+q∧Hid (Gr.CI W wr g n f (k+q) kk)) (fun _ vj _=>n - (intOf vj).toNat)
      case atStart=>exact ⟨k,1,by omega,by omega,rfl,rfl,by omega,HI0⟩
      case round =>
       obtain ⟨kk,q,hq1,hqn,rfl,rfl,hkk,HI⟩:=hrel
       rename World=>wr2
       by_cases hlq:k+q < n
       ·have hlq':(q:Int) < ((n - k:Nat):Int):=by omega
        obtain ⟨p,hp⟩:∃ p,p=k+q:=⟨_,rfl⟩
        have HR:=Lib.hid HI.out.row
        have HP:Hid (wr2.cell? ⟨g,k * 3+q * 3,none⟩=some (.int .i64 (f p).1)∧wr2.cell? ⟨g,k * 3+q * 3+1,none⟩=some (.int .i64 (f p).2.1)∧wr2.cell? ⟨g,k * 3+q * 3+2,none⟩=some (.int .i64 (f p).2.2) ∧
          wr2.cell? ⟨g,k * 3+(q - 1) * 3,none⟩=some (.int .i64 (f (p - 1)).1)∧wr2.cell? ⟨g,k * 3+(q - 1) * 3+1,none⟩=some (.int .i64 (f (p - 1)).2.1)∧wr2.cell? ⟨g,k * 3+(q - 1) * 3+2,none⟩=some (.int .i64 (f (p - 1)).2.2)):=Lib.hid (by
         obtain ⟨f',h1,_,h3⟩:=HR.out
         have a:=h1.cells (j:=p) (by omega)
         have b:=h1.cells (j:=p - 1) (by omega)
         rw [h3 p (by omega)] at a
         rw [h3 (p - 1) (by omega)] at b
         rw [show k * 3+q * 3=p * 3 by omega,show k * 3+(q - 1) * 3=(p - 1) * 3 by omega]
         exact ⟨a.1,a.2.1,a.2.2,b.1,b.2.1,b.2.2⟩)
        have HV:Hid (decide (f p=f (p - 1))=(decide ((f p).1=(f (p - 1)).1) && decide ((f p).2.1=(f (p - 1)).2.1) && decide ((f p).2.2=(f (p - 1)).2.2))):=Lib.hid (lab_dec _ _)
        obtain ⟨t,ht⟩:∃ t,t=decide (f p=f (p - 1)):=⟨_,rfl⟩
        have Ht:=Lib.hid ht
        rw [← ht] at HV
        clear ht
        rw [← hp] at HI
        have Hp:=Lib.hid hp
        have hpn:p < n:=by omega
        have hp0:0 < p:=by omega
        have hkp:kk < p:=by omega
        clear hp
        go_upto_region 11 with fail
        refine Flow.region_grown (Fs:=[.inl ((.slice (some ⟨g,k * 3,none⟩) (n - k) (c - k))),.inl ((.int .i64 (q:Int))),.inl ((.pointer (some ⟨g,k * 3+q * 3,none⟩))),.inl ((.agg #[.int .i64 (f p).1,.int .i64 (f p).2.1,.int .i64 (f p).2.2])),.inl ((.slice (some ⟨g,k * 3,none⟩) (n - k) (c - k))),.inl ((.int .i64 (q:Int))),.inl ((.int .i64 ((q - 1:Nat):Int))),.inl ((.pointer (some ⟨g,k * 3+(q - 1) * 3,none⟩))),.inl ((.agg #[.int .i64 (f (p - 1)).1,.int .i64 (f (p - 1)).2.1,.int .i64 (f (p - 1)).2.2])),.inl ((.bool (!t)))])
         (S:=[[],[],[0,1],[2],[],[],[5],[4,6],[7],[3,8]]) (by kernel_rfl) (by kernel_rfl) (by kernel_rfl) rfl ?stab11 ?ones11 ?ends11
        case ones11 =>
         refine Flow.Ones.cons ?_ ?_
         ·intro a w hC hoff _
          have e4:a.eval (.tmp 4)=(.slice (some ⟨g,k * 3,none⟩) (n - k) (c - k)):=hoff.at 4 (by kernel_rfl)
          refine .inl ⟨Flow.want_none rfl,?_⟩
          exact Flow.run_same (Flow.exec_move (.inl rfl) e4) Flow.grow_refl
         refine Flow.Ones.cons ?_ ?_
         ·intro a w hC hoff _
          have e5:a.eval (.tmp 5)=(.int .i64 (q:Int)):=hoff.at 5 (by kernel_rfl)
          refine .inl ⟨Flow.want_none rfl,?_⟩
          exact Flow.run_same (Flow.exec_move (.inl rfl) e5) Flow.grow_refl
         refine Flow.Ones.cons ?_ ?_
         ·rintro a w hC hoff ⟨k0,k1,-⟩
          have e35:a.eval (.tmp 35)=(.slice (some ⟨g,k * 3,none⟩) (n - k) (c - k)):=k0 35 rfl
          have e36:a.eval (.tmp 36)=(.int .i64 (q:Int)):=k1 36 rfl
          refine .inl ⟨Flow.want_none rfl,?_⟩
          refine Flow.run_same ?_ Flow.grow_refl
          have ec:=Flow.eval_const a
          generalize a.eval=ρ at e35 e36 ec ⊢
          simp [execOp,e35,e36,go_sem];intro hh;omega
         refine Flow.Ones.cons ?_ ?_
         ·rintro a w hC hoff ⟨k2,-⟩
          have e37:a.eval (.tmp 37)=(.pointer (some ⟨g,k * 3+q * 3,none⟩)):=k2 37 rfl
          refine .inl ⟨Flow.want_none rfl,?_⟩
          refine Flow.run_same ?_ Flow.grow_refl
          have ec:=Flow.eval_const a
          generalize a.eval=ρ at e37 ec ⊢
          obtain ⟨p0,p1,p2,_⟩:=HP.out
          have h0:=Xm2.cell_grow hC p0
          have h1:=Xm2.cell_grow hC p1
          have h2:=Xm2.cell_grow hC p2
          simp [execOp,e37,h0,h1,h2,go_sem]
         refine Flow.Ones.cons ?_ ?_
         ·intro a w hC hoff _
          have e4:a.eval (.tmp 4)=(.slice (some ⟨g,k * 3,none⟩) (n - k) (c - k)):=hoff.at 4 (by kernel_rfl)
          refine .inl ⟨Flow.want_none rfl,?_⟩
          exact Flow.run_same (Flow.exec_move (.inl rfl) e4) Flow.grow_refl
         refine Flow.Ones.cons ?_ ?_
         ·intro a w hC hoff _
          have e5:a.eval (.tmp 5)=(.int .i64 (q:Int)):=hoff.at 5 (by kernel_rfl)
          refine .inl ⟨Flow.want_none rfl,?_⟩
          exact Flow.run_same (Flow.exec_move (.inl rfl) e5) Flow.grow_refl
         refine Flow.Ones.cons ?_ ?_
         ·rintro a w hC hoff ⟨k5,-⟩
          have e40:a.eval (.tmp 40)=(.int .i64 (q:Int)):=k5 40 rfl
          refine .inl ⟨Flow.want_none rfl,?_⟩
          refine Flow.run_same ?_ Flow.grow_refl
          have ec:=Flow.eval_const a
          generalize a.eval=ρ at e40 ec ⊢
          simp [execOp,e40,ec,go_sem];rw [show ((q - 1:Nat):Int)=(q:Int) - 1 by omega];exact IntWalk.i64_in _ (by omega)
         refine Flow.Ones.cons ?_ ?_
         ·rintro a w hC hoff ⟨k4,k6,-⟩
          have e39:a.eval (.tmp 39)=(.slice (some ⟨g,k * 3,none⟩) (n - k) (c - k)):=k4 39 rfl
          have e41:a.eval (.tmp 41)=(.int .i64 ((q - 1:Nat):Int)):=k6 41 rfl
          refine .inl ⟨Flow.want_none rfl,?_⟩
          refine Flow.run_same ?_ Flow.grow_refl
          have ec:=Flow.eval_const a
          generalize a.eval=ρ at e39 e41 ec ⊢
          simp [execOp,e39,e41,go_sem];intro hh;omega
         refine Flow.Ones.cons ?_ ?_
         ·rintro a w hC hoff ⟨k7,-⟩
          have e42:a.eval (.tmp 42)=(.pointer (some ⟨g,k * 3+(q - 1) * 3,none⟩)):=k7 42 rfl
          refine .inl ⟨Flow.want_none rfl,?_⟩
          refine Flow.run_same ?_ Flow.grow_refl
          have ec:=Flow.eval_const a
          generalize a.eval=ρ at e42 ec ⊢
          obtain ⟨_,_,_,p0,p1,p2⟩:=HP.out
          have h0:=Xm2.cell_grow hC p0
          have h1:=Xm2.cell_grow hC p1
          have h2:=Xm2.cell_grow hC p2
          simp [execOp,e42,h0,h1,h2,go_sem]
         refine Flow.Ones.cons ?_ ?_
         ·rintro a w hC hoff ⟨k3,k8,-⟩
          have e38:a.eval (.tmp 38)=(.agg #[.int .i64 (f p).1,.int .i64 (f p).2.1,.int .i64 (f p).2.2]):=k3 38 rfl
          have e43:a.eval (.tmp 43)=(.agg #[.int .i64 (f (p - 1)).1,.int .i64 (f (p - 1)).2.1,.int .i64 (f (p - 1)).2.2]):=k8 43 rfl
          refine .inl ⟨Flow.want_none rfl,?_⟩
          refine Flow.run_same ?_ Flow.grow_refl
          have ec:=Flow.eval_const a
          generalize a.eval=ρ at e38 e43 ec ⊢
          have hv:=HV.out
          generalize (f p).1=x0 at *
          generalize (f p).2.1=x1 at *
          generalize (f p).2.2=x2 at *
          generalize (f (p - 1)).1=y0 at *
          generalize (f (p - 1)).2.1=y1 at *
          generalize (f (p - 1)).2.2=y2 at *
          simp [execOp,e38,e43,guard_lab,run_neq_struct,go_sem];rw [hv];by_cases h1:x0=y0 <;> by_cases h2:x1=y1 <;> by_cases h3:x2=y2 <;> simp [h1,h2,h3]
         exact trivial
        case stab11=>exact trivial
        case ends11 =>
         intro w3 hg
         simp only [Flow.ends]
         simp only [Act.put,List.setIfInBounds_toArray,List.set_cons_succ,List.set_cons_zero]
         have HG3:=Lib.hid hg
         have HI3:=Lib.hid (HI.out.grow hg)
         clear hg
         cases t with
         | true =>
          have HS:=Lib.hid (HI3.out.skip hp0 (by have:=Ht.out;simpa using this.symm))
          go_wp2_with fail
          go_roundw
          case rel=>exact ⟨kk,q+1,by omega,by omega,rfl,by go_num,by omega,Lib.hid (by rw [← Nat.add_assoc,← Hp.out];exact HS.out)⟩
          case measure=>simp [intOf];omega
         | false =>
          have HS:=Lib.hid (HI3.out.keep hp0 hpn (by have:=Ht.out;simpa using this.symm))
          obtain ⟨p0,p1,p2,_⟩:=HP.out
          replace p0:=Xm2.cell_grow HG3.out p0
          replace p1:=Xm2.cell_grow HG3.out p1
          replace p2:=Xm2.cell_grow HG3.out p2
          obtain ⟨f',hr',_,_⟩:=HI3.out.row
          obtain ⟨r0,r1,r2⟩:=hr'.cells (j:=kk) (by omega)
          have fz:=hr'.frozen
          clear hr'
          go_wp2_with fail
          go_roundw
          case rel=>exact ⟨kk+1,q+1,by omega,by omega,by go_num,by go_num,by omega,Lib.hid (by rw [← Nat.add_assoc,← Hp.out];exact HS.out)⟩
          case measure=>simp [intOf];omega
       ·obtain ⟨p,hp⟩:∃ p,p=k+q:=⟨_,rfl⟩
        obtain rfl:p=n:=by omega
        have hlq':¬ (q:Int) < ((p - k:Nat):Int):=by omega
        rw [← hp] at HI
        have hkp:kk≤p:=by omega
        have hkc:(kk:Int)≤(c:Int):=by omega
        have HW:Hid (∃ w',(∀ ty,(Builtin.clear_ #[35] ty #[.slice (some ⟨g,kk * 3,none⟩) (p - kk) (c - kk)]).run Tryz.prog wr2=.ok (.tuple #[]) w')∧W.grownBy w' (some g)∧∃ f',Gr.LRow w' g kk f'∧∀ j,j < kk→f' j=(Gr.cmpK f p).getD j (0,0,0)):=Lib.hid (by
         obtain ⟨f',h1,h2,_⟩:=HI.out.row
         obtain ⟨w',h3,h4,h5⟩:=Gr.run_clear_lab (k:=p - kk) (c:=c - kk) kk h1 (by omega)
         exact ⟨w',h3,by_trans HI.out.by_ h4,f',h5,h2⟩)
        have HL:=Lib.hid HI.out.len
        clear hp hlq HI HI0
        obtain ⟨w4,hcl,hby,hrow⟩:=HW.out
        have HB4:=Lib.hid hby
        have HR4:=Lib.hid hrow
        clear hby hrow
        go_wp2_with fail
        go_ret
        rw [← HL.out]
        exact ⟨rfl,HB4.out,HR4.out⟩
   ·obtain rfl:k=n:=by omega
    go_wp2_with fail
    go_ret
    obtain ⟨h1,h2⟩:=Gr.cmpK_dist f k HD.out
    obtain ⟨cur,hg,hcc⟩:=H.out.row
    exact ⟨by rw [h1];rfl,by_grow HG.out,f,by rw [h1];exact ⟨cur,heap_keep HG.out hg,hcc⟩,fun j hj=>(h2 j (by omega)).symm⟩
end Go.Proofs.YtcnmaplopbbmaaaGreat
