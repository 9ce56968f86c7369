/- game.node by its contract, kind by kind. -/
import Derived.Test.YtcnmaplopbbmaaaGreatGNodeT
namespace Go.Proofs.YtcnmaplopbbmaaaGreat
open Go.RowKit
theorem Gr.kinds {k:Int} (h3:k≠3) (h5:k≠5) (h46:¬ (k=4∨k=6)) (h2:k≠2):(k == 3)=false∧(k == 5)=false∧(k == 4)=false∧(k == 6)=false∧(k == 2)=false:=by
 simp only [not_or] at h46
 exact ⟨by simp [h3],by simp [h5],by simp [h46.1],by simp [h46.2],by simp [h2]⟩
set_option maxRecDepth 100000 in
set_option maxHeartbeats 4000000 in
theorem gnode_any (B:Nat) (v0 v1 v2 v3 lv:Value) (g:Gr.G) (L:List Gr.Lb) (u0:Bool) (l:List Bool) (i:Nat) (W:World) (hl:l.length=64) (hF:g.Fit) (hi:i < g.ns.length) (hL:L.length≤1000000) (hS:Gr.Srt L) (hZ:(g.nd i).kind=3→(g.nd i).rep < 0→Gr.idx L (0,0,0)=Gr.idx L (g.nd i).back)
  (h:Gr.Gm W B v0 v1 v2 v3 lv g L (Gr.err u0 0)) :
  Calls Tryz.prog 52 #[.pointer (some ⟨B,0,none⟩),.int .u64 (Mark.ofBools l:Int),.int .i64 i] W fun e w'=>∃ out,e=.returned out ∧
   Gr.TI W w' B v0 v1 v2 v3 lv g L (u0 || Gr.bad (g.nodeT L i (l,false))) out (g.nodeT L i (l,false)):=by
 obtain ⟨an,cn,rfl⟩:=Gr.Recs.form h.at.nodes
 obtain ⟨nb,no,rfl,_⟩:=Gr.NdsAt.at h.at.nodes hi
 have HG:=Lib.hid h
 have HAt:=Lib.hid h.at
 have HTk:Hid ((g.nd i).kind=3→∀ w,Gr.Gm w B v0 v1 (.slice (some ⟨nb,no,none⟩) g.ns.length cn) v3 lv g L (Gr.err u0 0)→Calls Tryz.prog 74 #[.pointer (some ⟨B,0,none⟩),.int .u64 (Mark.ofBools l:Int),.int .i64 i] w fun e w'=>∃ out,e=.returned out∧Gr.TI w w' B v0 v1 (.slice (some ⟨nb,no,none⟩) g.ns.length cn) v3 lv g L (u0 || Gr.bad (g.taskT L i (l,false))) out (g.taskT L i (l,false))):=Lib.hid fun hk w hm=>task_any B v0 v1 _ v3 lv g L u0 l i w hl hF hi hk hL hS (hZ hk) hm
 have HMv:Hid (∀ w u vf vt fr zt,Gr.Gm w B v0 v1 (.slice (some ⟨nb,no,none⟩) g.ns.length cn) v3 lv g L (Gr.err u 0)→Gr.InP fr→fr.length≤1000000→Gr.InP zt→zt.length≤1000000→Ints (mask w [B]) vf fr→Ints (mask w [B]) vt zt→Calls Tryz.prog 76 #[.pointer (some ⟨B,0,none⟩),.int .u64 (Mark.ofBools l:Int),vf,vt] w fun e w'=>e=.returned (.int .u64 (Mark.ofBools (zt.foldl Gr.put1 (fr.foldl Gr.wo (l,false))).1:Int))∧w.grownBy w' (some B)∧Gr.Gm w' B v0 v1 (.slice (some ⟨nb,no,none⟩) g.ns.length cn) v3 lv g L (Gr.err (zt.foldl Gr.put1 (fr.foldl Gr.wo (l,false))).2 (Gr.err u 0))) :=
  Lib.hid fun w u vf vt fr zt h hfr hfl hz hzl hf ht=>(move_any B _ _ _ _ lv _ l vf vt fr zt w hl hfr hz hfl hzl h.row hf ht).mono fun e w' ⟨a,b,c⟩=>⟨a,b,h.by b c⟩
 have HHas:Hid (∀ w p,0≤p→p < 64→Calls Tryz.prog 77 #[.int .u64 (Mark.ofBools l:Int),.int .i64 p] w fun e w'=>e=.returned (.bool (Gr.at1 (l,false) p))∧w=w'):=Lib.hid fun w p h0 h1=>markHas_l l p w hl h0 h1
 have HAl:Hid (∀ w v zs,Gr.InP zs→zs.length≤64→Ints w v zs→Calls Tryz.prog 75 #[.int .u64 (Mark.ofBools l:Int),v] w fun e w'=>e=.returned (.bool (zs.all (Gr.at1 (l,false))))∧w=w'):=Lib.hid fun w v zs hp hz h=>markAll_l l v zs w hl (by omega) hp h
 have HOut:Hid (∀ w,Gr.GAt w v0 v1 (.slice (some ⟨nb,no,none⟩) g.ns.length cn) v3 g→Calls Tryz.prog 14 #[.agg #[v0,v1,.slice (some ⟨nb,no,none⟩) g.ns.length cn,v3],.int .i64 i] w fun e w'=>(∃ va,e=.returned va∧w'.ownsRow w.heap.size 3 1 va (g.out i).length ((g.out i).map (Value.int .i64)))∧Flow.Grow w w'):=Lib.hid fun w hw=>graphOut_any v0 v1 _ v3 i g.es w hF.few.es hw.edges
 have HIn:Hid (∀ w,Gr.GAt w v0 v1 (.slice (some ⟨nb,no,none⟩) g.ns.length cn) v3 g→Calls Tryz.prog 13 #[.agg #[v0,v1,.slice (some ⟨nb,no,none⟩) g.ns.length cn,v3],.int .i64 i] w fun e w'=>(∃ va,e=.returned va∧w'.ownsRow w.heap.size 3 1 va (g.inn i).length ((g.inn i).map (Value.int .i64)))∧Flow.Grow w w'):=Lib.hid fun w hw=>graphIn_any v0 v1 _ v3 i g.es w hF.few.es hw.edges
 have hXl:=hF.inn_len i
 have hZl:=hF.out_len i
 have HXp:=Lib.hid (hF.inn i)
 have HZp:=Lib.hid (hF.out i)
 have HN:Hid (g.nodeT L i (l,false)=if (g.nd i).kind=3 then g.taskT L i (l,false)
  else if (g.nd i).kind=5 then (if (g.inn i).length > 0∧(g.inn i).all (Gr.at1 (l,false)) then [(-1,(g.out i).foldl Gr.put1 ((g.inn i).foldl Gr.wo (l,false)))] else [])
  else if (g.nd i).kind=4∨(g.nd i).kind=6 then (g.inn i).flatMap fun k=>(g.out i).flatMap fun o=>if Gr.at1 (l,false) k then [(-1,Gr.put1 (Gr.wo (l,false) k) o)] else []
  else if (g.nd i).kind=2 then (g.inn i).flatMap fun k=>if Gr.at1 (l,false) k then [(-1,Gr.wo (l,false) k)] else []
  else []):=Lib.hid rfl
 have HNd:Hid (∀ w e,Gr.Gm w B v0 v1 (.slice (some ⟨nb,no,none⟩) g.ns.length cn) v3 lv g L e→w.cell? ⟨nb,no+i * 7,none⟩=some (.int .i64 (g.nd i).kind)):=Lib.hid fun w e h=>(h.nd7 hi).1
 clear h hl hF hL hS hZ
 generalize (g.nd i).kind=kd at *
 generalize g.nodeT L i (l,false)=TS at *
 generalize g.taskT L i (l,false)=TT at *
 generalize g.inn i=xs at *
 generalize g.out i=zs at *
 obtain ⟨n,hn⟩:∃ n,n=xs.length:=⟨_,rfl⟩
 have Hn:=Lib.hid hn
 obtain ⟨m,hm⟩:∃ m,m=zs.length:=⟨_,rfl⟩
 have Hm:=Lib.hid hm
 rw [← hn] at hXl HIn HN
 rw [← hm] at hZl HOut
 clear hn hm
 obtain ⟨i0,hi0,hz0,hz1,hz2⟩:=info_parts info_turn
 have HI:=Lib.hid (And.intro hi0 (And.intro hz0 (And.intro hz1 hz2)))
 clear hi0 hz0 hz1 hz2
 go_enter Tryz.func52,Tryz.ntmps52
 go_upto_region 2 with fail
 refine Flow.region_grown (Fs:=[.inl ((.pointer (some ⟨B,0,none⟩))),.inl ((.pointer (some ⟨B,0,none⟩))),.inl ((.pointer (some ⟨B,0,none⟩))),.inl ((.agg #[v0,v1,.slice (some ⟨nb,no,none⟩) g.ns.length cn,v3])),.inl ((.int .i64 (i:Int))),.inr (fun v w=>∃ a c,v=.slice a n c∧Ints (mask w [B]) v xs),.inl ((.pointer (some ⟨B,0,none⟩))),.inl ((.pointer (some ⟨B,0,none⟩))),.inl ((.pointer (some ⟨B,0,none⟩))),.inl ((.agg #[v0,v1,.slice (some ⟨nb,no,none⟩) g.ns.length cn,v3])),.inl ((.int .i64 (i:Int))),.inr (fun v w=>∃ a c,v=.slice a m c∧Ints (mask w [B]) v zs),.inr (fun v w=>∃ a c,v=.slice a n c∧Ints (mask w [B]) v xs),.inr (fun v w=>∃ a c,v=.slice a m c∧Ints (mask w [B]) v zs)])
  (S:=[[],[0],[1],[2],[],[3,4],[],[6],[7],[8],[],[9,10],[5],[11]]) (by kernel_rfl) (by kernel_rfl) (by kernel_rfl) rfl ?stab2 ?ones2 ?ends2
 case ones2 =>
  refine Flow.Ones.cons ?_ ?_
  ·intro a w hC hoff _
   have e0:a.eval (.tmp 0)=(.pointer (some ⟨B,0,none⟩)):=hoff.at 0 (by kernel_rfl)
   refine .inl ⟨Flow.want_none rfl,?_⟩
   exact Flow.run_same (Flow.exec_move (.inl rfl) e0) Flow.grow_refl
  refine Flow.Ones.cons ?_ ?_
  ·rintro a w hC hoff ⟨k0,-⟩
   have e16:a.eval (.tmp 16)=(.pointer (some ⟨B,0,none⟩)):=k0 16 rfl
   refine .inl ⟨Flow.want_none rfl,?_⟩
   refine Flow.run_same ?_ Flow.grow_refl
   have ec:=Flow.eval_const a
   generalize a.eval=ρ at e16 ec ⊢
   simp [execOp,e16,go_sem]
  refine Flow.Ones.cons ?_ ?_
  ·rintro a w hC hoff ⟨k1,-⟩
   have e17:a.eval (.tmp 17)=(.pointer (some ⟨B,0,none⟩)):=k1 17 rfl
   refine .inl ⟨Flow.want_none rfl,?_⟩
   refine Flow.run_same ?_ Flow.grow_refl
   have ec:=Flow.eval_const a
   generalize a.eval=ρ at e17 ec ⊢
   simp [execOp,e17,go_sem]
  refine Flow.Ones.cons ?_ ?_
  ·rintro a w hC hoff ⟨k2,-⟩
   have e18:a.eval (.tmp 18)=(.pointer (some ⟨B,0,none⟩)):=k2 18 rfl
   refine .inl ⟨Flow.want_none rfl,?_⟩
   refine Flow.run_same ?_ Flow.grow_refl
   have ec:=Flow.eval_const a
   generalize a.eval=ρ at e18 ec ⊢
   obtain ⟨d0,d1,d2,d3,d4⟩:=(HG.out.grow hC).cells
   simp [execOp,e18,d0,d1,d2,d3,go_sem]
  refine Flow.Ones.cons ?_ ?_
  ·intro a w hC hoff _
   have e2:a.eval (.tmp 2)=(.int .i64 (i:Int)):=hoff.at 2 (by kernel_rfl)
   refine .inl ⟨Flow.want_none rfl,?_⟩
   exact Flow.run_same (Flow.exec_move (.inl rfl) e2) Flow.grow_refl
  refine Flow.Ones.cons ?_ ?_
  ·rintro a w hC hoff ⟨k3,k4,-⟩
   have e19:a.eval (.tmp 19)=(.agg #[v0,v1,.slice (some ⟨nb,no,none⟩) g.ns.length cn,v3]):=k3 19 rfl
   have e20:a.eval (.tmp 20)=(.int .i64 (i:Int)):=k4 20 rfl
   refine .inl ⟨Flow.want_none rfl,?_⟩
   exact Flow.run_call (Flow.exec_call rfl Tryz.func13 (by kernel_rfl) (by kernel_rfl) (by simp only [List.map_toArray,List.map_cons,List.map_nil,e19,e20] <;> rfl)) ((HIn.out w (HG.out.grow hC).at).mono fun e w' ⟨⟨va,he,ho⟩,hg⟩=>⟨_,he,hg,(own_form ho).elim fun a ⟨c,e⟩=>⟨a,c,e,(HG.out.grow hC).own (by rw [← Hn.out];exact ho)⟩⟩)
  refine Flow.Ones.cons ?_ ?_
  ·intro a w hC hoff _
   have e0:a.eval (.tmp 0)=(.pointer (some ⟨B,0,none⟩)):=hoff.at 0 (by kernel_rfl)
   refine .inl ⟨Flow.want_none rfl,?_⟩
   exact Flow.run_same (Flow.exec_move (.inl rfl) e0) Flow.grow_refl
  refine Flow.Ones.cons ?_ ?_
  ·rintro a w hC hoff ⟨k6,-⟩
   have e22:a.eval (.tmp 22)=(.pointer (some ⟨B,0,none⟩)):=k6 22 rfl
   refine .inl ⟨Flow.want_none rfl,?_⟩
   refine Flow.run_same ?_ Flow.grow_refl
   have ec:=Flow.eval_const a
   generalize a.eval=ρ at e22 ec ⊢
   simp [execOp,e22,go_sem]
  refine Flow.Ones.cons ?_ ?_
  ·rintro a w hC hoff ⟨k7,-⟩
   have e23:a.eval (.tmp 23)=(.pointer (some ⟨B,0,none⟩)):=k7 23 rfl
   refine .inl ⟨Flow.want_none rfl,?_⟩
   refine Flow.run_same ?_ Flow.grow_refl
   have ec:=Flow.eval_const a
   generalize a.eval=ρ at e23 ec ⊢
   simp [execOp,e23,go_sem]
  refine Flow.Ones.cons ?_ ?_
  ·rintro a w hC hoff ⟨k8,-⟩
   have e24:a.eval (.tmp 24)=(.pointer (some ⟨B,0,none⟩)):=k8 24 rfl
   refine .inl ⟨Flow.want_none rfl,?_⟩
   refine Flow.run_same ?_ Flow.grow_refl
   have ec:=Flow.eval_const a
   generalize a.eval=ρ at e24 ec ⊢
   obtain ⟨d0,d1,d2,d3,d4⟩:=(HG.out.grow hC).cells
   simp [execOp,e24,d0,d1,d2,d3,go_sem]
  refine Flow.Ones.cons ?_ ?_
  ·intro a w hC hoff _
   have e2:a.eval (.tmp 2)=(.int .i64 (i:Int)):=hoff.at 2 (by kernel_rfl)
   refine .inl ⟨Flow.want_none rfl,?_⟩
   exact Flow.run_same (Flow.exec_move (.inl rfl) e2) Flow.grow_refl
  refine Flow.Ones.cons ?_ ?_
  ·rintro a w hC hoff ⟨k9,k10,-⟩
   have e25:a.eval (.tmp 25)=(.agg #[v0,v1,.slice (some ⟨nb,no,none⟩) g.ns.length cn,v3]):=k9 25 rfl
   have e26:a.eval (.tmp 26)=(.int .i64 (i:Int)):=k10 26 rfl
   refine .inl ⟨Flow.want_none rfl,?_⟩
   exact Flow.run_call (Flow.exec_call rfl Tryz.func14 (by kernel_rfl) (by kernel_rfl) (by simp only [List.map_toArray,List.map_cons,List.map_nil,e25,e26] <;> rfl)) ((HOut.out w (HG.out.grow hC).at).mono fun e w' ⟨⟨va,he,ho⟩,hg⟩=>⟨_,he,hg,(own_form ho).elim fun a ⟨c,e⟩=>⟨a,c,e,(HG.out.grow hC).own (by rw [← Hm.out];exact ho)⟩⟩)
  refine Flow.Ones.cons ?_ ?_
  ·rintro a w hC hoff ⟨k5,-⟩
   have e21:(fun v w=>∃ a c,v=.slice a n c∧Ints (mask w [B]) v xs) (a.eval (.tmp 21)) w:=k5 21 rfl
   refine .inl ⟨Flow.want_none rfl,?_⟩
   exact Flow.run_val (Flow.exec_move (.inr rfl) rfl) (Flow.grow_refl _) e21
  refine Flow.Ones.cons ?_ ?_
  ·rintro a w hC hoff ⟨k11,-⟩
   have e27:(fun v w=>∃ a c,v=.slice a m c∧Ints (mask w [B]) v zs) (a.eval (.tmp 27)) w:=k11 27 rfl
   refine .inl ⟨Flow.want_none rfl,?_⟩
   exact Flow.run_val (Flow.exec_move (.inr rfl) rfl) (Flow.grow_refl _) e27
  exact trivial
 case stab2 =>
  simp only [Flow.Stable,and_true]
  have hM:∀ (k:Nat) (zs:List Int) (v:Value) (w w':World),Flow.Grow w w'→(∃ a c,v=.slice a k c∧Ints (mask w [B]) v zs)→(∃ a c,v=.slice a k c∧Ints (mask w' [B]) v zs):=fun k zs v w w' hR ⟨a,c,e,h⟩=>⟨a,c,e,Ints.mgrow h hR⟩
  exact ⟨hM _ _,hM _ _,hM _ _,hM _ _⟩
 case ends2 =>
  intro w1 hg
  simp only [Flow.ends]
  rintro v21 _ v27 _ v8 ⟨xa,xc,rfl,hx⟩ v9 ⟨za,zc,rfl,hz⟩
  simp only [Act.put,List.setIfInBounds_toArray,List.set_cons_succ,List.set_cons_zero]
  have HG1:=Lib.hid hg
  have HX:=Lib.hid hx
  have HZ:=Lib.hid hz
  clear hg hx hz
  have HG2:=Lib.hid (HG.out.grow HG1.out)
  obtain ⟨c0,c1,c2,c3,c4⟩:=HG2.out.cells
  have m0:=HNd.out _ _ HG2.out
  by_cases h3:kd=3
  ·subst h3
   have HTk2:=Lib.hid (HTk.out rfl _ HG2.out)
   have HE:Hid (TS=TT):=Lib.hid (by rw [HN.out,if_pos rfl])
   go_wp2_with (go_at_call 74;refine HTk2.out.mono ?_;rintro e w2 ⟨out,rfl,hti⟩;have HTI:=Lib.hid hti;clear hti)
   go_ret
   exact ⟨_,rfl,by rw [HE.out];exact HTI.out.from (by_grow HG1.out) HG.out⟩
  ·by_cases h5:kd=5
   ·subst h5
    clear h3
    have HE:Hid (TS=if n > 0∧xs.all (Gr.at1 (l,false)) then [(-1,zs.foldl Gr.put1 (xs.foldl Gr.wo (l,false)))] else []):=Lib.hid (by rw [HN.out,if_neg (by decide),if_pos rfl])
    have HT0:=Lib.hid ((Gr.TI.start (u:=u0) HG2.out HG2.out))
    by_cases hpos:0 < n
    ·have d1:decide ((n:Int) > 0)=true:=by simp;omega
     have HAl2:=Lib.hid fun w v (h:Ints w v xs)=>HAl.out w v xs HXp.out (by rw [← Hn.out];exact hXl) h
     cases ha:xs.all (Gr.at1 (l,false)) with
     | false =>
      have HE2:Hid (TS=[]):=Lib.hid (by rw [HE.out,if_neg (by rw [ha];simp)])
      rw [ha] at HAl2
      clear ha
      go_wp2_with (go_at_call 75;refine (HAl2.out _ _ (Seg.sub HX.out (mask_self w1 [B]))).mono ?_;rintro e w' ⟨rfl,rfl⟩)
      go_ret
      exact ⟨_,rfl,by rw [HE2.out];simpa [Gr.bad] using HT0.out.from (by_grow HG1.out) HG.out⟩
     | true =>
      obtain ⟨F,hF1⟩:∃ F,F=zs.foldl Gr.put1 (xs.foldl Gr.wo (l,false)):=⟨_,rfl⟩
      have HE2:Hid (TS=[(-1,F)]):=Lib.hid (by rw [HE.out,if_pos ⟨hpos,ha⟩,hF1])
      have HMF:Hid (∀ w u vf vt,Gr.Gm w B v0 v1 (.slice (some ⟨nb,no,none⟩) g.ns.length cn) v3 lv g L (Gr.err u 0)→Ints (mask w [B]) vf xs→Ints (mask w [B]) vt zs→Calls Tryz.prog 76 #[.pointer (some ⟨B,0,none⟩),.int .u64 (Mark.ofBools l:Int),vf,vt] w fun e w'=>e=.returned (.int .u64 (Mark.ofBools F.1:Int))∧w.grownBy w' (some B)∧Gr.Gm w' B v0 v1 (.slice (some ⟨nb,no,none⟩) g.ns.length cn) v3 lv g L (Gr.err F.2 (Gr.err u 0))):=Lib.hid fun w u vf vt hm h1 h2=>by rw [hF1];exact HMv.out w u vf vt xs zs hm HXp.out (by rw [← Hn.out];omega) HZp.out (by rw [← Hm.out];omega) h1 h2
      rw [ha] at HAl2
      clear ha hF1
      go_wp2_with (first
       | (go_at_call 75;refine (HAl2.out _ _ (Seg.sub HX.out (mask_self w1 [B]))).mono ?_;rintro e w' ⟨rfl,rfl⟩)
       | (go_at_call 76;refine (HMF.out _ _ _ _ HT0.out.gm HX.out HZ.out).mono ?_;rintro e w3 ⟨rfl,hb,hk⟩;have HT3:=Lib.hid (HT0.out.call hb hk);clear hb hk)
       | (at_builtin;refine wpList_appB (W:=w1) (B:=B) rfl _ _ 96 rfl 99 i0 (.agg #[.int .i64 0,.int .u64 0]) 2 16 Tryz.underlying96 HI.out.1 HI.out.2.1 HI.out.2.2.1 HI.out.2.2.2 rfl (by decide) _ 0 (([]:List Gr.Tn).flatMap Gr.tcells) rfl (HT3.out.grow (Flow.grow_alloc _ _)).own (HT3.out.grow (Flow.grow_alloc _ _)).by_ _ [.int .i64 (-1),.int .u64 (Mark.ofBools F.1:Int)] 1 1 rfl rfl (cells_of (heap_alloc_new _ _)) (by intro u hu;simp at hu;rcases hu with rfl | rfl <;> rfl) (by decide) (by omega) (by decide) (by decide) ?_;intro v' w4 ho _ hk hf;obtain ⟨g4,c4,rfl⟩:=hf;have HT4:=Lib.hid ((HT3.out.grow (Flow.grow_alloc _ _)).app (new:=[(-1,F)]) ho hk);clear ho hk))
      go_ret
      exact ⟨_,rfl,by rw [HE2.out];simpa [Gr.bad] using HT4.out.from (by_grow HG1.out) HG.out⟩
    ·obtain rfl:n=0:=by omega
     have HE2:Hid (TS=[]):=Lib.hid (by rw [HE.out,if_neg (by simp)])
     go_wp2_with fail
     go_ret
     exact ⟨_,rfl,by rw [HE2.out];simpa [Gr.bad] using HT0.out.from (by_grow HG1.out) HG.out⟩
   ·by_cases h46:kd=4∨kd=6
    ·clear h3 h5
     obtain ⟨f,hf⟩:∃ f:Int→Int→List Gr.Tn,f=fun k o=>if Gr.at1 (l,false) k then [(-1,Gr.put1 (Gr.wo (l,false) k) o)] else []:=⟨_,rfl⟩
     have HE:Hid (TS=xs.flatMap fun k=>zs.flatMap (f k)):=Lib.hid (by rw [HN.out,if_neg (by omega),if_neg (by omega),if_pos h46,hf])
     have HFp:Hid (∀ k o,f k o=if Gr.at1 (l,false) k then [(-1,Gr.put1 (Gr.wo (l,false) k) o)] else []):=Lib.hid (fun k o=>by rw [hf])
     have HFm:Hid (∀ k (zs:List Int),(zs.flatMap (f k)).length≤zs.length):=Lib.hid (fun k zs=>Gr.flat_le (f k) (fun p=>by rw [hf];dsimp only;split <;> simp) zs)
     have HFl:Hid (∀ ys:List Int,(ys.flatMap fun k=>zs.flatMap (f k)).length≤ys.length * 64):=Lib.hid (fun ys=>flat_len_le _ 64 (fun k=>Nat.le_trans (HFm.out k zs) (by rw [← Hm.out];exact hZl)) ys)
     clear hf
     rcases h46 with rfl | rfl
     all_goals
      go_wp2_with fail
      go_loopw [7,67] (fun vo vi wr=>∃ j:Nat,j≤n∧vi=.int .i64 j∧Hid (Gr.TI w1 wr B v0 v1 (.slice (some ⟨nb,no,none⟩) g.ns.length cn) v3 lv g L (u0 || Gr.bad ((xs.take j).flatMap fun k=>zs.flatMap (f k))) vo ((xs.take j).flatMap fun k=>zs.flatMap (f k)))) (fun _ vi _=>n - (intOf vi).toNat)
      case atStart=>exact ⟨0,by omega,rfl,Lib.hid (by simpa [Gr.bad] using Gr.TI.start HG2.out HG2.out)⟩
      case round =>
       obtain ⟨j,hj,rfl,HTI⟩:=hrel
       rename World=>wr
       obtain ⟨va,hva⟩:∃ va,va=u7:=⟨_,rfl⟩
       obtain ⟨oa,oc,hoa⟩:=own_form HTI.out.own
       subst hoa
       clear hva
       by_cases hjn:j < n
       ·have hx:xs[j]? = some (xs.getD j 0):=by rw [List.getD_eq_getElem?_getD,List.getElem?_eq_getElem (by rw [← Hn.out];exact hjn)];rfl
        have HX2:=Lib.hid (flat_take (fun k=>zs.flatMap (f k)) xs j _ hx)
        have hp:=HXp.out _ (List.mem_of_getElem? hx)
        obtain ⟨b,off,rfl,q⟩:=Ints.at1 HX.out (k:=j) (by rw [← Hn.out];exact hjn)
        have c:=(mask_self wr [B]).cell _ _ ((mask_by HTI.out.by_ (fun g hg=>by cases hg;simp)).cell _ _ q)
        clear q hx
        have HLn:=Lib.hid (HFl.out (xs.take j))
        generalize xs.getD j 0=p at *
        generalize ((xs.take j).flatMap fun k=>zs.flatMap (f k))=ts at *
        have hlen:ts.length≤4096:=by have:=HLn.out;rw [List.length_take] at *;omega
        have HHs:=Lib.hid fun w=>HHas.out w p hp.1 hp.2
        go_wp2_with fail
        go_loopw [7,73] (fun vo vi wr2=>∃ q:Nat,q≤m∧vi=.int .i64 q∧Hid (Gr.TI w1 wr2 B v0 v1 (.slice (some ⟨nb,no,none⟩) g.ns.length cn) v3 lv g L (u0 || Gr.bad (ts++(zs.take q).flatMap (f p))) vo (ts++(zs.take q).flatMap (f p)))) (fun _ vi _=>m - (intOf vi).toNat)
        case atStart=>exact ⟨0,by omega,rfl,Lib.hid (by simpa using HTI.out)⟩
        case round =>
         obtain ⟨q,hq,rfl,HTJ⟩:=hrel
         rename World=>wr2
         obtain ⟨va,hva⟩:∃ va,va=u7:=⟨_,rfl⟩
         obtain ⟨oa2,oc2,hoa⟩:=own_form HTJ.out.own
         subst hoa
         clear hva
         by_cases hqm:q < m
         ·have hx:zs[q]? = some (zs.getD q 0):=by rw [List.getD_eq_getElem?_getD,List.getElem?_eq_getElem (by rw [← Hm.out];exact hqm)];rfl
          have HZ2:=Lib.hid (flat_take (f p) zs q _ hx)
          have hr:=HZp.out _ (List.mem_of_getElem? hx)
          obtain ⟨b2,off2,rfl,qq⟩:=Ints.at1 HZ.out (k:=q) (by rw [← Hm.out];exact hqm)
          have c':=(mask_self wr2 [B]).cell _ _ ((mask_by HTJ.out.by_ (fun g hg=>by cases hg;simp)).cell _ _ qq)
          clear qq hx
          have HP:=Lib.hid (HFp.out p (zs.getD q 0))
          have HLm:=Lib.hid (HFm.out p (zs.take q))
          generalize zs.getD q 0=r at *
          have HTa:=Lib.hid (List.append_assoc ts ((zs.take q).flatMap (f p)) (f p r))
          rw [← HZ2.out] at HTa
          have hlen2:(ts++(zs.take q).flatMap (f p)).length≤5000:=by have:=HLm.out;rw [List.length_append];rw [List.length_take] at *;omega
          generalize ts++(zs.take q).flatMap (f p)=ts2 at *
          cases hat:Gr.at1 (l,false) p with
          | false =>
           have HE2:Hid (ts++(zs.take (q+1)).flatMap (f p)=ts2):=Lib.hid (by rw [← HTa.out,HP.out,if_neg (by rw [hat];simp),List.append_nil])
           rw [hat] at HHs
           go_wp2_with (go_at_call 77;refine (HHs.out _).mono ?_;rintro e w' ⟨rfl,rfl⟩)
           go_roundw
           case rel=>exact ⟨q+1,by omega,by go_num,Lib.hid (by rw [HE2.out];exact HTJ.out)⟩
           case measure=>simp [intOf];omega
          | true =>
           obtain ⟨F,hF1⟩:∃ F,F=Gr.put1 (Gr.wo (l,false) p) r:=⟨_,rfl⟩
           have HE2:Hid (ts++(zs.take (q+1)).flatMap (f p)=ts2++[(-1,F)]):=Lib.hid (by rw [← HTa.out,HP.out,if_pos hat,hF1])
           have HMF:Hid (∀ w u vf vt,Gr.Gm w B v0 v1 (.slice (some ⟨nb,no,none⟩) g.ns.length cn) v3 lv g L (Gr.err u 0)→Ints (mask w [B]) vf [p]→Ints (mask w [B]) vt [r]→Calls Tryz.prog 76 #[.pointer (some ⟨B,0,none⟩),.int .u64 (Mark.ofBools l:Int),vf,vt] w fun e w'=>e=.returned (.int .u64 (Mark.ofBools F.1:Int))∧w.grownBy w' (some B)∧Gr.Gm w' B v0 v1 (.slice (some ⟨nb,no,none⟩) g.ns.length cn) v3 lv g L (Gr.err F.2 (Gr.err u 0))):=Lib.hid fun w u vf vt hm h1 h2=>by rw [hF1];exact HMv.out w u vf vt [p] [r] hm (fun q hq=>by simp at hq;subst hq;exact hp) (by simp) (fun q hq=>by simp at hq;subst hq;exact hr) (by simp) h1 h2
           rw [hat] at HHs
           clear hat hF1
           have HTwo:=Lib.hid (HTJ.out.gm.two p r)
           have HTK:=Lib.hid ((HTJ.out.grow (Flow.grow_alloc wr2 (.cells #[.int .i64 p] 3))).grow (Flow.grow_alloc _ (.cells #[.int .i64 r] 3)))
           go_wp2_with (first
            | (go_at_call 77;refine (HHs.out _).mono ?_;rintro e w' ⟨rfl,rfl⟩)
            | (go_at_call 76;refine (HMF.out _ _ _ _ HTK.out.gm HTwo.out.1 HTwo.out.2).mono ?_;rintro e w3 ⟨rfl,hb,hk⟩;have HT3:=Lib.hid (HTK.out.call hb hk);clear hb hk)
            | (at_builtin;refine wpList_appB (W:=w1) (B:=B) rfl _ _ 96 rfl 99 i0 (.agg #[.int .i64 0,.int .u64 0]) 2 16 Tryz.underlying96 HI.out.1 HI.out.2.1 HI.out.2.2.1 HI.out.2.2.2 rfl (by decide) _ ts2.length (ts2.flatMap Gr.tcells) rfl (HT3.out.grow (Flow.grow_alloc _ _)).own (HT3.out.grow (Flow.grow_alloc _ _)).by_ _ [.int .i64 (-1),.int .u64 (Mark.ofBools F.1:Int)] 1 1 rfl rfl (cells_of (heap_alloc_new _ _)) (by intro u hu;simp at hu;rcases hu with rfl | rfl <;> rfl) (by decide) (by omega) (by decide) (by decide) ?_;intro v' w4 ho _ hk hf;obtain ⟨g4,c4,rfl⟩:=hf;have HT4:=Lib.hid ((HT3.out.grow (Flow.grow_alloc _ _)).app (new:=[(-1,F)]) ho hk);clear ho hk))
           go_roundw
           case rel=>exact ⟨q+1,by omega,by go_num,Lib.hid (by rw [HE2.out,Gr.bad_append,← Bool.or_assoc];simpa [Gr.bad] using HT4.out)⟩
           case measure=>simp [intOf];omega
         ·obtain rfl:q=m:=by omega
          have ht0:zs.take q=zs:=List.take_of_length_le (by rw [← Hm.out];exact Nat.le_refl _)
          rw [ht0,← HX2.out] at HTJ ⊢
          go_wp2_with fail
          go_roundw
          case rel=>exact ⟨j+1,by omega,by go_num,HTJ⟩
          case measure=>simp [intOf];omega
       ·obtain rfl:j=n:=by omega
        have ht0:xs.take j=xs:=List.take_of_length_le (by rw [← Hn.out];exact Nat.le_refl _)
        rw [ht0,← HE.out] at HTI ⊢
        go_wp2_with fail
        go_ret
        exact ⟨_,rfl,HTI.out.from (by_grow HG1.out) HG.out⟩
    ·by_cases h2:kd=2
     ·subst h2
      clear h3 h5 h46
      obtain ⟨f,hf⟩:∃ f:Int→List Gr.Tn,f=fun k=>if Gr.at1 (l,false) k then [(-1,Gr.wo (l,false) k)] else []:=⟨_,rfl⟩
      have HE:Hid (TS=xs.flatMap f):=Lib.hid (by rw [HN.out,if_neg (by decide),if_neg (by decide),if_neg (by decide),if_pos rfl,hf])
      have HFp:Hid (∀ p,f p=if Gr.at1 (l,false) p then [(-1,Gr.wo (l,false) p)] else []):=Lib.hid (fun p=>by rw [hf])
      have HFl:Hid (∀ xs:List Int,(xs.flatMap f).length≤xs.length):=Lib.hid (fun xs=>Gr.flat_le f (fun p=>by rw [hf];dsimp only;split <;> simp) xs)
      clear hf
      go_wp2_with fail
      go_loopw [7,97] (fun vo vi wr=>∃ j:Nat,j≤n∧vi=.int .i64 j∧Hid (Gr.TI w1 wr B v0 v1 (.slice (some ⟨nb,no,none⟩) g.ns.length cn) v3 lv g L (u0 || Gr.bad ((xs.take j).flatMap f)) vo ((xs.take j).flatMap f))) (fun _ vi _=>n - (intOf vi).toNat)
      case atStart=>exact ⟨0,by omega,rfl,Lib.hid (by simpa [Gr.bad] using Gr.TI.start HG2.out HG2.out)⟩
      case round =>
       obtain ⟨j,hj,rfl,HTI⟩:=hrel
       rename World=>wr
       obtain ⟨va,hva⟩:∃ va,va=u7:=⟨_,rfl⟩
       obtain ⟨oa,oc,hoa⟩:=own_form HTI.out.own
       subst hoa
       clear hva
       by_cases hjn:j < n
       ·have hx:xs[j]? = some (xs.getD j 0):=by rw [List.getD_eq_getElem?_getD,List.getElem?_eq_getElem (by rw [← Hn.out];exact hjn)];rfl
        have HX2:=Lib.hid (flat_take f xs j _ hx)
        have hp:=HXp.out _ (List.mem_of_getElem? hx)
        obtain ⟨b,off,rfl,q⟩:=Ints.at1 HX.out (k:=j) (by rw [← Hn.out];exact hjn)
        have c:=(mask_self wr [B]).cell _ _ ((mask_by HTI.out.by_ (fun g hg=>by cases hg;simp)).cell _ _ q)
        clear q hx
        have HP:=Lib.hid (HFp.out (xs.getD j 0))
        have HLn:=Lib.hid (HFl.out (xs.take j))
        generalize xs.getD j 0=p at *
        generalize (xs.take j).flatMap f=ts at *
        have hlen:ts.length≤64:=by have:=HLn.out;rw [List.length_take] at *;omega
        have HHs:=Lib.hid fun w=>HHas.out w p hp.1 hp.2
        cases hat:Gr.at1 (l,false) p with
        | false =>
         have HE2:Hid ((xs.take (j+1)).flatMap f=ts):=Lib.hid (by rw [HX2.out,HP.out,if_neg (by rw [hat];simp),List.append_nil])
         rw [hat] at HHs
         go_wp2_with (go_at_call 77;refine (HHs.out _).mono ?_;rintro e w' ⟨rfl,rfl⟩)
         go_roundw
         case rel=>exact ⟨j+1,by omega,by go_num,Lib.hid (by rw [HE2.out];exact HTI.out)⟩
         case measure=>simp [intOf];omega
        | true =>
         obtain ⟨F,hF1⟩:∃ F,F=Gr.wo (l,false) p:=⟨_,rfl⟩
         have HE2:Hid ((xs.take (j+1)).flatMap f=ts++[(-1,F)]):=Lib.hid (by rw [HX2.out,HP.out,if_pos hat,hF1])
         have HMF:Hid (∀ w u vf vt,Gr.Gm w B v0 v1 (.slice (some ⟨nb,no,none⟩) g.ns.length cn) v3 lv g L (Gr.err u 0)→Ints (mask w [B]) vf [p]→Ints (mask w [B]) vt []→Calls Tryz.prog 76 #[.pointer (some ⟨B,0,none⟩),.int .u64 (Mark.ofBools l:Int),vf,vt] w fun e w'=>e=.returned (.int .u64 (Mark.ofBools F.1:Int))∧w.grownBy w' (some B)∧Gr.Gm w' B v0 v1 (.slice (some ⟨nb,no,none⟩) g.ns.length cn) v3 lv g L (Gr.err F.2 (Gr.err u 0))):=Lib.hid fun w u vf vt hm h1 h2=>by rw [hF1];exact HMv.out w u vf vt [p] [] hm (fun q hq=>by simp at hq;subst hq;exact hp) (by simp) (fun q hq=>by simp at hq) (by simp) h1 h2
         rw [hat] at HHs
         clear hat hF1
         go_wp2_with (first
          | (go_at_call 77;refine (HHs.out _).mono ?_;rintro e w' ⟨rfl,rfl⟩)
          | (go_at_call 76;refine (HMF.out _ _ _ _ (HTI.out.grow (Flow.grow_alloc _ _)).gm (HTI.out.gm.one _ _ (Nat.le_refl _)) (Ints.none _)).mono ?_;rintro e w3 ⟨rfl,hb,hk⟩;have HT3:=Lib.hid ((HTI.out.grow (Flow.grow_alloc _ _)).call hb hk);clear hb hk)
          | (at_builtin;refine wpList_appB (W:=w1) (B:=B) rfl _ _ 96 rfl 99 i0 (.agg #[.int .i64 0,.int .u64 0]) 2 16 Tryz.underlying96 HI.out.1 HI.out.2.1 HI.out.2.2.1 HI.out.2.2.2 rfl (by decide) _ ts.length (ts.flatMap Gr.tcells) rfl (HT3.out.grow (Flow.grow_alloc _ _)).own (HT3.out.grow (Flow.grow_alloc _ _)).by_ _ [.int .i64 (-1),.int .u64 (Mark.ofBools F.1:Int)] 1 1 rfl rfl (cells_of (heap_alloc_new _ _)) (by intro u hu;simp at hu;rcases hu with rfl | rfl <;> rfl) (by decide) (by omega) (by decide) (by decide) ?_;intro v' w4 ho _ hk hf;obtain ⟨g4,c4,rfl⟩:=hf;have HT4:=Lib.hid ((HT3.out.grow (Flow.grow_alloc _ _)).app (new:=[(-1,F)]) ho hk);clear ho hk))
         go_roundw
         case rel=>exact ⟨j+1,by omega,by go_num,Lib.hid (by rw [HE2.out,Gr.bad_append,← Bool.or_assoc];simpa [Gr.bad] using HT4.out)⟩
         case measure=>simp [intOf];omega
       ·obtain rfl:j=n:=by omega
        have ht0:xs.take j=xs:=List.take_of_length_le (by rw [← Hn.out];exact Nat.le_refl _)
        rw [ht0,← HE.out] at HTI ⊢
        go_wp2_with fail
        go_ret
        exact ⟨_,rfl,HTI.out.from (by_grow HG1.out) HG.out⟩
     ·obtain ⟨d3,d5,d4,d6,d2⟩:=Gr.kinds h3 h5 h46 h2
      have HE:Hid (TS=[]):=Lib.hid (by rw [HN.out,if_neg h3,if_neg h5,if_neg h46,if_neg h2])
      clear h3 h5 h46 h2
      go_wp2_with fail
      go_ret
      exact ⟨_,rfl,by rw [HE.out];simpa [Gr.bad] using (Gr.TI.start (u:=u0) HG2.out HG2.out).from (by_grow HG1.out) HG.out⟩
end Go.Proofs.YtcnmaplopbbmaaaGreat
