/- galliardref13: finished and begun by their contracts. -/
import Derived.Test.YtcnmaplopbbmaaaGreatMAn
import Derived.Test.YtcnmaplopbbmaaaGreatGBegin
namespace Go.Proofs.YtcnmaplopbbmaaaGreat
open Go.RowKit
theorem exec_load_row {P:Program} {o:Oper} {ρ:Operand→Value} {w:World} (ty:TypeId) (x:Operand) (ho:o.op=.load ty x)
  (g:Nat) (hx:ρ x=.pointer (some ⟨g,0,none⟩)) (t:TypeId) (cs:Array Value) (fr:Nat × Nat) (d:TypeDesc) (hg:w.heap[g]? = some (.cells cs t fr))
  (hu:P.underlying ty=some d) (hd:(match d with | .struct _ | .array _ _=>true | _=>false)=true) (hi:(P.info? ty).map (·.size)=some cs.size) :
  (execOp ρ o).run P w=.ok (.value (.agg cs)) w:=by
 unfold execOp
 simp only [ho,hx,Instr.loadAt,Instr.sureAddr,Sem.run_bind,Sem.run_pure,Result.andThen_ok,run_loadVar_row w g t ty cs fr d hg hu hd hi]
theorem Gr.idxFrom_app (x:Int):∀ (a b:List Int) (k:Nat),x∉a→Lib.idxFrom (a++b) x k=Lib.idxFrom b x (k+a.length)
 | [],b,k,_=>by simp
 | y :: a,b,k,h=>by
  have h1:y≠x:=fun e=>h (by simp [e])
  have h2:x∉a:=fun e=>h (by simp [e])
  rw [List.cons_append,Lib.idxFrom,if_neg (by simpa using h1),Gr.idxFrom_app x a b (k+1) h2,List.length_cons]
  congr 1
  omega
theorem Gr.tasks_lt (ns:List Gr.Nd):∀ n,∀ x∈Gr.tasks ns n,x < (n:Int)
 | 0,x,h=>by simp [Gr.tasks] at h
 | n+1,x,h=>by
  rw [Gr.tasks,List.mem_append] at h
  rcases h with h | h
  ·have:=Gr.tasks_lt ns n x h;omega
  ·split at h <;> simp at h;omega
theorem Gr.tasks_pre (ns:List Gr.Nd) (i:Nat):∀ k,∃ r,Gr.tasks ns (i+k)=Gr.tasks ns i++r
 | 0=>⟨[],by simp⟩
 | k+1=>by
  obtain ⟨r,hr⟩:=Gr.tasks_pre ns i k
  exact ⟨_,by rw [← Nat.add_assoc,Gr.tasks,hr,List.append_assoc]⟩
theorem Gr.busyR_eq {g:Gr.G} {i:Nat} (hi:i < g.ns.length) (hk:(g.nd i).kind=3):g.busyR i=g.busy i:=by
 obtain ⟨r,hr⟩:=Gr.tasks_pre g.ns (i+1) (g.ns.length - (i+1))
 rw [show i+1+(g.ns.length - (i+1))=g.ns.length by omega] at hr
 have h1:Gr.tasks g.ns (i+1)=Gr.tasks g.ns i++[(i:Int)]:=by
  rw [Gr.tasks,if_pos (show (g.ns.getD i Gr.nd0).kind=3 from hk)]
 have h2:Lib.idxOf g.tasks (i:Int)=(Gr.tasks g.ns i).length:=by
  show Lib.idxFrom (Gr.tasks g.ns g.ns.length) (i:Int) 0=_
  rw [hr,h1,List.append_assoc,Gr.idxFrom_app _ _ _ _ (fun hm=>by have:=Gr.tasks_lt g.ns i _ hm;omega)]
  simp [Lib.idxFrom]
 unfold Gr.G.busyR Gr.G.busy
 rw [h2,if_neg (by omega)]
set_option maxRecDepth 100000 in
set_option maxHeartbeats 1000000 in
theorem rfin_any (v0 v1 v2 v3:Value) (g:Gr.G) (i:Nat) (t:Gr.Tk) (W:World) (hF:g.Fit) (hl:t.1.length=64) (hi:i < g.ns.length) (hk:(g.nd i).kind=3) (h:Gr.GAt W v0 v1 v2 v3 g) :
  Calls Tryz.prog 82 #[.agg #[v0,v1,v2,v3],.int .i64 i,.agg (Gr.tcs t)] W fun e w'=>e=.returned (.agg (Gr.tcs (g.fin i t)))∧Flow.Grow W w':=by
 obtain ⟨hb0,hb1,_⟩:=hF.busy hi hk
 obtain ⟨an,cn,rfl⟩:=Gr.Recs.form h.nodes
 obtain ⟨b,off,rfl,q0,q1,q2,q3,q4,q5,q6⟩:=Gr.NdsAt.at h.nodes hi
 have HA:=Lib.hid h
 have HBs:Hid (∀ w,Flow.Grow W w→Calls Tryz.prog 79 #[.agg #[v0,v1,.slice (some ⟨b,off,none⟩) g.ns.length cn,v3],.int .i64 i] w fun e w'=>e=.returned (.int .i64 (g.busy i))∧Flow.Grow w w'):=Lib.hid fun w hg=>by
  have k:=busyR_any v0 v1 _ v3 g i w hF.few (by omega) (h.grow hg)
  rwa [Gr.busyR_eq hi hk] at k
 have HSt:Hid (∀ t:Gr.Tk,t.1.length=64→(Tryz.prog.info? 72).map (·.size)=some (Gr.tcs t).size∧(Gr.tcs t).size=65∧(Gr.tcs t).all (·.oneCell')=true):=Lib.hid fun t ht=>tk_sz ht
 have HSc:=Lib.hid (HSt.out t hl)
 have hz0:=zeroTk
 obtain ⟨z,hz⟩:∃ z,z=Gr.tcs Gr.tz:=⟨_,rfl⟩
 have Hz:Hid (z.size=65):=Lib.hid (by rw [hz];rfl)
 rw [← hz] at hz0
 clear hz
 have HSz:=Lib.hid (HSt.out (g.fin i t) (by rw [Gr.G.fin_len,hl]))
 have HOut:Hid (∀ w,Flow.Grow W w→Calls Tryz.prog 58 #[.agg #[v0,v1,.slice (some ⟨b,off,none⟩) g.ns.length cn,v3],.int .i64 i,.agg (Gr.tcs t)] w fun e w'=>e=.returned (.agg (Gr.tcs (g.outT i t)))∧Flow.Grow w w'):=Lib.hid fun w hg=>rout_any v0 v1 _ v3 g i t w hF hl (h.grow hg)
 have HPut:Hid (∀ w,Calls Tryz.prog 59 #[.agg (Gr.tcs t),.int .i64 (g.busy i+1)] w fun e w'=>e=.returned (.agg (Gr.tcs (Gr.put1 t (g.busy i+1))))∧Flow.Grow w w'):=Lib.hid fun w=>put_any t _ w hl (by omega) (by omega)
 have HD:Hid (g.fin i t=if (g.nd i).loop then Gr.put1 t (g.busy i+1) else g.outT i t):=Lib.hid rfl
 clear hF hl hk h q0 q1 q2 q3 q4 q5
 have q6':W.cell? ⟨b,off+i * 7+6,none⟩=some (.bool (g.nd i).loop):=q6
 clear q6
 generalize (g.nd i).loop=lp at *
 generalize g.fin i t=Rt at *
 generalize hR:Gr.tcs Rt=R at HSz ⊢
 have HR:=Lib.hid hR
 clear hR
 generalize Gr.tcs t=C at *
 generalize g.ns.length=nl at *
 generalize g.busy i=bi at *
 go_enter Tryz.func82,Tryz.ntmps82
 go_upto_region 1 with fail
 clear hz0
 have HBw10:Hid ((((W.alloc (.cells #[v0,v1,.slice (some ⟨b,off,none⟩) nl cn,v3] 27)).alloc (.cells C 72)).alloc (.cells z 72)).heap[W.heap.size]? = some (.cells #[v0,v1,.slice (some ⟨b,off,none⟩) nl cn,v3] 27 (0,0))):=Lib.hid (lay3_0 _ _ _ _)
 have HBw11:Hid ((((W.alloc (.cells #[v0,v1,.slice (some ⟨b,off,none⟩) nl cn,v3] 27)).alloc (.cells C 72)).alloc (.cells z 72)).heap[W.heap.size+1]? = some (.cells C 72 (0,0))):=Lib.hid (lay3_1 _ _ _ _)
 have HBw12:Hid ((((W.alloc (.cells #[v0,v1,.slice (some ⟨b,off,none⟩) nl cn,v3] 27)).alloc (.cells C 72)).alloc (.cells z 72)).heap[W.heap.size+1+1]? = some (.cells z 72 (0,0))):=Lib.hid (lay3_2 _ _ _ _)
 have HGw1:Hid (Flow.Grow W (((W.alloc (.cells #[v0,v1,.slice (some ⟨b,off,none⟩) nl cn,v3] 27)).alloc (.cells C 72)).alloc (.cells z 72))):=Lib.hid (lay3_g _ _ _ _)
 have HSw1:Hid ((((W.alloc (.cells #[v0,v1,.slice (some ⟨b,off,none⟩) nl cn,v3] 27)).alloc (.cells C 72)).alloc (.cells z 72)).heap.size=W.heap.size+1+1+1):=Lib.hid (by simp)
 generalize ((W.alloc (.cells #[v0,v1,.slice (some ⟨b,off,none⟩) nl cn,v3] 27)).alloc (.cells C 72)).alloc (.cells z 72)=w1 at *
 obtain ⟨X,hX⟩:∃ X,X=W.heap.size:=⟨_,rfl⟩
 rw [← hX] at HBw10 HBw11 HBw12 HSw1 ⊢
 have HXw1:=Lib.hid hX
 clear hX
 have CXw1:Hid (∀ wq,Flow.Grow w1 wq→wq.cell? ⟨X,0,none⟩=some (v0)∧wq.cell? ⟨X,1,none⟩=some (v1)∧wq.cell? ⟨X,2,none⟩=some (.slice (some ⟨b,off,none⟩) nl cn)∧wq.cell? ⟨X,3,none⟩=some (v3)):=Lib.hid (fun wq g=>⟨lay_cell g HBw10.out rfl,lay_cell g HBw10.out rfl,lay_cell g HBw10.out rfl,lay_cell g HBw10.out rfl⟩)
 have FXw1:Hid (∀ wq,Flow.Grow w1 wq→(∀ k,wq.frozen? ⟨X,k,none⟩=false)∧(∀ k,wq.frozen? ⟨X+1,k,none⟩=false)∧(∀ k,wq.frozen? ⟨X+1+1,k,none⟩=false)):=Lib.hid (fun wq g=>⟨fun k=>lay_frozen g HBw10.out k,fun k=>lay_frozen g HBw11.out k,fun k=>lay_frozen g HBw12.out k⟩)
 obtain ⟨c00,c01,c02,c03⟩:=CXw1.out w1 (Flow.grow_refl _)
 have q6:=Xm2.cell_grow HGw1.out q6'
 clear q6'
 cases lp with
 | true =>
  have HE:=Lib.hid (HD.out.trans (if_pos rfl))
  go_upto_region 2 with fail
  clear c00 c01 c02 c03 q6
  refine Flow.region_tail2 (R:=Flow.Grow) (C:=fun wq=>Flow.Grow w1 wq) (Fs:=[.inl ((.agg C)),.inl ((.agg #[v0,v1,.slice (some ⟨b,off,none⟩) nl cn,v3])),.inl ((.int .i64 (i:Int))),.inl ((.int .i64 bi)),.inl ((.int .i64 (bi+1))),.inl ((.agg R))])
   (S:=[[],[],[],[1,2],[3],[0,4],[0,1,2,3,4,5]]) 6 (by kernel_rfl) (by kernel_rfl) (by kernel_rfl) (by kernel_rfl) rfl ?stab2 Flow.grow_refl (fun _ _ h k=>h.trans k) (Flow.grow_drew _) ?ones2 ?ends2
  case ones2 =>
   refine Flow.Ones.cons ?_ ?_
   ·intro a w hC hoff _
    have e5:a.eval (.tmp 5)=(.pointer (some ⟨X+1,0,none⟩)):=hoff.at 5 (by kernel_rfl)
    refine .inl ⟨Flow.want_none rfl,?_⟩
    refine Flow.run_same ?_ Flow.grow_refl
    have ec:=Flow.eval_const a
    generalize a.eval=ρ at e5 ec ⊢
    exact exec_load_row 72 _ rfl (X+1) e5 72 C (0,0) _ (heap_keep hC HBw11.out) Tryz.underlying72 rfl HSc.out.1
   refine Flow.Ones.cons ?_ ?_
   ·intro a w hC hoff _
    have e3:a.eval (.tmp 3)=(.pointer (some ⟨X,0,none⟩)):=hoff.at 3 (by kernel_rfl)
    refine .inl ⟨Flow.want_none rfl,?_⟩
    refine Flow.run_same ?_ Flow.grow_refl
    have ec:=Flow.eval_const a
    generalize a.eval=ρ at e3 ec ⊢
    obtain ⟨h0,h1,h2,h3⟩:=CXw1.out w hC
    simp [execOp,e3,h0,h1,h2,h3,go_sem]
   refine Flow.Ones.cons ?_ ?_
   ·intro a w hC hoff _
    have e1:a.eval (.tmp 1)=(.int .i64 (i:Int)):=hoff.at 1 (by kernel_rfl)
    refine .inl ⟨Flow.want_none rfl,?_⟩
    exact Flow.run_same (Flow.exec_move (.inl rfl) e1) Flow.grow_refl
   refine Flow.Ones.cons ?_ ?_
   ·rintro a w hC hoff ⟨k1,k2,-⟩
    have e14:a.eval (.tmp 14)=(.agg #[v0,v1,.slice (some ⟨b,off,none⟩) nl cn,v3]):=k1 14 rfl
    have e15:a.eval (.tmp 15)=(.int .i64 (i:Int)):=k2 15 rfl
    refine .inl ⟨Flow.want_none rfl,?_⟩
    exact Flow.run_call (Flow.exec_call (args:=#[((.agg #[v0,v1,.slice (some ⟨b,off,none⟩) nl cn,v3])),((.int .i64 (i:Int)))]) rfl Tryz.func79 (by kernel_rfl) (by kernel_rfl) (by simp only [List.map_toArray,List.map_cons,List.map_nil,e14,e15] <;> rfl)) ((HBs.out w (HGw1.out.trans hC)).mono fun e w' ⟨he,hg⟩=>⟨_,he,hg,rfl⟩)
   refine Flow.Ones.cons ?_ ?_
   ·rintro a w hC hoff ⟨k3,-⟩
    have e16:a.eval (.tmp 16)=(.int .i64 bi):=k3 16 rfl
    refine .inl ⟨Flow.want_none rfl,?_⟩
    refine Flow.run_same ?_ Flow.grow_refl
    have ec:=Flow.eval_const a
    generalize a.eval=ρ at e16 ec ⊢
    simp [execOp,e16,ec,go_sem];exact IntWalk.i64_in _ (by omega)
   refine Flow.Ones.cons ?_ ?_
   ·rintro a w hC hoff ⟨k0,k4,-⟩
    have e13:a.eval (.tmp 13)=(.agg C):=k0 13 rfl
    have e17:a.eval (.tmp 17)=(.int .i64 (bi+1)):=k4 17 rfl
    refine .inl ⟨Flow.want_none rfl,?_⟩
    exact Flow.run_call (Flow.exec_call (args:=#[((.agg C)),((.int .i64 (bi+1)))]) rfl Tryz.func59 (by kernel_rfl) (by kernel_rfl) (by simp only [List.map_toArray,List.map_cons,List.map_nil,e13,e17] <;> rfl)) ((HPut.out w).mono fun e w' ⟨he,hg⟩=>⟨_,he,hg,by rw [← HR.out,HE.out];rfl⟩)
   exact trivial
  case stab2=>exact trivial
  case ends2 =>
   intro wx o ho hC
   simp only [List.take_succ_cons,List.take_zero,Flow.ends]
   have hop:o.op=.store 72 (.tmp 6) (.tmp 18):=by cases ho;rfl
   have hdst:o.dst=none:=by cases ho;rfl
   clear ho
   simp only [Act.put,List.setIfInBounds_toArray,List.set_cons_succ,List.set_cons_zero]
   have HC:=Lib.hid hC
   clear hC
   refine wp_store_row 72 _ _ hop (X+1+1) R rfl rfl 72 z (heap_keep HC.out HBw12.out) HSz.out.1 (Hz.out.trans HSz.out.2.1.symm) HSz.out.2.2 ?_
   rw [hdst]
   simp only [Act.put]
   go_wp2_with fail
   refine bodyPost_ret (results_cell_row rfl _ _ (X+1+1) _ _ _ _ rfl (row_set (heap_keep HC.out HBw12.out)) Tryz.underlying72 rfl HSz.out.1) rfl ⟨rfl,row_grow (HGw1.out.trans HC.out) (by have:=HXw1.out;omega)⟩
 | false =>
  have HE:=Lib.hid (HD.out.trans (if_neg (by simp)))
  go_upto_region 3 with fail
  go_wp2_with (first
   | (with_reducible refine wpList_load_row rfl 72 (.tmp 5) rfl (X+1) rfl 72 C (0,0) _ HBw11.out Tryz.underlying72 rfl HSc.out.1 ?_)
   | (go_at_call 58;refine (HOut.out _ HGw1.out).mono ?_;rintro e w3 ⟨rfl,hg⟩;rw [← HE.out,HR.out];have H2':=Lib.hid (heap_keep hg HBw12.out);have HG':=Lib.hid (HGw1.out.trans hg);clear hg;have hst:=row_store Tryz.prog H2'.out (HSz.out.2.1.trans Hz.out.symm) HSz.out.2.2;have hsz:=HSz.out.2.1))
  refine bodyPost_ret (results_cell_row rfl _ _ (X+1+1) _ _ _ _ rfl (row_set H2'.out) Tryz.underlying72 rfl HSz.out.1) rfl ⟨rfl,row_grow HG'.out (by have:=HXw1.out;omega)⟩
set_option maxRecDepth 100000 in
set_option maxHeartbeats 1000000 in
theorem rbegun_any (v0 v1 v2 v3:Value) (g:Gr.G) (i:Nat) (t:Gr.Tk) (W:World) (hF:g.Fit) (hl:t.1.length=64) (hi:i < g.ns.length) (hk:(g.nd i).kind=3) (h:Gr.GAt W v0 v1 v2 v3 g) :
  Calls Tryz.prog 81 #[.agg #[v0,v1,v2,v3],.int .i64 i,.agg (Gr.tcs t)] W fun e w'=>e=.returned (.agg (Gr.tcs (g.begun i t)))∧Flow.Grow W w':=by
 obtain ⟨hb0,hb1,_⟩:=hF.busy hi hk
 obtain ⟨an,cn,rfl⟩:=Gr.Recs.form h.nodes
 obtain ⟨b,off,rfl,q0,q1,q2,q3,q4,q5,q6⟩:=Gr.NdsAt.at h.nodes hi
 have HA:=Lib.hid h
 have HBs:Hid (∀ w,Flow.Grow W w→Calls Tryz.prog 79 #[.agg #[v0,v1,.slice (some ⟨b,off,none⟩) g.ns.length cn,v3],.int .i64 i] w fun e w'=>e=.returned (.int .i64 (g.busy i))∧Flow.Grow w w'):=Lib.hid fun w hg=>by
  have k:=busyR_any v0 v1 _ v3 g i w hF.few (by omega) (h.grow hg)
  rwa [Gr.busyR_eq hi hk] at k
 have HSt:Hid (∀ t:Gr.Tk,t.1.length=64→(Tryz.prog.info? 72).map (·.size)=some (Gr.tcs t).size∧(Gr.tcs t).size=65∧(Gr.tcs t).all (·.oneCell')=true):=Lib.hid fun t ht=>tk_sz ht
 have HSc:=Lib.hid (HSt.out t hl)
 have hz0:=zeroTk
 obtain ⟨z,hz⟩:∃ z,z=Gr.tcs Gr.tz:=⟨_,rfl⟩
 have Hz:Hid (z.size=65):=Lib.hid (by rw [hz];rfl)
 rw [← hz] at hz0
 clear hz
 have HSz:=Lib.hid (HSt.out (g.begun i t) (by rw [Gr.G.begun_len,hl]))
 have HOut:Hid (∀ w,Flow.Grow W w→Calls Tryz.prog 82 #[.agg #[v0,v1,.slice (some ⟨b,off,none⟩) g.ns.length cn,v3],.int .i64 i,.agg (Gr.tcs t)] w fun e w'=>e=.returned (.agg (Gr.tcs (g.fin i t)))∧Flow.Grow w w'):=Lib.hid fun w hg=>rfin_any v0 v1 _ v3 g i t w hF hl hi hk (h.grow hg)
 have HPut:Hid (∀ w,Calls Tryz.prog 59 #[.agg (Gr.tcs t),.int .i64 (g.busy i)] w fun e w'=>e=.returned (.agg (Gr.tcs (Gr.put1 t (g.busy i))))∧Flow.Grow w w'):=Lib.hid fun w=>put_any t _ w hl (by omega) (by omega)
 have HD:Hid (g.begun i t=if 0≤(g.nd i).rep then Gr.put1 t (g.busy i) else g.fin i t):=Lib.hid rfl
 clear hF hl hk h q0 q1 q2 q3 q4 q6
 have q5':W.cell? ⟨b,off+i * 7+5,none⟩=some (.int .i64 (g.nd i).rep):=q5
 clear q5
 generalize (g.nd i).rep=rp at *
 generalize g.begun i t=Rt at *
 generalize hR:Gr.tcs Rt=R at HSz ⊢
 have HR:=Lib.hid hR
 clear hR
 generalize Gr.tcs t=C at *
 generalize g.ns.length=nl at *
 generalize g.busy i=bi at *
 go_enter Tryz.func81,Tryz.ntmps81
 go_upto_region 1 with fail
 clear hz0
 have HBw10:Hid ((((W.alloc (.cells #[v0,v1,.slice (some ⟨b,off,none⟩) nl cn,v3] 27)).alloc (.cells C 72)).alloc (.cells z 72)).heap[W.heap.size]? = some (.cells #[v0,v1,.slice (some ⟨b,off,none⟩) nl cn,v3] 27 (0,0))):=Lib.hid (lay3_0 _ _ _ _)
 have HBw11:Hid ((((W.alloc (.cells #[v0,v1,.slice (some ⟨b,off,none⟩) nl cn,v3] 27)).alloc (.cells C 72)).alloc (.cells z 72)).heap[W.heap.size+1]? = some (.cells C 72 (0,0))):=Lib.hid (lay3_1 _ _ _ _)
 have HBw12:Hid ((((W.alloc (.cells #[v0,v1,.slice (some ⟨b,off,none⟩) nl cn,v3] 27)).alloc (.cells C 72)).alloc (.cells z 72)).heap[W.heap.size+1+1]? = some (.cells z 72 (0,0))):=Lib.hid (lay3_2 _ _ _ _)
 have HGw1:Hid (Flow.Grow W (((W.alloc (.cells #[v0,v1,.slice (some ⟨b,off,none⟩) nl cn,v3] 27)).alloc (.cells C 72)).alloc (.cells z 72))):=Lib.hid (lay3_g _ _ _ _)
 have HSw1:Hid ((((W.alloc (.cells #[v0,v1,.slice (some ⟨b,off,none⟩) nl cn,v3] 27)).alloc (.cells C 72)).alloc (.cells z 72)).heap.size=W.heap.size+1+1+1):=Lib.hid (by simp)
 generalize ((W.alloc (.cells #[v0,v1,.slice (some ⟨b,off,none⟩) nl cn,v3] 27)).alloc (.cells C 72)).alloc (.cells z 72)=w1 at *
 obtain ⟨X,hX⟩:∃ X,X=W.heap.size:=⟨_,rfl⟩
 rw [← hX] at HBw10 HBw11 HBw12 HSw1 ⊢
 have HXw1:=Lib.hid hX
 clear hX
 have CXw1:Hid (∀ wq,Flow.Grow w1 wq→wq.cell? ⟨X,0,none⟩=some (v0)∧wq.cell? ⟨X,1,none⟩=some (v1)∧wq.cell? ⟨X,2,none⟩=some (.slice (some ⟨b,off,none⟩) nl cn)∧wq.cell? ⟨X,3,none⟩=some (v3)):=Lib.hid (fun wq g=>⟨lay_cell g HBw10.out rfl,lay_cell g HBw10.out rfl,lay_cell g HBw10.out rfl,lay_cell g HBw10.out rfl⟩)
 have FXw1:Hid (∀ wq,Flow.Grow w1 wq→(∀ k,wq.frozen? ⟨X,k,none⟩=false)∧(∀ k,wq.frozen? ⟨X+1,k,none⟩=false)∧(∀ k,wq.frozen? ⟨X+1+1,k,none⟩=false)):=Lib.hid (fun wq g=>⟨fun k=>lay_frozen g HBw10.out k,fun k=>lay_frozen g HBw11.out k,fun k=>lay_frozen g HBw12.out k⟩)
 obtain ⟨c00,c01,c02,c03⟩:=CXw1.out w1 (Flow.grow_refl _)
 have q5:=Xm2.cell_grow HGw1.out q5'
 clear q5'
 by_cases hr:0≤rp
 ·have d:decide (0≤rp)=true:=by simp [hr]
  have HE:=Lib.hid (HD.out.trans (if_pos hr))
  clear hr
  go_upto_region 2 with fail
  clear c00 c01 c02 c03 q5
  refine Flow.region_tail2 (R:=Flow.Grow) (C:=fun wq=>Flow.Grow w1 wq) (Fs:=[.inl ((.agg C)),.inl ((.agg #[v0,v1,.slice (some ⟨b,off,none⟩) nl cn,v3])),.inl ((.int .i64 (i:Int))),.inl ((.int .i64 bi)),.inl ((.agg R))])
   (S:=[[],[],[],[1,2],[0,3],[0,1,2,3,4]]) 5 (by kernel_rfl) (by kernel_rfl) (by kernel_rfl) (by kernel_rfl) rfl ?stab2 Flow.grow_refl (fun _ _ h k=>h.trans k) (Flow.grow_drew _) ?ones2 ?ends2
  case ones2 =>
   refine Flow.Ones.cons ?_ ?_
   ·intro a w hC hoff _
    have e5:a.eval (.tmp 5)=(.pointer (some ⟨X+1,0,none⟩)):=hoff.at 5 (by kernel_rfl)
    refine .inl ⟨Flow.want_none rfl,?_⟩
    refine Flow.run_same ?_ Flow.grow_refl
    have ec:=Flow.eval_const a
    generalize a.eval=ρ at e5 ec ⊢
    exact exec_load_row 72 _ rfl (X+1) e5 72 C (0,0) _ (heap_keep hC HBw11.out) Tryz.underlying72 rfl HSc.out.1
   refine Flow.Ones.cons ?_ ?_
   ·intro a w hC hoff _
    have e3:a.eval (.tmp 3)=(.pointer (some ⟨X,0,none⟩)):=hoff.at 3 (by kernel_rfl)
    refine .inl ⟨Flow.want_none rfl,?_⟩
    refine Flow.run_same ?_ Flow.grow_refl
    have ec:=Flow.eval_const a
    generalize a.eval=ρ at e3 ec ⊢
    obtain ⟨h0,h1,h2,h3⟩:=CXw1.out w hC
    simp [execOp,e3,h0,h1,h2,h3,go_sem]
   refine Flow.Ones.cons ?_ ?_
   ·intro a w hC hoff _
    have e1:a.eval (.tmp 1)=(.int .i64 (i:Int)):=hoff.at 1 (by kernel_rfl)
    refine .inl ⟨Flow.want_none rfl,?_⟩
    exact Flow.run_same (Flow.exec_move (.inl rfl) e1) Flow.grow_refl
   refine Flow.Ones.cons ?_ ?_
   ·rintro a w hC hoff ⟨k1,k2,-⟩
    have e15:a.eval (.tmp 15)=(.agg #[v0,v1,.slice (some ⟨b,off,none⟩) nl cn,v3]):=k1 15 rfl
    have e16:a.eval (.tmp 16)=(.int .i64 (i:Int)):=k2 16 rfl
    refine .inl ⟨Flow.want_none rfl,?_⟩
    exact Flow.run_call (Flow.exec_call (args:=#[((.agg #[v0,v1,.slice (some ⟨b,off,none⟩) nl cn,v3])),((.int .i64 (i:Int)))]) rfl Tryz.func79 (by kernel_rfl) (by kernel_rfl) (by simp only [List.map_toArray,List.map_cons,List.map_nil,e15,e16] <;> rfl)) ((HBs.out w (HGw1.out.trans hC)).mono fun e w' ⟨he,hg⟩=>⟨_,he,hg,rfl⟩)
   refine Flow.Ones.cons ?_ ?_
   ·rintro a w hC hoff ⟨k0,k3,-⟩
    have e14:a.eval (.tmp 14)=(.agg C):=k0 14 rfl
    have e17:a.eval (.tmp 17)=(.int .i64 bi):=k3 17 rfl
    refine .inl ⟨Flow.want_none rfl,?_⟩
    exact Flow.run_call (Flow.exec_call (args:=#[((.agg C)),((.int .i64 bi))]) rfl Tryz.func59 (by kernel_rfl) (by kernel_rfl) (by simp only [List.map_toArray,List.map_cons,List.map_nil,e14,e17] <;> rfl)) ((HPut.out w).mono fun e w' ⟨he,hg⟩=>⟨_,he,hg,by rw [← HR.out,HE.out];rfl⟩)
   exact trivial
  case stab2=>exact trivial
  case ends2 =>
   intro wx o ho hC
   simp only [List.take_succ_cons,List.take_zero,Flow.ends]
   have hop:o.op=.store 72 (.tmp 6) (.tmp 18):=by cases ho;rfl
   have hdst:o.dst=none:=by cases ho;rfl
   clear ho
   simp only [Act.put,List.setIfInBounds_toArray,List.set_cons_succ,List.set_cons_zero]
   have HC:=Lib.hid hC
   clear hC
   refine wp_store_row 72 _ _ hop (X+1+1) R rfl rfl 72 z (heap_keep HC.out HBw12.out) HSz.out.1 (Hz.out.trans HSz.out.2.1.symm) HSz.out.2.2 ?_
   rw [hdst]
   simp only [Act.put]
   go_wp2_with fail
   refine bodyPost_ret (results_cell_row rfl _ _ (X+1+1) _ _ _ _ rfl (row_set (heap_keep HC.out HBw12.out)) Tryz.underlying72 rfl HSz.out.1) rfl ⟨rfl,row_grow (HGw1.out.trans HC.out) (by have:=HXw1.out;omega)⟩
 ·have d:decide (0≤rp)=false:=by simp [hr]
  have HE:=Lib.hid (HD.out.trans (if_neg hr))
  clear hr
  go_upto_region 3 with fail
  go_wp2_with (first
   | (with_reducible refine wpList_load_row rfl 72 (.tmp 5) rfl (X+1) rfl 72 C (0,0) _ HBw11.out Tryz.underlying72 rfl HSc.out.1 ?_)
   | (go_at_call 82;refine (HOut.out _ HGw1.out).mono ?_;rintro e w3 ⟨rfl,hg⟩;rw [← HE.out,HR.out];have H2':=Lib.hid (heap_keep hg HBw12.out);have HG':=Lib.hid (HGw1.out.trans hg);clear hg;have hst:=row_store Tryz.prog H2'.out (HSz.out.2.1.trans Hz.out.symm) HSz.out.2.2;have hsz:=HSz.out.2.1))
  refine bodyPost_ret (results_cell_row rfl _ _ (X+1+1) _ _ _ _ rfl (row_set H2'.out) Tryz.underlying72 rfl HSz.out.1) rfl ⟨rfl,row_grow HG'.out (by have:=HXw1.out;omega)⟩
end Go.Proofs.YtcnmaplopbbmaaaGreat
