/- galliardref08's begin by contract. -/
import Derived.Test.YtcnmaplopbbmaaaGreatChLevel
namespace Go.Proofs.YtcnmaplopbbmaaaGreat
open Go.RowKit
theorem info_part08:(Tryz.prog.info? 81).map (fun i=>(i.zero,i.size,i.bytes))=some (some (.agg #[.string ⟨#[]⟩,.string ⟨#[]⟩]),2,32):=by kernel_rfl
theorem begin08_res (tmps:Array Value) (w:World) (X:Nat) (c0 c1 c2 c3 c4 c5 c6 c7:Value) (h2:tmps.getD 6 undef=.pointer (some ⟨X,0,none⟩)) (hx:w.heap[X]? = some (.cells #[c0,c1,c2,c3,c4,c5,c6,c7] 86 (0,0))) :
  (results Tryz.f23 tmps).run Tryz.prog w=.ok (.agg #[c0,c1,c2,c3,c4,c5,c6,c7]) w:=by
 obtain ⟨x0,x1,x2,x3,x4,x5,x6,x7,_⟩:=m8_cells hx
 simp only [Array.getD_eq_getD_getElem?] at h2
 simp [results,Tryz.results23,h2,x0,x1,x2,x3,x4,x5,x6,x7,go_sem]
namespace Ch
def pnm (i:Nat):S:=if i=0 then ⟨#[112,97]⟩ else if i=1 then ⟨#[112,98]⟩ else if i=2 then ⟨#[112,99]⟩ else ⟨#[112,100]⟩
def pnms (pre:S) (n:Nat):List S:=(List.range n).map fun i=>pre++pnm i
theorem pnms_len (pre:S) (n:Nat):(pnms pre n).length=n:=by simp [pnms]
theorem pnms_succ (pre:S) (n:Nat):pnms pre (n+1)=pnms pre n++[pre++pnm n]:=by simp [pnms,List.range_succ]
theorem pnm_size (i:Nat):(pnm i).size=2:=by
 unfold pnm
 split
 ·rfl
 ·split
  ·rfl
  ·split <;> rfl
def mk0:Mk:=⟨0,0,[],[],[]⟩
end Ch
set_option maxRecDepth 100000 in
set_option maxHeartbeats 8000000 in
theorem begin08_any (p:List Int) (vp:Value) (n:Nat) (pre:ByteArray) (W:World) (hn:n≤4) (hc:pre.size≤1000) (h:Ints W vp p) :
  Calls Tryz.prog 23 #[vp,.int .i64 (n:Int),.string pre] W fun e w'=>∃ va,e=.returned (.agg (Ch.mc ⟨p,Ch.pnms pre n,pre⟩ Ch.mk0 vp va (.slice none 0 0) (.slice none 0 0) (.slice none 0 0)))∧Ch.MkAt w' ⟨p,Ch.pnms pre n,pre⟩ Ch.mk0 vp va (.slice none 0 0) (.slice none 0 0) (.slice none 0 0)∧Flow.Grow W w':=by
 have H:=Lib.hid h
 obtain ⟨p0,p1,rfl,_⟩:=h
 generalize p.length=pn at *
 obtain ⟨i9,hi,hz,hs,hb⟩:=info_parts08 info_part08
 have HI:=Lib.hid (And.intro hi (And.intro hz (And.intro hs hb)))
 clear hi hz hs hb
 go_enter Tryz.func23,Tryz.ntmps23
 go_upto_region 2 with fail
 have HBw10:Hid (((W.alloc (.cells #[.slice none 0 0,.int .i64 0,.int .i64 0,.slice none 0 0,.slice none 0 0,.slice none 0 0,.slice none 0 0,.string ⟨#[]⟩] 86)).alloc (.cells #[.slice p0 pn p1,.int .i64 0,.int .i64 0,.slice none 0 0,.slice none 0 0,.slice none 0 0,.slice none 0 0,.string pre] 86)).heap[W.heap.size]? = some (.cells #[.slice none 0 0,.int .i64 0,.int .i64 0,.slice none 0 0,.slice none 0 0,.slice none 0 0,.slice none 0 0,.string ⟨#[]⟩] 86 (0,0))):=Lib.hid (lay2_0 _ _ _)
 have HBw11:Hid (((W.alloc (.cells #[.slice none 0 0,.int .i64 0,.int .i64 0,.slice none 0 0,.slice none 0 0,.slice none 0 0,.slice none 0 0,.string ⟨#[]⟩] 86)).alloc (.cells #[.slice p0 pn p1,.int .i64 0,.int .i64 0,.slice none 0 0,.slice none 0 0,.slice none 0 0,.slice none 0 0,.string pre] 86)).heap[W.heap.size+1]? = some (.cells #[.slice p0 pn p1,.int .i64 0,.int .i64 0,.slice none 0 0,.slice none 0 0,.slice none 0 0,.slice none 0 0,.string pre] 86 (0,0))):=Lib.hid (lay2_1 _ _ _)
 have HGw1:Hid (Flow.Grow W ((W.alloc (.cells #[.slice none 0 0,.int .i64 0,.int .i64 0,.slice none 0 0,.slice none 0 0,.slice none 0 0,.slice none 0 0,.string ⟨#[]⟩] 86)).alloc (.cells #[.slice p0 pn p1,.int .i64 0,.int .i64 0,.slice none 0 0,.slice none 0 0,.slice none 0 0,.slice none 0 0,.string pre] 86))):=Lib.hid (lay2_g _ _ _)
 have HSw1:Hid (((W.alloc (.cells #[.slice none 0 0,.int .i64 0,.int .i64 0,.slice none 0 0,.slice none 0 0,.slice none 0 0,.slice none 0 0,.string ⟨#[]⟩] 86)).alloc (.cells #[.slice p0 pn p1,.int .i64 0,.int .i64 0,.slice none 0 0,.slice none 0 0,.slice none 0 0,.slice none 0 0,.string pre] 86)).heap.size=W.heap.size+1+1):=Lib.hid (by simp)
 generalize (W.alloc (.cells #[.slice none 0 0,.int .i64 0,.int .i64 0,.slice none 0 0,.slice none 0 0,.slice none 0 0,.slice none 0 0,.string ⟨#[]⟩] 86)).alloc (.cells #[.slice p0 pn p1,.int .i64 0,.int .i64 0,.slice none 0 0,.slice none 0 0,.slice none 0 0,.slice none 0 0,.string pre] 86)=w1 at *
 obtain ⟨X,hX⟩:∃ X,X=W.heap.size:=⟨_,rfl⟩
 rw [← hX] at HBw10 HBw11 HSw1 ⊢
 have HXw1:=Lib.hid hX
 clear hX
 have CXw1:Hid (∀ wq,Flow.Grow w1 wq→wq.cell? ⟨X,0,none⟩=some (.slice none 0 0)∧wq.cell? ⟨X,1,none⟩=some (.int .i64 0)∧wq.cell? ⟨X,2,none⟩=some (.int .i64 0)∧wq.cell? ⟨X,3,none⟩=some (.slice none 0 0)∧wq.cell? ⟨X,4,none⟩=some (.slice none 0 0)∧wq.cell? ⟨X,5,none⟩=some (.slice none 0 0)∧wq.cell? ⟨X,6,none⟩=some (.slice none 0 0)∧wq.cell? ⟨X,7,none⟩=some (.string ⟨#[]⟩)∧wq.cell? ⟨X+1,0,none⟩=some (.slice p0 pn p1)∧wq.cell? ⟨X+1,1,none⟩=some (.int .i64 0)∧wq.cell? ⟨X+1,2,none⟩=some (.int .i64 0)∧wq.cell? ⟨X+1,3,none⟩=some (.slice none 0 0)∧wq.cell? ⟨X+1,4,none⟩=some (.slice none 0 0)∧wq.cell? ⟨X+1,5,none⟩=some (.slice none 0 0)∧wq.cell? ⟨X+1,6,none⟩=some (.slice none 0 0)∧wq.cell? ⟨X+1,7,none⟩=some (.string pre)):=Lib.hid (fun wq g=>⟨lay_cell g HBw10.out rfl,lay_cell g HBw10.out rfl,lay_cell g HBw10.out rfl,lay_cell g HBw10.out rfl,lay_cell g HBw10.out rfl,lay_cell g HBw10.out rfl,lay_cell g HBw10.out rfl,lay_cell g HBw10.out rfl,lay_cell g HBw11.out rfl,lay_cell g HBw11.out rfl,lay_cell g HBw11.out rfl,lay_cell g HBw11.out rfl,lay_cell g HBw11.out rfl,lay_cell g HBw11.out rfl,lay_cell g HBw11.out rfl,lay_cell g HBw11.out rfl⟩)
 have FXw1:Hid (∀ wq,Flow.Grow w1 wq→(∀ k,wq.frozen? ⟨X,k,none⟩=false)∧(∀ k,wq.frozen? ⟨X+1,k,none⟩=false)):=Lib.hid (fun wq g=>⟨fun k=>lay_frozen g HBw10.out k,fun k=>lay_frozen g HBw11.out k⟩)
 have hX:W.heap.size≤X:=by rw [HXw1.out];exact Nat.le_refl _
 have hX1:W.heap.size≤X+1:=by omega
 have HO1:=Lib.hid (World.ownsRow_nil w1 W.heap.size 81 2)
 have HZ1:=Lib.hid HBw10.out
 have HB1:=Lib.hid HBw11.out
 go_wp2_with fail
 go_loopw [8] (fun vi wr=>∃ (i:Nat) (va:Value),i≤n∧vi=.int .i64 (i:Int)∧Hid (wr.heap[X]? = some (.cells #[.slice none 0 0,.int .i64 0,.int .i64 0,.slice none 0 0,.slice none 0 0,.slice none 0 0,.slice none 0 0,.string ⟨#[]⟩] 86 (0,0)))∧Hid (wr.heap[X+1]? = some (.cells #[.slice p0 pn p1,.int .i64 0,.int .i64 0,va,.slice none 0 0,.slice none 0 0,.slice none 0 0,.string pre] 86 (0,0)))∧Hid (wr.ownsRow W.heap.size 81 2 va i ((Ch.pnms pre i).flatMap Ch.pcells))∧Hid (Flow.Grow W wr)) (fun vi _=>n - (intOf vi).toNat)
 case atStart=>exact ⟨0,_,by omega,rfl,HZ1,HB1,HO1,HGw1⟩
 case round =>
  obtain ⟨i,va,hi,rfl,HZ,HB,HO,HG⟩:=hrel
  rename World=>wr
  obtain ⟨a0,a1,rfl⟩:=own_form HO.out
  by_cases hin:i < n
  ·have d1:decide ((i:Int) < (n:Int))=true:=by simp;omega
   obtain ⟨nm,hnm⟩:∃ s,s=Ch.pnm i:=⟨_,rfl⟩
   have HNm:Hid (∀ (w:World) (q:Nat),w.heap[q]? = some (.cells #[.string ⟨#[112,97]⟩,.string ⟨#[112,98]⟩,.string ⟨#[112,99]⟩,.string ⟨#[112,100]⟩] 9 (0,0))→w.cell? ⟨q,i,none⟩=some (.string nm)):=Lib.hid fun w q hq=>by
    rw [hnm]
    have h4:i=0∨i=1∨i=2∨i=3:=by omega
    rcases h4 with e | e | e | e <;> rw [e] <;> exact (cell_of_row w q _ _ _ _ hq).trans rfl
   have hns:nm.size=2:=by rw [hnm];exact Ch.pnm_size i
   have hsz:¬ 9223372036854775807 < pre.size+nm.size:=by omega
   have Hnm:=Lib.hid hnm
   have hi4:(i:Int) < 4:=by omega
   clear hnm
   go_upto_region 5 with fail
   refine Flow.region_tail3 (R:=Flow.Grow) (C:=fun wq=>Flow.Grow wr wq) (Fs:=[.inl ((.pointer (some ⟨X+1,3,none⟩))),.inl ((.slice a0 i a1)),.inl ((.string pre)),.inr (fun v w=>∃ q,v=.slice (some ⟨q,0,none⟩) 4 4∧w.heap[q]? = some (.cells #[.string ⟨#[112,97]⟩,.string ⟨#[112,98]⟩,.string ⟨#[112,99]⟩,.string ⟨#[112,100]⟩] 9 (0,0))),.inl ((.int .i64 (i:Int))),.inr (fun v w=>∃ q,v=.pointer (some ⟨q,i,none⟩)∧w.heap[q]? = some (.cells #[.string ⟨#[112,97]⟩,.string ⟨#[112,98]⟩,.string ⟨#[112,99]⟩,.string ⟨#[112,100]⟩] 9 (0,0))),.inl ((.string nm)),.inl ((.string (pre++nm))),.inl ((.agg #[.string (pre++nm),.string ⟨#[]⟩])),.inr (fun v w=>∃ q,v=.slice (some ⟨q,0,none⟩) 1 1∧w.heap[q]? = some (.cells #[.string (pre++nm),.string ⟨#[]⟩] 81 (0,0)))]) (T:=fun v w'=>∃ gb gc,v=.slice (some ⟨gb,0,none⟩) (i+1) gc∧Hid (w'.heap[X+1]? = some (.cells #[.slice p0 pn p1,.int .i64 0,.int .i64 0,.slice a0 i a1,.slice none 0 0,.slice none 0 0,.slice none 0 0,.string pre] 86 (0,0))∧w'.heap[X]? = some (.cells #[.slice none 0 0,.int .i64 0,.int .i64 0,.slice none 0 0,.slice none 0 0,.slice none 0 0,.slice none 0 0,.string ⟨#[]⟩] 86 (0,0))∧w'.ownsRow W.heap.size 81 2 v (i+1) ((Ch.pnms pre i).flatMap Ch.pcells++[.string (pre++nm),.string ⟨#[]⟩])∧Flow.Grow W w')) (c:=.pointer (some ⟨X+1,3,none⟩))
    (S:=[[],[0],[],[],[],[3,4],[3,4,5],[2,3,4,5,6],[2,3,4,5,6,7],[2,3,4,5,6,7,8],[0,1,2,3,4,5,6,7,8,9]]) 10 (by kernel_rfl) rfl rfl rfl (by kernel_rfl) (by kernel_rfl) rfl ?stab5 Flow.grow_refl (fun _ _ h k=>h.trans k) (Flow.grow_drew _) ?ones5 ?app5 ?place5 ?ends5
   case ones5 =>
    refine Flow.Ones.cons ?_ ?_
    ·intro a w hC hoff _
     have e7:a.eval (.tmp 7)=(.pointer (some ⟨X+1,0,none⟩)):=hoff.at 7 (by kernel_rfl)
     refine .inl ⟨Flow.want_none rfl,?_⟩
     refine Flow.run_same ?_ Flow.grow_refl
     have ec:=Flow.eval_const a
     generalize a.eval=ρ at e7 ec ⊢
     simp [execOp,e7,go_sem]
    refine Flow.Ones.cons ?_ ?_
    ·rintro a w hC hoff ⟨k0,-⟩
     have e17:a.eval (.tmp 17)=(.pointer (some ⟨X+1,3,none⟩)):=k0 17 rfl
     refine .inl ⟨Flow.want_none rfl,?_⟩
     refine Flow.run_same ?_ Flow.grow_refl
     have ec:=Flow.eval_const a
     generalize a.eval=ρ at e17 ec ⊢
     obtain ⟨x0,x1,x2,x3,x4,x5,x6,x7,xf⟩:=m8_cells (heap_keep hC HB.out)
     simp [execOp,e17,x3,go_sem]
    refine Flow.Ones.cons ?_ ?_
    ·intro a w hC hoff _
     have e2:a.eval (.tmp 2)=(.string pre):=hoff.at 2 (by kernel_rfl)
     refine .inl ⟨Flow.want_none rfl,?_⟩
     exact Flow.run_same (Flow.exec_move (.inl rfl) e2) Flow.grow_refl
    refine Flow.Ones.cons ?_ ?_
    ·intro a w hC hoff _
     refine .inl ⟨Flow.want_none rfl,?_⟩
     refine Flow.run_val (v:=.slice (some ⟨w.heap.size,0,none⟩) 4 4) (w':=w.alloc (.cells #[.string ⟨#[112,97]⟩,.string ⟨#[112,98]⟩,.string ⟨#[112,99]⟩,.string ⟨#[112,100]⟩] 9)) ?_ (Flow.grow_alloc _ _) ⟨_,rfl,heap_alloc_new _ _⟩
     have ec:=Flow.eval_const a
     generalize a.eval=ρ at ec ⊢
     simp [execOp,ec,go_sem]
    refine Flow.Ones.cons ?_ ?_
    ·intro a w hC hoff _
     have e8:a.eval (.tmp 8)=(.int .i64 (i:Int)):=hoff.at 8 (by kernel_rfl)
     refine .inl ⟨Flow.want_none rfl,?_⟩
     exact Flow.run_same (Flow.exec_move (.inl rfl) e8) Flow.grow_refl
    refine Flow.Ones.cons ?_ ?_
    ·rintro a w hC hoff ⟨k3,k4,-⟩
     have e20:(fun v w=>∃ q,v=.slice (some ⟨q,0,none⟩) 4 4∧w.heap[q]? = some (.cells #[.string ⟨#[112,97]⟩,.string ⟨#[112,98]⟩,.string ⟨#[112,99]⟩,.string ⟨#[112,100]⟩] 9 (0,0))) (a.eval (.tmp 20)) w:=k3 20 rfl
     have e21:a.eval (.tmp 21)=(.int .i64 (i:Int)):=k4 21 rfl
     refine .inl ⟨Flow.want_none rfl,?_⟩
     obtain ⟨q,hq1,hq2⟩:=e20
     refine Flow.run_val (v:=.pointer (some ⟨q,i,none⟩)) (w':=w) ?_ (Flow.grow_refl _) ⟨q,rfl,hq2⟩
     generalize a.eval=ρ at hq1 e21 ⊢
     simp [execOp,hq1,e21,go_sem];intro hh;omega
    refine Flow.Ones.cons ?_ ?_
    ·rintro a w hC hoff ⟨_,_,k5,-⟩
     have e22:(fun v w=>∃ q,v=.pointer (some ⟨q,i,none⟩)∧w.heap[q]? = some (.cells #[.string ⟨#[112,97]⟩,.string ⟨#[112,98]⟩,.string ⟨#[112,99]⟩,.string ⟨#[112,100]⟩] 9 (0,0))) (a.eval (.tmp 22)) w:=k5 22 rfl
     refine .inl ⟨Flow.want_none rfl,?_⟩
     obtain ⟨q,hq1,hq2⟩:=e22
     refine Flow.run_val (v:=.string nm) (w':=w) ?_ (Flow.grow_refl _) rfl
     have hcq:=HNm.out w q hq2
     generalize a.eval=ρ at hq1 ⊢
     simp [execOp,hq1,hcq,go_sem]
    refine Flow.Ones.cons ?_ ?_
    ·rintro a w hC hoff ⟨k2,_,_,_,k6,-⟩
     have e19:a.eval (.tmp 19)=(.string pre):=k2 19 rfl
     have e23:a.eval (.tmp 23)=(.string nm):=k6 23 rfl
     refine .inl ⟨Flow.want_none rfl,?_⟩
     refine Flow.run_same ?_ Flow.grow_refl
     have ec:=Flow.eval_const a
     generalize a.eval=ρ at e19 e23 ec ⊢
     simp [execOp,e19,e23,hsz,go_sem]
    refine Flow.Ones.cons ?_ ?_
    ·rintro a w hC hoff ⟨_,_,_,_,_,k7,-⟩
     have e24:a.eval (.tmp 24)=(.string (pre++nm)):=k7 24 rfl
     refine .inl ⟨Flow.want_none rfl,?_⟩
     refine Flow.run_same ?_ Flow.grow_refl
     have ec:=Flow.eval_const a
     generalize a.eval=ρ at e24 ec ⊢
     simp [execOp,e24,go_sem]
    refine Flow.Ones.cons ?_ ?_
    ·rintro a w hC hoff ⟨_,_,_,_,_,_,k8,-⟩
     have e25:a.eval (.tmp 25)=(.agg #[.string (pre++nm),.string ⟨#[]⟩]):=k8 25 rfl
     refine .inl ⟨Flow.want_none rfl,?_⟩
     refine Flow.run_val (v:=.slice (some ⟨w.heap.size,0,none⟩) 1 1) (w':=w.alloc (.cells #[.string (pre++nm),.string ⟨#[]⟩] 81)) ?_ (Flow.grow_alloc _ _) ⟨_,rfl,heap_alloc_new _ _⟩
     generalize a.eval=ρ at e25 ⊢
     simp [execOp,e25,go_sem]
    exact trivial
   case place5 =>
    intro a w hoff
    have e7:a.eval (.tmp 7)=(.pointer (some ⟨X+1,0,none⟩)):=hoff.at 7 (by kernel_rfl)
    generalize a.eval=ρ at e7 ⊢
    simp [execOp,e7,go_sem]
   case app5 =>
    intro a w hC hoff hk
    have e18:a.eval (.tmp 18)=(.slice a0 i a1):=hk 1 (by decide) 18 rfl
    have e26:(fun v w=>∃ q,v=.slice (some ⟨q,0,none⟩) 1 1∧w.heap[q]? = some (.cells #[.string (pre++nm),.string ⟨#[]⟩] 81 (0,0))) (a.eval (.tmp 26)) w:=hk 9 (by decide) 26 rfl
    obtain ⟨q,hq,hrow⟩:=e26
    have hO:=own_keep HO.out hC
    refine exec_appK (P:=Tryz.prog) W.heap.size (.tmp 18) (.tmp 26) 43 rfl 81 i9 _ 2 32 Tryz.underlying43 HI.out.1 HI.out.2.1 HI.out.2.2.1 HI.out.2.2.2 rfl (by decide) (.slice a0 i a1) i _ e18 hO (HG.out.trans hC).size q [.string (pre++nm),.string ⟨#[]⟩] 1 1 hq rfl (cells_of hrow) (by intro u hu;simp at hu;rcases hu with rfl | rfl <;> rfl) (by omega) (by decide) (by decide) (fun v' w' ho hk=>?_)
    obtain ⟨xb,xd,hv'⟩:=own_form ho
    subst hv'
    obtain ⟨gp,rfl⟩:=Ch.own_at ho (by omega)
    have t:=TY.own hO
    exact ⟨gp,xd,rfl,Lib.hid ⟨t.keep_blk hk (heap_keep hC HB.out) (by decide),t.keep_blk hk (heap_keep hC HZ.out) (by decide),ho,grow_row (HG.out.trans hC) hk (own_lo hO)⟩⟩
   case stab5 =>
    simp only [Flow.Stable,and_true]
    exact ⟨fun v w w' hg ⟨q,e,h⟩=>⟨q,e,heap_keep hg h⟩,fun v w w' hg ⟨q,e,h⟩=>⟨q,e,heap_keep hg h⟩,fun v w w' hg ⟨q,e,h⟩=>⟨q,e,heap_keep hg h⟩⟩
   case ends5 =>
    intro wy
    simp only [List.take_succ_cons,List.take_zero,List.replicate,List.cons_append,List.nil_append,Flow.ends]
    simp only [Act.put,List.setIfInBounds_toArray,List.set_cons_succ,List.set_cons_zero]
    iterate 10 (intro _ _)
    intro v27 h27
    obtain ⟨gb,gc,rfl,hT⟩:=h27
    obtain ⟨z0,z1,z2,z3,z4,z5,z6,z7,zf⟩:=m8_cells hT.out.1
    unfold Oper.wp
    simp [execOp,z3,zf,go_sem]
    have HB6:Hid ((wy.setCell ⟨X+1,3,none⟩ (.slice (some ⟨gb,0,none⟩) (i+1) gc)).heap[X+1]? = some (.cells #[.slice p0 pn p1,.int .i64 0,.int .i64 0,.slice (some ⟨gb,0,none⟩) (i+1) gc,.slice none 0 0,.slice none 0 0,.slice none 0 0,.string pre] 86 (0,0))):=Lib.hid ((set_cells hT.out.1 3 (.slice (some ⟨gb,0,none⟩) (i+1) gc)).trans rfl)
    have HZ6:=Lib.hid (set_other (g:=X+1) (q:=3) (u:=.slice (some ⟨gb,0,none⟩) (i+1) gc) hT.out.2.1 (by omega))
    have HO6:=Lib.hid ((TY.blk hT.out.1).keep_own (by_set wy (X+1) 3 (.slice (some ⟨gb,0,none⟩) (i+1) gc)) hT.out.2.2.1 (by decide))
    have HG6:=Lib.hid (set_grow (g:=X+1) hT.out.2.2.2 hX1 3 (.slice (some ⟨gb,0,none⟩) (i+1) gc))
    generalize wy.setCell ⟨X+1,3,none⟩ (.slice (some ⟨gb,0,none⟩) (i+1) gc)=w6 at *
    clear z0 z1 z2 z3 z4 z5 z6 z7 zf hT
    have HO7:Hid (w6.ownsRow W.heap.size 81 2 (.slice (some ⟨gb,0,none⟩) (i+1) gc) (i+1) ((Ch.pnms pre (i+1)).flatMap Ch.pcells)):=Lib.hid (by
     have k:=HO6.out
     rw [Ch.pnms_succ,List.flatMap_append,← Hnm.out]
     simpa [Ch.pcells,Ch.nE] using k)
    go_wp2_with fail
    go_roundw
    case rel=>exact ⟨i+1,_,by omega,by go_num,HZ6,HB6,HO7,HG6⟩
    case measure=>simp [intOf];omega
  ·obtain rfl:i=n:=by omega
   have d1:decide ((i:Int) < (i:Int))=false:=by simp
   obtain ⟨x0,x1,x2,x3,x4,x5,x6,x7,xf⟩:=m8_cells HB.out
   obtain ⟨y0,y1,y2,y3,y4,y5,y6,y7,yf⟩:=m8_cells HZ.out
   go_wp2_with fail
   have k:=m8_set (w:=wr) (X:=X) (.slice p0 pn p1) (.int .i64 0) (.int .i64 0) (.slice a0 i a1) (.slice none 0 0) (.slice none 0 0) (.slice none 0 0) (.string pre) HZ.out
   have kb:=m8_by wr X (.slice p0 pn p1) (.int .i64 0) (.int .i64 0) (.slice a0 i a1) (.slice none 0 0) (.slice none 0 0) (.slice none 0 0) (.string pre)
   have kg:=m8_grow (w:=wr) (X:=X) HG.out hX (.slice p0 pn p1) (.int .i64 0) (.int .i64 0) (.slice a0 i a1) (.slice none 0 0) (.slice none 0 0) (.slice none 0 0) (.string pre)
   have ko:=(TY.blk HZ.out).keep_own kb HO.out (by decide)
   refine bodyPost_ret (begin08_res _ _ X _ _ _ _ _ _ _ _ rfl k) rfl ⟨.slice a0 i a1,rfl,⟨H.out.grow kg,?_,World.ownsRow_nil _ _ _ _,⟨[],rfl,World.ownsRow_nil _ _ _ _,fun y hy=>by simp at hy⟩,World.ownsRow_nil _ _ _ _⟩,kg⟩
   simp only [Ch.pnms_len]
   exact Rs.own_mono ko (Nat.zero_le _)
end Go.Proofs.YtcnmaplopbbmaaaGreat
namespace Go.Proofs.YtcnmaplopbbmaaaGreat
open Go.RowKit
theorem m5_set {w:World} {X:Nat} {T:TypeId} {b0 b1 b2 b3 b4:Value} (c0 c1 c2 c3 c4:Value) (h:w.heap[X]? = some (.cells #[b0,b1,b2,b3,b4] T (0,0))):(((((w.setCell ⟨X,0,none⟩ c0).setCell ⟨X,1,none⟩ c1).setCell ⟨X,2,none⟩ c2).setCell ⟨X,3,none⟩ c3).setCell ⟨X,4,none⟩ c4).heap[X]? = some (.cells #[c0,c1,c2,c3,c4] T (0,0)):=by
 have h0:=set_cells h 0 c0
 simp only [List.setIfInBounds_toArray,List.set_cons_zero] at h0
 have h1:=set_cells h0 1 c1
 simp only [List.setIfInBounds_toArray,List.set_cons_zero,List.set_cons_succ] at h1
 have h2:=set_cells h1 2 c2
 simp only [List.setIfInBounds_toArray,List.set_cons_zero,List.set_cons_succ] at h2
 have h3:=set_cells h2 3 c3
 simp only [List.setIfInBounds_toArray,List.set_cons_zero,List.set_cons_succ] at h3
 have h4:=set_cells h3 4 c4
 simp only [List.setIfInBounds_toArray,List.set_cons_zero,List.set_cons_succ] at h4
 exact h4
theorem m5_by (w:World) (X:Nat) (c0 c1 c2 c3 c4:Value):w.grownBy (((((w.setCell ⟨X,0,none⟩ c0).setCell ⟨X,1,none⟩ c1).setCell ⟨X,2,none⟩ c2).setCell ⟨X,3,none⟩ c3).setCell ⟨X,4,none⟩ c4) (some X) :=
 by_trans (by_trans (by_trans (by_trans (by_set _ _ _ _) (by_set _ _ _ _)) (by_set _ _ _ _)) (by_set _ _ _ _)) (by_set _ _ _ _)
theorem chor_res (tmps:Array Value) (w:World) (X:Nat) (c0 c1 c2 c3 c4:Value) (h2:tmps.getD 6 undef=.pointer (some ⟨X,0,none⟩)) (hx:w.heap[X]? = some (.cells #[c0,c1,c2,c3,c4] 48 (0,0))) :
  (results Tryz.f10 tmps).run Tryz.prog w=.ok (.agg #[c0,c1,c2,c3,c4]) w:=by
 have x0:=(cell_of_row w X 0 _ _ _ hx).trans rfl
 have x1:=(cell_of_row w X 1 _ _ _ hx).trans rfl
 have x2:=(cell_of_row w X 2 _ _ _ hx).trans rfl
 have x3:=(cell_of_row w X 3 _ _ _ hx).trans rfl
 have x4:=(cell_of_row w X 4 _ _ _ hx).trans rfl
 simp at x0 x1 x2 x3 x4
 simp only [Array.getD_eq_getD_getElem?] at h2
 simp [results,Tryz.results10,h2,x0,x1,x2,x3,x4,go_sem]
namespace Ch
def many (p:List Int):Nat:=2+pick p 0 % 16 % 3
def ctx (p:List Int) (pre:S):Cx:=⟨p,pnms pre (many p),pre⟩
def chorT (p:List Int) (pre:S):Mk:=levelT (ctx p pre) mk0 3
theorem many_le (p:List Int):2≤many p∧many p≤4:=by
 unfold many
 omega
end Ch
set_option maxRecDepth 100000 in
set_option maxHeartbeats 8000000 in
theorem chor_any (p:List Int) (vp:Value) (nm pre:ByteArray) (W:World) (hp:p.length≤9223372036854775807) (hc:pre.size≤1000) (h:Ints W vp p) :
  Calls Tryz.prog 10 #[vp,.string nm,.string pre] W fun e w'=>∃ va vf vi vs,e=.returned (.agg #[.string nm,va,vf,vi,vs])∧Ch.MkAt w' (Ch.ctx p pre) (Ch.chorT p pre) vp va vf vi vs∧Flow.Grow W w':=by
 have H:=Lib.hid h
 have HPk:=Lib.hid fun w (g:Flow.Grow W w)=>pick_any vp p 0 w (by decide) (h.grow g) hp
 obtain ⟨p0,p1,rfl,_⟩:=h
 obtain ⟨n,hn⟩:∃ n,n=Ch.many p:=⟨_,rfl⟩
 obtain ⟨pk,hpk⟩:∃ k,k=Ch.pick p 0:=⟨_,rfl⟩
 have hn4:2≤n∧n≤4:=by rw [hn];exact Ch.many_le p
 have hni:(n:Int)=2+(pk:Int) % 16 % 3:=by rw [hn,hpk];unfold Ch.many;omega
 have HC:Hid (Ch.ctx p pre=⟨p,Ch.pnms pre n,pre⟩):=Lib.hid (by rw [hn];rfl)
 have HBg:=Lib.hid fun w (g:Flow.Grow W w)=>begin08_any p _ n pre w hn4.2 hc (H.out.grow g)
 have HLv:=Lib.hid fun (vp va vf vi vs:Value) w (hm:Ch.MkAt w ⟨p,Ch.pnms pre n,pre⟩ Ch.mk0 vp va vf vi vs)=>level_any ⟨p,Ch.pnms pre n,pre⟩ 3 (by rw [Ch.pnms_len];exact hn4) hc hp Ch.mk0 vp va vf vi vs w (by decide) (by decide) hm
 have HT:Hid (Ch.chorT p pre=Ch.levelT ⟨p,Ch.pnms pre n,pre⟩ Ch.mk0 3):=Lib.hid (by rw [hn];rfl)
 rw [← hpk] at HPk
 rw [hni] at HBg
 clear hn hpk hni
 have m15:=Bits.i64_mask (pk:Int) 4 (by omega) 15 (by decide)
 have e15:(pk:Int) % 2 ^ 4=((pk % 16:Nat):Int):=by omega
 rw [e15] at m15
 clear e15
 generalize p.length=pn at *
 simp only [Ch.mc] at HBg HLv
 go_enter Tryz.func10,Tryz.ntmps10
 go_upto_region 1 with fail
 have HBw10:Hid ((W.alloc (.cells #[.string ⟨#[]⟩,.slice none 0 0,.slice none 0 0,.slice none 0 0,.slice none 0 0] 48)).heap[W.heap.size]? = some (.cells #[.string ⟨#[]⟩,.slice none 0 0,.slice none 0 0,.slice none 0 0,.slice none 0 0] 48 (0,0))):=Lib.hid (lay1_0 _ _)
 have HGw1:Hid (Flow.Grow W (W.alloc (.cells #[.string ⟨#[]⟩,.slice none 0 0,.slice none 0 0,.slice none 0 0,.slice none 0 0] 48))):=Lib.hid (lay1_g _ _)
 have HSw1:Hid ((W.alloc (.cells #[.string ⟨#[]⟩,.slice none 0 0,.slice none 0 0,.slice none 0 0,.slice none 0 0] 48)).heap.size=W.heap.size+1):=Lib.hid (by simp)
 generalize W.alloc (.cells #[.string ⟨#[]⟩,.slice none 0 0,.slice none 0 0,.slice none 0 0,.slice none 0 0] 48)=w1 at *
 obtain ⟨X,hX⟩:∃ X,X=W.heap.size:=⟨_,rfl⟩
 rw [← hX] at HBw10 HSw1 ⊢
 have HXw1:=Lib.hid hX
 clear hX
 have CXw1:Hid (∀ wq,Flow.Grow w1 wq→wq.cell? ⟨X,0,none⟩=some (.string ⟨#[]⟩)∧wq.cell? ⟨X,1,none⟩=some (.slice none 0 0)∧wq.cell? ⟨X,2,none⟩=some (.slice none 0 0)∧wq.cell? ⟨X,3,none⟩=some (.slice none 0 0)∧wq.cell? ⟨X,4,none⟩=some (.slice none 0 0)):=Lib.hid (fun wq g=>⟨lay_cell g HBw10.out rfl,lay_cell g HBw10.out rfl,lay_cell g HBw10.out rfl,lay_cell g HBw10.out rfl,lay_cell g HBw10.out rfl⟩)
 have FXw1:Hid (∀ wq,Flow.Grow w1 wq→(∀ k,wq.frozen? ⟨X,k,none⟩=false)):=Lib.hid (fun wq g=>fun k=>lay_frozen g HBw10.out k)
 go_upto_region 2 with (first
  | (go_at_call 24;refine (HPk.out _ HGw1.out).mono ?_;rintro e w' ⟨rfl,rfl⟩)
  | (go_at_call 23;refine (HBg.out _ HGw1.out).mono ?_;rintro e w2 ⟨va,rfl,hm,hg⟩;obtain ⟨a0,a1,e1⟩:=own_form hm.parts;subst e1;have HM2:=Lib.hid hm;have HG2:=Lib.hid (HGw1.out.trans hg);have HX2:=Lib.hid (heap_keep hg HBw10.out);clear hm hg)
  | (go_at_call 22;refine (HLv.out _ _ _ _ _ w2 HM2.out).mono ?_;rintro e w3 ⟨vf,vi,vs,rfl,hm,hg⟩;obtain ⟨f0,f1,i0,i1,s0,s1,e1,e2,e3⟩:=hm.forms3;subst e1 e2 e3;have HM3:=Lib.hid hm;have HG3:=Lib.hid (HG2.out.trans hg);have HX3:=Lib.hid (heap_keep hg HX2.out);clear hm hg))
 obtain ⟨K,hK⟩:∃ K,K=Ch.levelT ⟨p,Ch.pnms pre n,pre⟩ Ch.mk0 3:=⟨_,rfl⟩
 rw [← hK] at HM3 HT ⊢
 clear hK HLv HBg HPk
 generalize (Ch.pnms pre n).length=an at *
 have HBw40:Hid ((w3.alloc (.cells #[.slice p0 pn p1,.int .i64 ((K.at_:Nat):Int),.int .i64 ((K.n:Nat):Int),.slice a0 an a1,.slice f0 K.flows.length f1,.slice i0 K.items.length i1,.slice s0 K.seqs.length s1,.string pre] 86)).heap[w3.heap.size]? = some (.cells #[.slice p0 pn p1,.int .i64 ((K.at_:Nat):Int),.int .i64 ((K.n:Nat):Int),.slice a0 an a1,.slice f0 K.flows.length f1,.slice i0 K.items.length i1,.slice s0 K.seqs.length s1,.string pre] 86 (0,0))):=Lib.hid (lay1_0 _ _)
 have HGw4:Hid (Flow.Grow w3 (w3.alloc (.cells #[.slice p0 pn p1,.int .i64 ((K.at_:Nat):Int),.int .i64 ((K.n:Nat):Int),.slice a0 an a1,.slice f0 K.flows.length f1,.slice i0 K.items.length i1,.slice s0 K.seqs.length s1,.string pre] 86))):=Lib.hid (lay1_g _ _)
 have HSw4:Hid ((w3.alloc (.cells #[.slice p0 pn p1,.int .i64 ((K.at_:Nat):Int),.int .i64 ((K.n:Nat):Int),.slice a0 an a1,.slice f0 K.flows.length f1,.slice i0 K.items.length i1,.slice s0 K.seqs.length s1,.string pre] 86)).heap.size=w3.heap.size+1):=Lib.hid (by simp)
 generalize w3.alloc (.cells #[.slice p0 pn p1,.int .i64 ((K.at_:Nat):Int),.int .i64 ((K.n:Nat):Int),.slice a0 an a1,.slice f0 K.flows.length f1,.slice i0 K.items.length i1,.slice s0 K.seqs.length s1,.string pre] 86)=w4 at *
 obtain ⟨Y,hY⟩:∃ X,X=w3.heap.size:=⟨_,rfl⟩
 rw [← hY] at HBw40 HSw4 ⊢
 have HXw4:=Lib.hid hY
 clear hY
 have CXw4:Hid (∀ wq,Flow.Grow w4 wq→wq.cell? ⟨Y,0,none⟩=some (.slice p0 pn p1)∧wq.cell? ⟨Y,1,none⟩=some (.int .i64 ((K.at_:Nat):Int))∧wq.cell? ⟨Y,2,none⟩=some (.int .i64 ((K.n:Nat):Int))∧wq.cell? ⟨Y,3,none⟩=some (.slice a0 an a1)∧wq.cell? ⟨Y,4,none⟩=some (.slice f0 K.flows.length f1)∧wq.cell? ⟨Y,5,none⟩=some (.slice i0 K.items.length i1)∧wq.cell? ⟨Y,6,none⟩=some (.slice s0 K.seqs.length s1)∧wq.cell? ⟨Y,7,none⟩=some (.string pre)):=Lib.hid (fun wq g=>⟨lay_cell g HBw40.out rfl,lay_cell g HBw40.out rfl,lay_cell g HBw40.out rfl,lay_cell g HBw40.out rfl,lay_cell g HBw40.out rfl,lay_cell g HBw40.out rfl,lay_cell g HBw40.out rfl,lay_cell g HBw40.out rfl⟩)
 have FXw4:Hid (∀ wq,Flow.Grow w4 wq→(∀ k,wq.frozen? ⟨Y,k,none⟩=false)):=Lib.hid (fun wq g=>fun k=>lay_frozen g HBw40.out k)
 obtain ⟨x0,x1,x2,x3,x4,x5,x6,x7,xf⟩:=m8_cells HBw40.out
 have HX4:=Lib.hid (heap_keep HGw4.out HX3.out)
 have y0:=(cell_of_row w4 X 0 _ _ _ HX4.out).trans rfl
 have y1:=(cell_of_row w4 X 1 _ _ _ HX4.out).trans rfl
 have y2:=(cell_of_row w4 X 2 _ _ _ HX4.out).trans rfl
 have y3:=(cell_of_row w4 X 3 _ _ _ HX4.out).trans rfl
 have y4:=(cell_of_row w4 X 4 _ _ _ HX4.out).trans rfl
 have yf:=fun k=>frozen_of_row w4 X k _ _ HX4.out
 simp at y0 y1 y2 y3 y4
 go_wp2_with fail
 have hX:W.heap.size≤X:=by rw [HXw1.out];exact Nat.le_refl _
 have k:=m5_set (w:=w4) (X:=X) (.string nm) (.slice a0 an a1) (.slice f0 K.flows.length f1) (.slice i0 K.items.length i1) (.slice s0 K.seqs.length s1) HX4.out
 have kb:=m5_by w4 X (.string nm) (.slice a0 an a1) (.slice f0 K.flows.length f1) (.slice i0 K.items.length i1) (.slice s0 K.seqs.length s1)
 have kg:=grow_row (HG3.out.trans HGw4.out) kb (fun b e=>by cases e;exact hX)
 refine bodyPost_ret (chor_res _ _ X _ _ _ _ _ rfl k) rfl ⟨_,_,_,_,rfl,?_,kg⟩
 rw [HC.out,HT.out]
 exact (HM3.out.grow HGw4.out).ty (TY.blk HX4.out) kb (H.out.grow kg) (by decide) (by decide) (by decide) (by decide) (by decide)
end Go.Proofs.YtcnmaplopbbmaaaGreat
