/- game.begin by its contract. -/
import Derived.Test.YtcnmaplopbbmaaaGreatMAj
import Derived.Test.YtcnmaplopbbmaaaGreatMAf
import Derived.Test.YtcnmaplopbbmaaaGreatMAc
namespace Go.Proofs.YtcnmaplopbbmaaaGreat
open Go.RowKit
theorem row2_set {w:World} {X:Nat} {T:TypeId} {a b:Value} (a' b':Value) (h:w.heap[X]? = some (.cells #[a,b] T (0,0))) :
  ((w.setCell ⟨X,0,none⟩ a').setCell ⟨X,1,none⟩ b').heap[X]? = some (.cells #[a',b'] T (0,0)) :=
 (heap_setCell_same _ X 1 _ _ _ ((heap_setCell_same w X 0 _ _ _ h).trans rfl)).trans rfl
theorem by_set_new {W w:World} {B:Option Nat} {g:Nat} (h:W.grownBy w B) (hg:W.heap.size≤g) (q:Nat) (u:Value):W.grownBy (w.setCell ⟨g,q,none⟩ u) B:=by
 have k:=by_set w g q u
 refine ⟨k.os.trans h.os,k.tape.trans h.tape,k.output.trans h.output,Nat.le_trans h.size k.size,fun b hb hr=>?_⟩
 exact (k.block b (Nat.lt_of_lt_of_le hb h.size) (fun e=>by cases e;omega)).trans (h.block b hb hr)
theorem by_keep {w w':World} {B A:Nat} {o:Obj} (g:w.grownBy w' (some B)) (h:w.heap[A]? = some o) (hn:A≠B):w'.heap[A]? = some o :=
 (g.block A (Array.getElem?_eq_some_iff.1 h).1 (by simpa using hn)).trans h
theorem begin_res (tmps:Array Value) (w:World) (X:Nat) (c0 c1:Value) (h8:tmps.getD 8 undef=.pointer (some ⟨X,0,none⟩)) (hx:w.heap[X]? = some (.cells #[c0,c1] 99 (0,0))) :
  (results Tryz.f97 tmps).run Tryz.prog w=.ok (.agg #[c0,c1]) w:=by
 have x0:=(cell_of_row w X 0 _ _ _ hx).trans rfl
 have x1:=(cell_of_row w X 1 _ _ _ hx).trans rfl
 simp at x0 x1
 simp only [Array.getD_eq_getD_getElem?] at h8
 simp [results,Tryz.results97,h8,x0,x1,go_sem]
set_option maxRecDepth 100000 in
set_option maxHeartbeats 2000000 in
theorem begin_any (B:Nat) (v0 v1 v2 v3 lv:Value) (g:Gr.G) (L:List Gr.Lb) (e0:Int) (l:List Bool) (i:Nat) (p:Int) (W:World) (hl:l.length=64) (hF:g.Fit) (hi:i < g.ns.length) (hk:(g.nd i).kind=3) (hp0:0≤p) (hp1:p < 64) (hL:L.length≤1000000) (hS:Gr.Srt L)
  (h:Gr.Gm W B v0 v1 v2 v3 lv g L e0) :
  Calls Tryz.prog 97 #[.pointer (some ⟨B,0,none⟩),.int .u64 (Mark.ofBools l:Int),.int .i64 i,.int .i64 p] W fun e w'=>e=.returned (.agg #[.int .i64 (Gr.idx L (g.nd i).first),.int .u64 (Mark.ofBools (g.begun i (Gr.wo (l,false) p)).1:Int)]) ∧
   W.grownBy w' (some B)∧Gr.Gm w' B v0 v1 v2 v3 lv g L (Gr.err (g.begun i (Gr.wo (l,false) p)).2 e0):=by
 obtain ⟨hb0,hb1,hdone⟩:=hF.busy hi hk
 have HG:=Lib.hid h
 have HBs:=Lib.hid fun w (hg:Flow.Grow W w)=>busy_any v0 v1 v2 v3 i g w hF.few (h.at.grow hg)
 have HFn:=Lib.hid fun w (hg:Flow.Grow W w)=>(finished_any B v0 v1 v2 v3 lv g L e0 l i p w hl hF hi hk hp0 hp1 (h.grow hg)).mono fun e w' ⟨a,b,c⟩=>And.intro a (And.intro b c.row)
 have HMv:=Lib.hid fun (w:World) (vf vt:Value) (zt:List Int) (hg:Flow.Grow W w) (hz:Gr.InP zt) (hzl:zt.length≤1000000) (hf:Ints (mask w [B]) vf [p]) (ht:Ints (mask w [B]) vt zt)=>(move_any B _ _ _ _ lv e0 l vf vt [p] zt w hl (fun q hq=>by simp at hq;subst hq;exact ⟨hp0,hp1⟩) hz (by simp) hzl (h.grow hg).row hf ht).mono fun e w' ⟨a,b,c⟩=>And.intro a (And.intro b c)
 have HFd:=Lib.hid fun w (hg:Flow.Grow W w)=>find_any lv L (g.nd i).first w hL hS (Gr.Recs.grow h.lbs hg)
 obtain ⟨ae,ce,rfl⟩:=Gr.Recs.form h.at.edges
 obtain ⟨an,cn,rfl⟩:=Gr.Recs.form h.at.nodes
 obtain ⟨al,cl,rfl⟩:=Gr.Recs.form h.lbs
 obtain ⟨a0,c0,rfl⟩:=h.at.parts
 obtain ⟨a1,c1,rfl⟩:=h.at.msgs
 obtain ⟨b,off,rfl,cs⟩:=Gr.NdsAt.at h.at.nodes hi
 have HBg:Hid (g.begun i (Gr.wo (l,false) p)=if 0≤(g.nd i).rep then [g.busy i].foldl Gr.put1 ([p].foldl Gr.wo (l,false)) else g.fin i (Gr.wo (l,false) p)):=Lib.hid rfl
 have r0:W.cell? ⟨B,0,none⟩=some (.slice a0 g.np c0):=(cell_of_row W B 0 _ _ _ h.row).trans rfl
 have r1:W.cell? ⟨B,1,none⟩=some (.slice a1 g.nm c1):=(cell_of_row W B 1 _ _ _ h.row).trans rfl
 have r2:W.cell? ⟨B,2,none⟩=some (.slice (some ⟨b,off,none⟩) g.ns.length cn):=(cell_of_row W B 2 _ _ _ h.row).trans rfl
 have r3:W.cell? ⟨B,3,none⟩=some (.slice ae g.es.length ce):=(cell_of_row W B 3 _ _ _ h.row).trans rfl
 have r4:W.cell? ⟨B,4,none⟩=some (.slice al L.length cl):=(cell_of_row W B 4 _ _ _ h.row).trans rfl
 have hBl:=Lib.hid h.lt
 have cs:W.cell? ⟨b,off+i * 7,none⟩=some (.int .i64 (g.nd i).kind)∧W.cell? ⟨b,off+i * 7+1,none⟩=some (.string (g.nd i).id)∧W.cell? ⟨b,off+i * 7+2,none⟩=some (.int .i64 (g.nd i).fr)∧W.cell? ⟨b,off+i * 7+3,none⟩=some (.int .i64 (g.nd i).to)∧W.cell? ⟨b,off+i * 7+4,none⟩=some (.int .i64 (g.nd i).msg)∧W.cell? ⟨b,off+i * 7+5,none⟩=some (.int .i64 (g.nd i).rep)∧W.cell? ⟨b,off+i * 7+6,none⟩=some (.bool (g.nd i).loop):=cs
 have HFi:Hid (∀ w,Calls Tryz.prog 45 #[.agg (g.nd i).cells.toArray] w fun e w'=>e=.returned (Gr.labV (g.nd i).first true)∧Flow.Grow w w'):=Lib.hid fun w=>by
  have k:=first_any (g.nd i) w
  rwa [show ((g.nd i).kind == 3)=true by simp [hk]] at k
 obtain ⟨m0,m1,m2,m3,m4,m5,m6⟩:=id cs
 clear h hk hl cs
 generalize g.begun i (Gr.wo (l,false) p)=R at *
 generalize g.fin i (Gr.wo (l,false) p)=Rf at *
 generalize Gr.idx L (g.nd i).first=lab at *
 generalize g.nd i=Y at *
 obtain ⟨y0,y1,y2,y3,y4,y5,y6⟩:=Y
 simp only [Gr.Nd.cells,Gr.Nd.first,Gr.labV,Gr.lcells] at *
 go_enter Tryz.func97,Tryz.ntmps97
 go_upto_region 1 with fail
 have HBw00:Hid ((W.alloc (.cells #[.int .i64 0,.int .u64 0] 99)).heap[W.heap.size]? = some (.cells #[.int .i64 0,.int .u64 0] 99 (0,0))):=Lib.hid (lay1_0 _ _)
 have HGw0:Hid (Flow.Grow W (W.alloc (.cells #[.int .i64 0,.int .u64 0] 99))):=Lib.hid (lay1_g _ _)
 have HSw0:Hid ((W.alloc (.cells #[.int .i64 0,.int .u64 0] 99)).heap.size=W.heap.size+1):=Lib.hid (by simp)
 generalize W.alloc (.cells #[.int .i64 0,.int .u64 0] 99)=w0 at *
 obtain ⟨X,hX⟩:∃ X,X=W.heap.size:=⟨_,rfl⟩
 rw [← hX] at HBw00 HSw0 ⊢
 have HXw0:=Lib.hid hX
 clear hX
 have CXw0:Hid (∀ wq,Flow.Grow w0 wq→wq.cell? ⟨X,0,none⟩=some (.int .i64 0)∧wq.cell? ⟨X,1,none⟩=some (.int .u64 0)):=Lib.hid (fun wq g=>⟨lay_cell g HBw00.out rfl,lay_cell g HBw00.out rfl⟩)
 have FXw0:Hid (∀ wq,Flow.Grow w0 wq→(∀ k,wq.frozen? ⟨X,k,none⟩=false)):=Lib.hid (fun wq g=>fun k=>lay_frozen g HBw00.out k)
 replace r0:=Xm2.cell_grow HGw0.out r0
 replace r1:=Xm2.cell_grow HGw0.out r1
 replace r2:=Xm2.cell_grow HGw0.out r2
 replace r3:=Xm2.cell_grow HGw0.out r3
 replace r4:=Xm2.cell_grow HGw0.out r4
 replace m0:=Xm2.cell_grow HGw0.out m0
 replace m1:=Xm2.cell_grow HGw0.out m1
 replace m2:=Xm2.cell_grow HGw0.out m2
 replace m3:=Xm2.cell_grow HGw0.out m3
 replace m4:=Xm2.cell_grow HGw0.out m4
 replace m5:=Xm2.cell_grow HGw0.out m5
 replace m6:=Xm2.cell_grow HGw0.out m6
 go_upto_region 2 with fail
 have HBw10:Hid ((w0.alloc (.cells #[.int .i64 y0,.string y1,.int .i64 y2,.int .i64 y3,.int .i64 y4,.int .i64 y5,.bool y6] 52)).heap[w0.heap.size]? = some (.cells #[.int .i64 y0,.string y1,.int .i64 y2,.int .i64 y3,.int .i64 y4,.int .i64 y5,.bool y6] 52 (0,0))):=Lib.hid (lay1_0 _ _)
 have HGw1:Hid (Flow.Grow w0 (w0.alloc (.cells #[.int .i64 y0,.string y1,.int .i64 y2,.int .i64 y3,.int .i64 y4,.int .i64 y5,.bool y6] 52))):=Lib.hid (lay1_g _ _)
 have HSw1:Hid ((w0.alloc (.cells #[.int .i64 y0,.string y1,.int .i64 y2,.int .i64 y3,.int .i64 y4,.int .i64 y5,.bool y6] 52)).heap.size=w0.heap.size+1):=Lib.hid (by simp)
 generalize w0.alloc (.cells #[.int .i64 y0,.string y1,.int .i64 y2,.int .i64 y3,.int .i64 y4,.int .i64 y5,.bool y6] 52)=w1 at *
 obtain ⟨X1,hX1⟩:∃ X,X=w0.heap.size:=⟨_,rfl⟩
 rw [← hX1] at HBw10 HSw1 ⊢
 have HXw1:=Lib.hid hX1
 clear hX1
 have CXw1:Hid (∀ wq,Flow.Grow w1 wq→wq.cell? ⟨X1,0,none⟩=some (.int .i64 y0)∧wq.cell? ⟨X1,1,none⟩=some (.string y1)∧wq.cell? ⟨X1,2,none⟩=some (.int .i64 y2)∧wq.cell? ⟨X1,3,none⟩=some (.int .i64 y3)∧wq.cell? ⟨X1,4,none⟩=some (.int .i64 y4)∧wq.cell? ⟨X1,5,none⟩=some (.int .i64 y5)∧wq.cell? ⟨X1,6,none⟩=some (.bool y6)):=Lib.hid (fun wq g=>⟨lay_cell g HBw10.out rfl,lay_cell g HBw10.out rfl,lay_cell g HBw10.out rfl,lay_cell g HBw10.out rfl,lay_cell g HBw10.out rfl,lay_cell g HBw10.out rfl,lay_cell g HBw10.out rfl⟩)
 have FXw1:Hid (∀ wq,Flow.Grow w1 wq→(∀ k,wq.frozen? ⟨X1,k,none⟩=false)):=Lib.hid (fun wq g=>fun k=>lay_frozen g HBw10.out k)
 clear m0 m1 m2 m3 m4 m5 m6
 have HG1:Hid (Flow.Grow W w1):=Lib.hid (HGw0.out.trans HGw1.out)
 have HR4:Hid (∀ w,Flow.Grow w1 w→w.cell? ⟨B,4,none⟩=some (.slice al L.length cl)):=Lib.hid fun w hg=>Xm2.cell_grow (HGw1.out.trans hg) r4
 have HRs:Hid (∀ w,Flow.Grow w1 w→w.cell? ⟨B,0,none⟩=some (.slice a0 g.np c0)∧w.cell? ⟨B,1,none⟩=some (.slice a1 g.nm c1)∧w.cell? ⟨B,2,none⟩=some (.slice (some ⟨b,off,none⟩) g.ns.length cn)∧w.cell? ⟨B,3,none⟩=some (.slice ae g.es.length ce)):=Lib.hid fun w hg=>⟨Xm2.cell_grow (HGw1.out.trans hg) r0,Xm2.cell_grow (HGw1.out.trans hg) r1,Xm2.cell_grow (HGw1.out.trans hg) r2,Xm2.cell_grow (HGw1.out.trans hg) r3⟩
 clear r0 r1 r2 r3 r4
 obtain ⟨c00,c01,c02,c03,c04,c05,c06⟩:=CXw1.out w1 (Flow.grow_refl _)
 go_upto_region 3 with (go_at_call 45;refine (HFi.out _).mono ?_;rintro e wf ⟨rfl,hg⟩;have HGf:=Lib.hid hg;clear hg)
 clear c00 c01 c02 c03 c04 c05 c06
 have HBw20:Hid ((wf.alloc (.cells #[.int .i64 y2,.int .i64 y3,.int .i64 y4] 104)).heap[wf.heap.size]? = some (.cells #[.int .i64 y2,.int .i64 y3,.int .i64 y4] 104 (0,0))):=Lib.hid (lay1_0 _ _)
 have HGw2:Hid (Flow.Grow wf (wf.alloc (.cells #[.int .i64 y2,.int .i64 y3,.int .i64 y4] 104))):=Lib.hid (lay1_g _ _)
 have HSw2:Hid ((wf.alloc (.cells #[.int .i64 y2,.int .i64 y3,.int .i64 y4] 104)).heap.size=wf.heap.size+1):=Lib.hid (by simp)
 generalize wf.alloc (.cells #[.int .i64 y2,.int .i64 y3,.int .i64 y4] 104)=w2 at *
 obtain ⟨Y,hY⟩:∃ X,X=wf.heap.size:=⟨_,rfl⟩
 rw [← hY] at HBw20 HSw2 ⊢
 have HXw2:=Lib.hid hY
 clear hY
 have CXw2:Hid (∀ wq,Flow.Grow w2 wq→wq.cell? ⟨Y,0,none⟩=some (.int .i64 y2)∧wq.cell? ⟨Y,1,none⟩=some (.int .i64 y3)∧wq.cell? ⟨Y,2,none⟩=some (.int .i64 y4)):=Lib.hid (fun wq g=>⟨lay_cell g HBw20.out rfl,lay_cell g HBw20.out rfl,lay_cell g HBw20.out rfl⟩)
 have FXw2:Hid (∀ wq,Flow.Grow w2 wq→(∀ k,wq.frozen? ⟨Y,k,none⟩=false)):=Lib.hid (fun wq g=>fun k=>lay_frozen g HBw20.out k)
 have HG2:Hid (Flow.Grow w1 w2):=Lib.hid (HGf.out.trans HGw2.out)
 refine Flow.region_tail2 (R:=Flow.Grow) (C:=fun wq=>Flow.Grow w2 wq) (Fs:=[.inl ((.pointer (some ⟨B,0,none⟩))),.inl ((.pointer (some ⟨B,0,none⟩))),.inl ((.pointer (some ⟨B,4,none⟩))),.inl ((.slice al L.length cl)),.inl ((.agg #[.int .i64 y2,.int .i64 y3,.int .i64 y4])),.inl ((.int .i64 lab)),.inl ((.agg #[.int .i64 lab,.int .u64 0])),.inr (fun v w=>∃ T,v=.pointer (some ⟨T,0,none⟩)∧w2.heap.size≤T∧w.heap[T]? = some (.cells #[.int .i64 0,.int .u64 0] 99 (0,0)))])
  (S:=[[],[0],[1],[2],[],[3,4],[5],[],[0,1,2,3,4,5,6,7]]) 8 (by kernel_rfl) (by kernel_rfl) (by kernel_rfl) (by kernel_rfl) rfl ?stab3 Flow.grow_refl (fun _ _ h k=>h.trans k) (Flow.grow_drew _) ?ones3 ?ends3
 case ones3 =>
  refine Flow.Ones.cons ?_ ?_
  ·intro a w hC hoff _
   have e0:a.eval (.tmp 0)=(.pointer (some ⟨B,0,none⟩)):=hoff.at 0 (by kernel_rfl)
   refine .inl ⟨Flow.want_none rfl,?_⟩
   exact Flow.run_same (Flow.exec_move (.inl rfl) e0) Flow.grow_refl
  refine Flow.Ones.cons ?_ ?_
  ·rintro a w hC hoff ⟨k0,-⟩
   have e26:a.eval (.tmp 26)=(.pointer (some ⟨B,0,none⟩)):=k0 26 rfl
   refine .inl ⟨Flow.want_none rfl,?_⟩
   refine Flow.run_same ?_ Flow.grow_refl
   have ec:=Flow.eval_const a
   generalize a.eval=ρ at e26 ec ⊢
   simp [execOp,e26,go_sem]
  refine Flow.Ones.cons ?_ ?_
  ·rintro a w hC hoff ⟨k1,-⟩
   have e27:a.eval (.tmp 27)=(.pointer (some ⟨B,0,none⟩)):=k1 27 rfl
   refine .inl ⟨Flow.want_none rfl,?_⟩
   refine Flow.run_same ?_ Flow.grow_refl
   have ec:=Flow.eval_const a
   generalize a.eval=ρ at e27 ec ⊢
   simp [execOp,e27,go_sem]
  refine Flow.Ones.cons ?_ ?_
  ·rintro a w hC hoff ⟨k2,-⟩
   have e28:a.eval (.tmp 28)=(.pointer (some ⟨B,4,none⟩)):=k2 28 rfl
   refine .inl ⟨Flow.want_none rfl,?_⟩
   refine Flow.run_same ?_ Flow.grow_refl
   have ec:=Flow.eval_const a
   generalize a.eval=ρ at e28 ec ⊢
   have hc:=HR4.out w (HG2.out.trans hC)
   simp [execOp,e28,hc,go_sem]
  refine Flow.Ones.cons ?_ ?_
  ·intro a w hC hoff _
   have e10:a.eval (.tmp 10)=(.pointer (some ⟨Y,0,none⟩)):=hoff.at 10 (by kernel_rfl)
   refine .inl ⟨Flow.want_none rfl,?_⟩
   refine Flow.run_same ?_ Flow.grow_refl
   have ec:=Flow.eval_const a
   generalize a.eval=ρ at e10 ec ⊢
   obtain ⟨h0,h1,h2⟩:=CXw2.out w hC
   simp [execOp,e10,h0,h1,h2,go_sem]
  refine Flow.Ones.cons ?_ ?_
  ·rintro a w hC hoff ⟨k3,k4,-⟩
   have e29:a.eval (.tmp 29)=(.slice al L.length cl):=k3 29 rfl
   have e30:a.eval (.tmp 30)=(.agg #[.int .i64 y2,.int .i64 y3,.int .i64 y4]):=k4 30 rfl
   refine .inl ⟨Flow.want_none rfl,?_⟩
   exact Flow.run_call (Flow.exec_call (args:=#[((.slice al L.length cl)),((.agg #[.int .i64 y2,.int .i64 y3,.int .i64 y4]))]) rfl Tryz.func99 (by kernel_rfl) (by kernel_rfl) (by simp only [List.map_toArray,List.map_cons,List.map_nil,e29,e30] <;> rfl)) ((HFd.out w (HG1.out.trans (HG2.out.trans hC))).mono fun e w' ⟨he,hg⟩=>⟨_,he,hg,rfl⟩)
  refine Flow.Ones.cons ?_ ?_
  ·rintro a w hC hoff ⟨k5,-⟩
   have e31:a.eval (.tmp 31)=(.int .i64 lab):=k5 31 rfl
   refine .inl ⟨Flow.want_none rfl,?_⟩
   refine Flow.run_same ?_ Flow.grow_refl
   have ec:=Flow.eval_const a
   generalize a.eval=ρ at e31 ec ⊢
   simp [execOp,e31,go_sem]
  refine Flow.Ones.cons ?_ ?_
  ·intro a w hC hoff _
   refine .inl ⟨Flow.want_none rfl,?_⟩
   refine Flow.run_val (v:=.pointer (some ⟨w.heap.size,0,none⟩)) (w':=w.alloc (.cells #[.int .i64 0,.int .u64 0] 99)) ?_ (Flow.grow_alloc _ _) ⟨_,rfl,hC.size,heap_alloc_new _ _⟩
   simp [execOp,go_sem]
  exact trivial
 case stab3 =>
  simp only [Flow.Stable,and_true]
  rintro v w w' hg ⟨T,e,h1,h2⟩
  exact ⟨T,e,h1,heap_keep hg h2⟩
 case ends3 =>
  intro wx o ho hC
  simp only [List.take_succ_cons,List.take_zero,Flow.ends]
  rintro v ⟨T,rfl,hT,hTr⟩
  have hop:o.op=.store 99 (.tmp 12) (.tmp 32):=by cases ho;rfl
  have hdst:o.dst=none:=by cases ho;rfl
  clear ho
  simp only [Act.put,List.setIfInBounds_toArray,List.set_cons_succ,List.set_cons_zero]
  have a0:=(cell_of_row wx T 0 _ _ _ hTr).trans rfl
  have a1:=(cell_of_row wx T 1 _ _ _ hTr).trans rfl
  have af:∀ j,wx.frozen? ⟨T,j,none⟩=false:=fun j=>frozen_of_row wx T _ _ _ hTr
  have HTx:=Lib.hid hTr
  have HC:=Lib.hid hC
  clear hTr hC
  unfold Oper.wp
  simp only [execOp,hop,Act.eval]
  simp [a0,a1,af,go_sem]
  simp only [hdst]
  obtain ⟨w3,hw3⟩:∃ w3,w3=(wx.setCell ⟨T,0,none⟩ (.int .i64 lab)).setCell ⟨T,1,none⟩ (.int .u64 0):=⟨_,rfl⟩
  have HG3:Hid (Flow.Grow w2 w3):=Lib.hid (by rw [hw3];exact set_grow (set_grow HC.out hT 0 _) hT 1 _)
  have HT3:Hid (w3.heap[T]? = some (.cells #[.int .i64 lab,.int .u64 0] 99 (0,0))):=Lib.hid (by rw [hw3];exact row2_set _ _ HTx.out)
  clear a0 a1 af
  rw [← hw3]
  clear hw3
  have HW3:Hid (Flow.Grow W w3):=Lib.hid (HG1.out.trans (HG2.out.trans HG3.out))
  have HX3:Hid (w3.heap[X]? = some (.cells #[.int .i64 0,.int .u64 0] 99 (0,0))):=Lib.hid (heap_keep (HGw1.out.trans (HG2.out.trans HG3.out)) HBw00.out)
  have HTB:Hid (W.heap.size≤T):=Lib.hid (Nat.le_trans (HG1.out.trans HG2.out).size hT)
  have HTX:Hid (T≠X):=Lib.hid (by have h1:=HXw0.out;have h2:=HSw0.out;have h3:=(HGw1.out.trans HG2.out).size;omega)
  have n5:=(CXw1.out w3 (HG2.out.trans HG3.out)).2.2.2.2.2.1
  obtain ⟨r0,r1,r2,r3⟩:=HRs.out w3 (HG2.out.trans HG3.out)
  clear hT
  by_cases hrep:0≤y5
  ·have d0:decide (y5≥0)=true:=by simp [hrep]
   have HB2:Hid (R=[g.busy i].foldl Gr.put1 ([p].foldl Gr.wo (l,false))):=Lib.hid (by rw [HBg.out,if_pos hrep])
   have s0:=Xm2.cell_grow (Flow.grow_alloc w3 (.cells #[.int .i64 p] 3)) r0
   have s1:=Xm2.cell_grow (Flow.grow_alloc w3 (.cells #[.int .i64 p] 3)) r1
   have s2:=Xm2.cell_grow (Flow.grow_alloc w3 (.cells #[.int .i64 p] 3)) r2
   have s3:=Xm2.cell_grow (Flow.grow_alloc w3 (.cells #[.int .i64 p] 3)) r3
   clear hrep
   go_upto_region 5 with fail
   go_upto_region 7 with (first
    | (go_at_call 98;refine (HBs.out _ (HW3.out.trans (Flow.grow_alloc _ _))).mono ?_;rintro e w4 ⟨rfl,hg⟩;have HG4:=Lib.hid ((Flow.grow_alloc w3 (.cells #[.int .i64 p] 3)).trans hg);have HV:=Lib.hid (Ints.mgrow ((HG.out.grow HW3.out).one p 3 (Nat.le_refl _)) hg);clear hg)
    | (go_at_call 76;refine (HMv.out _ _ _ [g.busy i] (HW3.out.trans (HG4.out.trans (Flow.grow_alloc _ _))) (fun q hq=>by simp at hq;subst hq;exact ⟨by omega,by omega⟩) (by simp) (Ints.mgrow HV.out (Flow.grow_alloc _ _)) ((HG.out.grow HW3.out).one _ _ HG4.out.size)).mono ?_;rintro e w5 ⟨he,hby,hgm⟩;rw [← HB2.out] at he hgm;subst he;have HBy:=Lib.hid (by_trans (by_grow (r:=some B) (HG4.out.trans (Flow.grow_alloc _ (.cells #[.int .i64 (g.busy i)] 3)))) hby);have HGm:=Lib.hid hgm;clear hby hgm;have f5:=frozen_of_row w5 T 1 _ _ (by_keep HBy.out HT3.out (by have:=HTB.out;have:=hBl.out;omega));have q5:=(cell_of_row w5 T 1 _ _ _ (by_keep HBy.out HT3.out (by have:=HTB.out;have:=hBl.out;omega))).trans rfl))
   obtain ⟨mk,hmk⟩:∃ mk,mk=Mark.ofBools R.1:=⟨_,rfl⟩
   rw [← hmk]
   have Hmk:=Lib.hid hmk
   clear hmk
   obtain ⟨w6,hw6⟩:∃ w6,w6=w5.setCell ⟨T,1,none⟩ (.int .u64 (mk:Int)):=⟨_,rfl⟩
   have hTB1:T≠B:=by have:=HTB.out;have:=hBl.out;omega
   have hXB1:X≠B:=by have:=HXw0.out;have:=hBl.out;omega
   have HT6:Hid (w6.heap[T]? = some (.cells #[.int .i64 lab,.int .u64 (mk:Int)] 99 (0,0))):=Lib.hid (by rw [hw6];exact (heap_setCell_same w5 T 1 _ _ _ (by_keep HBy.out HT3.out hTB1)).trans rfl)
   have HX6:Hid (w6.heap[X]? = some (.cells #[.int .i64 0,.int .u64 0] 99 (0,0))):=Lib.hid (by rw [hw6];exact set_other (by_keep HBy.out HX3.out hXB1) (Ne.symm HTX.out))
   have HW6:Hid (W.grownBy w6 (some B)):=Lib.hid (by rw [hw6];exact by_set_new (by_trans (by_grow HW3.out) HBy.out) HTB.out _ _)
   have HR6:=Lib.hid (set_other (q:=1) (u:=.int .u64 (mk:Int)) HGm.out (Ne.symm hTB1))
   rw [← hw6] at HR6
   rw [← hw6]
   clear hw6 f5 q5
   have t0:=(cell_of_row w6 T 0 _ _ _ HT6.out).trans rfl
   have t1:=(cell_of_row w6 T 1 _ _ _ HT6.out).trans rfl
   simp at t0 t1
   have x0:=(cell_of_row w6 X 0 _ _ _ HX6.out).trans rfl
   have x1:=(cell_of_row w6 X 1 _ _ _ HX6.out).trans rfl
   simp at x0 x1
   have fx:∀ k,w6.frozen? ⟨X,k,none⟩=false:=fun k=>frozen_of_row w6 X k _ _ HX6.out
   go_wp2_with fail
   refine bodyPost_ret (begin_res _ _ X _ _ rfl (row2_set _ _ HX6.out)) rfl ⟨by rw [Hmk.out],by_set_new (by_set_new HW6.out (by rw [HXw0.out];exact Nat.le_refl _) _ _) (by rw [HXw0.out];exact Nat.le_refl _) _ _,?_⟩
   exact HG.out.by (by_set_new (by_set_new HW6.out (by rw [HXw0.out];exact Nat.le_refl _) _ _) (by rw [HXw0.out];exact Nat.le_refl _) _ _) (set_other (set_other HR6.out (Ne.symm hXB1)) (Ne.symm hXB1))
  ·have d0:decide (y5≥0)=false:=by simp;omega
   have HB2:Hid (R=Rf):=Lib.hid (by rw [HBg.out,if_neg hrep])
   clear hrep
   go_upto_region 7 with (go_at_call 100;refine (HFn.out _ HW3.out).mono ?_;rintro e w5 ⟨he,hby,hgm⟩;rw [← HB2.out] at he hgm;subst he;have HBy:=Lib.hid hby;have HGm:=Lib.hid hgm;clear hby hgm;have f5:=frozen_of_row w5 T 1 _ _ (by_keep HBy.out HT3.out (by have:=HTB.out;have:=hBl.out;omega));have q5:=(cell_of_row w5 T 1 _ _ _ (by_keep HBy.out HT3.out (by have:=HTB.out;have:=hBl.out;omega))).trans rfl)
   obtain ⟨mk,hmk⟩:∃ mk,mk=Mark.ofBools R.1:=⟨_,rfl⟩
   rw [← hmk]
   have Hmk:=Lib.hid hmk
   clear hmk
   obtain ⟨w6,hw6⟩:∃ w6,w6=w5.setCell ⟨T,1,none⟩ (.int .u64 (mk:Int)):=⟨_,rfl⟩
   have hTB1:T≠B:=by have:=HTB.out;have:=hBl.out;omega
   have hXB1:X≠B:=by have:=HXw0.out;have:=hBl.out;omega
   have HT6:Hid (w6.heap[T]? = some (.cells #[.int .i64 lab,.int .u64 (mk:Int)] 99 (0,0))):=Lib.hid (by rw [hw6];exact (heap_setCell_same w5 T 1 _ _ _ (by_keep HBy.out HT3.out hTB1)).trans rfl)
   have HX6:Hid (w6.heap[X]? = some (.cells #[.int .i64 0,.int .u64 0] 99 (0,0))):=Lib.hid (by rw [hw6];exact set_other (by_keep HBy.out HX3.out hXB1) (Ne.symm HTX.out))
   have HW6:Hid (W.grownBy w6 (some B)):=Lib.hid (by rw [hw6];exact by_set_new (by_trans (by_grow HW3.out) HBy.out) HTB.out _ _)
   have HR6:=Lib.hid (set_other (q:=1) (u:=.int .u64 (mk:Int)) HGm.out (Ne.symm hTB1))
   rw [← hw6] at HR6
   rw [← hw6]
   clear hw6 f5 q5
   have t0:=(cell_of_row w6 T 0 _ _ _ HT6.out).trans rfl
   have t1:=(cell_of_row w6 T 1 _ _ _ HT6.out).trans rfl
   simp at t0 t1
   have x0:=(cell_of_row w6 X 0 _ _ _ HX6.out).trans rfl
   have x1:=(cell_of_row w6 X 1 _ _ _ HX6.out).trans rfl
   simp at x0 x1
   have fx:∀ k,w6.frozen? ⟨X,k,none⟩=false:=fun k=>frozen_of_row w6 X k _ _ HX6.out
   go_wp2_with fail
   refine bodyPost_ret (begin_res _ _ X _ _ rfl (row2_set _ _ HX6.out)) rfl ⟨by rw [Hmk.out],by_set_new (by_set_new HW6.out (by rw [HXw0.out];exact Nat.le_refl _) _ _) (by rw [HXw0.out];exact Nat.le_refl _) _ _,?_⟩
   exact HG.out.by (by_set_new (by_set_new HW6.out (by rw [HXw0.out];exact Nat.le_refl _) _ _) (by rw [HXw0.out];exact Nat.le_refl _) _ _) (set_other (set_other HR6.out (Ne.symm hXB1)) (Ne.symm hXB1))
end Go.Proofs.YtcnmaplopbbmaaaGreat
