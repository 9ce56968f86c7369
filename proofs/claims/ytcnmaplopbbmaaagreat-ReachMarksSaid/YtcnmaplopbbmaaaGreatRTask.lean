/- galliardref13.task by its contract. -/
import Derived.Test.YtcnmaplopbbmaaaGreatMBc
import Derived.Test.YtcnmaplopbbmaaaGreatGTask
namespace Go.Proofs.YtcnmaplopbbmaaaGreat
open Go.RowKit
structure Gr.RK (gv C nd:Array Value) (X Z:Nat) (w:World):Prop where
 g:w.heap[X]? = some (.cells gv 27 (0,0))
 t:w.heap[X+1]? = some (.cells C 72 (0,0))
 n:w.heap[Z]? = some (.cells nd 52 (0,0))
theorem Gr.RK.keep {gv C nd:Array Value} {X Z:Nat} {w w':World} (h:Gr.RK gv C nd X Z w) (k:Flow.Grow w w'):Gr.RK gv C nd X Z w':=⟨heap_keep k h.g,heap_keep k h.t,heap_keep k h.n⟩
theorem Gr.RK.gc {v0 v1 v2 v3:Value} {C nd:Array Value} {X Z:Nat} {w:World} (h:Gr.RK #[v0,v1,v2,v3] C nd X Z w):w.cell? ⟨X,0,none⟩=some v0∧w.cell? ⟨X,1,none⟩=some v1∧w.cell? ⟨X,2,none⟩=some v2∧w.cell? ⟨X,3,none⟩=some v3:=⟨(cell_of_row w X 0 _ _ _ h.g).trans rfl,(cell_of_row w X 1 _ _ _ h.g).trans rfl,(cell_of_row w X 2 _ _ _ h.g).trans rfl,(cell_of_row w X 3 _ _ _ h.g).trans rfl⟩
theorem Gr.RK.nc {y0 y1 y2 y3 y4 y5 y6:Value} {gv C:Array Value} {X Z:Nat} {w:World} (h:Gr.RK gv C #[y0,y1,y2,y3,y4,y5,y6] X Z w):w.cell? ⟨Z,2,none⟩=some y2∧w.cell? ⟨Z,3,none⟩=some y3∧w.cell? ⟨Z,5,none⟩=some y5:=⟨(cell_of_row w Z 2 _ _ _ h.n).trans rfl,(cell_of_row w Z 3 _ _ _ h.n).trans rfl,(cell_of_row w Z 5 _ _ _ h.n).trans rfl⟩
theorem Gr.RK.app {gv C nd:Array Value} {X Z:Nat} {w w':World} (h:Gr.RK gv C nd X Z w) (k:∀ (Y:Nat) (cs:Array Value) (T:TypeId) (fr:Nat × Nat),w.heap[Y]? = some (.cells cs T fr)→T≠112→w'.heap[Y]? = some (.cells cs T fr)):Gr.RK gv C nd X Z w':=⟨k _ _ _ _ h.g (by decide),k _ _ _ _ h.t (by decide),k _ _ _ _ h.n (by decide)⟩
theorem at1_bit (t:Gr.Tk) (q:Nat):Gr.at1 t (q:Int)=t.1.getD q false:=rfl
set_option maxRecDepth 100000 in
set_option maxHeartbeats 8000000 in
theorem rtask_any (v0 v1 v2 v3 vi vl:Value) (g:Gr.G) (L:List Gr.Lb) (i:Nat) (t:Gr.Tk) (W:World) (hF:g.Fit) (hl:t.1.length=64) (hi:i < g.ns.length) (hk:(g.nd i).kind=3) (hL:L.length≤1000000)
  (h:Gr.GAt W v0 v1 v2 v3 g) (hin:Ints W vi (g.inn i)) (hlb:Gr.LbsAt W vl L) :
  Calls Tryz.prog 56 #[.agg #[v0,v1,v2,v3],.agg (Gr.tcs t),.int .i64 i,vi,vl] W fun e w'=>∃ v,e=.returned v∧Gr.RO W w' v (g.taskT L i t):=by
 obtain ⟨hb0,hb1,_⟩:=hF.busy hi hk
 obtain ⟨an,cn,rfl⟩:=Gr.Recs.form h.nodes
 obtain ⟨b,off,rfl,q0,q1,q2,q3,q4,q5,q6⟩:=Gr.NdsAt.at h.nodes hi
 have HWo:Hid (∀ w (q:Nat),q < 64→Calls Tryz.prog 57 #[.agg (Gr.tcs t),.int .i64 q] w fun e w'=>e=.returned (.agg (Gr.tcs (Gr.wo t (q:Int))))∧Flow.Grow w w'):=Lib.hid fun w q hq=>without_any t q w hl (by omega) (by omega)
 have HBg:Hid (∀ w (q:Nat),Flow.Grow W w→Calls Tryz.prog 81 #[.agg #[v0,v1,.slice (some ⟨b,off,none⟩) g.ns.length cn,v3],.int .i64 i,.agg (Gr.tcs (Gr.wo t (q:Int)))] w fun e w'=>e=.returned (.agg (Gr.tcs (g.begun i (Gr.wo t (q:Int)))))∧Flow.Grow w w'):=Lib.hid fun w q hg=>rbegun_any v0 v1 _ v3 g i _ w hF (by rw [Gr.wo_len,hl]) hi hk (h.grow hg)
 have HFn:Hid (∀ w (q:Nat),Flow.Grow W w→Calls Tryz.prog 82 #[.agg #[v0,v1,.slice (some ⟨b,off,none⟩) g.ns.length cn,v3],.int .i64 i,.agg (Gr.tcs (Gr.wo t (q:Int)))] w fun e w'=>e=.returned (.agg (Gr.tcs (g.fin i (Gr.wo t (q:Int)))))∧Flow.Grow w w'):=Lib.hid fun w q hg=>rfin_any v0 v1 _ v3 g i _ w hF (by rw [Gr.wo_len,hl]) hi hk (h.grow hg)
 have HOt:Hid (∀ w (q:Nat),Flow.Grow W w→Calls Tryz.prog 58 #[.agg #[v0,v1,.slice (some ⟨b,off,none⟩) g.ns.length cn,v3],.int .i64 i,.agg (Gr.tcs (Gr.wo t (q:Int)))] w fun e w'=>e=.returned (.agg (Gr.tcs (g.outT i (Gr.wo t (q:Int)))))∧Flow.Grow w w'):=Lib.hid fun w q hg=>rout_any v0 v1 _ v3 g i _ w hF (by rw [Gr.wo_len,hl]) (h.grow hg)
 have HBs:Hid (∀ w,Flow.Grow W w→Calls Tryz.prog 79 #[.agg #[v0,v1,.slice (some ⟨b,off,none⟩) g.ns.length cn,v3],.int .i64 i] w fun e w'=>e=.returned (.int .i64 (g.busy i))∧Flow.Grow w w'):=Lib.hid fun w hg=>by
  have k:=busyR_any v0 v1 _ v3 g i w hF.few (by omega) (h.grow hg)
  rwa [Gr.busyR_eq hi hk] at k
 have HFd:Hid (∀ w x,Flow.Grow W w→Calls Tryz.prog 80 #[vl,.agg (Gr.lcells x).toArray] w fun e w'=>e=.returned (.int .i64 (Gr.idx L x))∧Flow.Grow w w'):=Lib.hid fun w x hg=>rfind_any vl L x w hL (Gr.Recs.grow hlb hg)
 have HIn:=Lib.hid hin
 have HIp:=Lib.hid (hF.inn i)
 have HIl:=Lib.hid (g.inn_len i hF.few)
 obtain ⟨C,hC⟩:∃ C,C=Gr.tcs t:=⟨_,rfl⟩
 have HCs:Hid ((Tryz.prog.info? 72).map (·.size)=some C.size∧C.size=65∧C.all (·.oneCell')=true):=Lib.hid (by rw [hC];exact tk_sz hl)
 have HCb:Hid (∀ q:Nat,q < 64→C[q]? = some (.bool (Gr.at1 t (q:Int)))):=Lib.hid fun q hq=>by rw [hC,at1_bit];exact Gr.tcs_get (by omega)
 have HLb:Hid (∀ q:Int,(g.begun i (Gr.wo t q)).1.length=64):=Lib.hid fun q=>by rw [Gr.G.begun_len,Gr.wo_len,hl]
 have HLf:Hid (∀ q:Int,(g.fin i (Gr.wo t q)).1.length=64):=Lib.hid fun q=>by rw [Gr.G.fin_len,Gr.wo_len,hl]
 have HLo:Hid (∀ q:Int,(g.outT i (Gr.wo t q)).1.length=64):=Lib.hid fun q=>by rw [Gr.G.outT_len,Gr.wo_len,hl]
 rw [← hC] at HWo ⊢
 clear hC
 have HT:Hid (g.taskT L i t=((g.inn i).flatMap fun p=>if Gr.at1 t p then [(Gr.idx L (g.nd i).first,g.begun i (Gr.wo t p))] else []) ++
  (if Gr.at1 t (g.busy i) then [(Gr.idx L (g.nd i).back,g.fin i (Gr.wo t (g.busy i)))] else []) ++
  (if Gr.at1 t (g.busy i+1) then [(Gr.idx L (g.nd i).first,g.begun i (Gr.wo t (g.busy i+1))),(-1,g.outT i (Gr.wo t (g.busy i+1)))] else [])):=Lib.hid rfl
 have m:W.cell? ⟨b,off+i * 7,none⟩=some (.int .i64 (g.nd i).kind)∧W.cell? ⟨b,off+i * 7+1,none⟩=some (.string (g.nd i).id)∧W.cell? ⟨b,off+i * 7+2,none⟩=some (.int .i64 (g.nd i).fr)∧W.cell? ⟨b,off+i * 7+3,none⟩=some (.int .i64 (g.nd i).to)∧W.cell? ⟨b,off+i * 7+4,none⟩=some (.int .i64 (g.nd i).msg)∧W.cell? ⟨b,off+i * 7+5,none⟩=some (.int .i64 (g.nd i).rep)∧W.cell? ⟨b,off+i * 7+6,none⟩=some (.bool (g.nd i).loop):=⟨q0,q1,q2,q3,q4,q5,q6⟩
 clear h hin hlb hF hl hk hL q0 q1 q2 q3 q4 q5 q6
 generalize hnd:g.nd i=Y at *
 clear hnd
 obtain ⟨y0,y1,y2,y3,y4,y5,y6⟩:=Y
 obtain ⟨m0,m1,m2,m3,m4,m5,m6⟩:=m
 simp only at m0 m1 m2 m3 m4 m5 m6
 generalize g.taskT L i t=TS at *
 have HF1:Hid (∀ w,Flow.Grow W w→Calls Tryz.prog 80 #[vl,.agg #[.int .i64 y2,.int .i64 y3,.int .i64 y4]] w fun e w'=>e=.returned (.int .i64 (Gr.idx L (Gr.Nd.first ⟨y0,y1,y2,y3,y4,y5,y6⟩)))∧Flow.Grow w w'):=Lib.hid fun w hg=>HFd.out w (y2,y3,y4) hg
 have HF2:Hid (∀ w,Flow.Grow W w→Calls Tryz.prog 80 #[vl,.agg #[.int .i64 y3,.int .i64 y2,.int .i64 y5]] w fun e w'=>e=.returned (.int .i64 (Gr.idx L (Gr.Nd.back ⟨y0,y1,y2,y3,y4,y5,y6⟩)))∧Flow.Grow w w'):=Lib.hid fun w hg=>HFd.out w (y3,y2,y5) hg
 clear HFd
 generalize Gr.idx L (Gr.Nd.back ⟨y0,y1,y2,y3,y4,y5,y6⟩)=bk at *
 generalize Gr.idx L (Gr.Nd.first ⟨y0,y1,y2,y3,y4,y5,y6⟩)=lab at *
 obtain ⟨f,hf⟩:∃ f:Int→List Gr.Tn,f=fun p=>if Gr.at1 t p then [(lab,g.begun i (Gr.wo t p))] else []:=⟨_,rfl⟩
 rw [← hf] at HT
 have HFp:Hid (∀ p,f p=if Gr.at1 t p then [(lab,g.begun i (Gr.wo t p))] else []):=Lib.hid (fun p=>by rw [hf])
 have HFl:Hid (∀ xs:List Int,(xs.flatMap f).length≤xs.length):=Lib.hid (fun xs=>Gr.flat_le f (fun p=>by rw [hf];dsimp only;split <;> simp) xs)
 clear hf
 generalize g.inn i=xs at *
 obtain ⟨n,hn⟩:∃ n,n=xs.length:=⟨_,rfl⟩
 have Hn:=Lib.hid hn
 obtain ⟨xa,xc,rfl⟩:∃ a c,vi=.slice a n c:=by obtain ⟨a,c,e,_⟩:=HIn.out;exact ⟨a,c,by rw [e,hn]⟩
 rw [← hn] at HIl
 have hnl:=HIl.out
 clear hn
 obtain ⟨iM,hiM,hM0,hM1,hM2⟩:=info_parts info_node
 generalize hbi:g.busy i=bi at *
 obtain ⟨bq,rfl⟩:=Int.eq_ofNat_of_zero_le hb0
 clear hbi hb0
 generalize g.ns.length=nl at *
 go_enter Tryz.func56,Tryz.ntmps56
 go_upto_region 2 with fail
 have HBw10:Hid ((((W.alloc (.cells #[v0,v1,.slice (some ⟨b,off,none⟩) nl cn,v3] 27)).alloc (.cells C 72)).alloc (.cells #[] 112)).heap[W.heap.size]? = some (.cells #[v0,v1,.slice (some ⟨b,off,none⟩) nl cn,v3] 27 (0,0))):=Lib.hid (lay3_0 _ _ _ _)
 have HBw11:Hid ((((W.alloc (.cells #[v0,v1,.slice (some ⟨b,off,none⟩) nl cn,v3] 27)).alloc (.cells C 72)).alloc (.cells #[] 112)).heap[W.heap.size+1]? = some (.cells C 72 (0,0))):=Lib.hid (lay3_1 _ _ _ _)
 have HBw12:Hid ((((W.alloc (.cells #[v0,v1,.slice (some ⟨b,off,none⟩) nl cn,v3] 27)).alloc (.cells C 72)).alloc (.cells #[] 112)).heap[W.heap.size+1+1]? = some (.cells #[] 112 (0,0))):=Lib.hid (lay3_2 _ _ _ _)
 have HGw1:Hid (Flow.Grow W (((W.alloc (.cells #[v0,v1,.slice (some ⟨b,off,none⟩) nl cn,v3] 27)).alloc (.cells C 72)).alloc (.cells #[] 112))):=Lib.hid (lay3_g _ _ _ _)
 have HSw1:Hid ((((W.alloc (.cells #[v0,v1,.slice (some ⟨b,off,none⟩) nl cn,v3] 27)).alloc (.cells C 72)).alloc (.cells #[] 112)).heap.size=W.heap.size+1+1+1):=Lib.hid (by simp)
 generalize ((W.alloc (.cells #[v0,v1,.slice (some ⟨b,off,none⟩) nl cn,v3] 27)).alloc (.cells C 72)).alloc (.cells #[] 112)=w1 at *
 obtain ⟨X,hX⟩:∃ X,X=W.heap.size:=⟨_,rfl⟩
 rw [← hX] at HBw10 HBw11 HBw12 HSw1 ⊢
 have HXw1:=Lib.hid hX
 clear hX
 have CXw1:Hid (∀ wq,Flow.Grow w1 wq→wq.cell? ⟨X,0,none⟩=some (v0)∧wq.cell? ⟨X,1,none⟩=some (v1)∧wq.cell? ⟨X,2,none⟩=some (.slice (some ⟨b,off,none⟩) nl cn)∧wq.cell? ⟨X,3,none⟩=some (v3)):=Lib.hid (fun wq g=>⟨lay_cell g HBw10.out rfl,lay_cell g HBw10.out rfl,lay_cell g HBw10.out rfl,lay_cell g HBw10.out rfl⟩)
 have FXw1:Hid (∀ wq,Flow.Grow w1 wq→(∀ k,wq.frozen? ⟨X,k,none⟩=false)∧(∀ k,wq.frozen? ⟨X+1,k,none⟩=false)∧(∀ k,wq.frozen? ⟨X+1+1,k,none⟩=false)):=Lib.hid (fun wq g=>⟨fun k=>lay_frozen g HBw10.out k,fun k=>lay_frozen g HBw11.out k,fun k=>lay_frozen g HBw12.out k⟩)
 refine Flow.regionG (C:=fun _ wq=>Flow.Grow w1 wq) (Fs:=[.inl ((.pointer (some ⟨X,2,none⟩))),.inl ((.slice (some ⟨b,off,none⟩) nl cn)),.inl ((.int .i64 (i:Int))),.inl ((.pointer (some ⟨b,off+i * 7,none⟩))),.inl ((.agg #[.int .i64 y0,.string y1,.int .i64 y2,.int .i64 y3,.int .i64 y4,.int .i64 y5,.bool y6])),.inl ((.agg #[v0,v1,.slice (some ⟨b,off,none⟩) nl cn,v3])),.inl ((.int .i64 (i:Int))),.inl ((.int .i64 (bq:Int))),.inr (fun v w=>∃ A cs,v=.pointer (some ⟨A,0,none⟩)∧w1.heap.size≤A∧w.heap[A]? = some (.cells cs 52 (0,0))∧cs.size=7),.inr (fun v w=>∃ A,v=.pointer (some ⟨A,0,none⟩)∧w1.heap.size≤A∧w.heap[A]? = some (.cells #[.int .i64 y0,.string y1,.int .i64 y2,.int .i64 y3,.int .i64 y4,.int .i64 y5,.bool y6] 52 (0,0))),.inl ((.int .i64 (bq:Int)))])
  [[],[0],[],[1,2],[3],[],[],[5,6],[],[8,4],[7]] [[],[0],[],[0,1,2],[0,1,2,3],[],[],[5,6],[],[0,1,2,3,4,8],[5,6,7]] [9] (by kernel_rfl) (by kernel_rfl) (by kernel_rfl) rfl (Flow.grow_drew _) ?ones2 ?ends2
 case ones2 =>
  refine Flow.OnesG.start (by exact ⟨fun _ _ _ g ⟨A,cs,h1,h2,h3,h4⟩=>⟨A,cs,h1,h2,heap_keep g h3,h4⟩,fun _ _ _ g ⟨A,h1,h2,h3⟩=>⟨A,h1,h2,heap_keep g h3⟩,trivial⟩) (fun L w w' i=>(fun _ _ h g=>h.trans g) w w') fun HST HCG=>?_
  refine Flow.oq rfl HST HCG ?_ ?_
  ·intro L a w hC hLi hoff _
   have e5:a.eval (.tmp 5)=(.pointer (some ⟨X,0,none⟩)):=hoff.at2 5 0 hLi (by kernel_rfl)
   refine Flow.gs rfl ?_
   generalize a.eval=ρ at e5 ⊢
   simp [execOp,e5,go_sem]
  refine Flow.oq rfl HST HCG ?_ ?_
  ·rintro L a w hC hLi hoff ⟨k0,-⟩
   have e17:=Flow.kv k0 rfl rfl
   refine Flow.gs rfl ?_
   generalize a.eval=ρ at e17 ⊢
   obtain ⟨h0,h1,h2,h3⟩:=CXw1.out w hC
   simp [execOp,e17,h2,go_sem]
  refine Flow.oq rfl HST HCG ?_ ?_
  ·intro L a w hC hLi hoff _
   exact Flow.gs rfl (Flow.exec_move (.inl rfl) (hoff.at2 2 2 hLi (by kernel_rfl)))
  refine Flow.oq rfl HST HCG ?_ ?_
  ·rintro L a w hC hLi hoff ⟨k1,k2,-⟩
   have e18:=Flow.kv k1 rfl rfl
   have e19:=Flow.kv k2 rfl rfl
   refine Flow.gs rfl ?_
   generalize a.eval=ρ at e18 e19 ⊢
   simp [execOp,e18,e19,go_sem];intro hh;omega
  refine Flow.oq rfl HST HCG ?_ ?_
  ·rintro L a w hC hLi hoff ⟨k3,-⟩
   have e20:=Flow.kv k3 rfl rfl
   refine Flow.gs rfl ?_
   generalize a.eval=ρ at e20 ⊢
   have g0:=HGw1.out.trans hC
   have h0:=Xm2.cell_grow g0 m0
   have h1:=Xm2.cell_grow g0 m1
   have h2:=Xm2.cell_grow g0 m2
   have h3:=Xm2.cell_grow g0 m3
   have h4:=Xm2.cell_grow g0 m4
   have h5:=Xm2.cell_grow g0 m5
   have h6:=Xm2.cell_grow g0 m6
   simp [execOp,e20,h0,h1,h2,h3,h4,h5,h6,go_sem]
  refine Flow.oq rfl HST HCG ?_ ?_
  ·intro L a w hC hLi hoff _
   have e5:a.eval (.tmp 5)=(.pointer (some ⟨X,0,none⟩)):=hoff.at2 5 5 hLi (by kernel_rfl)
   refine Flow.gs rfl ?_
   generalize a.eval=ρ at e5 ⊢
   obtain ⟨h0,h1,h2,h3⟩:=CXw1.out w hC
   simp [execOp,e5,h0,h1,h2,h3,go_sem]
  refine Flow.oq rfl HST HCG ?_ ?_
  ·intro L a w hC hLi hoff _
   exact Flow.gs rfl (Flow.exec_move (.inl rfl) (hoff.at2 2 6 hLi (by kernel_rfl)))
  refine Flow.oq rfl HST HCG ?_ ?_
  ·rintro L a w hC hLi hoff ⟨k5,k6,-⟩
   have e22:=Flow.kv k5 rfl rfl
   have e23:=Flow.kv k6 rfl rfl
   exact .inl ⟨Flow.want_none rfl,Flow.run_call (Flow.exec_call rfl Tryz.func79 (by kernel_rfl) (by kernel_rfl) (by simp only [List.map_toArray,List.map_cons,List.map_nil,e22,e23] <;> rfl)) ((HBs.out w (HGw1.out.trans hC)).mono fun e w' ⟨he,hg⟩=>⟨_,he,hg,rfl⟩)⟩
  refine Flow.oq rfl HST HCG ?_ ?_
  ·intro L a w hC hLi hoff _
   refine .inl ⟨Flow.want_none rfl,?_⟩
   refine Flow.run_val (v:=.pointer (some ⟨w.heap.size,0,none⟩)) (w':=w.alloc (.cells #[.int .i64 0,.string ⟨#[]⟩,.int .i64 0,.int .i64 0,.int .i64 0,.int .i64 0,.bool false] 52)) (Flow.alloc_run rfl hiM hM0 _ _) (Flow.grow_alloc _ _) ⟨_,_,rfl,hC.size,heap_alloc_new _ _,rfl⟩
  refine Flow.OnesG.cons (Flow.OneG.w (by kernel_rfl) ?_) ?_
  ·rintro L a w hC hLi hoff ⟨k8,k4,-⟩
   have e12:=Flow.kr k8 rfl rfl
   have e21:=Flow.kv k4 rfl rfl
   refine ⟨Flow.want_none rfl,?_⟩
   obtain ⟨A,cs,e12,hA,hAc,hcs⟩:=e12
   refine wp_stoR (s:=12) (x:=21) rfl rfl hiM hM1 rfl (by intro v hv;simp at hv;rcases hv with rfl | rfl | rfl | rfl | rfl | rfl | rfl <;> rfl) (W:=w1) A hC hA e12 e21 ⟨cs,hAc,hcs⟩ fun w' h2 h3 h4 h5=>?_
   exact ⟨undef,rfl,h2,fun s hs=>⟨A,by cases hs;exact e12,hA,h4⟩⟩
  refine Flow.oq rfl HST HCG ?_ ?_
  ·rintro L a w hC hLi hoff ⟨k7,-⟩
   have e24:=Flow.kv k7 rfl rfl
   exact Flow.gs rfl (Flow.exec_move (.inr rfl) e24)
  exact trivial
 case ends2 =>
  intro LL wx hLL hC
  iterate 8 refine Flow.endsG_v rfl ?_
  refine Flow.endsG_r rfl fun v12 _=>?_
  refine Flow.endsG_s rfl rfl rfl fun hE9=>?_
  refine Flow.endsG_v rfl ?_
  refine Flow.endsG_nil ?_
  simp only [Act.put,List.setIfInBounds_toArray,List.set_cons_succ,List.set_cons_zero]
  obtain ⟨Z,hv,hZ,hZc⟩:=hE9
  obtain rfl:v12=.pointer (some ⟨Z,0,none⟩):=by rw [← hv];kernel_rfl
  have HK:Hid (Gr.RK #[v0,v1,.slice (some ⟨b,off,none⟩) nl cn,v3] C #[.int .i64 y0,.string y1,.int .i64 y2,.int .i64 y3,.int .i64 y4,.int .i64 y5,.bool y6] X Z wx):=Lib.hid ⟨heap_keep hC HBw10.out,heap_keep hC HBw11.out,hZc⟩
  have HRO:Hid (Gr.RO W wx (.slice (some ⟨X+1+1,0,none⟩) 0 0) []):=Lib.hid (Gr.RO.empty (heap_keep hC HBw12.out) (by have:=HXw1.out;omega) (HGw1.out.trans hC))
  clear hv hZ hZc hC m0 m1 m2 m3 m4 m5 m6
  have z2:=(cell_of_row wx Z 2 _ _ _ HK.out.n).trans rfl
  have z3:=(cell_of_row wx Z 3 _ _ _ HK.out.n).trans rfl
  have z4:=(cell_of_row wx Z 4 _ _ _ HK.out.n).trans rfl
  simp at z2 z3 z4
  obtain ⟨dq,hdq⟩:∃ dq:Nat,dq=bq+1:=⟨_,rfl⟩
  have Hdq:Hid ((bq:Int)+1=(dq:Int)):=Lib.hid (by omega)
  have Hdn:=Lib.hid hdq
  have hdq64:dq < 64:=by omega
  clear hdq
  rw [Hdq.out] at HT
  go_upto_region 4 with (go_at_call 80;refine (HF1.out _ HRO.out.grow).mono ?_;rintro e w3 ⟨rfl,hg⟩;have HK3:=Lib.hid (HK.out.keep hg);have HR3:=Lib.hid (HRO.out.keep hg);clear hg)
  clear z2 z3 z4
  go_wp2_with fail
  go_loopw [11,15] (fun vo vi wr=>∃ j:Nat,j≤n∧vi=.int .i64 j∧Hid (Gr.RO W wr vo ((xs.take j).flatMap f))∧Hid (Gr.RK #[v0,v1,.slice (some ⟨b,off,none⟩) nl cn,v3] C #[.int .i64 y0,.string y1,.int .i64 y2,.int .i64 y3,.int .i64 y4,.int .i64 y5,.bool y6] X Z wr)) (fun _ vi _=>n - (intOf vi).toNat)
  case atStart=>exact ⟨0,by omega,rfl,HR3,HK3⟩
  case round =>
   obtain ⟨j,hj,rfl,HRj,HKj⟩:=hrel
   rename World=>wr
   obtain ⟨va,hva⟩:∃ va,va=u11:=⟨_,rfl⟩
   obtain ⟨oa,oc,hoa⟩:=own_form HRj.out.own
   subst hoa
   clear hva
   by_cases hjn:j < n
   ·have hx:xs[j]? = some (xs.getD j 0):=by rw [List.getD_eq_getElem?_getD,List.getElem?_eq_getElem (by rw [← Hn.out];exact hjn)];rfl
    have HX2:=Lib.hid (flat_take f xs j _ hx)
    have hp:=HIp.out _ (List.mem_of_getElem? hx)
    obtain ⟨xb,xo,rfl,q⟩:=Ints.at1 HIn.out (k:=j) (by rw [← Hn.out];exact hjn)
    have c:=Xm2.cell_grow HRj.out.grow q
    clear q hx
    have HP:=Lib.hid (HFp.out (xs.getD j 0))
    have HLn:=Lib.hid (HFl.out (xs.take j))
    generalize xs.getD j 0=p at *
    generalize (xs.take j).flatMap f=ts at *
    have hlen:ts.length≤1000000:=by have:=HLn.out;have:=HIl.out;rw [List.length_take] at *;omega
    obtain ⟨p,rfl⟩:=Int.eq_ofNat_of_zero_le hp.1
    have hp64:p < 64:=by omega
    have cb:wr.cell? ⟨X+1,p,none⟩=some (.bool (Gr.at1 t (p:Int))):=(cell_of_row wr (X+1) p _ _ _ HKj.out.t).trans (HCb.out p hp64)
    cases hat:Gr.at1 t (p:Int) with
    | false =>
     rw [hat] at cb
     have HE:Hid ((xs.take (j+1)).flatMap f=ts):=Lib.hid (by rw [HX2.out,HP.out,if_neg (by rw [hat];simp),List.append_nil])
     go_wp2_with fail
     go_roundw
     case rel=>exact ⟨j+1,by omega,by go_num,Lib.hid (by rw [HE.out];exact HRj.out),HKj⟩
     case measure=>simp [intOf];omega
    | true =>
     rw [hat] at cb
     have HE:Hid ((xs.take (j+1)).flatMap f=ts++[(lab,g.begun i (Gr.wo t (p:Int)))]):=Lib.hid (by rw [HX2.out,HP.out,if_pos hat])
     go_upto_region 8 with fail
     clear cb
     refine Flow.region_tailA (R:=Flow.Grow) (C:=Flow.Grow wr) (Fs:=[.inl ((.slice oa ts.length oc)),.inl ((.int .i64 lab)),.inl ((.agg #[v0,v1,.slice (some ⟨b,off,none⟩) nl cn,v3])),.inl ((.int .i64 (i:Int))),.inl ((.agg C)),.inl ((.slice (some ⟨xb,xo,none⟩) n xc)),.inl ((.int .i64 (j:Int))),.inl ((.pointer (some ⟨xb,xo+j,none⟩))),.inl ((.int .i64 (p:Int))),.inl ((.agg (Gr.tcs (Gr.wo t (p:Int))))),.inl ((.agg (Gr.tcs (g.begun i (Gr.wo t (p:Int)))))),.inl ((.agg (#[.int .i64 lab]++Gr.tcs (g.begun i (Gr.wo t (p:Int)))))),.inr (fun v w=>∃ q,v=.slice (some ⟨q,0,none⟩) 1 1∧w.heap[q]? = some (.cells (#[.int .i64 lab]++Gr.tcs (g.begun i (Gr.wo t (p:Int)))) 112 (0,0)))])
      (S:=[[],[],[],[],[],[],[],[5,6],[5,6,7],[4,5,6,7,8],[2,3,4,5,6,7,8,9],[1,2,3,4,5,6,7,8,9,10],[1,2,3,4,5,6,7,8,9,10,11],[0,1,2,3,4,5,6,7,8,9,10,11,12],[13]]) 13 (by kernel_rfl) (by kernel_rfl) (by kernel_rfl) rfl ?stab8 (fun _ _ h k=>h.trans k) (Flow.grow_drew _) ?ones8 ?ends8
     case ones8 =>
      refine Flow.Ones.cons ?_ ?_
      ·intro a w hC hoff _
       have e11:a.eval (.tmp 11)=(.slice oa ts.length oc):=hoff.at 11 (by kernel_rfl)
       refine .inl ⟨Flow.want_none rfl,?_⟩
       exact Flow.run_same (Flow.exec_move (.inl rfl) e11) Flow.grow_refl
      refine Flow.Ones.cons ?_ ?_
      ·intro a w hC hoff _
       have e14:a.eval (.tmp 14)=(.int .i64 lab):=hoff.at 14 (by kernel_rfl)
       refine .inl ⟨Flow.want_none rfl,?_⟩
       exact Flow.run_same (Flow.exec_move (.inl rfl) e14) Flow.grow_refl
      refine Flow.Ones.cons ?_ ?_
      ·intro a w hC hoff _
       have e5:a.eval (.tmp 5)=(.pointer (some ⟨X,0,none⟩)):=hoff.at 5 (by kernel_rfl)
       refine .inl ⟨Flow.want_none rfl,?_⟩
       refine Flow.run_same ?_ Flow.grow_refl
       have ec:=Flow.eval_const a
       generalize a.eval=ρ at e5 ec ⊢
       obtain ⟨h0,h1,h2,h3⟩:=(HKj.out.keep hC).gc
       simp [execOp,e5,h0,h1,h2,h3,go_sem]
      refine Flow.Ones.cons ?_ ?_
      ·intro a w hC hoff _
       have e2:a.eval (.tmp 2)=(.int .i64 (i:Int)):=hoff.at 2 (by kernel_rfl)
       refine .inl ⟨Flow.want_none rfl,?_⟩
       exact Flow.run_same (Flow.exec_move (.inl rfl) e2) Flow.grow_refl
      refine Flow.Ones.cons ?_ ?_
      ·intro a w hC hoff _
       have e6:a.eval (.tmp 6)=(.pointer (some ⟨X+1,0,none⟩)):=hoff.at 6 (by kernel_rfl)
       refine .inl ⟨Flow.want_none rfl,?_⟩
       refine Flow.run_same ?_ Flow.grow_refl
       have ec:=Flow.eval_const a
       generalize a.eval=ρ at e6 ec ⊢
       exact exec_load_row 72 _ rfl (X+1) e6 72 C (0,0) _ (HKj.out.keep hC).t Tryz.underlying72 rfl HCs.out.1
      refine Flow.Ones.cons ?_ ?_
      ·intro a w hC hoff _
       have e3:a.eval (.tmp 3)=(.slice (some ⟨xb,xo,none⟩) n xc):=hoff.at 3 (by kernel_rfl)
       refine .inl ⟨Flow.want_none rfl,?_⟩
       exact Flow.run_same (Flow.exec_move (.inl rfl) e3) Flow.grow_refl
      refine Flow.Ones.cons ?_ ?_
      ·intro a w hC hoff _
       have e15:a.eval (.tmp 15)=(.int .i64 (j:Int)):=hoff.at 15 (by kernel_rfl)
       refine .inl ⟨Flow.want_none rfl,?_⟩
       exact Flow.run_same (Flow.exec_move (.inl rfl) e15) Flow.grow_refl
      refine Flow.Ones.cons ?_ ?_
      ·rintro a w hC hoff ⟨k5,k6,-⟩
       have e52:a.eval (.tmp 52)=(.slice (some ⟨xb,xo,none⟩) n xc):=k5 52 rfl
       have e53:a.eval (.tmp 53)=(.int .i64 (j:Int)):=k6 53 rfl
       refine .inl ⟨Flow.want_none rfl,?_⟩
       refine Flow.run_same ?_ Flow.grow_refl
       have ec:=Flow.eval_const a
       generalize a.eval=ρ at e52 e53 ec ⊢
       simp [execOp,e52,e53,go_sem];intro hh;omega
      refine Flow.Ones.cons ?_ ?_
      ·rintro a w hC hoff ⟨_,_,k7,-⟩
       have e54:a.eval (.tmp 54)=(.pointer (some ⟨xb,xo+j,none⟩)):=k7 54 rfl
       refine .inl ⟨Flow.want_none rfl,?_⟩
       refine Flow.run_same ?_ Flow.grow_refl
       have ec:=Flow.eval_const a
       generalize a.eval=ρ at e54 ec ⊢
       have h0:=Xm2.cell_grow hC c
       simp [execOp,e54,h0,go_sem]
      refine Flow.Ones.cons ?_ ?_
      ·rintro a w hC hoff ⟨k4,_,_,_,k8,-⟩
       have e51:a.eval (.tmp 51)=(.agg C):=k4 51 rfl
       have e55:a.eval (.tmp 55)=(.int .i64 (p:Int)):=k8 55 rfl
       refine .inl ⟨Flow.want_none rfl,?_⟩
       exact Flow.run_call (Flow.exec_call (args:=#[((.agg C)),((.int .i64 (p:Int)))]) rfl Tryz.func57 (by kernel_rfl) (by kernel_rfl) (by simp only [List.map_toArray,List.map_cons,List.map_nil,e51,e55] <;> rfl)) ((HWo.out w p hp64).mono fun e w' ⟨he,hg⟩=>⟨_,he,hg,rfl⟩)
      refine Flow.Ones.cons ?_ ?_
      ·rintro a w hC hoff ⟨k2,k3,_,_,_,_,_,k9,-⟩
       have e49:a.eval (.tmp 49)=(.agg #[v0,v1,.slice (some ⟨b,off,none⟩) nl cn,v3]):=k2 49 rfl
       have e50:a.eval (.tmp 50)=(.int .i64 (i:Int)):=k3 50 rfl
       have e56:a.eval (.tmp 56)=(.agg (Gr.tcs (Gr.wo t (p:Int)))):=k9 56 rfl
       refine .inl ⟨Flow.want_none rfl,?_⟩
       exact Flow.run_call (Flow.exec_call (args:=#[((.agg #[v0,v1,.slice (some ⟨b,off,none⟩) nl cn,v3])),((.int .i64 (i:Int))),((.agg (Gr.tcs (Gr.wo t (p:Int)))))]) rfl Tryz.func81 (by kernel_rfl) (by kernel_rfl) (by simp only [List.map_toArray,List.map_cons,List.map_nil,e49,e50,e56] <;> rfl)) ((HBg.out w p (HRj.out.grow.trans hC)).mono fun e w' ⟨he,hg⟩=>⟨_,he,hg,rfl⟩)
      refine Flow.Ones.cons ?_ ?_
      ·rintro a w hC hoff ⟨k1,_,_,_,_,_,_,_,_,k10,-⟩
       have e48:a.eval (.tmp 48)=(.int .i64 lab):=k1 48 rfl
       have e57:a.eval (.tmp 57)=(.agg (Gr.tcs (g.begun i (Gr.wo t (p:Int))))):=k10 57 rfl
       refine .inl ⟨Flow.want_none rfl,?_⟩
       refine Flow.run_same ?_ Flow.grow_refl
       have ec:=Flow.eval_const a
       generalize a.eval=ρ at e48 e57 ec ⊢
       exact exec_turn rfl e48 e57 (tk_sz (HLb.out p)).2.1
      refine Flow.Ones.cons ?_ ?_
      ·rintro a w hC hoff ⟨_,_,_,_,_,_,_,_,_,_,k11,-⟩
       have e58:a.eval (.tmp 58)=(.agg (#[.int .i64 lab]++Gr.tcs (g.begun i (Gr.wo t (p:Int))))):=k11 58 rfl
       refine .inl ⟨Flow.want_none rfl,?_⟩
       refine Flow.run_val (v:=.slice (some ⟨w.heap.size,0,none⟩) 1 1) (w':=w.alloc (.cells (#[.int .i64 lab]++Gr.tcs (g.begun i (Gr.wo t (p:Int)))) 112)) (exec_slice1 rfl e58 (by have:=(tk_sz (HLb.out p)).2.1;rw [Array.size_append,this];rfl)) (Flow.grow_alloc _ _) ⟨_,rfl,heap_alloc_new _ _⟩
      exact trivial
     case stab8 =>
      simp only [Flow.Stable,and_true]
      exact fun v w w' hR ⟨q,h1,h2⟩=>⟨q,h1,heap_keep hR h2⟩
     case ends8 =>
      intro wy op1 op2 ho1 ho2 hC
      simp only [List.take_succ_cons,List.take_zero,Flow.ends]
      rintro v59 ⟨q',rfl,hq'⟩
      have h1:op1.op=.call { callee:=.builtin .append,args:=#[.tmp 47,.tmp 59],argTypes:=#[109,109] }:=by cases ho1;rfl
      have h1d:op1.dst=some 60:=by cases ho1;rfl
      have h2:op2.op=.assign (.tmp 60):=by cases ho2;rfl
      have h2d:op2.dst=some 11:=by cases ho2;rfl
      clear ho1 ho2
      simp only [Act.put,List.setIfInBounds_toArray,List.set_cons_succ,List.set_cons_zero]
      refine wp_appR (W:=W) _ _ h1 (.slice oa ts.length oc) ts [(lab,g.begun i (Gr.wo t (p:Int)))] _ rfl (HRj.out.keep hC) q' 1 rfl (by rw [Gr.rc_of _ _ (HLb.out p)];simp) hq' (by omega) (by simp) ?_
      intro v' w4 hro hkp
      have HR4:=Lib.hid hro
      have HK4:=Lib.hid ((HKj.out.keep hC).app hkp)
      obtain ⟨oa',oc',rfl⟩:=own_form hro.own
      refine Flow.run_wp (Flow.exec_move (.inr h2) rfl) ?_
      rw [h1d,h2d]
      simp only [Act.put,Act.eval,List.setIfInBounds_toArray,List.set_cons_succ,List.set_cons_zero]
      clear h1 h2 h1d h2d hro hkp hC hq'
      go_wp2_with fail
      go_roundw
      case rel=>exact ⟨j+1,by omega,by go_num,Lib.hid (by rw [HE.out];exact HR4.out),HK4⟩
      case measure=>simp [intOf];omega
   ·obtain rfl:j=n:=by omega
    have ht0:xs.take j=xs:=List.take_of_length_le (by rw [← Hn.out];exact Nat.le_refl _)
    rw [ht0] at HRj ⊢
    have HLn:=HFl.out xs
    generalize xs.flatMap f=ts at *
    have hlen:ts.length≤1000001:=by have:=Hn.out;omega
    clear HLn ht0
    have cb:wr.cell? ⟨X+1,bq,none⟩=some (.bool (Gr.at1 t (bq:Int))):=(cell_of_row wr (X+1) bq _ _ _ HKj.out.t).trans (HCb.out bq (by omega))
    cases hat:Gr.at1 t (bq:Int) with
    | false =>
     rw [hat] at cb
     have HTt:Hid (TS=ts++(if Gr.at1 t (dq:Int) then [(lab,g.begun i (Gr.wo t (dq:Int))),(-1,g.outT i (Gr.wo t (dq:Int)))] else [])):=Lib.hid (by rw [HT.out,if_neg (c:=Gr.at1 t (bq:Int)=true) (by rw [hat];simp),List.append_nil])
     clear hat
     have ct:=(cell_of_row wr (X+1) (bq+1) _ _ _ HKj.out.t).trans (HCb.out (bq+1) (by omega))
     have ct':wr.cell? ⟨X+1,bq+1,none⟩=some (.bool (Gr.at1 t (dq:Int))):=by rw [← Hdq.out];exact ct
     clear ct
     cases hat:Gr.at1 t (dq:Int) with
     | false =>
      rw [hat] at ct'
      have HE:Hid (TS=ts):=Lib.hid (by rw [HTt.out,if_neg (by rw [hat];simp),List.append_nil])
      go_wp2_with fail
      go_ret
      exact ⟨_,rfl,by rw [HE.out];exact HRj.out⟩
     | true =>
      rw [hat] at ct'
      have HE:Hid (TS=ts++[(lab,g.begun i (Gr.wo t (dq:Int))),(-1,g.outT i (Gr.wo t (dq:Int)))]):=Lib.hid (by rw [HTt.out,if_pos hat])
      go_upto_region 12 with fail
      clear ct'
      refine Flow.region_tailA (R:=Flow.Grow) (C:=Flow.Grow wr) (Fs:=[.inl ((.slice oa ts.length oc)),.inl ((.int .i64 lab)),.inl ((.agg #[v0,v1,.slice (some ⟨b,off,none⟩) nl cn,v3])),.inl ((.int .i64 (i:Int))),.inl ((.agg C)),.inl ((.int .i64 (bq:Int))),.inl ((.int .i64 (dq:Int))),.inl ((.agg (Gr.tcs (Gr.wo t (dq:Int))))),.inl ((.agg (Gr.tcs (g.begun i (Gr.wo t (dq:Int)))))),.inl ((.agg (#[.int .i64 lab]++(Gr.tcs (g.begun i (Gr.wo t (dq:Int))))))),.inl ((.agg #[v0,v1,.slice (some ⟨b,off,none⟩) nl cn,v3])),.inl ((.int .i64 (i:Int))),.inl ((.agg C)),.inl ((.int .i64 (bq:Int))),.inl ((.int .i64 (dq:Int))),.inl ((.agg (Gr.tcs (Gr.wo t (dq:Int))))),.inl ((.agg (Gr.tcs (g.outT i (Gr.wo t (dq:Int)))))),.inl ((.agg (#[.int .i64 (-1)]++(Gr.tcs (g.outT i (Gr.wo t (dq:Int))))))),.inr (fun v w=>∃ q,v=.slice (some ⟨q,0,none⟩) 2 2∧w.heap[q]? = some (.cells ((#[.int .i64 lab]++(Gr.tcs (g.begun i (Gr.wo t (dq:Int)))))++(#[.int .i64 (-1)]++(Gr.tcs (g.outT i (Gr.wo t (dq:Int)))))) 112 (0,0)))])
       (S:=[[],[],[],[],[],[],[5],[4,5,6],[2,3,4,5,6,7],[1,2,3,4,5,6,7,8],[],[],[],[],[13],[12,13,14],[10,11,12,13,14,15],[10,11,12,13,14,15,16],[1,2,3,4,5,6,7,8,9,10,11,12,13,14,15,16,17],[0,1,2,3,4,5,6,7,8,9,10,11,12,13,14,15,16,17,18],[19]]) 19 (by kernel_rfl) (by kernel_rfl) (by kernel_rfl) rfl ?stab12 (fun _ _ h k=>h.trans k) (Flow.grow_drew _) ?ones12 ?ends12
      case ones12 =>
       refine Flow.Ones.cons ?_ ?_
       ·intro a w hC hoff _
        have e11:a.eval (.tmp 11)=(.slice oa ts.length oc):=hoff.at 11 (by kernel_rfl)
        refine .inl ⟨Flow.want_none rfl,?_⟩
        exact Flow.run_same (Flow.exec_move (.inl rfl) e11) Flow.grow_refl
       refine Flow.Ones.cons ?_ ?_
       ·intro a w hC hoff _
        have e14:a.eval (.tmp 14)=(.int .i64 lab):=hoff.at 14 (by kernel_rfl)
        refine .inl ⟨Flow.want_none rfl,?_⟩
        exact Flow.run_same (Flow.exec_move (.inl rfl) e14) Flow.grow_refl
       refine Flow.Ones.cons ?_ ?_
       ·intro a w hC hoff _
        have e5:a.eval (.tmp 5)=(.pointer (some ⟨X,0,none⟩)):=hoff.at 5 (by kernel_rfl)
        refine .inl ⟨Flow.want_none rfl,?_⟩
        refine Flow.run_same ?_ Flow.grow_refl
        have ec:=Flow.eval_const a
        generalize a.eval=ρ at e5 ec ⊢
        obtain ⟨h0,h1,h2,h3⟩:=(HKj.out.keep hC).gc
        simp [execOp,e5,h0,h1,h2,h3,go_sem]
       refine Flow.Ones.cons ?_ ?_
       ·intro a w hC hoff _
        have e2:a.eval (.tmp 2)=(.int .i64 (i:Int)):=hoff.at 2 (by kernel_rfl)
        refine .inl ⟨Flow.want_none rfl,?_⟩
        exact Flow.run_same (Flow.exec_move (.inl rfl) e2) Flow.grow_refl
       refine Flow.Ones.cons ?_ ?_
       ·intro a w hC hoff _
        have e6:a.eval (.tmp 6)=(.pointer (some ⟨X+1,0,none⟩)):=hoff.at 6 (by kernel_rfl)
        refine .inl ⟨Flow.want_none rfl,?_⟩
        refine Flow.run_same ?_ Flow.grow_refl
        have ec:=Flow.eval_const a
        generalize a.eval=ρ at e6 ec ⊢
        exact exec_load_row 72 _ rfl (X+1) e6 72 C (0,0) _ (HKj.out.keep hC).t Tryz.underlying72 rfl HCs.out.1
       refine Flow.Ones.cons ?_ ?_
       ·intro a w hC hoff _
        have e13:a.eval (.tmp 13)=(.int .i64 (bq:Int)):=hoff.at 13 (by kernel_rfl)
        refine .inl ⟨Flow.want_none rfl,?_⟩
        exact Flow.run_same (Flow.exec_move (.inl rfl) e13) Flow.grow_refl
       refine Flow.Ones.cons ?_ ?_
       ·rintro a w hC hoff ⟨k5,-⟩
        have e94:a.eval (.tmp 94)=(.int .i64 (bq:Int)):=k5 94 rfl
        refine .inl ⟨Flow.want_none rfl,?_⟩
        refine Flow.run_same ?_ Flow.grow_refl
        have ec:=Flow.eval_const a
        generalize a.eval=ρ at e94 ec ⊢
        simp [execOp,e94,ec,go_sem];rw [Hdq.out];exact IntWalk.i64_in _ (by omega)
       refine Flow.Ones.cons ?_ ?_
       ·rintro a w hC hoff ⟨k4,_,k6,-⟩
        have e93:a.eval (.tmp 93)=(.agg C):=k4 93 rfl
        have e95:a.eval (.tmp 95)=(.int .i64 (dq:Int)):=k6 95 rfl
        refine .inl ⟨Flow.want_none rfl,?_⟩
        exact Flow.run_call (Flow.exec_call (args:=#[((.agg C)),((.int .i64 (dq:Int)))]) rfl Tryz.func57 (by kernel_rfl) (by kernel_rfl) (by simp only [List.map_toArray,List.map_cons,List.map_nil,e93,e95] <;> rfl)) ((HWo.out w dq (by omega)).mono fun e w' ⟨he,hg⟩=>⟨_,he,hg,rfl⟩)
       refine Flow.Ones.cons ?_ ?_
       ·rintro a w hC hoff ⟨k2,k3,_,_,_,k7,-⟩
        have e91:a.eval (.tmp 91)=(.agg #[v0,v1,.slice (some ⟨b,off,none⟩) nl cn,v3]):=k2 91 rfl
        have e92:a.eval (.tmp 92)=(.int .i64 (i:Int)):=k3 92 rfl
        have e96:a.eval (.tmp 96)=(.agg (Gr.tcs (Gr.wo t (dq:Int)))):=k7 96 rfl
        refine .inl ⟨Flow.want_none rfl,?_⟩
        exact Flow.run_call (Flow.exec_call (args:=#[((.agg #[v0,v1,.slice (some ⟨b,off,none⟩) nl cn,v3])),((.int .i64 (i:Int))),((.agg (Gr.tcs (Gr.wo t (dq:Int)))))]) rfl Tryz.func81 (by kernel_rfl) (by kernel_rfl) (by simp only [List.map_toArray,List.map_cons,List.map_nil,e91,e92,e96] <;> rfl)) ((HBg.out w dq (HRj.out.grow.trans hC)).mono fun e w' ⟨he,hg⟩=>⟨_,he,hg,rfl⟩)
       refine Flow.Ones.cons ?_ ?_
       ·rintro a w hC hoff ⟨k1,_,_,_,_,_,_,k8,-⟩
        have e90:a.eval (.tmp 90)=(.int .i64 lab):=k1 90 rfl
        have e97:a.eval (.tmp 97)=(.agg (Gr.tcs (g.begun i (Gr.wo t (dq:Int))))):=k8 97 rfl
        refine .inl ⟨Flow.want_none rfl,?_⟩
        refine Flow.run_same ?_ Flow.grow_refl
        have ec:=Flow.eval_const a
        generalize a.eval=ρ at e90 e97 ec ⊢
        exact exec_turn rfl e90 e97 (tk_sz (HLb.out dq)).2.1
       refine Flow.Ones.cons ?_ ?_
       ·intro a w hC hoff _
        have e5:a.eval (.tmp 5)=(.pointer (some ⟨X,0,none⟩)):=hoff.at 5 (by kernel_rfl)
        refine .inl ⟨Flow.want_none rfl,?_⟩
        refine Flow.run_same ?_ Flow.grow_refl
        have ec:=Flow.eval_const a
        generalize a.eval=ρ at e5 ec ⊢
        obtain ⟨h0,h1,h2,h3⟩:=(HKj.out.keep hC).gc
        simp [execOp,e5,h0,h1,h2,h3,go_sem]
       refine Flow.Ones.cons ?_ ?_
       ·intro a w hC hoff _
        have e2:a.eval (.tmp 2)=(.int .i64 (i:Int)):=hoff.at 2 (by kernel_rfl)
        refine .inl ⟨Flow.want_none rfl,?_⟩
        exact Flow.run_same (Flow.exec_move (.inl rfl) e2) Flow.grow_refl
       refine Flow.Ones.cons ?_ ?_
       ·intro a w hC hoff _
        have e6:a.eval (.tmp 6)=(.pointer (some ⟨X+1,0,none⟩)):=hoff.at 6 (by kernel_rfl)
        refine .inl ⟨Flow.want_none rfl,?_⟩
        refine Flow.run_same ?_ Flow.grow_refl
        have ec:=Flow.eval_const a
        generalize a.eval=ρ at e6 ec ⊢
        exact exec_load_row 72 _ rfl (X+1) e6 72 C (0,0) _ (HKj.out.keep hC).t Tryz.underlying72 rfl HCs.out.1
       refine Flow.Ones.cons ?_ ?_
       ·intro a w hC hoff _
        have e13:a.eval (.tmp 13)=(.int .i64 (bq:Int)):=hoff.at 13 (by kernel_rfl)
        refine .inl ⟨Flow.want_none rfl,?_⟩
        exact Flow.run_same (Flow.exec_move (.inl rfl) e13) Flow.grow_refl
       refine Flow.Ones.cons ?_ ?_
       ·rintro a w hC hoff ⟨k13,-⟩
        have e102:a.eval (.tmp 102)=(.int .i64 (bq:Int)):=k13 102 rfl
        refine .inl ⟨Flow.want_none rfl,?_⟩
        refine Flow.run_same ?_ Flow.grow_refl
        have ec:=Flow.eval_const a
        generalize a.eval=ρ at e102 ec ⊢
        simp [execOp,e102,ec,go_sem];rw [Hdq.out];exact IntWalk.i64_in _ (by omega)
       refine Flow.Ones.cons ?_ ?_
       ·rintro a w hC hoff ⟨k12,_,k14,-⟩
        have e101:a.eval (.tmp 101)=(.agg C):=k12 101 rfl
        have e103:a.eval (.tmp 103)=(.int .i64 (dq:Int)):=k14 103 rfl
        refine .inl ⟨Flow.want_none rfl,?_⟩
        exact Flow.run_call (Flow.exec_call (args:=#[((.agg C)),((.int .i64 (dq:Int)))]) rfl Tryz.func57 (by kernel_rfl) (by kernel_rfl) (by simp only [List.map_toArray,List.map_cons,List.map_nil,e101,e103] <;> rfl)) ((HWo.out w dq (by omega)).mono fun e w' ⟨he,hg⟩=>⟨_,he,hg,rfl⟩)
       refine Flow.Ones.cons ?_ ?_
       ·rintro a w hC hoff ⟨k10,k11,_,_,_,k15,-⟩
        have e99:a.eval (.tmp 99)=(.agg #[v0,v1,.slice (some ⟨b,off,none⟩) nl cn,v3]):=k10 99 rfl
        have e100:a.eval (.tmp 100)=(.int .i64 (i:Int)):=k11 100 rfl
        have e104:a.eval (.tmp 104)=(.agg (Gr.tcs (Gr.wo t (dq:Int)))):=k15 104 rfl
        refine .inl ⟨Flow.want_none rfl,?_⟩
        exact Flow.run_call (Flow.exec_call (args:=#[((.agg #[v0,v1,.slice (some ⟨b,off,none⟩) nl cn,v3])),((.int .i64 (i:Int))),((.agg (Gr.tcs (Gr.wo t (dq:Int)))))]) rfl Tryz.func58 (by kernel_rfl) (by kernel_rfl) (by simp only [List.map_toArray,List.map_cons,List.map_nil,e99,e100,e104] <;> rfl)) ((HOt.out w dq (HRj.out.grow.trans hC)).mono fun e w' ⟨he,hg⟩=>⟨_,he,hg,rfl⟩)
       refine Flow.Ones.cons ?_ ?_
       ·rintro a w hC hoff ⟨_,_,_,_,_,_,k16,-⟩
        have e105:a.eval (.tmp 105)=(.agg (Gr.tcs (g.outT i (Gr.wo t (dq:Int))))):=k16 105 rfl
        refine .inl ⟨Flow.want_none rfl,?_⟩
        refine Flow.run_same ?_ Flow.grow_refl
        have ec:=Flow.eval_const a
        generalize a.eval=ρ at e105 ec ⊢
        exact exec_turn rfl (ec _) e105 (tk_sz (HLo.out dq)).2.1
       refine Flow.Ones.cons ?_ ?_
       ·rintro a w hC hoff ⟨_,_,_,_,_,_,_,_,k9,_,_,_,_,_,_,_,k17,-⟩
        have e98:a.eval (.tmp 98)=(.agg (#[.int .i64 lab]++(Gr.tcs (g.begun i (Gr.wo t (dq:Int)))))):=k9 98 rfl
        have e106:a.eval (.tmp 106)=(.agg (#[.int .i64 (-1)]++(Gr.tcs (g.outT i (Gr.wo t (dq:Int)))))):=k17 106 rfl
        refine .inl ⟨Flow.want_none rfl,?_⟩
        refine Flow.run_val (v:=.slice (some ⟨w.heap.size,0,none⟩) 2 2) (w':=w.alloc (.cells ((#[.int .i64 lab]++(Gr.tcs (g.begun i (Gr.wo t (dq:Int)))))++(#[.int .i64 (-1)]++(Gr.tcs (g.outT i (Gr.wo t (dq:Int)))))) 112)) (exec_slice2 rfl e98 e106 (by have:=(tk_sz (HLb.out dq)).2.1;rw [Array.size_append,this];rfl) (by have:=(tk_sz (HLo.out dq)).2.1;rw [Array.size_append,this];rfl)) (Flow.grow_alloc _ _) ⟨_,rfl,heap_alloc_new _ _⟩
       exact trivial
      case stab12 =>
       simp only [Flow.Stable,and_true]
       exact fun v w w' hR ⟨q,h1,h2⟩=>⟨q,h1,heap_keep hR h2⟩
      case ends12 =>
       intro wy op1 op2 ho1 ho2 hC
       simp only [List.take_succ_cons,List.take_zero,Flow.ends]
       rintro v107 ⟨q',rfl,hq'⟩
       have h1:op1.op=.call { callee:=.builtin .append,args:=#[.tmp 89,.tmp 107],argTypes:=#[109,109] }:=by cases ho1;rfl
       have h1d:op1.dst=some 108:=by cases ho1;rfl
       have h2:op2.op=.assign (.tmp 108):=by cases ho2;rfl
       have h2d:op2.dst=some 11:=by cases ho2;rfl
       clear ho1 ho2
       simp only [Act.put,List.setIfInBounds_toArray,List.set_cons_succ,List.set_cons_zero]
       refine wp_appR (W:=W) _ _ h1 (.slice oa ts.length oc) ts [(lab,g.begun i (Gr.wo t (dq:Int))),(-1,g.outT i (Gr.wo t (dq:Int)))] _ rfl (HRj.out.keep hC) q' 2 rfl (by rw [Array.toList_append,Gr.rc_of _ _ (HLb.out dq),Gr.rc_of _ _ (HLo.out dq)];simp) hq' (by omega) (by simp) ?_
       intro v' w5 hro hkp
       have HR5:=Lib.hid hro
       have HK5:=Lib.hid ((HKj.out.keep hC).app hkp)
       obtain ⟨oa5,oc5,rfl⟩:=own_form hro.own
       refine Flow.run_wp (Flow.exec_move (.inr h2) rfl) ?_
       rw [h1d,h2d]
       simp only [Act.put,Act.eval,List.setIfInBounds_toArray,List.set_cons_succ,List.set_cons_zero]
       clear h1 h2 h1d h2d hro hkp hC hq'
       go_wp2_with fail
       go_ret
       exact ⟨_,rfl,by rw [HE.out];exact HR5.out⟩
    | true =>
     rw [hat] at cb
     have HTt:Hid (TS=(ts++[(bk,g.fin i (Gr.wo t (bq:Int)))])++(if Gr.at1 t (dq:Int) then [(lab,g.begun i (Gr.wo t (dq:Int))),(-1,g.outT i (Gr.wo t (dq:Int)))] else [])):=Lib.hid (by rw [HT.out,if_pos (c:=Gr.at1 t (bq:Int)=true) hat])
     clear hat
     go_upto_region 10 with fail
     clear cb
     refine Flow.region_tailA (R:=Flow.Grow) (C:=Flow.Grow wr) (Fs:=[.inl ((.slice oa ts.length oc)),.inl (vl),.inl ((.pointer (some ⟨Z,3,none⟩))),.inl ((.int .i64 y3)),.inl ((.pointer (some ⟨Z,2,none⟩))),.inl ((.int .i64 y2)),.inl ((.pointer (some ⟨Z,5,none⟩))),.inl ((.int .i64 y5)),.inl ((.agg #[.int .i64 y3,.int .i64 y2,.int .i64 y5])),.inl ((.int .i64 bk)),.inl ((.agg #[v0,v1,.slice (some ⟨b,off,none⟩) nl cn,v3])),.inl ((.int .i64 (i:Int))),.inl ((.agg C)),.inl ((.int .i64 (bq:Int))),.inl ((.agg (Gr.tcs (Gr.wo t (bq:Int))))),.inl ((.agg (Gr.tcs (g.fin i (Gr.wo t (bq:Int)))))),.inl ((.agg (#[.int .i64 bk]++Gr.tcs (g.fin i (Gr.wo t (bq:Int)))))),.inr (fun v w=>∃ q,v=.slice (some ⟨q,0,none⟩) 1 1∧w.heap[q]? = some (.cells (#[.int .i64 bk]++Gr.tcs (g.fin i (Gr.wo t (bq:Int)))) 112 (0,0)))])
      (S:=[[],[],[],[2],[],[4],[],[6],[2,3,4,5,6,7],[1,2,3,4,5,6,7,8],[],[],[],[],[12,13],[10,11,12,13,14],[1,2,3,4,5,6,7,8,9,10,11,12,13,14,15],[1,2,3,4,5,6,7,8,9,10,11,12,13,14,15,16],[0,1,2,3,4,5,6,7,8,9,10,11,12,13,14,15,16,17],[18]]) 18 (by kernel_rfl) (by kernel_rfl) (by kernel_rfl) rfl ?stab10 (fun _ _ h k=>h.trans k) (Flow.grow_drew _) ?ones10 ?ends10
     case ones10 =>
      refine Flow.Ones.cons ?_ ?_
      ·intro a w hC hoff _
       have e11:a.eval (.tmp 11)=(.slice oa ts.length oc):=hoff.at 11 (by kernel_rfl)
       refine .inl ⟨Flow.want_none rfl,?_⟩
       exact Flow.run_same (Flow.exec_move (.inl rfl) e11) Flow.grow_refl
      refine Flow.Ones.cons ?_ ?_
      ·intro a w hC hoff _
       have e4:a.eval (.tmp 4)=vl:=hoff.at 4 (by kernel_rfl)
       refine .inl ⟨Flow.want_none rfl,?_⟩
       exact Flow.run_same (Flow.exec_move (.inl rfl) e4) Flow.grow_refl
      refine Flow.Ones.cons ?_ ?_
      ·intro a w hC hoff _
       have e12:a.eval (.tmp 12)=(.pointer (some ⟨Z,0,none⟩)):=hoff.at 12 (by kernel_rfl)
       refine .inl ⟨Flow.want_none rfl,?_⟩
       refine Flow.run_same ?_ Flow.grow_refl
       have ec:=Flow.eval_const a
       generalize a.eval=ρ at e12 ec ⊢
       simp [execOp,e12,go_sem]
      refine Flow.Ones.cons ?_ ?_
      ·rintro a w hC hoff ⟨k2,-⟩
       have e67:a.eval (.tmp 67)=(.pointer (some ⟨Z,3,none⟩)):=k2 67 rfl
       refine .inl ⟨Flow.want_none rfl,?_⟩
       refine Flow.run_same ?_ Flow.grow_refl
       have ec:=Flow.eval_const a
       generalize a.eval=ρ at e67 ec ⊢
       obtain ⟨h2,h3,h5⟩:=(HKj.out.keep hC).nc
       simp [execOp,e67,h3,go_sem]
      refine Flow.Ones.cons ?_ ?_
      ·intro a w hC hoff _
       have e12:a.eval (.tmp 12)=(.pointer (some ⟨Z,0,none⟩)):=hoff.at 12 (by kernel_rfl)
       refine .inl ⟨Flow.want_none rfl,?_⟩
       refine Flow.run_same ?_ Flow.grow_refl
       have ec:=Flow.eval_const a
       generalize a.eval=ρ at e12 ec ⊢
       simp [execOp,e12,go_sem]
      refine Flow.Ones.cons ?_ ?_
      ·rintro a w hC hoff ⟨k4,-⟩
       have e69:a.eval (.tmp 69)=(.pointer (some ⟨Z,2,none⟩)):=k4 69 rfl
       refine .inl ⟨Flow.want_none rfl,?_⟩
       refine Flow.run_same ?_ Flow.grow_refl
       have ec:=Flow.eval_const a
       generalize a.eval=ρ at e69 ec ⊢
       obtain ⟨h2,h3,h5⟩:=(HKj.out.keep hC).nc
       simp [execOp,e69,h2,go_sem]
      refine Flow.Ones.cons ?_ ?_
      ·intro a w hC hoff _
       have e12:a.eval (.tmp 12)=(.pointer (some ⟨Z,0,none⟩)):=hoff.at 12 (by kernel_rfl)
       refine .inl ⟨Flow.want_none rfl,?_⟩
       refine Flow.run_same ?_ Flow.grow_refl
       have ec:=Flow.eval_const a
       generalize a.eval=ρ at e12 ec ⊢
       simp [execOp,e12,go_sem]
      refine Flow.Ones.cons ?_ ?_
      ·rintro a w hC hoff ⟨k6,-⟩
       have e71:a.eval (.tmp 71)=(.pointer (some ⟨Z,5,none⟩)):=k6 71 rfl
       refine .inl ⟨Flow.want_none rfl,?_⟩
       refine Flow.run_same ?_ Flow.grow_refl
       have ec:=Flow.eval_const a
       generalize a.eval=ρ at e71 ec ⊢
       obtain ⟨h2,h3,h5⟩:=(HKj.out.keep hC).nc
       simp [execOp,e71,h5,go_sem]
      refine Flow.Ones.cons ?_ ?_
      ·rintro a w hC hoff ⟨_,k3,_,k5,_,k7,-⟩
       have e68:a.eval (.tmp 68)=(.int .i64 y3):=k3 68 rfl
       have e70:a.eval (.tmp 70)=(.int .i64 y2):=k5 70 rfl
       have e72:a.eval (.tmp 72)=(.int .i64 y5):=k7 72 rfl
       refine .inl ⟨Flow.want_none rfl,?_⟩
       refine Flow.run_same ?_ Flow.grow_refl
       have ec:=Flow.eval_const a
       generalize a.eval=ρ at e68 e70 e72 ec ⊢
       simp [execOp,e68,e70,e72,go_sem]
      refine Flow.Ones.cons ?_ ?_
      ·rintro a w hC hoff ⟨k1,_,_,_,_,_,_,k8,-⟩
       have e66:a.eval (.tmp 66)=vl:=k1 66 rfl
       have e73:a.eval (.tmp 73)=(.agg #[.int .i64 y3,.int .i64 y2,.int .i64 y5]):=k8 73 rfl
       refine .inl ⟨Flow.want_none rfl,?_⟩
       exact Flow.run_call (Flow.exec_call (args:=#[(vl),((.agg #[.int .i64 y3,.int .i64 y2,.int .i64 y5]))]) rfl Tryz.func80 (by kernel_rfl) (by kernel_rfl) (by simp only [List.map_toArray,List.map_cons,List.map_nil,e66,e73] <;> rfl)) ((HF2.out w (HRj.out.grow.trans hC)).mono fun e w' ⟨he,hg⟩=>⟨_,he,hg,rfl⟩)
      refine Flow.Ones.cons ?_ ?_
      ·intro a w hC hoff _
       have e5:a.eval (.tmp 5)=(.pointer (some ⟨X,0,none⟩)):=hoff.at 5 (by kernel_rfl)
       refine .inl ⟨Flow.want_none rfl,?_⟩
       refine Flow.run_same ?_ Flow.grow_refl
       have ec:=Flow.eval_const a
       generalize a.eval=ρ at e5 ec ⊢
       obtain ⟨h0,h1,h2,h3⟩:=(HKj.out.keep hC).gc
       simp [execOp,e5,h0,h1,h2,h3,go_sem]
      refine Flow.Ones.cons ?_ ?_
      ·intro a w hC hoff _
       have e2:a.eval (.tmp 2)=(.int .i64 (i:Int)):=hoff.at 2 (by kernel_rfl)
       refine .inl ⟨Flow.want_none rfl,?_⟩
       exact Flow.run_same (Flow.exec_move (.inl rfl) e2) Flow.grow_refl
      refine Flow.Ones.cons ?_ ?_
      ·intro a w hC hoff _
       have e6:a.eval (.tmp 6)=(.pointer (some ⟨X+1,0,none⟩)):=hoff.at 6 (by kernel_rfl)
       refine .inl ⟨Flow.want_none rfl,?_⟩
       refine Flow.run_same ?_ Flow.grow_refl
       have ec:=Flow.eval_const a
       generalize a.eval=ρ at e6 ec ⊢
       exact exec_load_row 72 _ rfl (X+1) e6 72 C (0,0) _ (HKj.out.keep hC).t Tryz.underlying72 rfl HCs.out.1
      refine Flow.Ones.cons ?_ ?_
      ·intro a w hC hoff _
       have e13:a.eval (.tmp 13)=(.int .i64 (bq:Int)):=hoff.at 13 (by kernel_rfl)
       refine .inl ⟨Flow.want_none rfl,?_⟩
       exact Flow.run_same (Flow.exec_move (.inl rfl) e13) Flow.grow_refl
      refine Flow.Ones.cons ?_ ?_
      ·rintro a w hC hoff ⟨k12,k13,-⟩
       have e77:a.eval (.tmp 77)=(.agg C):=k12 77 rfl
       have e78:a.eval (.tmp 78)=(.int .i64 (bq:Int)):=k13 78 rfl
       refine .inl ⟨Flow.want_none rfl,?_⟩
       exact Flow.run_call (Flow.exec_call (args:=#[((.agg C)),((.int .i64 (bq:Int)))]) rfl Tryz.func57 (by kernel_rfl) (by kernel_rfl) (by simp only [List.map_toArray,List.map_cons,List.map_nil,e77,e78] <;> rfl)) ((HWo.out w bq (by omega)).mono fun e w' ⟨he,hg⟩=>⟨_,he,hg,rfl⟩)
      refine Flow.Ones.cons ?_ ?_
      ·rintro a w hC hoff ⟨k10,k11,_,_,k14,-⟩
       have e75:a.eval (.tmp 75)=(.agg #[v0,v1,.slice (some ⟨b,off,none⟩) nl cn,v3]):=k10 75 rfl
       have e76:a.eval (.tmp 76)=(.int .i64 (i:Int)):=k11 76 rfl
       have e79:a.eval (.tmp 79)=(.agg (Gr.tcs (Gr.wo t (bq:Int)))):=k14 79 rfl
       refine .inl ⟨Flow.want_none rfl,?_⟩
       exact Flow.run_call (Flow.exec_call (args:=#[((.agg #[v0,v1,.slice (some ⟨b,off,none⟩) nl cn,v3])),((.int .i64 (i:Int))),((.agg (Gr.tcs (Gr.wo t (bq:Int)))))]) rfl Tryz.func82 (by kernel_rfl) (by kernel_rfl) (by simp only [List.map_toArray,List.map_cons,List.map_nil,e75,e76,e79] <;> rfl)) ((HFn.out w bq (HRj.out.grow.trans hC)).mono fun e w' ⟨he,hg⟩=>⟨_,he,hg,rfl⟩)
      refine Flow.Ones.cons ?_ ?_
      ·rintro a w hC hoff ⟨_,_,_,_,_,_,_,_,k9,_,_,_,_,_,k15,-⟩
       have e74:a.eval (.tmp 74)=(.int .i64 bk):=k9 74 rfl
       have e80:a.eval (.tmp 80)=(.agg (Gr.tcs (g.fin i (Gr.wo t (bq:Int))))):=k15 80 rfl
       refine .inl ⟨Flow.want_none rfl,?_⟩
       refine Flow.run_same ?_ Flow.grow_refl
       have ec:=Flow.eval_const a
       generalize a.eval=ρ at e74 e80 ec ⊢
       exact exec_turn rfl e74 e80 (tk_sz (HLf.out bq)).2.1
      refine Flow.Ones.cons ?_ ?_
      ·rintro a w hC hoff ⟨_,_,_,_,_,_,_,_,_,_,_,_,_,_,_,k16,-⟩
       have e81:a.eval (.tmp 81)=(.agg (#[.int .i64 bk]++Gr.tcs (g.fin i (Gr.wo t (bq:Int))))):=k16 81 rfl
       refine .inl ⟨Flow.want_none rfl,?_⟩
       refine Flow.run_val (v:=.slice (some ⟨w.heap.size,0,none⟩) 1 1) (w':=w.alloc (.cells (#[.int .i64 bk]++Gr.tcs (g.fin i (Gr.wo t (bq:Int)))) 112)) (exec_slice1 rfl e81 (by have:=(tk_sz (HLf.out bq)).2.1;rw [Array.size_append,this];rfl)) (Flow.grow_alloc _ _) ⟨_,rfl,heap_alloc_new _ _⟩
      exact trivial
     case stab10 =>
      simp only [Flow.Stable,and_true]
      exact fun v w w' hR ⟨q,h1,h2⟩=>⟨q,h1,heap_keep hR h2⟩
     case ends10 =>
      intro wy op1 op2 ho1 ho2 hC
      simp only [List.take_succ_cons,List.take_zero,Flow.ends]
      rintro v82 ⟨q',rfl,hq'⟩
      have h1:op1.op=.call { callee:=.builtin .append,args:=#[.tmp 65,.tmp 82],argTypes:=#[109,109] }:=by cases ho1;rfl
      have h1d:op1.dst=some 83:=by cases ho1;rfl
      have h2:op2.op=.assign (.tmp 83):=by cases ho2;rfl
      have h2d:op2.dst=some 11:=by cases ho2;rfl
      clear ho1 ho2
      simp only [Act.put,List.setIfInBounds_toArray,List.set_cons_succ,List.set_cons_zero]
      refine wp_appR (W:=W) _ _ h1 (.slice oa ts.length oc) ts [(bk,g.fin i (Gr.wo t (bq:Int)))] _ rfl (HRj.out.keep hC) q' 1 rfl (by rw [Gr.rc_of _ _ (HLf.out bq)];simp) hq' (by omega) (by simp) ?_
      intro v' w4 hro hkp
      have HR4:=Lib.hid hro
      have HK4:=Lib.hid ((HKj.out.keep hC).app hkp)
      obtain ⟨oa',oc',rfl⟩:=own_form hro.own
      refine Flow.run_wp (Flow.exec_move (.inr h2) rfl) ?_
      rw [h1d,h2d]
      simp only [Act.put,Act.eval,List.setIfInBounds_toArray,List.set_cons_succ,List.set_cons_zero]
      clear h1 h2 h1d h2d hro hkp hC hq'
      obtain ⟨t2,ht2⟩:∃ t2,t2=ts++[(bk,g.fin i (Gr.wo t (bq:Int)))]:=⟨_,rfl⟩
      have hlen2:t2.length≤1000002:=by rw [ht2,List.length_append];simp;omega
      rw [← ht2] at HR4 HTt ⊢
      clear ht2 hlen HT
      have ct:=(cell_of_row w4 (X+1) (bq+1) _ _ _ HK4.out.t).trans (HCb.out (bq+1) (by omega))
      have ct':w4.cell? ⟨X+1,bq+1,none⟩=some (.bool (Gr.at1 t (dq:Int))):=by rw [← Hdq.out];exact ct
      clear ct
      cases hat:Gr.at1 t (dq:Int) with
      | false =>
       rw [hat] at ct'
       have HE:Hid (TS=t2):=Lib.hid (by rw [HTt.out,if_neg (by rw [hat];simp),List.append_nil])
       go_wp2_with fail
       go_ret
       exact ⟨_,rfl,by rw [HE.out];exact HR4.out⟩
      | true =>
       rw [hat] at ct'
       have HE:Hid (TS=t2++[(lab,g.begun i (Gr.wo t (dq:Int))),(-1,g.outT i (Gr.wo t (dq:Int)))]):=Lib.hid (by rw [HTt.out,if_pos hat])
       go_upto_region 12 with fail
       clear ct'
       refine Flow.region_tailA (R:=Flow.Grow) (C:=Flow.Grow w4) (Fs:=[.inl ((.slice oa' t2.length oc')),.inl ((.int .i64 lab)),.inl ((.agg #[v0,v1,.slice (some ⟨b,off,none⟩) nl cn,v3])),.inl ((.int .i64 (i:Int))),.inl ((.agg C)),.inl ((.int .i64 (bq:Int))),.inl ((.int .i64 (dq:Int))),.inl ((.agg (Gr.tcs (Gr.wo t (dq:Int))))),.inl ((.agg (Gr.tcs (g.begun i (Gr.wo t (dq:Int)))))),.inl ((.agg (#[.int .i64 lab]++(Gr.tcs (g.begun i (Gr.wo t (dq:Int))))))),.inl ((.agg #[v0,v1,.slice (some ⟨b,off,none⟩) nl cn,v3])),.inl ((.int .i64 (i:Int))),.inl ((.agg C)),.inl ((.int .i64 (bq:Int))),.inl ((.int .i64 (dq:Int))),.inl ((.agg (Gr.tcs (Gr.wo t (dq:Int))))),.inl ((.agg (Gr.tcs (g.outT i (Gr.wo t (dq:Int)))))),.inl ((.agg (#[.int .i64 (-1)]++(Gr.tcs (g.outT i (Gr.wo t (dq:Int))))))),.inr (fun v w=>∃ q,v=.slice (some ⟨q,0,none⟩) 2 2∧w.heap[q]? = some (.cells ((#[.int .i64 lab]++(Gr.tcs (g.begun i (Gr.wo t (dq:Int)))))++(#[.int .i64 (-1)]++(Gr.tcs (g.outT i (Gr.wo t (dq:Int)))))) 112 (0,0)))])
        (S:=[[],[],[],[],[],[],[5],[4,5,6],[2,3,4,5,6,7],[1,2,3,4,5,6,7,8],[],[],[],[],[13],[12,13,14],[10,11,12,13,14,15],[10,11,12,13,14,15,16],[1,2,3,4,5,6,7,8,9,10,11,12,13,14,15,16,17],[0,1,2,3,4,5,6,7,8,9,10,11,12,13,14,15,16,17,18],[19]]) 19 (by kernel_rfl) (by kernel_rfl) (by kernel_rfl) rfl ?stab12 (fun _ _ h k=>h.trans k) (Flow.grow_drew _) ?ones12 ?ends12
       case ones12 =>
        refine Flow.Ones.cons ?_ ?_
        ·intro a w hC hoff _
         have e11:a.eval (.tmp 11)=(.slice oa' t2.length oc'):=hoff.at 11 (by kernel_rfl)
         refine .inl ⟨Flow.want_none rfl,?_⟩
         exact Flow.run_same (Flow.exec_move (.inl rfl) e11) Flow.grow_refl
        refine Flow.Ones.cons ?_ ?_
        ·intro a w hC hoff _
         have e14:a.eval (.tmp 14)=(.int .i64 lab):=hoff.at 14 (by kernel_rfl)
         refine .inl ⟨Flow.want_none rfl,?_⟩
         exact Flow.run_same (Flow.exec_move (.inl rfl) e14) Flow.grow_refl
        refine Flow.Ones.cons ?_ ?_
        ·intro a w hC hoff _
         have e5:a.eval (.tmp 5)=(.pointer (some ⟨X,0,none⟩)):=hoff.at 5 (by kernel_rfl)
         refine .inl ⟨Flow.want_none rfl,?_⟩
         refine Flow.run_same ?_ Flow.grow_refl
         have ec:=Flow.eval_const a
         generalize a.eval=ρ at e5 ec ⊢
         obtain ⟨h0,h1,h2,h3⟩:=(HK4.out.keep hC).gc
         simp [execOp,e5,h0,h1,h2,h3,go_sem]
        refine Flow.Ones.cons ?_ ?_
        ·intro a w hC hoff _
         have e2:a.eval (.tmp 2)=(.int .i64 (i:Int)):=hoff.at 2 (by kernel_rfl)
         refine .inl ⟨Flow.want_none rfl,?_⟩
         exact Flow.run_same (Flow.exec_move (.inl rfl) e2) Flow.grow_refl
        refine Flow.Ones.cons ?_ ?_
        ·intro a w hC hoff _
         have e6:a.eval (.tmp 6)=(.pointer (some ⟨X+1,0,none⟩)):=hoff.at 6 (by kernel_rfl)
         refine .inl ⟨Flow.want_none rfl,?_⟩
         refine Flow.run_same ?_ Flow.grow_refl
         have ec:=Flow.eval_const a
         generalize a.eval=ρ at e6 ec ⊢
         exact exec_load_row 72 _ rfl (X+1) e6 72 C (0,0) _ (HK4.out.keep hC).t Tryz.underlying72 rfl HCs.out.1
        refine Flow.Ones.cons ?_ ?_
        ·intro a w hC hoff _
         have e13:a.eval (.tmp 13)=(.int .i64 (bq:Int)):=hoff.at 13 (by kernel_rfl)
         refine .inl ⟨Flow.want_none rfl,?_⟩
         exact Flow.run_same (Flow.exec_move (.inl rfl) e13) Flow.grow_refl
        refine Flow.Ones.cons ?_ ?_
        ·rintro a w hC hoff ⟨k5,-⟩
         have e94:a.eval (.tmp 94)=(.int .i64 (bq:Int)):=k5 94 rfl
         refine .inl ⟨Flow.want_none rfl,?_⟩
         refine Flow.run_same ?_ Flow.grow_refl
         have ec:=Flow.eval_const a
         generalize a.eval=ρ at e94 ec ⊢
         simp [execOp,e94,ec,go_sem];rw [Hdq.out];exact IntWalk.i64_in _ (by omega)
        refine Flow.Ones.cons ?_ ?_
        ·rintro a w hC hoff ⟨k4,_,k6,-⟩
         have e93:a.eval (.tmp 93)=(.agg C):=k4 93 rfl
         have e95:a.eval (.tmp 95)=(.int .i64 (dq:Int)):=k6 95 rfl
         refine .inl ⟨Flow.want_none rfl,?_⟩
         exact Flow.run_call (Flow.exec_call (args:=#[((.agg C)),((.int .i64 (dq:Int)))]) rfl Tryz.func57 (by kernel_rfl) (by kernel_rfl) (by simp only [List.map_toArray,List.map_cons,List.map_nil,e93,e95] <;> rfl)) ((HWo.out w dq (by omega)).mono fun e w' ⟨he,hg⟩=>⟨_,he,hg,rfl⟩)
        refine Flow.Ones.cons ?_ ?_
        ·rintro a w hC hoff ⟨k2,k3,_,_,_,k7,-⟩
         have e91:a.eval (.tmp 91)=(.agg #[v0,v1,.slice (some ⟨b,off,none⟩) nl cn,v3]):=k2 91 rfl
         have e92:a.eval (.tmp 92)=(.int .i64 (i:Int)):=k3 92 rfl
         have e96:a.eval (.tmp 96)=(.agg (Gr.tcs (Gr.wo t (dq:Int)))):=k7 96 rfl
         refine .inl ⟨Flow.want_none rfl,?_⟩
         exact Flow.run_call (Flow.exec_call (args:=#[((.agg #[v0,v1,.slice (some ⟨b,off,none⟩) nl cn,v3])),((.int .i64 (i:Int))),((.agg (Gr.tcs (Gr.wo t (dq:Int)))))]) rfl Tryz.func81 (by kernel_rfl) (by kernel_rfl) (by simp only [List.map_toArray,List.map_cons,List.map_nil,e91,e92,e96] <;> rfl)) ((HBg.out w dq (HR4.out.grow.trans hC)).mono fun e w' ⟨he,hg⟩=>⟨_,he,hg,rfl⟩)
        refine Flow.Ones.cons ?_ ?_
        ·rintro a w hC hoff ⟨k1,_,_,_,_,_,_,k8,-⟩
         have e90:a.eval (.tmp 90)=(.int .i64 lab):=k1 90 rfl
         have e97:a.eval (.tmp 97)=(.agg (Gr.tcs (g.begun i (Gr.wo t (dq:Int))))):=k8 97 rfl
         refine .inl ⟨Flow.want_none rfl,?_⟩
         refine Flow.run_same ?_ Flow.grow_refl
         have ec:=Flow.eval_const a
         generalize a.eval=ρ at e90 e97 ec ⊢
         exact exec_turn rfl e90 e97 (tk_sz (HLb.out dq)).2.1
        refine Flow.Ones.cons ?_ ?_
        ·intro a w hC hoff _
         have e5:a.eval (.tmp 5)=(.pointer (some ⟨X,0,none⟩)):=hoff.at 5 (by kernel_rfl)
         refine .inl ⟨Flow.want_none rfl,?_⟩
         refine Flow.run_same ?_ Flow.grow_refl
         have ec:=Flow.eval_const a
         generalize a.eval=ρ at e5 ec ⊢
         obtain ⟨h0,h1,h2,h3⟩:=(HK4.out.keep hC).gc
         simp [execOp,e5,h0,h1,h2,h3,go_sem]
        refine Flow.Ones.cons ?_ ?_
        ·intro a w hC hoff _
         have e2:a.eval (.tmp 2)=(.int .i64 (i:Int)):=hoff.at 2 (by kernel_rfl)
         refine .inl ⟨Flow.want_none rfl,?_⟩
         exact Flow.run_same (Flow.exec_move (.inl rfl) e2) Flow.grow_refl
        refine Flow.Ones.cons ?_ ?_
        ·intro a w hC hoff _
         have e6:a.eval (.tmp 6)=(.pointer (some ⟨X+1,0,none⟩)):=hoff.at 6 (by kernel_rfl)
         refine .inl ⟨Flow.want_none rfl,?_⟩
         refine Flow.run_same ?_ Flow.grow_refl
         have ec:=Flow.eval_const a
         generalize a.eval=ρ at e6 ec ⊢
         exact exec_load_row 72 _ rfl (X+1) e6 72 C (0,0) _ (HK4.out.keep hC).t Tryz.underlying72 rfl HCs.out.1
        refine Flow.Ones.cons ?_ ?_
        ·intro a w hC hoff _
         have e13:a.eval (.tmp 13)=(.int .i64 (bq:Int)):=hoff.at 13 (by kernel_rfl)
         refine .inl ⟨Flow.want_none rfl,?_⟩
         exact Flow.run_same (Flow.exec_move (.inl rfl) e13) Flow.grow_refl
        refine Flow.Ones.cons ?_ ?_
        ·rintro a w hC hoff ⟨k13,-⟩
         have e102:a.eval (.tmp 102)=(.int .i64 (bq:Int)):=k13 102 rfl
         refine .inl ⟨Flow.want_none rfl,?_⟩
         refine Flow.run_same ?_ Flow.grow_refl
         have ec:=Flow.eval_const a
         generalize a.eval=ρ at e102 ec ⊢
         simp [execOp,e102,ec,go_sem];rw [Hdq.out];exact IntWalk.i64_in _ (by omega)
        refine Flow.Ones.cons ?_ ?_
        ·rintro a w hC hoff ⟨k12,_,k14,-⟩
         have e101:a.eval (.tmp 101)=(.agg C):=k12 101 rfl
         have e103:a.eval (.tmp 103)=(.int .i64 (dq:Int)):=k14 103 rfl
         refine .inl ⟨Flow.want_none rfl,?_⟩
         exact Flow.run_call (Flow.exec_call (args:=#[((.agg C)),((.int .i64 (dq:Int)))]) rfl Tryz.func57 (by kernel_rfl) (by kernel_rfl) (by simp only [List.map_toArray,List.map_cons,List.map_nil,e101,e103] <;> rfl)) ((HWo.out w dq (by omega)).mono fun e w' ⟨he,hg⟩=>⟨_,he,hg,rfl⟩)
        refine Flow.Ones.cons ?_ ?_
        ·rintro a w hC hoff ⟨k10,k11,_,_,_,k15,-⟩
         have e99:a.eval (.tmp 99)=(.agg #[v0,v1,.slice (some ⟨b,off,none⟩) nl cn,v3]):=k10 99 rfl
         have e100:a.eval (.tmp 100)=(.int .i64 (i:Int)):=k11 100 rfl
         have e104:a.eval (.tmp 104)=(.agg (Gr.tcs (Gr.wo t (dq:Int)))):=k15 104 rfl
         refine .inl ⟨Flow.want_none rfl,?_⟩
         exact Flow.run_call (Flow.exec_call (args:=#[((.agg #[v0,v1,.slice (some ⟨b,off,none⟩) nl cn,v3])),((.int .i64 (i:Int))),((.agg (Gr.tcs (Gr.wo t (dq:Int)))))]) rfl Tryz.func58 (by kernel_rfl) (by kernel_rfl) (by simp only [List.map_toArray,List.map_cons,List.map_nil,e99,e100,e104] <;> rfl)) ((HOt.out w dq (HR4.out.grow.trans hC)).mono fun e w' ⟨he,hg⟩=>⟨_,he,hg,rfl⟩)
        refine Flow.Ones.cons ?_ ?_
        ·rintro a w hC hoff ⟨_,_,_,_,_,_,k16,-⟩
         have e105:a.eval (.tmp 105)=(.agg (Gr.tcs (g.outT i (Gr.wo t (dq:Int))))):=k16 105 rfl
         refine .inl ⟨Flow.want_none rfl,?_⟩
         refine Flow.run_same ?_ Flow.grow_refl
         have ec:=Flow.eval_const a
         generalize a.eval=ρ at e105 ec ⊢
         exact exec_turn rfl (ec _) e105 (tk_sz (HLo.out dq)).2.1
        refine Flow.Ones.cons ?_ ?_
        ·rintro a w hC hoff ⟨_,_,_,_,_,_,_,_,k9,_,_,_,_,_,_,_,k17,-⟩
         have e98:a.eval (.tmp 98)=(.agg (#[.int .i64 lab]++(Gr.tcs (g.begun i (Gr.wo t (dq:Int)))))):=k9 98 rfl
         have e106:a.eval (.tmp 106)=(.agg (#[.int .i64 (-1)]++(Gr.tcs (g.outT i (Gr.wo t (dq:Int)))))):=k17 106 rfl
         refine .inl ⟨Flow.want_none rfl,?_⟩
         refine Flow.run_val (v:=.slice (some ⟨w.heap.size,0,none⟩) 2 2) (w':=w.alloc (.cells ((#[.int .i64 lab]++(Gr.tcs (g.begun i (Gr.wo t (dq:Int)))))++(#[.int .i64 (-1)]++(Gr.tcs (g.outT i (Gr.wo t (dq:Int)))))) 112)) (exec_slice2 rfl e98 e106 (by have:=(tk_sz (HLb.out dq)).2.1;rw [Array.size_append,this];rfl) (by have:=(tk_sz (HLo.out dq)).2.1;rw [Array.size_append,this];rfl)) (Flow.grow_alloc _ _) ⟨_,rfl,heap_alloc_new _ _⟩
        exact trivial
       case stab12 =>
        simp only [Flow.Stable,and_true]
        exact fun v w w' hR ⟨q,h1,h2⟩=>⟨q,h1,heap_keep hR h2⟩
       case ends12 =>
        intro wy op1 op2 ho1 ho2 hC
        simp only [List.take_succ_cons,List.take_zero,Flow.ends]
        rintro v107 ⟨q',rfl,hq'⟩
        have h1:op1.op=.call { callee:=.builtin .append,args:=#[.tmp 89,.tmp 107],argTypes:=#[109,109] }:=by cases ho1;rfl
        have h1d:op1.dst=some 108:=by cases ho1;rfl
        have h2:op2.op=.assign (.tmp 108):=by cases ho2;rfl
        have h2d:op2.dst=some 11:=by cases ho2;rfl
        clear ho1 ho2
        simp only [Act.put,List.setIfInBounds_toArray,List.set_cons_succ,List.set_cons_zero]
        refine wp_appR (W:=W) _ _ h1 (.slice oa' t2.length oc') t2 [(lab,g.begun i (Gr.wo t (dq:Int))),(-1,g.outT i (Gr.wo t (dq:Int)))] _ rfl (HR4.out.keep hC) q' 2 rfl (by rw [Array.toList_append,Gr.rc_of _ _ (HLb.out dq),Gr.rc_of _ _ (HLo.out dq)];simp) hq' (by omega) (by simp) ?_
        intro v' w5 hro hkp
        have HR5:=Lib.hid hro
        have HK5:=Lib.hid ((HK4.out.keep hC).app hkp)
        obtain ⟨oa5,oc5,rfl⟩:=own_form hro.own
        refine Flow.run_wp (Flow.exec_move (.inr h2) rfl) ?_
        rw [h1d,h2d]
        simp only [Act.put,Act.eval,List.setIfInBounds_toArray,List.set_cons_succ,List.set_cons_zero]
        clear h1 h2 h1d h2d hro hkp hC hq'
        go_wp2_with fail
        go_ret
        exact ⟨_,rfl,by rw [HE.out];exact HR5.out⟩
end Go.Proofs.YtcnmaplopbbmaaaGreat
