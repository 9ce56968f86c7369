/- galliardref08's maker.item by contract. -/
import Derived.Test.YtcnmaplopbbmaaaGreatChSeq
namespace Go.Proofs.YtcnmaplopbbmaaaGreat
open Go.RowKit
theorem info_item08:(Tryz.prog.info? 116).map (fun i=>(i.zero,i.size,i.bytes))=some (some (.agg #[.int .i64 0,.string ⟨#[]⟩,.string ⟨#[]⟩,.slice none 0 0,.slice none 0 0,.bool false,.string ⟨#[]⟩,.slice none 0 0,.slice none 0 0,.slice none 0 0]),10,184):=by kernel_rfl
theorem item_res (tmps:Array Value) (w:World) (X:Nat) (c0 c1 c2 c3 c4 c5 c6 c7:Value) (h2:tmps.getD 4 undef=.pointer (some ⟨X,0,none⟩)) (hx:w.heap[X]? = some (.cells #[c0,c1,c2,c3,c4,c5,c6,c7] 86 (0,0))) :
  (results Tryz.f42 tmps).run Tryz.prog w=.ok (.agg #[c0,c1,c2,c3,c4,c5,c6,c7]) w:=by
 obtain ⟨x0,x1,x2,x3,x4,x5,x6,x7,_⟩:=m8_cells hx
 simp only [Array.getD_eq_getD_getElem?] at h2
 simp [results,Tryz.results42,h2,x0,x1,x2,x3,x4,x5,x6,x7,go_sem]
def Ch.ic (it:Ch.It) (vp vf:Value):Array Value:=#[.int .i64 it.kind,.string it.id,.string it.first,vp,vf,.bool it.loop,.string ⟨#[]⟩,.slice none 0 0,.slice none 0 0,.slice none 0 0]
theorem Ch.icells_one {w:World} {ys:List (Ch.It × Value × Value)} (h:∀ y∈ys,Ch.Strs w y.2.1 y.1.parts∧Ch.Strs w y.2.2 y.1.flows):∀ u∈ys.flatMap Ch.icells,u.oneCell'=true:=fun u hu=>by
 rw [List.mem_flatMap] at hu
 obtain ⟨y,hy,hx⟩:=hu
 obtain ⟨_,_,e1⟩:=own_form (h y hy).1
 obtain ⟨_,_,e2⟩:=own_form (h y hy).2
 simp only [Ch.icells,List.mem_cons,List.not_mem_nil,or_false] at hx
 rcases hx with rfl | rfl | rfl | hx | hx | rfl | rfl | rfl | rfl | rfl
 ·rfl
 ·rfl
 ·rfl
 ·rw [hx,e1];rfl
 ·rw [hx,e2];rfl
 ·rfl
 ·rfl
 ·rfl
 ·rfl
 ·rfl
set_option maxRecDepth 100000 in
set_option maxHeartbeats 4000000 in
theorem item_any (c:Ch.Cx) (m:Ch.Mk) (it:Ch.It) (vp va vf vi vs xp xf:Value) (W:World) (hit:m.items.length≤100000) (h:Ch.MkAt W c m vp va vf vi vs) (hxp:Ch.Strs W xp it.parts) (hxf:Ch.Strs W xf it.flows) :
  Calls Tryz.prog 42 #[.agg (Ch.mc c m vp va vf vi vs),.agg (Ch.ic it xp xf)] W fun e w'=>∃ vi',e=.returned (.agg (Ch.mc c (m.item it) vp va vf vi' vs))∧Ch.MkAt w' c (m.item it) vp va vf vi' vs∧Flow.Grow W w':=by
 have H:=Lib.hid h
 obtain ⟨ys,hys1,hys2,hys3⟩:=h.items
 have HY:=Lib.hid (And.intro hys1 (And.intro hys2 hys3))
 have HXS:=Lib.hid (And.intro hxp hxf)
 obtain ⟨x0,x1,rfl⟩:=own_form hxp
 obtain ⟨y0,y1,rfl⟩:=own_form hxf
 obtain ⟨p0,p1,a0,a1,f0,f1,i0,i1,s0,s1,rfl,rfl,rfl,rfl,rfl⟩:=h.forms
 clear h hys1 hys2 hys3 hxp hxf
 have hone:∀ u∈Ch.icells (it,.slice x0 it.parts.length x1,.slice y0 it.flows.length y1),u.oneCell'=true:=fun u hu=>Ch.icells_one (ys:=[(it,.slice x0 it.parts.length x1,.slice y0 it.flows.length y1)]) (w:=W) (fun y hy=>by simp at hy;rw [hy];exact HXS.out) u (by simpa using hu)
 have HO1:=Lib.hid hone
 clear hone
 obtain ⟨i,hi,hz,hs,hb⟩:=info_parts08 info_item08
 have HI:=Lib.hid (And.intro hi (And.intro hz (And.intro hs hb)))
 clear hi hz hs hb
 have hIC:(Ch.icells (it,.slice x0 it.parts.length x1,.slice y0 it.flows.length y1))=[.int .i64 it.kind,.string it.id,.string it.first,.slice x0 it.parts.length x1,.slice y0 it.flows.length y1,.bool it.loop,.string ⟨#[]⟩,.slice none 0 0,.slice none 0 0,.slice none 0 0]:=rfl
 have HIC:=Lib.hid hIC
 clear hIC
 simp only [Ch.mc,Ch.ic]
 go_enter Tryz.func42,Tryz.ntmps42
 go_upto_region 1 with fail
 have HBw10:Hid ((((W.alloc (.cells #[.slice p0 c.p.length p1,.int .i64 (m.at_:Int),.int .i64 (m.n:Int),.slice a0 c.parts.length a1,.slice f0 m.flows.length f1,.slice i0 m.items.length i1,.slice s0 m.seqs.length s1,.string c.pre] 86)).alloc (.cells #[.int .i64 it.kind,.string it.id,.string it.first,.slice x0 it.parts.length x1,.slice y0 it.flows.length y1,.bool it.loop,.string ⟨#[]⟩,.slice none 0 0,.slice none 0 0,.slice none 0 0] 116)).alloc (.cells #[.slice none 0 0,.int .i64 0,.int .i64 0,.slice none 0 0,.slice none 0 0,.slice none 0 0,.slice none 0 0,.string ⟨#[]⟩] 86)).heap[W.heap.size]? = some (.cells #[.slice p0 c.p.length p1,.int .i64 (m.at_:Int),.int .i64 (m.n:Int),.slice a0 c.parts.length a1,.slice f0 m.flows.length f1,.slice i0 m.items.length i1,.slice s0 m.seqs.length s1,.string c.pre] 86 (0,0))):=Lib.hid (lay3_0 _ _ _ _)
 have HBw11:Hid ((((W.alloc (.cells #[.slice p0 c.p.length p1,.int .i64 (m.at_:Int),.int .i64 (m.n:Int),.slice a0 c.parts.length a1,.slice f0 m.flows.length f1,.slice i0 m.items.length i1,.slice s0 m.seqs.length s1,.string c.pre] 86)).alloc (.cells #[.int .i64 it.kind,.string it.id,.string it.first,.slice x0 it.parts.length x1,.slice y0 it.flows.length y1,.bool it.loop,.string ⟨#[]⟩,.slice none 0 0,.slice none 0 0,.slice none 0 0] 116)).alloc (.cells #[.slice none 0 0,.int .i64 0,.int .i64 0,.slice none 0 0,.slice none 0 0,.slice none 0 0,.slice none 0 0,.string ⟨#[]⟩] 86)).heap[W.heap.size+1]? = some (.cells #[.int .i64 it.kind,.string it.id,.string it.first,.slice x0 it.parts.length x1,.slice y0 it.flows.length y1,.bool it.loop,.string ⟨#[]⟩,.slice none 0 0,.slice none 0 0,.slice none 0 0] 116 (0,0))):=Lib.hid (lay3_1 _ _ _ _)
 have HBw12:Hid ((((W.alloc (.cells #[.slice p0 c.p.length p1,.int .i64 (m.at_:Int),.int .i64 (m.n:Int),.slice a0 c.parts.length a1,.slice f0 m.flows.length f1,.slice i0 m.items.length i1,.slice s0 m.seqs.length s1,.string c.pre] 86)).alloc (.cells #[.int .i64 it.kind,.string it.id,.string it.first,.slice x0 it.parts.length x1,.slice y0 it.flows.length y1,.bool it.loop,.string ⟨#[]⟩,.slice none 0 0,.slice none 0 0,.slice none 0 0] 116)).alloc (.cells #[.slice none 0 0,.int .i64 0,.int .i64 0,.slice none 0 0,.slice none 0 0,.slice none 0 0,.slice none 0 0,.string ⟨#[]⟩] 86)).heap[W.heap.size+1+1]? = some (.cells #[.slice none 0 0,.int .i64 0,.int .i64 0,.slice none 0 0,.slice none 0 0,.slice none 0 0,.slice none 0 0,.string ⟨#[]⟩] 86 (0,0))):=Lib.hid (lay3_2 _ _ _ _)
 have HGw1:Hid (Flow.Grow W (((W.alloc (.cells #[.slice p0 c.p.length p1,.int .i64 (m.at_:Int),.int .i64 (m.n:Int),.slice a0 c.parts.length a1,.slice f0 m.flows.length f1,.slice i0 m.items.length i1,.slice s0 m.seqs.length s1,.string c.pre] 86)).alloc (.cells #[.int .i64 it.kind,.string it.id,.string it.first,.slice x0 it.parts.length x1,.slice y0 it.flows.length y1,.bool it.loop,.string ⟨#[]⟩,.slice none 0 0,.slice none 0 0,.slice none 0 0] 116)).alloc (.cells #[.slice none 0 0,.int .i64 0,.int .i64 0,.slice none 0 0,.slice none 0 0,.slice none 0 0,.slice none 0 0,.string ⟨#[]⟩] 86))):=Lib.hid (lay3_g _ _ _ _)
 have HSw1:Hid ((((W.alloc (.cells #[.slice p0 c.p.length p1,.int .i64 (m.at_:Int),.int .i64 (m.n:Int),.slice a0 c.parts.length a1,.slice f0 m.flows.length f1,.slice i0 m.items.length i1,.slice s0 m.seqs.length s1,.string c.pre] 86)).alloc (.cells #[.int .i64 it.kind,.string it.id,.string it.first,.slice x0 it.parts.length x1,.slice y0 it.flows.length y1,.bool it.loop,.string ⟨#[]⟩,.slice none 0 0,.slice none 0 0,.slice none 0 0] 116)).alloc (.cells #[.slice none 0 0,.int .i64 0,.int .i64 0,.slice none 0 0,.slice none 0 0,.slice none 0 0,.slice none 0 0,.string ⟨#[]⟩] 86)).heap.size=W.heap.size+1+1+1):=Lib.hid (by simp)
 generalize ((W.alloc (.cells #[.slice p0 c.p.length p1,.int .i64 (m.at_:Int),.int .i64 (m.n:Int),.slice a0 c.parts.length a1,.slice f0 m.flows.length f1,.slice i0 m.items.length i1,.slice s0 m.seqs.length s1,.string c.pre] 86)).alloc (.cells #[.int .i64 it.kind,.string it.id,.string it.first,.slice x0 it.parts.length x1,.slice y0 it.flows.length y1,.bool it.loop,.string ⟨#[]⟩,.slice none 0 0,.slice none 0 0,.slice none 0 0] 116)).alloc (.cells #[.slice none 0 0,.int .i64 0,.int .i64 0,.slice none 0 0,.slice none 0 0,.slice none 0 0,.slice none 0 0,.string ⟨#[]⟩] 86)=w1 at *
 obtain ⟨X,hX⟩:∃ X,X=W.heap.size:=⟨_,rfl⟩
 rw [← hX] at HBw10 HBw11 HBw12 HSw1 ⊢
 have HXw1:=Lib.hid hX
 clear hX
 have CXw1:Hid (∀ wq,Flow.Grow w1 wq→wq.cell? ⟨X,0,none⟩=some (.slice p0 c.p.length p1)∧wq.cell? ⟨X,1,none⟩=some (.int .i64 (m.at_:Int))∧wq.cell? ⟨X,2,none⟩=some (.int .i64 (m.n:Int))∧wq.cell? ⟨X,3,none⟩=some (.slice a0 c.parts.length a1)∧wq.cell? ⟨X,4,none⟩=some (.slice f0 m.flows.length f1)∧wq.cell? ⟨X,5,none⟩=some (.slice i0 m.items.length i1)∧wq.cell? ⟨X,6,none⟩=some (.slice s0 m.seqs.length s1)∧wq.cell? ⟨X,7,none⟩=some (.string c.pre)∧wq.cell? ⟨X+1,0,none⟩=some (.int .i64 it.kind)∧wq.cell? ⟨X+1,1,none⟩=some (.string it.id)∧wq.cell? ⟨X+1,2,none⟩=some (.string it.first)∧wq.cell? ⟨X+1,3,none⟩=some (.slice x0 it.parts.length x1)∧wq.cell? ⟨X+1,4,none⟩=some (.slice y0 it.flows.length y1)∧wq.cell? ⟨X+1,5,none⟩=some (.bool it.loop)∧wq.cell? ⟨X+1,6,none⟩=some (.string ⟨#[]⟩)∧wq.cell? ⟨X+1,7,none⟩=some (.slice none 0 0)∧wq.cell? ⟨X+1,8,none⟩=some (.slice none 0 0)∧wq.cell? ⟨X+1,9,none⟩=some (.slice none 0 0)∧wq.cell? ⟨X+1+1,0,none⟩=some (.slice none 0 0)∧wq.cell? ⟨X+1+1,1,none⟩=some (.int .i64 0)∧wq.cell? ⟨X+1+1,2,none⟩=some (.int .i64 0)∧wq.cell? ⟨X+1+1,3,none⟩=some (.slice none 0 0)∧wq.cell? ⟨X+1+1,4,none⟩=some (.slice none 0 0)∧wq.cell? ⟨X+1+1,5,none⟩=some (.slice none 0 0)∧wq.cell? ⟨X+1+1,6,none⟩=some (.slice none 0 0)∧wq.cell? ⟨X+1+1,7,none⟩=some (.string ⟨#[]⟩)):=Lib.hid (fun wq g=>⟨lay_cell g HBw10.out rfl,lay_cell g HBw10.out rfl,lay_cell g HBw10.out rfl,lay_cell g HBw10.out rfl,lay_cell g HBw10.out rfl,lay_cell g HBw10.out rfl,lay_cell g HBw10.out rfl,lay_cell g HBw10.out rfl,lay_cell g HBw11.out rfl,lay_cell g HBw11.out rfl,lay_cell g HBw11.out rfl,lay_cell g HBw11.out rfl,lay_cell g HBw11.out rfl,lay_cell g HBw11.out rfl,lay_cell g HBw11.out rfl,lay_cell g HBw11.out rfl,lay_cell g HBw11.out rfl,lay_cell g HBw11.out rfl,lay_cell g HBw12.out rfl,lay_cell g HBw12.out rfl,lay_cell g HBw12.out rfl,lay_cell g HBw12.out rfl,lay_cell g HBw12.out rfl,lay_cell g HBw12.out rfl,lay_cell g HBw12.out rfl,lay_cell g HBw12.out rfl⟩)
 have FXw1:Hid (∀ wq,Flow.Grow w1 wq→(∀ k,wq.frozen? ⟨X,k,none⟩=false)∧(∀ k,wq.frozen? ⟨X+1,k,none⟩=false)∧(∀ k,wq.frozen? ⟨X+1+1,k,none⟩=false)):=Lib.hid (fun wq g=>⟨fun k=>lay_frozen g HBw10.out k,fun k=>lay_frozen g HBw11.out k,fun k=>lay_frozen g HBw12.out k⟩)
 have hX:W.heap.size≤X:=by rw [HXw1.out];exact Nat.le_refl _
 refine Flow.region_tail3 (R:=Flow.Grow) (C:=fun wq=>Flow.Grow w1 wq) (Fs:=[.inr (fun v w=>∃ q,v=.slice (some ⟨q,0,none⟩) 0 0∧w.ownsRow W.heap.size 116 10 v 0 []),.inl ((.pointer (some ⟨X,5,none⟩))),.inl ((.slice i0 m.items.length i1)),.inr (fun v w=>∃ g gc,v=.slice (some ⟨g,0,none⟩) m.items.length gc∧w.ownsRow W.heap.size 116 10 v m.items.length (ys.flatMap Ch.icells)),.inl ((.agg #[.int .i64 it.kind,.string it.id,.string it.first,.slice x0 it.parts.length x1,.slice y0 it.flows.length y1,.bool it.loop,.string ⟨#[]⟩,.slice none 0 0,.slice none 0 0,.slice none 0 0])),.inr (fun v w=>∃ q,v=.slice (some ⟨q,0,none⟩) 1 1∧w.heap[q]? = some (.cells #[.int .i64 it.kind,.string it.id,.string it.first,.slice x0 it.parts.length x1,.slice y0 it.flows.length y1,.bool it.loop,.string ⟨#[]⟩,.slice none 0 0,.slice none 0 0,.slice none 0 0] 116 (0,0)))]) (T:=fun v w'=>∃ gb gc,v=.slice (some ⟨gb,0,none⟩) (m.items.length+1) gc∧Hid (w'.heap[X]? = some (.cells #[.slice p0 c.p.length p1,.int .i64 (m.at_:Int),.int .i64 (m.n:Int),.slice a0 c.parts.length a1,.slice f0 m.flows.length f1,.slice i0 m.items.length i1,.slice s0 m.seqs.length s1,.string c.pre] 86 (0,0))∧w'.heap[X+1+1]? = some (.cells #[.slice none 0 0,.int .i64 0,.int .i64 0,.slice none 0 0,.slice none 0 0,.slice none 0 0,.slice none 0 0,.string ⟨#[]⟩] 86 (0,0))∧w'.ownsRow W.heap.size 116 10 v (m.items.length+1) (ys.flatMap Ch.icells++Ch.icells (it,.slice x0 it.parts.length x1,.slice y0 it.flows.length y1))∧Flow.Grow W w')) (c:=.pointer (some ⟨X,5,none⟩))
  (S:=[[],[],[1],[0,1,2],[],[4],[0,1,2,3,4,5]]) 6 (by kernel_rfl) rfl rfl rfl (by kernel_rfl) (by kernel_rfl) rfl ?stab1 Flow.grow_refl (fun _ _ h k=>h.trans k) (Flow.grow_drew _) ?ones1 ?app1 ?place1 ?ends1
 case ones1 =>
  refine Flow.Ones.cons ?_ ?_
  ·intro a w hC hoff _
   refine .inl ⟨Flow.want_none rfl,?_⟩
   refine Flow.run_val (v:=.slice (some ⟨w.heap.size,0,none⟩) 0 0) (w':=w.alloc (.cells #[] 116)) ?_ (Flow.grow_alloc _ _) ⟨_,rfl,World.ownsRow_lit (base:=W.heap.size) (e:=116) (size:=10) w #[] 0 (HGw1.out.trans hC).size (by decide) rfl⟩
   simp [execOp,go_sem]
  refine Flow.Ones.cons ?_ ?_
  ·intro a w hC hoff _
   have e2:a.eval (.tmp 2)=(.pointer (some ⟨X,0,none⟩)):=hoff.at 2 (by kernel_rfl)
   refine .inl ⟨Flow.want_none rfl,?_⟩
   refine Flow.run_same ?_ Flow.grow_refl
   have ec:=Flow.eval_const a
   generalize a.eval=ρ at e2 ec ⊢
   simp [execOp,e2,go_sem]
  refine Flow.Ones.cons ?_ ?_
  ·rintro a w hC hoff ⟨k1,-⟩
   have e6:a.eval (.tmp 6)=(.pointer (some ⟨X,5,none⟩)):=k1 6 rfl
   refine .inl ⟨Flow.want_none rfl,?_⟩
   refine Flow.run_same ?_ Flow.grow_refl
   have ec:=Flow.eval_const a
   generalize a.eval=ρ at e6 ec ⊢
   obtain ⟨x0,x1,x2,x3,x4,x5,x6,x7,xf⟩:=m8_cells (heap_keep hC HBw10.out)
   simp [execOp,e6,x5,go_sem]
  refine Flow.Ones.cons ?_ ?_
  ·rintro a w hC hoff ⟨k0,_,k2,-⟩
   have e5:(fun v w=>∃ q,v=.slice (some ⟨q,0,none⟩) 0 0∧w.ownsRow W.heap.size 116 10 v 0 []) (a.eval (.tmp 5)) w:=k0 5 rfl
   have e7:a.eval (.tmp 7)=(.slice i0 m.items.length i1):=k2 7 rfl
   refine .inl ⟨Flow.want_none rfl,?_⟩
   obtain ⟨q,hq1,hq2⟩:=e5
   rw [hq1] at hq2
   refine wp_appF (P:=Tryz.prog) W.heap.size _ _ 45 rfl 116 i _ 10 184 Tryz.underlying45 HI.out.1 HI.out.2.1 HI.out.2.2.1 HI.out.2.2.2 rfl (by decide) q hq1 hq2 (HGw1.out.trans hC).size _ _ _ e7 (own_keep HY.out.2.1 (HGw1.out.trans hC)) (Ch.icells_one HY.out.2.2) (by omega) (by decide) ?_
   intro g gc w' ho hg
   exact ⟨_,rfl,hg,_,_,rfl,ho⟩
  refine Flow.Ones.cons ?_ ?_
  ·intro a w hC hoff _
   have e3:a.eval (.tmp 3)=(.pointer (some ⟨X+1,0,none⟩)):=hoff.at 3 (by kernel_rfl)
   refine .inl ⟨Flow.want_none rfl,?_⟩
   refine Flow.run_same ?_ Flow.grow_refl
   have ec:=Flow.eval_const a
   generalize a.eval=ρ at e3 ec ⊢
   have k:=heap_keep hC HBw11.out
   have h0:=(cell_of_row w (X+1) 0 _ _ _ k).trans rfl
   have h1:=(cell_of_row w (X+1) 1 _ _ _ k).trans rfl
   have h2:=(cell_of_row w (X+1) 2 _ _ _ k).trans rfl
   have h3:=(cell_of_row w (X+1) 3 _ _ _ k).trans rfl
   have h4:=(cell_of_row w (X+1) 4 _ _ _ k).trans rfl
   have h5:=(cell_of_row w (X+1) 5 _ _ _ k).trans rfl
   have h6:=(cell_of_row w (X+1) 6 _ _ _ k).trans rfl
   have h7:=(cell_of_row w (X+1) 7 _ _ _ k).trans rfl
   have h8:=(cell_of_row w (X+1) 8 _ _ _ k).trans rfl
   have h9:=(cell_of_row w (X+1) 9 _ _ _ k).trans rfl
   simp at h0 h1 h2 h3 h4 h5 h6 h7 h8 h9
   simp [execOp,e3,h0,h1,h2,h3,h4,h5,h6,h7,h8,h9,go_sem]
  refine Flow.Ones.cons ?_ ?_
  ·rintro a w hC hoff ⟨k4,-⟩
   have e9:a.eval (.tmp 9)=(.agg #[.int .i64 it.kind,.string it.id,.string it.first,.slice x0 it.parts.length x1,.slice y0 it.flows.length y1,.bool it.loop,.string ⟨#[]⟩,.slice none 0 0,.slice none 0 0,.slice none 0 0]):=k4 9 rfl
   refine .inl ⟨Flow.want_none rfl,?_⟩
   refine Flow.run_val (v:=.slice (some ⟨w.heap.size,0,none⟩) 1 1) (w':=w.alloc (.cells #[.int .i64 it.kind,.string it.id,.string it.first,.slice x0 it.parts.length x1,.slice y0 it.flows.length y1,.bool it.loop,.string ⟨#[]⟩,.slice none 0 0,.slice none 0 0,.slice none 0 0] 116)) ?_ (Flow.grow_alloc _ _) ⟨_,rfl,heap_alloc_new _ _⟩
   generalize a.eval=ρ at e9 ⊢
   simp [execOp,e9,go_sem]
  exact trivial
 case place1 =>
  intro a w hoff
  have e2:a.eval (.tmp 2)=(.pointer (some ⟨X,0,none⟩)):=hoff.at 2 (by kernel_rfl)
  generalize a.eval=ρ at e2 ⊢
  simp [execOp,e2,go_sem]
 case app1 =>
  intro a w hC hoff hk
  have e8:(fun v w=>∃ g gc,v=.slice (some ⟨g,0,none⟩) m.items.length gc∧w.ownsRow W.heap.size 116 10 v m.items.length (ys.flatMap Ch.icells)) (a.eval (.tmp 8)) w:=hk 3 (by decide) 8 rfl
  have e10:(fun v w=>∃ q,v=.slice (some ⟨q,0,none⟩) 1 1∧w.heap[q]? = some (.cells #[.int .i64 it.kind,.string it.id,.string it.first,.slice x0 it.parts.length x1,.slice y0 it.flows.length y1,.bool it.loop,.string ⟨#[]⟩,.slice none 0 0,.slice none 0 0,.slice none 0 0] 116 (0,0))) (a.eval (.tmp 10)) w:=hk 5 (by decide) 10 rfl
  obtain ⟨g,gc,hg1,hg2⟩:=e8
  obtain ⟨q,hq,hrow⟩:=e10
  rw [hg1] at hg2
  refine exec_appK (P:=Tryz.prog) W.heap.size (.tmp 8) (.tmp 10) 45 rfl 116 i _ 10 184 Tryz.underlying45 HI.out.1 HI.out.2.1 HI.out.2.2.1 HI.out.2.2.2 rfl (by decide) (.slice (some ⟨g,0,none⟩) m.items.length gc) m.items.length _ hg1 hg2 (HGw1.out.trans hC).size q (Ch.icells (it,.slice x0 it.parts.length x1,.slice y0 it.flows.length y1)) 1 1 hq rfl (by rw [HIC.out];exact cells_of hrow) HO1.out (by omega) (by decide) (by decide) (fun v' w' ho hk=>?_)
  obtain ⟨xb,xd,hv'⟩:=own_form ho
  subst hv'
  obtain ⟨gp,rfl⟩:=own_at ho (by omega)
  have t:=TY.own hg2
  exact ⟨gp,xd,rfl,Lib.hid ⟨t.keep_blk hk (heap_keep hC HBw10.out) (by decide),t.keep_blk hk (heap_keep hC HBw12.out) (by decide),ho,grow_row (HGw1.out.trans hC) hk (own_lo hg2)⟩⟩
 case stab1 =>
  simp only [Flow.Stable,and_true]
  exact ⟨fun v w w' hg ⟨q,e,h⟩=>⟨q,e,own_keep h hg⟩,fun v w w' hg ⟨g,gc,e,h⟩=>⟨g,gc,e,own_keep h hg⟩,fun v w w' hg ⟨q,e,h⟩=>⟨q,e,heap_keep hg h⟩⟩
 case ends1 =>
  intro wy
  simp only [List.take_succ_cons,List.take_zero,List.replicate,List.cons_append,List.nil_append,Flow.ends]
  simp only [Act.put,List.setIfInBounds_toArray,List.set_cons_succ,List.set_cons_zero]
  iterate 6 (intro _ _)
  intro v11 h11
  obtain ⟨gb,gc,rfl,hT⟩:=h11
  obtain ⟨z0,z1,z2,z3,z4,z5,z6,z7,zf⟩:=m8_cells hT.out.1
  unfold Oper.wp
  simp [execOp,z5,zf,go_sem]
  have HB6:Hid ((wy.setCell ⟨X,5,none⟩ (.slice (some ⟨gb,0,none⟩) (m.items.length+1) gc)).heap[X]? = some (.cells #[.slice p0 c.p.length p1,.int .i64 (m.at_:Int),.int .i64 (m.n:Int),.slice a0 c.parts.length a1,.slice f0 m.flows.length f1,.slice (some ⟨gb,0,none⟩) (m.items.length+1) gc,.slice s0 m.seqs.length s1,.string c.pre] 86 (0,0))):=Lib.hid ((set_cells hT.out.1 5 (.slice (some ⟨gb,0,none⟩) (m.items.length+1) gc)).trans rfl)
  have HZ6:=Lib.hid (set_other (g:=X) (q:=5) (u:=.slice (some ⟨gb,0,none⟩) (m.items.length+1) gc) hT.out.2.1 (by omega))
  have HO6:=Lib.hid ((TY.blk hT.out.1).keep_own (by_set wy X 5 (.slice (some ⟨gb,0,none⟩) (m.items.length+1) gc)) hT.out.2.2.1 (by decide))
  have HG6:=Lib.hid (set_grow (g:=X) hT.out.2.2.2 hX 5 (.slice (some ⟨gb,0,none⟩) (m.items.length+1) gc))
  generalize wy.setCell ⟨X,5,none⟩ (.slice (some ⟨gb,0,none⟩) (m.items.length+1) gc)=w6 at *
  clear z0 z1 z2 z3 z4 z5 z6 z7 zf hT
  obtain ⟨z0,z1,z2,z3,z4,z5,z6,z7,zf⟩:=m8_cells HB6.out
  obtain ⟨u0,u1,u2,u3,u4,u5,u6,u7,uf⟩:=m8_cells HZ6.out
  go_wp2_with fail
  have k:=m8_set (w:=w6) (X:=X+1+1) (.slice p0 c.p.length p1) (.int .i64 (m.at_:Int)) (.int .i64 (m.n:Int)) (.slice a0 c.parts.length a1) (.slice f0 m.flows.length f1) (.slice (some ⟨gb,0,none⟩) (m.items.length+1) gc) (.slice s0 m.seqs.length s1) (.string c.pre) HZ6.out
  have kb:=m8_by w6 (X+1+1) (.slice p0 c.p.length p1) (.int .i64 (m.at_:Int)) (.int .i64 (m.n:Int)) (.slice a0 c.parts.length a1) (.slice f0 m.flows.length f1) (.slice (some ⟨gb,0,none⟩) (m.items.length+1) gc) (.slice s0 m.seqs.length s1) (.string c.pre)
  have kg:=m8_grow (w:=w6) (X:=X+1+1) HG6.out (by omega) (.slice p0 c.p.length p1) (.int .i64 (m.at_:Int)) (.int .i64 (m.n:Int)) (.slice a0 c.parts.length a1) (.slice f0 m.flows.length f1) (.slice (some ⟨gb,0,none⟩) (m.items.length+1) gc) (.slice s0 m.seqs.length s1) (.string c.pre)
  have ko:=(TY.blk HZ6.out).keep_own kb HO6.out (by decide)
  refine bodyPost_ret (item_res _ _ (X+1+1) _ _ _ _ _ _ _ _ rfl k) rfl ⟨.slice (some ⟨gb,0,none⟩) (m.items.length+1) gc,rfl,?_,kg⟩
  have h0:=H.out.grow kg
  refine ⟨h0.p,h0.parts,h0.flows,⟨ys++[(it,.slice x0 it.parts.length x1,.slice y0 it.flows.length y1)],?_,?_,?_⟩,h0.seqs⟩
  ·simp only [List.map_append,List.map_cons,List.map_nil,HY.out.1]
   rfl
  ·simp only [Ch.Mk.item,List.length_append,List.length_singleton,List.flatMap_append,List.flatMap_cons,List.flatMap_nil,List.append_nil]
   exact Rs.own_mono ko (Nat.zero_le _)
  ·intro y hy
   rcases List.mem_append.1 hy with e | e
   ·exact ⟨(HY.out.2.2 y e).1.grow kg,(HY.out.2.2 y e).2.grow kg⟩
   ·simp at e
    rw [e]
    exact ⟨HXS.out.1.grow kg,HXS.out.2.grow kg⟩
end Go.Proofs.YtcnmaplopbbmaaaGreat
namespace Go.Proofs.YtcnmaplopbbmaaaGreat
open Go.RowKit
section
variable {w W:World} {X:Nat} {T:TypeId} {b0 b1 b2 b3 b4 b5 b6 b7 b8 b9:Value}
theorem m10_set (c0 c1 c2 c3 c4 c5 c6 c7 c8 c9:Value) (h:w.heap[X]? = some (.cells #[b0,b1,b2,b3,b4,b5,b6,b7,b8,b9] T (0,0))):((((((((((w.setCell ⟨X,0,none⟩ c0).setCell ⟨X,1,none⟩ c1).setCell ⟨X,2,none⟩ c2).setCell ⟨X,3,none⟩ c3).setCell ⟨X,4,none⟩ c4).setCell ⟨X,5,none⟩ c5).setCell ⟨X,6,none⟩ c6).setCell ⟨X,7,none⟩ c7).setCell ⟨X,8,none⟩ c8).setCell ⟨X,9,none⟩ c9).heap[X]? = some (.cells #[c0,c1,c2,c3,c4,c5,c6,c7,c8,c9] T (0,0)):=by
 have h0:=set_cells h 0 c0
 simp only [List.setIfInBounds_toArray,List.set_cons_zero] at h0
 have h1:=set_cells h0 1 c1
 simp only [List.setIfInBounds_toArray,List.set_cons_zero,List.set_cons_succ] at h1
 have h2:=set_cells h1 2 c2
 simp only [List.setIfInBounds_toArray,List.set_cons_zero,List.set_cons_succ] at h2
 have h3:=set_cells h2 3 c3
 simp only [List.setIfInBounds_toArray,List.set_cons_zero,List.set_cons_succ] at h3
 have h4:=set_cells h3 4 c4
 simp only [List.setIfInBounds_toArray,List.set_cons_zero,List.set_cons_succ] at h4
 have h5:=set_cells h4 5 c5
 simp only [List.setIfInBounds_toArray,List.set_cons_zero,List.set_cons_succ] at h5
 have h6:=set_cells h5 6 c6
 simp only [List.setIfInBounds_toArray,List.set_cons_zero,List.set_cons_succ] at h6
 have h7:=set_cells h6 7 c7
 simp only [List.setIfInBounds_toArray,List.set_cons_zero,List.set_cons_succ] at h7
 have h8:=set_cells h7 8 c8
 simp only [List.setIfInBounds_toArray,List.set_cons_zero,List.set_cons_succ] at h8
 have h9:=set_cells h8 9 c9
 simp only [List.setIfInBounds_toArray,List.set_cons_zero,List.set_cons_succ] at h9
 exact h9
theorem m10_by (w:World) (X:Nat) (c0 c1 c2 c3 c4 c5 c6 c7 c8 c9:Value):w.grownBy ((((((((((w.setCell ⟨X,0,none⟩ c0).setCell ⟨X,1,none⟩ c1).setCell ⟨X,2,none⟩ c2).setCell ⟨X,3,none⟩ c3).setCell ⟨X,4,none⟩ c4).setCell ⟨X,5,none⟩ c5).setCell ⟨X,6,none⟩ c6).setCell ⟨X,7,none⟩ c7).setCell ⟨X,8,none⟩ c8).setCell ⟨X,9,none⟩ c9) (some X) :=
 by_trans (by_trans (by_trans (by_trans (by_trans (by_trans (by_trans (by_trans (by_trans (by_set _ _ _ _) (by_set _ _ _ _)) (by_set _ _ _ _)) (by_set _ _ _ _)) (by_set _ _ _ _)) (by_set _ _ _ _)) (by_set _ _ _ _)) (by_set _ _ _ _)) (by_set _ _ _ _)) (by_set _ _ _ _)
theorem m10_cells (h:w.heap[X]? = some (.cells #[b0,b1,b2,b3,b4,b5,b6,b7,b8,b9] T (0,0))):w.cell? ⟨X,0,none⟩=some b0∧w.cell? ⟨X,1,none⟩=some b1∧w.cell? ⟨X,2,none⟩=some b2∧w.cell? ⟨X,3,none⟩=some b3∧w.cell? ⟨X,4,none⟩=some b4∧w.cell? ⟨X,5,none⟩=some b5∧w.cell? ⟨X,6,none⟩=some b6∧w.cell? ⟨X,7,none⟩=some b7∧w.cell? ⟨X,8,none⟩=some b8∧w.cell? ⟨X,9,none⟩=some b9∧∀ k,w.frozen? ⟨X,k,none⟩=false :=
 ⟨(cell_of_row w X 0 _ _ _ h).trans rfl,(cell_of_row w X 1 _ _ _ h).trans rfl,(cell_of_row w X 2 _ _ _ h).trans rfl,(cell_of_row w X 3 _ _ _ h).trans rfl,(cell_of_row w X 4 _ _ _ h).trans rfl,(cell_of_row w X 5 _ _ _ h).trans rfl,(cell_of_row w X 6 _ _ _ h).trans rfl,(cell_of_row w X 7 _ _ _ h).trans rfl,(cell_of_row w X 8 _ _ _ h).trans rfl,(cell_of_row w X 9 _ _ _ h).trans rfl,fun k=>frozen_of_row w X k _ _ h⟩
theorem m10_other {Y:Nat} {o:Obj} (c0 c1 c2 c3 c4 c5 c6 c7 c8 c9:Value) (h:w.heap[Y]? = some o) (hY:Y≠X):((((((((((w.setCell ⟨X,0,none⟩ c0).setCell ⟨X,1,none⟩ c1).setCell ⟨X,2,none⟩ c2).setCell ⟨X,3,none⟩ c3).setCell ⟨X,4,none⟩ c4).setCell ⟨X,5,none⟩ c5).setCell ⟨X,6,none⟩ c6).setCell ⟨X,7,none⟩ c7).setCell ⟨X,8,none⟩ c8).setCell ⟨X,9,none⟩ c9).heap[Y]? = some o :=
 set_other (set_other (set_other (set_other (set_other (set_other (set_other (set_other (set_other (set_other h hY) hY) hY) hY) hY) hY) hY) hY) hY) hY
theorem m10_grow (g:Flow.Grow W w) (hX:W.heap.size≤X) (c0 c1 c2 c3 c4 c5 c6 c7 c8 c9:Value):Flow.Grow W ((((((((((w.setCell ⟨X,0,none⟩ c0).setCell ⟨X,1,none⟩ c1).setCell ⟨X,2,none⟩ c2).setCell ⟨X,3,none⟩ c3).setCell ⟨X,4,none⟩ c4).setCell ⟨X,5,none⟩ c5).setCell ⟨X,6,none⟩ c6).setCell ⟨X,7,none⟩ c7).setCell ⟨X,8,none⟩ c8).setCell ⟨X,9,none⟩ c9) :=
 grow_row g (m10_by w X c0 c1 c2 c3 c4 c5 c6 c7 c8 c9) (fun b e=>by cases e;exact hX)
end
theorem Ch.MkAt.ty {w w':World} {c:Ch.Cx} {m:Ch.Mk} {vp va vf vi vs:Value} {T:TypeId} {r:Option Nat} (h:Ch.MkAt w c m vp va vf vi vs) (k:TY w (some T) r) (g:w.grownBy w' r) (hp:Ints w' vp c.p)
  (h1:T≠81) (h2:T≠163) (h3:T≠116) (h4:T≠119) (h5:T≠9):Ch.MkAt w' c m vp va vf vi vs:=by
 obtain ⟨ys,e1,e2,e3⟩:=h.items
 exact ⟨hp,k.keep_own g h.parts (by simpa using h1),k.keep_own g h.flows (by simpa using h2),⟨ys,e1,k.keep_own g e2 (by simpa using h3),fun y hy=>⟨k.keep_own g (e3 y hy).1 (by simpa using h5),k.keep_own g (e3 y hy).2 (by simpa using h5)⟩⟩,k.keep_own g h.seqs (by simpa using h4)⟩
theorem own_ne {w:World} {b b' e s g g' n n' c c':Nat} {xs ys:List Value} (h:w.ownsRow b e s (.slice (some ⟨g,0,none⟩) n c) n xs) (h':w.ownsRow b' e s (.slice (some ⟨g',0,none⟩) n' c') n' ys) (hs:0 < s) (hc:c≠c'):g≠g':=by
 rcases h.2 with ⟨e1,_⟩ | ⟨q,cap,cur,e1,_,hq,_,_,hz,_⟩
 ·cases e1
 ·rcases h'.2 with ⟨e2,_⟩ | ⟨q',cap',cur',e2,_,hq',_,_,hz',_⟩
  ·cases e2
  ·cases e1
   cases e2
   intro e3
   subst e3
   rw [hq] at hq'
   cases hq'
   rw [hz] at hz'
   exact hc (Nat.eq_of_mul_eq_mul_right hs hz')
theorem Ch.MkAt.forms3 {w:World} {c:Ch.Cx} {m:Ch.Mk} {vp va vf vi vs:Value} (h:Ch.MkAt w c m vp va vf vi vs):∃ f0 f1 i0 i1 s0 s1,vf=.slice f0 m.flows.length f1∧vi=.slice i0 m.items.length i1∧vs=.slice s0 m.seqs.length s1:=by
 obtain ⟨f0,f1,e3⟩:=own_form h.flows
 obtain ⟨_,_,hi,_⟩:=h.items
 obtain ⟨i0,i1,e4⟩:=own_form hi
 obtain ⟨s0,s1,e5⟩:=own_form h.seqs
 exact ⟨f0,f1,i0,i1,s0,s1,e3,e4,e5⟩
end Go.Proofs.YtcnmaplopbbmaaaGreat
