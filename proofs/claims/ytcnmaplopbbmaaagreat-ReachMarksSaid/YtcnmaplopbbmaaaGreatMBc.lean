/- A region that draws its order, lays objects and stores a struct into each, whatever order that is. No program. -/
import Derived.Test.YtcnmaplopbbmaaaGreatMBa
import Derived.Test.YtcnmaplopbbmaaaGreatRFin
import Derived.Test.YtcnmaplopbbmaaaGreatFlowG
import Derived.Test.YtcnmaplopbbmaaaGreatMAl
import Derived.Great.BuildSlice
namespace Go.Proofs.YtcnmaplopbbmaaaGreat
open Go.RowKit
namespace Flow
def pt (A:Nat):Value:=.pointer (some ⟨A,0,none⟩)
theorem pt_inj {A B:Nat} (h:pt A=pt B):A=B:=by
 simpa [pt] using h
structure Cn (wo:World) (ss:List Tmp) (a:Act) (w:World):Prop where
 grow:Grow wo w
 old:∀ s∈ss,∀ A,a.eval (.tmp s)=pt A→A < w.heap.size
 apart:∀ s∈ss,∀ t∈ss,s≠t→∀ A,wo.heap.size≤A→a.eval (.tmp s)=pt A→a.eval (.tmp t)≠pt A
theorem Cn.start {w:World} {ss:List Tmp} {a:Act} (h:∀ s∈ss,∀ A,a.eval (.tmp s)=pt A→A < w.heap.size):Cn w ss a w.drew :=
 ⟨grow_drew w,h,fun s hs _ _ _ A hA e=>absurd (h s hs A e) (by omega)⟩
theorem Cn.other {wo:World} {ss:List Tmp} {a:Act} {w:World} (h:Cn wo ss a w) {d:Tmp} {v:Value} {w':World} (hd:d∉ss) (g:Grow w w'):Cn wo ss (a.put (some d) v) w' where
 grow:=h.grow.trans g
 old:=fun s hs A e=>by
  rw [eval_put_ne (fun x=>hd (by rw [x];exact hs))] at e
  exact Nat.lt_of_lt_of_le (h.old s hs A e) g.size
 apart:=fun s hs t ht hne A hA e=>by
  rw [eval_put_ne (fun x=>hd (by rw [x];exact hs))] at e
  rw [eval_put_ne (fun x=>hd (by rw [x];exact ht))]
  exact h.apart s hs t ht hne A hA e
theorem Cn.lay {wo:World} {ss:List Tmp} {a:Act} {w:World} (h:Cn wo ss a w) {d:Tmp} (hn:d < a.tmps.size) (o:Obj):Cn wo ss (a.put (some d) (pt w.heap.size)) (w.alloc o) where
 grow:=h.grow.trans (grow_alloc w o)
 old:=fun s hs A e=>by
  have hsz:(w.alloc o).heap.size=w.heap.size+1:=by simp
  by_cases hd:d=s
  ·subst hd
   rw [eval_put_same hn] at e
   have:=pt_inj e
   omega
  ·rw [eval_put_ne hd] at e
   have:=h.old s hs A e
   omega
 apart:=fun s hs t ht hne A hA e=>by
  by_cases hd:d=s
  ·subst hd
   rw [eval_put_same hn] at e
   have:=pt_inj e
   rw [eval_put_ne hne]
   intro e2
   have:=h.old t ht A e2
   omega
  ·rw [eval_put_ne hd] at e
   have h1:=h.old s hs A e
   by_cases hd2:d=t
   ·subst hd2
    rw [eval_put_same hn]
    intro e2
    have:=pt_inj e2
    omega
   ·rw [eval_put_ne hd2]
    exact h.apart s hs t ht hne A hA e
inductive FK where
 | v (c:Value)
 | a (T:TypeId) (m:Nat)
 | s (T:TypeId) (cs:Array Value)
def FK.fact (n:Nat):FK→Fact
 | .v c=>.inl c
 | .a T m=>.inr fun v w=>∃ A cs,v=pt A∧n≤A∧w.heap[A]? = some (.cells cs T (0,0))∧cs.size=m
 | .s T cs=>.inr fun v w=>∃ A,v=pt A∧n≤A∧w.heap[A]? = some (.cells cs T (0,0))
theorem heap_grow {w w':World} (g:Grow w w') {A:Nat} {o:Obj} (h:w.heap[A]? = some o):w'.heap[A]? = some o:=by
 have hA:A < w.heap.size:=(Array.getElem?_eq_some_iff.1 h).1
 rw [g.block A hA (by simp)]
 exact h
theorem stable_fk (n:Nat):∀ l:List FK,Stable Grow (l.map (FK.fact n))
 | []=>trivial
 | .v _ :: l=>stable_fk n l
 | .a _ _ :: l=>⟨fun _ _ _ g ⟨A,cs,h1,h2,h3,h4⟩=>⟨A,cs,h1,h2,heap_grow g h3,h4⟩,stable_fk n l⟩
 | .s _ _ :: l=>⟨fun _ _ _ g ⟨A,h1,h2,h3⟩=>⟨A,h1,h2,heap_grow g h3⟩,stable_fk n l⟩
def letsBe (ss:List Tmp) (ops:Array Oper) (s:Tmp) (i:Nat) (l:List FK):Bool:=(List.range ops.size).all fun k=>k == i || match l[k]? with
 | some (.v _)=>true
 | some (.a _ _)=>(match seatOf ops k with | some t=>ss.contains t | none=>true)
 | some (.s _ _)=>(match seatOf ops k with | some t=>ss.contains t && t != s | none=>true)
 | none=>false
section
variable {P:Program} {ops:Array Oper} {Q:Exit→Act→World→Prop} {a0:Act} {wo:World} {ss:List Tmp} {l:List FK}
theorem OneS.alloc {i:Nat} {ks:List Nat} {o:Oper} {d:Tmp} {T:TypeId} {m:Nat} {cs:Array Value} (hd:o.dst=some d) (hn':decide (d < a0.tmps.size)=true) (hg:o.guard=none) (hm:cs.size=m)
  (hrun:∀ ρ w,(execOp ρ o).run P w=.ok (.value (pt w.heap.size)) (w.alloc (.cells cs T))):OneS P ops Q a0 (Cn wo ss) (l.map (FK.fact wo.heap.size)) i ks (FK.fact wo.heap.size (.a T m)) o:=by
 intro a w hC hoff _
 have hn:=of_decide_eq_true hn'
 refine .inl ⟨want_none hg,?_⟩
 unfold Oper.wp
 rw [hrun]
 have hna:d < a.tmps.size:=by rw [hoff.size];exact hn
 refine ⟨_,rfl,by rw [hd];exact hC.lay hna _,fun k hk hs hkn d' hd'=>?_,?_⟩
 ·rw [hd,eval_put_ne (fun e=>hs d hd (by rw [hd',e]))]
  exact holds_stable (stable_fk _ l) k _ _ _ (grow_alloc w _) (hkn d' hd')
 ·unfold told
  rw [hd]
  exact ⟨w.heap.size,cs,rfl,hC.grow.size,heap_alloc_new _ _,hm⟩
theorem getD_map (l:List FK) (n k:Nat):(l.map (FK.fact n)).getD k (.inr fun _ _=>True)=match l[k]? with | some f=>FK.fact n f | none=>.inr fun _ _=>True:=by
 rw [List.getD_eq_getElem?_getD,List.getElem?_map]
 cases l[k]? <;> rfl
theorem OneS.store {i:Nat} {ks:List Nat} {o:Oper} {s x:Tmp} {T:TypeId} {cs:Array Value} (hop:o.op=.store T (.tmp s) (.tmp x)) (hd:o.dst=none) (hg:o.guard=none) (hss:s∈ss)
  (hbe:letsBe ss ops s i l=true)
  (hrun:∀ (ρ:Operand→Value) w A old,Grow wo w→wo.heap.size≤A→ρ (.tmp s)=pt A→ρ (.tmp x)=.agg cs→w.heap[A]? = some (.cells old T (0,0))→old.size=cs.size→∃ w',(execOp ρ o).run P w=.ok .skip w'∧Grow wo w'∧w'.heap.size=w.heap.size∧w'.heap[A]? = some (.cells cs T (0,0))∧∀ B,B≠A→w'.heap[B]? = w.heap[B]?)
  (h:∀ a w,Cn wo ss a w→Off ops a0 a→factsS ops (l.map (FK.fact wo.heap.size)) a w ks→holds (FK.fact wo.heap.size (.a T cs.size)) (a.eval (.tmp s)) w∧a.eval (.tmp x)=.agg cs) :
  OneS P ops Q a0 (Cn wo ss) (l.map (FK.fact wo.heap.size)) i ks (FK.fact wo.heap.size (.s T cs)) o:=by
 intro a w hC hoff hf
 obtain ⟨⟨A,old,hs,hA,hAo,hsz⟩,hx⟩:=h a w hC hoff hf
 obtain ⟨w',hr,hgw,hws,hAn,hB⟩:=hrun a.eval w A old hC.grow hA hs hx hAo hsz
 refine .inl ⟨want_none hg,?_⟩
 unfold Oper.wp
 rw [hr,Oper.upon_skip]
 have hput:∀ v,a.put o.dst v=a:=fun v=>by rw [hd];rfl
 refine ⟨undef,rfl,?_,fun k hk _ hkn d' hd'=>?_,?_⟩
 ·rw [hput]
  exact ⟨hgw,fun t ht B e=>by rw [hws];exact hC.old t ht B e,hC.apart⟩
 ·rw [hput]
  have hkn:=hkn d' hd'
  rw [getD_map] at hkn ⊢
  have hks:k < ops.size:=by
   rcases Nat.lt_or_ge k ops.size with h | h
   ·exact h
   ·simp [seatOf,h] at hd'
  have hb:=(List.all_eq_true.1 hbe) k (by simpa using hks)
  cases hl:l[k]? with
  | none=>exact trivial
  | some f =>
   rw [hl] at hb hkn
   have hki:(k == i)=false:=by simpa using hk
   cases f with
   | v c=>exact hkn
   | a T' m =>
    obtain ⟨A',cs',h1,h2,h3,h4⟩:=hkn
    by_cases e:A'=A
    ·subst e
     rw [hAo] at h3
     cases h3
     exact ⟨A',cs,h1,h2,hAn,by omega⟩
    ·exact ⟨A',cs',h1,h2,by rw [hB A' e];exact h3,h4⟩
   | s T' cs' =>
    simp only [hki,Bool.false_or,hd',Bool.and_eq_true,bne_iff_ne,List.contains_iff_mem] at hb
    obtain ⟨A',h1,h2,h3⟩:=hkn
    have e:A'≠A:=by
     intro e
     subst e
     exact hC.apart d' hb.1 s hss hb.2 A' h2 h1 hs
    exact ⟨A',h1,h2,by rw [hB A' e];exact h3⟩
 ·unfold told
  rw [hd]
  intro s' hs'
  have:s'=s:=by
   simp only [seat,hd,hop] at hs'
   injection hs' with e
   exact e.symm
  subst this
  exact ⟨A,hs,hA,hAn⟩
theorem OneS.q {i:Nat} {ks:List Nat} {o:Oper} {d:Tmp} {f:Fact} (hd:o.dst=some d) (hds:d∉ss)
  (h:∀ a w,Grow wo w→Off ops a0 a→factsS ops (l.map (FK.fact wo.heap.size)) a w ks→Region.wanted o (yielded ops a.tmps)=true∧o.wp P a w (fun a' w'=>∃ v,a'=a.put o.dst v∧Grow w w'∧holds f v w') Q) :
  OneS P ops Q a0 (Cn wo ss) (l.map (FK.fact wo.heap.size)) i ks f o :=
 OneS.quiet hd (stable_fk _ l) (fun _ _ _ _ hC g=>hC.other hds g) (fun a w hC hoff hf=>h a w hC.grow hoff hf)
end
theorem alloc_run {P:Program} {o:Oper} {T:TypeId} {i:TypeInfo} {z:Value} (hop:o.op=.alloc T) (hi:P.info? T=some i) (hz:i.zero=some z) (ρ:Operand→Value) (w:World) :
  (execOp ρ o).run P w=.ok (.value (pt w.heap.size)) (w.alloc (.cells z.cells T)):=by
 simp [execOp,hop,Instr.alloc,zeroValue,typeInfo,hi,hz,newVar,newRow,pt]
theorem store_run {P:Program} {o:Oper} {T:TypeId} {i:TypeInfo} {s x:Tmp} {cs:Array Value} (hop:o.op=.store T (.tmp s) (.tmp x)) (hi:P.info? T=some i) {m:Nat} (hz0:i.size=m) (hz1:cs.size=m) (h1:∀ v∈cs.toList,v.oneCell'=true)
  {wo:World} (ρ:Operand→Value) (w:World) (A:Nat) (old:Array Value) (hg:Grow wo w) (hA:wo.heap.size≤A) (hs:ρ (.tmp s)=pt A) (hx:ρ (.tmp x)=.agg cs) (hb:w.heap[A]? = some (.cells old T (0,0))) (ho:old.size=cs.size) :
  ∃ w',(execOp ρ o).run P w=.ok .skip w'∧Grow wo w'∧w'.heap.size=w.heap.size∧w'.heap[A]? = some (.cells cs T (0,0))∧∀ B,B≠A→w'.heap[B]? = w.heap[B]? := by
 have hz:i.size=cs.size:=hz0.trans hz1.symm
 have hst:=run_storeCells_at (P:=P) A 0 T cs.toList 0 old w hb (by simp;omega) h1
 have e:(old.toList.take (0+0)++cs.toList++old.toList.drop (0+0+cs.toList.length)).toArray=cs:=by
  rw [List.take_zero,List.nil_append,List.drop_eq_nil_of_le (by simp;omega),List.append_nil]
 rw [e] at hst
 have hne:∀ B,B≠A→(w.setRow A cs).heap[B]? = w.heap[B]? := fun B hB=>by
  unfold World.setRow
  simp [Array.getElem?_modify,Ne.symm hB]
 have hsz:(w.setRow A cs).heap.size=w.heap.size:=by
  unfold World.setRow
  simp
 refine ⟨w.setRow A cs,?_,?_,hsz,setRow_heap w A _ _ _ _ hb,hne⟩
 ·simp [execOp,hop,hs,hx,pt,Instr.storeAt,Instr.sureAddr,storeVar,sizeOf,typeInfo,hi,hz,Value.cells,hst]
 ·refine ⟨?_,?_,?_,by rw [hsz];exact hg.size,fun k hk hn=>?_⟩
  ·rw [← hg.os];rfl
  ·rw [← hg.tape];rfl
  ·rw [← hg.output];rfl
  ·rw [hne k (by omega)]
   exact hg.block k hk hn
end Flow
end Go.Proofs.YtcnmaplopbbmaaaGreat
namespace Go.Proofs.YtcnmaplopbbmaaaGreat
open Go.RowKit
theorem wp_stoR {P:Program} {o:Oper} {a:Act} {w:World} {K:Act→World→Prop} {Q:Exit→Act→World→Prop} {T:TypeId} {i:TypeInfo} {s x:Tmp} {cs:Array Value} (hop:o.op=.store T (.tmp s) (.tmp x)) (hd:o.dst=none) (hi:P.info? T=some i) {m:Nat} (hz0:i.size=m) (hz1:cs.size=m) (h1:∀ v∈cs.toList,v.oneCell'=true)
  {W:World} (A:Nat) (hg:Flow.Grow W w) (hA:W.heap.size≤A) (hs:a.eval (.tmp s)=.pointer (some ⟨A,0,none⟩)) (hx:a.eval (.tmp x)=.agg cs) (hold:∃ old,w.heap[A]? = some (.cells old T (0,0))∧old.size=m)
  (h:∀ w',Flow.Grow W w'→w'.heap.size=w.heap.size→w'.heap[A]? = some (.cells cs T (0,0))→(∀ B,B≠A→w'.heap[B]? = w.heap[B]?)→K a w'):o.wp P a w K Q:=by
 obtain ⟨old,hb,ho⟩:=hold
 obtain ⟨w',hr,h2,h3,h4,h5⟩:=Flow.store_run (P:=P) (o:=o) (cs:=cs) hop hi hz0 hz1 h1 (wo:=W) a.eval w A old hg hA hs hx hb (by omega)
 unfold Oper.wp
 rw [hr,Oper.upon_skip]
 rw [show a.put o.dst undef=a by rw [hd];rfl]
 exact h w' h2 h3 h4 h5
theorem info_node:(Tryz.prog.info? 52).map (fun i=>(i.zero,i.size,i.bytes))=some (some (.agg #[.int .i64 0,.string ⟨#[]⟩,.int .i64 0,.int .i64 0,.int .i64 0,.int .i64 0,.bool false]),7,64):=by kernel_rfl
theorem put_cells (off:Nat):∀ (R:List Value) (k:Nat) (cells:Array Value),off+k+R.length≤cells.size →
  (R.zipIdx k).foldl (fun cs x=>cs.setIfInBounds (off+x.2) x.1) cells=(cells.toList.take (off+k)++R++cells.toList.drop (off+k+R.length)).toArray
 | [],k,cells,_=>by simp
 | v :: R,k,cells,h=>by
  rw [List.zipIdx_cons,List.foldl_cons,put_cells off R (k+1) _ (by simp at h ⊢;omega)]
  simp only [List.length_cons] at h ⊢
  congr 1
  apply List.ext_getElem?
  intro j
  simp only [Array.toList_setIfInBounds,List.getElem?_append,List.length_take,List.length_append,List.length_set,Array.length_toList,List.getElem?_drop,List.length_cons]
  rw [show min (off+(k+1)) cells.size=off+k+1 by omega,show min (off+k) cells.size=off+k by omega]
  by_cases h1:j < off+k
  ·rw [if_pos (by omega),if_pos (by omega),if_pos (by omega),if_pos h1,List.getElem?_take_of_lt (by omega),List.getElem?_take_of_lt h1,List.getElem?_set_ne (by omega)]
  ·by_cases h2:j=off+k
   ·subst h2
    rw [if_pos (by omega),if_pos (by omega),if_pos (by omega),if_neg h1,List.getElem?_take_of_lt (by omega),List.getElem?_set_self (by simp;omega)]
    simp
   ·by_cases h3:j < off+k+1+R.length
    ·rw [if_pos (by omega),if_neg (by omega),if_pos (by omega),if_neg h1]
     rw [show j - (off+k)=(j - (off+k+1))+1 by omega,List.getElem?_cons_succ]
    ·rw [if_neg (by omega),if_neg (by omega)]
     rw [List.getElem?_set_ne (by omega)]
     congr 1
     omega
theorem fill_step {place:Nat→Option (Nat × Nat)} {cells:Array Value} {i:Nat} {v:Value} {rest:List (Nat × Value)} {off size:Nat} (hp:place i=some (off,size)) (hs:v.cells.size=size) (hb:off+size≤cells.size) :
  Instr.fill place cells ((i,v) :: rest)=Instr.fill place (cells.toList.take off++v.cells.toList++cells.toList.drop (off+size)).toArray rest:=by
 rw [Instr.fill,hp]
 simp only
 rw [if_neg (by simp [hs];omega)]
 congr 1
 have:=put_cells off v.cells.toList 0 cells (by simp [hs];exact hb)
 rw [Nat.add_zero,Array.length_toList,hs] at this
 rw [← this,← Array.foldl_toList,Array.toList_zipIdx]
namespace Gr
def rc (t:Tn):List Value:=.int .i64 t.1 :: ((List.range 64).map (fun i=>Value.bool (t.2.1.getD i false))++[.bool t.2.2])
theorem rc_len (t:Tn):(rc t).length=66:=by simp [rc]
theorem rc_eq {t:Tn} (h:t.2.1.length=64):rc t=(#[Value.int .i64 t.1]++tcs t.2).toList:=by
 have:(List.range 64).map (fun i=>Value.bool (t.2.1.getD i false))=t.2.1.map Value.bool:=by
  refine List.ext_getElem (by simp [h]) fun i h1 h2=>?_
  simp at h1
  simp [show i < t.2.1.length by omega]
 rw [rc,this]
 simp [tcs]
theorem rc_of (l:Int) (F:Tk) (h:F.1.length=64):(#[Value.int .i64 l]++tcs F).toList=rc (l,F):=(rc_eq (t:=(l,F)) h).symm
theorem rc_one (t:Tn):∀ u∈rc t,u.oneCell'=true:=by
 intro u hu
 rw [rc,List.mem_cons,List.mem_append,List.mem_map] at hu
 rcases hu with rfl | ⟨i,_,rfl⟩ | hu
 ·rfl
 ·rfl
 ·rw [List.mem_singleton] at hu;subst hu;rfl
theorem rcs_one (ts:List Tn):∀ u∈ts.flatMap rc,u.oneCell'=true:=by
 intro u hu
 rw [List.mem_flatMap] at hu
 obtain ⟨t,_,h⟩:=hu
 exact rc_one t u h
end Gr
theorem info_rturn:(Tryz.prog.info? 112).map (fun i=>(i.zero.map (·.cells.size),i.size,i.bytes))=some (some 66,66,80):=by kernel_rfl
theorem info_rt:∃ i z,Tryz.prog.info? 112=some i∧i.zero=some z∧i.size=66∧i.bytes=80∧z.cells.size=66:=by
 have h:=info_rturn
 cases hi:Tryz.prog.info? 112 with
 | none=>rw [hi] at h;cases h
 | some i =>
  rw [hi] at h
  simp only [Option.map_some,Option.some.injEq,Prod.mk.injEq,Option.map_eq_some_iff] at h
  obtain ⟨⟨z,hz,hs⟩,h1,h2⟩:=h
  exact ⟨i,z,rfl,hz,h1,h2,hs⟩
theorem built_rt0 (parts:List (Nat × Value)):Tryz.prog.built 112 parts=Instr.fill (fun i=>(#[(0,1),(1,65)]:Array (Nat × Nat))[i]?) (#[Value.int .i64 0]++Gr.tcs Gr.tz) parts:=by kernel_rfl
set_option maxRecDepth 100000 in
theorem built_rt (l:Int) (R:Array Value) (hR:R.size=65):Tryz.prog.built 112 [(0,.int .i64 l),(1,.agg R)]=some (#[Value.int .i64 l]++R):=by
 rw [built_rt0,fill_step (off:=0) (size:=1) rfl rfl (by simp [Gr.tcs,Gr.tz]),fill_step (off:=1) (size:=65) rfl (by exact hR) (by simp [Gr.tcs,Gr.tz,Value.cells])]
 rw [Instr.fill]
 congr 1
 apply Array.ext'
 simp [Value.cells,Gr.tcs,Gr.tz]
set_option maxRecDepth 100000 in
theorem exec_turn {o:Oper} {ρ:Operand→Value} {w:World} {x y:Operand} {l:Int} {R:Array Value} (ho:o.op=.build 112 #[(0,x),(1,y)]) (hx:ρ x=.int .i64 l) (hy:ρ y=.agg R) (hR:R.size=65) :
  (execOp ρ o).run Tryz.prog w=.ok (.value (.agg (#[Value.int .i64 l]++R))) w:=by
 simp only [execOp,ho,Sem.run_bind]
 rw [run_build w _ _ (#[Value.int .i64 l]++R) (by simp only [List.map_toArray,List.map_cons,List.map_nil,hx,hy];exact built_rt l R hR)]
 rfl
set_option maxRecDepth 100000 in
theorem run_slice1 (w:World) (A:Array Value) (hA:A.size=66):(Instr.buildSlice 109 1 #[(0,.agg A)]).run Tryz.prog w=.ok (.slice (some ⟨w.heap.size,0,none⟩) 1 1) (w.alloc (.cells A 112)):=by
 obtain ⟨i,z,hi,hz,h1,h2,h3⟩:=info_rt
 refine run_buildSlice w _ 112 1 _ A i z Tryz.underlying109 hi hz (by rw [h1];decide) (by rw [h1];decide) ?_
 rw [h1,fill_step (off:=0) (size:=66) rfl (by exact hA) (by simp),Instr.fill]
 congr 1
 apply Array.ext'
 simp [Value.cells]
set_option maxRecDepth 100000 in
theorem run_slice2 (w:World) (A B:Array Value) (hA:A.size=66) (hB:B.size=66):(Instr.buildSlice 109 2 #[(0,.agg A),(1,.agg B)]).run Tryz.prog w=.ok (.slice (some ⟨w.heap.size,0,none⟩) 2 2) (w.alloc (.cells (A++B) 112)):=by
 obtain ⟨i,z,hi,hz,h1,h2,h3⟩:=info_rt
 refine run_buildSlice w _ 112 2 _ (A++B) i z Tryz.underlying109 hi hz (by rw [h1];decide) (by rw [h1];decide) ?_
 rw [h1,fill_step (off:=0) (size:=66) rfl (by exact hA) (by simp),fill_step (off:=66) (size:=66) rfl (by exact hB) (by simp [Value.cells,hA]),Instr.fill]
 congr 1
 apply Array.ext'
 have:A.toList.length=66:=by simp [hA]
 simp only [Value.cells,List.take_zero,List.nil_append,Array.toList_append]
 rw [List.take_append_of_le_length (by omega),List.take_of_length_le (by omega),List.append_assoc]
 congr 1
 rw [List.drop_eq_nil_of_le (by simp [hA]),List.append_nil]
set_option maxRecDepth 100000 in
theorem exec_slice1 {o:Oper} {ρ:Operand→Value} {w:World} {x:Operand} {A:Array Value} (ho:o.op=.buildSlice 109 1 #[(0,x)]) (hx:ρ x=.agg A) (hA:A.size=66) :
  (execOp ρ o).run Tryz.prog w=.ok (.value (.slice (some ⟨w.heap.size,0,none⟩) 1 1)) (w.alloc (.cells A 112)):=by
 simp only [execOp,ho,Sem.run_bind,List.map_toArray,List.map_cons,List.map_nil,hx]
 rw [run_slice1 w A hA]
 rfl
set_option maxRecDepth 100000 in
theorem exec_slice2 {o:Oper} {ρ:Operand→Value} {w:World} {x y:Operand} {A B:Array Value} (ho:o.op=.buildSlice 109 2 #[(0,x),(1,y)]) (hx:ρ x=.agg A) (hy:ρ y=.agg B) (hA:A.size=66) (hB:B.size=66) :
  (execOp ρ o).run Tryz.prog w=.ok (.value (.slice (some ⟨w.heap.size,0,none⟩) 2 2)) (w.alloc (.cells (A++B) 112)):=by
 simp only [execOp,ho,Sem.run_bind,List.map_toArray,List.map_cons,List.map_nil,hx,hy]
 rw [run_slice2 w A B hA hB]
 rfl
structure Gr.RO (W w:World) (v:Value) (ts:List Gr.Tn):Prop where
 own:w.ownsRow W.heap.size 112 66 v ts.length (ts.flatMap Gr.rc)
 grow:Flow.Grow W w
section
variable {W w w':World} {v:Value} {ts:List Gr.Tn}
theorem Gr.RO.keep (h:Gr.RO W w v ts) (g:Flow.Grow w w'):Gr.RO W w' v ts:=⟨own_keep h.own g,h.grow.trans g⟩
theorem Gr.RO.start (g:Flow.Grow W w):Gr.RO W (w.alloc (.cells #[] 112)) (.slice (some ⟨w.heap.size,0,none⟩) 0 0) [] :=
 ⟨World.ownsRow_lit w #[] 0 g.size (by decide) rfl,g.trans (Flow.grow_alloc _ _)⟩
theorem Gr.RO.empty {g:Nat} (hb:w.heap[g]? = some (.cells #[] 112 (0,0))) (hg:W.heap.size≤g) (k:Flow.Grow W w):Gr.RO W w (.slice (some ⟨g,0,none⟩) 0 0) [] :=
 ⟨⟨by simp,.inr ⟨g,0,#[],rfl,hg,hb,Nat.zero_le _,by decide,rfl,by simp⟩⟩,k⟩
theorem Gr.RO.app {v':Value} {new:List Gr.Tn} (h:Gr.RO W w v ts) (o:w'.ownsRow W.heap.size 112 66 v' (ts.length+new.length) (ts.flatMap Gr.rc++new.flatMap Gr.rc)) (k:w.grownBy w' v.ownBlock):Gr.RO W w' v' (ts++new) :=
 ⟨by rw [List.length_append,List.flatMap_append];exact o,grow_row h.grow k (own_lo h.own)⟩
end
theorem own_otherR {w w':World} {bs e sz n:Nat} {v:Value} {xs:List Value} (h:w.ownsRow bs e sz v n xs) {Y:Nat} {cs:Array Value} {T:TypeId} {fr:Nat × Nat} (hY:w.heap[Y]? = some (.cells cs T fr)) (hT:T≠e) (k:w.grownBy w' v.ownBlock):w'.heap[Y]? = some (.cells cs T fr):=by
 refine (k.block Y (Array.getElem?_eq_some_iff.1 hY).1 fun hv=>?_).trans hY
 rcases h.2 with ⟨e1,e2⟩ | ⟨g,cap,cur,e1,_,hg,_⟩
 ·rw [e1] at hv;simp [Value.ownBlock] at hv
 ·rw [e1] at hv
  simp [Value.ownBlock] at hv
  subst hv
  rw [hg] at hY
  cases hY
  exact hT rfl
theorem wp_appR {o:Oper} {a:Act} {w:World} {K:Act→World→Prop} {Q:Exit→Act→World→Prop} {W:World} (s x:Operand) (ho:o.op=.call { callee:=.builtin .append,args:=#[s,x],argTypes:=#[109,109] })
  (v:Value) (ts new:List Gr.Tn) (A:Array Value) (hs:a.eval s=v) (h:Gr.RO W w v ts) (q:Nat) (cp:Nat) (hx:a.eval x=.slice (some ⟨q,0,none⟩) new.length cp) (hA:A.toList=new.flatMap Gr.rc) (hq:w.heap[q]? = some (.cells A 112 (0,0)))
  (hn:ts.length≤10000000000) (hk:new.length≤10000000000) (hK:∀ v' w',Gr.RO W w' v' (ts++new)→(∀ (Y:Nat) (cs:Array Value) (T:TypeId) (fr:Nat × Nat),w.heap[Y]? = some (.cells cs T fr)→T≠112→w'.heap[Y]? = some (.cells cs T fr))→K (a.put o.dst v') w'):o.wp Tryz.prog a w K Q:=by
 obtain ⟨i,z,hi,hz,h1,h2,h3⟩:=info_rt
 exact wp_appB W.heap.size s x _ ho _ i z 66 80 Tryz.underlying109 hi hz h1 h2 h3 (by decide) v ts.length (ts.flatMap Gr.rc) hs h.own h.grow.size q (new.flatMap Gr.rc) new.length cp hx (Gr.flat_len Gr.rc_len new) (by rw [← hA];exact cells_of hq) (Gr.rcs_one new) (by omega) (by omega) (by decide) fun v' w' ho' hk'=>hK v' w' (h.app ho' hk') fun Y cs T fr hY hT=>own_otherR h.own hY hT hk'
end Go.Proofs.YtcnmaplopbbmaaaGreat
