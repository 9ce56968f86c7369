/- Tokens.Mark of any tokens; slices.Clone of interactions; game.Labels; a game that is not there: by their contracts. -/
import Derived.Test.YtcnmaplopbbmaaaMBa
import Derived.Test.YtcnmaplopbbmaaaRTurns
import Derived.Test.YtcnmaplopbbmaaaMAd
import Derived.Deep.MidRow
import Derived.Laws.StructEq
namespace Go.Proofs.Ytcnmaplopbbmaaa
open Go.RowKit
set_option maxRecDepth 100000 in
set_option maxHeartbeats 400000 in
theorem tkMark_any (t:Gr.Tk) (w:World) (hl:t.1.length=64) :
  Calls Try.prog 31 #[.agg (Gr.tcs t)] w fun e w'=>e=.returned (.int .u64 (Mark.ofBools t.1:Int))∧Flow.Grow w w':=by
 have Hcell:Hid (∀ k,k < 64→(w.alloc (.cells (Gr.tcs t) 80)).cell? ⟨w.heap.size,k,none⟩=some (.bool (t.1.getD k false))):=Lib.hid fun k hk=>by
  rw [World.cell?_alloc_new]
  exact Gr.tcs_get (by omega)
 obtain ⟨l,b⟩:=t
 simp only at hl Hcell ⊢
 have Hlt:Hid (∀ k,k≤64→Mark.ofBools (l.take k) < 2 ^ k):=Lib.hid fun k hk=>by
  have:=Mark.ofBools_lt (l.take k)
  rwa [List.length_take,Nat.min_eq_left (by omega)] at this
 have Hsn:Hid (∀ k,k < 64→Mark.ofBools (l.take (k+1))=Mark.ofBools (l.take k)+if l.getD k false then 2 ^ k else 0):=Lib.hid fun k hk=>by
  rw [List.take_succ_eq_append_getElem (by omega),Mark.ofBools_snoc,List.length_take,Nat.min_eq_left (by omega)]
  simp [show k < l.length by omega]
 have Hl:=Lib.hid hl
 generalize Gr.tcs (l,b)=c at *
 clear hl
 go_enter Try.func31,Try.ntmps31
 go_wp2_with fail
 go_loop [3,4,5] (fun m x i=>∃ k:Nat,k≤64∧i=.int .i64 k∧m=.int .u64 (Mark.ofBools (l.take k):Int)∧x=.int .u64 ((2 ^ k % 2 ^ 64:Nat):Int)) (fun _ _ i=>64 - (intOf i).toNat)
 case atStart=>exact ⟨0,by omega,rfl,rfl,rfl⟩
 case round =>
  obtain ⟨k,hk,rfl,rfl,rfl⟩:=hrel
  by_cases hk64:k < 64
  ·have hcell:=Hcell.out k hk64
   have hp:(2:Nat) ^ k≤2 ^ 63:=Nat.pow_le_pow_right (by omega) (by omega)
   have hlt:=Hlt.out k hk
   have hmod:Hid (2 ^ k % 2 ^ 64=2 ^ k):=Lib.hid (Nat.mod_eq_of_lt (by omega))
   have hx:Hid (2 ^ (k+1) % 2 ^ 64=2 * 2 ^ k % 2 ^ 64):=Lib.hid (by rw [Nat.pow_succ,Nat.mul_comm])
   have hs:=Hsn.out k hk64
   have Hs:=Lib.hid hs
   rw [hmod.out]
   clear hs hmod
   have hlt':Mark.ofBools (l.take k) < 2 ^ 63:=by
    rcases Nat.lt_or_ge k 63 with h | h
    ·have:(2:Nat) ^ k≤2 ^ 63:=Nat.pow_le_pow_right (by omega) (by omega)
     omega
    ·have:k=63:=by omega
     subst this
     exact hlt
   generalize Mark.ofBools (l.take k)=M at *
   generalize hX:2 ^ k=X at *
   clear hX
   cases hb:l.getD k false with
   | true =>
    rw [hb] at hcell Hs
    go_wp2
    go_round
    case rel =>
     refine ⟨k+1,by omega,by go_num,?_,?_⟩
     ·rw [Hs.out];go_num
     ·rw [hx.out];exact congrArg (Value.int .u64) (wrap_u64_nat X)
    case measure=>simp [intOf];omega
   | false =>
    rw [hb] at hcell Hs
    go_wp2
    go_round
    case rel =>
     refine ⟨k+1,by omega,by go_num,?_,?_⟩
     ·rw [Hs.out];go_num
     ·rw [hx.out];exact congrArg (Value.int .u64) (wrap_u64_nat X)
    case measure=>simp [intOf];omega
  ·have:k=64:=by omega
   subst this
   have HE:Hid (l.take 64=l):=Lib.hid (List.take_of_length_le (by rw [Hl.out];exact Nat.le_refl _))
   rw [HE.out]
   go_wp2_with fail
   go_ret
   exact ⟨rfl,Flow.grow_alloc _ _⟩
end Go.Proofs.Ytcnmaplopbbmaaa
namespace Go.Proofs.Ytcnmaplopbbmaaa
open Go.RowKit
theorem Seg.two {w:World} {a:Option Addr} {n c:Nat} {zs:List Int} (h:Seg 2 w (.slice a n c) n (zs.map (Value.int .i64))) {j:Nat} (hj:j < n):∃ b off,a=some ⟨b,off,none⟩∧w.cell? ⟨b,off+j * 2,none⟩=some (.int .i64 (zs.getD (j * 2) 0))∧w.cell? ⟨b,off+j * 2+1,none⟩=some (.int .i64 (zs.getD (j * 2+1) 0)):=by
 obtain ⟨a',cap',e,hl,_,hc⟩:=h
 cases e
 rw [List.length_map] at hl
 obtain ⟨b,off,rfl,_,c0⟩:=hc (j * 2) (by simp;omega)
 obtain ⟨b',off',e',_,c1⟩:=hc (j * 2+1) (by simp;omega)
 cases e'
 refine ⟨b,off,rfl,?_,?_⟩
 ·rw [c0];simp [show j * 2 < zs.length by omega]
 ·rw [Nat.add_assoc,c1];simp [show j * 2+1 < zs.length by omega]
structure RA (W w:World) (B:Nat) (vp vm vn ve:Value) (ns:List Gr.Nd) (es:List Gr.Ed):Prop where
 row:w.heap[B]? = some (.cells #[vp,vm,vn,ve] 28 (0,0))
 no:w.ownsRow W.heap.size 62 7 vn ns.length (ns.flatMap Gr.Nd.cells)
 eo:w.ownsRow W.heap.size 66 2 ve es.length (es.flatMap Gr.ecells)
 grow:Flow.Grow W w
theorem RA.keep {W w w':World} {B:Nat} {vp vm vn ve:Value} {ns:List Gr.Nd} {es:List Gr.Ed} (h:RA W w B vp vm vn ve ns es) (k:Flow.Grow w w'):RA W w' B vp vm vn ve ns es:=⟨heap_keep k h.row,own_keep h.no k,own_keep h.eo k,h.grow.trans k⟩
theorem own_setO {w:World} {bs e sz n:Nat} {v:Value} {xs:List Value} (h:w.ownsRow bs e sz v n xs) {B:Nat} {cs:Array Value} {T:TypeId} {fr:Nat × Nat} (hB:w.heap[B]? = some (.cells cs T fr)) (hT:T≠e) (q:Nat) (u:Value):(w.setCell ⟨B,q,none⟩ u).ownsRow bs e sz v n xs :=
 h.kept (by_set w B q u) (by
  rcases h.2 with ⟨e1,e2⟩ | ⟨g,cap,cur,e1,_,hg,_⟩
  ·exact .inl (by rw [e1];rfl)
  ·refine .inr fun hv=>?_
   rw [e1] at hv
   simp [Value.ownBlock] at hv
   subst hv
   rw [hg] at hB
   cases hB
   exact hT rfl)
theorem own_liftBy {w w':World} {bs e sz n:Nat} {v:Value} {xs:List Value} {bs' e' sz' n':Nat} {v':Value} {xs':List Value} (h:w.ownsRow bs e sz v n xs) (o:w.ownsRow bs' e' sz' v' n' xs') (hT:e≠e') (k:w.grownBy w' v'.ownBlock):w'.ownsRow bs e sz v n xs:=by
 refine ⟨h.1,?_⟩
 rcases h.2 with h0 | ⟨g,cap,cur,h1,h2,h3,h4⟩
 ·exact .inl h0
 ·exact .inr ⟨g,cap,cur,h1,h2,own_otherR o h3 hT k,h4⟩
theorem RA.node {W w w':World} {B:Nat} {vp vm vn ve v':Value} {ns:List Gr.Nd} {es:List Gr.Ed} (h:RA W w B vp vm vn ve ns es) (nd:Gr.Nd) (o:w'.ownsRow W.heap.size 62 7 v' (ns.length+1) (ns.flatMap Gr.Nd.cells++nd.cells)) (hG:Flow.Grow W w') (hby:w.grownBy w' vn.ownBlock) (hB:W.heap.size≤B):RA W (w'.setCell ⟨B,2,none⟩ v') B vp vm v' ve (ns++[nd]) es:=by
 have hr:=own_otherR h.no h.row (by decide) hby
 refine ⟨(set_cells hr 2 v').trans rfl,?_,own_setO (own_liftBy h.eo h.no (by decide) hby) hr (by decide) _ _,set_grow hG hB _ _⟩
 rw [List.length_append,List.flatMap_append]
 exact own_setO (by simpa using o) hr (by decide) _ _
theorem RA.edge {W w w':World} {B:Nat} {vp vm vn ve v':Value} {ns:List Gr.Nd} {es:List Gr.Ed} (h:RA W w B vp vm vn ve ns es) (ed:Gr.Ed) (o:w'.ownsRow W.heap.size 66 2 v' (es.length+1) (es.flatMap Gr.ecells++Gr.ecells ed)) (hG:Flow.Grow W w') (hby:w.grownBy w' ve.ownBlock) (hB:W.heap.size≤B):RA W (w'.setCell ⟨B,3,none⟩ v') B vp vm vn v' ns (es++[ed]):=by
 have hr:=own_otherR h.eo h.row (by decide) hby
 refine ⟨(set_cells hr 3 v').trans rfl,own_setO (own_liftBy h.no h.eo (by decide) hby) hr (by decide) _ _,?_,set_grow hG hB _ _⟩
 rw [List.length_append,List.flatMap_append]
 exact own_setO (by simpa using o) hr (by decide) _ _
theorem RA.set {W w0 w:World} {B:Nat} {vp vm vn ve:Value} {ns:List Gr.Nd} {es:List Gr.Ed} (h0:RA W w0 B vp vm vn ve ns es) (h:RA W w B vp vm vn ve ns es) {Y:Nat} (hY:w0.heap.size≤Y) (q:Nat) (u:Value):RA W (w.setCell ⟨Y,q,none⟩ u) B vp vm vn ve ns es :=
 ⟨set_other h.row (by have:=(Array.getElem?_eq_some_iff.1 h0.row).1;omega),h.no.kept (by_set _ _ _ _) (.inr fun e=>by have:=(h0.no.lt _ e).2;omega),h.eo.kept (by_set _ _ _ _) (.inr fun e=>by have:=(h0.eo.lt _ e).2;omega),set_grow h.grow (Nat.le_trans h0.grow.size hY) _ _⟩
theorem RA.same {W w:World} {B:Nat} {vp vm vn ve:Value} {ns:List Gr.Nd} {es:List Gr.Ed} (h:RA W w B vp vm vn ve ns es) (hB:W.heap.size≤B):RA W ((((w.setCell ⟨B,0,none⟩ vp).setCell ⟨B,1,none⟩ vm).setCell ⟨B,2,none⟩ vn).setCell ⟨B,3,none⟩ ve) B vp vm vn ve ns es:=by
 have h1:(w.setCell ⟨B,0,none⟩ vp).heap[B]? = some (.cells #[vp,vm,vn,ve] 28 (0,0)):=(set_cells h.row 0 _).trans rfl
 have h2:((w.setCell ⟨B,0,none⟩ vp).setCell ⟨B,1,none⟩ vm).heap[B]? = some (.cells #[vp,vm,vn,ve] 28 (0,0)):=(set_cells h1 1 _).trans rfl
 have h3:(((w.setCell ⟨B,0,none⟩ vp).setCell ⟨B,1,none⟩ vm).setCell ⟨B,2,none⟩ vn).heap[B]? = some (.cells #[vp,vm,vn,ve] 28 (0,0)):=(set_cells h2 2 _).trans rfl
 exact ⟨(set_cells h3 3 _).trans rfl,own_setO (own_setO (own_setO (own_setO h.no h.row (by decide) _ _) h1 (by decide) _ _) h2 (by decide) _ _) h3 (by decide) _ _,own_setO (own_setO (own_setO (own_setO h.eo h.row (by decide) _ _) h1 (by decide) _ _) h2 (by decide) _ _) h3 (by decide) _ _,set_grow (set_grow (set_grow (set_grow h.grow hB _ _) hB _ _) hB _ _) hB _ _⟩
theorem RA.gat {W w:World} {B:Nat} {pa ma:Option Addr} {pc mc:Nat} {vn ve:Value} {ns:List Gr.Nd} {es:List Gr.Ed} (h:RA W w B (.slice pa 3 pc) (.slice ma 2 mc) vn ve ns es):Gr.GAt w (.slice pa 3 pc) (.slice ma 2 mc) vn ve ⟨ns,es,3,2⟩:=⟨⟨_,_,rfl⟩,⟨_,_,rfl⟩,Seg.of_own h.no,Seg.of_own h.eo⟩
end Go.Proofs.Ytcnmaplopbbmaaa
namespace Go.Proofs.Ytcnmaplopbbmaaa
open Go.RowKit
theorem run_part {P:Program} (w:World) (e:TypeId) (he:P.underlying e=some .bool) (_hi:(P.info? e).map (·.size)=some 1) (xs:Array Value) (i:Nat) (b:Bool) (hx:xs[i]? = some (.bool b)):(part e xs i).run P w=.ok (.bool b) w:=by
 have hz:xs[i]?.getD undef=.bool b:=by rw [hx];rfl
 have ha:(isAgg e).run P w=.ok false w:=by
  unfold isAgg
  rw [Sem.run_bind,run_underlying he w]
  rfl
 unfold part
 simp [Sem.run_bind,ha,hx]
theorem run_equal_bools {P:Program} (w:World) (d:Nat) (t e:TypeId) (n:Nat) (xs ys:Array Value) (ht:P.underlying t=some (.array n e)) (he:P.underlying e=some .bool) (hi:(P.info? e).map (·.size)=some 1)
  (hx:∀ i,i < n→∃ b,xs[i]? = some (.bool b)) (hy:∀ i,i < n→∃ b,ys[i]? = some (.bool b)) :
  ∃ b,(Op.equalIn (d+2) t (.agg xs) (.agg ys)).run P w=.ok b w:=by
 have hsz:(sizeOf e).run P w=.ok 1 w:=by
  cases hq:P.info? e with
  | none=>rw [hq] at hi;cases hi
  | some q =>
   rw [hq] at hi
   have:q.size=1:=by simpa using hi
   simp [sizeOf,typeInfo,hq,this]
 rw [Op.equalIn]
 simp only [Sem.run_bind,run_underlying ht,Result.andThen_ok,hsz,Nat.mul_one]
 rw [Std.Legacy.Range.forIn_eq_forIn_range']
 have hl:∀ i∈List.range' 0 n 1,i < n:=by simp
 have hr:({ stop:=n,step_pos:=Nat.zero_lt_one }:Std.Legacy.Range).size=n:=by simp [Std.Legacy.Range.size]
 simp only [hr]
 generalize List.range' 0 n 1=l at hl ⊢
 induction l with
 | nil=>exact ⟨true,by simp⟩
 | cons i l ih =>
  obtain ⟨a,ha⟩:=hx i (hl i (by simp))
  obtain ⟨b,hb⟩:=hy i (hl i (by simp))
  simp only [List.forIn_cons,Sem.run_bind,run_part w e he hi xs i a ha,run_part w e he hi ys i b hb,Result.andThen_ok,run_equalIn_bool w d e a b he]
  cases hab:(a == b) with
  | false=>exact ⟨false,by simp⟩
  | true =>
   obtain ⟨c,hc⟩:=ih (fun j hj=>hl j (by simp [hj]))
   exact ⟨c,by simpa using hc⟩
theorem exec_load_mid {P:Program} {o:Oper} {ρ:Operand→Value} {w:World} (ty:TypeId) (x:Operand) (ho:o.op=.load ty x)
  (b of:Nat) (hx:ρ x=.pointer (some ⟨b,of,none⟩)) (cs:List Value) (d:TypeDesc) (hc:w.rangeAt b of cs)
  (hu:P.underlying ty=some d) (hd:d.isRow=true) (hi:(P.info? ty).map (·.size)=some cs.length) :
  (execOp ρ o).run P w=.ok (.value (.agg cs.toArray)) w:=by
 unfold execOp
 simp only [ho,hx,Sem.run_bind,run_loadAt_mid w b of ty cs d hc hu hd hi,Result.andThen_ok,Sem.run_pure]
namespace Gr
def kc (t:Tk):List Value:=(List.range 64).map (fun i=>Value.bool (t.1.getD i false))++[.bool t.2]
theorem kc_len (t:Tk):(kc t).length=65:=by simp [kc]
theorem kc_eq {t:Tk} (h:t.1.length=64):kc t=(tcs t).toList:=by
 have:=rc_eq (t:=((0:Int),t)) h
 simp only [rc,Array.toList_append] at this
 injection this
def bc (l:List Bool):Array Value:=(l.map Value.bool).toArray
theorem bc_size (l:List Bool):(bc l).size=l.length:=by simp [bc]
theorem bc_bool {l:List Bool} (h:l.length=64):∀ i,i < 64→∃ b,(bc l)[i]? = some (.bool b):=fun i hi=>⟨l[i],by simp [bc,show i < l.length by omega]⟩
end Gr
theorem exec_eql_arr {ρ:Operand→Value} {w:World} (x y:Operand) {l m:List Bool} (hl:l.length=64) (hm:m.length=64) (hx:ρ x=.agg (Gr.bc l)) (hy:ρ y=.agg (Gr.bc m)) :
  ∃ b,∀ o:Oper,o.op=.binOp .eql 78 x y 78→(execOp ρ o).run Try.prog w=.ok (.value (.bool b)) w:=by
 obtain ⟨b,hb⟩:=run_equal_bools (P:=Try.prog) w 9998 78 4 64 (Gr.bc l) (Gr.bc m) Try.underlying78 Try.underlying4 (by kernel_rfl) (Gr.bc_bool hl) (Gr.bc_bool hm)
 have hg:=run_eqGuard_agg (P:=Try.prog) w .eql 78 x y (Gr.bc l) (Gr.bc m) (by kernel_rfl)
 refine ⟨b,fun o ho=>?_⟩
 unfold execOp
 simp only [ho,hx,hy,Sem.run_bind,hg,Result.andThen_ok,run_eql_struct,hb,Sem.run_pure]
theorem info_tok:∃ i z,Try.prog.info? 80=some i∧i.zero=some z∧i.size=65∧i.bytes=65∧z.cells.size=65:=by
 have h:(Try.prog.info? 80).map (fun i=>(i.zero.map (·.cells.size),i.size,i.bytes))=some (some 65,65,65):=by kernel_rfl
 cases hi:Try.prog.info? 80 with
 | none=>rw [hi] at h;cases h
 | some i =>
  rw [hi] at h
  simp only [Option.map_some,Option.some.injEq,Prod.mk.injEq,Option.map_eq_some_iff] at h
  obtain ⟨⟨z,hz,hs⟩,h1,h2⟩:=h
  exact ⟨i,z,rfl,hz,h1,h2,hs⟩
theorem built_tok0 (parts:List (Nat × Value)):Try.prog.built 80 parts=Instr.fill (fun i=>(#[(0,64),(64,1)]:Array (Nat × Nat))[i]?) (Gr.tcs Gr.tz) parts:=by kernel_rfl
set_option maxRecDepth 100000 in
theorem built_tok (l:List Bool) (hl:l.length=64):Try.prog.built 80 [(0,.agg (Gr.bc l))]=some (Gr.tcs (l,false)):=by
 rw [built_tok0,fill_step (off:=0) (size:=64) rfl (by exact (Gr.bc_size l).trans hl) (by simp [Gr.tcs,Gr.tz]),Instr.fill]
 congr 1
theorem built_tok_nil:Try.prog.built 80 []=some (Gr.tcs Gr.tz):=by rw [built_tok0,Instr.fill]
set_option maxRecDepth 100000 in
theorem run_slice_tok (w:World) (A:Array Value) (hA:A.size=65):(Instr.buildSlice 81 1 #[(0,.agg A)]).run Try.prog w=.ok (.slice (some ⟨w.heap.size,0,none⟩) 1 1) (w.alloc (.cells A 80)):=by
 obtain ⟨i,z,hi,hz,h1,h2,h3⟩:=info_tok
 refine run_buildSlice w _ 80 1 _ A i z Try.underlying81 hi hz (by rw [h1];decide) (by rw [h1];decide) ?_
 rw [h1,fill_step (off:=0) (size:=65) rfl (by exact hA) (by simp),Instr.fill]
 congr 1
 apply Array.ext'
 simp [Value.cells]
theorem exec_slice_tok {o:Oper} {ρ:Operand→Value} {w:World} {x:Operand} {A:Array Value} (ho:o.op=.buildSlice 81 1 #[(0,x)]) (hx:ρ x=.agg A) (hA:A.size=65) :
  (execOp ρ o).run Try.prog w=.ok (.value (.slice (some ⟨w.heap.size,0,none⟩) 1 1)) (w.alloc (.cells A 80)):=by
 simp only [execOp,ho,Sem.run_bind,List.map_toArray,List.map_cons,List.map_nil,hx]
 rw [run_slice_tok w A hA]
 rfl
theorem own_range {w:World} {bs e sz n g c:Nat} {α:Type} {f:α→List Value} {xs:List α} (hk:∀ x,(f x).length=sz) (h:w.ownsRow bs e sz (.slice (some ⟨g,0,none⟩) n c) n (xs.flatMap f)) {j:Nat} {x:α} (hx:xs[j]? = some x):w.rangeAt g (j * sz) (f x):=fun q v hq=>by
 have hl:=(List.getElem?_eq_some_iff.1 hq).1
 rw [hk] at hl
 have:=h.cells (g:=g) rfl (j * sz+q) v (by rw [Gr.flat_get hk xs j x hx q hl];exact hq)
 rwa [Addr.add_lit,Nat.zero_add] at this
theorem range_grow {w w':World} {b o:Nat} {cs:List Value} (h:w.rangeAt b o cs) (k:Flow.Grow w w'):w'.rangeAt b o cs:=fun j v hj=>Xm2.cell_grow k (h j v hj)
end Go.Proofs.Ytcnmaplopbbmaaa
