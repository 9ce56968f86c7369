/- Tokens.Mark of any tokens; slices.Clone of interactions; game.Labels; a game that is not there: by their contracts. -/
import Derived.Test.YtcnmaplopbbmaaaGreatMBa
import Derived.Test.YtcnmaplopbbmaaaGreatRTurns
import Derived.Test.YtcnmaplopbbmaaaGreatMAd
import Derived.Test.YtcnmaplopbbmaaaGreatMAe
import Derived.Deep.MidRow
import Derived.Laws.StructEq
import Derived.Maps.OwnSet
import Derived.Maps.Views
namespace Go.Proofs.YtcnmaplopbbmaaaGreat
open Go.RowKit
set_option maxRecDepth 100000 in
set_option maxHeartbeats 400000 in
theorem tkMark_any (t:Gr.Tk) (w:World) (hl:t.1.length=64) :
  Calls Tryz.prog 20 #[.agg (Gr.tcs t)] w fun e w'=>e=.returned (.int .u64 (Mark.ofBools t.1:Int))∧Flow.Grow w w':=by
 have Hcell:Hid (∀ k,k < 64→(w.alloc (.cells (Gr.tcs t) 72)).cell? ⟨w.heap.size,k,none⟩=some (.bool (t.1.getD k false))):=Lib.hid fun k hk=>by
  rw [World.cell?_alloc_new]
  exact Gr.tcs_get (by omega)
 obtain ⟨l,b⟩:=t
 simp only at hl Hcell ⊢
 have Hlt:Hid (∀ k,k≤64→Mark.ofBools (l.take k) < 2 ^ k):=Lib.hid fun k hk=>by
  have:=Mark.ofBools_lt (l.take k)
  rwa [List.length_take,Nat.min_eq_left (by omega)] at this
 have Hsn:Hid (∀ k,k < 64→Mark.ofBools (l.take (k+1))=Mark.ofBools (l.take k)+if l.getD k false then 2 ^ k else 0):=Lib.hid fun k hk=>by
  rw [List.take_succ_eq_append_getElem (by omega),Mark.ofBools_snoc,List.length_take,Nat.min_eq_left (by omega)]
  simp [show k < l.length by omega]
 have Hl:=Lib.hid hl
 generalize Gr.tcs (l,b)=c at *
 clear hl
 go_enter Tryz.func20,Tryz.ntmps20
 go_wp2_with fail
 go_loop [3,4,5] (fun m x i=>∃ k:Nat,k≤64∧i=.int .i64 k∧m=.int .u64 (Mark.ofBools (l.take k):Int)∧x=.int .u64 ((2 ^ k % 2 ^ 64:Nat):Int)) (fun _ _ i=>64 - (intOf i).toNat)
 case atStart=>exact ⟨0,by omega,rfl,rfl,rfl⟩
 case round =>
  obtain ⟨k,hk,rfl,rfl,rfl⟩:=hrel
  by_cases hk64:k < 64
  ·have hcell:=Hcell.out k hk64
   have hp:(2:Nat) ^ k≤2 ^ 63:=Nat.pow_le_pow_right (by omega) (by omega)
   have hlt:=Hlt.out k hk
   have hmod:Hid (2 ^ k % 2 ^ 64=2 ^ k):=Lib.hid (Nat.mod_eq_of_lt (by omega))
   have hx:Hid (2 ^ (k+1) % 2 ^ 64=2 * 2 ^ k % 2 ^ 64):=Lib.hid (by rw [Nat.pow_succ,Nat.mul_comm])
   have hs:=Hsn.out k hk64
   have Hs:=Lib.hid hs
   rw [hmod.out]
   clear hs hmod
   have hlt':Mark.ofBools (l.take k) < 2 ^ 63:=by
    rcases Nat.lt_or_ge k 63 with h | h
    ·have:(2:Nat) ^ k≤2 ^ 63:=Nat.pow_le_pow_right (by omega) (by omega)
     omega
    ·have:k=63:=by omega
     subst this
     exact hlt
   generalize Mark.ofBools (l.take k)=M at *
   generalize hX:2 ^ k=X at *
   clear hX
   cases hb:l.getD k false with
   | true =>
    rw [hb] at hcell Hs
    go_wp2
    go_round
    case rel =>
     refine ⟨k+1,by omega,by go_num,?_,?_⟩
     ·rw [Hs.out];go_num
     ·rw [hx.out];exact congrArg (Value.int .u64) (wrap_u64_nat X)
    case measure=>simp [intOf];omega
   | false =>
    rw [hb] at hcell Hs
    go_wp2
    go_round
    case rel =>
     refine ⟨k+1,by omega,by go_num,?_,?_⟩
     ·rw [Hs.out];go_num
     ·rw [hx.out];exact congrArg (Value.int .u64) (wrap_u64_nat X)
    case measure=>simp [intOf];omega
  ·have:k=64:=by omega
   subst this
   have HE:Hid (l.take 64=l):=Lib.hid (List.take_of_length_le (by rw [Hl.out];exact Nat.le_refl _))
   rw [HE.out]
   go_wp2_with fail
   go_ret
   exact ⟨rfl,Flow.grow_alloc _ _⟩
set_option maxRecDepth 100000 in
set_option maxHeartbeats 1000000 in
theorem clone_lab (v:Value) (L:List Gr.Lb) (W:World) (hL:L.length≤1000000) (h:Gr.LbsAt W v L) :
  Calls Tryz.prog 32 #[v] W fun e w'=>(∃ v',e=.returned v'∧w'.ownsRow W.heap.size 104 3 v' L.length (L.flatMap Gr.lcells))∧Flow.Grow W w':=by
 obtain ⟨i0,hi0,hz0,hz1,hz2⟩:=info_parts info_lab
 have HI:=Lib.hid (And.intro hi0 (And.intro hz0 (And.intro hz1 hz2)))
 clear hi0 hz0 hz1 hz2
 have qn:∀ (w:World) (a:Option Addr) (n c n' c':Nat),(binOp .eql 35 (.slice a n c) (.slice none n' c')).run Tryz.prog w=.ok (.bool a.isNone) w:=fun w a n c n' c'=>Lib.run_eql_slice_nil w _ _ a n c n' c' Tryz.underlying35
 have H:=Lib.hid h
 obtain ⟨a,c,rfl⟩:=h.form
 obtain ⟨n,hn⟩:∃ n,n=L.length:=⟨_,rfl⟩
 have Hn:=Lib.hid hn
 rw [← hn] at H hL ⊢
 cases a with
 | none =>
  have HE:Hid (L=[]):=Lib.hid (by
   cases L with
   | nil=>rfl
   | cons x L =>
    obtain ⟨b,off,e,_⟩:=Gr.LbsAt.at h (j:=0) (by simp)
    cases e)
  have hn0:n=0:=by rw [hn,HE.out];rfl
  subst hn0
  clear h hn
  go_enter Tryz.func32,Tryz.ntmps32
  go_wp2_with fail
  go_ret
  exact ⟨⟨_,rfl,by rw [HE.out];exact World.ownsRow_nil _ _ _ _⟩,Flow.grow_refl _⟩
 | some a =>
  clear h hn
  go_enter Tryz.func32,Tryz.ntmps32
  have HO:Hid ((W.alloc (.cells #[] 104)).ownsRow W.heap.size 104 3 (.slice (some ⟨W.heap.size,0,none⟩) 0 0) 0 []):=Lib.hid (World.ownsRow_lit W #[] 0 (Nat.le_refl _) (by decide) rfl)
  have HA:Hid (Seg 3 (W.alloc (.cells #[] 104)) (.slice (some a) n c) n (L.flatMap Gr.lcells)):=Lib.hid (by have:=Gr.Recs.grow H.out (Flow.grow_alloc W (.cells #[] 104));unfold Gr.Recs at this;rwa [← Hn.out] at this)
  go_wp2_with (at_builtin;refine wpList_appRow rfl _ _ 35 rfl W.heap.size 104 i0 (.agg #[.int .i64 0,.int .i64 0,.int .i64 0]) 3 24 Tryz.underlying35 HI.out.1 HI.out.2.1 HI.out.2.2.1 HI.out.2.2.2 rfl (by decide) (Tryz.sizeOf104 _) _ 0 [] rfl HO.out (by simp) _ n (L.flatMap Gr.lcells) rfl HA.out (lcells_one L) (by omega) (by omega) (by decide) ?_;intro v' w' ho hb;have HO2:=Lib.hid ho;have HG2:Hid (Flow.Grow W w'):=Lib.hid (grow_row (Flow.grow_alloc _ _) hb (own_lo HO.out));obtain ⟨a',c',rfl⟩:=own_form ho;clear ho hb)
  go_ret
  exact ⟨⟨_,rfl,by simpa using HO2.out⟩,HG2.out⟩
set_option maxRecDepth 100000 in
theorem glabels_any (B:Nat) (v0 v1 v2 v3 lv:Value) (g:Gr.G) (L:List Gr.Lb) (e:Int) (W:World) (hL:L.length≤1000000) (h:Gr.Gm W B v0 v1 v2 v3 lv g L e) :
  Calls Tryz.prog 17 #[.pointer (some ⟨B,0,none⟩)] W fun e w'=>(∃ v',e=.returned v'∧w'.ownsRow W.heap.size 104 3 v' L.length (L.flatMap Gr.lcells))∧Flow.Grow W w':=by
 have HC:=Lib.hid (clone_lab lv L W hL h.lbs)
 obtain ⟨d0,d1,d2,d3,d4⟩:=h.cells
 clear h
 go_enter Tryz.func17,Tryz.ntmps17
 go_wp2_with (go_at_call 32;refine HC.out.mono ?_;rintro e w' ⟨⟨v',rfl,ho⟩,hg⟩;have HO:=Lib.hid ho;have HG:=Lib.hid hg;obtain ⟨a,c,rfl⟩:=own_form ho;clear ho hg)
 go_ret
 exact ⟨⟨_,rfl,HO.out⟩,HG.out⟩
end Go.Proofs.YtcnmaplopbbmaaaGreat
namespace Go.Proofs.YtcnmaplopbbmaaaGreat
open Go.RowKit
structure RA (W w:World) (B:Nat) (vp vm vn ve:Value) (ns:List Gr.Nd) (es:List Gr.Ed):Prop where
 row:w.heap[B]? = some (.cells #[vp,vm,vn,ve] 27 (0,0))
 no:w.ownsRow W.heap.size 52 7 vn ns.length (ns.flatMap Gr.Nd.cells)
 eo:w.ownsRow W.heap.size 56 2 ve es.length (es.flatMap Gr.ecells)
 grow:Flow.Grow W w
theorem RA.keep {W w w':World} {B:Nat} {vp vm vn ve:Value} {ns:List Gr.Nd} {es:List Gr.Ed} (h:RA W w B vp vm vn ve ns es) (k:Flow.Grow w w'):RA W w' B vp vm vn ve ns es:=⟨heap_keep k h.row,own_keep h.no k,own_keep h.eo k,h.grow.trans k⟩
theorem own_setO {w:World} {bs e sz n:Nat} {v:Value} {xs:List Value} (h:w.ownsRow bs e sz v n xs) {B:Nat} {cs:Array Value} {T:TypeId} {fr:Nat × Nat} (hB:w.heap[B]? = some (.cells cs T fr)) (hT:T≠e) (q:Nat) (u:Value):(w.setCell ⟨B,q,none⟩ u).ownsRow bs e sz v n xs :=
 h.kept (by_set w B q u) (by
  rcases h.2 with ⟨e1,e2⟩ | ⟨g,cap,cur,e1,_,hg,_⟩
  ·exact .inl (by rw [e1];rfl)
  ·refine .inr fun hv=>?_
   rw [e1] at hv
   simp [Value.ownBlock] at hv
   subst hv
   rw [hg] at hB
   cases hB
   exact hT rfl)
theorem own_liftBy {w w':World} {bs e sz n:Nat} {v:Value} {xs:List Value} {bs' e' sz' n':Nat} {v':Value} {xs':List Value} (h:w.ownsRow bs e sz v n xs) (o:w.ownsRow bs' e' sz' v' n' xs') (hT:e≠e') (k:w.grownBy w' v'.ownBlock):w'.ownsRow bs e sz v n xs:=by
 refine ⟨h.1,?_⟩
 rcases h.2 with h0 | ⟨g,cap,cur,h1,h2,h3,h4⟩
 ·exact .inl h0
 ·exact .inr ⟨g,cap,cur,h1,h2,own_otherR o h3 hT k,h4⟩
theorem RA.edge {W w w':World} {B:Nat} {vp vm vn ve v':Value} {ns:List Gr.Nd} {es:List Gr.Ed} (h:RA W w B vp vm vn ve ns es) (ed:Gr.Ed) (o:w'.ownsRow W.heap.size 56 2 v' (es.length+1) (es.flatMap Gr.ecells++Gr.ecells ed)) (hG:Flow.Grow W w') (hby:w.grownBy w' ve.ownBlock) (hB:W.heap.size≤B):RA W (w'.setCell ⟨B,3,none⟩ v') B vp vm vn v' ns (es++[ed]):=by
 have hr:=own_otherR h.eo h.row (by decide) hby
 refine ⟨(set_cells hr 3 v').trans rfl,own_setO (own_liftBy h.no h.eo (by decide) hby) hr (by decide) _ _,?_,set_grow hG hB _ _⟩
 rw [List.length_append,List.flatMap_append]
 exact own_setO (by simpa using o) hr (by decide) _ _
theorem RA.set {W w0 w:World} {B:Nat} {vp vm vn ve:Value} {ns:List Gr.Nd} {es:List Gr.Ed} (h0:RA W w0 B vp vm vn ve ns es) (h:RA W w B vp vm vn ve ns es) {Y:Nat} (hY:w0.heap.size≤Y) (q:Nat) (u:Value):RA W (w.setCell ⟨Y,q,none⟩ u) B vp vm vn ve ns es :=
 ⟨set_other h.row (by have:=(Array.getElem?_eq_some_iff.1 h0.row).1;omega),h.no.kept (by_set _ _ _ _) (.inr fun e=>by have:=(h0.no.lt _ e).2;omega),h.eo.kept (by_set _ _ _ _) (.inr fun e=>by have:=(h0.eo.lt _ e).2;omega),set_grow h.grow (Nat.le_trans h0.grow.size hY) _ _⟩
end Go.Proofs.YtcnmaplopbbmaaaGreat
namespace Go.Proofs.YtcnmaplopbbmaaaGreat
open Go.RowKit
theorem run_part {P:Program} (w:World) (e:TypeId) (he:P.underlying e=some .bool) (_hi:(P.info? e).map (·.size)=some 1) (xs:Array Value) (i:Nat) (b:Bool) (hx:xs[i]? = some (.bool b)):(part e xs i).run P w=.ok (.bool b) w:=by
 have hz:xs[i]?.getD undef=.bool b:=by rw [hx];rfl
 have ha:(isAgg e).run P w=.ok false w:=by
  unfold isAgg
  rw [Sem.run_bind,run_underlying he w]
  rfl
 unfold part
 simp [Sem.run_bind,ha,hx]
theorem exec_load_mid {P:Program} {o:Oper} {ρ:Operand→Value} {w:World} (ty:TypeId) (x:Operand) (ho:o.op=.load ty x)
  (b of:Nat) (hx:ρ x=.pointer (some ⟨b,of,none⟩)) (cs:List Value) (d:TypeDesc) (hc:w.rangeAt b of cs)
  (hu:P.underlying ty=some d) (hd:d.isRow=true) (hi:(P.info? ty).map (·.size)=some cs.length) :
  (execOp ρ o).run P w=.ok (.value (.agg cs.toArray)) w:=by
 unfold execOp
 simp only [ho,hx,Sem.run_bind,run_loadAt_mid w b of ty cs d hc hu hd hi,Result.andThen_ok,Sem.run_pure]
namespace Gr
def kc (t:Tk):List Value:=(List.range 64).map (fun i=>Value.bool (t.1.getD i false))++[.bool t.2]
theorem kc_len (t:Tk):(kc t).length=65:=by simp [kc]
theorem kc_eq {t:Tk} (h:t.1.length=64):kc t=(tcs t).toList:=by
 have:=rc_eq (t:=((0:Int),t)) h
 simp only [rc,Array.toList_append] at this
 injection this
def bc (l:List Bool):Array Value:=(l.map Value.bool).toArray
end Gr
theorem info_tok:∃ i z,Tryz.prog.info? 72=some i∧i.zero=some z∧i.size=65∧i.bytes=65∧z.cells.size=65:=by
 have h:(Tryz.prog.info? 72).map (fun i=>(i.zero.map (·.cells.size),i.size,i.bytes))=some (some 65,65,65):=by kernel_rfl
 cases hi:Tryz.prog.info? 72 with
 | none=>rw [hi] at h;cases h
 | some i =>
  rw [hi] at h
  simp only [Option.map_some,Option.some.injEq,Prod.mk.injEq,Option.map_eq_some_iff] at h
  obtain ⟨⟨z,hz,hs⟩,h1,h2⟩:=h
  exact ⟨i,z,rfl,hz,h1,h2,hs⟩
theorem built_tok0 (parts:List (Nat × Value)):Tryz.prog.built 72 parts=Instr.fill (fun i=>(#[(0,64),(64,1)]:Array (Nat × Nat))[i]?) (Gr.tcs Gr.tz) parts:=by kernel_rfl
theorem built_tok_nil:Tryz.prog.built 72 []=some (Gr.tcs Gr.tz):=by rw [built_tok0,Instr.fill]
set_option maxRecDepth 100000 in
theorem run_slice_tok (w:World) (A:Array Value) (hA:A.size=65):(Instr.buildSlice 65 1 #[(0,.agg A)]).run Tryz.prog w=.ok (.slice (some ⟨w.heap.size,0,none⟩) 1 1) (w.alloc (.cells A 72)):=by
 obtain ⟨i,z,hi,hz,h1,h2,h3⟩:=info_tok
 refine run_buildSlice w _ 72 1 _ A i z Tryz.underlying65 hi hz (by rw [h1];decide) (by rw [h1];decide) ?_
 rw [h1,fill_step (off:=0) (size:=65) rfl (by exact hA) (by simp),Instr.fill]
 congr 1
 apply Array.ext'
 simp [Value.cells]
theorem exec_slice_tok {o:Oper} {ρ:Operand→Value} {w:World} {x:Operand} {A:Array Value} (ho:o.op=.buildSlice 65 1 #[(0,x)]) (hx:ρ x=.agg A) (hA:A.size=65) :
  (execOp ρ o).run Tryz.prog w=.ok (.value (.slice (some ⟨w.heap.size,0,none⟩) 1 1)) (w.alloc (.cells A 72)):=by
 simp only [execOp,ho,Sem.run_bind,List.map_toArray,List.map_cons,List.map_nil,hx]
 rw [run_slice_tok w A hA]
 rfl
theorem own_range {w:World} {bs e sz n g c:Nat} {α:Type} {f:α→List Value} {xs:List α} (hk:∀ x,(f x).length=sz) (h:w.ownsRow bs e sz (.slice (some ⟨g,0,none⟩) n c) n (xs.flatMap f)) {j:Nat} {x:α} (hx:xs[j]? = some x):w.rangeAt g (j * sz) (f x):=fun q v hq=>by
 have hl:=(List.getElem?_eq_some_iff.1 hq).1
 rw [hk] at hl
 have:=h.cells (g:=g) rfl (j * sz+q) v (by rw [Gr.flat_get hk xs j x hx q hl];exact hq)
 rwa [Addr.add_lit,Nat.zero_add] at this
theorem range_grow {w w':World} {b o:Nat} {cs:List Value} (h:w.rangeAt b o cs) (k:Flow.Grow w w'):w'.rangeAt b o cs:=fun j v hj=>Xm2.cell_grow k (h j v hj)
end Go.Proofs.YtcnmaplopbbmaaaGreat
namespace Go.Proofs.YtcnmaplopbbmaaaGreat
open Go.RowKit
theorem range_left {w:World} {b o:Nat} {xs ys:List Value} (h:w.rangeAt b o (xs++ys)):w.rangeAt b o xs:=fun j v hj=>h j v (by rw [List.getElem?_append_left (List.getElem?_eq_some_iff.1 hj).1];exact hj)
theorem range_right {w:World} {b o:Nat} {xs ys:List Value} (h:w.rangeAt b o (xs++ys)):w.rangeAt b (o+xs.length) ys:=fun j v hj=>by
 rw [Nat.add_assoc]
 exact h (xs.length+j) v (by rw [List.getElem?_append_right (by omega),Nat.add_sub_cancel_left];exact hj)
theorem own_at {w:World} {bs e sz n:Nat} {a:Option Addr} {c:Nat} {xs:List Value} (h:w.ownsRow bs e sz (.slice a n c) n xs) (hn:0 < n):∃ b,a=some ⟨b,0,none⟩:=by
 rcases h.2 with ⟨_,h0⟩ | ⟨g,cap,cur,e1,_⟩
 ·omega
 ·cases e1;exact ⟨g,rfl⟩
theorem kc_split {t:Gr.Tk} (h:t.1.length=64):Gr.kc t=t.1.map Value.bool++[.bool t.2]:=by
 rw [Gr.kc_eq h]
 rfl
namespace Gr
structure PS (w2 w:World) (B:Nat) (v0 v1 v2 v3 lv:Value) (u:Bool) (vo:Value) (ls:List (List Bool)):Prop where
 by_:w2.grownBy w (some B)
 row:w.heap[B]? = some (.cells (gcells v0 v1 v2 v3 lv (err u 0)) 94 (0,0))
 own:w.ownsRow w2.heap.size 72 65 vo ls.length (ls.flatMap fun l=>kc (l,false))
section
variable {w2 w w':World} {B:Nat} {v0 v1 v2 v3 lv vo:Value} {u:Bool} {ls:List (List Bool)}
theorem PS.gm {g:G} {L:List Lb} {e:Int} (h:PS w2 w B v0 v1 v2 v3 lv u vo ls) (old:Gm w2 B v0 v1 v2 v3 lv g L e):Gm w B v0 v1 v2 v3 lv g L (err u 0):=old.by h.by_ h.row
theorem PS.keep (h:PS w2 w B v0 v1 v2 v3 lv u vo ls) (k:Flow.Grow w w'):PS w2 w' B v0 v1 v2 v3 lv u vo ls:=⟨by_trans h.by_ (by_grow k),heap_keep k h.row,own_keep h.own k⟩
theorem PS.rb {g:G} {L:List Lb} {F:Bool} (h:PS w2 w B v0 v1 v2 v3 lv u vo ls) (hB:B < w2.heap.size) (k:RB B v0 v1 v2 v3 lv g L F w w') (r:Gm w' B v0 v1 v2 v3 lv g L (err (u || F) 0)):PS w2 w' B v0 v1 v2 v3 lv (u || F) vo ls:=⟨by_trans h.by_ k.by_,r.row,own_by h.own k.by_ hB⟩
end
theorem G.nodeT_tk (g:G) (L:List Lb) (i:Nat) (t:Tk):∀ x∈g.nodeT L i t,x.2.1.length=t.1.length:=by
 intro x hx
 unfold nodeT at hx
 split at hx
 ·unfold taskT at hx
  simp only [List.mem_append,List.mem_flatMap] at hx
  rcases hx with (⟨p,_,hx⟩ | hx) | hx
  ·split at hx <;> simp at hx
   rw [hx,G.begun_len,wo_len]
  ·split at hx <;> simp at hx
   rw [hx,G.fin_len,wo_len]
  ·split at hx <;> simp at hx
   rcases hx with hx | hx
   ·rw [hx,G.begun_len,wo_len]
   ·rw [hx,G.outT_len,wo_len]
 ·split at hx
  ·split at hx <;> simp at hx
   rw [hx,G.outT_len,wos_len]
  ·split at hx
   ·simp only [List.mem_flatMap] at hx
    obtain ⟨k,_,o,_,hx⟩:=hx
    split at hx <;> simp at hx
    rw [hx,put1_len,wo_len]
   ·split at hx
    ·simp only [List.mem_flatMap] at hx
     obtain ⟨k,_,hx⟩:=hx
     split at hx <;> simp at hx
     rw [hx,wo_len]
    ·simp at hx
theorem G.turns_tk (g:G) (L:List Lb) (t:Tk):∀ x∈g.turns L t,x.2.1.length=t.1.length:=by
 intro x hx
 unfold turns at hx
 rw [List.mem_flatMap] at hx
 obtain ⟨i,_,hx⟩:=hx
 exact g.nodeT_tk L i t x hx
theorem bad_take (ts:List Tn) (k:Nat) (x:Tn) (h:ts[k]? = some x):bad (ts.take (k+1))=(bad (ts.take k) || x.2.2):=by
 rw [List.take_succ_eq_append_getElem (List.getElem?_eq_some_iff.1 h).1,bad_append,(List.getElem?_eq_some_iff.1 h).2]
 simp [bad]
end Gr
end Go.Proofs.YtcnmaplopbbmaaaGreat
namespace Go.Proofs.YtcnmaplopbbmaaaGreat
open Go.RowKit
namespace Rs
abbrev M:=List Bool
def pos (ls:List M) (x:M):Nat:=ls.findIdx (· == x)
def add (ls:List M) (x:M):List M:=if pos ls x < ls.length then ls else ls++[x]
abbrev Row:=List (Int × Int)
def step (a:List M × Row) (t:Gr.Tn):List M × Row:=(add a.1 t.2.1,a.2++[(t.1,(pos a.1 t.2.1:Int))])
def run (ls:List M) (ts:List Gr.Tn):List M × Row:=ts.foldl step (ls,[])
def stage (f:M→List Gr.Tn) (m0:M):Nat→List M × List Row
 | 0=>([m0],[])
 | i+1=>match (stage f m0 i).1[i]? with
  | some l=>((run (stage f m0 i).1 (f l)).1,(stage f m0 i).2++[(run (stage f m0 i).1 (f l)).2])
  | none=>stage f m0 i
theorem pos_le (ls:List M) (x:M):pos ls x≤ls.length:=List.findIdx_le_length
theorem pos_at {ls:List M} {x:M} (h:pos ls x < ls.length):ls[pos ls x]? = some x:=by
 rw [List.getElem?_eq_getElem h]
 have:=List.findIdx_getElem (p:=(· == x)) (xs:=ls) (w:=h)
 simp at this
 unfold pos
 rw [this]
theorem pos_mem {ls:List M} {x:M}:pos ls x < ls.length↔x∈ls:=by
 unfold pos
 rw [List.findIdx_lt_length]
 simp
theorem pos_eq {ls:List M} {x:M} (hn:ls.Nodup) {j:Nat} (hj:ls[j]? = some x):pos ls x=j:=by
 have hm:x∈ls:=List.mem_of_getElem? hj
 have h1:=pos_at (pos_mem.2 hm)
 have hj':=(List.getElem?_eq_some_iff.1 hj).1
 exact (List.getElem?_inj (pos_mem.2 hm) hn).1 (h1.trans hj.symm)
theorem add_nodup {ls:List M} (h:ls.Nodup) (x:M):(add ls x).Nodup:=by
 unfold add
 split
 ·exact h
 ·rename_i hn
  rw [pos_mem] at hn
  rw [List.nodup_append]
  exact ⟨h,by simp,fun a ha b hb=>by simp at hb;subst hb;intro e;subst e;exact hn ha⟩
theorem add_len (ls:List M) (x:M):ls.length≤(add ls x).length∧(add ls x).length≤ls.length+1:=by
 unfold add
 split <;> simp
theorem pos_add (ls:List M) (x:M):pos ls x < (add ls x).length:=by
 unfold add
 split
 ·assumption
 ·have:=pos_le ls x
  simp
  omega
theorem add_pre (ls:List M) (x:M):∃ r,add ls x=ls++r:=by
 unfold add
 split
 ·exact ⟨[],by simp⟩
 ·exact ⟨[x],rfl⟩
theorem fold_inv (ts:List Gr.Tn):∀ (a:List M × Row),(ts.foldl step a).2.length=a.2.length+ts.length∧a.1.length≤(ts.foldl step a).1.length∧(ts.foldl step a).1.length≤a.1.length+ts.length∧(a.1.Nodup→(ts.foldl step a).1.Nodup)∧(∃ r,(ts.foldl step a).1=a.1++r):=by
 induction ts with
 | nil=>intro a;exact ⟨rfl,Nat.le_refl _,Nat.le_refl _,id,[],by simp⟩
 | cons t ts ih =>
  intro a
  rw [List.foldl_cons]
  obtain ⟨h1,h2,h3,h4,r,h5⟩:=ih (step a t)
  obtain ⟨g1,g2⟩:=add_len a.1 t.2.1
  obtain ⟨r',hr'⟩:=add_pre a.1 t.2.1
  refine ⟨?_,?_,?_,fun hn=>h4 (add_nodup hn _),r'++r,?_⟩
  ·rw [h1];simp [step];omega
  ·exact Nat.le_trans g1 h2
  ·refine Nat.le_trans h3 ?_
   simp [step]
   omega
  ·rw [h5]
   show add a.1 t.2.1++r=_
   rw [hr',List.append_assoc]
def Ok (K:Int) (s:List M × List Row):Prop:=s.1.Nodup∧(∀ l∈s.1,l.length=64)∧∀ r∈s.2,∀ m∈r,-1≤m.1∧m.1 < K∧0≤m.2∧m.2 < s.1.length
structure Good (f:M→List Gr.Tn) (K:Int):Prop where
 len:∀ l,l.length=64→∀ t∈f l,t.2.1.length=64
 lab:∀ l,∀ t∈f l,-1≤t.1∧t.1 < K
theorem run_ok {K:Int} {ts:List Gr.Tn} (h1:∀ t∈ts,t.2.1.length=64) (h2:∀ t∈ts,-1≤t.1∧t.1 < K):∀ a:List M × Row,(∀ l∈a.1,l.length=64)→(∀ m∈a.2,-1≤m.1∧m.1 < K∧0≤m.2∧m.2 < a.1.length) →
  (∀ l∈(ts.foldl step a).1,l.length=64)∧∀ m∈(ts.foldl step a).2,-1≤m.1∧m.1 < K∧0≤m.2∧m.2 < (ts.foldl step a).1.length:=by
 induction ts with
 | nil=>intro a h3 h4;exact ⟨h3,h4⟩
 | cons t ts ih =>
  intro a h3 h4
  rw [List.foldl_cons]
  refine ih (fun x hx=>h1 x (by simp [hx])) (fun x hx=>h2 x (by simp [hx])) (step a t) ?_ ?_
  ·intro l hl
   have:l∈add a.1 t.2.1:=hl
   unfold add at this
   split at this
   ·exact h3 l this
   ·rcases List.mem_append.1 this with e | e
    ·exact h3 l e
    ·simp at e;rw [e];exact h1 t (by simp)
  ·intro m hm
   have hm':m∈a.2++[(t.1,(pos a.1 t.2.1:Int))]:=hm
   have hl:=(add_len a.1 t.2.1).1
   have hp:=pos_add a.1 t.2.1
   show _∧_∧_∧m.2 < ((add a.1 t.2.1).length:Int)
   rcases List.mem_append.1 hm' with e | e
   ·have:=h4 m e
    omega
   ·simp at e
    subst e
    have:=h2 t (by simp)
    simp only
    omega
theorem stage_ok {f:M→List Gr.Tn} {K:Int} (hf:Good f K) {m0:M} (h0:m0.length=64):∀ i,Ok K (stage f m0 i)
 | 0=>⟨by simp [stage],by simp [stage];exact h0,by simp [stage]⟩
 | i+1=>by
  obtain ⟨h1,h2,h3⟩:=stage_ok hf h0 i
  rw [stage]
  cases hl:(stage f m0 i).1[i]? with
  | none=>exact ⟨h1,h2,h3⟩
  | some l =>
   have hl64:=h2 l (List.mem_of_getElem? hl)
   obtain ⟨_,g2,_,g4,_⟩:=fold_inv (f l) ((stage f m0 i).1,[])
   obtain ⟨k1,k2⟩:=run_ok (hf.len l hl64) (hf.lab l) ((stage f m0 i).1,[]) h2 (by simp)
   refine ⟨g4 h1,k1,fun r hr m hm=>?_⟩
   rcases List.mem_append.1 hr with e | e
   ·have:=h3 r e m hm
    have g2':(stage f m0 i).1.length≤(run (stage f m0 i).1 (f l)).1.length:=g2
    show _∧_∧_∧m.2 < ((run (stage f m0 i).1 (f l)).1.length:Int)
    omega
   ·simp at e
    subst e
    exact k2 m hm
theorem stage_rows (f:M→List Gr.Tn) (m0:M):∀ i,i≤(stage f m0 i).1.length→(∀ j,j < i→j < (stage f m0 j).1.length)→(stage f m0 i).2.length=i
 | 0,_,_=>rfl
 | i+1,_,h=>by
  have hi:=h i (by omega)
  have ih:=stage_rows f m0 i (by omega) (fun j hj=>h j (by omega))
  rw [stage,List.getElem?_eq_getElem hi]
  simp [ih]
theorem stage_pre (f:M→List Gr.Tn) (m0:M) (i:Nat):∃ r,(stage f m0 (i+1)).1=(stage f m0 i).1++r:=by
 rw [stage]
 cases (stage f m0 i).1[i]? with
 | none=>exact ⟨[],by simp⟩
 | some l=>exact (fold_inv (f l) ((stage f m0 i).1,[])).2.2.2.2
theorem pop_zero:∀ (n x:Nat),Mark.pop n x=0→x % 2 ^ n=0
 | 0,x,_=>Nat.mod_one x
 | n+1,x,h=>by
  rw [Mark.pop] at h
  have:=pop_zero n (x / 2) (by omega)
  obtain ⟨q,hq⟩:=Nat.dvd_of_mod_eq_zero this
  refine Nat.mod_eq_zero_of_dvd ⟨q,?_⟩
  have h2:x=2 * (x / 2):=by omega
  rw [h2,hq,Nat.pow_succ]
  simp [Nat.mul_assoc,Nat.mul_left_comm]
theorem over_eq {l:M} (h:l.length=64):(Mark.pop 64 (Mark.ofBools l) == 0)=(Mark.ofBools l == 0):=by
 have hlt:=Mark.ofBools_lt l
 rw [h] at hlt
 rw [Bool.eq_iff_iff]
 simp only [beq_iff_eq]
 constructor
 ·intro h0
  have:=pop_zero 64 _ h0
  rwa [Nat.mod_eq_of_lt hlt] at this
 ·intro h0
  rw [h0]
  decide
theorem mark_inj {l m:M} (hl:l.length=64) (hm:m.length=64) (h:Mark.ofBools l=Mark.ofBools m):l=m:=by
 refine List.ext_getElem (by omega) fun i h1 h2=>?_
 have e:=congrArg (fun x=>x.testBit i) h
 simp only [Mark.testBit_ofBools] at e
 rwa [List.getD_eq_getElem?_getD,List.getD_eq_getElem?_getD,List.getElem?_eq_getElem h1,List.getElem?_eq_getElem h2] at e
end Rs
end Go.Proofs.YtcnmaplopbbmaaaGreat
namespace Go.Proofs.YtcnmaplopbbmaaaGreat
open Go.RowKit Go.Maps
namespace Mo
structure Ord (D:DataW Unit) (l:List Lit):Prop where
 tidy:Tidy D
 nodup:l.Nodup
 size:Maps.size D=l.length
 hs:∀ k,Maps.has D k=true↔k∈l
 at_:∀ (q:Nat) (k:Lit),l[q]? = some k→D.atKey k (.lit (.int .i64 0))=.lit (.int .i64 (q:Int))
theorem Ord.push {D:DataW Unit} {l:List Lit} (h:Ord D l) {k:Lit} (hk:WideAt.IsKeyLit k) (hn:k∉l):Ord (D.put k (.lit (.int .i64 (l.length:Int)))) (l++[k]) where
 tidy:=h.tidy.put hk _
 nodup:=by
  rw [List.nodup_append]
  exact ⟨h.nodup,by simp,fun a ha b hb=>by simp at hb;subst hb;intro e;subst e;exact hn ha⟩
 size:=by
  have hf:Maps.has D k=false:=by
   cases e:Maps.has D k with
   | false=>rfl
   | true=>exact (hn ((h.hs k).1 e)).elim
  rw [size_put h.tidy,hf]
  simp [h.size]
 hs:=fun k'=>by
  by_cases e:k'=k
  ·subst e
   rw [has_put_same h.tidy.isMap hk]
   simp
  ·rw [has_put_other e,h.hs k']
   simp [e]
 at_:=fun q k' hq=>by
  by_cases hl:q < l.length
  ·rw [List.getElem?_append_left hl] at hq
   have hm:k'∈l:=List.mem_of_getElem? hq
   have e:k'≠k:=fun e=>hn (e ▸ hm)
   rw [atKey_put_other e]
   exact h.at_ q k' hq
  ·rw [List.getElem?_append_right (by omega)] at hq
   have hq0:q - l.length=0:=by
    have:=(List.getElem?_eq_some_iff.1 hq).1
    simpa using this
   rw [hq0] at hq
   simp at hq
   subst hq
   have:q=l.length:=by omega
   rw [this]
   exact atKey_put_same h.tidy.isMap hk _ _
theorem Ord.look {D:DataW Unit} {l:List Lit} (h:Ord D l) (k:Lit) (c:Int) (hc:D.atKey k (.lit (.int .i64 0))=.lit (.int .i64 c)) :
  (k∉l∧Maps.has D k=false)∨(∃ q:Nat,q < l.length∧l[q]? = some k∧c=(q:Int)∧Maps.has D k=true):=by
 by_cases hm:k∈l
 ·right
  obtain ⟨q,hq,e⟩:=List.mem_iff_getElem.1 hm
  have e':l[q]? = some k:=by rw [List.getElem?_eq_getElem hq,e]
  refine ⟨q,hq,e',?_,(h.hs k).2 hm⟩
  have:=(h.at_ q k e').symm.trans hc
  injection this with this
  injection this with _ this
  exact this.symm
 ·left
  refine ⟨hm,?_⟩
  cases e:Maps.has D k with
  | false=>rfl
  | true=>exact (hm ((h.hs k).1 e)).elim
def kl (s:ByteArray):Lit:=.string s.data.toList
end Mo
end Go.Proofs.YtcnmaplopbbmaaaGreat
