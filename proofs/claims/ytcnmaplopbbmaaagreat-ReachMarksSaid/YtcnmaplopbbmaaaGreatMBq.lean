/- Plain: each element of a choreography that is made is a start, an end, a task or a gateway. No program. -/
import Derived.Test.YtcnmaplopbbmaaaGreatMBo
import Derived.Test.YtcnmaplopbbmaaaGreatFlTask
namespace Go.Proofs.YtcnmaplopbbmaaaGreat
open Go.RowKit
namespace Ch
def Kd (l:List It):Prop:=∀ it∈l,1≤it.kind∧it.kind≤5
theorem Kd.more {l:List It} (h:Kd l) {it:It} (h1:1≤it.kind∧it.kind≤5):Kd (l++[it]):=fun x hx=>by
 rcases List.mem_append.1 hx with e | e
 ·exact h x e
 ·simp at e;rw [e];exact h1
theorem leaf_kind (c:Cx) (m:Mk) (a:S) (x:Nat) (h:Kd m.items):Kd (leafT c m.next a x).2.items:=by
 unfold leafT taskT
 dsimp only
 split <;> exact Kd.more h ⟨by simp only;omega,by simp only;omega⟩
theorem part_kind (c:Cx):∀ (d:Nat) (a:S) (m:Mk),Kd m.items→Kd (partT c d a m).2.items
 | 0,a,m,h=>leaf_kind c m a _ h
 | d+1,a,m,h=>by
  rw [partT]
  split
  ·exact leaf_kind c m a _ h
  ·split
   ·exact part_kind c d _ _ (part_kind c d a m.next h)
   ·dsimp only
    have hk:1≤(if pick c.p m.at_ % 8=7 then (5:Int) else 4)∧(if pick c.p m.at_ % 8=7 then (5:Int) else 4)≤5:=by split <;> exact ⟨by decide,by decide⟩
    generalize (if pick c.p m.at_ % 8=7 then (5:Int) else 4)=k at *
    generalize c.name lG (m.n+1)=b
    have h1:=part_kind c d b (seqT c (m.next.named.item (gate k b)) a b) (Kd.more h hk)
    generalize partT c d b (seqT c (m.next.named.item (gate k b)) a b)=s at *
    have h2:=part_kind c d b s.2 h1
    generalize partT c d b s.2=t at *
    split <;> exact Kd.more h2 hk
theorem level_kind (c:Cx) (m:Mk) (d:Nat) (h:Kd m.items):Kd (levelT c m d).items:=by
 unfold levelT
 dsimp only
 have h1:=part_kind c d (c.name lB (m.n+1)) (m.named.item (gate 1 (c.name lB (m.n+1)))) (Kd.more h ⟨by simp only [gate];omega,by simp only [gate];omega⟩)
 exact Kd.more h1 ⟨by simp only [gate];omega,by simp only [gate];omega⟩
theorem chor_kind (p:List Int) (pre:S):Kd (chorT p pre).items:=level_kind _ _ _ (fun x hx=>by simp [mk0] at hx)
end Ch
end Go.Proofs.YtcnmaplopbbmaaaGreat
namespace Go.Proofs.YtcnmaplopbbmaaaGreat
open Go.RowKit
namespace Fl
def At (w:World) (A n k:Nat):Prop:=∃ cs:Array Value,w.heap[A]? = some (.cells cs 83 (0,0))∧cs.size=n * 2∧∀ j,j < k→cs[j * 2]? = some (.int .i64 (j:Int))∧cs[j * 2+1]? = some (.int .i64 (j:Int))
theorem At.grow {w w':World} {A n k:Nat} (h:At w A n k) (g:Flow.Grow w w'):At w' A n k:=h.imp fun _ h=>⟨heap_keep g h.1,h.2⟩
theorem At.kept {w w':World} {A n k:Nat} {Ts:List TypeId} (h:At w A n k) (g:Kept w w' Ts) (hT:83∉Ts):At w' A n k:=h.imp fun _ h=>⟨g _ _ _ _ h.1 hT,h.2⟩
theorem At.other {w:World} {A n k g q:Nat} {u:Value} (h:At w A n k) (hg:A≠g):At (w.setCell ⟨g,q,none⟩ u) A n k:=h.imp fun _ h=>⟨set_other h.1 hg,h.2⟩
theorem At.cell {w:World} {A n k:Nat} (h:At w A n k) {j:Nat} (hj:j < k):w.cell? ⟨A,j * 2,none⟩=some (.int .i64 (j:Int))∧w.cell? ⟨A,j * 2+1,none⟩=some (.int .i64 (j:Int)):=by
 obtain ⟨cs,hb,hs,hc⟩:=h
 exact ⟨(cell_of_row w A _ _ _ _ hb).trans (hc j hj).1,(cell_of_row w A _ _ _ _ hb).trans (hc j hj).2⟩
theorem At.room {w:World} {A n k:Nat} (h:At w A n k) {j:Nat} (hj:j < n):(∃ u,w.cell? ⟨A,j * 2,none⟩=some u)∧∃ u,w.cell? ⟨A,j * 2+1,none⟩=some u:=by
 obtain ⟨cs,hb,hs,hc⟩:=h
 exact ⟨⟨_,(cell_of_row w A _ _ _ _ hb).trans (Array.getElem?_eq_getElem (by omega))⟩,⟨_,(cell_of_row w A _ _ _ _ hb).trans (Array.getElem?_eq_getElem (by omega))⟩⟩
theorem At.frz {w:World} {A n k:Nat} (h:At w A n k) (j:Nat):w.frozen? ⟨A,j,none⟩=false:=by
 obtain ⟨cs,hb,hs,hc⟩:=h
 exact frozen_of_row w A j _ _ hb
theorem At.sto {w:World} {A n k:Nat} (h:At w A n k) (hk:k < n):At ((w.setCell ⟨A,k * 2,none⟩ (.int .i64 (k:Int))).setCell ⟨A,k * 2+1,none⟩ (.int .i64 (k:Int))) A n (k+1):=by
 obtain ⟨cs,hb,hs,hc⟩:=h
 refine ⟨_,set_cells (set_cells hb (k * 2) _) (k * 2+1) _,by simpa using hs,fun j hj=>?_⟩
 simp only [Array.getElem?_setIfInBounds,Array.size_setIfInBounds]
 by_cases e:j=k
 ·subst e
  simp [hs,show j * 2 < n * 2 by omega,show j * 2+1 < n * 2 by omega]
 ·have h1:=hc j (by omega)
  have n1:¬ k * 2+1=j * 2:=by omega
  have n2:¬ k * 2=j * 2:=by omega
  have n3:¬ k * 2+1=j * 2+1:=by omega
  have n4:¬ k * 2=j * 2+1:=by omega
  simp only [n1,n2,n3,n4,if_false]
  exact h1
theorem FM.edge {W w w':World} {B:Nat} {nm:S} {c1 c2 c3 c4 gp gm gn ge v':Value} {pl ml:List S} {ns:List Gr.Nd} {es:List Gr.Ed} {er:Int} (h:FM W w B nm c1 c2 c3 c4 gp gm gn ge pl ml ns es er) (n:Gr.Ed)
  (o:w'.ownsRow W.heap.size 56 2 v' (es.length+1) (es.flatMap Gr.ecells++Gr.ecells n)) (k:w.grownBy w' ge.ownBlock):FM W (w'.setCell ⟨B,8,none⟩ v') B nm c1 c2 c3 c4 gp gm gn v' pl ml ns (es++[n]) er:=by
 have t:=TY.own h.edges
 have hb:=t.keep_blk k h.box (by decide)
 have tb:=TY.blk hb
 have kb:=by_set w' B 8 v'
 refine ⟨(set_cells hb 8 v').trans rfl,h.lo,set_grow (grow_row h.grow k (own_lo h.edges)) h.lo 8 v',tb.keep_own kb (t.keep_own k h.parts (by decide)) (by decide),tb.keep_own kb (t.keep_own k h.msgs (by decide)) (by decide),h.ne,tb.keep_own kb (t.keep_own k h.nodes (by decide)) (by decide),?_⟩
 have:=tb.keep_own kb o (by decide)
 rw [List.length_append,List.flatMap_append]
 simpa using this
theorem FM.part {W w w':World} {B:Nat} {nm:S} {c1 c2 c3 c4 gp gm gn ge v':Value} {pl:List S} {ns:List Gr.Nd} {es:List Gr.Ed} {er:Int} (h:FM W w B nm c1 c2 c3 c4 gp gm gn ge pl [] ns es er) (hm:gm=.slice none 0 0) (s:S)
  (o:w'.ownsRow W.heap.size 9 1 v' (pl.length+1) (pl.map Value.string++[.string s])) (k:w.grownBy w' gp.ownBlock):FM W (w'.setCell ⟨B,5,none⟩ v') B nm c1 c2 c3 c4 v' gm gn ge (pl++[s]) [] ns es er:=by
 have t:=TY.own h.parts
 have hb:=t.keep_blk k h.box (by decide)
 have tb:=TY.blk hb
 have kb:=by_set w' B 5 v'
 subst hm
 have hg:=set_grow (grow_row h.grow k (own_lo h.parts)) h.lo 5 v'
 refine ⟨(set_cells hb 5 v').trans rfl,h.lo,hg,?_,⟨h.msgs.1,.inl ⟨rfl,rfl⟩⟩,?_,tb.keep_own kb (t.keep_own k h.nodes (by decide)) (by decide),tb.keep_own kb (t.keep_own k h.edges (by decide)) (by decide)⟩
 ·have:=tb.keep_own kb o (by decide)
  rw [List.length_append,List.map_append]
  simpa using this
 ·cases hv:v'.ownBlock with
  | none=>exact .inl rfl
  | some b=>right;intro e;cases e
theorem itemsT_take (fs:List Ch.Fl) (pl:List S) {its:List Ch.It} {k:Nat} {it:Ch.It} (h:its[k]? = some it) (a:List Gr.Nd × List S × Int):itemsT fs pl (its.take (k+1)) a=itemT fs pl it (itemsT fs pl (its.take k) a):=by
 unfold itemsT
 rw [List.take_add_one,h,Option.toList_some,List.foldl_append]
 rfl
theorem edgesT_take (ids:List S) {qs:List Ch.Sq} {k:Nat} {q:Ch.Sq} (h:qs[k]? = some q) (a:List Gr.Ed × Int):edgesT ids (qs.take (k+1)) a=edgeT ids q (edgesT ids (qs.take k) a):=by
 unfold edgesT
 rw [List.take_add_one,h,Option.toList_some,List.foldl_append]
 rfl
theorem itemT_one (fs:List Ch.Fl) (pl:List S) (it:Ch.It) (a:List Gr.Nd × List S × Int):(itemT fs pl it a).1.length=a.1.length+1∧(itemT fs pl it a).2.1.length≤a.2.1.length+2:=by
 have h:=itemsT_len fs pl [it] a
 refine ⟨?_,by simpa [itemsT] using h.2⟩
 unfold itemT
 split <;> simp
theorem scells_len (x:Ch.Sq):(Ch.scells x).length=3:=rfl
end Fl
theorem info_ends:(Tryz.prog.info? 83).map (fun i=>(i.zero,i.size,i.bytes))=some (some (.agg #[.int .i64 0,.int .i64 0]),2,16):=by kernel_rfl
theorem make_ends (n:Nat) (h:n≤1000000) (w:World):∃ w',(Instr.makeSlice 113 (.int .i64 (n:Int)) (.int .i64 (n:Int))).run Tryz.prog w=.ok (.slice (some ⟨w.heap.size,0,none⟩) n n) w'∧Fl.At w' w.heap.size n 0∧Flow.Grow w w'∧w'.heap.size=w.heap.size+1:=by
 obtain ⟨i0,hi,hz0,hz1,hz2⟩:=info_parts08 info_ends
 have hr:=run_make (P:=Tryz.prog) w 113 83 i0 _ Tryz.underlying113 hi hz0 .i64 .i64 (n:Int) n (by omega) (Int.le_refl _) (by rw [hz2];omega) (by omega)
 exact ⟨_,hr,⟨_,heap_alloc_new _ _,by simp [madeCells,hz1],fun j hj=>by omega⟩,Flow.grow_alloc _ _,by simp⟩
end Go.Proofs.YtcnmaplopbbmaaaGreat
