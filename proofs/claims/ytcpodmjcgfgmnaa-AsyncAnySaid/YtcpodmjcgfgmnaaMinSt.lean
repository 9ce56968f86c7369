/- What mini.Of's loop holds, and what each of its steps leaves. No program but for types' numbers. -/
import Derived.Test.YtcpodmjcgfgmnaaMDet
namespace Go.Proofs.Ytcpodmjcgfgmnaa
open Go.RowKit Go.Maps
namespace Pr
abbrev MapI (w:World) (M n:Nat) (D:DataW Unit):Prop:=w.ownsMap Try.prog 3 (plainElem Try.prog 3) M n D
structure MinOf (W w:World) (B G M K nm:Nat) (sv vf vn:Value) (ls:List Int) (fin:List Bool) (rows:List (List Int)) (rs:List Nat) (D:DataW Unit):Prop where
 d:DfaSt w G K 0 vf vn fin rows rs
 s:w.ownsRow B 3 1 sv ls.length (ls.map (Value.int .i64))
 m:MapI w M nm D
 ap:∀ j,j < rows.length→sv.ownBlock≠some (rs.getD j 0)
 g:Flow.Grow W w
 hB:W.heap.size≤B
 hG:W.heap.size≤G
 hM:W.heap.size≤M
structure MinIn (W w:World) (B G M K nm:Nat) (sv vf vn:Value) (ls:List Int) (fin:List Bool) (rows:List (List Int)) (rs:List Nat) (D:DataW Unit) (R:Nat) (row:List Int):Prop extends MinOf W w B G M K nm sv vf vn ls fin rows rs D where
 hb:w.heap[R]?=some (.cells (intCells row) 3 (0,0))
 rl:row.length=K
 hR:G+1≤R
 hne:∀ j,j < rows.length→rs.getD j 0≠R
 hv:sv.ownBlock≠some R
variable {W w w' w1:World} {B G M K nm nm' R:Nat} {sv vf vn sv' v' v:Value} {ls:List Int} {fin:List Bool} {rows:List (List Int)} {rs:List Nat} {D D':DataW Unit} {row:List Int} {o:Obj}
theorem MinOf.grow (h:MinOf W w B G M K nm sv vf vn ls fin rows rs D) (g:Flow.Grow w w'):MinOf W w' B G M K nm sv vf vn ls fin rows rs D where
 d:=h.d.grow g
 s:=own_keep h.s g
 m:=h.m.kept (row:=none) g (by simp)
 ap:=h.ap
 g:=h.g.trans g
 hB:=h.hB
 hG:=h.hG
 hM:=h.hM
theorem MinIn.grow (h:MinIn W w B G M K nm sv vf vn ls fin rows rs D R row) (g:Flow.Grow w w'):MinIn W w' B G M K nm sv vf vn ls fin rows rs D R row where
 toMinOf:=h.toMinOf.grow g
 hb:=(g.block _ (Array.getElem?_eq_some_iff.1 h.hb).1 (by simp)).trans h.hb
 rl:=h.rl
 hR:=h.hR
 hne:=h.hne
 hv:=h.hv
theorem MinOf.mkRow (h:MinOf W w B G M K nm sv vf vn ls fin rows rs D) (hb:(w.alloc o).heap[w.heap.size]?=some (.cells (intCells row) 3 (0,0))) (hl:row.length=K):MinIn W (w.alloc o) B G M K nm sv vf vn ls fin rows rs D w.heap.size row where
 toMinOf:=h.grow (Flow.grow_alloc _ _)
 hb:=hb
 rl:=hl
 hR:=h.d.lt
 hne:=fun j hj e=>by have:=h.d.row_lt hj;omega
 hv:=fun e=>by have:=(h.s.lt _ e).2;omega
theorem MinIn.set (h:MinIn W w B G M K nm sv vf vn ls fin rows rs D R row) (q:Nat) (z:Int):MinIn W (w.setCell ⟨R,q,none⟩ (.int .i64 z)) B G M K nm sv vf vn ls fin rows rs D R (row.set q z) where
 d:=h.d.kept (grownBy_set w R q _) (fun e=>by injection e with e;have:=h.hR;omega) (.inr (Lib.ownBlock_ne h.d.finals h.hb (by decide))) (.inr (Lib.ownBlock_ne h.d.nexts h.hb (by decide))) (fun j hj e=>by injection e with e;exact h.hne j hj e.symm)
 s:=h.s.kept (grownBy_set w R q _) (.inr h.hv)
 m:=World.ownsMap.keptC h.m (grownBy_set w R q _) h.hb
 ap:=h.ap
 g:=grow_set' h.g (by have h1:=h.hR;have h2:=h.hG;omega) q _
 hB:=h.hB
 hG:=h.hG
 hM:=h.hM
 hb:=ints_set h.hb
 rl:=by rw [List.length_set];exact h.rl
 hR:=h.hR
 hne:=h.hne
 hv:=h.hv
theorem MinIn.upd (h:MinIn W w B G M K nm sv vf vn ls fin rows rs D R row) (k:w.grownBy w' (some M)) (hm:MapI w' M nm' D'):MinIn W w' B G M K nm' sv vf vn ls fin rows rs D' R row:=by
 obtain ⟨es,cl,hb⟩:=World.ownsMap.at_ h.m
 exact {
  d:=h.d.keptM k hb
  s:=h.s.kept k (.inr (own_map h.s hb))
  m:=hm
  ap:=h.ap
  g:=grow_row h.g k (fun b e=>by injection e with e;have:=h.hM;omega)
  hB:=h.hB
  hG:=h.hG
  hM:=h.hM
  hb:=(k.block _ (Array.getElem?_eq_some_iff.1 h.hb).1 (fun e=>by injection e with e;have:=h.hb;rw [e,hb] at this;cases this)).trans h.hb
  rl:=h.rl
  hR:=h.hR
  hne:=h.hne
  hv:=h.hv }
theorem MinIn.app {z:Int} {g c:Nat} (h:MinIn W w B G M K nm sv vf vn ls fin rows rs D R row)
  (hown:w1.ownsRow B 3 1 (.slice (some ⟨g,0,none⟩) (ls.length+1) c) (ls.length+1) (ls.map (Value.int .i64)++[.int .i64 z])) (k:w.grownBy w1 sv.ownBlock) (hat:sv.ownBlock=some g∨g=w.heap.size) :
  MinIn W w1 B G M K nm (.slice (some ⟨g,0,none⟩) (ls.length+1) c) vf vn (ls++[z]) fin rows rs D R row where
 d:=h.d.kept k (fun e=>Lib.ownBlock_ne h.s h.d.block (by decide) e) (Pr.own_apart h.d.finals h.s (by decide)) (Pr.own_apart h.d.nexts h.s (by decide))
  (fun j hj e=>h.ap j hj e)
 s:=by simpa using hown
 m:=World.ownsMap.keptO h.m k h.s
 ap:=fun j hj e=>by
  simp only [Value.ownBlock,Option.some.injEq] at e
  rcases hat with h1 | h1
  ·exact h.ap j hj (by rw [h1,e])
  ·have:=h.d.row_lt hj
   omega
 g:=grow_row h.g k (fun b e=>by have h1:=(h.s.lt b e).1;have h2:=h.hB;omega)
 hB:=h.hB
 hG:=h.hG
 hM:=h.hM
 hb:=(k.block _ (Array.getElem?_eq_some_iff.1 h.hb).1 (fun e=>h.hv e.symm)).trans h.hb
 rl:=h.rl
 hR:=h.hR
 hne:=h.hne
 hv:=fun e=>by
  simp only [Value.ownBlock,Option.some.injEq] at e
  rcases hat with h1 | h1
  ·exact h.hv (by rw [h1,e])
  ·have:=(Array.getElem?_eq_some_iff.1 h.hb).1
   omega
theorem MinIn.done {g c:Nat} (h:MinIn W w B G M K nm sv vf vn ls fin rows rs D R row)
  (hown:w1.ownsRow (G+1) 39 1 (.slice (some ⟨g,0,none⟩) (rows.length+1) c) (rows.length+1) ((rs.map fun g=>Value.slice (some ⟨g,0,none⟩) K K)++[.slice (some ⟨R,0,none⟩) K K])) (k:(w.alloc o).grownBy w1 vn.ownBlock) :
  MinOf W (w1.setCell ⟨G,3,none⟩ (.slice (some ⟨g,0,none⟩) (rows.length+1) c)) B G M K nm sv vf (.slice (some ⟨g,0,none⟩) (rows.length+1) c) ls fin (rows++[row]) (rs++[R]) D:=by
 have h':=h.grow (Flow.grow_alloc w o)
 have hG1:=h.d.after k (fun b e=>(h'.d.nexts.lt b e).1)
 have hs1:=h'.s.kept k (Pr.own_apart h'.s h'.d.nexts (by decide))
 exact {
  d:=h.d.pushRow' h.hR h.hne h.hb h.rl hown k
  s:=hs1.kept (grownBy_set w1 G 3 _) (.inr (Lib.ownBlock_ne hs1 hG1 (by decide)))
  m:=World.ownsMap.keptC (World.ownsMap.keptO h'.m k h'.d.nexts) (grownBy_set w1 G 3 _) hG1
  ap:=fun j hj e=>by
   rw [List.length_append,List.length_singleton] at hj
   by_cases e2:j < rows.length
   ·have:(rs++[R]).getD j 0=rs.getD j 0:=by simp [List.getD_eq_getElem?_getD,List.getElem?_append_left (show j < rs.length by rw [h.d.len];exact e2)]
    rw [this] at e
    exact h.ap j e2 e
   ·obtain rfl:j=rows.length:=by omega
    have:(rs++[R]).getD rows.length 0=R:=by rw [← h.d.len];simp
    rw [this] at e
    exact h.hv e
  g:=grow_set' (grow_row h'.g k (fun b e=>by have h1:=(h'.d.nexts.lt b e).1;have h2:=h.hG;omega)) (by have:=h.hG;omega) 3 _
  hB:=h.hB
  hG:=h.hG
  hM:=h.hM }
theorem MinOf.addFin' {x:Bool} (h:MinOf W w B G M K nm sv vf vn ls fin rows rs D) (hown:w1.ownsRow (G+1) 4 1 v' (fin.length+1) (fin.map Value.bool++[.bool x])) (k:w.grownBy w1 vf.ownBlock) :
  w1.heap[G]?=some (.cells #[.int .i64 K,.int .i64 0,vf,vn] 27 (0,0))∧MinOf W (w1.setCell ⟨G,2,none⟩ v') B G M K nm sv v' vn ls (fin++[x]) rows rs D:=by
 obtain ⟨hG1,hd⟩:=h.d.pushFin' hown k
 have hs1:=h.s.kept k (Pr.own_apart h.s h.d.finals (by decide))
 exact ⟨hG1,{
  d:=hd
  s:=hs1.kept (grownBy_set w1 G 2 _) (.inr (Lib.ownBlock_ne hs1 hG1 (by decide)))
  m:=World.ownsMap.keptC (World.ownsMap.keptO h.m k h.d.finals) (grownBy_set w1 G 2 _) hG1
  ap:=h.ap
  g:=grow_set' (grow_row h.g k (fun b e=>by have h1:=(h.d.finals.lt b e).1;have h2:=h.hG;omega)) (by have:=h.hG;omega) 2 _
  hB:=h.hB
  hG:=h.hG
  hM:=h.hM }⟩
structure Seen (n:Nat) (order:List Lit) (ls:List Int) (D:DataW Unit):Prop where
 ord:Mo.Ord D order
 len:ls.length=order.length
 keys:∀ k∈order,∃ z:Nat,z < n∧k=Mo.ki (z:Int)
 states:∀ s∈ls,0≤s∧s < n
open Classical in
theorem Seen.le {n:Nat} {order:List Lit} {ls:List Int} {D:DataW Unit} (h:Seen n order ls D):ls.length≤n:=by
 have:=Mo.nodup_le h.ord.nodup (m:=(List.range n).map fun q=>Mo.ki ((q:Nat):Int)) (fun x hx=>by
  obtain ⟨z,hz,rfl⟩:=h.keys x hx
  exact List.mem_map.2 ⟨z,List.mem_range.2 hz,rfl⟩)
 simp at this
 rw [h.len]
 exact this
theorem Seen.push {n z s:Nat} {order:List Lit} {ls:List Int} {D:DataW Unit} (h:Seen n order ls D) (hz:z < n) (hs:s < n) (hk:Maps.has D (Mo.ki (z:Int))=false):Seen n (order++[Mo.ki (z:Int)]) (ls++[(s:Int)]) (D.put (Mo.ki (z:Int)) (.lit (.int .i64 (ls.length:Int)))) where
 ord:=by
  rw [h.len]
  exact h.ord.push (Mo.ki_is _) (fun e=>by have:=(h.ord.hs _).2 e;rw [hk] at this;cases this)
 len:=by simp [h.len]
 keys:=fun k hk=>by
  rcases List.mem_append.1 hk with h1 | h1
  ·exact h.keys k h1
  ·simp at h1;exact ⟨z,hz,h1⟩
 states:=fun x hx=>by
  rcases List.mem_append.1 hx with h1 | h1
  ·exact h.states x h1
  ·simp at h1;subst h1;omega
theorem seen_one {n z s:Nat} (hz:z < n) (hs:s < n):Seen n [Mo.ki (z:Int)] [(s:Int)] ((DataW.map []).put (Mo.ki (z:Int)) (.lit (.int .i64 0))):=by
 have h:Seen n [] [] (.map []):=⟨Mo.ord_nil,rfl,by simp,by simp⟩
 have:=h.push hz hs rfl
 simpa using this
end Pr
theorem key_int (z:Int) (h:(Lit.int .i64 z).wf=true):keyOf Try.prog 3 (.int .i64 z)=some (Mo.ki z):=Maps.keyOf_int_mk Try.underlying3 h
end Go.Proofs.Ytcpodmjcgfgmnaa
