/- Objects that are laid one behind the other: where they lie, their cells. No program. -/
import Derived.Test.YtcpodmjcgfgmnaaGreatMNfa
import Derived.Test.YtcpodmjcgfgmnaaGreatMFlow
import Derived.Test.YtcpodmjcgfgmnaaGreatMAct
import Derived.Deep.Draws
import Derived.Deep.AppendLies
namespace Go.Proofs.YtcpodmjcgfgmnaaGreat
open Go.RowKit
theorem Qaa {w w':World} (g:Flow.Grow w w') {X:Nat} {cs:Array Value} {T:TypeId} {k:Nat} {v:Value} (h:w.heap[X]?=some (.cells cs T (0,0))) (hk:cs[k]?=some v):w'.cell? ⟨X,k,none⟩=some v:=by
 have hb:w'.heap[X]?=_:=(g.block X (Array.getElem?_eq_some_iff.1 h).1 (by simp)).trans h;exact (cell_of_row w' X k _ _ _ hb).trans hk
theorem Qaf {w w':World} (g:Flow.Grow w w') {X:Nat} {cs:Array Value} {T:TypeId} (h:w.heap[X]?=some (.cells cs T (0,0))) (k:Nat):w'.frozen? ⟨X,k,none⟩=false :=
 frozen_of_row w' X k _ _ ((g.block X (Array.getElem?_eq_some_iff.1 h).1 (by simp)).trans h)
theorem Qae {w w':World} (g:Flow.Grow w w') {A:Nat} {o:Obj} (h:w.heap[A]?=some o):w'.heap[A]?=some o :=
 (g.block A (Array.getElem?_eq_some_iff.1 h).1 (by simp)).trans h
theorem Qbt {w:World} {g q:Nat} {u:Value} {k:Nat} {o:Obj} (h:w.heap[k]?=some o) (hk:k≠g):(w.setCell ⟨g,q,none⟩ u).heap[k]?=some o:=by
 have hl:=(Array.getElem?_eq_some_iff.1 h).1;rw [(Qad w g q u).block k hl (by simpa using hk)];exact h
theorem Qbi {w:World} {g:Nat} {T:TypeId} {cs:Array Value} (h:w.heap[g]?=some (.cells cs T (0,0))) (q:Nat) (u:Value):(w.setCell ⟨g,q,none⟩ u).heap[g]?=some (.cells (cs.setIfInBounds q u) T (0,0)):=heap_setCell_same w g q cs T u h
theorem Qdi {w0 w:World} {g:Nat} (h:Flow.Grow w0 w) (hg:w0.heap.size≤g) (q:Nat) (u:Value):Flow.Grow w0 (w.setCell ⟨g,q,none⟩ u):=Qag h hg _ _
theorem Za3 (w:World) (o:Obj) {k:Nat} {p:Obj} (h:w.heap[k]?=some p):(w.alloc o).heap[k]?=some p:=by
 rw [Below.heap_alloc _ _ _ (Array.getElem?_eq_some_iff.1 h).1];exact h
theorem Qqn (w:World) (o:Obj) {k:Nat} (h:w.heap.size=k):(w.alloc o).heap[k]?=some o:=by subst h;exact heap_alloc_new _ _
theorem Qb3 (w:World) (o0:Obj):(w.alloc o0).heap[w.heap.size]?=some o0:=Qqn _ _ (by simp)
theorem Qb2 (w:World) (o0:Obj):Flow.Grow w (w.alloc o0):=Flow.grow_alloc _ _
theorem Qe6 (w:World) (o0 o1:Obj):((w.alloc o0).alloc o1).heap[w.heap.size]?=some o0:=Za3 _ _ (Qqn _ _ (by simp))
theorem Qe5 (w:World) (o0 o1:Obj):((w.alloc o0).alloc o1).heap[w.heap.size+1]?=some o1:=Qqn _ _ (by simp)
theorem Qe4 (w:World) (o0 o1:Obj):Flow.Grow w ((w.alloc o0).alloc o1):=(Flow.grow_alloc _ _).trans (Flow.grow_alloc _ _)
end Go.Proofs.YtcpodmjcgfgmnaaGreat
namespace Go.Proofs.YtcpodmjcgfgmnaaGreat
open Go.RowKit
theorem Flow.grow_drewN (w:World) (n:Nat):Flow.Grow w (w.drewN n):=⟨rfl,rfl,rfl,Nat.le_refl _,fun _ _ _=>rfl⟩
structure But (W w0:World) (Y:Nat) (T:TypeId) (m:Nat) (w:World):Prop where
 grow:Flow.Grow W w
 size:w0.heap.size≤w.heap.size
 same:∀ i,i < w0.heap.size→i≠Y→w.heap[i]?=w0.heap[i]?
 lies:Y < w0.heap.size
 row_:∃ old,w.heap[Y]?=some (.cells old T (0,0))∧old.size=m
namespace But
variable {W w0 w w':World} {Y:Nat} {T:TypeId} {m:Nat}
theorem start {cs:Array Value} (g:Flow.Grow W w0) (h:w0.heap[Y]?=some (.cells cs T (0,0))) (hm:cs.size=m):But W w0 Y T m w0.drew:=⟨g.trans (Flow.grow_drew _),Nat.le_refl _,fun _ _ _=>rfl,(Array.getElem?_eq_some_iff.1 h).1,cs,h,hm⟩
theorem more (h:But W w0 Y T m w) (g:Flow.Grow w w'):But W w0 Y T m w' :=
 ⟨h.grow.trans g,Nat.le_trans h.size g.size,fun i hi hn=>(g.block i (Nat.lt_of_lt_of_le hi h.size) (by simp)).trans (h.same i hi hn),h.lies,h.row_.imp fun _ h=>⟨Qae g h.1,h.2⟩⟩
theorem row {r:Option Nat} (h:But W w0 Y T m w) (hW:W.heap.size≤w0.heap.size) (k:w.grownBy w' r) (hr:∀ g,r=some g→w0.heap.size≤g):But W w0 Y T m w' :=
 ⟨⟨k.os.trans h.grow.os,k.tape.trans h.grow.tape,k.output.trans h.grow.output,Nat.le_trans h.grow.size k.size,fun i hi hn=>(k.block i (Nat.lt_of_lt_of_le hi h.grow.size) (by intro e;have:=hr i e.symm;omega)).trans (h.grow.block i hi hn)⟩,
  Nat.le_trans h.size k.size,fun i hi hn=>(k.block i (Nat.lt_of_lt_of_le hi h.size) (by intro e;have:=hr i e.symm;omega)).trans (h.same i hi hn),h.lies,
  h.row_.imp fun _ h1=>⟨(k.block Y (Nat.lt_of_lt_of_le h.lies h.size) (by intro e;have:=hr Y e.symm;have:=h.lies;omega)).trans h1.1,h1.2⟩⟩
theorem store (h:But W w0 Y T m w) (g:Flow.Grow W w') (hs:w'.heap.size=w.heap.size) {cs:Array Value} (hY:w'.heap[Y]?=some (.cells cs T (0,0))) (hm:cs.size=m) (hb:∀ B,B≠Y→w'.heap[B]?=w.heap[B]?):But W w0 Y T m w' :=
 ⟨g,by rw [hs];exact h.size,fun i hi hn=>(hb i hn).trans (h.same i hi hn),h.lies,cs,hY,hm⟩
theorem heap (h:But W w0 Y T m w) {k:Nat} {o:Obj} (ho:w0.heap[k]?=some o) (hk:k≠Y):w.heap[k]?=some o :=
 (h.same k (Array.getElem?_eq_some_iff.1 ho).1 hk).trans ho
theorem cell (h:But W w0 Y T m w) {a:Addr} {v:Value} (hc:w0.cell? a=some v) (hk:a.block≠Y):w.cell? a=some v:=by
 by_cases ha:a.block < w0.heap.size
 ·exact (World.cell?_of_block (h.same a.block ha hk)).trans hc
 ·exfalso;unfold World.cell? at hc;rw [Array.getElem?_eq_none (by omega)] at hc;cases hc
end But
theorem Qlk {P:Program} {o:Oper} {a:Act} {w:World} {K:Act→World→Prop} {Q:Exit→Act→World→Prop} (s x:Operand) (t:TypeId)
  (ho:o.op=.call { callee:=.builtin .append,args:=#[s,x],argTypes:=#[t,t] })
  (B:Nat) (e:TypeId) (i:TypeInfo) (z:Value) (size bytes:Nat) (ht:P.underlying t=some (.slice e)) (hi:P.info? e=some i) (hz:i.zero=some z)
  (hsize:i.size=size) (hby:i.bytes=bytes) (hzs:z.cells.size=size) (hsz:0 < size)
  (v:Value) (n:Nat) (xs:List Value) (hs:a.eval s=v) (hown:w.ownsRow B e size v n xs) (q:Nat) (cs:Array Value) (qt:TypeId) (hx:a.eval x=.slice (some ⟨q,0,none⟩) 1 1) (hq:w.heap[q]?=some (.cells cs qt (0,0))) (hcs:cs.size=size) (h1:∀ u∈cs.toList,u.oneCell'=true)
  (hn:n≤1000000) (hb:bytes≤1000000) (hB:B≤w.heap.size)
  (h:∀ g cap w',w'.ownsRow B e size (.slice (some ⟨g,0,none⟩) (n+1) cap) (n+1) (xs++cs.toList)→w.grownBy w' v.ownBlock→B≤g→(∀ r,v.ownBlock=some r→B≤r)→K (a.put o.dst (.slice (some ⟨g,0,none⟩) (n+1) cap)) w'):o.wp P a w K Q:=by
 refine wp_append_lies (P:=P) w s x t ho B e i z size bytes ht hi hz hsize hby hzs hsz v n xs hs hown ⟨q,0,none⟩ 1 1 cs.toList hx (by rw [Nat.one_mul,Array.length_toList];exact hcs)
  (fun j u hj=>?_) h1 (by decide) (by unfold maxLen;omega) ?_ hB _ rfl fun g cap w' h2 h3 h4 h5=>?_
 ·rw [Addr.add_lit,cell_of_row w q _ _ _ _ hq,Nat.zero_add];rw [← hj];exact Array.getElem?_toList.symm
 ·have:(n+1) * bytes≤1000001 * 1000000:=Nat.mul_le_mul (by omega) hb;omega
 ·refine h g cap w' h2 h3 ?_ fun r hr=>(hown.lt r hr).1;rcases h4 with h4 | h4
  ·exact (hown.lt g h4).1
  ·omega
theorem Qio {P:Program} {o:Oper} {a:Act} {w:World} {K:Act→World→Prop} {Q:Exit→Act→World→Prop} {T:TypeId} {i:TypeInfo} {s x:Tmp} {cs:Array Value} (hop:o.op=.store T (.tmp s) (.tmp x)) (hd:o.dst=none) (hi:P.info? T=some i) {m:Nat} (hz0:i.size=m) (hz1:cs.size=m) (h1:∀ v∈cs.toList,v.oneCell'=true)
  {W:World} (A:Nat) (hg:Flow.Grow W w) (hA:W.heap.size≤A) (hs:a.eval (.tmp s)=.pointer (some ⟨A,0,none⟩)) (hx:a.eval (.tmp x)=.agg cs) (hold:∃ old,w.heap[A]?=some (.cells old T (0,0))∧old.size=m)
  (h:∀ w',Flow.Grow W w'→w'.heap.size=w.heap.size→w'.heap[A]?=some (.cells cs T (0,0))→(∀ B,B≠A→w'.heap[B]?=w.heap[B]?)→K a w'):o.wp P a w K Q:=by
 obtain ⟨old,hb,ho⟩:=hold;obtain ⟨w',hr,h2,h3,h4,h5⟩:=Flow.store_run (P:=P) (o:=o) (cs:=cs) hop hi hz0 hz1 h1 (wo:=W) a.eval w A old hg hA hs hx hb (by omega);unfold Oper.wp;rw [hr,Oper.upon_skip];rw [show a.put o.dst undef=a by rw [hd];rfl];exact h w' h2 h3 h4 h5
theorem Qec {w w':World} {B e sz n:Nat} {v:Value} {xs:List Value} (h:w.ownsRow B e sz v n xs) (k:∀ g,v.ownBlock=some g→w'.heap[g]?=w.heap[g]?):w'.ownsRow B e sz v n xs:=by
 refine ⟨h.1,?_⟩;rcases h.2 with h0 | ⟨g,cap,cur,hv,hB,hg,h4⟩
 ·exact .inl h0
 ·exact .inr ⟨g,cap,cur,hv,hB,(k g (by rw [hv];rfl)).trans hg,h4⟩
end Go.Proofs.YtcpodmjcgfgmnaaGreat
