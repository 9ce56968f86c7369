/- What mini.Of's loop holds, and what each of its steps leaves. No program but for types' numbers. -/
import Derived.Test.YtcpodmjcgfgmnaaGreatMDet
import Derived.Test.YtcpodmjcgfgmnaaGreatMCls
namespace Go.Proofs.YtcpodmjcgfgmnaaGreat
open Go.RowKit Go.Maps
namespace Pr
abbrev MapI (w:World) (M n:Nat) (D:DataW Unit):Prop:=w.ownsMap Tryz.prog 3 (plainElem Tryz.prog 3) M n D
structure MinOf (W w:World) (B G M K nm:Nat) (sv vf vn:Value) (ls:List Int) (fin:List Bool) (rows:List (List Int)) (rs:List Nat) (D:DataW Unit):Prop where
 d:DfaSt w G K 0 vf vn fin rows rs
 s:w.ownsRow B 3 1 sv ls.length (ls.map (Value.int .i64))
 m:MapI w M nm D
 ap:∀ j,j < rows.length→sv.ownBlock≠some (rs.getD j 0)
 g:Flow.Grow W w
 hB:W.heap.size≤B
 hG:W.heap.size≤G
 hM:W.heap.size≤M
structure MinIn (W w:World) (B G M K nm:Nat) (sv vf vn:Value) (ls:List Int) (fin:List Bool) (rows:List (List Int)) (rs:List Nat) (D:DataW Unit) (R:Nat) (row:List Int):Prop extends MinOf W w B G M K nm sv vf vn ls fin rows rs D where
 hb:w.heap[R]?=some (.cells (Qaj row) 3 (0,0))
 rl:row.length=K
 hR:G+1≤R
 hne:∀ j,j < rows.length→rs.getD j 0≠R
 hv:sv.ownBlock≠some R
variable {W w w' w1:World} {B G M K nm nm' R:Nat} {sv vf vn sv' v' v:Value} {ls:List Int} {fin:List Bool} {rows:List (List Int)} {rs:List Nat} {D D':DataW Unit} {row:List Int} {o:Obj}
theorem MinOf.grow (h:MinOf W w B G M K nm sv vf vn ls fin rows rs D) (g:Flow.Grow w w'):MinOf W w' B G M K nm sv vf vn ls fin rows rs D where
 d:=h.d.grow g
 s:=Qab h.s g
 m:=h.m.kept (row:=none) g (by simp)
 ap:=h.ap
 g:=h.g.trans g
 hB:=h.hB
 hG:=h.hG
 hM:=h.hM
theorem MinIn.grow (h:MinIn W w B G M K nm sv vf vn ls fin rows rs D R row) (g:Flow.Grow w w'):MinIn W w' B G M K nm sv vf vn ls fin rows rs D R row where
 toMinOf:=h.toMinOf.grow g
 hb:=(g.block _ (Array.getElem?_eq_some_iff.1 h.hb).1 (by simp)).trans h.hb
 rl:=h.rl
 hR:=h.hR
 hne:=h.hne
 hv:=h.hv
theorem MinOf.mkRow (h:MinOf W w B G M K nm sv vf vn ls fin rows rs D) (hb:(w.alloc o).heap[w.heap.size]?=some (.cells (Qaj row) 3 (0,0))) (hl:row.length=K):MinIn W (w.alloc o) B G M K nm sv vf vn ls fin rows rs D w.heap.size row where
 toMinOf:=h.grow (Flow.grow_alloc _ _)
 hb:=hb
 rl:=hl
 hR:=h.d.lt
 hne:=fun j hj e=>by have:=h.d.row_lt hj;omega
 hv:=fun e=>by have:=(h.s.lt _ e).2;omega
theorem MinIn.set (h:MinIn W w B G M K nm sv vf vn ls fin rows rs D R row) (q:Nat) (z:Int):MinIn W (w.setCell ⟨R,q,none⟩ (.int .i64 z)) B G M K nm sv vf vn ls fin rows rs D R (row.set q z) where
 d:=h.d.kept (Qad w R q _) (fun e=>by injection e with e;have:=h.hR;omega) (.inr (Lib.ownBlock_ne h.d.finals h.hb (by decide))) (.inr (Lib.ownBlock_ne h.d.nexts h.hb (by decide))) (fun j hj e=>by injection e with e;exact h.hne j hj e.symm)
 s:=h.s.kept (Qad w R q _) (.inr h.hv)
 m:=World.ownsMap.keptC h.m (Qad w R q _) h.hb
 ap:=h.ap
 g:=Qag h.g (by have h1:=h.hR;have h2:=h.hG;omega) q _
 hB:=h.hB
 hG:=h.hG
 hM:=h.hM
 hb:=Qcc h.hb
 rl:=by rw [List.length_set];exact h.rl
 hR:=h.hR
 hne:=h.hne
 hv:=h.hv
theorem MinIn.upd (h:MinIn W w B G M K nm sv vf vn ls fin rows rs D R row) (k:w.grownBy w' (some M)) (hm:MapI w' M nm' D'):MinIn W w' B G M K nm' sv vf vn ls fin rows rs D' R row:=by
 obtain ⟨es,cl,hb⟩:=World.ownsMap.at_ h.m;exact {
  d:=h.d.keptM k hb
  s:=h.s.kept k (.inr (own_map h.s hb))
  m:=hm
  ap:=h.ap
  g:=Qap h.g k (fun b e=>by injection e with e;have:=h.hM;omega)
  hB:=h.hB
  hG:=h.hG
  hM:=h.hM
  hb:=(k.block _ (Array.getElem?_eq_some_iff.1 h.hb).1 (fun e=>by injection e with e;have:=h.hb;rw [e,hb] at this;cases this)).trans h.hb
  rl:=h.rl
  hR:=h.hR
  hne:=h.hne
  hv:=h.hv }
theorem MinIn.app {z:Int} {g c:Nat} (h:MinIn W w B G M K nm sv vf vn ls fin rows rs D R row)
  (hown:w1.ownsRow B 3 1 (.slice (some ⟨g,0,none⟩) (ls.length+1) c) (ls.length+1) (ls.map (Value.int .i64)++[.int .i64 z])) (k:w.grownBy w1 sv.ownBlock) (hat:sv.ownBlock=some g∨g=w.heap.size) :
  MinIn W w1 B G M K nm (.slice (some ⟨g,0,none⟩) (ls.length+1) c) vf vn (ls++[z]) fin rows rs D R row where
 d:=h.d.kept k (fun e=>Lib.ownBlock_ne h.s h.d.block (by decide) e) (Pr.own_apart h.d.finals h.s (by decide)) (Pr.own_apart h.d.nexts h.s (by decide))
  (fun j hj e=>h.ap j hj e)
 s:=by simpa using hown
 m:=World.ownsMap.keptO h.m k h.s
 ap:=fun j hj e=>by
  simp only [Value.ownBlock,Option.some.injEq] at e;rcases hat with h1 | h1
  ·exact h.ap j hj (by rw [h1,e])
  ·have:=h.d.row_lt hj;omega
 g:=Qap h.g k (fun b e=>by have h1:=(h.s.lt b e).1;have h2:=h.hB;omega)
 hB:=h.hB
 hG:=h.hG
 hM:=h.hM
 hb:=(k.block _ (Array.getElem?_eq_some_iff.1 h.hb).1 (fun e=>h.hv e.symm)).trans h.hb
 rl:=h.rl
 hR:=h.hR
 hne:=h.hne
 hv:=fun e=>by
  simp only [Value.ownBlock,Option.some.injEq] at e;rcases hat with h1 | h1
  ·exact h.hv (by rw [h1,e])
  ·have:=(Array.getElem?_eq_some_iff.1 h.hb).1;omega
theorem MinIn.done {g c:Nat} (h:MinIn W w B G M K nm sv vf vn ls fin rows rs D R row)
  (hown:w1.ownsRow (G+1) 49 1 (.slice (some ⟨g,0,none⟩) (rows.length+1) c) (rows.length+1) ((rs.map fun g=>Value.slice (some ⟨g,0,none⟩) K K)++[.slice (some ⟨R,0,none⟩) K K])) (k:(w.alloc o).grownBy w1 vn.ownBlock) :
  MinOf W (w1.setCell ⟨G,3,none⟩ (.slice (some ⟨g,0,none⟩) (rows.length+1) c)) B G M K nm sv vf (.slice (some ⟨g,0,none⟩) (rows.length+1) c) ls fin (rows++[row]) (rs++[R]) D:=by
 have h':=h.grow (Flow.grow_alloc w o);have hG1:=h.d.after k (fun b e=>(h'.d.nexts.lt b e).1);have hs1:=h'.s.kept k (Pr.own_apart h'.s h'.d.nexts (by decide));exact {
  d:=h.d.pushRow' h.hR h.hne h.hb h.rl hown k
  s:=hs1.kept (Qad w1 G 3 _) (.inr (Lib.ownBlock_ne hs1 hG1 (by decide)))
  m:=World.ownsMap.keptC (World.ownsMap.keptO h'.m k h'.d.nexts) (Qad w1 G 3 _) hG1
  ap:=fun j hj e=>by
   rw [List.length_append,List.length_singleton] at hj;by_cases e2:j < rows.length
   ·have:(rs++[R]).getD j 0=rs.getD j 0:=by simp [List.getD_eq_getElem?_getD,List.getElem?_append_left (show j < rs.length by rw [h.d.len];exact e2)]
    rw [this] at e;exact h.ap j e2 e
   ·obtain rfl:j=rows.length:=by omega
    have:(rs++[R]).getD rows.length 0=R:=by rw [← h.d.len];simp
    rw [this] at e;exact h.hv e
  g:=Qag (Qap h'.g k (fun b e=>by have h1:=(h'.d.nexts.lt b e).1;have h2:=h.hG;omega)) (by have:=h.hG;omega) 3 _
  hB:=h.hB
  hG:=h.hG
  hM:=h.hM }
theorem MinOf.addFin' {x:Bool} (h:MinOf W w B G M K nm sv vf vn ls fin rows rs D) (hown:w1.ownsRow (G+1) 4 1 v' (fin.length+1) (fin.map Value.bool++[.bool x])) (k:w.grownBy w1 vf.ownBlock) :
  w1.heap[G]?=some (.cells #[.int .i64 K,.int .i64 0,vf,vn] 27 (0,0))∧MinOf W (w1.setCell ⟨G,2,none⟩ v') B G M K nm sv v' vn ls (fin++[x]) rows rs D:=by
 obtain ⟨hG1,hd⟩:=h.d.pushFin' hown k;have hs1:=h.s.kept k (Pr.own_apart h.s h.d.finals (by decide));exact ⟨hG1,{
  d:=hd
  s:=hs1.kept (Qad w1 G 2 _) (.inr (Lib.ownBlock_ne hs1 hG1 (by decide)))
  m:=World.ownsMap.keptC (World.ownsMap.keptO h.m k h.d.finals) (Qad w1 G 2 _) hG1
  ap:=h.ap
  g:=Qag (Qap h.g k (fun b e=>by have h1:=(h.d.finals.lt b e).1;have h2:=h.hG;omega)) (by have:=h.hG;omega) 2 _
  hB:=h.hB
  hG:=h.hG
  hM:=h.hM }⟩
structure Seen (n:Nat) (order:List Lit) (ls:List Int) (D:DataW Unit):Prop where
 ord:Mo.Ord D order
 len:ls.length=order.length
 keys:∀ k∈order,∃ z:Nat,z < n∧k=Mo.ki (z:Int)
 states:∀ s∈ls,0≤s∧s < n
open Classical in
theorem Seen.le {n:Nat} {order:List Lit} {ls:List Int} {D:DataW Unit} (h:Seen n order ls D):ls.length≤n:=by
 have:=Mo.nodup_le h.ord.nodup (m:=(List.range n).map fun q=>Mo.ki ((q:Nat):Int)) (fun x hx=>by
  obtain ⟨z,hz,rfl⟩:=h.keys x hx;exact List.mem_map.2 ⟨z,List.mem_range.2 hz,rfl⟩)
 simp at this;rw [h.len];exact this
theorem Seen.push {n z s:Nat} {order:List Lit} {ls:List Int} {D:DataW Unit} (h:Seen n order ls D) (hz:z < n) (hs:s < n) (hk:Maps.has D (Mo.ki (z:Int))=false):Seen n (order++[Mo.ki (z:Int)]) (ls++[(s:Int)]) (D.put (Mo.ki (z:Int)) (.lit (.int .i64 (ls.length:Int)))) where
 ord:=by
  rw [h.len];exact h.ord.push (Mo.ki_is _) (fun e=>by have:=(h.ord.hs _).2 e;rw [hk] at this;cases this)
 len:=by simp [h.len]
 keys:=fun k hk=>by
  rcases List.mem_append.1 hk with h1 | h1
  ·exact h.keys k h1
  ·simp at h1;exact ⟨z,hz,h1⟩
 states:=fun x hx=>by
  rcases List.mem_append.1 hx with h1 | h1
  ·exact h.states x h1
  ·simp at h1;subst h1;omega
theorem seen_one {n z s:Nat} (hz:z < n) (hs:s < n):Seen n [Mo.ki (z:Int)] [(s:Int)] ((DataW.map []).put (Mo.ki (z:Int)) (.lit (.int .i64 0))):=by
 have h:Seen n [] [] (.map []):=⟨Mo.ord_nil,rfl,by simp,by simp⟩;have:=h.push hz hs rfl;simpa using this
end Pr
theorem Qmm (z:Int) (h:(Lit.int .i64 z).wf=true):keyOf Tryz.prog 3 (.int .i64 z)=some (Mo.ki z):=Maps.keyOf_int_mk Tryz.underlying3 h
end Go.Proofs.YtcpodmjcgfgmnaaGreat
namespace Go.Proofs.YtcpodmjcgfgmnaaGreat
open Go.RowKit Go.Maps
theorem Qhj (tmps:Array Value) (w:World) (X:Nat) (c0 c1 c2 c3 v:Value) (h2:tmps.getD 2 undef=.pointer (some ⟨X,0,none⟩)) (h3:tmps.getD 3 undef=v) (hx:w.heap[X]?=some (.cells #[c0,c1,c2,c3] 27 (0,0))) :
  (results Tryz.f57 tmps).run Tryz.prog w=.ok (.tuple #[.agg #[c0,c1,c2,c3],v]) w:=by
 have x0:=(cell_of_row w X 0 _ _ _ hx).trans rfl;have x1:=(cell_of_row w X 1 _ _ _ hx).trans rfl;have x2:=(cell_of_row w X 2 _ _ _ hx).trans rfl;have x3:=(cell_of_row w X 3 _ _ _ hx).trans rfl;simp at x0 x1 x2 x3;simp only [Array.getD_eq_getD_getElem?] at h2 h3;simp [results,Tryz.results57,h2,h3,x0,x1,x2,x3,go_sem]
theorem Qoc {K S:Int} {nf:Nat} {rows:List (List Int)} (h:Det.may K S nf rows=true):0≤K∧nf=rows.length∧1≤rows.length∧rows.length≤2000∧0≤S∧S < rows.length∧∀ r∈rows,(r.length:Int)=K∧∀ t∈r,-1≤t∧t < rows.length:=by
 simp only [Det.may,Bool.and_eq_true,decide_eq_true_eq,Bool.not_eq_true',List.any_eq_false] at h;obtain ⟨⟨⟨⟨⟨⟨h1,h2⟩,h3⟩,h4⟩,h5⟩,h6⟩,h7⟩:=h;refine ⟨h1,h2,h3,h4,h5,h6,fun r hr=>?_⟩;have h8:=h7 r hr;simp only [Det.badRow,Bool.or_eq_true,decide_eq_true_eq,List.any_eq_true,not_or,not_exists,not_and] at h8;refine ⟨by omega,fun t ht=>?_⟩;have h9:=h8.2 t ht;simp only [Det.badStep,Bool.or_eq_true,decide_eq_true_eq,not_or] at h9;omega
set_option maxRecDepth 100000 in
set_option maxHeartbeats 4000000 in
theorem Qtn (K S:Nat) (vf vn:Value) (fin:List Bool) (rows:List (List Int)) (W:World) (hK:K≤100) (hD:DfaAt W #[.int .i64 K,.int .i64 S,vf,vn] K S fin rows) (hF:Bools W vf fin) (hN:Rows2 W vn rows) :
  Calls Tryz.prog 57 #[.agg #[.int .i64 K,.int .i64 S,vf,vn]] W fun e w'=>(∃ (d:Value) (c:Int),e=.returned (.tuple #[d,.int .i64 c])∧Pr.DfaRes W.heap.size K w' d c)∧Flow.Grow W w':=by
 have HF:=Lib.hid hF;have HN:=Lib.hid hN;have HD:=Lib.hid hD;obtain ⟨af,cf,rfl,_⟩:=id hF;obtain ⟨an,cn,rfl⟩:=hN.val;clear hF hN hD;have Hmake:=Lib.hid (Qe2 K (by omega));have hmm:=Lib.hid (@run_makeMap Tryz.prog);obtain ⟨i0,hi,hz0,hz1,hz2⟩:=info_parts Qe7;obtain ⟨i1,hi1,hy0,hy1,hy2⟩:=info_parts Qd2;obtain ⟨i2,hi2,hx0,hx1,hx2⟩:=info_parts Qbo;obtain ⟨nf,hnf⟩:∃ nf,nf=fin.length:=⟨_,rfl⟩;have Hnf:=Lib.hid hnf;obtain ⟨n,hn⟩:∃ n,n=rows.length:=⟨_,rfl⟩;have Hn:=Lib.hid hn;rw [← hnf] at HF HD ⊢;rw [← hn] at HN HD ⊢;clear hn hnf;go_enter Tryz.func57,Tryz.ntmps57;go_upto_region 1 with fail;have HB0:Hid (((W.alloc (.cells #[.int .i64 K,.int .i64 S,.slice af nf cf,.slice an n cn] 27)).alloc (.cells #[.int .i64 0,.int .i64 0,.slice none 0 0,.slice none 0 0] 27)).heap[W.heap.size]?=some (.cells #[.int .i64 K,.int .i64 S,.slice af nf cf,.slice an n cn] 27 (0,0))):=Lib.hid (by
  rw [Below.heap_alloc _ _ _ (by simp)];exact heap_alloc_new _ _)
 have HB1:Hid (((W.alloc (.cells #[.int .i64 K,.int .i64 S,.slice af nf cf,.slice an n cn] 27)).alloc (.cells #[.int .i64 0,.int .i64 0,.slice none 0 0,.slice none 0 0] 27)).heap[W.heap.size+1]?=some (.cells #[.int .i64 0,.int .i64 0,.slice none 0 0,.slice none 0 0] 27 (0,0))):=Lib.hid (Qbl _ _ _);have HG0:Hid (Flow.Grow W ((W.alloc (.cells #[.int .i64 K,.int .i64 S,.slice af nf cf,.slice an n cn] 27)).alloc (.cells #[.int .i64 0,.int .i64 0,.slice none 0 0,.slice none 0 0] 27))):=Lib.hid ((Flow.grow_alloc _ _).trans (Flow.grow_alloc _ _));generalize (W.alloc (.cells #[.int .i64 K,.int .i64 S,.slice af nf cf,.slice an n cn] 27)).alloc (.cells #[.int .i64 0,.int .i64 0,.slice none 0 0,.slice none 0 0] 27)=w1 at *;obtain ⟨X,hX⟩:∃ X,X=W.heap.size:=⟨_,rfl⟩;rw [← hX] at HB0 HB1 ⊢;have HX:=Lib.hid hX;clear hX;have CX:Hid (∀ wq,Flow.Grow w1 wq→wq.cell? ⟨X,0,none⟩=some (.int .i64 K)∧wq.cell? ⟨X,1,none⟩=some (.int .i64 S)∧wq.cell? ⟨X,2,none⟩=some (.slice af nf cf)∧wq.cell? ⟨X,3,none⟩=some (.slice an n cn)):=Lib.hid (fun wq g=>by
  have hb:wq.heap[X]?=_:=(g.block _ (Array.getElem?_eq_some_iff.1 HB0.out).1 (by simp)).trans HB0.out;exact ⟨(cell_of_row wq _ 0 _ _ _ hb).trans rfl,(cell_of_row wq _ 1 _ _ _ hb).trans rfl,(cell_of_row wq _ 2 _ _ _ hb).trans rfl,(cell_of_row wq _ 3 _ _ _ hb).trans rfl⟩)
 have CR:Hid (∀ wq,Flow.Grow w1 wq→wq.heap[X+1]?=some (.cells #[.int .i64 0,.int .i64 0,.slice none 0 0,.slice none 0 0] 27 (0,0))):=Lib.hid (fun wq g=>(g.block _ (Array.getElem?_eq_some_iff.1 HB1.out).1 (by simp)).trans HB1.out);obtain ⟨c0,c1,c2,c3⟩:=CX.out w1 (Flow.grow_refl _);have HMay:Hid (Calls Tryz.prog 34 #[.agg #[.int .i64 K,.int .i64 S,.slice af nf cf,.slice an n cn]] w1 fun e w'=>e=.returned (.bool (Det.may K S nf rows))∧w'=w1.alloc (.cells #[.int .i64 K,.int .i64 S,.slice af nf cf,.slice an n cn] 27)):=Lib.hid (by
  have h:=Qjd _ K S fin rows w1 (HD.out.grow HG0.out);rw [← Hnf.out] at h;exact h)
 cases hmay:Det.may K S nf rows with
 | false =>
  rw [hmay] at HMay;clear hmay;have HG2:Hid (Flow.Grow w1 (w1.alloc (.cells #[.int .i64 K,.int .i64 S,.slice af nf cf,.slice an n cn] 27))):=Lib.hid (Flow.grow_alloc _ _);go_upto_region 2 with (go_at_call 34;refine HMay.out.mono ?_;rintro e w' ⟨rfl,rfl⟩);generalize w1.alloc (.cells #[.int .i64 K,.int .i64 S,.slice af nf cf,.slice an n cn] 27)=w2 at *;have r2:=CR.out w2 HG2.out;have q0:=(cell_of_row w2 _ 0 _ _ _ r2).trans rfl;have q1:=(cell_of_row w2 _ 1 _ _ _ r2).trans rfl;have q2:=(cell_of_row w2 _ 2 _ _ _ r2).trans rfl;have q3:=(cell_of_row w2 _ 3 _ _ _ r2).trans rfl;have f0:=frozen_of_row w2 (X+1) 0 _ _ r2;have f1:=frozen_of_row w2 (X+1) 1 _ _ r2;have f2:=frozen_of_row w2 (X+1) 2 _ _ r2;have f3:=frozen_of_row w2 (X+1) 3 _ _ r2;clear r2;go_wp2_with fail;refine bodyPost_ret (Qhj _ _ (X+1) _ _ _ _ _ rfl rfl (Qba _ _ _ _ (CR.out w2 HG2.out))) rfl ⟨⟨_,_,rfl,.inl ⟨by decide,rfl⟩⟩,?_⟩;exact Qa2 _ _ _ _ (HG0.out.trans HG2.out) (by rw [HX.out];omega)
 | true =>
  rw [hmay] at HMay;have HM:=Lib.hid hmay;obtain ⟨hm1,hm2,hm3,hm4,hm5,hm6,hm7⟩:=Qoc hmay;rw [← Hn.out] at hm2 hm3 hm4 hm6 hm7;obtain rfl:n=nf:=hm2.symm;have Hrow:=Lib.hid hm7;clear hmay hm7 hm1 hm5;have hSn:S < n:=by omega
  have HG2:Hid (Flow.Grow w1 (w1.alloc (.cells #[.int .i64 K,.int .i64 S,.slice af n cf,.slice an n cn] 27))):=Lib.hid (Flow.grow_alloc _ _);go_upto_region 3 with (go_at_call 34;refine HMay.out.mono ?_;rintro e w' ⟨rfl,rfl⟩);generalize w1.alloc (.cells #[.int .i64 K,.int .i64 S,.slice af n cf,.slice an n cn] 27)=w2 at *;clear c0 c1 c2 c3 HMay;obtain ⟨c0,c1,c2,c3⟩:=CX.out w2 HG2.out;have HCl:Hid (Calls Tryz.prog 81 #[.agg #[.int .i64 K,.int .i64 S,.slice af n cf,.slice an n cn]] w2 fun e w'=>(∃ (v':Value) (cl:List Int),e=.returned v'∧w'.ownsRow w2.heap.size 3 1 v' n (cl.map (Value.int .i64))∧cl.length=n∧∀ i,i < n→-1≤cl.getD i 0∧cl.getD i 0 < n)∧Flow.Grow w2 w'):=Lib.hid (by
   have h:=Qq5 K S (.slice af n cf) (.slice an n cn) fin rows w2 (HD.out.grow (HG0.out.trans HG2.out)) (HF.out.grow (HG0.out.trans HG2.out)) (HN.out.grow (HG0.out.trans HG2.out)) (by rw [← Hnf.out,Hn.out]) (by rw [← Hn.out];exact hm3) (by rw [← Hn.out];exact hm4) (by rw [← Hnf.out];exact HM.out) (fun r hr=>by have:=(Hrow.out r hr).1;omega) (by rw [← Hn.out];exact fun r hr t ht=>((Hrow.out r hr).2 t ht).2);rw [← Hn.out] at h;exact h)
  go_upto_region 4 with (go_at_call 81;refine HCl.out.mono ?_;rintro e w3 ⟨⟨vc,cl,rfl,ho,hl,hr⟩,hg⟩;obtain ⟨ac,cc,rfl⟩:=Qah ho;have HLc:=Lib.hid hl;have HRc:=Lib.hid hr;have HIc:=Lib.hid (Qbz ho hl.symm);have HG3:=Lib.hid (HG2.out.trans hg);clear ho hl hr hg);clear c0 c1 c2 c3 HCl HG2;obtain ⟨_,c1,_,_⟩:=CX.out w3 HG3.out;obtain ⟨lb,lo,rfl,q0⟩:=Qa8 HIc.out (j:=S) (by rw [HLc.out];exact hSn);have hcr:=HRc.out S hSn;generalize hcS:cl.getD S 0=cS at *;have HcS:=Lib.hid hcS;clear hcS;by_cases hneg:cS < 0
  ·have d0:decide (cS < 0)=true:=by simp [hneg]
   have r2:=CR.out w3 HG3.out;have p0:=(cell_of_row w3 _ 0 _ _ _ r2).trans rfl;have p1:=(cell_of_row w3 _ 1 _ _ _ r2).trans rfl;have p2:=(cell_of_row w3 _ 2 _ _ _ r2).trans rfl;have p3:=(cell_of_row w3 _ 3 _ _ _ r2).trans rfl;have f0:=frozen_of_row w3 (X+1) 0 _ _ r2;have f1:=frozen_of_row w3 (X+1) 1 _ _ r2;have f2:=frozen_of_row w3 (X+1) 2 _ _ r2;have f3:=frozen_of_row w3 (X+1) 3 _ _ r2;clear r2;go_wp2_with fail;refine bodyPost_ret (Qhj _ _ (X+1) _ _ _ _ _ rfl rfl (Qba _ _ _ _ (CR.out w3 HG3.out))) rfl ⟨⟨_,_,rfl,.inl ⟨by decide,rfl⟩⟩,?_⟩;exact Qa2 _ _ _ _ (HG0.out.trans HG3.out) (by rw [HX.out];omega)
  ·have d0:decide (cS < 0)=false:=by simp;omega
   obtain ⟨zS,rfl⟩:∃ z:Nat,cS=(z:Int):=⟨cS.toNat,by omega⟩;have hzn:zS < n:=by omega
   go_upto_region 6 with fail;have HMb:Hid (Pr.MapI (w3.alloc (.map #[] 0)) w3.heap.size 0 (.map [])):=Lib.hid (World.ownsMap_made w3 Tryz.prog 3 (plainElem (H:=Unit) Tryz.prog 3));have hmm':=hmm.out;have c1':(w3.alloc (.map #[] 0)).cell? ⟨X,1,none⟩=some (.int .i64 S):=Xm2.cell_grow (Flow.grow_alloc _ _) c1;have q0':(w3.alloc (.map #[] 0)).cell? ⟨lb,lo+S,none⟩=some (.int .i64 (zS:Int)):=Xm2.cell_grow (Flow.grow_alloc _ _) q0;go_upto_region 7 with (refine Qci _ rfl _ _ _ 157 rfl 3 3 Qml Tryz.underlying157 _ w3.heap.size 0 (.map []) rfl HMb.out (by unfold maxLen;omega) (.int .i64 (zS:Int)) (.int .i64 0) _ rfl rfl (Qmm _ (WalkArith.wf_i64 (by omega))) _ [] (plainElem_int Tryz.underlying3 (by decide)) ?_;intro w5 hm5 hk5;have HM5:=Lib.hid hm5;have HK5:=Lib.hid hk5;clear hm5 hk5);clear hmm' c1' q0' c1 q0 HMb;obtain ⟨M,hM⟩:∃ M,M=w3.heap.size:=⟨_,rfl⟩;rw [← hM] at HM5 HK5 ⊢;have HMs:=Lib.hid hM;have HG5:Hid (Flow.Grow w3 w5):=Lib.hid (Qap (Flow.grow_alloc _ _) HK5.out (fun b e=>by injection e with e;omega));clear hM HK5;obtain ⟨c0,c1,_,_⟩:=CX.out w5 (HG3.out.trans HG5.out);have HlB:Hid ((w5.alloc (.cells #[.int .i64 S] 3)).heap[w5.heap.size]?=some (.cells #[.int .i64 S] 3 (0,0))):=Lib.hid (heap_alloc_new _ _);have HGa:Hid (Flow.Grow w5 (w5.alloc (.cells #[.int .i64 S] 3))):=Lib.hid (Flow.grow_alloc _ _);go_upto_region 8 with fail;clear c0 c1;obtain ⟨c0,_,_,_⟩:=CX.out (w5.alloc (.cells #[.int .i64 S] 3)) (HG3.out.trans (HG5.out.trans HGa.out));go_upto_region 9 with fail;have HGb:Hid (Flow.Grow w5 ((w5.alloc (.cells #[.int .i64 S] 3)).alloc (.cells #[.int .i64 K,.int .i64 0,.slice none 0 0,.slice none 0 0] 27))):=Lib.hid (HGa.out.trans (Flow.grow_alloc _ _));have HMO:Hid (Pr.MinOf w3 ((w5.alloc (.cells #[.int .i64 S] 3)).alloc (.cells #[.int .i64 K,.int .i64 0,.slice none 0 0,.slice none 0 0] 27)) w3.heap.size (w5.heap.size+1) M K 1 (.slice (some ⟨w5.heap.size,0,none⟩) 1 1) (.slice none 0 0) (.slice none 0 0) [(S:Int)] [] [] [] ((DataW.map []).put (Mo.ki (zS:Int)) (.lit (.int .i64 0)))):=Lib.hid
    { d:=⟨Qbl _ _ _,World.ownsRow_nil _ _ _ _,World.ownsRow_nil _ _ _ _,rfl,by simp,by simp⟩
      s:=Ql3 HG5.out.size (Qef _ _ _)
      m:=World.ownsMap.kept (row:=none) HM5.out HGb.out (by simp)
      ap:=fun j hj=>by simp at hj
      g:=HG5.out.trans HGb.out
      hB:=Nat.le_refl _
      hG:=by have:=HG5.out.size;omega
      hM:=by have:=HMs.out;omega }
   have HSe:=Lib.hid (Pr.seen_one hzn hSn);clear HM5 HGa HGb HlB c0;generalize (w5.alloc (.cells #[.int .i64 S] 3)).alloc (.cells #[.int .i64 K,.int .i64 0,.slice none 0 0,.slice none 0 0] 27)=w6 at *;obtain ⟨G,hG⟩:∃ G,G=w5.heap.size+1:=⟨_,rfl⟩;obtain ⟨B,hB⟩:∃ B,B=w3.heap.size:=⟨_,rfl⟩;have HBs:=Lib.hid hB;rw [← hG,← hB] at HMO;rw [← hG];generalize ((DataW.map []).put (Mo.ki (zS:Int)) (.lit (.int .i64 0)):DataW Unit)=D0 at *;have hG5:=HG5.out;clear hG hB HMs HG5 hG5;go_wp2_with fail;go_loopw [6,8] (fun vs i wr=>∃ (j:Nat) (vf vn:Value) (ls:List Int) (fin':List Bool) (rows':List (List Int)) (rs:List Nat) (order:List Lit) (D:DataW Unit),j≤ls.length∧1≤ls.length∧i=.int .i64 j∧fin'.length=j∧rows'.length=j∧Hid (Pr.Seen n order ls D)∧Hid (Pr.MinOf w3 wr B G M K ls.length vs vf vn ls fin' rows' rs D)) (fun _ i _=>n+1 - (intOf i).toNat)
   case atStart=>exact ⟨0,_,_,[(S:Int)],[],[],[],_,_,by simp,by simp,rfl,rfl,rfl,HSe,HMO⟩
   case round =>
    clear HSe HMO;obtain ⟨j,vf,vn,ls,fin',rows',rs,order,D,hj,hs1,rfl,hf',hr',HSe,HM'⟩:=hrel
    rename World=>wo
    obtain ⟨vq,hvq⟩:∃ v,v=u6:=⟨_,rfl⟩;obtain ⟨sa,sc,hsa⟩:=Qah HM'.out.s;subst hsa;clear hvq;have hsn2:=HSe.out.le;obtain ⟨sn,hsn⟩:∃ sn,sn=ls.length:=⟨_,rfl⟩;have Hsn:=Lib.hid hsn;rw [← hsn] at hj hs1 hsn2 HM' ⊢;clear hsn;by_cases hjs:j < sn
    ·obtain ⟨c0,_,_,_⟩:=CX.out wo (HG3.out.trans HM'.out.g);have hmake:=Hmake.out wo;go_upto_region 13 with fail;clear hmake c0;have HRw:Hid (∃ row,Pr.MinIn w3 (wo.alloc (.cells (Qaj (List.replicate K 0)) 3)) B G M K sn (.slice sa sn sc) vf vn ls fin' rows' rs D wo.heap.size row):=Lib.hid ⟨_,HM'.out.mkRow (heap_alloc_new _ _) (by simp)⟩;obtain ⟨R,hR⟩:∃ R,R=wo.heap.size:=⟨_,rfl⟩;rw [← hR] at HRw ⊢;clear hR;generalize wo.alloc (.cells (Qaj (List.replicate K 0)) 3)=w8 at *;clear HM';obtain ⟨row0,hrow0⟩:=HRw.out;have HR0:=Lib.hid hrow0;clear hrow0 HRw;obtain ⟨_,_,_,c3⟩:=CX.out w8 (HG3.out.trans HR0.out.g);obtain ⟨g0,go0,hgo,q0⟩:=Qa8 (Qbz HR0.out.s rfl) (j:=j) (by rw [← Hsn.out];exact hjs);obtain ⟨g0',rfl⟩:∃ g,sa=some ⟨g,0,none⟩:=by
      rcases HR0.out.s.2 with ⟨h1,h2⟩ | ⟨g,cap,cur,h1,_⟩
      ·have:=Hsn.out;omega
      ·injection h1 with h1;exact ⟨g,h1⟩
     cases hgo;rw [Nat.zero_add] at q0;have hsr:=HSe.out.states (ls.getD j 0) (Qa5 (by rw [← Hsn.out];exact hjs));generalize hls:ls.getD j 0=st at *;have Hls:=Lib.hid hls;clear hls;obtain ⟨x,rfl⟩:∃ x:Nat,st=(x:Int):=⟨st.toNat,by omega⟩;have hxn:x < n:=by omega
     have hxr:x < rows.length:=by rw [← Hn.out];exact hxn
     obtain ⟨rb,ro,rcp,hv,_,hrc⟩:=(HN.out.grow (HG0.out.trans HG3.out)).shape (by intro e;rw [e] at hxr;simp at hxr);injection hv with hv1 hv2 hv3;subst hv1 hv3;clear hv2;obtain ⟨u,huc,hux⟩:=hrc x hxr;clear hrc;have hrl:=(Hrow.out _ (Qa5 (d:=[]) hxr)).1;have HRt:Hid (∀ t∈rows.getD x [],-1≤t∧t < n):=Lib.hid (Hrow.out _ (Qa5 (d:=[]) hxr)).2;clear hxr;generalize rows.getD x []=nrow at *;obtain ⟨ra,rc,rfl,_⟩:=id hux;have HUX:=Lib.hid hux;have Hnl:Hid (nrow.length=K):=Lib.hid (by omega);rw [Hnl.out] at huc;replace huc:=Xm2.cell_grow HR0.out.g huc;clear hux hrl;have hxi:(0:Int)≤(x:Int):=by omega
     have hxi2:(x:Int) < (n:Int):=by omega
     have hji:(0:Int)≤(j:Int):=by omega
     have hji2:(j:Int) < (sn:Int):=by omega
     go_region;have HRd:Hid (∃ row,Pr.MinIn w3 w8.drew B G M K sn (.slice (some ⟨g0,0,none⟩) sn sc) vf vn ls fin' rows' rs D R row):=Lib.hid ⟨_,HR0.out.grow (Flow.grow_drew _)⟩;generalize w8.drew=w9 at *;clear huc HR0 q0 c3;go_wp2_with fail;go_loopw [6,58] (fun vs i wr=>∃ (c:Nat) (ls':List Int) (order':List Lit) (D':DataW Unit),c≤K∧i=.int .i64 c∧sn≤ls'.length∧Hid (Pr.Seen n order' ls' D')∧Hid (∃ row,Pr.MinIn w3 wr B G M K ls'.length vs vf vn ls' fin' rows' rs D' R row)) (fun _ i _=>K - (intOf i).toNat)
     case atStart=>exact ⟨0,ls,order,D,by omega,rfl,by rw [← Hsn.out];omega,HSe,by rw [← Hsn.out];exact HRd⟩
     case round =>
      clear HRd HSe Hls;obtain ⟨c,ls',order',D',hcK,rfl,hs3,HSe,HRx⟩:=hrel
      rename World=>wi
      obtain ⟨row',hrow'⟩:=HRx.out;have HR:=Lib.hid hrow';obtain ⟨vq',hvq⟩:∃ v,v=u6:=⟨_,rfl⟩;obtain ⟨sa,sc',hsa⟩:=Qah HR.out.s;subst hsa;have hsn3:=HSe.out.le;obtain ⟨tn,htn⟩:∃ tn,tn=ls'.length:=⟨_,rfl⟩;have Htn:=Lib.hid htn;rw [← htn] at hs3 hsn3 HR ⊢;clear hvq hrow' HRx htn;by_cases hcK':c < K
      ·obtain ⟨kb,ko,rfl,q0⟩:=Qa8 (HUX.out.grow HR.out.g) (j:=c) (by rw [Hnl.out];exact hcK');have htr:=HRt.out (nrow.getD c 0) (Qa5 (by rw [Hnl.out];exact hcK'));generalize nrow.getD c 0=tt at *;have y0:=(cell_of_row _ R c _ _ _ HR.out.hb).trans (Qa1 (by rw [HR.out.rl];exact hcK'));have f0:=frozen_of_row _ R c _ _ HR.out.hb;by_cases ht0:tt < 0
       ·have d1:decide (tt < 0)=true:=by simp [ht0]
        clear ht0 htr;go_wp2_with fail;go_roundw
        case rel=>exact ⟨c+1,ls',order',D',by omega,by go_num,by rw [← Htn.out];omega,HSe,by rw [← Htn.out];exact Lib.hid ⟨_,HR.out.set c (-1)⟩⟩
        case measure=>simp [intOf];omega
       ·have d1:decide (tt < 0)=false:=by simp;omega
        obtain ⟨z,rfl⟩:∃ z:Nat,tt=(z:Int):=⟨tt.toNat,by omega⟩;have hzn':z < n:=by omega
        clear ht0 htr;obtain ⟨lb',lo',hlb,p0⟩:=Qa8 (HIc.out.grow HR.out.g) (j:=z) (by rw [HLc.out];exact hzn');cases hlb;have hcz:=HRc.out z hzn';generalize cl.getD z 0=cz at *;by_cases hc0:cz < 0
        ·have d2:decide (cz < 0)=true:=by simp [hc0]
         clear hc0 hcz;go_wp2_with fail;go_roundw
         case rel=>exact ⟨c+1,ls',order',D',by omega,by go_num,by rw [← Htn.out];omega,HSe,by rw [← Htn.out];exact Lib.hid ⟨_,HR.out.set c (-1)⟩⟩
         case measure=>simp [intOf];omega
        ·have d2:decide (cz < 0)=false:=by simp;omega
         obtain ⟨q,rfl⟩:∃ q:Nat,cz=(q:Int):=⟨cz.toNat,by omega⟩;have hqn:q < n:=by omega
         clear hc0 hcz;cases hh:Maps.has D' (Mo.ki (q:Int)) with
         | true =>
          have Hh:=Lib.hid hh;clear hh;go_upto_region 23 with (at_lookup;refine wpList_lookup_own_ok_int _ rfl _ _ 157 rfl 3 3 .i64 Qml Tryz.underlying157 Tryz.underlying3 (Qdh _) M tn D' rfl HR.out.m (.int .i64 (q:Int)) _ rfl (Qmm _ (WalkArith.wf_i64 (by omega))) ?_;intro ccx hat hwc;rw [Hh.out];clear hat);go_wp2_with fail;go_roundw
          case rel=>exact ⟨c+1,ls',order',D',by omega,by go_num,by rw [← Htn.out];omega,HSe,by rw [← Htn.out];exact Lib.hid ⟨_,HR.out.set c _⟩⟩
          case measure=>simp [intOf];omega
         | false =>
          have Hh:=Lib.hid hh;have HSn:=Lib.hid (HSe.out.push hqn hzn' hh);clear hh;go_upto_region 22 with (first
           | (at_lookup;refine wpList_lookup_own_ok_int _ rfl _ _ 157 rfl 3 3 .i64 Qml Tryz.underlying157 Tryz.underlying3 (Qdh _) M tn D' rfl HR.out.m (.int .i64 (q:Int)) _ rfl (Qmm _ (WalkArith.wf_i64 (by omega))) ?_;intro ccx hat hwc;rw [Hh.out];clear hat)
           | (at_mapUpdate;refine wpList_mapUpdate_own _ rfl _ _ _ 157 rfl 3 3 Qml Tryz.underlying157 _ M tn D' rfl HR.out.m (by unfold maxLen;omega) (.int .i64 (q:Int)) (.int .i64 (tn:Int)) _ rfl rfl (Qmm _ (WalkArith.wf_i64 (by omega))) _ [] (plainElem_int Tryz.underlying3 (WalkArith.wf_i64 (by omega))) ?_;intro wm hm hk;have HRm:=Lib.hid (HR.out.upd hk hm);clear hm hk))
          clear HR y0 f0 q0 p0;have HSm:Hid (wm.ownsRow B 3 1 (.slice sa tn sc') tn (ls'.map (Value.int .i64))):=Lib.hid (by have h1:=HRm.out.s;rw [← Htn.out] at h1;exact h1);have hBm:B≤wm.heap.size:=by have h1:=HRm.out.g.size;have h2:=HBs.out;omega
          go_upto_region 23 with (at_builtin;refine Qbp B rfl _ _ 49 rfl 3 i2 (.int .i64 0) 8 Tryz.underlying49 hi2 hx0 hx1 hx2 rfl (.slice sa tn sc') tn _ rfl (Qab HSm.out (Flow.grow_alloc _ _)) (by simp;omega) _ (.int .i64 (z:Int)) 3 rfl (heap_alloc_new _ _) rfl (by omega) (by decide) ?_;intro g c2 w' hO hk hat;have HOp:=Lib.hid hO;have HKp:=Lib.hid hk;have HAp:=Lib.hid hat;clear hO hk hat);have HRp:Hid (Pr.MinIn w3 w' B G M K (tn+1) (.slice (some ⟨g,0,none⟩) (tn+1) c2) vf vn (ls'++[(z:Int)]) fin' rows' rs _ R row'):=Lib.hid (by
           have h1:=HRm.out.grow (Flow.grow_alloc wm (.cells #[.int .i64 (z:Int)] 3));have h3:=HOp.out;have h5:=HKp.out;have h6:=HAp.out;rw [Htn.out] at h1 h3 h5 h6;have h4:=h1.app h3 h5 h6;rw [← Htn.out] at h4;exact h4)
          clear HRm HSm HOp HKp HAp;have y0:=(cell_of_row _ R c _ _ _ HRp.out.hb).trans (Qa1 (by rw [HRp.out.rl];exact hcK'));have f0:=frozen_of_row _ R c _ _ HRp.out.hb;have HRq:=Lib.hid (HRp.out.set c (tn:Int));clear HRp;go_wp2_with fail;go_roundw
          case rel=>exact ⟨c+1,ls'++[(z:Int)],_,_,by omega,by go_num,by rw [List.length_append,← Htn.out];omega,HSn,by rw [List.length_append,← Htn.out];exact Lib.hid ⟨_,HRq.out⟩⟩
          case measure=>simp [intOf];omega
      ·obtain rfl:K=c:=by omega
       obtain ⟨na,nc,rfl⟩:=Qaw HR.out.d.nexts;have c3:=HR.out.d.cell 3;have HOn:Hid (wi.ownsRow (G+1) 49 1 (.slice na j nc) j (rs.map fun g=>Value.slice (some ⟨g,0,none⟩) K K)):=Lib.hid (by have h1:=HR.out.d.nexts;rw [hr'] at h1;exact h1);have Hr':=Lib.hid hr';have Hf':=Lib.hid hf';rw [hr'] at HR c3;have hjb:j≤2000:=by omega
       have hGb:G+1≤wi.heap.size:=HR.out.d.lt;clear hr' hf';go_upto_region 26 with (at_builtin;refine Qbp (G+1) rfl _ _ 25 rfl 49 i0 (.slice none 0 0) 24 Tryz.underlying25 hi hz0 hz1 hz2 rfl (.slice na j nc) j _ rfl (Qab HOn.out (Flow.grow_alloc _ _)) (by simp;omega) _ (.slice (some ⟨R,0,none⟩) K K) 49 rfl (heap_alloc_new _ _) rfl (by omega) (by decide) ?_;intro g c2 w' hO hk hat;have HOp:=Lib.hid hO;have HKp:=Lib.hid hk;have hb1:=HR.out.d.after hk (fun b e=>(HOn.out.lt b e).1);have y0:=(cell_of_row w' _ 3 _ _ _ hb1).trans rfl;have f0:=frozen_of_row w' G 3 _ _ hb1;clear hO hk hat hb1);have HD2:Hid (Pr.MinOf w3 (w'.setCell ⟨G,3,none⟩ (.slice (some ⟨g,0,none⟩) (j+1) c2)) B G M K tn (.slice sa tn sc') vf (.slice (some ⟨g,0,none⟩) (j+1) c2) ls' fin' (rows'++[row']) (rs++[R]) D'):=Lib.hid (by
        have h1:=HOp.out;have h2:=HR.out;have h3:=HKp.out;rw [← Hr'.out] at h1 h2 h3 ⊢;exact h2.done h1 h3)
       generalize w'.setCell ⟨G,3,none⟩ (.slice (some ⟨g,0,none⟩) (j+1) c2)=wz at *;clear HR HOn HOp HKp y0 f0 c3;obtain ⟨fa,fc,rfl⟩:=Qaw HD2.out.d.finals;have HFn:Hid (wz.ownsRow (G+1) 4 1 (.slice fa j fc) j (fin'.map Value.bool)):=Lib.hid (by have h1:=HD2.out.d.finals;rw [Hf'.out] at h1;exact h1);rw [Hf'.out] at HD2;obtain ⟨g1,go1,hgo,qq⟩:=Qa8 (Qbz HD2.out.s rfl) (j:=j) (by rw [← Htn.out];omega);obtain ⟨g1',rfl⟩:∃ g,sa=some ⟨g,0,none⟩:=by
        rcases HD2.out.s.2 with ⟨h1,h2⟩ | ⟨g,cap,cur,h1,_⟩
        ·have:=Htn.out;omega
        ·injection h1 with h1;exact ⟨g,h1⟩
       cases hgo;rw [Nat.zero_add] at qq;have hsr2:=HSe.out.states (ls'.getD j 0) (Qa5 (by rw [← Htn.out];omega));generalize ls'.getD j 0=st2 at *;obtain ⟨y,rfl⟩:∃ y:Nat,st2=(y:Int):=⟨st2.toNat,by omega⟩;have hyn:y < n:=by omega
       obtain ⟨fb,fo,rfl,qf⟩:=Qep (HF.out.grow (HG0.out.trans HG3.out)) (j:=y) (by rw [← Hnf.out];exact hyn);generalize fin.getD y false=fy at *;have HQ2:Hid (∀ wq,Flow.Grow wz wq→wq.cell? ⟨g1,j,none⟩=some (.int .i64 (y:Int))∧wq.cell? ⟨fb,fo+y,none⟩=some (.bool fy)):=Lib.hid (fun wq g=>⟨Xm2.cell_grow g qq,Xm2.cell_grow (HD2.out.g.trans g) qf⟩);have hjt:(j:Int) < (tn:Int):=by omega
       have hGz:G+1≤wz.heap.size:=HD2.out.d.lt;have HI1:=Lib.hid (And.intro hi1 (And.intro hy0 (And.intro hy1 hy2)));refine Flow.region_tail3 (R:=Flow.Grow) (C:=fun wq=>Flow.Grow wz wq) (Fs:=[.inl (.pointer (some ⟨G,2,none⟩)),.inl (.slice fa j fc),.inl (.pointer (some ⟨X,2,none⟩)),.inl (.slice (some ⟨fb,fo,none⟩) n cf),.inl ((.slice (some ⟨g1,0,none⟩) tn sc')),.inl ((.int .i64 (j:Int))),.inl (.pointer (some ⟨g1,j,none⟩)),.inl (.int .i64 (y:Int)),.inl (.pointer (some ⟨fb,fo+y,none⟩)),.inl (.bool fy),.inr (fun v w=>∃ q,v=.slice (some ⟨q,0,none⟩) 1 1∧w.heap[q]?=some (.cells #[.bool fy] 4 (0,0)))]) (T:=fun v w'=>∃ gp cp,v=.slice (some ⟨gp,0,none⟩) (j+1) cp∧Hid (w'.heap[G]?=some (.cells #[.int .i64 K,.int .i64 0,.slice fa j fc,.slice (some ⟨g,0,none⟩) (j+1) c2] 27 (0,0))∧Pr.MinOf w3 (w'.setCell ⟨G,2,none⟩ v) B G M K tn (.slice (some ⟨g1,0,none⟩) tn sc') v (.slice (some ⟨g,0,none⟩) (j+1) c2) ls' (fin'++[fy]) (rows'++[row']) (rs++[R]) D')) (c:=.pointer (some ⟨G,2,none⟩))
        (S:=[[],[0],[],[2],[],[],[4,5],[4,5,6],[2,3,4,5,6,7],[2,3,4,5,6,7,8],[2,3,4,5,6,7,8,9],[0,1,2,3,4,5,6,7,8,9,10]]) 11 (by kernel_rfl) rfl rfl rfl (by kernel_rfl) (by kernel_rfl) rfl ?stab26 Flow.grow_refl (fun _ _ h k=>h.trans k) (Flow.grow_drew _) ?ones26 ?app26 ?place26 ?ends26
       case ones26 =>
        refine Flow.Ones.cons ?_ ?_
        ·intro a w hC hoff _;have e7:a.eval (.tmp 7)=(.pointer (some ⟨G,0,none⟩)):=hoff.at 7 (by kernel_rfl);refine .inl ⟨Flow.want_none rfl,?_⟩;refine Flow.run_same ?_ Flow.grow_refl;have ec:=Flow.eval_const a;generalize a.eval=ρ at e7 ec ⊢;simp [execOp,e7,go_sem]
        refine Flow.Ones.cons ?_ ?_
        ·rintro a w hC hoff ⟨k0,-⟩;have e109:a.eval (.tmp 109)=.pointer (some ⟨G,2,none⟩):=k0 109 rfl;refine .inl ⟨Flow.want_none rfl,?_⟩;refine Flow.run_same ?_ Flow.grow_refl;have ec:=Flow.eval_const a;generalize a.eval=ρ at e109 ec ⊢;have hc:=(cell_of_row w G 2 _ _ _ (HD2.out.grow hC).d.block).trans rfl;simp [execOp,e109,hc,go_sem]
        refine Flow.Ones.cons ?_ ?_
        ·intro a w hC hoff _;have e1:a.eval (.tmp 1)=(.pointer (some ⟨X,0,none⟩)):=hoff.at 1 (by kernel_rfl);refine .inl ⟨Flow.want_none rfl,?_⟩;refine Flow.run_same ?_ Flow.grow_refl;have ec:=Flow.eval_const a;generalize a.eval=ρ at e1 ec ⊢;simp [execOp,e1,go_sem]
        refine Flow.Ones.cons ?_ ?_
        ·rintro a w hC hoff ⟨k2,-⟩;have e111:a.eval (.tmp 111)=.pointer (some ⟨X,2,none⟩):=k2 111 rfl;refine .inl ⟨Flow.want_none rfl,?_⟩;refine Flow.run_same ?_ Flow.grow_refl;have ec:=Flow.eval_const a;generalize a.eval=ρ at e111 ec ⊢;obtain ⟨_,_,hc,_⟩:=CX.out w (HG3.out.trans (HD2.out.g.trans hC));simp [execOp,e111,hc,go_sem]
        refine Flow.Ones.cons ?_ ?_
        ·intro a w hC hoff _;have e6:a.eval (.tmp 6)=(.slice (some ⟨g1,0,none⟩) tn sc'):=hoff.at 6 (by kernel_rfl);refine .inl ⟨Flow.want_none rfl,?_⟩;exact Flow.run_same (Flow.exec_move (.inl rfl) e6) Flow.grow_refl
        refine Flow.Ones.cons ?_ ?_
        ·intro a w hC hoff _;have e8:a.eval (.tmp 8)=(.int .i64 (j:Int)):=hoff.at 8 (by kernel_rfl);refine .inl ⟨Flow.want_none rfl,?_⟩;exact Flow.run_same (Flow.exec_move (.inl rfl) e8) Flow.grow_refl
        refine Flow.Ones.cons ?_ ?_
        ·rintro a w hC hoff ⟨k4,k5,-⟩;have e113:a.eval (.tmp 113)=(.slice (some ⟨g1,0,none⟩) tn sc'):=k4 113 rfl;have e114:a.eval (.tmp 114)=(.int .i64 (j:Int)):=k5 114 rfl;refine .inl ⟨Flow.want_none rfl,?_⟩;refine Flow.run_same ?_ Flow.grow_refl;have ec:=Flow.eval_const a;generalize a.eval=ρ at e113 e114 ec ⊢;simp [execOp,e113,e114,go_sem];intro hh;omega
        refine Flow.Ones.cons ?_ ?_
        ·rintro a w hC hoff ⟨_,_,k6,-⟩;have e115:a.eval (.tmp 115)=.pointer (some ⟨g1,j,none⟩):=k6 115 rfl;refine .inl ⟨Flow.want_none rfl,?_⟩;refine Flow.run_same ?_ Flow.grow_refl;have ec:=Flow.eval_const a;generalize a.eval=ρ at e115 ec ⊢;have hc:=(HQ2.out w hC).1;simp [execOp,e115,hc,go_sem]
        refine Flow.Ones.cons ?_ ?_
        ·rintro a w hC hoff ⟨_,k3,_,_,_,k7,-⟩;have e112:a.eval (.tmp 112)=.slice (some ⟨fb,fo,none⟩) n cf:=k3 112 rfl;have e116:a.eval (.tmp 116)=.int .i64 (y:Int):=k7 116 rfl;refine .inl ⟨Flow.want_none rfl,?_⟩;refine Flow.run_same ?_ Flow.grow_refl;have ec:=Flow.eval_const a;generalize a.eval=ρ at e112 e116 ec ⊢;simp [execOp,e112,e116,go_sem];intro hh;omega
        refine Flow.Ones.cons ?_ ?_
        ·rintro a w hC hoff ⟨_,_,_,_,_,_,k8,-⟩;have e117:a.eval (.tmp 117)=.pointer (some ⟨fb,fo+y,none⟩):=k8 117 rfl;refine .inl ⟨Flow.want_none rfl,?_⟩;refine Flow.run_same ?_ Flow.grow_refl;have ec:=Flow.eval_const a;generalize a.eval=ρ at e117 ec ⊢;have hc:=(HQ2.out w hC).2;simp [execOp,e117,hc,go_sem]
        refine Flow.Ones.cons ?_ ?_
        ·rintro a w hC hoff ⟨_,_,_,_,_,_,_,k9,-⟩;have e118:a.eval (.tmp 118)=.bool fy:=k9 118 rfl;refine .inl ⟨Flow.want_none rfl,?_⟩;refine Flow.run_val (v:=.slice (some ⟨w.heap.size,0,none⟩) 1 1) (w':=w.alloc (.cells #[.bool fy] 4)) ?_ (Flow.grow_alloc _ _) ⟨_,rfl,heap_alloc_new _ _⟩;generalize a.eval=ρ at e118 ⊢;simp [execOp,e118,go_sem]
        exact trivial
       case place26 =>
        intro a w hoff;have e7:a.eval (.tmp 7)=(.pointer (some ⟨G,0,none⟩)):=hoff.at 7 (by kernel_rfl);generalize a.eval=ρ at e7 ⊢;simp [execOp,e7,go_sem]
       case app26 =>
        intro a w hC hoff hk;have e110:a.eval (.tmp 110)=.slice fa j fc:=hk 1 (by decide) 110 rfl;have e119:(fun v w=>∃ q,v=.slice (some ⟨q,0,none⟩) 1 1∧w.heap[q]?=some (.cells #[.bool fy] 4 (0,0))) (a.eval (.tmp 119)) w:=hk 10 (by decide) 119 rfl;obtain ⟨q,hq,hrow⟩:=e119;have hd:=HD2.out.grow hC;have hown:=Qab HFn.out hC;have Q:=HI1.out;refine Qg0 (P:=Tryz.prog) (.tmp 110) (.tmp 119) 24 rfl 4 i1 (.bool false) 1 1 Tryz.underlying24 Q.1 Q.2.1 Q.2.2.1 Q.2.2.2 rfl (by decide) (.slice fa j fc) j (fin'.map Value.bool) e110 (Qhs hown) ⟨q,0,none⟩ 1 1 [.bool fy] hq rfl
         (by
           intro i u hi;have c0:=(cell_of_row w q 0 _ _ _ hrow).trans rfl
           match i,hi with
           | 0,hi=>rw [← hi,Addr.add_lit];exact c0)
         (by intro u hu;simp at hu;subst hu;rfl) (by unfold maxLen;omega) (by omega) (fun v' w' h2 h3 h4=>?_)
        have h5:w'.ownsRow (G+1) 4 1 v' (j+1) (fin'.map Value.bool++[.bool fy]):=Qht h2 (fun g hg=>by
         rcases h4 with h4 | ⟨g',h4,h6⟩
         ·rw [h4] at hg;exact (hown.lt g hg).1
         ·rw [h4] at hg;injection hg with hg;have:=hC.size;omega)
        have h7:=hd.addFin' (x:=fy) (v':=v') (by rw [Hf'.out];exact h5) h3;obtain ⟨gp,cp,hv'⟩:∃ g c,v'=.slice (some ⟨g,0,none⟩) (j+1) c:=by
         rcases h2.2 with ⟨h,h0⟩ | ⟨g,cap,cur,h,_⟩
         ·omega
         ·exact ⟨g,cap,h⟩
        exact ⟨gp,cp,hv',Lib.hid h7⟩
       case stab26=>exact ⟨fun v w w' hR ⟨q,h1,h2⟩=>⟨q,h1,(hR.block q (Array.getElem?_eq_some_iff.1 h2).1 (by simp)).trans h2⟩,trivial⟩
       case ends26 =>
        intro wy;simp only [List.take_succ_cons,List.take_zero,List.replicate,List.cons_append,List.nil_append,Flow.ends];simp only [Act.put,List.setIfInBounds_toArray,List.set_cons_succ,List.set_cons_zero]
        iterate 11 (intro _ _)
        intro v120 h120;obtain ⟨gp,cp,rfl,hT⟩:=h120;have y2:=(cell_of_row wy G 2 _ _ _ hT.out.1).trans rfl;have yf:=frozen_of_row wy G 2 _ _ hT.out.1;unfold Oper.wp;simp [execOp,y2,yf,go_sem];have HD3:=Lib.hid hT.out.2;clear hT y2 yf HD2 HFn HQ2 qq qf;go_wp2_with fail;go_roundw
        case rel=>exact ⟨j+1,_,_,ls',fin'++[fy],rows'++[row'],rs++[R],order',D',by rw [← Htn.out];omega,by rw [← Htn.out];omega,by go_num,by rw [List.length_append,Hf'.out];rfl,by rw [List.length_append,Hr'.out];rfl,HSe,by rw [← Htn.out];exact HD3⟩
        case measure=>simp [intOf];omega
    ·obtain rfl:j=sn:=by omega
     have hG:=HM'.out.d.block;have c0:=(cell_of_row wo G 0 _ _ _ hG).trans rfl;have c1:=(cell_of_row wo G 1 _ _ _ hG).trans rfl;have c2:=(cell_of_row wo G 2 _ _ _ hG).trans rfl;have c3:=(cell_of_row wo G 3 _ _ _ hG).trans rfl;have r2:=CR.out wo (HG3.out.trans HM'.out.g);have q0:=(cell_of_row wo _ 0 _ _ _ r2).trans rfl;have q1:=(cell_of_row wo _ 1 _ _ _ r2).trans rfl;have q2:=(cell_of_row wo _ 2 _ _ _ r2).trans rfl;have q3:=(cell_of_row wo _ 3 _ _ _ r2).trans rfl;have f0:=frozen_of_row wo (X+1) 0 _ _ r2;have f1:=frozen_of_row wo (X+1) 1 _ _ r2;have f2:=frozen_of_row wo (X+1) 2 _ _ r2;have f3:=frozen_of_row wo (X+1) 3 _ _ r2;obtain ⟨fa,fc,rfl⟩:=Qaw HM'.out.d.finals;obtain ⟨na,nc,rfl⟩:=Qaw HM'.out.d.nexts;have Hf':=Lib.hid hf';have Hr':=Lib.hid hr';clear hf' hr';have hXG:X+1 < G:=by have h1:=(Array.getElem?_eq_some_iff.1 HB1.out).1;have h2:=HM'.out.hG;have h3:=HG3.out.size;omega
     clear r2 hG;go_wp2_with fail;refine bodyPost_ret (Qhj _ _ (X+1) _ _ _ _ _ rfl rfl (Qba _ _ _ _ (CR.out wo (HG3.out.trans HM'.out.g)))) rfl ⟨⟨_,_,rfl,.inr ⟨rfl,G,_,_,fin',rows',rs,rfl,((((HM'.out.d.old hXG _ _).old hXG _ _).old hXG _ _).old hXG _ _),by rw [Hf'.out,Hr'.out],by rw [Hr'.out];exact hs1,by rw [Hr'.out];omega,by have h1:=HG0.out.size;have h2:=HM'.out.hG;have h3:=HG3.out.size;omega⟩⟩,?_⟩;exact Qa2 _ _ _ _ (HG0.out.trans (HG3.out.trans HM'.out.g)) (by rw [HX.out];omega)
end Go.Proofs.YtcpodmjcgfgmnaaGreat
