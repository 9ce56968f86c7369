/- What galliardref23.Space's loops hold. No program but for types' numbers. -/
import Derived.Test.YtcpodmjcgfgmnaaMEx
namespace Go.Proofs.Ytcpodmjcgfgmnaa
open Go.RowKit Go.Maps
namespace As
open Pr
theorem mask_app {w w':World} {l1 l2:List Value} {v v':Value} (k:w.grownBy w' v.ownBlock) (hv:∀ b,v'.ownBlock=some b→v.ownBlock=some b∨w.heap.size≤b):Sub (mask w (obs (l1++v :: l2))) (mask w' (obs (l1++v' :: l2))) :=
 mask_sub k.size fun b hb hn=>by
  have n1:∀ u∈l1,u.ownBlock≠some b:=fun u hu e=>hn (mem_obs.2 ⟨u,by simp [hu],e⟩)
  have n2:∀ u∈l2,u.ownBlock≠some b:=fun u hu e=>hn (mem_obs.2 ⟨u,by simp [hu],e⟩)
  have n3:v.ownBlock≠some b:=fun e=>hn (mem_obs.2 ⟨v,by simp,e⟩)
  refine ⟨fun hm=>?_,k.block b hb fun e=>n3 e.symm⟩
  obtain ⟨u,hu,e⟩:=mem_obs.1 hm
  rw [List.mem_append,List.mem_cons] at hu
  rcases hu with hu | rfl | hu
  ·exact n1 u hu e
  ·rcases hv b e with e | e
   ·exact n3 e
   ·omega
  ·exact n2 u hu e
def rcCells (cs:List (Value × Value)):List Value:=cs.flatMap fun c=>[c.1,c.2]
theorem rcCells_snoc (l:List (Value × Value)) (s:Value × Value):rcCells (l++[s])=rcCells l++[s.1,s.2]:=by simp [rcCells]
structure SpD (W w:World) (av tv bv:Value) (Lx:List Value) (cs:List (Value × Value)) (all:List Cfg) (rows:List Value) (rl:List (List Nat)) (bl:List Bool):Prop where
 grow:Flow.Grow W w
 hcs:cs.length=all.length
 aown:w.ownsRow W.heap.size 46 2 av all.length (rcCells cs)
 hrl:rows.length=rl.length
 town:w.ownsRow W.heap.size 39 1 tv rl.length rows
 bown:w.ownsRow W.heap.size 4 1 bv bl.length (bl.map Value.bool)
 cfg:∀ j,j < all.length→CfgAt (mask w (obs (av :: tv :: bv :: Lx))) (cs.getD j (undef,undef)).1 (cs.getD j (undef,undef)).2 (all.getD j first)
 row:∀ j,j < rl.length→Ints (mask w (obs (av :: tv :: bv :: Lx))) (rows.getD j undef) ((rl.getD j []).map Int.ofNat)
section
variable {W w w' w1:World} {av tv bv:Value} {Lx:List Value} {cs:List (Value × Value)} {all:List Cfg} {rows:List Value} {rl:List (List Nat)} {bl:List Bool}
theorem SpD.grow_ (h:SpD W w av tv bv Lx cs all rows rl bl) (g:Flow.Grow w w'):SpD W w' av tv bv Lx cs all rows rl bl where
 grow:=h.grow.trans g
 hcs:=h.hcs
 aown:=own_keep h.aown g
 hrl:=h.hrl
 town:=own_keep h.town g
 bown:=own_keep h.bown g
 cfg:=fun j hj=>(h.cfg j hj).sub (mask_grow g)
 row:=fun j hj=>(h.row j hj).sub (mask_grow g)
theorem spL_sub {Ly:List Value} (g:Flow.Grow w w') (hy:∀ u∈Ly,∀ b,u.ownBlock=some b→b∈obs Lx∨w.heap.size≤b):Sub (mask w (obs (av :: tv :: bv :: Lx))) (mask w' (obs (av :: tv :: bv :: Ly))):=mask_sub g.size fun b hb hn=>by
 refine ⟨fun hm=>?_,g.block b hb (by simp)⟩
 obtain ⟨u,hu,e⟩:=mem_obs.1 hm
 simp only [List.mem_cons] at hu
 rcases hu with rfl | rfl | rfl | hu
 ·exact hn (mem_obs.2 ⟨u,by simp,e⟩)
 ·exact hn (mem_obs.2 ⟨u,by simp,e⟩)
 ·exact hn (mem_obs.2 ⟨u,by simp,e⟩)
 ·rcases hy u hu b e with e1 | e1
  ·obtain ⟨u',hu',e'⟩:=mem_obs.1 e1
   exact hn (mem_obs.2 ⟨u',by simp [hu'],e'⟩)
  ·omega
theorem SpD.lx (h:SpD W w av tv bv Lx cs all rows rl bl) (g:Flow.Grow w w') {Ly:List Value} (hy:∀ u∈Ly,∀ b,u.ownBlock=some b→b∈obs Lx∨w.heap.size≤b):SpD W w' av tv bv Ly cs all rows rl bl :=
 { h.grow_ g with cfg:=fun j hj=>(h.cfg j hj).sub (spL_sub g hy),row:=fun j hj=>(h.row j hj).sub (spL_sub g hy) }
theorem SpD.byRow {nv nv':Value} {m:Nat} {xs:List Value} (h:SpD W w av tv bv [nv] cs all rows rl bl) (hn:w.ownsRow W.heap.size 3 1 nv m xs) (k:w.grownBy w' nv.ownBlock) (hv:∀ b,nv'.ownBlock=some b→nv.ownBlock=some b∨w.heap.size≤b):SpD W w' av tv bv [nv'] cs all rows rl bl :=
 have hs:Sub (mask w (obs (av :: tv :: bv :: [nv]))) (mask w' (obs (av :: tv :: bv :: [nv']))):=mask_app (l1:=[av,tv,bv]) (l2:=[]) k hv
 { grow:=grow_row h.grow k (fun b e=>(hn.lt b e).1)
   hcs:=h.hcs
   aown:=h.aown.kept k (Pr.own_apart h.aown hn (by decide))
   hrl:=h.hrl
   town:=h.town.kept k (Pr.own_apart h.town hn (by decide))
   bown:=h.bown.kept k (Pr.own_apart h.bown hn (by decide))
   cfg:=fun j hj=>(h.cfg j hj).sub hs
   row:=fun j hj=>(h.row j hj).sub hs }
theorem SpD.pushCfg {g c:Nat} {vS vB:Value} {d:Cfg} (h:SpD W w av tv bv Lx cs all rows rl bl)
  (hown:w'.ownsRow W.heap.size 46 2 (.slice (some ⟨g,0,none⟩) (all.length+1) c) (all.length+1) (rcCells cs++[vS,vB])) (k:w.grownBy w' av.ownBlock) (hat:av.ownBlock=some g∨g=w.heap.size)
  (hd:CfgAt (mask w (obs (av :: tv :: bv :: Lx))) vS vB d) :
  SpD W w' (.slice (some ⟨g,0,none⟩) (all.length+1) c) tv bv Lx (cs++[(vS,vB)]) (all++[d]) rows rl bl∧Sub (mask w (obs (av :: tv :: bv :: Lx))) (mask w' (obs (.slice (some ⟨g,0,none⟩) (all.length+1) c :: tv :: bv :: Lx))):=by
 have hs:Sub (mask w (obs (av :: tv :: bv :: Lx))) (mask w' (obs (.slice (some ⟨g,0,none⟩) (all.length+1) c :: tv :: bv :: Lx))):=mask_app (l1:=[]) (l2:=tv :: bv :: Lx) k (fun b e=>by
  simp only [Value.ownBlock,Option.some.injEq] at e
  subst e
  exact hat.imp id (fun e=>by omega))
 refine ⟨{ grow:=grow_row h.grow k (fun b e=>(h.aown.lt b e).1),hcs:=by simp [h.hcs],aown:=by rw [List.length_append,List.length_singleton,rcCells_snoc];exact hown,hrl:=h.hrl,town:=h.town.kept k (Pr.own_apart h.town h.aown (by decide)),bown:=h.bown.kept k (Pr.own_apart h.bown h.aown (by decide)),cfg:=fun j hj=>?_,row:=fun j hj=>(h.row j hj).sub hs },hs⟩
 rw [List.length_append,List.length_singleton] at hj
 by_cases e:j < all.length
 ·rw [show (cs++[(vS,vB)]).getD j (undef,undef)=cs.getD j (undef,undef) by simp [List.getD_eq_getElem?_getD,List.getElem?_append_left (show j < cs.length by rw [h.hcs];exact e)],show (all++[d]).getD j first=all.getD j first by simp [List.getD_eq_getElem?_getD,List.getElem?_append_left e]]
  exact (h.cfg j e).sub hs
 ·obtain rfl:j=all.length:=by omega
  rw [show (cs++[(vS,vB)]).getD all.length (undef,undef)=(vS,vB) by rw [← h.hcs];simp,show (all++[d]).getD all.length first=d by simp]
  exact hd.sub hs
theorem SpD.pushRow {g c:Nat} {nv:Value} {ts:List Nat} (h:SpD W w av tv bv [nv] cs all rows rl bl)
  (hown:w'.ownsRow W.heap.size 39 1 (.slice (some ⟨g,0,none⟩) (rl.length+1) c) (rl.length+1) (rows++[nv])) (k:w.grownBy w' tv.ownBlock) (hat:tv.ownBlock=some g∨g=w.heap.size)
  (hr:w.ownsRow W.heap.size 3 1 nv ts.length ((ts.map Int.ofNat).map (Value.int .i64))) :
  SpD W w' av (.slice (some ⟨g,0,none⟩) (rl.length+1) c) bv [] cs all (rows++[nv]) (rl++[ts]) bl:=by
 have hs:Sub (mask w (obs (av :: tv :: bv :: [nv]))) (mask w' (obs (av :: .slice (some ⟨g,0,none⟩) (rl.length+1) c :: bv :: []))) :=
  (mask_app (l1:=[av]) (l2:=[bv,nv]) (v':=.slice (some ⟨g,0,none⟩) (rl.length+1) c) k (fun b e=>by
    have e':some g=some b:=e
    injection e' with e'
    subst e'
    exact hat.imp id (fun e=>by omega))).trans (mask_more fun b hb=>.inl (by
     obtain ⟨u,hu,e⟩:=mem_obs.1 hb
     refine mem_obs.2 ⟨u,?_,e⟩
     simp only [List.mem_cons,List.not_mem_nil,or_false] at hu
     rcases hu with rfl | rfl | rfl <;> simp))
 have ha:=h.aown.kept k (Pr.own_apart h.aown h.town (by decide))
 have hb:=h.bown.kept k (Pr.own_apart h.bown h.town (by decide))
 have hr1:=hr.kept k (Pr.own_apart hr h.town (by decide))
 refine { grow:=grow_row h.grow k (fun b e=>(h.town.lt b e).1),hcs:=h.hcs,aown:=ha,hrl:=by simp [h.hrl],town:=by rw [List.length_append,List.length_singleton];exact hown,bown:=hb,cfg:=fun j hj=>(h.cfg j hj).sub hs,row:=fun j hj=>?_ }
 rw [List.length_append,List.length_singleton] at hj
 by_cases e:j < rl.length
 ·rw [show (rows++[nv]).getD j undef=rows.getD j undef by simp [List.getD_eq_getElem?_getD,List.getElem?_append_left (show j < rows.length by rw [h.hrl];exact e)],show (rl++[ts]).getD j []=rl.getD j [] by simp [List.getD_eq_getElem?_getD,List.getElem?_append_left e]]
  exact (h.row j e).sub hs
 ·obtain rfl:j=rl.length:=by omega
  rw [show (rows++[nv]).getD rl.length undef=nv by rw [← h.hrl];simp,show (rl++[ts]).getD rl.length []=ts by simp]
  have h2:=Seg.of_own (mask_own (L:=obs (av :: .slice (some ⟨g,0,none⟩) (rl.length+1) c :: bv :: [])) hr1 fun b hb1 hm=>(by
   obtain ⟨u,hu,e⟩:=mem_obs.1 hm
   simp only [List.mem_cons,List.not_mem_nil,or_false] at hu
   rcases hu with rfl | rfl | rfl
   ·exact own_neB hr1 ha (by decide) hb1 e
   ·exact own_neB hr1 hown (by decide) hb1 e
   ·exact own_neB hr1 hb (by decide) hb1 e:False))
  show Seg 1 _ _ _ _
  rw [List.length_map]
  exact h2
theorem SpD.pushBlk {g c:Nat} {bb:Bool} (h:SpD W w av tv bv [] cs all rows rl bl)
  (hown:w'.ownsRow W.heap.size 4 1 (.slice (some ⟨g,0,none⟩) (bl.length+1) c) (bl.length+1) (bl.map Value.bool++[.bool bb])) (k:w.grownBy w' bv.ownBlock) (hat:bv.ownBlock=some g∨g=w.heap.size) :
  SpD W w' av tv (.slice (some ⟨g,0,none⟩) (bl.length+1) c) [] cs all rows rl (bl++[bb]):=by
 have hs:Sub (mask w (obs (av :: tv :: bv :: []))) (mask w' (obs (av :: tv :: .slice (some ⟨g,0,none⟩) (bl.length+1) c :: []))):=mask_app (l1:=[av,tv]) (l2:=[]) k (fun b e=>by
  simp only [Value.ownBlock,Option.some.injEq] at e
  subst e
  exact hat.imp id (fun e=>by omega))
 exact { grow:=grow_row h.grow k (fun b e=>(h.bown.lt b e).1),hcs:=h.hcs,aown:=h.aown.kept k (Pr.own_apart h.aown h.bown (by decide)),hrl:=h.hrl,town:=h.town.kept k (Pr.own_apart h.town h.bown (by decide)),bown:=by rw [List.length_append,List.length_singleton,List.map_append];exact hown,cfg:=fun j hj=>(h.cfg j hj).sub hs,row:=fun j hj=>(h.row j hj).sub hs }
theorem SpD.cell (h:SpD W w av tv bv Lx cs all rows rl bl) {i:Nat} (hi:i < all.length):∃ (g c:Nat) (vS vB:Value),av=.slice (some ⟨g,0,none⟩) all.length c∧w.cell? ⟨g,i * 2,none⟩=some vS∧w.cell? ⟨g,i * 2+1,none⟩=some vB∧CfgAt (mask w (obs (av :: tv :: bv :: Lx))) vS vB (all.getD i first):=by
 have hc:=h.cfg i hi
 have ho:=h.aown
 obtain ⟨g,c,rfl,_⟩:=own_n ho (by omega)
 obtain ⟨⟨vS,vB⟩,hcs⟩:∃ x,cs[i]?=some x:=⟨cs[i]'(by rw [h.hcs];exact hi),List.getElem?_eq_getElem _⟩
 have e2:cs.getD i (undef,undef)=(vS,vB):=by rw [List.getD_eq_getElem?_getD,hcs];rfl
 rw [e2] at hc
 have t:∀ j,j < 2→w.cell? ⟨g,i * 2+j,none⟩=[vS,vB][j]?:=fun j hj=>by
  rw [ho.cellAt (i * 2+j) (by omega)]
  exact flat_at (f:=fun c:Value × Value=>[c.1,c.2]) (fun _=>rfl) cs i j _ hcs hj
 exact ⟨g,c,vS,vB,rfl,t 0 (by omega),t 1 (by omega),hc⟩
structure SpAt (w:World) (n:Nat) (av tv bv:Value) (all:List Cfg) (rl:List (List Nat)) (bl:List Bool):Prop where
 hn:all.length=n∧rl.length=n∧bl.length=n
 cfgs:∃ cs:List (Value × Value),cs.length=n∧Seg 2 w av n (rcCells cs)∧∀ j,j < n→CfgAt w (cs.getD j (undef,undef)).1 (cs.getD j (undef,undef)).2 (all.getD j first)
 rows:∃ rs:List Value,rs.length=n∧Seg 1 w tv n rs∧∀ j,j < n→Ints w (rs.getD j undef) ((rl.getD j []).map Int.ofNat)
 blks:Bools w bv bl
theorem SpAt.grow {n:Nat} (h:SpAt w n av tv bv all rl bl) (g:Flow.Grow w w'):SpAt w' n av tv bv all rl bl where
 hn:=h.hn
 cfgs:=by
  obtain ⟨cs,h1,h2,h3⟩:=h.cfgs
  exact ⟨cs,h1,h2.grow g,fun j hj=>(h3 j hj).grow g⟩
 rows:=by
  obtain ⟨rs,h1,h2,h3⟩:=h.rows
  exact ⟨rs,h1,h2.grow g,fun j hj=>(h3 j hj).grow g⟩
 blks:=h.blks.grow g
theorem SpD.done {n:Nat} (h:SpD W w av tv bv Lx cs all rows rl bl) (hn:all.length=n∧rl.length=n∧bl.length=n):SpAt w n av tv bv all rl bl:=by
 have hs:=mask_self w (obs (av :: tv :: bv :: Lx))
 obtain ⟨h1,h2,h3⟩:=hn
 refine ⟨⟨h1,h2,h3⟩,⟨cs,h.hcs.trans h1,by rw [← h1];exact Seg.of_own h.aown,fun j hj=>(h.cfg j (by omega)).sub hs⟩,⟨rows,h.hrl.trans h2,by rw [← h2];exact Seg.of_own h.town,fun j hj=>Seg.sub (h.row j (by omega)) hs⟩,?_⟩
 have:=Seg.of_own h.bown
 exact this
def RToAt (w:World) (ov:Value) (l:List Stp):Prop:=∀ k,k < l.length→∃ (g c:Nat) (vS vB:Value),ov=.slice (some ⟨g,0,none⟩) l.length c∧w.cell? ⟨g,k * 4+2,none⟩=some vS∧w.cell? ⟨g,k * 4+3,none⟩=some vB∧CfgAt w vS vB (l.getD k dstp).2.2
theorem RToAt.sub {ov:Value} {l:List Stp} (h:RToAt w ov l) (s:Sub w w'):RToAt w' ov l:=fun k hk=>by
 obtain ⟨g,c,vS,vB,h1,h2,h3,h4⟩:=h k hk
 exact ⟨g,c,vS,vB,h1,s.cell _ _ h2,s.cell _ _ h3,h4.sub s⟩
theorem RStD.toAt {V:World} {B:Nat} {ov:Value} {l:List Stp} {L:List Nat} (h:RStD V w B ov l) (hV:Sub V (mask w L)) (hL:∀ b∈L,b < B):RToAt (mask w L) ov l:=fun k hk=>by
 obtain ⟨⟨i,q,d⟩,hl⟩:∃ x,l[k]?=some x:=⟨_,List.getElem?_eq_getElem hk⟩
 obtain ⟨g1,c1,vS,vB,e1,_,_,t2,t3,hd,hb1⟩:=h.read hk hl
 have hng:g1∉L:=fun hm=>by have:=hL g1 hm;omega
 have hcell:∀ j v,w.cell? ⟨g1,j,none⟩=some v→(mask w L).cell? ⟨g1,j,none⟩=some v:=fun j v hv=>(World.cell?_of_block (mask_out w hng)).trans hv
 refine ⟨g1,c1,vS,vB,e1,hcell _ _ t2,hcell _ _ t3,?_⟩
 rw [show (l.getD k dstp).2.2=d by rw [List.getD_eq_getElem?_getD,hl];rfl]
 exact hd.mask hV fun b hb=>.inl (hL b hb)
structure SpI (W w:World) (av tv bv nv ov:Value) (cs:List (Value × Value)) (all:List Cfg) (rows:List Value) (rl:List (List Nat)) (bl:List Bool) (l:List Stp) (ts:List Nat):Prop where
 sp:SpD W w av tv bv [nv] cs all rows rl bl
 nx:w.ownsRow W.heap.size 3 1 nv ts.length ((ts.map Int.ofNat).map (Value.int .i64))
 lead:RToAt (mask w (obs (av :: tv :: bv :: [nv]))) ov l
variable {nv ov:Value} {l:List Stp} {ts:List Nat}
theorem SpI.grow_ (h:SpI W w av tv bv nv ov cs all rows rl bl l ts) (g:Flow.Grow w w'):SpI W w' av tv bv nv ov cs all rows rl bl l ts:=⟨h.sp.grow_ g,own_keep h.nx g,h.lead.sub (mask_grow g)⟩
theorem SpI.pushCfg {g c:Nat} {vS vB:Value} {d:Cfg} (h:SpI W w av tv bv nv ov cs all rows rl bl l ts)
  (hown:w'.ownsRow W.heap.size 46 2 (.slice (some ⟨g,0,none⟩) (all.length+1) c) (all.length+1) (rcCells cs++[vS,vB])) (k:w.grownBy w' av.ownBlock) (hat:av.ownBlock=some g∨g=w.heap.size)
  (hd:CfgAt (mask w (obs (av :: tv :: bv :: [nv]))) vS vB d):SpI W w' (.slice (some ⟨g,0,none⟩) (all.length+1) c) tv bv nv ov (cs++[(vS,vB)]) (all++[d]) rows rl bl l ts:=by
 obtain ⟨h1,h2⟩:=h.sp.pushCfg hown k hat hd
 exact ⟨h1,h.nx.kept k (Pr.own_apart h.nx h.sp.aown (by decide)),h.lead.sub h2⟩
theorem SpI.pushNx {g c t:Nat} (h:SpI W w av tv bv nv ov cs all rows rl bl l ts)
  (hown:w'.ownsRow W.heap.size 3 1 (.slice (some ⟨g,0,none⟩) (ts.length+1) c) (ts.length+1) ((ts.map Int.ofNat).map (Value.int .i64)++[.int .i64 (t:Int)])) (k:w.grownBy w' nv.ownBlock) (hat:nv.ownBlock=some g∨g=w.heap.size) :
  SpI W w' av tv bv (.slice (some ⟨g,0,none⟩) (ts.length+1) c) ov cs all rows rl bl l (ts++[t]):=by
 have hv:∀ b,(Value.slice (some ⟨g,0,none⟩) (ts.length+1) c).ownBlock=some b→nv.ownBlock=some b∨w.heap.size≤b:=fun b e=>by
  have e':some g=some b:=e
  injection e' with e'
  subst e'
  exact hat.imp id (fun e=>by omega)
 refine ⟨h.sp.byRow h.nx k hv,?_,h.lead.sub (mask_app (l1:=[av,tv,bv]) (l2:=[]) k hv)⟩
 rw [List.length_append,List.length_singleton,List.map_append,List.map_append]
 exact hown
def AtOk (ak:List Cfg) (d:Cfg) (j:Nat) (a:Int):Prop:=((∀ q,q < j→ak.getD q first≠d)∧a=-1)∨∃ q:Nat,q < j∧q < ak.length∧ak.getD q first=d∧a=(q:Int)
theorem AtOk.step {ak:List Cfg} {d:Cfg} {j:Nat} {a:Int} (h:AtOk ak d j a) (hj:j < ak.length):AtOk ak d (j+1) (if ak.getD j first=d then (j:Int) else a):=by
 split
 ·rename_i e
  exact .inr ⟨j,by omega,hj,e,rfl⟩
 ·rename_i e
  rcases h with ⟨h1,h2⟩ | ⟨q,h1,h2,h3,h4⟩
  ·refine .inl ⟨fun q hq=>?_,h2⟩
   by_cases e1:q=j
   ·subst e1;exact e
   ·exact h1 q (by omega)
  ·exact .inr ⟨q,by omega,h2,h3,h4⟩
theorem AtOk.done {ak:List Cfg} {d:Cfg} {a:Int} (hn:ak.Nodup) (h:AtOk ak d ak.length a):(d∉ak∧a=-1)∨(d∈ak∧a=(ak.idxOf d:Nat)):=by
 rcases h with ⟨h1,h2⟩ | ⟨q,_,h2,h3,h4⟩
 ·refine .inl ⟨fun hm=>?_,h2⟩
  obtain ⟨q,hq,e⟩:=mem_getD (d:=first) hm
  exact h1 q hq e
 ·have e:ak[q]=d:=by simpa [List.getD_eq_getElem?_getD,h2] using h3
  refine .inr ⟨e ▸ List.getElem_mem h2,?_⟩
  rw [h4,← e,List.Nodup.idxOf_getElem hn q h2]
end
end As
end Go.Proofs.Ytcpodmjcgfgmnaa
