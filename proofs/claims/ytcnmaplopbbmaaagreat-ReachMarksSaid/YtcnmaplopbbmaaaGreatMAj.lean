/- alpha.First and Back by their contracts. -/
import Derived.Test.YtcnmaplopbbmaaaGreatGFind
namespace Go.Proofs.YtcnmaplopbbmaaaGreat
open Go.RowKit
theorem first_res (tmps:Array Value) (w:World) (X:Nat) (c0 c1 c2 v:Value) (h2:tmps.getD 2 undef=.pointer (some ⟨X,0,none⟩)) (h3:tmps.getD 3 undef=v) (hx:w.heap[X]? = some (.cells #[c0,c1,c2] 104 (0,0))) :
  (results Tryz.f45 tmps).run Tryz.prog w=.ok (.tuple #[.agg #[c0,c1,c2],v]) w:=by
 have x0:=(cell_of_row w X 0 _ _ _ hx).trans rfl
 have x1:=(cell_of_row w X 1 _ _ _ hx).trans rfl
 have x2:=(cell_of_row w X 2 _ _ _ hx).trans rfl
 simp at x0 x1 x2
 simp only [Array.getD_eq_getD_getElem?] at h2 h3
 simp [results,Tryz.results45,h2,h3,x0,x1,x2,go_sem]
theorem back_res (tmps:Array Value) (w:World) (X:Nat) (c0 c1 c2 v:Value) (h2:tmps.getD 2 undef=.pointer (some ⟨X,0,none⟩)) (h3:tmps.getD 3 undef=v) (hx:w.heap[X]? = some (.cells #[c0,c1,c2] 104 (0,0))) :
  (results Tryz.f46 tmps).run Tryz.prog w=.ok (.tuple #[.agg #[c0,c1,c2],v]) w:=by
 have x0:=(cell_of_row w X 0 _ _ _ hx).trans rfl
 have x1:=(cell_of_row w X 1 _ _ _ hx).trans rfl
 have x2:=(cell_of_row w X 2 _ _ _ hx).trans rfl
 simp at x0 x1 x2
 simp only [Array.getD_eq_getD_getElem?] at h2 h3
 simp [results,Tryz.results46,h2,h3,x0,x1,x2,go_sem]
def Gr.labV (l:Gr.Lb) (b:Bool):Value:=.tuple #[.agg (Gr.lcells (if b then l else (0,0,0))).toArray,.bool b]
set_option maxRecDepth 100000 in
set_option maxHeartbeats 1000000 in
theorem first_any (n:Gr.Nd) (W:World):Calls Tryz.prog 45 #[.agg n.cells.toArray] W fun e w'=>e=.returned (Gr.labV n.first (n.kind == 3))∧Flow.Grow W w':=by
 obtain ⟨x0,x1,x2,x3,x4,x5,x6⟩:=n
 show Calls _ _ #[.agg #[.int .i64 x0,.string x1,.int .i64 x2,.int .i64 x3,.int .i64 x4,.int .i64 x5,.bool x6]] W fun e w'=>e=.returned (Gr.labV (x2,x3,x4) (x0 == 3))∧Flow.Grow W w'
 by_cases h0:x0=3
 ·have d0:(x0 != 3)=false:=by simp [h0]
  have d1:(x0 == 3)=true:=by simp [h0]
  rw [d1]
  clear h0 d1
  go_enter Tryz.func45,Tryz.ntmps45
  go_wp2_with fail
  refine bodyPost_ret (first_res _ _ (W.heap.size+1) (.int .i64 x2) (.int .i64 x3) (.int .i64 x4) (.bool true) rfl rfl (hp_new2 W _ _)) rfl ⟨rfl,(Flow.grow_alloc _ _).trans (Flow.grow_alloc _ _)⟩
 ·have d0:(x0 != 3)=true:=by simp [h0]
  have d1:(x0 == 3)=false:=by simp [h0]
  rw [d1]
  clear h0 d1
  go_enter Tryz.func45,Tryz.ntmps45
  go_wp2_with fail
  refine bodyPost_ret (first_res _ _ (W.heap.size+1) (.int .i64 0) (.int .i64 0) (.int .i64 0) (.bool false) rfl rfl (hp_new2 W _ _)) rfl ⟨rfl,(Flow.grow_alloc _ _).trans (Flow.grow_alloc _ _)⟩
set_option maxRecDepth 100000 in
set_option maxHeartbeats 1000000 in
theorem back_any (n:Gr.Nd) (W:World):Calls Tryz.prog 46 #[.agg n.cells.toArray] W fun e w'=>e=.returned (Gr.labV n.back ((n.kind == 3) && decide (0≤n.rep)))∧Flow.Grow W w':=by
 obtain ⟨x0,x1,x2,x3,x4,x5,x6⟩:=n
 show Calls _ _ #[.agg #[.int .i64 x0,.string x1,.int .i64 x2,.int .i64 x3,.int .i64 x4,.int .i64 x5,.bool x6]] W fun e w'=>e=.returned (Gr.labV (x3,x2,x5) ((x0 == 3) && decide (0≤x5)))∧Flow.Grow W w'
 by_cases h0:x0=3
 ·have d0:(x0 != 3)=false:=by simp [h0]
  by_cases h1:x5 < 0
  ·have d1:decide (x5 < 0)=true:=by simp [h1]
   have d2:((x0 == 3) && decide (0≤x5))=false:=by simp;omega
   rw [d2]
   clear h0 d2
   go_enter Tryz.func46,Tryz.ntmps46
   go_wp2_with fail
   refine bodyPost_ret (back_res _ _ (W.heap.size+1) (.int .i64 0) (.int .i64 0) (.int .i64 0) (.bool false) rfl rfl (hp_new2 W _ _)) rfl ⟨rfl,(Flow.grow_alloc _ _).trans (Flow.grow_alloc _ _)⟩
  ·have d1:decide (x5 < 0)=false:=by simp [h1]
   have d2:((x0 == 3) && decide (0≤x5))=true:=by simp;omega
   rw [d2]
   clear h0 d2
   go_enter Tryz.func46,Tryz.ntmps46
   go_wp2_with fail
   refine bodyPost_ret (back_res _ _ (W.heap.size+1) (.int .i64 x3) (.int .i64 x2) (.int .i64 x5) (.bool true) rfl rfl (hp_new2 W _ _)) rfl ⟨rfl,(Flow.grow_alloc _ _).trans (Flow.grow_alloc _ _)⟩
 ·have d0:(x0 != 3)=true:=by simp [h0]
  have d2:((x0 == 3) && decide (0≤x5))=false:=by simp [h0]
  rw [d2]
  clear h0 d2
  go_enter Tryz.func46,Tryz.ntmps46
  go_wp2_with fail
  refine bodyPost_ret (back_res _ _ (W.heap.size+1) (.int .i64 0) (.int .i64 0) (.int .i64 0) (.bool false) rfl rfl (hp_new2 W _ _)) rfl ⟨rfl,(Flow.grow_alloc _ _).trans (Flow.grow_alloc _ _)⟩
end Go.Proofs.YtcnmaplopbbmaaaGreat
namespace Go.Proofs.YtcnmaplopbbmaaaGreat
open Go.RowKit
namespace Gr
structure Gm (W:World) (B:Nat) (v0 v1 v2 v3 lv:Value) (g:G) (L:List Lb) (e:Int):Prop where
 row:W.heap[B]? = some (.cells (gcells v0 v1 v2 v3 lv e) 94 (0,0))
 gr:GAt (mask W [B]) v0 v1 v2 v3 g
 lb:LbsAt (mask W [B]) lv L
theorem GAt.sub {w w':World} {v0 v1 v2 v3:Value} {g:G} (h:GAt w v0 v1 v2 v3 g) (k:Sub w w'):GAt w' v0 v1 v2 v3 g:=⟨h.parts,h.msgs,Seg.sub h.nodes k,Seg.sub h.edges k⟩
section
variable {W w':World} {B:Nat} {v0 v1 v2 v3 lv:Value} {g:G} {L:List Lb} {e e':Int}
theorem Gm.by (h:Gm W B v0 v1 v2 v3 lv g L e) (k:W.grownBy w' (some B)) (r:w'.heap[B]? = some (.cells (gcells v0 v1 v2 v3 lv e') 94 (0,0))):Gm w' B v0 v1 v2 v3 lv g L e' :=
 have s:Sub (mask W [B]) (mask w' [B]):=mask_by k (fun g hg=>by cases hg;simp)
 ⟨r,h.gr.sub s,Seg.sub h.lb s⟩
theorem Gm.lt (h:Gm W B v0 v1 v2 v3 lv g L e):B < W.heap.size:=by
 have:=h.row
 rw [Array.getElem?_eq_some_iff] at this
 exact this.1
theorem Gm.grow (h:Gm W B v0 v1 v2 v3 lv g L e) (k:Flow.Grow W w'):Gm w' B v0 v1 v2 v3 lv g L e:=h.by (by_grow k) ((k.block B h.lt (by simp)).trans h.row)
theorem Gm.at (h:Gm W B v0 v1 v2 v3 lv g L e):GAt W v0 v1 v2 v3 g:=h.gr.sub (mask_self W [B])
theorem Gm.lbs (h:Gm W B v0 v1 v2 v3 lv g L e):LbsAt W lv L:=Seg.sub h.lb (mask_self W [B])
theorem Gm.own (h:Gm W B v0 v1 v2 v3 lv g L e) {v:Value} {zs:List Int} {t:TypeId} (o:w'.ownsRow W.heap.size t 1 v zs.length (zs.map (Value.int .i64))):Ints (mask w' [B]) v zs:=by
 have:=h.lt
 exact Ints.of_own (mask_own o fun b hb hm=>by
  simp at hm
  subst hm
  rcases o.2 with hn | ⟨g1,cap,cur,hv,hB,hg,hr⟩
  ·rw [hn.1] at hb;simp [Value.ownBlock] at hb
  ·rw [hv] at hb;simp [Value.ownBlock] at hb;omega)
theorem Gm.one (h:Gm W B v0 v1 v2 v3 lv g L e) (p:Int) (t:TypeId) (k:W.heap.size≤w'.heap.size):Ints (mask (w'.alloc (.cells #[.int .i64 p] t)) [B]) (.slice (some ⟨w'.heap.size,0,none⟩) 1 1) [p]:=by
 have hl:=h.lt
 refine ⟨_,1,rfl,by simp,by simp,fun j hj=>?_⟩
 obtain rfl:j=0:=by simp at hj;omega
 refine ⟨w'.heap.size,0,rfl,by rw [mask_size];simp,?_⟩
 refine (World.cell?_of_block (mask_out _ (L:=[B]) (b:=w'.heap.size) (fun hm=>by simp at hm;omega))).trans ?_
 exact (cell_of_row _ _ 0 _ _ _ (heap_alloc_new w' _)).trans rfl
end
theorem _root_.Go.Proofs.YtcnmaplopbbmaaaGreat.Ints.mgrow {W w':World} {B:Nat} {v:Value} {zs:List Int} (h:Ints (mask W [B]) v zs) (k:Flow.Grow W w'):Ints (mask w' [B]) v zs:=Seg.sub h (mask_grow k)
theorem outE_mem {es:List Ed} {n p:Int}:∀ i,p∈outE es n i→0≤p∧p < (i:Int)
 | 0,h=>by simp [outE] at h
 | i+1,h=>by
  rw [outE,List.mem_append] at h
  rcases h with h | h
  ·have:=outE_mem i h;omega
  ·split at h <;> simp at h;subst h;omega
theorem inE_mem {es:List Ed} {n p:Int}:∀ i,p∈inE es n i→0≤p∧p < (i:Int)
 | 0,h=>by simp [inE] at h
 | i+1,h=>by
  rw [inE,List.mem_append] at h
  rcases h with h | h
  ·have:=inE_mem i h;omega
  ·split at h <;> simp at h;subst h;omega
theorem tasks_mem {ns:List Nd} {k:Nat}:∀ i,k < i→(ns.getD k nd0).kind=3→(k:Int)∈tasks ns i
 | 0,h,_=>by omega
 | i+1,h,e=>by
  rw [tasks,List.mem_append]
  by_cases hk:k=i
  ·subst hk;rw [if_pos e];exact .inr (by simp)
  ·exact .inl (tasks_mem i (by omega) e)
theorem idxFrom_hit (x:Int):∀ (l:List Int) (i:Nat),x∈l→(i:Int)≤Lib.idxFrom l x i
 | [],i,h=>by simp at h
 | z :: l,i,h=>by
  simp only [Lib.idxFrom]
  split
  ·exact Int.le_refl _
  ·rename_i hne
   have:=idxFrom_hit x l (i+1) (by
    rcases List.mem_cons.1 h with e | e
    ·subst e;simp at hne
    ·exact e)
   omega
structure G.Fit (g:G):Prop where
 few:g.Few
 pl:g.places≤64
theorem G.Fit.out {g:G} (h:g.Fit) (n:Int):InP (g.out n):=fun p hp=>by
 have:=outE_mem _ hp
 have:=h.pl
 unfold G.places at this
 omega
theorem G.Fit.inn {g:G} (h:g.Fit) (n:Int):InP (g.inn n):=fun p hp=>by
 have:=inE_mem _ hp
 have:=h.pl
 unfold G.places at this
 omega
theorem G.Fit.busy {g:G} (h:g.Fit) {i:Nat} (hi:i < g.ns.length) (hk:(g.nd i).kind=3):0≤g.busy i∧g.busy i+1 < 64∧g.done i=g.busy i+1:=by
 have hm:=tasks_mem (ns:=g.ns) g.ns.length hi hk
 have h1:=idxFrom_hit (i:Int) g.tasks 0 hm
 have h2:=(idxOf_lt g.tasks i).2
 have h1':0≤Lib.idxOf g.tasks i:=by simpa [Lib.idxOf] using h1
 have h3:=h.pl
 unfold G.places at h3
 have hb:g.busy i=(g.es.length:Int)+2 * Lib.idxOf g.tasks i:=by unfold G.busy;rw [if_neg (by omega)]
 refine ⟨by omega,by omega,?_⟩
 unfold G.done
 rw [if_neg (by omega)]
theorem G.out_len (g:G) (n:Int) (hf:g.Few):(g.out n).length≤1000000:=Nat.le_trans (outE_len g.es n _) hf.es
theorem G.inn_len (g:G) (n:Int) (hf:g.Few):(g.inn n).length≤1000000:=Nat.le_trans (inE_len g.es n _) hf.es
end Gr
set_option maxRecDepth 100000 in
set_option maxHeartbeats 2000000 in
theorem finished_any (B:Nat) (v0 v1 v2 v3 lv:Value) (g:Gr.G) (L:List Gr.Lb) (e0:Int) (l:List Bool) (i:Nat) (p:Int) (W:World) (hl:l.length=64) (hF:g.Fit) (hi:i < g.ns.length) (hk:(g.nd i).kind=3) (hp0:0≤p) (hp1:p < 64)
  (h:Gr.Gm W B v0 v1 v2 v3 lv g L e0) :
  Calls Tryz.prog 100 #[.pointer (some ⟨B,0,none⟩),.int .u64 (Mark.ofBools l:Int),.int .i64 i,.int .i64 p] W fun e w'=>e=.returned (.int .u64 (Mark.ofBools (g.fin i (Gr.wo (l,false) p)).1:Int)) ∧
   W.grownBy w' (some B)∧Gr.Gm w' B v0 v1 v2 v3 lv g L (Gr.err (g.fin i (Gr.wo (l,false) p)).2 e0):=by
 obtain ⟨hb0,hb1,hdone⟩:=hF.busy hi hk
 have HG:=Lib.hid h
 have HDn:=Lib.hid fun w (hg:Flow.Grow W w)=>done_any v0 v1 v2 v3 i g w hF.few (h.at.grow hg)
 obtain ⟨ae,ce,rfl⟩:=Gr.Recs.form h.at.edges
 have HOut:=Lib.hid fun w (hg:Flow.Grow W w)=>graphOut_any v0 v1 v2 _ i g.es w hF.few.es (Gr.Recs.grow h.at.edges hg)
 obtain ⟨an,cn,rfl⟩:=Gr.Recs.form h.at.nodes
 obtain ⟨a0,c0,rfl⟩:=h.at.parts
 obtain ⟨a1,c1,rfl⟩:=h.at.msgs
 have HMv:=Lib.hid fun (w:World) (vf vt:Value) (zt:List Int) (hg:Flow.Grow W w) (hz:Gr.InP zt) (hzl:zt.length≤1000000) (hf:Ints (mask w [B]) vf [p]) (ht:Ints (mask w [B]) vt zt)=>(move_any B _ _ _ _ lv e0 l vf vt [p] zt w hl (fun q hq=>by simp at hq;subst hq;exact ⟨hp0,hp1⟩) hz (by simp) hzl (h.grow hg).row hf ht).mono fun e w' ⟨a,b,c⟩=>And.intro a (And.intro (by_trans (by_grow hg) b) ((h.grow hg).by b c))
 have HOl:=Lib.hid (g.out_len i hF.few)
 have HOp:=Lib.hid (hF.out i)
 obtain ⟨b,off,rfl,cs⟩:=Gr.NdsAt.at h.at.nodes hi
 have c6:=cs.2.2.2.2.2.2
 clear cs
 have HFin:Hid (g.fin i (Gr.wo (l,false) p)=if (g.nd i).loop then [g.busy i+1].foldl Gr.put1 ([p].foldl Gr.wo (l,false)) else (g.out i).foldl Gr.put1 ([p].foldl Gr.wo (l,false))):=Lib.hid rfl
 have r0:W.cell? ⟨B,0,none⟩=some (.slice a0 g.np c0):=(cell_of_row W B 0 _ _ _ h.row).trans rfl
 have r1:W.cell? ⟨B,1,none⟩=some (.slice a1 g.nm c1):=(cell_of_row W B 1 _ _ _ h.row).trans rfl
 have r2:W.cell? ⟨B,2,none⟩=some (.slice (some ⟨b,off,none⟩) g.ns.length cn):=(cell_of_row W B 2 _ _ _ h.row).trans rfl
 have r3:W.cell? ⟨B,3,none⟩=some (.slice ae g.es.length ce):=(cell_of_row W B 3 _ _ _ h.row).trans rfl
 have s0:=Xm2.cell_grow (Flow.grow_alloc W (.cells #[.int .i64 p] 3)) r0
 have s1:=Xm2.cell_grow (Flow.grow_alloc W (.cells #[.int .i64 p] 3)) r1
 have s2:=Xm2.cell_grow (Flow.grow_alloc W (.cells #[.int .i64 p] 3)) r2
 have s3:=Xm2.cell_grow (Flow.grow_alloc W (.cells #[.int .i64 p] 3)) r3
 have c6':W.cell? ⟨b,off+i * 7+6,none⟩=some (.bool (g.nd i).loop):=c6
 clear c6 h hk hl
 generalize g.fin i (Gr.wo (l,false) p)=R at *
 cases hlp:(g.nd i).loop with
 | true =>
  rw [hlp] at c6'
  go_enter Tryz.func100,Tryz.ntmps100
  go_wp2_with (first
   | (go_at_call 101;refine (HDn.out _ (Flow.grow_alloc _ _)).mono ?_;rintro e w1 ⟨rfl,hg⟩;rw [hdone];have HG1:=Lib.hid ((Flow.grow_alloc W (.cells #[.int .i64 p] 3)).trans hg);have HV:=Lib.hid (Ints.mgrow (HG.out.one p 3 (Nat.le_refl _)) hg);clear hg)
   | (go_at_call 76;refine (HMv.out _ _ _ [g.busy i+1] (HG1.out.trans (Flow.grow_alloc _ _)) (fun q hq=>by simp at hq;subst hq;exact ⟨by omega,by omega⟩) (by simp) (Ints.mgrow HV.out (Flow.grow_alloc _ _)) (HG.out.one _ _ HG1.out.size)).mono ?_;rintro e w2 ⟨rfl,hby,hgm⟩;have HBy:=Lib.hid hby;have HGm:=Lib.hid hgm;clear hby hgm))
  have HF2:=HFin.out
  go_ret
  rw [if_pos hlp] at HF2
  exact ⟨by rw [HF2];rfl,HBy.out,by rw [HF2];exact HGm.out⟩
 | false =>
  rw [hlp] at c6'
  go_enter Tryz.func100,Tryz.ntmps100
  go_wp2_with (first
   | (go_at_call 14;refine (HOut.out _ (Flow.grow_alloc _ _)).mono ?_;rintro e w1 ⟨⟨va,rfl,ho⟩,hg⟩;have HG1:=Lib.hid ((Flow.grow_alloc W (.cells #[.int .i64 p] 3)).trans hg);have HV:=Lib.hid (Ints.mgrow (HG.out.one p 3 (Nat.le_refl _)) hg);have HO:=Lib.hid ((HG.out.grow (Flow.grow_alloc _ _)).own ho);clear hg ho)
   | (go_at_call 76;refine (HMv.out _ _ _ (g.out i) HG1.out HOp.out HOl.out HV.out HO.out).mono ?_;rintro e w2 ⟨rfl,hby,hgm⟩;have HBy:=Lib.hid hby;have HGm:=Lib.hid hgm;clear hby hgm))
  have HF2:=HFin.out
  go_ret
  rw [if_neg (by rw [hlp];simp)] at HF2
  exact ⟨by rw [HF2];rfl,HBy.out,by rw [HF2];exact HGm.out⟩
end Go.Proofs.YtcnmaplopbbmaaaGreat
