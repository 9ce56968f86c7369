/- game.Turns by its contract. -/
import Derived.Test.YtcnmaplopbbmaaaGreatGNodeW
import Derived.Test.YtcnmaplopbbmaaaGreatGCmp
import Derived.Laws.CopyRow
namespace Go.Proofs.YtcnmaplopbbmaaaGreat
open Go.RowKit
theorem run_app0 {P:Program} {w:World} (t ty e:TypeId) (ht:P.underlying t=some (.slice e)) (sz:Nat) (hsz:(sizeOf e).run P w=.ok sz w) (oa:Option Addr) (n c:Nat) (xa:Option Addr) (cx:Nat) (hn:n≤c) :
  (Builtin.append_ #[t,t] ty #[.slice oa n c,.slice xa 0 cx]).run P w=.ok (.slice oa n c) w:=by
 cases oa <;> cases xa <;> simp [Builtin.append_,run_underlying ht,Sem.run_bind,hsz,Builtin.lenOf,Builtin.firstCells,loadCells,storeCells,hn,go_sem]
theorem own_cap {w:World} {bs e sz n:Nat} {v:Value} {xs:List Value} (h:w.ownsRow bs e sz v n xs):∃ a c,v=.slice a n c∧n≤c:=by
 rcases h.2 with ⟨rfl,rfl⟩ | ⟨g,cap,cur,hv,_,_,h4,_⟩
 ·exact ⟨none,0,rfl,Nat.le_refl _⟩
 ·exact ⟨_,cap,hv,h4⟩
section
variable {P:Program} {W w:World} {ops:Array Oper} {rest:List Oper} {o:Oper} {a:Act} {Q:Exit→Act→World→Prop}
theorem wpList_appRow (hgd:o.guard=none) (s x:Operand) (t:TypeId) (ho:o.op=.call { callee:=.builtin .append,args:=#[s,x],argTypes:=#[t,t] })
  (bs:Nat) (e:TypeId) (i:TypeInfo) (z:Value) (size bytes:Nat) (ht:P.underlying t=some (.slice e)) (hi:P.info? e=some i) (hz:i.zero=some z)
  (hsize:i.size=size) (hby:i.bytes=bytes) (hzs:z.cells.size=size) (hsz:0 < size) (hszo:(sizeOf e).run P w=.ok size w)
  (v:Value) (n:Nat) (xs:List Value) (hs:a.eval s=v) (hown:w.ownsRow bs e size v n xs) (hbs:bs≤w.heap.size)
  (vx:Value) (k:Nat) (cs:List Value) (hx:a.eval x=vx) (hseg:Seg size w vx k cs) (h1:∀ u∈cs,u.oneCell'=true)
  (hn:n≤10000000000) (hk:k≤10000000000) (hb:bytes≤1000)
  (h:∀ v' w',w'.ownsRow bs e size v' (n+k) (xs++cs)→w.grownBy w' v.ownBlock→wpList P ops Q rest (a.put o.dst v') w'):wpList P ops Q (o :: rest) a w:=by
 obtain ⟨xa,cx,rfl,hl,hnn,hc⟩:=hseg
 by_cases h0:k=0
 ·subst h0
  obtain rfl:cs=[]:=List.eq_nil_of_length_eq_zero (by simpa using hl)
  obtain ⟨oa,c,rfl,hnc⟩:=own_cap hown
  have hr:=run_app0 (P:=P) (w:=w) t o.type e ht size hszo oa n c xa cx hnc
  refine wpList_plain hgd fun K hK=>?_
  unfold Oper.wp execOp
  simp only [ho,resolve,invoke,builtin,Sem.run_bind,Sem.run_pure,Result.andThen_ok,List.map_toArray,List.map_cons,List.map_nil,hs,hx,hr]
  exact hK _ _ (h _ w (by simpa using hown) ⟨rfl,rfl,rfl,Nat.le_refl _,fun _ _ _=>rfl⟩)
 ·have hpos:0 < cs.length:=by rw [hl];exact Nat.mul_pos (by omega) hsz
  obtain ⟨b,off,rfl,_,_⟩:=hc 0 hpos
  refine wpList_append_lies (P:=P) w hgd s x t ho bs e i z size bytes ht hi hz hsize hby hzs hsz v n xs hs hown ⟨b,off,none⟩ k cx cs hx hl
   (fun j u hj=>?_) h1 (by omega) (by unfold maxLen;omega) ?_ hbs _ rfl fun g cap w' h2 h3 h4 h5=>h _ _ h2 h3
  ·obtain ⟨b',off',e1,_,h6⟩:=hc j (List.getElem?_eq_some_iff.1 hj).1
   cases e1
   rw [Addr.add_lit,h6,hj]
  ·have:(n+k) * bytes≤20000000000 * 1000:=Nat.mul_le_mul (by omega) hb
   omega
end
theorem tcells_one (ts:List Gr.Tn):∀ u∈ts.flatMap Gr.tcells,u.oneCell'=true:=by
 intro u hu
 rw [List.mem_flatMap] at hu
 obtain ⟨t,_,h⟩:=hu
 simp [Gr.tcells] at h
 rcases h with rfl | rfl <;> rfl
theorem range_take (n i:Nat) (h:i < n):(List.range n)[i]? = some i:=by simp [h]
set_option maxRecDepth 100000 in
set_option maxHeartbeats 2000000 in
theorem turns_any (B:Nat) (v0 v1 v2 v3 lv:Value) (g:Gr.G) (L:List Gr.Lb) (u0:Bool) (l:List Bool) (W:World) (hl:l.length=64) (hF:g.Fit) (hL:L.length≤1000000) (hS:Gr.Srt L) (hZ:∀ i < g.ns.length,(g.nd i).kind=3→(g.nd i).rep < 0→Gr.idx L (0,0,0)=Gr.idx L (g.nd i).back)
  (h:Gr.Gm W B v0 v1 v2 v3 lv g L (Gr.err u0 0)) :
  Calls Tryz.prog 29 #[.pointer (some ⟨B,0,none⟩),.int .u64 (Mark.ofBools l:Int)] W fun e w'=>∃ out,e=.returned out ∧
   Gr.TI W w' B v0 v1 v2 v3 lv g L (u0 || Gr.bad (g.turns L (l,false))) out (g.turns L (l,false)):=by
 obtain ⟨an,cn,rfl⟩:=Gr.Recs.form h.at.nodes
 have HG:=Lib.hid h
 have HNo:Hid (∀ i w u,i < g.ns.length→Gr.Gm w B v0 v1 (.slice an g.ns.length cn) v3 lv g L (Gr.err u 0)→Calls Tryz.prog 52 #[.pointer (some ⟨B,0,none⟩),.int .u64 (Mark.ofBools l:Int),.int .i64 i] w fun e w'=>∃ out,e=.returned out ∧
   Gr.TI w w' B v0 v1 (.slice an g.ns.length cn) v3 lv g L (u || Gr.bad (g.nodeT L i (l,false))) out (g.nodeT L i (l,false))):=Lib.hid fun i w u hi hm=>gnode_any B v0 v1 _ v3 lv g L u l i w hl hF hi hL hS (hZ i hi) hm
 have HNl:Hid (∀ i,(g.nodeT L i (l,false)).length≤4096):=Lib.hid fun i=>Gr.G.nodeT_len hF L i (l,false)
 obtain ⟨f,hf⟩:∃ f:Nat→List Gr.Tn,f=fun i=>g.nodeT L i (l,false):=⟨_,rfl⟩
 have HT:Hid (g.turns L (l,false)=(List.range g.ns.length).flatMap f):=Lib.hid (by rw [hf];rfl)
 have HFi:Hid (∀ i:Nat,g.nodeT L i (l,false)=f i):=Lib.hid fun i=>by rw [hf]
 have HFl:Hid (∀ ys:List Nat,(ys.flatMap f).length≤ys.length * 4096):=Lib.hid fun ys=>flat_len_le f 4096 (fun i=>by rw [hf];exact HNl.out i) ys
 have hnl:=hF.few.ns
 obtain ⟨r0,r1,r2,r3,r4⟩:=h.cells
 clear h hl hF hL hS hZ hf
 generalize g.turns L (l,false)=TS at *
 generalize hn:g.ns.length=n at *
 have Hn:=Lib.hid hn
 clear hn
 obtain ⟨i0,hi0,hz0,hz1,hz2⟩:=info_parts info_turn
 have HI:=Lib.hid (And.intro hi0 (And.intro hz0 (And.intro hz1 hz2)))
 clear hi0 hz0 hz1 hz2
 go_enter Tryz.func29,Tryz.ntmps29
 go_wp2_with fail
 go_loopw [5,15] (fun vo vi wr=>∃ j:Nat,j≤n∧vi=.int .i64 j∧Hid (Gr.TI W wr B v0 v1 (.slice an n cn) v3 lv g L (u0 || Gr.bad (((List.range n).take j).flatMap f)) vo (((List.range n).take j).flatMap f))) (fun _ vi _=>n - (intOf vi).toNat)
 case atStart=>exact ⟨0,by omega,rfl,Lib.hid (by simpa [Gr.bad] using Gr.TI.start HG.out HG.out)⟩
 case round =>
  obtain ⟨j,hj,rfl,HTI⟩:=hrel
  rename World=>wr
  obtain ⟨va,hva⟩:∃ va,va=u5:=⟨_,rfl⟩
  obtain ⟨oa,oc,hoa⟩:=own_form HTI.out.own
  subst hoa
  clear hva
  by_cases hjn:j < n
  ·have HX2:=Lib.hid (flat_take f (List.range n) j _ (range_take n j hjn))
   have HLn:=Lib.hid (HFl.out ((List.range n).take j))
   generalize ((List.range n).take j).flatMap f=ts at *
   have hlen:ts.length≤4096000000:=by have h1:=HLn.out;rw [List.length_take,List.length_range] at h1;omega
   have HNj:=Lib.hid (HNo.out j wr _ hjn HTI.out.gm)
   have HNk:=Lib.hid (HNl.out j)
   have HFj:=Lib.hid (HFi.out j)
   generalize g.nodeT L j (l,false)=nt at *
   go_wp2_with (first
    | (go_at_call 52;refine HNj.out.mono ?_;rintro e w3 ⟨out,rfl,hti⟩;obtain ⟨na,nc,rfl⟩:=own_form hti.own;have HT3:=Lib.hid hti;clear hti)
    | (at_builtin;refine wpList_appRow rfl _ _ 96 rfl W.heap.size 99 i0 (.agg #[.int .i64 0,.int .u64 0]) 2 16 Tryz.underlying96 HI.out.1 HI.out.2.1 HI.out.2.2.1 HI.out.2.2.2 rfl (by decide) (Tryz.sizeOf99 _) _ ts.length (ts.flatMap Gr.tcells) rfl (own_by HTI.out.own HT3.out.by_ HTI.out.lt) (Nat.le_trans HTI.out.by_.size HT3.out.by_.size) _ nt.length (nt.flatMap Gr.tcells) rfl (Seg.of_own HT3.out.own) (tcells_one nt) (by omega) (by have:=HNk.out;omega) (by decide) ?_;intro v' w4 ho hk;have HT4:=Lib.hid ((HTI.out.after HT3.out).app (new:=nt) ho hk);clear ho hk))
   go_roundw
   case rel=>exact ⟨j+1,by omega,by go_num,Lib.hid (by rw [HX2.out,← HFj.out,Gr.bad_append,← Bool.or_assoc];exact HT4.out)⟩
   case measure=>simp [intOf];omega
  ·obtain rfl:j=n:=by omega
   have ht0:(List.range j).take j=List.range j:=List.take_of_length_le (by simp)
   rw [ht0,← HT.out] at HTI ⊢
   go_wp2_with fail
   go_ret
   exact ⟨_,rfl,HTI.out⟩
end Go.Proofs.YtcnmaplopbbmaaaGreat
namespace Go.Proofs.YtcnmaplopbbmaaaGreat
open Go.RowKit
namespace Gr
def lab1 (n:Nd):Nat→List Lb
 | 0=>if n.kind=3 then [n.first] else []
 | _=>if n.kind=3∧0≤n.rep then [n.back] else []
def labs (n:Nd) (q:Nat):List Lb:=(List.range q).flatMap (lab1 n)
def G.gath (g:G) (i:Nat):List Lb:=(g.ns.take i).flatMap fun n=>labs n 2
theorem lab1_len (n:Nd) (q:Nat):(lab1 n q).length≤1:=by
 cases q <;> simp only [lab1] <;> split <;> simp
theorem labs_len (n:Nd) (q:Nat):(labs n q).length≤q:=by
 have:=flat_len_le (lab1 n) 1 (lab1_len n) (List.range q)
 unfold labs
 simpa using this
theorem labs_succ (n:Nd) (q:Nat):labs n (q+1)=labs n q++lab1 n q:=by
 unfold labs
 rw [List.range_succ,List.flatMap_append]
 simp
theorem G.gath_len (g:G) (i:Nat):(g.gath i).length≤i * 2:=by
 have:=flat_len_le (fun n=>labs n 2) 2 (fun n=>labs_len n 2) (g.ns.take i)
 rw [List.length_take] at this
 unfold G.gath
 have h2:min i g.ns.length * 2≤i * 2:=Nat.mul_le_mul_right _ (Nat.min_le_left _ _)
 omega
theorem G.gath_succ (g:G) (i:Nat) (h:i < g.ns.length):g.gath (i+1)=g.gath i++labs (g.nd i) 2:=by
 unfold G.gath
 refine flat_take _ g.ns i _ ?_
 unfold G.nd
 rw [List.getD_eq_getElem?_getD,List.getElem?_eq_getElem h]
 rfl
end Gr
theorem info_lab:(Tryz.prog.info? 104).map (fun i=>(i.zero,i.size,i.bytes))=some (some (.agg #[.int .i64 0,.int .i64 0,.int .i64 0]),3,24):=by kernel_rfl
theorem lcells_one (ts:List Gr.Lb):∀ u∈ts.flatMap Gr.lcells,u.oneCell'=true:=by
 intro u hu
 rw [List.mem_flatMap] at hu
 obtain ⟨t,_,h⟩:=hu
 simp [Gr.lcells] at h
 rcases h with rfl | rfl | rfl <;> rfl
theorem labF (n:Gr.Nd) (q:Nat) (hq:q < 2):∃ (x:Gr.Lb) (b:Bool),(Gr.lab1 n q=if b then [x] else [])∧∀ W,Calls Tryz.prog (if q=0 then 45 else 46) #[.agg n.cells.toArray] W fun e w'=>e=.returned (.tuple #[.agg (Gr.lcells x).toArray,.bool b])∧Flow.Grow W w':=by
 rcases (show q=0∨q=1 by omega) with rfl | rfl
 ·refine ⟨_,n.kind == 3,?_,fun W=>first_any n W⟩
  by_cases h:n.kind=3 <;> simp [Gr.lab1,h]
 ·refine ⟨_,(n.kind == 3) && decide (0≤n.rep),?_,fun W=>back_any n W⟩
  by_cases h:n.kind=3 <;> by_cases h2:0≤n.rep <;> simp [Gr.lab1,h,h2]
end Go.Proofs.YtcnmaplopbbmaaaGreat
namespace Go.Proofs.YtcnmaplopbbmaaaGreat
open Go.RowKit
namespace Gr
structure LRow (w:World) (g n:Nat) (f:Nat→Lb):Prop where
 row:∃ cur:Array Value,w.heap[g]? = some (.cells cur 104 (0,0))∧n * 3≤cur.size∧∀ j,j < n→cur[j * 3]? = some (.int .i64 (f j).1)∧cur[j * 3+1]? = some (.int .i64 (f j).2.1)∧cur[j * 3+2]? = some (.int .i64 (f j).2.2)
section
variable {w:World} {g n:Nat} {f:Nat→Lb}
theorem LRow.cells (h:LRow w g n f) {j:Nat} (hj:j < n):w.cell? ⟨g,j * 3,none⟩=some (.int .i64 (f j).1)∧w.cell? ⟨g,j * 3+1,none⟩=some (.int .i64 (f j).2.1)∧w.cell? ⟨g,j * 3+2,none⟩=some (.int .i64 (f j).2.2):=by
 obtain ⟨cur,hg,_,hc⟩:=h.row
 obtain ⟨a,b,c⟩:=hc j hj
 exact ⟨(cell_of_row w g _ _ _ _ hg).trans a,(cell_of_row w g _ _ _ _ hg).trans b,(cell_of_row w g _ _ _ _ hg).trans c⟩
theorem LRow.frozen (h:LRow w g n f) (k:Nat):w.frozen? ⟨g,k,none⟩=false:=by
 obtain ⟨cur,hg,_⟩:=h.row
 exact frozen_of_row w g k _ _ hg
theorem LRow.set (h:LRow w g n f) {k:Nat} (hk:k < n) (x0 x1 x2:Int) :
  LRow (((w.setCell ⟨g,k * 3,none⟩ (.int .i64 x0)).setCell ⟨g,k * 3+1,none⟩ (.int .i64 x1)).setCell ⟨g,k * 3+2,none⟩ (.int .i64 x2)) g n (fun j=>if j=k then (x0,x1,x2) else f j):=by
 obtain ⟨cur,hg,hs,hc⟩:=h.row
 refine ⟨_,heap_setCell_same _ g _ _ _ _ (heap_setCell_same _ g _ _ _ _ (heap_setCell_same w g _ _ _ _ hg)),by simpa using hs,fun j hj=>?_⟩
 obtain ⟨a,b,c⟩:=hc j hj
 by_cases e:j=k
 ·subst e
  simp only [if_pos]
  refine ⟨?_,?_,?_⟩
  ·rw [Array.getElem?_setIfInBounds_ne (by omega),Array.getElem?_setIfInBounds_ne (by omega),Array.getElem?_setIfInBounds_self_of_lt (by omega)]
  ·rw [Array.getElem?_setIfInBounds_ne (by omega),Array.getElem?_setIfInBounds_self_of_lt (by simp;omega)]
  ·rw [Array.getElem?_setIfInBounds_self_of_lt (by simp;omega)]
 ·simp only [if_neg e]
  refine ⟨?_,?_,?_⟩ <;> rw [Array.getElem?_setIfInBounds_ne (by omega),Array.getElem?_setIfInBounds_ne (by omega),Array.getElem?_setIfInBounds_ne (by omega)] <;> assumption
theorem LRow.lbs (h:LRow w g n f) {k c:Nat} (hk:k≤n) (L:List Lb) (hl:L.length=k) (hL:∀ j,j < k→L.getD j (0,0,0)=f j):LbsAt w (.slice (some ⟨g,0,none⟩) k c) L:=by
 obtain ⟨cur,hg,hs,hc⟩:=h.row
 refine ⟨_,c,by rw [hl],flat_len lcells_len L,by simp,fun j hj=>?_⟩
 rw [flat_len lcells_len L] at hj
 refine ⟨g,0,rfl,(Array.getElem?_eq_some_iff.1 hg).1,?_⟩
 rw [Nat.zero_add,cell_of_row w g _ _ _ _ hg]
 have hq:j / 3 < k:=by omega
 have hx:L[j / 3]? = some (f (j / 3)):=by
  rw [← hL _ hq,List.getD_eq_getElem?_getD,List.getElem?_eq_getElem (by omega)]
  rfl
 have key:=flat_get lcells_len L (j / 3) _ hx (j % 3) (by omega)
 rw [show j / 3 * 3+j % 3=j by omega] at key
 rw [key]
 obtain ⟨a,b,c⟩:=hc (j / 3) (by omega)
 rcases (show j % 3=0∨j % 3=1∨j % 3=2 by omega) with e | e | e
 ·rw [show j=j / 3 * 3 by omega,a,← show j=j / 3 * 3 by omega,e];rfl
 ·rw [show cur[j]? = cur[j / 3 * 3+1]? by rw [show j / 3 * 3+1=j by omega],b,e];rfl
 ·rw [show cur[j]? = cur[j / 3 * 3+2]? by rw [show j / 3 * 3+2=j by omega],c,e];rfl
theorem LRow.of_own {bs c:Nat} {L:List Lb} (h:w.ownsRow bs 104 3 (.slice (some ⟨g,0,none⟩) L.length c) L.length (L.flatMap lcells)):LRow w g L.length (fun j=>L.getD j (0,0,0)):=by
 have hcell:=fun j hj=>h.cellAt j hj
 rcases h.2 with ⟨e,_⟩ | ⟨g',cap,cur,hv,hB,hg,h4,h5,h6,h7⟩
 ·cases e
 ·cases hv
  have hlen:=flat_len lcells_len L
  refine ⟨cur,hg,?_,fun j hj=>?_⟩
  ·have:L.length * 3≤cur.size:=by
    by_cases h0:L.length=0
    ·omega
    ·have hc:=hcell (L.length * 3 - 1) (by omega)
     rw [cell_of_row w _ _ _ _ _ hg] at hc
     have hs:(L.flatMap lcells)[L.length * 3 - 1]?≠none:=by
      rw [List.getElem?_eq_getElem (by omega)];simp
     rw [← hc] at hs
     have hs2:=fun e=>hs (Array.getElem?_eq_none_iff.2 e)
     omega
   exact this
  ·have hx:L[j]? = some (L.getD j (0,0,0)):=by rw [List.getD_eq_getElem?_getD,List.getElem?_eq_getElem hj];rfl
   have key:=flat_get lcells_len L j _ hx
   have conv:∀ q,q < 3→cur[j * 3+q]? = (lcells (L.getD j (0,0,0)))[q]? := fun q hq=>by
    have hc:=hcell (j * 3+q) (by omega)
    rw [cell_of_row w _ _ _ _ _ hg] at hc
    rw [hc,key q hq]
   exact ⟨conv 0 (by omega),conv 1 (by omega),conv 2 (by omega)⟩
theorem run_clear_lab {k c:Nat} (o:Nat) (h:LRow w g n f) (ho:o+k≤n) :
  ∃ w',(∀ ty,(Builtin.clear_ #[35] ty #[.slice (some ⟨g,o * 3,none⟩) k c]).run Tryz.prog w=.ok (.tuple #[]) w')∧w.grownBy w' (some g)∧LRow w' g o f:=by
 obtain ⟨cur,hg,hs,hc⟩:=h.row
 by_cases h0:k=0
 ·subst h0
  exact ⟨w,fun ty=>by simp [Builtin.clear_,run_underlying Tryz.underlying35],by_grow (Flow.grow_refl w),⟨cur,hg,by omega,fun j hj=>hc j (by omega)⟩⟩
 ·obtain ⟨m,rfl⟩:∃ m,k=m+1:=⟨k - 1,by omega⟩
  have hz:(Builtin.zeroCells (Value.agg #[.int .i64 0,.int .i64 0,.int .i64 0]).cells (m+1)).toList.length=(m+1) * 3:=by
   simp [Builtin.zeroCells,Value.cells]
  have h1:∀ v∈(Builtin.zeroCells (Value.agg #[.int .i64 0,.int .i64 0,.int .i64 0]).cells (m+1)).toList,v.oneCell'=true:=by
   intro v hv
   simp [Builtin.zeroCells,Value.cells] at hv
   obtain ⟨a,_,rfl⟩:=hv
   rcases (show a % 3=0∨a % 3=1∨a % 3=2 by omega) with e | e | e <;> simp [e] <;> rfl
  have hst:=run_storeCells_at (P:=Tryz.prog) g (o * 3) 104 _ 0 cur w hg (by rw [hz];omega) h1
  have e0:∀ ty,(Builtin.clear_ #[35] ty #[.slice (some ⟨g,o * 3,none⟩) (m+1) c]).run Tryz.prog w=((storeCells ⟨g,o * 3,none⟩ (Builtin.zeroCells (Value.agg #[.int .i64 0,.int .i64 0,.int .i64 0]).cells (m+1)).toList 0).run Tryz.prog w).andThen fun _ w'=>.ok (.tuple #[]) w':=fun ty=>by
   simp [Builtin.clear_,run_underlying Tryz.underlying35,Tryz.zeroValue104]
  generalize (Builtin.zeroCells (Value.agg #[.int .i64 0,.int .i64 0,.int .i64 0]).cells (m+1)).toList=zs at *
  simp only [hst,Result.andThen_ok] at e0
  refine ⟨_,e0,⟨rfl,rfl,rfl,by simp,fun b hb hn=>setRow_other w g b _ (fun e=>hn (by rw [e]))⟩,?_⟩
  refine ⟨_,setRow_heap w g cur _ _ _ hg,?_,fun j hj=>?_⟩
  ·simp
   omega
  ·have hlow:∀ q,q < o * 3→(cur.toList.take (o * 3+0)++zs++cur.toList.drop (o * 3+0+zs.length)).toArray[q]? = cur[q]? := fun q hq=>by
    rw [List.getElem?_toArray,List.append_assoc,List.getElem?_append_left (by simp;omega),List.getElem?_take,if_pos (by omega),Array.getElem?_toList]
   obtain ⟨a,b,c⟩:=hc j (by omega)
   exact ⟨(hlow _ (by omega)).trans a,(hlow _ (by omega)).trans b,(hlow _ (by omega)).trans c⟩
end
def cmpK (f:Nat→Lb):Nat→List Lb
 | 0=>[]
 | 1=>[f 0]
 | i+2=>cmpK f (i+1)++if f (i+1)=f i then [] else [f (i+1)]
theorem cmpK_len (f:Nat→Lb):∀ i,(cmpK f i).length≤i
 | 0=>Nat.le_refl _
 | 1=>by simp [cmpK]
 | i+2=>by
  have:=cmpK_len f (i+1)
  rw [cmpK,List.length_append]
  split <;> simp <;> omega
end Gr
end Go.Proofs.YtcnmaplopbbmaaaGreat
