/- mark.Take by its contract. -/
import Derived.Test.YtcnmaplopbbmaaaGreatMAd
import Derived.Test.YtcnmaplopbbmaaaGreatMAc
import Derived.Test.YtcnmaplopbbmaaaGreatProg
import Derived.Test.YtcnmaplopbbmaaaGreatOwn
import Derived.Lib.Slices
import Derived.Outline
import Derived.Below
import Derived.Lib.Builder
import Derived.Laws.MakeOwn
import Derived.Deep.AppendLies
import Derived.Deep.DeepCutAuto
import Derived.BigRegion
import Derived.Deep.RegionWith
namespace Go.Proofs.YtcnmaplopbbmaaaGreat
open Go.RowKit
set_option maxRecDepth 100000 in
set_option maxHeartbeats 400000 in
theorem take_no (m:Nat) (p:Int) (w:World) (hm:m < 2 ^ 64) (h:Mark.has m p=false) :
  Calls Tryz.prog 102 #[.int .u64 (m:Int),.int .i64 p] w fun e w'=>e=.returned (.tuple #[.int .u64 (m:Int),.bool false])∧w=w':=by
 have hlt:=Mark.bit_lt p
 have hand:=bits_and_u64_nat m (Mark.bit p) (by omega) (by omega)
 have hn:(((m &&& Mark.bit p:Nat):Int) == 0)=true:=by
  have:=mt (Mark.and_bit_ne m p).1 (by simp [h])
  simp;omega
 go_enter Tryz.func102,Tryz.ntmps102
 clear h
 go_wp2_with (go_at_call 71;refine (bit_any p _).mono ?_;rintro e w' ⟨rfl,rfl⟩)
 go_ret2
 exact ⟨rfl,rfl⟩
set_option maxRecDepth 100000 in
set_option maxHeartbeats 400000 in
theorem take_yes (m:Nat) (p:Int) (w:World) (hm:m < 2 ^ 64) (h:Mark.has m p=true) :
  Calls Tryz.prog 102 #[.int .u64 (m:Int),.int .i64 p] w fun e w'=>e=.returned (.tuple #[.int .u64 ((m &&& (18446744073709551615 - 2 ^ p.toNat):Nat):Int),.bool true])∧w=w':=by
 have hlt:=Mark.bit_lt p
 have hand:=bits_and_u64_nat m (Mark.bit p) (by omega) (by omega)
 have hnot:=u64_andNot_nat m (Mark.bit p) (by omega) (by omega)
 have Hnot:=Lib.hid hnot
 have hn:(((m &&& Mark.bit p:Nat):Int) == 0)=false:=by
  have:=(Mark.and_bit_ne m p).2 h
  simp;omega
 have hin:0≤p∧p < 64:=by
  refine Decidable.byContradiction fun hp=>?_
  rw [Mark.has_out hp] at h;cases h
 have Hb:Hid (_=_):=Lib.hid (Mark.bit_in hin.1 hin.2)
 go_enter Tryz.func102,Tryz.ntmps102
 clear h hnot
 go_wp2_with (go_at_call 71;refine (bit_any p _).mono ?_;rintro e w' ⟨rfl,rfl⟩)
 go_ret2
 exact ⟨ret_mark (by rw [← Hb.out];exact Hnot.out),rfl⟩
end Go.Proofs.YtcnmaplopbbmaaaGreat
namespace Go.Proofs.YtcnmaplopbbmaaaGreat
open Go.RowKit
namespace Gr
structure G where
 ns:List Nd
 es:List Ed
 np:Nat
 nm:Nat
def G.inn (g:G) (n:Int):List Int:=inE g.es n g.es.length
def G.out (g:G) (n:Int):List Int:=outE g.es n g.es.length
def G.tasks (g:G):List Int:=Gr.tasks g.ns g.ns.length
def G.nd (g:G) (i:Nat):Nd:=g.ns.getD i nd0
def idx {α:Type} [DecidableEq α] (l:List α) (x:α):Int:=match l.findIdx? (fun y=>decide (y=x)) with
 | some i=>(i:Int)
 | none=>-1
def G.busy (g:G) (n:Int):Int:=if Lib.idxOf g.tasks n < 0 then -1 else (g.es.length:Int)+2 * Lib.idxOf g.tasks n
def G.done (g:G) (n:Int):Int:=if g.busy n < 0 then -1 else g.busy n+1
theorem idxFrom_lt (x:Int):∀ (l:List Int) (i:Nat),-1≤Lib.idxFrom l x i∧Lib.idxFrom l x i < (i+l.length:Nat)
 | [],i=>by simp [Lib.idxFrom];omega
 | z :: l,i=>by
  have:=idxFrom_lt x l (i+1)
  simp only [Lib.idxFrom]
  split
  ·simp;omega
  ·simp only [List.length_cons];omega
theorem idxOf_lt (l:List Int) (x:Int):-1≤Lib.idxOf l x∧Lib.idxOf l x < (l.length:Nat):=by
 have:=idxFrom_lt x l 0
 simpa [Lib.idxOf] using this
abbrev Lb:=Int × Int × Int
def lcells (l:Lb):List Value:=[.int .i64 l.1,.int .i64 l.2.1,.int .i64 l.2.2]
def Nd.first (n:Nd):Lb:=(n.fr,n.to,n.msg)
def Nd.back (n:Nd):Lb:=(n.to,n.fr,n.rep)
abbrev Tk:=List Bool × Bool
def put1 (t:Tk) (p:Int):Tk:=(t.1.set p.toNat true,t.2 || t.1.getD p.toNat false)
def wo (t:Tk) (p:Int):Tk:=(t.1.set p.toNat false,t.2)
def at1 (t:Tk) (p:Int):Bool:=t.1.getD p.toNat false
def G.outT (g:G) (n:Int) (t:Tk):Tk:=(g.out n).foldl put1 t
def G.fin (g:G) (i:Nat) (t:Tk):Tk:=if (g.nd i).loop then put1 t (g.busy i+1) else g.outT i t
def G.begun (g:G) (i:Nat) (t:Tk):Tk:=if 0≤(g.nd i).rep then put1 t (g.busy i) else g.fin i t
abbrev Tn:=Int × Tk
def G.taskT (g:G) (L:List Lb) (i:Nat) (t:Tk):List Tn :=
 ((g.inn i).flatMap fun p=>if at1 t p then [(idx L (g.nd i).first,g.begun i (wo t p))] else []) ++
 (if at1 t (g.busy i) then [(idx L (g.nd i).back,g.fin i (wo t (g.busy i)))] else []) ++
 (if at1 t (g.busy i+1) then [(idx L (g.nd i).first,g.begun i (wo t (g.busy i+1))),(-1,g.outT i (wo t (g.busy i+1)))] else [])
def G.nodeT (g:G) (L:List Lb) (i:Nat) (t:Tk):List Tn :=
 if (g.nd i).kind=3 then g.taskT L i t
 else if (g.nd i).kind=5 then (if (g.inn i).length > 0∧(g.inn i).all (at1 t) then [(-1,g.outT i ((g.inn i).foldl wo t))] else [])
 else if (g.nd i).kind=4∨(g.nd i).kind=6 then (g.inn i).flatMap fun k=>(g.out i).flatMap fun o=>if at1 t k then [(-1,put1 (wo t k) o)] else []
 else if (g.nd i).kind=2 then (g.inn i).flatMap fun k=>if at1 t k then [(-1,wo t k)] else []
 else []
def G.turns (g:G) (L:List Lb) (t:Tk):List Tn:=(List.range g.ns.length).flatMap fun i=>g.nodeT L i t
theorem put1_len (t:Tk) (p:Int):(put1 t p).1.length=t.1.length:=by simp [put1]
theorem wo_len (t:Tk) (p:Int):(wo t p).1.length=t.1.length:=by simp [wo]
theorem puts_len (l:List Int):∀ t:Tk,(l.foldl put1 t).1.length=t.1.length:=by
 induction l with
 | nil=>intro t;rfl
 | cons p l ih=>intro t;rw [List.foldl_cons,ih,put1_len]
theorem wos_len (l:List Int):∀ t:Tk,(l.foldl wo t).1.length=t.1.length:=by
 induction l with
 | nil=>intro t;rfl
 | cons p l ih=>intro t;rw [List.foldl_cons,ih,wo_len]
theorem G.outT_len (g:G) (n:Int) (t:Tk):(g.outT n t).1.length=t.1.length:=puts_len _ t
theorem G.fin_len (g:G) (i:Nat) (t:Tk):(g.fin i t).1.length=t.1.length:=by
 unfold G.fin
 split
 ·exact put1_len _ _
 ·exact g.outT_len _ _
theorem G.begun_len (g:G) (i:Nat) (t:Tk):(g.begun i t).1.length=t.1.length:=by
 unfold G.begun
 split
 ·exact put1_len _ _
 ·exact g.fin_len _ _
structure GAt (w:World) (v0 v1 v2 v3:Value) (g:G):Prop where
 parts:∃ a c,v0=.slice a g.np c
 msgs:∃ a c,v1=.slice a g.nm c
 nodes:NdsAt w v2 g.ns
 edges:EsAt w v3 g.es
theorem GAt.grow {w w':World} {v0 v1 v2 v3:Value} {g:G} (h:GAt w v0 v1 v2 v3 g) (k:Flow.Grow w w'):GAt w' v0 v1 v2 v3 g:=⟨h.parts,h.msgs,Recs.grow h.nodes k,Recs.grow h.edges k⟩
structure G.Few (g:G):Prop where
 np:g.np≤1000000
 nm:g.nm≤1000000
 ns:g.ns.length≤1000000
 es:g.es.length≤1000000
def G.partOk (g:G) (p:Int):Bool:=decide (0≤p∧p < (g.np:Int))
def G.nodeOk (g:G) (n:Nd):Bool :=
 if n.kind < 1∨6 < n.kind then false
 else if n.kind≠3 then true
 else g.partOk n.fr && g.partOk n.to && decide (n.fr≠n.to) && decide (0≤n.msg∧n.msg < (g.nm:Int)) && decide (-1≤n.rep∧n.rep < (g.nm:Int))
def G.nodeBad (g:G) (i:Nat):Bool :=
 (decide ((g.nd i).kind=1) && decide (0 < (g.inn i).length)) || ((decide ((g.nd i).kind=1) || decide ((g.nd i).kind=3)) && decide ((g.out i).length≠1))
def G.chkN (g:G):Nat→Nat→Option Int
 | _,0=>none
 | i,k+1=>if g.nodeOk (g.nd i)=false then some 1 else if g.nodeBad i=true then some 9 else g.chkN (i+1) k
def G.edgeOk (g:G) (e:Ed):Bool:=decide (0≤e.1∧e.1 < (g.ns.length:Int)) && decide (0≤e.2∧e.2 < (g.ns.length:Int))
def G.chkE (g:G):Nat→Nat→Option Int
 | _,0=>none
 | i,k+1=>if g.edgeOk (g.es.getD i (0,0))=false then some 1 else g.chkE (i+1) k
def starts (ns:List Nd):Nat→Nat
 | 0=>0
 | i+1=>starts ns i+if (ns.getD i nd0).kind=1 then 1 else 0
def G.places (g:G):Nat:=g.es.length+2 * g.tasks.length
def G.check (g:G):Int :=
 if 16 < g.np∨64 < g.places then 5
 else match g.chkN 0 g.ns.length with
  | some c=>c
  | none=>match g.chkE 0 g.es.length with
   | some c=>c
   | none=>if starts g.ns g.ns.length≠1 then 9 else 0
theorem starts_le (ns:List Nd):∀ i,starts ns i≤i
 | 0=>Nat.le_refl _
 | i+1=>by have:=starts_le ns i;rw [starts];split <;> omega
end Gr
end Go.Proofs.YtcnmaplopbbmaaaGreat
namespace Go.Proofs.YtcnmaplopbbmaaaGreat
open Go.RowKit
structure Sub (w w':World):Prop where
 size:w.heap.size≤w'.heap.size
 cell:∀ a v,w.cell? a=some v→w'.cell? a=some v
theorem cell_lt {w:World} {a:Addr} {v:Value} (h:w.cell? a=some v):a.block < w.heap.size:=by
 by_cases ha:a.block < w.heap.size
 ·exact ha
 ·exfalso
  unfold World.cell? at h
  rw [Array.getElem?_eq_none (by omega)] at h
  cases h
theorem Sub.of_grow {w w':World} (g:Flow.Grow w w'):Sub w w':=⟨g.size,fun a v h=>(World.cell?_of_block (g.block a.block (cell_lt h) (by simp))).trans h⟩
theorem Sub.refl (w:World):Sub w w:=⟨Nat.le_refl _,fun _ _ h=>h⟩
theorem Sub.trans {w w' w'':World} (h:Sub w w') (k:Sub w' w''):Sub w w'':=⟨Nat.le_trans h.size k.size,fun a v e=>k.cell a v (h.cell a v e)⟩
theorem Seg.sub {sz:Nat} {w w':World} {v:Value} {n:Nat} {xs:List Value} (h:Seg sz w v n xs) (g:Sub w w'):Seg sz w' v n xs:=by
 obtain ⟨a,cap,rfl,hm,hn,hc⟩:=h
 refine ⟨a,cap,rfl,hm,hn,fun j hj=>?_⟩
 obtain ⟨b,off,ha,hb,hcell⟩:=hc j hj
 refine ⟨b,off,ha,Nat.lt_of_lt_of_le hb g.size,?_⟩
 rw [List.getElem?_eq_getElem hj] at hcell ⊢
 exact g.cell _ _ hcell
def mask (w:World) (L:List Nat):World:={ w with heap:=w.heap.mapIdx fun b o=>if L.contains b then .cells #[] 0 else o }
theorem mask_size (w:World) (L:List Nat):(mask w L).heap.size=w.heap.size:=by simp [mask]
theorem mask_out (w:World) {L:List Nat} {b:Nat} (h:b∉L):(mask w L).heap[b]? = w.heap[b]? := by
 show (w.heap.mapIdx _)[b]? = _
 rw [Array.getElem?_mapIdx]
 cases w.heap[b]? with
 | none=>rfl
 | some o=>simp [h]
theorem mask_cell {w:World} {L:List Nat} {a:Addr} {v:Value} (h:(mask w L).cell? a=some v):a.block∉L:=by
 intro hb
 have hlt:=cell_lt h
 rw [mask_size] at hlt
 unfold World.cell? at h
 have:(mask w L).heap[a.block]? = some (.cells #[] 0):=by
  show (w.heap.mapIdx _)[a.block]? = _
  rw [Array.getElem?_mapIdx,Array.getElem?_eq_getElem hlt]
  simp [hb]
 rw [this] at h
 simp at h
theorem mask_sub {w w':World} {L L':List Nat} (hs:w.heap.size≤w'.heap.size) (h:∀ b,b < w.heap.size→b∉L→b∉L'∧w'.heap[b]? = w.heap[b]?):Sub (mask w L) (mask w' L'):=by
 refine ⟨by rw [mask_size,mask_size];exact hs,fun a v hc=>?_⟩
 have hl:=cell_lt hc
 rw [mask_size] at hl
 have hb:=mask_cell hc
 obtain ⟨h1,h2⟩:=h a.block hl hb
 exact (World.cell?_of_block (((mask_out w' h1).trans h2).trans (mask_out w hb).symm)).trans hc
theorem mask_self (w:World) (L:List Nat):Sub (mask w L) w:=by
 refine ⟨by rw [mask_size];exact Nat.le_refl _,fun a v hc=>?_⟩
 exact (World.cell?_of_block (mask_out w (mask_cell hc)).symm).trans hc
theorem mask_grow {w w':World} {L:List Nat} (g:Flow.Grow w w'):Sub (mask w L) (mask w' L):=mask_sub g.size fun b hb hn=>⟨hn,g.block b hb (by simp)⟩
theorem mask_by {w w':World} {L:List Nat} {r:Option Nat} (k:w.grownBy w' r) (h:∀ g,r=some g→g∈L):Sub (mask w L) (mask w' L) :=
 mask_sub k.size fun b hb hn=>⟨hn,k.block b hb fun e=>hn (h b e.symm)⟩
theorem mask_of {w w':World} {L:List Nat} (g:Sub w w') (h:∀ b∈L,w.heap.size≤b):Sub w (mask w' L):=by
 refine ⟨by rw [mask_size];exact g.size,fun a v hc=>?_⟩
 have hl:=cell_lt hc
 have hb:a.block∉L:=fun hm=>by have:=h _ hm;omega
 exact (World.cell?_of_block (mask_out w' hb)).trans (g.cell a v hc)
theorem mask_own {w:World} {B e sz n:Nat} {L:List Nat} {v:Value} {xs:List Value} (h:w.ownsRow B e sz v n xs) (hL:∀ b,v.ownBlock=some b→b∉L):(mask w L).ownsRow B e sz v n xs:=by
 refine ⟨h.1,?_⟩
 rcases h.2 with hn | ⟨g,cap,cur,hv,hB,hg,hr⟩
 ·exact .inl hn
 ·exact .inr ⟨g,cap,cur,hv,hB,(mask_out w (hL g (by rw [hv];rfl))).trans hg,hr⟩
theorem by_trans {w w1 w2:World} {r:Option Nat} (h:w.grownBy w1 r) (k:w1.grownBy w2 r):w.grownBy w2 r :=
 ⟨k.os.trans h.os,k.tape.trans h.tape,k.output.trans h.output,Nat.le_trans h.size k.size,fun b hb hr=>(k.block b (Nat.lt_of_lt_of_le hb h.size) hr).trans (h.block b hb hr)⟩
theorem by_grow {w w1:World} {r:Option Nat} (h:Flow.Grow w w1):w.grownBy w1 r:=⟨h.os,h.tape,h.output,h.size,fun b hb _=>h.block b hb (by simp)⟩
theorem by_set (w:World) (g q:Nat) (u:Value):w.grownBy (w.setCell ⟨g,q,none⟩ u) (some g) :=
 ⟨rfl,rfl,rfl,by simp [World.setCell],fun i hi hne=>Below.heap_setCell _ _ _ _ (by intro e;exact hne (by rw [e]))⟩
end Go.Proofs.YtcnmaplopbbmaaaGreat
namespace Go.Proofs.YtcnmaplopbbmaaaGreat
open Go.RowKit
namespace Det
end Det
theorem ret_bool {a b:Bool} (h:a=b):Ending.returned (.bool a)=.returned (.bool b):=by rw [h]
end Go.Proofs.YtcnmaplopbbmaaaGreat
namespace Go.Proofs.YtcnmaplopbbmaaaGreat
open Go.RowKit
def Short (zss:List (List Int)):Prop:=∀ l∈zss,l.length≤9223372036854775807
structure DfaAt (w:World) (c:Array Value) (labels start:Int) (final:List Bool) (next:List (List Int)):Prop where
 cells:∃ vf vn,c=#[.int .i64 labels,.int .i64 start,vf,vn]∧Bools w vf final∧Rows2 w vn next
 fin:final.length≤9223372036854775807
 len:next.length≤9223372036854775807
 short:Short next
theorem DfaAt.grow {w w':World} {c:Array Value} {labels start:Int} {final:List Bool} {next:List (List Int)} (h:DfaAt w c labels start final next) (g:Flow.Grow w w'):DfaAt w' c labels start final next :=
 ⟨by obtain ⟨vf,vn,h1,h2,h3⟩:=h.cells;exact ⟨vf,vn,h1,h2.grow g,h3.grow g⟩,h.fin,h.len,h.short⟩
end Go.Proofs.YtcnmaplopbbmaaaGreat
namespace Go.Proofs.YtcnmaplopbbmaaaGreat
open Go.RowKit
theorem grow_row {W w w1:World} {row:Option Nat} (h:Flow.Grow W w) (k:w.grownBy w1 row) (hr:∀ b,row=some b→W.heap.size≤b):Flow.Grow W w1 :=
 ⟨k.os.trans h.os,k.tape.trans h.tape,k.output.trans h.output,Nat.le_trans h.size k.size,fun i hi hne=>(k.block i (Nat.lt_of_lt_of_le hi h.size) (fun e=>by have:=hr i e.symm;omega)).trans (h.block i hi hne)⟩
end Go.Proofs.YtcnmaplopbbmaaaGreat
namespace Go.Proofs.YtcnmaplopbbmaaaGreat
open Go.RowKit
theorem own_keep {w w':World} {base e sz n:Nat} {v:Value} {xs:List Value} (h:w.ownsRow base e sz v n xs) (g:Flow.Grow w w'):w'.ownsRow base e sz v n xs:=h.kept (row:=none) g (by cases v.ownBlock <;> simp)
theorem own_form {w:World} {e sz n:Nat} {v:Value} {xs:List Value} {B:Nat} (h:w.ownsRow B e sz v n xs):∃ a cap,v=.slice a n cap:=by
 rcases h.2 with ⟨rfl,rfl⟩ | ⟨g,cap,cur,hv,_⟩
 ·exact ⟨none,0,rfl⟩
 ·exact ⟨_,_,hv⟩
theorem hp_new2 (w:World) (p r:Obj):((w.alloc p).alloc r).heap[w.heap.size+1]? = some r:=by simpa using heap_alloc_new (w.alloc p) r
section
variable {P:Program} {W w:World} {ops:Array Oper} {rest:List Oper} {o:Oper} {a:Act} {Q:Exit→Act→World→Prop}
theorem wpList_app1 (hgd:o.guard=none) (s x:Operand) (t:TypeId) (ho:o.op=.call { callee:=.builtin .append,args:=#[s,x],argTypes:=#[t,t] })
  (e:TypeId) (i:TypeInfo) (z:Value) (size bytes:Nat) (ht:P.underlying t=some (.slice e)) (hi:P.info? e=some i) (hz:i.zero=some z)
  (hsize:i.size=size) (hby:i.bytes=bytes) (hzs:z.cells.size=size) (hsz:0 < size)
  (v:Value) (n:Nat) (xs:List Value) (hs:a.eval s=v) (hown:w.ownsRow W.heap.size e size v n xs) (hg:Flow.Grow W w)
  (q:Nat) (cs:Array Value) (qt:TypeId) (hx:a.eval x=.slice (some ⟨q,0,none⟩) 1 1) (hq:w.heap[q]? = some (.cells cs qt (0,0))) (hcs:cs.size=size) (h1:∀ u∈cs.toList,u.oneCell'=true)
  (hn:n≤1000000) (hb:bytes≤1000000)
  (h:∀ v' w',w'.ownsRow W.heap.size e size v' (n+1) (xs++cs.toList)→Flow.Grow W w'→(∃ g c,v'=.slice (some ⟨g,0,none⟩) (n+1) c∧W.heap.size≤g)→w.grownBy w' v.ownBlock→wpList P ops Q rest (a.put o.dst v') w'):wpList P ops Q (o :: rest) a w:=by
 refine wpList_append_lies (P:=P) w hgd s x t ho W.heap.size e i z size bytes ht hi hz hsize hby hzs hsz v n xs hs hown ⟨q,0,none⟩ 1 1 cs.toList hx (by rw [Nat.one_mul,Array.length_toList];exact hcs)
  (fun j u hj=>?_) h1 (by decide) (by unfold maxLen;omega) ?_ hg.size _ rfl fun g cap w' h2 h3 h4 h5=>?_
 ·rw [Addr.add_lit,cell_of_row w q _ _ _ _ hq,Nat.zero_add]
  rw [← hj]
  exact Array.getElem?_toList.symm
 ·have:(n+1) * bytes≤1000001 * 1000000:=Nat.mul_le_mul (by omega) hb
  omega
 ·have hlo:W.heap.size≤g:=by
   rcases h4 with h4 | h4
   ·exact (hown.lt g h4).1
   ·have:=hg.size;omega
  exact h _ _ h2 (grow_row hg h3 fun b e=>(hown.lt b e).1) ⟨g,cap,rfl,hlo⟩ h3
end
end Go.Proofs.YtcnmaplopbbmaaaGreat
namespace Go.Proofs.YtcnmaplopbbmaaaGreat
open Go.RowKit
theorem info_intG:(Tryz.prog.info? 3).map (fun i=>(i.zero,i.size,i.bytes))=some (some (.int .i64 0),1,8):=by kernel_rfl
set_option maxRecDepth 100000 in
set_option maxHeartbeats 2000000 in
theorem graphIn_any (vp vm vn ve:Value) (n:Int) (xs:List Gr.Ed) (W:World) (hn:xs.length≤1000000) (h:Gr.EsAt W ve xs) :
  Calls Tryz.prog 13 #[.agg #[vp,vm,vn,ve],.int .i64 n] W fun e w'=>(∃ va,e=.returned va∧w'.ownsRow W.heap.size 3 1 va (Gr.inE xs n xs.length).length ((Gr.inE xs n xs.length).map (Value.int .i64)))∧Flow.Grow W w':=by
 have H:=Lib.hid h
 obtain ⟨ao,ac,rfl⟩:=h.form
 clear h
 obtain ⟨k,hK⟩:∃ k,k=xs.length:=⟨_,rfl⟩
 have HK:=Lib.hid hK
 rw [← hK] at hn H ⊢
 clear hK
 obtain ⟨i0,hi,hz0,hz1,hz2⟩:=info_parts info_intG
 have HI:=Lib.hid (And.intro hi (And.intro hz0 (And.intro hz1 hz2)))
 clear hi hz0 hz1 hz2
 go_enter Tryz.func13,Tryz.ntmps13
 go_wp2_with fail
 go_loopw [5,11] (fun va i wr=>∃ j:Nat,j≤k∧i=.int .i64 j∧Hid (wr.ownsRow W.heap.size 3 1 va (Gr.inE xs n j).length ((Gr.inE xs n j).map (Value.int .i64)))∧Hid (Flow.Grow W wr)) (fun _ i _=>k - (intOf i).toNat)
 case atStart=>exact ⟨0,by omega,rfl,Lib.hid (World.ownsRow_nil _ _ _ _),Lib.hid (Flow.grow_alloc _ _)⟩
 case round =>
  obtain ⟨j,hj,rfl,HO,HG⟩:=hrel
  rename World=>wr
  obtain ⟨va,hva⟩:∃ va,va=u5:=⟨_,rfl⟩
  obtain ⟨oa,oc,hoa⟩:=own_form HO.out
  subst hoa
  clear hva
  by_cases hjn:j < k
  ·obtain ⟨b,off,rfl,q0,q1⟩:=H.out.at (j:=j) (by rw [← HK.out];exact hjn)
   have c0:=Xm2.cell_grow HG.out q0
   have c1:=Xm2.cell_grow HG.out q1
   have HA:Hid (Gr.inE xs n (j+1)=Gr.inE xs n j++if (xs.getD j (0,0)).2=n then [(j:Int)] else []):=Lib.hid rfl
   clear q0 q1
   have hal:=Gr.inE_len xs n j
   have Hal:=Lib.hid hal
   clear hal
   generalize xs.getD j (0,0)=x at *
   obtain ⟨x0,x1⟩:=x
   simp only at c0 c1 HA
   generalize Gr.inE xs n j=L at *
   generalize hLl:L.length=m at *
   have HLl:=Lib.hid hLl
   clear hLl
   by_cases h0:x1=n
   ·have d0:(x1 == n)=true:=by simp [h0]
    have HE:Hid (Gr.inE xs n (j+1)=L++[(j:Int)]):=Lib.hid (by rw [HA.out,if_pos h0])
    clear h0
    go_wp2_with (at_builtin;refine wpList_app1 (W:=W) rfl _ _ 22 rfl 3 i0 (.int .i64 0) 1 8 Tryz.underlying22 HI.out.1 HI.out.2.1 HI.out.2.2.1 HI.out.2.2.2 rfl (by decide) _ m (L.map (Value.int .i64)) rfl (own_keep HO.out ((Flow.grow_alloc _ _).trans (Flow.grow_alloc _ _))) (HG.out.trans ((Flow.grow_alloc _ _).trans (Flow.grow_alloc _ _))) _ #[.int .i64 j] 3 rfl (hp_new2 _ _ _) rfl (by intro u hu;simp at hu;subst hu;rfl) (by have:=Hal.out;omega) (by decide) ?_;intro v' w' hO hG hf _;have HO2:=Lib.hid hO;have HG2:=Lib.hid hG;obtain ⟨g',c',rfl,_⟩:=hf;clear hO hG)
    go_roundw
    case rel=>exact ⟨j+1,by omega,by go_num,Lib.hid (by rw [HE.out,List.length_append,HLl.out,List.map_append];exact HO2.out),HG2⟩
    case measure=>simp [intOf];omega
   ·have d0:(x1 == n)=false:=by simp [h0]
    have HE:Hid (Gr.inE xs n (j+1)=L):=Lib.hid (by rw [HA.out,if_neg h0,List.append_nil])
    clear h0
    go_wp2_with fail
    go_roundw
    case rel=>exact ⟨j+1,by omega,by go_num,Lib.hid (by rw [HE.out,HLl.out];exact own_keep HO.out (Flow.grow_alloc _ _)),Lib.hid (HG.out.trans (Flow.grow_alloc _ _))⟩
    case measure=>simp [intOf];omega
  ·have ej:j=k:=by omega
   subst ej
   go_wp2_with fail
   go_ret
   exact ⟨⟨_,rfl,HO.out⟩,HG.out⟩
set_option maxRecDepth 100000 in
set_option maxHeartbeats 2000000 in
theorem graphOut_any (vp vm vn ve:Value) (n:Int) (xs:List Gr.Ed) (W:World) (hn:xs.length≤1000000) (h:Gr.EsAt W ve xs) :
  Calls Tryz.prog 14 #[.agg #[vp,vm,vn,ve],.int .i64 n] W fun e w'=>(∃ va,e=.returned va∧w'.ownsRow W.heap.size 3 1 va (Gr.outE xs n xs.length).length ((Gr.outE xs n xs.length).map (Value.int .i64)))∧Flow.Grow W w':=by
 have H:=Lib.hid h
 obtain ⟨ao,ac,rfl⟩:=h.form
 clear h
 obtain ⟨k,hK⟩:∃ k,k=xs.length:=⟨_,rfl⟩
 have HK:=Lib.hid hK
 rw [← hK] at hn H ⊢
 clear hK
 obtain ⟨i0,hi,hz0,hz1,hz2⟩:=info_parts info_intG
 have HI:=Lib.hid (And.intro hi (And.intro hz0 (And.intro hz1 hz2)))
 clear hi hz0 hz1 hz2
 go_enter Tryz.func14,Tryz.ntmps14
 go_wp2_with fail
 go_loopw [5,11] (fun va i wr=>∃ j:Nat,j≤k∧i=.int .i64 j∧Hid (wr.ownsRow W.heap.size 3 1 va (Gr.outE xs n j).length ((Gr.outE xs n j).map (Value.int .i64)))∧Hid (Flow.Grow W wr)) (fun _ i _=>k - (intOf i).toNat)
 case atStart=>exact ⟨0,by omega,rfl,Lib.hid (World.ownsRow_nil _ _ _ _),Lib.hid (Flow.grow_alloc _ _)⟩
 case round =>
  obtain ⟨j,hj,rfl,HO,HG⟩:=hrel
  rename World=>wr
  obtain ⟨va,hva⟩:∃ va,va=u5:=⟨_,rfl⟩
  obtain ⟨oa,oc,hoa⟩:=own_form HO.out
  subst hoa
  clear hva
  by_cases hjn:j < k
  ·obtain ⟨b,off,rfl,q0,q1⟩:=H.out.at (j:=j) (by rw [← HK.out];exact hjn)
   have c0:=Xm2.cell_grow HG.out q0
   have c1:=Xm2.cell_grow HG.out q1
   have HA:Hid (Gr.outE xs n (j+1)=Gr.outE xs n j++if (xs.getD j (0,0)).1=n then [(j:Int)] else []):=Lib.hid rfl
   clear q0 q1
   have hal:=Gr.outE_len xs n j
   have Hal:=Lib.hid hal
   clear hal
   generalize xs.getD j (0,0)=x at *
   obtain ⟨x0,x1⟩:=x
   simp only at c0 c1 HA
   generalize Gr.outE xs n j=L at *
   generalize hLl:L.length=m at *
   have HLl:=Lib.hid hLl
   clear hLl
   by_cases h0:x0=n
   ·have d0:(x0 == n)=true:=by simp [h0]
    have HE:Hid (Gr.outE xs n (j+1)=L++[(j:Int)]):=Lib.hid (by rw [HA.out,if_pos h0])
    clear h0
    go_wp2_with (at_builtin;refine wpList_app1 (W:=W) rfl _ _ 22 rfl 3 i0 (.int .i64 0) 1 8 Tryz.underlying22 HI.out.1 HI.out.2.1 HI.out.2.2.1 HI.out.2.2.2 rfl (by decide) _ m (L.map (Value.int .i64)) rfl (own_keep HO.out ((Flow.grow_alloc _ _).trans (Flow.grow_alloc _ _))) (HG.out.trans ((Flow.grow_alloc _ _).trans (Flow.grow_alloc _ _))) _ #[.int .i64 j] 3 rfl (hp_new2 _ _ _) rfl (by intro u hu;simp at hu;subst hu;rfl) (by have:=Hal.out;omega) (by decide) ?_;intro v' w' hO hG hf _;have HO2:=Lib.hid hO;have HG2:=Lib.hid hG;obtain ⟨g',c',rfl,_⟩:=hf;clear hO hG)
    go_roundw
    case rel=>exact ⟨j+1,by omega,by go_num,Lib.hid (by rw [HE.out,List.length_append,HLl.out,List.map_append];exact HO2.out),HG2⟩
    case measure=>simp [intOf];omega
   ·have d0:(x0 == n)=false:=by simp [h0]
    have HE:Hid (Gr.outE xs n (j+1)=L):=Lib.hid (by rw [HA.out,if_neg h0,List.append_nil])
    clear h0
    go_wp2_with fail
    go_roundw
    case rel=>exact ⟨j+1,by omega,by go_num,Lib.hid (by rw [HE.out,HLl.out];exact own_keep HO.out (Flow.grow_alloc _ _)),Lib.hid (HG.out.trans (Flow.grow_alloc _ _))⟩
    case measure=>simp [intOf];omega
  ·have ej:j=k:=by omega
   subst ej
   go_wp2_with fail
   go_ret
   exact ⟨⟨_,rfl,HO.out⟩,HG.out⟩
set_option maxRecDepth 100000 in
set_option maxHeartbeats 2000000 in
theorem graphTasks_any (vp vm vn ve:Value) (xs:List Gr.Nd) (W:World) (hn:xs.length≤1000000) (h:Gr.NdsAt W vn xs) :
  Calls Tryz.prog 25 #[.agg #[vp,vm,vn,ve]] W fun e w'=>(∃ va,e=.returned va∧w'.ownsRow W.heap.size 3 1 va (Gr.tasks xs xs.length).length ((Gr.tasks xs xs.length).map (Value.int .i64)))∧Flow.Grow W w':=by
 have H:=Lib.hid h
 obtain ⟨ao,ac,rfl⟩:=h.form
 clear h
 obtain ⟨k,hK⟩:∃ k,k=xs.length:=⟨_,rfl⟩
 have HK:=Lib.hid hK
 rw [← hK] at hn H ⊢
 clear hK
 obtain ⟨i0,hi,hz0,hz1,hz2⟩:=info_parts info_intG
 have HI:=Lib.hid (And.intro hi (And.intro hz0 (And.intro hz1 hz2)))
 clear hi hz0 hz1 hz2
 go_enter Tryz.func25,Tryz.ntmps25
 go_wp2_with fail
 go_loopw [3,9] (fun va i wr=>∃ j:Nat,j≤k∧i=.int .i64 j∧Hid (wr.ownsRow W.heap.size 3 1 va (Gr.tasks xs j).length ((Gr.tasks xs j).map (Value.int .i64)))∧Hid (Flow.Grow W wr)) (fun _ i _=>k - (intOf i).toNat)
 case atStart=>exact ⟨0,by omega,rfl,Lib.hid (World.ownsRow_nil _ _ _ _),Lib.hid (Flow.grow_alloc _ _)⟩
 case round =>
  obtain ⟨j,hj,rfl,HO,HG⟩:=hrel
  rename World=>wr
  obtain ⟨va,hva⟩:∃ va,va=u3:=⟨_,rfl⟩
  obtain ⟨oa,oc,hoa⟩:=own_form HO.out
  subst hoa
  clear hva
  by_cases hjn:j < k
  ·obtain ⟨b,off,rfl,q0,q1,q2,q3,q4,q5,q6⟩:=H.out.at (j:=j) (by rw [← HK.out];exact hjn)
   have c0:=Xm2.cell_grow HG.out q0
   have c1:=Xm2.cell_grow HG.out q1
   have c2:=Xm2.cell_grow HG.out q2
   have c3:=Xm2.cell_grow HG.out q3
   have c4:=Xm2.cell_grow HG.out q4
   have c5:=Xm2.cell_grow HG.out q5
   have c6:=Xm2.cell_grow HG.out q6
   have HA:Hid (Gr.tasks xs (j+1)=Gr.tasks xs j++if (xs.getD j Gr.nd0).kind=3 then [(j:Int)] else []):=Lib.hid rfl
   clear q0 q1 q2 q3 q4 q5 q6
   have hal:=Gr.tasks_len xs j
   have Hal:=Lib.hid hal
   clear hal
   generalize xs.getD j Gr.nd0=x at *
   obtain ⟨x0,x1,x2,x3,x4,x5,x6⟩:=x
   simp only at c0 c1 c2 c3 c4 c5 c6 HA
   generalize Gr.tasks xs j=L at *
   generalize hLl:L.length=m at *
   have HLl:=Lib.hid hLl
   clear hLl
   by_cases h0:x0=3
   ·have d0:(x0 == 3)=true:=by simp [h0]
    have HE:Hid (Gr.tasks xs (j+1)=L++[(j:Int)]):=Lib.hid (by rw [HA.out,if_pos h0])
    clear h0
    go_wp2_with (at_builtin;refine wpList_app1 (W:=W) rfl _ _ 22 rfl 3 i0 (.int .i64 0) 1 8 Tryz.underlying22 HI.out.1 HI.out.2.1 HI.out.2.2.1 HI.out.2.2.2 rfl (by decide) _ m (L.map (Value.int .i64)) rfl (own_keep HO.out ((Flow.grow_alloc _ _).trans (Flow.grow_alloc _ _))) (HG.out.trans ((Flow.grow_alloc _ _).trans (Flow.grow_alloc _ _))) _ #[.int .i64 j] 3 rfl (hp_new2 _ _ _) rfl (by intro u hu;simp at hu;subst hu;rfl) (by have:=Hal.out;omega) (by decide) ?_;intro v' w' hO hG hf _;have HO2:=Lib.hid hO;have HG2:=Lib.hid hG;obtain ⟨g',c',rfl,_⟩:=hf;clear hO hG)
    go_roundw
    case rel=>exact ⟨j+1,by omega,by go_num,Lib.hid (by rw [HE.out,List.length_append,HLl.out,List.map_append];exact HO2.out),HG2⟩
    case measure=>simp [intOf];omega
   ·have d0:(x0 == 3)=false:=by simp [h0]
    have HE:Hid (Gr.tasks xs (j+1)=L):=Lib.hid (by rw [HA.out,if_neg h0,List.append_nil])
    clear h0
    go_wp2_with fail
    go_roundw
    case rel=>exact ⟨j+1,by omega,by go_num,Lib.hid (by rw [HE.out,HLl.out];exact own_keep HO.out (Flow.grow_alloc _ _)),Lib.hid (HG.out.trans (Flow.grow_alloc _ _))⟩
    case measure=>simp [intOf];omega
  ·have ej:j=k:=by omega
   subst ej
   go_wp2_with fail
   go_ret
   exact ⟨⟨_,rfl,HO.out⟩,HG.out⟩
end Go.Proofs.YtcnmaplopbbmaaaGreat
