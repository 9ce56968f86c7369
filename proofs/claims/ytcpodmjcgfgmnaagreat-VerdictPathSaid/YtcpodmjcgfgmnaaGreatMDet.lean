/- A map of the call's own whose keys are numbered as they come: the list of its keys. No program. -/
import Derived.Test.YtcpodmjcgfgmnaaGreatMAct
import Derived.Test.YtcpodmjcgfgmnaaGreatDetNfa
import Derived.Maps.OwnSet
import Derived.Maps.Views
namespace Go.Proofs.YtcpodmjcgfgmnaaGreat
open Go.RowKit Go.Maps
namespace Mo
structure Ord (D:DataW Unit) (l:List Lit):Prop where
 tidy:Tidy D
 nodup:l.Nodup
 size:Maps.size D=l.length
 hs:∀ k,Maps.has D k=true↔k∈l
 at_:∀ (q:Nat) (k:Lit),l[q]?=some k→D.atKey k (.lit (.int .i64 0))=.lit (.int .i64 (q:Int))
theorem ord_nil:Ord (.map []) []:=⟨tidy_empty,List.nodup_nil,rfl,fun k=>by simp [Maps.has],fun q k h=>by simp at h⟩
theorem Ord.push {D:DataW Unit} {l:List Lit} (h:Ord D l) {k:Lit} (hk:WideAt.IsKeyLit k) (hn:k∉l):Ord (D.put k (.lit (.int .i64 (l.length:Int)))) (l++[k]) where
 tidy:=h.tidy.put hk _
 nodup:=by
  rw [List.nodup_append];exact ⟨h.nodup,by simp,fun a ha b hb=>by simp at hb;subst hb;intro e;subst e;exact hn ha⟩
 size:=by
  have hf:Maps.has D k=false:=by
   cases e:Maps.has D k with
   | false=>rfl
   | true=>exact (hn ((h.hs k).1 e)).elim
  rw [size_put h.tidy,hf];simp [h.size]
 hs:=fun k'=>by
  by_cases e:k'=k
  ·subst e;rw [has_put_same h.tidy.isMap hk];simp
  ·rw [has_put_other e,h.hs k'];simp [e]
 at_:=fun q k' hq=>by
  by_cases hl:q < l.length
  ·rw [List.getElem?_append_left hl] at hq;have hm:k'∈l:=List.mem_of_getElem? hq;have e:k'≠k:=fun e=>hn (e ▸ hm);rw [atKey_put_other e];exact h.at_ q k' hq
  ·rw [List.getElem?_append_right (by omega)] at hq;have hq0:q - l.length=0:=by
    have:=(List.getElem?_eq_some_iff.1 hq).1;simpa using this
   rw [hq0] at hq;simp at hq;subst hq;have:q=l.length:=by omega
   rw [this];exact atKey_put_same h.tidy.isMap hk _ _
theorem Ord.look {D:DataW Unit} {l:List Lit} (h:Ord D l) (k:Lit) (c:Int) (hc:D.atKey k (.lit (.int .i64 0))=.lit (.int .i64 c)) :
  (k∉l∧Maps.has D k=false)∨(∃ q:Nat,q < l.length∧l[q]?=some k∧c=(q:Int)∧Maps.has D k=true):=by
 by_cases hm:k∈l
 ·right;obtain ⟨q,hq,e⟩:=List.mem_iff_getElem.1 hm;have e':l[q]?=some k:=by rw [List.getElem?_eq_getElem hq,e]
  refine ⟨q,hq,e',?_,(h.hs k).2 hm⟩;have:=(h.at_ q k e').symm.trans hc;injection this with this;injection this with _ this;exact this.symm
 ·left;refine ⟨hm,?_⟩;cases e:Maps.has D k with
  | false=>rfl
  | true=>exact (hm ((h.hs k).1 e)).elim
def kl (s:ByteArray):Lit:=.string s.data.toList
theorem kl_inj {s t:ByteArray} (h:kl s=kl t):s=t:=by
 unfold kl at h;injection h with h;exact ByteArray.ext (Array.ext' h)
theorem kl_is (s:ByteArray):WideAt.IsKeyLit (kl s):=by simp [kl,WideAt.IsKeyLit]
def ki (z:Int):Lit:=.int .i64 z
theorem ki_is (s:Int):WideAt.IsKeyLit (ki s):=by simp [ki,WideAt.IsKeyLit]
theorem nodup_le {α:Type} [DecidableEq α]:∀ {l m:List α},l.Nodup→(∀ x∈l,x∈m)→l.length≤m.length
 | [],_,_,_=>Nat.zero_le _
 | a :: l,m,hn,hs=>by
  have ha:a∈m:=hs a (by simp);have h1:=nodup_le (l:=l) (m:=m.erase a) (List.nodup_cons.1 hn).2 (fun x hx=>(List.mem_erase_of_ne (fun e=>by subst e;exact (List.nodup_cons.1 hn).1 hx)).2 (hs x (by simp [hx])));rw [List.length_erase_of_mem ha] at h1;have:0 < m.length:=List.length_pos_of_mem ha;simp only [List.length_cons];omega
end Mo
end Go.Proofs.YtcpodmjcgfgmnaaGreat
namespace Go.Proofs.YtcpodmjcgfgmnaaGreat
open Go.RowKit Go.Maps
section
variable {w w' w1 w2:World} {G L:Nat} {start:Int} {vf vn v':Value} {fin:List Bool} {rows:List (List Int)} {rs:List Nat} {row:Option Nat}
theorem DfaSt.kept (h:DfaSt w G L start vf vn fin rows rs) (k:w.grownBy w' row) (hG:row≠some G) (hf:vf.ownBlock=none∨vf.ownBlock≠row) (hn:vn.ownBlock=none∨vn.ownBlock≠row)
  (hr:∀ j,j < rows.length→row≠some (rs.getD j 0)):DfaSt w' G L start vf vn fin rows rs where
 block:=(k.block _ h.lt (Ne.symm hG)).trans h.block
 finals:=h.finals.kept k hf
 nexts:=h.nexts.kept k hn
 len:=h.len
 inj:=h.inj
 row:=fun j hj=>⟨(h.row j hj).1,(k.block _ (h.row_lt hj) (Ne.symm (hr j hj))).trans (h.row j hj).2.1,(h.row j hj).2.2⟩
theorem DfaSt.pushRow' {o:Obj} {r:Nat} {rw':List Int} (h:DfaSt w G L start vf vn fin rows rs) (hGr:G+1≤r) (hne:∀ j,j < rows.length→rs.getD j 0≠r) (hb:w.heap[r]?=some (.cells (Qaj rw') 3 (0,0))) (hl:rw'.length=L)
  (hown:w1.ownsRow (G+1) 49 1 v' (rows.length+1) ((rs.map fun g=>Value.slice (some ⟨g,0,none⟩) L L)++[.slice (some ⟨r,0,none⟩) L L])) (k:(w.alloc o).grownBy w1 vn.ownBlock) :
  DfaSt (w1.setCell ⟨G,3,none⟩ v') G L start vf v' fin (rows++[rw']) (rs++[r]):=by
 have h':=h.grow (Flow.grow_alloc w o);have hlt:=h'.lt;have hlo:∀ b,vn.ownBlock=some b→G+1≤b:=fun b hb=>(h'.nexts.lt b hb).1;have hb':(w.alloc o).heap[r]?=some (.cells (Qaj rw') 3 (0,0)):=by rw [Below.heap_alloc w o r (Array.getElem?_eq_some_iff.1 hb).1];exact hb
 have hG1:w1.heap[G]?=some (.cells #[.int .i64 L,.int .i64 start,vf,vn] 27 (0,0)):=by
  rw [k.block G hlt (fun e=>by have:=hlo G e.symm;omega)];exact h'.block
 have keep:∀ (b:Nat) (cs:Array Value),(w.alloc o).heap[b]?=some (.cells cs 3 (0,0))→w1.heap[b]?=some (.cells cs 3 (0,0)):=fun b cs hbb=>by
  rw [k.block b (Array.getElem?_eq_some_iff.1 hbb).1 (Ne.symm (Lib.ownBlock_ne h'.nexts hbb (by decide)))];exact hbb
 have set:∀ b,G+1≤b→(w1.setCell ⟨G,3,none⟩ v').heap[b]?=w1.heap[b]?:=fun b hb=>Below.heap_setCell _ _ _ _ (by show b≠G;omega);refine ⟨?_,?_,?_,by simp [h.len],?_,?_⟩
 ·rw [heap_setCell_same w1 G 3 _ _ _ hG1];rfl
 ·have hf:=h'.finals.kept k (Qr0 h'.finals h'.nexts (by decide));exact hf.kept (Qad w1 G 3 v') (.inr (Lib.ownBlock_ne hf hG1 (by decide)))
 ·have hn:=hown.kept (Qad w1 G 3 v') (.inr (Lib.ownBlock_ne hown hG1 (by decide)));simpa using hn
 ·intro i j hi hj e;rw [List.length_append,List.length_singleton] at hi hj;have gl:∀ q,q < rs.length→(rs++[r]).getD q 0=rs.getD q 0:=fun q hq=>by simp [List.getD_eq_getElem?_getD,List.getElem?_append_left hq]
  have gr:(rs++[r]).getD rs.length 0=r:=by simp
  have hne':∀ i,i < rs.length→rs.getD i 0≠r:=fun i hi=>hne i (by rw [← h.len];exact hi);rcases Nat.lt_or_ge i rs.length with hi' | hi' <;> rcases Nat.lt_or_ge j rs.length with hj' | hj'
  ·rw [gl i hi',gl j hj'] at e;exact h.inj i j hi' hj' e
  ·rw [show j=rs.length by omega,gl i hi',gr] at e;exact (hne' i hi' e).elim
  ·rw [show i=rs.length by omega,gl j hj',gr] at e;exact (hne' j hj' e.symm).elim
  ·omega
 ·intro j hj;rw [List.length_append,List.length_singleton] at hj;rcases Nat.lt_or_ge j rows.length with hj' | hj'
  ·have hjr:j < rs.length:=by rw [h.len];exact hj'
   have e1:(rs++[r]).getD j 0=rs.getD j 0:=by simp [List.getD_eq_getElem?_getD,List.getElem?_append_left hjr]
   have e2:(rows++[rw']).getD j []=rows.getD j []:=by simp [List.getD_eq_getElem?_getD,List.getElem?_append_left hj']
   obtain ⟨a1,a2,a3⟩:=h'.row j hj';rw [e1,e2];exact ⟨a1,by rw [set _ a1];exact keep _ _ a2,a3⟩
  ·have ej:j=rows.length:=by omega
   subst ej;have e1:(rs++[r]).getD rows.length 0=r:=by rw [← h.len];simp
   have e2:(rows++[rw']).getD rows.length []=rw':=by simp
   rw [e1,e2];exact ⟨hGr,by rw [set _ hGr];exact keep _ _ hb',hl⟩
end
namespace Pr
def zd:Value:=.agg #[.int .i64 0,.int .i64 0,.slice none 0 0,.slice none 0 0]
def DfaRes (B K:Nat) (w':World) (d:Value) (c:Int):Prop:=(c≠0∧d=zd)∨(c=0∧∃ (G:Nat) (f n:Value) (fin':List Bool) (rows':List (List Int)) (rs':List Nat),d=.agg #[.int .i64 K,.int .i64 0,f,n]∧DfaSt w' G K 0 f n fin' rows' rs'∧fin'.length=rows'.length∧1≤rows'.length∧rows'.length≤2000∧B≤G)
structure SetSt (w:World) (B m:Nat) (sv:Value) (vs:List Value):Prop where
 own:w.ownsRow B 49 1 sv vs.length vs
 row:∀ j,j < vs.length→∃ zs:List Int,zs.length≤m∧w.ownsRow B 3 1 (vs.getD j undef) zs.length (zs.map (Value.int .i64))
variable {w w' w1:World} {B m:Nat} {sv sv' v:Value} {vs:List Value} {row:Option Nat}
theorem SetSt.kept (h:SetSt w B m sv vs) (k:w.grownBy w' row) (hs:sv.ownBlock=none∨sv.ownBlock≠row) (hr:∀ j,j < vs.length→(vs.getD j undef).ownBlock=none∨(vs.getD j undef).ownBlock≠row):SetSt w' B m sv vs where
 own:=h.own.kept k hs
 row:=fun j hj=>by obtain ⟨zs,h1,h2⟩:=h.row j hj;exact ⟨zs,h1,h2.kept k (hr j hj)⟩
theorem SetSt.grow (h:SetSt w B m sv vs) (g:Flow.Grow w w'):SetSt w' B m sv vs:=h.kept (row:=none) g (by cases sv.ownBlock <;> simp) (fun j _=>by cases (vs.getD j undef).ownBlock <;> simp)
theorem SetSt.keptT {e:Nat} {cs:Array Value} {r:Nat} (h:SetSt w B m sv vs) (k:w.grownBy w' (some r)) (hb:w.heap[r]?=some (.cells cs e (0,0))) (h1:e≠49) (h2:e≠3):SetSt w' B m sv vs :=
 h.kept k (.inr (Lib.ownBlock_ne h.own hb h1)) (fun j hj=>by obtain ⟨zs,_,h4⟩:=h.row j hj;exact .inr (Lib.ownBlock_ne h4 hb h2))
theorem own_map {e n sz B b:Nat} {v:Value} {xs:List Value} {es:Array MapEntry} {cl:Nat} (h:w.ownsRow B e sz v n xs) (hb:w.heap[b]?=some (.map es cl)):v.ownBlock≠some b:=by
 rcases h.2 with ⟨rfl,_⟩ | ⟨g,cap,cur,rfl,_,hg,_⟩
 ·simp [Value.ownBlock]
 ·intro e;simp only [Value.ownBlock,Option.some.injEq] at e;rw [e,hb] at hg;cases hg
theorem SetSt.keptM {b:Nat} {es:Array MapEntry} {cl:Nat} (h:SetSt w B m sv vs) (k:w.grownBy w' (some b)) (hb:w.heap[b]?=some (.map es cl)):SetSt w' B m sv vs :=
 h.kept k (.inr (own_map h.own hb)) (fun j hj=>by obtain ⟨zs,_,h4⟩:=h.row j hj;exact .inr (own_map h4 hb))
theorem SetSt.push {zs:List Int} (h:SetSt w B m sv vs) (hz:zs.length≤m) (hv:w.ownsRow B 3 1 v zs.length (zs.map (Value.int .i64))) (hown:w1.ownsRow B 49 1 sv' (vs.length+1) (vs++[v])) (k:w.grownBy w1 sv.ownBlock):SetSt w1 B m sv' (vs++[v]) where
 own:=by simpa using hown
 row:=fun j hj=>by
  rw [List.length_append,List.length_singleton] at hj;by_cases e:j < vs.length
  ·have:(vs++[v]).getD j undef=vs.getD j undef:=by simp [List.getD_eq_getElem?_getD,List.getElem?_append_left e]
   rw [this];obtain ⟨zs,h1,h2⟩:=h.row j e;exact ⟨zs,h1,h2.kept k (own_apart h2 h.own (by decide))⟩
  ·obtain rfl:j=vs.length:=by omega
   have:(vs++[v]).getD vs.length undef=v:=by simp
   rw [this];exact ⟨zs,hz,hv.kept k (own_apart hv h.own (by decide))⟩
end Pr
section
variable {w w':World} {G L:Nat} {start:Int} {vf vn:Value} {fin:List Bool} {rows:List (List Int)} {rs:List Nat}
theorem DfaSt.keptM {b:Nat} {es:Array MapEntry} {cl:Nat} (h:DfaSt w G L start vf vn fin rows rs) (k:w.grownBy w' (some b)) (hb:w.heap[b]?=some (.map es cl)):DfaSt w' G L start vf vn fin rows rs :=
 h.kept k (fun e=>by injection e with e;have:=h.block;rw [← e,hb] at this;cases this) (.inr (Pr.own_map h.finals hb)) (.inr (Pr.own_map h.nexts hb))
  (fun j hj e=>by injection e with e;have:=(h.row j hj).2.1;rw [← e,hb] at this;cases this)
theorem World.ownsMap.keptC {H:Type} {P:Program} {k:TypeId} {R:Value→Option (DataW H × List MemPlace)} {b n r:Nat} {D:DataW H} {e:Nat} {cs:Array Value} (h:w.ownsMap P k R b n D) (kk:w.grownBy w' (some r)) (hb:w.heap[r]?=some (.cells cs e (0,0))):w'.ownsMap P k R b n D :=
 h.kept kk (fun e=>by
  injection e with e;obtain ⟨es,clock,h1,_⟩:=h;rw [e,hb] at h1;cases h1)
theorem World.ownsMap.keptO {H:Type} {P:Program} {k:TypeId} {R:Value→Option (DataW H × List MemPlace)} {b n B e sz m:Nat} {D:DataW H} {v:Value} {xs:List Value} (h:w.ownsMap P k R b n D) (kk:w.grownBy w' v.ownBlock) (hv:w.ownsRow B e sz v m xs):w'.ownsMap P k R b n D :=
 h.kept kk (fun e=>by
  obtain ⟨es,clock,h1,_⟩:=h;exact Pr.own_map hv h1 e.symm)
theorem World.ownsMap.at_ {H:Type} {P:Program} {k:TypeId} {R:Value→Option (DataW H × List MemPlace)} {b n:Nat} {D:DataW H} (h:w.ownsMap P k R b n D):∃ es cl,w.heap[b]?=some (.map es cl):=by
 obtain ⟨es,cl,h1,_⟩:=h;exact ⟨es,cl,h1⟩
end
section
variable {H:Type} {P:Program}
theorem Qci (w:World) {ops:Array Oper} {rest:List Oper} {o:Oper} {a:Act} {Q:Exit→Act→World→Prop}
  (hg:o.guard=none) (m x v:Operand) (t:TypeId) (hop:o.op=Op.insert t m x v)
  (k e:TypeId) (K:Keyed P k) (ht:P.underlying t=some (.map k e)) (R:Value→Option (DataW H × List MemPlace)) (b n:Nat) (D:DataW H)
  (hm:a.eval m=.map (some b)) (hown:w.ownsMap P k R b n D) (hn:n < maxLen) (key val:Value) (kl:Lit) (hx:a.eval x=key) (hv:a.eval v=val) (hkey:keyOf P k key=some kl)
  (d:DataW H) (ps:List MemPlace) (hval:R val=some (d,ps))
  (hK:∀ w',w'.ownsMap P k R b (n+1) (D.put kl d)→w.grownBy w' (some b)→wpList P ops Q rest (a.put o.dst undef) w') :
  wpList P ops Q (o :: rest) a w:=by
 refine wpList_plain hg fun K' hK'=>?_;obtain ⟨w',hrun,r1,r2⟩:=hown.update K ht hn hkey hval;unfold Oper.wp;simp [execOp,hop,hm,hx,hv,hrun,Result.andThen];exact hK' _ _ (hK w' r1 r2)
end
theorem Qbg:Keyed Tryz.prog 9:=string_keyed Tryz.underlying9
theorem Qml:Keyed Tryz.prog 3:=int_keyed Tryz.underlying3
theorem Qdh (w:World):(zeroValue 3).run Tryz.prog w=.ok (.int .i64 0) w:=by kernel_rfl
end Go.Proofs.YtcpodmjcgfgmnaaGreat
namespace Go.Proofs.YtcpodmjcgfgmnaaGreat
open Go.RowKit Go.Maps
namespace Pr
abbrev MapW (w:World) (M n:Nat) (D:DataW Unit):Prop:=w.ownsMap Tryz.prog 9 (plainElem Tryz.prog 3) M n D
structure DetOf (W w:World) (B G M K nm:Nat) (sv vf vn:Value) (vs:List Value) (fin:List Bool) (rows:List (List Int)) (rs:List Nat) (D:DataW Unit):Prop where
 d:DfaSt w G K 0 vf vn fin rows rs
 s:SetSt w B 100 sv vs
 m:MapW w M nm D
 apart:sv.ownBlock=none∨sv.ownBlock≠vn.ownBlock
 g:Flow.Grow W w
 hB:W.heap.size≤B
 hG:W.heap.size≤G
 hM:W.heap.size≤M
structure DetIn (W w:World) (B G M K nm:Nat) (sv vf vn:Value) (vs:List Value) (fin:List Bool) (rows:List (List Int)) (rs:List Nat) (D:DataW Unit) (R:Nat) (row:List Int):Prop extends DetOf W w B G M K nm sv vf vn vs fin rows rs D where
 hb:w.heap[R]?=some (.cells (Qaj row) 3 (0,0))
 rl:row.length=K
 hR:G+1≤R
 hne:∀ j,j < rows.length→rs.getD j 0≠R
 hv:∀ j,j < vs.length→(vs.getD j undef).ownBlock≠some R
variable {W w w' w1:World} {B G M K nm nm' R:Nat} {sv vf vn sv' v' v:Value} {vs:List Value} {fin:List Bool} {rows:List (List Int)} {rs:List Nat} {D D':DataW Unit} {row:List Int} {o:Obj}
theorem DetOf.grow (h:DetOf W w B G M K nm sv vf vn vs fin rows rs D) (g:Flow.Grow w w'):DetOf W w' B G M K nm sv vf vn vs fin rows rs D where
 d:=h.d.grow g
 s:=h.s.grow g
 m:=h.m.kept (row:=none) g (by simp)
 apart:=h.apart
 g:=h.g.trans g
 hB:=h.hB
 hG:=h.hG
 hM:=h.hM
theorem DetIn.grow (h:DetIn W w B G M K nm sv vf vn vs fin rows rs D R row) (g:Flow.Grow w w'):DetIn W w' B G M K nm sv vf vn vs fin rows rs D R row where
 toDetOf:=h.toDetOf.grow g
 hb:=(g.block _ (Array.getElem?_eq_some_iff.1 h.hb).1 (by simp)).trans h.hb
 rl:=h.rl
 hR:=h.hR
 hne:=h.hne
 hv:=h.hv
theorem DetOf.mkRow (h:DetOf W w B G M K nm sv vf vn vs fin rows rs D) (hb:(w.alloc o).heap[w.heap.size]?=some (.cells (Qaj row) 3 (0,0))) (hl:row.length=K):DetIn W (w.alloc o) B G M K nm sv vf vn vs fin rows rs D w.heap.size row where
 toDetOf:=h.grow (Flow.grow_alloc _ _)
 hb:=hb
 rl:=hl
 hR:=h.d.lt
 hne:=fun j hj e=>by have:=h.d.row_lt hj;omega
 hv:=fun j hj e=>by obtain ⟨zs,_,h4⟩:=h.s.row j hj;have:=(h4.lt _ e).2;omega
theorem DetIn.set (h:DetIn W w B G M K nm sv vf vn vs fin rows rs D R row) (q:Nat) (z:Int):DetIn W (w.setCell ⟨R,q,none⟩ (.int .i64 z)) B G M K nm sv vf vn vs fin rows rs D R (row.set q z) where
 d:=h.d.kept (Qad w R q _) (fun e=>by injection e with e;have:=h.hR;omega) (.inr (Lib.ownBlock_ne h.d.finals h.hb (by decide))) (.inr (Lib.ownBlock_ne h.d.nexts h.hb (by decide))) (fun j hj e=>by injection e with e;exact h.hne j hj e.symm)
 s:=h.s.kept (Qad w R q _) (.inr (Lib.ownBlock_ne h.s.own h.hb (by decide))) (fun j hj=>.inr (h.hv j hj))
 m:=World.ownsMap.keptC h.m (Qad w R q _) h.hb
 apart:=h.apart
 g:=Qag h.g (by have h1:=h.hR;have h2:=h.hG;omega) q _
 hB:=h.hB
 hG:=h.hG
 hM:=h.hM
 hb:=Qcc h.hb
 rl:=by rw [List.length_set];exact h.rl
 hR:=h.hR
 hne:=h.hne
 hv:=h.hv
theorem DetIn.upd (h:DetIn W w B G M K nm sv vf vn vs fin rows rs D R row) (k:w.grownBy w' (some M)) (hm:MapW w' M nm' D'):DetIn W w' B G M K nm' sv vf vn vs fin rows rs D' R row:=by
 obtain ⟨es,cl,hb⟩:=World.ownsMap.at_ h.m;exact {
  d:=h.d.keptM k hb
  s:=h.s.keptM k hb
  m:=hm
  apart:=h.apart
  g:=Qap h.g k (fun b e=>by injection e with e;have:=h.hM;omega)
  hB:=h.hB
  hG:=h.hG
  hM:=h.hM
  hb:=(k.block _ (Array.getElem?_eq_some_iff.1 h.hb).1 (fun e=>by injection e with e;have:=h.hb;rw [e,hb] at this;cases this)).trans h.hb
  rl:=h.rl
  hR:=h.hR
  hne:=h.hne
  hv:=h.hv }
theorem DetIn.app {zs:List Int} {g c:Nat} (h:DetIn W w B G M K nm sv vf vn vs fin rows rs D R row) (hz:zs.length≤100) (hv:w.ownsRow B 3 1 v zs.length (zs.map (Value.int .i64))) (hvR:v.ownBlock≠some R)
  (hown:w1.ownsRow B 49 1 (.slice (some ⟨g,0,none⟩) (vs.length+1) c) (vs.length+1) (vs++[v])) (k:w.grownBy w1 sv.ownBlock) (hat:sv.ownBlock=some g∨g=w.heap.size) :
  DetIn W w1 B G M K nm (.slice (some ⟨g,0,none⟩) (vs.length+1) c) vf vn (vs++[v]) fin rows rs D R row where
 d:=h.d.kept k (fun e=>Lib.ownBlock_ne h.s.own h.d.block (by decide) e) (Pr.own_apart h.d.finals h.s.own (by decide)) (by
   cases hn:vn.ownBlock with
   | none=>exact .inl rfl
   | some b =>
    right;rcases h.apart with h1 | h1
    ·rw [h1];simp
    ·intro e;exact h1 (e.symm.trans hn.symm))
  (fun j hj e=>Lib.ownBlock_ne h.s.own (h.d.row j hj).2.1 (by decide) e)
 s:=h.s.push hz hv hown k
 m:=World.ownsMap.keptO h.m k h.s.own
 apart:=by
  right;intro e;rcases hat with h1 | h1
  ·rcases h.apart with h2 | h2
   ·rw [h2] at h1;cases h1
   ·exact h2 (h1.trans e)
  ·have:=(h.d.nexts.lt g e.symm).2;omega
 g:=Qap h.g k (fun b e=>by have h1:=(h.s.own.lt b e).1;have h2:=h.hB;omega)
 hB:=h.hB
 hG:=h.hG
 hM:=h.hM
 hb:=(k.block _ (Array.getElem?_eq_some_iff.1 h.hb).1 (fun e=>Lib.ownBlock_ne h.s.own h.hb (by decide) e.symm)).trans h.hb
 rl:=h.rl
 hR:=h.hR
 hne:=h.hne
 hv:=fun j hj=>by
  rw [List.length_append,List.length_singleton] at hj;by_cases e:j < vs.length
  ·have:(vs++[v]).getD j undef=vs.getD j undef:=by simp [List.getD_eq_getElem?_getD,List.getElem?_append_left e]
   rw [this];exact h.hv j e
  ·obtain rfl:j=vs.length:=by omega
   have:(vs++[v]).getD vs.length undef=v:=by simp
   rw [this];exact hvR
theorem DetIn.done {g c:Nat} (h:DetIn W w B G M K nm sv vf vn vs fin rows rs D R row)
  (hown:w1.ownsRow (G+1) 49 1 (.slice (some ⟨g,0,none⟩) (rows.length+1) c) (rows.length+1) ((rs.map fun g=>Value.slice (some ⟨g,0,none⟩) K K)++[.slice (some ⟨R,0,none⟩) K K])) (k:(w.alloc o).grownBy w1 vn.ownBlock) (hat:vn.ownBlock=some g∨g=(w.alloc o).heap.size) :
  DetOf W (w1.setCell ⟨G,3,none⟩ (.slice (some ⟨g,0,none⟩) (rows.length+1) c)) B G M K nm sv vf (.slice (some ⟨g,0,none⟩) (rows.length+1) c) vs fin (rows++[row]) (rs++[R]) D:=by
 have h':=h.grow (Flow.grow_alloc w o);have hG1:=h.d.after k (fun b e=>(h'.d.nexts.lt b e).1);have hs1:SetSt w1 B 100 sv vs:=h'.s.kept k (by
   cases hs:sv.ownBlock with
   | none=>exact .inl rfl
   | some b =>
    right;rcases h.apart with h1 | h1
    ·rw [h1] at hs;cases hs
    ·intro e;exact h1 (hs.trans e))
  (fun j hj=>by obtain ⟨zs,_,h4⟩:=h'.s.row j hj;exact Pr.own_apart h4 h'.d.nexts (by decide))
 exact {
  d:=h.d.pushRow' h.hR h.hne h.hb h.rl hown k
  s:=hs1.keptT (Qad w1 G 3 _) hG1 (by decide) (by decide)
  m:=World.ownsMap.keptC (World.ownsMap.keptO h'.m k h'.d.nexts) (Qad w1 G 3 _) hG1
  apart:=by
   cases hs:sv.ownBlock with
   | none=>exact .inl rfl
   | some b =>
    right;intro e;simp only [Value.ownBlock,Option.some.injEq] at e;subst e;rcases hat with h1 | h1
    ·rcases h.apart with h2 | h2
     ·rw [h2] at hs;cases hs
     ·exact h2 (hs.trans h1.symm)
    ·have:=(h'.s.own.lt _ hs).2;omega
  g:=Qag (Qap h'.g k (fun b e=>by have h1:=(h'.d.nexts.lt b e).1;have h2:=h.hG;omega)) (by have:=h.hG;omega) 3 _
  hB:=h.hB
  hG:=h.hG
  hM:=h.hM }
end Pr
theorem DfaSt.pushFin' {w w1:World} {G L:Nat} {start:Int} {vf vn v':Value} {fin:List Bool} {rows:List (List Int)} {rs:List Nat} {x:Bool} (h:DfaSt w G L start vf vn fin rows rs)
  (hown:w1.ownsRow (G+1) 4 1 v' (fin.length+1) (fin.map Value.bool++[.bool x])) (k:w.grownBy w1 vf.ownBlock) :
  w1.heap[G]?=some (.cells #[.int .i64 L,.int .i64 start,vf,vn] 27 (0,0))∧DfaSt (w1.setCell ⟨G,2,none⟩ v') G L start v' vn (fin++[x]) rows rs:=by
 have hG1:w1.heap[G]?=some (.cells #[.int .i64 L,.int .i64 start,vf,vn] 27 (0,0)):=by
  rw [k.block G h.lt (fun e=>by have:=h.finals_lo G e.symm;omega)];exact h.block
 have keep:∀ (b:Nat) (cs:Array Value),w.heap[b]?=some (.cells cs 3 (0,0))→w1.heap[b]?=some (.cells cs 3 (0,0)):=fun b cs hbb=>by
  rw [k.block b (Array.getElem?_eq_some_iff.1 hbb).1 (Ne.symm (Lib.ownBlock_ne h.finals hbb (by decide)))];exact hbb
 have set:∀ b,G+1≤b→(w1.setCell ⟨G,2,none⟩ v').heap[b]?=w1.heap[b]?:=fun b hb=>Below.heap_setCell _ _ _ _ (by show b≠G;omega);refine ⟨hG1,?_,?_,?_,h.len,h.inj,?_⟩
 ·rw [heap_setCell_same w1 G 2 _ _ _ hG1];rfl
 ·have hn:=hown.kept (Qad w1 G 2 v') (.inr (Lib.ownBlock_ne hown hG1 (by decide)));simpa using hn
 ·have hf:=h.nexts.kept k (Qr0 h.nexts h.finals (by decide));exact hf.kept (Qad w1 G 2 v') (.inr (Lib.ownBlock_ne hf hG1 (by decide)))
 ·intro j hj;obtain ⟨a1,a2,a3⟩:=h.row j hj;exact ⟨a1,by rw [set _ a1];exact keep _ _ a2,a3⟩
theorem Pr.DetOf.addFin' {W w w1:World} {B G M K nm:Nat} {sv vf vn v':Value} {vs:List Value} {fin:List Bool} {rows:List (List Int)} {rs:List Nat} {D:DataW Unit} {x:Bool} (h:Pr.DetOf W w B G M K nm sv vf vn vs fin rows rs D) (hown:w1.ownsRow (G+1) 4 1 v' (fin.length+1) (fin.map Value.bool++[.bool x])) (k:w.grownBy w1 vf.ownBlock) :
  w1.heap[G]?=some (.cells #[.int .i64 K,.int .i64 0,vf,vn] 27 (0,0))∧Pr.DetOf W (w1.setCell ⟨G,2,none⟩ v') B G M K nm sv v' vn vs (fin++[x]) rows rs D:=by
 obtain ⟨hG1,hd⟩:=h.d.pushFin' hown k;have hs1:Pr.SetSt w1 B 100 sv vs:=h.s.kept k (Pr.own_apart h.s.own h.d.finals (by decide))
  (fun j hj=>by obtain ⟨zs,_,h4⟩:=h.s.row j hj;exact Pr.own_apart h4 h.d.finals (by decide))
 exact ⟨hG1,{
  d:=hd
  s:=hs1.keptT (Qad w1 G 2 _) hG1 (by decide) (by decide)
  m:=World.ownsMap.keptC (World.ownsMap.keptO h.m k h.d.finals) (Qad w1 G 2 _) hG1
  apart:=h.apart
  g:=Qag (Qap h.g k (fun b e=>by have h1:=(h.d.finals.lt b e).1;have h2:=h.hG;omega)) (by have:=h.hG;omega) 2 _
  hB:=h.hB
  hG:=h.hG
  hM:=h.hM }⟩
end Go.Proofs.YtcpodmjcgfgmnaaGreat
