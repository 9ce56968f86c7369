/- What was explored breadth first: where a node comes from, and that the way back is as short as may be. No program. -/
import Derived.Test.YtcpodmjcgfgmnaaGreatExplore
import Derived.Test.YtcpodmjcgfgmnaaGreatMEx
import Derived.Test.YtcpodmjcgfgmnaaGreatRefDfa
import Derived.Shelf.SlicesQ.Reverse
import Derived.Ground.SlgnProg
import Derived.ArgAppend
namespace Go.Proofs.YtcpodmjcgfgmnaaGreat
open Go.RowKit
namespace As
open Pr
theorem Quo:∀ {all:List Cfg} {l:List Stq} {q:Nat} {s:Stq},l[q]?=some s→(tos all l)[q]?=some ((exts all (l.take q)).idxOf s.2.2)
 | _,[],q,s,h=>by simp at h
 | all,x :: l,0,s,h=>by
  simp at h;subst h;rfl
 | all,x :: l,q+1,s,h=>by
  have:=Quo (all:=ext all x.2.2) (l:=l) (q:=q) (s:=s) (by simpa using h);rw [tos,List.getElem?_cons_succ,this,List.take_succ_cons];rfl
theorem Qhx (all:List Cfg) (l:List Stq) {p q:Nat} (h:p≤q):exts all (l.take p) <+: exts all (l.take q):=by
 have e:l.take q=l.take p++(l.take q).drop p:=by
  have h1:=List.take_append_drop p (l.take q);rw [List.take_take,Nat.min_eq_left h] at h1;exact h1.symm
 rw [e];unfold exts;rw [List.foldl_append];exact Qig _ _
def Edge (f:Cfg→List Stp) (i a b t:Nat):Prop:=∃ (q:Nat) (d:Cfg),(f ((Qal f i).getD i first))[q]?=some (a,b,d)∧(tos (Qal f i) (f ((Qal f i).getD i first)))[q]?=some t
theorem Qrm {all:List Cfg} {l:List Stq} {q:Nat} {s:Stq} (h:l[q]?=some s):exts all (l.take (q+1))=ext (exts all (l.take q)) s.2.2:=by
 rw [List.take_add_one,h];exact Qo3 _ _ _
theorem Qm3 {f:Cfg→List Stp} {i a b t:Nat} (h:Edge f i a b t):∃ d,(a,b,d)∈f ((Qal f i).getD i first)∧t < (Qal f (i+1)).length∧(Qal f (i+1)).getD t first=d:=by
 obtain ⟨q,d,h1,h2⟩:=h;have h3:=Quo (all:=Qal f i) h1;rw [h2] at h3;injection h3 with h3;have hst:Qal f (i+1)=exts (Qal f i) (f ((Qal f i).getD i first)):=rfl;have hp:ext (exts (Qal f i) ((f ((Qal f i).getD i first)).take q)) d <+: Qal f (i+1):=by
  rw [hst,← Qrm h1];have:=Qhx (Qal f i) (f ((Qal f i).getD i first)) (p:=q+1) (q:=(f ((Qal f i).getD i first)).length) (List.getElem?_eq_some_iff.1 h1).1;rwa [List.take_length] at this
 generalize exts (Qal f i) ((f ((Qal f i).getD i first)).take q)=ak at *;have hm:d∈ext ak d:=by
  unfold ext;split
  ·assumption
  ·simp
 have ht:t=(ext ak d).idxOf d:=by
  rw [h3];unfold ext;split
  ·rfl
  ·rename_i hn;rw [List.idxOf_append,if_neg hn];simp [List.idxOf_eq_length hn]
 have hlt:t < (ext ak d).length:=by rw [ht];exact List.idxOf_lt_length_iff.2 hm
 refine ⟨d,List.mem_of_getElem? h1,Nat.lt_of_lt_of_le hlt hp.length_le,?_⟩;rw [Qrv hp hlt,List.getD_eq_getElem?_getD,List.getElem?_eq_getElem hlt];subst ht;simp
def Qre (f:Cfg→List Stp) (i a b t:Nat):Prop:=Edge f i a b t∧(Qal f i).length≤t∧t < (Qal f (i+1)).length
theorem Qsj {all:List Cfg}:∀ {l:List Stq} {t:Nat},all.length≤t→t < (exts all l).length→∃ (q:Nat) (s:Stq),l[q]?=some s∧(tos all l)[q]?=some t
 | [],t,h1,h2=>by
  have:(exts all []).length=all.length:=rfl;omega
 | x :: l,t,h1,h2=>by
  by_cases hx:t < (ext all x.2.2).length
  ·have hn:x.2.2∉all:=fun hm=>by
    have:ext all x.2.2=all:=if_pos hm;rw [this] at hx;omega
   have:t=all.length:=by
    have:=Qwz all x.2.2;omega
   refine ⟨0,x,rfl,?_⟩;rw [tos,List.getElem?_cons_zero,this,List.idxOf_eq_length hn]
  ·obtain ⟨q,s,h3,h4⟩:=Qsj (all:=ext all x.2.2) (l:=l) (t:=t) (by omega) h2;exact ⟨q+1,s,by simpa using h3,by rw [tos,List.getElem?_cons_succ];exact h4⟩
theorem comes {f:Cfg→List Stp}:∀ {n k:Nat},0 < k→k < (Qal f n).length→∃ i a b,i < n∧Qre f i a b k
 | 0,k,h0,h=>by simp [Qal] at h;omega
 | n+1,k,h0,h=>by
  by_cases hk:k < (Qal f n).length
  ·obtain ⟨i,a,b,h1,h2⟩:=comes h0 hk;exact ⟨i,a,b,by omega,h2⟩
  ·obtain ⟨q,⟨a,b,d⟩,h1,h2⟩:=Qsj (all:=Qal f n) (l:=f ((Qal f n).getD n first)) (t:=k) (by omega) h;exact ⟨n,a,b,by omega,⟨q,d,h1,h2⟩,by omega,h⟩
abbrev Stt:=Nat × Nat × Nat
def Way (f:Cfg→List Stp):Nat→List Stt→Nat→Prop
 | a,[],b=>a=b
 | a,s :: r,b=>Qre f a s.1 s.2.1 s.2.2∧Way f s.2.2 r b
theorem Way.app {f:Cfg→List Stp}:∀ {r r':List Stt} {a b c:Nat},Way f a r b→Way f b r' c→Way f a (r++r') c
 | [],r',a,b,c,h,k=>by
  have:a=b:=h;subst this;exact k
 | s :: r,r',a,b,c,h,k=>⟨h.1,Way.app h.2 k⟩
theorem Way.split {f:Cfg→List Stp}:∀ {r r':List Stt} {a c:Nat},Way f a (r++r') c→∃ b,Way f a r b∧Way f b r' c
 | [],r',a,c,h=>⟨a,rfl,h⟩
 | s :: r,r',a,c,h=>by
  obtain ⟨b,h1,h2⟩:=Way.split h.2;exact ⟨b,⟨h.1,h1⟩,h2⟩
theorem Way.last {f:Cfg→List Stp} {r:List Stt} {s:Stt} {a c:Nat} (h:Way f a (r++[s]) c):∃ b,Way f a r b∧Qre f b s.1 s.2.1 c:=by
 obtain ⟨b,h1,h2⟩:=Way.split h;have h3:s.2.2=c:=h2.2;exact ⟨b,h1,h3 ▸ h2.1⟩
theorem Qng (f:Cfg→List Stp) (i:Nat):1≤(Qal f i).length:=by
 have:=Qb9 f (Nat.zero_le i);exact this
theorem Qxv {f:Cfg→List Stp} {i i' a b a' b' u v:Nat} (h:Qre f i a b u) (k:Qre f i' a' b' v) (huv:u≤v):i≤i':=by
 rcases Nat.lt_or_ge i' i with h1 | h1
 ·have h2:=Qb9 f (show i'+1≤i by omega);have h3:=h.2.1;have h4:=k.2.2;omega
 ·exact h1
theorem Qll {f:Cfg→List Stp}:∀ (m:Nat) {r r':List Stt} {u v:Nat},r'.length=m→Way f 0 r u→Way f 0 r' v→u≤v→r.length≤m
 | m,r,r',u,v,hm,h,k,huv=>by
  rcases List.eq_nil_or_concat r with rfl | ⟨r1,s,rfl⟩
  ·simp
  ·rw [List.concat_eq_append] at h ⊢;obtain ⟨i,h1,h2⟩:=h.last;rcases List.eq_nil_or_concat r' with rfl | ⟨r1',s',rfl⟩
   ·have hv:0=v:=k;have:=h2.2.1;have:=Qng f i;omega
   ·rw [List.concat_eq_append] at k hm;obtain ⟨i',k1,k2⟩:=k.last;rw [List.length_append,List.length_singleton] at hm ⊢;subst hm;have:=Qll r1'.length rfl h1 k1 (Qxv h2 k2 huv);omega
termination_by m=>m
def Reach (f:Cfg→List Stp):Nat→Nat→Prop
 | 0,v=>v=0
 | r+1,v=>∃ u a b,Reach f r u∧Edge f u a b v
theorem Qz5 {f:Cfg→List Stp} {n:Nat} (hn:Ends f n):∀ (k:Nat),k < n→∃ r,Way f 0 r k:=by
 intro k;induction k using Nat.strongRecOn with
 | ind k ih =>
  intro hk;by_cases h0:k=0
  ·subst h0;exact ⟨[],rfl⟩
  ·obtain ⟨i,a,b,h1,h2⟩:=comes (f:=f) (n:=n) (k:=k) (by omega) (by rw [hn.1];exact hk);have h3:=hn.2 i h1;have h4:=h2.2.1;obtain ⟨r,hr⟩:=ih i (by omega) h1;exact ⟨r++[(a,b,k)],Way.app hr ⟨h2,rfl⟩⟩
theorem Zbe {f:Cfg→List Stp} {n i a b t:Nat} (hn:Ends f n) (hi:i < n) (h:Edge f i a b t):t < n:=by
 obtain ⟨d,_,h1,_⟩:=Qm3 h;have:=Qb9 f (show i+1≤n by omega);have:=hn.1;omega
theorem Qia {f:Cfg→List Stp} {n:Nat} (hn:Ends f n):∀ {r v:Nat},Reach f r v→v < n
 | 0,v,h=>by
  have:v=0:=h;subst this;rcases Nat.eq_zero_or_pos n with h0 | h0
  ·have:=hn.1;have:=Qng f n;omega
  ·exact h0
 | r+1,v,⟨u,a,b,h1,h2⟩=>Zbe hn (Qia hn h1) h2
theorem Qne {f:Cfg→List Stp} {n:Nat} (hn:Ends f n):∀ {r:Nat} {R:List Stt} {v:Nat},Reach f r v→Way f 0 R v→R.length≤r
 | 0,R,v,h,k=>by
  have:v=0:=h;subst this;exact Qll 0 (r':=[]) rfl k rfl (Nat.le_refl _)
 | r+1,R,v,⟨u,a,b,h1,h2⟩,k=>by
  obtain ⟨Ru,hu⟩:=Qz5 hn u (Qia hn h1);have hl:=Qne hn h1 hu;rcases List.eq_nil_or_concat R with rfl | ⟨R1,s,rfl⟩
  ·simp
  ·rw [List.concat_eq_append] at k ⊢;obtain ⟨i,k1,k2⟩:=k.last;obtain ⟨_,_,h3,_⟩:=Qm3 h2;have hiu:i≤u:=by
    rcases Nat.lt_or_ge u i with h4 | h4
    ·have h5:=Qb9 f (show u+1≤i by omega);have h6:=k2.2.1;omega
    ·exact h4
   have:=Qll Ru.length rfl k1 hu hiu;rw [List.length_append,List.length_singleton];omega
end As
end Go.Proofs.YtcpodmjcgfgmnaaGreat
namespace Go.Proofs.YtcpodmjcgfgmnaaGreat
open Go.RowKit Go.Shelf
def Qlz:Go.Shelf.Ren:=⟨fun | 35=>25 | n=>n,fun | 22=>46 | 23=>58 | 3=>3 | 4=>4 | 0=>0 | n=>n,fun | n=>n⟩
theorem Qnq:Go.Proofs.SlLaysE0.n35 Tryz.prog Qlz:={
 mixed:=by kernel_rfl
 f35:=⟨Tryz.f25.name,by decide,Tryz.func25.trans (congrArg some (by kernel_rfl))⟩
 t0:=Tryz.underlying0
 a0:=Tryz.isAgg0
 z0:=Tryz.sizeOf0
 v0:=Tryz.zeroValue0
 t3:=Tryz.underlying3
 a3:=Tryz.isAgg3
 z3:=Tryz.sizeOf3
 v3:=Tryz.zeroValue3
 t4:=Tryz.underlying4
 a4:=Tryz.isAgg4
 z4:=Tryz.sizeOf4
 v4:=Tryz.zeroValue4
 t22:=Tryz.underlying46
 a22:=Tryz.isAgg46
 z22:=Tryz.sizeOf46
 v22:=Tryz.zeroValue46 }
namespace As
open Go.Sort
def encT (x:Nat × Nat × Nat):List Value:=[.int .i64 (x.1:Int),.int .i64 (x.2.1:Int),.int .i64 (x.2.2:Int)]
theorem Qm2 (zs:List (Nat × Nat × Nat)):(zs.flatMap encT).length=zs.length * 3:=by
 induction zs with
 | nil=>rfl
 | cons z r ih=>rw [List.flatMap_cons,List.length_append,ih,List.length_cons];simp [encT];omega
theorem Qoz (zs:List (Nat × Nat × Nat)):(flatK encT 3 zs.toArray).toList=zs.flatMap encT:=by
 have hl:=Qm2 zs;refine List.ext_getElem? fun t=>?_;by_cases h:t < zs.length * 3
 ·have h1:t / 3 < zs.length:=by omega
  have h2:t % 3 < 3:=by omega
  have h3:=Qdd (f:=encT) (m:=3) (fun _=>rfl) zs (t / 3) (t % 3) zs[t / 3] (List.getElem?_eq_getElem h1) h2;rw [show t / 3 * 3+t % 3=t by omega] at h3;rw [h3,Array.getElem?_toList];have h4:=get_flatK encT 3 zs.toArray t (by simpa using h);rw [getElem!_pos _ t (by simpa using h)] at h4;rw [Array.getElem?_eq_getElem (by simpa using h),h4,getElem!_pos zs.toArray (t / 3) (by simpa using h1)];rw [getElem!_pos _ (t % 3) (by simpa [encT] using h2),List.getElem?_eq_getElem (by simpa [encT] using h2)];simp
 ·rw [List.getElem?_eq_none (by simp;omega),List.getElem?_eq_none (by rw [hl];omega)]
theorem Qpq (v:Value) (zs:List (Nat × Nat × Nat)) (B:Nat) (w:World) (hn:zs.length≤1000000) (h:w.ownsRow B 58 3 v zs.length (zs.flatMap encT)) :
  Calls Tryz.prog 25 #[v] w fun e w'=>e=.returned (.tuple #[])∧w'.ownsRow B 58 3 v zs.length (zs.reverse.flatMap encT)∧w.grownBy w' v.ownBlock:=by
 rcases h.2 with ⟨rfl,h0⟩ | ⟨g,cap,cur,rfl,hb,hg,h1,h2,h3,h4⟩
 ·obtain rfl:=List.eq_nil_of_length_eq_zero h0;refine (AnyQ.slices_Reverse_empty Qnq none 0 w).mono ?_;rintro e w' ⟨rfl,rfl⟩;exact ⟨rfl,h,⟨rfl,rfl,rfl,Nat.le_refl _,fun _ _ _=>rfl⟩⟩
 ·have hH:HoldsK encT 3 w g 0 zs.toArray:=fun j hj=>by
   have hj':j < zs.length * 3:=by simpa using hj
   have hc:=cell_of_row w g (0+j) _ _ _ hg;refine ⟨?_,frozen_of_row w g (0+j) _ _ hg⟩;rw [hc,Nat.zero_add,getElem!_pos _ j hj];have h5:(flatK encT 3 zs.toArray).toList[j]?=cur.toList[j]?:=by
    rw [Qoz,← h4,List.getElem?_take,if_pos hj']
   rw [Array.getElem?_toList,Array.getElem?_toList,Array.getElem?_eq_getElem hj] at h5;exact h5.symm
  refine (AnyQ.slices_Reverse Qnq 3 Tryz.isAgg58 Tryz.sizeOf58 encT (fun _=>rfl) (fun x v hv=>by simp [encT] at hv;rcases hv with rfl | rfl | rfl <;> rfl) g 0 cap zs.toArray w hH (by simp;omega)).mono ?_;rintro e w' ⟨rfl,n,rfl⟩;refine ⟨rfl,⟨by rw [Qm2,List.length_reverse],.inr ⟨g,cap,putCells id 0 (flatK encT 3 zs.toArray.reverse) cur,rfl,hb,?_,h1,h2,by simpa [putCells] using h3,?_⟩⟩,⟨rfl,rfl,rfl,by simp [putRowK,putRow,mapBlock,Sort.ahead],fun k hk hne=>?_⟩⟩
  ·simp [putRowK,putRow,mapBlock,Sort.ahead,Array.getElem?_modify,hg,onCells]
  ·rw [show zs.toArray.reverse=zs.reverse.toArray by simp,← Qoz];refine List.ext_getElem? fun j=>?_;rw [List.getElem?_take];by_cases hj:j < zs.length * 3
   ·rw [if_pos hj,Array.getElem?_toList,Array.getElem?_toList];have hjc:j < cur.size:=by omega
    simp only [putCells,Array.getElem?_mapIdx,Array.getElem?_eq_getElem hjc,Option.map_some];rw [if_pos (by simp;omega),Array.getElem?_eq_getElem (by simpa using hj)];simp [getElem!_pos,hj]
   ·rw [if_neg hj,List.getElem?_eq_none (by simp;omega)]
  ·have hne':g≠k:=fun e=>hne (by simp [Value.ownBlock,e]);simp [putRowK,putRow,mapBlock,Sort.ahead,Array.getElem?_modify,hne']
end As
end Go.Proofs.YtcpodmjcgfgmnaaGreat
namespace Go.Proofs.YtcpodmjcgfgmnaaGreat
open Go.RowKit
theorem Za9 {w w':World} {r:Option Nat} (k:w.grownBy w' none):w.grownBy w' r:=⟨k.os,k.tape,k.output,k.size,fun j hj _=>k.block j hj (by simp)⟩
namespace As
open Pr
structure Qu (w:World) (B g off n cap:Nat) (xs:List Value):Prop where
 lo:B≤g
 len:xs.length=n
 row:∃ cur:Array Value,w.heap[g]?=some (.cells cur 3 (0,0))∧off+cap≤cur.size∧n≤cap∧∀ j u,xs[j]?=some u→cur[off+j]?=some u
section
variable {w w':World} {B g off n cap:Nat} {xs:List Value}
theorem Qu.cell (h:Qu w B g off n cap xs) {j:Nat} {u:Value} (hj:xs[j]?=some u):w.cell? ⟨g,off+j,none⟩=some u:=by
 obtain ⟨cur,hg,_,_,hc⟩:=h.row;rw [cell_of_row w g _ _ _ _ hg];exact hc j u hj
theorem Qu.lt (h:Qu w B g off n cap xs):g < w.heap.size:=by
 obtain ⟨cur,hg,_⟩:=h.row;exact (Array.getElem?_eq_some_iff.1 hg).1
theorem Qu.same (h:Qu w B g off n cap xs) (hb:w'.heap[g]?=w.heap[g]?):Qu w' B g off n cap xs:=by
 obtain ⟨cur,hg,h2⟩:=h.row;exact ⟨h.lo,h.len,cur,hb.trans hg,h2⟩
theorem Qu.grow (h:Qu w B g off n cap xs) (k:Flow.Grow w w'):Qu w' B g off n cap xs:=h.same (k.block g h.lt (by simp))
theorem Qu.head {x:Value} (h:Qu w B g off (n+1) cap (x :: xs)):Qu w B g (if cap=1 then off else off+1) n (cap - 1) xs:=by
 obtain ⟨cur,hg,h1,h2,hc⟩:=h.row;refine ⟨h.lo,by have:=h.len;simpa using this,cur,hg,by split <;> omega,by omega,fun j u hj=>?_⟩;have h3:=hc (j+1) u (by simpa using hj);have h4:n=xs.length:=by have:=h.len;simp at this;omega
 have h5:=(List.getElem?_eq_some_iff.1 hj).1;rw [if_neg (by omega)];rw [show off+1+j=off+(j+1) by omega];exact h3
theorem Qu.of_own {c:Nat} (h:w.ownsRow B 3 1 (.slice (some ⟨g,0,none⟩) n c) n xs):Qu w B g 0 n c xs:=by
 rcases h.2 with ⟨h0,_⟩ | ⟨g',cap,cur,hv,hB,hg,h1,h2,h3,h4⟩
 ·cases h0
 ·cases hv;refine ⟨hB,by simpa using h.1,cur,hg,by omega,h1,fun j u hj=>?_⟩;rw [← h4,List.getElem?_take] at hj;split at hj
  ·rw [Nat.zero_add,← Array.getElem?_toList];exact hj
  ·cases hj
end
end As
section
variable {P:Program} {w:World} {ops:Array Oper} {rest:List Oper} {o:Oper} {a:Act} {Q:Exit→Act→World→Prop}
theorem Qpi {B g off n cap:Nat} {xs:List Value} (hgd:o.guard=none) (s x:Operand) (t:TypeId) (ho:o.op=.call { callee:=.builtin .append,args:=#[s,x],argTypes:=#[t,t] })
  (i:TypeInfo) (z:Value) (ht:P.underlying t=some (.slice 3)) (hi:P.info? 3=some i) (hz:i.zero=some z) (hsize:i.size=1) (hby:i.bytes=8) (hzs:z.cells.size=1)
  (hs:a.eval s=.slice (some ⟨g,off,none⟩) n cap) (hq:As.Qu w B g off n cap xs) (hB:B≤w.heap.size)
  (q:Nat) (u:Value) (qt:TypeId) (hx:a.eval x=.slice (some ⟨q,0,none⟩) 1 1) (hqu:w.heap[q]?=some (.cells #[u] qt (0,0))) (h1:u.oneCell'=true) (hn:n≤1000000)
  (h:∀ g' off' cap' w',As.Qu w' B g' off' (n+1) cap' (xs++[u])→w.grownBy w' (some g)→(g'=g∨w.heap.size≤g')→wpList P ops Q rest (a.put o.dst (.slice (some ⟨g',off',none⟩) (n+1) cap')) w'):wpList P ops Q (o :: rest) a w:=by
 obtain ⟨cur,hg,hc1,hc2,hc3⟩:=hq.row
 refine wpList_append_arg (P:=P) w hgd s x t ho 3 i z 1 8 ht hi hz hsize hby hzs (by decide) g off n cap xs hs (by rw [hq.len,Nat.mul_one]) (fun j v hj=>hq.cell hj) ⟨q,0,none⟩ 1 1 [u] hx rfl
  (fun j v hj=>?_) (by simpa using h1) (fun hr j hj=>?_) (by unfold maxLen;omega) (by omega) (fun hr=>?_) (fun hr v' w' h2 h3=>?_)
 ·obtain rfl:j=0:=by
   have:=(List.getElem?_eq_some_iff.1 hj).1;simpa using this
  rw [Addr.add_lit,cell_of_row w q _ _ _ _ hqu];simpa using hj
 ·have hj0:j=0:=by simpa using hj
  subst hj0;rw [Nat.mul_one,Nat.add_zero];refine ⟨?_,frozen_of_row w g _ _ _ hg⟩;rw [cell_of_row w g _ _ _ _ hg,Array.getElem?_eq_getElem (by omega)];rfl
 ·refine h g off cap _ ⟨hq.lo,by simp [hq.len],cur.setIfInBounds (off+n) u,?_,by simpa using hc1,hr,fun j v hj=>?_⟩ (by simpa [World.setCells] using Qad w g (off+n) u) (.inl rfl)
  ·simpa [World.setCells] using Qbi hg (off+n) u
  ·rw [List.getElem?_append] at hj;split at hj
   ·rename_i hl;rw [Array.getElem?_setIfInBounds,if_neg (by rw [hq.len] at hl;omega)];exact hc3 j v hj
   ·rename_i hl;rw [hq.len] at hl hj;have h5:=(List.getElem?_eq_some_iff.1 hj).1;simp at h5;obtain rfl:j=n:=by omega
    rw [Nat.sub_self] at hj;simp at hj;subst hj;rw [Array.getElem?_setIfInBounds,if_pos rfl,if_pos (by omega)]
 ·obtain ⟨g',c',rfl,hge,_⟩:=As.own_n h2 (by omega);have h6:=As.Qu.of_own h2;exact h g' 0 c' w' ⟨Nat.le_trans hB hge,h6.len,h6.row⟩ (Za9 h3) (.inr hge)
end
namespace As
open Pr
def dq (f:Cfg→List Stp) (i q:Nat):Nat:=(exts (Qal f i) ((f ((Qal f i).getD i first)).take q)).length
theorem Qw5 (f:Cfg→List Stp) (i:Nat):dq f i 0=(Qal f i).length:=rfl
theorem Qq4 (f:Cfg→List Stp) (i:Nat):dq f i (f ((Qal f i).getD i first)).length=(Qal f (i+1)).length:=by
 unfold dq;rw [List.take_length];rfl
theorem Qq3 (f:Cfg→List Stp) (i:Nat) {p q:Nat} (h:p≤q):dq f i p≤dq f i q:=(Qhx _ _ h).length_le
theorem Zbg {f:Cfg→List Stp} {i q:Nat} {s:Stp} {t:Nat} (hs:(f ((Qal f i).getD i first))[q]?=some s) (ht:(tos (Qal f i) (f ((Qal f i).getD i first)))[q]?=some t) :
  (t < dq f i q∧dq f i (q+1)=dq f i q)∨(t=dq f i q∧dq f i (q+1)=dq f i q+1):=by
 have h1:=Quo (all:=Qal f i) hs;rw [ht] at h1;injection h1 with h1;unfold dq;rw [Qrm hs];subst h1;unfold ext;split
 ·exact .inl ⟨List.idxOf_lt_length_iff.2 ‹_›,rfl⟩
 ·exact .inr ⟨List.idxOf_eq_length ‹_›,by simp⟩
structure Tr (f:Cfg→List Stp) (n N:Nat) (us:List Int) (zs:List Stt):Prop where
 ul:us.length=n
 zl:zs.length=n
 seen:∀ k,0 < k→k < N→∃ i a b:Nat,us[k]?=some (i:Int)∧Qre f i a b k∧zs[k]?=some (a,b,k)
 rest:∀ k,k < n→(k=0∨N≤k)→us[k]?=some (-1)
theorem Tr.push {f:Cfg→List Stp} {n N i a b:Nat} {us:List Int} {zs:List Stt} (h:Tr f n N us zs) (h0:0 < N) (hN:N < n) (e:Qre f i a b N):Tr f n (N+1) (us.set N (i:Int)) (zs.set N (a,b,N)) where
 ul:=by simpa using h.ul
 zl:=by simpa using h.zl
 seen:=fun k h1 h2=>by
  by_cases hk:k=N
  ·subst hk;exact ⟨i,a,b,by simp [h.ul,hN],e,by simp [h.zl,hN]⟩
  ·obtain ⟨i',a',b',h3,h4,h5⟩:=h.seen k h1 (by omega);exact ⟨i',a',b',by rw [List.getElem?_set_ne (by omega)];exact h3,h4,by rw [List.getElem?_set_ne (by omega)];exact h5⟩
 rest:=fun k h1 h2=>by
  rw [List.getElem?_set_ne (by omega)];exact h.rest k h1 (by omega)
theorem Tr.start (f:Cfg→List Stp) (n:Nat):Tr f n 1 (List.replicate n (-1)) (List.replicate n (0,0,0)) where
 ul:=by simp
 zl:=by simp
 seen:=fun k h1 h2=>by omega
 rest:=fun k h1 _=>by simp [h1]
theorem Qsi:∀ (zs:List Stt) (k:Nat) (s:Stt),k < zs.length→(zs.flatMap encT).take (k * 3)++encT s++(zs.flatMap encT).drop (k * 3+3)=(zs.set k s).flatMap encT
 | [],k,s,h=>by simp at h
 | z :: r,0,s,_=>by simp [encT]
 | z :: r,k+1,s,h=>by
  have ih:=Qsi r k s (by simpa using h);rw [List.set_cons_succ,List.flatMap_cons,List.flatMap_cons,← ih];have e:(encT z).length=3:=rfl;rw [show (k+1) * 3=(encT z).length+k * 3 by rw [e];omega,List.take_length_add_append,show (encT z).length+k * 3+3=(encT z).length+(k * 3+3) by omega,List.drop_length_add_append];simp
theorem flat_zero:∀ n:Nat,(List.replicate n ((0,0,0):Stt)).flatMap encT=List.replicate (n * 3) (.int .i64 0)
 | 0=>rfl
 | n+1=>by
  rw [List.replicate_succ,List.flatMap_cons,flat_zero n,show (n+1) * 3=3+n * 3 by omega,← List.replicate_append_replicate];rfl
theorem made_zero (n:Nat):madeCells #[.int .i64 0,.int .i64 0,.int .i64 0] n=(List.replicate n (Value.int .i64 0)).toArray:=by
 refine Array.ext (by simp [madeCells]) fun i h1 h2=>?_;have h3:i % 3=0∨i % 3=1∨i % 3=2:=by omega
 rcases h3 with e | e | e <;> simp [madeCells,e]
end As
theorem Qtp (n:Nat) (h:n≤1000000) (w:World):(Instr.makeSlice 46 (.int .i64 (n:Int)) (.int .i64 (n:Int))).run Tryz.prog w=.ok (.slice (some ⟨w.heap.size,0,none⟩) n n) (w.alloc (.cells ((List.replicate n ((0,0,0):As.Stt)).flatMap As.encT).toArray 58)):=by
 obtain ⟨i0,hi,hz0,hz1,hz2⟩:=info_parts Qgw;have hr:=run_make (P:=Tryz.prog) w 46 58 i0 _ Tryz.underlying46 hi hz0 .i64 .i64 (n:Int) n (by omega) (Int.le_refl _) (by rw [hz2];omega) (by omega);rw [hz1,Int.toNat_natCast] at hr;rw [hr,As.flat_zero,← As.made_zero];rfl
section
open As Pr
theorem Qs0 {o:Oper} {a:Act} {w:World} {K:Act→World→Prop} {Q:Exit→Act→World→Prop} {s x:Tmp} {V k:Nat} {p:Stt} {zs:List Stt} (hop:o.op=.store 58 (.tmp s) (.tmp x)) (hd:o.dst=none)
  (hs:a.eval (.tmp s)=.pointer (some ⟨V,k * 3,none⟩)) (hx:a.eval (.tmp x)=.agg #[.int .i64 (p.1:Int),.int .i64 (p.2.1:Int),.int .i64 (p.2.2:Int)]) (hb:w.heap[V]?=some (.cells (zs.flatMap encT).toArray 58 (0,0))) (hk:k < zs.length)
  (h:∀ w',w.grownBy w' (some V)→w'.heap.size=w.heap.size→(∀ b,b≠V→w'.heap[b]?=w.heap[b]?)→w'.heap[V]?=some (.cells ((zs.set k p).flatMap encT).toArray 58 (0,0))→K a w'):o.wp Tryz.prog a w K Q:=by
 obtain ⟨i0,hi,hz0,hz1,hz2⟩:=info_parts Qgw;have hl:=Qm2 zs;have hst:=run_storeCells_at (P:=Tryz.prog) V (k * 3) 58 (encT p) 0 _ w hb (by simp only [List.size_toArray,hl,encT,List.length_cons,List.length_nil];omega) (by intro v hv;simp [encT] at hv;rcases hv with rfl | rfl | rfl <;> rfl);have e:((zs.flatMap encT).toArray.toList.take (k * 3+0)++encT p++(zs.flatMap encT).toArray.toList.drop (k * 3+0+(encT p).length))=(zs.set k p).flatMap encT:=Qsi zs k p hk;rw [e] at hst;have hne:∀ B,B≠V→(w.setRow V ((zs.set k p).flatMap encT).toArray).heap[B]?=w.heap[B]?:=fun B hB=>by
  unfold World.setRow;simp [Array.getElem?_modify,Ne.symm hB]
 have hsz:(w.setRow V ((zs.set k p).flatMap encT).toArray).heap.size=w.heap.size:=by
  unfold World.setRow;simp
 unfold Oper.wp;have hr:(execOp a.eval o).run Tryz.prog w=.ok .skip (w.setRow V ((zs.set k p).flatMap encT).toArray):=by
  generalize a.eval=ρ at hs hx ⊢;have hst':=hst;unfold encT at hst';simp [execOp,hop,hs,hx,Instr.storeAt,Instr.sureAddr,storeVar,sizeOf,typeInfo,hi,hz1,Value.cells];rw [hst'];rfl
 rw [hr,Oper.upon_skip];rw [show a.put o.dst undef=a by rw [hd];rfl];exact h _ ⟨rfl,rfl,rfl,by rw [hsz];exact Nat.le_refl _,fun b _ hb=>hne b (fun e=>hb (by rw [e]))⟩ hsz hne (setRow_heap w V _ _ _ _ hb)
end
namespace As
open Pr
def nums (i m:Nat):List Value:=(List.range' i m).map fun k:Nat=>.int .i64 (k:Int)
theorem Qvt (i m:Nat):nums i (m+1)=.int .i64 (i:Int) :: nums (i+1) m:=by simp [nums,List.range'_succ]
theorem Qvu (i m:Nat):nums i m++[.int .i64 ((i+m:Nat):Int)]=nums i (m+1):=by
 rw [nums,nums,List.range'_concat,List.map_append,Nat.one_mul];rfl
structure PaM (W w:World) (X U V:Nat) (cx:Array Value) (us:List Int) (zs:List Stt):Prop where
 grow:Flow.Grow W w
 lo:W.heap.size≤X∧X < U∧U < V
 hX:w.heap[X]?=some (.cells cx 42 (0,0))
 hU:w.heap[U]?=some (.cells (Qaj us) 3 (0,0))
 hV:w.heap[V]?=some (.cells (zs.flatMap encT).toArray 58 (0,0))
section
variable {W w w':World} {X U V:Nat} {cx:Array Value} {us:List Int} {zs:List Stt}
theorem PaM.by_ (h:PaM W w X U V cx us zs) {r:Option Nat} (k:w.grownBy w' r) (hr:∀ b,r=some b→V < b):PaM W w' X U V cx us zs:=by
 have hlo:=h.lo;have hne:∀ b,b≤V→some b≠r:=fun b hb e=>by
  have:=hr b e.symm;omega
 have hk:∀ {b:Nat} {o:Obj},b≤V→w.heap[b]?=some o→w'.heap[b]?=some o:=fun hb ho=>(k.block _ (Array.getElem?_eq_some_iff.1 ho).1 (hne _ hb)).trans ho;exact ⟨Qap h.grow k (fun b e=>by have:=hr b e;omega),h.lo,hk (by omega) h.hX,hk (by omega) h.hU,hk (by omega) h.hV⟩
theorem PaM.more (h:PaM W w X U V cx us zs) (k:Flow.Grow w w'):PaM W w' X U V cx us zs:=h.by_ k (fun b e=>by cases e)
theorem PaM.setU (h:PaM W w X U V cx us zs) (q:Nat) (z:Int):PaM W (w.setCell ⟨U,q,none⟩ (.int .i64 z)) X U V cx (us.set q z) zs:=by
 have hlo:=h.lo;exact ⟨Qdi h.grow (by omega) _ _,h.lo,Qbt h.hX (by omega),Qcc h.hU,Qbt h.hV (by omega)⟩
theorem PaM.cellU (h:PaM W w X U V cx us zs) {q:Nat} {z:Int} (hq:us[q]?=some z):w.cell? ⟨U,q,none⟩=some (.int .i64 z):=by
 rw [cell_of_row w U _ _ _ _ h.hU];simp [Qaj,hq]
theorem PaM.cellV (h:PaM W w X U V cx us zs) {q a b k:Nat} (hq:zs[q]?=some (a,b,k)):w.cell? ⟨V,q * 3,none⟩=some (.int .i64 (a:Int))∧w.cell? ⟨V,q * 3+1,none⟩=some (.int .i64 (b:Int))∧w.cell? ⟨V,q * 3+2,none⟩=some (.int .i64 (k:Int)):=by
 have t:∀ j,j < 3→w.cell? ⟨V,q * 3+j,none⟩=(encT (a,b,k))[j]?:=fun j hj=>by
  rw [cell_of_row w V _ _ _ _ h.hV,List.getElem?_toArray];exact Qdd (f:=encT) (m:=3) (fun _=>rfl) zs q j _ hq hj
 exact ⟨t 0 (by omega),t 1 (by omega),t 2 (by omega)⟩
end
theorem ExAt.rows_ {w:World} {room n:Nat} {cv sv bv:Value} {f:Cfg→List Stp} {bl:List Bool} (h:ExAt w room n cv sv bv (Qal f n) (rlF f n) bl) (h0:0 < n):∃ gs so sc,sv=.slice (some ⟨gs,so,none⟩) n sc∧∀ i,i < n→∃ (ra:Option Addr) (m rc:Nat),w.cell? ⟨gs,so+i,none⟩=some (.slice ra m rc)∧m=(f ((Qal f i).getD i first)).length ∧
  ∀ q,q < m→∃ (rb ro a b t:Nat) (d:Cfg),ra=some ⟨rb,ro,none⟩∧(f ((Qal f i).getD i first))[q]?=some (a,b,d)∧(tos (Qal f i) (f ((Qal f i).getD i first)))[q]?=some t ∧
   w.cell? ⟨rb,ro+q * 3,none⟩=some (.int .i64 (a:Int))∧w.cell? ⟨rb,ro+q * 3+1,none⟩=some (.int .i64 (b:Int))∧w.cell? ⟨rb,ro+q * 3+2,none⟩=some (.int .i64 (t:Int)):=by
 obtain ⟨rs,hr1,hr2,hr3⟩:=h.rows;obtain ⟨gs,so,sc,hv,_,hcell⟩:=hr2.shape (by intro e;rw [e] at hr1;simp at hr1;omega);refine ⟨gs,so,sc,hv,fun i hi=>?_⟩;have hrow:=hr3 i hi;have hrl:(rlF f n).getD i ([],[])=(f ((Qal f i).getD i first),tos (Qal f i) (f ((Qal f i).getD i first))):=by
  rw [List.getD_eq_getElem?_getD];simp [rlF,hi]
 rw [hrl] at hrow;generalize f ((Qal f i).getD i first)=l at *;obtain ⟨ra,rc,hre,hlen,_,hcs⟩:=hrow;have hrc:=hcell i (by omega);have hri:rs.getD i undef=rs[i]'(by omega):=by rw [List.getD_eq_getElem?_getD,List.getElem?_eq_getElem (by omega)];rfl
 rw [List.getElem?_eq_getElem (by omega),← hri,hre] at hrc;refine ⟨ra,l.length,rc,hrc,rfl,fun q hq=>?_⟩;have hl3:=Qbu l (tos (Qal f i) l);obtain ⟨rb,ro,hra,_⟩:=hcs (q * 3) (by simp only [hl3];omega);have hc:∀ j,j < 3→w.cell? ⟨rb,ro+(q * 3+j),none⟩=(Qka l (tos (Qal f i) l) q)[j]?:=fun j hj=>by
  obtain ⟨rb',ro',hra',_,hcc⟩:=hcs (q * 3+j) (by simp only [hl3];omega);rw [hra] at hra';cases hra';rw [hcc];exact Qc9 hq hj
 have hqt:q < (tos (Qal f i) l).length:=by rw [Qpj];exact hq
 have e1:l.getD q dstp=l[q]:=by rw [List.getD_eq_getElem?_getD,List.getElem?_eq_getElem hq];rfl
 have e2:((tos (Qal f i) l).map Int.ofNat).getD q (-1)=((tos (Qal f i) l)[q]:Nat):=by
  rw [List.getD_eq_getElem?_getD,List.getElem?_map,List.getElem?_eq_getElem hqt];rfl
 rw [show Qka l (tos (Qal f i) l) q=[.int .i64 ((l[q]).1:Int),.int .i64 ((l[q]).2.1:Int),.int .i64 (((tos (Qal f i) l)[q]:Nat):Int)] by rw [Qka,e1,e2]] at hc;exact ⟨rb,ro,(l[q]).1,(l[q]).2.1,(tos (Qal f i) l)[q],(l[q]).2.2,hra,List.getElem?_eq_getElem hq,List.getElem?_eq_getElem hqt,hc 0 (by omega),hc 1 (by omega),hc 2 (by omega)⟩
end As
section
theorem Qum {P:Program} {o:Oper} {a:Act} {w:World} {K:Act→World→Prop} {Q:Exit→Act→World→Prop} {T e:TypeId} {s x:Tmp} {U k:Nat} {z:Int} {us:List Int} (hop:o.op=.store T (.tmp s) (.tmp x)) (hd:o.dst=none) (hz:∀ w,(sizeOf T).run P w=.ok 1 w)
  (hs:a.eval (.tmp s)=.pointer (some ⟨U,k,none⟩)) (hx:a.eval (.tmp x)=.int .i64 z) (hb:w.heap[U]?=some (.cells (Qaj us) e (0,0))) (hk:k < us.length)
  (h:∀ w',w.grownBy w' (some U)→w'.heap.size=w.heap.size→(∀ b,b≠U→w'.heap[b]?=w.heap[b]?)→w'.heap[U]?=some (.cells (Qaj (us.set k z)) e (0,0))→K a w'):o.wp P a w K Q:=by
 have hc:w.cell? ⟨U,k,none⟩=some (.int .i64 (us.getD k 0)):=(cell_of_row w U k _ _ _ hb).trans (Qa1 hk);have hf:=frozen_of_row w U k _ _ hb;have hsz:(w.setCell ⟨U,k,none⟩ (.int .i64 z)).heap.size=w.heap.size:=by
  unfold World.setCell;simp
 have hne:∀ B,B≠U→(w.setCell ⟨U,k,none⟩ (.int .i64 z)).heap[B]?=w.heap[B]?:=fun B hB=>by
  by_cases hl:B < w.heap.size
  ·exact (Qad w U k _).block B hl (by simpa using hB)
  ·rw [Array.getElem?_eq_none (by omega),Array.getElem?_eq_none (by omega)]
 have hr:(execOp a.eval o).run P w=.ok .skip (w.setCell ⟨U,k,none⟩ (.int .i64 z)):=by
  generalize a.eval=ρ at hs hx ⊢;simp [execOp,hop,hs,hx,Instr.storeAt,Instr.sureAddr,storeVar,Value.cells,hz,storeCells,hc,hf,go_sem]
 unfold Oper.wp;rw [hr,Oper.upon_skip];rw [show a.put o.dst undef=a by rw [hd];rfl];exact h _ (Qad w U k _) hsz hne (Qcc hb)
end
namespace As
structure SwP (W wj:World) (U V:Nat) (L:Nat→Bool) (w:World):Prop where
 grow:Flow.Grow W w
 size:wj.heap.size≤w.heap.size
 same:∀ b,b < wj.heap.size→b≠U→b≠V→w.heap[b]?=wj.heap[b]?
 u:L 9=false→w.heap[U]?=wj.heap[U]?
 v:L 11=false→w.heap[V]?=wj.heap[V]?
theorem SwP.cell {W wj w:World} {U V g off:Nat} {L:Nat→Bool} {v:Value} (h:SwP W wj U V L w) (h1:g≠U) (h2:g≠V) (hc:wj.cell? ⟨g,off,none⟩=some v):w.cell? ⟨g,off,none⟩=some v:=(World.cell?_of_block (h.same g (World.block_lt_of_cell? _ _ hc) h1 h2)).trans hc
theorem SwP.more {W wj w w':World} {U V:Nat} {L:Nat→Bool} (h:SwP W wj U V L w) (hU:U < wj.heap.size) (hV:V < wj.heap.size) (g:Flow.Grow w w') (i:Nat):SwP W wj U V (Flow.ad L i) w' :=
 have hs:=h.size
 ⟨h.grow.trans g,Nat.le_trans h.size g.size,fun b h1 h2 h3=>(g.block b (by omega) (by simp)).trans (h.same b h1 h2 h3),fun e=>(g.block U (by omega) (by simp)).trans (h.u (by unfold Flow.ad at e;simp at e;exact e.2)),fun e=>(g.block V (by omega) (by simp)).trans (h.v (by unfold Flow.ad at e;simp at e;exact e.2))⟩
theorem SwP.sto {W wj w w':World} {U V g:Nat} {L:Nat→Bool} (h:SwP W wj U V L w) (hW:W.heap.size≤g) (k:w.grownBy w' (some g)) (hs:w'.heap.size=w.heap.size) (hb:∀ b,b≠g→w'.heap[b]?=w.heap[b]?) {i:Nat} (hg:(g=U∧i=9)∨(g=V∧i=11)) (hUV:U≠V):SwP W wj U V (Flow.ad L i) w':=by
 refine ⟨Qap h.grow k (fun b e=>by injection e with e;omega),by rw [hs];exact h.size,fun b h1 h2 h3=>(hb b (by rcases hg with ⟨rfl,_⟩ | ⟨rfl,_⟩ <;> assumption)).trans (h.same b h1 h2 h3),fun e=>?_,fun e=>?_⟩
 ·rcases hg with ⟨rfl,rfl⟩ | ⟨rfl,rfl⟩
  ·simp [Flow.ad] at e
  ·exact (hb U hUV).trans (h.u (by simpa [Flow.ad] using e))
 ·rcases hg with ⟨rfl,rfl⟩ | ⟨rfl,rfl⟩
  ·exact (hb V (Ne.symm hUV)).trans (h.v (by simpa [Flow.ad] using e))
  ·simp [Flow.ad] at e
end As
end Go.Proofs.YtcpodmjcgfgmnaaGreat
