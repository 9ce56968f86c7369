/- What the two Steps have gathered, read place by place. -/
import Derived.Test.YtcpodmjcgfgmnaaGreatRefSt
import Derived.Test.YtcpodmjcgfgmnaaGreatMAsA
import Derived.Test.YtcpodmjcgfgmnaaGreatMDet
import Derived.Test.YtcpodmjcgfgmnaaGreatMKey
import Derived.Test.YtcpodmjcgfgmnaaGreatEpsClose
namespace Go.Proofs.YtcpodmjcgfgmnaaGreat
open Go.RowKit
namespace As
open Pr
theorem Qdd {α β:Type} {f:α→List β} {m:Nat} (hm:∀ a,(f a).length=m):∀ (l:List α) (k j:Nat) (a:α),l[k]?=some a→j < m→(l.flatMap f)[k * m+j]?=(f a)[j]?
 | [],k,j,a,h,_=>by simp at h
 | x :: l,0,j,a,h,hj=>by
  simp at h;subst h;rw [List.flatMap_cons,Nat.zero_mul,Nat.zero_add,List.getElem?_append_left (by rw [hm];exact hj)]
 | x :: l,k+1,j,a,h,hj=>by
  rw [List.flatMap_cons,List.getElem?_append_right (by rw [hm,Nat.succ_mul];omega),hm,show (k+1) * m+j - m=k * m+j by rw [Nat.succ_mul];omega];exact Qdd hm l k j a (by simpa using h) hj
theorem own_n {w:World} {B e sz n:Nat} {v:Value} {xs:List Value} (h:w.ownsRow B e sz v n xs) (hn:0 < n):∃ g c,v=.slice (some ⟨g,0,none⟩) n c∧B≤g∧g < w.heap.size:=by
 rcases h.2 with ⟨_,h0⟩ | ⟨g,cap,cur,hv,hB,hg,_⟩
 ·omega
 ·exact ⟨g,cap,hv,hB,(Array.getElem?_eq_some_iff.1 hg).1⟩
theorem CfgD.atS {W w:World} {B:Nat} {vS vl:Value} {d:Cfg} (h:CfgD W w B vS vl d) (g:Sub W w):CfgAt w vS vl d:=by
 refine ⟨Seg.of_own h.st,?_⟩;obtain ⟨vs,h3,h4⟩:=h.ml;refine ⟨vs,Seg.of_own h3,fun j hj=>?_⟩;rcases h4 j hj with h5 | h5
 ·exact ⟨Seg.of_own h5,Qpw h5⟩
 ·exact ⟨Seg.sub h5.1 g,h5.2⟩
theorem CfgAt.form {w:World} {vS vl:Value} {d:Cfg} (h:CfgAt w vS vl d) (h3:d.1.length=3) (h9:d.2.length=9):∃ sa sc mb mo mc,vS=.slice sa 3 sc∧vl=.slice (some ⟨mb,mo,none⟩) 9 mc:=by
 obtain ⟨sa,sc,hvs,_⟩:=id h.st;obtain ⟨vs,hv⟩:=h.ml;obtain ⟨mb,mo,mc,hvm,_⟩:=hv.cells (by intro e;rw [e] at h9;cases h9);rw [h3] at hvs;rw [h9] at hvm;exact ⟨sa,sc,mb,mo,mc,hvs,hvm⟩
theorem StD.read {W w:World} {B room:Nat} {ov tv:Value} {l:List Stp} (h:StD W w B room ov tv l) {k:Nat} (hk:k < l.length) {i q:Nat} {d:Cfg} (hl:l[k]?=some (i,q,d)):∃ (g1 g2 c1 c2:Nat) (vS vM:Value),ov=.slice (some ⟨g1,0,none⟩) l.length c1∧tv=.slice (some ⟨g2,0,none⟩) l.length c2 ∧
  w.cell? ⟨g1,k * 3,none⟩=some (.int .i64 (i:Int))∧w.cell? ⟨g1,k * 3+1,none⟩=some (.int .i64 (q:Int))∧w.cell? ⟨g1,k * 3+2,none⟩=some (.int .i64 (-1)) ∧
  w.cell? ⟨g2,k * 4,none⟩=some vS∧w.cell? ⟨g2,k * 4+1,none⟩=some (.int .i64 3)∧w.cell? ⟨g2,k * 4+2,none⟩=some (.int .i64 (room:Nat))∧w.cell? ⟨g2,k * 4+3,none⟩=some vM∧CfgD W w B vS vM d∧B≤g1∧B≤g2:=by
 obtain ⟨cs,hcl,ht,hc⟩:=h.tos;obtain ⟨g1,c1,rfl,hb1,_⟩:=own_n h.out (by omega);obtain ⟨g2,c2,rfl,hb2,_⟩:=own_n ht (by omega);have hcf:=hc k hk;have e1:l.getD k (0,0,[],[])=(i,q,d):=by rw [List.getD_eq_getElem?_getD,hl];rfl
 obtain ⟨⟨vS,vM⟩,hcs⟩:∃ x,cs[k]?=some x:=⟨cs[k]'(by omega),List.getElem?_eq_getElem _⟩;have e2:cs.getD k (undef,undef)=(vS,vM):=by rw [List.getD_eq_getElem?_getD,hcs];rfl
 rw [e1,e2] at hcf;have f3:∀ s:Stp,[Value.int .i64 (s.1:Int),.int .i64 (s.2.1:Int),.int .i64 (-1)].length=3:=fun _=>rfl;have f4:∀ c:Value × Value,[c.1,Value.int .i64 3,.int .i64 (room:Nat),c.2].length=4:=fun _=>rfl;have o:∀ j,j < 3→w.cell? ⟨g1,k * 3+j,none⟩=[Value.int .i64 (i:Int),.int .i64 (q:Int),.int .i64 (-1)][j]?:=fun j hj=>by
  rw [h.out.cellAt (k * 3+j) (by omega)];exact Qdd (f:=fun s:Stp=>[Value.int .i64 (s.1:Int),.int .i64 (s.2.1:Int),.int .i64 (-1)]) f3 l k j _ hl hj
 have t:∀ j,j < 4→w.cell? ⟨g2,k * 4+j,none⟩=[vS,Value.int .i64 3,.int .i64 (room:Nat),vM][j]?:=fun j hj=>by
  rw [ht.cellAt (k * 4+j) (by omega)];exact Qdd (f:=fun c:Value × Value=>[c.1,Value.int .i64 3,.int .i64 (room:Nat),c.2]) f4 cs k j _ hcs hj
 exact ⟨g1,g2,c1,c2,vS,vM,rfl,rfl,o 0 (by omega),o 1 (by omega),o 2 (by omega),t 0 (by omega),t 1 (by omega),t 2 (by omega),t 3 (by omega),hcf,hb1,hb2⟩
theorem RStD.read {W w:World} {B:Nat} {ov:Value} {l:List Stp} (h:RStD W w B ov l) {k:Nat} (hk:k < l.length) {i q:Nat} {d:Cfg} (hl:l[k]?=some (i,q,d)):∃ (g1 c1:Nat) (vS vB:Value),ov=.slice (some ⟨g1,0,none⟩) l.length c1 ∧
  w.cell? ⟨g1,k * 4,none⟩=some (.int .i64 (i:Int))∧w.cell? ⟨g1,k * 4+1,none⟩=some (.int .i64 (q:Int))∧w.cell? ⟨g1,k * 4+2,none⟩=some vS∧w.cell? ⟨g1,k * 4+3,none⟩=some vB∧CfgD W w B vS vB d∧B≤g1:=by
 obtain ⟨cs,hcl,ho,hc⟩:=h;obtain ⟨g1,c1,rfl,hb1,_⟩:=own_n ho (by omega);have hcf:=hc k hk;have e1:l.getD k (0,0,[],[])=(i,q,d):=by rw [List.getD_eq_getElem?_getD,hl];rfl
 obtain ⟨⟨vS,vB⟩,hcs⟩:∃ x,cs[k]?=some x:=⟨cs[k]'(by omega),List.getElem?_eq_getElem _⟩;have e2:cs.getD k (undef,undef)=(vS,vB):=by rw [List.getD_eq_getElem?_getD,hcs];rfl
 rw [e1,e2] at hcf;have hz:(l.zip cs)[k]?=some ((i,q,d),vS,vB):=by
  rw [List.getElem?_zip_eq_some];exact ⟨hl,hcs⟩
 have t:∀ j,j < 4→w.cell? ⟨g1,k * 4+j,none⟩=[Value.int .i64 (i:Int),.int .i64 (q:Int),vS,vB][j]?:=fun j hj=>by
  rw [ho.cellAt (k * 4+j) (by omega)];exact Qdd (f:=fun s:Stp × Value × Value=>[Value.int .i64 (s.1.1:Int),.int .i64 (s.1.2.1:Int),s.2.1,s.2.2]) (fun _=>rfl) (l.zip cs) k j _ hz hj
 exact ⟨g1,c1,vS,vB,rfl,t 0 (by omega),t 1 (by omega),t 2 (by omega),t 3 (by omega),hcf,hb1⟩
theorem Qxy {ps:List Pd} {ls:List Lb} {room:Nat} {c:Cfg} {k:Nat} (h:k < (Qbr ps ls room c 3).length):∃ (i q:Nat) (d:Cfg),(Qbr ps ls room c 3)[k]?=some (i,q,d)∧i < 3∧q < (ps.getD i default).acts.length∧stp ps ls room c i q=(some d,false):=by
 obtain ⟨⟨i,q,d⟩,he⟩:∃ x,(Qbr ps ls room c 3)[k]?=some x:=⟨_,List.getElem?_eq_getElem h⟩;obtain ⟨h1,h2,h3⟩:=Qgd (List.mem_of_getElem? he);refine ⟨i,q,d,he,h1,h2,?_⟩;obtain ⟨r,b,hs⟩:∃ r b,stp ps ls room c i q=(r,b):=⟨_,_,rfl⟩;rw [hs] at h3 ⊢;simp only at h3;subst h3;rw [Qrl hs]
end As
end Go.Proofs.YtcpodmjcgfgmnaaGreat
namespace Go.Proofs.YtcpodmjcgfgmnaaGreat
open Go.RowKit Go.Maps
section
variable {P:Program} {w:World} {ops:Array Oper} {rest:List Oper} {o:Oper} {a:Act} {Q:Exit→Act→World→Prop}
theorem Qd6 (B:Nat) (hgd:o.guard=none) (s x:Operand) (t:TypeId) (ho:o.op=.call { callee:=.builtin .append,args:=#[s,x],argTypes:=#[t,t] })
  (e:TypeId) (i:TypeInfo) (z:Value) (size bytes:Nat) (ht:P.underlying t=some (.slice e)) (hi:P.info? e=some i) (hz:i.zero=some z)
  (hsize:i.size=size) (hby:i.bytes=bytes) (hzs:z.cells.size=size) (hsz:0 < size)
  (v:Value) (n:Nat) (xs:List Value) (hs:a.eval s=v) (hown:w.ownsRow B e size v n xs) (hB:B≤w.heap.size)
  (q:Nat) (cs:Array Value) (qt:TypeId) (hx:a.eval x=.slice (some ⟨q,0,none⟩) 1 1) (hq:w.heap[q]?=some (.cells cs qt (0,0))) (hcs:cs.size=size) (h1:∀ u∈cs.toList,u.oneCell'=true)
  (hn:n≤1000000) (hb:bytes≤1000000)
  (h:∀ g c w',w'.ownsRow B e size (.slice (some ⟨g,0,none⟩) (n+1) c) (n+1) (xs++cs.toList)→w.grownBy w' v.ownBlock→(v.ownBlock=some g∨g=w.heap.size)→wpList P ops Q rest (a.put o.dst (.slice (some ⟨g,0,none⟩) (n+1) c)) w'):wpList P ops Q (o :: rest) a w:=by
 refine wpList_append_lies (P:=P) w hgd s x t ho B e i z size bytes ht hi hz hsize hby hzs hsz v n xs hs hown ⟨q,0,none⟩ 1 1 cs.toList hx (by rw [Nat.one_mul,Array.length_toList];exact hcs)
  (fun j u hj=>?_) h1 (by decide) (by unfold maxLen;omega) ?_ hB _ rfl fun g cap w' h2 h3 h4 h5=>?_
 ·rw [Addr.add_lit,cell_of_row w q _ _ _ _ hq,Nat.zero_add];rw [← hj];exact Array.getElem?_toList.symm
 ·have:(n+1) * bytes≤1000001 * 1000000:=Nat.mul_le_mul (by omega) hb;omega
 ·exact h g cap w' h2 h3 h4
end
namespace As
open Pr
theorem Qmv {α β:Type} {f:α→List β} {m:Nat} (hm:∀ a,(f a).length=m):∀ l:List α,(l.flatMap f).length=l.length * m
 | []=>by simp
 | a :: l=>by rw [List.flatMap_cons,List.length_append,hm,Qmv hm l,List.length_cons,Nat.succ_mul];omega
def obs (l:List Value):List Nat:=l.filterMap Value.ownBlock
theorem mem_obs {l:List Value} {b:Nat}:b∈obs l↔∃ v∈l,v.ownBlock=some b:=List.mem_filterMap
def dstp:Stp:=(0,0,[],[])
def Qka (l:List Stp) (ts:List Nat) (j:Nat):List Value:=[.int .i64 ((l.getD j dstp).1:Int),.int .i64 ((l.getD j dstp).2.1:Int),.int .i64 ((ts.map Int.ofNat).getD j (-1))]
def Qcs (l:List Stp) (ts:List Nat):List Value:=(List.range l.length).flatMap (Qka l ts)
theorem Qc9 {l:List Stp} {ts:List Nat} {k j:Nat} (hk:k < l.length) (hj:j < 3):(Qcs l ts)[k * 3+j]?=(Qka l ts k)[j]? :=
 Qdd (f:=Qka l ts) (fun _=>rfl) (List.range l.length) k j k (by simp [hk]) hj
theorem Qbu (l:List Stp) (ts:List Nat):(Qcs l ts).length=l.length * 3:=by
 unfold Qcs;rw [Qmv (f:=Qka l ts) (m:=3) (fun _=>rfl),List.length_range]
theorem Qno (l:List Stp):Qcs l []=Qbs l:=by
 refine List.ext_getElem? fun q=>?_;by_cases hq:q < l.length * 3
 ·have e:q=q / 3 * 3+q % 3:=by omega
  have hk:q / 3 < l.length:=by omega
  rw [e,Qc9 hk (by omega),Qbs,Qdd (f:=fun s:Stp=>[Value.int .i64 (s.1:Int),.int .i64 (s.2.1:Int),.int .i64 (-1)]) (m:=3) (fun _=>rfl) l (q / 3) (q % 3) (l[q / 3]'hk) (List.getElem?_eq_getElem hk) (by omega)];simp [Qka,List.getD_eq_getElem?_getD,hk]
 ·rw [List.getElem?_eq_none (by rw [Qbu];omega),List.getElem?_eq_none (by rw [Qlq];omega)]
theorem Qnn {l:List Stp} {ts:List Nat} {t:Nat} (h:ts.length < l.length):(Qcs l ts).set (ts.length * 3+2) (.int .i64 (t:Int))=Qcs l (ts++[t]):=by
 refine List.ext_getElem? fun q=>?_;by_cases hq:q < l.length * 3
 ·have e:q=q / 3 * 3+q % 3:=by omega
  have hk:q / 3 < l.length:=by omega
  by_cases he:ts.length * 3+2=q
  ·subst he;rw [List.getElem?_set_self (by rw [Qbu];omega),Qc9 h (by omega)];simp [Qka,List.getD_eq_getElem?_getD]
  ·rw [List.getElem?_set_ne he,e,Qc9 hk (by omega),Qc9 hk (by omega)];have:q % 3=0∨q % 3=1∨(q % 3=2∧q / 3≠ts.length):=by omega
   rcases this with h1 | h1 | ⟨h1,h2⟩
   ·rw [h1];rfl
   ·rw [h1];rfl
   ·rw [h1];simp only [Qka,List.getElem?_cons_succ,List.getElem?_cons_zero,Option.some.injEq,Value.int.injEq,true_and];by_cases h3:q / 3 < ts.length
    ·simp only [List.getD_eq_getElem?_getD,List.map_append];rw [List.getElem?_append_left (by simpa using h3)]
    ·simp only [List.getD_eq_getElem?_getD];rw [List.getElem?_eq_none (by simp;omega),List.getElem?_eq_none (by simp;omega)]
 ·rw [List.getElem?_eq_none (by rw [List.length_set,Qbu];omega),List.getElem?_eq_none (by rw [Qbu];omega)]
def exL (X6 X M:Nat) (cv sv bv:Value) (Lx:List Nat):List Nat:=X6 :: X :: M :: (obs [cv,sv,bv]++Lx)
theorem mem_exL {X6 X M:Nat} {cv sv bv:Value} {Lx:List Nat} {b:Nat}:b∈exL X6 X M cv sv bv Lx↔b=X6∨b=X∨b=M∨cv.ownBlock=some b∨sv.ownBlock=some b∨bv.ownBlock=some b∨b∈Lx:=by
 unfold exL;simp only [List.mem_cons,List.mem_append,mem_obs,List.not_mem_nil,or_false];constructor
 ·rintro (h | h | h | ⟨v,rfl | rfl | rfl,h⟩ | h)
  ·exact .inl h
  ·exact .inr (.inl h)
  ·exact .inr (.inr (.inl h))
  ·exact .inr (.inr (.inr (.inl h)))
  ·exact .inr (.inr (.inr (.inr (.inl h))))
  ·exact .inr (.inr (.inr (.inr (.inr (.inl h)))))
  ·exact .inr (.inr (.inr (.inr (.inr (.inr h)))))
 ·rintro (h | h | h | h | h | h | h)
  ·exact .inl h
  ·exact .inr (.inl h)
  ·exact .inr (.inr (.inl h))
  ·exact .inr (.inr (.inr (.inl ⟨_,.inl rfl,h⟩)))
  ·exact .inr (.inr (.inr (.inl ⟨_,.inr (.inl rfl),h⟩)))
  ·exact .inr (.inr (.inr (.inl ⟨_,.inr (.inr rfl),h⟩)))
  ·exact .inr (.inr (.inr (.inr h)))
structure ExD (w3 w:World) (room X6 X M:Nat) (cv sv bv:Value) (cs:List (Value × Value)) (all:List Cfg) (rows:List Value) (rl:List (List Stp × List Nat)) (bl:List Bool) (Lx:List Nat):Prop where
 grow:Flow.Grow w3 w
 h6:X6 < w3.heap.size
 hX:w3.heap.size≤X
 hM:w3.heap.size≤M
 mp:∃ es cl,w.heap[M]?=some (.map es cl)
 xo:w.heap[X]?=some (.cells #[cv,sv,bv] 42 (0,0))
 hcs:cs.length=all.length
 cown:w.ownsRow w3.heap.size 53 4 cv all.length (Qb1 room cs)
 hrl:rows.length=rl.length
 sown:w.ownsRow w3.heap.size 46 1 sv rl.length rows
 bown:w.ownsRow w3.heap.size 4 1 bv bl.length (bl.map Value.bool)
 cfg:∀ j,j < all.length→CfgAt (mask w (exL X6 X M cv sv bv Lx)) (cs.getD j (undef,undef)).1 (cs.getD j (undef,undef)).2 (all.getD j first)
 row:∀ j,j < rl.length→Seg 3 (mask w (exL X6 X M cv sv bv Lx)) (rows.getD j undef) (rl.getD j ([],[])).1.length (Qcs (rl.getD j ([],[])).1 (rl.getD j ([],[])).2)
section
variable {w3 w w' w1:World} {room X6 X M:Nat} {cv sv bv:Value} {cs:List (Value × Value)} {all:List Cfg} {rows:List Value} {rl:List (List Stp × List Nat)} {bl:List Bool} {Lx:List Nat}
theorem ExD.hXM (h:ExD w3 w room X6 X M cv sv bv cs all rows rl bl Lx):X≠M:=fun e=>by
 obtain ⟨es,cl,hm⟩:=h.mp;have:=h.xo;rw [e,hm] at this;cases this
theorem ExD.grow_ (h:ExD w3 w room X6 X M cv sv bv cs all rows rl bl Lx) (g:Flow.Grow w w'):ExD w3 w' room X6 X M cv sv bv cs all rows rl bl Lx where
 grow:=h.grow.trans g
 h6:=h.h6
 hX:=h.hX
 hM:=h.hM
 mp:=by obtain ⟨es,cl,hm⟩:=h.mp;exact ⟨es,cl,Qae g hm⟩
 xo:=Qae g h.xo
 hcs:=h.hcs
 cown:=Qab h.cown g
 hrl:=h.hrl
 sown:=Qab h.sown g
 bown:=Qab h.bown g
 cfg:=fun j hj=>(h.cfg j hj).sub (Qdy g)
 row:=fun j hj=>(h.row j hj).sub (Qdy g)
theorem ExD.lx (h:ExD w3 w room X6 X M cv sv bv cs all rows rl bl Lx) (g:Flow.Grow w w') {Ly:List Nat} (hy:∀ b∈Ly,b∈Lx∨w.heap.size≤b):ExD w3 w' room X6 X M cv sv bv cs all rows rl bl Ly:=by
 have hs:Sub (mask w (exL X6 X M cv sv bv Lx)) (mask w' (exL X6 X M cv sv bv Ly)):=Qc2 g.size fun b hb hn=>⟨fun hm=>hn (mem_exL.2 (by
  rcases mem_exL.1 hm with e | e | e | e | e | e | e
  ·exact .inl e
  ·exact .inr (.inl e)
  ·exact .inr (.inr (.inl e))
  ·exact .inr (.inr (.inr (.inl e)))
  ·exact .inr (.inr (.inr (.inr (.inl e))))
  ·exact .inr (.inr (.inr (.inr (.inr (.inl e)))))
  ·rcases hy b e with e | e
   ·exact .inr (.inr (.inr (.inr (.inr (.inr e)))))
   ·omega)),g.block b hb (by simp)⟩
 have h':=h.grow_ g;exact { h' with cfg:=fun j hj=>(h.cfg j hj).sub hs,row:=fun j hj=>(h.row j hj).sub hs }
theorem ExD.byMap (h:ExD w3 w room X6 X M cv sv bv cs all rows rl bl Lx) (k:w.grownBy w' (some M)) (hm:∃ es cl,w'.heap[M]?=some (.map es cl)):ExD w3 w' room X6 X M cv sv bv cs all rows rl bl Lx:=by
 obtain ⟨es,cl,hm0⟩:=h.mp;have hs:Sub (mask w (exL X6 X M cv sv bv Lx)) (mask w' (exL X6 X M cv sv bv Lx)):=Qje k fun g e=>by injection e with e;subst e;exact mem_exL.2 (.inr (.inr (.inl rfl)))
 exact {
  grow:=Qap h.grow k (fun b e=>by injection e with e;have:=h.hM;omega)
  h6:=h.h6
  hX:=h.hX
  hM:=h.hM
  mp:=hm
  xo:=by rw [k.block X (Array.getElem?_eq_some_iff.1 h.xo).1 (fun e=>h.hXM (by injection e))];exact h.xo
  hcs:=h.hcs
  cown:=h.cown.kept k (.inr (own_map h.cown hm0))
  hrl:=h.hrl
  sown:=h.sown.kept k (.inr (own_map h.sown hm0))
  bown:=h.bown.kept k (.inr (own_map h.bown hm0))
  cfg:=fun j hj=>(h.cfg j hj).sub hs
  row:=fun j hj=>(h.row j hj).sub hs }
theorem ExD.byRow (h:ExD w3 w room X6 X M cv sv bv cs all rows rl bl Lx) {g:Nat} {cr:Array Value} (k:w.grownBy w' (some g)) (hg:g∈Lx) (h3:w3.heap.size≤g) (hc:w.heap[g]?=some (.cells cr 58 (0,0))):ExD w3 w' room X6 X M cv sv bv cs all rows rl bl Lx:=by
 obtain ⟨es,cl,hm0⟩:=h.mp;have hs:Sub (mask w (exL X6 X M cv sv bv Lx)) (mask w' (exL X6 X M cv sv bv Lx)):=Qje k fun b e=>by injection e with e;subst e;exact mem_exL.2 (.inr (.inr (.inr (.inr (.inr (.inr hg))))))
 exact {
  grow:=Qap h.grow k (fun b e=>by injection e with e;omega)
  h6:=h.h6
  hX:=h.hX
  hM:=h.hM
  mp:=⟨es,cl,by rw [k.block M (Array.getElem?_eq_some_iff.1 hm0).1 (fun e=>by injection e with e;rw [e,hc] at hm0;cases hm0)];exact hm0⟩
  xo:=by
   have hx:=h.xo;rw [k.block X (Array.getElem?_eq_some_iff.1 hx).1 (fun e=>by injection e with e;rw [e,hc] at hx;cases hx)];exact hx
  hcs:=h.hcs
  cown:=h.cown.kept k (.inr (Qan h.cown hc (by decide)))
  hrl:=h.hrl
  sown:=h.sown.kept k (.inr (Qan h.sown hc (by decide)))
  bown:=h.bown.kept k (.inr (Qan h.bown hc (by decide)))
  cfg:=fun j hj=>(h.cfg j hj).sub hs
  row:=fun j hj=>(h.row j hj).sub hs }
theorem Qrh {w:World} {X q:Nat} {u:Value} {cs:Array Value} {T:TypeId} (h:w.heap[X]?=some (.cells cs T (0,0))):(w.setCell ⟨X,q,none⟩ u).heap[X]?=some (.cells (cs.setIfInBounds q u) T (0,0)):=Qbi h q u
theorem ExD.pushCfg (h:ExD w3 w room X6 X M cv sv bv cs all rows rl bl Lx) {o:Obj} {g c:Nat} {vS vM:Value} {d:Cfg}
  (hown:w1.ownsRow w3.heap.size 53 4 (.slice (some ⟨g,0,none⟩) (all.length+1) c) (all.length+1) (Qb1 room cs++[vS,.int .i64 3,.int .i64 (room:Nat),vM])) (k:(w.alloc o).grownBy w1 cv.ownBlock) (hat:cv.ownBlock=some g∨g=(w.alloc o).heap.size)
  (hd:CfgAt (mask w (exL X6 X M cv sv bv Lx)) vS vM d) :
  ExD w3 (w1.setCell ⟨X,0,none⟩ (.slice (some ⟨g,0,none⟩) (all.length+1) c)) room X6 X M (.slice (some ⟨g,0,none⟩) (all.length+1) c) sv bv (cs++[(vS,vM)]) (all++[d]) rows rl bl Lx ∧
  Sub (mask w (exL X6 X M cv sv bv Lx)) (mask (w1.setCell ⟨X,0,none⟩ (.slice (some ⟨g,0,none⟩) (all.length+1) c)) (exL X6 X M (.slice (some ⟨g,0,none⟩) (all.length+1) c) sv bv Lx)):=by
 have h':=h.grow_ (Flow.grow_alloc w o);have hX1:w1.heap[X]?=some (.cells #[cv,sv,bv] 42 (0,0)):=by
  rw [k.block X (Array.getElem?_eq_some_iff.1 h'.xo).1 (fun e=>Qan h'.cown h'.xo (by decide) e.symm)];exact h'.xo
 have hs0:w.heap.size < (w.alloc o).heap.size:=by simp
 have hsz:w.heap.size≤(w1.setCell ⟨X,0,none⟩ (.slice (some ⟨g,0,none⟩) (all.length+1) c)).heap.size:=by
  have h1:=k.size;have h2:=(Qad w1 X 0 (.slice (some ⟨g,0,none⟩) (all.length+1) c)).size;omega
 have hs:Sub (mask w (exL X6 X M cv sv bv Lx)) (mask (w1.setCell ⟨X,0,none⟩ (.slice (some ⟨g,0,none⟩) (all.length+1) c)) (exL X6 X M (.slice (some ⟨g,0,none⟩) (all.length+1) c) sv bv Lx)):=Qc2 hsz fun b hb hn=>by
  have hn':=fun hx=>hn (mem_exL.2 hx);have n1:b≠X:=fun e=>hn' (.inr (.inl e));have n2:cv.ownBlock≠some b:=fun e=>hn' (.inr (.inr (.inr (.inl e))));refine ⟨fun hm=>?_,?_⟩
  ·rcases mem_exL.1 hm with e | e | e | e | e | e | e
   ·exact hn' (.inl e)
   ·exact hn' (.inr (.inl e))
   ·exact hn' (.inr (.inr (.inl e)))
   ·simp only [Value.ownBlock,Option.some.injEq] at e;subst e;rcases hat with e | e
    ·exact n2 e
    ·omega
   ·exact hn' (.inr (.inr (.inr (.inr (.inl e)))))
   ·exact hn' (.inr (.inr (.inr (.inr (.inr (.inl e))))))
   ·exact hn' (.inr (.inr (.inr (.inr (.inr (.inr e))))))
  ·rw [Below.heap_setCell _ _ _ _ (by show b≠X;exact n1),k.block b (by omega) (fun e=>n2 e.symm),Below.heap_alloc _ _ _ hb]
 refine ⟨?_,hs⟩;obtain ⟨es,cl,hm0⟩:=h'.mp;have ks:=Qad w1 X 0 (.slice (some ⟨g,0,none⟩) (all.length+1) c);have hm1:w1.heap[M]?=some (.map es cl):=by rw [k.block M (Array.getElem?_eq_some_iff.1 hm0).1 (fun e=>own_map h'.cown hm0 e.symm)];exact hm0
 have hs1:=h'.sown.kept k (Pr.own_apart h'.sown h'.cown (by decide));have hb1:=h'.bown.kept k (Pr.own_apart h'.bown h'.cown (by decide))
 exact {
  grow:=Qdi (Qap h'.grow k (fun b e=>(h'.cown.lt b e).1)) h.hX _ _
  h6:=h.h6
  hX:=h.hX
  hM:=h.hM
  mp:=⟨es,cl,by rw [ks.block M (Array.getElem?_eq_some_iff.1 hm1).1 (fun e=>h.hXM (by injection e with e;exact e.symm))];exact hm1⟩
  xo:=(Qrh hX1).trans rfl
  hcs:=by simp [h.hcs]
  cown:=by
   rw [List.length_append,List.length_singleton,Qg4];exact hown.kept ks (.inr (Qan hown hX1 (by decide)))
  hrl:=h.hrl
  sown:=hs1.kept ks (.inr (Qan hs1 hX1 (by decide)))
  bown:=hb1.kept ks (.inr (Qan hb1 hX1 (by decide)))
  cfg:=fun j hj=>by
   rw [List.length_append,List.length_singleton] at hj;by_cases e:j < all.length
   ·rw [show (cs++[(vS,vM)]).getD j (undef,undef)=cs.getD j (undef,undef) by simp [List.getD_eq_getElem?_getD,List.getElem?_append_left (show j < cs.length by rw [h.hcs];exact e)],show (all++[d]).getD j first=all.getD j first by simp [List.getD_eq_getElem?_getD,List.getElem?_append_left e]];exact (h.cfg j e).sub hs
   ·obtain rfl:j=all.length:=by omega
    rw [show (cs++[(vS,vM)]).getD all.length (undef,undef)=(vS,vM) by rw [← h.hcs];simp,show (all++[d]).getD all.length first=d by simp];exact hd.sub hs
  row:=fun j hj=>(h.row j hj).sub hs }
theorem Qpv {e e' sz sz' n n' B B' b:Nat} {v v':Value} {xs xs':List Value} (h1:w.ownsRow B e sz v n xs) (h2:w.ownsRow B' e' sz' v' n' xs') (he:e≠e') (hb:v.ownBlock=some b):v'.ownBlock≠some b:=by
 obtain ⟨cs,hc⟩:=Qbj h1 b hb;exact Qan h2 hc he
theorem ExD.pushRow (h:ExD w3 w room X6 X M cv sv bv cs all rows rl bl Lx) {o:Obj} {g c:Nat} {rv:Value} {l:List Stp} {ts:List Nat}
  (hown:w1.ownsRow w3.heap.size 46 1 (.slice (some ⟨g,0,none⟩) (rl.length+1) c) (rl.length+1) (rows++[rv])) (k:(w.alloc o).grownBy w1 sv.ownBlock) (hat:sv.ownBlock=some g∨g=(w.alloc o).heap.size)
  (hr:w.ownsRow w3.heap.size 58 3 rv l.length (Qcs l ts)) :
  ExD w3 (w1.setCell ⟨X,1,none⟩ (.slice (some ⟨g,0,none⟩) (rl.length+1) c)) room X6 X M cv (.slice (some ⟨g,0,none⟩) (rl.length+1) c) bv cs all (rows++[rv]) (rl++[(l,ts)]) bl []:=by
 have h':=h.grow_ (Flow.grow_alloc w o);have hX1:w1.heap[X]?=some (.cells #[cv,sv,bv] 42 (0,0)):=by
  rw [k.block X (Array.getElem?_eq_some_iff.1 h'.xo).1 (fun e=>Qan h'.sown h'.xo (by decide) e.symm)];exact h'.xo
 have hs0:w.heap.size < (w.alloc o).heap.size:=by simp
 have hsz:w.heap.size≤(w1.setCell ⟨X,1,none⟩ (.slice (some ⟨g,0,none⟩) (rl.length+1) c)).heap.size:=by
  have h1:=k.size;have h2:=(Qad w1 X 1 (.slice (some ⟨g,0,none⟩) (rl.length+1) c)).size;omega
 have hs:Sub (mask w (exL X6 X M cv sv bv Lx)) (mask (w1.setCell ⟨X,1,none⟩ (.slice (some ⟨g,0,none⟩) (rl.length+1) c)) (exL X6 X M cv (.slice (some ⟨g,0,none⟩) (rl.length+1) c) bv [])):=Qc2 hsz fun b hb hn=>by
  have hn':=fun hx=>hn (mem_exL.2 hx);have n1:b≠X:=fun e=>hn' (.inr (.inl e));have n2:sv.ownBlock≠some b:=fun e=>hn' (.inr (.inr (.inr (.inr (.inl e)))));refine ⟨fun hm=>?_,?_⟩
  ·rcases mem_exL.1 hm with e | e | e | e | e | e | e
   ·exact hn' (.inl e)
   ·exact hn' (.inr (.inl e))
   ·exact hn' (.inr (.inr (.inl e)))
   ·exact hn' (.inr (.inr (.inr (.inl e))))
   ·simp only [Value.ownBlock,Option.some.injEq] at e;subst e;rcases hat with e | e
    ·exact n2 e
    ·omega
   ·exact hn' (.inr (.inr (.inr (.inr (.inr (.inl e))))))
   ·cases e
  ·rw [Below.heap_setCell _ _ _ _ (by show b≠X;exact n1),k.block b (by omega) (fun e=>n2 e.symm),Below.heap_alloc _ _ _ hb]
 obtain ⟨es,cl,hm0⟩:=h'.mp;have ks:=Qad w1 X 1 (.slice (some ⟨g,0,none⟩) (rl.length+1) c);have hm1:w1.heap[M]?=some (.map es cl):=by rw [k.block M (Array.getElem?_eq_some_iff.1 hm0).1 (fun e=>own_map h'.sown hm0 e.symm)];exact hm0
 have hm2:(w1.setCell ⟨X,1,none⟩ (.slice (some ⟨g,0,none⟩) (rl.length+1) c)).heap[M]?=some (.map es cl):=by rw [ks.block M (Array.getElem?_eq_some_iff.1 hm1).1 (fun e=>h.hXM (by injection e with e;exact e.symm))];exact hm1
 have hc1:=(h'.cown.kept k (Pr.own_apart h'.cown h'.sown (by decide))).kept ks;have hc2:=hc1 (.inr (Qan (h'.cown.kept k (Pr.own_apart h'.cown h'.sown (by decide))) hX1 (by decide)));have hb1:=h'.bown.kept k (Pr.own_apart h'.bown h'.sown (by decide));have hb2:=hb1.kept ks (.inr (Qan hb1 hX1 (by decide)));have hr1:=(Qab hr (Flow.grow_alloc w o)).kept k (Pr.own_apart (Qab hr (Flow.grow_alloc w o)) h'.sown (by decide));have hr2:=hr1.kept ks (.inr (Qan hr1 hX1 (by decide)));have ho2:=hown.kept ks (.inr (Qan hown hX1 (by decide)))
 exact {
  grow:=Qdi (Qap h'.grow k (fun b e=>(h'.sown.lt b e).1)) h.hX _ _
  h6:=h.h6
  hX:=h.hX
  hM:=h.hM
  mp:=⟨es,cl,hm2⟩
  xo:=(Qrh hX1).trans rfl
  hcs:=h.hcs
  cown:=hc2
  hrl:=by simp [h.hrl]
  sown:=by rw [List.length_append,List.length_singleton];exact ho2
  bown:=hb2
  cfg:=fun j hj=>(h.cfg j hj).sub hs
  row:=fun j hj=>by
   rw [List.length_append,List.length_singleton] at hj;by_cases e:j < rl.length
   ·rw [show (rows++[rv]).getD j undef=rows.getD j undef by simp [List.getD_eq_getElem?_getD,List.getElem?_append_left (show j < rows.length by rw [h.hrl];exact e)],show (rl++[(l,ts)]).getD j ([],[])=rl.getD j ([],[]) by simp [List.getD_eq_getElem?_getD,List.getElem?_append_left e]];exact (h.row j e).sub hs
   ·obtain rfl:j=rl.length:=by omega
    rw [show (rows++[rv]).getD rl.length undef=rv by rw [← h.hrl];simp,show (rl++[(l,ts)]).getD rl.length ([],[])=(l,ts) by simp];refine Seg.of_own (Qid hr2 fun b hb hm=>?_);rcases mem_exL.1 hm with e | e | e | e | e | e | e
    ·have:=(hr2.lt b hb).1;have:=h.h6;omega
    ·subst e;exact Qan hr2 ((Qrh (q:=1) (u:=.slice (some ⟨g,0,none⟩) (rl.length+1) c) hX1)) (by decide) hb
    ·subst e;exact own_map hr2 hm2 hb
    ·exact Qpv hr2 hc2 (by decide) hb e
    ·exact Qpv hr2 ho2 (by decide) hb e
    ·exact Qpv hr2 hb2 (by decide) hb e
    ·cases e }
theorem ExD.pushBlk (h:ExD w3 w room X6 X M cv sv bv cs all rows rl bl []) {o:Obj} {g c:Nat} {bb:Bool}
  (hown:w1.ownsRow w3.heap.size 4 1 (.slice (some ⟨g,0,none⟩) (bl.length+1) c) (bl.length+1) (bl.map Value.bool++[.bool bb])) (k:(w.alloc o).grownBy w1 bv.ownBlock) (hat:bv.ownBlock=some g∨g=(w.alloc o).heap.size) :
  ExD w3 (w1.setCell ⟨X,2,none⟩ (.slice (some ⟨g,0,none⟩) (bl.length+1) c)) room X6 X M cv sv (.slice (some ⟨g,0,none⟩) (bl.length+1) c) cs all rows rl (bl++[bb]) []:=by
 have h':=h.grow_ (Flow.grow_alloc w o);have hX1:w1.heap[X]?=some (.cells #[cv,sv,bv] 42 (0,0)):=by
  rw [k.block X (Array.getElem?_eq_some_iff.1 h'.xo).1 (fun e=>Qan h'.bown h'.xo (by decide) e.symm)];exact h'.xo
 have hs0:w.heap.size < (w.alloc o).heap.size:=by simp
 have hsz:w.heap.size≤(w1.setCell ⟨X,2,none⟩ (.slice (some ⟨g,0,none⟩) (bl.length+1) c)).heap.size:=by
  have h1:=k.size;have h2:=(Qad w1 X 2 (.slice (some ⟨g,0,none⟩) (bl.length+1) c)).size;omega
 have hs:Sub (mask w (exL X6 X M cv sv bv [])) (mask (w1.setCell ⟨X,2,none⟩ (.slice (some ⟨g,0,none⟩) (bl.length+1) c)) (exL X6 X M cv sv (.slice (some ⟨g,0,none⟩) (bl.length+1) c) [])):=Qc2 hsz fun b hb hn=>by
  have hn':=fun hx=>hn (mem_exL.2 hx);have n1:b≠X:=fun e=>hn' (.inr (.inl e));have n2:bv.ownBlock≠some b:=fun e=>hn' (.inr (.inr (.inr (.inr (.inr (.inl e))))));refine ⟨fun hm=>?_,?_⟩
  ·rcases mem_exL.1 hm with e | e | e | e | e | e | e
   ·exact hn' (.inl e)
   ·exact hn' (.inr (.inl e))
   ·exact hn' (.inr (.inr (.inl e)))
   ·exact hn' (.inr (.inr (.inr (.inl e))))
   ·exact hn' (.inr (.inr (.inr (.inr (.inl e)))))
   ·simp only [Value.ownBlock,Option.some.injEq] at e;subst e;rcases hat with e | e
    ·exact n2 e
    ·omega
   ·cases e
  ·rw [Below.heap_setCell _ _ _ _ (by show b≠X;exact n1),k.block b (by omega) (fun e=>n2 e.symm),Below.heap_alloc _ _ _ hb]
 obtain ⟨es,cl,hm0⟩:=h'.mp;have ks:=Qad w1 X 2 (.slice (some ⟨g,0,none⟩) (bl.length+1) c);have hm1:w1.heap[M]?=some (.map es cl):=by rw [k.block M (Array.getElem?_eq_some_iff.1 hm0).1 (fun e=>own_map h'.bown hm0 e.symm)];exact hm0
 have hc1:=h'.cown.kept k (Pr.own_apart h'.cown h'.bown (by decide));have hs1:=h'.sown.kept k (Pr.own_apart h'.sown h'.bown (by decide))
 exact {
  grow:=Qdi (Qap h'.grow k (fun b e=>(h'.bown.lt b e).1)) h.hX _ _
  h6:=h.h6
  hX:=h.hX
  hM:=h.hM
  mp:=⟨es,cl,by rw [ks.block M (Array.getElem?_eq_some_iff.1 hm1).1 (fun e=>h.hXM (by injection e with e;exact e.symm))];exact hm1⟩
  xo:=(Qrh hX1).trans rfl
  hcs:=h.hcs
  cown:=hc1.kept ks (.inr (Qan hc1 hX1 (by decide)))
  hrl:=h.hrl
  sown:=hs1.kept ks (.inr (Qan hs1 hX1 (by decide)))
  bown:=by
   rw [List.length_append,List.length_singleton,List.map_append];exact hown.kept ks (.inr (Qan hown hX1 (by decide)))
  cfg:=fun j hj=>(h.cfg j hj).sub hs
  row:=fun j hj=>(h.row j hj).sub hs }
structure ExAt (w:World) (room n:Nat) (cv sv bv:Value) (all:List Cfg) (rl:List (List Stp × List Nat)) (bl:List Bool):Prop where
 hn:all.length=n∧rl.length=n∧bl.length=n
 cfgs:∃ cs:List (Value × Value),cs.length=n∧Seg 4 w cv n (Qb1 room cs)∧∀ j,j < n→CfgAt w (cs.getD j (undef,undef)).1 (cs.getD j (undef,undef)).2 (all.getD j first)
 rows:∃ rs:List Value,rs.length=n∧Seg 1 w sv n rs∧∀ j,j < n→Seg 3 w (rs.getD j undef) (rl.getD j ([],[])).1.length (Qcs (rl.getD j ([],[])).1 (rl.getD j ([],[])).2)
 blks:Bools w bv bl
theorem ExAt.grow {n:Nat} (h:ExAt w room n cv sv bv all rl bl) (g:Flow.Grow w w'):ExAt w' room n cv sv bv all rl bl where
 hn:=h.hn
 cfgs:=by
  obtain ⟨cs,h1,h2,h3⟩:=h.cfgs;exact ⟨cs,h1,h2.grow g,fun j hj=>(h3 j hj).grow g⟩
 rows:=by
  obtain ⟨rs,h1,h2,h3⟩:=h.rows;exact ⟨rs,h1,h2.grow g,fun j hj=>(h3 j hj).grow g⟩
 blks:=h.blks.grow g
theorem ExD.done {n:Nat} (h:ExD w3 w room X6 X M cv sv bv cs all rows rl bl Lx) (hn:all.length=n∧rl.length=n∧bl.length=n) {c6:Array Value} (h6:w.heap[X6]?=some (.cells c6 42 (0,0))) (hsz:w.heap.size≤w'.heap.size) (hb:∀ b,b < w.heap.size→b≠X6→w'.heap[b]?=w.heap[b]?):ExAt w' room n cv sv bv all rl bl:=by
 have hs:Sub (mask w (exL X6 X M cv sv bv Lx)) w':=(Qc2 hsz fun b hlt hn'=>⟨hn',hb b hlt (fun e=>hn' (mem_exL.2 (.inl e)))⟩).trans (Qcb _ (exL X6 X M cv sv bv Lx));have k:∀ {e sz m:Nat} {v:Value} {xs:List Value},w.ownsRow w3.heap.size e sz v m xs→42≠e→w'.ownsRow w3.heap.size e sz v m xs:=fun hv he=>Qec hv fun g hg=>hb g (hv.lt g hg).2 (fun e=>Qan hv h6 he (by rw [hg,e]));obtain ⟨h1,h2,h3⟩:=hn;refine ⟨⟨h1,h2,h3⟩,⟨cs,h.hcs.trans h1,by rw [← h1];exact Seg.of_own (k h.cown (by decide)),fun j hj=>(h.cfg j (by omega)).sub hs⟩,⟨rows,h.hrl.trans h2,by rw [← h2];exact Seg.of_own (k h.sown (by decide)),fun j hj=>(h.row j (by omega)).sub hs⟩,?_⟩;have:=Seg.of_own (k h.bown (by decide));exact this
theorem ExD.start {B S1:Nat} {vS vM:Value} (g:Flow.Grow w3 w) (h6:X6 < B) (hB:B≤w3.heap.size) (hX:w3.heap.size≤X) (hM:w3.heap.size≤M) (hS:w3.heap.size≤S1) (hm:∃ es cl,w.heap[M]?=some (.map es cl))
  (hx:w.heap[X]?=some (.cells #[.slice (some ⟨S1,0,none⟩) 1 1,.slice none 0 0,.slice none 0 0] 42 (0,0))) (hs1:w.heap[S1]?=some (.cells #[vS,.int .i64 3,.int .i64 (room:Nat),vM] 53 (0,0)))
  (hc:∀ V,CfgD V w3 B vS vM first):ExD w3 w room X6 X M (.slice (some ⟨S1,0,none⟩) 1 1) (.slice none 0 0) (.slice none 0 0) [(vS,vM)] [first] [] [] [] [] where
 grow:=g
 h6:=by omega
 hX:=hX
 hM:=hM
 mp:=hm
 xo:=hx
 hcs:=rfl
 cown:=⟨rfl,.inr ⟨S1,1,_,rfl,hS,hs1,Nat.le_refl _,by decide,rfl,rfl⟩⟩
 hrl:=rfl
 sown:=World.ownsRow_nil _ _ _ _
 bown:=World.ownsRow_nil _ _ _ _
 cfg:=fun j hj=>by
  obtain rfl:j=0:=by simpa using hj
  have h1:CfgAt (mask w3 [X6]) vS vM first:=(hc (mask w3 [X6])).mask (Sub.refl _) (fun b hb=>.inl (by simp at hb;omega))
  refine h1.sub (Qc2 g.size fun b hb hn=>⟨fun hm=>hn ?_,g.block b hb (by simp)⟩);rcases mem_exL.1 hm with e | e | e | e | e | e | e
  ·simp [e]
  ·omega
  ·omega
  ·simp only [Value.ownBlock,Option.some.injEq] at e;omega
  ·cases e
  ·cases e
  ·cases e
 row:=fun j hj=>by cases hj
theorem Zbd {Ly:List Nat} (g:Flow.Grow w w') (hy:∀ b∈Ly,b∈Lx∨w.heap.size≤b):Sub (mask w (exL X6 X M cv sv bv Lx)) (mask w' (exL X6 X M cv sv bv Ly)):=Qc2 g.size fun b hb hn=>⟨fun hm=>hn (mem_exL.2 (by
  rcases mem_exL.1 hm with e | e | e | e | e | e | e
  ·exact .inl e
  ·exact .inr (.inl e)
  ·exact .inr (.inr (.inl e))
  ·exact .inr (.inr (.inr (.inl e)))
  ·exact .inr (.inr (.inr (.inr (.inl e))))
  ·exact .inr (.inr (.inr (.inr (.inr (.inl e)))))
  ·rcases hy b e with e | e
   ·exact .inr (.inr (.inr (.inr (.inr (.inr e)))))
   ·omega)),g.block b hb (by simp)⟩
theorem ExD.cell (h:ExD w3 w room X6 X M cv sv bv cs all rows rl bl Lx) {i:Nat} (hi:i < all.length):∃ (g c:Nat) (vS vM:Value),cv=.slice (some ⟨g,0,none⟩) all.length c ∧
  w.cell? ⟨g,i * 4,none⟩=some vS∧w.cell? ⟨g,i * 4+1,none⟩=some (.int .i64 3)∧w.cell? ⟨g,i * 4+2,none⟩=some (.int .i64 (room:Nat))∧w.cell? ⟨g,i * 4+3,none⟩=some vM∧CfgAt (mask w (exL X6 X M cv sv bv Lx)) vS vM (all.getD i first):=by
 have hc:=h.cfg i hi;have ho:=h.cown;obtain ⟨g,c,rfl,_⟩:=own_n ho (by omega);obtain ⟨⟨vS,vM⟩,hcs⟩:∃ x,cs[i]?=some x:=⟨cs[i]'(by rw [h.hcs];exact hi),List.getElem?_eq_getElem _⟩;have e2:cs.getD i (undef,undef)=(vS,vM):=by rw [List.getD_eq_getElem?_getD,hcs];rfl
 rw [e2] at hc;have t:∀ j,j < 4→w.cell? ⟨g,i * 4+j,none⟩=[vS,Value.int .i64 3,.int .i64 (room:Nat),vM][j]?:=fun j hj=>by
  rw [ho.cellAt (i * 4+j) (by omega)];exact Qdd (f:=fun c:Value × Value=>[c.1,Value.int .i64 3,.int .i64 (room:Nat),c.2]) (fun _=>rfl) cs i j _ hcs hj
 exact ⟨g,c,vS,vM,rfl,t 0 (by omega),t 1 (by omega),t 2 (by omega),t 3 (by omega),hc⟩
def ToAt (w:World) (room:Nat) (tv:Value) (l:List Stp):Prop:=∀ k,k < l.length→∃ (g c:Nat) (vS vM:Value),tv=.slice (some ⟨g,0,none⟩) l.length c ∧
  w.cell? ⟨g,k * 4,none⟩=some vS∧w.cell? ⟨g,k * 4+1,none⟩=some (.int .i64 3)∧w.cell? ⟨g,k * 4+2,none⟩=some (.int .i64 (room:Nat))∧w.cell? ⟨g,k * 4+3,none⟩=some vM∧CfgAt w vS vM (l.getD k dstp).2.2
theorem ToAt.sub {tv:Value} {l:List Stp} (h:ToAt w room tv l) (s:Sub w w'):ToAt w' room tv l:=fun k hk=>by
 obtain ⟨g,c,vS,vM,h1,h2,h3,h4,h5,h6⟩:=h k hk;exact ⟨g,c,vS,vM,h1,s.cell _ _ h2,s.cell _ _ h3,s.cell _ _ h4,s.cell _ _ h5,h6.sub s⟩
theorem StD.toAt {V:World} {B:Nat} {ov tv:Value} {l:List Stp} {L:List Nat} (h:StD V w B room ov tv l) (hV:Sub V (mask w L)) (hL:∀ b∈L,b < B∨ov.ownBlock=some b):ToAt (mask w L) room tv l:=fun k hk=>by
 obtain ⟨⟨i,q,d⟩,hl⟩:∃ x,l[k]?=some x:=⟨_,List.getElem?_eq_getElem hk⟩;obtain ⟨g1,g2,c1,c2,vS,vM,e1,e2,_,_,_,t0,t1,t2,t3,hd,hb1,hb2⟩:=h.read hk hl;obtain ⟨cs,_,hto,_⟩:=h.tos;have hng:g2∉L:=fun hm=>by
  rcases hL g2 hm with e | e
  ·omega
  ·obtain ⟨c',hc'⟩:=Qbj h.out g2 e;exact Qan hto hc' (by decide) (by rw [e2];rfl)
 have hcell:∀ j v,w.cell? ⟨g2,j,none⟩=some v→(mask w L).cell? ⟨g2,j,none⟩=some v:=fun j v hv=>(World.cell?_of_block (Qfn w hng)).trans hv;refine ⟨g2,c2,vS,vM,e2,hcell _ _ t0,hcell _ _ t1,hcell _ _ t2,hcell _ _ t3,?_⟩;rw [show (l.getD k dstp).2.2=d by rw [List.getD_eq_getElem?_getD,hl];rfl];refine hd.mask hV fun b hb=>?_;rcases hL b hb with e | e
 ·exact .inl e
 ·obtain ⟨c',hc'⟩:=Qbj h.out b e;exact .inr ⟨c',_,hc',by decide,by decide⟩
def Qd1 (all:List Cfg):List Lit:=all.map fun c=>Mo.kl (str (keyB c))
structure ExI (w3 w:World) (room X6 X M:Nat) (cv sv bv ov tv:Value) (cs:List (Value × Value)) (all:List Cfg) (rows:List Value) (rl:List (List Stp × List Nat)) (bl:List Bool) (l:List Stp) (ts:List Nat) (D:DataW Unit):Prop where
 ex:ExD w3 w room X6 X M cv sv bv cs all rows rl bl (obs [ov])
 mw:MapW w M all.length D
 od:Mo.Ord D (Qd1 all)
 row:w.ownsRow w3.heap.size 58 3 ov l.length (Qcs l ts)
 lead:ToAt (mask w (exL X6 X M cv sv bv (obs [ov]))) room tv l
section
variable {ov tv:Value} {l:List Stp} {ts:List Nat} {D D':DataW Unit}
theorem ExI.grow_ (h:ExI w3 w room X6 X M cv sv bv ov tv cs all rows rl bl l ts D) (g:Flow.Grow w w'):ExI w3 w' room X6 X M cv sv bv ov tv cs all rows rl bl l ts D where
 ex:=h.ex.grow_ g
 mw:=World.ownsMap.kept (row:=none) h.mw g (by simp)
 od:=h.od
 row:=Qab h.row g
 lead:=h.lead.sub (Qdy g)
theorem ExI.store {gb oc:Nat} (h:ExI w3 w room X6 X M cv sv bv (.slice (some ⟨gb,0,none⟩) l.length oc) tv cs all rows rl bl l ts D) (hts:ts.length < l.length) (t:Nat):ExI w3 (w.setCell ⟨gb,ts.length * 3+2,none⟩ (.int .i64 (t:Int))) room X6 X M cv sv bv (.slice (some ⟨gb,0,none⟩) l.length oc) tv cs all rows rl bl l (ts++[t]) D:=by
 have k:=Qad w gb (ts.length * 3+2) (.int .i64 (t:Int));obtain ⟨cr,hcr⟩:=Qbj h.row gb rfl;have hm:gb∈obs [Value.slice (some ⟨gb,0,none⟩) l.length oc]:=mem_obs.2 ⟨_,List.mem_singleton.2 rfl,rfl⟩
 exact {
  ex:=h.ex.byRow k hm (h.row.lt gb rfl).1 hcr
  mw:=World.ownsMap.keptC h.mw k hcr
  od:=h.od
  row:=by rw [← Qnn hts];exact Qdv _ h.row (by omega)
  lead:=h.lead.sub (Qje k fun b e=>by injection e with e;subst e;exact mem_exL.2 (.inr (.inr (.inr (.inr (.inr (.inr hm))))))) }
theorem ExI.push (h:ExI w3 w room X6 X M cv sv bv ov tv cs all rows rl bl l ts D) {wm:World} {o:Obj} {g c:Nat} {vS vM:Value} {d:Cfg}
  (km:w.grownBy wm (some M)) (hmw:MapW wm M (all.length+1) D') (hod:Mo.Ord D' (Qd1 (all++[d])))
  (hown:w1.ownsRow w3.heap.size 53 4 (.slice (some ⟨g,0,none⟩) (all.length+1) c) (all.length+1) (Qb1 room cs++[vS,.int .i64 3,.int .i64 (room:Nat),vM])) (k:(wm.alloc o).grownBy w1 cv.ownBlock) (hat:cv.ownBlock=some g∨g=(wm.alloc o).heap.size)
  (hd:CfgAt (mask w (exL X6 X M cv sv bv (obs [ov]))) vS vM d) :
  ExI w3 (w1.setCell ⟨X,0,none⟩ (.slice (some ⟨g,0,none⟩) (all.length+1) c)) room X6 X M (.slice (some ⟨g,0,none⟩) (all.length+1) c) sv bv ov tv (cs++[(vS,vM)]) (all++[d]) rows rl bl l ts D':=by
 have hm0:=World.ownsMap.at_ hmw;obtain ⟨es0,cl0,hw0⟩:=h.ex.mp;have em:=h.ex.byMap km hm0;have sm:Sub (mask w (exL X6 X M cv sv bv (obs [ov]))) (mask wm (exL X6 X M cv sv bv (obs [ov]))):=Qje km fun b e=>by injection e with e;subst e;exact mem_exL.2 (.inr (.inr (.inl rfl)))
 obtain ⟨ep,sp⟩:=em.pushCfg hown k hat (hd.sub sm);have ea:=em.grow_ (Flow.grow_alloc wm o);have hX1:w1.heap[X]?=some (.cells #[cv,sv,bv] 42 (0,0)):=by
  rw [k.block X (Array.getElem?_eq_some_iff.1 ea.xo).1 (fun e=>Qan ea.cown ea.xo (by decide) e.symm)];exact ea.xo
 have ks:=Qad w1 X 0 (.slice (some ⟨g,0,none⟩) (all.length+1) c);have r1:=Qab (h.row.kept km (.inr (own_map h.row hw0))) (Flow.grow_alloc wm o);have r2:=r1.kept k (Pr.own_apart r1 ea.cown (by decide));have m1:MapW (wm.alloc o) M (all.length+1) D':=World.ownsMap.kept (row:=none) hmw (Flow.grow_alloc wm o) (by simp)
 exact {
  ex:=ep
  mw:=by
   rw [List.length_append,List.length_singleton];exact World.ownsMap.keptC (World.ownsMap.keptO m1 k ea.cown) ks hX1
  od:=hod
  row:=r2.kept ks (.inr (Qan r2 hX1 (by decide)))
  lead:=(h.lead.sub sm).sub sp }
end
end
end As
end Go.Proofs.YtcpodmjcgfgmnaaGreat
namespace Go.Proofs.YtcpodmjcgfgmnaaGreat
open Go.RowKit
theorem Qxg (n:Nat) (h:n < 256):[Value.int .u8 (n:Int)]=[Pr.lo8 (n:Int)].map u8v:=by
 simp only [u8v,Pr.lo8_val,List.map_cons,List.map_nil];rw [show (n:Int) % 256=(n:Int) by omega]
open As in
set_option maxRecDepth 100000 in
set_option maxHeartbeats 1000000 in
theorem Qqk (room:Nat) (vM:Value) (vs:List Value) (b:List (List Int)) (W:World) (h9:b.length=9) (hlen:∀ j,(b.getD j []).length≤100) (hR:BoxAt W vM vs b) :
  Calls Tryz.prog 46 #[.agg #[.int .i64 3,.int .i64 (room:Nat),vM]] W fun e w'=>e=.returned (.string (str (mkb b 9)))∧Flow.Grow W w':=by
 obtain ⟨mb,mo,mc,hvm,hvl,hvc,_⟩:=hR.cells (by intro e;rw [e] at h9;cases h9);subst hvm;have HBc:Hid (∀ j,j < 9→∃ ba bn bc,W.cell? ⟨mb,mo+j,none⟩=some (.slice ba bn bc)∧Ints W (.slice ba bn bc) (b.getD j [])∧bn=(b.getD j []).length):=Lib.hid (fun j hj=>by
  obtain ⟨hI,ba,bn,bc,hbe,_⟩:=hR.2 j (by omega);have hcx:=hvc j (vs.getD j undef) (by simp [List.getD_eq_getElem?_getD,show j < vs.length by omega]);rw [hbe] at hI hcx;refine ⟨ba,bn,bc,hcx,hI,?_⟩;obtain ⟨a',c',e,_⟩:=hI;injection e)
 have HLn:=Lib.hid hlen;rw [h9];clear hR hvl hvc hlen;obtain ⟨i0,hi,hz0,hz1,hz2⟩:=info_parts Qie;have HI:=Lib.hid (And.intro hi (And.intro hz0 (And.intro hz1 hz2)));clear hi hz0 hz1 hz2;have HMl:Hid (∀ j,j≤9→(mkb b j).length≤300 * j):=Lib.hid (fun j=>by
  induction j with
  | zero=>intro _;simp [mkb]
  | succ j ih =>
   intro h;have h1:=ih (by omega);have h2:=HLn.out j;rw [mkb,List.length_append,bkb,List.length_cons,Qf9];omega)
 go_enter Tryz.func46,Tryz.ntmps46;go_upto_region 1 with fail;have HBw10:Hid ((W.alloc (.cells #[.int .i64 3,.int .i64 (room:Nat),.slice (some ⟨mb,mo,none⟩) 9 mc] 51)).heap[W.heap.size]?=some (.cells #[.int .i64 3,.int .i64 (room:Nat),.slice (some ⟨mb,mo,none⟩) 9 mc] 51 (0,0))):=Lib.hid (Qb3 _ _);have HGw1:Hid (Flow.Grow W (W.alloc (.cells #[.int .i64 3,.int .i64 (room:Nat),.slice (some ⟨mb,mo,none⟩) 9 mc] 51))):=Lib.hid (Qb2 _ _);have HSw1:Hid ((W.alloc (.cells #[.int .i64 3,.int .i64 (room:Nat),.slice (some ⟨mb,mo,none⟩) 9 mc] 51)).heap.size=W.heap.size+1):=Lib.hid (by simp);generalize W.alloc (.cells #[.int .i64 3,.int .i64 (room:Nat),.slice (some ⟨mb,mo,none⟩) 9 mc] 51)=w1 at *;obtain ⟨X,hX⟩:∃ X,X=W.heap.size:=⟨_,rfl⟩;rw [← hX] at HBw10 HSw1 ⊢;have HXw1:=Lib.hid hX;clear hX;have CXw1:Hid (∀ wq,Flow.Grow w1 wq→wq.cell? ⟨X,0,none⟩=some (.int .i64 3)∧wq.cell? ⟨X,1,none⟩=some (.int .i64 (room:Nat))∧wq.cell? ⟨X,2,none⟩=some (.slice (some ⟨mb,mo,none⟩) 9 mc)):=Lib.hid (fun wq g=>⟨Qaa g HBw10.out rfl,Qaa g HBw10.out rfl,Qaa g HBw10.out rfl⟩);have FXw1:Hid (∀ wq,Flow.Grow w1 wq→(∀ k,wq.frozen? ⟨X,k,none⟩=false)):=Lib.hid (fun wq g=>fun k=>Qaf g HBw10.out k);obtain ⟨c00,c01,c02⟩:=CXw1.out w1 (Flow.grow_refl _);go_wp2_with fail;clear c00 c01 c02;go_loopw [3,11] (fun va iv wr=>∃ j:Nat,j≤9∧iv=.int .i64 j∧Hid (wr.ownsRow w1.heap.size 5 1 va (mkb b j).length ((mkb b j).map u8v))∧Hid (Flow.Grow w1 wr)) (fun _ iv _=>9 - (intOf iv).toNat)
 case atStart=>exact ⟨0,by omega,rfl,Lib.hid (World.ownsRow_nil _ _ _ _),Lib.hid (Flow.grow_refl _)⟩
 case round =>
  obtain ⟨j,hj,rfl,HO,HG⟩:=hrel
  rename World=>wo
  obtain ⟨va,hva⟩:∃ va,va=u3:=⟨_,rfl⟩;obtain ⟨oa,oc,hoa⟩:=Qah HO.out;subst hoa;clear hva;by_cases hj9:j < 9
  ·obtain ⟨ba,bn,bc,hcx,hI,hbn⟩:=HBc.out j hj9;have HIx:=Lib.hid hI;have hb100:bn≤100:=by rw [hbn];exact HLn.out j
   have HK:Hid (mkb b (j+1)=mkb b j++Pr.lo8 (bn:Int) :: Pr.kbs (b.getD j []) bn):=Lib.hid (by rw [mkb,bkb,hbn,Qmp]);have hml:=HMl.out j (by omega);have Hbn:=Lib.hid hbn;clear hI hbn;generalize b.getD j []=row at *;generalize mkb b j=pre at *;replace hcx:=Xm2.cell_grow (HGw1.out.trans HG.out) hcx;have hjd:(j:Int) < 9:=by omega
   have hj0:(0:Int)≤(j:Int):=by omega
   go_upto_region 6 with (at_builtin;refine Qbp w1.heap.size rfl _ _ 116 rfl 5 i0 (.int .u8 0) 1 Tryz.underlying116 HI.out.1 HI.out.2.1 HI.out.2.2.1 HI.out.2.2.2 rfl (.slice oa pre.length oc) pre.length (pre.map u8v) rfl (Qab HO.out (Flow.grow_alloc _ _)) (by have:=HG.out.size;simp;omega) _ (.int .u8 (bn:Int)) 5 rfl (heap_alloc_new _ _) rfl (by omega) (by decide) ?_;intro g c2 w' hO hk hat;have HO2:=Lib.hid hO;have HG2:=Lib.hid (Qap (HG.out.trans (Flow.grow_alloc _ _)) hk (fun b e=>(HO.out.lt b e).1));clear hO hk hat hcx)
   rename World=>w2
   have HO3:Hid (w2.ownsRow w1.heap.size 5 1 (.slice (some ⟨g,0,none⟩) (pre.length+1) c2) (pre++Pr.lo8 (bn:Int) :: Pr.kbs row 0).length ((pre++Pr.lo8 (bn:Int) :: Pr.kbs row 0).map u8v)):=Lib.hid (by
    have h:=HO2.out;rw [Qxg bn (by omega)] at h;simpa [Pr.kbs] using h)
   clear HO2 HO;have hlen0:pre.length+1=(pre++Pr.lo8 (bn:Int) :: Pr.kbs row 0).length:=by simp [Pr.kbs]
   go_wp2_with fail;go_loopw [3,23] (fun va kv wr=>∃ k:Nat,k≤bn∧kv=.int .i64 k∧Hid (wr.ownsRow w1.heap.size 5 1 va (pre++Pr.lo8 (bn:Int) :: Pr.kbs row k).length ((pre++Pr.lo8 (bn:Int) :: Pr.kbs row k).map u8v))∧Hid (Flow.Grow w1 wr)) (fun _ kv _=>bn - (intOf kv).toNat)
   case atStart=>exact ⟨0,by omega,rfl,HO3,HG2⟩
   case round =>
    clear HO3 HG2 hlen0;obtain ⟨k,hk,rfl,HOk,HGk⟩:=hrel
    rename World=>wi
    obtain ⟨va,hva⟩:∃ va,va=u3:=⟨_,rfl⟩;obtain ⟨pa,pc,hpa⟩:=Qah HOk.out;subst hpa;clear hva;by_cases hkn:k < bn
    ·obtain ⟨lb,lo,rfl,q0⟩:=Qa8 (HIx.out.grow (HGw1.out.trans HGk.out)) (j:=k) (by rw [← Hbn.out];exact hkn);have HK2:Hid (pre++Pr.lo8 (bn:Int) :: Pr.kbs row (k+1)=(pre++Pr.lo8 (bn:Int) :: Pr.kbs row k)++Pr.kb (row.getD k 0)):=Lib.hid (by simp [Pr.kbs]);have hl2:(pre++Pr.lo8 (bn:Int) :: Pr.kbs row k).length≤10000:=by
      rw [List.length_append,List.length_cons,Pr.kbs_len];omega
     generalize row.getD k 0=s at *;generalize pre++Pr.lo8 (bn:Int) :: Pr.kbs row k=acc at *;generalize hal:acc.length=an at *;have Hal:=Lib.hid hal;clear hal;have hk0:(0:Int)≤(k:Int):=by omega
     have hkd:(k:Int) < (bn:Int):=by omega
     go_wp2_with (at_builtin;refine Qcj (W:=w1) rfl _ _ 116 rfl 5 i0 (.int .u8 0) 1 Tryz.underlying116 HI.out.1 HI.out.2.1 HI.out.2.2.1 HI.out.2.2.2 rfl (.slice pa an pc) an (acc.map u8v) rfl (Qab HOk.out (Flow.grow_alloc _ _)) (HGk.out.trans (Flow.grow_alloc _ _)) _ _ _ 5 rfl (heap_alloc_new _ _) ⟨rfl,rfl⟩ (by omega) (by decide) ?_;intro v' w' hO hG hf hk;have HO2:=Lib.hid hO;have HG2:=Lib.hid hG;obtain ⟨g',c',rfl,_⟩:=hf;clear hO hG hk);go_roundw
     case rel=>exact ⟨k+1,by omega,by go_num,Lib.hid (by rw [HK2.out,List.map_append,← Pr.kb_cells,List.length_append,Hal.out];exact HO2.out),HG2⟩
     case measure=>simp [intOf];omega
    ·obtain rfl:k=bn:=by omega
     go_wp2_with fail;go_roundw
     case rel=>exact ⟨j+1,by omega,by go_num,Lib.hid (by rw [HK.out];exact HOk.out),HGk⟩
     case measure=>simp [intOf];omega
  ·obtain rfl:j=9:=by omega
   have hby:Bytes wo (.slice oa (mkb b 9).length oc) (mkb b 9):=Bytes.of_own HO.out (by have:=HMl.out 9 (by omega);omega);have hcv:=Qly (P:=Tryz.prog) hby 116 9 5 Tryz.underlying116 Tryz.underlying5 Tryz.underlying9;clear hby;go_wp2_with fail;go_ret;exact ⟨rfl,HGw1.out.trans HG.out⟩
theorem Za6 {c:As.Cfg} (h3:c.1.length=3) (h9:c.2.length=9):As.keyB c=Pr.kbs c.1 3++As.mkb c.2 9:=by rw [As.keyB,h3,h9]
open As in
set_option maxRecDepth 100000 in
set_option maxHeartbeats 1000000 in
theorem Qpe (room:Nat) (vS vM:Value) (c:Cfg) (W:World) (h3:c.1.length=3) (h9:c.2.length=9) (hlen:∀ j,(c.2.getD j []).length≤100) (hC:CfgAt W vS vM c) :
  Calls Tryz.prog 23 #[.agg #[vS,.int .i64 3,.int .i64 (room:Nat),vM]] W fun e w'=>e=.returned (.string (str (keyB c)))∧Flow.Grow W w':=by
 rw [Za6 h3 h9];obtain ⟨sa,sc,mb,mo,mc,rfl,rfl⟩:=hC.form h3 h9;have HC:=Lib.hid hC;have HMk:Hid (∀ wq,Flow.Grow W wq→Calls Tryz.prog 46 #[.agg #[.int .i64 3,.int .i64 (room:Nat),.slice (some ⟨mb,mo,none⟩) 9 mc]] wq fun e w'=>∃ v,e=.returned v∧Flow.Grow wq w'∧v=.string (str (mkb c.2 9))):=Lib.hid (fun wq g=>by
  obtain ⟨vs,hbx⟩:=HC.out.ml;refine (Qqk room _ vs c.2 wq h9 hlen (hbx.grow g)).mono ?_;rintro e w' ⟨rfl,hg⟩;exact ⟨_,rfl,hg,rfl⟩)
 have HMl:(mkb c.2 9).length≤3000:=by
  have:∀ j,j≤9→(mkb c.2 j).length≤300 * j:=fun j=>by
   induction j with
   | zero=>intro _;simp [mkb]
   | succ j ih =>
    intro h;have h1:=ih (by omega);have h2:=hlen j;rw [mkb,List.length_append,bkb,List.length_cons,Qf9];omega
  exact Nat.le_trans (this 9 (by omega)) (by decide)
 have Hc3:=Lib.hid h3;clear hC hlen h9 h3;generalize mkb c.2 9=mk at *;obtain ⟨i0,hi,hz0,hz1,hz2⟩:=info_parts Qie;have HI:=Lib.hid (And.intro hi (And.intro hz0 (And.intro hz1 hz2)));clear hi hz0 hz1 hz2;go_enter Tryz.func23,Tryz.ntmps23;go_upto_region 1 with fail;have HBw10:Hid ((W.alloc (.cells #[.slice sa 3 sc,.int .i64 3,.int .i64 (room:Nat),.slice (some ⟨mb,mo,none⟩) 9 mc] 53)).heap[W.heap.size]?=some (.cells #[.slice sa 3 sc,.int .i64 3,.int .i64 (room:Nat),.slice (some ⟨mb,mo,none⟩) 9 mc] 53 (0,0))):=Lib.hid (Qb3 _ _);have HGw1:Hid (Flow.Grow W (W.alloc (.cells #[.slice sa 3 sc,.int .i64 3,.int .i64 (room:Nat),.slice (some ⟨mb,mo,none⟩) 9 mc] 53))):=Lib.hid (Qb2 _ _);have HSw1:Hid ((W.alloc (.cells #[.slice sa 3 sc,.int .i64 3,.int .i64 (room:Nat),.slice (some ⟨mb,mo,none⟩) 9 mc] 53)).heap.size=W.heap.size+1):=Lib.hid (by simp);generalize W.alloc (.cells #[.slice sa 3 sc,.int .i64 3,.int .i64 (room:Nat),.slice (some ⟨mb,mo,none⟩) 9 mc] 53)=w1 at *;obtain ⟨X,hX⟩:∃ X,X=W.heap.size:=⟨_,rfl⟩;rw [← hX] at HBw10 HSw1 ⊢;have HXw1:=Lib.hid hX;clear hX;have CXw1:Hid (∀ wq,Flow.Grow w1 wq→wq.cell? ⟨X,0,none⟩=some (.slice sa 3 sc)∧wq.cell? ⟨X,1,none⟩=some (.int .i64 3)∧wq.cell? ⟨X,2,none⟩=some (.int .i64 (room:Nat))∧wq.cell? ⟨X,3,none⟩=some (.slice (some ⟨mb,mo,none⟩) 9 mc)):=Lib.hid (fun wq g=>⟨Qaa g HBw10.out rfl,Qaa g HBw10.out rfl,Qaa g HBw10.out rfl,Qaa g HBw10.out rfl⟩);have FXw1:Hid (∀ wq,Flow.Grow w1 wq→(∀ k,wq.frozen? ⟨X,k,none⟩=false)):=Lib.hid (fun wq g=>fun k=>Qaf g HBw10.out k);obtain ⟨c00,c01,c02,c03⟩:=CXw1.out w1 (Flow.grow_refl _);go_wp2_with fail;clear c00 c01 c02 c03;go_loopw [3,9] (fun va iv wr=>∃ j:Nat,j≤3∧iv=.int .i64 j∧Hid (wr.ownsRow w1.heap.size 5 1 va (2 * j) ((Pr.kbs c.1 j).map u8v))∧Hid (Flow.Grow w1 wr)) (fun _ iv _=>3 - (intOf iv).toNat)
 case atStart=>exact ⟨0,by omega,rfl,Lib.hid (World.ownsRow_nil _ _ _ _),Lib.hid (Flow.grow_refl _)⟩
 case round =>
  obtain ⟨j,hj,rfl,HO,HG⟩:=hrel
  rename World=>wo
  obtain ⟨va,hva⟩:∃ va,va=u3:=⟨_,rfl⟩;obtain ⟨oa,oc,hoa⟩:=Qah HO.out;subst hoa;clear hva;by_cases hj3:j < 3
  ·obtain ⟨lb,lo,rfl,q0⟩:=Qa8 (HC.out.st.grow (HGw1.out.trans HG.out)) (j:=j) (by rw [Hc3.out];exact hj3);have HK:Hid (Pr.kbs c.1 (j+1)=Pr.kbs c.1 j++Pr.kb (c.1.getD j 0)):=Lib.hid rfl;generalize c.1.getD j 0=s at *;have hj0:(0:Int)≤(j:Int):=by omega
   have hjd:(j:Int) < 3:=by omega
   go_wp2_with (at_builtin;refine Qcj (W:=w1) rfl _ _ 116 rfl 5 i0 (.int .u8 0) 1 Tryz.underlying116 HI.out.1 HI.out.2.1 HI.out.2.2.1 HI.out.2.2.2 rfl (.slice oa (2 * j) oc) (2 * j) ((Pr.kbs c.1 j).map u8v) rfl (Qab HO.out (Flow.grow_alloc _ _)) (HG.out.trans (Flow.grow_alloc _ _)) _ _ _ 5 rfl (heap_alloc_new _ _) ⟨rfl,rfl⟩ (by omega) (by decide) ?_;intro v' w' hO hG hf hk;have HO2:=Lib.hid hO;have HG2:=Lib.hid hG;obtain ⟨g',c',rfl,_⟩:=hf;clear hO hG hk);go_roundw
   case rel=>exact ⟨j+1,by omega,by go_num,Lib.hid (by rw [HK.out,List.map_append,← Pr.kb_cells];exact HO2.out),HG2⟩
   case measure=>simp [intOf];omega
  ·obtain rfl:j=3:=by omega
   have HCv:Hid (∀ w,Flow.Grow wo w→(convert 116 9 (.slice oa (2 * 3) oc)).run Tryz.prog w=.ok (.string (str (Pr.kbs c.1 3))) w):=Lib.hid (fun w g=>Qly (P:=Tryz.prog) (Bytes.of_own (Qab HO.out g) (by rw [Pr.kbs_len];omega)) 116 9 5 Tryz.underlying116 Tryz.underlying5 Tryz.underlying9);have hkl:(Pr.kbs c.1 3).length=6:=Pr.kbs_len _ _;generalize hkk:Pr.kbs c.1 3=kk at *;have Hkk:=Lib.hid hkk;clear hkk;go_upto_region 7 with fail
   refine Flow.regionG (C:=fun _ wq=>Flow.Grow wo wq) (Fs:=[.inl ((.slice oa (2 * 3) oc)),.inl ((.string (str kk))),.inl ((.pointer (some ⟨X,1,none⟩))),.inl ((.agg #[.int .i64 3,.int .i64 (room:Nat),.slice (some ⟨mb,mo,none⟩) 9 mc])),.inl ((.string (str mk))),.inl ((.string (str (kk++mk)))),.inl ((.string (str (kk++mk))))])
    [[],[0],[],[2],[3],[1,4],[5]] [[],[0],[],[2],[2,3],[0,1,2,3,4],[0,1,2,3,4,5]] [6] (by kernel_rfl) (by kernel_rfl) (by kernel_rfl) rfl (Flow.grow_drew _) ?ones7 ?ends7
   case ones7 =>
    refine Flow.OnesG.start (by exact trivial) (fun L w w' i=>(fun _ _ h g=>h.trans g) w w') fun HST HCG=>?_;refine Flow.oq rfl HST HCG ?_ ?_
    ·intro L a w hC hLi hoff _;exact Flow.gs rfl (Flow.exec_move (.inl rfl) (hoff.at2 3 0 hLi (by kernel_rfl)))
    refine Flow.oq rfl HST HCG ?_ ?_
    ·rintro L a w hC hLi hoff ⟨k0,-⟩;have e22:=Flow.kv k0 rfl rfl;refine Flow.gs rfl ?_;generalize a.eval=ρ at e22 ⊢;have hcv:=HCv.out w hC;simp only [Nat.reduceMul] at hcv e22;simp [execOp,e22,hcv,go_sem]
    refine Flow.oq rfl HST HCG ?_ ?_
    ·intro L a w hC hLi hoff _;have e1:a.eval (.tmp 1)=(.pointer (some ⟨X,0,none⟩)):=hoff.at2 1 2 hLi (by kernel_rfl);refine Flow.gs rfl ?_;generalize a.eval=ρ at e1 ⊢;simp [execOp,e1,go_sem]
    refine Flow.oq rfl HST HCG ?_ ?_
    ·rintro L a w hC hLi hoff ⟨k2,-⟩;have e24:=Flow.kv k2 rfl rfl;refine Flow.gs rfl ?_;generalize a.eval=ρ at e24 ⊢;obtain ⟨_,h1,h2,h3⟩:=CXw1.out w (HG.out.trans hC);simp [execOp,e24,h1,h2,h3,go_sem]
    refine Flow.oq rfl HST HCG ?_ ?_
    ·rintro L a w hC hLi hoff ⟨k3,-⟩;have e25:=Flow.kv k3 rfl rfl;exact .inl ⟨Flow.want_none rfl,Flow.run_call (Flow.exec_call rfl Tryz.func46 (by kernel_rfl) (by kernel_rfl) (by simp only [List.map_toArray,List.map_cons,List.map_nil,e25] <;> rfl)) (HMk.out w (HGw1.out.trans (HG.out.trans hC)))⟩
    refine Flow.oq rfl HST HCG ?_ ?_
    ·rintro L a w hC hLi hoff ⟨k1,k4,-⟩;have e23:=Flow.kv k1 rfl rfl;have e26:=Flow.kv k4 rfl rfl;refine Flow.gs rfl ?_;generalize a.eval=ρ at e23 e26 ⊢;have hs:¬ 9223372036854775807 < (str kk).size+(str mk).size:=by rw [Qlo,Qlo];omega
     simp [execOp,e23,e26,hs,Qs4,go_sem]
    refine Flow.oq rfl HST HCG ?_ ?_
    ·rintro L a w hC hLi hoff ⟨k5,-⟩;have e27:=Flow.kv k5 rfl rfl;exact Flow.gs rfl (Flow.exec_move (.inr rfl) e27)
    exact trivial
   case ends7 =>
    intro LL wx hLL hC
    iterate 7 refine Flow.endsG_v rfl ?_
    refine Flow.endsG_nil ?_;simp only [Act.put,List.setIfInBounds_toArray,List.set_cons_succ,List.set_cons_zero];have HGx:=Lib.hid (HG.out.trans hC);clear hC;go_wp2_with fail;go_ret;exact ⟨by rw [Hkk.out];rfl,HGw1.out.trans HGx.out⟩
end Go.Proofs.YtcpodmjcgfgmnaaGreat
