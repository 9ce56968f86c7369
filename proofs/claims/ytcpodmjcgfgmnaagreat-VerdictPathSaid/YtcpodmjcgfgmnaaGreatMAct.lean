/- One more element at the end of a slice of the call's own: in plain words. No program. -/
import Derived.Test.YtcpodmjcgfgmnaaGreatMDfa
import Derived.Test.YtcpodmjcgfgmnaaGreatMBase
import Derived.Test.YtcpodmjcgfgmnaaGreatLab
import Derived.Deep.AppendLies
import Derived.Deep.DeepCutAuto
import Derived.BigRegion
import Derived.Deep.RegionWith
namespace Go.Proofs.YtcpodmjcgfgmnaaGreat
open Go.RowKit
theorem Qab {w w':World} {base e sz n:Nat} {v:Value} {xs:List Value} (h:w.ownsRow base e sz v n xs) (g:Flow.Grow w w'):w'.ownsRow base e sz v n xs:=h.kept (row:=none) g (by cases v.ownBlock <;> simp)
theorem Qah {w:World} {e sz n:Nat} {v:Value} {xs:List Value} {B:Nat} (h:w.ownsRow B e sz v n xs):∃ a cap,v=.slice a n cap:=by
 rcases h.2 with ⟨rfl,rfl⟩ | ⟨g,cap,cur,hv,_⟩
 ·exact ⟨none,0,rfl⟩
 ·exact ⟨_,_,hv⟩
theorem Qbl (w:World) (p r:Obj):((w.alloc p).alloc r).heap[w.heap.size+1]?=some r:=by simpa using heap_alloc_new (w.alloc p) r
section
variable {P:Program} {W w:World} {ops:Array Oper} {rest:List Oper} {o:Oper} {a:Act} {Q:Exit→Act→World→Prop}
theorem Qbq (hgd:o.guard=none) (s x:Operand) (t:TypeId) (ho:o.op=.call { callee:=.builtin .append,args:=#[s,x],argTypes:=#[t,t] })
  (e:TypeId) (i:TypeInfo) (z:Value) (size bytes:Nat) (ht:P.underlying t=some (.slice e)) (hi:P.info? e=some i) (hz:i.zero=some z)
  (hsize:i.size=size) (hby:i.bytes=bytes) (hzs:z.cells.size=size) (hsz:0 < size)
  (v:Value) (n:Nat) (xs:List Value) (hs:a.eval s=v) (hown:w.ownsRow W.heap.size e size v n xs) (hg:Flow.Grow W w)
  (q:Nat) (cs:Array Value) (qt:TypeId) (hx:a.eval x=.slice (some ⟨q,0,none⟩) 1 1) (hq:w.heap[q]?=some (.cells cs qt (0,0))) (hcs:cs.size=size) (h1:∀ u∈cs.toList,u.oneCell'=true)
  (hn:n≤1000000) (hb:bytes≤1000000)
  (h:∀ v' w',w'.ownsRow W.heap.size e size v' (n+1) (xs++cs.toList)→Flow.Grow W w'→(∃ g c,v'=.slice (some ⟨g,0,none⟩) (n+1) c∧W.heap.size≤g)→w.grownBy w' v.ownBlock→wpList P ops Q rest (a.put o.dst v') w'):wpList P ops Q (o :: rest) a w:=by
 refine wpList_append_lies (P:=P) w hgd s x t ho W.heap.size e i z size bytes ht hi hz hsize hby hzs hsz v n xs hs hown ⟨q,0,none⟩ 1 1 cs.toList hx (by rw [Nat.one_mul,Array.length_toList];exact hcs)
  (fun j u hj=>?_) h1 (by decide) (by unfold maxLen;omega) ?_ hg.size _ rfl fun g cap w' h2 h3 h4 h5=>?_
 ·rw [Addr.add_lit,cell_of_row w q _ _ _ _ hq,Nat.zero_add];rw [← hj];exact Array.getElem?_toList.symm
 ·have:(n+1) * bytes≤1000001 * 1000000:=Nat.mul_le_mul (by omega) hb;omega
 ·have hlo:W.heap.size≤g:=by
   rcases h4 with h4 | h4
   ·exact (hown.lt g h4).1
   ·have:=hg.size;omega
  exact h _ _ h2 (Qap hg h3 fun b e=>(hown.lt b e).1) ⟨g,cap,rfl,hlo⟩ h3
end
end Go.Proofs.YtcpodmjcgfgmnaaGreat
namespace Go.Proofs.YtcpodmjcgfgmnaaGreat
open Go.RowKit
theorem Xm2.cell_grow {w w':World} {a:Addr} {v:Value} (g:Flow.Grow w w') (h:w.cell? a=some v):w'.cell? a=some v:=by
 have hlt:=World.block_lt_of_cell? w a h;unfold World.cell? at h ⊢;rw [g.block a.block hlt (by simp)];exact h
end Go.Proofs.YtcpodmjcgfgmnaaGreat
namespace Go.Proofs.YtcpodmjcgfgmnaaGreat
open Go.RowKit
namespace Pr
abbrev Lb:=Int × Int × Int
def Qqw (ls:List Lb):List Value:=ls.flatMap fun l=>[.int .i64 l.1,.int .i64 l.2.1,.int .i64 l.2.2]
def flat2 (l:List (Int × Int)):List Value:=l.flatMap fun a=>[.int .i64 a.1,.int .i64 a.2]
theorem flat2_app (a b:List (Int × Int)):flat2 (a++b)=flat2 a++flat2 b:=by simp [flat2]
theorem Qwr (ls:List Lb):∀ (j:Nat),j < ls.length→(Qqw ls)[j * 3]?=some (.int .i64 (ls.getD j (0,0,0)).1)∧(Qqw ls)[j * 3+1]?=some (.int .i64 (ls.getD j (0,0,0)).2.1)∧(Qqw ls)[j * 3+2]?=some (.int .i64 (ls.getD j (0,0,0)).2.2):=by
 induction ls with
 | nil=>intro j h;simp at h
 | cons l ls ih =>
  intro j h;have e:Qqw (l :: ls)=[.int .i64 l.1,.int .i64 l.2.1,.int .i64 l.2.2]++Qqw ls:=rfl;cases j with
  | zero=>exact ⟨rfl,rfl,rfl⟩
  | succ j =>
   have ⟨h1,h2,h3⟩:=ih j (by simpa using h);rw [e];refine ⟨?_,?_,?_⟩
   ·rw [List.getElem?_append_right (by simp;omega),show (j+1) * 3 - [Value.int .i64 l.1,.int .i64 l.2.1,.int .i64 l.2.2].length=j * 3 by simp;omega];simpa using h1
   ·rw [List.getElem?_append_right (by simp;omega),show (j+1) * 3+1 - [Value.int .i64 l.1,.int .i64 l.2.1,.int .i64 l.2.2].length=j * 3+1 by simp;omega];simpa using h2
   ·rw [List.getElem?_append_right (by simp;omega),show (j+1) * 3+2 - [Value.int .i64 l.1,.int .i64 l.2.1,.int .i64 l.2.2].length=j * 3+2 by simp;omega];simpa using h3
def LsAt (w:World) (v:Value) (ls:List Lb):Prop:=Seg 3 w v ls.length (Qqw ls)
theorem LsAt.grow {w w':World} {v:Value} {ls:List Lb} (h:LsAt w v ls) (g:Flow.Grow w w'):LsAt w' v ls:=Seg.grow h g
theorem LsAt.at {w:World} {a:Option Addr} {n cap:Nat} {ls:List Lb} (h:LsAt w (.slice a n cap) ls) {j:Nat} (hj:j < ls.length):∃ b off,a=some ⟨b,off,none⟩ ∧
  w.cell? ⟨b,off+j * 3,none⟩=some (.int .i64 (ls.getD j (0,0,0)).1)∧w.cell? ⟨b,off+j * 3+1,none⟩=some (.int .i64 (ls.getD j (0,0,0)).2.1)∧w.cell? ⟨b,off+j * 3+2,none⟩=some (.int .i64 (ls.getD j (0,0,0)).2.2):=by
 obtain ⟨a',cap',e,hl,_,hc⟩:=h;cases e;obtain ⟨q0,q1,q2⟩:=Qwr ls j hj;obtain ⟨b,off,rfl,_,c0⟩:=hc (j * 3) (by omega);obtain ⟨_,_,e1,_,c1⟩:=hc (j * 3+1) (by omega);cases e1;obtain ⟨_,_,e2,_,c2⟩:=hc (j * 3+2) (by omega);cases e2;exact ⟨b,off,rfl,c0.trans q0,c1.trans q1,c2.trans q2⟩
def act1 (part:Int) (x:Lb) (i:Nat):List (Int × Int):=if part=x.1 then [(1,(i:Int))] else if part=x.2.1 then [(2,(i:Int))] else []
def acts (part:Int) (ls:List Lb):Nat→List (Int × Int)
 | 0=>[]
 | i+1=>acts part ls i++act1 part (ls.getD i (0,0,0)) i
theorem Qzb (part:Int) (x:Lb) (i:Nat):(act1 part x i).length≤1:=by unfold act1;(repeat' split) <;> simp
theorem acts_len (part:Int) (ls:List Lb):∀ i,(acts part ls i).length≤i
 | 0=>Nat.le_refl _
 | i+1=>by
  have h1:=acts_len part ls i;have h2:=Qzb part (ls.getD i (0,0,0)) i;rw [acts,List.length_append];omega
end Pr
theorem Qyq:(Tryz.prog.info? 89).map (fun i=>(i.zero,i.size,i.bytes))=some (some (.agg #[.int .i64 0,.int .i64 0]),2,16):=by kernel_rfl
set_option maxRecDepth 100000 in
set_option maxHeartbeats 2000000 in
theorem Qnb (v:Value) (part:Int) (ls:List Pr.Lb) (W:World) (hn:ls.length≤1000000) (h:Pr.LsAt W v ls) :
  Calls Tryz.prog 37 #[v,.int .i64 part] W fun e w'=>(∃ va,e=.returned va∧w'.ownsRow W.heap.size 89 2 va (Pr.acts part ls ls.length).length (Pr.flat2 (Pr.acts part ls ls.length)))∧Flow.Grow W w':=by
 have H:=Lib.hid h;obtain ⟨ao,ac,rfl,_⟩:=id h;clear h;obtain ⟨n,hN⟩:∃ n,n=ls.length:=⟨_,rfl⟩;have HN:=Lib.hid hN;rw [← hN] at hn H ⊢;clear hN;obtain ⟨i0,hi,hz0,hz1,hz2⟩:=info_parts Qyq;have HI:=Lib.hid (And.intro hi (And.intro hz0 (And.intro hz1 hz2)));clear hi hz0 hz1 hz2;go_enter Tryz.func37,Tryz.ntmps37;go_wp2_with fail;go_loopw [5,10] (fun va i wr=>∃ j:Nat,j≤n∧i=.int .i64 j∧Hid (wr.ownsRow W.heap.size 89 2 va (Pr.acts part ls j).length (Pr.flat2 (Pr.acts part ls j)))∧Hid (Flow.Grow W wr)) (fun _ i _=>n - (intOf i).toNat)
 case atStart=>exact ⟨0,by omega,rfl,Lib.hid (World.ownsRow_nil _ _ _ _),Lib.hid (Flow.grow_refl _)⟩
 case round =>
  obtain ⟨j,hj,rfl,HO,HG⟩:=hrel
  rename World=>wr
  obtain ⟨va,hva⟩:∃ va,va=u5:=⟨_,rfl⟩;obtain ⟨oa,oc,hoa⟩:=Qah HO.out;subst hoa;clear hva;by_cases hjn:j < n
  ·obtain ⟨b,off,rfl,q0,q1,q2⟩:=H.out.at (j:=j) (by rw [← HN.out];exact hjn);have c0:=Xm2.cell_grow HG.out q0;have c1:=Xm2.cell_grow HG.out q1;have c2:=Xm2.cell_grow HG.out q2;have HA:Hid (Pr.acts part ls (j+1)=Pr.acts part ls j++Pr.act1 part (ls.getD j (0,0,0)) j):=Lib.hid rfl;clear q0 q1 q2;obtain ⟨x,hx⟩:∃ x,x=ls.getD j (0,0,0):=⟨_,rfl⟩;rw [← hx] at c0 c1 c2 HA;obtain ⟨x0,x1,x2⟩:=x;simp only at c0 c1 c2;clear hx;have hal:=Pr.acts_len part ls j;have Hal:=Lib.hid hal;clear hal;generalize Pr.acts part ls j=L at *;generalize hLl:L.length=m at *;have HLl:=Lib.hid hLl;clear hLl;by_cases h0:part=x0
   ·have d0:(part == x0)=true:=by simp [h0]
    have HE:Hid (Pr.acts part ls (j+1)=L++[(1,(j:Int))]):=Lib.hid (by rw [HA.out,Pr.act1,if_pos h0]);clear h0;go_wp2_with (at_builtin;refine Qbq (W:=W) rfl _ _ 64 rfl 89 i0 (.agg #[.int .i64 0,.int .i64 0]) 2 16 Tryz.underlying64 HI.out.1 HI.out.2.1 HI.out.2.2.1 HI.out.2.2.2 rfl (by decide) _ m (Pr.flat2 L) rfl (Qab HO.out ((Flow.grow_alloc _ _).trans (Flow.grow_alloc _ _))) (HG.out.trans ((Flow.grow_alloc _ _).trans (Flow.grow_alloc _ _))) _ #[.int .i64 1,.int .i64 j] 89 rfl (Qbl _ _ _) rfl (by intro u hu;simp at hu;rcases hu with rfl | rfl <;> rfl) (by have:=Hal.out;omega) (by decide) ?_;intro v' w' hO hG hf _;have HO2:=Lib.hid hO;have HG2:=Lib.hid hG;obtain ⟨g',c',rfl,_⟩:=hf;clear hO hG);go_roundw
    case rel=>exact ⟨j+1,by omega,by go_num,Lib.hid (by rw [HE.out,List.length_append,HLl.out,Pr.flat2_app];exact HO2.out),HG2⟩
    case measure=>simp [intOf];omega
   ·have d0:(part == x0)=false:=by simp [h0]
    by_cases h1:part=x1
    ·have d1:(part == x1)=true:=by simp [h1]
     have HE:Hid (Pr.acts part ls (j+1)=L++[(2,(j:Int))]):=Lib.hid (by rw [HA.out,Pr.act1,if_neg h0,if_pos h1]);clear h0 h1;go_wp2_with (at_builtin;refine Qbq (W:=W) rfl _ _ 64 rfl 89 i0 (.agg #[.int .i64 0,.int .i64 0]) 2 16 Tryz.underlying64 HI.out.1 HI.out.2.1 HI.out.2.2.1 HI.out.2.2.2 rfl (by decide) _ m (Pr.flat2 L) rfl (Qab HO.out ((Flow.grow_alloc _ _).trans (Flow.grow_alloc _ _))) (HG.out.trans ((Flow.grow_alloc _ _).trans (Flow.grow_alloc _ _))) _ #[.int .i64 2,.int .i64 j] 89 rfl (Qbl _ _ _) rfl (by intro u hu;simp at hu;rcases hu with rfl | rfl <;> rfl) (by have:=Hal.out;omega) (by decide) ?_;intro v' w' hO hG hf _;have HO2:=Lib.hid hO;have HG2:=Lib.hid hG;obtain ⟨g',c',rfl,_⟩:=hf;clear hO hG);go_roundw
     case rel=>exact ⟨j+1,by omega,by go_num,Lib.hid (by rw [HE.out,List.length_append,HLl.out,Pr.flat2_app];exact HO2.out),HG2⟩
     case measure=>simp [intOf];omega
    ·have d1:(part == x1)=false:=by simp [h1]
     have HE:Hid (Pr.acts part ls (j+1)=L):=Lib.hid (by rw [HA.out,Pr.act1,if_neg h0,if_neg h1,List.append_nil]);clear h0 h1;go_wp2_with fail;go_roundw
     case rel=>exact ⟨j+1,by omega,by go_num,Lib.hid (by rw [HE.out,HLl.out];exact Qab HO.out (Flow.grow_alloc _ _)),Lib.hid (HG.out.trans (Flow.grow_alloc _ _))⟩
     case measure=>simp [intOf];omega
  ·have ej:j=n:=by omega
   subst ej;go_wp2_with fail;go_ret;exact ⟨⟨_,rfl,HO.out⟩,HG.out⟩
end Go.Proofs.YtcpodmjcgfgmnaaGreat
namespace Go.Proofs.YtcpodmjcgfgmnaaGreat
open Go.RowKit
namespace Pr
structure NfaSt (w:World) (B:Nat) (vf vm:Value) (fin:List Bool) (rows:List (List (Int × Int))) (vs:List Value):Prop where
 finals:w.ownsRow B 4 1 vf fin.length (fin.map Value.bool)
 moves:w.ownsRow B 129 1 vm rows.length vs
 len:vs.length=rows.length
 row:∀ j,j < rows.length→w.ownsRow B 131 2 (vs.getD j undef) (rows.getD j []).length (flat2 (rows.getD j []))
 inj:∀ i j,i < rows.length→j < rows.length→i≠j→(vs.getD i undef).ownBlock=none∨(vs.getD i undef).ownBlock≠(vs.getD j undef).ownBlock
variable {w w0 w1:World} {B:Nat} {vf vm v':Value} {fin:List Bool} {rows:List (List (Int × Int))} {vs:List Value}
theorem NfaSt.grow (h:NfaSt w0 B vf vm fin rows vs) (g:Flow.Grow w0 w):NfaSt w B vf vm fin rows vs where
 finals:=Qab h.finals g
 moves:=Qab h.moves g
 len:=h.len
 row:=fun j hj=>Qab (h.row j hj) g
 inj:=h.inj
theorem own_mono {w:World} {B B' e sz n:Nat} {v:Value} {xs:List Value} (h:w.ownsRow B e sz v n xs) (hB:B'≤B):w.ownsRow B' e sz v n xs:=by
 refine ⟨h.1,?_⟩;rcases h.2 with h2 | ⟨g,cap,cur,h3,h4,h5⟩
 ·exact .inl h2
 ·exact .inr ⟨g,cap,cur,h3,by omega,h5⟩
theorem own_apart {w:World} {B B' e e' sz sz' n m:Nat} {v u:Value} {xs ys:List Value} (h:w.ownsRow B e sz v n xs) (k:w.ownsRow B' e' sz' u m ys) (hne:e≠e'):v.ownBlock=none∨v.ownBlock≠u.ownBlock:=by
 rcases h.2 with ⟨rfl,_⟩ | ⟨g,cap,cur,rfl,_,hg,_⟩
 ·exact .inl rfl
 ·right;rcases k.2 with ⟨rfl,_⟩ | ⟨g',cap',cur',rfl,_,hg',_⟩
  ·simp [Value.ownBlock]
  ·intro e;simp only [Value.ownBlock,Option.some.injEq] at e;rw [e,hg'] at hg;injection hg with hg;injection hg with _ hg _;exact hne hg.symm
theorem NfaSt.push {row:List (Int × Int)} {vr:Value} (h:NfaSt w0 B vf vm fin rows vs) (g:Flow.Grow w0 w) (hr:w.ownsRow w0.heap.size 131 2 vr row.length (flat2 row)) (hB:B≤w0.heap.size)
  (hown:w1.ownsRow B 129 1 v' (rows.length+1) (vs++[vr])) (k:w.grownBy w1 vm.ownBlock):NfaSt w1 B vf v' fin (rows++[row]) (vs++[vr]):=by
 have h':=h.grow g;have hv:∀ j,j < rows.length→(vs++[vr]).getD j undef=vs.getD j undef:=fun j hj=>by
  have:j < vs.length:=by rw [h.len];exact hj
  simp [List.getD_eq_getElem?_getD,List.getElem?_append_left this]
 have hv':(vs++[vr]).getD rows.length undef=vr:=by rw [← h.len];simp
 have hw:∀ j,j < rows.length→(rows++[row]).getD j []=rows.getD j []:=fun j hj=>by simp [List.getD_eq_getElem?_getD,List.getElem?_append_left hj]
 have hw':(rows++[row]).getD rows.length []=row:=by simp
 have hlt:∀ j,j < rows.length→∀ b,(vs.getD j undef).ownBlock=some b→b < w0.heap.size:=fun j hj b hb=>((h.row j hj).lt b hb).2;have hge:∀ b,vr.ownBlock=some b→w0.heap.size≤b:=fun b hb=>(hr.lt b hb).1;refine ⟨h'.finals.kept k (own_apart h'.finals h'.moves (by decide)),by simpa using hown,by simp [h.len],fun j hj=>?_,fun i j hi hj hne=>?_⟩
 ·rw [List.length_append,List.length_singleton] at hj;by_cases e:j < rows.length
  ·rw [hv j e,hw j e];exact (h'.row j e).kept k (own_apart (h'.row j e) h'.moves (by decide))
  ·obtain rfl:j=rows.length:=by omega
   rw [hv',hw'];have hr':=own_mono hr hB;exact hr'.kept k (own_apart hr' h'.moves (by decide))
 ·rw [List.length_append,List.length_singleton] at hi hj;have sep:∀ q,q < rows.length→(vs.getD q undef).ownBlock=none∨(vs.getD q undef).ownBlock≠vr.ownBlock:=fun q hq=>by
   cases hb:(vs.getD q undef).ownBlock with
   | none=>exact .inl rfl
   | some b =>
    right;intro e;have h1:=hlt q hq b hb;have h2:=hge b e.symm;omega
  by_cases e1:i < rows.length
  ·by_cases e2:j < rows.length
   ·rw [hv i e1,hv j e2];exact h.inj i j e1 e2 hne
   ·obtain rfl:j=rows.length:=by omega
    rw [hv i e1,hv'];exact sep i e1
  ·obtain rfl:i=rows.length:=by omega
   have e2:j < rows.length:=by omega
   rw [hv j e2,hv'];cases hb:vr.ownBlock with
   | none=>exact .inl rfl
   | some b =>
    right;intro e;have h1:=hlt j e2 b e.symm;have h2:=hge b hb;omega
def mvs (row:List Int):Nat→List (Int × Int)
 | 0=>[]
 | c+1=>mvs row c++(if 0≤row.getD c 0 then [((c:Int),row.getD c 0)] else [])
theorem mvs_len (row:List Int):∀ c,(mvs row c).length≤c
 | 0=>Nat.le_refl _
 | c+1=>by
  have:=mvs_len row c;rw [mvs,List.length_append];split <;> simp <;> omega
def rowM (row:List Int):List (Int × Int):=mvs row row.length
end Pr
end Go.Proofs.YtcpodmjcgfgmnaaGreat
