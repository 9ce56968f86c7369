/- galliardref18.Dfa by its contract. -/
import Derived.Test.YtcpodmjcgfgmnaaGreatMDfa
import Derived.Test.YtcpodmjcgfgmnaaGreatMBase
import Derived.Outline
import Derived.Deep.DeepCutAuto
import Derived.BigRegion
namespace Go.Proofs.YtcpodmjcgfgmnaaGreat
open Go.RowKit
namespace Ref18
def labels (s0:Int):Nat:=(s0 % 4+s0 / 4 % 2).toNat
def states (s1:Int):Nat:=(s1 % 8+1).toNat
def final (fin:Int) (i:Nat):Bool:=decide (fin / 2 ^ i % 2=1)
def finals (fin:Int) (k:Nat):List Bool:=(List.range k).map (final fin)
def low (z:Int) (k:Nat):Nat:=(z % 256).toNat % k
def step (k L:Nat) (rows:List (List Int)) (m0 m1 m2:Int):List (List Int):=rows.set (low m0 k) ((rows.getD (low m0 k) []).set (low m2 L) (low m1 k))
def nexts (k L:Nat) (zs:List Int):Nat→List (List Int)
 | 0=>List.replicate k (List.replicate L (-1))
 | i+1=>step k L (nexts k L zs i) (zs.getD (i * 3) 0) (zs.getD (i * 3+1) 0) (zs.getD (i * 3+2) 0)
def moves (L n:Nat):Nat:=if 0 < L then min n 24 else 0
def start (s1:Int) (k:Nat):Nat:=low (s1 / 8) k
theorem finals_succ (fin:Int) (k:Nat):finals fin (k+1)=finals fin k++[final fin k]:=by simp [finals,List.range_succ]
theorem nexts_len (k L:Nat) (zs:List Int):∀ i,(nexts k L zs i).length=k
 | 0=>by simp [nexts]
 | i+1=>by simp [nexts,step,nexts_len k L zs i]
theorem low_lt {z:Int} {k:Nat} (h:0 < k):low z k < k:=Nat.mod_lt _ h
end Ref18
theorem Qbo:(Tryz.prog.info? 3).map (fun i=>(i.zero,i.size,i.bytes))=some (some (.int .i64 0),1,8):=by kernel_rfl
theorem Qd2:(Tryz.prog.info? 4).map (fun i=>(i.zero,i.size,i.bytes))=some (some (.bool false),1,1):=by kernel_rfl
theorem Qe7:(Tryz.prog.info? 49).map (fun i=>(i.zero,i.size,i.bytes))=some (some (.slice none 0 0),1,24):=by kernel_rfl
theorem Qe2 (n:Nat) (h:n≤1000000) (w:World):(Instr.makeSlice 49 (.int .i64 (n:Int)) (.int .i64 (n:Int))).run Tryz.prog w=.ok (.slice (some ⟨w.heap.size,0,none⟩) n n) (w.alloc (.cells (Qaj (List.replicate n 0)) 3)):=by
 obtain ⟨i0,hi,hz0,hz1,hz2⟩:=info_parts Qbo;have hr:=run_make (P:=Tryz.prog) w 49 3 i0 _ Tryz.underlying49 hi hz0 .i64 .i64 (n:Int) n (by omega) (Int.le_refl _) (by rw [hz2];omega) (by omega);rw [hz1,Int.toNat_natCast,Qmt] at hr;exact hr
set_option maxRecDepth 100000 in
set_option maxHeartbeats 1000000 in
theorem Qtb (v:Value) (zs:List Int) (fin s0 s1:Int) (n:Nat) (W:World) (hn:n≤9223372036854775807) (h:Seg 3 W v n (zs.map (Value.int .i64))) :
  Calls Tryz.prog 15 #[v,.int .i64 fin,.agg #[.int .i64 s0,.int .i64 s1]] W fun e w'=>(∃ vf vn rs,e=.returned (.agg #[.int .i64 (Ref18.labels s0:Int),.int .i64 (Ref18.start s1 (Ref18.states s1):Int),vf,vn]) ∧
   DfaSt w' (W.heap.size+1) (Ref18.labels s0) (Ref18.start s1 (Ref18.states s1):Int) vf vn (Ref18.finals fin (Ref18.states s1)) (Ref18.nexts (Ref18.states s1) (Ref18.labels s0) zs (Ref18.moves (Ref18.labels s0) n)) rs)∧Flow.Grow W w':=by
 have H:=Lib.hid h;clear h;obtain ⟨L,hL⟩:∃ L,L=Ref18.labels s0:=⟨_,rfl⟩;obtain ⟨k,hk⟩:∃ k,k=Ref18.states s1:=⟨_,rfl⟩;obtain ⟨S,hS⟩:∃ S,S=Ref18.start s1 k:=⟨_,rfl⟩;rw [← hL,← hk,← hS];have hL':s0 % 4+s0 / 4 % 2=(L:Int):=by rw [hL,Ref18.labels];omega
 have hk':s1 % 8+1=(k:Int):=by rw [hk,Ref18.states];omega
 have hL5:L≤4:=by omega
 have hk8:k≤8∧0 < k:=by omega
 obtain ⟨hk8,hk0⟩:=hk8;have HS:Hid (S=Ref18.start s1 k):=Lib.hid hS;clear hL hk hS;have e3:=Bits.i64_mask s0 2 (by omega) 3 (by decide);have e1:=Bits.i64_mask (s0 / 4) 1 (by omega) 1 (by decide);have e7:=Bits.i64_mask s1 3 (by omega) 7 (by decide);obtain ⟨i0,hi,hz0,hz1,hz2⟩:=info_parts Qe7;obtain ⟨i1,hi1,hy0,hy1,hy2⟩:=info_parts Qd2;have Hmake:=Lib.hid (Qe2 L (by omega));go_enter Tryz.func15,Tryz.ntmps15;go_wp2_with (simp only [hL',hk']);clear e3 e1 e7 hL';have HSt:Hid (DfaSt ((W.alloc (.cells #[.int .i64 s0,.int .i64 s1] 23)).alloc (.cells #[.int .i64 L,.int .i64 0,.slice none 0 0,.slice none 0 0] 27)) (W.heap.size+1) L 0 (.slice none 0 0) (.slice none 0 0) [] [] []):=Lib.hid
  ⟨by simpa using heap_alloc_new (W.alloc (.cells #[.int .i64 s0,.int .i64 s1] 23)) _,World.ownsRow_nil _ _ _ _,World.ownsRow_nil _ _ _ _,rfl,by simp,by simp⟩
 have HG:Hid (Flow.Grow W ((W.alloc (.cells #[.int .i64 s0,.int .i64 s1] 23)).alloc (.cells #[.int .i64 L,.int .i64 0,.slice none 0 0,.slice none 0 0] 27))):=Lib.hid ((Flow.grow_alloc _ _).trans (Flow.grow_alloc _ _));have HS1:Hid (((W.alloc (.cells #[.int .i64 s0,.int .i64 s1] 23)).alloc (.cells #[.int .i64 L,.int .i64 0,.slice none 0 0,.slice none 0 0] 27)).heap[W.heap.size]?=some (.cells #[.int .i64 s0,.int .i64 s1] 23 (0,0))):=Lib.hid (by
  rw [Below.heap_alloc _ _ _ (by simp)];exact heap_alloc_new _ _)
 go_loopw [8] (fun i wr=>∃ (j:Nat) (vf vn:Value) (rs:List Nat),j≤k∧i=.int .i64 j∧Hid (DfaSt wr (W.heap.size+1) L 0 vf vn (Ref18.finals fin j) (List.replicate j (List.replicate L (-1))) rs)∧Hid (Flow.Grow W wr)∧Hid (wr.heap[W.heap.size]?=some (.cells #[.int .i64 s0,.int .i64 s1] 23 (0,0)))) (fun i _=>k - (intOf i).toNat)
 case atStart=>exact ⟨0,_,_,[],by omega,rfl,HSt,HG,HS1⟩
 case round =>
  clear HSt HG HS1;obtain ⟨j,vf,vn,rs,hj,rfl,HSt,HG,HS1⟩:=hrel
  rename World=>wo
  by_cases hjk:j < k
  ·have c0:=HSt.out.cell 0;have hmake:=Hmake.out wo;go_wp2_with fail;clear hmake c0;go_loopw [10] (fun q wr=>∃ c:Nat,c≤L∧q=.int .i64 c∧wr.heap[wo.heap.size]?=some (.cells (Qaj (List.replicate c (-1)++List.replicate (L - c) 0)) 3 (0,0))∧Hid (Flow.Grow wo wr)) (fun q _=>L - (intOf q).toNat)
   case atStart=>exact ⟨0,by omega,rfl,by simpa using heap_alloc_new wo _,Lib.hid (Flow.grow_alloc _ _)⟩
   case round =>
    obtain ⟨c,hc,rfl,hrow,Hgi⟩:=hrel;have c0:=(HSt.out.grow Hgi.out).cell 0;by_cases hcL:c < L
    ·have hcell:=(cell_of_row wr wo.heap.size c _ _ _ hrow).trans (Qa1 (by simp;omega));have hfr:wr.frozen? ⟨wo.heap.size,c,none⟩=false:=frozen_of_row wr _ _ _ _ hrow;have Hset:Hid (_=_):=Lib.hid (Qcc (q:=c) (z:=-1) hrow);have Heq:Hid ((List.replicate c (-1:Int)++List.replicate (L - c) 0).set c (-1)=List.replicate (c+1) (-1)++List.replicate (L - (c+1)) 0):=Lib.hid (by
      rw [List.set_append_right _ _ (by simp),List.length_replicate,Nat.sub_self,show L - c=(L - (c+1))+1 by omega,List.replicate_succ,List.set_cons_zero,List.replicate_succ',List.append_assoc];simp)
     clear hrow;go_wp2;go_roundw
     case rel=>exact ⟨c+1,by omega,by go_num,by rw [← Heq.out];exact Hset.out,Lib.hid (Qag Hgi.out (Nat.le_refl _) _ _)⟩
     case measure=>simp [intOf];omega
    ·have ec:c=L:=by omega
     subst ec;rw [Nat.sub_self,List.replicate_zero,List.append_nil] at hrow;have HSi:Hid (DfaSt wr _ _ _ _ _ _ _ _):=Lib.hid (HSt.out.grow Hgi.out);have c3:=HSi.out.cell 3;have Hrow:=Lib.hid hrow;clear hrow;obtain ⟨an,nn,cn,rfl⟩:∃ an nn cn,vn=.slice an nn cn:=by
      rcases HSi.out.nexts.2 with ⟨hv,_⟩ | ⟨g,cap,cur,hv,_⟩
      ·exact ⟨_,_,_,hv⟩
      ·exact ⟨_,_,_,hv⟩
     go_wp2_with (at_builtin;refine wpList_append_own _ rfl _ _ 25 rfl (W.heap.size+1+1) 49 i0 (.slice none 0 0) 1 24 Tryz.underlying25 hi hz0 hz1 hz2 rfl (by decide) _ _ _ rfl (HSi.out.nexts.alloc _) ⟨wr.heap.size,0,none⟩ 1 1 [.slice (some ⟨wo.heap.size,0,none⟩) c c] rfl rfl ?c1 ?c2 ?c3 ?c4 ?c5 ?_)
     case c1 =>
      intro q u hq
      match q,hq with
      | 0,hq=>simp at hq;subst hq;simp [Addr.add]
     case c2=>intro u hu;simp at hu;subst hu;rfl
     case c3=>unfold maxLen;simp;omega
     case c4=>simp;omega
     case c5=>have:=HSi.out.lt;simp;omega
     intro v' w1 hown1 hgr1 _;have hS1:=HSt.out.pushRow Hgi.out (Nat.le_refl _) Hrow.out (by simp) (by simpa using hown1) hgr1;have hb1:=HSi.out.after hgr1 HSi.out.nexts_lo;have hg1:Flow.Grow W (w1.setCell ⟨W.heap.size+1,3,none⟩ v'):=Qag (Qap ((HG.out.trans Hgi.out).trans (Flow.grow_alloc _ _)) hgr1 (fun b e=>by have:=HSi.out.nexts_lo b e;omega)) (by omega) _ _;have hs1:(w1.setCell ⟨W.heap.size+1,3,none⟩ v').heap[W.heap.size]?=some (.cells #[.int .i64 s0,.int .i64 s1] 23 (0,0)):=by
      rw [Below.heap_setCell _ _ _ _ (by show W.heap.size≠W.heap.size+1;omega)];have hlt:=(Array.getElem?_eq_some_iff.1 HS1.out).1;rw [hgr1.block _ (by have:=Hgi.out.size;simp;omega) (fun e=>by have:=HSi.out.nexts_lo _ e.symm;omega),Below.heap_alloc _ _ _ (by have:=Hgi.out.size;omega),Hgi.out.block _ hlt (by simp)];exact HS1.out
     have hcG:w1.cell? ⟨W.heap.size+1,3,none⟩=some (.slice an nn cn):=(cell_of_row w1 _ 3 _ _ _ hb1).trans rfl;have hfG:w1.frozen? ⟨W.heap.size+1,3,none⟩=false:=frozen_of_row w1 _ _ _ _ hb1;obtain ⟨a',cp',rfl⟩:=Qaw hown1;have HS2:=Lib.hid hS1;have HG2:=Lib.hid hg1;have HB2:=Lib.hid hs1;clear hS1 hg1 hs1 hown1 hgr1 hb1 HSt HG HS1 Hgi HSi Hrow c0 c3;go_upto_region 12 with fail;generalize w1.setCell ⟨W.heap.size+1,3,none⟩ (.slice a' (j+1) cp')=w2 at HS2 HG2 HB2 ⊢;clear hcG hfG;have c2:=HS2.out.cell 2;obtain ⟨af,cf,rfl⟩:=Qaw HS2.out.finals;have hand:∀ X:Int,bits .and .i64 X 1=X % 2:=fun X=>by
      have:=Bits.i64_mask X 1 (by omega) 1 (by decide);rwa [show (2:Int) ^ 1=2 by decide] at this
     obtain ⟨x,hx⟩:∃ x,x=Ref18.final fin j:=⟨_,rfl⟩;have hxx:(fin / 2 ^ j % 2 == 1)=x:=by rw [hx];rfl
     have Hx:=Lib.hid hx;clear hx;have hfl:(Ref18.finals fin j).length=j:=by simp [Ref18.finals]
     have hown0:=HS2.out.finals;rw [hfl] at hown0;rw [hfl] at c2;have hfl':=Lib.hid hfl;clear hfl;have Hown0:=Lib.hid hown0;clear hown0;go_wp2_with (at_builtin;refine wpList_append_own _ rfl _ _ 24 rfl (W.heap.size+1+1) 4 i1 (.bool false) 1 1 Tryz.underlying24 hi1 hy0 hy1 hy2 rfl (by decide) _ _ _ rfl (Hown0.out.alloc _) ⟨w2.heap.size,0,none⟩ 1 1 [.bool x] rfl rfl ?d1 ?d2 ?d3 ?d4 ?d5 ?_)
     case d1 =>
      intro q u hq
      match q,hq with
      | 0,hq=>simp at hq;subst hq;simp [Addr.add]
     case d2=>intro u hu;simp at hu;subst hu;rfl
     case d3=>unfold maxLen;omega
     case d4=>omega
     case d5=>have:=HS2.out.lt;simp;omega
     intro v'' w3 hown2 hgr2 _;rw [← hfl'.out] at hgr2;have hS3:=HS2.out.pushFin (v':=v'') (x:=x) (by rw [hfl'.out];exact hown2) hgr2;have hb3:=HS2.out.after hgr2 HS2.out.finals_lo;have hg3:Flow.Grow W (w3.setCell ⟨W.heap.size+1,2,none⟩ v''):=Qag (Qap (HG2.out.trans (Flow.grow_alloc _ _)) hgr2 (fun b e=>by have:=HS2.out.finals_lo b e;omega)) (by omega) _ _;have hs3:(w3.setCell ⟨W.heap.size+1,2,none⟩ v'').heap[W.heap.size]?=some (.cells #[.int .i64 s0,.int .i64 s1] 23 (0,0)):=by
      rw [Below.heap_setCell _ _ _ _ (by show W.heap.size≠W.heap.size+1;omega)];have hlt:=(Array.getElem?_eq_some_iff.1 HB2.out).1;rw [hgr2.block _ (by simp;omega) (fun e=>by have:=HS2.out.finals_lo _ e.symm;omega),Below.heap_alloc _ _ _ (by omega)];exact HB2.out
     have hcG:w3.cell? ⟨W.heap.size+1,2,none⟩=some (.slice af j cf):=by rw [cell_of_row w3 _ 2 _ _ _ hb3];show some (Value.slice af (Ref18.finals fin j).length cf)=_;rw [hfl'.out]
     have hfG:w3.frozen? ⟨W.heap.size+1,2,none⟩=false:=frozen_of_row w3 _ _ _ _ hb3;obtain ⟨a'',cp'',rfl⟩:=Qaw hown2;have HS4:=Lib.hid hS3;have HG4:=Lib.hid hg3;have HB4:=Lib.hid hs3;clear hS3 hg3 hs3 hown2 hgr2 hb3 HS2 HG2 HB2 c2 Hown0;go_wp2;go_roundw
     case rel =>
      have HS5:=HS4.out;rw [← List.replicate_succ',Hx.out,← Ref18.finals_succ] at HS5;exact ⟨j+1,_,_,_,by omega,by go_num,Lib.hid HS5,HG4,HB4⟩
     case measure=>simp [intOf];omega
  ·have ej:j=k:=by omega
   subst ej;clear Hmake hi hz0 hz1 hz2 hi1 hy0 hy1 hy2 hjk hj;obtain ⟨av,cv,rfl⟩:∃ av cv,v=.slice av n cv:=by
    obtain ⟨av,cv,e,_⟩:=H.out;exact ⟨av,cv,e⟩
   obtain ⟨M,hM⟩:∃ M,M=Ref18.moves L n:=⟨_,rfl⟩;have HM:=Lib.hid hM;have hM1:M≤24∧M≤n∧(0 < M→0 < L)∧(M < n→M < 24→L=0)∧(L=0→M=0):=by
    rw [hM,Ref18.moves];split <;> omega
   clear hM;obtain ⟨hM1,hM2,hM3,hM4,hM5⟩:=hM1;go_wp2_with fail;go_loopw [11] (fun i wr=>∃ (t:Nat) (vf vn:Value) (rs:List Nat),t≤M∧i=.int .i64 t∧Hid (DfaSt wr (W.heap.size+1) L 0 vf vn (Ref18.finals fin j) (Ref18.nexts j L zs t) rs)∧Hid (Flow.Grow W wr)∧Hid (wr.heap[W.heap.size]?=some (.cells #[.int .i64 s0,.int .i64 s1] 23 (0,0)))) (fun i _=>M - (intOf i).toNat)
   case atStart=>exact ⟨0,_,_,_,by omega,rfl,HSt,HG,HS1⟩
   case round =>
    clear HSt HG HS1;obtain ⟨t,vf,vn,rs,ht,rfl,HSt,HG,HS1⟩:=hrel;have c0:=HSt.out.cell 0;by_cases htM:t < M
    ·have ht1:t < n:=by omega
     have ht2:t < 24:=by omega
     have hL0:0 < L:=hM3 (by omega);have hseg:∀ q,q < 3→∃ b off,av=some ⟨b,off,none⟩∧b < W.heap.size∧W.cell? ⟨b,off+(t * 3+q),none⟩=some (.int .i64 (zs.getD (t * 3+q) 0)):=fun q hq=>by
      obtain ⟨a',c',e,hl,_,hc⟩:=H.out;cases e;have hzl:zs.length=n * 3:=by simpa using hl
      obtain ⟨b,off,h1,h2,h3⟩:=hc (t * 3+q) (by simp;omega);exact ⟨b,off,h1,h2,by rw [h3];simp [show t * 3+q < zs.length by omega]⟩
     obtain ⟨b,off,rfl,hbW,hz0⟩:=hseg 0 (by omega);obtain ⟨_,_,e1,_,hz1⟩:=hseg 1 (by omega);cases e1;obtain ⟨_,_,e2,_,hz2⟩:=hseg 2 (by omega);cases e2;have hgb:=HG.out.block b hbW (by simp);have y0:wr.cell? ⟨b,off+t * 3,none⟩=some (.int .i64 (zs.getD (t * 3) 0)):=(World.cell?_of_block hgb).trans hz0;have y1:wr.cell? ⟨b,off+t * 3+1,none⟩=some (.int .i64 (zs.getD (t * 3+1) 0)):=(World.cell?_of_block hgb).trans (by rw [Nat.add_assoc];exact hz1);have y2:wr.cell? ⟨b,off+t * 3+2,none⟩=some (.int .i64 (zs.getD (t * 3+2) 0)):=(World.cell?_of_block hgb).trans (by rw [Nat.add_assoc];exact hz2);have HN:Hid (Ref18.nexts j L zs (t+1)=Ref18.step j L (Ref18.nexts j L zs t) (zs.getD (t * 3) 0) (zs.getD (t * 3+1) 0) (zs.getD (t * 3+2) 0)):=Lib.hid rfl;clear hz0 hz1 hz2 hgb hbW hseg;generalize zs.getD (t * 3) 0=m0 at *;generalize zs.getD (t * 3+1) 0=m1 at *;generalize zs.getD (t * 3+2) 0=m2 at *;have k0:=Bits.i64_mask m0 8 (by omega) 255 (by decide);have k1:=Bits.i64_mask m1 8 (by omega) 255 (by decide);have k2:=Bits.i64_mask m2 8 (by omega) 255 (by decide);rw [show (2:Int) ^ 8=256 by decide] at k0 k1 k2;have l0:Int.tmod (m0 % 256) (j:Int)=((Ref18.low m0 j:Nat):Int):=by
      rw [Int.tmod_eq_emod_of_nonneg (by omega),Ref18.low,Int.natCast_emod,Int.toNat_of_nonneg (by omega)]
     have l1:Int.tmod (m1 % 256) (j:Int)=((Ref18.low m1 j:Nat):Int):=by
      rw [Int.tmod_eq_emod_of_nonneg (by omega),Ref18.low,Int.natCast_emod,Int.toNat_of_nonneg (by omega)]
     have l2:Int.tmod (m2 % 256) (L:Int)=((Ref18.low m2 L:Nat):Int):=by
      rw [Int.tmod_eq_emod_of_nonneg (by omega),Ref18.low,Int.natCast_emod,Int.toNat_of_nonneg (by omega)]
     have hA:Ref18.low m0 j < j:=Ref18.low_lt hk0;have hB:Ref18.low m2 L < L:=Ref18.low_lt hL0;have HN2:Hid (_=_):=Lib.hid (HN.out.trans (Ref18.step.eq_1 _ _ _ _ _ _));have hV:Ref18.low m1 j < j:=Ref18.low_lt hk0;generalize m0 % 256=u0 at *;generalize m1 % 256=u1 at *;generalize m2 % 256=u2 at *;generalize Ref18.low m0 j=A at *;generalize Ref18.low m1 j=C at *;generalize Ref18.low m2 L=B at *;have hlen:=Ref18.nexts_len j L zs t;have hput:=HSt.out.put (a:=A) (b:=B) (z:=(C:Int)) (by omega);have hrow:=HSt.out.row A (by omega);obtain ⟨gn,cn,hvn⟩:∃ gn cn,vn=.slice (some ⟨gn,0,none⟩) (Ref18.nexts j L zs t).length cn:=by
      rcases HSt.out.nexts.2 with ⟨_,h0⟩ | ⟨g,cap,cur,hv,_⟩
      ·omega
      ·exact ⟨g,cap,hv⟩
     rw [hlen] at hvn;subst hvn;have hnx:=HSt.out.nexts;rw [hlen] at hnx;have hgr:Flow.Grow W (wr.setCell ⟨rs.getD A 0,B,none⟩ (.int .i64 (C:Int))):=Qag HG.out (by have:=hrow.1;omega) _ _;have hss:(wr.setCell ⟨rs.getD A 0,B,none⟩ (.int .i64 (C:Int))).heap[W.heap.size]?=some (.cells #[.int .i64 s0,.int .i64 s1] 23 (0,0)):=by
      rw [Below.heap_setCell _ _ _ _ (by show W.heap.size≠rs.getD A 0;have:=hrow.1;omega)];exact HS1.out
     have x0:wr.cell? ⟨gn,A,none⟩=some (.slice (some ⟨rs.getD A 0,0,none⟩) L L):=by
      rw [hnx.cellAt A (by omega)];simp [show A < rs.length by have:=HSt.out.len;omega]
     have x3:wr.cell? ⟨W.heap.size+1,3,none⟩=some (.slice (some ⟨gn,0,none⟩) j cn):=HSt.out.cell 3;replace c0:wr.cell? ⟨W.heap.size+1,0,none⟩=some (.int .i64 L):=c0;have xB:=(cell_of_row wr _ B _ _ _ hrow.2.1).trans (Qa1 (by rw [hrow.2.2];exact hB));have xf:wr.frozen? ⟨rs.getD A 0,B,none⟩=false:=frozen_of_row wr _ _ _ _ hrow.2.1;have Hput:=Lib.hid hput;have Hgr:=Lib.hid hgr;have Hss:=Lib.hid hss;clear hput hgr hss hrow hlen hnx;generalize rs.getD A 0=r at *;have d1:decide ((t:Int) < (n:Int))=true:=by simp;omega
     have d2:decide ((t:Int) < 24)=true:=by simp;omega
     have d3:decide ((L:Int) > 0)=true:=by simp;omega
     go_upto_region 16 with fail;go_region;go_wp2;go_roundw
     case rel =>
      have h5:=Hput.out;rw [← HN2.out] at h5;exact ⟨t+1,_,_,_,by omega,by go_num,Lib.hid (h5.grow (Flow.grow_drew _)),Lib.hid (Hgr.out.trans (Flow.grow_drew _)),Hss⟩
     case measure=>simp [intOf];omega
    ·have et:t=M:=by omega
     subst et;obtain ⟨af,cf,rfl⟩:=Qaw HSt.out.finals;obtain ⟨an,cn,rfl⟩:=Qaw HSt.out.nexts;have hfl:(Ref18.finals fin j).length=j:=by simp [Ref18.finals]
     have hnl:=Ref18.nexts_len j L zs t;rw [hfl,hnl] at HSt;have Hl:=Lib.hid (And.intro hfl hnl);clear hfl hnl;have hg2:wr.cell? ⟨W.heap.size,1,none⟩=some (.int .i64 s1):=(cell_of_row wr _ 1 _ _ _ HS1.out).trans rfl;replace c0:wr.cell? ⟨W.heap.size+1,0,none⟩=some (.int .i64 L):=c0;have c1:wr.cell? ⟨W.heap.size+1,1,none⟩=some (.int .i64 0):=HSt.out.cell 1;have c2:wr.cell? ⟨W.heap.size+1,2,none⟩=some (.slice af j cf):=HSt.out.cell 2;have c3:wr.cell? ⟨W.heap.size+1,3,none⟩=some (.slice an j cn):=HSt.out.cell 3;have hfz:∀ q,wr.frozen? ⟨W.heap.size+1,q,none⟩=false:=fun q=>frozen_of_row wr _ _ _ _ HSt.out.block;have f0:=hfz 0;have f1:=hfz 1;have f2:=hfz 2;have f3:=hfz 3;have m8:=Bits.i64_mask (s1 / 8) 8 (by omega) 255 (by decide);rw [show (2:Int) ^ 8=256 by decide] at m8;have l8:Int.tmod (s1 / 8 % 256) (j:Int)=(S:Int):=by
      rw [HS.out,Ref18.start,Int.tmod_eq_emod_of_nonneg (by omega),Ref18.low,Int.natCast_emod,Int.toNat_of_nonneg (by omega)]
     have Hbeg:Hid (_∧_):=Lib.hid (And.intro (((((HSt.out.begins (S:Int)).same 0 _ rfl).same 1 _ rfl).same 2 _ rfl).same 3 _ rfl)
      (Qag (Qag (Qag (Qag (Qag HG.out (g:=W.heap.size+1) (by omega) 1 (.int .i64 (S:Int))) (g:=W.heap.size+1) (by omega) 0 (.int .i64 (L:Int))) (g:=W.heap.size+1) (by omega) 1 (.int .i64 (S:Int))) (g:=W.heap.size+1) (by omega) 2 (.slice af j cf)) (g:=W.heap.size+1) (by omega) 3 (.slice an j cn)))
     have hres:∀ (tm:Array Value),tm.getD 6 undef=.pointer (some ⟨W.heap.size+1,0,none⟩)→(results Tryz.f15 tm).run Tryz.prog _=_:=fun tm htm=>results_cell_row (by kernel_rfl) tm _ (W.heap.size+1) _ _ _ _ htm Hbeg.out.1.block Tryz.underlying27 rfl (by kernel_rfl);have hend:=Hbeg;have Hres:=Lib.hid hres;clear hfz hM1 hM2 hM3 hM5 ht htM hres;have hn':=Lib.hid hn;clear hn;by_cases e1:t < n
     ·by_cases e2:t < 24
      ·have d1:decide ((t:Int) < (n:Int))=true:=by simp;omega
       have d2:decide ((t:Int) < 24)=true:=by simp;omega
       obtain rfl:L=0:=hM4 e1 e2;have d3:decide (((0:Nat):Int) > 0)=false:=rfl;clear hM4;go_wp2_with fail;refine bodyPost_ret (Hres.out _ rfl) rfl ?_;rw [← HM.out];exact ⟨⟨_,_,_,rfl,hend.out.1⟩,hend.out.2⟩
      ·have d1:decide ((t:Int) < (n:Int))=true:=by simp;omega
       have d2:decide ((t:Int) < 24)=false:=by simp;omega
       clear hM4;go_wp2_with fail;refine bodyPost_ret (Hres.out _ rfl) rfl ?_;rw [← HM.out];exact ⟨⟨_,_,_,rfl,hend.out.1⟩,hend.out.2⟩
     ·have d1:decide ((t:Int) < (n:Int))=false:=by simp;omega
      clear hM4;go_wp2_with fail;refine bodyPost_ret (Hres.out _ rfl) rfl ?_;rw [← HM.out];exact ⟨⟨_,_,_,rfl,hend.out.1⟩,hend.out.2⟩
end Go.Proofs.YtcpodmjcgfgmnaaGreat
