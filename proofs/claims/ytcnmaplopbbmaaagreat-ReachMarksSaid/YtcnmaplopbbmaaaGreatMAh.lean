/- graph.Busy, Done, Places, Start, node by their contracts. -/
import Derived.Test.YtcnmaplopbbmaaaGreatMAe
import Derived.Test.YtcnmaplopbbmaaaGreatFlow
import Derived.Test.YtcnmaplopbbmaaaGreatShelf
import Derived.Test.YtcnmaplopbbmaaaGreatOwn
import Derived.Test.YtcnmaplopbbmaaaGreatMAf
import Derived.Outline
namespace Go.Proofs.YtcnmaplopbbmaaaGreat
open Go.RowKit
theorem Ints.of_own {w:World} {B:Nat} {v:Value} {zs:List Int} {e:TypeId} (h:w.ownsRow B e 1 v zs.length (zs.map (Value.int .i64))):Ints w v zs:=Seg.of_own h
theorem index_int_any (v:Value) (zs:List Int) (x:Int) (w:World) (hz:zs.length≤1000000) (h:Ints w v zs):Calls Tryz.prog 111 #[v,.int .i64 x] w fun e w'=>e=.returned (.int .i64 (Lib.idxOf zs x))∧w=w':=by
 by_cases hl:zs=[]
 ·subst hl
  obtain ⟨a,c,rfl,_⟩:=h
  exact (Tryz.slices_Index_int_empty a c x w).mono fun e w' ⟨a,b⟩=>⟨a,b.symm⟩
 ·obtain ⟨b,off,c,rfl,_,hc⟩:=h.shape hl
  exact (Tryz.slices_Index_int b off zs.length c zs x w (Nat.le_refl _) (by omega) hc).mono fun e w' ⟨a,b⟩=>⟨by rw [a,List.take_length],b.symm⟩
set_option maxRecDepth 100000 in
set_option maxHeartbeats 1000000 in
theorem busy_any (v0 v1 v2 v3:Value) (n:Int) (g:Gr.G) (W:World) (hf:g.Few) (h:Gr.GAt W v0 v1 v2 v3 g) :
  Calls Tryz.prog 98 #[.agg #[v0,v1,v2,v3],.int .i64 n] W fun e w'=>e=.returned (.int .i64 (g.busy n))∧Flow.Grow W w':=by
 obtain ⟨ae,ce,rfl⟩:=Gr.Recs.form h.edges
 have HT:Hid (∀ w,Flow.Grow W w→Calls Tryz.prog 25 #[.agg #[v0,v1,v2,.slice ae g.es.length ce]] w fun e w'=>(∃ va,e=.returned va∧Ints w' va g.tasks)∧Flow.Grow w w'):=Lib.hid fun w hg=>(graphTasks_any v0 v1 v2 _ g.ns w hf.ns (Gr.Recs.grow h.nodes hg)).mono fun e w' ⟨⟨va,a,b⟩,c⟩=>⟨⟨va,a,Ints.of_own b⟩,c⟩
 have hl:g.tasks.length≤1000000:=Nat.le_trans (Gr.tasks_len g.ns _) hf.ns
 have hi:=Gr.idxOf_lt g.tasks n
 have hes:=hf.es
 have HB:Hid (g.busy n=if Lib.idxOf g.tasks n < 0 then -1 else (g.es.length:Int)+2 * Lib.idxOf g.tasks n):=Lib.hid rfl
 have Hl:=Lib.hid hl
 generalize g.busy n=r at *
 generalize g.tasks=L at *
 generalize hj:Lib.idxOf L n=j at *
 generalize hm:g.es.length=m at *
 have Hj:=Lib.hid hj
 have hj1:j < 1000000:=by omega
 have hj0:=hi.1
 clear hi hj hl h hf
 go_enter Tryz.func98,Tryz.ntmps98
 go_upto_region 2 with (first
  | (go_at_call 25;refine (HT.out _ (Flow.grow_alloc _ _)).mono ?_;rintro e w1 ⟨⟨va,rfl,hv⟩,hg⟩;have c3:=Xm2.cell_grow hg ((cell_of_row _ _ 3 _ _ _ (heap_alloc_new W _)).trans rfl);have HG:=Lib.hid ((Flow.grow_alloc W _).trans hg);have HV:=Lib.hid hv;clear hg hv)
  | (go_at_call 111;refine (index_int_any va L n w1 Hl.out HV.out).mono ?_;rintro e w2 ⟨rfl,rfl⟩;rw [Hj.out]))
 by_cases h0:j < 0
 ·have d0:decide (j < 0)=true:=by simp [h0]
  have HB2:Hid (r=-1):=Lib.hid (by rw [HB.out,if_pos h0])
  go_wp2_with fail
  go_ret
  exact ⟨by rw [HB2.out];rfl,HG.out⟩
 ·have d0:decide (j < 0)=false:=by simp [h0]
  have HB2:Hid (r=(m:Int)+2 * j):=Lib.hid (by rw [HB.out,if_neg h0])
  go_wp2_with fail
  go_ret
  exact ⟨by rw [HB2.out];go_num,HG.out⟩
theorem Gr.G.busy_lt (g:Gr.G) (n:Int) (hf:g.Few):-1≤g.busy n∧g.busy n < 4000000:=by
 have hl:g.tasks.length≤1000000:=Nat.le_trans (Gr.tasks_len g.ns _) hf.ns
 have hi:=Gr.idxOf_lt g.tasks n
 have hes:=hf.es
 unfold Gr.G.busy
 split <;> omega
set_option maxRecDepth 100000 in
set_option maxHeartbeats 1000000 in
theorem done_any (v0 v1 v2 v3:Value) (n:Int) (g:Gr.G) (W:World) (hf:g.Few) (h:Gr.GAt W v0 v1 v2 v3 g) :
  Calls Tryz.prog 101 #[.agg #[v0,v1,v2,v3],.int .i64 n] W fun e w'=>e=.returned (.int .i64 (g.done n))∧Flow.Grow W w':=by
 have HT:Hid (∀ w,Flow.Grow W w→Calls Tryz.prog 98 #[.agg #[v0,v1,v2,v3],.int .i64 n] w fun e w'=>e=.returned (.int .i64 (g.busy n))∧Flow.Grow W w'):=Lib.hid fun w hg=>(busy_any v0 v1 v2 v3 n g w hf (h.grow hg)).mono fun e w' ⟨a,c⟩=>⟨a,hg.trans c⟩
 have hb:=g.busy_lt n hf
 have HB:Hid (g.done n=if g.busy n < 0 then -1 else g.busy n+1):=Lib.hid rfl
 generalize g.done n=r at *
 generalize g.busy n=j at *
 obtain ⟨⟨a0,c0,rfl⟩,⟨a1,c1,rfl⟩,h2,h3⟩:=h
 obtain ⟨a2,c2,rfl⟩:=Gr.Recs.form h2
 obtain ⟨a3,c3,rfl⟩:=Gr.Recs.form h3
 clear h2 h3 hf
 go_enter Tryz.func101,Tryz.ntmps101
 go_upto_region 2 with (go_at_call 98;refine (HT.out _ (Flow.grow_alloc _ _)).mono ?_;rintro e w1 ⟨rfl,hg⟩;have HG:=Lib.hid hg;clear hg)
 by_cases h0:j < 0
 ·have d0:decide (j < 0)=true:=by simp [h0]
  have HB2:Hid (r=-1):=Lib.hid (by rw [HB.out,if_pos h0])
  go_wp2_with fail
  go_ret
  exact ⟨by rw [HB2.out];rfl,HG.out⟩
 ·have d0:decide (j < 0)=false:=by simp [h0]
  have HB2:Hid (r=j+1):=Lib.hid (by rw [HB.out,if_neg h0])
  go_wp2_with fail
  go_ret
  exact ⟨by rw [HB2.out];go_num,HG.out⟩
def Gr.start1 (ns:List Gr.Nd):Nat→Nat→Int
 | _,0=>-1
 | i,k+1=>if (ns.getD i Gr.nd0).kind=1 then (i:Int) else Gr.start1 ns (i+1) k
def Gr.G.start (g:Gr.G):Int:=Gr.start1 g.ns 0 g.ns.length
set_option maxRecDepth 100000 in
set_option maxHeartbeats 400000 in
theorem start1_any (n:Gr.Nd) (w:World):Calls Tryz.prog 73 #[.agg n.cells.toArray] w fun e w'=>e=.returned (.bool (n.kind == 1))∧Flow.Grow w w':=by
 obtain ⟨x0,x1,x2,x3,x4,x5,x6⟩:=n
 show Calls _ _ #[.agg #[.int .i64 x0,.string x1,.int .i64 x2,.int .i64 x3,.int .i64 x4,.int .i64 x5,.bool x6]] w fun e w'=>e=.returned (.bool (x0 == 1))∧Flow.Grow w w'
 go_enter Tryz.func73,Tryz.ntmps73
 go_wp2
 go_ret
 exact ⟨rfl,Flow.grow_alloc _ _⟩
set_option maxRecDepth 100000 in
set_option maxHeartbeats 1000000 in
theorem index_start (v:Value) (ns:List Gr.Nd) (W:World) (hn:ns.length≤1000000) (h:Gr.NdsAt W v ns) :
  Calls Tryz.prog 72 #[v,.func (.func 73) #[] #[]] W fun e w'=>e=.returned (.int .i64 (Gr.start1 ns 0 ns.length))∧Flow.Grow W w':=by
 have H:=Lib.hid h
 obtain ⟨ao,ac,rfl⟩:=h.form
 clear h
 obtain ⟨k,hK⟩:∃ k,k=ns.length:=⟨_,rfl⟩
 have HK:=Lib.hid hK
 rw [← hK] at hn H ⊢
 clear hK
 obtain ⟨r,hr⟩:∃ r,r=Gr.start1 ns 0 k:=⟨_,rfl⟩
 rw [← hr]
 have Hr:=Lib.hid hr
 clear hr
 go_enter Tryz.func72,Tryz.ntmps72
 go_wp2_with fail
 go_loopw [8] (fun i wr=>∃ j:Nat,j≤k∧i=.int .i64 j∧Hid (r=Gr.start1 ns j (k - j))∧Hid (Flow.Grow W wr)) (fun i _=>k - (intOf i).toNat)
 case atStart=>exact ⟨0,by omega,rfl,Lib.hid Hr.out,Lib.hid (Flow.grow_refl _)⟩
 case round =>
  obtain ⟨j,hj,rfl,HR,HG⟩:=hrel
  rename World=>wr
  by_cases hjn:j < k
  ·obtain ⟨b,off,rfl,q0,q1,q2,q3,q4,q5,q6⟩:=Gr.NdsAt.at H.out (j:=j) (by rw [← HK.out];exact hjn)
   have c0:=Xm2.cell_grow HG.out q0
   have c1:=Xm2.cell_grow HG.out q1
   have c2:=Xm2.cell_grow HG.out q2
   have c3:=Xm2.cell_grow HG.out q3
   have c4:=Xm2.cell_grow HG.out q4
   have c5:=Xm2.cell_grow HG.out q5
   have c6:=Xm2.cell_grow HG.out q6
   have HA:Hid (r=if (ns.getD j Gr.nd0).kind=1 then (j:Int) else Gr.start1 ns (j+1) (k - (j+1))):=Lib.hid (by rw [HR.out,show k - j=(k - (j+1))+1 by omega];rfl)
   clear q0 q1 q2 q3 q4 q5 q6
   have HC:=Lib.hid (start1_any (ns.getD j Gr.nd0))
   generalize ns.getD j Gr.nd0=x at *
   obtain ⟨x0,x1,x2,x3,x4,x5,x6⟩:=x
   simp only at c0 c1 c2 c3 c4 c5 c6 HA
   by_cases h0:x0=1
   ·have d0:(x0 == 1)=true:=by simp [h0]
    have HE:Hid (r=(j:Int)):=Lib.hid (by rw [HA.out,if_pos h0])
    clear h0
    go_wp2_with (go_at_call 73;refine (HC.out _).mono ?_;rintro e w1 ⟨rfl,hg⟩;have HG1:=Lib.hid (HG.out.trans hg);clear hg;simp only [d0])
    go_ret
    exact ⟨by rw [HE.out];rfl,HG1.out⟩
   ·have d0:(x0 == 1)=false:=by simp [h0]
    have HE:Hid (r=Gr.start1 ns (j+1) (k - (j+1))):=Lib.hid (by rw [HA.out,if_neg h0])
    clear h0
    go_wp2_with (go_at_call 73;refine (HC.out _).mono ?_;rintro e w1 ⟨rfl,hg⟩;have HG1:=Lib.hid (HG.out.trans hg);clear hg;simp only [d0])
    go_roundw
    case rel=>exact ⟨j+1,by omega,by go_num,HE,HG1⟩
    case measure=>simp [intOf];omega
  ·have ej:j=k:=by omega
   subst ej
   have HE:Hid (r=-1):=Lib.hid (by rw [HR.out,Nat.sub_self];rfl)
   go_wp2_with fail
   go_ret
   exact ⟨by rw [HE.out];rfl,HG.out⟩
set_option maxRecDepth 100000 in
set_option maxHeartbeats 1000000 in
theorem start_any (v0 v1 v2 v3:Value) (g:Gr.G) (W:World) (hf:g.Few) (h:Gr.GAt W v0 v1 v2 v3 g) :
  Calls Tryz.prog 51 #[.agg #[v0,v1,v2,v3]] W fun e w'=>e=.returned (.int .i64 g.start)∧Flow.Grow W w':=by
 have HT:Hid (∀ w,Flow.Grow W w→Calls Tryz.prog 72 #[v2,.func (.func 73) #[] #[]] w fun e w'=>e=.returned (.int .i64 g.start)∧Flow.Grow W w'):=Lib.hid fun w hg=>(index_start v2 g.ns w hf.ns (Gr.Recs.grow h.nodes hg)).mono fun e w' ⟨a,c⟩=>⟨a,hg.trans c⟩
 generalize g.start=r at *
 obtain ⟨⟨a0,c0,rfl⟩,⟨a1,c1,rfl⟩,h2,h3⟩:=h
 obtain ⟨a2,c2,rfl⟩:=Gr.Recs.form h2
 obtain ⟨a3,c3,rfl⟩:=Gr.Recs.form h3
 clear h2 h3 hf
 go_enter Tryz.func51,Tryz.ntmps51
 go_wp2_with (go_at_call 72;refine (HT.out _ (Flow.grow_alloc _ _)).mono ?_;rintro e w1 ⟨rfl,hg⟩;have HG:=Lib.hid hg;clear hg)
 go_ret
 exact ⟨rfl,HG.out⟩
end Go.Proofs.YtcnmaplopbbmaaaGreat
namespace Go.Proofs.YtcnmaplopbbmaaaGreat
open Go.RowKit
def u8v (c:UInt8):Value:=.int .u8 (c.toNat:Int)
def Bytes (w:World) (v:Value) (l:List UInt8):Prop :=
 ∃ a cap,v=.slice a l.length cap∧l.length≤140737488351232∧(a=none→l.length=0∧cap=0)∧∀ j,j < l.length→∃ b off,a=some ⟨b,off,none⟩∧b < w.heap.size∧w.cell? ⟨b,off+j,none⟩=some (u8v (l.getD j 0))
theorem Bytes.shape {w:World} {v:Value} {l:List UInt8} (h:Bytes w v l) (hl:l≠[]) :
  ∃ b off cap,v=.slice (some ⟨b,off,none⟩) l.length cap∧b < w.heap.size∧∀ j,j < l.length→w.cell? ⟨b,off+j,none⟩=some (u8v (l.getD j 0)):=by
 obtain ⟨a,cap,rfl,hm,_,hc⟩:=h
 have h0:0 < l.length:=by cases l <;> simp_all
 obtain ⟨b,off,rfl,hb,_⟩:=hc 0 h0
 refine ⟨b,off,cap,rfl,hb,fun j hj=>?_⟩
 obtain ⟨b',off',e,_,h'⟩:=hc j hj
 cases e
 exact h'
theorem Bytes.grow {w w':World} {v:Value} {l:List UInt8} (h:Bytes w v l) (g:Flow.Grow w w'):Bytes w' v l:=by
 obtain ⟨a,cap,rfl,hm,hn,hc⟩:=h
 refine ⟨a,cap,rfl,hm,hn,fun j hj=>?_⟩
 obtain ⟨b,off,ha,hb,hcell⟩:=hc j hj
 exact ⟨b,off,ha,Nat.lt_of_lt_of_le hb g.size,(World.cell?_of_block (g.block b hb (by simp))).trans hcell⟩
theorem Bytes.of_own {w:World} {base e:Nat} {v:Value} {n:Nat} {l:List UInt8} (h:w.ownsRow base e 1 v n (l.map u8v)) (hm:l.length≤140737488351232):Bytes w v l:=by
 have hlen:l.length=n:=by simpa using h.1
 subst hlen
 rcases h.2 with ⟨rfl,h0⟩ | ⟨g,cap,cur,rfl,_,hg,_⟩
 ·exact ⟨none,0,by rw [h0],hm,fun _=>⟨h0,rfl⟩,fun j hj=>by omega⟩
 ·refine ⟨some ⟨g,0,none⟩,cap,rfl,hm,by simp,fun j hj=>⟨g,0,rfl,(Array.getElem?_eq_some_iff.1 hg).1,?_⟩⟩
  rw [Nat.zero_add,h.cellAt j (by omega)]
  simp [hj]
theorem Bytes.len {w:World} {a:Option Addr} {n cap:Nat} {l:List UInt8} (h:Bytes w (.slice a n cap) l):n=l.length∧l.length≤140737488351232:=by
 obtain ⟨a',cap',e,hm,_⟩:=h
 cases e
 exact ⟨rfl,hm⟩
theorem Bytes.cells {w:World} {a:Option Addr} {n cap:Nat} {l:List UInt8} (h:Bytes w (.slice a n cap) l):∀ ad,a=some ad→∀ j u,(l.map u8v)[j]? = some u→w.cell? (ad.add j)=some u:=by
 obtain ⟨a',cap',e,_,_,hc⟩:=h
 cases e
 intro ad had j u hu
 have hj:j < l.length:=by
  have:=(List.getElem?_eq_some_iff.1 hu).1
  simpa using this
 obtain ⟨b,off,ha,_,hcell⟩:=hc j hj
 rw [ha] at had
 cases had
 rw [Addr.add_lit,hcell,← hu]
 simp [hj]
theorem Bytes.nil (w:World):Bytes w (.slice none 0 0) []:=⟨none,0,rfl,by simp,fun _=>⟨rfl,rfl⟩,fun j hj=>by simp at hj⟩
section
variable {P:Program}
end
end Go.Proofs.YtcnmaplopbbmaaaGreat
namespace Go.Proofs.YtcnmaplopbbmaaaGreat
open Go.RowKit
def Gr.orL:List Int→Int
 | []=>0
 | z :: l=>if z=0 then Gr.orL l else z
theorem Gr.orL_drop (l:List Int) (j:Nat) (h:j < l.length):Gr.orL (l.drop j)=if l.getD j 0=0 then Gr.orL (l.drop (j+1)) else l.getD j 0:=by
 rw [List.drop_eq_getElem_cons h]
 simp [Gr.orL,h]
set_option maxRecDepth 100000 in
set_option maxHeartbeats 1000000 in
theorem cmpOr_any (v:Value) (zs:List Int) (w:World) (hz:zs.length≤1000000) (h:Ints w v zs):Calls Tryz.prog 69 #[v] w fun e w'=>e=.returned (.int .i64 (Gr.orL zs))∧w=w':=by
 have HV:=Lib.hid h
 obtain ⟨ao,ac,rfl,_⟩:=id h
 obtain ⟨n,hn⟩:∃ k,k=zs.length:=⟨_,rfl⟩
 have Hn:=Lib.hid hn
 rw [← hn] at hz HV ⊢
 clear h hn
 go_enter Tryz.func69,Tryz.ntmps69
 go_wp2_with fail
 go_loop [8] (fun i=>∃ j:Nat,j≤n∧i=.int .i64 j∧Hid (Gr.orL zs=Gr.orL (zs.drop j))) (fun i=>n - (intOf i).toNat)
 case atStart=>exact ⟨0,by omega,rfl,Lib.hid rfl⟩
 case round =>
  obtain ⟨j,hj,rfl,HR⟩:=hrel
  by_cases hjn:j < n
  ·obtain ⟨b,off,rfl,q⟩:=Ints.at1 HV.out (k:=j) (by rw [← Hn.out];exact hjn)
   have HD:=Lib.hid (Gr.orL_drop zs j (by rw [← Hn.out];exact hjn))
   generalize zs.getD j 0=x at *
   by_cases h0:x=0
   ·have d0:(x != 0)=false:=by simp [h0]
    have HR2:Hid (Gr.orL zs=Gr.orL (zs.drop (j+1))):=Lib.hid (by rw [HR.out,HD.out,if_pos h0])
    go_wp2_with fail
    go_round
    case rel=>exact ⟨j+1,by omega,by go_num,HR2⟩
    case measure=>simp [intOf];omega
   ·have d0:(x != 0)=true:=by simp [h0]
    have HE:Hid (Gr.orL zs=x):=Lib.hid (by rw [HR.out,HD.out,if_neg h0])
    go_wp2_with fail
    go_ret
    exact ⟨by rw [HE.out];rfl,rfl⟩
  ·obtain rfl:j=n:=by omega
   have HE:Hid (Gr.orL zs=0):=Lib.hid (by rw [HR.out,List.drop_of_length_le (by rw [← Hn.out];exact Nat.le_refl _)];rfl)
   go_wp2_with fail
   go_ret
   exact ⟨by rw [HE.out];rfl,rfl⟩
def Gr.cmpL (a b:Gr.Lb):Int:=Gr.orL [Lib.compareInt a.1 b.1,Lib.compareInt a.2.1 b.2.1,Lib.compareInt a.2.2 b.2.2]
set_option maxRecDepth 100000 in
set_option maxHeartbeats 1000000 in
theorem compare_any (a b:Gr.Lb) (W:World):Calls Tryz.prog 48 #[.agg (Gr.lcells a).toArray,.agg (Gr.lcells b).toArray] W fun e w'=>e=.returned (.int .i64 (Gr.cmpL a b))∧Flow.Grow W w':=by
 obtain ⟨a0,a1,a2⟩:=a
 obtain ⟨b0,b1,b2⟩:=b
 show Calls _ _ #[.agg #[.int .i64 a0,.int .i64 a1,.int .i64 a2],.agg #[.int .i64 b0,.int .i64 b1,.int .i64 b2]] W fun e w'=>e=.returned (.int .i64 (Gr.orL [Lib.compareInt a0 b0,Lib.compareInt a1 b1,Lib.compareInt a2 b2]))∧Flow.Grow W w'
 have HC0:=Lib.hid (Tryz.cmp_Compare_int a0 b0)
 have HC1:=Lib.hid (Tryz.cmp_Compare_int a1 b1)
 have HC2:=Lib.hid (Tryz.cmp_Compare_int a2 b2)
 generalize Lib.compareInt a0 b0=c0 at *
 generalize Lib.compareInt a1 b1=c1 at *
 generalize Lib.compareInt a2 b2=c2 at *
 go_enter Tryz.func48,Tryz.ntmps48
 go_upto_region 1 with fail
 obtain ⟨w1,hw1⟩:∃ w1,w1=(W.alloc (.cells #[.int .i64 a0,.int .i64 a1,.int .i64 a2] 104)).alloc (.cells #[.int .i64 b0,.int .i64 b1,.int .i64 b2] 104):=⟨_,rfl⟩
 have HG1:Hid (Flow.Grow W w1):=Lib.hid (by rw [hw1];exact (Flow.grow_alloc _ _).trans (Flow.grow_alloc _ _))
 obtain ⟨X,hX⟩:∃ X,X=W.heap.size:=⟨_,rfl⟩
 have HX:Hid (w1.heap[X]? = some (.cells #[.int .i64 a0,.int .i64 a1,.int .i64 a2] 104 (0,0))):=Lib.hid (by rw [hw1,hX];exact ((Flow.grow_alloc _ _).block _ (by simp) (by simp)).trans (heap_alloc_new W _))
 have HY:Hid (w1.heap[X+1]? = some (.cells #[.int .i64 b0,.int .i64 b1,.int .i64 b2] 104 (0,0))):=Lib.hid (by rw [hw1,hX];exact hp_new2 W _ _)
 rw [← hw1,← hX]
 clear hw1 hX
 have q0:w1.cell? ⟨X,0,none⟩=some (.int .i64 a0):=(cell_of_row w1 X 0 _ _ _ HX.out).trans rfl
 have q1:w1.cell? ⟨X,1,none⟩=some (.int .i64 a1):=(cell_of_row w1 X 1 _ _ _ HX.out).trans rfl
 have q2:w1.cell? ⟨X,2,none⟩=some (.int .i64 a2):=(cell_of_row w1 X 2 _ _ _ HX.out).trans rfl
 have p0:w1.cell? ⟨X+1,0,none⟩=some (.int .i64 b0):=(cell_of_row w1 (X+1) 0 _ _ _ HY.out).trans rfl
 have p1:w1.cell? ⟨X+1,1,none⟩=some (.int .i64 b1):=(cell_of_row w1 (X+1) 1 _ _ _ HY.out).trans rfl
 have p2:w1.cell? ⟨X+1,2,none⟩=some (.int .i64 b2):=(cell_of_row w1 (X+1) 2 _ _ _ HY.out).trans rfl
 refine Flow.region_grown (Fs:=[.inl ((.pointer (some ⟨X,0,none⟩))),.inl ((.int .i64 a0)),.inl ((.pointer (some ⟨X+1,0,none⟩))),.inl ((.int .i64 b0)),.inl ((.int .i64 c0)),.inl ((.pointer (some ⟨X,1,none⟩))),.inl ((.int .i64 a1)),.inl ((.pointer (some ⟨X+1,1,none⟩))),.inl ((.int .i64 b1)),.inl ((.int .i64 c1)),.inl ((.pointer (some ⟨X,2,none⟩))),.inl ((.int .i64 a2)),.inl ((.pointer (some ⟨X+1,2,none⟩))),.inl ((.int .i64 b2)),.inl ((.int .i64 c2)),.inr (fun v w=>Ints w v [c0,c1,c2]),.inl ((.int .i64 (Gr.orL [c0,c1,c2]))),.inl ((.int .i64 (Gr.orL [c0,c1,c2])))])
  (S:=[[],[0],[],[2],[1,3],[],[5],[],[7],[6,8],[],[10],[],[12],[11,13],[4,9,14],[15],[16]]) (by kernel_rfl) (by kernel_rfl) (by kernel_rfl) rfl ?stab1 ?ones1 ?ends1
 case ones1 =>
  refine Flow.Ones.cons ?_ ?_
  ·intro a w hC hoff _
   have e2:a.eval (.tmp 2)=(.pointer (some ⟨X,0,none⟩)):=hoff.at 2 (by kernel_rfl)
   refine .inl ⟨Flow.want_none rfl,?_⟩
   refine Flow.run_same ?_ Flow.grow_refl
   have ec:=Flow.eval_const a
   generalize a.eval=ρ at e2 ec ⊢
   simp [execOp,e2,go_sem]
  refine Flow.Ones.cons ?_ ?_
  ·rintro a w hC hoff ⟨k0,-⟩
   have e5:a.eval (.tmp 5)=(.pointer (some ⟨X,0,none⟩)):=k0 5 rfl
   refine .inl ⟨Flow.want_none rfl,?_⟩
   refine Flow.run_same ?_ Flow.grow_refl
   have ec:=Flow.eval_const a
   generalize a.eval=ρ at e5 ec ⊢
   have h0:=Xm2.cell_grow hC q0
   simp [execOp,e5,h0,go_sem]
  refine Flow.Ones.cons ?_ ?_
  ·intro a w hC hoff _
   have e3:a.eval (.tmp 3)=(.pointer (some ⟨X+1,0,none⟩)):=hoff.at 3 (by kernel_rfl)
   refine .inl ⟨Flow.want_none rfl,?_⟩
   refine Flow.run_same ?_ Flow.grow_refl
   have ec:=Flow.eval_const a
   generalize a.eval=ρ at e3 ec ⊢
   simp [execOp,e3,go_sem]
  refine Flow.Ones.cons ?_ ?_
  ·rintro a w hC hoff ⟨k2,-⟩
   have e7:a.eval (.tmp 7)=(.pointer (some ⟨X+1,0,none⟩)):=k2 7 rfl
   refine .inl ⟨Flow.want_none rfl,?_⟩
   refine Flow.run_same ?_ Flow.grow_refl
   have ec:=Flow.eval_const a
   generalize a.eval=ρ at e7 ec ⊢
   have h0:=Xm2.cell_grow hC p0
   simp [execOp,e7,h0,go_sem]
  refine Flow.Ones.cons ?_ ?_
  ·rintro a w hC hoff ⟨k1,k3,-⟩
   have e6:a.eval (.tmp 6)=(.int .i64 a0):=k1 6 rfl
   have e8:a.eval (.tmp 8)=(.int .i64 b0):=k3 8 rfl
   refine .inl ⟨Flow.want_none rfl,?_⟩
   exact Flow.run_call (Flow.exec_call rfl Tryz.func70 (by kernel_rfl) (by kernel_rfl) (by simp [e6,e8])) ((HC0.out _).mono fun e w' ⟨he,hg⟩=>⟨_,he,by rw [hg];exact Flow.grow_refl _,rfl⟩)
  refine Flow.Ones.cons ?_ ?_
  ·intro a w hC hoff _
   have e2:a.eval (.tmp 2)=(.pointer (some ⟨X,0,none⟩)):=hoff.at 2 (by kernel_rfl)
   refine .inl ⟨Flow.want_none rfl,?_⟩
   refine Flow.run_same ?_ Flow.grow_refl
   have ec:=Flow.eval_const a
   generalize a.eval=ρ at e2 ec ⊢
   simp [execOp,e2,go_sem]
  refine Flow.Ones.cons ?_ ?_
  ·rintro a w hC hoff ⟨k5,-⟩
   have e10:a.eval (.tmp 10)=(.pointer (some ⟨X,1,none⟩)):=k5 10 rfl
   refine .inl ⟨Flow.want_none rfl,?_⟩
   refine Flow.run_same ?_ Flow.grow_refl
   have ec:=Flow.eval_const a
   generalize a.eval=ρ at e10 ec ⊢
   have h0:=Xm2.cell_grow hC q1
   simp [execOp,e10,h0,go_sem]
  refine Flow.Ones.cons ?_ ?_
  ·intro a w hC hoff _
   have e3:a.eval (.tmp 3)=(.pointer (some ⟨X+1,0,none⟩)):=hoff.at 3 (by kernel_rfl)
   refine .inl ⟨Flow.want_none rfl,?_⟩
   refine Flow.run_same ?_ Flow.grow_refl
   have ec:=Flow.eval_const a
   generalize a.eval=ρ at e3 ec ⊢
   simp [execOp,e3,go_sem]
  refine Flow.Ones.cons ?_ ?_
  ·rintro a w hC hoff ⟨k7,-⟩
   have e12:a.eval (.tmp 12)=(.pointer (some ⟨X+1,1,none⟩)):=k7 12 rfl
   refine .inl ⟨Flow.want_none rfl,?_⟩
   refine Flow.run_same ?_ Flow.grow_refl
   have ec:=Flow.eval_const a
   generalize a.eval=ρ at e12 ec ⊢
   have h0:=Xm2.cell_grow hC p1
   simp [execOp,e12,h0,go_sem]
  refine Flow.Ones.cons ?_ ?_
  ·rintro a w hC hoff ⟨k6,k8,-⟩
   have e11:a.eval (.tmp 11)=(.int .i64 a1):=k6 11 rfl
   have e13:a.eval (.tmp 13)=(.int .i64 b1):=k8 13 rfl
   refine .inl ⟨Flow.want_none rfl,?_⟩
   exact Flow.run_call (Flow.exec_call rfl Tryz.func70 (by kernel_rfl) (by kernel_rfl) (by simp [e11,e13])) ((HC1.out _).mono fun e w' ⟨he,hg⟩=>⟨_,he,by rw [hg];exact Flow.grow_refl _,rfl⟩)
  refine Flow.Ones.cons ?_ ?_
  ·intro a w hC hoff _
   have e2:a.eval (.tmp 2)=(.pointer (some ⟨X,0,none⟩)):=hoff.at 2 (by kernel_rfl)
   refine .inl ⟨Flow.want_none rfl,?_⟩
   refine Flow.run_same ?_ Flow.grow_refl
   have ec:=Flow.eval_const a
   generalize a.eval=ρ at e2 ec ⊢
   simp [execOp,e2,go_sem]
  refine Flow.Ones.cons ?_ ?_
  ·rintro a w hC hoff ⟨k10,-⟩
   have e15:a.eval (.tmp 15)=(.pointer (some ⟨X,2,none⟩)):=k10 15 rfl
   refine .inl ⟨Flow.want_none rfl,?_⟩
   refine Flow.run_same ?_ Flow.grow_refl
   have ec:=Flow.eval_const a
   generalize a.eval=ρ at e15 ec ⊢
   have h0:=Xm2.cell_grow hC q2
   simp [execOp,e15,h0,go_sem]
  refine Flow.Ones.cons ?_ ?_
  ·intro a w hC hoff _
   have e3:a.eval (.tmp 3)=(.pointer (some ⟨X+1,0,none⟩)):=hoff.at 3 (by kernel_rfl)
   refine .inl ⟨Flow.want_none rfl,?_⟩
   refine Flow.run_same ?_ Flow.grow_refl
   have ec:=Flow.eval_const a
   generalize a.eval=ρ at e3 ec ⊢
   simp [execOp,e3,go_sem]
  refine Flow.Ones.cons ?_ ?_
  ·rintro a w hC hoff ⟨k12,-⟩
   have e17:a.eval (.tmp 17)=(.pointer (some ⟨X+1,2,none⟩)):=k12 17 rfl
   refine .inl ⟨Flow.want_none rfl,?_⟩
   refine Flow.run_same ?_ Flow.grow_refl
   have ec:=Flow.eval_const a
   generalize a.eval=ρ at e17 ec ⊢
   have h0:=Xm2.cell_grow hC p2
   simp [execOp,e17,h0,go_sem]
  refine Flow.Ones.cons ?_ ?_
  ·rintro a w hC hoff ⟨k11,k13,-⟩
   have e16:a.eval (.tmp 16)=(.int .i64 a2):=k11 16 rfl
   have e18:a.eval (.tmp 18)=(.int .i64 b2):=k13 18 rfl
   refine .inl ⟨Flow.want_none rfl,?_⟩
   exact Flow.run_call (Flow.exec_call rfl Tryz.func70 (by kernel_rfl) (by kernel_rfl) (by simp [e16,e18])) ((HC2.out _).mono fun e w' ⟨he,hg⟩=>⟨_,he,by rw [hg];exact Flow.grow_refl _,rfl⟩)
  refine Flow.Ones.cons ?_ ?_
  ·rintro a w hC hoff ⟨k4,k9,k14,-⟩
   have e9:a.eval (.tmp 9)=(.int .i64 c0):=k4 9 rfl
   have e14:a.eval (.tmp 14)=(.int .i64 c1):=k9 14 rfl
   have e19:a.eval (.tmp 19)=(.int .i64 c2):=k14 19 rfl
   refine .inl ⟨Flow.want_none rfl,?_⟩
   refine Flow.run_val (v:=.slice (some ⟨w.heap.size,0,none⟩) 3 3) (w':=w.alloc (.cells #[.int .i64 c0,.int .i64 c1,.int .i64 c2] 3)) ?_ (Flow.grow_alloc _ _) ?_
   ·generalize a.eval=ρ at e9 e14 e19 ⊢;simp [execOp,e9,e14,e19,go_sem]
   ·exact ⟨_,3,rfl,by simp,by simp,fun j hj=>⟨w.heap.size,0,rfl,by simp,by rw [Nat.zero_add,World.cell?_alloc_new];simp⟩⟩
  refine Flow.Ones.cons ?_ ?_
  ·rintro a w hC hoff ⟨k15,-⟩
   have e20:(fun v w=>Ints w v [c0,c1,c2]) (a.eval (.tmp 20)) w:=k15 20 rfl
   refine .inl ⟨Flow.want_none rfl,?_⟩
   exact Flow.run_call (Flow.exec_call rfl Tryz.func69 (by kernel_rfl) (by kernel_rfl) (by simp)) ((cmpOr_any _ _ w (by simp) e20).mono fun e w' ⟨he,hg⟩=>⟨_,he,by rw [← hg];exact Flow.grow_refl _,rfl⟩)
  refine Flow.Ones.cons ?_ ?_
  ·rintro a w hC hoff ⟨k16,-⟩
   have e21:a.eval (.tmp 21)=(.int .i64 (Gr.orL [c0,c1,c2])):=k16 21 rfl
   refine .inl ⟨Flow.want_none rfl,?_⟩
   exact Flow.run_same (Flow.exec_move (.inr rfl) e21) Flow.grow_refl
  exact trivial
 case stab1=>exact ⟨fun v w w' hR h=>Ints.grow h hR,trivial⟩
 case ends1 =>
  intro w' hg
  simp only [Flow.ends]
  intro v20 _
  simp only [Act.put,List.setIfInBounds_toArray,List.set_cons_succ,List.set_cons_zero]
  go_wp2
  go_ret
  exact ⟨rfl,HG1.out.trans hg⟩
end Go.Proofs.YtcnmaplopbbmaaaGreat
