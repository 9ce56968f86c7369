/- galliardlaw16.awake is true: by contracts, on its own small graph. -/
import Derived.Test.YtcnmaplopbbmaaaRPlay
import Derived.Test.YtcnmaplopbbmaaaMBv
import Derived.Test.YtcnmaplopbbmaaaMAc
import Derived.Deep.Slices
import Derived.OpenShut
import Derived.Deep.Strs
import Derived.ChangeSlices
namespace Go.Proofs.Ytcnmaplopbbmaaa
open Go.RowKit
theorem recs_block {α:Type} {k:Nat} {f:α→List Value} (hk:∀ x,(f x).length=k) {w:World} {b c n:Nat} {cs:Array Value} {T:TypeId} {fr:Nat × Nat} {xs:List α} (h:w.heap[b]? = some (.cells cs T fr)) (e:cs.toList=xs.flatMap f) (hn:n=xs.length):Gr.Recs k f w (.slice (some ⟨b,0,none⟩) n c) xs:=by
 subst hn
 refine ⟨_,c,rfl,Gr.flat_len hk xs,(fun h0=>by cases h0),fun j hj=>⟨b,0,rfl,(Array.getElem?_eq_some_iff.1 h).1,?_⟩⟩
 rw [cell_of_row w b _ _ _ _ h,Nat.zero_add,← e]
 exact Array.getElem?_toList.symm
namespace Gr
def nE:ByteArray:=⟨#[]⟩
def gA:G:=⟨[⟨1,nE,0,0,0,0,false⟩,⟨3,nE,0,1,0,-1,false⟩,⟨2,nE,0,0,0,0,false⟩],[(0,1),(1,2)],2,1⟩
theorem gA_few:gA.Few:=⟨by decide,by decide,by decide,by decide⟩
theorem gA_check:gA.check=0:=by kernel_rfl
theorem gA_may:gA.May:=G.check_may gA_check
theorem gA_labels:gA.labels=[(0,1,0)]:=by kernel_rfl
def l1:List Bool:=true :: List.replicate 63 false
def l2:List Bool:=false :: true :: List.replicate 62 false
theorem gA_turns:gA.turns [(0,1,0)] (l1,false)=[(0,(l2,false))]:=by kernel_rfl
theorem l2_mark:Mark.ofBools l2=2:=by kernel_rfl
end Gr
set_option maxRecDepth 100000 in
set_option maxHeartbeats 4000000 in
theorem awake16 (W:World):Calls Try.prog 9 #[] W fun e w'=>e=.returned (.bool true)∧Flow.Grow W w':=by
 have HO2:Hid (∀ w,Calls Try.prog 26 #[.int .u64 2] w fun e w'=>e=.returned (.bool false)∧w=w'):=Lib.hid fun w=>over_any 2 (by decide) w
 have HO0:Hid (∀ w,Calls Try.prog 26 #[.int .u64 0] w fun e w'=>e=.returned (.bool true)∧w=w'):=Lib.hid fun w=>over_any 0 (by decide) w
 go_enter Try.func9,Try.ntmps9
 go_upto_region 2 with fail
 have HBw10:Hid ((((((W.alloc (.cells (#[.string ⟨#[97]⟩,.string ⟨#[98]⟩]) 9)).alloc (.cells (#[.string ⟨#[109]⟩]) 9)).alloc (.cells (#[.int .i64 1,.string ⟨#[]⟩,.int .i64 0,.int .i64 0,.int .i64 0,.int .i64 0,.bool false,.int .i64 3,.string ⟨#[]⟩,.int .i64 0,.int .i64 1,.int .i64 0,.int .i64 (-1),.bool false,.int .i64 2,.string ⟨#[]⟩,.int .i64 0,.int .i64 0,.int .i64 0,.int .i64 0,.bool false]) 62)).alloc (.cells (#[.int .i64 0,.int .i64 1,.int .i64 1,.int .i64 2]) 66)).alloc (.cells (#[.slice (some ⟨W.heap.size,0,none⟩) 2 2,.slice (some ⟨W.heap.size+1,0,none⟩) 1 1,.slice (some ⟨W.heap.size+1+1,0,none⟩) 3 3,.slice (some ⟨W.heap.size+1+1+1,0,none⟩) 2 2]) 28)).heap[W.heap.size]? = some (.cells (#[.string ⟨#[97]⟩,.string ⟨#[98]⟩]) 9 (0,0))):=Lib.hid (lay5_0 _ _ _ _ _ _)
 have HBw11:Hid ((((((W.alloc (.cells (#[.string ⟨#[97]⟩,.string ⟨#[98]⟩]) 9)).alloc (.cells (#[.string ⟨#[109]⟩]) 9)).alloc (.cells (#[.int .i64 1,.string ⟨#[]⟩,.int .i64 0,.int .i64 0,.int .i64 0,.int .i64 0,.bool false,.int .i64 3,.string ⟨#[]⟩,.int .i64 0,.int .i64 1,.int .i64 0,.int .i64 (-1),.bool false,.int .i64 2,.string ⟨#[]⟩,.int .i64 0,.int .i64 0,.int .i64 0,.int .i64 0,.bool false]) 62)).alloc (.cells (#[.int .i64 0,.int .i64 1,.int .i64 1,.int .i64 2]) 66)).alloc (.cells (#[.slice (some ⟨W.heap.size,0,none⟩) 2 2,.slice (some ⟨W.heap.size+1,0,none⟩) 1 1,.slice (some ⟨W.heap.size+1+1,0,none⟩) 3 3,.slice (some ⟨W.heap.size+1+1+1,0,none⟩) 2 2]) 28)).heap[W.heap.size+1]? = some (.cells (#[.string ⟨#[109]⟩]) 9 (0,0))):=Lib.hid (lay5_1 _ _ _ _ _ _)
 have HBw12:Hid ((((((W.alloc (.cells (#[.string ⟨#[97]⟩,.string ⟨#[98]⟩]) 9)).alloc (.cells (#[.string ⟨#[109]⟩]) 9)).alloc (.cells (#[.int .i64 1,.string ⟨#[]⟩,.int .i64 0,.int .i64 0,.int .i64 0,.int .i64 0,.bool false,.int .i64 3,.string ⟨#[]⟩,.int .i64 0,.int .i64 1,.int .i64 0,.int .i64 (-1),.bool false,.int .i64 2,.string ⟨#[]⟩,.int .i64 0,.int .i64 0,.int .i64 0,.int .i64 0,.bool false]) 62)).alloc (.cells (#[.int .i64 0,.int .i64 1,.int .i64 1,.int .i64 2]) 66)).alloc (.cells (#[.slice (some ⟨W.heap.size,0,none⟩) 2 2,.slice (some ⟨W.heap.size+1,0,none⟩) 1 1,.slice (some ⟨W.heap.size+1+1,0,none⟩) 3 3,.slice (some ⟨W.heap.size+1+1+1,0,none⟩) 2 2]) 28)).heap[W.heap.size+1+1]? = some (.cells (#[.int .i64 1,.string ⟨#[]⟩,.int .i64 0,.int .i64 0,.int .i64 0,.int .i64 0,.bool false,.int .i64 3,.string ⟨#[]⟩,.int .i64 0,.int .i64 1,.int .i64 0,.int .i64 (-1),.bool false,.int .i64 2,.string ⟨#[]⟩,.int .i64 0,.int .i64 0,.int .i64 0,.int .i64 0,.bool false]) 62 (0,0))):=Lib.hid (lay5_2 _ _ _ _ _ _)
 have HBw13:Hid ((((((W.alloc (.cells (#[.string ⟨#[97]⟩,.string ⟨#[98]⟩]) 9)).alloc (.cells (#[.string ⟨#[109]⟩]) 9)).alloc (.cells (#[.int .i64 1,.string ⟨#[]⟩,.int .i64 0,.int .i64 0,.int .i64 0,.int .i64 0,.bool false,.int .i64 3,.string ⟨#[]⟩,.int .i64 0,.int .i64 1,.int .i64 0,.int .i64 (-1),.bool false,.int .i64 2,.string ⟨#[]⟩,.int .i64 0,.int .i64 0,.int .i64 0,.int .i64 0,.bool false]) 62)).alloc (.cells (#[.int .i64 0,.int .i64 1,.int .i64 1,.int .i64 2]) 66)).alloc (.cells (#[.slice (some ⟨W.heap.size,0,none⟩) 2 2,.slice (some ⟨W.heap.size+1,0,none⟩) 1 1,.slice (some ⟨W.heap.size+1+1,0,none⟩) 3 3,.slice (some ⟨W.heap.size+1+1+1,0,none⟩) 2 2]) 28)).heap[W.heap.size+1+1+1]? = some (.cells (#[.int .i64 0,.int .i64 1,.int .i64 1,.int .i64 2]) 66 (0,0))):=Lib.hid (lay5_3 _ _ _ _ _ _)
 have HBw14:Hid ((((((W.alloc (.cells (#[.string ⟨#[97]⟩,.string ⟨#[98]⟩]) 9)).alloc (.cells (#[.string ⟨#[109]⟩]) 9)).alloc (.cells (#[.int .i64 1,.string ⟨#[]⟩,.int .i64 0,.int .i64 0,.int .i64 0,.int .i64 0,.bool false,.int .i64 3,.string ⟨#[]⟩,.int .i64 0,.int .i64 1,.int .i64 0,.int .i64 (-1),.bool false,.int .i64 2,.string ⟨#[]⟩,.int .i64 0,.int .i64 0,.int .i64 0,.int .i64 0,.bool false]) 62)).alloc (.cells (#[.int .i64 0,.int .i64 1,.int .i64 1,.int .i64 2]) 66)).alloc (.cells (#[.slice (some ⟨W.heap.size,0,none⟩) 2 2,.slice (some ⟨W.heap.size+1,0,none⟩) 1 1,.slice (some ⟨W.heap.size+1+1,0,none⟩) 3 3,.slice (some ⟨W.heap.size+1+1+1,0,none⟩) 2 2]) 28)).heap[W.heap.size+1+1+1+1]? = some (.cells (#[.slice (some ⟨W.heap.size,0,none⟩) 2 2,.slice (some ⟨W.heap.size+1,0,none⟩) 1 1,.slice (some ⟨W.heap.size+1+1,0,none⟩) 3 3,.slice (some ⟨W.heap.size+1+1+1,0,none⟩) 2 2]) 28 (0,0))):=Lib.hid (lay5_4 _ _ _ _ _ _)
 have HGw1:Hid (Flow.Grow W (((((W.alloc (.cells (#[.string ⟨#[97]⟩,.string ⟨#[98]⟩]) 9)).alloc (.cells (#[.string ⟨#[109]⟩]) 9)).alloc (.cells (#[.int .i64 1,.string ⟨#[]⟩,.int .i64 0,.int .i64 0,.int .i64 0,.int .i64 0,.bool false,.int .i64 3,.string ⟨#[]⟩,.int .i64 0,.int .i64 1,.int .i64 0,.int .i64 (-1),.bool false,.int .i64 2,.string ⟨#[]⟩,.int .i64 0,.int .i64 0,.int .i64 0,.int .i64 0,.bool false]) 62)).alloc (.cells (#[.int .i64 0,.int .i64 1,.int .i64 1,.int .i64 2]) 66)).alloc (.cells (#[.slice (some ⟨W.heap.size,0,none⟩) 2 2,.slice (some ⟨W.heap.size+1,0,none⟩) 1 1,.slice (some ⟨W.heap.size+1+1,0,none⟩) 3 3,.slice (some ⟨W.heap.size+1+1+1,0,none⟩) 2 2]) 28))):=Lib.hid (lay5_g _ _ _ _ _ _)
 have HSw1:Hid ((((((W.alloc (.cells (#[.string ⟨#[97]⟩,.string ⟨#[98]⟩]) 9)).alloc (.cells (#[.string ⟨#[109]⟩]) 9)).alloc (.cells (#[.int .i64 1,.string ⟨#[]⟩,.int .i64 0,.int .i64 0,.int .i64 0,.int .i64 0,.bool false,.int .i64 3,.string ⟨#[]⟩,.int .i64 0,.int .i64 1,.int .i64 0,.int .i64 (-1),.bool false,.int .i64 2,.string ⟨#[]⟩,.int .i64 0,.int .i64 0,.int .i64 0,.int .i64 0,.bool false]) 62)).alloc (.cells (#[.int .i64 0,.int .i64 1,.int .i64 1,.int .i64 2]) 66)).alloc (.cells (#[.slice (some ⟨W.heap.size,0,none⟩) 2 2,.slice (some ⟨W.heap.size+1,0,none⟩) 1 1,.slice (some ⟨W.heap.size+1+1,0,none⟩) 3 3,.slice (some ⟨W.heap.size+1+1+1,0,none⟩) 2 2]) 28)).heap.size=W.heap.size+1+1+1+1+1):=Lib.hid (by simp)
 generalize ((((W.alloc (.cells (#[.string ⟨#[97]⟩,.string ⟨#[98]⟩]) 9)).alloc (.cells (#[.string ⟨#[109]⟩]) 9)).alloc (.cells (#[.int .i64 1,.string ⟨#[]⟩,.int .i64 0,.int .i64 0,.int .i64 0,.int .i64 0,.bool false,.int .i64 3,.string ⟨#[]⟩,.int .i64 0,.int .i64 1,.int .i64 0,.int .i64 (-1),.bool false,.int .i64 2,.string ⟨#[]⟩,.int .i64 0,.int .i64 0,.int .i64 0,.int .i64 0,.bool false]) 62)).alloc (.cells (#[.int .i64 0,.int .i64 1,.int .i64 1,.int .i64 2]) 66)).alloc (.cells (#[.slice (some ⟨W.heap.size,0,none⟩) 2 2,.slice (some ⟨W.heap.size+1,0,none⟩) 1 1,.slice (some ⟨W.heap.size+1+1,0,none⟩) 3 3,.slice (some ⟨W.heap.size+1+1+1,0,none⟩) 2 2]) 28)=w1 at *
 obtain ⟨X,hX⟩:∃ X,X=W.heap.size:=⟨_,rfl⟩
 rw [← hX] at HBw10 HBw11 HBw12 HBw13 HBw14 HSw1 ⊢
 have HXw1:=Lib.hid hX
 clear hX
 have FXw1:Hid (∀ wq,Flow.Grow w1 wq→(∀ k,wq.frozen? ⟨X,k,none⟩=false)∧(∀ k,wq.frozen? ⟨X+1,k,none⟩=false)∧(∀ k,wq.frozen? ⟨X+1+1,k,none⟩=false)∧(∀ k,wq.frozen? ⟨X+1+1+1,k,none⟩=false)∧(∀ k,wq.frozen? ⟨X+1+1+1+1,k,none⟩=false)):=Lib.hid (fun wq g=>⟨fun k=>lay_frozen g HBw10.out k,fun k=>lay_frozen g HBw11.out k,fun k=>lay_frozen g HBw12.out k,fun k=>lay_frozen g HBw13.out k,fun k=>lay_frozen g HBw14.out k⟩)
 have HGA:Hid (Gr.GAt w1 (.slice (some ⟨X,0,none⟩) 2 2) (.slice (some ⟨X+1,0,none⟩) 1 1) (.slice (some ⟨X+1+1,0,none⟩) 3 3) (.slice (some ⟨X+1+1+1,0,none⟩) 2 2) Gr.gA):=Lib.hid ⟨⟨_,_,rfl⟩,⟨_,_,rfl⟩,recs_block Gr.Nd.cells_len HBw12.out rfl rfl,recs_block Gr.ecells_len HBw13.out rfl rfl⟩
 have g0:=(cell_of_row w1 (X+1+1+1+1) 0 _ _ _ HBw14.out).trans rfl
 have g1:=(cell_of_row w1 (X+1+1+1+1) 1 _ _ _ HBw14.out).trans rfl
 have g2:=(cell_of_row w1 (X+1+1+1+1) 2 _ _ _ HBw14.out).trans rfl
 have g3:=(cell_of_row w1 (X+1+1+1+1) 3 _ _ _ HBw14.out).trans rfl
 simp at g0 g1 g2 g3
 generalize (Value.slice (some ⟨X,0,none⟩) 2 2)=v0 at *
 generalize (Value.slice (some ⟨X+1,0,none⟩) 1 1)=v1 at *
 generalize (Value.slice (some ⟨X+1+1,0,none⟩) 3 3)=v2 at *
 generalize (Value.slice (some ⟨X+1+1+1,0,none⟩) 2 2)=v3 at *
 have hMay:=Gr.gA_may
 have hF:=hMay.fit Gr.gA_few
 have HNew:Hid (∀ w,Flow.Grow w1 w→Calls Try.prog 7 #[.agg #[v0,v1,v2,v3]] w fun e w'=>(∃ B lv,e=.returned (.tuple #[.pointer (some ⟨B,0,none⟩),.int .i64 0])∧Gr.Gm w' B v0 v1 v2 v3 lv Gr.gA [(0,1,0)] 0∧Gr.Srt [(0,1,0)]∧w.heap.size≤B)∧Flow.Grow w w'):=Lib.hid fun w hg=>(new_any v0 v1 v2 v3 Gr.gA w Gr.gA_few (by decide) (HGA.out.grow hg)).mono fun e w' ⟨a,b⟩=>by
  rcases a with ⟨hne,_⟩ | ⟨_,B,lv,L,he,h1,h2,h3⟩
  ·exact absurd Gr.gA_check hne
  ·have e1:=hMay.labels h2
   rw [Gr.gA_labels] at e1
   subst e1
   exact ⟨⟨B,lv,he,h1,h2.srt,h3⟩,b⟩
 have HFst:Hid (∀ w B lv e,Gr.Gm w B v0 v1 v2 v3 lv Gr.gA [(0,1,0)] e→Calls Try.prog 12 #[.pointer (some ⟨B,0,none⟩)] w fun e w'=>e=.returned (.int .u64 (Mark.ofBools Gr.l1:Int))∧Flow.Grow w w'):=Lib.hid fun w B lv e hg=>by
  have k:=gfirst_any B v0 v1 v2 v3 lv Gr.gA [(0,1,0)] e w hF hg
  rw [hMay.firstL Gr.gA_few] at k
  exact k
 have HTu:Hid (∀ w B lv,Gr.Srt [(0,1,0)]→Gr.Gm w B v0 v1 v2 v3 lv Gr.gA [(0,1,0)] 0→Calls Try.prog 10 #[.pointer (some ⟨B,0,none⟩),.int .u64 (Mark.ofBools Gr.l1:Int)] w fun e w'=>(∃ out,e=.returned out∧w'.ownsRow w.heap.size 73 2 out 1 [.int .i64 0,.int .u64 2])∧w.grownBy w' (some B)):=Lib.hid fun w B lv hs hg=>(turns_any B v0 v1 v2 v3 lv Gr.gA [(0,1,0)] false Gr.l1 w rfl hF (by decide) hs (by have:=hMay.zero;rwa [Gr.gA_labels] at this) hg).mono fun e w' ⟨out,he,ti⟩=>by
  have k:=ti.own
  rw [Gr.gA_turns] at k
  simp only [Gr.tcells,List.flatMap_cons,List.flatMap_nil,List.append_nil,Gr.l2_mark] at k
  exact ⟨⟨out,he,k⟩,ti.by_⟩
 go_upto_region 3 with (go_at_call 7;refine (HNew.out _ (Flow.grow_refl _)).mono ?_;rintro e w2 ⟨⟨B,lv,rfl,hgm,hs,hB⟩,hg⟩;have HG2:=Lib.hid hg;have HGm:=Lib.hid hgm;have HB:=Lib.hid hB;have HS:=Lib.hid hs;clear hg hgm hB hs)
 clear g0 g1 g2 g3
 go_upto_region 4 with (first
  | (go_at_call 12;refine (HFst.out _ B _ _ HGm.out).mono ?_;rintro e w3 ⟨rfl,hg⟩;have HG3:=Lib.hid hg;have HGm3:=Lib.hid (HGm.out.grow hg);clear hg)
  | (go_at_call 10;refine (HTu.out _ B _ HS.out HGm3.out).mono ?_;rintro e w4 ⟨⟨out,rfl,ho⟩,hb⟩;have HO4:=Lib.hid ho;have HB4:=Lib.hid hb;obtain ⟨oa,oc,rfl⟩:=own_form ho;clear ho hb))
 obtain ⟨ob,rfl⟩:∃ b,oa=some ⟨b,0,none⟩:=own_at (xs:=[.int .i64 0,.int .u64 2]) (n:=1) HO4.out (by decide)
 have o0:w4.cell? ⟨ob,0,none⟩=some (.int .i64 0):=by
  have k:=HO4.out.cells (g:=ob) rfl 0 _ rfl
  exact k
 have o1:w4.cell? ⟨ob,1,none⟩=some (.int .u64 2):=by
  have k:=HO4.out.cells (g:=ob) rfl 1 _ rfl
  exact k
 have HGW:Hid (Flow.Grow W w4):=Lib.hid (by
  have hp:=by_trans (by_grow (r:=some B) (HG2.out.trans HG3.out)) HB4.out
  exact ⟨hp.os.trans HGw1.out.os,hp.tape.trans HGw1.out.tape,hp.output.trans HGw1.out.output,Nat.le_trans HGw1.out.size hp.size,fun b hb _=>(hp.block b (Nat.lt_of_lt_of_le hb HGw1.out.size) (by have:=HB.out;have:=HGw1.out.size;intro e;cases e;omega)).trans (HGw1.out.block b hb (by simp))⟩)
 go_wp2_with (go_at_call 26;first | (refine (HO2.out _).mono ?_;rintro e w' ⟨rfl,rfl⟩) | (refine (HO0.out _).mono ?_;rintro e w' ⟨rfl,rfl⟩))
 go_ret
 exact ⟨rfl,HGW.out⟩
end Go.Proofs.Ytcnmaplopbbmaaa
namespace Go.Proofs.Ytcnmaplopbbmaaa
open Go.RowKit
set_option maxRecDepth 100000 in
set_option maxHeartbeats 8000000 in
theorem gameTurns_walk (a0:Option Addr) (n0 c0:Nat) (zs:List Int) (W:World) (hz:n0≤9223372036854775807) (hn:Ints W (.slice a0 n0 c0) zs) :
  Calls Try.prog 5 #[.slice a0 n0 c0] W fun e w'=>e=.returned (.bool true)∧Flow.Grow W w':=by
 have hl:zs.length=n0:=by obtain ⟨x,y,e,hl,_⟩:=hn;cases e;rfl
 have HPk:=Lib.hid (pickG_any zs (.slice a0 n0 c0) W (by omega) hn)
 have HAw:=Lib.hid awake16
 have HRu:=Lib.hid (Fl.pick_rule zs)
 have HFw:=Lib.hid (Fl.pickG_few zs)
 clear hn hz hl
 generalize Fl.pickG zs=g at *
 go_enter Try.func5,Try.ntmps5
 go_upto_region 2 with (go_at_call 20;refine HPk.out.mono ?_;rintro e w0 ⟨v0,v1,v2,v3,rfl,ha,hg⟩;obtain ⟨pa,pc,rfl⟩:=ha.parts;obtain ⟨ma,mc,rfl⟩:=ha.msgs;obtain ⟨na,nc,rfl⟩:=Gr.Recs.form ha.nodes;obtain ⟨ea,ec,rfl⟩:=Gr.Recs.form ha.edges;have HG0:=Lib.hid hg;have HA0:=Lib.hid ha;clear hg ha)
 have HBw10:Hid ((w0.alloc (.cells #[.slice pa g.np pc,.slice ma g.nm mc,.slice na g.ns.length nc,.slice ea g.es.length ec] 28)).heap[w0.heap.size]? = some (.cells #[.slice pa g.np pc,.slice ma g.nm mc,.slice na g.ns.length nc,.slice ea g.es.length ec] 28 (0,0))):=Lib.hid (lay1_0 _ _)
 have HGw1:Hid (Flow.Grow w0 (w0.alloc (.cells #[.slice pa g.np pc,.slice ma g.nm mc,.slice na g.ns.length nc,.slice ea g.es.length ec] 28))):=Lib.hid (lay1_g _ _)
 have HSw1:Hid ((w0.alloc (.cells #[.slice pa g.np pc,.slice ma g.nm mc,.slice na g.ns.length nc,.slice ea g.es.length ec] 28)).heap.size=w0.heap.size+1):=Lib.hid (by simp)
 generalize w0.alloc (.cells #[.slice pa g.np pc,.slice ma g.nm mc,.slice na g.ns.length nc,.slice ea g.es.length ec] 28)=w1 at *
 obtain ⟨X,hX⟩:∃ X,X=w0.heap.size:=⟨_,rfl⟩
 rw [← hX] at HBw10 HSw1 ⊢
 have HXw1:=Lib.hid hX
 clear hX
 have CXw1:Hid (∀ wq,Flow.Grow w1 wq→wq.cell? ⟨X,0,none⟩=some (.slice pa g.np pc)∧wq.cell? ⟨X,1,none⟩=some (.slice ma g.nm mc)∧wq.cell? ⟨X,2,none⟩=some (.slice na g.ns.length nc)∧wq.cell? ⟨X,3,none⟩=some (.slice ea g.es.length ec)):=Lib.hid (fun wq g=>⟨lay_cell g HBw10.out rfl,lay_cell g HBw10.out rfl,lay_cell g HBw10.out rfl,lay_cell g HBw10.out rfl⟩)
 have FXw1:Hid (∀ wq,Flow.Grow w1 wq→(∀ k,wq.frozen? ⟨X,k,none⟩=false)):=Lib.hid (fun wq g=>fun k=>lay_frozen g HBw10.out k)
 have HA1:=Lib.hid (HA0.out.grow HGw1.out)
 have HGW1:Hid (Flow.Grow W w1):=Lib.hid (HG0.out.trans HGw1.out)
 have HFew:Hid g.Few:=Lib.hid ⟨by have:=HFw.out.1;omega,by have:=HFw.out.2.1;omega,by have:=HFw.out.2.2.1;omega,by have:=HFw.out.2.2.2;omega⟩
 have HCk:=Lib.hid fun w (hg:Flow.Grow w1 w)=>check_any _ _ _ _ g w HFew.out (HA1.out.grow hg)
 obtain ⟨c00,c01,c02,c03⟩:=CXw1.out w1 (Flow.grow_refl _)
 by_cases hck:g.check=0
 ·have HPl:=Lib.hid fun w (hg:Flow.Grow w1 w)=>play_any _ _ _ _ g 25 w HFew.out (by have:=HFw.out.2.2.1;omega) hck (by decide) (by have:=HFw.out.2.1;omega) (HA1.out.grow hg)
  have Hck:=Lib.hid hck
  clear hck
  go_upto_region 4 with (go_at_call 8;refine (HCk.out _ (Flow.grow_refl _)).mono ?_;rintro e w2 ⟨rfl,hg⟩;rw [Hck.out];have HG2:=Lib.hid hg;clear hg)
  clear c00 c01 c02 c03
  go_wp2_with (first
   | (go_at_call 9;refine (HAw.out _).mono ?_;rintro e w5 ⟨rfl,hg⟩;have HG5:=Lib.hid (HG2.out.trans hg);obtain ⟨d00,d01,d02,d03⟩:=CXw1.out w5 (HG5.out);clear hg)
   | (go_at_call 15;refine (HPl.out _ HG5.out).mono ?_;rintro e w6 ⟨rfl,hg⟩;have HG6:=Lib.hid (HG5.out.trans hg);clear hg))
  go_ret
  exact ⟨rfl,HGW1.out.trans HG6.out⟩
 ·have h5:g.check=5:=by rcases HRu.out with h | h;exact absurd h hck;exact h
  have Hck:=Lib.hid h5
  clear hck h5
  go_upto_region 3 with (go_at_call 8;refine (HCk.out _ (Flow.grow_refl _)).mono ?_;rintro e w2 ⟨rfl,hg⟩;rw [Hck.out];have HG2:=Lib.hid hg;clear hg)
  clear c00 c01 c02 c03
  go_wp2_with (first
   | (go_at_call 9;refine (HAw.out _).mono ?_;rintro e w5 ⟨rfl,hg⟩;have HG5:=Lib.hid (HG2.out.trans hg);obtain ⟨d00,d01,d02,d03⟩:=CXw1.out w5 (HG5.out);clear hg)
   | (go_at_call 8;refine (HCk.out _ HG5.out).mono ?_;rintro e w6 ⟨rfl,hg⟩;rw [Hck.out];have HG6:=Lib.hid (HG5.out.trans hg);clear hg))
  go_ret
  exact ⟨rfl,HGW1.out.trans HG6.out⟩
end Go.Proofs.Ytcnmaplopbbmaaa
namespace Go.Proofs.Ytcnmaplopbbmaaa
open Go.RowKit Go.Deep
section
variable {H:Type} {enc:TypeId × Value→H} {P:Program} {w:World} {base:Nat} {spare:Nat→Bool} {held:Bool} {k:IntKind} {n:Nat} {t e i:TypeId}
end
end Go.Proofs.Ytcnmaplopbbmaaa
namespace Go.Proofs.Ytcnmaplopbbmaaa
open Go.ChangeShapes Go.RowKit Go.Deep
theorem cell_addr1 {W:World} {x:Addr} {v:Value} (h:W.cell? (x.add 0)=some v):∃ g off,x=⟨g,off,none⟩∧g < W.heap.size:=by
 obtain ⟨g,off,sp⟩:=x
 cases sp with
 | none =>
  rw [Addr.add_lit] at h
  exact ⟨g,off,rfl,World.block_lt_of_cell? W _ h⟩
 | some s =>
  exfalso
  unfold World.cell? Addr.add at h
  simp at h
  split at h
  ·simp at h
  ·cases h
theorem ints_arg {P:Program} {W:World} {H:Type} {enc:TypeId × Value→H} {t e:TypeId} {a:Option Addr} {n c:Nat} {d:DataW H} {ps:List MemPlace} (ht:P.underlying t=some (.slice e)) (he:P.underlying e=some (.int .i64)) (hc:P.cellsOf e=1)
  (h:DataW.Trod enc P W 0 (fun _=>true) true t (.slice a n c) d ps):∃ zs:List Int,zs.length≤9223372036854775807∧Ints W (.slice a n c) zs:=by
 obtain ⟨fuel,hf⟩:=h
 rcases open_ints ht he hc hf with ⟨hcs,_⟩ | ⟨x,l,c',zs,hcs,_,hl,hm,hz,_,hcell,hwz⟩
 ·simp [Value.cells] at hcs
  obtain ⟨rfl,rfl,rfl⟩:=hcs
  exact ⟨[],by simp,⟨none,0,rfl,rfl,fun _=>⟨rfl,rfl⟩,fun j hj=>by simp at hj⟩⟩
 ·simp [Value.cells] at hcs
  obtain ⟨rfl,rfl,rfl⟩:=hcs
  simp at hz
  have hle:n≤zs.length:=by omega
  have hlen:(zs.take n).length=n:=by simp;omega
  refine ⟨zs.take n,by rw [hlen];unfold maxLen at hm;omega,⟨some x,c,by rw [hlen],by simp,fun h=>(by cases h),fun j hj=>?_⟩⟩
  have hj':j < n:=by
   have h9:=hj
   rw [List.length_map,hlen] at h9
   exact h9
  obtain ⟨g,off,rfl,h3⟩:=cell_addr1 (hcell 0 (by omega))
  have h1:=hcell j (by omega)
  rw [Addr.add_lit] at h1
  refine ⟨g,off,rfl,h3,?_⟩
  rw [h1]
  have:j < zs.length:=by omega
  simp [hj',this]
end Go.Proofs.Ytcnmaplopbbmaaa
