/- joint.First, mail.New, async.First, galliardref23.First by their contracts. -/
import Derived.Test.YtcpodmjcgfgmnaaGreatMAsA
import Derived.Test.YtcpodmjcgfgmnaaGreatAsDo
namespace Go.Proofs.YtcpodmjcgfgmnaaGreat
open Go.RowKit
set_option maxRecDepth 100000 in
set_option maxHeartbeats 1000000 in
theorem Qke (vp:Value) (ls:List Pr.Lb) (css:List (List Value)) (ps:List Pr.Pd) (W:World) (hP:Pr.PeersAt W vp ls css ps) :
  Calls Tryz.prog 26 #[vp] W fun e w'=>(∃ v',e=.returned v'∧w'.ownsRow W.heap.size 3 1 v' 3 [.int .i64 0,.int .i64 0,.int .i64 0])∧Flow.Grow W w':=by
 obtain ⟨pb,po,pc,rfl,hpb,hpa⟩:=hP.at_;have HPa:=Lib.hid hpa;clear hP hpa;obtain ⟨i0,hi,hz0,hz1,hz2⟩:=info_parts Qbo;go_enter Tryz.func26,Tryz.ntmps26;go_wp2_with fail;go_loopw [3,8] (fun ov iv wr=>∃ i:Nat,i≤3∧iv=.int .i64 i∧Hid (wr.ownsRow W.heap.size 3 1 ov i (List.replicate i (.int .i64 0)))∧Hid (Flow.Grow W wr)) (fun _ iv _=>3 - (intOf iv).toNat)
 case atStart=>exact ⟨0,by omega,rfl,Lib.hid (World.ownsRow_nil _ _ _ _),Lib.hid (Flow.grow_refl _)⟩
 case round =>
  obtain ⟨i,hi3,rfl,HO,HG⟩:=hrel
  rename World=>wo
  obtain ⟨vq,hvq⟩:∃ v,v=u3:=⟨_,rfl⟩;obtain ⟨oa,oc,hoa⟩:=Qah HO.out;subst hoa;clear hvq;by_cases hin:i < 3
  ·obtain ⟨va,vf,vn,p,hp,f0,f1,f2,f3,f4,f5,f6,f7,f8,f9⟩:=HPa.out i hin;obtain ⟨aa,ac,hva,_⟩:=id f6;obtain ⟨af,cf,hvf,_⟩:=id f7;obtain ⟨an,cn,hvn⟩:=f8.val;subst hva hvf hvn;clear f6 f7 f8 f9 hp;generalize p.acts.length=K at *;generalize p.fin.length=F at *;generalize p.rows.length=N at *;replace f0:=Xm2.cell_grow HG.out f0;replace f1:=Xm2.cell_grow HG.out f1;replace f2:=Xm2.cell_grow HG.out f2;replace f3:=Xm2.cell_grow HG.out f3;replace f4:=Xm2.cell_grow HG.out f4;replace f5:=Xm2.cell_grow HG.out f5;go_upto_region 5 with fail;have HBw20:Hid ((wo.alloc (.cells #[.int .i64 (i:Int),.slice aa K ac,.int .i64 (K:Nat),.int .i64 0,.slice af F cf,.slice an N cn] 69)).heap[wo.heap.size]?=some (.cells #[.int .i64 (i:Int),.slice aa K ac,.int .i64 (K:Nat),.int .i64 0,.slice af F cf,.slice an N cn] 69 (0,0))):=Lib.hid (Qb3 _ _);have HGw2:Hid (Flow.Grow wo (wo.alloc (.cells #[.int .i64 (i:Int),.slice aa K ac,.int .i64 (K:Nat),.int .i64 0,.slice af F cf,.slice an N cn] 69))):=Lib.hid (Qb2 _ _);have HSw2:Hid ((wo.alloc (.cells #[.int .i64 (i:Int),.slice aa K ac,.int .i64 (K:Nat),.int .i64 0,.slice af F cf,.slice an N cn] 69)).heap.size=wo.heap.size+1):=Lib.hid (by simp);generalize wo.alloc (.cells #[.int .i64 (i:Int),.slice aa K ac,.int .i64 (K:Nat),.int .i64 0,.slice af F cf,.slice an N cn] 69)=w2 at *;obtain ⟨Y,hY⟩:∃ X,X=wo.heap.size:=⟨_,rfl⟩;rw [← hY] at HBw20 HSw2 ⊢;have HXw2:=Lib.hid hY;clear hY;have CXw2:Hid (∀ wq,Flow.Grow w2 wq→wq.cell? ⟨Y,0,none⟩=some (.int .i64 (i:Int))∧wq.cell? ⟨Y,1,none⟩=some (.slice aa K ac)∧wq.cell? ⟨Y,2,none⟩=some (.int .i64 (K:Nat))∧wq.cell? ⟨Y,3,none⟩=some (.int .i64 0)∧wq.cell? ⟨Y,4,none⟩=some (.slice af F cf)∧wq.cell? ⟨Y,5,none⟩=some (.slice an N cn)):=Lib.hid (fun wq g=>⟨Qaa g HBw20.out rfl,Qaa g HBw20.out rfl,Qaa g HBw20.out rfl,Qaa g HBw20.out rfl,Qaa g HBw20.out rfl,Qaa g HBw20.out rfl⟩);have FXw2:Hid (∀ wq,Flow.Grow w2 wq→(∀ k,wq.frozen? ⟨Y,k,none⟩=false)):=Lib.hid (fun wq g=>fun k=>Qaf g HBw20.out k);obtain ⟨c00,c01,c02,c03,c04,c05⟩:=CXw2.out w2 (Flow.grow_refl _);clear f0 f1 f2 f3 f4 f5;go_wp2_with (at_builtin;refine Qbq (W:=W) rfl _ _ 49 rfl 3 i0 _ 1 8 Tryz.underlying49 hi hz0 hz1 hz2 rfl (by decide) (.slice oa i oc) i _ rfl (Qab HO.out (HGw2.out.trans (Flow.grow_alloc _ _))) (HG.out.trans (HGw2.out.trans (Flow.grow_alloc _ _))) _ #[.int .i64 0] 3 rfl (heap_alloc_new _ _) rfl (by intro u hu;simp at hu;subst hu;rfl) (by omega) (by decide) ?_;intro v' w' hO hGw hf hk;have HO2:=Lib.hid hO;have HG5:=Lib.hid hGw;obtain ⟨g,c',rfl,_⟩:=hf;clear hO hGw hk);go_roundw
   case rel=>exact ⟨i+1,by omega,by go_num,Lib.hid (by rw [List.replicate_succ'];exact HO2.out),HG5⟩
   case measure=>simp [intOf];omega
  ·obtain rfl:i=3:=by omega
   go_wp2_with fail;go_ret;exact ⟨⟨_,rfl,HO.out⟩,HG.out⟩
theorem Qqi (X:Nat) (tmps:Array Value) (w:World) (c0 c1 c2:Value) (h6:tmps.getD 4 undef=.pointer (some ⟨X,0,none⟩)) (hx:w.heap[X]?=some (.cells #[c0,c1,c2] 51 (0,0))) :
  (results Tryz.f27 tmps).run Tryz.prog w=.ok (.agg #[c0,c1,c2]) w:=by
 have x0:=(cell_of_row w X 0 _ _ _ hx).trans rfl;have x1:=(cell_of_row w X 1 _ _ _ hx).trans rfl;have x2:=(cell_of_row w X 2 _ _ _ hx).trans rfl;simp at x0 x1 x2;simp only [Array.getD_eq_getD_getElem?] at h6;simp [results,Tryz.results27,h6,x0,x1,x2,go_sem]
theorem Qsf {α:Type} {n i:Nat} {x d:α} (h:i < n):(List.replicate n x).getD i d=x:=by
 rw [List.getD_eq_getElem?_getD,List.getElem?_replicate_of_lt h];rfl
theorem Qtq (w:World):(Instr.makeSlice 25 (.int .i64 9) (.int .i64 9)).run Tryz.prog w=.ok (.slice (some ⟨w.heap.size,0,none⟩) 9 9) (w.alloc (.cells #[.slice none 0 0,.slice none 0 0,.slice none 0 0,.slice none 0 0,.slice none 0 0,.slice none 0 0,.slice none 0 0,.slice none 0 0,.slice none 0 0] 49)):=by
 obtain ⟨i0,hi,hz0,hz1,hz2⟩:=info_parts Qe7;have hr:=run_make (P:=Tryz.prog) w 25 49 i0 _ Tryz.underlying25 hi hz0 .i64 .i64 9 9 (by omega) (Int.le_refl _) (by rw [hz2];omega) (by omega);rw [hz1,show madeCells (Value.slice none 0 0).cells (Int.toNat 9 * 1)=#[.slice none 0 0,.slice none 0 0,.slice none 0 0,.slice none 0 0,.slice none 0 0,.slice none 0 0,.slice none 0 0,.slice none 0 0,.slice none 0 0] by kernel_rfl] at hr;exact hr
set_option maxRecDepth 100000 in
set_option maxHeartbeats 1000000 in
theorem Qqj (room:Nat) (W:World) (h1:1≤room) (h8:room≤8) :
  Calls Tryz.prog 27 #[.int .i64 3,.int .i64 (room:Nat)] W fun e w'=>(∃ g gc,e=.returned (.agg #[.int .i64 3,.int .i64 (room:Nat),.slice (some ⟨g,0,none⟩) 9 gc])∧w'.ownsRow W.heap.size 49 1 (.slice (some ⟨g,0,none⟩) 9 gc) 9 (List.replicate 9 (.slice none 0 0)))∧Flow.Grow W w':=by
 have e1:min (max (room:Int) 1) 8=(room:Int):=by omega
 have e0:min (max (3:Int) 0) 16=3:=by decide
 have e9:IntKind.i64.wrap (3 * 3)=9:=by decide
 have r1:decide ((room:Int) < 1)=false:=by simp;omega
 have r2:decide ((room:Int) > 8)=false:=by simp;omega
 go_enter Tryz.func27,Tryz.ntmps27;go_upto_region 2 with fail;have HBw10:Hid ((W.alloc (.cells #[.int .i64 0,.int .i64 0,.slice none 0 0] 51)).heap[W.heap.size]?=some (.cells #[.int .i64 0,.int .i64 0,.slice none 0 0] 51 (0,0))):=Lib.hid (Qb3 _ _);have HGw1:Hid (Flow.Grow W (W.alloc (.cells #[.int .i64 0,.int .i64 0,.slice none 0 0] 51))):=Lib.hid (Qb2 _ _);have HSw1:Hid ((W.alloc (.cells #[.int .i64 0,.int .i64 0,.slice none 0 0] 51)).heap.size=W.heap.size+1):=Lib.hid (by simp);generalize W.alloc (.cells #[.int .i64 0,.int .i64 0,.slice none 0 0] 51)=w1 at *;obtain ⟨X,hX⟩:∃ X,X=W.heap.size:=⟨_,rfl⟩;rw [← hX] at HBw10 HSw1 ⊢;have HXw1:=Lib.hid hX;clear hX;have CXw1:Hid (∀ wq,Flow.Grow w1 wq→wq.cell? ⟨X,0,none⟩=some (.int .i64 0)∧wq.cell? ⟨X,1,none⟩=some (.int .i64 0)∧wq.cell? ⟨X,2,none⟩=some (.slice none 0 0)):=Lib.hid (fun wq g=>⟨Qaa g HBw10.out rfl,Qaa g HBw10.out rfl,Qaa g HBw10.out rfl⟩);have FXw1:Hid (∀ wq,Flow.Grow w1 wq→(∀ k,wq.frozen? ⟨X,k,none⟩=false)):=Lib.hid (fun wq g=>fun k=>Qaf g HBw10.out k);have HMk:=Qtq w1;have c0:∀ o,(w1.alloc o).cell? ⟨X,0,none⟩=some (.int .i64 0):=fun o=>(CXw1.out _ (Flow.grow_alloc _ _)).1;have c1:∀ o,(w1.alloc o).cell? ⟨X,1,none⟩=some (.int .i64 0):=fun o=>(CXw1.out _ (Flow.grow_alloc _ _)).2.1;have c2:∀ o,(w1.alloc o).cell? ⟨X,2,none⟩=some (.slice none 0 0):=fun o=>(CXw1.out _ (Flow.grow_alloc _ _)).2.2;have fA:∀ o k,(w1.alloc o).frozen? ⟨X,k,none⟩=false:=fun o k=>FXw1.out _ (Flow.grow_alloc _ _) k;go_wp2_with fail;have hw:=HXw1.out;have hs:=HSw1.out;generalize hq:(Obj.cells #[Value.slice none 0 0,Value.slice none 0 0,Value.slice none 0 0,Value.slice none 0 0,Value.slice none 0 0,Value.slice none 0 0,Value.slice none 0 0,Value.slice none 0 0,Value.slice none 0 0] 49)=ob at *;have ho:(w1.alloc ob).ownsRow W.heap.size 49 1 (.slice (some ⟨w1.heap.size,0,none⟩) 9 9) 9 (List.replicate 9 (.slice none 0 0)):=by
  subst hq;exact ⟨rfl,.inr ⟨w1.heap.size,9,_,rfl,by omega,heap_alloc_new _ _,Nat.le_refl _,by decide,rfl,rfl⟩⟩
 have hg:Flow.Grow W (w1.alloc ob):=HGw1.out.trans (Flow.grow_alloc _ _);exact bodyPost_ret (Qqi X _ _ _ _ _ rfl (Qc1 _ _ _ (Qae (Flow.grow_alloc _ _) HBw10.out))) rfl ⟨⟨_,_,rfl,Qrt _ _ _ ho (by omega)⟩,Qbv _ _ _ hg (by omega)⟩
theorem Qwu (X:Nat) (tmps:Array Value) (w:World) (c0 c1 c2 c3:Value) (h4:tmps.getD 4 undef=.pointer (some ⟨X,0,none⟩)) (hx:w.heap[X]?=some (.cells #[c0,c1,c2,c3] 53 (0,0))) :
  (results Tryz.f11 tmps).run Tryz.prog w=.ok (.agg #[c0,c1,c2,c3]) w:=by
 have x0:=(cell_of_row w X 0 _ _ _ hx).trans rfl;have x1:=(cell_of_row w X 1 _ _ _ hx).trans rfl;have x2:=(cell_of_row w X 2 _ _ _ hx).trans rfl;have x3:=(cell_of_row w X 3 _ _ _ hx).trans rfl;simp at x0 x1 x2 x3;simp only [Array.getD_eq_getD_getElem?] at h4;simp [results,Tryz.results11,h4,x0,x1,x2,x3,go_sem]
open As in
set_option maxRecDepth 100000 in
set_option maxHeartbeats 1000000 in
theorem Qf2 (room:Nat) (vp:Value) (ls:List Pr.Lb) (css:List (List Value)) (ps:List Pr.Pd) (W:World) (h1:1≤room) (h8:room≤8) (hP:Pr.PeersAt W vp ls css ps) :
  Calls Tryz.prog 11 #[vp,.int .i64 (room:Nat)] W fun e w'=>(∃ sa sn sc va vn vc,e=.returned (.agg #[.slice sa sn sc,.int .i64 3,.int .i64 (room:Nat),.slice va vn vc])∧∀ V,CfgD V w' W.heap.size (.slice sa sn sc) (.slice va vn vc) first)∧Flow.Grow W w':=by
 have HJ:Hid (∀ wq,Flow.Grow W wq→Calls Tryz.prog 26 #[vp] wq fun e w'=>(∃ v',e=.returned v'∧w'.ownsRow wq.heap.size 3 1 v' 3 [.int .i64 0,.int .i64 0,.int .i64 0])∧Flow.Grow wq w'):=Lib.hid (fun wq g=>Qke vp ls css ps wq (hP.grow g));have HN:Hid (∀ wq,Calls Tryz.prog 27 #[.int .i64 3,.int .i64 (room:Nat)] wq fun e w'=>(∃ g gc,e=.returned (.agg #[.int .i64 3,.int .i64 (room:Nat),.slice (some ⟨g,0,none⟩) 9 gc])∧w'.ownsRow wq.heap.size 49 1 (.slice (some ⟨g,0,none⟩) 9 gc) 9 (List.replicate 9 (.slice none 0 0)))∧Flow.Grow wq w'):=Lib.hid (fun wq=>Qqj room wq h1 h8);obtain ⟨pb,po,pc,rfl,_,_⟩:=hP.at_;clear hP;obtain ⟨iM,hiM,hM0,hM1,hM2⟩:=info_parts Qby;go_enter Tryz.func11,Tryz.ntmps11;go_upto_region 1 with fail;have HBw10:Hid ((W.alloc (.cells #[.slice none 0 0,.int .i64 0,.int .i64 0,.slice none 0 0] 53)).heap[W.heap.size]?=some (.cells #[.slice none 0 0,.int .i64 0,.int .i64 0,.slice none 0 0] 53 (0,0))):=Lib.hid (Qb3 _ _);have HGw1:Hid (Flow.Grow W (W.alloc (.cells #[.slice none 0 0,.int .i64 0,.int .i64 0,.slice none 0 0] 53))):=Lib.hid (Qb2 _ _);have HSw1:Hid ((W.alloc (.cells #[.slice none 0 0,.int .i64 0,.int .i64 0,.slice none 0 0] 53)).heap.size=W.heap.size+1):=Lib.hid (by simp);generalize W.alloc (.cells #[.slice none 0 0,.int .i64 0,.int .i64 0,.slice none 0 0] 53)=w1 at *;obtain ⟨X,hX⟩:∃ X,X=W.heap.size:=⟨_,rfl⟩;rw [← hX] at HBw10 HSw1 ⊢;have HXw1:=Lib.hid hX;clear hX;have CXw1:Hid (∀ wq,Flow.Grow w1 wq→wq.cell? ⟨X,0,none⟩=some (.slice none 0 0)∧wq.cell? ⟨X,1,none⟩=some (.int .i64 0)∧wq.cell? ⟨X,2,none⟩=some (.int .i64 0)∧wq.cell? ⟨X,3,none⟩=some (.slice none 0 0)):=Lib.hid (fun wq g=>⟨Qaa g HBw10.out rfl,Qaa g HBw10.out rfl,Qaa g HBw10.out rfl,Qaa g HBw10.out rfl⟩);have FXw1:Hid (∀ wq,Flow.Grow w1 wq→(∀ k,wq.frozen? ⟨X,k,none⟩=false)):=Lib.hid (fun wq g=>fun k=>Qaf g HBw10.out k)
 go_wp2_with (first
  | (go_at_call 26;refine (HJ.out _ HGw1.out).mono ?_;rintro e w2 ⟨⟨v',rfl,ho⟩,hg⟩;obtain ⟨sa,sc,rfl⟩:=Qah ho;have HO:=Lib.hid ho;have HG2:=Lib.hid hg;clear ho hg)
  | (go_at_call 27;refine (HN.out _).mono ?_;rintro e w3 ⟨⟨g,gc,rfl,ho⟩,hg⟩;have HO3:=Lib.hid ho;have HG3:=Lib.hid hg;clear ho hg;have HGa:=Lib.hid (HG2.out.trans HG3.out);obtain ⟨c00,c01,c02,c03⟩:=CXw1.out w3 (HGa.out);have f0:=FXw1.out w3 (HGa.out)))
 have hw:=HXw1.out;have hs:=HSw1.out;have h2s:=HG2.out.size;have hgl:=(HO3.out.lt g rfl).1;have hx3:=Qae HGa.out HBw10.out;refine bodyPost_ret (Qwu X _ _ _ _ _ _ rfl (Qba _ _ _ _ hx3)) rfl ⟨⟨_,_,_,_,_,_,rfl,?_⟩,Qa2 _ _ _ _ (HGw1.out.trans HGa.out) (by omega)⟩;have hown:=Qab HO.out HG3.out;intro V;have hW:W.heap.size≤w1.heap.size:=HGw1.out.size;refine ⟨?_,List.replicate 9 (.slice none 0 0),?_,fun i hi=>?_⟩
 ·rcases hown.2 with ⟨e,h0⟩ | ⟨g',cap,cur,e,hB,_⟩
  ·omega
  ·cases e;exact Pr.own_mono (Qh9 _ _ _ _ hown (by omega)) hW
 ·exact Pr.own_mono (Qh9 _ _ _ _ HO3.out (by omega)) (Nat.le_trans hW HG2.out.size)
 ·have hi9:i < 9:=by simpa [first] using hi
  rw [Qsf hi9,show first.2.getD i []=[] from Qsf hi9];exact .inl (World.ownsRow_nil _ _ _ _)
structure RF (w1:World) (H B:Nat) (nine:Obj) (oa:Option Addr) (oc i:Nat) (L:Nat→Bool) (w:World):Prop where
 grow:Flow.Grow w1 w
 size:B≤w.heap.size
 nine_:w.heap[H]?=some nine
 at_:L 11=false→w.heap[H+1]?=some (.cells #[.slice oa i oc,.slice (some ⟨H,0,none⟩) 9 9] 109 (0,0))
 own:L 9=false→w.ownsRow B 3 1 (.slice oa i oc) i (List.replicate i (.int .i64 0))
theorem RF.more {w1 w w':World} {H B oc i:Nat} {nine:Obj} {oa:Option Addr} {L:Nat→Bool} (h:RF w1 H B nine oa oc i L w) (g:Flow.Grow w w') (j:Nat):RF w1 H B nine oa oc i (Flow.ad L j) w' :=
 ⟨h.grow.trans g,Nat.le_trans h.size g.size,Qae g h.nine_,fun e=>Qae g (h.at_ (by unfold Flow.ad at e;simp at e;exact e.2)),fun e=>Qab (h.own (by unfold Flow.ad at e;simp at e;exact e.2)) g⟩
end Go.Proofs.YtcpodmjcgfgmnaaGreat
