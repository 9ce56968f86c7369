/- joint.First, mail.New, async.First, galliardref23.First by their contracts. -/
import Derived.Test.YtcpodmjcgfgmnaaMAsA
import Derived.Test.YtcpodmjcgfgmnaaAsDo
namespace Go.Proofs.Ytcpodmjcgfgmnaa
open Go.RowKit
set_option maxRecDepth 100000 in
set_option maxHeartbeats 1000000 in
theorem jointFirst_any (vp:Value) (ls:List Pr.Lb) (css:List (List Value)) (ps:List Pr.Pd) (W:World) (hP:Pr.PeersAt W vp ls css ps) :
  Calls Try.prog 24 #[vp] W fun e w'=>(∃ v',e=.returned v'∧w'.ownsRow W.heap.size 3 1 v' 3 [.int .i64 0,.int .i64 0,.int .i64 0])∧Flow.Grow W w':=by
 obtain ⟨pb,po,pc,rfl,hpb,hpa⟩:=hP.at_
 have HPa:=Lib.hid hpa
 clear hP hpa
 obtain ⟨i0,hi,hz0,hz1,hz2⟩:=info_parts info_int
 go_enter Try.func24,Try.ntmps24
 go_wp2_with fail
 go_loopw [3,8] (fun ov iv wr=>∃ i:Nat,i≤3∧iv=.int .i64 i∧Hid (wr.ownsRow W.heap.size 3 1 ov i (List.replicate i (.int .i64 0)))∧Hid (Flow.Grow W wr)) (fun _ iv _=>3 - (intOf iv).toNat)
 case atStart=>exact ⟨0,by omega,rfl,Lib.hid (World.ownsRow_nil _ _ _ _),Lib.hid (Flow.grow_refl _)⟩
 case round =>
  obtain ⟨i,hi3,rfl,HO,HG⟩:=hrel
  rename World=>wo
  obtain ⟨vq,hvq⟩:∃ v,v=u3:=⟨_,rfl⟩
  obtain ⟨oa,oc,hoa⟩:=own_form HO.out
  subst hoa
  clear hvq
  by_cases hin:i < 3
  ·obtain ⟨va,vf,vn,p,hp,f0,f1,f2,f3,f4,f5,f6,f7,f8,f9⟩:=HPa.out i hin
   obtain ⟨aa,ac,hva,_⟩:=id f6
   obtain ⟨af,cf,hvf,_⟩:=id f7
   obtain ⟨an,cn,hvn⟩:=f8.val
   subst hva hvf hvn
   clear f6 f7 f8 f9 hp
   generalize p.acts.length=K at *
   generalize p.fin.length=F at *
   generalize p.rows.length=N at *
   replace f0:=Xm2.cell_grow HG.out f0
   replace f1:=Xm2.cell_grow HG.out f1
   replace f2:=Xm2.cell_grow HG.out f2
   replace f3:=Xm2.cell_grow HG.out f3
   replace f4:=Xm2.cell_grow HG.out f4
   replace f5:=Xm2.cell_grow HG.out f5
   go_upto_region 5 with fail
   have HBw20:Hid ((wo.alloc (.cells #[.int .i64 (i:Int),.slice aa K ac,.int .i64 (K:Nat),.int .i64 0,.slice af F cf,.slice an N cn] 77)).heap[wo.heap.size]?=some (.cells #[.int .i64 (i:Int),.slice aa K ac,.int .i64 (K:Nat),.int .i64 0,.slice af F cf,.slice an N cn] 77 (0,0))):=Lib.hid (lay1_0 _ _)
   have HGw2:Hid (Flow.Grow wo (wo.alloc (.cells #[.int .i64 (i:Int),.slice aa K ac,.int .i64 (K:Nat),.int .i64 0,.slice af F cf,.slice an N cn] 77))):=Lib.hid (lay1_g _ _)
   have HSw2:Hid ((wo.alloc (.cells #[.int .i64 (i:Int),.slice aa K ac,.int .i64 (K:Nat),.int .i64 0,.slice af F cf,.slice an N cn] 77)).heap.size=wo.heap.size+1):=Lib.hid (by simp)
   generalize wo.alloc (.cells #[.int .i64 (i:Int),.slice aa K ac,.int .i64 (K:Nat),.int .i64 0,.slice af F cf,.slice an N cn] 77)=w2 at *
   obtain ⟨Y,hY⟩:∃ X,X=wo.heap.size:=⟨_,rfl⟩
   rw [← hY] at HBw20 HSw2 ⊢
   have HXw2:=Lib.hid hY
   clear hY
   have CXw2:Hid (∀ wq,Flow.Grow w2 wq→wq.cell? ⟨Y,0,none⟩=some (.int .i64 (i:Int))∧wq.cell? ⟨Y,1,none⟩=some (.slice aa K ac)∧wq.cell? ⟨Y,2,none⟩=some (.int .i64 (K:Nat))∧wq.cell? ⟨Y,3,none⟩=some (.int .i64 0)∧wq.cell? ⟨Y,4,none⟩=some (.slice af F cf)∧wq.cell? ⟨Y,5,none⟩=some (.slice an N cn)):=Lib.hid (fun wq g=>⟨lay_cell g HBw20.out rfl,lay_cell g HBw20.out rfl,lay_cell g HBw20.out rfl,lay_cell g HBw20.out rfl,lay_cell g HBw20.out rfl,lay_cell g HBw20.out rfl⟩)
   have FXw2:Hid (∀ wq,Flow.Grow w2 wq→(∀ k,wq.frozen? ⟨Y,k,none⟩=false)):=Lib.hid (fun wq g=>fun k=>lay_frozen g HBw20.out k)
   obtain ⟨c00,c01,c02,c03,c04,c05⟩:=CXw2.out w2 (Flow.grow_refl _)
   clear f0 f1 f2 f3 f4 f5
   go_wp2_with (at_builtin;refine wpList_app1 (W:=W) rfl _ _ 39 rfl 3 i0 _ 1 8 Try.underlying39 hi hz0 hz1 hz2 rfl (by decide) (.slice oa i oc) i _ rfl (own_keep HO.out (HGw2.out.trans (Flow.grow_alloc _ _))) (HG.out.trans (HGw2.out.trans (Flow.grow_alloc _ _))) _ #[.int .i64 0] 3 rfl (heap_alloc_new _ _) rfl (by intro u hu;simp at hu;subst hu;rfl) (by omega) (by decide) ?_;intro v' w' hO hGw hf hk;have HO2:=Lib.hid hO;have HG5:=Lib.hid hGw;obtain ⟨g,c',rfl,_⟩:=hf;clear hO hGw hk)
   go_roundw
   case rel=>exact ⟨i+1,by omega,by go_num,Lib.hid (by rw [List.replicate_succ'];exact HO2.out),HG5⟩
   case measure=>simp [intOf];omega
  ·obtain rfl:i=3:=by omega
   go_wp2_with fail
   go_ret
   exact ⟨⟨_,rfl,HO.out⟩,HG.out⟩
theorem mailNew_res (X:Nat) (tmps:Array Value) (w:World) (c0 c1 c2:Value) (h6:tmps.getD 4 undef=.pointer (some ⟨X,0,none⟩)) (hx:w.heap[X]?=some (.cells #[c0,c1,c2] 41 (0,0))) :
  (results Try.f25 tmps).run Try.prog w=.ok (.agg #[c0,c1,c2]) w:=by
 have x0:=(cell_of_row w X 0 _ _ _ hx).trans rfl
 have x1:=(cell_of_row w X 1 _ _ _ hx).trans rfl
 have x2:=(cell_of_row w X 2 _ _ _ hx).trans rfl
 simp at x0 x1 x2
 simp only [Array.getD_eq_getD_getElem?] at h6
 simp [results,Try.results25,h6,x0,x1,x2,go_sem]
theorem getD_rep {α:Type} {n i:Nat} {x d:α} (h:i < n):(List.replicate n x).getD i d=x:=by
 rw [List.getD_eq_getElem?_getD,List.getElem?_replicate_of_lt h];rfl
theorem make_rows9 (w:World):(Instr.makeSlice 25 (.int .i64 9) (.int .i64 9)).run Try.prog w=.ok (.slice (some ⟨w.heap.size,0,none⟩) 9 9) (w.alloc (.cells #[.slice none 0 0,.slice none 0 0,.slice none 0 0,.slice none 0 0,.slice none 0 0,.slice none 0 0,.slice none 0 0,.slice none 0 0,.slice none 0 0] 39)):=by
 obtain ⟨i0,hi,hz0,hz1,hz2⟩:=info_parts info_ints
 have hr:=run_make (P:=Try.prog) w 25 39 i0 _ Try.underlying25 hi hz0 .i64 .i64 9 9 (by omega) (Int.le_refl _) (by rw [hz2];omega) (by omega)
 rw [hz1,show madeCells (Value.slice none 0 0).cells (Int.toNat 9 * 1)=#[.slice none 0 0,.slice none 0 0,.slice none 0 0,.slice none 0 0,.slice none 0 0,.slice none 0 0,.slice none 0 0,.slice none 0 0,.slice none 0 0] by kernel_rfl] at hr
 exact hr
set_option maxRecDepth 100000 in
set_option maxHeartbeats 1000000 in
theorem mailNew_any (room:Nat) (W:World) (h1:1≤room) (h8:room≤8) :
  Calls Try.prog 25 #[.int .i64 3,.int .i64 (room:Nat)] W fun e w'=>(∃ g gc,e=.returned (.agg #[.int .i64 3,.int .i64 (room:Nat),.slice (some ⟨g,0,none⟩) 9 gc])∧w'.ownsRow W.heap.size 39 1 (.slice (some ⟨g,0,none⟩) 9 gc) 9 (List.replicate 9 (.slice none 0 0)))∧Flow.Grow W w':=by
 have e1:min (max (room:Int) 1) 8=(room:Int):=by omega
 have e0:min (max (3:Int) 0) 16=3:=by decide
 have e9:IntKind.i64.wrap (3 * 3)=9:=by decide
 have r1:decide ((room:Int) < 1)=false:=by simp;omega
 have r2:decide ((room:Int) > 8)=false:=by simp;omega
 go_enter Try.func25,Try.ntmps25
 go_upto_region 2 with fail
 have HBw10:Hid ((W.alloc (.cells #[.int .i64 0,.int .i64 0,.slice none 0 0] 41)).heap[W.heap.size]?=some (.cells #[.int .i64 0,.int .i64 0,.slice none 0 0] 41 (0,0))):=Lib.hid (lay1_0 _ _)
 have HGw1:Hid (Flow.Grow W (W.alloc (.cells #[.int .i64 0,.int .i64 0,.slice none 0 0] 41))):=Lib.hid (lay1_g _ _)
 have HSw1:Hid ((W.alloc (.cells #[.int .i64 0,.int .i64 0,.slice none 0 0] 41)).heap.size=W.heap.size+1):=Lib.hid (by simp)
 generalize W.alloc (.cells #[.int .i64 0,.int .i64 0,.slice none 0 0] 41)=w1 at *
 obtain ⟨X,hX⟩:∃ X,X=W.heap.size:=⟨_,rfl⟩
 rw [← hX] at HBw10 HSw1 ⊢
 have HXw1:=Lib.hid hX
 clear hX
 have CXw1:Hid (∀ wq,Flow.Grow w1 wq→wq.cell? ⟨X,0,none⟩=some (.int .i64 0)∧wq.cell? ⟨X,1,none⟩=some (.int .i64 0)∧wq.cell? ⟨X,2,none⟩=some (.slice none 0 0)):=Lib.hid (fun wq g=>⟨lay_cell g HBw10.out rfl,lay_cell g HBw10.out rfl,lay_cell g HBw10.out rfl⟩)
 have FXw1:Hid (∀ wq,Flow.Grow w1 wq→(∀ k,wq.frozen? ⟨X,k,none⟩=false)):=Lib.hid (fun wq g=>fun k=>lay_frozen g HBw10.out k)
 have HMk:=make_rows9 w1
 have c0:∀ o,(w1.alloc o).cell? ⟨X,0,none⟩=some (.int .i64 0):=fun o=>(CXw1.out _ (Flow.grow_alloc _ _)).1
 have c1:∀ o,(w1.alloc o).cell? ⟨X,1,none⟩=some (.int .i64 0):=fun o=>(CXw1.out _ (Flow.grow_alloc _ _)).2.1
 have c2:∀ o,(w1.alloc o).cell? ⟨X,2,none⟩=some (.slice none 0 0):=fun o=>(CXw1.out _ (Flow.grow_alloc _ _)).2.2
 have fA:∀ o k,(w1.alloc o).frozen? ⟨X,k,none⟩=false:=fun o k=>FXw1.out _ (Flow.grow_alloc _ _) k
 go_wp2_with fail
 have hw:=HXw1.out
 have hs:=HSw1.out
 generalize hq:(Obj.cells #[Value.slice none 0 0,Value.slice none 0 0,Value.slice none 0 0,Value.slice none 0 0,Value.slice none 0 0,Value.slice none 0 0,Value.slice none 0 0,Value.slice none 0 0,Value.slice none 0 0] 39)=ob at *
 have ho:(w1.alloc ob).ownsRow W.heap.size 39 1 (.slice (some ⟨w1.heap.size,0,none⟩) 9 9) 9 (List.replicate 9 (.slice none 0 0)):=by
  subst hq
  exact ⟨rfl,.inr ⟨w1.heap.size,9,_,rfl,by omega,heap_alloc_new _ _,Nat.le_refl _,by decide,rfl,rfl⟩⟩
 have hg:Flow.Grow W (w1.alloc ob):=HGw1.out.trans (Flow.grow_alloc _ _)
 exact bodyPost_ret (mailNew_res X _ _ _ _ _ rfl (row3_set _ _ _ (heap_keep (Flow.grow_alloc _ _) HBw10.out))) rfl ⟨⟨_,_,rfl,row3_own _ _ _ ho (by omega)⟩,row3_grow _ _ _ hg (by omega)⟩
theorem first_res (X:Nat) (tmps:Array Value) (w:World) (c0 c1 c2 c3:Value) (h4:tmps.getD 4 undef=.pointer (some ⟨X,0,none⟩)) (hx:w.heap[X]?=some (.cells #[c0,c1,c2,c3] 43 (0,0))) :
  (results Try.f9 tmps).run Try.prog w=.ok (.agg #[c0,c1,c2,c3]) w:=by
 have x0:=(cell_of_row w X 0 _ _ _ hx).trans rfl
 have x1:=(cell_of_row w X 1 _ _ _ hx).trans rfl
 have x2:=(cell_of_row w X 2 _ _ _ hx).trans rfl
 have x3:=(cell_of_row w X 3 _ _ _ hx).trans rfl
 simp at x0 x1 x2 x3
 simp only [Array.getD_eq_getD_getElem?] at h4
 simp [results,Try.results9,h4,x0,x1,x2,x3,go_sem]
open As in
set_option maxRecDepth 100000 in
set_option maxHeartbeats 1000000 in
theorem asyncFirst_own (room:Nat) (vp:Value) (ls:List Pr.Lb) (css:List (List Value)) (ps:List Pr.Pd) (W:World) (h1:1≤room) (h8:room≤8) (hP:Pr.PeersAt W vp ls css ps) :
  Calls Try.prog 9 #[vp,.int .i64 (room:Nat)] W fun e w'=>(∃ sa sn sc va vn vc,e=.returned (.agg #[.slice sa sn sc,.int .i64 3,.int .i64 (room:Nat),.slice va vn vc])∧∀ V,CfgD V w' W.heap.size (.slice sa sn sc) (.slice va vn vc) first)∧Flow.Grow W w':=by
 have HJ:Hid (∀ wq,Flow.Grow W wq→Calls Try.prog 24 #[vp] wq fun e w'=>(∃ v',e=.returned v'∧w'.ownsRow wq.heap.size 3 1 v' 3 [.int .i64 0,.int .i64 0,.int .i64 0])∧Flow.Grow wq w'):=Lib.hid (fun wq g=>jointFirst_any vp ls css ps wq (hP.grow g))
 have HN:Hid (∀ wq,Calls Try.prog 25 #[.int .i64 3,.int .i64 (room:Nat)] wq fun e w'=>(∃ g gc,e=.returned (.agg #[.int .i64 3,.int .i64 (room:Nat),.slice (some ⟨g,0,none⟩) 9 gc])∧w'.ownsRow wq.heap.size 39 1 (.slice (some ⟨g,0,none⟩) 9 gc) 9 (List.replicate 9 (.slice none 0 0)))∧Flow.Grow wq w'):=Lib.hid (fun wq=>mailNew_any room wq h1 h8)
 obtain ⟨pb,po,pc,rfl,_,_⟩:=hP.at_
 clear hP
 obtain ⟨iM,hiM,hM0,hM1,hM2⟩:=info_parts info_config
 go_enter Try.func9,Try.ntmps9
 go_upto_region 1 with fail
 have HBw10:Hid ((W.alloc (.cells #[.slice none 0 0,.int .i64 0,.int .i64 0,.slice none 0 0] 43)).heap[W.heap.size]?=some (.cells #[.slice none 0 0,.int .i64 0,.int .i64 0,.slice none 0 0] 43 (0,0))):=Lib.hid (lay1_0 _ _)
 have HGw1:Hid (Flow.Grow W (W.alloc (.cells #[.slice none 0 0,.int .i64 0,.int .i64 0,.slice none 0 0] 43))):=Lib.hid (lay1_g _ _)
 have HSw1:Hid ((W.alloc (.cells #[.slice none 0 0,.int .i64 0,.int .i64 0,.slice none 0 0] 43)).heap.size=W.heap.size+1):=Lib.hid (by simp)
 generalize W.alloc (.cells #[.slice none 0 0,.int .i64 0,.int .i64 0,.slice none 0 0] 43)=w1 at *
 obtain ⟨X,hX⟩:∃ X,X=W.heap.size:=⟨_,rfl⟩
 rw [← hX] at HBw10 HSw1 ⊢
 have HXw1:=Lib.hid hX
 clear hX
 have CXw1:Hid (∀ wq,Flow.Grow w1 wq→wq.cell? ⟨X,0,none⟩=some (.slice none 0 0)∧wq.cell? ⟨X,1,none⟩=some (.int .i64 0)∧wq.cell? ⟨X,2,none⟩=some (.int .i64 0)∧wq.cell? ⟨X,3,none⟩=some (.slice none 0 0)):=Lib.hid (fun wq g=>⟨lay_cell g HBw10.out rfl,lay_cell g HBw10.out rfl,lay_cell g HBw10.out rfl,lay_cell g HBw10.out rfl⟩)
 have FXw1:Hid (∀ wq,Flow.Grow w1 wq→(∀ k,wq.frozen? ⟨X,k,none⟩=false)):=Lib.hid (fun wq g=>fun k=>lay_frozen g HBw10.out k)
 go_wp2_with (first
  | (go_at_call 24;refine (HJ.out _ HGw1.out).mono ?_;rintro e w2 ⟨⟨v',rfl,ho⟩,hg⟩;obtain ⟨sa,sc,rfl⟩:=own_form ho;have HO:=Lib.hid ho;have HG2:=Lib.hid hg;clear ho hg)
  | (go_at_call 25;refine (HN.out _).mono ?_;rintro e w3 ⟨⟨g,gc,rfl,ho⟩,hg⟩;have HO3:=Lib.hid ho;have HG3:=Lib.hid hg;clear ho hg;have HGa:=Lib.hid (HG2.out.trans HG3.out);obtain ⟨c00,c01,c02,c03⟩:=CXw1.out w3 (HGa.out);have f0:=FXw1.out w3 (HGa.out)))
 have hw:=HXw1.out
 have hs:=HSw1.out
 have h2s:=HG2.out.size
 have hgl:=(HO3.out.lt g rfl).1
 have hx3:=heap_keep HGa.out HBw10.out
 refine bodyPost_ret (first_res X _ _ _ _ _ _ rfl (row4_set _ _ _ _ hx3)) rfl ⟨⟨_,_,_,_,_,_,rfl,?_⟩,row4_grow _ _ _ _ (HGw1.out.trans HGa.out) (by omega)⟩
 have hown:=own_keep HO.out HG3.out
 intro V
 have hW:W.heap.size≤w1.heap.size:=HGw1.out.size
 refine ⟨?_,List.replicate 9 (.slice none 0 0),?_,fun i hi=>?_⟩
 ·rcases hown.2 with ⟨e,h0⟩ | ⟨g',cap,cur,e,hB,_⟩
  ·omega
  ·cases e
   exact Pr.own_mono (row4_own _ _ _ _ hown (by omega)) hW
 ·exact Pr.own_mono (row4_own _ _ _ _ HO3.out (by omega)) (Nat.le_trans hW HG2.out.size)
 ·have hi9:i < 9:=by simpa [first] using hi
  rw [getD_rep hi9,show first.2.getD i []=[] from getD_rep hi9]
  exact .inl (World.ownsRow_nil _ _ _ _)
theorem wp_sto1' {P:Program} {o:Oper} {a:Act} {w:World} {K:Act→World→Prop} {Q:Exit→Act→World→Prop} {T:TypeId} {s x:Tmp} {b off:Nat} {va:Option Addr} {vn vc:Nat} {u:Value} (hop:o.op=.store T (.tmp s) (.tmp x)) (hd:o.dst=none) (hsz:(sizeOf T).run P w=.ok 1 w) (hs:a.eval (.tmp s)=.pointer (some ⟨b,off,none⟩)) (hx:a.eval (.tmp x)=.slice va vn vc) (hc:w.cell? ⟨b,off,none⟩=some u) (hf:w.frozen? ⟨b,off,none⟩=false)
  (k:K a (w.setCell ⟨b,off,none⟩ (.slice va vn vc))):o.wp P a w K Q:=by
 have hr:(execOp a.eval o).run P w=.ok .skip (w.setCell ⟨b,off,none⟩ (.slice va vn vc)):=by
  generalize a.eval=ρ at hs hx ⊢
  simp [execOp,hop,hs,hx,Instr.storeAt,Instr.sureAddr,storeVar,Value.cells,hsz,storeCells,hc,hf,go_sem]
 unfold Oper.wp
 rw [hr,Oper.upon_skip]
 rw [show a.put o.dst undef=a by rw [hd];rfl]
 exact k
structure RF (w1:World) (H B:Nat) (nine:Obj) (oa:Option Addr) (oc i:Nat) (L:Nat→Bool) (w:World):Prop where
 grow:Flow.Grow w1 w
 size:B≤w.heap.size
 nine_:w.heap[H]?=some nine
 at_:L 11=false→w.heap[H+1]?=some (.cells #[.slice oa i oc,.slice (some ⟨H,0,none⟩) 9 9] 46 (0,0))
 own:L 9=false→w.ownsRow B 3 1 (.slice oa i oc) i (List.replicate i (.int .i64 0))
theorem RF.more {w1 w w':World} {H B oc i:Nat} {nine:Obj} {oa:Option Addr} {L:Nat→Bool} (h:RF w1 H B nine oa oc i L w) (g:Flow.Grow w w') (j:Nat):RF w1 H B nine oa oc i (Flow.ad L j) w' :=
 ⟨h.grow.trans g,Nat.le_trans h.size g.size,heap_keep g h.nine_,fun e=>heap_keep g (h.at_ (by unfold Flow.ad at e;simp at e;exact e.2)),fun e=>own_keep (h.own (by unfold Flow.ad at e;simp at e;exact e.2)) g⟩
theorem rfirst_res (X:Nat) (tmps:Array Value) (w:World) (c0 c1:Value) (h4:tmps.getD 2 undef=.pointer (some ⟨X,0,none⟩)) (hx:w.heap[X]?=some (.cells #[c0,c1] 46 (0,0))) :
  (results Try.f10 tmps).run Try.prog w=.ok (.agg #[c0,c1]) w:=by
 have x0:=(cell_of_row w X 0 _ _ _ hx).trans rfl
 have x1:=(cell_of_row w X 1 _ _ _ hx).trans rfl
 simp at x0 x1
 simp only [Array.getD_eq_getD_getElem?] at h4
 simp [results,Try.results10,h4,x0,x1,go_sem]
open As in
set_option maxRecDepth 100000 in
set_option maxHeartbeats 2000000 in
theorem refFirst_any (vp:Value) (ls:List Pr.Lb) (css:List (List Value)) (ps:List Pr.Pd) (W:World) (hP:Pr.PeersAt W vp ls css ps) :
  Calls Try.prog 10 #[vp] W fun e w'=>(∃ sa sn sc va vn vc,e=.returned (.agg #[.slice sa sn sc,.slice va vn vc])∧CfgAt w' (.slice sa sn sc) (.slice va vn vc) first)∧Flow.Grow W w':=by
 obtain ⟨pb,po,pc,rfl,hpb,hpa⟩:=hP.at_
 have HPa:=Lib.hid hpa
 clear hP hpa
 obtain ⟨i0,hi,hz0,hz1,hz2⟩:=info_parts info_int
 have e9:IntKind.i64.wrap (3 * 3)=9:=by decide
 go_enter Try.func10,Try.ntmps10
 go_upto_region 1 with fail
 have HBw10:Hid ((W.alloc (.cells #[.slice none 0 0,.slice none 0 0] 46)).heap[W.heap.size]?=some (.cells #[.slice none 0 0,.slice none 0 0] 46 (0,0))):=Lib.hid (lay1_0 _ _)
 have HGw1:Hid (Flow.Grow W (W.alloc (.cells #[.slice none 0 0,.slice none 0 0] 46))):=Lib.hid (lay1_g _ _)
 have HSw1:Hid ((W.alloc (.cells #[.slice none 0 0,.slice none 0 0] 46)).heap.size=W.heap.size+1):=Lib.hid (by simp)
 generalize W.alloc (.cells #[.slice none 0 0,.slice none 0 0] 46)=w1 at *
 obtain ⟨X,hX⟩:∃ X,X=W.heap.size:=⟨_,rfl⟩
 rw [← hX] at HBw10 HSw1 ⊢
 have HXw1:=Lib.hid hX
 clear hX
 have CXw1:Hid (∀ wq,Flow.Grow w1 wq→wq.cell? ⟨X,0,none⟩=some (.slice none 0 0)∧wq.cell? ⟨X,1,none⟩=some (.slice none 0 0)):=Lib.hid (fun wq g=>⟨lay_cell g HBw10.out rfl,lay_cell g HBw10.out rfl⟩)
 have FXw1:Hid (∀ wq,Flow.Grow w1 wq→(∀ k,wq.frozen? ⟨X,k,none⟩=false)):=Lib.hid (fun wq g=>fun k=>lay_frozen g HBw10.out k)
 have HMk:=make_rows9 w1
 go_upto_region 2 with fail
 have HB20:Hid (((w1.alloc (.cells #[.slice none 0 0,.slice none 0 0,.slice none 0 0,.slice none 0 0,.slice none 0 0,.slice none 0 0,.slice none 0 0,.slice none 0 0,.slice none 0 0] 39)).alloc (.cells #[.slice none 0 0,.slice (some ⟨w1.heap.size,0,none⟩) 9 9] 46)).heap[w1.heap.size]?=some (.cells #[.slice none 0 0,.slice none 0 0,.slice none 0 0,.slice none 0 0,.slice none 0 0,.slice none 0 0,.slice none 0 0,.slice none 0 0,.slice none 0 0] 39 (0,0))):=Lib.hid (lay2_0 _ _ _)
 have HB21:Hid (((w1.alloc (.cells #[.slice none 0 0,.slice none 0 0,.slice none 0 0,.slice none 0 0,.slice none 0 0,.slice none 0 0,.slice none 0 0,.slice none 0 0,.slice none 0 0] 39)).alloc (.cells #[.slice none 0 0,.slice (some ⟨w1.heap.size,0,none⟩) 9 9] 46)).heap[w1.heap.size+1]?=some (.cells #[.slice none 0 0,.slice (some ⟨w1.heap.size,0,none⟩) 9 9] 46 (0,0))):=Lib.hid (lay2_1 _ _ _)
 have HGw2:Hid (Flow.Grow w1 ((w1.alloc (.cells #[.slice none 0 0,.slice none 0 0,.slice none 0 0,.slice none 0 0,.slice none 0 0,.slice none 0 0,.slice none 0 0,.slice none 0 0,.slice none 0 0] 39)).alloc (.cells #[.slice none 0 0,.slice (some ⟨w1.heap.size,0,none⟩) 9 9] 46))):=Lib.hid (lay2_g _ _ _)
 have HSw2:Hid (((w1.alloc (.cells #[.slice none 0 0,.slice none 0 0,.slice none 0 0,.slice none 0 0,.slice none 0 0,.slice none 0 0,.slice none 0 0,.slice none 0 0,.slice none 0 0] 39)).alloc (.cells #[.slice none 0 0,.slice (some ⟨w1.heap.size,0,none⟩) 9 9] 46)).heap.size=w1.heap.size+1+1):=Lib.hid (by simp)
 generalize (w1.alloc (.cells #[.slice none 0 0,.slice none 0 0,.slice none 0 0,.slice none 0 0,.slice none 0 0,.slice none 0 0,.slice none 0 0,.slice none 0 0,.slice none 0 0] 39)).alloc (.cells #[.slice none 0 0,.slice (some ⟨w1.heap.size,0,none⟩) 9 9] 46)=w2 at *
 obtain ⟨H,hH⟩:∃ H,H=w1.heap.size:=⟨_,rfl⟩
 rw [← hH] at HB20 HB21 HSw2 ⊢
 have HH:=Lib.hid hH
 clear hH HMk
 generalize hnine:(Obj.cells #[.slice none 0 0,.slice none 0 0,.slice none 0 0,.slice none 0 0,.slice none 0 0,.slice none 0 0,.slice none 0 0,.slice none 0 0,.slice none 0 0] 39 (0,0))=nine at *
 have Hnine:=Lib.hid hnine
 clear hnine
 go_wp2_with fail
 go_loopw [4] (fun iv wr=>∃ (i oc:Nat) (oa:Option Addr),i≤3∧iv=.int .i64 i∧Hid (RF w1 H (H+2) nine oa oc i (fun _=>false) wr)) (fun iv _=>3 - (intOf iv).toNat)
 case atStart=>exact ⟨0,0,none,by omega,rfl,Lib.hid ⟨HGw2.out,by rw [HSw2.out];exact Nat.le_refl _,HB20.out,fun _=>HB21.out,fun _=>World.ownsRow_nil _ _ _ _⟩⟩
 case round =>
  obtain ⟨i,oc,oa,hi3,rfl,HR⟩:=hrel
  rename World=>wo
  have HX:=Lib.hid HXw1.out
  by_cases hin:i < 3
  ·obtain ⟨va,vf,vn,p,hp,f0,f1,f2,f3,f4,f5,f6,f7,f8,f9⟩:=HPa.out i hin
   have HF3:Hid (∀ wq,Flow.Grow w1 wq→wq.cell? ⟨pb,po+i * 6+3,none⟩=some (.int .i64 0)):=Lib.hid (fun wq g=>Xm2.cell_grow (HGw1.out.trans g) f3)
   clear f0 f1 f2 f3 f4 f5 f6 f7 f8 f9 hp
   go_upto_region 5 with fail
   refine Flow.regionG (C:=RF w1 H (H+2) nine oa oc i) (Fs:=[.inl ((.pointer (some ⟨H+1,0,none⟩))),.inl ((.slice oa i oc)),.inl ((.slice (some ⟨pb,po,none⟩) 3 pc)),.inl ((.int .i64 (i:Int))),.inl ((.pointer (some ⟨pb,po+i * 6,none⟩))),.inl ((.pointer (some ⟨pb,po+i * 6+2,none⟩))),.inl ((.pointer (some ⟨pb,po+i * 6+2+1,none⟩))),.inl ((.int .i64 0)),.inr (fun v w=>∃ q,v=.slice (some ⟨q,0,none⟩) 1 1∧w.heap[q]?=some (.cells #[.int .i64 0] 3 (0,0))),.inr (fun v w=>∃ a c,v=.slice a (i+1) c∧w.ownsRow (H+2) 3 1 v (i+1) (List.replicate (i+1) (.int .i64 0))),.inl ((.pointer (some ⟨H+1,0,none⟩))),.inr (fun _ w=>∃ a c,w.heap[H+1]?=some (.cells #[.slice a (i+1) c,.slice (some ⟨H,0,none⟩) 9 9] 46 (0,0))∧w.ownsRow (H+2) 3 1 (.slice a (i+1) c) (i+1) (List.replicate (i+1) (.int .i64 0)))])
    [[],[0],[],[],[2,3],[4],[5],[6],[7],[1,8],[],[10,9]] [[],[0],[],[],[2,3],[2,3,4],[2,3,4,5],[2,3,4,5,6],[2,3,4,5,6,7],[0,1,2,3,4,5,6,7,8],[],[0,1,2,3,4,5,6,7,8,9,10]] [11] (by kernel_rfl) (by kernel_rfl) (by kernel_rfl) rfl (⟨HR.out.grow.trans (Flow.grow_drew _),HR.out.size,HR.out.nine_,HR.out.at_,fun e=>own_keep (HR.out.own e) (Flow.grow_drew _)⟩) ?ones5 ?ends5
   case ones5 =>
    refine Flow.OnesG.start (by exact ⟨fun _ _ _ g ⟨q,h1,h2⟩=>⟨q,h1,heap_keep g h2⟩,fun _ _ _ g ⟨a,b,h1,h2⟩=>⟨a,b,h1,own_keep h2 g⟩,fun _ _ _ g ⟨a,b,h1,h2⟩=>⟨a,b,heap_keep g h1,own_keep h2 g⟩,trivial⟩) (fun L w w' i h g=>h.more g i) fun HST HCG=>?_
    refine Flow.oq rfl HST HCG ?_ ?_
    ·intro L a w hC hLi hoff _
     have e3:a.eval (.tmp 3)=(.pointer (some ⟨H+1,0,none⟩)):=hoff.at2 3 0 hLi (by kernel_rfl)
     refine Flow.gs rfl ?_
     generalize a.eval=ρ at e3 ⊢
     simp [execOp,e3,go_sem]
    refine Flow.oq rfl HST HCG ?_ ?_
    ·rintro L a w hC hLi hoff ⟨k0,-⟩
     have e18:=Flow.kv k0 rfl rfl
     refine Flow.gs rfl ?_
     generalize a.eval=ρ at e18 ⊢
     have h0:=(cell_of_row w (H+1) 0 _ _ _ (hC.at_ (hoff.notyet hLi 11 (by kernel_rfl)))).trans rfl
     simp at h0
     simp [execOp,e18,h0,go_sem]
    refine Flow.oq rfl HST HCG ?_ ?_
    ·intro L a w hC hLi hoff _
     exact Flow.gs rfl (Flow.exec_move (.inl rfl) (hoff.at2 0 2 hLi (by kernel_rfl)))
    refine Flow.oq rfl HST HCG ?_ ?_
    ·intro L a w hC hLi hoff _
     exact Flow.gs rfl (Flow.exec_move (.inl rfl) (hoff.at2 4 3 hLi (by kernel_rfl)))
    refine Flow.oq rfl HST HCG ?_ ?_
    ·rintro L a w hC hLi hoff ⟨k2,k3,-⟩
     have e20:=Flow.kv k2 rfl rfl
     have e21:=Flow.kv k3 rfl rfl
     refine Flow.gs rfl ?_
     generalize a.eval=ρ at e20 e21 ⊢
     simp [execOp,e20,e21,go_sem];intro hh;omega
    refine Flow.oq rfl HST HCG ?_ ?_
    ·rintro L a w hC hLi hoff ⟨k4,-⟩
     have e22:=Flow.kv k4 rfl rfl
     refine Flow.gs rfl ?_
     generalize a.eval=ρ at e22 ⊢
     simp [execOp,e22,go_sem]
    refine Flow.oq rfl HST HCG ?_ ?_
    ·rintro L a w hC hLi hoff ⟨k5,-⟩
     have e23:=Flow.kv k5 rfl rfl
     refine Flow.gs rfl ?_
     generalize a.eval=ρ at e23 ⊢
     simp [execOp,e23,go_sem]
    refine Flow.oq rfl HST HCG ?_ ?_
    ·rintro L a w hC hLi hoff ⟨k6,-⟩
     have e24:=Flow.kv k6 rfl rfl
     refine Flow.gs rfl ?_
     generalize a.eval=ρ at e24 ⊢
     have h0:=HF3.out w hC.grow
     simp [execOp,e24,h0,go_sem]
    refine Flow.oq rfl HST HCG ?_ ?_
    ·rintro L a w hC hLi hoff ⟨k7,-⟩
     have e25:=Flow.kv k7 rfl rfl
     refine .inl ⟨Flow.want_none rfl,?_⟩
     refine Flow.run_val (v:=.slice (some ⟨w.heap.size,0,none⟩) 1 1) (w':=w.alloc (.cells #[.int .i64 0] 3)) ?_ (Flow.grow_alloc _ _) ⟨_,rfl,heap_alloc_new _ _⟩
     generalize a.eval=ρ at e25 ⊢
     simp [execOp,e25,go_sem]
    refine Flow.OnesG.cons (Flow.OneG.w (by kernel_rfl) ?_) ?_
    ·rintro L a w hC hLi hoff ⟨k1,k8,-⟩
     have e19:=Flow.kv k1 rfl rfl
     have e26:=Flow.kr k8 rfl rfl
     refine ⟨Flow.want_none rfl,?_⟩
     obtain ⟨q,he26,hq⟩:=e26
     have hown:=hC.own hLi
     have h11:=hoff.notyet hLi 11 (by kernel_rfl)
     have hat:=hC.at_ h11
     refine wp_app1 _ _ 39 rfl (H+2) 3 i0 _ 1 8 Try.underlying39 hi hz0 hz1 hz2 rfl (by decide) _ i _ e19 hown q #[.int .i64 0] _ he26 hq rfl (by intro u hu;simp at hu;subst hu;rfl) (by omega) (by decide) hC.size fun g cap w' h2 h3 h4 h5=>?_
     exact ⟨_,rfl,⟨grow_row hC.grow h3 (fun r e=>by have:=h5 r e;have:=HH.out;omega),Nat.le_trans hC.size h3.size,by rw [h3.block H (by have:=hC.size;omega) (fun e=>by have:=h5 H e.symm;omega)];exact hC.nine_,fun _=>by rw [h3.block (H+1) (by have:=hC.size;omega) (fun e=>by have:=h5 (H+1) e.symm;omega)];exact hat,fun e=>by simp [Flow.ad] at e⟩,_,_,rfl,by rw [List.replicate_succ'];exact h2⟩
    refine Flow.oq rfl HST HCG ?_ ?_
    ·intro L a w hC hLi hoff _
     have e3:a.eval (.tmp 3)=(.pointer (some ⟨H+1,0,none⟩)):=hoff.at2 3 10 hLi (by kernel_rfl)
     refine Flow.gs rfl ?_
     generalize a.eval=ρ at e3 ⊢
     simp [execOp,e3,go_sem]
    refine Flow.OnesG.cons (Flow.OneG.w (by kernel_rfl) ?_) ?_
    ·rintro L a w hC hLi hoff ⟨k10,k9,-⟩
     have e28:=Flow.kv k10 rfl rfl
     have e27:=Flow.kr k9 rfl rfl
     refine ⟨Flow.want_none rfl,?_⟩
     obtain ⟨a1,c1,e27,ho⟩:=e27
     rw [e27] at ho
     have hat:=hC.at_ hLi
     refine wp_sto1' (s:=28) (x:=27) rfl rfl (Try.sizeOf39 w) e28 e27 ((cell_of_row w (H+1) 0 _ _ _ hat).trans rfl) (frozen_of_row w (H+1) 0 _ _ hat) ?_
     exact ⟨undef,rfl,⟨set_grow hC.grow (by have:=HH.out;omega) _ _,by have:=hC.size;rw [show (w.setCell ⟨H+1,0,none⟩ (.slice a1 (i+1) c1)).heap.size=w.heap.size by simp [World.setCell]];exact this,set_other hC.nine_ (by omega),fun e=>by simp [Flow.ad] at e,fun e=>by have:=hoff.cl;exact (own_keep (hC.own (by unfold Flow.ad at e;simp at e;exact e)) (Flow.grow_refl _)).kept (grownBy_set _ _ _ _) (.inr (own_not (hC.own (by unfold Flow.ad at e;simp at e;exact e)) hat (by decide)))⟩,fun s _=>⟨a1,c1,(set_cells hat 0 _).trans rfl,ho.kept (grownBy_set _ _ _ _) (.inr (own_not ho hat (by decide)))⟩⟩
    exact trivial
   case ends5 =>
    intro LL wx hLL hC
    iterate 8 refine Flow.endsG_v rfl ?_
    refine Flow.endsG_r rfl fun v26 _=>?_
    refine Flow.endsG_r rfl fun v27 _=>?_
    refine Flow.endsG_v rfl ?_
    refine Flow.endsG_s rfl rfl rfl fun hE11=>?_
    refine Flow.endsG_nil ?_
    simp only [Act.put,List.setIfInBounds_toArray,List.set_cons_succ,List.set_cons_zero]
    obtain ⟨a1,c1,hat,ho⟩:=hE11
    have HR2:Hid (RF w1 H (H+2) nine a1 c1 (i+1) (fun _=>false) wx):=Lib.hid ⟨hC.grow,hC.size,hC.nine_,fun _=>hat,fun _=>ho⟩
    clear hC hat ho
    go_wp2_with fail
    go_roundw
    case rel=>exact ⟨i+1,c1,a1,by omega,by go_num,HR2⟩
    case measure=>simp [intOf];omega
  ·obtain rfl:i=3:=by omega
   have hat:=HR.out.at_ rfl
   have hown:=HR.out.own rfl
   have hx:=heap_keep HR.out.grow HBw10.out
   have a0:=(cell_of_row wo (H+1) 0 _ _ _ hat).trans rfl
   have a1:=(cell_of_row wo (H+1) 1 _ _ _ hat).trans rfl
   have x0:=(cell_of_row wo X 0 _ _ _ hx).trans rfl
   have x1:=(cell_of_row wo X 1 _ _ _ hx).trans rfl
   have fx:=fun k=>frozen_of_row wo X k _ _ hx
   have HAll:=Lib.hid (And.intro hown hx)
   clear hat hown hx
   go_wp2_with fail
   have hw:=HXw1.out
   have hXH:X < H:=by have:=HH.out;have:=HSw1.out;omega
   have h1:=set_cells HAll.out.2 0 (.slice oa 3 oc)
   have h2:=set_cells h1 1 (.slice (some ⟨H,0,none⟩) 9 9)
   refine bodyPost_ret (rfirst_res X _ _ _ _ rfl (h2.trans rfl)) rfl ⟨⟨_,_,_,_,_,_,rfl,?_⟩,grow_set' (grow_set' (HGw1.out.trans HR.out.grow) (by omega) _ _) (by omega) _ _⟩
   have hb:∀ v:Value,∀ g,v.ownBlock=some g→g≠X→v.ownBlock=none∨v.ownBlock≠some X:=fun v g e hg=>.inr (by rw [e];simpa using hg)
   refine ⟨?_,List.replicate 9 (.slice none 0 0),?_,fun j hj=>?_⟩
   ·rcases HAll.out.1.2 with ⟨e,h0⟩ | ⟨g',cap,cur,e,hB,_⟩
    ·omega
    ·cases e
     exact Seg.of_own ((HAll.out.1.kept (grownBy_set _ X 0 _) (hb _ g' rfl (by omega))).kept (grownBy_set _ X 1 _) (hb _ g' rfl (by omega)))
   ·have hn:wo.ownsRow 0 39 1 (.slice (some ⟨H,0,none⟩) 9 9) 9 (List.replicate 9 (.slice none 0 0)):=⟨rfl,.inr ⟨H,9,_,rfl,Nat.zero_le _,by rw [HR.out.nine_,← Hnine.out],Nat.le_refl _,by decide,rfl,rfl⟩⟩
    exact Seg.of_own ((hn.kept (grownBy_set _ X 0 _) (hb _ H rfl (by omega))).kept (grownBy_set _ X 1 _) (hb _ H rfl (by omega)))
   ·have hi9:j < 9:=by simpa [first] using hj
    rw [getD_rep hi9,show first.2.getD j []=[] from getD_rep hi9]
    exact ⟨Seg.nil 1 _,_,_,_,rfl,Nat.le_refl _⟩
end Go.Proofs.Ytcpodmjcgfgmnaa
