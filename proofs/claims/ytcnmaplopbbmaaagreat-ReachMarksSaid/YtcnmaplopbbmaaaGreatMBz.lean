/- reach.Of by its contract: where the graph may not be; where the document's stages end well. -/
import Derived.Test.YtcnmaplopbbmaaaGreatRHolds
import Derived.Test.YtcnmaplopbbmaaaGreatMBf
namespace Go.Proofs.YtcnmaplopbbmaaaGreat
open Go.RowKit Go.Maps
theorem of17_res (tmps:Array Value) (w:World) (X:Nat) (c0 c1 c2 c3 u v:Value) (h1:tmps.getD 2 undef=.pointer (some ⟨X,0,none⟩)) (h2:tmps.getD 3 undef=u) (h3:tmps.getD 4 undef=v) (hx:w.heap[X]? = some (.cells #[c0,c1,c2,c3] 34 (0,0))) :
  (results Tryz.f6 tmps).run Tryz.prog w=.ok (.tuple #[.agg #[c0,c1,c2,c3],u,v]) w:=by
 have x0:=(cell_of_row w X 0 _ _ _ hx).trans rfl
 have x1:=(cell_of_row w X 1 _ _ _ hx).trans rfl
 have x2:=(cell_of_row w X 2 _ _ _ hx).trans rfl
 have x3:=(cell_of_row w X 3 _ _ _ hx).trans rfl
 simp at x0 x1 x2 x3
 simp only [Array.getD_eq_getD_getElem?] at h1 h2 h3
 simp [results,Tryz.results6,h1,h2,h3,x0,x1,x2,x3,go_sem]
set_option maxRecDepth 100000 in
set_option maxHeartbeats 8000000 in
theorem reachOf_bad (v0 v1 v2 v3:Value) (g:Gr.G) (W:World) (hf:g.Few) (hns:g.ns.length≤1000) (hc:g.check≠0) (h:Gr.GAt W v0 v1 v2 v3 g) :
  Calls Tryz.prog 6 #[.agg #[v0,v1,v2,v3]] W fun e w'=>e=.returned (.tuple #[.agg #[.int .i64 0,.int .i64 0,.slice none 0 0,.slice none 0 0],.slice none 0 0,.int .i64 g.check])∧Flow.Grow W w':=by
 have HNew:Hid (∀ w,Flow.Grow W w→Calls Tryz.prog 15 #[.agg #[v0,v1,v2,v3]] w fun e w'=>e=.returned (.tuple #[.pointer none,.int .i64 g.check])∧Flow.Grow w w'):=Lib.hid fun w hg=>(new_any v0 v1 v2 v3 g w hf (by omega) (h.grow hg)).mono fun e w' ⟨a,b⟩=>by
  rcases a with ⟨_,he⟩ | ⟨he,_⟩
  ·exact ⟨he,b⟩
  ·exact absurd he hc
 obtain ⟨a0,c0,rfl⟩:=h.parts
 obtain ⟨a1,c1,rfl⟩:=h.msgs
 obtain ⟨an,cn,rfl⟩:=Gr.Recs.form h.nodes
 obtain ⟨ae,ce,rfl⟩:=Gr.Recs.form h.edges
 clear h hns hf
 generalize g.ns.length=nl at *
 generalize g.es.length=E at *
 generalize g.check=ck at *
 have d0:(ck != 0)=true:=by simp [hc]
 clear hc
 go_enter Tryz.func6,Tryz.ntmps6
 go_upto_region 1 with fail
 have HBw10:Hid (((W.alloc (.cells #[.slice a0 g.np c0,.slice a1 g.nm c1,.slice an nl cn,.slice ae E ce] 27)).alloc (.cells #[.int .i64 0,.int .i64 0,.slice none 0 0,.slice none 0 0] 34)).heap[W.heap.size]? = some (.cells #[.slice a0 g.np c0,.slice a1 g.nm c1,.slice an nl cn,.slice ae E ce] 27 (0,0))):=Lib.hid (lay2_0 _ _ _)
 have HBw11:Hid (((W.alloc (.cells #[.slice a0 g.np c0,.slice a1 g.nm c1,.slice an nl cn,.slice ae E ce] 27)).alloc (.cells #[.int .i64 0,.int .i64 0,.slice none 0 0,.slice none 0 0] 34)).heap[W.heap.size+1]? = some (.cells #[.int .i64 0,.int .i64 0,.slice none 0 0,.slice none 0 0] 34 (0,0))):=Lib.hid (lay2_1 _ _ _)
 have HGw1:Hid (Flow.Grow W ((W.alloc (.cells #[.slice a0 g.np c0,.slice a1 g.nm c1,.slice an nl cn,.slice ae E ce] 27)).alloc (.cells #[.int .i64 0,.int .i64 0,.slice none 0 0,.slice none 0 0] 34))):=Lib.hid (lay2_g _ _ _)
 have HSw1:Hid (((W.alloc (.cells #[.slice a0 g.np c0,.slice a1 g.nm c1,.slice an nl cn,.slice ae E ce] 27)).alloc (.cells #[.int .i64 0,.int .i64 0,.slice none 0 0,.slice none 0 0] 34)).heap.size=W.heap.size+1+1):=Lib.hid (by simp)
 generalize (W.alloc (.cells #[.slice a0 g.np c0,.slice a1 g.nm c1,.slice an nl cn,.slice ae E ce] 27)).alloc (.cells #[.int .i64 0,.int .i64 0,.slice none 0 0,.slice none 0 0] 34)=w1 at *
 obtain ⟨X,hX⟩:∃ X,X=W.heap.size:=⟨_,rfl⟩
 rw [← hX] at HBw10 HBw11 HSw1 ⊢
 have HXw1:=Lib.hid hX
 clear hX
 have CXw1:Hid (∀ wq,Flow.Grow w1 wq→wq.cell? ⟨X,0,none⟩=some (.slice a0 g.np c0)∧wq.cell? ⟨X,1,none⟩=some (.slice a1 g.nm c1)∧wq.cell? ⟨X,2,none⟩=some (.slice an nl cn)∧wq.cell? ⟨X,3,none⟩=some (.slice ae E ce)∧wq.cell? ⟨X+1,0,none⟩=some (.int .i64 0)∧wq.cell? ⟨X+1,1,none⟩=some (.int .i64 0)∧wq.cell? ⟨X+1,2,none⟩=some (.slice none 0 0)∧wq.cell? ⟨X+1,3,none⟩=some (.slice none 0 0)):=Lib.hid (fun wq g=>⟨lay_cell g HBw10.out rfl,lay_cell g HBw10.out rfl,lay_cell g HBw10.out rfl,lay_cell g HBw10.out rfl,lay_cell g HBw11.out rfl,lay_cell g HBw11.out rfl,lay_cell g HBw11.out rfl,lay_cell g HBw11.out rfl⟩)
 have FXw1:Hid (∀ wq,Flow.Grow w1 wq→(∀ k,wq.frozen? ⟨X,k,none⟩=false)∧(∀ k,wq.frozen? ⟨X+1,k,none⟩=false)):=Lib.hid (fun wq g=>⟨fun k=>lay_frozen g HBw10.out k,fun k=>lay_frozen g HBw11.out k⟩)
 obtain ⟨c00,c01,c02,c03,c10,c11,c12,c13⟩:=CXw1.out w1 (Flow.grow_refl _)
 go_upto_region 2 with (go_at_call 15;refine (HNew.out _ HGw1.out).mono ?_;rintro e w2 ⟨rfl,hg⟩;have HG2:=Lib.hid hg;clear hg)
 clear c00 c01 c02 c03 c10 c11 c12 c13
 obtain ⟨c00,c01,c02,c03,c10,c11,c12,c13⟩:=CXw1.out w2 (HG2.out)
 obtain ⟨f0,f1⟩:=FXw1.out w2 (HG2.out)
 go_wp2_with fail
 have hb:w2.heap[X+1]? = some (.cells #[.int .i64 0,.int .i64 0,.slice none 0 0,.slice none 0 0] 34 (0,0)):=heap_keep HG2.out HBw11.out
 have k:=row4_set17 w2 (X+1) _ (.int .i64 0) (.int .i64 0) (.slice none 0 0) (.slice none 0 0) hb
 have kg:=grow_row (HGw1.out.trans HG2.out) (row4_by w2 (X+1) (.int .i64 0) (.int .i64 0) (.slice none 0 0) (.slice none 0 0)) (fun b e=>by cases e;have:=HXw1.out;omega)
 refine bodyPost_ret (of17_res _ _ (X+1) _ _ _ _ _ _ rfl rfl rfl k) rfl ⟨rfl,kg⟩
set_option maxRecDepth 100000 in
set_option maxHeartbeats 8000000 in
theorem reachOf_fine (v0 v1 v2 v3:Value) (g:Gr.G) (f:Rs.M→List Gr.Tn) (m0:Rs.M) (i:Nat) (W:World) (hf:g.Few) (hns:g.ns.length≤200) (hc:g.check=0) (hnm:g.nm≤1000) (hfe:f=fun l=>g.turns g.labels (l,false)) (hm0:m0=g.firstL g.es.length)
  (hL:Rs.RunL f m0 i) (hi:i=(Rs.stage f m0 i).1.length) (h60:(Rs.stage f m0 i).1.length≤60) (h:Gr.GAt W v0 v1 v2 v3 g) :
  Calls Tryz.prog 6 #[.agg #[v0,v1,v2,v3]] W fun e w'=>(∃ Bs vf vm vs va vc,e=.returned (.tuple #[.agg #[.int .i64 (g.labels.length:Int),.int .i64 0,vf,vm],.slice va g.labels.length vc,.int .i64 0])∧Rs.NS w' Bs vf vm ((Rs.stage f m0 i).1.map Rs.over) (Rs.stage f m0 i).2 vs)∧Flow.Grow W w':=by
 have hMay:=Gr.G.check_may hc
 have hF:=hMay.fit hf
 have hLl:g.labels.length≤1000000:=by
  refine Nat.le_trans (g.la_len g.np) ?_
  have h0:=hMay.np
  have h1:g.np * g.nm≤16 * 1000:=Nat.mul_le_mul h0 hnm
  have h2:=Nat.mul_le_mul h0 h1
  omega
 have hG:Rs.Good f g.labels.length:=by rw [hfe];exact g.good g.labels
 have h64:m0.length=64:=by rw [hm0];exact g.firstL_len _
 have HNew:Hid (∀ w,Flow.Grow W w→Calls Tryz.prog 15 #[.agg #[v0,v1,v2,v3]] w fun e w'=>(∃ B lv,e=.returned (.tuple #[.pointer (some ⟨B,0,none⟩),.int .i64 0])∧Gr.Gm w' B v0 v1 v2 v3 lv g g.labels 0∧Gr.Srt g.labels∧w.heap.size≤B)∧Flow.Grow w w'):=Lib.hid fun w hg=>(new_any v0 v1 v2 v3 g w hf (by omega) (h.grow hg)).mono fun e w' ⟨a,b⟩=>by
  rcases a with ⟨hne,_⟩ | ⟨_,B,lv,L,he,h1,h2,h3⟩
  ·exact absurd hc hne
  ·have e1:=hMay.labels h2
   subst e1
   exact ⟨⟨B,lv,he,h1,h2.srt,h3⟩,b⟩
 have HMa:Hid (∀ w B lv,Gr.Srt g.labels→Gr.Gm w B v0 v1 v2 v3 lv g g.labels 0→Calls Tryz.prog 16 #[.pointer (some ⟨B,0,none⟩)] w fun e w'=>(∃ am nm cm fa fn fc ma mn mc vs,e=.returned (.tuple #[.slice am nm cm,.agg #[.int .i64 (g.labels.length:Int),.int .i64 0,.slice fa fn fc,.slice ma mn mc],.int .i64 0])∧Rs.NS w' w.heap.size (.slice fa fn fc) (.slice ma mn mc) ((Rs.stage f m0 i).1.map Rs.over) (Rs.stage f m0 i).2 vs)∧w.grownBy w' (some B)∧∃ u,Gr.Gm w' B v0 v1 v2 v3 lv g g.labels (Gr.err u 0)):=Lib.hid fun w B lv hs hg=>(marks_any B v0 v1 v2 v3 lv g g.labels f m0 w hF hfe (by rw [hm0,hMay.firstL hf]) h64 hG hLl hs hMay.zero (by omega) hg).mono fun e w' hl=>by
  obtain ⟨vl,vf,vm,vs,he,ho,hn⟩:=hl.fine hL hi h60
  obtain ⟨_,_,rfl⟩:=own_form ho
  obtain ⟨_,_,e1⟩:=own_form hn.finals
  obtain ⟨_,_,e2⟩:=own_form hn.moves
  subst e1 e2
  exact ⟨⟨_,_,_,_,_,_,_,_,_,vs,he,hn⟩,hl.1,hl.2.1⟩
 have HLa:Hid (∀ w B lv u,Gr.Gm w B v0 v1 v2 v3 lv g g.labels (Gr.err u 0)→Calls Tryz.prog 17 #[.pointer (some ⟨B,0,none⟩)] w fun e w'=>(∃ va vc,e=.returned (.slice va g.labels.length vc))∧Flow.Grow w w'):=Lib.hid fun w B lv u hg=>(glabels_any B v0 v1 v2 v3 lv g g.labels _ w hLl hg).mono fun e w' ⟨⟨v',he,ho⟩,hg⟩=>by
  obtain ⟨va,vc,rfl⟩:=own_form ho
  exact ⟨⟨va,vc,he⟩,hg⟩
 obtain ⟨a0,c0,rfl⟩:=h.parts
 obtain ⟨a1,c1,rfl⟩:=h.msgs
 obtain ⟨an,cn,rfl⟩:=Gr.Recs.form h.nodes
 obtain ⟨ae,ce,rfl⟩:=Gr.Recs.form h.edges
 clear h hns hf hMay hF hfe hm0 hG h64 hL hi h60 hc
 generalize g.ns.length=nl at *
 generalize g.es.length=E at *
 generalize g.labels=L at *
 generalize (Rs.stage f m0 i).2=rows at *
 generalize (Rs.stage f m0 i).1=ls at *
 go_enter Tryz.func6,Tryz.ntmps6
 go_upto_region 1 with fail
 have HBw10:Hid (((W.alloc (.cells #[.slice a0 g.np c0,.slice a1 g.nm c1,.slice an nl cn,.slice ae E ce] 27)).alloc (.cells #[.int .i64 0,.int .i64 0,.slice none 0 0,.slice none 0 0] 34)).heap[W.heap.size]? = some (.cells #[.slice a0 g.np c0,.slice a1 g.nm c1,.slice an nl cn,.slice ae E ce] 27 (0,0))):=Lib.hid (lay2_0 _ _ _)
 have HBw11:Hid (((W.alloc (.cells #[.slice a0 g.np c0,.slice a1 g.nm c1,.slice an nl cn,.slice ae E ce] 27)).alloc (.cells #[.int .i64 0,.int .i64 0,.slice none 0 0,.slice none 0 0] 34)).heap[W.heap.size+1]? = some (.cells #[.int .i64 0,.int .i64 0,.slice none 0 0,.slice none 0 0] 34 (0,0))):=Lib.hid (lay2_1 _ _ _)
 have HGw1:Hid (Flow.Grow W ((W.alloc (.cells #[.slice a0 g.np c0,.slice a1 g.nm c1,.slice an nl cn,.slice ae E ce] 27)).alloc (.cells #[.int .i64 0,.int .i64 0,.slice none 0 0,.slice none 0 0] 34))):=Lib.hid (lay2_g _ _ _)
 have HSw1:Hid (((W.alloc (.cells #[.slice a0 g.np c0,.slice a1 g.nm c1,.slice an nl cn,.slice ae E ce] 27)).alloc (.cells #[.int .i64 0,.int .i64 0,.slice none 0 0,.slice none 0 0] 34)).heap.size=W.heap.size+1+1):=Lib.hid (by simp)
 generalize (W.alloc (.cells #[.slice a0 g.np c0,.slice a1 g.nm c1,.slice an nl cn,.slice ae E ce] 27)).alloc (.cells #[.int .i64 0,.int .i64 0,.slice none 0 0,.slice none 0 0] 34)=w1 at *
 obtain ⟨X,hX⟩:∃ X,X=W.heap.size:=⟨_,rfl⟩
 rw [← hX] at HBw10 HBw11 HSw1 ⊢
 have HXw1:=Lib.hid hX
 clear hX
 have CXw1:Hid (∀ wq,Flow.Grow w1 wq→wq.cell? ⟨X,0,none⟩=some (.slice a0 g.np c0)∧wq.cell? ⟨X,1,none⟩=some (.slice a1 g.nm c1)∧wq.cell? ⟨X,2,none⟩=some (.slice an nl cn)∧wq.cell? ⟨X,3,none⟩=some (.slice ae E ce)∧wq.cell? ⟨X+1,0,none⟩=some (.int .i64 0)∧wq.cell? ⟨X+1,1,none⟩=some (.int .i64 0)∧wq.cell? ⟨X+1,2,none⟩=some (.slice none 0 0)∧wq.cell? ⟨X+1,3,none⟩=some (.slice none 0 0)):=Lib.hid (fun wq g=>⟨lay_cell g HBw10.out rfl,lay_cell g HBw10.out rfl,lay_cell g HBw10.out rfl,lay_cell g HBw10.out rfl,lay_cell g HBw11.out rfl,lay_cell g HBw11.out rfl,lay_cell g HBw11.out rfl,lay_cell g HBw11.out rfl⟩)
 have FXw1:Hid (∀ wq,Flow.Grow w1 wq→(∀ k,wq.frozen? ⟨X,k,none⟩=false)∧(∀ k,wq.frozen? ⟨X+1,k,none⟩=false)):=Lib.hid (fun wq g=>⟨fun k=>lay_frozen g HBw10.out k,fun k=>lay_frozen g HBw11.out k⟩)
 obtain ⟨c00,c01,c02,c03,c10,c11,c12,c13⟩:=CXw1.out w1 (Flow.grow_refl _)
 go_upto_region 2 with (go_at_call 15;refine (HNew.out _ HGw1.out).mono ?_;rintro e w2 ⟨⟨B,lv,rfl,hgm,hs,hB⟩,hg⟩;have HG2:=Lib.hid hg;have HGm:=Lib.hid hgm;have HB:=Lib.hid hB;have HS:=Lib.hid hs;clear hg hgm hB hs)
 clear c00 c01 c02 c03 c10 c11 c12 c13
 go_upto_region 5 with (go_at_call 16;refine (HMa.out _ B lv HS.out HGm.out).mono ?_;rintro e w3 ⟨⟨am,nm,cm,fa,fn,fc,ma,mn,mc,vs,rfl,hn⟩,hby,u,hgm⟩;have HBy:=Lib.hid hby;have HN3:=Lib.hid hn;have HGm3:=Lib.hid hgm;clear hn hby hgm)
 have HG3:Hid (Flow.Grow w1 w3):=Lib.hid (grow_row HG2.out HBy.out (fun b e=>by cases e;exact HB.out))
 have HBw40:Hid ((w3.alloc (.cells #[.int .i64 (L.length:Int),.int .i64 0,.slice fa fn fc,.slice ma mn mc] 34)).heap[w3.heap.size]? = some (.cells #[.int .i64 (L.length:Int),.int .i64 0,.slice fa fn fc,.slice ma mn mc] 34 (0,0))):=Lib.hid (lay1_0 _ _)
 have HGw4:Hid (Flow.Grow w3 (w3.alloc (.cells #[.int .i64 (L.length:Int),.int .i64 0,.slice fa fn fc,.slice ma mn mc] 34))):=Lib.hid (lay1_g _ _)
 have HSw4:Hid ((w3.alloc (.cells #[.int .i64 (L.length:Int),.int .i64 0,.slice fa fn fc,.slice ma mn mc] 34)).heap.size=w3.heap.size+1):=Lib.hid (by simp)
 generalize w3.alloc (.cells #[.int .i64 (L.length:Int),.int .i64 0,.slice fa fn fc,.slice ma mn mc] 34)=w4 at *
 obtain ⟨N,hN⟩:∃ X,X=w3.heap.size:=⟨_,rfl⟩
 rw [← hN] at HBw40 HSw4 ⊢
 have HXw4:=Lib.hid hN
 clear hN
 have CXw4:Hid (∀ wq,Flow.Grow w4 wq→wq.cell? ⟨N,0,none⟩=some (.int .i64 (L.length:Int))∧wq.cell? ⟨N,1,none⟩=some (.int .i64 0)∧wq.cell? ⟨N,2,none⟩=some (.slice fa fn fc)∧wq.cell? ⟨N,3,none⟩=some (.slice ma mn mc)):=Lib.hid (fun wq g=>⟨lay_cell g HBw40.out rfl,lay_cell g HBw40.out rfl,lay_cell g HBw40.out rfl,lay_cell g HBw40.out rfl⟩)
 have FXw4:Hid (∀ wq,Flow.Grow w4 wq→(∀ k,wq.frozen? ⟨N,k,none⟩=false)):=Lib.hid (fun wq g=>fun k=>lay_frozen g HBw40.out k)
 have HG4:Hid (Flow.Grow w1 w4):=Lib.hid (HG3.out.trans HGw4.out)
 have HGm4:=Lib.hid (HGm3.out.grow HGw4.out)
 generalize hll:L.length=Ln at *
 go_upto_region 7 with fail
 obtain ⟨d00,d01,d02,d03⟩:=CXw4.out w4 (Flow.grow_refl _)
 go_region_with (go_at_call 17;refine (HLa.out _ B lv u (HGm4.out.grow (Flow.grow_drew _))).mono ?_;rintro e w5 ⟨⟨va,vc,rfl⟩,hg⟩;have HG5:=Lib.hid ((Flow.grow_drew _).trans hg);obtain ⟨e00,e01,e02,e03⟩:=CXw4.out w5 (HG5.out);obtain ⟨c00,c01,c02,c03,c10,c11,c12,c13⟩:=CXw1.out w5 (HG4.out.trans HG5.out);obtain ⟨f0,f1⟩:=FXw1.out w5 (HG4.out.trans HG5.out);clear hg)
 all_goals
  go_wp2_with fail
  subst hll
  have hb:w5.heap[X+1]? = some (.cells #[.int .i64 0,.int .i64 0,.slice none 0 0,.slice none 0 0] 34 (0,0)):=heap_keep (HG4.out.trans HG5.out) HBw11.out
  have k:=row4_set17 w5 (X+1) _ (.int .i64 (L.length:Int)) (.int .i64 0) (.slice fa fn fc) (.slice ma mn mc) hb
  have kb:=row4_by w5 (X+1) (.int .i64 (L.length:Int)) (.int .i64 0) (.slice fa fn fc) (.slice ma mn mc)
  have kg:=grow_row (HGw1.out.trans (HG4.out.trans HG5.out)) kb (fun b e=>by cases e;have:=HXw1.out;omega)
  have kn:=(HN3.out.grow (HGw4.out.trans HG5.out)).ty (TY.blk hb) kb (by decide) (by decide) (by decide)
  refine bodyPost_ret (of17_res _ _ (X+1) _ _ _ _ _ _ rfl rfl rfl k) rfl ⟨⟨_,_,_,vs,va,vc,rfl,kn⟩,kg⟩
end Go.Proofs.YtcnmaplopbbmaaaGreat
namespace Go.Proofs.YtcnmaplopbbmaaaGreat
open Go.RowKit
theorem recs_block {α:Type} {k:Nat} {f:α→List Value} (hk:∀ x,(f x).length=k) {w:World} {b c n:Nat} {cs:Array Value} {T:TypeId} {fr:Nat × Nat} {xs:List α} (h:w.heap[b]? = some (.cells cs T fr)) (e:cs.toList=xs.flatMap f) (hn:n=xs.length):Gr.Recs k f w (.slice (some ⟨b,0,none⟩) n c) xs:=by
 subst hn
 refine ⟨_,c,rfl,Gr.flat_len hk xs,(fun h0=>by cases h0),fun j hj=>⟨b,0,rfl,(Array.getElem?_eq_some_iff.1 h).1,?_⟩⟩
 rw [cell_of_row w b _ _ _ _ h,Nat.zero_add,← e]
 exact Array.getElem?_toList.symm
namespace Gr
def nE:ByteArray:=⟨#[]⟩
def gA:G:=⟨[⟨1,nE,0,0,0,0,false⟩,⟨3,nE,0,1,0,-1,false⟩,⟨2,nE,0,0,0,0,false⟩],[(0,1),(1,2)],2,1⟩
theorem gA_few:gA.Few:=⟨by decide,by decide,by decide,by decide⟩
theorem gA_check:gA.check=0:=by kernel_rfl
theorem gA_labels:gA.labels=[(0,1,0)]:=by kernel_rfl
def l1:List Bool:=true :: List.replicate 63 false
def l2:List Bool:=false :: true :: List.replicate 62 false
end Gr
end Go.Proofs.YtcnmaplopbbmaaaGreat
namespace Go.Proofs.YtcnmaplopbbmaaaGreat
open Go.RowKit Go.Maps
namespace Rs
def fA:M→List Gr.Tn:=fun l=>Gr.gA.turns Gr.gA.labels (l,false)
def mA:M:=Gr.gA.firstL Gr.gA.es.length
def lA:M:=List.replicate 64 false
theorem stA0:stage fA mA 0=([Gr.l1],[]):=by kernel_rfl
theorem stA1:stage fA mA 1=([Gr.l1,Gr.l2],[[(0,1)]]):=by kernel_rfl
theorem stA2:stage fA mA 2=([Gr.l1,Gr.l2,lA],[[(0,1)],[(-1,2)]]):=by kernel_rfl
theorem stA3:stage fA mA 3=([Gr.l1,Gr.l2,lA],[[(0,1)],[(-1,2)],[]]):=by kernel_rfl
theorem bA1:Gr.bad (fA Gr.l1)=false:=by kernel_rfl
theorem bA2:Gr.bad (fA Gr.l2)=false:=by kernel_rfl
theorem bA3:Gr.bad (fA lA)=false:=by kernel_rfl
theorem runA:RunL fA mA 3:=fun j hj=>by
 match j,hj with
 | 0,_=>rw [stA0];exact ⟨Gr.l1,rfl,bA1,by decide⟩
 | 1,_=>rw [stA1];exact ⟨Gr.l2,rfl,bA2,by decide⟩
 | 2,_=>rw [stA2];exact ⟨lA,rfl,bA3,by decide⟩
theorem ovA:([Gr.l1,Gr.l2,lA]:List M).map over=[false,false,true]:=by kernel_rfl
end Rs
set_option maxRecDepth 100000 in
set_option maxHeartbeats 4000000 in
theorem awake17 (W:World):Calls Tryz.prog 7 #[] W fun e w'=>e=.returned (.bool true)∧Flow.Grow W w':=by
 go_enter Tryz.func7,Tryz.ntmps7
 go_upto_region 2 with fail
 have HBw10:Hid ((((((W.alloc (.cells (#[.string ⟨#[97]⟩,.string ⟨#[98]⟩]) 9)).alloc (.cells (#[.string ⟨#[109]⟩]) 9)).alloc (.cells (#[.int .i64 1,.string ⟨#[]⟩,.int .i64 0,.int .i64 0,.int .i64 0,.int .i64 0,.bool false,.int .i64 3,.string ⟨#[]⟩,.int .i64 0,.int .i64 1,.int .i64 0,.int .i64 (-1),.bool false,.int .i64 2,.string ⟨#[]⟩,.int .i64 0,.int .i64 0,.int .i64 0,.int .i64 0,.bool false]) 52)).alloc (.cells (#[.int .i64 0,.int .i64 1,.int .i64 1,.int .i64 2]) 56)).alloc (.cells (#[.slice (some ⟨W.heap.size,0,none⟩) 2 2,.slice (some ⟨W.heap.size+1,0,none⟩) 1 1,.slice (some ⟨W.heap.size+1+1,0,none⟩) 3 3,.slice (some ⟨W.heap.size+1+1+1,0,none⟩) 2 2]) 27)).heap[W.heap.size]? = some (.cells (#[.string ⟨#[97]⟩,.string ⟨#[98]⟩]) 9 (0,0))):=Lib.hid (lay5_0 _ _ _ _ _ _)
 have HBw11:Hid ((((((W.alloc (.cells (#[.string ⟨#[97]⟩,.string ⟨#[98]⟩]) 9)).alloc (.cells (#[.string ⟨#[109]⟩]) 9)).alloc (.cells (#[.int .i64 1,.string ⟨#[]⟩,.int .i64 0,.int .i64 0,.int .i64 0,.int .i64 0,.bool false,.int .i64 3,.string ⟨#[]⟩,.int .i64 0,.int .i64 1,.int .i64 0,.int .i64 (-1),.bool false,.int .i64 2,.string ⟨#[]⟩,.int .i64 0,.int .i64 0,.int .i64 0,.int .i64 0,.bool false]) 52)).alloc (.cells (#[.int .i64 0,.int .i64 1,.int .i64 1,.int .i64 2]) 56)).alloc (.cells (#[.slice (some ⟨W.heap.size,0,none⟩) 2 2,.slice (some ⟨W.heap.size+1,0,none⟩) 1 1,.slice (some ⟨W.heap.size+1+1,0,none⟩) 3 3,.slice (some ⟨W.heap.size+1+1+1,0,none⟩) 2 2]) 27)).heap[W.heap.size+1]? = some (.cells (#[.string ⟨#[109]⟩]) 9 (0,0))):=Lib.hid (lay5_1 _ _ _ _ _ _)
 have HBw12:Hid ((((((W.alloc (.cells (#[.string ⟨#[97]⟩,.string ⟨#[98]⟩]) 9)).alloc (.cells (#[.string ⟨#[109]⟩]) 9)).alloc (.cells (#[.int .i64 1,.string ⟨#[]⟩,.int .i64 0,.int .i64 0,.int .i64 0,.int .i64 0,.bool false,.int .i64 3,.string ⟨#[]⟩,.int .i64 0,.int .i64 1,.int .i64 0,.int .i64 (-1),.bool false,.int .i64 2,.string ⟨#[]⟩,.int .i64 0,.int .i64 0,.int .i64 0,.int .i64 0,.bool false]) 52)).alloc (.cells (#[.int .i64 0,.int .i64 1,.int .i64 1,.int .i64 2]) 56)).alloc (.cells (#[.slice (some ⟨W.heap.size,0,none⟩) 2 2,.slice (some ⟨W.heap.size+1,0,none⟩) 1 1,.slice (some ⟨W.heap.size+1+1,0,none⟩) 3 3,.slice (some ⟨W.heap.size+1+1+1,0,none⟩) 2 2]) 27)).heap[W.heap.size+1+1]? = some (.cells (#[.int .i64 1,.string ⟨#[]⟩,.int .i64 0,.int .i64 0,.int .i64 0,.int .i64 0,.bool false,.int .i64 3,.string ⟨#[]⟩,.int .i64 0,.int .i64 1,.int .i64 0,.int .i64 (-1),.bool false,.int .i64 2,.string ⟨#[]⟩,.int .i64 0,.int .i64 0,.int .i64 0,.int .i64 0,.bool false]) 52 (0,0))):=Lib.hid (lay5_2 _ _ _ _ _ _)
 have HBw13:Hid ((((((W.alloc (.cells (#[.string ⟨#[97]⟩,.string ⟨#[98]⟩]) 9)).alloc (.cells (#[.string ⟨#[109]⟩]) 9)).alloc (.cells (#[.int .i64 1,.string ⟨#[]⟩,.int .i64 0,.int .i64 0,.int .i64 0,.int .i64 0,.bool false,.int .i64 3,.string ⟨#[]⟩,.int .i64 0,.int .i64 1,.int .i64 0,.int .i64 (-1),.bool false,.int .i64 2,.string ⟨#[]⟩,.int .i64 0,.int .i64 0,.int .i64 0,.int .i64 0,.bool false]) 52)).alloc (.cells (#[.int .i64 0,.int .i64 1,.int .i64 1,.int .i64 2]) 56)).alloc (.cells (#[.slice (some ⟨W.heap.size,0,none⟩) 2 2,.slice (some ⟨W.heap.size+1,0,none⟩) 1 1,.slice (some ⟨W.heap.size+1+1,0,none⟩) 3 3,.slice (some ⟨W.heap.size+1+1+1,0,none⟩) 2 2]) 27)).heap[W.heap.size+1+1+1]? = some (.cells (#[.int .i64 0,.int .i64 1,.int .i64 1,.int .i64 2]) 56 (0,0))):=Lib.hid (lay5_3 _ _ _ _ _ _)
 have HBw14:Hid ((((((W.alloc (.cells (#[.string ⟨#[97]⟩,.string ⟨#[98]⟩]) 9)).alloc (.cells (#[.string ⟨#[109]⟩]) 9)).alloc (.cells (#[.int .i64 1,.string ⟨#[]⟩,.int .i64 0,.int .i64 0,.int .i64 0,.int .i64 0,.bool false,.int .i64 3,.string ⟨#[]⟩,.int .i64 0,.int .i64 1,.int .i64 0,.int .i64 (-1),.bool false,.int .i64 2,.string ⟨#[]⟩,.int .i64 0,.int .i64 0,.int .i64 0,.int .i64 0,.bool false]) 52)).alloc (.cells (#[.int .i64 0,.int .i64 1,.int .i64 1,.int .i64 2]) 56)).alloc (.cells (#[.slice (some ⟨W.heap.size,0,none⟩) 2 2,.slice (some ⟨W.heap.size+1,0,none⟩) 1 1,.slice (some ⟨W.heap.size+1+1,0,none⟩) 3 3,.slice (some ⟨W.heap.size+1+1+1,0,none⟩) 2 2]) 27)).heap[W.heap.size+1+1+1+1]? = some (.cells (#[.slice (some ⟨W.heap.size,0,none⟩) 2 2,.slice (some ⟨W.heap.size+1,0,none⟩) 1 1,.slice (some ⟨W.heap.size+1+1,0,none⟩) 3 3,.slice (some ⟨W.heap.size+1+1+1,0,none⟩) 2 2]) 27 (0,0))):=Lib.hid (lay5_4 _ _ _ _ _ _)
 have HGw1:Hid (Flow.Grow W (((((W.alloc (.cells (#[.string ⟨#[97]⟩,.string ⟨#[98]⟩]) 9)).alloc (.cells (#[.string ⟨#[109]⟩]) 9)).alloc (.cells (#[.int .i64 1,.string ⟨#[]⟩,.int .i64 0,.int .i64 0,.int .i64 0,.int .i64 0,.bool false,.int .i64 3,.string ⟨#[]⟩,.int .i64 0,.int .i64 1,.int .i64 0,.int .i64 (-1),.bool false,.int .i64 2,.string ⟨#[]⟩,.int .i64 0,.int .i64 0,.int .i64 0,.int .i64 0,.bool false]) 52)).alloc (.cells (#[.int .i64 0,.int .i64 1,.int .i64 1,.int .i64 2]) 56)).alloc (.cells (#[.slice (some ⟨W.heap.size,0,none⟩) 2 2,.slice (some ⟨W.heap.size+1,0,none⟩) 1 1,.slice (some ⟨W.heap.size+1+1,0,none⟩) 3 3,.slice (some ⟨W.heap.size+1+1+1,0,none⟩) 2 2]) 27))):=Lib.hid (lay5_g _ _ _ _ _ _)
 have HSw1:Hid ((((((W.alloc (.cells (#[.string ⟨#[97]⟩,.string ⟨#[98]⟩]) 9)).alloc (.cells (#[.string ⟨#[109]⟩]) 9)).alloc (.cells (#[.int .i64 1,.string ⟨#[]⟩,.int .i64 0,.int .i64 0,.int .i64 0,.int .i64 0,.bool false,.int .i64 3,.string ⟨#[]⟩,.int .i64 0,.int .i64 1,.int .i64 0,.int .i64 (-1),.bool false,.int .i64 2,.string ⟨#[]⟩,.int .i64 0,.int .i64 0,.int .i64 0,.int .i64 0,.bool false]) 52)).alloc (.cells (#[.int .i64 0,.int .i64 1,.int .i64 1,.int .i64 2]) 56)).alloc (.cells (#[.slice (some ⟨W.heap.size,0,none⟩) 2 2,.slice (some ⟨W.heap.size+1,0,none⟩) 1 1,.slice (some ⟨W.heap.size+1+1,0,none⟩) 3 3,.slice (some ⟨W.heap.size+1+1+1,0,none⟩) 2 2]) 27)).heap.size=W.heap.size+1+1+1+1+1):=Lib.hid (by simp)
 generalize ((((W.alloc (.cells (#[.string ⟨#[97]⟩,.string ⟨#[98]⟩]) 9)).alloc (.cells (#[.string ⟨#[109]⟩]) 9)).alloc (.cells (#[.int .i64 1,.string ⟨#[]⟩,.int .i64 0,.int .i64 0,.int .i64 0,.int .i64 0,.bool false,.int .i64 3,.string ⟨#[]⟩,.int .i64 0,.int .i64 1,.int .i64 0,.int .i64 (-1),.bool false,.int .i64 2,.string ⟨#[]⟩,.int .i64 0,.int .i64 0,.int .i64 0,.int .i64 0,.bool false]) 52)).alloc (.cells (#[.int .i64 0,.int .i64 1,.int .i64 1,.int .i64 2]) 56)).alloc (.cells (#[.slice (some ⟨W.heap.size,0,none⟩) 2 2,.slice (some ⟨W.heap.size+1,0,none⟩) 1 1,.slice (some ⟨W.heap.size+1+1,0,none⟩) 3 3,.slice (some ⟨W.heap.size+1+1+1,0,none⟩) 2 2]) 27)=w1 at *
 obtain ⟨X,hX⟩:∃ X,X=W.heap.size:=⟨_,rfl⟩
 rw [← hX] at HBw10 HBw11 HBw12 HBw13 HBw14 HSw1 ⊢
 have HXw1:=Lib.hid hX
 clear hX
 have FXw1:Hid (∀ wq,Flow.Grow w1 wq→(∀ k,wq.frozen? ⟨X,k,none⟩=false)∧(∀ k,wq.frozen? ⟨X+1,k,none⟩=false)∧(∀ k,wq.frozen? ⟨X+1+1,k,none⟩=false)∧(∀ k,wq.frozen? ⟨X+1+1+1,k,none⟩=false)∧(∀ k,wq.frozen? ⟨X+1+1+1+1,k,none⟩=false)):=Lib.hid (fun wq g=>⟨fun k=>lay_frozen g HBw10.out k,fun k=>lay_frozen g HBw11.out k,fun k=>lay_frozen g HBw12.out k,fun k=>lay_frozen g HBw13.out k,fun k=>lay_frozen g HBw14.out k⟩)
 have HGA:Hid (Gr.GAt w1 (.slice (some ⟨X,0,none⟩) 2 2) (.slice (some ⟨X+1,0,none⟩) 1 1) (.slice (some ⟨X+1+1,0,none⟩) 3 3) (.slice (some ⟨X+1+1+1,0,none⟩) 2 2) Gr.gA):=Lib.hid ⟨⟨_,_,rfl⟩,⟨_,_,rfl⟩,recs_block Gr.Nd.cells_len HBw12.out rfl rfl,recs_block Gr.ecells_len HBw13.out rfl rfl⟩
 have g0:=(cell_of_row w1 (X+1+1+1+1) 0 _ _ _ HBw14.out).trans rfl
 have g1:=(cell_of_row w1 (X+1+1+1+1) 1 _ _ _ HBw14.out).trans rfl
 have g2:=(cell_of_row w1 (X+1+1+1+1) 2 _ _ _ HBw14.out).trans rfl
 have g3:=(cell_of_row w1 (X+1+1+1+1) 3 _ _ _ HBw14.out).trans rfl
 simp at g0 g1 g2 g3
 generalize (Value.slice (some ⟨X,0,none⟩) 2 2)=v0 at *
 generalize (Value.slice (some ⟨X+1,0,none⟩) 1 1)=v1 at *
 generalize (Value.slice (some ⟨X+1+1,0,none⟩) 3 3)=v2 at *
 generalize (Value.slice (some ⟨X+1+1+1,0,none⟩) 2 2)=v3 at *
 have HOf:Hid (∀ w,Flow.Grow w1 w→Calls Tryz.prog 6 #[.agg #[v0,v1,v2,v3]] w fun e w'=>(∃ Bs fa fc ma mc vs va vc,e=.returned (.tuple #[.agg #[.int .i64 1,.int .i64 0,.slice fa 3 fc,.slice ma 3 mc],.slice va 1 vc,.int .i64 0])∧Rs.NS w' Bs (.slice fa 3 fc) (.slice ma 3 mc) [false,false,true] [[(0,1)],[(-1,2)],[]] vs)∧Flow.Grow w w'):=Lib.hid fun w hg=>(reachOf_fine v0 v1 v2 v3 Gr.gA Rs.fA Rs.mA 3 w Gr.gA_few (by decide) Gr.gA_check (by decide) rfl rfl Rs.runA (by rw [Rs.stA3];rfl) (by rw [Rs.stA3];decide) (HGA.out.grow hg)).mono fun e w' ⟨⟨Bs,vf,vm,vs,va,vc,he,hn⟩,b⟩=>by
  rw [Rs.stA3] at hn
  simp only [Rs.ovA] at hn
  rw [Gr.gA_labels] at he
  obtain ⟨fa,fc,rfl⟩:=own_form hn.finals
  obtain ⟨ma,mc,rfl⟩:=own_form hn.moves
  exact ⟨⟨Bs,fa,fc,ma,mc,vs,va,vc,he,hn⟩,b⟩
 go_upto_region 3 with (go_at_call 6;refine (HOf.out _ (Flow.grow_refl _)).mono ?_;rintro e w2 ⟨⟨Bs,fa,fc,ma,mc,vs,va,vc,rfl,hn⟩,hg⟩;have HG2:=Lib.hid hg;have HN2:=Lib.hid hn;clear hg hn)
 clear g0 g1 g2 g3
 have HBw30:Hid ((w2.alloc (.cells #[.int .i64 1,.int .i64 0,.slice fa 3 fc,.slice ma 3 mc] 34)).heap[w2.heap.size]? = some (.cells #[.int .i64 1,.int .i64 0,.slice fa 3 fc,.slice ma 3 mc] 34 (0,0))):=Lib.hid (lay1_0 _ _)
 have HGw3:Hid (Flow.Grow w2 (w2.alloc (.cells #[.int .i64 1,.int .i64 0,.slice fa 3 fc,.slice ma 3 mc] 34))):=Lib.hid (lay1_g _ _)
 have HSw3:Hid ((w2.alloc (.cells #[.int .i64 1,.int .i64 0,.slice fa 3 fc,.slice ma 3 mc] 34)).heap.size=w2.heap.size+1):=Lib.hid (by simp)
 generalize w2.alloc (.cells #[.int .i64 1,.int .i64 0,.slice fa 3 fc,.slice ma 3 mc] 34)=w3 at *
 obtain ⟨Y,hY⟩:∃ X,X=w2.heap.size:=⟨_,rfl⟩
 rw [← hY] at HBw30 HSw3 ⊢
 have HXw3:=Lib.hid hY
 clear hY
 have CXw3:Hid (∀ wq,Flow.Grow w3 wq→wq.cell? ⟨Y,0,none⟩=some (.int .i64 1)∧wq.cell? ⟨Y,1,none⟩=some (.int .i64 0)∧wq.cell? ⟨Y,2,none⟩=some (.slice fa 3 fc)∧wq.cell? ⟨Y,3,none⟩=some (.slice ma 3 mc)):=Lib.hid (fun wq g=>⟨lay_cell g HBw30.out rfl,lay_cell g HBw30.out rfl,lay_cell g HBw30.out rfl,lay_cell g HBw30.out rfl⟩)
 have FXw3:Hid (∀ wq,Flow.Grow w3 wq→(∀ k,wq.frozen? ⟨Y,k,none⟩=false)):=Lib.hid (fun wq g=>fun k=>lay_frozen g HBw30.out k)
 have HN3:=Lib.hid (HN2.out.grow HGw3.out)
 obtain ⟨fb,rfl⟩:=own_at (n:=3) HN3.out.finals (by decide)
 have f0:w3.cell? ⟨fb,0,none⟩=some (.bool false):=own_cell (n:=3) HN3.out.finals rfl
 have f2:w3.cell? ⟨fb,2,none⟩=some (.bool true):=own_cell (n:=3) HN3.out.finals rfl
 have HMy:Hid (∀ w,Flow.Grow w3 w→Calls Tryz.prog 18 #[.agg #[.int .i64 1,.int .i64 0,.slice (some ⟨fb,0,none⟩) 3 fc,.slice ma 3 mc]] w fun e w'=>e=.returned (.bool true)∧Flow.Grow w w'):=Lib.hid fun w hg=>by
  have k:=mayN_any (.slice (some ⟨fb,0,none⟩) 3 fc) (.slice ma 3 mc) 1 0 3 [false,false,true] [[(0,1)],[(-1,2)],[]] w (by decide) rfl rfl (by decide) (by decide) (by decide) (by decide) (by decide) (Seg.of_own (own_keep HN3.out.finals hg)) ((Pr.NS_rowsM HN3.out).grow hg)
  exact k
 obtain ⟨d00,d01,d02,d03⟩:=CXw3.out w3 (Flow.grow_refl _)
 go_wp2_with (go_at_call 18;refine (HMy.out _ (Flow.grow_refl _)).mono ?_;rintro e w4 ⟨rfl,hg⟩;have HG4:=Lib.hid hg;clear hg)
 go_ret
 exact ⟨rfl,HGw1.out.trans (HG2.out.trans (HGw3.out.trans HG4.out))⟩
end Go.Proofs.YtcnmaplopbbmaaaGreat
