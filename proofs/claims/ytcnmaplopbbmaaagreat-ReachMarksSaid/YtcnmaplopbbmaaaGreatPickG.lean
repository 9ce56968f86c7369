/- galliardlaw12.Graph by contract: the graph of what is made of picks. -/
import Derived.Test.YtcnmaplopbbmaaaGreatMBs
namespace Go.Proofs.YtcnmaplopbbmaaaGreat
open Go.RowKit
theorem pickG_res (tmps:Array Value) (w:World) (X:Nat) (c0 c1 c2 c3:Value) (h2:tmps.getD 2 undef=.pointer (some ⟨X,0,none⟩)) (hx:w.heap[X]? = some (.cells #[c0,c1,c2,c3] 27 (0,0))) :
  (results Tryz.f4 tmps).run Tryz.prog w=.ok (.agg #[c0,c1,c2,c3]) w:=by
 obtain ⟨x0,x1,x2,x3,_⟩:=m4_cells hx
 simp only [Array.getD_eq_getD_getElem?] at h2
 simp [results,Tryz.results4,h2,x0,x1,x2,x3,go_sem]
set_option maxRecDepth 100000 in
set_option maxHeartbeats 4000000 in
theorem pickG_any (p:List Int) (vp:Value) (W:World) (hp:p.length≤9223372036854775807) (h:Ints W vp p) :
  Calls Tryz.prog 4 #[vp] W fun e w'=>∃ v0 v1 v2 v3,e=.returned (.agg #[v0,v1,v2,v3])∧Gr.GAt w' v0 v1 v2 v3 (Fl.pickG p)∧Flow.Grow W w':=by
 have HCh:=Lib.hid fun w (g:Flow.Grow W w)=>chor_any p vp ⟨#[99]⟩ ⟨#[]⟩ w hp (by decide) (h.grow g)
 have HGr:=Lib.hid fun (w:World) (va vf vi vs:Value) (hm:Ch.MkAt w (Ch.ctx p ⟨#[]⟩) (Ch.chorT p ⟨#[]⟩) vp va vf vi vs)=>flGraph_any w ⟨#[99]⟩ vp va vf vi vs (Ch.ctx p ⟨#[]⟩) (Ch.chorT p ⟨#[]⟩) (Ch.chor_kind p _) (by have:=(Ch.many_le p).2;unfold Ch.ctx;simp only [Ch.pnms_len];omega) (by have:=(Ch.chor_up p ⟨#[]⟩).2.2;omega) (by have:=(Ch.chor_up p ⟨#[]⟩).1;omega) (by have:=(Ch.chor_up p ⟨#[]⟩).2.1;omega) hm
 obtain ⟨p0,p1,rfl,_⟩:=h
 obtain ⟨G,hG⟩:∃ G,G=Fl.pickG p:=⟨_,rfl⟩
 have HE:Hid ((Fl.graphT (Ch.ctx p ⟨#[]⟩).parts (Ch.chorT p ⟨#[]⟩).flows (Ch.chorT p ⟨#[]⟩).items (Ch.chorT p ⟨#[]⟩).seqs).1=G):=Lib.hid hG.symm
 rw [HE.out] at HGr
 rw [← hG]
 clear hG HE
 obtain ⟨c,hc⟩:∃ c,c=Ch.ctx p ⟨#[]⟩:=⟨_,rfl⟩
 obtain ⟨m,hm⟩:∃ m,m=Ch.chorT p ⟨#[]⟩:=⟨_,rfl⟩
 rw [← hc,← hm] at HGr
 rw [← hc,← hm] at HCh
 clear hc hm
 generalize p.length=pn at *
 go_enter Tryz.func4,Tryz.ntmps4
 go_upto_region 1 with fail
 have HBw10:Hid ((W.alloc (.cells #[.slice none 0 0,.slice none 0 0,.slice none 0 0,.slice none 0 0] 27)).heap[W.heap.size]? = some (.cells #[.slice none 0 0,.slice none 0 0,.slice none 0 0,.slice none 0 0] 27 (0,0))):=Lib.hid (lay1_0 _ _)
 have HGw1:Hid (Flow.Grow W (W.alloc (.cells #[.slice none 0 0,.slice none 0 0,.slice none 0 0,.slice none 0 0] 27))):=Lib.hid (lay1_g _ _)
 have HSw1:Hid ((W.alloc (.cells #[.slice none 0 0,.slice none 0 0,.slice none 0 0,.slice none 0 0] 27)).heap.size=W.heap.size+1):=Lib.hid (by simp)
 generalize W.alloc (.cells #[.slice none 0 0,.slice none 0 0,.slice none 0 0,.slice none 0 0] 27)=w1 at *
 obtain ⟨X,hX⟩:∃ X,X=W.heap.size:=⟨_,rfl⟩
 rw [← hX] at HBw10 HSw1 ⊢
 have HXw1:=Lib.hid hX
 clear hX
 have CXw1:Hid (∀ wq,Flow.Grow w1 wq→wq.cell? ⟨X,0,none⟩=some (.slice none 0 0)∧wq.cell? ⟨X,1,none⟩=some (.slice none 0 0)∧wq.cell? ⟨X,2,none⟩=some (.slice none 0 0)∧wq.cell? ⟨X,3,none⟩=some (.slice none 0 0)):=Lib.hid (fun wq g=>⟨lay_cell g HBw10.out rfl,lay_cell g HBw10.out rfl,lay_cell g HBw10.out rfl,lay_cell g HBw10.out rfl⟩)
 have FXw1:Hid (∀ wq,Flow.Grow w1 wq→(∀ k,wq.frozen? ⟨X,k,none⟩=false)):=Lib.hid (fun wq g=>fun k=>lay_frozen g HBw10.out k)
 have hXW:Hid (W.heap.size≤X):=Lib.hid (by rw [HXw1.out];exact Nat.le_refl _)
 go_upto_region 2 with (first
  | (go_at_call 10;refine (HCh.out _ HGw1.out).mono ?_;rintro e w2 ⟨va,vf,vi,vs,rfl,hm,hg⟩;have HM2:=Lib.hid hm;have HG2:=Lib.hid (HGw1.out.trans hg);have HX2:=Lib.hid (heap_keep hg HBw10.out);clear hm hg)
  | (go_at_call 9;refine (HGr.out _ _ _ _ _ HM2.out).mono ?_;rintro e w3 ⟨v0,v1,v2,v3,er,rfl,ha,hg⟩;obtain ⟨u0,u1,rfl⟩:=ha.parts;obtain ⟨u2,u3,rfl⟩:=ha.msgs;obtain ⟨u4,u5,rfl⟩:=own_form ha.nodes;obtain ⟨u6,u7,rfl⟩:=own_form ha.edges;have HA3:=Lib.hid ha;have HG3:=Lib.hid (HG2.out.trans hg);have HX3:=Lib.hid (heap_keep hg HX2.out);clear ha hg;obtain ⟨y0,y1,y2,y3,yf⟩:=m4_cells HX3.out))
 have HX4:=Lib.hid (m4_set (.slice u0 G.np u1) (.slice u2 G.nm u3) (.slice u4 G.ns.length u5) (.slice u6 G.es.length u7) HX3.out)
 have HK4:=Lib.hid (m4_by w3 X (.slice u0 G.np u1) (.slice u2 G.nm u3) (.slice u4 G.ns.length u5) (.slice u6 G.es.length u7))
 generalize (((w3.setCell ⟨X,0,none⟩ (.slice u0 G.np u1)).setCell ⟨X,1,none⟩ (.slice u2 G.nm u3)).setCell ⟨X,2,none⟩ (.slice u4 G.ns.length u5)).setCell ⟨X,3,none⟩ (.slice u6 G.es.length u7)=w4 at *
 clear y0 y1 y2 y3 yf
 obtain ⟨y0,y1,y2,y3,yf⟩:=m4_cells HX4.out
 go_wp2_with fail
 have hx:=m4_set (.slice u0 G.np u1) (.slice u2 G.nm u3) (.slice u4 G.ns.length u5) (.slice u6 G.es.length u7) HX4.out
 have kb:=by_trans HK4.out (m4_by w4 X (.slice u0 G.np u1) (.slice u2 G.nm u3) (.slice u4 G.ns.length u5) (.slice u6 G.es.length u7))
 have hlo:=hXW.out
 have tb:=TY.blk HX3.out
 have g4:=grow_row HG3.out kb (fun b e=>by cases e;omega)
 exact bodyPost_ret (pickG_res _ _ X _ _ _ _ rfl hx) rfl ⟨_,_,_,_,rfl,(HA3.out.keep tb kb (by decide) (by decide)).gat,g4⟩
end Go.Proofs.YtcnmaplopbbmaaaGreat
