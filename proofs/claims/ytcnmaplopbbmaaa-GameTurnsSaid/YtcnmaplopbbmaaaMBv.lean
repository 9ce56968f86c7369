/- flat.Graph by contract: a choreography (none within it) as a graph. -/
import Derived.Test.YtcnmaplopbbmaaaFlLevel
import Derived.Test.YtcnmaplopbbmaaaFlRule
namespace Go.Proofs.Ytcnmaplopbbmaaa
open Go.RowKit
theorem m4_set {w:World} {X:Nat} {T:TypeId} {b0 b1 b2 b3:Value} (c0 c1 c2 c3:Value) (h:w.heap[X]? = some (.cells #[b0,b1,b2,b3] T (0,0))):((((w.setCell ⟨X,0,none⟩ c0).setCell ⟨X,1,none⟩ c1).setCell ⟨X,2,none⟩ c2).setCell ⟨X,3,none⟩ c3).heap[X]? = some (.cells #[c0,c1,c2,c3] T (0,0)):=by
 have h0:=set_cells h 0 c0
 simp only [List.setIfInBounds_toArray,List.set_cons_zero] at h0
 have h1:=set_cells h0 1 c1
 simp only [List.setIfInBounds_toArray,List.set_cons_zero,List.set_cons_succ] at h1
 have h2:=set_cells h1 2 c2
 simp only [List.setIfInBounds_toArray,List.set_cons_zero,List.set_cons_succ] at h2
 have h3:=set_cells h2 3 c3
 simp only [List.setIfInBounds_toArray,List.set_cons_zero,List.set_cons_succ] at h3
 exact h3
theorem m4_by (w:World) (X:Nat) (c0 c1 c2 c3:Value):w.grownBy ((((w.setCell ⟨X,0,none⟩ c0).setCell ⟨X,1,none⟩ c1).setCell ⟨X,2,none⟩ c2).setCell ⟨X,3,none⟩ c3) (some X) :=
 by_trans (by_trans (by_trans (by_set _ _ _ _) (by_set _ _ _ _)) (by_set _ _ _ _)) (by_set _ _ _ _)
theorem m4_cells {w:World} {X:Nat} {T:TypeId} {b0 b1 b2 b3:Value} (h:w.heap[X]? = some (.cells #[b0,b1,b2,b3] T (0,0))):w.cell? ⟨X,0,none⟩=some b0∧w.cell? ⟨X,1,none⟩=some b1∧w.cell? ⟨X,2,none⟩=some b2∧w.cell? ⟨X,3,none⟩=some b3∧∀ k,w.frozen? ⟨X,k,none⟩=false :=
 ⟨(cell_of_row w X 0 _ _ _ h).trans rfl,(cell_of_row w X 1 _ _ _ h).trans rfl,(cell_of_row w X 2 _ _ _ h).trans rfl,(cell_of_row w X 3 _ _ _ h).trans rfl,fun k=>frozen_of_row w X k _ _ h⟩
theorem flGraph_res (tmps:Array Value) (w:World) (X:Nat) (c0 c1 c2 c3 e:Value) (h2:tmps.getD 2 undef=.pointer (some ⟨X,0,none⟩)) (h3:tmps.getD 3 undef=e) (hx:w.heap[X]? = some (.cells #[c0,c1,c2,c3] 28 (0,0))) :
  (results Try.f35 tmps).run Try.prog w=.ok (.tuple #[.agg #[c0,c1,c2,c3],e]) w:=by
 obtain ⟨x0,x1,x2,x3,_⟩:=m4_cells hx
 simp only [Array.getD_eq_getD_getElem?] at h2 h3
 simp [results,Try.results35,h2,h3,x0,x1,x2,x3,go_sem]
theorem Gr.Recs.nil {α:Type} (k:Nat) (f:α→List Value) (w:World):Gr.Recs k f w (.slice none 0 0) []:=⟨none,0,rfl,by simp,fun _=>⟨rfl,rfl⟩,fun j hj=>by simp at hj⟩
theorem Fl.pcells_len (x:Ch.S):(Ch.pcells x).length=2:=rfl
structure Fl.GO (w:World) (v0 v1 v2 v3:Value) (g:Gr.G):Prop where
 parts:∃ a c,v0=.slice a g.np c
 msgs:∃ a c,v1=.slice a g.nm c
 nodes:w.ownsRow 0 62 7 v2 g.ns.length (g.ns.flatMap Gr.Nd.cells)
 edges:w.ownsRow 0 66 2 v3 g.es.length (g.es.flatMap Gr.ecells)
theorem Fl.GO.gat {w:World} {v0 v1 v2 v3:Value} {g:Gr.G} (h:Fl.GO w v0 v1 v2 v3 g):Gr.GAt w v0 v1 v2 v3 g:=⟨h.parts,h.msgs,Seg.of_own h.nodes,Seg.of_own h.edges⟩
theorem Fl.GO.keep {w w':World} {v0 v1 v2 v3:Value} {g:Gr.G} {T0:TypeId} {r:Option Nat} (h:Fl.GO w v0 v1 v2 v3 g) (k:TY w (some T0) r) (b:w.grownBy w' r) (h1:some T0≠some 62) (h2:some T0≠some 66):Fl.GO w' v0 v1 v2 v3 g :=
 ⟨h.parts,h.msgs,k.keep_own b h.nodes h1,k.keep_own b h.edges h2⟩
theorem own_nil (w:World) (bs e sz:Nat):w.ownsRow bs e sz (.slice none 0 0) 0 []:=World.ownsRow_nil _ _ _ _
set_option maxRecDepth 100000 in
set_option maxHeartbeats 8000000 in
theorem flGraph_any (W:World) (nm:ByteArray) (vp va vf vi vs:Value) (c:Ch.Cx) (m:Ch.Mk) (hk:Ch.Kd m.items) (hp:c.parts.length≤1000) (hf:m.flows.length≤1000) (hn:m.items.length≤1000) (hq:m.seqs.length≤1000) (h:Ch.MkAt W c m vp va vf vi vs) :
  Calls Try.prog 35 #[.agg #[.string nm,va,vf,vi,vs]] W fun e w'=>∃ v0 v1 v2 v3 er,e=.returned (.tuple #[.agg #[v0,v1,v2,v3],.int .i64 er])∧Fl.GO w' v0 v1 v2 v3 (Fl.graphT c.parts m.flows m.items m.seqs).1∧Flow.Grow W w':=by
 have H:=Lib.hid h
 obtain ⟨p0,p1,a0,a1,f0,f1,i0,i1,s0,s1,rfl,rfl,rfl,rfl,rfl⟩:=h.forms
 obtain ⟨pl,hpl⟩:∃ l,l=c.parts:=⟨_,rfl⟩
 obtain ⟨pn,hpn⟩:∃ n,n=c.parts.length:=⟨_,rfl⟩
 have Hpl:=Lib.hid hpl
 have Hpn:Hid (pn=pl.length):=Lib.hid (by rw [hpl];exact hpn)
 have HLv:=Lib.hid fun (W1 w:World) (B:Nat) (gp:Value) (g:Flow.Grow W W1) (hm:Fl.FM W1 w B nm (.slice a0 c.parts.length a1) (.slice f0 m.flows.length f1) (.slice i0 m.items.length i1) (.slice s0 m.seqs.length s1) gp (.slice none 0 0) (.slice none 0 0) (.slice none 0 0) c.parts [] [] [] 0) =>
  flLevel_any W1 B nm _ _ gp _ _ _ _ _ c.parts m.flows m.items m.seqs w (flTask_any W1 B nm _ _ _ _ gp _ c.parts [] m.flows (by omega) (by omega) (Seg.of_own (own_keep h.flows g)) ⟨⟨_,_,_,rfl⟩,⟨_,_,_,rfl⟩,⟨_,_,_,rfl⟩⟩) hk hn hq hm (h.items.grow g) (Seg.of_own (own_keep h.seqs g))
 have HPs:Hid (∀ w,Flow.Grow W w→Gr.Recs 2 Ch.pcells w (.slice a0 pl.length a1) pl):=Lib.hid fun w g=>by
  have k:=Seg.of_own (own_keep h.parts g)
  rw [← hpl] at k
  exact k
 rw [← hpn,← hpl] at HLv
 rw [← hpl]
 rw [← Hpn.out]
 obtain ⟨G,hG⟩:∃ G,G=(Fl.graphT pl m.flows m.items m.seqs).1:=⟨_,rfl⟩
 have HGt:=Lib.hid hG
 rw [← hG]
 clear hG
 rw [← hpn] at hp
 rw [← Hpn.out] at HPs
 clear h hpl hpn hk
 generalize m.items.length=n at *
 generalize m.flows.length=fn at *
 generalize m.seqs.length=qn at *
 obtain ⟨i9,hi,hz,hs,hb⟩:=info_parts08 info_str12
 have HIn:=Lib.hid (And.intro hi (And.intro hz (And.intro hs hb)))
 clear hi hz hs hb
 go_enter Try.func35,Try.ntmps35
 go_upto_region 1 with fail
 have HBw10:Hid (((W.alloc (.cells #[.string nm,.slice a0 pn a1,.slice f0 fn f1,.slice i0 n i1,.slice s0 qn s1] 101)).alloc (.cells #[.slice none 0 0,.slice none 0 0,.slice none 0 0,.slice none 0 0] 28)).heap[W.heap.size]? = some (.cells #[.string nm,.slice a0 pn a1,.slice f0 fn f1,.slice i0 n i1,.slice s0 qn s1] 101 (0,0))):=Lib.hid (lay2_0 _ _ _)
 have HBw11:Hid (((W.alloc (.cells #[.string nm,.slice a0 pn a1,.slice f0 fn f1,.slice i0 n i1,.slice s0 qn s1] 101)).alloc (.cells #[.slice none 0 0,.slice none 0 0,.slice none 0 0,.slice none 0 0] 28)).heap[W.heap.size+1]? = some (.cells #[.slice none 0 0,.slice none 0 0,.slice none 0 0,.slice none 0 0] 28 (0,0))):=Lib.hid (lay2_1 _ _ _)
 have HGw1:Hid (Flow.Grow W ((W.alloc (.cells #[.string nm,.slice a0 pn a1,.slice f0 fn f1,.slice i0 n i1,.slice s0 qn s1] 101)).alloc (.cells #[.slice none 0 0,.slice none 0 0,.slice none 0 0,.slice none 0 0] 28))):=Lib.hid (lay2_g _ _ _)
 have HSw1:Hid (((W.alloc (.cells #[.string nm,.slice a0 pn a1,.slice f0 fn f1,.slice i0 n i1,.slice s0 qn s1] 101)).alloc (.cells #[.slice none 0 0,.slice none 0 0,.slice none 0 0,.slice none 0 0] 28)).heap.size=W.heap.size+1+1):=Lib.hid (by simp)
 generalize (W.alloc (.cells #[.string nm,.slice a0 pn a1,.slice f0 fn f1,.slice i0 n i1,.slice s0 qn s1] 101)).alloc (.cells #[.slice none 0 0,.slice none 0 0,.slice none 0 0,.slice none 0 0] 28)=w1 at *
 obtain ⟨X,hX⟩:∃ X,X=W.heap.size:=⟨_,rfl⟩
 rw [← hX] at HBw10 HBw11 HSw1 ⊢
 have HXw1:=Lib.hid hX
 clear hX
 have CXw1:Hid (∀ wq,Flow.Grow w1 wq→wq.cell? ⟨X,0,none⟩=some (.string nm)∧wq.cell? ⟨X,1,none⟩=some (.slice a0 pn a1)∧wq.cell? ⟨X,2,none⟩=some (.slice f0 fn f1)∧wq.cell? ⟨X,3,none⟩=some (.slice i0 n i1)∧wq.cell? ⟨X,4,none⟩=some (.slice s0 qn s1)∧wq.cell? ⟨X+1,0,none⟩=some (.slice none 0 0)∧wq.cell? ⟨X+1,1,none⟩=some (.slice none 0 0)∧wq.cell? ⟨X+1,2,none⟩=some (.slice none 0 0)∧wq.cell? ⟨X+1,3,none⟩=some (.slice none 0 0)):=Lib.hid (fun wq g=>⟨lay_cell g HBw10.out rfl,lay_cell g HBw10.out rfl,lay_cell g HBw10.out rfl,lay_cell g HBw10.out rfl,lay_cell g HBw10.out rfl,lay_cell g HBw11.out rfl,lay_cell g HBw11.out rfl,lay_cell g HBw11.out rfl,lay_cell g HBw11.out rfl⟩)
 have FXw1:Hid (∀ wq,Flow.Grow w1 wq→(∀ k,wq.frozen? ⟨X,k,none⟩=false)∧(∀ k,wq.frozen? ⟨X+1,k,none⟩=false)):=Lib.hid (fun wq g=>⟨fun k=>lay_frozen g HBw10.out k,fun k=>lay_frozen g HBw11.out k⟩)
 obtain ⟨c00,c01,c02,c03,c04,c10,c11,c12,c13⟩:=CXw1.out w1 (Flow.grow_refl _)
 go_upto_region 2 with fail
 have HBw20:Hid ((w1.alloc (.cells #[.string nm,.slice a0 pn a1,.slice f0 fn f1,.slice i0 n i1,.slice s0 qn s1,.slice none 0 0,.slice none 0 0,.slice none 0 0,.slice none 0 0,.int .i64 0] 126)).heap[w1.heap.size]? = some (.cells #[.string nm,.slice a0 pn a1,.slice f0 fn f1,.slice i0 n i1,.slice s0 qn s1,.slice none 0 0,.slice none 0 0,.slice none 0 0,.slice none 0 0,.int .i64 0] 126 (0,0))):=Lib.hid (lay1_0 _ _)
 have HGw2:Hid (Flow.Grow w1 (w1.alloc (.cells #[.string nm,.slice a0 pn a1,.slice f0 fn f1,.slice i0 n i1,.slice s0 qn s1,.slice none 0 0,.slice none 0 0,.slice none 0 0,.slice none 0 0,.int .i64 0] 126))):=Lib.hid (lay1_g _ _)
 have HSw2:Hid ((w1.alloc (.cells #[.string nm,.slice a0 pn a1,.slice f0 fn f1,.slice i0 n i1,.slice s0 qn s1,.slice none 0 0,.slice none 0 0,.slice none 0 0,.slice none 0 0,.int .i64 0] 126)).heap.size=w1.heap.size+1):=Lib.hid (by simp)
 generalize w1.alloc (.cells #[.string nm,.slice a0 pn a1,.slice f0 fn f1,.slice i0 n i1,.slice s0 qn s1,.slice none 0 0,.slice none 0 0,.slice none 0 0,.slice none 0 0,.int .i64 0] 126)=w2 at *
 obtain ⟨B,hB⟩:∃ X,X=w1.heap.size:=⟨_,rfl⟩
 rw [← hB] at HBw20 HSw2 ⊢
 have HXw2:=Lib.hid hB
 clear hB
 have CXw2:Hid (∀ wq,Flow.Grow w2 wq→wq.cell? ⟨B,0,none⟩=some (.string nm)∧wq.cell? ⟨B,1,none⟩=some (.slice a0 pn a1)∧wq.cell? ⟨B,2,none⟩=some (.slice f0 fn f1)∧wq.cell? ⟨B,3,none⟩=some (.slice i0 n i1)∧wq.cell? ⟨B,4,none⟩=some (.slice s0 qn s1)∧wq.cell? ⟨B,5,none⟩=some (.slice none 0 0)∧wq.cell? ⟨B,6,none⟩=some (.slice none 0 0)∧wq.cell? ⟨B,7,none⟩=some (.slice none 0 0)∧wq.cell? ⟨B,8,none⟩=some (.slice none 0 0)∧wq.cell? ⟨B,9,none⟩=some (.int .i64 0)):=Lib.hid (fun wq g=>⟨lay_cell g HBw20.out rfl,lay_cell g HBw20.out rfl,lay_cell g HBw20.out rfl,lay_cell g HBw20.out rfl,lay_cell g HBw20.out rfl,lay_cell g HBw20.out rfl,lay_cell g HBw20.out rfl,lay_cell g HBw20.out rfl,lay_cell g HBw20.out rfl,lay_cell g HBw20.out rfl⟩)
 have FXw2:Hid (∀ wq,Flow.Grow w2 wq→(∀ k,wq.frozen? ⟨B,k,none⟩=false)):=Lib.hid (fun wq g=>fun k=>lay_frozen g HBw20.out k)
 have hXW:Hid (W.heap.size≤X):=Lib.hid (by rw [HXw1.out];exact Nat.le_refl _)
 have HG1:=Lib.hid HGw1.out
 have HX1:=Lib.hid HBw10.out
 have HY1:=Lib.hid HBw11.out
 have HF2:Hid (Fl.FM w1 w2 B nm (.slice a0 pn a1) (.slice f0 fn f1) (.slice i0 n i1) (.slice s0 qn s1) (.slice none 0 0) (.slice none 0 0) (.slice none 0 0) (.slice none 0 0) [] [] [] [] 0):=Lib.hid ⟨HBw20.out,by rw [HXw2.out];exact Nat.le_refl _,HGw2.out,own_nil _ _ _ _,own_nil _ _ _ _,.inl rfl,own_nil _ _ _ _,own_nil _ _ _ _⟩
 have x1:=Xm2.cell_grow HGw2.out c01
 clear HGw2 HSw2 HBw20 HXw2 CXw2 FXw2 c00 c01 c02 c03 c04 c10 c11 c12 c13
 go_upto_region 3 with fail
 clear x1
 go_loopw [6,13] (fun v6 vk wr=>∃ (k:Nat) (gp:Value),k≤pn∧vk=.int .i64 (k:Int)∧Hid (Fl.FM w1 wr B nm (.slice a0 pn a1) (.slice f0 fn f1) (.slice i0 n i1) (.slice s0 qn s1) gp (.slice none 0 0) (.slice none 0 0) (.slice none 0 0) (pl.take k) [] [] [] 0)) (fun v6 vk _=>pn - (intOf vk).toNat)
 case atStart=>exact ⟨0,_,by omega,rfl,HF2⟩
 case round =>
  obtain ⟨k,gp,hk,rfl,HF⟩:=hrel
  rename World=>wr
  clear HF2
  by_cases hkn:k < pn
  ·have d1:decide ((k:Int) < (pn:Int))=true:=by simp;omega
   obtain ⟨s,hsk⟩:∃ s,pl[k]? = some s:=⟨_,List.getElem?_eq_getElem (by rw [← Hpn.out];exact hkn)⟩
   have Hs:=Lib.hid hsk
   obtain ⟨b,off,hb,c0⟩:=Gr.Recs.at Fl.pcells_len (by decide) (HPs.out wr (HG1.out.trans HF.out.grow)) hsk
   subst hb
   have q0:=c0 0 _ rfl
   have q1:=c0 1 _ rfl
   simp only [Nat.add_zero] at q0
   simp only [← Nat.add_assoc] at q1
   simp only [Ch.nE] at q1
   clear c0 hsk
   go_upto_region 5 with fail
   have HBw30:Hid ((wr.alloc (.cells #[.string s,.string ⟨#[]⟩] 128)).heap[wr.heap.size]? = some (.cells #[.string s,.string ⟨#[]⟩] 128 (0,0))):=Lib.hid (lay1_0 _ _)
   have HGw3:Hid (Flow.Grow wr (wr.alloc (.cells #[.string s,.string ⟨#[]⟩] 128))):=Lib.hid (lay1_g _ _)
   have HSw3:Hid ((wr.alloc (.cells #[.string s,.string ⟨#[]⟩] 128)).heap.size=wr.heap.size+1):=Lib.hid (by simp)
   generalize wr.alloc (.cells #[.string s,.string ⟨#[]⟩] 128)=w3 at *
   obtain ⟨Y,hY⟩:∃ X,X=wr.heap.size:=⟨_,rfl⟩
   rw [← hY] at HBw30 HSw3 ⊢
   have HXw3:=Lib.hid hY
   clear hY
   have CXw3:Hid (∀ wq,Flow.Grow w3 wq→wq.cell? ⟨Y,0,none⟩=some (.string s)∧wq.cell? ⟨Y,1,none⟩=some (.string ⟨#[]⟩)):=Lib.hid (fun wq g=>⟨lay_cell g HBw30.out rfl,lay_cell g HBw30.out rfl⟩)
   have FXw3:Hid (∀ wq,Flow.Grow w3 wq→(∀ k,wq.frozen? ⟨Y,k,none⟩=false)):=Lib.hid (fun wq g=>fun k=>lay_frozen g HBw30.out k)
   clear q0 q1
   have HF3:=Lib.hid (HF.out.keep HGw3.out)
   obtain ⟨c00,c01⟩:=CXw3.out w3 (Flow.grow_refl _)
   obtain ⟨g0,g1,hgp⟩:=own_form HF3.out.parts
   have hkl:(pl.take k).length=k:=by rw [List.length_take,← Hpn.out];omega
   rw [hkl] at hgp
   have Hkl:=Lib.hid hkl
   subst hgp
   obtain ⟨x0,x1,x2,x3,x4,x5,x6,x7,x8,x9,xf⟩:=m10_cells HF3.out.box
   have Hgr:Hid (∀ wz:World,Flow.Grow w3 wz→wz.ownsRow w1.heap.size 9 1 (.slice g0 k g1) k ((pl.take k).map Value.string)):=Lib.hid fun wz g=>by
    have k':=(HF3.out.keep g).parts
    rw [Hkl.out] at k'
    exact k'
   have Hend:Hid (∀ wz wy:World,Flow.Grow w3 wz→∀ v',wy.ownsRow w1.heap.size 9 1 v' (k+1) ((pl.take k).map Value.string++[.string s])→wz.grownBy wy (Value.slice g0 k g1).ownBlock→Fl.FM w1 (wy.setCell ⟨B,5,none⟩ v') B nm (.slice (some ⟨b,off,none⟩) pn a1) (.slice f0 fn f1) (.slice i0 n i1) (.slice s0 qn s1) v' (.slice none 0 0) (.slice none 0 0) (.slice none 0 0) (pl.take k++[s]) [] [] [] 0∧wy.heap[B]? = some (.cells #[.string nm,.slice (some ⟨b,off,none⟩) pn a1,.slice f0 fn f1,.slice i0 n i1,.slice s0 qn s1,.slice g0 k g1,.slice none 0 0,.slice none 0 0,.slice none 0 0,.int .i64 0] 126 (0,0))):=Lib.hid fun wz wy g v' o k' =>
    ⟨(HF3.out.keep g).part rfl s (by rw [Hkl.out];exact o) k',(TY.own (Hgr.out wz g)).keep_blk k' (heap_keep g HF3.out.box) (by decide)⟩
   have Hsz:Hid (∀ wz:World,Flow.Grow w3 wz→w1.heap.size≤wz.heap.size):=Lib.hid fun wz g=>(HF3.out.grow.trans g).size
   have x5a:∀ x,(w3.alloc x).cell? ⟨B,5,none⟩=some (.slice g0 k g1):=fun x=>Xm2.cell_grow (Flow.grow_alloc _ _) x5
   clear x0 x1 x2 x3 x4 x6 x7 x8 x9 hkl
   go_upto_region 5 with fail
   go_region_law (
    go_loud (refine step_append_lies _ rfl _ _ 24 rfl w1.heap.size 9 i9 (.string ⟨#[]⟩) 1 16 Try.underlying24 HIn.out.1 HIn.out.2.1 HIn.out.2.2.1 HIn.out.2.2.2 rfl (by decide) (.slice g0 k g1) k ((pl.take k).map Value.string) rfl (Hgr.out _ (by first | exact (Flow.grow_alloc _ _).trans (Flow.grow_drew _) | exact (Flow.grow_drew _).trans (Flow.grow_alloc _ _))) ⟨w3.heap.size,0,none⟩ 1 1 [.string s] rfl rfl (fun j u hj=>by rw [Addr.add_lit,Nat.zero_add];exact cells_of (heap_alloc_new _ _) j u hj) (by intro u hu;simp at hu;rw [hu];rfl) (by decide) (by unfold maxLen;omega) (by omega) (Hsz.out _ (by first | exact (Flow.grow_alloc _ _).trans (Flow.grow_drew _) | exact (Flow.grow_drew _).trans (Flow.grow_alloc _ _))) _ rfl ?_);
    intro g4 c4' w4 hown4 hgrow4 hat4 hlt4;
    have He:=Lib.hid (Hend.out _ w4 (by first | exact (Flow.grow_alloc _ _).trans (Flow.grow_drew _) | exact (Flow.grow_drew _).trans (Flow.grow_alloc _ _)) _ hown4 hgrow4);
    obtain ⟨z0,z1,z2,z3,z4,z5,z6,z7,z8,z9,zf⟩:=m10_cells He.out.2;
    have HF5:=Lib.hid He.out.1;
    clear hown4 hgrow4 hat4 hlt4 He z0 z1 z2 z3 z4 z6 z7 z8 z9)
   all_goals
    clear x5 x5a xf z5 zf c00 c01
    generalize w4.setCell ⟨B,5,none⟩ (.slice (some ⟨g4,0,none⟩) (k+1) c4')=w5 at *
    go_wp2_with fail
    go_roundw
    case rel=>exact ⟨k+1,_,by omega,by go_num,Lib.hid (by have:=HF5.out;rw [List.take_add_one,Hs.out];exact this)⟩
    case measure=>simp [intOf];omega
  ·obtain rfl:k=pn:=by omega
   have d1:decide ((k:Int) < (k:Int))=false:=by simp
   rw [Hpn.out,List.take_length,← Hpn.out] at HF
   have HLc:=Lib.hid (HLv.out w1 wr B gp HG1.out HF.out)
   have y3:=Xm2.cell_grow HF.out.grow ((cell_of_row w1 X 3 _ _ _ HX1.out).trans rfl)
   have y4:=Xm2.cell_grow HF.out.grow ((cell_of_row w1 X 4 _ _ _ HX1.out).trans rfl)
   simp at y3 y4
   obtain ⟨A,hA⟩:∃ A,A=Fl.itemsT m.flows pl m.items ([],[],0):=⟨_,rfl⟩
   obtain ⟨E,hE⟩:∃ E,E=Fl.edgesT (m.items.map (·.id)) m.seqs ([],A.2.2):=⟨_,rfl⟩
   have HT:Hid (Fl.graphT pl m.flows m.items m.seqs=if E.2=0 then (⟨A.1,E.1,pl.length,A.2.1.length⟩,0) else (⟨[],[],0,0⟩,E.2)):=Lib.hid (by rw [hE,hA];rfl)
   rw [← hA] at HLc
   rw [← hE] at HLc
   rw [HT.out] at HGt
   clear hA hE HT HLv
   obtain ⟨ns,ml,er0⟩:=A
   obtain ⟨es,er⟩:=E
   simp only at HLc HGt
   go_upto_region 8 with (go_at_call 60;refine HLc.out.mono ?_;rintro e w6 ⟨v,gm6,gn6,ge6,rfl,hf⟩;have HF6:=Lib.hid hf;clear hf)
   clear y3 y4 HLc HF
   obtain ⟨x0,x1,x2,x3,x4,x5,x6,x7,x8,x9,xf⟩:=m10_cells HF6.out.box
   have HY6:=Lib.hid (heap_keep HF6.out.grow HY1.out)
   obtain ⟨y0,y1,y2,y3,yf⟩:=m4_cells HY6.out
   have HG6:=Lib.hid (HG1.out.trans HF6.out.grow)
   obtain ⟨u0,u1,e0⟩:=own_form HF6.out.parts
   obtain ⟨u2,u3,e1⟩:=own_form HF6.out.msgs
   obtain ⟨u4,u5,e2⟩:=own_form HF6.out.nodes
   obtain ⟨u6,u7,e3⟩:=own_form HF6.out.edges
   subst e0 e1 e2 e3
   have hYW:Hid (W.heap.size≤X+1):=Lib.hid (by have:=hXW.out;omega)
   clear HX1 HXw1 HSw1 HBw10 HBw11 CXw1 FXw1 HGw1
   generalize X+1=Y at *
   by_cases he:er=0
   ·have d2:(er != 0)=false:=by simp [he]
    have HGe:Hid (G=⟨ns,es,pl.length,ml.length⟩):=Lib.hid (by rw [HGt.out,if_pos he])
    clear he HGt
    go_wp2_with fail
    have hx:=m4_set (.slice u0 pl.length u1) (.slice u2 ml.length u3) (.slice u4 ns.length u5) (.slice u6 es.length u7) HY6.out
    have kb:=m4_by w6 Y (.slice u0 pl.length u1) (.slice u2 ml.length u3) (.slice u4 ns.length u5) (.slice u6 es.length u7)
    have hlo:=hYW.out
    have tb:=TY.blk HY6.out
    exact bodyPost_ret (flGraph_res _ _ Y _ _ _ _ _ rfl rfl hx) rfl ⟨_,_,_,_,0,rfl,by rw [HGe.out];exact ⟨⟨u0,u1,rfl⟩,⟨u2,u3,rfl⟩,own_base (tb.keep_own kb HF6.out.nodes (by decide)) (Nat.zero_le _),own_base (tb.keep_own kb HF6.out.edges (by decide)) (Nat.zero_le _)⟩,grow_row HG6.out kb (fun b e=>by cases e;omega)⟩
   ·have d2:(er != 0)=true:=by simp [he]
    have HGe:Hid (G=⟨[],[],0,0⟩):=Lib.hid (by rw [HGt.out,if_neg he])
    clear he HGt
    have kb:=m4_by w6 Y (.slice none 0 0) (.slice none 0 0) (.slice none 0 0) (.slice none 0 0)
    have HB7:=(TY.blk HY6.out).keep_blk kb HF6.out.box (by decide)
    have z9:=(cell_of_row _ B 9 _ _ _ HB7).trans rfl
    simp at z9
    clear x0 x1 x2 x3 x4 x5 x6 x7 x8
    go_upto_region 9 with fail
    go_region
    go_wp2_with fail
    have hx:=heap_keep (Flow.grow_drew _) (m4_set (.slice none 0 0) (.slice none 0 0) (.slice none 0 0) (.slice none 0 0) HY6.out)
    have hlo:=hYW.out
    have hg:=(grow_row HG6.out kb (fun b e=>by cases e;omega)).trans (Flow.grow_drew _)
    exact bodyPost_ret (flGraph_res _ _ Y _ _ _ _ _ rfl rfl hx) rfl ⟨_,_,_,_,er,rfl,by rw [HGe.out];exact ⟨⟨none,0,rfl⟩,⟨none,0,rfl⟩,own_nil _ _ _ _,own_nil _ _ _ _⟩,hg⟩
end Go.Proofs.Ytcnmaplopbbmaaa
namespace Go.Proofs.Ytcnmaplopbbmaaa
open Go.RowKit
theorem pickG_res (tmps:Array Value) (w:World) (X:Nat) (c0 c1 c2 c3:Value) (h2:tmps.getD 2 undef=.pointer (some ⟨X,0,none⟩)) (hx:w.heap[X]? = some (.cells #[c0,c1,c2,c3] 28 (0,0))) :
  (results Try.f20 tmps).run Try.prog w=.ok (.agg #[c0,c1,c2,c3]) w:=by
 obtain ⟨x0,x1,x2,x3,_⟩:=m4_cells hx
 simp only [Array.getD_eq_getD_getElem?] at h2
 simp [results,Try.results20,h2,x0,x1,x2,x3,go_sem]
set_option maxRecDepth 100000 in
set_option maxHeartbeats 4000000 in
theorem pickG_any (p:List Int) (vp:Value) (W:World) (hp:p.length≤9223372036854775807) (h:Ints W vp p) :
  Calls Try.prog 20 #[vp] W fun e w'=>∃ v0 v1 v2 v3,e=.returned (.agg #[v0,v1,v2,v3])∧Gr.GAt w' v0 v1 v2 v3 (Fl.pickG p)∧Flow.Grow W w':=by
 have HCh:=Lib.hid fun w (g:Flow.Grow W w)=>chor_any p vp ⟨#[99]⟩ ⟨#[]⟩ w hp (by decide) (h.grow g)
 have HGr:=Lib.hid fun (w:World) (va vf vi vs:Value) (hm:Ch.MkAt w (Ch.ctx p ⟨#[]⟩) (Ch.chorT p ⟨#[]⟩) vp va vf vi vs)=>flGraph_any w ⟨#[99]⟩ vp va vf vi vs (Ch.ctx p ⟨#[]⟩) (Ch.chorT p ⟨#[]⟩) (Ch.chor_kind p _) (by have:=(Ch.many_le p).2;unfold Ch.ctx;simp only [Ch.pnms_len];omega) (by have:=(Ch.chor_up p ⟨#[]⟩).2.2;omega) (by have:=(Ch.chor_up p ⟨#[]⟩).1;omega) (by have:=(Ch.chor_up p ⟨#[]⟩).2.1;omega) hm
 obtain ⟨p0,p1,rfl,_⟩:=h
 obtain ⟨G,hG⟩:∃ G,G=Fl.pickG p:=⟨_,rfl⟩
 have HE:Hid ((Fl.graphT (Ch.ctx p ⟨#[]⟩).parts (Ch.chorT p ⟨#[]⟩).flows (Ch.chorT p ⟨#[]⟩).items (Ch.chorT p ⟨#[]⟩).seqs).1=G):=Lib.hid hG.symm
 rw [HE.out] at HGr
 rw [← hG]
 clear hG HE
 obtain ⟨c,hc⟩:∃ c,c=Ch.ctx p ⟨#[]⟩:=⟨_,rfl⟩
 obtain ⟨m,hm⟩:∃ m,m=Ch.chorT p ⟨#[]⟩:=⟨_,rfl⟩
 rw [← hc,← hm] at HGr
 rw [← hc,← hm] at HCh
 clear hc hm
 generalize p.length=pn at *
 go_enter Try.func20,Try.ntmps20
 go_upto_region 1 with fail
 have HBw10:Hid ((W.alloc (.cells #[.slice none 0 0,.slice none 0 0,.slice none 0 0,.slice none 0 0] 28)).heap[W.heap.size]? = some (.cells #[.slice none 0 0,.slice none 0 0,.slice none 0 0,.slice none 0 0] 28 (0,0))):=Lib.hid (lay1_0 _ _)
 have HGw1:Hid (Flow.Grow W (W.alloc (.cells #[.slice none 0 0,.slice none 0 0,.slice none 0 0,.slice none 0 0] 28))):=Lib.hid (lay1_g _ _)
 have HSw1:Hid ((W.alloc (.cells #[.slice none 0 0,.slice none 0 0,.slice none 0 0,.slice none 0 0] 28)).heap.size=W.heap.size+1):=Lib.hid (by simp)
 generalize W.alloc (.cells #[.slice none 0 0,.slice none 0 0,.slice none 0 0,.slice none 0 0] 28)=w1 at *
 obtain ⟨X,hX⟩:∃ X,X=W.heap.size:=⟨_,rfl⟩
 rw [← hX] at HBw10 HSw1 ⊢
 have HXw1:=Lib.hid hX
 clear hX
 have CXw1:Hid (∀ wq,Flow.Grow w1 wq→wq.cell? ⟨X,0,none⟩=some (.slice none 0 0)∧wq.cell? ⟨X,1,none⟩=some (.slice none 0 0)∧wq.cell? ⟨X,2,none⟩=some (.slice none 0 0)∧wq.cell? ⟨X,3,none⟩=some (.slice none 0 0)):=Lib.hid (fun wq g=>⟨lay_cell g HBw10.out rfl,lay_cell g HBw10.out rfl,lay_cell g HBw10.out rfl,lay_cell g HBw10.out rfl⟩)
 have FXw1:Hid (∀ wq,Flow.Grow w1 wq→(∀ k,wq.frozen? ⟨X,k,none⟩=false)):=Lib.hid (fun wq g=>fun k=>lay_frozen g HBw10.out k)
 have hXW:Hid (W.heap.size≤X):=Lib.hid (by rw [HXw1.out];exact Nat.le_refl _)
 go_upto_region 2 with (first
  | (go_at_call 36;refine (HCh.out _ HGw1.out).mono ?_;rintro e w2 ⟨va,vf,vi,vs,rfl,hm,hg⟩;have HM2:=Lib.hid hm;have HG2:=Lib.hid (HGw1.out.trans hg);have HX2:=Lib.hid (heap_keep hg HBw10.out);clear hm hg)
  | (go_at_call 35;refine (HGr.out _ _ _ _ _ HM2.out).mono ?_;rintro e w3 ⟨v0,v1,v2,v3,er,rfl,ha,hg⟩;obtain ⟨u0,u1,rfl⟩:=ha.parts;obtain ⟨u2,u3,rfl⟩:=ha.msgs;obtain ⟨u4,u5,rfl⟩:=own_form ha.nodes;obtain ⟨u6,u7,rfl⟩:=own_form ha.edges;have HA3:=Lib.hid ha;have HG3:=Lib.hid (HG2.out.trans hg);have HX3:=Lib.hid (heap_keep hg HX2.out);clear ha hg;obtain ⟨y0,y1,y2,y3,yf⟩:=m4_cells HX3.out))
 have HX4:=Lib.hid (m4_set (.slice u0 G.np u1) (.slice u2 G.nm u3) (.slice u4 G.ns.length u5) (.slice u6 G.es.length u7) HX3.out)
 have HK4:=Lib.hid (m4_by w3 X (.slice u0 G.np u1) (.slice u2 G.nm u3) (.slice u4 G.ns.length u5) (.slice u6 G.es.length u7))
 generalize (((w3.setCell ⟨X,0,none⟩ (.slice u0 G.np u1)).setCell ⟨X,1,none⟩ (.slice u2 G.nm u3)).setCell ⟨X,2,none⟩ (.slice u4 G.ns.length u5)).setCell ⟨X,3,none⟩ (.slice u6 G.es.length u7)=w4 at *
 clear y0 y1 y2 y3 yf
 obtain ⟨y0,y1,y2,y3,yf⟩:=m4_cells HX4.out
 go_wp2_with fail
 have hx:=m4_set (.slice u0 G.np u1) (.slice u2 G.nm u3) (.slice u4 G.ns.length u5) (.slice u6 G.es.length u7) HX4.out
 have kb:=by_trans HK4.out (m4_by w4 X (.slice u0 G.np u1) (.slice u2 G.nm u3) (.slice u4 G.ns.length u5) (.slice u6 G.es.length u7))
 have hlo:=hXW.out
 have tb:=TY.blk HX3.out
 have g4:=grow_row HG3.out kb (fun b e=>by cases e;omega)
 exact bodyPost_ret (pickG_res _ _ X _ _ _ _ rfl hx) rfl ⟨_,_,_,_,rfl,(HA3.out.keep tb kb (by decide) (by decide)).gat,g4⟩
end Go.Proofs.Ytcnmaplopbbmaaa
