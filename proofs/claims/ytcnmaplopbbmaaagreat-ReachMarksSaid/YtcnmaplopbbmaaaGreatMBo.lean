/- flat's msg by contract. -/
import Derived.Test.YtcnmaplopbbmaaaGreatMBn
import Derived.Test.YtcnmaplopbbmaaaGreatFlowG
namespace Go.Proofs.YtcnmaplopbbmaaaGreat
open Go.RowKit
namespace Fl
def msgT (ml:List S) (x:S):Int × List S:=if 0≤place ml x then (place ml x,ml) else ((ml.length:Int),ml++[x])
theorem FM.msg {W w w':World} {B g c:Nat} {nm:S} {c1 c2 c3 c4 gp gm gn ge:Value} {pl ml:List S} {ns:List Gr.Nd} {es:List Gr.Ed} {er:Int} (h:FM W w B nm c1 c2 c3 c4 gp gm gn ge pl ml ns es er) (x:S)
  (o:w'.ownsRow W.heap.size 9 1 (.slice (some ⟨g,0,none⟩) (ml.length+1) c) (ml.length+1) (ml.map Value.string++[.string x])) (k:w.grownBy w' gm.ownBlock) (ha:gm.ownBlock=some g∨g=w.heap.size) :
  FM W (w'.setCell ⟨B,6,none⟩ (.slice (some ⟨g,0,none⟩) (ml.length+1) c)) B nm c1 c2 c3 c4 gp (.slice (some ⟨g,0,none⟩) (ml.length+1) c) gn ge pl (ml++[x]) ns es er∧w'.heap[B]? = some (.cells #[.string nm,c1,c2,c3,c4,gp,gm,gn,ge,.int .i64 er] 79 (0,0))∧Kept w (w'.setCell ⟨B,6,none⟩ (.slice (some ⟨g,0,none⟩) (ml.length+1) c)) [79,9]:=by
 have t:=TY.own h.msgs
 have hb:=t.keep_blk k h.box (by decide)
 have tb:=TY.blk hb
 have kb:=by_set w' B 6 (.slice (some ⟨g,0,none⟩) (ml.length+1) c)
 refine ⟨⟨(set_cells hb 6 _).trans rfl,h.lo,set_grow (grow_row h.grow k (own_lo h.msgs)) h.lo 6 _,tb.keep_own kb (h.parts.kept k h.ne) (by decide),?_,?_,tb.keep_own kb (t.keep_own k h.nodes (by decide)) (by decide),tb.keep_own kb (t.keep_own k h.edges (by decide)) (by decide)⟩,hb,(Kept.ty t k (by simp)).trans (Kept.ty tb kb (by simp))⟩
 ·have:=tb.keep_own kb o (by decide)
  rw [List.length_append,List.map_append]
  exact this
 ·cases hp:gp.ownBlock with
  | none=>exact .inl rfl
  | some b =>
   right
   intro e
   have e2:b=g:=by cases e;rfl
   subst e2
   rcases ha with ha | ha
   ·rcases h.ne with h1 | h1
    ·rw [h1] at hp;cases hp
    ·rw [hp] at h1;exact h1 ha.symm
   ·have:=(h.parts.lt b hp).2
    omega
end Fl
theorem info_str12:(Tryz.prog.info? 9).map (fun i=>(i.zero,i.size,i.bytes))=some (some (.string ⟨#[]⟩),1,16):=by kernel_rfl
set_option maxRecDepth 100000 in
set_option maxHeartbeats 4000000 in
theorem flMsg_any (W w:World) (B:Nat) (nm:ByteArray) (c1 c2 c3 c4 gp gm gn ge:Value) (pl ml:List Fl.S) (ns:List Gr.Nd) (es:List Gr.Ed) (er:Int) (x:ByteArray) (hn:ml.length≤100000) (h:Fl.FM W w B nm c1 c2 c3 c4 gp gm gn ge pl ml ns es er) :
  Calls Tryz.prog 84 #[.pointer (some ⟨B,0,none⟩),.string x] w fun e w'=>∃ gm',e=.returned (.int .i64 (Fl.msgT ml x).1)∧Fl.FM W w' B nm c1 c2 c3 c4 gp gm' gn ge pl (Fl.msgT ml x).2 ns es er∧Fl.Kept w w' [79,9]:=by
 have H:=Lib.hid h
 obtain ⟨g0,g1,rfl⟩:=own_form h.msgs
 have HPl:=Lib.hid (place_any _ ml x w (by omega) (show Fl.Txs w _ ml from Seg.of_own h.msgs))
 clear h
 obtain ⟨i9,hi,hz,hs,hb⟩:=info_parts08 info_str12
 have HI:=Lib.hid (And.intro hi (And.intro hz (And.intro hs hb)))
 clear hi hz hs hb
 obtain ⟨pk,hpk⟩:∃ k,k=Fl.place ml x:=⟨_,rfl⟩
 have Hpk:=Lib.hid hpk
 rw [← hpk] at HPl
 clear hpk
 obtain ⟨x0,x1,x2,x3,x4,x5,x6,x7,x8,x9,xf⟩:=m10_cells H.out.box
 by_cases h0:0≤pk
 ·have HT:Hid (Fl.msgT ml x=(pk,ml)):=Lib.hid (by unfold Fl.msgT;rw [← Hpk.out,if_pos h0])
  have d1:decide (pk≥0)=true:=by simp;omega
  rw [HT.out]
  clear h0
  go_enter Tryz.func84,Tryz.ntmps84
  go_wp2_with (go_at_call 85;refine HPl.out.mono ?_;rintro e w' ⟨rfl,rfl⟩)
  go_ret
  exact ⟨_,rfl,H.out,fun _ _ _ _ hy _=>hy⟩
 ·have HT:Hid (Fl.msgT ml x=((ml.length:Int),ml++[x])):=Lib.hid (by unfold Fl.msgT;rw [← Hpk.out,if_neg h0])
  have d1:decide (pk≥0)=false:=by simp;omega
  rw [HT.out]
  clear h0
  have HG:=Lib.hid (Flow.grow_alloc w (.cells #[.string x] 9))
  have HA:=Lib.hid (H.out.keep HG.out)
  have x6a:=Xm2.cell_grow HG.out x6
  have Hsz:=Lib.hid HA.out.grow.size
  generalize hml:ml.length=nl at *
  go_enter Tryz.func84,Tryz.ntmps84
  go_upto_region 5 with (first
   | (go_at_call 85;refine HPl.out.mono ?_;rintro e w' ⟨rfl,rfl⟩)
   | (at_builtin;go_loud (refine wpList_append_lies _ rfl _ _ 23 rfl W.heap.size 9 i9 _ 1 16 Tryz.underlying23 HI.out.1 HI.out.2.1 HI.out.2.2.1 HI.out.2.2.2 rfl (by decide) (.slice g0 nl g1) nl (ml.map Value.string) rfl (by have k:=HA.out.msgs;rw [hml] at k;exact k) ⟨w.heap.size,0,none⟩ 1 1 [.string x] rfl rfl (fun j u hj=>by rw [Addr.add_lit,Nat.zero_add];exact cells_of (heap_alloc_new _ _) j u hj) (by intro u hu;simp at hu;rw [hu];rfl) (by decide) (by unfold maxLen;omega) (by omega) Hsz.out _ rfl ?_);intro g4 c4' w4 hown4 hgrow4 hat4 hlt4;have He:=Lib.hid (HA.out.msg x (by rw [hml];exact hown4) hgrow4 hat4);obtain ⟨y0,y1,y2,y3,y4,y5,y6,y7,y8,y9,yf⟩:=m10_cells He.out.2.1;clear hown4 hgrow4 hat4 hlt4))
  rw [hml] at He
  have HF:=Lib.hid He.out.1
  have HKt:=Lib.hid He.out.2.2
  clear He x0 x1 x2 x3 x4 x5 x6 x7 x8 x9 xf x6a y0 y1 y2 y3 y4 y5 y6 y7 y8 y9 yf
  rw [show w4.setCell ⟨B,6,none⟩ (.slice (some ⟨g4,0,none⟩) (nl+1) c4')=w4.setCell ⟨B,6,none⟩ (.slice (some ⟨g4,0,none⟩) (nl+1) c4') from rfl]
  generalize w4.setCell ⟨B,6,none⟩ (.slice (some ⟨g4,0,none⟩) (nl+1) c4')=w5 at *
  obtain ⟨z0,z1,z2,z3,z4,z5,z6,z7,z8,z9,zf⟩:=m10_cells HF.out.box
  go_wp2_with fail
  go_ret
  exact ⟨_,rfl,HF.out,(Fl.Kept.grow HG.out _).trans HKt.out⟩
end Go.Proofs.YtcnmaplopbbmaaaGreat
namespace Go.Proofs.YtcnmaplopbbmaaaGreat
open Go.RowKit
namespace Fl
def nd0 (it:Ch.It):Gr.Nd:=⟨3,it.id,-1,-1,0,-1,it.loop⟩
def flowOf (fs:List Ch.Fl) (f:S):Ch.Fl:=fs.getD (place (fs.map (·.1)) f).toNat (⟨#[]⟩,⟨#[]⟩,⟨#[]⟩,⟨#[]⟩)
def flowStep (fs:List Ch.Fl) (pl:List S) (k:Nat) (f:S) (a:Gr.Nd × List S):Option (Gr.Nd × List S) :=
 if place (fs.map (·.1)) f < 0∨1 < k then none
 else if k=1 then some (⟨a.1.kind,a.1.id,a.1.fr,a.1.to,a.1.msg,(msgT a.2 (flowOf fs f).2.2.2).1,a.1.loop⟩,(msgT a.2 (flowOf fs f).2.2.2).2)
 else some (⟨a.1.kind,a.1.id,place pl (flowOf fs f).2.1,place pl (flowOf fs f).2.2.1,(msgT a.2 (flowOf fs f).2.2.2).1,a.1.rep,a.1.loop⟩,(msgT a.2 (flowOf fs f).2.2.2).2)
def flowsT (fs:List Ch.Fl) (pl:List S):Nat→List S→Gr.Nd × List S→(Gr.Nd × List S) × Bool
 | _,[],a=>(a,false)
 | k,f :: l,a=>match flowStep fs pl k f a with
  | none=>(a,true)
  | some b=>flowsT fs pl (k+1) l b
def taskT (fs:List Ch.Fl) (pl ml:List S) (it:Ch.It):Gr.Nd × List S × Bool :=
 let r:=flowsT fs pl 0 it.flows (nd0 it,ml)
 (r.1.1,r.1.2,r.2 || decide (r.1.1.fr < 0) || decide (r.1.1.to < 0) || decide (r.1.1.fr=r.1.1.to))
def errN (b:Bool) (er:Int):Int:=if b then 6 else er
def itemT (fs:List Ch.Fl) (pl:List S) (it:Ch.It) (a:List Gr.Nd × List S × Int):List Gr.Nd × List S × Int :=
 if it.kind=3 then (a.1++[(taskT fs pl a.2.1 it).1],(taskT fs pl a.2.1 it).2.1,errN (taskT fs pl a.2.1 it).2.2 a.2.2)
 else (a.1++[⟨it.kind,it.id,-1,-1,-1,-1,false⟩],a.2.1,a.2.2)
def itemsT (fs:List Ch.Fl) (pl:List S) (its:List Ch.It) (a:List Gr.Nd × List S × Int):List Gr.Nd × List S × Int:=its.foldl (fun a it=>itemT fs pl it a) a
def edgeT (ids:List S) (q:Ch.Sq) (a:List Gr.Ed × Int):List Gr.Ed × Int :=
 if place ids q.2.1 < 0∨place ids q.2.2 < 0 then (a.1,6) else (a.1++[(place ids q.2.1,place ids q.2.2)],a.2)
def edgesT (ids:List S) (qs:List Ch.Sq) (a:List Gr.Ed × Int):List Gr.Ed × Int:=qs.foldl (fun a q=>edgeT ids q a) a
def graphT (pl:List S) (fs:List Ch.Fl) (its:List Ch.It) (qs:List Ch.Sq):Gr.G × Int :=
 let a:=itemsT fs pl its ([],[],0)
 let b:=edgesT (its.map (·.id)) qs ([],a.2.2)
 if b.2=0 then (⟨a.1,b.1,pl.length,a.2.1.length⟩,0) else (⟨[],[],0,0⟩,b.2)
theorem msgT_len (ml:List S) (x:S):(msgT ml x).2.length≤ml.length+1:=by
 unfold msgT
 split <;> simp
theorem flowStep_len {fs:List Ch.Fl} {pl:List S} {k:Nat} {f:S} {a b:Gr.Nd × List S} (h:flowStep fs pl k f a=some b):k≤1∧b.2.length≤a.2.length+1:=by
 unfold flowStep at h
 have hm:=msgT_len a.2 (flowOf fs f).2.2.2
 split at h
 ·cases h
 ·rename_i h1
  split at h
  ·cases h
   exact ⟨by omega,hm⟩
  ·cases h
   exact ⟨by omega,hm⟩
theorem flowsT_len (fs:List Ch.Fl) (pl:List S):∀ (l:List S) (k:Nat) (a:Gr.Nd × List S),(flowsT fs pl k l a).1.2.length≤a.2.length+(2 - k)
 | [],k,a=>by simp [flowsT]
 | f :: l,k,a=>by
  rw [flowsT]
  cases h:flowStep fs pl k f a with
  | none=>simp
  | some b =>
   obtain ⟨h1,h2⟩:=flowStep_len h
   have:=flowsT_len fs pl l (k+1) b
   simp only
   omega
theorem itemT_len (fs:List Ch.Fl) (pl:List S) (it:Ch.It) (a:List Gr.Nd × List S × Int):(itemT fs pl it a).1.length=a.1.length+1∧(itemT fs pl it a).2.1.length≤a.2.1.length+2:=by
 unfold itemT
 split
 ·refine ⟨by simp,?_⟩
  exact flowsT_len fs pl it.flows 0 (nd0 it,a.2.1)
 ·exact ⟨by simp,by simp⟩
theorem itemsT_len (fs:List Ch.Fl) (pl:List S):∀ (its:List Ch.It) (a:List Gr.Nd × List S × Int),(itemsT fs pl its a).1.length=a.1.length+its.length∧(itemsT fs pl its a).2.1.length≤a.2.1.length+2 * its.length
 | [],a=>⟨rfl,Nat.le_refl _⟩
 | it :: l,a=>by
  have h1:=itemT_len fs pl it a
  have h2:=itemsT_len fs pl l (itemT fs pl it a)
  have e:itemsT fs pl (it :: l) a=itemsT fs pl l (itemT fs pl it a):=rfl
  rw [e,List.length_cons]
  omega
theorem edgesT_len (ids:List S):∀ (qs:List Ch.Sq) (a:List Gr.Ed × Int),(edgesT ids qs a).1.length≤a.1.length+qs.length
 | [],a=>Nat.le_refl _
 | q :: l,a=>by
  have h2:=edgesT_len ids l (edgeT ids q a)
  have e:edgesT ids (q :: l) a=edgesT ids l (edgeT ids q a):=rfl
  have h1:(edgeT ids q a).1.length≤a.1.length+1:=by
   unfold edgeT
   split <;> simp
  rw [e,List.length_cons]
  omega
theorem graphT_len (pl:List S) (fs:List Ch.Fl) (its:List Ch.It) (qs:List Ch.Sq):(graphT pl fs its qs).1.np≤pl.length∧(graphT pl fs its qs).1.nm≤2 * its.length∧(graphT pl fs its qs).1.ns.length≤its.length∧(graphT pl fs its qs).1.es.length≤qs.length:=by
 have h1:=itemsT_len fs pl its ([],[],0)
 have h2:=edgesT_len (its.map (·.id)) qs ([],(itemsT fs pl its ([],[],0)).2.2)
 unfold graphT
 simp only [List.length_nil,Nat.zero_add] at h1 h2 ⊢
 split
 ·exact ⟨Nat.le_refl _,h1.2,by rw [h1.1];exact Nat.le_refl _,h2⟩
 ·exact ⟨Nat.zero_le _,Nat.zero_le _,Nat.zero_le _,Nat.zero_le _⟩
end Fl
namespace Ch
theorem level_up (c:Cx) (m:Mk) (d:Nat):(levelT c m d).items.length≤m.items.length+3 * 2 ^ d∧(levelT c m d).seqs.length+3≤m.seqs.length+5 * 2 ^ d∧(levelT c m d).flows.length≤m.flows.length+2 * 2 ^ d:=by
 unfold levelT
 dsimp only
 have h:=part_up c d (c.name lB (m.n+1)) (m.named.item (gate 1 (c.name lB (m.n+1))))
 generalize partT c d (c.name lB (m.n+1)) (m.named.item (gate 1 (c.name lB (m.n+1))))=t at *
 obtain ⟨h1,h2,h3,h4,h5⟩:=h
 simp only [Mk.named,Mk.item,List.length_append,List.length_singleton] at h3 h4 h5
 simp only [seqT,Mk.named,Mk.item,List.length_append,List.length_singleton]
 omega
theorem chor_up (p:List Int) (pre:S):(chorT p pre).items.length≤24∧(chorT p pre).seqs.length≤37∧(chorT p pre).flows.length≤16:=by
 have h:=level_up (ctx p pre) mk0 3
 have e1:mk0.items.length=0:=rfl
 have e2:mk0.seqs.length=0:=rfl
 have e3:mk0.flows.length=0:=rfl
 rw [e1,e2,e3] at h
 unfold chorT
 omega
end Ch
end Go.Proofs.YtcnmaplopbbmaaaGreat
namespace Go.Proofs.YtcnmaplopbbmaaaGreat
open Go.RowKit
namespace Fl
def TaskSpec (W:World) (B:Nat) (nm:S) (c1 c2 c3 c4 gp ge:Value) (pl:List S) (es:List Gr.Ed) (fs:List Ch.Fl):Prop :=
 ∀ (w:World) (gm gn xp xf:Value) (ml:List S) (ns:List Gr.Nd) (er:Int) (it:Ch.It),FM W w B nm c1 c2 c3 c4 gp gm gn ge pl ml ns es er→ml.length≤10000→ns.length≤10000→Ch.Strs W xp it.parts→Ch.Strs W xf it.flows →
  Calls Tryz.prog 60 #[.pointer (some ⟨B,0,none⟩),.agg (Ch.ic it xp xf)] w fun e w'=>∃ gm' gn',e=.returned (.int .i64 (ns.length:Int))∧FM W w' B nm c1 c2 c3 c4 gp gm' gn' ge pl (taskT fs pl ml it).2.1 (ns++[(taskT fs pl ml it).1]) es (errN (taskT fs pl ml it).2.2 er)∧Kept w w' [79,52,9]
end Fl
theorem flItem_res (tmps:Array Value) (w:World) (X:Nat) (c0 c1:Value) (h2:tmps.getD 6 undef=.pointer (some ⟨X,0,none⟩)) (hx:w.heap[X]? = some (.cells #[c0,c1] 83 (0,0))) :
  (results Tryz.f39 tmps).run Tryz.prog w=.ok (.agg #[c0,c1]) w:=by
 have x0:=(cell_of_row w X 0 _ _ _ hx).trans rfl
 have x1:=(cell_of_row w X 1 _ _ _ hx).trans rfl
 simp at x0 x1
 simp only [Array.getD_eq_getD_getElem?] at h2
 simp [results,Tryz.results39,h2,x0,x1,go_sem]
theorem m2_set {w:World} {X:Nat} {T:TypeId} {b0 b1:Value} (c0 c1:Value) (h:w.heap[X]? = some (.cells #[b0,b1] T (0,0))):((w.setCell ⟨X,0,none⟩ c0).setCell ⟨X,1,none⟩ c1).heap[X]? = some (.cells #[c0,c1] T (0,0)) :=
 (set_cells ((set_cells h 0 c0).trans rfl) 1 c1).trans rfl
theorem m2_by (w:World) (X:Nat) (c0 c1:Value):w.grownBy ((w.setCell ⟨X,0,none⟩ c0).setCell ⟨X,1,none⟩ c1) (some X):=by_trans (by_set _ _ _ _) (by_set _ _ _ _)
theorem Fl.FM.ty {W w w':World} {B:Nat} {nm:Fl.S} {c1 c2 c3 c4 gp gm gn ge:Value} {pl ml:List Fl.S} {ns:List Gr.Nd} {es:List Gr.Ed} {er:Int} {T:TypeId} {X:Nat} (h:Fl.FM W w B nm c1 c2 c3 c4 gp gm gn ge pl ml ns es er) (k:TY w (some T) (some X)) (g:w.grownBy w' (some X)) (hX:W.heap.size≤X)
  (h1:T≠79) (h2:T≠9) (h3:T≠52) (h4:T≠56):Fl.FM W w' B nm c1 c2 c3 c4 gp gm gn ge pl ml ns es er :=
 ⟨k.keep_blk g h.box (by simpa using h1),h.lo,grow_row h.grow g (fun b e=>by cases e;exact hX),k.keep_own g h.parts (by simpa using h2),k.keep_own g h.msgs (by simpa using h2),h.ne,k.keep_own g h.nodes (by simpa using h3),k.keep_own g h.edges (by simpa using h4)⟩
theorem Fl.Kept.own {w w2 w3:World} {Ts:List TypeId} {X:Nat} (h:Fl.Kept w w2 Ts) (kb:w2.grownBy w3 (some X)) (hX:w.heap.size≤X):Fl.Kept w w3 Ts:=fun Y cs T fr hy hT=>by
 have h2:=h Y cs T fr hy hT
 have h1:=(Array.getElem?_eq_some_iff.1 hy).1
 exact (kb.block Y (Array.getElem?_eq_some_iff.1 h2).1 (by intro e;cases e;omega)).trans h2
set_option maxRecDepth 100000 in
set_option maxHeartbeats 4000000 in
theorem flItem_any (W w:World) (B:Nat) (nm:ByteArray) (c1 c2 c3 c4 gp gm gn ge xp xf:Value) (pl ml:List Fl.S) (ns:List Gr.Nd) (es:List Gr.Ed) (er:Int) (fs:List Ch.Fl) (it:Ch.It) (HT:Fl.TaskSpec W B nm c1 c2 c3 c4 gp ge pl es fs) (h7:it.kind≠7) (hm:ml.length≤10000) (hn:ns.length≤10000)
  (h:Fl.FM W w B nm c1 c2 c3 c4 gp gm gn ge pl ml ns es er) (hxp:Ch.Strs W xp it.parts) (hxf:Ch.Strs W xf it.flows) :
  Calls Tryz.prog 39 #[.pointer (some ⟨B,0,none⟩),.agg (Ch.ic it xp xf),.bool false] w fun e w'=>∃ gm' gn',e=.returned (.agg #[.int .i64 (ns.length:Int),.int .i64 (ns.length:Int)])∧Fl.FM W w' B nm c1 c2 c3 c4 gp gm' gn' ge pl (Fl.itemT fs pl it (ns,ml,er)).2.1 (Fl.itemT fs pl it (ns,ml,er)).1 es (Fl.itemT fs pl it (ns,ml,er)).2.2∧Fl.Kept w w' [79,52,9]:=by
 have H:=Lib.hid h
 have HXS:=Lib.hid (And.intro hxp hxf)
 obtain ⟨x0,x1,rfl⟩:=own_form hxp
 obtain ⟨y0,y1,rfl⟩:=own_form hxf
 clear h hxp hxf
 have HTk:=Lib.hid HT
 unfold Fl.TaskSpec at HTk
 clear HT
 have HNd:=Lib.hid fun w' (k:Fl.FM W w' B nm c1 c2 c3 c4 gp gm gn ge pl ml ns es er)=>flNode_any W w' B nm c1 c2 c3 c4 gp gm gn ge pl ml ns es er ⟨it.kind,it.id,-1,-1,-1,-1,false⟩ (by omega) k
 simp only [Ch.ic] at HTk ⊢
 simp only at HNd
 by_cases h3:it.kind=3
 ·have HE:Hid (Fl.itemT fs pl it (ns,ml,er)=(ns++[(Fl.taskT fs pl ml it).1],(Fl.taskT fs pl ml it).2.1,Fl.errN (Fl.taskT fs pl ml it).2.2 er)):=Lib.hid (by unfold Fl.itemT;rw [if_pos h3])
  rw [HE.out]
  have d1:(it.kind == 3)=true:=by simp [h3]
  have Hk:=Lib.hid (And.intro h7 h3)
  clear h7 h3
  go_enter Tryz.func39,Tryz.ntmps39
  go_upto_region 1 with fail
  have HBw10:Hid (((w.alloc (.cells #[.int .i64 it.kind,.string it.id,.string it.first,.slice x0 it.parts.length x1,.slice y0 it.flows.length y1,.bool it.loop,.string ⟨#[]⟩,.slice none 0 0,.slice none 0 0,.slice none 0 0] 116)).alloc (.cells #[.int .i64 0,.int .i64 0] 83)).heap[w.heap.size]? = some (.cells #[.int .i64 it.kind,.string it.id,.string it.first,.slice x0 it.parts.length x1,.slice y0 it.flows.length y1,.bool it.loop,.string ⟨#[]⟩,.slice none 0 0,.slice none 0 0,.slice none 0 0] 116 (0,0))):=Lib.hid (lay2_0 _ _ _)
  have HBw11:Hid (((w.alloc (.cells #[.int .i64 it.kind,.string it.id,.string it.first,.slice x0 it.parts.length x1,.slice y0 it.flows.length y1,.bool it.loop,.string ⟨#[]⟩,.slice none 0 0,.slice none 0 0,.slice none 0 0] 116)).alloc (.cells #[.int .i64 0,.int .i64 0] 83)).heap[w.heap.size+1]? = some (.cells #[.int .i64 0,.int .i64 0] 83 (0,0))):=Lib.hid (lay2_1 _ _ _)
  have HGw1:Hid (Flow.Grow w ((w.alloc (.cells #[.int .i64 it.kind,.string it.id,.string it.first,.slice x0 it.parts.length x1,.slice y0 it.flows.length y1,.bool it.loop,.string ⟨#[]⟩,.slice none 0 0,.slice none 0 0,.slice none 0 0] 116)).alloc (.cells #[.int .i64 0,.int .i64 0] 83))):=Lib.hid (lay2_g _ _ _)
  have HSw1:Hid (((w.alloc (.cells #[.int .i64 it.kind,.string it.id,.string it.first,.slice x0 it.parts.length x1,.slice y0 it.flows.length y1,.bool it.loop,.string ⟨#[]⟩,.slice none 0 0,.slice none 0 0,.slice none 0 0] 116)).alloc (.cells #[.int .i64 0,.int .i64 0] 83)).heap.size=w.heap.size+1+1):=Lib.hid (by simp)
  generalize (w.alloc (.cells #[.int .i64 it.kind,.string it.id,.string it.first,.slice x0 it.parts.length x1,.slice y0 it.flows.length y1,.bool it.loop,.string ⟨#[]⟩,.slice none 0 0,.slice none 0 0,.slice none 0 0] 116)).alloc (.cells #[.int .i64 0,.int .i64 0] 83)=w1 at *
  obtain ⟨X,hX⟩:∃ X,X=w.heap.size:=⟨_,rfl⟩
  rw [← hX] at HBw10 HBw11 HSw1 ⊢
  have HXw1:=Lib.hid hX
  clear hX
  have CXw1:Hid (∀ wq,Flow.Grow w1 wq→wq.cell? ⟨X,0,none⟩=some (.int .i64 it.kind)∧wq.cell? ⟨X,1,none⟩=some (.string it.id)∧wq.cell? ⟨X,2,none⟩=some (.string it.first)∧wq.cell? ⟨X,3,none⟩=some (.slice x0 it.parts.length x1)∧wq.cell? ⟨X,4,none⟩=some (.slice y0 it.flows.length y1)∧wq.cell? ⟨X,5,none⟩=some (.bool it.loop)∧wq.cell? ⟨X,6,none⟩=some (.string ⟨#[]⟩)∧wq.cell? ⟨X,7,none⟩=some (.slice none 0 0)∧wq.cell? ⟨X,8,none⟩=some (.slice none 0 0)∧wq.cell? ⟨X,9,none⟩=some (.slice none 0 0)∧wq.cell? ⟨X+1,0,none⟩=some (.int .i64 0)∧wq.cell? ⟨X+1,1,none⟩=some (.int .i64 0)):=Lib.hid (fun wq g=>⟨lay_cell g HBw10.out rfl,lay_cell g HBw10.out rfl,lay_cell g HBw10.out rfl,lay_cell g HBw10.out rfl,lay_cell g HBw10.out rfl,lay_cell g HBw10.out rfl,lay_cell g HBw10.out rfl,lay_cell g HBw10.out rfl,lay_cell g HBw10.out rfl,lay_cell g HBw10.out rfl,lay_cell g HBw11.out rfl,lay_cell g HBw11.out rfl⟩)
  have FXw1:Hid (∀ wq,Flow.Grow w1 wq→(∀ k,wq.frozen? ⟨X,k,none⟩=false)∧(∀ k,wq.frozen? ⟨X+1,k,none⟩=false)):=Lib.hid (fun wq g=>⟨fun k=>lay_frozen g HBw10.out k,fun k=>lay_frozen g HBw11.out k⟩)
  have hX:W.heap.size≤X+1:=by have h1:=HXw1.out;have h2:=H.out.grow.size;omega
  obtain ⟨z0,z1,z2,z3,z4,z5,z6,z7,z8,z9,zf⟩:=m10_cells HBw10.out
  go_upto_region 3 with (go_at_call 60;refine (HTk.out w1 gm gn _ _ ml ns er it (H.out.keep HGw1.out) hm hn HXS.out.1 HXS.out.2).mono ?_;rintro e w2 ⟨gm',gn',rfl,hf,hk⟩;have HF2:=Lib.hid hf;have HK2:=Lib.hid hk;have HE2:=Lib.hid (hk (X+1) _ _ _ HBw11.out (by decide));clear hf hk)
  clear z0 z1 z2 z3 z4 z5 z6 z7 z8 z9 zf
  have u0:=(cell_of_row w2 (X+1) 0 _ _ _ HE2.out).trans rfl
  have u1:=(cell_of_row w2 (X+1) 1 _ _ _ HE2.out).trans rfl
  have uf:=fun k=>frozen_of_row w2 (X+1) k _ _ HE2.out
  simp at u0 u1
  go_wp2_with fail
  have k:=m2_set (w:=w2) (X:=X+1) (.int .i64 (ns.length:Int)) (.int .i64 (ns.length:Int)) HE2.out
  have kb:=m2_by w2 (X+1) (.int .i64 (ns.length:Int)) (.int .i64 (ns.length:Int))
  have hX2:w.heap.size≤X+1:=by have h1:=HXw1.out;omega
  refine bodyPost_ret (flItem_res _ _ (X+1) _ _ rfl k) rfl ⟨gm',gn',rfl,HF2.out.ty (TY.blk HE2.out) kb hX (by decide) (by decide) (by decide) (by decide),((Fl.Kept.grow HGw1.out _).trans HK2.out).own kb hX2⟩
 ·have HE:Hid (Fl.itemT fs pl it (ns,ml,er)=(ns++[⟨it.kind,it.id,-1,-1,-1,-1,false⟩],ml,er)):=Lib.hid (by unfold Fl.itemT;rw [if_neg h3])
  rw [HE.out]
  have d1:(it.kind == 3)=false:=by simp [h3]
  have d2:(it.kind == 7)=false:=by simp [h7]
  have Hk:=Lib.hid (And.intro h7 h3)
  clear h7 h3 HTk
  go_enter Tryz.func39,Tryz.ntmps39
  go_upto_region 1 with fail
  have HBw10:Hid (((w.alloc (.cells #[.int .i64 it.kind,.string it.id,.string it.first,.slice x0 it.parts.length x1,.slice y0 it.flows.length y1,.bool it.loop,.string ⟨#[]⟩,.slice none 0 0,.slice none 0 0,.slice none 0 0] 116)).alloc (.cells #[.int .i64 0,.int .i64 0] 83)).heap[w.heap.size]? = some (.cells #[.int .i64 it.kind,.string it.id,.string it.first,.slice x0 it.parts.length x1,.slice y0 it.flows.length y1,.bool it.loop,.string ⟨#[]⟩,.slice none 0 0,.slice none 0 0,.slice none 0 0] 116 (0,0))):=Lib.hid (lay2_0 _ _ _)
  have HBw11:Hid (((w.alloc (.cells #[.int .i64 it.kind,.string it.id,.string it.first,.slice x0 it.parts.length x1,.slice y0 it.flows.length y1,.bool it.loop,.string ⟨#[]⟩,.slice none 0 0,.slice none 0 0,.slice none 0 0] 116)).alloc (.cells #[.int .i64 0,.int .i64 0] 83)).heap[w.heap.size+1]? = some (.cells #[.int .i64 0,.int .i64 0] 83 (0,0))):=Lib.hid (lay2_1 _ _ _)
  have HGw1:Hid (Flow.Grow w ((w.alloc (.cells #[.int .i64 it.kind,.string it.id,.string it.first,.slice x0 it.parts.length x1,.slice y0 it.flows.length y1,.bool it.loop,.string ⟨#[]⟩,.slice none 0 0,.slice none 0 0,.slice none 0 0] 116)).alloc (.cells #[.int .i64 0,.int .i64 0] 83))):=Lib.hid (lay2_g _ _ _)
  have HSw1:Hid (((w.alloc (.cells #[.int .i64 it.kind,.string it.id,.string it.first,.slice x0 it.parts.length x1,.slice y0 it.flows.length y1,.bool it.loop,.string ⟨#[]⟩,.slice none 0 0,.slice none 0 0,.slice none 0 0] 116)).alloc (.cells #[.int .i64 0,.int .i64 0] 83)).heap.size=w.heap.size+1+1):=Lib.hid (by simp)
  generalize (w.alloc (.cells #[.int .i64 it.kind,.string it.id,.string it.first,.slice x0 it.parts.length x1,.slice y0 it.flows.length y1,.bool it.loop,.string ⟨#[]⟩,.slice none 0 0,.slice none 0 0,.slice none 0 0] 116)).alloc (.cells #[.int .i64 0,.int .i64 0] 83)=w1 at *
  obtain ⟨X,hX⟩:∃ X,X=w.heap.size:=⟨_,rfl⟩
  rw [← hX] at HBw10 HBw11 HSw1 ⊢
  have HXw1:=Lib.hid hX
  clear hX
  have CXw1:Hid (∀ wq,Flow.Grow w1 wq→wq.cell? ⟨X,0,none⟩=some (.int .i64 it.kind)∧wq.cell? ⟨X,1,none⟩=some (.string it.id)∧wq.cell? ⟨X,2,none⟩=some (.string it.first)∧wq.cell? ⟨X,3,none⟩=some (.slice x0 it.parts.length x1)∧wq.cell? ⟨X,4,none⟩=some (.slice y0 it.flows.length y1)∧wq.cell? ⟨X,5,none⟩=some (.bool it.loop)∧wq.cell? ⟨X,6,none⟩=some (.string ⟨#[]⟩)∧wq.cell? ⟨X,7,none⟩=some (.slice none 0 0)∧wq.cell? ⟨X,8,none⟩=some (.slice none 0 0)∧wq.cell? ⟨X,9,none⟩=some (.slice none 0 0)∧wq.cell? ⟨X+1,0,none⟩=some (.int .i64 0)∧wq.cell? ⟨X+1,1,none⟩=some (.int .i64 0)):=Lib.hid (fun wq g=>⟨lay_cell g HBw10.out rfl,lay_cell g HBw10.out rfl,lay_cell g HBw10.out rfl,lay_cell g HBw10.out rfl,lay_cell g HBw10.out rfl,lay_cell g HBw10.out rfl,lay_cell g HBw10.out rfl,lay_cell g HBw10.out rfl,lay_cell g HBw10.out rfl,lay_cell g HBw10.out rfl,lay_cell g HBw11.out rfl,lay_cell g HBw11.out rfl⟩)
  have FXw1:Hid (∀ wq,Flow.Grow w1 wq→(∀ k,wq.frozen? ⟨X,k,none⟩=false)∧(∀ k,wq.frozen? ⟨X+1,k,none⟩=false)):=Lib.hid (fun wq g=>⟨fun k=>lay_frozen g HBw10.out k,fun k=>lay_frozen g HBw11.out k⟩)
  have hX:W.heap.size≤X+1:=by have h1:=HXw1.out;have h2:=H.out.grow.size;omega
  obtain ⟨z0,z1,z2,z3,z4,z5,z6,z7,z8,z9,zf⟩:=m10_cells HBw10.out
  go_upto_region 10 with (go_at_call 61;refine (HNd.out w1 (H.out.keep HGw1.out)).mono ?_;rintro e w2 ⟨gn',rfl,hf,hk⟩;have HF2:=Lib.hid hf;have HK2:=Lib.hid (hk.wide (Us:=[79,52,9]) (by simp));have HE2:=Lib.hid (hk (X+1) _ _ _ HBw11.out (by decide));clear hf hk)
  clear z0 z1 z2 z3 z4 z5 z6 z7 z8 z9 zf
  have u0:=(cell_of_row w2 (X+1) 0 _ _ _ HE2.out).trans rfl
  have u1:=(cell_of_row w2 (X+1) 1 _ _ _ HE2.out).trans rfl
  have uf:=fun k=>frozen_of_row w2 (X+1) k _ _ HE2.out
  simp at u0 u1
  go_wp2_with fail
  have k:=m2_set (w:=w2) (X:=X+1) (.int .i64 (ns.length:Int)) (.int .i64 (ns.length:Int)) HE2.out
  have kb:=m2_by w2 (X+1) (.int .i64 (ns.length:Int)) (.int .i64 (ns.length:Int))
  have hX2:w.heap.size≤X+1:=by have h1:=HXw1.out;omega
  refine bodyPost_ret (flItem_res _ _ (X+1) _ _ rfl k) rfl ⟨gm,gn',rfl,HF2.out.ty (TY.blk HE2.out) kb hX (by decide) (by decide) (by decide) (by decide),((Fl.Kept.grow HGw1.out _).trans HK2.out).own kb hX2⟩
end Go.Proofs.YtcnmaplopbbmaaaGreat
namespace Go.Proofs.YtcnmaplopbbmaaaGreat
open Go.RowKit
theorem Fl.FM.nbox {W w:World} {B X q:Nat} {u:Value} {cs:Array Value} {nm:Fl.S} {c1 c2 c3 c4 gp gm gn ge:Value} {pl ml:List Fl.S} {ns:List Gr.Nd} {es:List Gr.Ed} {er:Int} (h:Fl.FM W w B nm c1 c2 c3 c4 gp gm gn ge pl ml ns es er) (hb:w.heap[X]? = some (.cells cs 52 (0,0))) (hX:W.heap.size≤X) (hn:gn.ownBlock=none∨gn.ownBlock≠some X) :
  Fl.FM W (w.setCell ⟨X,q,none⟩ u) B nm c1 c2 c3 c4 gp gm gn ge pl ml ns es er:=by
 have t:=TY.blk hb
 have k:=by_set w X q u
 exact ⟨t.keep_blk k h.box (by decide),h.lo,set_grow h.grow hX q u,t.keep_own k h.parts (by decide),t.keep_own k h.msgs (by decide),h.ne,h.nodes.kept k hn,t.keep_own k h.edges (by decide)⟩
theorem wp_sto1 {P:Program} {o:Oper} {a:Act} {w w':World} {K:Act→World→Prop} {Q:Exit→Act→World→Prop} (hd:o.dst=none) (hr:(execOp a.eval o).run P w=.ok .skip w') (h:K a w'):o.wp P a w K Q:=by
 unfold Oper.wp
 rw [hr,Oper.upon_skip]
 rw [show a.put o.dst undef=a by rw [hd];rfl]
 exact h
theorem wp_callG {P:Program} {o:Oper} {a:Act} {w:World} {C:World→Prop} {f:Flow.Fact} {Q:Exit→Act→World→Prop} {d:Tmp} {fn:FuncId} {args:Array Value} (hd:o.dst=some d) (h:(execOp a.eval o).run P w=.ok (.enter fn args) w) (hc:Calls P fn args w fun e w'=>∃ v,e=.returned v∧C w'∧Flow.holds f v w') :
  o.wp P a w (fun a' w'=>∃ v,a'=a.put o.dst v∧C w'∧Flow.told o f a v w') Q:=by
 unfold Oper.wp
 rw [h]
 refine hc.mono fun e w' ⟨v,he,hR,hv⟩=>?_
 subst he
 exact ⟨v,rfl,hR,by unfold Flow.told;rw [hd];exact hv⟩
theorem Flow.endsG_n {Q:Exit→Act→World→Prop} {E:List Nat} {i:Nat} {o:Oper} {l:List Oper} {f:Flow.Fact} {F:List Flow.Fact} {a:Act} {w:World} (hd:o.dst=none) (h:Flow.endsG Q E (i+1) l F a w):Flow.endsG Q E i (o :: l) (f :: F) a w:=by
 unfold Flow.endsG
 simp only [hd]
 exact fun _=>h
namespace Fl
structure TC (W w3:World) (B X Y:Nat) (nm:S) (c1 c2 c3 c4 gp gm gn ge:Value) (pl ml:List S) (ns:List Gr.Nd) (es:List Gr.Ed) (er:Int) (yc bc:Array Value) (L:Nat→Bool) (w:World):Prop where
 kept:Kept w3 w [79,52,9]
 y:w.heap[Y]? = some (.cells yc 163 (0,0))
 any:∃ gmx mlx,FM W w B nm c1 c2 c3 c4 gp gmx gn ge pl mlx ns es er
 bx:∃ cs,w.heap[X]? = some (.cells cs 52 (0,0))∧cs.size=7
 fm:L 19=false→FM W w B nm c1 c2 c3 c4 gp gm gn ge pl ml ns es er
 b0:L 21=false→L 23=false→L 25=false→w.heap[X]? = some (.cells bc 52 (0,0))
variable {W w3 w w':World} {B X Y:Nat} {nm:S} {c1 c2 c3 c4 gp gm gn ge:Value} {pl ml:List S} {ns:List Gr.Nd} {es:List Gr.Ed} {er:Int} {yc bc:Array Value} {L:Nat→Bool}
theorem ad_no {L:Nat→Bool} {i k:Nat} (h:Flow.ad L i k=false):L k=false:=by
 unfold Flow.ad at h
 rw [Bool.or_eq_false_iff] at h
 exact h.2
theorem TC.more (h:TC W w3 B X Y nm c1 c2 c3 c4 gp gm gn ge pl ml ns es er yc bc L w) (g:Flow.Grow w w') (i:Nat):TC W w3 B X Y nm c1 c2 c3 c4 gp gm gn ge pl ml ns es er yc bc (Flow.ad L i) w' :=
 ⟨h.kept.trans (Kept.grow g _),heap_keep g h.y,h.any.imp fun _ h=>h.imp fun _ h=>h.keep g,h.bx.imp fun _ h=>⟨heap_keep g h.1,h.2⟩,fun e=>(h.fm (ad_no e)).keep g,fun e1 e2 e3=>heap_keep g (h.b0 (ad_no e1) (ad_no e2) (ad_no e3))⟩
theorem TC.msg (h:TC W w3 B X Y nm c1 c2 c3 c4 gp gm gn ge pl ml ns es er yc bc L w) (k:Kept w w' [79,9]) {gm2:Value} {ml2:List S} (f:FM W w' B nm c1 c2 c3 c4 gp gm2 gn ge pl ml2 ns es er):TC W w3 B X Y nm c1 c2 c3 c4 gp gm gn ge pl ml ns es er yc bc (Flow.ad L 19) w' :=
 ⟨h.kept.trans (k.wide (by simp)),k _ _ _ _ h.y (by decide),⟨gm2,ml2,f⟩,h.bx.imp fun _ h=>⟨k _ _ _ _ h.1 (by decide),h.2⟩,fun e=>by simp [Flow.ad] at e,fun e1 e2 e3=>k _ _ _ _ (h.b0 (ad_no e1) (ad_no e2) (ad_no e3)) (by decide)⟩
theorem TC.sto (h:TC W w3 B X Y nm c1 c2 c3 c4 gp gm gn ge pl ml ns es er yc bc L w) (i q:Nat) (hi:i=21∨i=23∨i=25) (u:Value) (hX:W.heap.size≤X) (hn:gn.ownBlock=none∨gn.ownBlock≠some X):TC W w3 B X Y nm c1 c2 c3 c4 gp gm gn ge pl ml ns es er yc bc (Flow.ad L i) (w.setCell ⟨X,q,none⟩ u):=by
 obtain ⟨cs,hb,hc⟩:=h.bx
 have t:=TY.blk hb
 have k:=by_set w X q u
 refine ⟨h.kept.trans (Kept.ty t k (by simp)),t.keep_blk k h.y (by decide),h.any.imp fun _ h=>h.imp fun _ h=>h.nbox hb hX hn,⟨_,set_cells hb q u,by simpa using hc⟩,fun e=>(h.fm (ad_no e)).nbox hb hX hn,fun e1 e2 e3=>?_⟩
 rcases hi with rfl | rfl | rfl
 ·simp [Flow.ad] at e1
 ·simp [Flow.ad] at e2
 ·simp [Flow.ad] at e3
end Fl
end Go.Proofs.YtcnmaplopbbmaaaGreat
