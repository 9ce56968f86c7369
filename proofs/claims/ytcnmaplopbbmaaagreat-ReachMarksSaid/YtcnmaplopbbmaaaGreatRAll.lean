/- galliardlaw17.all by its contract: the document's stages. -/
import Derived.Test.YtcnmaplopbbmaaaGreatRcEq
namespace Go.Proofs.YtcnmaplopbbmaaaGreat
open Go.RowKit Go.Maps
namespace Rs
def RunL (f:M→List Gr.Tn) (m0:M) (i:Nat):Prop:=∀ j,j < i→∃ l,(stage f m0 j).1[j]? = some l∧Gr.bad (f l)=false∧(stage f m0 j).1.length≤60
theorem RunL.zero (f:M→List Gr.Tn) (m0:M):RunL f m0 0:=fun j hj=>by omega
theorem RunL.more {f:M→List Gr.Tn} {m0:M} {i:Nat} (h:RunL f m0 i) {l:M} (hl:(stage f m0 i).1[i]? = some l) (hb:Gr.bad (f l)=false) (hm:(stage f m0 i).1.length≤60):RunL f m0 (i+1):=fun j hj=>by
 by_cases e:j < i
 ·exact h j e
 ·obtain rfl:j=i:=by omega
  exact ⟨l,hl,hb,hm⟩
structure Ra (W w:World) (X:Nat) (cg:Array Value) (Nb Rb:Nat) (K:Int) (vf vm:Value) (fin:List Bool) (rows:List Row) (vs:List Value):Prop where
 grow:Flow.Grow W w
 box:w.heap[X]? = some (.cells cg 27 (0,0))
 lo:W.heap.size≤Nb∧W.heap.size≤Rb∧Nb≠Rb
 nb:w.heap[Nb]? = some (.cells #[.int .i64 K,.int .i64 0,vf,vm] 34 (0,0))
 rb:w.heap[Rb]? = some (.cells #[.int .i64 0,.int .i64 0,.slice none 0 0,.slice none 0 0] 34 (0,0))
 st:NS w W.heap.size vf vm fin rows vs
def Po (W w:World) (vl:Value) (ls:List M):Prop:=w.ownsRow W.heap.size 72 65 vl ls.length (ls.flatMap fun l=>Gr.kc (l,false))
structure Rx (w:World) (S:Nat) (vr:Value) (row:Row) (vt:Value) (ts:List Gr.Tn):Prop where
 row:w.ownsRow S 76 2 vr row.length (flat2 row)
 ts:w.ownsRow S 112 66 vt ts.length (ts.flatMap Gr.rc)
section
variable {W w w':World} {vl:Value} {ls:List M} {X Nb Rb:Nat} {cg:Array Value} {K:Int} {vf vm:Value} {fin:List Bool} {rows:List Row} {vs:List Value} {S:Nat} {vr vt:Value} {row:Row} {ts:List Gr.Tn} {T:Option TypeId} {r:Option Nat}
theorem Ra.ty (h:Ra W w X cg Nb Rb K vf vm fin rows vs) (k:TY w T r) (g:w.grownBy w' r) (hr:∀ g,r=some g→W.heap.size≤g) (h1:T≠some 4) (h2:T≠some 74) (h3:T≠some 76) (h4:T≠some 34) (h5:T≠some 27):Ra W w' X cg Nb Rb K vf vm fin rows vs :=
 ⟨grow_row h.grow g hr,k.keep_blk g h.box h5,h.lo,k.keep_blk g h.nb h4,k.keep_blk g h.rb h4,h.st.ty k g h1 h2 h3⟩
theorem Ra.keep (h:Ra W w X cg Nb Rb K vf vm fin rows vs) (k:Flow.Grow w w'):Ra W w' X cg Nb Rb K vf vm fin rows vs:=⟨h.grow.trans k,heap_keep k h.box,h.lo,heap_keep k h.nb,heap_keep k h.rb,h.st.grow k⟩
theorem Ra.mv (h:Ra W w X cg Nb Rb K vf vm fin rows vs) (old:∀ j,j < rows.length→∀ b,(vs.getD j undef).ownBlock=some b→b < S) (hS:W.heap.size≤S) (o:w.ownsRow S 76 2 vr row.length (flat2 row)) (k:w.grownBy w' vr.ownBlock):Ra W w' X cg Nb Rb K vf vm fin rows vs :=
 have t:=TY.own o
 ⟨grow_row h.grow k (fun g e=>Nat.le_trans hS (own_lo o g e)),t.keep_blk k h.box (by decide),h.lo,t.keep_blk k h.nb (by decide),t.keep_blk k h.rb (by decide),
  t.keep_own k h.st.finals (by decide),t.keep_own k h.st.moves (by decide),h.st.len,fun j hj=>(h.st.row j hj).kept k (by
   cases hb:(vs.getD j undef).ownBlock with
   | none=>exact .inl rfl
   | some b =>
    right
    intro e
    have h1:=old j hj b hb
    have h2:=own_lo o b e.symm
    omega),h.st.inj⟩
theorem Ra.laid {vm':Value} {w1:World} (h:Ra W w X cg Nb Rb K vf vm fin rows vs) (old:∀ j,j < rows.length→∀ b,(vs.getD j undef).ownBlock=some b→b < S) (hS:W.heap.size≤S) (o:w.ownsRow S 76 2 vr row.length (flat2 row))
  (hown:w1.ownsRow W.heap.size 74 1 vm' (rows.length+1) (vs++[vr])) (k:w.grownBy w1 vm.ownBlock):Ra W (w1.setCell ⟨Nb,3,none⟩ vm') X cg Nb Rb K vf vm' fin (rows++[row]) (vs++[vr]):=by
 have t:=TY.own h.st.moves
 have hs:=h.st.more old o hS hown k
 have hn1:=t.keep_blk k h.nb (by decide)
 have t1:=TY.blk hn1
 have k1:=by_set w1 Nb 3 vm'
 refine ⟨grow_row (grow_row h.grow k (fun g e=>own_lo h.st.moves g e)) k1 (fun g e=>by cases e;exact h.lo.1),t1.keep_blk k1 (t.keep_blk k h.box (by decide)) (by decide),h.lo,(set_cells hn1 3 _).trans rfl,?_,hs.ty t1 k1 (by decide) (by decide) (by decide)⟩
 exact set_other (t.keep_blk k h.rb (by decide)) (fun e=>h.lo.2.2 e.symm)
theorem Ra.over {b:Bool} {vf':Value} {w1:World} (h:Ra W w X cg Nb Rb K vf vm fin rows vs) (hown:w1.ownsRow W.heap.size 4 1 vf' (fin.length+1) (fin.map Value.bool++[.bool b])) (k:w.grownBy w1 vf.ownBlock):Ra W (w1.setCell ⟨Nb,2,none⟩ vf') X cg Nb Rb K vf' vm (fin++[b]) rows vs:=by
 have t:=TY.own h.st.finals
 have hs:=h.st.final hown k
 have hn1:=t.keep_blk k h.nb (by decide)
 have t1:=TY.blk hn1
 have k1:=by_set w1 Nb 2 vf'
 refine ⟨grow_row (grow_row h.grow k (fun g e=>own_lo h.st.finals g e)) k1 (fun g e=>by cases e;exact h.lo.1),t1.keep_blk k1 (t.keep_blk k h.box (by decide)) (by decide),h.lo,(set_cells hn1 2 _).trans rfl,?_,hs.ty t1 k1 (by decide) (by decide) (by decide)⟩
 exact set_other (t.keep_blk k h.rb (by decide)) (fun e=>h.lo.2.2 e.symm)
theorem Ra.old (h:Ra W w X cg Nb Rb K vf vm fin rows vs):∀ j,j < rows.length→∀ b,(vs.getD j undef).ownBlock=some b→b < w.heap.size:=fun j hj b hb=>((h.st.row j hj).lt b hb).2
theorem Po.ty (h:Po W w vl ls) (k:TY w T r) (g:w.grownBy w' r) (h1:T≠some 72):Po W w' vl ls:=k.keep_own g h h1
theorem Po.keep (h:Po W w vl ls) (k:Flow.Grow w w'):Po W w' vl ls:=own_keep h k
theorem Po.more {x:M} {vl':Value} (o:w'.ownsRow W.heap.size 72 65 vl' (ls.length+1) ((ls.flatMap fun l=>Gr.kc (l,false))++Gr.kc (x,false))):Po W w' vl' (ls++[x]):=by
 unfold Po
 rw [List.length_append,List.flatMap_append]
 simpa using o
theorem Rx.ty (h:Rx w S vr row vt ts) (k:TY w T r) (g:w.grownBy w' r) (h0:T≠some 76) (h1:T≠some 112):Rx w' S vr row vt ts:=⟨k.keep_own g h.row h0,k.keep_own g h.ts h1⟩
theorem Rx.keep (h:Rx w S vr row vt ts) (k:Flow.Grow w w'):Rx w' S vr row vt ts:=⟨own_keep h.row k,own_keep h.ts k⟩
theorem Rx.more {x:Int × Int} {vr':Value} (h:Rx w S vr row vt ts) (o:w'.ownsRow S 76 2 vr' (row.length+1) (flat2 row++[.int .i64 x.1,.int .i64 x.2])) (k:w.grownBy w' vr.ownBlock):Rx w' S vr' (row++[x]) vt ts :=
 ⟨by rw [List.length_append,flat2,List.flatMap_append];exact o,(TY.own h.row).keep_own k h.ts (by decide)⟩
end
def found (ls:List M) (x:M) (q:Nat):Int:=if pos ls x < q then (pos ls x:Int) else -1
theorem found_hit {ls:List M} {x:M} {q:Nat} (hn:ls.Nodup) (h:ls[q]? = some x):(q:Int)=found ls x (q+1):=by
 have h1:=pos_eq hn h
 unfold found
 rw [if_pos (by omega),h1]
theorem found_miss {ls:List M} {x y:M} {q:Nat} (h:ls[q]? = some y) (hne:y≠x):found ls x q=found ls x (q+1):=by
 have h1:pos ls x≠q:=fun e=>by
  have hq:=(List.getElem?_eq_some_iff.1 h).1
  have h2:=pos_at (ls:=ls) (x:=x) (by omega)
  rw [e,h] at h2
  injection h2 with h2
  exact hne h2
 unfold found
 by_cases h2:pos ls x < q
 ·rw [if_pos h2,if_pos (by omega)]
 ·rw [if_neg h2,if_neg (by omega)]
def LeftL (W w:World) (K:Nat) (f:M→List Gr.Tn) (m0:M) (e:Ending):Prop :=
 Flow.Grow W w∧∃ i,RunL f m0 i ∧
  (((i=(stage f m0 i).1.length∨60 < (stage f m0 i).1.length)∧i≤(stage f m0 i).1.length∧∃ vl vf vm vs,e=.returned (.tuple #[vl,.agg #[.int .i64 (K:Int),.int .i64 0,vf,vm],.bool true]) ∧
      Po W w vl (stage f m0 i).1∧NS w W.heap.size vf vm (((stage f m0 i).1.take i).map over) (stage f m0 i).2 vs) ∨
    (∃ l,(stage f m0 i).1[i]? = some l∧Gr.bad (f l)=true∧(stage f m0 i).1.length≤60∧e=.returned (.tuple #[.slice none 0 0,.agg #[.int .i64 0,.int .i64 0,.slice none 0 0,.slice none 0 0],.bool false])))
end Rs
theorem own_at1 {w:World} {bs e sz q:Nat} {cs:Array Value} (h:w.heap[q]? = some (.cells cs e (0,0))) (hs:cs.size=sz) (hq:bs≤q):w.ownsRow bs e sz (.slice (some ⟨q,0,none⟩) 1 1) 1 cs.toList :=
 ⟨by simp [hs],.inr ⟨q,1,cs,rfl,hq,h,Nat.le_refl _,by unfold maxLen;omega,by simp [hs],by rw [List.take_of_length_le (by simp [hs])]⟩⟩
theorem Rs.Po.first {W w:World} {q:Nat} {l:Rs.M} (hl:l.length=64) (h:w.heap[q]? = some (.cells (Gr.tcs (l,false)) 72 (0,0))) (hs:(Gr.tcs (l,false)).size=65) (hq:W.heap.size≤q):Rs.Po W w (.slice (some ⟨q,0,none⟩) 1 1) [l]:=by
 have k:=own_at1 (bs:=W.heap.size) h hs hq
 unfold Rs.Po
 simp only [List.flatMap_cons,List.flatMap_nil,List.append_nil,List.length_singleton]
 rw [Gr.kc_eq (t:=(l,false)) hl]
 exact k
theorem allL_res (tmps:Array Value) (w:World) (X:Nat) (c0 c1 c2 c3 u v:Value) (h1:tmps.getD 2 undef=u) (h2:tmps.getD 3 undef=.pointer (some ⟨X,0,none⟩)) (h3:tmps.getD 4 undef=v) (hx:w.heap[X]? = some (.cells #[c0,c1,c2,c3] 34 (0,0))) :
  (results Tryz.f19 tmps).run Tryz.prog w=.ok (.tuple #[u,.agg #[c0,c1,c2,c3],v]) w:=by
 have x0:=(cell_of_row w X 0 _ _ _ hx).trans rfl
 have x1:=(cell_of_row w X 1 _ _ _ hx).trans rfl
 have x2:=(cell_of_row w X 2 _ _ _ hx).trans rfl
 have x3:=(cell_of_row w X 3 _ _ _ hx).trans rfl
 simp at x0 x1 x2 x3
 simp only [Array.getD_eq_getD_getElem?] at h1 h2 h3
 simp [results,Tryz.results19,h1,h2,h3,x0,x1,x2,x3,go_sem]
set_option maxRecDepth 100000 in
set_option maxHeartbeats 16000000 in
theorem allL_any (v0 v1 v2 v3:Value) (g:Gr.G) (f:Rs.M→List Gr.Tn) (m0:Rs.M) (W:World) (hf:g.Few) (hns:g.ns.length≤1000) (hc:g.check=0) (hnm:g.nm≤1000) (hfe:f=fun l=>g.turns g.labels (l,false)) (hm0:m0=g.firstL g.es.length) (hG:Rs.Good f g.labels.length) (h:Gr.GAt W v0 v1 v2 v3 g) :
  Calls Tryz.prog 19 #[.agg #[v0,v1,v2,v3]] W fun e w'=>Rs.LeftL W w' g.labels.length f m0 e:=by
 have hMay:=Gr.G.check_may hc
 have hF:=hMay.fit hf
 have hEl:=hF.es
 have HA:=Lib.hid h
 have HMk:Hid (∀ w (t:Gr.Tk),t.1.length=64→Calls Tryz.prog 20 #[.agg (Gr.tcs t)] w fun e w'=>e=.returned (.int .u64 (Mark.ofBools t.1:Int))∧Flow.Grow w w'):=Lib.hid fun w t ht=>tkMark_any t w ht
 have HLb:Hid (∀ w,Flow.Grow W w→Calls Tryz.prog 37 #[.agg #[v0,v1,v2,v3]] w fun e w'=>(∃ va vc,e=.returned (.slice va g.labels.length vc))∧Flow.Grow w w'):=Lib.hid fun w hg=>(rlabels_any v0 v1 v2 v3 g w hf (by have:=hMay.np;omega) hnm (h.grow hg)).mono fun e w' ⟨⟨v,he,ho⟩,hg⟩=>by
  obtain ⟨va,vc,rfl⟩:=own_form ho
  exact ⟨⟨va,vc,he⟩,hg⟩
 have HRt:Hid (∀ w (l:List Bool),l.length=64→Flow.Grow W w→Calls Tryz.prog 38 #[.agg #[v0,v1,v2,v3],.agg (Gr.tcs (l,false))] w fun e w'=>∃ v,e=.returned v∧Gr.RO w w' v (f l)):=Lib.hid fun w l hl hg=>by
  rw [hfe]
  exact rturns_any v0 v1 v2 v3 g (l,false) w hF hl (by have:=hMay.np;omega) hnm (h.grow hg)
 have HEd:Hid (∀ i,i < g.es.length→∃ q:Nat,(g.es.getD i (0,0)).1=q∧q < g.ns.length∧(g.firstL i).set i ((g.nd q).kind == 1)=g.firstL (i+1)):=Lib.hid fun i hi=>by
  have he:=hMay.edge i hi
  simp [Gr.G.edgeOk] at he
  refine ⟨(g.es.getD i (0,0)).1.toNat,by simp;omega,by simp;omega,g.firstL_step i⟩
 have HF0:Hid (Gr.tcs (g.firstL 0,false)=Gr.tcs Gr.tz):=Lib.hid (by rw [g.firstL_zero];rfl)
 have HFl:=Lib.hid g.firstL_len
 have HTn:Hid (∀ l,(f l).length≤4096000):=Lib.hid fun l=>by
  rw [hfe]
  have k:=flat_len_le (fun i=>g.nodeT g.labels i (l,false)) 4096 (fun i=>Gr.G.nodeT_len hF g.labels i (l,false)) (List.range g.ns.length)
  rw [List.length_range] at k
  refine Nat.le_trans k ?_
  have:=Nat.mul_le_mul_right 4096 hns
  omega
 have hLl:g.labels.length≤1000000:=by
  refine Nat.le_trans (g.la_len g.np) ?_
  have h0:=hMay.np
  have h1:g.np * g.nm≤16 * 1000:=Nat.mul_le_mul h0 hnm
  have h2:=Nat.mul_le_mul h0 h1
  omega
 have HGd:=Lib.hid hG
 have h64:m0.length=64:=by rw [hm0];exact g.firstL_len _
 have HSt:=Lib.hid (Rs.stage_ok hG h64)
 have H64:=Lib.hid h64
 have Hm0:=Lib.hid hm0
 clear hF hMay hfe hG h64 hm0
 obtain ⟨a0,c0,rfl⟩:=h.parts
 obtain ⟨a1,c1,rfl⟩:=h.msgs
 obtain ⟨an,cn,rfl⟩:=Gr.Recs.form h.nodes
 obtain ⟨ae,ce,rfl⟩:=Gr.Recs.form h.edges
 have HNs:=Lib.hid h.nodes
 have HEs:=Lib.hid h.edges
 clear h hc hf
 generalize g.labels.length=Ln at *
 generalize hEe:g.es.length=E at *
 have Hel:=Lib.hid hEe
 clear hEe
 generalize hNe:g.ns.length=nl at *
 have Hnl:=Lib.hid hNe
 clear hNe
 go_enter Tryz.func19,Tryz.ntmps19
 go_upto_region 1 with fail
 have HBw10:Hid (((W.alloc (.cells #[.slice a0 g.np c0,.slice a1 g.nm c1,.slice an nl cn,.slice ae E ce] 27)).alloc (.cells #[.int .i64 0,.int .i64 0,.slice none 0 0,.slice none 0 0] 34)).heap[W.heap.size]? = some (.cells #[.slice a0 g.np c0,.slice a1 g.nm c1,.slice an nl cn,.slice ae E ce] 27 (0,0))):=Lib.hid (lay2_0 _ _ _)
 have HBw11:Hid (((W.alloc (.cells #[.slice a0 g.np c0,.slice a1 g.nm c1,.slice an nl cn,.slice ae E ce] 27)).alloc (.cells #[.int .i64 0,.int .i64 0,.slice none 0 0,.slice none 0 0] 34)).heap[W.heap.size+1]? = some (.cells #[.int .i64 0,.int .i64 0,.slice none 0 0,.slice none 0 0] 34 (0,0))):=Lib.hid (lay2_1 _ _ _)
 have HGw1:Hid (Flow.Grow W ((W.alloc (.cells #[.slice a0 g.np c0,.slice a1 g.nm c1,.slice an nl cn,.slice ae E ce] 27)).alloc (.cells #[.int .i64 0,.int .i64 0,.slice none 0 0,.slice none 0 0] 34))):=Lib.hid (lay2_g _ _ _)
 have HSw1:Hid (((W.alloc (.cells #[.slice a0 g.np c0,.slice a1 g.nm c1,.slice an nl cn,.slice ae E ce] 27)).alloc (.cells #[.int .i64 0,.int .i64 0,.slice none 0 0,.slice none 0 0] 34)).heap.size=W.heap.size+1+1):=Lib.hid (by simp)
 generalize (W.alloc (.cells #[.slice a0 g.np c0,.slice a1 g.nm c1,.slice an nl cn,.slice ae E ce] 27)).alloc (.cells #[.int .i64 0,.int .i64 0,.slice none 0 0,.slice none 0 0] 34)=w1 at *
 obtain ⟨X,hX⟩:∃ X,X=W.heap.size:=⟨_,rfl⟩
 rw [← hX] at HBw10 HBw11 HSw1 ⊢
 have HXw1:=Lib.hid hX
 clear hX
 have CXw1:Hid (∀ wq,Flow.Grow w1 wq→wq.cell? ⟨X,0,none⟩=some (.slice a0 g.np c0)∧wq.cell? ⟨X,1,none⟩=some (.slice a1 g.nm c1)∧wq.cell? ⟨X,2,none⟩=some (.slice an nl cn)∧wq.cell? ⟨X,3,none⟩=some (.slice ae E ce)∧wq.cell? ⟨X+1,0,none⟩=some (.int .i64 0)∧wq.cell? ⟨X+1,1,none⟩=some (.int .i64 0)∧wq.cell? ⟨X+1,2,none⟩=some (.slice none 0 0)∧wq.cell? ⟨X+1,3,none⟩=some (.slice none 0 0)):=Lib.hid (fun wq g=>⟨lay_cell g HBw10.out rfl,lay_cell g HBw10.out rfl,lay_cell g HBw10.out rfl,lay_cell g HBw10.out rfl,lay_cell g HBw11.out rfl,lay_cell g HBw11.out rfl,lay_cell g HBw11.out rfl,lay_cell g HBw11.out rfl⟩)
 have FXw1:Hid (∀ wq,Flow.Grow w1 wq→(∀ k,wq.frozen? ⟨X,k,none⟩=false)∧(∀ k,wq.frozen? ⟨X+1,k,none⟩=false)):=Lib.hid (fun wq g=>⟨fun k=>lay_frozen g HBw10.out k,fun k=>lay_frozen g HBw11.out k⟩)
 have hz0:=zeroTk
 have hst:=store_newR Tryz.prog w1 (Gr.tcs Gr.tz) (Gr.tcs Gr.tz) 72 rfl (Gr.tcs_all _)
 have hsz:(Gr.tcs Gr.tz).size=65:=rfl
 generalize hz:Gr.tcs Gr.tz=z at *
 have Hz:=Lib.hid hz
 clear hz
 go_upto_region 2 with (refine wpList_buildTo rfl 72 _ rfl _ rfl z (by rw [← Hz.out];exact built_tok_nil) ?_)
 clear hz0 hst hsz
 have HBwT0:Hid ((w1.alloc (.cells z 72)).heap[w1.heap.size]? = some (.cells z 72 (0,0))):=Lib.hid (lay1_0 _ _)
 have HGwT:Hid (Flow.Grow w1 (w1.alloc (.cells z 72))):=Lib.hid (lay1_g _ _)
 have HSwT:Hid ((w1.alloc (.cells z 72)).heap.size=w1.heap.size+1):=Lib.hid (by simp)
 generalize w1.alloc (.cells z 72)=wT at *
 obtain ⟨T,hT⟩:∃ X,X=w1.heap.size:=⟨_,rfl⟩
 rw [← hT] at HBwT0 HSwT ⊢
 have HXwT:=Lib.hid hT
 clear hT
 have FXwT:Hid (∀ wq,Flow.Grow wT wq→(∀ k,wq.frozen? ⟨T,k,none⟩=false)):=Lib.hid (fun wq g=>fun k=>lay_frozen g HBwT0.out k)
 go_wp2_with fail
 go_loopw [6] (fun vi wr=>∃ i:Nat,i≤E∧vi=.int .i64 i∧Hid (wr.heap[T]? = some (.cells (Gr.tcs (g.firstL i,false)) 72 (0,0)))∧Hid (Flow.Grow w1 wr)) (fun vi _=>E - (intOf vi).toNat)
 case atStart=>exact ⟨0,by omega,rfl,Lib.hid (by rw [HF0.out];exact HBwT0.out),HGwT⟩
 case round =>
  obtain ⟨i,hi,rfl,HT,HGr⟩:=hrel
  rename World=>wz
  obtain ⟨c00,c01,c02,c03,c10,c11,c12,c13⟩:=CXw1.out wz (HGr.out)
  by_cases hin:i < E
  ·obtain ⟨eb,eo,rfl,p0,_⟩:=Gr.EsAt.at (Gr.Recs.grow HEs.out (HGw1.out.trans HGr.out)) (j:=i) (by rw [Hel.out];exact hin)
   obtain ⟨q,hq1,hq2,hq3⟩:=HEd.out i hin
   obtain ⟨nb,no,rfl,n0,_⟩:=Gr.NdsAt.at (Gr.Recs.grow HNs.out (HGw1.out.trans HGr.out)) (j:=q) (by rw [Hnl.out];exact hq2)
   have p0':wz.cell? ⟨eb,eo+i * 2,none⟩=some (.int .i64 (q:Int)):=by rw [← hq1];exact p0
   have n0':wz.cell? ⟨nb,no+q * 7,none⟩=some (.int .i64 (g.nd q).kind):=n0
   have Hq3:=Lib.hid hq3
   clear p0 n0 hq1 hq3
   generalize (g.nd q).kind=K at *
   have hi64:i < 64:=by omega
   go_upto_region 5 with fail
   refine Flow.region_tail2 (R:=Flow.Grow) (C:=fun wq=>Flow.Grow wz wq) (Fs:=[.inl ((.int .i64 (i:Int))),.inl ((.pointer (some ⟨X,2,none⟩))),.inl ((.slice (some ⟨nb,no,none⟩) nl cn)),.inl ((.pointer (some ⟨X,3,none⟩))),.inl ((.slice (some ⟨eb,eo,none⟩) E ce)),.inl ((.int .i64 (i:Int))),.inl ((.pointer (some ⟨eb,eo+i * 2,none⟩))),.inl ((.pointer (some ⟨eb,eo+i * 2,none⟩))),.inl ((.int .i64 (q:Int))),.inl ((.pointer (some ⟨nb,no+q * 7,none⟩))),.inl ((.pointer (some ⟨nb,no+q * 7,none⟩))),.inl ((.int .i64 K)),.inl ((.bool (K == 1))),.inl ((.pointer (some ⟨T,0,none⟩))),.inl ((.pointer (some ⟨T,i,none⟩)))])
    (S:=[[],[],[1],[],[3],[],[4,5],[6],[7],[2,8],[9],[10],[11],[],[13,0],[0,1,2,3,4,5,6,7,8,9,10,11,12,13,14]]) 15 (by kernel_rfl) (by kernel_rfl) (by kernel_rfl) (by kernel_rfl) rfl ?stab5 Flow.grow_refl (fun _ _ h k=>h.trans k) (Flow.grow_drew _) ?ones5 ?ends5
   case ones5 =>
    refine Flow.Ones.cons ?_ ?_
    ·intro a w hC hoff _
     have e6:a.eval (.tmp 6)=(.int .i64 (i:Int)):=hoff.at 6 (by kernel_rfl)
     refine .inl ⟨Flow.want_none rfl,?_⟩
     exact Flow.run_same (Flow.exec_move (.inl rfl) e6) Flow.grow_refl
    refine Flow.Ones.cons ?_ ?_
    ·intro a w hC hoff _
     have e1:a.eval (.tmp 1)=(.pointer (some ⟨X,0,none⟩)):=hoff.at 1 (by kernel_rfl)
     refine .inl ⟨Flow.want_none rfl,?_⟩
     refine Flow.run_same ?_ Flow.grow_refl
     have ec:=Flow.eval_const a
     generalize a.eval=ρ at e1 ec ⊢
     simp [execOp,e1,go_sem]
    refine Flow.Ones.cons ?_ ?_
    ·rintro a w hC hoff ⟨k1,-⟩
     have e24:a.eval (.tmp 24)=(.pointer (some ⟨X,2,none⟩)):=k1 24 rfl
     refine .inl ⟨Flow.want_none rfl,?_⟩
     refine Flow.run_same ?_ Flow.grow_refl
     have ec:=Flow.eval_const a
     generalize a.eval=ρ at e24 ec ⊢
     have h0:=Xm2.cell_grow hC c02
     simp [execOp,e24,h0,go_sem]
    refine Flow.Ones.cons ?_ ?_
    ·intro a w hC hoff _
     have e1:a.eval (.tmp 1)=(.pointer (some ⟨X,0,none⟩)):=hoff.at 1 (by kernel_rfl)
     refine .inl ⟨Flow.want_none rfl,?_⟩
     refine Flow.run_same ?_ Flow.grow_refl
     have ec:=Flow.eval_const a
     generalize a.eval=ρ at e1 ec ⊢
     simp [execOp,e1,go_sem]
    refine Flow.Ones.cons ?_ ?_
    ·rintro a w hC hoff ⟨k3,-⟩
     have e26:a.eval (.tmp 26)=(.pointer (some ⟨X,3,none⟩)):=k3 26 rfl
     refine .inl ⟨Flow.want_none rfl,?_⟩
     refine Flow.run_same ?_ Flow.grow_refl
     have ec:=Flow.eval_const a
     generalize a.eval=ρ at e26 ec ⊢
     have h0:=Xm2.cell_grow hC c03
     simp [execOp,e26,h0,go_sem]
    refine Flow.Ones.cons ?_ ?_
    ·intro a w hC hoff _
     have e6:a.eval (.tmp 6)=(.int .i64 (i:Int)):=hoff.at 6 (by kernel_rfl)
     refine .inl ⟨Flow.want_none rfl,?_⟩
     exact Flow.run_same (Flow.exec_move (.inl rfl) e6) Flow.grow_refl
    refine Flow.Ones.cons ?_ ?_
    ·rintro a w hC hoff ⟨k4,k5,-⟩
     have e27:a.eval (.tmp 27)=(.slice (some ⟨eb,eo,none⟩) E ce):=k4 27 rfl
     have e28:a.eval (.tmp 28)=(.int .i64 (i:Int)):=k5 28 rfl
     refine .inl ⟨Flow.want_none rfl,?_⟩
     refine Flow.run_same ?_ Flow.grow_refl
     have ec:=Flow.eval_const a
     generalize a.eval=ρ at e27 e28 ec ⊢
     simp [execOp,e27,e28,go_sem];intro hh;omega
    refine Flow.Ones.cons ?_ ?_
    ·rintro a w hC hoff ⟨k6,-⟩
     have e29:a.eval (.tmp 29)=(.pointer (some ⟨eb,eo+i * 2,none⟩)):=k6 29 rfl
     refine .inl ⟨Flow.want_none rfl,?_⟩
     refine Flow.run_same ?_ Flow.grow_refl
     have ec:=Flow.eval_const a
     generalize a.eval=ρ at e29 ec ⊢
     simp [execOp,e29,go_sem]
    refine Flow.Ones.cons ?_ ?_
    ·rintro a w hC hoff ⟨k7,-⟩
     have e30:a.eval (.tmp 30)=(.pointer (some ⟨eb,eo+i * 2,none⟩)):=k7 30 rfl
     refine .inl ⟨Flow.want_none rfl,?_⟩
     refine Flow.run_same ?_ Flow.grow_refl
     have ec:=Flow.eval_const a
     generalize a.eval=ρ at e30 ec ⊢
     have h0:=Xm2.cell_grow hC p0'
     simp [execOp,e30,h0,go_sem]
    refine Flow.Ones.cons ?_ ?_
    ·rintro a w hC hoff ⟨k2,k8,-⟩
     have e25:a.eval (.tmp 25)=(.slice (some ⟨nb,no,none⟩) nl cn):=k2 25 rfl
     have e31:a.eval (.tmp 31)=(.int .i64 (q:Int)):=k8 31 rfl
     refine .inl ⟨Flow.want_none rfl,?_⟩
     refine Flow.run_same ?_ Flow.grow_refl
     have ec:=Flow.eval_const a
     generalize a.eval=ρ at e25 e31 ec ⊢
     simp [execOp,e25,e31,go_sem];intro hh;omega
    refine Flow.Ones.cons ?_ ?_
    ·rintro a w hC hoff ⟨k9,-⟩
     have e32:a.eval (.tmp 32)=(.pointer (some ⟨nb,no+q * 7,none⟩)):=k9 32 rfl
     refine .inl ⟨Flow.want_none rfl,?_⟩
     refine Flow.run_same ?_ Flow.grow_refl
     have ec:=Flow.eval_const a
     generalize a.eval=ρ at e32 ec ⊢
     simp [execOp,e32,go_sem]
    refine Flow.Ones.cons ?_ ?_
    ·rintro a w hC hoff ⟨k10,-⟩
     have e33:a.eval (.tmp 33)=(.pointer (some ⟨nb,no+q * 7,none⟩)):=k10 33 rfl
     refine .inl ⟨Flow.want_none rfl,?_⟩
     refine Flow.run_same ?_ Flow.grow_refl
     have ec:=Flow.eval_const a
     generalize a.eval=ρ at e33 ec ⊢
     have h0:=Xm2.cell_grow hC n0'
     simp [execOp,e33,h0,go_sem]
    refine Flow.Ones.cons ?_ ?_
    ·rintro a w hC hoff ⟨k11,-⟩
     have e34:a.eval (.tmp 34)=(.int .i64 K):=k11 34 rfl
     refine .inl ⟨Flow.want_none rfl,?_⟩
     refine Flow.run_same ?_ Flow.grow_refl
     have ec:=Flow.eval_const a
     generalize a.eval=ρ at e34 ec ⊢
     simp [execOp,e34,ec,go_sem]
    refine Flow.Ones.cons ?_ ?_
    ·intro a w hC hoff _
     have e5:a.eval (.tmp 5)=(.pointer (some ⟨T,0,none⟩)):=hoff.at 5 (by kernel_rfl)
     refine .inl ⟨Flow.want_none rfl,?_⟩
     refine Flow.run_same ?_ Flow.grow_refl
     have ec:=Flow.eval_const a
     generalize a.eval=ρ at e5 ec ⊢
     simp [execOp,e5,go_sem]
    refine Flow.Ones.cons ?_ ?_
    ·rintro a w hC hoff ⟨k13,k0,-⟩
     have e36:a.eval (.tmp 36)=(.pointer (some ⟨T,0,none⟩)):=k13 36 rfl
     have e23:a.eval (.tmp 23)=(.int .i64 (i:Int)):=k0 23 rfl
     refine .inl ⟨Flow.want_none rfl,?_⟩
     refine Flow.run_same ?_ Flow.grow_refl
     have ec:=Flow.eval_const a
     generalize a.eval=ρ at e36 e23 ec ⊢
     simp [execOp,e36,e23,go_sem];omega
    exact trivial
   case stab5=>exact trivial
   case ends5 =>
    intro wx o ho hC
    simp only [List.take_succ_cons,List.take_zero,Flow.ends]
    have hop:o.op=.store 4 (.tmp 37) (.tmp 35):=by cases ho;rfl
    have hdst:o.dst=none:=by cases ho;rfl
    clear ho
    simp only [Act.put,List.setIfInBounds_toArray,List.set_cons_succ,List.set_cons_zero]
    have HTx:=Lib.hid (heap_keep hC HT.out)
    have HC:=Lib.hid hC
    clear hC p0' n0' c00 c01 c02 c03 c10 c11 c12 c13
    have a0:wx.cell? ⟨T,i,none⟩=some (.bool ((g.firstL i).getD i false)):=(cell_of_row wx T i _ _ _ HTx.out).trans (Gr.tcs_get (t:=(g.firstL i,false)) (by rw [HFl.out];exact hi64))
    have af:wx.frozen? ⟨T,i,none⟩=false:=frozen_of_row wx T _ _ _ HTx.out
    unfold Oper.wp
    simp only [execOp,hop,Act.eval]
    simp [a0,af,go_sem]
    simp only [hdst]
    have HT2:Hid ((wx.setCell ⟨T,i,none⟩ (.bool (K == 1))).heap[T]? = some (.cells (Gr.tcs (g.firstL (i+1),false)) 72 (0,0))):=Lib.hid (by
     rw [set_cells HTx.out i _,Gr.tcs_set (t:=(g.firstL i,false)) (by rw [HFl.out];exact hi64)]
     rw [show ((g.firstL i,false):Gr.Tk).1=g.firstL i from rfl,Hq3.out])
    have HG3:Hid (Flow.Grow w1 (wx.setCell ⟨T,i,none⟩ (.bool (K == 1)))):=Lib.hid (set_grow (HGr.out.trans HC.out) (by rw [← HXwT.out];exact Nat.le_refl _) _ _)
    clear a0 af hop hdst
    go_wp2_with fail
    go_roundw
    case rel=>exact ⟨i+1,by omega,by go_num,HT2,HG3⟩
    case measure=>simp [intOf];omega
  ·obtain rfl:i=E:=by omega
   rw [← Hm0.out] at HT
   have HSzF:=Lib.hid (tk_sz (t:=(m0,false)) H64.out)
   go_upto_region 6 with fail
   refine Flow.region_tail2 (R:=Flow.Grow) (C:=fun wq=>Flow.Grow wz wq) (Fs:=[.inl ((.agg (Gr.tcs (m0,false)))),.inr (fun v w=>∃ q,v=.slice (some ⟨q,0,none⟩) 1 1∧wz.heap.size≤q∧w.heap[q]? = some (.cells (Gr.tcs (m0,false)) 72 (0,0))),.inl ((.agg #[.slice a0 g.np c0,.slice a1 g.nm c1,.slice an nl cn,.slice ae i ce])),.inr (fun v _=>∃ va vc,v=.slice va Ln vc),.inl ((.int .i64 (Ln:Int))),.inl ((.agg #[.int .i64 (Ln:Int),.int .i64 0,.slice none 0 0,.slice none 0 0])),.inr (fun v w=>∃ N,v=.pointer (some ⟨N,0,none⟩)∧wz.heap.size≤N∧w.heap[N]? = some (.cells #[.int .i64 0,.int .i64 0,.slice none 0 0,.slice none 0 0] 34 (0,0))),.inr (fun v w=>∃ q,v=.slice (some ⟨q,0,none⟩) 1 1∧wz.heap.size≤q∧w.heap[q]? = some (.cells (Gr.tcs (m0,false)) 72 (0,0)))])
    (S:=[[],[0],[],[2],[3],[4],[],[1],[0,1,2,3,4,5,6,7]]) 8 (by kernel_rfl) (by kernel_rfl) (by kernel_rfl) (by kernel_rfl) rfl ?stab6 Flow.grow_refl (fun _ _ h k=>h.trans k) (Flow.grow_drew _) ?ones6 ?ends6
   case ones6 =>
    refine Flow.Ones.cons ?_ ?_
    ·intro a w hC hoff _
     have e5:a.eval (.tmp 5)=(.pointer (some ⟨T,0,none⟩)):=hoff.at 5 (by kernel_rfl)
     refine .inl ⟨Flow.want_none rfl,?_⟩
     refine Flow.run_same ?_ Flow.grow_refl
     have ec:=Flow.eval_const a
     generalize a.eval=ρ at e5 ec ⊢
     exact exec_load_row 72 _ rfl T e5 72 (Gr.tcs (m0,false)) (0,0) _ (heap_keep hC HT.out) Tryz.underlying72 rfl HSzF.out.1
    refine Flow.Ones.cons ?_ ?_
    ·rintro a w hC hoff ⟨k0,-⟩
     have e38:a.eval (.tmp 38)=(.agg (Gr.tcs (m0,false))):=k0 38 rfl
     refine .inl ⟨Flow.want_none rfl,?_⟩
     exact Flow.run_val (exec_slice_tok rfl e38 HSzF.out.2.1) (Flow.grow_alloc _ _) ⟨_,rfl,hC.size,heap_alloc_new _ _⟩
    refine Flow.Ones.cons ?_ ?_
    ·intro a w hC hoff _
     have e1:a.eval (.tmp 1)=(.pointer (some ⟨X,0,none⟩)):=hoff.at 1 (by kernel_rfl)
     refine .inl ⟨Flow.want_none rfl,?_⟩
     refine Flow.run_same ?_ Flow.grow_refl
     have ec:=Flow.eval_const a
     generalize a.eval=ρ at e1 ec ⊢
     obtain ⟨h0,h1,h2,h3,_⟩:=CXw1.out w (HGr.out.trans hC)
     simp [execOp,e1,h0,h1,h2,h3,go_sem]
    refine Flow.Ones.cons ?_ ?_
    ·rintro a w hC hoff ⟨k2,-⟩
     have e40:a.eval (.tmp 40)=(.agg #[.slice a0 g.np c0,.slice a1 g.nm c1,.slice an nl cn,.slice ae i ce]):=k2 40 rfl
     refine .inl ⟨Flow.want_none rfl,?_⟩
     exact Flow.run_call (Flow.exec_call rfl Tryz.func37 (by kernel_rfl) (by kernel_rfl) (by simp only [List.map_toArray,List.map_cons,List.map_nil,e40] <;> rfl)) ((HLb.out w (HGw1.out.trans (HGr.out.trans hC))).mono fun e w' ⟨⟨va,vc,he⟩,hg⟩=>⟨_,he,hg,va,vc,rfl⟩)
    refine Flow.Ones.cons ?_ ?_
    ·rintro a w hC hoff ⟨k3,-⟩
     have e41:(fun v _=>∃ va vc,v=.slice va Ln vc) (a.eval (.tmp 41)) w:=k3 41 rfl
     refine .inl ⟨Flow.want_none rfl,?_⟩
     obtain ⟨va,vc,h⟩:=e41
     refine Flow.run_val (v:=.int .i64 (Ln:Int)) (w':=w) ?_ (Flow.grow_refl _) rfl
     generalize a.eval=ρ at h ⊢
     simp [h,go_sem]
    refine Flow.Ones.cons ?_ ?_
    ·rintro a w hC hoff ⟨k4,-⟩
     have e42:a.eval (.tmp 42)=(.int .i64 (Ln:Int)):=k4 42 rfl
     refine .inl ⟨Flow.want_none rfl,?_⟩
     refine Flow.run_same ?_ Flow.grow_refl
     have ec:=Flow.eval_const a
     generalize a.eval=ρ at e42 ec ⊢
     simp [execOp,e42,go_sem]
    refine Flow.Ones.cons ?_ ?_
    ·intro a w hC hoff _
     refine .inl ⟨Flow.want_none rfl,?_⟩
     refine Flow.run_val (v:=.pointer (some ⟨w.heap.size,0,none⟩)) (w':=w.alloc (.cells #[.int .i64 0,.int .i64 0,.slice none 0 0,.slice none 0 0] 34)) ?_ (Flow.grow_alloc _ _) ⟨_,rfl,hC.size,heap_alloc_new _ _⟩
     simp [execOp,go_sem]
    refine Flow.Ones.cons ?_ ?_
    ·rintro a w hC hoff ⟨k1,-⟩
     have e39:(fun v w=>∃ q,v=.slice (some ⟨q,0,none⟩) 1 1∧wz.heap.size≤q∧w.heap[q]? = some (.cells (Gr.tcs (m0,false)) 72 (0,0))) (a.eval (.tmp 39)) w:=k1 39 rfl
     refine .inl ⟨Flow.want_none rfl,?_⟩
     exact Flow.run_val (Flow.exec_move (.inr rfl) rfl) (Flow.grow_refl _) e39
    exact trivial
   case stab6 =>
    simp only [Flow.Stable,and_true]
    refine ⟨fun v w w' hg ⟨q,e,h1,h2⟩=>⟨q,e,h1,heap_keep hg h2⟩,fun v w w' hg h=>h,fun v w w' hg ⟨q,e,h1,h2⟩=>⟨q,e,h1,heap_keep hg h2⟩,fun v w w' hg ⟨q,e,h1,h2⟩=>⟨q,e,h1,heap_keep hg h2⟩⟩
   case ends6 =>
    intro wx o ho hC
    simp only [List.take_succ_cons,List.take_zero,Flow.ends]
    rintro v39 _ v41 _ v8 ⟨Nb,rfl,hN,hNr⟩ v7 ⟨q,rfl,hq,hqr⟩
    have hop:o.op=.store 34 (.tmp 8) (.tmp 43):=by cases ho;rfl
    have hdst:o.dst=none:=by cases ho;rfl
    clear ho
    simp only [Act.put,List.setIfInBounds_toArray,List.set_cons_succ,List.set_cons_zero]
    have z0:=(cell_of_row wx Nb 0 _ _ _ hNr).trans rfl
    have z1:=(cell_of_row wx Nb 1 _ _ _ hNr).trans rfl
    have z2:=(cell_of_row wx Nb 2 _ _ _ hNr).trans rfl
    have z3:=(cell_of_row wx Nb 3 _ _ _ hNr).trans rfl
    have af:∀ j,wx.frozen? ⟨Nb,j,none⟩=false:=fun j=>frozen_of_row wx Nb _ _ _ hNr
    have HNr:=Lib.hid hNr
    have HC:=Lib.hid hC
    have HQr:=Lib.hid hqr
    have HLo:=Lib.hid (And.intro hN hq)
    clear hNr hC hqr hN hq
    unfold Oper.wp
    simp only [execOp,hop,Act.eval]
    simp [z0,z1,z2,z3,af,go_sem]
    simp only [hdst]
    clear z0 z1 z2 z3 af
    obtain ⟨w3,hw3⟩:∃ w3,w3=(((wx.setCell ⟨Nb,0,none⟩ (.int .i64 (Ln:Int))).setCell ⟨Nb,1,none⟩ (.int .i64 0)).setCell ⟨Nb,2,none⟩ (.slice none 0 0)).setCell ⟨Nb,3,none⟩ (.slice none 0 0):=⟨_,rfl⟩
    have HK3:Hid (wx.grownBy w3 (some Nb)):=Lib.hid (by rw [hw3];exact row4_by _ _ _ _ _ _)
    have HN3:Hid (w3.heap[Nb]? = some (.cells #[.int .i64 (Ln:Int),.int .i64 0,.slice none 0 0,.slice none 0 0] 34 (0,0))):=Lib.hid (by rw [hw3];exact row4_set17 _ _ _ _ _ _ _ HNr.out)
    rw [← hw3]
    clear hw3
    have HRa:Hid (Rs.Ra W w3 X #[.slice a0 g.np c0,.slice a1 g.nm c1,.slice an nl cn,.slice ae i ce] Nb (X+1) (Ln:Int) (.slice none 0 0) (.slice none 0 0) [] [] []):=Lib.hid (by
     have g1:Flow.Grow W wx:=HGw1.out.trans (HGr.out.trans HC.out)
     have s1:=HSw1.out
     have s2:=HXw1.out
     have s3:=HGr.out.size
     have s4:=HLo.out.1
     have s5:=HC.out.size
     have hRb:wx.heap[X+1]? = _:=heap_keep (HGr.out.trans HC.out) HBw11.out
     have hXw:wx.heap[X]? = _:=heap_keep (HGr.out.trans HC.out) HBw10.out
     refine ⟨grow_row g1 HK3.out (fun b e=>by cases e;omega),(HK3.out.block X (Array.getElem?_eq_some_iff.1 hXw).1 (by intro e;cases e;omega)).trans hXw,⟨by omega,by omega,by omega⟩,HN3.out,?_,World.ownsRow_nil _ _ _ _,World.ownsRow_nil _ _ _ _,rfl,fun j hj=>by simp at hj,fun i j hi=>by simp at hi⟩
     exact (HK3.out.block (X+1) (Array.getElem?_eq_some_iff.1 hRb).1 (by intro e;cases e;omega)).trans hRb)
    have HPo:Hid (Rs.Po W w3 (.slice (some ⟨q,0,none⟩) 1 1) [m0]):=Lib.hid (by
     have s3:=(HGw1.out.trans HGr.out).size
     have s4:=HLo.out.2
     exact ((Rs.Po.first H64.out HQr.out HSzF.out.2.1 (by omega)).ty (TY.blk HNr.out) HK3.out (by decide)))
    clear HT HGr HNr HC HQr HLo HK3 HN3 HSzF HBw10 HBw11 CXw1 FXw1 HBwT0 c00 c01 c02 c03 c10 c11 c12 c13
    obtain ⟨i1,hi1,hy0,hy1,hy2⟩:=info_parts17 info_bool17
    obtain ⟨i3,hi3,ht0,ht1,ht2⟩:=info_parts17 info_moves17
    obtain ⟨i4,hi4,hv0,hv1,hv2⟩:=info_parts17 info_move17
    obtain ⟨iK,zK,hiK,hzK,hsK,hbK,hcK⟩:=info_tok
    have HI1:=Lib.hid (And.intro hi1 (And.intro hy0 (And.intro hy1 hy2)))
    have HI3:=Lib.hid (And.intro hi3 (And.intro ht0 (And.intro ht1 ht2)))
    have HI4:=Lib.hid (And.intro hi4 (And.intro hv0 (And.intro hv1 hv2)))
    have HIK:=Lib.hid (And.intro hiK (And.intro hzK (And.intro hsK (And.intro hbK hcK))))
    clear hi1 hy0 hy1 hy2 hi3 ht0 ht1 ht2 hi4 hv0 hv1 hv2 hiK hzK hsK hbK hcK
    have Hm0r:Hid (Rs.stage f m0 0=([m0],[])):=Lib.hid rfl
    go_wp2_with fail
    go_loopw [7,9] (fun vl vi wo=>∃ (n:Nat) (vf vm:Value) (ls:List Rs.M) (rows:List Rs.Row) (vs:List Value),n≤ls.length∧ls.length≤4096060∧rows.length=n∧vi=.int .i64 (n:Int)∧Hid (Rs.stage f m0 n=(ls,rows))∧Hid (Rs.RunL f m0 n)∧Hid (Rs.Ra W wo X #[.slice a0 g.np c0,.slice a1 g.nm c1,.slice an nl cn,.slice ae i ce] Nb (X+1) (Ln:Int) vf vm ((ls.take n).map Rs.over) rows vs)∧Hid (Rs.Po W wo vl ls)) (fun _ vi _=>61 - (intOf vi).toNat)
    case atStart=>exact ⟨0,_,_,[m0],[],[],by simp,by simp,rfl,rfl,Hm0r,Lib.hid (Rs.RunL.zero _ _),HRa,HPo⟩
    case round =>
     clear HRa HPo Hm0r
     obtain ⟨n,vf,vm,ls,rows,vs,hnl,hl2,hrl,rfl,HSg,HRun,HRa,HPo⟩:=hrel
     rename World=>wo
     obtain ⟨va,hva⟩:∃ va,va=u7:=⟨_,rfl⟩
     obtain ⟨la,lc,hla⟩:=own_form HPo.out
     subst hla
     clear hva
     have HSo:=Lib.hid (HSt.out n)
     rw [HSg.out] at HSo
     have Hrl:=Lib.hid hrl
     obtain ⟨k,hk⟩:∃ k,k=ls.length:=⟨_,rfl⟩
     have Hk:=Lib.hid hk
     rw [← hk] at hnl hl2 ⊢
     clear hk hrl
     by_cases hin:n < k∧k≤60
     ·obtain ⟨lb,rfl⟩:=own_at HPo.out (by rw [← Hk.out];omega)
      obtain ⟨l,hl⟩:∃ l,ls[n]? = some l:=⟨_,List.getElem?_eq_getElem (by rw [← Hk.out];exact hin.1)⟩
      have Hl64:=Lib.hid (HSo.out.2.1 l (List.mem_of_getElem? hl))
      have HSl:=Lib.hid (tk_sz (t:=(l,false)) Hl64.out)
      have HRg:Hid (wo.rangeAt lb (n * 65) (Gr.tcs (l,false)).toList):=Lib.hid (by
       have r:=own_range (f:=fun l=>Gr.kc (l,false)) (fun l=>Gr.kc_len _) HPo.out hl
       rwa [Gr.kc_eq (t:=(l,false)) Hl64.out] at r)
      have Hl:=Lib.hid hl
      have hnk:(n:Int) < (k:Int):=by omega
      have d1:decide ((n:Int) < (k:Int))=true:=by simp;omega
      have d1':decide (n < k)=true:=by simp;omega
      have d2:decide ((k:Int)≤60)=true:=by simp;omega
      have d2':decide (k≤60)=true:=by simp;omega
      have hn60:n < 60:=by omega
      clear hl
      go_upto_region 11 with fail
      obtain ⟨TS,hTS⟩:∃ TS,TS=f l:=⟨_,rfl⟩
      have HTS:=Lib.hid hTS
      clear hTS
      have HE0:=Lib.hid (World.ownsRow_lit (base:=wo.heap.size) (e:=76) (size:=2) wo #[] 0 (Nat.le_refl _) (by decide) rfl)
      have HGe:Hid (Flow.Grow wo (wo.alloc (.cells #[] 76))):=Lib.hid (Flow.grow_alloc _ _)
      generalize hwe:wo.alloc (.cells #[] 76)=we at *
      have HRe:=Lib.hid (HRa.out.keep HGe.out)
      have HPe:=Lib.hid (HPo.out.keep HGe.out)
      have HOld:=Lib.hid HRa.out.old
      have HWo:=Lib.hid HRa.out.grow.size
      have HSz:=Lib.hid HGe.out.size
      have HRg:=Lib.hid (range_grow HRg.out HGe.out)
      clear HRa HPo hwe HGe
      generalize wo.heap.size=S at *
      refine Flow.region_grown (Fs:=[.inl ((.agg #[.slice a0 g.np c0,.slice a1 g.nm c1,.slice an nl cn,.slice ae i ce])),.inl ((.slice (some ⟨lb,0,none⟩) k lc)),.inl ((.int .i64 (n:Int))),.inl ((.pointer (some ⟨lb,n * 65,none⟩))),.inl ((.agg (Gr.tcs (l,false)))),.inr (fun v w=>w.ownsRow S 112 66 v TS.length (TS.flatMap Gr.rc)),.inr (fun v w=>w.ownsRow S 112 66 v TS.length (TS.flatMap Gr.rc))])
       (S:=[[],[],[],[1,2],[3],[0,4],[5]]) (by kernel_rfl) (by kernel_rfl) (by kernel_rfl) rfl ?stab11 ?ones11 ?ends11
      case ones11 =>
       refine Flow.Ones.cons ?_ ?_
       ·intro a w hC hoff _
        have e1:a.eval (.tmp 1)=(.pointer (some ⟨X,0,none⟩)):=hoff.at 1 (by kernel_rfl)
        refine .inl ⟨Flow.want_none rfl,?_⟩
        refine Flow.run_same ?_ Flow.grow_refl
        have ec:=Flow.eval_const a
        generalize a.eval=ρ at e1 ec ⊢
        have hb:=heap_keep hC HRe.out.box
        have h0:=(cell_of_row w X 0 _ _ _ hb).trans rfl
        have h1:=(cell_of_row w X 1 _ _ _ hb).trans rfl
        have h2:=(cell_of_row w X 2 _ _ _ hb).trans rfl
        have h3:=(cell_of_row w X 3 _ _ _ hb).trans rfl
        simp at h0 h1 h2 h3
        simp [execOp,e1,h0,h1,h2,h3,go_sem]
       refine Flow.Ones.cons ?_ ?_
       ·intro a w hC hoff _
        have e7:a.eval (.tmp 7)=(.slice (some ⟨lb,0,none⟩) k lc):=hoff.at 7 (by kernel_rfl)
        refine .inl ⟨Flow.want_none rfl,?_⟩
        exact Flow.run_same (Flow.exec_move (.inl rfl) e7) Flow.grow_refl
       refine Flow.Ones.cons ?_ ?_
       ·intro a w hC hoff _
        have e9:a.eval (.tmp 9)=(.int .i64 (n:Int)):=hoff.at 9 (by kernel_rfl)
        refine .inl ⟨Flow.want_none rfl,?_⟩
        exact Flow.run_same (Flow.exec_move (.inl rfl) e9) Flow.grow_refl
       refine Flow.Ones.cons ?_ ?_
       ·rintro a w hC hoff ⟨k1,k2,-⟩
        have e57:a.eval (.tmp 57)=(.slice (some ⟨lb,0,none⟩) k lc):=k1 57 rfl
        have e58:a.eval (.tmp 58)=(.int .i64 (n:Int)):=k2 58 rfl
        refine .inl ⟨Flow.want_none rfl,?_⟩
        refine Flow.run_same ?_ Flow.grow_refl
        have ec:=Flow.eval_const a
        generalize a.eval=ρ at e57 e58 ec ⊢
        simp [execOp,e57,e58,go_sem];intro hh;omega
       refine Flow.Ones.cons ?_ ?_
       ·rintro a w hC hoff ⟨k3,-⟩
        have e59:a.eval (.tmp 59)=(.pointer (some ⟨lb,n * 65,none⟩)):=k3 59 rfl
        refine .inl ⟨Flow.want_none rfl,?_⟩
        refine Flow.run_same ?_ Flow.grow_refl
        have ec:=Flow.eval_const a
        generalize a.eval=ρ at e59 ec ⊢
        exact exec_load_mid 72 _ rfl lb (n * 65) e59 (Gr.tcs (l,false)).toList _ (range_grow HRg.out hC) Tryz.underlying72 rfl (by rw [Array.length_toList];exact HSl.out.1)
       refine Flow.Ones.cons ?_ ?_
       ·rintro a w hC hoff ⟨k0,k4,-⟩
        have e56:a.eval (.tmp 56)=(.agg #[.slice a0 g.np c0,.slice a1 g.nm c1,.slice an nl cn,.slice ae i ce]):=k0 56 rfl
        have e60:a.eval (.tmp 60)=(.agg (Gr.tcs (l,false))):=k4 60 rfl
        refine .inl ⟨Flow.want_none rfl,?_⟩
        exact Flow.run_call (Flow.exec_call rfl Tryz.func38 (by kernel_rfl) (by kernel_rfl) (by simp only [List.map_toArray,List.map_cons,List.map_nil,e56,e60] <;> rfl)) ((HRt.out w l Hl64.out (HRe.out.grow.trans hC)).mono fun e w' ⟨v,he,ro⟩=>⟨_,he,ro.grow,by rw [HTS.out];exact own_base ro.own (Nat.le_trans HSz.out hC.size)⟩)
       refine Flow.Ones.cons ?_ ?_
       ·rintro a w hC hoff ⟨k5,-⟩
        have e61:(fun v w=>w.ownsRow S 112 66 v TS.length (TS.flatMap Gr.rc)) (a.eval (.tmp 61)) w:=k5 61 rfl
        refine .inl ⟨Flow.want_none rfl,?_⟩
        exact Flow.run_val (Flow.exec_move (.inr rfl) rfl) (Flow.grow_refl _) e61
       exact trivial
      case stab11 =>
       simp only [Flow.Stable,and_true]
       exact ⟨fun v w w' hR h=>own_keep h hR,fun v w w' hR h=>own_keep h hR⟩
      case ends11 =>
       intro wt hC
       simp only [Flow.ends]
       rintro v61 _ v11 ho11
       simp only [Act.put,List.setIfInBounds_toArray,List.set_cons_succ,List.set_cons_zero]
       obtain ⟨oa,oc,hoa⟩:=own_form ho11
       subst hoa
       have HRt1:=Lib.hid (HRe.out.keep hC)
       have HPt1:=Lib.hid (HPe.out.keep hC)
       have HRx1:Hid (Rs.Rx wt S (.slice (some ⟨S,0,none⟩) 0 0) [] (.slice oa TS.length oc) TS):=Lib.hid ⟨own_keep HE0.out hC,ho11⟩
       have HSz1:Hid (S≤wt.heap.size):=Lib.hid (Nat.le_trans HSz.out hC.size)
       have HTm:TS.length≤4096000:=by rw [HTS.out];exact HTn.out l
       clear hC ho11 HRe HPe HE0 HRg HSz
       obtain ⟨m,hm⟩:∃ m,m=TS.length:=⟨_,rfl⟩
       have Hm:=Lib.hid hm
       rw [← hm] at HTm HRx1 ⊢
       clear hm
       go_wp2_with fail
       go_loopw [7,10,12] (fun vl vr vj wk=>∃ (j:Nat) (ls':List Rs.M) (row:Rs.Row),j≤m∧vj=.int .i64 (j:Int)∧row.length=j∧ls'.length≤k+j∧Gr.bad (TS.take j)=false∧Hid ((TS.take j).foldl Rs.step (ls,[])=(ls',row))∧Hid (Rs.Ra W wk X #[.slice a0 g.np c0,.slice a1 g.nm c1,.slice an nl cn,.slice ae i ce] Nb (X+1) (Ln:Int) vf vm ((ls.take n).map Rs.over) rows vs)∧Hid (Rs.Po W wk vl ls')∧Hid (Rs.Rx wk S vr row (.slice oa m oc) TS)∧Hid (S≤wk.heap.size)) (fun _ _ vj _=>m - (intOf vj).toNat)
       case atStart=>exact ⟨0,ls,[],by omega,rfl,rfl,by have:=Hk.out;omega,rfl,Lib.hid rfl,HRt1,by rw [Hk.out];exact HPt1,HRx1,HSz1⟩
       case round =>
        clear HRt1 HPt1 HRx1 HSz1 d1 d1' d2 d2'
        obtain ⟨j,ls',row,hj,rfl,hrj,hlj,hbad,HFd,HRa,HPo,HRx,HSz⟩:=hrel
        rename World=>wk
        obtain ⟨va,hva⟩:∃ va,va=u7:=⟨_,rfl⟩
        obtain ⟨la',lc',hla⟩:=own_form HPo.out
        subst hla
        clear hva
        obtain ⟨vb,hvb⟩:∃ vb,vb=u10:=⟨_,rfl⟩
        obtain ⟨ra,rc,hra⟩:=own_form HRx.out.row
        subst hra
        clear hvb
        have Hrj:=Lib.hid hrj
        rw [hrj] at HRx ⊢
        clear hrj
        obtain ⟨k',hk'⟩:∃ k',k'=ls'.length:=⟨_,rfl⟩
        have Hk':=Lib.hid hk'
        rw [← hk'] at hlj ⊢
        clear hk'
        have HOk:Hid (ls'.Nodup∧∀ x∈ls',x.length=64):=Lib.hid (Rs.fold_ok HGd.out HSo.out Hl64.out (by rw [← HTS.out];exact HFd.out))
        have Hbd:=Lib.hid hbad
        clear hbad
        by_cases hjm:j < m
        ·have ht0:wk.ownsRow S 112 66 (.slice oa m oc) m (TS.flatMap Gr.rc):=by
          have h0:=HRx.out.ts
          rwa [← Hm.out] at h0
         obtain ⟨ob,rfl⟩:=own_at ht0 (by omega)
         obtain ⟨x,hx⟩:∃ x,TS[j]? = some x:=⟨_,List.getElem?_eq_getElem (by rw [← Hm.out];exact hjm)⟩
         have htl:x.2.1.length=64:=HGd.out.len l Hl64.out x (by rw [← HTS.out];exact List.mem_of_getElem? hx)
         have HNx:=Lib.hid (Rs.fold_take (ls,[]) hx)
         have HBx:=Lib.hid (Gr.bad_take TS j x hx)
         have HMx:=Lib.hid (List.mem_of_getElem? hx)
         have HXj:=Lib.hid hx
         have r2:=own_range (f:=Gr.rc) Gr.rc_len ht0 hx
         obtain ⟨lab,tl,tb⟩:=x
         simp only at htl
         have h0:wk.cell? ⟨ob,j * 66,none⟩=some (.int .i64 lab):=r2 0 _ rfl
         have r3:wk.rangeAt ob (j * 66+1) (Gr.kc (tl,tb)):=range_right (xs:=[.int .i64 lab]) r2
         rw [kc_split (t:=(tl,tb)) htl] at r3
         have r4:=range_right r3
         have h65:wk.cell? ⟨ob,j * 66+1+64,none⟩=some (.bool tb):=by
          have k0:=r4 0 (.bool tb) rfl
          rw [List.length_map,Nat.add_zero] at k0
          rw [← htl]
          exact k0
         have HR4:Hid (wk.rangeAt ob (j * 66+1) (tl.map Value.bool)):=Lib.hid (range_left r3)
         have HR3:Hid (wk.rangeAt ob (j * 66+1) (Gr.tcs (tl,tb)).toList):=Lib.hid (by
          have k0:=kc_split (t:=(tl,tb)) htl
          rw [← Gr.kc_eq (t:=(tl,tb)) htl,k0]
          exact r3)
         have Htl:=Lib.hid htl
         clear r2 r3 r4 hx htl ht0
         rw [HFd.out] at HNx
         have hmw:m≤4096000:=HTm
         cases tb with
         | true =>
          have r2:=HRa.out.rb
          have q0:=(cell_of_row wk _ 0 _ _ _ r2).trans rfl
          have q1:=(cell_of_row wk _ 1 _ _ _ r2).trans rfl
          have q2:=(cell_of_row wk _ 2 _ _ _ r2).trans rfl
          have q3:=(cell_of_row wk _ 3 _ _ _ r2).trans rfl
          have f0:=frozen_of_row wk (X+1) 0 _ _ r2
          have f1:=frozen_of_row wk (X+1) 1 _ _ r2
          have f2:=frozen_of_row wk (X+1) 2 _ _ r2
          have f3:=frozen_of_row wk (X+1) 3 _ _ r2
          clear r2
          go_wp2_with fail
          refine bodyPost_ret (allL_res _ _ (X+1) _ _ _ _ _ _ rfl rfl rfl (row4_set17 _ _ _ _ _ _ _ HRa.out.rb)) rfl ⟨grow_row HRa.out.grow (row4_by _ _ _ _ _ _) (fun b e=>by cases e;exact HRa.out.lo.2.1),n,HRun.out,.inr ⟨l,by rw [HSg.out];exact Hl.out,?_,by rw [HSg.out,← Hk.out];exact hin.2,rfl⟩⟩
          rw [← HTS.out]
          exact List.any_eq_true.2 ⟨_,HMx.out,rfl⟩
         | false =>
          have hkk:k'≤4096060:=by omega
          go_wp2_with fail
          go_loopw [13,14] (fun vs vq wy=>∃ q:Nat,q≤k'∧vq=.int .i64 (q:Int)∧vs=.int .i64 (Rs.found ls' tl q)∧Hid (Flow.Grow wk wy)) (fun _ vq _=>k' - (intOf vq).toNat)
          case atStart=>exact ⟨0,by omega,rfl,by simp [Rs.found],Lib.hid (Flow.grow_refl _)⟩
          case round =>
           obtain ⟨q,hq,rfl,rfl,HGq⟩:=hrel
           rename World=>wy
           by_cases hqk:q < k'
           ·obtain ⟨lq,hlq⟩:∃ lq,ls'[q]? = some lq:=⟨_,List.getElem?_eq_getElem (by rw [← Hk'.out];exact hqk)⟩
            have Hq64:=Lib.hid (HOk.out.2 lq (List.mem_of_getElem? hlq))
            have hpo:=HPo.out.keep HGq.out
            have HPq:Hid (wy.ownsRow W.heap.size 72 65 (.slice la' k' lc') k' (ls'.flatMap fun l=>Gr.kc (l,false))):=Lib.hid (by
             unfold Rs.Po at hpo
             rwa [← Hk'.out] at hpo)
            obtain ⟨tq,hla⟩:=own_at HPq.out (by omega)
            have rj0:=own_range (f:=fun l=>Gr.kc (l,false)) (fun l=>Gr.kc_len _) (by rw [hla] at HPq;exact HPq.out) hlq
            rw [kc_split (t:=(lq,false)) Hq64.out] at rj0
            have HRj:=Lib.hid (range_left rj0)
            have HRt4:=Lib.hid (range_grow HR4.out HGq.out)
            have Hla:=Lib.hid hla
            have HFh:Hid (lq=tl→(q:Int)=Rs.found ls' tl (q+1)):=Lib.hid fun e=>Rs.found_hit HOk.out.1 (by rw [hlq,e])
            have HFm:Hid (lq≠tl→Rs.found ls' tl q=Rs.found ls' tl (q+1)):=Lib.hid fun e=>Rs.found_miss hlq e
            have hqi:(q:Int) < (k':Int):=by omega
            have hji:(j:Int) < (m:Int):=by omega
            rw [hla]
            clear rj0 hlq hpo hla HPq
            go_upto_region 21 with fail
            refine Flow.region_grown (Fs:=[.inl ((.slice (some ⟨tq,0,none⟩) k' lc')),.inl ((.int .i64 (q:Int))),.inl ((.pointer (some ⟨tq,q * 65,none⟩))),.inl ((.pointer (some ⟨tq,q * 65,none⟩))),.inl ((.agg (Gr.bc lq))),.inl ((.slice (some ⟨ob,0,none⟩) m oc)),.inl ((.int .i64 (j:Int))),.inl ((.pointer (some ⟨ob,j * 66,none⟩))),.inl ((.pointer (some ⟨ob,j * 66+1,none⟩))),.inl ((.pointer (some ⟨ob,j * 66+1,none⟩))),.inl ((.agg (Gr.bc tl))),.inl ((.bool (lq == tl)))])
             (S:=[[],[],[0,1],[2],[3],[],[],[5,6],[7],[8],[9],[4,10]]) (by kernel_rfl) (by kernel_rfl) (by kernel_rfl) rfl ?stab21 ?ones21 ?ends21
            case ones21 =>
             refine Flow.Ones.cons ?_ ?_
             ·intro a w hC hoff _
              have e7:a.eval (.tmp 7)=(.slice (some ⟨tq,0,none⟩) k' lc'):=hoff.at 7 (by kernel_rfl)
              refine .inl ⟨Flow.want_none rfl,?_⟩
              exact Flow.run_same (Flow.exec_move (.inl rfl) e7) Flow.grow_refl
             refine Flow.Ones.cons ?_ ?_
             ·intro a w hC hoff _
              have e14:a.eval (.tmp 14)=(.int .i64 (q:Int)):=hoff.at 14 (by kernel_rfl)
              refine .inl ⟨Flow.want_none rfl,?_⟩
              exact Flow.run_same (Flow.exec_move (.inl rfl) e14) Flow.grow_refl
             refine Flow.Ones.cons ?_ ?_
             ·rintro a w hC hoff ⟨k0,k1,-⟩
              have e81:a.eval (.tmp 81)=(.slice (some ⟨tq,0,none⟩) k' lc'):=k0 81 rfl
              have e82:a.eval (.tmp 82)=(.int .i64 (q:Int)):=k1 82 rfl
              refine .inl ⟨Flow.want_none rfl,?_⟩
              refine Flow.run_same ?_ Flow.grow_refl
              have ec:=Flow.eval_const a
              generalize a.eval=ρ at e81 e82 ec ⊢
              simp [execOp,e81,e82,go_sem];intro hh;omega
             refine Flow.Ones.cons ?_ ?_
             ·rintro a w hC hoff ⟨k2,-⟩
              have e83:a.eval (.tmp 83)=(.pointer (some ⟨tq,q * 65,none⟩)):=k2 83 rfl
              refine .inl ⟨Flow.want_none rfl,?_⟩
              refine Flow.run_same ?_ Flow.grow_refl
              have ec:=Flow.eval_const a
              generalize a.eval=ρ at e83 ec ⊢
              simp [execOp,e83,go_sem]
             refine Flow.Ones.cons ?_ ?_
             ·rintro a w hC hoff ⟨k3,-⟩
              have e84:a.eval (.tmp 84)=(.pointer (some ⟨tq,q * 65,none⟩)):=k3 84 rfl
              refine .inl ⟨Flow.want_none rfl,?_⟩
              refine Flow.run_same ?_ Flow.grow_refl
              have ec:=Flow.eval_const a
              generalize a.eval=ρ at e84 ec ⊢
              exact exec_load_mid 70 _ rfl tq (q * 65) e84 (lq.map Value.bool) _ (range_grow HRj.out hC) Tryz.underlying70 rfl (by rw [List.length_map,Hq64.out];kernel_rfl)
             refine Flow.Ones.cons ?_ ?_
             ·intro a w hC hoff _
              have e11:a.eval (.tmp 11)=(.slice (some ⟨ob,0,none⟩) m oc):=hoff.at 11 (by kernel_rfl)
              refine .inl ⟨Flow.want_none rfl,?_⟩
              exact Flow.run_same (Flow.exec_move (.inl rfl) e11) Flow.grow_refl
             refine Flow.Ones.cons ?_ ?_
             ·intro a w hC hoff _
              have e12:a.eval (.tmp 12)=(.int .i64 (j:Int)):=hoff.at 12 (by kernel_rfl)
              refine .inl ⟨Flow.want_none rfl,?_⟩
              exact Flow.run_same (Flow.exec_move (.inl rfl) e12) Flow.grow_refl
             refine Flow.Ones.cons ?_ ?_
             ·rintro a w hC hoff ⟨k5,k6,-⟩
              have e86:a.eval (.tmp 86)=(.slice (some ⟨ob,0,none⟩) m oc):=k5 86 rfl
              have e87:a.eval (.tmp 87)=(.int .i64 (j:Int)):=k6 87 rfl
              refine .inl ⟨Flow.want_none rfl,?_⟩
              refine Flow.run_same ?_ Flow.grow_refl
              have ec:=Flow.eval_const a
              generalize a.eval=ρ at e86 e87 ec ⊢
              simp [execOp,e86,e87,go_sem];intro hh;omega
             refine Flow.Ones.cons ?_ ?_
             ·rintro a w hC hoff ⟨k7,-⟩
              have e88:a.eval (.tmp 88)=(.pointer (some ⟨ob,j * 66,none⟩)):=k7 88 rfl
              refine .inl ⟨Flow.want_none rfl,?_⟩
              refine Flow.run_same ?_ Flow.grow_refl
              have ec:=Flow.eval_const a
              generalize a.eval=ρ at e88 ec ⊢
              simp [execOp,e88,go_sem]
             refine Flow.Ones.cons ?_ ?_
             ·rintro a w hC hoff ⟨k8,-⟩
              have e89:a.eval (.tmp 89)=(.pointer (some ⟨ob,j * 66+1,none⟩)):=k8 89 rfl
              refine .inl ⟨Flow.want_none rfl,?_⟩
              refine Flow.run_same ?_ Flow.grow_refl
              have ec:=Flow.eval_const a
              generalize a.eval=ρ at e89 ec ⊢
              simp [execOp,e89,go_sem]
             refine Flow.Ones.cons ?_ ?_
             ·rintro a w hC hoff ⟨k9,-⟩
              have e90:a.eval (.tmp 90)=(.pointer (some ⟨ob,j * 66+1,none⟩)):=k9 90 rfl
              refine .inl ⟨Flow.want_none rfl,?_⟩
              refine Flow.run_same ?_ Flow.grow_refl
              have ec:=Flow.eval_const a
              generalize a.eval=ρ at e90 ec ⊢
              exact exec_load_mid 70 _ rfl ob (j * 66+1) e90 (tl.map Value.bool) _ (range_grow HRt4.out hC) Tryz.underlying70 rfl (by rw [List.length_map,Htl.out];kernel_rfl)
             refine Flow.Ones.cons ?_ ?_
             ·rintro a w hC hoff ⟨k4,k10,-⟩
              have e85:a.eval (.tmp 85)=(.agg (Gr.bc lq)):=k4 85 rfl
              have e91:a.eval (.tmp 91)=(.agg (Gr.bc tl)):=k10 91 rfl
              refine .inl ⟨Flow.want_none rfl,?_⟩
              exact Flow.run_val (exec_eql_arrE (.tmp 85) (.tmp 91) rfl Hq64.out Htl.out e85 e91) (Flow.grow_refl _) rfl
             exact trivial
            case stab21=>exact trivial
            case ends21 =>
             intro wx hC
             simp only [Flow.ends]
             simp only [Act.put,List.setIfInBounds_toArray,List.set_cons_succ,List.set_cons_zero]
             have HG6:=Lib.hid (HGq.out.trans hC)
             clear hC HRj HRt4
             cases he:(lq == tl) with
             | true =>
              have he':lq=tl:=by simpa using he
              have Hf:=Lib.hid (HFh.out he')
              clear he he' HFh HFm
              go_wp2_with fail
              go_roundw
              case rel=>exact ⟨q+1,by omega,by go_num,by rw [← Hf.out],HG6⟩
              case measure=>simp [intOf];omega
             | false =>
              have he':lq≠tl:=by simpa using he
              have Hf:=Lib.hid (HFm.out he')
              clear he he' HFh HFm
              go_wp2_with fail
              go_roundw
              case rel=>exact ⟨q+1,by omega,by go_num,by rw [Hf.out],HG6⟩
              case measure=>simp [intOf];omega
           ·obtain rfl:q=k':=by omega
            have HRa2:=Lib.hid (HRa.out.keep HGq.out)
            have HPo2:=Lib.hid (HPo.out.keep HGq.out)
            have HRx2:=Lib.hid (HRx.out.keep HGq.out)
            have HSz2:Hid (S≤wy.heap.size):=Lib.hid (Nat.le_trans HSz.out HGq.out.size)
            have h0':=Xm2.cell_grow HGq.out h0
            have HBn:Hid (Gr.bad (TS.take (j+1))=false):=Lib.hid (by rw [HBx.out,Hbd.out];rfl)
            clear HBx Hbd h65 h0 HRa HPo HRx HSz
            by_cases hp:Rs.pos ls' tl < ls'.length
            ·rw [Rs.step_old hp] at HNx
             have hfd:Rs.found ls' tl q=(Rs.pos ls' tl:Int):=by
              unfold Rs.found
              rw [if_pos (by rw [Hk'.out];exact hp)]
             rw [hfd]
             obtain ⟨p,hpe⟩:∃ p,p=Rs.pos ls' tl:=⟨_,rfl⟩
             rw [← hpe] at HNx ⊢
             have d5:decide ((p:Int) < 0)=false:=by simp
             clear hp hfd hpe HR3 HR4 HGq
             have HRo:Hid (wy.ownsRow S 76 2 (.slice ra j rc) j (Rs.flat2 row)):=Lib.hid (by
              have h1:=HRx2.out.row
              rwa [Hrj.out] at h1)
             go_wp2_with (at_builtin;refine wpList_plain rfl fun K hK=>?_;refine wp_appB S _ _ 74 rfl 76 i4 _ 2 16 Tryz.underlying74 HI4.out.1 HI4.out.2.1 HI4.out.2.2.1 HI4.out.2.2.2 rfl (by decide) (.slice ra j rc) j (Rs.flat2 row) rfl (own_keep HRo.out (Flow.grow_alloc wy (.cells #[.int .i64 lab,.int .i64 (p:Int)] 76))) (by have:=HSz2.out;simp;omega) _ [.int .i64 lab,.int .i64 (p:Int)] 1 1 rfl rfl (cells_of (heap_alloc_new _ _)) (by intro u hu;simp at hu;rcases hu with rfl | rfl <;> rfl) (by omega) (by decide) (by decide) ?_;intro v' w' ho hk;refine hK _ _ ?_;have HOw:=Lib.hid ho;have HKw:=Lib.hid hk;clear ho hk hK)
             have HOl:=Lib.hid (own_keep HRx2.out.row (Flow.grow_alloc wy (.cells #[.int .i64 lab,.int .i64 (p:Int)] 76)))
             have HOx:Hid (w'.ownsRow S 76 2 v' (row.length+1) (Rs.flat2 row++[.int .i64 lab,.int .i64 (p:Int)])):=Lib.hid (by
              have h1:=HOw.out
              rw [← Hrj.out] at h1
              exact h1)
             have HR3:=Lib.hid ((HRa2.out.keep (Flow.grow_alloc wy (.cells #[.int .i64 lab,.int .i64 (p:Int)] 76))).mv HOld.out HWo.out HOl.out HKw.out)
             have HP3:=Lib.hid ((HPo2.out.keep (Flow.grow_alloc wy (.cells #[.int .i64 lab,.int .i64 (p:Int)] 76))).ty (TY.own HOl.out) HKw.out (by decide))
             have HX3:=Lib.hid ((HRx2.out.keep (Flow.grow_alloc wy (.cells #[.int .i64 lab,.int .i64 (p:Int)] 76))).more (x:=(lab,(p:Int))) HOx.out HKw.out)
             have HS3:Hid (S≤w'.heap.size):=Lib.hid (Nat.le_trans HSz2.out (Nat.le_trans (Flow.grow_alloc wy (.cells #[.int .i64 lab,.int .i64 (p:Int)] 76)).size HKw.out.size))
             go_roundw
             case rel=>exact ⟨j+1,ls',row++[(lab,(p:Int))],by omega,by go_num,by rw [List.length_append,Hrj.out];rfl,by rw [← Hk'.out];omega,HBn.out,HNx,HR3,by rw [Hk'.out];exact HP3,HX3,HS3⟩
             case measure=>simp [intOf];omega
            ·rw [Rs.step_new hp] at HNx
             have hfd:Rs.found ls' tl q=-1:=by
              unfold Rs.found
              rw [if_neg (by rw [Hk'.out];exact hp)]
             rw [hfd]
             have d5:decide ((-1:Int) < 0)=true:=by decide
             clear hp hfd
             have HSx:=Lib.hid (tk_sz (t:=(tl,false)) Htl.out)
             have HR5:Hid (wy.rangeAt ob (j * 66+1) (Gr.tcs (tl,false)).toList):=Lib.hid (range_grow HR3.out HGq.out)
             have HPq:Hid (wy.ownsRow W.heap.size 72 65 (.slice la' q lc') q (ls'.flatMap fun l=>Gr.kc (l,false))):=Lib.hid (by
              have hpo:=HPo2.out
              unfold Rs.Po at hpo
              rwa [← Hk'.out] at hpo)
             rw [← Hk'.out] at HNx
             clear HR3 HR4 HGq
             go_upto_region 26 with (first
              | (with_reducible refine wpList_load_mid rfl 72 (.tmp 102) rfl ob (j * 66+1) rfl (Gr.tcs (tl,false)).toList _ HR5.out Tryz.underlying72 rfl (by rw [Array.length_toList];exact HSx.out.1) ?_)
              | (refine wpList_plain rfl fun K hK=>?_;refine Flow.run_wp (exec_slice_tok (A:=Gr.tcs (tl,false)) rfl rfl HSx.out.2.1) ?_;refine hK _ _ ?_)
              | (at_builtin;refine wpList_plain rfl fun K hK=>?_;refine wp_appB W.heap.size _ _ 65 rfl 72 iK zK 65 65 Tryz.underlying65 HIK.out.1 HIK.out.2.1 HIK.out.2.2.1 HIK.out.2.2.2.1 HIK.out.2.2.2.2 (by decide) (.slice la' q lc') q _ rfl (own_keep HPq.out (Flow.grow_alloc wy (.cells (Gr.tcs (tl,false)) 72))) (by have h1:=HRa2.out.grow.size;simp;omega) _ (Gr.tcs (tl,false)).toList 1 1 rfl (by rw [Array.length_toList,HSx.out.2.1]) (cells_of (heap_alloc_new _ _)) (Gr.tcs_one _) (by omega) (by decide) (by decide) ?_;intro vz wz' ho hk;refine hK _ _ ?_;have HOz:=Lib.hid ho;have HKz:=Lib.hid hk;clear ho hk hK))
             have HT2:=Lib.hid (TY.own (own_keep HPq.out (Flow.grow_alloc wy (.cells (Gr.tcs (tl,false)) 72))))
             have HRa3:=Lib.hid ((HRa2.out.keep (Flow.grow_alloc wy (.cells (Gr.tcs (tl,false)) 72))).ty HT2.out HKz.out (own_lo (own_keep HPq.out (Flow.grow_alloc wy (.cells (Gr.tcs (tl,false)) 72)))) (by decide) (by decide) (by decide) (by decide) (by decide))
             have HRx3:=Lib.hid ((HRx2.out.keep (Flow.grow_alloc wy (.cells (Gr.tcs (tl,false)) 72))).ty HT2.out HKz.out (by decide) (by decide))
             have HPo3:Hid (Rs.Po W wz' vz (ls'++[tl])):=Lib.hid (Rs.Po.more (by
              have h1:=HOz.out
              rw [← Gr.kc_eq (t:=(tl,false)) Htl.out,Hk'.out] at h1
              exact h1))
             have HSz3:Hid (S≤wz'.heap.size):=Lib.hid (Nat.le_trans HSz2.out (Nat.le_trans (Flow.grow_alloc wy (.cells (Gr.tcs (tl,false)) 72)).size HKz.out.size))
             obtain ⟨cs9,hc9,hv9⟩:∃ ox,ox=ob∧wz'.cell? ⟨ob,j * 66,none⟩=some (.int .i64 lab):=⟨ob,rfl,by
              have ht9:=HRx3.out.ts
              have k9:=ht9.cells (g:=ob) rfl (j * 66) (.int .i64 lab) (by show (TS.flatMap Gr.rc)[j * 66+0]? = _;rw [Gr.flat_get Gr.rc_len TS j _ (HXj.out) 0 (by decide)];rfl)
              rwa [Addr.add_lit,Nat.zero_add] at k9⟩
             clear hc9 h0' HR5 HPq HT2 HOz HKz HRa2 HPo2 HRx2 HSz2
             have HRo:Hid (wz'.ownsRow S 76 2 (.slice ra j rc) j (Rs.flat2 row)):=Lib.hid (by
              have h1:=HRx3.out.row
              rwa [Hrj.out] at h1)
             go_wp2_with (at_builtin;refine wpList_plain rfl fun K hK=>?_;refine wp_appB S _ _ 74 rfl 76 i4 _ 2 16 Tryz.underlying74 HI4.out.1 HI4.out.2.1 HI4.out.2.2.1 HI4.out.2.2.2 rfl (by decide) (.slice ra j rc) j (Rs.flat2 row) rfl (own_keep HRo.out (Flow.grow_alloc wz' (.cells #[.int .i64 lab,.int .i64 (q:Int)] 76))) (by have:=HSz3.out;simp;omega) _ [.int .i64 lab,.int .i64 (q:Int)] 1 1 rfl rfl (cells_of (heap_alloc_new _ _)) (by intro u hu;simp at hu;rcases hu with rfl | rfl <;> rfl) (by omega) (by decide) (by decide) ?_;intro v' w' ho hk;refine hK _ _ ?_;have HOw:=Lib.hid ho;have HKw:=Lib.hid hk;clear ho hk hK)
             have HOl:=Lib.hid (own_keep HRx3.out.row (Flow.grow_alloc wz' (.cells #[.int .i64 lab,.int .i64 (q:Int)] 76)))
             have HOx:Hid (w'.ownsRow S 76 2 v' (row.length+1) (Rs.flat2 row++[.int .i64 lab,.int .i64 (q:Int)])):=Lib.hid (by
              have h1:=HOw.out
              rw [← Hrj.out] at h1
              exact h1)
             have HR3:=Lib.hid ((HRa3.out.keep (Flow.grow_alloc wz' (.cells #[.int .i64 lab,.int .i64 (q:Int)] 76))).mv HOld.out HWo.out HOl.out HKw.out)
             have HP3:=Lib.hid ((HPo3.out.keep (Flow.grow_alloc wz' (.cells #[.int .i64 lab,.int .i64 (q:Int)] 76))).ty (TY.own HOl.out) HKw.out (by decide))
             have HX3:=Lib.hid ((HRx3.out.keep (Flow.grow_alloc wz' (.cells #[.int .i64 lab,.int .i64 (q:Int)] 76))).more (x:=(lab,(q:Int))) HOx.out HKw.out)
             have HS3:Hid (S≤w'.heap.size):=Lib.hid (Nat.le_trans HSz3.out (Nat.le_trans (Flow.grow_alloc wz' (.cells #[.int .i64 lab,.int .i64 (q:Int)] 76)).size HKw.out.size))
             go_roundw
             case rel=>exact ⟨j+1,ls'++[tl],row++[(lab,(q:Int))],by omega,by go_num,by rw [List.length_append,Hrj.out];rfl,by rw [List.length_append,← Hk'.out];simp;omega,HBn.out,HNx,HR3,HP3,HX3,HS3⟩
             case measure=>simp [intOf];omega
        ·obtain rfl:j=m:=by omega
         have HFx:Hid (Rs.run ls TS=(ls',row)):=Lib.hid (by
          have h1:=HFd.out
          rw [List.take_of_length_le (by rw [← Hm.out];exact Nat.le_refl _)] at h1
          exact h1)
         have HNs:Hid (Rs.stage f m0 (n+1)=(ls',rows++[row])):=Lib.hid (by
          have h1:=Rs.stage_next HSg.out Hl.out
          rw [← HTS.out,HFx.out] at h1
          exact h1)
         have HBd:Hid (Gr.bad (f l)=false):=Lib.hid (by
          have h1:=Hbd.out
          rwa [List.take_of_length_le (by rw [← Hm.out];exact Nat.le_refl _),HTS.out] at h1)
         clear HFd Hbd
         obtain ⟨ma,mc,hma⟩:=own_form HRa.out.st.moves
         subst hma
         have HMo:Hid (wk.ownsRow W.heap.size 74 1 (.slice ma n mc) n vs):=Lib.hid (by
          have h1:=HRa.out.st.moves
          rwa [Hrl.out] at h1)
         have HNb:Hid (wk.heap[Nb]? = some (.cells #[.int .i64 (Ln:Int),.int .i64 0,vf,.slice ma n mc] 34 (0,0))):=Lib.hid (by
          have h1:=HRa.out.nb
          rwa [Hrl.out] at h1)
         have c3x:=(cell_of_row wk Nb 3 _ _ _ HNb.out).trans rfl
         simp at c3x
         go_upto_region 28 with (at_builtin;refine wpList_plain rfl fun K hK=>?_;refine wp_appB W.heap.size _ _ 32 rfl 74 i3 _ 1 24 Tryz.underlying32 HI3.out.1 HI3.out.2.1 HI3.out.2.2.1 HI3.out.2.2.2 rfl (by decide) (.slice ma n mc) n vs rfl (own_keep HMo.out (Flow.grow_alloc wk (.cells #[.slice ra j rc] 74))) (by have h1:=HRa.out.grow.size;simp;omega) _ [.slice ra j rc] 1 1 rfl rfl (cells_of (heap_alloc_new _ _)) (by intro u hu;simp at hu;rw [hu];rfl) (by omega) (by decide) (by decide) ?_;intro v4 w4 ho hk;refine hK _ _ ?_;obtain ⟨xa,xc,hv4⟩:=own_form ho;subst hv4;have HO3:=Lib.hid ho;have HK3:=Lib.hid hk;have HN3:=Lib.hid ((TY.own (own_keep HMo.out (Flow.grow_alloc wk (.cells #[.slice ra j rc] 74)))).keep_blk hk (heap_keep (Flow.grow_alloc wk (.cells #[.slice ra j rc] 74)) HNb.out) (by decide));have y0:=(cell_of_row w4 Nb 3 _ _ _ HN3.out).trans rfl;have f0:=frozen_of_row w4 Nb 3 _ _ HN3.out;simp at y0;clear ho hk hK)
         clear y0 f0 c3x
         have HOl:=Lib.hid (own_keep HRx.out.row (Flow.grow_alloc wk (.cells #[.slice ra j rc] 74)))
         have HK4:Hid ((wk.alloc (.cells #[.slice ra j rc] 74)).grownBy w4 (Value.slice ma rows.length mc).ownBlock):=Lib.hid (by
          rw [Hrl.out]
          exact HK3.out)
         have HO4:Hid (w4.ownsRow W.heap.size 74 1 (.slice xa (n+1) xc) (rows.length+1) (vs++[.slice ra j rc])):=Lib.hid (by
          rw [Hrl.out]
          exact HO3.out)
         have HR4:=Lib.hid ((HRa.out.keep (Flow.grow_alloc wk (.cells #[.slice ra j rc] 74))).laid HOld.out HWo.out HOl.out HO4.out HK4.out)
         have HP3:=Lib.hid (((HPo.out.keep (Flow.grow_alloc wk (.cells #[.slice ra j rc] 74))).ty (TY.own (own_keep HMo.out (Flow.grow_alloc wk (.cells #[.slice ra j rc] 74)))) HK3.out (by decide)).ty (TY.blk HN3.out) (by_set w4 Nb 3 (.slice xa (n+1) xc)) (by decide))
         clear HRa HPo HRx HMo HNb HO3 HK3 HN3 HOl HK4 HO4 HSz
         generalize w4.setCell ⟨Nb,3,none⟩ (.slice xa (n+1) xc)=wz2 at *
         have hfl:((ls.take n).map Rs.over).length=n:=by
          have h1:=Hk.out
          simp
          omega
         obtain ⟨fa,fc,hfa⟩:=own_form HR4.out.st.finals
         rw [hfl] at hfa
         subst hfa
         have HFn:Hid (wz2.ownsRow W.heap.size 4 1 (.slice fa n fc) n (((ls.take n).map Rs.over).map Value.bool)):=Lib.hid (by
          have h1:=HR4.out.st.finals
          rwa [hfl] at h1)
         have Hfl:=Lib.hid hfl
         clear hfl
         obtain ⟨rr,hrr⟩:=Rs.fold_pre HFx.out
         have hl':ls'[n]? = some l:=by
          rw [hrr,List.getElem?_append_left (List.getElem?_eq_some_iff.1 Hl.out).1]
          exact Hl.out
         have HTk:Hid ((ls'.take (n+1)).map Rs.over=(ls.take n).map Rs.over++[Rs.over l]):=Lib.hid (by
          rw [hrr,Rs.take_more Hl.out,List.map_append]
          rfl)
         have hin':n < k':=by
          have h1:=(List.getElem?_eq_some_iff.1 hl').1
          have h2:=Hk'.out
          omega
         have HPq:Hid (wz2.ownsRow W.heap.size 72 65 (.slice la' k' lc') k' (ls'.flatMap fun l=>Gr.kc (l,false))):=Lib.hid (by
          have hpo:=HP3.out
          unfold Rs.Po at hpo
          rwa [← Hk'.out] at hpo)
         obtain ⟨lb2,hlb2⟩:=own_at HPq.out (by omega)
         subst hlb2
         have HRg2:Hid (wz2.rangeAt lb2 (n * 65) (Gr.tcs (l,false)).toList):=Lib.hid (by
          have r:=own_range (f:=fun l=>Gr.kc (l,false)) (fun l=>Gr.kc_len _) HPq.out hl'
          rwa [Gr.kc_eq (t:=(l,false)) Hl64.out] at r)
         clear hrr hl' HPq
         have hii:(n:Int) < (k':Int):=by omega
         have HWz:=Lib.hid HR4.out.grow.size
         have HOv:Hid (Rs.over l=(Mark.ofBools l == 0)):=Lib.hid rfl
         refine Flow.region_tail3 (R:=Flow.Grow) (C:=fun wq=>Flow.Grow wz2 wq) (Fs:=[.inl ((.pointer (some ⟨Nb,2,none⟩))),.inl ((.slice fa n fc)),.inl ((.slice (some ⟨lb2,0,none⟩) k' lc')),.inl ((.int .i64 (n:Int))),.inl ((.pointer (some ⟨lb2,n * 65,none⟩))),.inl ((.agg (Gr.tcs (l,false)))),.inl ((.int .u64 (Mark.ofBools l:Int))),.inl ((.bool (Rs.over l))),.inr (fun v w=>∃ q,v=.slice (some ⟨q,0,none⟩) 1 1∧w.heap[q]? = some (.cells #[.bool (Rs.over l)] 4 (0,0)))]) (T:=fun v w'=>∃ gp cp,v=.slice (some ⟨gp,0,none⟩) (n+1) cp∧Hid (w'.heap[Nb]? = some (.cells #[.int .i64 (Ln:Int),.int .i64 0,.slice fa n fc,.slice xa (n+1) xc] 34 (0,0))∧Rs.Ra W (w'.setCell ⟨Nb,2,none⟩ v) X #[.slice a0 g.np c0,.slice a1 g.nm c1,.slice an nl cn,.slice ae i ce] Nb (X+1) (Ln:Int) v (.slice xa (n+1) xc) ((ls.take n).map Rs.over++[Rs.over l]) (rows++[row]) (vs++[.slice ra j rc])∧Rs.Po W (w'.setCell ⟨Nb,2,none⟩ v) (.slice (some ⟨lb2,0,none⟩) ls'.length lc') ls')) (c:=.pointer (some ⟨Nb,2,none⟩))
          (S:=[[],[0],[],[],[2,3],[2,3,4],[2,3,4,5],[2,3,4,5,6],[2,3,4,5,6,7],[0,1,2,3,4,5,6,7,8]]) 9 (by kernel_rfl) rfl rfl rfl (by kernel_rfl) (by kernel_rfl) rfl ?stab28 Flow.grow_refl (fun _ _ h k=>h.trans k) (Flow.grow_drew _) ?ones28 ?app28 ?place28 ?ends28
         case ones28 =>
          refine Flow.Ones.cons ?_ ?_
          ·intro a w hC hoff _
           have e8:a.eval (.tmp 8)=(.pointer (some ⟨Nb,0,none⟩)):=hoff.at 8 (by kernel_rfl)
           refine .inl ⟨Flow.want_none rfl,?_⟩
           refine Flow.run_same ?_ Flow.grow_refl
           have ec:=Flow.eval_const a
           generalize a.eval=ρ at e8 ec ⊢
           simp [execOp,e8,go_sem]
          refine Flow.Ones.cons ?_ ?_
          ·rintro a w hC hoff ⟨k0,-⟩
           have e122:a.eval (.tmp 122)=(.pointer (some ⟨Nb,2,none⟩)):=k0 122 rfl
           refine .inl ⟨Flow.want_none rfl,?_⟩
           refine Flow.run_same ?_ Flow.grow_refl
           have ec:=Flow.eval_const a
           generalize a.eval=ρ at e122 ec ⊢
           have hc:=(cell_of_row w Nb 2 _ _ _ (HR4.out.keep hC).nb).trans rfl
           simp [execOp,e122,hc,go_sem]
          refine Flow.Ones.cons ?_ ?_
          ·intro a w hC hoff _
           have e7:a.eval (.tmp 7)=(.slice (some ⟨lb2,0,none⟩) k' lc'):=hoff.at 7 (by kernel_rfl)
           refine .inl ⟨Flow.want_none rfl,?_⟩
           exact Flow.run_same (Flow.exec_move (.inl rfl) e7) Flow.grow_refl
          refine Flow.Ones.cons ?_ ?_
          ·intro a w hC hoff _
           have e9:a.eval (.tmp 9)=(.int .i64 (n:Int)):=hoff.at 9 (by kernel_rfl)
           refine .inl ⟨Flow.want_none rfl,?_⟩
           exact Flow.run_same (Flow.exec_move (.inl rfl) e9) Flow.grow_refl
          refine Flow.Ones.cons ?_ ?_
          ·rintro a w hC hoff ⟨k2,k3,-⟩
           have e124:a.eval (.tmp 124)=(.slice (some ⟨lb2,0,none⟩) k' lc'):=k2 124 rfl
           have e125:a.eval (.tmp 125)=(.int .i64 (n:Int)):=k3 125 rfl
           refine .inl ⟨Flow.want_none rfl,?_⟩
           refine Flow.run_same ?_ Flow.grow_refl
           have ec:=Flow.eval_const a
           generalize a.eval=ρ at e124 e125 ec ⊢
           simp [execOp,e124,e125,go_sem];intro hh;omega
          refine Flow.Ones.cons ?_ ?_
          ·rintro a w hC hoff ⟨_,_,k4,-⟩
           have e126:a.eval (.tmp 126)=(.pointer (some ⟨lb2,n * 65,none⟩)):=k4 126 rfl
           refine .inl ⟨Flow.want_none rfl,?_⟩
           refine Flow.run_same ?_ Flow.grow_refl
           have ec:=Flow.eval_const a
           generalize a.eval=ρ at e126 ec ⊢
           exact exec_load_mid 72 _ rfl lb2 (n * 65) e126 (Gr.tcs (l,false)).toList _ (range_grow HRg2.out hC) Tryz.underlying72 rfl (by rw [Array.length_toList];exact HSl.out.1)
          refine Flow.Ones.cons ?_ ?_
          ·rintro a w hC hoff ⟨_,_,_,k5,-⟩
           have e127:a.eval (.tmp 127)=(.agg (Gr.tcs (l,false))):=k5 127 rfl
           refine .inl ⟨Flow.want_none rfl,?_⟩
           exact Flow.run_call (Flow.exec_call (args:=#[((.agg (Gr.tcs (l,false))))]) rfl Tryz.func20 (by kernel_rfl) (by kernel_rfl) (by simp only [List.map_toArray,List.map_cons,List.map_nil,e127] <;> rfl)) ((HMk.out w (l,false) Hl64.out).mono fun e w' ⟨he,hg⟩=>⟨_,he,hg,rfl⟩)
          refine Flow.Ones.cons ?_ ?_
          ·rintro a w hC hoff ⟨_,_,_,_,k6,-⟩
           have e128:a.eval (.tmp 128)=(.int .u64 (Mark.ofBools l:Int)):=k6 128 rfl
           refine .inl ⟨Flow.want_none rfl,?_⟩
           refine Flow.run_same ?_ Flow.grow_refl
           have ec:=Flow.eval_const a
           generalize a.eval=ρ at e128 ec ⊢
           rw [HOv.out]
           simp [execOp,e128,ec,go_sem]
           rw [Bool.eq_iff_iff]
           simp
          refine Flow.Ones.cons ?_ ?_
          ·rintro a w hC hoff ⟨_,_,_,_,_,k7,-⟩
           have e129:a.eval (.tmp 129)=(.bool (Rs.over l)):=k7 129 rfl
           refine .inl ⟨Flow.want_none rfl,?_⟩
           refine Flow.run_val (v:=.slice (some ⟨w.heap.size,0,none⟩) 1 1) (w':=w.alloc (.cells #[.bool (Rs.over l)] 4)) ?_ (Flow.grow_alloc _ _) ⟨_,rfl,heap_alloc_new _ _⟩
           generalize a.eval=ρ at e129 ⊢
           simp [execOp,e129,go_sem]
          exact trivial
         case place28 =>
          intro a w hoff
          have e8:a.eval (.tmp 8)=(.pointer (some ⟨Nb,0,none⟩)):=hoff.at 8 (by kernel_rfl)
          generalize a.eval=ρ at e8 ⊢
          simp [execOp,e8,go_sem]
         case app28 =>
          intro a w hC hoff hk
          have e123:a.eval (.tmp 123)=(.slice fa n fc):=hk 1 (by decide) 123 rfl
          have e130:(fun v w=>∃ q,v=.slice (some ⟨q,0,none⟩) 1 1∧w.heap[q]? = some (.cells #[.bool (Rs.over l)] 4 (0,0))) (a.eval (.tmp 130)) w:=hk 8 (by decide) 130 rfl
          obtain ⟨q,hq,hrow⟩:=e130
          have hr:=HR4.out.keep hC
          have hp:=HP3.out.keep hC
          have hown:=own_keep HFn.out hC
          refine exec_appT (P:=Tryz.prog) W.heap.size (.tmp 123) (.tmp 130) 31 rfl 4 i1 (.bool false) 1 1 Tryz.underlying31 HI1.out.1 HI1.out.2.1 HI1.out.2.2.1 HI1.out.2.2.2 rfl (by decide) (.slice fa n fc) n _ e123 hown (Nat.le_trans HWz.out hC.size) q [.bool (Rs.over l)] 1 1 hq rfl (cells_of hrow) (by intro u hu;simp at hu;subst hu;rfl) (by omega) (by decide) (by decide) (fun v' w' ho hk=>?_)
          obtain ⟨xb,xd,hv'⟩:=own_form ho
          subst hv'
          obtain ⟨gp,rfl⟩:=own_at ho (by omega)
          have t:=TY.own hown
          have hn':=t.keep_blk hk hr.nb (by decide)
          exact ⟨gp,xd,rfl,Lib.hid ⟨hn',hr.over (b:=Rs.over l) (by rw [Hfl.out];exact ho) hk,(hp.ty t hk (by decide)).ty (TY.blk hn') (by_set w' Nb 2 _) (by decide)⟩⟩
         case stab28=>exact ⟨fun v w w' hR ⟨q,h1,h2⟩=>⟨q,h1,(hR.block q (Array.getElem?_eq_some_iff.1 h2).1 (by simp)).trans h2⟩,trivial⟩
         case ends28 =>
          intro wy
          simp only [List.take_succ_cons,List.take_zero,List.replicate,List.cons_append,List.nil_append,Flow.ends]
          simp only [Act.put,List.setIfInBounds_toArray,List.set_cons_succ,List.set_cons_zero]
          iterate 9 (intro _ _)
          intro v131 h131
          obtain ⟨gp,cp,rfl,hT⟩:=h131
          have y2:=(cell_of_row wy Nb 2 _ _ _ hT.out.1).trans rfl
          have yf:=frozen_of_row wy Nb 2 _ _ hT.out.1
          unfold Oper.wp
          simp [execOp,y2,yf,go_sem]
          have HR5:Hid (Rs.Ra W (wy.setCell ⟨Nb,2,none⟩ (.slice (some ⟨gp,0,none⟩) (n+1) cp)) X #[.slice a0 g.np c0,.slice a1 g.nm c1,.slice an nl cn,.slice ae i ce] Nb (X+1) (Ln:Int) (.slice (some ⟨gp,0,none⟩) (n+1) cp) (.slice xa (n+1) xc) ((ls'.take (n+1)).map Rs.over) (rows++[row]) (vs++[.slice ra j rc])):=Lib.hid (by
           rw [HTk.out]
           exact hT.out.2.1)
          have HP5:=Lib.hid hT.out.2.2
          clear hT y2 yf HR4 HP3
          generalize wy.setCell ⟨Nb,2,none⟩ (.slice (some ⟨gp,0,none⟩) (n+1) cp)=wx2 at *
          go_wp2_with fail
          go_roundw
          case rel=>exact ⟨n+1,_,_,ls',rows++[row],vs++[.slice ra j rc],by rw [← Hk'.out];omega,by rw [← Hk'.out];omega,by rw [List.length_append,Hrl.out];rfl,by go_num,HNs,Lib.hid (HRun.out.more (l:=l) (by rw [HSg.out];exact Hl.out) HBd.out (by rw [HSg.out,← Hk.out];exact hin.2)),HR5,by rw [Hk'.out];exact HP5⟩
          case measure=>simp [intOf];omega
     ·by_cases hnk2:n < k
      ·have d1:decide ((n:Int) < (k:Int))=true:=by simp;omega
       have d1':decide (n < k)=true:=by simp;omega
       have d2:decide ((k:Int)≤60)=false:=by simp;omega
       have d2':decide (k≤60)=false:=by simp;omega
       have r2:=HRa.out.rb
       have q0:=(cell_of_row wo _ 0 _ _ _ r2).trans rfl
       have q1:=(cell_of_row wo _ 1 _ _ _ r2).trans rfl
       have q2:=(cell_of_row wo _ 2 _ _ _ r2).trans rfl
       have q3:=(cell_of_row wo _ 3 _ _ _ r2).trans rfl
       have f0:=frozen_of_row wo (X+1) 0 _ _ r2
       have f1:=frozen_of_row wo (X+1) 1 _ _ r2
       have f2:=frozen_of_row wo (X+1) 2 _ _ r2
       have f3:=frozen_of_row wo (X+1) 3 _ _ r2
       clear r2
       obtain ⟨fa,fc,hfa⟩:=own_form HRa.out.st.finals
       subst hfa
       obtain ⟨ma,mc,hma⟩:=own_form HRa.out.st.moves
       subst hma
       generalize ((ls.take n).map Rs.over).length=fn at *
       generalize rows.length=rn at *
       have r3:=HRa.out.nb
       have p0:=(cell_of_row wo _ 0 _ _ _ r3).trans rfl
       have p1:=(cell_of_row wo _ 1 _ _ _ r3).trans rfl
       have p2:=(cell_of_row wo _ 2 _ _ _ r3).trans rfl
       have p3:=(cell_of_row wo _ 3 _ _ _ r3).trans rfl
       clear r3
       go_wp2_with fail
       go_region
       go_wp2_with fail
       have HK:=Lib.hid (row4_by wo (X+1) (.int .i64 (Ln:Int)) (.int .i64 0) (.slice fa fn fc) (.slice ma rn mc))
       have HPl:=Lib.hid (HPo.out.ty (TY.blk HRa.out.rb) HK.out (by decide))
       have HNl:=Lib.hid (HRa.out.st.ty (TY.blk HRa.out.rb) HK.out (by decide) (by decide) (by decide))
       refine bodyPost_ret (allL_res _ _ (X+1) _ _ _ _ _ _ rfl rfl rfl (row4_set17 _ _ _ _ _ _ _ HRa.out.rb)) rfl ⟨(grow_row HRa.out.grow HK.out (fun b e=>by cases e;exact HRa.out.lo.2.1)).trans (Flow.grow_drew _),n,HRun.out,.inl ⟨?_,?_,?_⟩⟩
       ·rw [HSg.out]
        show n=ls.length∨60 < ls.length
        have h1:=Hk.out
        omega
       ·rw [HSg.out]
        show n≤ls.length
        have h1:=Hk.out
        omega
       ·have h1:=HPl.out
        rw [← Hk.out] at h1
        rw [HSg.out]
        exact ⟨_,_,_,vs,rfl,h1.keep (Flow.grow_drew _),HNl.out.grow (Flow.grow_drew _)⟩
      ·have d1:decide ((n:Int) < (k:Int))=false:=by simp;omega
       have d1':decide (n < k)=false:=by simp;omega
       have r2:=HRa.out.rb
       have q0:=(cell_of_row wo _ 0 _ _ _ r2).trans rfl
       have q1:=(cell_of_row wo _ 1 _ _ _ r2).trans rfl
       have q2:=(cell_of_row wo _ 2 _ _ _ r2).trans rfl
       have q3:=(cell_of_row wo _ 3 _ _ _ r2).trans rfl
       have f0:=frozen_of_row wo (X+1) 0 _ _ r2
       have f1:=frozen_of_row wo (X+1) 1 _ _ r2
       have f2:=frozen_of_row wo (X+1) 2 _ _ r2
       have f3:=frozen_of_row wo (X+1) 3 _ _ r2
       clear r2
       obtain ⟨fa,fc,hfa⟩:=own_form HRa.out.st.finals
       subst hfa
       obtain ⟨ma,mc,hma⟩:=own_form HRa.out.st.moves
       subst hma
       generalize ((ls.take n).map Rs.over).length=fn at *
       generalize rows.length=rn at *
       have r3:=HRa.out.nb
       have p0:=(cell_of_row wo _ 0 _ _ _ r3).trans rfl
       have p1:=(cell_of_row wo _ 1 _ _ _ r3).trans rfl
       have p2:=(cell_of_row wo _ 2 _ _ _ r3).trans rfl
       have p3:=(cell_of_row wo _ 3 _ _ _ r3).trans rfl
       clear r3
       go_wp2_with fail
       go_region
       go_wp2_with fail
       have HK:=Lib.hid (row4_by wo (X+1) (.int .i64 (Ln:Int)) (.int .i64 0) (.slice fa fn fc) (.slice ma rn mc))
       have HPl:=Lib.hid (HPo.out.ty (TY.blk HRa.out.rb) HK.out (by decide))
       have HNl:=Lib.hid (HRa.out.st.ty (TY.blk HRa.out.rb) HK.out (by decide) (by decide) (by decide))
       refine bodyPost_ret (allL_res _ _ (X+1) _ _ _ _ _ _ rfl rfl rfl (row4_set17 _ _ _ _ _ _ _ HRa.out.rb)) rfl ⟨(grow_row HRa.out.grow HK.out (fun b e=>by cases e;exact HRa.out.lo.2.1)).trans (Flow.grow_drew _),n,HRun.out,.inl ⟨?_,?_,?_⟩⟩
       ·rw [HSg.out]
        show n=ls.length∨60 < ls.length
        have h1:=Hk.out
        omega
       ·rw [HSg.out]
        show n≤ls.length
        have h1:=Hk.out
        omega
       ·have h1:=HPl.out
        rw [← Hk.out] at h1
        rw [HSg.out]
        exact ⟨_,_,_,vs,rfl,h1.keep (Flow.grow_drew _),HNl.out.grow (Flow.grow_drew _)⟩
end Go.Proofs.YtcnmaplopbbmaaaGreat
