/- galliardlaw16.play by its contract: on a graph that may be, whatever tokens come to, the game's turns are the document's. -/
import Derived.Test.YtcnmaplopbbmaaaMBf
namespace Go.Proofs.Ytcnmaplopbbmaaa
open Go.RowKit
theorem range_left {w:World} {b o:Nat} {xs ys:List Value} (h:w.rangeAt b o (xs++ys)):w.rangeAt b o xs:=fun j v hj=>h j v (by rw [List.getElem?_append_left (List.getElem?_eq_some_iff.1 hj).1];exact hj)
theorem range_right {w:World} {b o:Nat} {xs ys:List Value} (h:w.rangeAt b o (xs++ys)):w.rangeAt b (o+xs.length) ys:=fun j v hj=>by
 rw [Nat.add_assoc]
 exact h (xs.length+j) v (by rw [List.getElem?_append_right (by omega),Nat.add_sub_cancel_left];exact hj)
theorem own_at {w:World} {bs e sz n:Nat} {a:Option Addr} {c:Nat} {xs:List Value} (h:w.ownsRow bs e sz (.slice a n c) n xs) (hn:0 < n):∃ b,a=some ⟨b,0,none⟩:=by
 rcases h.2 with ⟨_,h0⟩ | ⟨g,cap,cur,e1,_⟩
 ·omega
 ·cases e1;exact ⟨g,rfl⟩
theorem kc_split {t:Gr.Tk} (h:t.1.length=64):Gr.kc t=t.1.map Value.bool++[.bool t.2]:=by
 rw [Gr.kc_eq h]
 rfl
namespace Gr
structure PS (w2 w:World) (B:Nat) (v0 v1 v2 v3 lv:Value) (u:Bool) (vo:Value) (ls:List (List Bool)):Prop where
 by_:w2.grownBy w (some B)
 row:w.heap[B]? = some (.cells (gcells v0 v1 v2 v3 lv (err u 0)) 68 (0,0))
 own:w.ownsRow w2.heap.size 80 65 vo ls.length (ls.flatMap fun l=>kc (l,false))
section
variable {w2 w w':World} {B:Nat} {v0 v1 v2 v3 lv vo:Value} {u:Bool} {ls:List (List Bool)}
theorem PS.gm {g:G} {L:List Lb} {e:Int} (h:PS w2 w B v0 v1 v2 v3 lv u vo ls) (old:Gm w2 B v0 v1 v2 v3 lv g L e):Gm w B v0 v1 v2 v3 lv g L (err u 0):=old.by h.by_ h.row
theorem PS.keep (h:PS w2 w B v0 v1 v2 v3 lv u vo ls) (k:Flow.Grow w w'):PS w2 w' B v0 v1 v2 v3 lv u vo ls:=⟨by_trans h.by_ (by_grow k),heap_keep k h.row,own_keep h.own k⟩
theorem PS.rb {g:G} {L:List Lb} {F:Bool} (h:PS w2 w B v0 v1 v2 v3 lv u vo ls) (hB:B < w2.heap.size) (k:RB B v0 v1 v2 v3 lv g L F w w') (r:Gm w' B v0 v1 v2 v3 lv g L (err (u || F) 0)):PS w2 w' B v0 v1 v2 v3 lv (u || F) vo ls:=⟨by_trans h.by_ k.by_,r.row,own_by h.own k.by_ hB⟩
theorem PS.app {vo':Value} {l:List Bool} (h:PS w2 w B v0 v1 v2 v3 lv u vo ls) (o:w'.ownsRow w2.heap.size 80 65 vo' (ls.length+1) ((ls.flatMap fun l=>kc (l,false))++kc (l,false))) (k:w.grownBy w' vo.ownBlock):PS w2 w' B v0 v1 v2 v3 lv u vo' (ls++[l]) :=
 ⟨by_own h.by_ k (own_lo h.own),own_otherR h.own h.row (by decide) k,by rw [List.length_append,List.flatMap_append];simpa using o⟩
end
theorem G.nodeT_tk (g:G) (L:List Lb) (i:Nat) (t:Tk):∀ x∈g.nodeT L i t,x.2.1.length=t.1.length:=by
 intro x hx
 unfold nodeT at hx
 split at hx
 ·unfold taskT at hx
  simp only [List.mem_append,List.mem_flatMap] at hx
  rcases hx with (⟨p,_,hx⟩ | hx) | hx
  ·split at hx <;> simp at hx
   rw [hx,G.begun_len,wo_len]
  ·split at hx <;> simp at hx
   rw [hx,G.fin_len,wo_len]
  ·split at hx <;> simp at hx
   rcases hx with hx | hx
   ·rw [hx,G.begun_len,wo_len]
   ·rw [hx,G.outT_len,wo_len]
 ·split at hx
  ·split at hx <;> simp at hx
   rw [hx,G.outT_len,wos_len]
  ·split at hx
   ·simp only [List.mem_flatMap] at hx
    obtain ⟨k,_,o,_,hx⟩:=hx
    split at hx <;> simp at hx
    rw [hx,put1_len,wo_len]
   ·split at hx
    ·simp only [List.mem_flatMap] at hx
     obtain ⟨k,_,hx⟩:=hx
     split at hx <;> simp at hx
     rw [hx,wo_len]
    ·simp at hx
theorem G.turns_tk (g:G) (L:List Lb) (t:Tk):∀ x∈g.turns L t,x.2.1.length=t.1.length:=by
 intro x hx
 unfold turns at hx
 rw [List.mem_flatMap] at hx
 obtain ⟨i,_,hx⟩:=hx
 exact g.nodeT_tk L i t x hx
theorem bad_take (ts:List Tn) (k:Nat) (x:Tn) (h:ts[k]? = some x):bad (ts.take (k+1))=(bad (ts.take k) || x.2.2):=by
 rw [List.take_succ_eq_append_getElem (List.getElem?_eq_some_iff.1 h).1,bad_append,(List.getElem?_eq_some_iff.1 h).2]
 simp [bad]
end Gr
set_option maxRecDepth 100000 in
set_option maxHeartbeats 16000000 in
theorem play_any (v0 v1 v2 v3:Value) (g:Gr.G) (most:Nat) (W:World) (hf:g.Few) (hns:g.ns.length≤1000) (hc:g.check=0) (hm:most≤1000) (hnm:g.nm≤1000) (h:Gr.GAt W v0 v1 v2 v3 g) :
  Calls Try.prog 15 #[.agg #[v0,v1,v2,v3],.int .i64 most] W fun e w'=>e=.returned (.bool true)∧Flow.Grow W w':=by
 have hMay:=Gr.G.check_may hc
 have hF:=hMay.fit hf
 have hEl:=hF.es
 have hLl:g.labels.length≤1000000:=by
  refine Nat.le_trans (g.la_len g.np) ?_
  have h0:=hMay.np
  have h1:g.np * g.nm≤16 * 1000:=Nat.mul_le_mul h0 hnm
  have h2:=Nat.mul_le_mul h0 h1
  omega
 have hSrt:∀ L,Gr.LabOf g L→Gr.Srt g.labels:=fun L hL=>by rw [← hMay.labels hL];exact hL.srt
 have HA:=Lib.hid h
 have HNew:Hid (∀ w,Flow.Grow W w→Calls Try.prog 7 #[.agg #[v0,v1,v2,v3]] w fun e w'=>(∃ B lv,e=.returned (.tuple #[.pointer (some ⟨B,0,none⟩),.int .i64 0])∧Gr.Gm w' B v0 v1 v2 v3 lv g g.labels 0∧Gr.Srt g.labels∧w.heap.size≤B)∧Flow.Grow w w'):=Lib.hid fun w hg=>(new_any v0 v1 v2 v3 g w hf (by omega) (h.grow hg)).mono fun e w' ⟨a,b⟩=>by
  rcases a with ⟨hne,_⟩ | ⟨_,B,lv,L,he,h1,h2,h3⟩
  ·exact absurd hc hne
  ·have e1:=hMay.labels h2
   subst e1
   exact ⟨⟨B,lv,he,h1,h2.srt,h3⟩,b⟩
 have HFst:Hid (∀ w B lv e,Gr.Gm w B v0 v1 v2 v3 lv g g.labels e→Calls Try.prog 12 #[.pointer (some ⟨B,0,none⟩)] w fun e w'=>e=.returned (.int .u64 (Mark.ofBools (g.firstL g.es.length):Int))∧Flow.Grow w w'):=Lib.hid fun w B lv e hg=>by
  have k:=gfirst_any B v0 v1 v2 v3 lv g g.labels e w hF hg
  rwa [hMay.firstL hf] at k
 have HMk:Hid (∀ w (t:Gr.Tk),t.1.length=64→Calls Try.prog 31 #[.agg (Gr.tcs t)] w fun e w'=>e=.returned (.int .u64 (Mark.ofBools t.1:Int))∧Flow.Grow w w'):=Lib.hid fun w t ht=>tkMark_any t w ht
 have HTu:Hid (∀ w B lv u (l:List Bool),l.length=64→Gr.Srt g.labels→Gr.Gm w B v0 v1 v2 v3 lv g g.labels (Gr.err u 0)→Calls Try.prog 10 #[.pointer (some ⟨B,0,none⟩),.int .u64 (Mark.ofBools l:Int)] w fun e w'=>∃ out,e=.returned out∧Gr.TI w w' B v0 v1 v2 v3 lv g g.labels (u || Gr.bad (g.turns g.labels (l,false))) out (g.turns g.labels (l,false))):=Lib.hid fun w B lv u l hl hs hg=>turns_any B v0 v1 v2 v3 lv g g.labels u l w hl hF hLl hs hMay.zero hg
 have HRt:Hid (∀ w (l:List Bool),l.length=64→Flow.Grow W w→Calls Try.prog 32 #[.agg #[v0,v1,v2,v3],.agg (Gr.tcs (l,false))] w fun e w'=>∃ v,e=.returned v∧Gr.RO w w' v (g.turns g.labels (l,false))):=Lib.hid fun w l hl hg=>rturns_any v0 v1 v2 v3 g (l,false) w hF hl (by have:=hMay.np;omega) hnm (h.grow hg)
 have HUn:Hid (∀ w B lv u,Gr.Gm w B v0 v1 v2 v3 lv g g.labels (Gr.err u 0)→Calls Try.prog 13 #[.pointer (some ⟨B,0,none⟩)] w fun e w'=>e=.returned (.bool u)∧w=w'):=Lib.hid fun w B lv u hg=>unsafe_any B v0 v1 v2 v3 lv g g.labels u w hg
 have HEd:Hid (∀ i,i < g.es.length→∃ q:Nat,(g.es.getD i (0,0)).1=q∧q < g.ns.length∧(g.firstL i).set i ((g.nd q).kind == 1)=g.firstL (i+1)):=Lib.hid fun i hi=>by
  have he:=hMay.edge i hi
  simp [Gr.G.edgeOk] at he
  refine ⟨(g.es.getD i (0,0)).1.toNat,by simp;omega,by simp;omega,g.firstL_step i⟩
 have HF0:Hid (Gr.tcs (g.firstL 0,false)=Gr.tcs Gr.tz):=Lib.hid (by rw [g.firstL_zero];rfl)
 have HFl:=Lib.hid g.firstL_len
 have HTl:Hid (∀ l:List Bool,l.length=64→(g.turns g.labels (l,false)).length≤g.ns.length * 4096∧∀ t∈g.turns g.labels (l,false),t.2.1.length=64):=Lib.hid fun l hl=>by
  refine ⟨by have:=flat_len_le (fun i=>g.nodeT g.labels i (l,false)) 4096 (fun i=>Gr.G.nodeT_len hF g.labels i (l,false)) (List.range g.ns.length);rw [List.length_range] at this;exact this,fun t ht=>?_⟩
  rw [← hl]
  exact g.turns_tk g.labels (l,false) t ht
 clear hF hMay hSrt hLl
 obtain ⟨a0,c0,rfl⟩:=h.parts
 obtain ⟨a1,c1,rfl⟩:=h.msgs
 obtain ⟨an,cn,rfl⟩:=Gr.Recs.form h.nodes
 obtain ⟨ae,ce,rfl⟩:=Gr.Recs.form h.edges
 have HNs:=Lib.hid h.nodes
 have HEs:=Lib.hid h.edges
 clear h hc hf
 generalize g.labels=L at *
 generalize hEe:g.es.length=E at *
 have Hel:=Lib.hid hEe
 clear hEe
 generalize hNe:g.ns.length=nl at *
 have Hnl:=Lib.hid hNe
 clear hNe
 go_enter Try.func15,Try.ntmps15
 go_upto_region 1 with fail
 have HBw10:Hid ((W.alloc (.cells #[.slice a0 g.np c0,.slice a1 g.nm c1,.slice an nl cn,.slice ae E ce] 28)).heap[W.heap.size]? = some (.cells #[.slice a0 g.np c0,.slice a1 g.nm c1,.slice an nl cn,.slice ae E ce] 28 (0,0))):=Lib.hid (lay1_0 _ _)
 have HGw1:Hid (Flow.Grow W (W.alloc (.cells #[.slice a0 g.np c0,.slice a1 g.nm c1,.slice an nl cn,.slice ae E ce] 28))):=Lib.hid (lay1_g _ _)
 have HSw1:Hid ((W.alloc (.cells #[.slice a0 g.np c0,.slice a1 g.nm c1,.slice an nl cn,.slice ae E ce] 28)).heap.size=W.heap.size+1):=Lib.hid (by simp)
 generalize W.alloc (.cells #[.slice a0 g.np c0,.slice a1 g.nm c1,.slice an nl cn,.slice ae E ce] 28)=w1 at *
 obtain ⟨X,hX⟩:∃ X,X=W.heap.size:=⟨_,rfl⟩
 rw [← hX] at HBw10 HSw1 ⊢
 have HXw1:=Lib.hid hX
 clear hX
 have CXw1:Hid (∀ wq,Flow.Grow w1 wq→wq.cell? ⟨X,0,none⟩=some (.slice a0 g.np c0)∧wq.cell? ⟨X,1,none⟩=some (.slice a1 g.nm c1)∧wq.cell? ⟨X,2,none⟩=some (.slice an nl cn)∧wq.cell? ⟨X,3,none⟩=some (.slice ae E ce)):=Lib.hid (fun wq g=>⟨lay_cell g HBw10.out rfl,lay_cell g HBw10.out rfl,lay_cell g HBw10.out rfl,lay_cell g HBw10.out rfl⟩)
 have FXw1:Hid (∀ wq,Flow.Grow w1 wq→(∀ k,wq.frozen? ⟨X,k,none⟩=false)):=Lib.hid (fun wq g=>fun k=>lay_frozen g HBw10.out k)
 obtain ⟨c00,c01,c02,c03⟩:=CXw1.out w1 (Flow.grow_refl _)
 go_upto_region 4 with (go_at_call 7;refine (HNew.out _ HGw1.out).mono ?_;rintro e w2 ⟨⟨B,lv,rfl,hgm,hs,hB⟩,hg⟩;have HG2:=Lib.hid hg;have HGm:=Lib.hid hgm;have HB:=Lib.hid hB;have HS:=Lib.hid hs;clear hg hgm hB hs)
 clear c00 c01 c02 c03
 obtain ⟨al,cl,hlv⟩:=HGm.out.lbs.form
 subst hlv
 have hz0:=zeroTk
 have hst:=store_newR Try.prog w2 (Gr.tcs Gr.tz) (Gr.tcs Gr.tz) 80 rfl (Gr.tcs_all _)
 have hsz:(Gr.tcs Gr.tz).size=65:=rfl
 generalize hz:Gr.tcs Gr.tz=z at *
 have Hz:=Lib.hid hz
 clear hz
 go_upto_region 5 with (refine wpList_buildTo rfl 80 _ rfl _ rfl z (by rw [← Hz.out];exact built_tok_nil) ?_)
 clear hz0 hst hsz
 have HBwT0:Hid ((w2.alloc (.cells z 80)).heap[w2.heap.size]? = some (.cells z 80 (0,0))):=Lib.hid (lay1_0 _ _)
 have HGwT:Hid (Flow.Grow w2 (w2.alloc (.cells z 80))):=Lib.hid (lay1_g _ _)
 have HSwT:Hid ((w2.alloc (.cells z 80)).heap.size=w2.heap.size+1):=Lib.hid (by simp)
 generalize w2.alloc (.cells z 80)=wT at *
 obtain ⟨T,hT⟩:∃ X,X=w2.heap.size:=⟨_,rfl⟩
 rw [← hT] at HBwT0 HSwT ⊢
 have HXwT:=Lib.hid hT
 clear hT
 have FXwT:Hid (∀ wq,Flow.Grow wT wq→(∀ k,wq.frozen? ⟨T,k,none⟩=false)):=Lib.hid (fun wq g=>fun k=>lay_frozen g HBwT0.out k)
 have HGT:Hid (Flow.Grow w1 wT):=Lib.hid (HG2.out.trans HGwT.out)
 go_wp2_with fail
 go_loopw [8] (fun vi wr=>∃ i:Nat,i≤E∧vi=.int .i64 i∧Hid (wr.heap[T]? = some (.cells (Gr.tcs (g.firstL i,false)) 80 (0,0)))∧Hid (Flow.Grow w2 wr)) (fun vi _=>E - (intOf vi).toNat)
 case atStart=>exact ⟨0,by omega,rfl,Lib.hid (by rw [HF0.out];exact HBwT0.out),HGwT⟩
 case round =>
  obtain ⟨i,hi,rfl,HT,HGr⟩:=hrel
  rename World=>wz
  have HG1z:Hid (Flow.Grow w1 wz):=Lib.hid (HG2.out.trans HGr.out)
  obtain ⟨c00,c01,c02,c03⟩:=CXw1.out wz (HG1z.out)
  by_cases hin:i < E
  ·obtain ⟨eb,eo,rfl,p0,_⟩:=Gr.EsAt.at (Gr.Recs.grow HEs.out (HGw1.out.trans HG1z.out)) (j:=i) (by rw [Hel.out];exact hin)
   obtain ⟨q,hq1,hq2,hq3⟩:=HEd.out i hin
   obtain ⟨nb,no,rfl,n0,_⟩:=Gr.NdsAt.at (Gr.Recs.grow HNs.out (HGw1.out.trans HG1z.out)) (j:=q) (by rw [Hnl.out];exact hq2)
   have p0':wz.cell? ⟨eb,eo+i * 2,none⟩=some (.int .i64 (q:Int)):=by rw [← hq1];exact p0
   have n0':wz.cell? ⟨nb,no+q * 7,none⟩=some (.int .i64 (g.nd q).kind):=n0
   have Hq3:=Lib.hid hq3
   clear p0 n0 hq1 hq3
   generalize (g.nd q).kind=K at *
   have hi64:i < 64:=by omega
   go_upto_region 8 with fail
   refine Flow.region_tail2 (R:=Flow.Grow) (C:=fun wq=>Flow.Grow wz wq) (Fs:=[.inl ((.int .i64 (i:Int))),.inl ((.pointer (some ⟨X,2,none⟩))),.inl ((.slice (some ⟨nb,no,none⟩) nl cn)),.inl ((.pointer (some ⟨X,3,none⟩))),.inl ((.slice (some ⟨eb,eo,none⟩) E ce)),.inl ((.int .i64 (i:Int))),.inl ((.pointer (some ⟨eb,eo+i * 2,none⟩))),.inl ((.pointer (some ⟨eb,eo+i * 2,none⟩))),.inl ((.int .i64 (q:Int))),.inl ((.pointer (some ⟨nb,no+q * 7,none⟩))),.inl ((.pointer (some ⟨nb,no+q * 7,none⟩))),.inl ((.int .i64 K)),.inl ((.bool (K == 1))),.inl ((.pointer (some ⟨T,0,none⟩))),.inl ((.pointer (some ⟨T,i,none⟩)))])
    (S:=[[],[],[1],[],[3],[],[4,5],[6],[7],[2,8],[9],[10],[11],[],[13,0],[0,1,2,3,4,5,6,7,8,9,10,11,12,13,14]]) 15 (by kernel_rfl) (by kernel_rfl) (by kernel_rfl) (by kernel_rfl) rfl ?stab8 Flow.grow_refl (fun _ _ h k=>h.trans k) (Flow.grow_drew _) ?ones8 ?ends8
   case ones8 =>
    refine Flow.Ones.cons ?_ ?_
    ·intro a w hC hoff _
     have e8:a.eval (.tmp 8)=(.int .i64 (i:Int)):=hoff.at 8 (by kernel_rfl)
     refine .inl ⟨Flow.want_none rfl,?_⟩
     exact Flow.run_same (Flow.exec_move (.inl rfl) e8) Flow.grow_refl
    refine Flow.Ones.cons ?_ ?_
    ·intro a w hC hoff _
     have e2:a.eval (.tmp 2)=(.pointer (some ⟨X,0,none⟩)):=hoff.at 2 (by kernel_rfl)
     refine .inl ⟨Flow.want_none rfl,?_⟩
     refine Flow.run_same ?_ Flow.grow_refl
     have ec:=Flow.eval_const a
     generalize a.eval=ρ at e2 ec ⊢
     simp [execOp,e2,go_sem]
    refine Flow.Ones.cons ?_ ?_
    ·rintro a w hC hoff ⟨k1,-⟩
     have e33:a.eval (.tmp 33)=(.pointer (some ⟨X,2,none⟩)):=k1 33 rfl
     refine .inl ⟨Flow.want_none rfl,?_⟩
     refine Flow.run_same ?_ Flow.grow_refl
     have ec:=Flow.eval_const a
     generalize a.eval=ρ at e33 ec ⊢
     have h0:=Xm2.cell_grow hC c02
     simp [execOp,e33,h0,go_sem]
    refine Flow.Ones.cons ?_ ?_
    ·intro a w hC hoff _
     have e2:a.eval (.tmp 2)=(.pointer (some ⟨X,0,none⟩)):=hoff.at 2 (by kernel_rfl)
     refine .inl ⟨Flow.want_none rfl,?_⟩
     refine Flow.run_same ?_ Flow.grow_refl
     have ec:=Flow.eval_const a
     generalize a.eval=ρ at e2 ec ⊢
     simp [execOp,e2,go_sem]
    refine Flow.Ones.cons ?_ ?_
    ·rintro a w hC hoff ⟨k3,-⟩
     have e35:a.eval (.tmp 35)=(.pointer (some ⟨X,3,none⟩)):=k3 35 rfl
     refine .inl ⟨Flow.want_none rfl,?_⟩
     refine Flow.run_same ?_ Flow.grow_refl
     have ec:=Flow.eval_const a
     generalize a.eval=ρ at e35 ec ⊢
     have h0:=Xm2.cell_grow hC c03
     simp [execOp,e35,h0,go_sem]
    refine Flow.Ones.cons ?_ ?_
    ·intro a w hC hoff _
     have e8:a.eval (.tmp 8)=(.int .i64 (i:Int)):=hoff.at 8 (by kernel_rfl)
     refine .inl ⟨Flow.want_none rfl,?_⟩
     exact Flow.run_same (Flow.exec_move (.inl rfl) e8) Flow.grow_refl
    refine Flow.Ones.cons ?_ ?_
    ·rintro a w hC hoff ⟨k4,k5,-⟩
     have e36:a.eval (.tmp 36)=(.slice (some ⟨eb,eo,none⟩) E ce):=k4 36 rfl
     have e37:a.eval (.tmp 37)=(.int .i64 (i:Int)):=k5 37 rfl
     refine .inl ⟨Flow.want_none rfl,?_⟩
     refine Flow.run_same ?_ Flow.grow_refl
     have ec:=Flow.eval_const a
     generalize a.eval=ρ at e36 e37 ec ⊢
     simp [execOp,e36,e37,go_sem];intro hh;omega
    refine Flow.Ones.cons ?_ ?_
    ·rintro a w hC hoff ⟨k6,-⟩
     have e38:a.eval (.tmp 38)=(.pointer (some ⟨eb,eo+i * 2,none⟩)):=k6 38 rfl
     refine .inl ⟨Flow.want_none rfl,?_⟩
     refine Flow.run_same ?_ Flow.grow_refl
     have ec:=Flow.eval_const a
     generalize a.eval=ρ at e38 ec ⊢
     simp [execOp,e38,go_sem]
    refine Flow.Ones.cons ?_ ?_
    ·rintro a w hC hoff ⟨k7,-⟩
     have e39:a.eval (.tmp 39)=(.pointer (some ⟨eb,eo+i * 2,none⟩)):=k7 39 rfl
     refine .inl ⟨Flow.want_none rfl,?_⟩
     refine Flow.run_same ?_ Flow.grow_refl
     have ec:=Flow.eval_const a
     generalize a.eval=ρ at e39 ec ⊢
     have h0:=Xm2.cell_grow hC p0'
     simp [execOp,e39,h0,go_sem]
    refine Flow.Ones.cons ?_ ?_
    ·rintro a w hC hoff ⟨k2,k8,-⟩
     have e34:a.eval (.tmp 34)=(.slice (some ⟨nb,no,none⟩) nl cn):=k2 34 rfl
     have e40:a.eval (.tmp 40)=(.int .i64 (q:Int)):=k8 40 rfl
     refine .inl ⟨Flow.want_none rfl,?_⟩
     refine Flow.run_same ?_ Flow.grow_refl
     have ec:=Flow.eval_const a
     generalize a.eval=ρ at e34 e40 ec ⊢
     simp [execOp,e34,e40,go_sem];intro hh;omega
    refine Flow.Ones.cons ?_ ?_
    ·rintro a w hC hoff ⟨k9,-⟩
     have e41:a.eval (.tmp 41)=(.pointer (some ⟨nb,no+q * 7,none⟩)):=k9 41 rfl
     refine .inl ⟨Flow.want_none rfl,?_⟩
     refine Flow.run_same ?_ Flow.grow_refl
     have ec:=Flow.eval_const a
     generalize a.eval=ρ at e41 ec ⊢
     simp [execOp,e41,go_sem]
    refine Flow.Ones.cons ?_ ?_
    ·rintro a w hC hoff ⟨k10,-⟩
     have e42:a.eval (.tmp 42)=(.pointer (some ⟨nb,no+q * 7,none⟩)):=k10 42 rfl
     refine .inl ⟨Flow.want_none rfl,?_⟩
     refine Flow.run_same ?_ Flow.grow_refl
     have ec:=Flow.eval_const a
     generalize a.eval=ρ at e42 ec ⊢
     have h0:=Xm2.cell_grow hC n0'
     simp [execOp,e42,h0,go_sem]
    refine Flow.Ones.cons ?_ ?_
    ·rintro a w hC hoff ⟨k11,-⟩
     have e43:a.eval (.tmp 43)=(.int .i64 K):=k11 43 rfl
     refine .inl ⟨Flow.want_none rfl,?_⟩
     refine Flow.run_same ?_ Flow.grow_refl
     have ec:=Flow.eval_const a
     generalize a.eval=ρ at e43 ec ⊢
     simp [execOp,e43,ec,go_sem]
    refine Flow.Ones.cons ?_ ?_
    ·intro a w hC hoff _
     have e7:a.eval (.tmp 7)=(.pointer (some ⟨T,0,none⟩)):=hoff.at 7 (by kernel_rfl)
     refine .inl ⟨Flow.want_none rfl,?_⟩
     refine Flow.run_same ?_ Flow.grow_refl
     have ec:=Flow.eval_const a
     generalize a.eval=ρ at e7 ec ⊢
     simp [execOp,e7,go_sem]
    refine Flow.Ones.cons ?_ ?_
    ·rintro a w hC hoff ⟨k13,k0,-⟩
     have e45:a.eval (.tmp 45)=(.pointer (some ⟨T,0,none⟩)):=k13 45 rfl
     have e32:a.eval (.tmp 32)=(.int .i64 (i:Int)):=k0 32 rfl
     refine .inl ⟨Flow.want_none rfl,?_⟩
     refine Flow.run_same ?_ Flow.grow_refl
     have ec:=Flow.eval_const a
     generalize a.eval=ρ at e45 e32 ec ⊢
     simp [execOp,e45,e32,go_sem];omega
    exact trivial
   case stab8=>exact trivial
   case ends8 =>
    intro wx o ho hC
    simp only [List.take_succ_cons,List.take_zero,Flow.ends]
    have hop:o.op=.store 4 (.tmp 46) (.tmp 44):=by cases ho;rfl
    have hdst:o.dst=none:=by cases ho;rfl
    clear ho
    simp only [Act.put,List.setIfInBounds_toArray,List.set_cons_succ,List.set_cons_zero]
    have HTx:=Lib.hid (heap_keep hC HT.out)
    have HC:=Lib.hid hC
    clear hC p0' n0' c00 c01 c02 c03
    have a0:wx.cell? ⟨T,i,none⟩=some (.bool ((g.firstL i).getD i false)):=(cell_of_row wx T i _ _ _ HTx.out).trans (Gr.tcs_get (t:=(g.firstL i,false)) (by rw [HFl.out];exact hi64))
    have af:wx.frozen? ⟨T,i,none⟩=false:=frozen_of_row wx T _ _ _ HTx.out
    unfold Oper.wp
    simp only [execOp,hop,Act.eval]
    simp [a0,af,go_sem]
    simp only [hdst]
    have HT2:Hid ((wx.setCell ⟨T,i,none⟩ (.bool (K == 1))).heap[T]? = some (.cells (Gr.tcs (g.firstL (i+1),false)) 80 (0,0))):=Lib.hid (by
     rw [set_cells HTx.out i _,Gr.tcs_set (t:=(g.firstL i,false)) (by rw [HFl.out];exact hi64)]
     rw [show ((g.firstL i,false):Gr.Tk).1=g.firstL i from rfl,Hq3.out])
    have HG3:Hid (Flow.Grow w2 (wx.setCell ⟨T,i,none⟩ (.bool (K == 1)))):=Lib.hid (set_grow (HGr.out.trans HC.out) (by rw [← HXwT.out];exact Nat.le_refl _) _ _)
    clear a0 af hop hdst
    go_wp2_with fail
    go_roundw
    case rel=>exact ⟨i+1,by omega,by go_num,HT2,HG3⟩
    case measure=>simp [intOf];omega
  ·obtain rfl:i=E:=by omega
   have HGm3:=Lib.hid (HGm.out.grow HGr.out)
   obtain ⟨FB,hFB⟩:∃ FB,FB=g.firstL i:=⟨_,rfl⟩
   have HFBl:Hid (FB.length=64):=Lib.hid (by rw [hFB];exact HFl.out i)
   rw [← hFB] at HFst HT
   clear hFB
   have HSzF:=Lib.hid (tk_sz (t:=(FB,false)) HFBl.out)
   go_upto_region 9 with fail
   clear c00 c01 c02 c03
   refine Flow.region_grown (Fs:=[.inl ((.pointer (some ⟨B,0,none⟩))),.inl ((.int .u64 (Mark.ofBools FB:Int))),.inl ((.agg (Gr.tcs (FB,false)))),.inl ((.int .u64 (Mark.ofBools FB:Int))),.inl ((.bool false))])
    (S:=[[],[0],[],[2],[1,3]]) (by kernel_rfl) (by kernel_rfl) (by kernel_rfl) rfl ?stab9 ?ones9 ?ends9
   case ones9 =>
    refine Flow.Ones.cons ?_ ?_
    ·intro a w hC hoff _
     have e5:a.eval (.tmp 5)=(.pointer (some ⟨B,0,none⟩)):=hoff.at 5 (by kernel_rfl)
     refine .inl ⟨Flow.want_none rfl,?_⟩
     exact Flow.run_same (Flow.exec_move (.inl rfl) e5) Flow.grow_refl
    refine Flow.Ones.cons ?_ ?_
    ·rintro a w hC hoff ⟨k0,-⟩
     have e47:a.eval (.tmp 47)=(.pointer (some ⟨B,0,none⟩)):=k0 47 rfl
     refine .inl ⟨Flow.want_none rfl,?_⟩
     exact Flow.run_call (Flow.exec_call (args:=#[((.pointer (some ⟨B,0,none⟩)))]) rfl Try.func12 (by kernel_rfl) (by kernel_rfl) (by simp only [List.map_toArray,List.map_cons,List.map_nil,e47] <;> rfl)) ((HFst.out w B _ _ (HGm3.out.grow hC)).mono fun e w' ⟨he,hg⟩=>⟨_,he,hg,rfl⟩)
    refine Flow.Ones.cons ?_ ?_
    ·intro a w hC hoff _
     have e7:a.eval (.tmp 7)=(.pointer (some ⟨T,0,none⟩)):=hoff.at 7 (by kernel_rfl)
     refine .inl ⟨Flow.want_none rfl,?_⟩
     refine Flow.run_same ?_ Flow.grow_refl
     have ec:=Flow.eval_const a
     generalize a.eval=ρ at e7 ec ⊢
     exact exec_load_row 80 _ rfl T e7 80 (Gr.tcs (FB,false)) (0,0) _ (heap_keep hC HT.out) Try.underlying80 rfl HSzF.out.1
    refine Flow.Ones.cons ?_ ?_
    ·rintro a w hC hoff ⟨k2,-⟩
     have e49:a.eval (.tmp 49)=(.agg (Gr.tcs (FB,false))):=k2 49 rfl
     refine .inl ⟨Flow.want_none rfl,?_⟩
     exact Flow.run_call (Flow.exec_call (args:=#[((.agg (Gr.tcs (FB,false))))]) rfl Try.func31 (by kernel_rfl) (by kernel_rfl) (by simp only [List.map_toArray,List.map_cons,List.map_nil,e49] <;> rfl)) ((HMk.out w (FB,false) HFBl.out).mono fun e w' ⟨he,hg⟩=>⟨_,he,hg,rfl⟩)
    refine Flow.Ones.cons ?_ ?_
    ·rintro a w hC hoff ⟨k1,k3,-⟩
     have e48:a.eval (.tmp 48)=(.int .u64 (Mark.ofBools FB:Int)):=k1 48 rfl
     have e50:a.eval (.tmp 50)=(.int .u64 (Mark.ofBools FB:Int)):=k3 50 rfl
     refine .inl ⟨Flow.want_none rfl,?_⟩
     refine Flow.run_same ?_ Flow.grow_refl
     have ec:=Flow.eval_const a
     generalize a.eval=ρ at e48 e50 ec ⊢
     simp [execOp,e48,e50,go_sem]
    exact trivial
   case stab9=>exact trivial
   case ends9 =>
    intro w3 hg
    simp only [Flow.ends]
    simp only [Act.put,List.setIfInBounds_toArray,List.set_cons_succ,List.set_cons_zero]
    have HG3:=Lib.hid (HGr.out.trans hg)
    have HT3:=Lib.hid (heap_keep hg HT.out)
    clear hg
    go_upto_region 12 with (first
     | (with_reducible refine wpList_load_row rfl 80 (.tmp 7) rfl T rfl 80 (Gr.tcs (FB,false)) (0,0) _ HT3.out Try.underlying80 rfl HSzF.out.1 ?_)
     | (refine wpList_plain rfl fun K hK=>?_;refine Flow.run_wp (exec_slice_tok rfl rfl HSzF.out.2.1) ?_;refine hK _ _ ?_))
    have HP0:Hid (Gr.PS w2 (w3.alloc (.cells (Gr.tcs (FB,false)) 80)) B (.slice a0 g.np c0) (.slice a1 g.nm c1) (.slice an nl cn) (.slice ae i ce) (.slice al L.length cl) false (.slice (some ⟨w3.heap.size,0,none⟩) 1 1) [FB]):=Lib.hid ⟨by_grow (HG3.out.trans (Flow.grow_alloc _ _)),heap_keep (HG3.out.trans (Flow.grow_alloc _ _)) HGm.out.row,by
     have k:=World.ownsRow_lit (base:=w2.heap.size) (e:=80) (size:=65) w3 (Gr.tcs (FB,false)) 1 HG3.out.size (by decide) (by rw [HSzF.out.2.1])
     simpa [Gr.kc_eq (t:=(FB,false)) HFBl.out] using k⟩
    generalize w3.alloc (.cells (Gr.tcs (FB,false)) 80)=w4 at *
    have hBl:=HGm.out.lt
    have HBn:=Lib.hid hBl
    clear hBl HT HT3 HG3 HGm3
    have HGW:Hid (∀ w,w2.grownBy w (some B)→Flow.Grow W w):=Lib.hid fun w hp=>⟨hp.os.trans (HGw1.out.trans HG2.out).os,hp.tape.trans (HGw1.out.trans HG2.out).tape,hp.output.trans (HGw1.out.trans HG2.out).output,Nat.le_trans (HGw1.out.trans HG2.out).size hp.size,fun b hb _=>(hp.block b (Nat.lt_of_lt_of_le hb (HGw1.out.trans HG2.out).size) (by have:=HB.out;have:=HGw1.out.size;intro e;cases e;omega)).trans ((HGw1.out.trans HG2.out).block b hb (by simp))⟩
    go_wp2_with fail
    go_loopw [9,10,11] (fun vo vb vi wr=>∃ (n:Nat) (ls:List (List Bool)) (u:Bool),n≤most∧vi=.int .i64 n∧vb=.bool u∧ls.length≤1+n * (nl * 4096)∧Hid (∀ l∈ls,l.length=64)∧Hid (Gr.PS w2 wr B (.slice a0 g.np c0) (.slice a1 g.nm c1) (.slice an nl cn) (.slice ae i ce) (.slice al L.length cl) u vo ls)) (fun _ _ vi _=>most - (intOf vi).toNat)
    case atStart=>exact ⟨0,[FB],false,by omega,rfl,rfl,by simp,Lib.hid (by simp;exact HFBl.out),HP0⟩
    case round =>
     obtain ⟨n,ls,u,hn,rfl,rfl,hll,HLs,HP⟩:=hrel
     rename World=>wr
     obtain ⟨va,hva⟩:∃ va,va=u9:=⟨_,rfl⟩
     obtain ⟨oa,oc,hoa⟩:=own_form HP.out.own
     subst hoa
     clear hva
     by_cases hgo:n < ls.length
     ·have d1:decide ((n:Int) < (ls.length:Int))=true:=by simp;omega
      have d1':decide (n < ls.length)=true:=by simp;omega
      by_cases hgm:n < most
      ·have d2:decide ((n:Int) < (most:Int))=true:=by simp;omega
       have d2':decide (n < most)=true:=by simp;omega
       obtain ⟨ob,rfl⟩:=own_at HP.out.own (by omega)
       obtain ⟨l,hl⟩:∃ l,ls[n]? = some l:=⟨_,List.getElem?_eq_getElem hgo⟩
       have hl64:=HLs.out l (List.mem_of_getElem? hl)
       have Hl64:=Lib.hid hl64
       have HSl:=Lib.hid (tk_sz (t:=(l,false)) hl64)
       have HTuL:=Lib.hid fun w u hm=>HTu.out w B (.slice al L.length cl) u l hl64 HS.out hm
       have HRtL:=Lib.hid fun w hg=>HRt.out w l hl64 hg
       have HTlL:=Lib.hid (HTl.out l hl64)
       have HXr:Hid (wr.heap[X]? = some (.cells #[.slice a0 g.np c0,.slice a1 g.nm c1,.slice an nl cn,.slice ae i ce] 28 (0,0))):=Lib.hid ((HP.out.by_.block X (by have:=HG2.out.size;have:=HSw1.out;omega) (by have:=HB.out;have:=HSw1.out;intro e;cases e;omega)).trans (heap_keep HG2.out HBw10.out))
       have HXB:Hid (X≠B):=Lib.hid (by have:=HB.out;have:=HSw1.out;omega)
       have HBl:Hid (B < wr.heap.size):=Lib.hid (Nat.lt_of_lt_of_le HBn.out HP.out.by_.size)
       have HRg:Hid (∀ w,wr.grownBy w (some B)→w.rangeAt ob (n * 65) (Gr.tcs (l,false)).toList):=Lib.hid fun w hb=>by
        have k:=own_range (f:=fun l=>Gr.kc (l,false)) (fun l=>Gr.kc_len _) (own_by HP.out.own hb HBn.out) hl
        rwa [Gr.kc_eq (t:=(l,false)) hl64] at k
       obtain ⟨TS,hTS⟩:∃ TS,TS=g.turns L (l,false):=⟨_,rfl⟩
       rw [← hTS] at HTuL HRtL HTlL
       clear hTS
       obtain ⟨F,hF⟩:∃ F,F=Gr.bad TS:=⟨_,rfl⟩
       have HFe:=Lib.hid hF
       rw [← hF] at HTuL
       clear hF
       have HRB:Hid (∀ w,Gr.RB B (.slice a0 g.np c0) (.slice a1 g.nm c1) (.slice an nl cn) (.slice ae i ce) (.slice al L.length cl) g L F wr w→∃ u',Gr.Gm w B (.slice a0 g.np c0) (.slice a1 g.nm c1) (.slice an nl cn) (.slice ae i ce) (.slice al L.length cl) g L (Gr.err u' 0)):=Lib.hid fun w hr=>by
        obtain ⟨u1,h1,_⟩:=hr.gm u (HP.out.gm HGm.out)
        exact ⟨u1,h1⟩
       go_upto_region 15 with fail
       refine Flow.region (R:=Gr.RB B (.slice a0 g.np c0) (.slice a1 g.nm c1) (.slice an nl cn) (.slice ae i ce) (.slice al L.length cl) g L F) (C:=fun ww=>Gr.RB B (.slice a0 g.np c0) (.slice a1 g.nm c1) (.slice an nl cn) (.slice ae i ce) (.slice al L.length cl) g L F wr ww) (Fs:=[.inl ((.pointer (some ⟨B,0,none⟩))),.inl ((.slice (some ⟨ob,0,none⟩) ls.length oc)),.inl ((.int .i64 (n:Int))),.inl ((.pointer (some ⟨ob,n * 65,none⟩))),.inl ((.agg (Gr.tcs (l,false)))),.inl ((.int .u64 (Mark.ofBools l:Int))),.inr (fun v w=>w.ownsRow wr.heap.size 73 2 v TS.length (TS.flatMap Gr.tcells)∧(F=true→Gr.Gm w B (.slice a0 g.np c0) (.slice a1 g.nm c1) (.slice an nl cn) (.slice ae i ce) (.slice al L.length cl) g L (Gr.err true 0))),.inl ((.agg #[.slice a0 g.np c0,.slice a1 g.nm c1,.slice an nl cn,.slice ae i ce])),.inl ((.slice (some ⟨ob,0,none⟩) ls.length oc)),.inl ((.int .i64 (n:Int))),.inl ((.pointer (some ⟨ob,n * 65,none⟩))),.inl ((.agg (Gr.tcs (l,false)))),.inr (fun v w=>w.ownsRow wr.heap.size 85 66 v TS.length (TS.flatMap Gr.rc)),.inr (fun v w=>w.ownsRow wr.heap.size 73 2 v TS.length (TS.flatMap Gr.tcells)∧(F=true→Gr.Gm w B (.slice a0 g.np c0) (.slice a1 g.nm c1) (.slice an nl cn) (.slice ae i ce) (.slice al L.length cl) g L (Gr.err true 0))),.inr (fun v w=>w.ownsRow wr.heap.size 85 66 v TS.length (TS.flatMap Gr.rc))])
        (S:=[[],[],[],[1,2],[3],[4],[0,5],[],[],[],[8,9],[10],[7,11],[6],[12]]) (by kernel_rfl) (by kernel_rfl) (by kernel_rfl) rfl ?stab15 (Gr.RB.refl) (fun _ _ h k=>h.trans k) (Gr.RB.grow (Flow.grow_drew _)) ?ones15 ?ends15
       case ones15 =>
        refine Flow.Ones.cons ?_ ?_
        ·intro a w hC hoff _
         have e5:a.eval (.tmp 5)=(.pointer (some ⟨B,0,none⟩)):=hoff.at 5 (by kernel_rfl)
         refine .inl ⟨Flow.want_none rfl,?_⟩
         exact Flow.run_same (Flow.exec_move (.inl rfl) e5) Gr.RB.refl
        refine Flow.Ones.cons ?_ ?_
        ·intro a w hC hoff _
         have e9:a.eval (.tmp 9)=(.slice (some ⟨ob,0,none⟩) ls.length oc):=hoff.at 9 (by kernel_rfl)
         refine .inl ⟨Flow.want_none rfl,?_⟩
         exact Flow.run_same (Flow.exec_move (.inl rfl) e9) Gr.RB.refl
        refine Flow.Ones.cons ?_ ?_
        ·intro a w hC hoff _
         have e11:a.eval (.tmp 11)=(.int .i64 (n:Int)):=hoff.at 11 (by kernel_rfl)
         refine .inl ⟨Flow.want_none rfl,?_⟩
         exact Flow.run_same (Flow.exec_move (.inl rfl) e11) Gr.RB.refl
        refine Flow.Ones.cons ?_ ?_
        ·rintro a w hC hoff ⟨k1,k2,-⟩
         have e66:a.eval (.tmp 66)=(.slice (some ⟨ob,0,none⟩) ls.length oc):=k1 66 rfl
         have e67:a.eval (.tmp 67)=(.int .i64 (n:Int)):=k2 67 rfl
         refine .inl ⟨Flow.want_none rfl,?_⟩
         refine Flow.run_same ?_ Gr.RB.refl
         have ec:=Flow.eval_const a
         generalize a.eval=ρ at e66 e67 ec ⊢
         simp [execOp,e66,e67,go_sem];intro hh;omega
        refine Flow.Ones.cons ?_ ?_
        ·rintro a w hC hoff ⟨k3,-⟩
         have e68:a.eval (.tmp 68)=(.pointer (some ⟨ob,n * 65,none⟩)):=k3 68 rfl
         refine .inl ⟨Flow.want_none rfl,?_⟩
         refine Flow.run_same ?_ Gr.RB.refl
         have ec:=Flow.eval_const a
         generalize a.eval=ρ at e68 ec ⊢
         exact exec_load_mid 80 _ rfl ob (n * 65) e68 (Gr.tcs (l,false)).toList _ (HRg.out w hC.by_) Try.underlying80 rfl (by rw [Array.length_toList];exact HSl.out.1)
        refine Flow.Ones.cons ?_ ?_
        ·rintro a w hC hoff ⟨k4,-⟩
         have e69:a.eval (.tmp 69)=(.agg (Gr.tcs (l,false))):=k4 69 rfl
         refine .inl ⟨Flow.want_none rfl,?_⟩
         exact Flow.run_call (Flow.exec_call rfl Try.func31 (by kernel_rfl) (by kernel_rfl) (by simp only [List.map_toArray,List.map_cons,List.map_nil,e69] <;> rfl)) ((HMk.out w (l,false) Hl64.out).mono fun e w' ⟨he,hg⟩=>⟨_,he,Gr.RB.grow hg,rfl⟩)
        refine Flow.Ones.cons ?_ ?_
        ·rintro a w hC hoff ⟨k0,k5,-⟩
         have e65:a.eval (.tmp 65)=(.pointer (some ⟨B,0,none⟩)):=k0 65 rfl
         have e70:a.eval (.tmp 70)=(.int .u64 (Mark.ofBools l:Int)):=k5 70 rfl
         refine .inl ⟨Flow.want_none rfl,?_⟩
         obtain ⟨u1,hm1⟩:=HRB.out w hC
         exact Flow.run_call (Flow.exec_call rfl Try.func10 (by kernel_rfl) (by kernel_rfl) (by simp only [List.map_toArray,List.map_cons,List.map_nil,e65,e70] <;> rfl)) ((HTuL.out w u1 hm1).mono fun e w' ⟨out,he,ti⟩=>⟨_,he,Gr.RB.call hm1 ti.by_ (by rw [Gr.err_err];exact ti.gm) id,own_base ti.own hC.by_.size,fun h=>by have k0:=ti.gm;rw [h,Bool.or_true] at k0;exact k0⟩)
        refine Flow.Ones.cons ?_ ?_
        ·intro a w hC hoff _
         have e2:a.eval (.tmp 2)=(.pointer (some ⟨X,0,none⟩)):=hoff.at 2 (by kernel_rfl)
         refine .inl ⟨Flow.want_none rfl,?_⟩
         refine Flow.run_same ?_ Gr.RB.refl
         have ec:=Flow.eval_const a
         generalize a.eval=ρ at e2 ec ⊢
         have hxx:=by_keep hC.by_ HXr.out HXB.out
         have h0:=(cell_of_row w X 0 _ _ _ hxx).trans rfl
         have h1:=(cell_of_row w X 1 _ _ _ hxx).trans rfl
         have h2:=(cell_of_row w X 2 _ _ _ hxx).trans rfl
         have h3:=(cell_of_row w X 3 _ _ _ hxx).trans rfl
         simp at h0 h1 h2 h3
         simp [execOp,e2,h0,h1,h2,h3,go_sem]
        refine Flow.Ones.cons ?_ ?_
        ·intro a w hC hoff _
         have e9:a.eval (.tmp 9)=(.slice (some ⟨ob,0,none⟩) ls.length oc):=hoff.at 9 (by kernel_rfl)
         refine .inl ⟨Flow.want_none rfl,?_⟩
         exact Flow.run_same (Flow.exec_move (.inl rfl) e9) Gr.RB.refl
        refine Flow.Ones.cons ?_ ?_
        ·intro a w hC hoff _
         have e11:a.eval (.tmp 11)=(.int .i64 (n:Int)):=hoff.at 11 (by kernel_rfl)
         refine .inl ⟨Flow.want_none rfl,?_⟩
         exact Flow.run_same (Flow.exec_move (.inl rfl) e11) Gr.RB.refl
        refine Flow.Ones.cons ?_ ?_
        ·rintro a w hC hoff ⟨k8,k9,-⟩
         have e73:a.eval (.tmp 73)=(.slice (some ⟨ob,0,none⟩) ls.length oc):=k8 73 rfl
         have e74:a.eval (.tmp 74)=(.int .i64 (n:Int)):=k9 74 rfl
         refine .inl ⟨Flow.want_none rfl,?_⟩
         refine Flow.run_same ?_ Gr.RB.refl
         have ec:=Flow.eval_const a
         generalize a.eval=ρ at e73 e74 ec ⊢
         simp [execOp,e73,e74,go_sem];intro hh;omega
        refine Flow.Ones.cons ?_ ?_
        ·rintro a w hC hoff ⟨k10,-⟩
         have e75:a.eval (.tmp 75)=(.pointer (some ⟨ob,n * 65,none⟩)):=k10 75 rfl
         refine .inl ⟨Flow.want_none rfl,?_⟩
         refine Flow.run_same ?_ Gr.RB.refl
         have ec:=Flow.eval_const a
         generalize a.eval=ρ at e75 ec ⊢
         exact exec_load_mid 80 _ rfl ob (n * 65) e75 (Gr.tcs (l,false)).toList _ (HRg.out w hC.by_) Try.underlying80 rfl (by rw [Array.length_toList];exact HSl.out.1)
        refine Flow.Ones.cons ?_ ?_
        ·rintro a w hC hoff ⟨k7,k11,-⟩
         have e72:a.eval (.tmp 72)=(.agg #[.slice a0 g.np c0,.slice a1 g.nm c1,.slice an nl cn,.slice ae i ce]):=k7 72 rfl
         have e76:a.eval (.tmp 76)=(.agg (Gr.tcs (l,false))):=k11 76 rfl
         refine .inl ⟨Flow.want_none rfl,?_⟩
         exact Flow.run_call (Flow.exec_call rfl Try.func32 (by kernel_rfl) (by kernel_rfl) (by simp only [List.map_toArray,List.map_cons,List.map_nil,e72,e76] <;> rfl)) ((HRtL.out w (HGW.out _ (by_trans HP.out.by_ hC.by_))).mono fun e w' ⟨v,he,ro⟩=>⟨_,he,Gr.RB.grow ro.grow,own_base ro.own hC.by_.size⟩)
        refine Flow.Ones.cons ?_ ?_
        ·rintro a w hC hoff ⟨k6,-⟩
         have e71:(fun v w=>w.ownsRow wr.heap.size 73 2 v TS.length (TS.flatMap Gr.tcells)∧(F=true→Gr.Gm w B (.slice a0 g.np c0) (.slice a1 g.nm c1) (.slice an nl cn) (.slice ae i ce) (.slice al L.length cl) g L (Gr.err true 0))) (a.eval (.tmp 71)) w:=k6 71 rfl
         refine .inl ⟨Flow.want_none rfl,?_⟩
         exact Flow.run_val (Flow.exec_move (.inr rfl) rfl) (Gr.RB.refl _) e71
        refine Flow.Ones.cons ?_ ?_
        ·rintro a w hC hoff ⟨k12,-⟩
         have e77:(fun v w=>w.ownsRow wr.heap.size 85 66 v TS.length (TS.flatMap Gr.rc)) (a.eval (.tmp 77)) w:=k12 77 rfl
         refine .inl ⟨Flow.want_none rfl,?_⟩
         exact Flow.run_val (Flow.exec_move (.inr rfl) rfl) (Gr.RB.refl _) e77
        exact trivial
       case stab15 =>
        simp only [Flow.Stable,and_true]
        exact ⟨fun v w w' hR ⟨h1,h2⟩=>⟨own_by h1 hR.by_ HBl.out,fun e=>hR.wrong (h2 e)⟩,fun v w w' hR h=>own_by h hR.by_ HBl.out,fun v w w' hR ⟨h1,h2⟩=>⟨own_by h1 hR.by_ HBl.out,fun e=>hR.wrong (h2 e)⟩,fun v w w' hR h=>own_by h hR.by_ HBl.out⟩
       case ends15 =>
        intro wx hC
        simp only [Flow.ends]
        rintro v71 _ v77 _ v12 ⟨ho12,hb12⟩ v13 ho13
        simp only [Act.put,List.setIfInBounds_toArray,List.set_cons_succ,List.set_cons_zero]
        have HPx:=Lib.hid (HP.out.rb HBn.out hC (hC.done (HP.out.gm HGm.out) hb12))
        obtain ⟨ga,gc,rfl⟩:=own_form ho12
        obtain ⟨wa,wc,rfl⟩:=own_form ho13
        have HGo:=Lib.hid ho12
        have HWo:=Lib.hid ho13
        clear hC ho12 hb12 ho13 hl hl64
        have HTn:=HTlL.out.1
        have hm4:nl * 4096≤1000 * 4096:=Nat.mul_le_mul_right _ hns
        generalize hmm:TS.length=m at *
        have Hmm:=Lib.hid hmm
        clear hmm
        have hll2:ls.length≤1+1000 * (1000 * 4096):=Nat.le_trans hll (by have:=Nat.mul_le_mul (show n≤1000 by omega) hm4;omega)
        go_wp2_with fail
        go_loopw [9,10,14] (fun vo vb vk wk=>∃ (k:Nat) (lt:List (List Bool)),k≤m∧vk=.int .i64 k∧vb=.bool (u || Gr.bad (TS.take k))∧lt.length≤ls.length+k∧Hid (∀ l∈lt,l.length=64)∧Hid (Gr.PS w2 wk B (.slice a0 g.np c0) (.slice a1 g.nm c1) (.slice an nl cn) (.slice ae i ce) (.slice al L.length cl) (u || F) vo lt)∧Hid (wk.ownsRow wr.heap.size 73 2 (.slice ga m gc) m (TS.flatMap Gr.tcells))∧Hid (wk.ownsRow wr.heap.size 85 66 (.slice wa m wc) m (TS.flatMap Gr.rc))) (fun _ _ vk _=>m - (intOf vk).toNat)
        case atStart=>exact ⟨0,ls,by omega,rfl,by simp [Gr.bad],by omega,HLs,HPx,HGo,HWo⟩
        case round =>
         have Hgm:=Lib.hid hgm
         clear HPx HGo HWo HP HRB HRg HTuL HRtL hgo d1 d1' d2 d2' hgm
         obtain ⟨k,lt,hk,rfl,rfl,hlt,HLt,HPk,HGk,HWk⟩:=hrel
         rename World=>wk
         obtain ⟨va,hva⟩:∃ va,va=u9:=⟨_,rfl⟩
         obtain ⟨ta,tc,hta⟩:=own_form HPk.out.own
         subst hta
         clear hva
         by_cases hkm:k < m
         ·obtain ⟨gb,rfl⟩:=own_at HGk.out (by omega)
          obtain ⟨wb,rfl⟩:=own_at HWk.out (by omega)
          obtain ⟨x,hx⟩:∃ x,TS[k]? = some x:=⟨_,List.getElem?_eq_getElem (by rw [Hmm.out];exact hkm)⟩
          have hx64:=HTlL.out.2 x (List.mem_of_getElem? hx)
          have HBk:=Lib.hid (Gr.bad_take TS k x hx)
          have r1:=own_range (f:=Gr.tcells) (fun _=>rfl) HGk.out hx
          have r2:=own_range (f:=Gr.rc) Gr.rc_len HWk.out hx
          obtain ⟨lab,tl,tb⟩:=x
          simp only at hx64 HBk
          have g0:wk.cell? ⟨gb,k * 2,none⟩=some (.int .i64 lab):=r1 0 _ rfl
          have g1:wk.cell? ⟨gb,k * 2+1,none⟩=some (.int .u64 (Mark.ofBools tl:Int)):=r1 1 _ rfl
          have h0:wk.cell? ⟨wb,k * 66,none⟩=some (.int .i64 lab):=r2 0 _ rfl
          have r3:wk.rangeAt wb (k * 66+1) (Gr.kc (tl,tb)):=range_right (xs:=[.int .i64 lab]) r2
          rw [kc_split (t:=(tl,tb)) hx64] at r3
          have r4:=range_right r3
          have h65:wk.cell? ⟨wb,k * 66+1+64,none⟩=some (.bool tb):=by
           have k0:=r4 0 (.bool tb) rfl
           rw [List.length_map,Nat.add_zero] at k0
           rw [← hx64]
           exact k0
          have HR3:Hid (wk.rangeAt wb (k * 66+1) (Gr.tcs (tl,tb)).toList):=Lib.hid (by
           have k0:=kc_split (t:=(tl,tb)) hx64
           rw [← Gr.kc_eq (t:=(tl,tb)) hx64,k0]
           exact r3)
          have HR4:Hid (wk.rangeAt wb (k * 66+1) (tl.map Value.bool)):=Lib.hid (range_left r3)
          have HSx:=Lib.hid (tk_sz (t:=(tl,tb)) hx64)
          have Hx64:=Lib.hid hx64
          clear r1 r2 r3 r4 hx hx64
          obtain ⟨ub,hub⟩:∃ ub,ub=(u || Gr.bad (TS.take k)):=⟨_,rfl⟩
          have HUb:Hid ((u || Gr.bad (TS.take (k+1)))=(ub || tb)):=Lib.hid (by rw [HBk.out,hub,Bool.or_assoc])
          rw [← hub]
          clear hub HBk
          have hcut:∀ P:Prop,(ub=true→P)→(ub=false→P)→P:=fun P a b=>by cases ub <;> simp_all
          refine hcut _ (fun e=>?_) (fun e=>?_)
          ·subst e
           have HUc:Hid ((u || Gr.bad (TS.take (k+1)))=true):=Lib.hid (by rw [HUb.out];rfl)
           clear hcut HUb
           go_upto_region 22 with fail
           clear h65
           refine Flow.region_grown (Fs:=[.inl ((.slice (some ⟨gb,0,none⟩) m gc)),.inl ((.int .i64 (k:Int))),.inl ((.pointer (some ⟨gb,k * 2,none⟩))),.inl ((.pointer (some ⟨gb,k * 2,none⟩))),.inl ((.int .i64 lab)),.inl ((.slice (some ⟨wb,0,none⟩) m wc)),.inl ((.int .i64 (k:Int))),.inl ((.pointer (some ⟨wb,k * 66,none⟩))),.inl ((.pointer (some ⟨wb,k * 66,none⟩))),.inl ((.int .i64 lab)),.inl ((.bool false)),.inl ((.bool false)),.inl ((.slice (some ⟨gb,0,none⟩) m gc)),.inl ((.int .i64 (k:Int))),.inl ((.pointer (some ⟨gb,k * 2,none⟩))),.inl ((.pointer (some ⟨gb,k * 2+1,none⟩))),.inl ((.int .u64 (Mark.ofBools tl:Int))),.inl ((.slice (some ⟨wb,0,none⟩) m wc)),.inl ((.int .i64 (k:Int))),.inl ((.pointer (some ⟨wb,k * 66,none⟩))),.inl ((.pointer (some ⟨wb,k * 66+1,none⟩))),.inl ((.agg (Gr.tcs (tl,tb)))),.inl ((.int .u64 (Mark.ofBools tl:Int))),.inl ((.bool false)),.inl ((.bool false))])
            (S:=[[],[],[0,1],[2],[3],[],[],[5,6],[7],[8],[4,9],[10],[11],[11],[12,13,11],[14,11],[15,11],[11],[11],[17,18,11],[19,11],[20,11],[21,11],[16,22,11],[11,23]]) (by kernel_rfl) (by kernel_rfl) (by kernel_rfl) rfl ?stab22 ?ones22 ?ends22
           case ones22 =>
            refine Flow.Ones.cons ?_ ?_
            ·intro a w hC hoff _
             have e12:a.eval (.tmp 12)=(.slice (some ⟨gb,0,none⟩) m gc):=hoff.at 12 (by kernel_rfl)
             refine .inl ⟨Flow.want_none rfl,?_⟩
             exact Flow.run_same (Flow.exec_move (.inl rfl) e12) Flow.grow_refl
            refine Flow.Ones.cons ?_ ?_
            ·intro a w hC hoff _
             have e14:a.eval (.tmp 14)=(.int .i64 (k:Int)):=hoff.at 14 (by kernel_rfl)
             refine .inl ⟨Flow.want_none rfl,?_⟩
             exact Flow.run_same (Flow.exec_move (.inl rfl) e14) Flow.grow_refl
            refine Flow.Ones.cons ?_ ?_
            ·rintro a w hC hoff ⟨k0,k1,-⟩
             have e98:a.eval (.tmp 98)=(.slice (some ⟨gb,0,none⟩) m gc):=k0 98 rfl
             have e99:a.eval (.tmp 99)=(.int .i64 (k:Int)):=k1 99 rfl
             refine .inl ⟨Flow.want_none rfl,?_⟩
             refine Flow.run_same ?_ Flow.grow_refl
             have ec:=Flow.eval_const a
             generalize a.eval=ρ at e98 e99 ec ⊢
             simp [execOp,e98,e99,go_sem];intro hh;omega
            refine Flow.Ones.cons ?_ ?_
            ·rintro a w hC hoff ⟨k2,-⟩
             have e100:a.eval (.tmp 100)=(.pointer (some ⟨gb,k * 2,none⟩)):=k2 100 rfl
             refine .inl ⟨Flow.want_none rfl,?_⟩
             refine Flow.run_same ?_ Flow.grow_refl
             have ec:=Flow.eval_const a
             generalize a.eval=ρ at e100 ec ⊢
             simp [execOp,e100,go_sem]
            refine Flow.Ones.cons ?_ ?_
            ·rintro a w hC hoff ⟨k3,-⟩
             have e101:a.eval (.tmp 101)=(.pointer (some ⟨gb,k * 2,none⟩)):=k3 101 rfl
             refine .inl ⟨Flow.want_none rfl,?_⟩
             refine Flow.run_same ?_ Flow.grow_refl
             have ec:=Flow.eval_const a
             generalize a.eval=ρ at e101 ec ⊢
             have h0:=Xm2.cell_grow hC g0
             simp [execOp,e101,h0,go_sem]
            refine Flow.Ones.cons ?_ ?_
            ·intro a w hC hoff _
             have e13:a.eval (.tmp 13)=(.slice (some ⟨wb,0,none⟩) m wc):=hoff.at 13 (by kernel_rfl)
             refine .inl ⟨Flow.want_none rfl,?_⟩
             exact Flow.run_same (Flow.exec_move (.inl rfl) e13) Flow.grow_refl
            refine Flow.Ones.cons ?_ ?_
            ·intro a w hC hoff _
             have e14:a.eval (.tmp 14)=(.int .i64 (k:Int)):=hoff.at 14 (by kernel_rfl)
             refine .inl ⟨Flow.want_none rfl,?_⟩
             exact Flow.run_same (Flow.exec_move (.inl rfl) e14) Flow.grow_refl
            refine Flow.Ones.cons ?_ ?_
            ·rintro a w hC hoff ⟨k5,k6,-⟩
             have e103:a.eval (.tmp 103)=(.slice (some ⟨wb,0,none⟩) m wc):=k5 103 rfl
             have e104:a.eval (.tmp 104)=(.int .i64 (k:Int)):=k6 104 rfl
             refine .inl ⟨Flow.want_none rfl,?_⟩
             refine Flow.run_same ?_ Flow.grow_refl
             have ec:=Flow.eval_const a
             generalize a.eval=ρ at e103 e104 ec ⊢
             simp [execOp,e103,e104,go_sem];intro hh;omega
            refine Flow.Ones.cons ?_ ?_
            ·rintro a w hC hoff ⟨k7,-⟩
             have e105:a.eval (.tmp 105)=(.pointer (some ⟨wb,k * 66,none⟩)):=k7 105 rfl
             refine .inl ⟨Flow.want_none rfl,?_⟩
             refine Flow.run_same ?_ Flow.grow_refl
             have ec:=Flow.eval_const a
             generalize a.eval=ρ at e105 ec ⊢
             simp [execOp,e105,go_sem]
            refine Flow.Ones.cons ?_ ?_
            ·rintro a w hC hoff ⟨k8,-⟩
             have e106:a.eval (.tmp 106)=(.pointer (some ⟨wb,k * 66,none⟩)):=k8 106 rfl
             refine .inl ⟨Flow.want_none rfl,?_⟩
             refine Flow.run_same ?_ Flow.grow_refl
             have ec:=Flow.eval_const a
             generalize a.eval=ρ at e106 ec ⊢
             have h1:=Xm2.cell_grow hC h0
             simp [execOp,e106,h1,go_sem]
            refine Flow.Ones.cons ?_ ?_
            ·rintro a w hC hoff ⟨k4,k9,-⟩
             have e102:a.eval (.tmp 102)=(.int .i64 lab):=k4 102 rfl
             have e107:a.eval (.tmp 107)=(.int .i64 lab):=k9 107 rfl
             refine .inl ⟨Flow.want_none rfl,?_⟩
             refine Flow.run_same ?_ Flow.grow_refl
             have ec:=Flow.eval_const a
             generalize a.eval=ρ at e102 e107 ec ⊢
             simp [execOp,e102,e107,go_sem]
            refine Flow.Ones.cons ?_ ?_
            ·rintro a w hC hoff ⟨k10,-⟩
             have e108:a.eval (.tmp 108)=(.bool false):=k10 108 rfl
             refine .inl ⟨Flow.want_none rfl,?_⟩
             exact Flow.run_same (Flow.exec_move (.inl rfl) e108) Flow.grow_refl
            refine Flow.Ones.cons ?_ ?_
            ·rintro a w hC hoff ⟨k11,-⟩
             have e109:a.eval (.tmp 109)=(.bool false):=k11 109 rfl
             have e12:a.eval (.tmp 12)=(.slice (some ⟨gb,0,none⟩) m gc):=hoff.at 12 (by kernel_rfl)
             refine .inl ⟨Flow.want_yes rfl rfl e109,?_⟩
             exact Flow.run_same (Flow.exec_move (.inl rfl) e12) Flow.grow_refl
            refine Flow.Ones.cons ?_ ?_
            ·rintro a w hC hoff ⟨k11,-⟩
             have e109:a.eval (.tmp 109)=(.bool false):=k11 109 rfl
             have e14:a.eval (.tmp 14)=(.int .i64 (k:Int)):=hoff.at 14 (by kernel_rfl)
             refine .inl ⟨Flow.want_yes rfl rfl e109,?_⟩
             exact Flow.run_same (Flow.exec_move (.inl rfl) e14) Flow.grow_refl
            refine Flow.Ones.cons ?_ ?_
            ·rintro a w hC hoff ⟨k12,k13,k11,-⟩
             have e110:a.eval (.tmp 110)=(.slice (some ⟨gb,0,none⟩) m gc):=k12 110 rfl
             have e111:a.eval (.tmp 111)=(.int .i64 (k:Int)):=k13 111 rfl
             have e109:a.eval (.tmp 109)=(.bool false):=k11 109 rfl
             refine .inl ⟨Flow.want_yes rfl rfl e109,?_⟩
             refine Flow.run_same ?_ Flow.grow_refl
             have ec:=Flow.eval_const a
             generalize a.eval=ρ at e110 e111 ec ⊢
             simp [execOp,e110,e111,go_sem];intro hh;omega
            refine Flow.Ones.cons ?_ ?_
            ·rintro a w hC hoff ⟨k14,k11,-⟩
             have e112:a.eval (.tmp 112)=(.pointer (some ⟨gb,k * 2,none⟩)):=k14 112 rfl
             have e109:a.eval (.tmp 109)=(.bool false):=k11 109 rfl
             refine .inl ⟨Flow.want_yes rfl rfl e109,?_⟩
             refine Flow.run_same ?_ Flow.grow_refl
             have ec:=Flow.eval_const a
             generalize a.eval=ρ at e112 ec ⊢
             simp [execOp,e112,go_sem]
            refine Flow.Ones.cons ?_ ?_
            ·rintro a w hC hoff ⟨k15,k11,-⟩
             have e113:a.eval (.tmp 113)=(.pointer (some ⟨gb,k * 2+1,none⟩)):=k15 113 rfl
             have e109:a.eval (.tmp 109)=(.bool false):=k11 109 rfl
             refine .inl ⟨Flow.want_yes rfl rfl e109,?_⟩
             refine Flow.run_same ?_ Flow.grow_refl
             have ec:=Flow.eval_const a
             generalize a.eval=ρ at e113 ec ⊢
             have h1:=Xm2.cell_grow hC g1
             simp [execOp,e113,h1,go_sem]
            refine Flow.Ones.cons ?_ ?_
            ·rintro a w hC hoff ⟨k11,-⟩
             have e109:a.eval (.tmp 109)=(.bool false):=k11 109 rfl
             have e13:a.eval (.tmp 13)=(.slice (some ⟨wb,0,none⟩) m wc):=hoff.at 13 (by kernel_rfl)
             refine .inl ⟨Flow.want_yes rfl rfl e109,?_⟩
             exact Flow.run_same (Flow.exec_move (.inl rfl) e13) Flow.grow_refl
            refine Flow.Ones.cons ?_ ?_
            ·rintro a w hC hoff ⟨k11,-⟩
             have e109:a.eval (.tmp 109)=(.bool false):=k11 109 rfl
             have e14:a.eval (.tmp 14)=(.int .i64 (k:Int)):=hoff.at 14 (by kernel_rfl)
             refine .inl ⟨Flow.want_yes rfl rfl e109,?_⟩
             exact Flow.run_same (Flow.exec_move (.inl rfl) e14) Flow.grow_refl
            refine Flow.Ones.cons ?_ ?_
            ·rintro a w hC hoff ⟨k17,k18,k11,-⟩
             have e115:a.eval (.tmp 115)=(.slice (some ⟨wb,0,none⟩) m wc):=k17 115 rfl
             have e116:a.eval (.tmp 116)=(.int .i64 (k:Int)):=k18 116 rfl
             have e109:a.eval (.tmp 109)=(.bool false):=k11 109 rfl
             refine .inl ⟨Flow.want_yes rfl rfl e109,?_⟩
             refine Flow.run_same ?_ Flow.grow_refl
             have ec:=Flow.eval_const a
             generalize a.eval=ρ at e115 e116 ec ⊢
             simp [execOp,e115,e116,go_sem];intro hh;omega
            refine Flow.Ones.cons ?_ ?_
            ·rintro a w hC hoff ⟨k19,k11,-⟩
             have e117:a.eval (.tmp 117)=(.pointer (some ⟨wb,k * 66,none⟩)):=k19 117 rfl
             have e109:a.eval (.tmp 109)=(.bool false):=k11 109 rfl
             refine .inl ⟨Flow.want_yes rfl rfl e109,?_⟩
             refine Flow.run_same ?_ Flow.grow_refl
             have ec:=Flow.eval_const a
             generalize a.eval=ρ at e117 ec ⊢
             simp [execOp,e117,go_sem]
            refine Flow.Ones.cons ?_ ?_
            ·rintro a w hC hoff ⟨k20,k11,-⟩
             have e118:a.eval (.tmp 118)=(.pointer (some ⟨wb,k * 66+1,none⟩)):=k20 118 rfl
             have e109:a.eval (.tmp 109)=(.bool false):=k11 109 rfl
             refine .inl ⟨Flow.want_yes rfl rfl e109,?_⟩
             refine Flow.run_same ?_ Flow.grow_refl
             have ec:=Flow.eval_const a
             generalize a.eval=ρ at e118 ec ⊢
             exact exec_load_mid 80 _ rfl wb (k * 66+1) e118 (Gr.tcs (tl,tb)).toList _ (range_grow HR3.out hC) Try.underlying80 rfl (by rw [Array.length_toList];exact HSx.out.1)
            refine Flow.Ones.cons ?_ ?_
            ·rintro a w hC hoff ⟨k21,k11,-⟩
             have e119:a.eval (.tmp 119)=(.agg (Gr.tcs (tl,tb))):=k21 119 rfl
             have e109:a.eval (.tmp 109)=(.bool false):=k11 109 rfl
             refine .inl ⟨Flow.want_yes rfl rfl e109,?_⟩
             exact Flow.run_call (Flow.exec_call (args:=#[((.agg (Gr.tcs (tl,tb))))]) rfl Try.func31 (by kernel_rfl) (by kernel_rfl) (by simp only [List.map_toArray,List.map_cons,List.map_nil,e119] <;> rfl)) ((HMk.out w (tl,tb) Hx64.out).mono fun e w' ⟨he,hg⟩=>⟨_,he,hg,rfl⟩)
            refine Flow.Ones.cons ?_ ?_
            ·rintro a w hC hoff ⟨k16,k22,k11,-⟩
             have e114:a.eval (.tmp 114)=(.int .u64 (Mark.ofBools tl:Int)):=k16 114 rfl
             have e120:a.eval (.tmp 120)=(.int .u64 (Mark.ofBools tl:Int)):=k22 120 rfl
             have e109:a.eval (.tmp 109)=(.bool false):=k11 109 rfl
             refine .inl ⟨Flow.want_yes rfl rfl e109,?_⟩
             refine Flow.run_same ?_ Flow.grow_refl
             have ec:=Flow.eval_const a
             generalize a.eval=ρ at e114 e120 ec ⊢
             simp [execOp,e114,e120,go_sem]
            refine Flow.Ones.cons ?_ ?_
            ·rintro a w hC hoff ⟨k11,k23,-⟩
             have e109:a.eval (.tmp 109)=(.bool false):=k11 109 rfl
             have e121:a.eval (.tmp 121)=(.bool false):=k23 121 rfl
             refine .inl ⟨Flow.want_none rfl,?_⟩
             exact Flow.run_same (Flow.exec_pick_no rfl e109 e121) Flow.grow_refl
            exact trivial
           case stab22=>exact trivial
           case ends22 =>
            intro w5 hg
            simp only [Flow.ends]
            simp only [Act.put,List.setIfInBounds_toArray,List.set_cons_succ,List.set_cons_zero]
            have HG5:=Lib.hid hg
            have HP5:=Lib.hid (HPk.out.keep hg)
            clear hg g0 g1 h0
            go_wp2_with fail
            go_loopw [15,16] (fun vs vj wy=>∃ (j:Nat) (b:Bool),j≤lt.length∧vj=.int .i64 j∧vs=.bool b∧Hid (Flow.Grow w5 wy)) (fun _ vj _=>lt.length - (intOf vj).toNat)
            case atStart=>exact ⟨0,false,by omega,rfl,rfl,Lib.hid (Flow.grow_refl _)⟩
            case round =>
             obtain ⟨j,b,hj,rfl,rfl,HGq⟩:=hrel
             rename World=>wy
             have HGq5:Hid (Flow.Grow wk wy):=Lib.hid (HG5.out.trans HGq.out)
             by_cases hjl:j < lt.length
             ·obtain ⟨lj,hlx⟩:∃ l,lt[j]? = some l:=⟨_,List.getElem?_eq_getElem hjl⟩
              have hlj:=HLt.out lj (List.mem_of_getElem? hlx)
              have hownq:=own_keep HPk.out.own HGq5.out
              obtain ⟨tq,rfl⟩:=own_at hownq (by omega)
              have rj0:=own_range (f:=fun l=>Gr.kc (l,false)) (fun l=>Gr.kc_len _) hownq hlx
              rw [kc_split (t:=(lj,false)) hlj] at rj0
              have rj:=range_left rj0
              clear rj0 hlx hownq
              cases b with
              | true =>
               go_upto_region 28 with fail
               refine Flow.regionG (C:=fun _ wq=>Flow.Grow wy wq) (Fs:=[.inl ((.bool true)),.inl ((.bool true)),.inl (undef),.inl (undef),.inl (undef),.inl (undef),.inl (undef),.inl (undef),.inl (undef),.inl (undef),.inl (undef),.inl (undef),.inl (undef),.inl (undef),.inl ((.bool true)),.inl ((.bool true))])
                [[],[0],[1],[1],[2,3,1],[4,1],[5,1],[1],[1],[7,8,1],[9,1],[10,1],[11,1],[6,12,1],[1,13],[14]] [[],[0],[0,1],[0,1],[0,1,2,3],[0,1,2,3,4],[0,1,2,3,4,5],[0,1],[0,1],[0,1,7,8],[0,1,7,8,9],[0,1,7,8,9,10],[0,1,7,8,9,10,11],[0,1,2,3,4,5,6,7,8,9,10,11,12],[0,1,2,3,4,5,6,7,8,9,10,11,12,13],[0,1,2,3,4,5,6,7,8,9,10,11,12,13,14]] [] (by kernel_rfl) (by kernel_rfl) (by kernel_rfl) rfl (Flow.grow_drew _) ?ones28 ?ends28
               case ones28 =>
                refine Flow.OnesG.start (by exact trivial) (fun L w w' i=>(fun _ _ h g=>h.trans g) w w') fun HST HCG=>?_
                refine Flow.oq rfl HST HCG ?_ ?_
                ·intro L a w hC hLi hoff _
                 exact Flow.gs rfl (Flow.exec_move (.inl rfl) (hoff.at2 15 0 hLi (by kernel_rfl)))
                refine Flow.oq rfl HST HCG ?_ ?_
                ·rintro L a w hC hLi hoff ⟨k0,-⟩
                 have e129:=Flow.kv k0 rfl rfl
                 exact Flow.gs rfl (Flow.exec_move (.inl rfl) e129)
                refine Flow.oq rfl HST HCG ?_ ?_
                ·rintro L a w hC hLi hoff ⟨k1,-⟩
                 have e130:=Flow.kv k1 rfl rfl
                 have e9:a.eval (.tmp 9)=(.slice (some ⟨tq,0,none⟩) lt.length tc):=hoff.at2 9 2 hLi (by kernel_rfl)
                 exact .inr ⟨Flow.want_no rfl rfl e130,rfl⟩
                refine Flow.oq rfl HST HCG ?_ ?_
                ·rintro L a w hC hLi hoff ⟨k1,-⟩
                 have e130:=Flow.kv k1 rfl rfl
                 have e16:a.eval (.tmp 16)=(.int .i64 (j:Int)):=hoff.at2 16 3 hLi (by kernel_rfl)
                 exact .inr ⟨Flow.want_no rfl rfl e130,rfl⟩
                refine Flow.oq rfl HST HCG ?_ ?_
                ·rintro L a w hC hLi hoff ⟨k2,k3,k1,-⟩
                 have e131:=Flow.kv k2 rfl rfl
                 have e132:=Flow.kv k3 rfl rfl
                 have e130:=Flow.kv k1 rfl rfl
                 exact .inr ⟨Flow.want_no rfl rfl e130,rfl⟩
                refine Flow.oq rfl HST HCG ?_ ?_
                ·rintro L a w hC hLi hoff ⟨k4,k1,-⟩
                 have e133:=Flow.kv k4 rfl rfl
                 have e130:=Flow.kv k1 rfl rfl
                 exact .inr ⟨Flow.want_no rfl rfl e130,rfl⟩
                refine Flow.oq rfl HST HCG ?_ ?_
                ·rintro L a w hC hLi hoff ⟨k5,k1,-⟩
                 have e134:=Flow.kv k5 rfl rfl
                 have e130:=Flow.kv k1 rfl rfl
                 exact .inr ⟨Flow.want_no rfl rfl e130,rfl⟩
                refine Flow.oq rfl HST HCG ?_ ?_
                ·rintro L a w hC hLi hoff ⟨k1,-⟩
                 have e130:=Flow.kv k1 rfl rfl
                 have e13:a.eval (.tmp 13)=(.slice (some ⟨wb,0,none⟩) m wc):=hoff.at2 13 7 hLi (by kernel_rfl)
                 exact .inr ⟨Flow.want_no rfl rfl e130,rfl⟩
                refine Flow.oq rfl HST HCG ?_ ?_
                ·rintro L a w hC hLi hoff ⟨k1,-⟩
                 have e130:=Flow.kv k1 rfl rfl
                 have e14:a.eval (.tmp 14)=(.int .i64 (k:Int)):=hoff.at2 14 8 hLi (by kernel_rfl)
                 exact .inr ⟨Flow.want_no rfl rfl e130,rfl⟩
                refine Flow.oq rfl HST HCG ?_ ?_
                ·rintro L a w hC hLi hoff ⟨k7,k8,k1,-⟩
                 have e136:=Flow.kv k7 rfl rfl
                 have e137:=Flow.kv k8 rfl rfl
                 have e130:=Flow.kv k1 rfl rfl
                 exact .inr ⟨Flow.want_no rfl rfl e130,rfl⟩
                refine Flow.oq rfl HST HCG ?_ ?_
                ·rintro L a w hC hLi hoff ⟨k9,k1,-⟩
                 have e138:=Flow.kv k9 rfl rfl
                 have e130:=Flow.kv k1 rfl rfl
                 exact .inr ⟨Flow.want_no rfl rfl e130,rfl⟩
                refine Flow.oq rfl HST HCG ?_ ?_
                ·rintro L a w hC hLi hoff ⟨k10,k1,-⟩
                 have e139:=Flow.kv k10 rfl rfl
                 have e130:=Flow.kv k1 rfl rfl
                 exact .inr ⟨Flow.want_no rfl rfl e130,rfl⟩
                refine Flow.oq rfl HST HCG ?_ ?_
                ·rintro L a w hC hLi hoff ⟨k11,k1,-⟩
                 have e140:=Flow.kv k11 rfl rfl
                 have e130:=Flow.kv k1 rfl rfl
                 exact .inr ⟨Flow.want_no rfl rfl e130,rfl⟩
                refine Flow.oq rfl HST HCG ?_ ?_
                ·rintro L a w hC hLi hoff ⟨k6,k12,k1,-⟩
                 have e135:=Flow.kv k6 rfl rfl
                 have e141:=Flow.kv k12 rfl rfl
                 have e130:=Flow.kv k1 rfl rfl
                 exact .inr ⟨Flow.want_no rfl rfl e130,rfl⟩
                refine Flow.oq rfl HST HCG ?_ ?_
                ·rintro L a w hC hLi hoff ⟨k1,k13,-⟩
                 have e130:=Flow.kv k1 rfl rfl
                 have e142:=Flow.kv k13 rfl rfl
                 exact Flow.gs rfl (Flow.exec_pick_yes rfl e130 rfl)
                refine Flow.oq rfl HST HCG ?_ ?_
                ·rintro L a w hC hLi hoff ⟨k14,-⟩
                 have e143:=Flow.kv k14 rfl rfl
                 exact Flow.gs rfl (Flow.exec_move (.inr rfl) e143)
                exact trivial
               case ends28 =>
                intro LL wx hLL hC
                iterate 16 refine Flow.endsG_v rfl ?_
                refine Flow.endsG_nil ?_
                simp only [Act.put,List.setIfInBounds_toArray,List.set_cons_succ,List.set_cons_zero]
                have HG6:=Lib.hid (HGq.out.trans hC)
                clear hC rj
                go_wp2_with fail
                go_roundw
                case rel=>exact ⟨j+1,true,by omega,by go_num,rfl,HG6⟩
                case measure=>simp [intOf];omega
              | false =>
               go_upto_region 28 with fail
               refine Flow.regionG (C:=fun _ wq=>Flow.Grow wy wq) (Fs:=[.inl ((.bool false)),.inl ((.bool false)),.inl ((.slice (some ⟨tq,0,none⟩) lt.length tc)),.inl ((.int .i64 (j:Int))),.inl ((.pointer (some ⟨tq,j * 65,none⟩))),.inl ((.pointer (some ⟨tq,j * 65,none⟩))),.inl ((.agg (Gr.bc lj))),.inl ((.slice (some ⟨wb,0,none⟩) m wc)),.inl ((.int .i64 (k:Int))),.inl ((.pointer (some ⟨wb,k * 66,none⟩))),.inl ((.pointer (some ⟨wb,k * 66+1,none⟩))),.inl ((.pointer (some ⟨wb,k * 66+1,none⟩))),.inl ((.agg (Gr.bc tl))),.inr (fun v _=>∃ b,v=.bool b),.inr (fun v _=>∃ b,v=.bool b),.inr (fun v _=>∃ b,v=.bool b)])
                [[],[0],[1],[1],[2,3,1],[4,1],[5,1],[1],[1],[7,8,1],[9,1],[10,1],[11,1],[6,12,1],[1,13],[14]] [[],[0],[0,1],[0,1],[0,1,2,3],[0,1,2,3,4],[0,1,2,3,4,5],[0,1],[0,1],[0,1,7,8],[0,1,7,8,9],[0,1,7,8,9,10],[0,1,7,8,9,10,11],[0,1,2,3,4,5,6,7,8,9,10,11,12],[0,1,2,3,4,5,6,7,8,9,10,11,12,13],[0,1,2,3,4,5,6,7,8,9,10,11,12,13,14]] [15] (by kernel_rfl) (by kernel_rfl) (by kernel_rfl) rfl (Flow.grow_drew _) ?ones28 ?ends28
               case ones28 =>
                refine Flow.OnesG.start (by exact ⟨fun _ _ _ _ h=>h,fun _ _ _ _ h=>h,fun _ _ _ _ h=>h,trivial⟩) (fun L w w' i=>(fun _ _ h g=>h.trans g) w w') fun HST HCG=>?_
                refine Flow.oq rfl HST HCG ?_ ?_
                ·intro L a w hC hLi hoff _
                 exact Flow.gs rfl (Flow.exec_move (.inl rfl) (hoff.at2 15 0 hLi (by kernel_rfl)))
                refine Flow.oq rfl HST HCG ?_ ?_
                ·rintro L a w hC hLi hoff ⟨k0,-⟩
                 have e129:=Flow.kv k0 rfl rfl
                 exact Flow.gs rfl (Flow.exec_move (.inl rfl) e129)
                refine Flow.oq rfl HST HCG ?_ ?_
                ·rintro L a w hC hLi hoff ⟨k1,-⟩
                 have e130:=Flow.kv k1 rfl rfl
                 have e9:a.eval (.tmp 9)=(.slice (some ⟨tq,0,none⟩) lt.length tc):=hoff.at2 9 2 hLi (by kernel_rfl)
                 exact Flow.gy rfl rfl e130 (Flow.exec_move (.inl rfl) e9)
                refine Flow.oq rfl HST HCG ?_ ?_
                ·rintro L a w hC hLi hoff ⟨k1,-⟩
                 have e130:=Flow.kv k1 rfl rfl
                 have e16:a.eval (.tmp 16)=(.int .i64 (j:Int)):=hoff.at2 16 3 hLi (by kernel_rfl)
                 exact Flow.gy rfl rfl e130 (Flow.exec_move (.inl rfl) e16)
                refine Flow.oq rfl HST HCG ?_ ?_
                ·rintro L a w hC hLi hoff ⟨k2,k3,k1,-⟩
                 have e131:=Flow.kv k2 rfl rfl
                 have e132:=Flow.kv k3 rfl rfl
                 have e130:=Flow.kv k1 rfl rfl
                 refine Flow.gy rfl rfl e130 ?_
                 generalize a.eval=ρ at e131 e132 ⊢
                 simp [execOp,e131,e132,go_sem];intro hh;omega
                refine Flow.oq rfl HST HCG ?_ ?_
                ·rintro L a w hC hLi hoff ⟨k4,k1,-⟩
                 have e133:=Flow.kv k4 rfl rfl
                 have e130:=Flow.kv k1 rfl rfl
                 refine Flow.gy rfl rfl e130 ?_
                 generalize a.eval=ρ at e133 ⊢
                 simp [execOp,e133,go_sem]
                refine Flow.oq rfl HST HCG ?_ ?_
                ·rintro L a w hC hLi hoff ⟨k5,k1,-⟩
                 have e134:=Flow.kv k5 rfl rfl
                 have e130:=Flow.kv k1 rfl rfl
                 refine Flow.gy rfl rfl e130 ?_
                 generalize a.eval=ρ at e134 ⊢
                 exact exec_load_mid 78 _ rfl tq (j * 65) e134 (lj.map Value.bool) _ (range_grow rj hC) Try.underlying78 rfl (by rw [List.length_map,hlj];kernel_rfl)
                refine Flow.oq rfl HST HCG ?_ ?_
                ·rintro L a w hC hLi hoff ⟨k1,-⟩
                 have e130:=Flow.kv k1 rfl rfl
                 have e13:a.eval (.tmp 13)=(.slice (some ⟨wb,0,none⟩) m wc):=hoff.at2 13 7 hLi (by kernel_rfl)
                 exact Flow.gy rfl rfl e130 (Flow.exec_move (.inl rfl) e13)
                refine Flow.oq rfl HST HCG ?_ ?_
                ·rintro L a w hC hLi hoff ⟨k1,-⟩
                 have e130:=Flow.kv k1 rfl rfl
                 have e14:a.eval (.tmp 14)=(.int .i64 (k:Int)):=hoff.at2 14 8 hLi (by kernel_rfl)
                 exact Flow.gy rfl rfl e130 (Flow.exec_move (.inl rfl) e14)
                refine Flow.oq rfl HST HCG ?_ ?_
                ·rintro L a w hC hLi hoff ⟨k7,k8,k1,-⟩
                 have e136:=Flow.kv k7 rfl rfl
                 have e137:=Flow.kv k8 rfl rfl
                 have e130:=Flow.kv k1 rfl rfl
                 refine Flow.gy rfl rfl e130 ?_
                 generalize a.eval=ρ at e136 e137 ⊢
                 simp [execOp,e136,e137,go_sem];intro hh;omega
                refine Flow.oq rfl HST HCG ?_ ?_
                ·rintro L a w hC hLi hoff ⟨k9,k1,-⟩
                 have e138:=Flow.kv k9 rfl rfl
                 have e130:=Flow.kv k1 rfl rfl
                 refine Flow.gy rfl rfl e130 ?_
                 generalize a.eval=ρ at e138 ⊢
                 simp [execOp,e138,go_sem]
                refine Flow.oq rfl HST HCG ?_ ?_
                ·rintro L a w hC hLi hoff ⟨k10,k1,-⟩
                 have e139:=Flow.kv k10 rfl rfl
                 have e130:=Flow.kv k1 rfl rfl
                 refine Flow.gy rfl rfl e130 ?_
                 generalize a.eval=ρ at e139 ⊢
                 simp [execOp,e139,go_sem]
                refine Flow.oq rfl HST HCG ?_ ?_
                ·rintro L a w hC hLi hoff ⟨k11,k1,-⟩
                 have e140:=Flow.kv k11 rfl rfl
                 have e130:=Flow.kv k1 rfl rfl
                 refine Flow.gy rfl rfl e130 ?_
                 generalize a.eval=ρ at e140 ⊢
                 exact exec_load_mid 78 _ rfl wb (k * 66+1) e140 (tl.map Value.bool) _ (range_grow HR4.out (HGq5.out.trans hC)) Try.underlying78 rfl (by rw [List.length_map,Hx64.out];kernel_rfl)
                refine Flow.oq rfl HST HCG ?_ ?_
                ·rintro L a w hC hLi hoff ⟨k6,k12,k1,-⟩
                 have e135:=Flow.kv k6 rfl rfl
                 have e141:=Flow.kv k12 rfl rfl
                 have e130:=Flow.kv k1 rfl rfl
                 refine .inl ⟨Flow.want_yes rfl rfl e130,?_⟩
                 obtain ⟨b,hb⟩:=exec_eql_arr (ρ:=a.eval) (w:=w) (.tmp 135) (.tmp 141) hlj Hx64.out e135 e141
                 exact Flow.run_val (hb _ rfl) (Flow.grow_refl _) ⟨b,rfl⟩
                refine Flow.oq rfl HST HCG ?_ ?_
                ·rintro L a w hC hLi hoff ⟨k1,k13,-⟩
                 have e130:=Flow.kv k1 rfl rfl
                 have e142:=Flow.kr k13 rfl rfl
                 refine .inl ⟨Flow.want_none rfl,?_⟩
                 obtain ⟨b,hb⟩:=e142
                 refine Flow.run_val (v:=.bool b) (w':=w) ?_ (Flow.grow_refl _) ⟨b,rfl⟩
                 generalize a.eval=ρ at e130 hb ⊢
                 simp [execOp,e130,hb,go_sem]
                refine Flow.oq rfl HST HCG ?_ ?_
                ·rintro L a w hC hLi hoff ⟨k14,-⟩
                 have e143:=Flow.kr k14 rfl rfl
                 exact .inl ⟨Flow.want_none rfl,Flow.run_val (Flow.exec_move (.inr rfl) rfl) (Flow.grow_refl _) e143⟩
                exact trivial
               case ends28 =>
                intro LL wx hLL hC
                iterate 13 refine Flow.endsG_v rfl ?_
                refine Flow.endsG_r rfl fun v142 _=>?_
                refine Flow.endsG_r rfl fun v143 _=>?_
                refine Flow.endsG_r rfl fun v15 hE15=>?_
                replace hE15:=hE15 rfl
                refine Flow.endsG_nil ?_
                simp only [Act.put,List.setIfInBounds_toArray,List.set_cons_succ,List.set_cons_zero]
                obtain ⟨b,rfl⟩:=hE15
                have HG6:=Lib.hid (HGq.out.trans hC)
                clear hC rj
                go_wp2_with fail
                go_roundw
                case rel=>exact ⟨j+1,b,by omega,by go_num,rfl,HG6⟩
                case measure=>simp [intOf];omega
             ·obtain rfl:j=lt.length:=by omega
              have HPq:=Lib.hid (HPk.out.keep HGq5.out)
              have HGk2:=Lib.hid (own_keep HGk.out HGq5.out)
              have HWk2:=Lib.hid (own_keep HWk.out HGq5.out)
              cases b with
              | true =>
               go_wp2_with fail
               go_roundw
               case rel=>exact ⟨k+1,lt,by omega,by go_num,by rw [HUc.out],by omega,HLt,HPq,HGk2,HWk2⟩
               case measure=>simp [intOf];omega
              | false =>
               have HR5:=Lib.hid (range_grow HR4.out HGq5.out)
               obtain ⟨iK,zK,hiK,hzK,hsK,hbK,hcK⟩:=info_tok
               have HIK:=Lib.hid (And.intro hiK (And.intro hzK (And.intro hsK (And.intro hbK hcK))))
               clear hiK hzK hsK hbK hcK
               have HSt:=Lib.hid (tk_sz (t:=(tl,false)) Hx64.out)
               have HARl:Hid ((Try.prog.info? 78).map (·.size)=some (tl.map Value.bool).length):=Lib.hid (by rw [List.length_map,Hx64.out];kernel_rfl)
               go_wp2_with (first
                | (with_reducible refine wpList_load_mid rfl 78 (.tmp 151) rfl wb (k * 66+1) rfl (tl.map Value.bool) _ HR5.out Try.underlying78 rfl HARl.out ?_)
                | (refine wpList_buildTo rfl 80 _ rfl _ rfl (Gr.tcs (tl,false)) (by simp only [List.map_toArray,List.map_cons,List.map_nil];exact built_tok tl Hx64.out) ?_)
                | (refine wpList_plain rfl fun K hK=>?_;refine Flow.run_wp (exec_slice_tok rfl rfl HSt.out.2.1) ?_;refine hK _ _ ?_)
                | (at_builtin;refine wpList_appB (W:=w2) (B:=B) rfl _ _ 81 rfl 80 iK zK 65 65 Try.underlying81 HIK.out.1 HIK.out.2.1 HIK.out.2.2.1 HIK.out.2.2.2.1 HIK.out.2.2.2.2 (by decide) _ lt.length (lt.flatMap fun l=>Gr.kc (l,false)) rfl (HPq.out.keep (Flow.grow_alloc _ _)).own (HPq.out.keep (Flow.grow_alloc _ _)).by_ _ (Gr.tcs (tl,false)).toList 1 1 rfl (by rw [Array.length_toList,HSt.out.2.1]) (cells_of (heap_alloc_new _ _)) (Gr.tcs_one _) (by decide) (by omega) (by decide) (by decide) ?_;intro v' w6 ho _ hby _;have HP6:=Lib.hid ((HPq.out.keep (Flow.grow_alloc _ _)).app (l:=tl) (by rw [Gr.kc_eq (t:=(tl,false)) Hx64.out];exact ho) hby);have HG6:=Lib.hid (own_liftBy (own_keep HGk2.out (Flow.grow_alloc _ _)) (HPq.out.keep (Flow.grow_alloc _ _)).own (by decide) hby);have HW6:=Lib.hid (own_liftBy (own_keep HWk2.out (Flow.grow_alloc _ _)) (HPq.out.keep (Flow.grow_alloc _ _)).own (by decide) hby);obtain ⟨oz,cz,rfl⟩:=own_form ho;clear ho hby))
               go_roundw
               case rel=>exact ⟨k+1,lt++[tl],by omega,by go_num,by rw [HUc.out],by rw [List.length_append];simp;omega,Lib.hid (by intro l hl;rcases List.mem_append.1 hl with h | h;exact HLt.out l h;simp at h;rw [h];exact Hx64.out),HP6,HG6,HW6⟩
               case measure=>simp [intOf];omega
          ·subst e
           have HUc:Hid ((u || Gr.bad (TS.take (k+1)))=tb):=Lib.hid (by rw [HUb.out];rfl)
           clear hcut HUb
           go_upto_region 22 with fail
           clear h65
           refine Flow.region_grown (Fs:=[.inl ((.slice (some ⟨gb,0,none⟩) m gc)),.inl ((.int .i64 (k:Int))),.inl ((.pointer (some ⟨gb,k * 2,none⟩))),.inl ((.pointer (some ⟨gb,k * 2,none⟩))),.inl ((.int .i64 lab)),.inl ((.slice (some ⟨wb,0,none⟩) m wc)),.inl ((.int .i64 (k:Int))),.inl ((.pointer (some ⟨wb,k * 66,none⟩))),.inl ((.pointer (some ⟨wb,k * 66,none⟩))),.inl ((.int .i64 lab)),.inl ((.bool false)),.inl ((.bool false)),.inl ((.slice (some ⟨gb,0,none⟩) m gc)),.inl ((.int .i64 (k:Int))),.inl ((.pointer (some ⟨gb,k * 2,none⟩))),.inl ((.pointer (some ⟨gb,k * 2+1,none⟩))),.inl ((.int .u64 (Mark.ofBools tl:Int))),.inl ((.slice (some ⟨wb,0,none⟩) m wc)),.inl ((.int .i64 (k:Int))),.inl ((.pointer (some ⟨wb,k * 66,none⟩))),.inl ((.pointer (some ⟨wb,k * 66+1,none⟩))),.inl ((.agg (Gr.tcs (tl,tb)))),.inl ((.int .u64 (Mark.ofBools tl:Int))),.inl ((.bool false)),.inl ((.bool false))])
            (S:=[[],[],[0,1],[2],[3],[],[],[5,6],[7],[8],[4,9],[10],[11],[11],[12,13,11],[14,11],[15,11],[11],[11],[17,18,11],[19,11],[20,11],[21,11],[16,22,11],[11,23]]) (by kernel_rfl) (by kernel_rfl) (by kernel_rfl) rfl ?stab22 ?ones22 ?ends22
           case ones22 =>
            refine Flow.Ones.cons ?_ ?_
            ·intro a w hC hoff _
             have e12:a.eval (.tmp 12)=(.slice (some ⟨gb,0,none⟩) m gc):=hoff.at 12 (by kernel_rfl)
             refine .inl ⟨Flow.want_none rfl,?_⟩
             exact Flow.run_same (Flow.exec_move (.inl rfl) e12) Flow.grow_refl
            refine Flow.Ones.cons ?_ ?_
            ·intro a w hC hoff _
             have e14:a.eval (.tmp 14)=(.int .i64 (k:Int)):=hoff.at 14 (by kernel_rfl)
             refine .inl ⟨Flow.want_none rfl,?_⟩
             exact Flow.run_same (Flow.exec_move (.inl rfl) e14) Flow.grow_refl
            refine Flow.Ones.cons ?_ ?_
            ·rintro a w hC hoff ⟨k0,k1,-⟩
             have e98:a.eval (.tmp 98)=(.slice (some ⟨gb,0,none⟩) m gc):=k0 98 rfl
             have e99:a.eval (.tmp 99)=(.int .i64 (k:Int)):=k1 99 rfl
             refine .inl ⟨Flow.want_none rfl,?_⟩
             refine Flow.run_same ?_ Flow.grow_refl
             have ec:=Flow.eval_const a
             generalize a.eval=ρ at e98 e99 ec ⊢
             simp [execOp,e98,e99,go_sem];intro hh;omega
            refine Flow.Ones.cons ?_ ?_
            ·rintro a w hC hoff ⟨k2,-⟩
             have e100:a.eval (.tmp 100)=(.pointer (some ⟨gb,k * 2,none⟩)):=k2 100 rfl
             refine .inl ⟨Flow.want_none rfl,?_⟩
             refine Flow.run_same ?_ Flow.grow_refl
             have ec:=Flow.eval_const a
             generalize a.eval=ρ at e100 ec ⊢
             simp [execOp,e100,go_sem]
            refine Flow.Ones.cons ?_ ?_
            ·rintro a w hC hoff ⟨k3,-⟩
             have e101:a.eval (.tmp 101)=(.pointer (some ⟨gb,k * 2,none⟩)):=k3 101 rfl
             refine .inl ⟨Flow.want_none rfl,?_⟩
             refine Flow.run_same ?_ Flow.grow_refl
             have ec:=Flow.eval_const a
             generalize a.eval=ρ at e101 ec ⊢
             have h0:=Xm2.cell_grow hC g0
             simp [execOp,e101,h0,go_sem]
            refine Flow.Ones.cons ?_ ?_
            ·intro a w hC hoff _
             have e13:a.eval (.tmp 13)=(.slice (some ⟨wb,0,none⟩) m wc):=hoff.at 13 (by kernel_rfl)
             refine .inl ⟨Flow.want_none rfl,?_⟩
             exact Flow.run_same (Flow.exec_move (.inl rfl) e13) Flow.grow_refl
            refine Flow.Ones.cons ?_ ?_
            ·intro a w hC hoff _
             have e14:a.eval (.tmp 14)=(.int .i64 (k:Int)):=hoff.at 14 (by kernel_rfl)
             refine .inl ⟨Flow.want_none rfl,?_⟩
             exact Flow.run_same (Flow.exec_move (.inl rfl) e14) Flow.grow_refl
            refine Flow.Ones.cons ?_ ?_
            ·rintro a w hC hoff ⟨k5,k6,-⟩
             have e103:a.eval (.tmp 103)=(.slice (some ⟨wb,0,none⟩) m wc):=k5 103 rfl
             have e104:a.eval (.tmp 104)=(.int .i64 (k:Int)):=k6 104 rfl
             refine .inl ⟨Flow.want_none rfl,?_⟩
             refine Flow.run_same ?_ Flow.grow_refl
             have ec:=Flow.eval_const a
             generalize a.eval=ρ at e103 e104 ec ⊢
             simp [execOp,e103,e104,go_sem];intro hh;omega
            refine Flow.Ones.cons ?_ ?_
            ·rintro a w hC hoff ⟨k7,-⟩
             have e105:a.eval (.tmp 105)=(.pointer (some ⟨wb,k * 66,none⟩)):=k7 105 rfl
             refine .inl ⟨Flow.want_none rfl,?_⟩
             refine Flow.run_same ?_ Flow.grow_refl
             have ec:=Flow.eval_const a
             generalize a.eval=ρ at e105 ec ⊢
             simp [execOp,e105,go_sem]
            refine Flow.Ones.cons ?_ ?_
            ·rintro a w hC hoff ⟨k8,-⟩
             have e106:a.eval (.tmp 106)=(.pointer (some ⟨wb,k * 66,none⟩)):=k8 106 rfl
             refine .inl ⟨Flow.want_none rfl,?_⟩
             refine Flow.run_same ?_ Flow.grow_refl
             have ec:=Flow.eval_const a
             generalize a.eval=ρ at e106 ec ⊢
             have h1:=Xm2.cell_grow hC h0
             simp [execOp,e106,h1,go_sem]
            refine Flow.Ones.cons ?_ ?_
            ·rintro a w hC hoff ⟨k4,k9,-⟩
             have e102:a.eval (.tmp 102)=(.int .i64 lab):=k4 102 rfl
             have e107:a.eval (.tmp 107)=(.int .i64 lab):=k9 107 rfl
             refine .inl ⟨Flow.want_none rfl,?_⟩
             refine Flow.run_same ?_ Flow.grow_refl
             have ec:=Flow.eval_const a
             generalize a.eval=ρ at e102 e107 ec ⊢
             simp [execOp,e102,e107,go_sem]
            refine Flow.Ones.cons ?_ ?_
            ·rintro a w hC hoff ⟨k10,-⟩
             have e108:a.eval (.tmp 108)=(.bool false):=k10 108 rfl
             refine .inl ⟨Flow.want_none rfl,?_⟩
             exact Flow.run_same (Flow.exec_move (.inl rfl) e108) Flow.grow_refl
            refine Flow.Ones.cons ?_ ?_
            ·rintro a w hC hoff ⟨k11,-⟩
             have e109:a.eval (.tmp 109)=(.bool false):=k11 109 rfl
             have e12:a.eval (.tmp 12)=(.slice (some ⟨gb,0,none⟩) m gc):=hoff.at 12 (by kernel_rfl)
             refine .inl ⟨Flow.want_yes rfl rfl e109,?_⟩
             exact Flow.run_same (Flow.exec_move (.inl rfl) e12) Flow.grow_refl
            refine Flow.Ones.cons ?_ ?_
            ·rintro a w hC hoff ⟨k11,-⟩
             have e109:a.eval (.tmp 109)=(.bool false):=k11 109 rfl
             have e14:a.eval (.tmp 14)=(.int .i64 (k:Int)):=hoff.at 14 (by kernel_rfl)
             refine .inl ⟨Flow.want_yes rfl rfl e109,?_⟩
             exact Flow.run_same (Flow.exec_move (.inl rfl) e14) Flow.grow_refl
            refine Flow.Ones.cons ?_ ?_
            ·rintro a w hC hoff ⟨k12,k13,k11,-⟩
             have e110:a.eval (.tmp 110)=(.slice (some ⟨gb,0,none⟩) m gc):=k12 110 rfl
             have e111:a.eval (.tmp 111)=(.int .i64 (k:Int)):=k13 111 rfl
             have e109:a.eval (.tmp 109)=(.bool false):=k11 109 rfl
             refine .inl ⟨Flow.want_yes rfl rfl e109,?_⟩
             refine Flow.run_same ?_ Flow.grow_refl
             have ec:=Flow.eval_const a
             generalize a.eval=ρ at e110 e111 ec ⊢
             simp [execOp,e110,e111,go_sem];intro hh;omega
            refine Flow.Ones.cons ?_ ?_
            ·rintro a w hC hoff ⟨k14,k11,-⟩
             have e112:a.eval (.tmp 112)=(.pointer (some ⟨gb,k * 2,none⟩)):=k14 112 rfl
             have e109:a.eval (.tmp 109)=(.bool false):=k11 109 rfl
             refine .inl ⟨Flow.want_yes rfl rfl e109,?_⟩
             refine Flow.run_same ?_ Flow.grow_refl
             have ec:=Flow.eval_const a
             generalize a.eval=ρ at e112 ec ⊢
             simp [execOp,e112,go_sem]
            refine Flow.Ones.cons ?_ ?_
            ·rintro a w hC hoff ⟨k15,k11,-⟩
             have e113:a.eval (.tmp 113)=(.pointer (some ⟨gb,k * 2+1,none⟩)):=k15 113 rfl
             have e109:a.eval (.tmp 109)=(.bool false):=k11 109 rfl
             refine .inl ⟨Flow.want_yes rfl rfl e109,?_⟩
             refine Flow.run_same ?_ Flow.grow_refl
             have ec:=Flow.eval_const a
             generalize a.eval=ρ at e113 ec ⊢
             have h1:=Xm2.cell_grow hC g1
             simp [execOp,e113,h1,go_sem]
            refine Flow.Ones.cons ?_ ?_
            ·rintro a w hC hoff ⟨k11,-⟩
             have e109:a.eval (.tmp 109)=(.bool false):=k11 109 rfl
             have e13:a.eval (.tmp 13)=(.slice (some ⟨wb,0,none⟩) m wc):=hoff.at 13 (by kernel_rfl)
             refine .inl ⟨Flow.want_yes rfl rfl e109,?_⟩
             exact Flow.run_same (Flow.exec_move (.inl rfl) e13) Flow.grow_refl
            refine Flow.Ones.cons ?_ ?_
            ·rintro a w hC hoff ⟨k11,-⟩
             have e109:a.eval (.tmp 109)=(.bool false):=k11 109 rfl
             have e14:a.eval (.tmp 14)=(.int .i64 (k:Int)):=hoff.at 14 (by kernel_rfl)
             refine .inl ⟨Flow.want_yes rfl rfl e109,?_⟩
             exact Flow.run_same (Flow.exec_move (.inl rfl) e14) Flow.grow_refl
            refine Flow.Ones.cons ?_ ?_
            ·rintro a w hC hoff ⟨k17,k18,k11,-⟩
             have e115:a.eval (.tmp 115)=(.slice (some ⟨wb,0,none⟩) m wc):=k17 115 rfl
             have e116:a.eval (.tmp 116)=(.int .i64 (k:Int)):=k18 116 rfl
             have e109:a.eval (.tmp 109)=(.bool false):=k11 109 rfl
             refine .inl ⟨Flow.want_yes rfl rfl e109,?_⟩
             refine Flow.run_same ?_ Flow.grow_refl
             have ec:=Flow.eval_const a
             generalize a.eval=ρ at e115 e116 ec ⊢
             simp [execOp,e115,e116,go_sem];intro hh;omega
            refine Flow.Ones.cons ?_ ?_
            ·rintro a w hC hoff ⟨k19,k11,-⟩
             have e117:a.eval (.tmp 117)=(.pointer (some ⟨wb,k * 66,none⟩)):=k19 117 rfl
             have e109:a.eval (.tmp 109)=(.bool false):=k11 109 rfl
             refine .inl ⟨Flow.want_yes rfl rfl e109,?_⟩
             refine Flow.run_same ?_ Flow.grow_refl
             have ec:=Flow.eval_const a
             generalize a.eval=ρ at e117 ec ⊢
             simp [execOp,e117,go_sem]
            refine Flow.Ones.cons ?_ ?_
            ·rintro a w hC hoff ⟨k20,k11,-⟩
             have e118:a.eval (.tmp 118)=(.pointer (some ⟨wb,k * 66+1,none⟩)):=k20 118 rfl
             have e109:a.eval (.tmp 109)=(.bool false):=k11 109 rfl
             refine .inl ⟨Flow.want_yes rfl rfl e109,?_⟩
             refine Flow.run_same ?_ Flow.grow_refl
             have ec:=Flow.eval_const a
             generalize a.eval=ρ at e118 ec ⊢
             exact exec_load_mid 80 _ rfl wb (k * 66+1) e118 (Gr.tcs (tl,tb)).toList _ (range_grow HR3.out hC) Try.underlying80 rfl (by rw [Array.length_toList];exact HSx.out.1)
            refine Flow.Ones.cons ?_ ?_
            ·rintro a w hC hoff ⟨k21,k11,-⟩
             have e119:a.eval (.tmp 119)=(.agg (Gr.tcs (tl,tb))):=k21 119 rfl
             have e109:a.eval (.tmp 109)=(.bool false):=k11 109 rfl
             refine .inl ⟨Flow.want_yes rfl rfl e109,?_⟩
             exact Flow.run_call (Flow.exec_call (args:=#[((.agg (Gr.tcs (tl,tb))))]) rfl Try.func31 (by kernel_rfl) (by kernel_rfl) (by simp only [List.map_toArray,List.map_cons,List.map_nil,e119] <;> rfl)) ((HMk.out w (tl,tb) Hx64.out).mono fun e w' ⟨he,hg⟩=>⟨_,he,hg,rfl⟩)
            refine Flow.Ones.cons ?_ ?_
            ·rintro a w hC hoff ⟨k16,k22,k11,-⟩
             have e114:a.eval (.tmp 114)=(.int .u64 (Mark.ofBools tl:Int)):=k16 114 rfl
             have e120:a.eval (.tmp 120)=(.int .u64 (Mark.ofBools tl:Int)):=k22 120 rfl
             have e109:a.eval (.tmp 109)=(.bool false):=k11 109 rfl
             refine .inl ⟨Flow.want_yes rfl rfl e109,?_⟩
             refine Flow.run_same ?_ Flow.grow_refl
             have ec:=Flow.eval_const a
             generalize a.eval=ρ at e114 e120 ec ⊢
             simp [execOp,e114,e120,go_sem]
            refine Flow.Ones.cons ?_ ?_
            ·rintro a w hC hoff ⟨k11,k23,-⟩
             have e109:a.eval (.tmp 109)=(.bool false):=k11 109 rfl
             have e121:a.eval (.tmp 121)=(.bool false):=k23 121 rfl
             refine .inl ⟨Flow.want_none rfl,?_⟩
             exact Flow.run_same (Flow.exec_pick_no rfl e109 e121) Flow.grow_refl
            exact trivial
           case stab22=>exact trivial
           case ends22 =>
            intro w5 hg
            simp only [Flow.ends]
            simp only [Act.put,List.setIfInBounds_toArray,List.set_cons_succ,List.set_cons_zero]
            have HG5:=Lib.hid hg
            have HP5:=Lib.hid (HPk.out.keep hg)
            clear hg g0 g1 h0
            go_wp2_with fail
            go_loopw [15,16] (fun vs vj wy=>∃ (j:Nat) (b:Bool),j≤lt.length∧vj=.int .i64 j∧vs=.bool b∧Hid (Flow.Grow w5 wy)) (fun _ vj _=>lt.length - (intOf vj).toNat)
            case atStart=>exact ⟨0,false,by omega,rfl,rfl,Lib.hid (Flow.grow_refl _)⟩
            case round =>
             obtain ⟨j,b,hj,rfl,rfl,HGq⟩:=hrel
             rename World=>wy
             have HGq5:Hid (Flow.Grow wk wy):=Lib.hid (HG5.out.trans HGq.out)
             by_cases hjl:j < lt.length
             ·obtain ⟨lj,hlx⟩:∃ l,lt[j]? = some l:=⟨_,List.getElem?_eq_getElem hjl⟩
              have hlj:=HLt.out lj (List.mem_of_getElem? hlx)
              have hownq:=own_keep HPk.out.own HGq5.out
              obtain ⟨tq,rfl⟩:=own_at hownq (by omega)
              have rj0:=own_range (f:=fun l=>Gr.kc (l,false)) (fun l=>Gr.kc_len _) hownq hlx
              rw [kc_split (t:=(lj,false)) hlj] at rj0
              have rj:=range_left rj0
              clear rj0 hlx hownq
              cases b with
              | true =>
               go_upto_region 28 with fail
               refine Flow.regionG (C:=fun _ wq=>Flow.Grow wy wq) (Fs:=[.inl ((.bool true)),.inl ((.bool true)),.inl (undef),.inl (undef),.inl (undef),.inl (undef),.inl (undef),.inl (undef),.inl (undef),.inl (undef),.inl (undef),.inl (undef),.inl (undef),.inl (undef),.inl ((.bool true)),.inl ((.bool true))])
                [[],[0],[1],[1],[2,3,1],[4,1],[5,1],[1],[1],[7,8,1],[9,1],[10,1],[11,1],[6,12,1],[1,13],[14]] [[],[0],[0,1],[0,1],[0,1,2,3],[0,1,2,3,4],[0,1,2,3,4,5],[0,1],[0,1],[0,1,7,8],[0,1,7,8,9],[0,1,7,8,9,10],[0,1,7,8,9,10,11],[0,1,2,3,4,5,6,7,8,9,10,11,12],[0,1,2,3,4,5,6,7,8,9,10,11,12,13],[0,1,2,3,4,5,6,7,8,9,10,11,12,13,14]] [] (by kernel_rfl) (by kernel_rfl) (by kernel_rfl) rfl (Flow.grow_drew _) ?ones28 ?ends28
               case ones28 =>
                refine Flow.OnesG.start (by exact trivial) (fun L w w' i=>(fun _ _ h g=>h.trans g) w w') fun HST HCG=>?_
                refine Flow.oq rfl HST HCG ?_ ?_
                ·intro L a w hC hLi hoff _
                 exact Flow.gs rfl (Flow.exec_move (.inl rfl) (hoff.at2 15 0 hLi (by kernel_rfl)))
                refine Flow.oq rfl HST HCG ?_ ?_
                ·rintro L a w hC hLi hoff ⟨k0,-⟩
                 have e129:=Flow.kv k0 rfl rfl
                 exact Flow.gs rfl (Flow.exec_move (.inl rfl) e129)
                refine Flow.oq rfl HST HCG ?_ ?_
                ·rintro L a w hC hLi hoff ⟨k1,-⟩
                 have e130:=Flow.kv k1 rfl rfl
                 have e9:a.eval (.tmp 9)=(.slice (some ⟨tq,0,none⟩) lt.length tc):=hoff.at2 9 2 hLi (by kernel_rfl)
                 exact .inr ⟨Flow.want_no rfl rfl e130,rfl⟩
                refine Flow.oq rfl HST HCG ?_ ?_
                ·rintro L a w hC hLi hoff ⟨k1,-⟩
                 have e130:=Flow.kv k1 rfl rfl
                 have e16:a.eval (.tmp 16)=(.int .i64 (j:Int)):=hoff.at2 16 3 hLi (by kernel_rfl)
                 exact .inr ⟨Flow.want_no rfl rfl e130,rfl⟩
                refine Flow.oq rfl HST HCG ?_ ?_
                ·rintro L a w hC hLi hoff ⟨k2,k3,k1,-⟩
                 have e131:=Flow.kv k2 rfl rfl
                 have e132:=Flow.kv k3 rfl rfl
                 have e130:=Flow.kv k1 rfl rfl
                 exact .inr ⟨Flow.want_no rfl rfl e130,rfl⟩
                refine Flow.oq rfl HST HCG ?_ ?_
                ·rintro L a w hC hLi hoff ⟨k4,k1,-⟩
                 have e133:=Flow.kv k4 rfl rfl
                 have e130:=Flow.kv k1 rfl rfl
                 exact .inr ⟨Flow.want_no rfl rfl e130,rfl⟩
                refine Flow.oq rfl HST HCG ?_ ?_
                ·rintro L a w hC hLi hoff ⟨k5,k1,-⟩
                 have e134:=Flow.kv k5 rfl rfl
                 have e130:=Flow.kv k1 rfl rfl
                 exact .inr ⟨Flow.want_no rfl rfl e130,rfl⟩
                refine Flow.oq rfl HST HCG ?_ ?_
                ·rintro L a w hC hLi hoff ⟨k1,-⟩
                 have e130:=Flow.kv k1 rfl rfl
                 have e13:a.eval (.tmp 13)=(.slice (some ⟨wb,0,none⟩) m wc):=hoff.at2 13 7 hLi (by kernel_rfl)
                 exact .inr ⟨Flow.want_no rfl rfl e130,rfl⟩
                refine Flow.oq rfl HST HCG ?_ ?_
                ·rintro L a w hC hLi hoff ⟨k1,-⟩
                 have e130:=Flow.kv k1 rfl rfl
                 have e14:a.eval (.tmp 14)=(.int .i64 (k:Int)):=hoff.at2 14 8 hLi (by kernel_rfl)
                 exact .inr ⟨Flow.want_no rfl rfl e130,rfl⟩
                refine Flow.oq rfl HST HCG ?_ ?_
                ·rintro L a w hC hLi hoff ⟨k7,k8,k1,-⟩
                 have e136:=Flow.kv k7 rfl rfl
                 have e137:=Flow.kv k8 rfl rfl
                 have e130:=Flow.kv k1 rfl rfl
                 exact .inr ⟨Flow.want_no rfl rfl e130,rfl⟩
                refine Flow.oq rfl HST HCG ?_ ?_
                ·rintro L a w hC hLi hoff ⟨k9,k1,-⟩
                 have e138:=Flow.kv k9 rfl rfl
                 have e130:=Flow.kv k1 rfl rfl
                 exact .inr ⟨Flow.want_no rfl rfl e130,rfl⟩
                refine Flow.oq rfl HST HCG ?_ ?_
                ·rintro L a w hC hLi hoff ⟨k10,k1,-⟩
                 have e139:=Flow.kv k10 rfl rfl
                 have e130:=Flow.kv k1 rfl rfl
                 exact .inr ⟨Flow.want_no rfl rfl e130,rfl⟩
                refine Flow.oq rfl HST HCG ?_ ?_
                ·rintro L a w hC hLi hoff ⟨k11,k1,-⟩
                 have e140:=Flow.kv k11 rfl rfl
                 have e130:=Flow.kv k1 rfl rfl
                 exact .inr ⟨Flow.want_no rfl rfl e130,rfl⟩
                refine Flow.oq rfl HST HCG ?_ ?_
                ·rintro L a w hC hLi hoff ⟨k6,k12,k1,-⟩
                 have e135:=Flow.kv k6 rfl rfl
                 have e141:=Flow.kv k12 rfl rfl
                 have e130:=Flow.kv k1 rfl rfl
                 exact .inr ⟨Flow.want_no rfl rfl e130,rfl⟩
                refine Flow.oq rfl HST HCG ?_ ?_
                ·rintro L a w hC hLi hoff ⟨k1,k13,-⟩
                 have e130:=Flow.kv k1 rfl rfl
                 have e142:=Flow.kv k13 rfl rfl
                 exact Flow.gs rfl (Flow.exec_pick_yes rfl e130 rfl)
                refine Flow.oq rfl HST HCG ?_ ?_
                ·rintro L a w hC hLi hoff ⟨k14,-⟩
                 have e143:=Flow.kv k14 rfl rfl
                 exact Flow.gs rfl (Flow.exec_move (.inr rfl) e143)
                exact trivial
               case ends28 =>
                intro LL wx hLL hC
                iterate 16 refine Flow.endsG_v rfl ?_
                refine Flow.endsG_nil ?_
                simp only [Act.put,List.setIfInBounds_toArray,List.set_cons_succ,List.set_cons_zero]
                have HG6:=Lib.hid (HGq.out.trans hC)
                clear hC rj
                go_wp2_with fail
                go_roundw
                case rel=>exact ⟨j+1,true,by omega,by go_num,rfl,HG6⟩
                case measure=>simp [intOf];omega
              | false =>
               go_upto_region 28 with fail
               refine Flow.regionG (C:=fun _ wq=>Flow.Grow wy wq) (Fs:=[.inl ((.bool false)),.inl ((.bool false)),.inl ((.slice (some ⟨tq,0,none⟩) lt.length tc)),.inl ((.int .i64 (j:Int))),.inl ((.pointer (some ⟨tq,j * 65,none⟩))),.inl ((.pointer (some ⟨tq,j * 65,none⟩))),.inl ((.agg (Gr.bc lj))),.inl ((.slice (some ⟨wb,0,none⟩) m wc)),.inl ((.int .i64 (k:Int))),.inl ((.pointer (some ⟨wb,k * 66,none⟩))),.inl ((.pointer (some ⟨wb,k * 66+1,none⟩))),.inl ((.pointer (some ⟨wb,k * 66+1,none⟩))),.inl ((.agg (Gr.bc tl))),.inr (fun v _=>∃ b,v=.bool b),.inr (fun v _=>∃ b,v=.bool b),.inr (fun v _=>∃ b,v=.bool b)])
                [[],[0],[1],[1],[2,3,1],[4,1],[5,1],[1],[1],[7,8,1],[9,1],[10,1],[11,1],[6,12,1],[1,13],[14]] [[],[0],[0,1],[0,1],[0,1,2,3],[0,1,2,3,4],[0,1,2,3,4,5],[0,1],[0,1],[0,1,7,8],[0,1,7,8,9],[0,1,7,8,9,10],[0,1,7,8,9,10,11],[0,1,2,3,4,5,6,7,8,9,10,11,12],[0,1,2,3,4,5,6,7,8,9,10,11,12,13],[0,1,2,3,4,5,6,7,8,9,10,11,12,13,14]] [15] (by kernel_rfl) (by kernel_rfl) (by kernel_rfl) rfl (Flow.grow_drew _) ?ones28 ?ends28
               case ones28 =>
                refine Flow.OnesG.start (by exact ⟨fun _ _ _ _ h=>h,fun _ _ _ _ h=>h,fun _ _ _ _ h=>h,trivial⟩) (fun L w w' i=>(fun _ _ h g=>h.trans g) w w') fun HST HCG=>?_
                refine Flow.oq rfl HST HCG ?_ ?_
                ·intro L a w hC hLi hoff _
                 exact Flow.gs rfl (Flow.exec_move (.inl rfl) (hoff.at2 15 0 hLi (by kernel_rfl)))
                refine Flow.oq rfl HST HCG ?_ ?_
                ·rintro L a w hC hLi hoff ⟨k0,-⟩
                 have e129:=Flow.kv k0 rfl rfl
                 exact Flow.gs rfl (Flow.exec_move (.inl rfl) e129)
                refine Flow.oq rfl HST HCG ?_ ?_
                ·rintro L a w hC hLi hoff ⟨k1,-⟩
                 have e130:=Flow.kv k1 rfl rfl
                 have e9:a.eval (.tmp 9)=(.slice (some ⟨tq,0,none⟩) lt.length tc):=hoff.at2 9 2 hLi (by kernel_rfl)
                 exact Flow.gy rfl rfl e130 (Flow.exec_move (.inl rfl) e9)
                refine Flow.oq rfl HST HCG ?_ ?_
                ·rintro L a w hC hLi hoff ⟨k1,-⟩
                 have e130:=Flow.kv k1 rfl rfl
                 have e16:a.eval (.tmp 16)=(.int .i64 (j:Int)):=hoff.at2 16 3 hLi (by kernel_rfl)
                 exact Flow.gy rfl rfl e130 (Flow.exec_move (.inl rfl) e16)
                refine Flow.oq rfl HST HCG ?_ ?_
                ·rintro L a w hC hLi hoff ⟨k2,k3,k1,-⟩
                 have e131:=Flow.kv k2 rfl rfl
                 have e132:=Flow.kv k3 rfl rfl
                 have e130:=Flow.kv k1 rfl rfl
                 refine Flow.gy rfl rfl e130 ?_
                 generalize a.eval=ρ at e131 e132 ⊢
                 simp [execOp,e131,e132,go_sem];intro hh;omega
                refine Flow.oq rfl HST HCG ?_ ?_
                ·rintro L a w hC hLi hoff ⟨k4,k1,-⟩
                 have e133:=Flow.kv k4 rfl rfl
                 have e130:=Flow.kv k1 rfl rfl
                 refine Flow.gy rfl rfl e130 ?_
                 generalize a.eval=ρ at e133 ⊢
                 simp [execOp,e133,go_sem]
                refine Flow.oq rfl HST HCG ?_ ?_
                ·rintro L a w hC hLi hoff ⟨k5,k1,-⟩
                 have e134:=Flow.kv k5 rfl rfl
                 have e130:=Flow.kv k1 rfl rfl
                 refine Flow.gy rfl rfl e130 ?_
                 generalize a.eval=ρ at e134 ⊢
                 exact exec_load_mid 78 _ rfl tq (j * 65) e134 (lj.map Value.bool) _ (range_grow rj hC) Try.underlying78 rfl (by rw [List.length_map,hlj];kernel_rfl)
                refine Flow.oq rfl HST HCG ?_ ?_
                ·rintro L a w hC hLi hoff ⟨k1,-⟩
                 have e130:=Flow.kv k1 rfl rfl
                 have e13:a.eval (.tmp 13)=(.slice (some ⟨wb,0,none⟩) m wc):=hoff.at2 13 7 hLi (by kernel_rfl)
                 exact Flow.gy rfl rfl e130 (Flow.exec_move (.inl rfl) e13)
                refine Flow.oq rfl HST HCG ?_ ?_
                ·rintro L a w hC hLi hoff ⟨k1,-⟩
                 have e130:=Flow.kv k1 rfl rfl
                 have e14:a.eval (.tmp 14)=(.int .i64 (k:Int)):=hoff.at2 14 8 hLi (by kernel_rfl)
                 exact Flow.gy rfl rfl e130 (Flow.exec_move (.inl rfl) e14)
                refine Flow.oq rfl HST HCG ?_ ?_
                ·rintro L a w hC hLi hoff ⟨k7,k8,k1,-⟩
                 have e136:=Flow.kv k7 rfl rfl
                 have e137:=Flow.kv k8 rfl rfl
                 have e130:=Flow.kv k1 rfl rfl
                 refine Flow.gy rfl rfl e130 ?_
                 generalize a.eval=ρ at e136 e137 ⊢
                 simp [execOp,e136,e137,go_sem];intro hh;omega
                refine Flow.oq rfl HST HCG ?_ ?_
                ·rintro L a w hC hLi hoff ⟨k9,k1,-⟩
                 have e138:=Flow.kv k9 rfl rfl
                 have e130:=Flow.kv k1 rfl rfl
                 refine Flow.gy rfl rfl e130 ?_
                 generalize a.eval=ρ at e138 ⊢
                 simp [execOp,e138,go_sem]
                refine Flow.oq rfl HST HCG ?_ ?_
                ·rintro L a w hC hLi hoff ⟨k10,k1,-⟩
                 have e139:=Flow.kv k10 rfl rfl
                 have e130:=Flow.kv k1 rfl rfl
                 refine Flow.gy rfl rfl e130 ?_
                 generalize a.eval=ρ at e139 ⊢
                 simp [execOp,e139,go_sem]
                refine Flow.oq rfl HST HCG ?_ ?_
                ·rintro L a w hC hLi hoff ⟨k11,k1,-⟩
                 have e140:=Flow.kv k11 rfl rfl
                 have e130:=Flow.kv k1 rfl rfl
                 refine Flow.gy rfl rfl e130 ?_
                 generalize a.eval=ρ at e140 ⊢
                 exact exec_load_mid 78 _ rfl wb (k * 66+1) e140 (tl.map Value.bool) _ (range_grow HR4.out (HGq5.out.trans hC)) Try.underlying78 rfl (by rw [List.length_map,Hx64.out];kernel_rfl)
                refine Flow.oq rfl HST HCG ?_ ?_
                ·rintro L a w hC hLi hoff ⟨k6,k12,k1,-⟩
                 have e135:=Flow.kv k6 rfl rfl
                 have e141:=Flow.kv k12 rfl rfl
                 have e130:=Flow.kv k1 rfl rfl
                 refine .inl ⟨Flow.want_yes rfl rfl e130,?_⟩
                 obtain ⟨b,hb⟩:=exec_eql_arr (ρ:=a.eval) (w:=w) (.tmp 135) (.tmp 141) hlj Hx64.out e135 e141
                 exact Flow.run_val (hb _ rfl) (Flow.grow_refl _) ⟨b,rfl⟩
                refine Flow.oq rfl HST HCG ?_ ?_
                ·rintro L a w hC hLi hoff ⟨k1,k13,-⟩
                 have e130:=Flow.kv k1 rfl rfl
                 have e142:=Flow.kr k13 rfl rfl
                 refine .inl ⟨Flow.want_none rfl,?_⟩
                 obtain ⟨b,hb⟩:=e142
                 refine Flow.run_val (v:=.bool b) (w':=w) ?_ (Flow.grow_refl _) ⟨b,rfl⟩
                 generalize a.eval=ρ at e130 hb ⊢
                 simp [execOp,e130,hb,go_sem]
                refine Flow.oq rfl HST HCG ?_ ?_
                ·rintro L a w hC hLi hoff ⟨k14,-⟩
                 have e143:=Flow.kr k14 rfl rfl
                 exact .inl ⟨Flow.want_none rfl,Flow.run_val (Flow.exec_move (.inr rfl) rfl) (Flow.grow_refl _) e143⟩
                exact trivial
               case ends28 =>
                intro LL wx hLL hC
                iterate 13 refine Flow.endsG_v rfl ?_
                refine Flow.endsG_r rfl fun v142 _=>?_
                refine Flow.endsG_r rfl fun v143 _=>?_
                refine Flow.endsG_r rfl fun v15 hE15=>?_
                replace hE15:=hE15 rfl
                refine Flow.endsG_nil ?_
                simp only [Act.put,List.setIfInBounds_toArray,List.set_cons_succ,List.set_cons_zero]
                obtain ⟨b,rfl⟩:=hE15
                have HG6:=Lib.hid (HGq.out.trans hC)
                clear hC rj
                go_wp2_with fail
                go_roundw
                case rel=>exact ⟨j+1,b,by omega,by go_num,rfl,HG6⟩
                case measure=>simp [intOf];omega
             ·obtain rfl:j=lt.length:=by omega
              have HPq:=Lib.hid (HPk.out.keep HGq5.out)
              have HGk2:=Lib.hid (own_keep HGk.out HGq5.out)
              have HWk2:=Lib.hid (own_keep HWk.out HGq5.out)
              cases b with
              | true =>
               go_wp2_with fail
               go_roundw
               case rel=>exact ⟨k+1,lt,by omega,by go_num,by rw [HUc.out],by omega,HLt,HPq,HGk2,HWk2⟩
               case measure=>simp [intOf];omega
              | false =>
               have HR5:=Lib.hid (range_grow HR4.out HGq5.out)
               obtain ⟨iK,zK,hiK,hzK,hsK,hbK,hcK⟩:=info_tok
               have HIK:=Lib.hid (And.intro hiK (And.intro hzK (And.intro hsK (And.intro hbK hcK))))
               clear hiK hzK hsK hbK hcK
               have HSt:=Lib.hid (tk_sz (t:=(tl,false)) Hx64.out)
               have HARl:Hid ((Try.prog.info? 78).map (·.size)=some (tl.map Value.bool).length):=Lib.hid (by rw [List.length_map,Hx64.out];kernel_rfl)
               go_wp2_with (first
                | (with_reducible refine wpList_load_mid rfl 78 (.tmp 151) rfl wb (k * 66+1) rfl (tl.map Value.bool) _ HR5.out Try.underlying78 rfl HARl.out ?_)
                | (refine wpList_buildTo rfl 80 _ rfl _ rfl (Gr.tcs (tl,false)) (by simp only [List.map_toArray,List.map_cons,List.map_nil];exact built_tok tl Hx64.out) ?_)
                | (refine wpList_plain rfl fun K hK=>?_;refine Flow.run_wp (exec_slice_tok rfl rfl HSt.out.2.1) ?_;refine hK _ _ ?_)
                | (at_builtin;refine wpList_appB (W:=w2) (B:=B) rfl _ _ 81 rfl 80 iK zK 65 65 Try.underlying81 HIK.out.1 HIK.out.2.1 HIK.out.2.2.1 HIK.out.2.2.2.1 HIK.out.2.2.2.2 (by decide) _ lt.length (lt.flatMap fun l=>Gr.kc (l,false)) rfl (HPq.out.keep (Flow.grow_alloc _ _)).own (HPq.out.keep (Flow.grow_alloc _ _)).by_ _ (Gr.tcs (tl,false)).toList 1 1 rfl (by rw [Array.length_toList,HSt.out.2.1]) (cells_of (heap_alloc_new _ _)) (Gr.tcs_one _) (by decide) (by omega) (by decide) (by decide) ?_;intro v' w6 ho _ hby _;have HP6:=Lib.hid ((HPq.out.keep (Flow.grow_alloc _ _)).app (l:=tl) (by rw [Gr.kc_eq (t:=(tl,false)) Hx64.out];exact ho) hby);have HG6:=Lib.hid (own_liftBy (own_keep HGk2.out (Flow.grow_alloc _ _)) (HPq.out.keep (Flow.grow_alloc _ _)).own (by decide) hby);have HW6:=Lib.hid (own_liftBy (own_keep HWk2.out (Flow.grow_alloc _ _)) (HPq.out.keep (Flow.grow_alloc _ _)).own (by decide) hby);obtain ⟨oz,cz,rfl⟩:=own_form ho;clear ho hby))
               go_roundw
               case rel=>exact ⟨k+1,lt++[tl],by omega,by go_num,by rw [HUc.out],by rw [List.length_append];simp;omega,Lib.hid (by intro l hl;rcases List.mem_append.1 hl with h | h;exact HLt.out l h;simp at h;rw [h];exact Hx64.out),HP6,HG6,HW6⟩
               case measure=>simp [intOf];omega
         ·obtain rfl:k=m:=by omega
          have hbt:Gr.bad (TS.take k)=F:=by
           rw [List.take_of_length_le (by rw [Hmm.out];exact Nat.le_refl _),HFe.out]
          rw [hbt]
          clear hbt
          have HUk:=Lib.hid (HUn.out wk B _ _ (HPk.out.gm HGm.out))
          have hcnt:lt.length≤1+(n+1) * (nl * 4096):=by
           rw [Nat.succ_mul]
           omega
          generalize (u || F)=uf at *
          go_wp2_with (go_at_call 13;refine HUk.out.mono ?_;rintro e w' ⟨rfl,rfl⟩)
          go_roundw
          case rel=>exact ⟨n+1,lt,uf,by have:=Hgm.out;omega,by go_num,rfl,hcnt,HLt,HPk⟩
          case measure=>have:=Hgm.out;simp [intOf];omega
      ·have d2:decide ((n:Int) < (most:Int))=false:=by simp;omega
       have d2':decide (n < most)=false:=by simp;omega
       go_wp2_with fail
       go_ret
       exact ⟨rfl,HGW.out _ HP.out.by_⟩
     ·have d1:decide ((n:Int) < (ls.length:Int))=false:=by simp;omega
      have d1':decide (n < ls.length)=false:=by simp;omega
      go_wp2_with fail
      go_ret
      exact ⟨rfl,HGW.out _ HP.out.by_⟩
end Go.Proofs.Ytcnmaplopbbmaaa
