/- reach.Marks by its contract: the stages, looked at one place after the other. -/
import Derived.Test.YtcnmaplopbbmaaaGreatMBg
namespace Go.Proofs.YtcnmaplopbbmaaaGreat
open Go.RowKit Go.Maps
namespace Rs
def Run (f:M→List Gr.Tn) (m0:M) (most i:Nat):Prop:=∀ j,j < i→∃ l,(stage f m0 j).1[j]? = some l∧Gr.bad (f l)=false∧(stage f m0 (j+1)).1.length≤most
theorem Run.zero (f:M→List Gr.Tn) (m0:M) (most:Nat):Run f m0 most 0:=fun j hj=>by omega
theorem Run.more {f:M→List Gr.Tn} {m0:M} {most i:Nat} (h:Run f m0 most i) {l:M} (hl:(stage f m0 i).1[i]? = some l) (hb:Gr.bad (f l)=false) (hm:(stage f m0 (i+1)).1.length≤most):Run f m0 most (i+1):=fun j hj=>by
 by_cases e:j < i
 ·exact h j e
 ·obtain rfl:j=i:=by omega
  exact ⟨l,hl,hb,hm⟩
theorem Run.len {f:M→List Gr.Tn} {m0:M} {most i:Nat} (h:Run f m0 most i) (h1:1≤most):(stage f m0 i).1.length≤most:=by
 cases i with
 | zero=>exact h1
 | succ j=>obtain ⟨l,_,_,h2⟩:=h j (by omega);exact h2
theorem Run.rows {f:M→List Gr.Tn} {m0:M} {most i:Nat} (h:Run f m0 most i) (hi:i≤(stage f m0 i).1.length):(stage f m0 i).2.length=i :=
 stage_rows f m0 i hi fun j hj=>by obtain ⟨l,hl,_⟩:=h j hj;exact (List.getElem?_eq_some_iff.1 hl).1
theorem stage_next {f:M→List Gr.Tn} {m0:M} {i:Nat} {ls:List M} {rows:List Row} {l:M} (h:stage f m0 i=(ls,rows)) (hl:ls[i]? = some l):stage f m0 (i+1)=((run ls (f l)).1,rows++[(run ls (f l)).2]):=by
 rw [stage,h]
 simp only [hl]
theorem fold_take {ts:List Gr.Tn} {k:Nat} {x:Gr.Tn} (a:List M × Row) (h:ts[k]? = some x):(ts.take (k+1)).foldl step a=step ((ts.take k).foldl step a) x:=by
 rw [List.take_succ_eq_append_getElem (List.getElem?_eq_some_iff.1 h).1,List.foldl_append,(List.getElem?_eq_some_iff.1 h).2]
 rfl
theorem fold_ok {f:M→List Gr.Tn} {K:Int} {ls ls':List M} {rows:List Row} {row:Row} {l:M} (hG:Good f K) (hs:Ok K (ls,rows)) (hl:l.length=64) {k:Nat} (h:((f l).take k).foldl step (ls,[])=(ls',row)):ls'.Nodup∧∀ x∈ls',x.length=64:=by
 have h1:=(fold_inv ((f l).take k) (ls,[])).2.2.2.1 hs.1
 have h2:=run_ok (K:=K) (ts:=(f l).take k) (fun t ht=>hG.len l hl t (List.mem_of_mem_take ht)) (fun t ht=>hG.lab l t (List.mem_of_mem_take ht)) (ls,[]) hs.2.1 (by simp)
 rw [h] at h1 h2
 exact ⟨h1,h2.1⟩
theorem step_old {ls:List M} {row:Row} {lab:Int} {tl:M} {tb:Bool} (h:pos ls tl < ls.length):step (ls,row) (lab,tl,tb)=(ls,row++[(lab,(pos ls tl:Int))]):=by
 simp only [step,add,if_pos h]
theorem step_new {ls:List M} {row:Row} {lab:Int} {tl:M} {tb:Bool} (h:¬ pos ls tl < ls.length):step (ls,row) (lab,tl,tb)=(ls++[tl],row++[(lab,(ls.length:Int))]):=by
 have h1:=pos_le ls tl
 have h2:pos ls tl=ls.length:=by omega
 have e:add ls tl=ls++[tl]:=by
  unfold add
  rw [if_neg h]
 show (add ls tl,row++[(lab,(pos ls tl:Int))])=_
 rw [e,h2]
theorem fold_pre {ts:List Gr.Tn} {ls ls':List M} {row row':Row} (h:ts.foldl step (ls,row)=(ls',row')):∃ r,ls'=ls++r:=by
 have h1:=(fold_inv ts (ls,row)).2.2.2.2
 rwa [h] at h1
theorem take_more {ls r:List M} {i:Nat} {l:M} (h:ls[i]? = some l):(ls++r).take (i+1)=ls.take i++[l]:=by
 have hi:=(List.getElem?_eq_some_iff.1 h).1
 rw [List.take_append_of_le_length (by omega),List.take_succ_eq_append_getElem hi,(List.getElem?_eq_some_iff.1 h).2]
def over (l:M):Bool:=Mark.ofBools l == 0
end Rs
theorem own_new (w:World) (bs:Nat) (e:TypeId) (c0:Value) (hb:bs≤w.heap.size):(w.alloc (.cells #[c0] e)).ownsRow bs e 1 (.slice (some ⟨w.heap.size,0,none⟩) 1 1) 1 [c0] :=
 ⟨rfl,.inr ⟨w.heap.size,1,#[c0],rfl,hb,heap_alloc_new _ _,Nat.le_refl _,by unfold maxLen;omega,rfl,rfl⟩⟩
theorem law_mark:Keyed Tryz.prog 69:=int_keyed Tryz.underlying69
theorem zero_int17 (w:World):(zeroValue 3).run Tryz.prog w=.ok (.int .i64 0) w:=by kernel_rfl
theorem mark_lt {l:List Bool} (h:l.length=64):Mark.ofBools l < 18446744073709551616:=by
 have:=Mark.ofBools_lt l
 rwa [h] at this
theorem key_mark {l:List Bool} (h:l.length=64):keyOf Tryz.prog 69 (.int .u64 (Mark.ofBools l:Int))=some (Rs.ku l):=Maps.keyOf_int_mk Tryz.underlying69 (WalkArith.wf_u64 (by have:=mark_lt h;omega))
section
variable {H:Type} {P:Program}
theorem wpList_insert_own (w:World) {ops:Array Oper} {rest:List Oper} {o:Oper} {a:Act} {Q:Exit→Act→World→Prop}
  (hg:o.guard=none) (m x v:Operand) (t:TypeId) (hop:o.op=Op.insert t m x v)
  (k e:TypeId) (K:Keyed P k) (ht:P.underlying t=some (.map k e)) (R:Value→Option (DataW H × List MemPlace)) (b n:Nat) (D:DataW H)
  (hm:a.eval m=.map (some b)) (hown:w.ownsMap P k R b n D) (hn:n < maxLen) (key val:Value) (kl:Lit) (hx:a.eval x=key) (hv:a.eval v=val) (hkey:keyOf P k key=some kl)
  (d:DataW H) (ps:List MemPlace) (hval:R val=some (d,ps))
  (hK:∀ w',w'.ownsMap P k R b (n+1) (D.put kl d)→w.grownBy w' (some b)→wpList P ops Q rest (a.put o.dst undef) w') :
  wpList P ops Q (o :: rest) a w:=by
 refine wpList_plain hg fun K' hK'=>?_
 obtain ⟨w',hrun,r1,r2⟩:=hown.update K ht hn hkey hval
 unfold Oper.wp
 simp [execOp,hop,hm,hx,hv,hrun,Result.andThen]
 exact hK' _ _ (hK w' r1 r2)
end
theorem exec_appT {P:Program} {o:Oper} {ρ:Operand→Value} {w:World} {T:Value→World→Prop} (bs:Nat) (s x:Operand) (t:TypeId) (ho:o.op=.call { callee:=.builtin .append,args:=#[s,x],argTypes:=#[t,t] })
  (e:TypeId) (i:TypeInfo) (z:Value) (size bytes:Nat) (ht:P.underlying t=some (.slice e)) (hi:P.info? e=some i) (hz:i.zero=some z)
  (hsize:i.size=size) (hby:i.bytes=bytes) (hzs:z.cells.size=size) (hsz:0 < size)
  (v:Value) (n:Nat) (xs:List Value) (hs:ρ s=v) (hown:w.ownsRow bs e size v n xs) (hbs:bs≤w.heap.size)
  (q:Nat) (cs:List Value) (k cp:Nat) (hx:ρ x=.slice (some ⟨q,0,none⟩) k cp) (hcs:cs.length=k * size) (hq:∀ j u,cs[j]? = some u→w.cell? ⟨q,j,none⟩=some u) (h1:∀ u∈cs,u.oneCell'=true)
  (hn:n≤10000000000) (hk:k≤10000000000) (hb:bytes≤1000) (hT:∀ v' w',w'.ownsRow bs e size v' (n+k) (xs++cs)→w.grownBy w' v.ownBlock→T v' w') :
  ∃ v' w',(execOp ρ o).run P w=.ok (.value v') w'∧T v' w':=by
 obtain ⟨v',w',h,h2,h3⟩:=exec_appB bs s x t ho e i z size bytes ht hi hz hsize hby hzs hsz v n xs hs hown hbs q cs k cp hx hcs hq h1 hn hk hb
 exact ⟨v',w',h,hT v' w' h2 h3⟩
theorem row4_set17 (w:World) (X:Nat) (T:TypeId) {b0 b1 b2 b3:Value} (c0 c1 c2 c3:Value) (h:w.heap[X]? = some (.cells #[b0,b1,b2,b3] T (0,0))):((((w.setCell ⟨X,0,none⟩ c0).setCell ⟨X,1,none⟩ c1).setCell ⟨X,2,none⟩ c2).setCell ⟨X,3,none⟩ c3).heap[X]? = some (.cells #[c0,c1,c2,c3] T (0,0)) :=
 (set_cells ((set_cells ((set_cells ((set_cells h 0 c0).trans rfl) 1 c1).trans rfl) 2 c2).trans rfl) 3 c3).trans rfl
theorem row4_by (w:World) (X:Nat) (c0 c1 c2 c3:Value):w.grownBy ((((w.setCell ⟨X,0,none⟩ c0).setCell ⟨X,1,none⟩ c1).setCell ⟨X,2,none⟩ c2).setCell ⟨X,3,none⟩ c3) (some X) :=
 by_trans (by_trans (by_trans (by_set _ _ _ _) (by_set _ _ _ _)) (by_set _ _ _ _)) (by_set _ _ _ _)
theorem marks_res (tmps:Array Value) (w:World) (X:Nat) (c0 c1 c2 c3 u v:Value) (h1:tmps.getD 2 undef=u) (h2:tmps.getD 3 undef=.pointer (some ⟨X,0,none⟩)) (h3:tmps.getD 4 undef=v) (hx:w.heap[X]? = some (.cells #[c0,c1,c2,c3] 34 (0,0))) :
  (results Tryz.f16 tmps).run Tryz.prog w=.ok (.tuple #[u,.agg #[c0,c1,c2,c3],v]) w:=by
 have x0:=(cell_of_row w X 0 _ _ _ hx).trans rfl
 have x1:=(cell_of_row w X 1 _ _ _ hx).trans rfl
 have x2:=(cell_of_row w X 2 _ _ _ hx).trans rfl
 have x3:=(cell_of_row w X 3 _ _ _ hx).trans rfl
 simp at x0 x1 x2 x3
 simp only [Array.getD_eq_getD_getElem?] at h1 h2 h3
 simp [results,Tryz.results16,h1,h2,h3,x0,x1,x2,x3,go_sem]
theorem info_bool17:(Tryz.prog.info? 4).map (fun i=>(i.zero,i.size,i.bytes))=some (some (.bool false),1,1):=by kernel_rfl
theorem info_mark17:(Tryz.prog.info? 69).map (fun i=>(i.zero,i.size,i.bytes))=some (some (.int .u64 0),1,8):=by kernel_rfl
theorem info_moves17:(Tryz.prog.info? 74).map (fun i=>(i.zero,i.size,i.bytes))=some (some (.slice none 0 0),1,24):=by kernel_rfl
theorem info_move17:(Tryz.prog.info? 76).map (fun i=>(i.zero,i.size,i.bytes))=some (some (.agg #[.int .i64 0,.int .i64 0]),2,16):=by kernel_rfl
theorem info_parts17 {o:Option TypeInfo} {z:Value} {s b:Nat} (h:o.map (fun i=>(i.zero,i.size,i.bytes))=some (some z,s,b)):∃ i,o=some i∧i.zero=some z∧i.size=s∧i.bytes=b:=by
 cases o with
 | none=>cases h
 | some i =>
  simp only [Option.map_some,Option.some.injEq,Prod.mk.injEq] at h
  exact ⟨i,rfl,h.1,h.2.1,h.2.2⟩
theorem Rs.look_one (m0:Rs.M):Mo.Ord ((DataW.map []).put (Rs.ku m0) (.lit (.int .i64 0))) (([m0]:List Rs.M).map Rs.ku) :=
 (Mo.Ord.push (l:=[]) ⟨tidy_empty,List.nodup_nil,rfl,fun k=>by simp [Maps.has],fun q k h=>by simp at h⟩ (Rs.ku_is m0) (by simp))
theorem row4_res {W w:World} {B:Nat} {gv:Array Value} {Nb X:Nat} {K:Int} {vf vm:Value} {fin:List Bool} {rows:List Rs.Row} {vs:List Value} (h:Rs.Rr W w B gv Nb X K vf vm fin rows vs) (c0 c1 c2 c3:Value) :
  W.grownBy ((((w.setCell ⟨X,0,none⟩ c0).setCell ⟨X,1,none⟩ c1).setCell ⟨X,2,none⟩ c2).setCell ⟨X,3,none⟩ c3) (some B)∧((((w.setCell ⟨X,0,none⟩ c0).setCell ⟨X,1,none⟩ c1).setCell ⟨X,2,none⟩ c2).setCell ⟨X,3,none⟩ c3).heap[B]? = some (.cells gv 94 (0,0)) ∧
   Rs.NS ((((w.setCell ⟨X,0,none⟩ c0).setCell ⟨X,1,none⟩ c1).setCell ⟨X,2,none⟩ c2).setCell ⟨X,3,none⟩ c3) W.heap.size vf vm fin rows vs :=
 have t:=TY.blk h.rb
 have k:=row4_by w X c0 c1 c2 c3
 ⟨by_own h.by_ k (fun g e=>by cases e;exact h.lo.2.2.1),t.keep_blk k h.game (by decide),h.st.ty t k (by decide) (by decide) (by decide)⟩
def Rs.Left (W w:World) (B:Nat) (v0 v1 v2 v3 lv:Value) (g:Gr.G) (L:List Gr.Lb) (f:Rs.M→List Gr.Tn) (m0:Rs.M) (e:Ending):Prop :=
 W.grownBy w (some B)∧(∃ u,Gr.Gm w B v0 v1 v2 v3 lv g L (Gr.err u 0))∧∃ i,Rs.Run f m0 2000 i ∧
  ((i=(Rs.stage f m0 i).1.length∧∃ vl vf vm vs,e=.returned (.tuple #[vl,.agg #[.int .i64 (L.length:Int),.int .i64 0,vf,vm],.int .i64 0]) ∧
     w.ownsRow W.heap.size 69 1 vl i ((Rs.stage f m0 i).1.map Rs.mcell)∧Rs.NS w W.heap.size vf vm ((Rs.stage f m0 i).1.map Rs.over) (Rs.stage f m0 i).2 vs) ∨
    (∃ l,(Rs.stage f m0 i).1[i]? = some l∧((Gr.bad (f l)=true∧e=.returned (.tuple #[.slice none 0 0,.agg #[.int .i64 0,.int .i64 0,.slice none 0 0,.slice none 0 0],.int .i64 11])) ∨
      (Gr.bad (f l)=false∧2000 < (Rs.stage f m0 (i+1)).1.length∧e=.returned (.tuple #[.slice none 0 0,.agg #[.int .i64 0,.int .i64 0,.slice none 0 0,.slice none 0 0],.int .i64 12])))))
set_option maxRecDepth 100000 in
set_option maxHeartbeats 16000000 in
theorem marks_any (B:Nat) (v0 v1 v2 v3 lv:Value) (g:Gr.G) (L:List Gr.Lb) (f:Rs.M→List Gr.Tn) (m0:Rs.M) (W:World) (hF:g.Fit) (hf:f=fun l=>g.turns L (l,false)) (hm0:m0=g.first.1) (h64:m0.length=64) (hG:Rs.Good f L.length)
  (hL:L.length≤1000000) (hS:Gr.Srt L) (hZ:∀ i < g.ns.length,(g.nd i).kind=3→(g.nd i).rep < 0→Gr.idx L (0,0,0)=Gr.idx L (g.nd i).back) (hns:g.ns.length≤1000)
  (h:Gr.Gm W B v0 v1 v2 v3 lv g L (Gr.err false 0)) :
  Calls Tryz.prog 16 #[.pointer (some ⟨B,0,none⟩)] W fun e w'=>Rs.Left W w' B v0 v1 v2 v3 lv g L f m0 e:=by
 have HGm:=Lib.hid h
 have HFst:Hid (∀ w,Flow.Grow W w→Calls Tryz.prog 28 #[.pointer (some ⟨B,0,none⟩)] w fun e w'=>e=.returned (.int .u64 (Mark.ofBools m0:Int))∧Flow.Grow w w'):=Lib.hid fun w hg=>by
  rw [hm0]
  exact gfirst_any B v0 v1 v2 v3 lv g L _ w hF (h.grow hg)
 have HLab:Hid (∀ w,Flow.Grow W w→Calls Tryz.prog 17 #[.pointer (some ⟨B,0,none⟩)] w fun e w'=>(∃ va vc,e=.returned (.slice va L.length vc))∧Flow.Grow w w'):=Lib.hid fun w hg=>(glabels_any B v0 v1 v2 v3 lv g L _ w hL (h.grow hg)).mono fun e w' ⟨⟨v',he,ho⟩,hg⟩=>by
  obtain ⟨va,vc,rfl⟩:=own_form ho
  exact ⟨⟨va,vc,he⟩,hg⟩
 have HTu:Hid (∀ w u (l:List Bool),l.length=64→Gr.Gm w B v0 v1 v2 v3 lv g L (Gr.err u 0)→Calls Tryz.prog 29 #[.pointer (some ⟨B,0,none⟩),.int .u64 (Mark.ofBools l:Int)] w fun e w'=>∃ out,e=.returned out∧Gr.TI w w' B v0 v1 v2 v3 lv g L (u || Gr.bad (f l)) out (f l)):=Lib.hid fun w u l hl hg=>by
  rw [hf]
  exact turns_any B v0 v1 v2 v3 lv g L u l w hl hF hL hS hZ hg
 have HUn:Hid (∀ w u,Gr.Gm w B v0 v1 v2 v3 lv g L (Gr.err u 0)→Calls Tryz.prog 30 #[.pointer (some ⟨B,0,none⟩)] w fun e w'=>e=.returned (.bool u)∧w=w'):=Lib.hid fun w u hg=>unsafe_any B v0 v1 v2 v3 lv g L u w hg
 have HOv:Hid (∀ w (l:List Bool),l.length=64→Calls Tryz.prog 31 #[.int .u64 (Mark.ofBools l:Int)] w fun e w'=>e=.returned (.bool (Rs.over l))∧w=w'):=Lib.hid fun w l hl=>by
  have k:=over_any (Mark.ofBools l) (mark_lt hl) w
  rwa [Rs.over_eq hl] at k
 have HTn:Hid (∀ l,(f l).length≤4096000):=Lib.hid fun l=>by
  rw [hf]
  have k:=flat_len_le (fun i=>g.nodeT L i (l,false)) 4096 (fun i=>Gr.G.nodeT_len hF L i (l,false)) (List.range g.ns.length)
  rw [List.length_range] at k
  refine Nat.le_trans k ?_
  have:=Nat.mul_le_mul_right 4096 hns
  omega
 have HSt:=Lib.hid (Rs.stage_ok hG h64)
 have HGd:=Lib.hid hG
 have H64:=Lib.hid h64
 have HB:=Lib.hid h.lt
 clear hF hf hm0 hS hZ hns h hG h64
 have hmm:=@run_makeMap Tryz.prog
 go_enter Tryz.func16,Tryz.ntmps16
 go_upto_region 3 with fail
 have HBw10:Hid ((W.alloc (.cells #[.int .i64 0,.int .i64 0,.slice none 0 0,.slice none 0 0] 34)).heap[W.heap.size]? = some (.cells #[.int .i64 0,.int .i64 0,.slice none 0 0,.slice none 0 0] 34 (0,0))):=Lib.hid (lay1_0 _ _)
 have HGw1:Hid (Flow.Grow W (W.alloc (.cells #[.int .i64 0,.int .i64 0,.slice none 0 0,.slice none 0 0] 34))):=Lib.hid (lay1_g _ _)
 have HSw1:Hid ((W.alloc (.cells #[.int .i64 0,.int .i64 0,.slice none 0 0,.slice none 0 0] 34)).heap.size=W.heap.size+1):=Lib.hid (by simp)
 generalize W.alloc (.cells #[.int .i64 0,.int .i64 0,.slice none 0 0,.slice none 0 0] 34)=w1 at *
 obtain ⟨X,hX⟩:∃ X,X=W.heap.size:=⟨_,rfl⟩
 rw [← hX] at HBw10 HSw1 ⊢
 have HXw1:=Lib.hid hX
 clear hX
 have CXw1:Hid (∀ wq,Flow.Grow w1 wq→wq.cell? ⟨X,0,none⟩=some (.int .i64 0)∧wq.cell? ⟨X,1,none⟩=some (.int .i64 0)∧wq.cell? ⟨X,2,none⟩=some (.slice none 0 0)∧wq.cell? ⟨X,3,none⟩=some (.slice none 0 0)):=Lib.hid (fun wq g=>⟨lay_cell g HBw10.out rfl,lay_cell g HBw10.out rfl,lay_cell g HBw10.out rfl,lay_cell g HBw10.out rfl⟩)
 have FXw1:Hid (∀ wq,Flow.Grow w1 wq→(∀ k,wq.frozen? ⟨X,k,none⟩=false)):=Lib.hid (fun wq g=>fun k=>lay_frozen g HBw10.out k)
 have HMb:Hid ((w1.alloc (.map #[] 0)).ownsMap Tryz.prog 69 (plainElem (H:=Unit) Tryz.prog 3) w1.heap.size 0 (.map [])):=Lib.hid (World.ownsMap_made w1 Tryz.prog 69 (plainElem (H:=Unit) Tryz.prog 3))
 go_upto_region 4 with (first
  | (go_at_call 28;refine (HFst.out _ (HGw1.out.trans (Flow.grow_alloc w1 (.map #[] 0)))).mono ?_;rintro e w2 ⟨rfl,hg⟩;have HG2:=Lib.hid hg;clear hg)
  | (refine wpList_insert_own _ rfl _ _ _ 95 rfl 69 3 law_mark Tryz.underlying95 _ w1.heap.size 0 (.map []) rfl (World.ownsMap.kept (row:=none) HMb.out HG2.out (by simp)) (by unfold maxLen;omega) (.int .u64 (Mark.ofBools m0:Int)) (.int .i64 0) _ rfl rfl (key_mark H64.out) _ [] (plainElem_int Tryz.underlying3 (by decide)) ?_;intro w3 hm hk;have HM3:=Lib.hid hm;have HK3:=Lib.hid hk;clear hm hk))
 obtain ⟨Mb,hMb⟩:∃ Mb,Mb=w1.heap.size:=⟨_,rfl⟩
 rw [← hMb] at HM3 HK3 ⊢
 have HMs:=Lib.hid hMb
 have HG3:Hid (Flow.Grow w1 w3):=Lib.hid (grow_row ((Flow.grow_alloc w1 (.map #[] 0)).trans HG2.out) HK3.out (fun b e=>by cases e;exact Nat.le_of_eq HMs.out.symm))
 clear hMb HMb HG2 HK3 hmm
 go_upto_region 5 with (go_at_call 28;refine (HFst.out _ (HGw1.out.trans HG3.out)).mono ?_;rintro e w4 ⟨rfl,hg⟩;have HG4:=Lib.hid (HG3.out.trans hg);have HM4:=Lib.hid (World.ownsMap.kept (row:=none) HM3.out hg (by simp));clear hg)
 clear HM3 HG3
 have HO5:=Lib.hid (own_new w4 W.heap.size 69 (.int .u64 (Mark.ofBools m0:Int)) (HGw1.out.trans HG4.out).size)
 have HM5:=Lib.hid (World.ownsMap.kept (row:=none) HM4.out (Flow.grow_alloc w4 (.cells #[.int .u64 (Mark.ofBools m0:Int)] 69)) (by simp))
 have HG5:Hid (Flow.Grow w1 (w4.alloc (.cells #[.int .u64 (Mark.ofBools m0:Int)] 69))):=Lib.hid (HG4.out.trans (Flow.grow_alloc _ _))
 generalize w4.alloc (.cells #[.int .u64 (Mark.ofBools m0:Int)] 69)=w5 at *
 clear HG4 HM4
 go_upto_region 6 with (go_at_call 17;refine (HLab.out _ (HGw1.out.trans HG5.out)).mono ?_;rintro e w6 ⟨⟨va,vc,rfl⟩,hg⟩;have HG6:=Lib.hid (HG5.out.trans hg);have HM6:=Lib.hid (World.ownsMap.kept (row:=none) HM5.out hg (by simp));have HO6:=Lib.hid (own_keep HO5.out hg);clear hg)
 clear HG5 HM5 HO5
 have HBw70:Hid ((w6.alloc (.cells #[.int .i64 (L.length:Int),.int .i64 0,.slice none 0 0,.slice none 0 0] 34)).heap[w6.heap.size]? = some (.cells #[.int .i64 (L.length:Int),.int .i64 0,.slice none 0 0,.slice none 0 0] 34 (0,0))):=Lib.hid (lay1_0 _ _)
 have HGw7:Hid (Flow.Grow w6 (w6.alloc (.cells #[.int .i64 (L.length:Int),.int .i64 0,.slice none 0 0,.slice none 0 0] 34))):=Lib.hid (lay1_g _ _)
 have HSw7:Hid ((w6.alloc (.cells #[.int .i64 (L.length:Int),.int .i64 0,.slice none 0 0,.slice none 0 0] 34)).heap.size=w6.heap.size+1):=Lib.hid (by simp)
 generalize w6.alloc (.cells #[.int .i64 (L.length:Int),.int .i64 0,.slice none 0 0,.slice none 0 0] 34)=w7 at *
 obtain ⟨Nb,hNb⟩:∃ X,X=w6.heap.size:=⟨_,rfl⟩
 rw [← hNb] at HBw70 HSw7 ⊢
 have HXw7:=Lib.hid hNb
 clear hNb
 have CXw7:Hid (∀ wq,Flow.Grow w7 wq→wq.cell? ⟨Nb,0,none⟩=some (.int .i64 (L.length:Int))∧wq.cell? ⟨Nb,1,none⟩=some (.int .i64 0)∧wq.cell? ⟨Nb,2,none⟩=some (.slice none 0 0)∧wq.cell? ⟨Nb,3,none⟩=some (.slice none 0 0)):=Lib.hid (fun wq g=>⟨lay_cell g HBw70.out rfl,lay_cell g HBw70.out rfl,lay_cell g HBw70.out rfl,lay_cell g HBw70.out rfl⟩)
 have FXw7:Hid (∀ wq,Flow.Grow w7 wq→(∀ k,wq.frozen? ⟨Nb,k,none⟩=false)):=Lib.hid (fun wq g=>fun k=>lay_frozen g HBw70.out k)
 have HRr:Hid (Rs.Rr W w7 B (Gr.gcells v0 v1 v2 v3 lv (Gr.err false 0)) Nb X (L.length:Int) (.slice none 0 0) (.slice none 0 0) [] [] []):=Lib.hid (by
  have g7:Flow.Grow W w7:=HGw1.out.trans (HG6.out.trans HGw7.out)
  have h1:=HG6.out.size
  have h2:=HSw1.out
  have h3:=HXw1.out
  have h4:=HXw7.out
  exact ⟨by_grow g7,heap_keep g7 HGm.out.row,⟨HB.out,by omega,by omega,by omega⟩,HBw70.out,heap_keep (HG6.out.trans HGw7.out) HBw10.out,World.ownsRow_nil _ _ _ _,World.ownsRow_nil _ _ _ _,rfl,fun j hj=>by simp at hj,fun i j hi=>by simp at hi⟩)
 have HPm:Hid (Rs.Pm W w7 Mb ((DataW.map []).put (Rs.ku m0) (.lit (.int .i64 0))) (.slice (some ⟨w4.heap.size,0,none⟩) 1 1) [m0]):=Lib.hid (by
  refine ⟨?_,World.ownsMap.kept (row:=none) HM6.out HGw7.out (by simp),?_,own_keep HO6.out HGw7.out⟩
  ·rw [HMs.out];exact HGw1.out.size
  ·exact Rs.look_one m0)
 clear HG6 HM6 HO6 HBw10 CXw1 FXw1 HMs HSw1 HXw1 HBw70 CXw7 FXw7 HSw7 HXw7 HLab HFst
 generalize ((DataW.map []).put (Rs.ku m0) (.lit (.int .i64 0)):DataW Unit)=D0 at *
 have Hm0:Hid (Rs.stage f m0 0=([m0],[])):=Lib.hid rfl
 have hx0:=(cell_of_row w7 X 0 _ _ _ HRr.out.rb).trans rfl
 clear hx0
 obtain ⟨i1,hi1,hy0,hy1,hy2⟩:=info_parts17 info_bool17
 obtain ⟨i2,hi2,hz0,hz1,hz2⟩:=info_parts17 info_mark17
 obtain ⟨i3,hi3,ht0,ht1,ht2⟩:=info_parts17 info_moves17
 obtain ⟨i4,hi4,hv0,hv1,hv2⟩:=info_parts17 info_move17
 have HI1:=Lib.hid (And.intro hi1 (And.intro hy0 (And.intro hy1 hy2)))
 have HI2:=Lib.hid (And.intro hi2 (And.intro hz0 (And.intro hz1 hz2)))
 have HI3:=Lib.hid (And.intro hi3 (And.intro ht0 (And.intro ht1 ht2)))
 have HI4:=Lib.hid (And.intro hi4 (And.intro hv0 (And.intro hv1 hv2)))
 clear hi1 hy0 hy1 hy2 hi2 hz0 hz1 hz2 hi3 ht0 ht1 ht2 hi4 hv0 hv1 hv2
 go_wp2_with fail
 go_loopw [6,8] (fun vl vi wo=>∃ (i:Nat) (D:DataW Unit) (vf vm:Value) (ls:List Rs.M) (rows:List Rs.Row) (vs:List Value),i≤ls.length∧ls.length≤2000∧rows.length=i∧vi=.int .i64 (i:Int)∧Hid (Rs.stage f m0 i=(ls,rows))∧Hid (Rs.Run f m0 2000 i)∧Hid (Rs.Rr W wo B (Gr.gcells v0 v1 v2 v3 lv (Gr.err false 0)) Nb X (L.length:Int) vf vm ((ls.take i).map Rs.over) rows vs)∧Hid (Rs.Pm W wo Mb D vl ls)) (fun _ vi _=>2001 - (intOf vi).toNat)
 case atStart=>exact ⟨0,D0,_,_,[m0],[],[],by simp,by simp,rfl,rfl,Hm0,Lib.hid (Rs.Run.zero _ _ _),HRr,HPm⟩
 case round =>
  clear HRr HPm Hm0
  obtain ⟨i,D,vf,vm,ls,rows,vs,hil,hl2,hrl,rfl,HSg,HRun,HRr,HPm⟩:=hrel
  rename World=>wo
  obtain ⟨va,hva⟩:∃ va,va=u6:=⟨_,rfl⟩
  obtain ⟨la,lc,hla⟩:=own_form HPm.out.l
  subst hla
  clear hva
  have HSo:=Lib.hid (HSt.out i)
  rw [HSg.out] at HSo
  have Hrl:=Lib.hid hrl
  have hLo:L.length≤1000000:=hL
  obtain ⟨n,hn⟩:∃ n,n=ls.length:=⟨_,rfl⟩
  have Hn:=Lib.hid hn
  have HGo:Hid (Gr.Gm wo B v0 v1 v2 v3 lv g L (Gr.err false 0)):=Lib.hid (HGm.out.by HRr.out.by_ HRr.out.game)
  rw [← hn] at hil hl2 ⊢
  clear hn hrl
  by_cases hin:i < n
  ·obtain ⟨lb,rfl⟩:=own_at HPm.out.l (by rw [← Hn.out];omega)
   obtain ⟨l,hl⟩:∃ l,ls[i]? = some l:=⟨_,List.getElem?_eq_getElem (by rw [← Hn.out];exact hin)⟩
   have hl64:=HSo.out.2.1 l (List.mem_of_getElem? hl)
   have Hl64:=Lib.hid hl64
   have q0:wo.cell? ⟨lb,i,none⟩=some (.int .u64 (Mark.ofBools l:Int)):=by
    have k0:=HPm.out.l.cells (g:=lb) rfl i (.int .u64 (Mark.ofBools l:Int)) (by rw [List.getElem?_map,hl];rfl)
    rwa [Addr.add_lit,Nat.zero_add] at k0
   have Hl:=Lib.hid hl
   have d1:decide ((i:Int) < (n:Int))=true:=by simp;omega
   have d1':decide (i < n)=true:=by simp;omega
   clear hl hl64
   go_upto_region 11 with (go_at_call 29;refine (HTu.out wo false l Hl64.out HGo.out).mono ?_;rintro e wt ⟨out,rfl,hti⟩;obtain ⟨oa,oc,hoa⟩:=own_form hti.own;subst hoa;have HTi:=Lib.hid hti;clear hti)
   clear d1 d1' q0
   have HTm:=HTn.out l
   obtain ⟨TS,hTS⟩:∃ TS,TS=f l:=⟨_,rfl⟩
   rw [← hTS] at HTi HTm ⊢
   have HTS:=Lib.hid hTS
   clear hTS
   obtain ⟨F,hFe⟩:∃ F,F=Gr.bad TS:=⟨_,rfl⟩
   rw [← hFe] at HTi
   have HFe:=Lib.hid hFe
   clear hFe
   have HRr1:=Lib.hid (HRr.out.gm HTi.out.by_ HTi.out.gm.row)
   have HPm1:=Lib.hid (HPm.out.ty (TY.blk HGo.out.row) HTi.out.by_ (by simp) (by decide))
   have HOld:=Lib.hid HRr.out.old
   have HWo:=Lib.hid HRr.out.by_.size
   have HRw1:Hid (Rs.Rw wt wo.heap.size (.slice none 0 0) [] (.slice oa TS.length oc) TS):=Lib.hid ⟨World.ownsRow_nil _ _ _ _,HTi.out.own⟩
   have HSz:=Lib.hid HTi.out.by_.size
   clear HTi HRr HPm
   generalize wo.heap.size=S at *
   obtain ⟨m,hm⟩:∃ m,m=TS.length:=⟨_,rfl⟩
   have Hm:=Lib.hid hm
   rw [← hm] at HTm HRw1 ⊢
   clear hm
   rw [Bool.false_or] at HRr1
   generalize hgv:Gr.gcells v0 v1 v2 v3 lv (Gr.err F 0)=gv1 at *
   have Hgv:=Lib.hid hgv
   clear hgv
   go_wp2_with fail
   go_loopw [6,9,41] (fun vl vr vk wk=>∃ (k:Nat) (D':DataW Unit) (ls':List Rs.M) (row:Rs.Row),k≤m∧vk=.int .i64 (k:Int)∧row.length=k∧ls'.length≤n+k∧Hid ((TS.take k).foldl Rs.step (ls,[])=(ls',row))∧Hid (Rs.Rr W wk B gv1 Nb X (L.length:Int) vf vm ((ls.take i).map Rs.over) rows vs)∧Hid (Rs.Pm W wk Mb D' vl ls')∧Hid (Rs.Rw wk S vr row (.slice oa m oc) TS)∧Hid (S≤wk.heap.size)) (fun _ _ vk _=>m - (intOf vk).toNat)
   case atStart=>exact ⟨0,D,ls,[],by omega,rfl,rfl,by have:=Hn.out;omega,Lib.hid rfl,HRr1,by rw [Hn.out];exact HPm1,HRw1,HSz⟩
   case round =>
    clear HRr1 HPm1 HRw1 HSz HGo
    obtain ⟨k,D',ls',row,hk,rfl,hrk,hlk,HFd,HRr,HPm,HRw,HSz⟩:=hrel
    rename World=>wk
    obtain ⟨va,hva⟩:∃ va,va=u6:=⟨_,rfl⟩
    obtain ⟨la',lc',hla⟩:=own_form HPm.out.l
    subst hla
    clear hva
    obtain ⟨vb,hvb⟩:∃ vb,vb=u9:=⟨_,rfl⟩
    obtain ⟨ra,rc,hra⟩:=own_form HRw.out.row
    subst hra
    clear hvb
    have Hrk:=Lib.hid hrk
    rw [hrk] at HRw ⊢
    clear hrk
    obtain ⟨n',hn'⟩:∃ n',n'=ls'.length:=⟨_,rfl⟩
    have Hn':=Lib.hid hn'
    rw [← hn'] at hlk ⊢
    clear hn'
    have HOk:Hid (ls'.Nodup∧∀ x∈ls',x.length=64):=Lib.hid (Rs.fold_ok HGd.out HSo.out Hl64.out (by rw [← HTS.out];exact HFd.out))
    by_cases hkm:k < m
    ·have ht0:wk.ownsRow S 99 2 (.slice oa m oc) m (TS.flatMap Gr.tcells):=by
      have h0:=HRw.out.ts
      rwa [← Hm.out] at h0
     obtain ⟨ob,rfl⟩:=own_at ht0 (by omega)
     obtain ⟨x,hx⟩:∃ x,TS[k]? = some x:=⟨_,List.getElem?_eq_getElem (by rw [← Hm.out];exact hkm)⟩
     have htl:x.2.1.length=64:=HGd.out.len l Hl64.out x (by rw [← HTS.out];exact List.mem_of_getElem? hx)
     have HNx:=Lib.hid (Rs.fold_take (ls,[]) hx)
     have r1:=own_range (f:=Gr.tcells) (fun _=>rfl) ht0 hx
     obtain ⟨lab,tl,tb⟩:=x
     simp only at htl
     have Htl:=Lib.hid htl
     have g0:wk.cell? ⟨ob,k * 2,none⟩=some (.int .i64 lab):=r1 0 _ rfl
     have g1:wk.cell? ⟨ob,k * 2+1,none⟩=some (.int .u64 (Mark.ofBools tl:Int)):=r1 1 _ rfl
     clear r1 hx htl ht0
     rw [HFd.out] at HNx
     have hmw:m≤4096000:=HTm
     go_upto_region 13 with fail
     clear g0 g1
     have HBwa0:Hid ((wk.alloc (.cells #[.int .i64 lab,.int .u64 (Mark.ofBools tl:Int)] 99)).heap[wk.heap.size]? = some (.cells #[.int .i64 lab,.int .u64 (Mark.ofBools tl:Int)] 99 (0,0))):=Lib.hid (lay1_0 _ _)
     have HGwa:Hid (Flow.Grow wk (wk.alloc (.cells #[.int .i64 lab,.int .u64 (Mark.ofBools tl:Int)] 99))):=Lib.hid (lay1_g _ _)
     have HSwa:Hid ((wk.alloc (.cells #[.int .i64 lab,.int .u64 (Mark.ofBools tl:Int)] 99)).heap.size=wk.heap.size+1):=Lib.hid (by simp)
     generalize wk.alloc (.cells #[.int .i64 lab,.int .u64 (Mark.ofBools tl:Int)] 99)=wa at *
     obtain ⟨T,hT⟩:∃ X,X=wk.heap.size:=⟨_,rfl⟩
     rw [← hT] at HBwa0 HSwa ⊢
     have HXwa:=Lib.hid hT
     clear hT
     have CXwa:Hid (∀ wq,Flow.Grow wa wq→wq.cell? ⟨T,0,none⟩=some (.int .i64 lab)∧wq.cell? ⟨T,1,none⟩=some (.int .u64 (Mark.ofBools tl:Int))):=Lib.hid (fun wq g=>⟨lay_cell g HBwa0.out rfl,lay_cell g HBwa0.out rfl⟩)
     have FXwa:Hid (∀ wq,Flow.Grow wa wq→(∀ k,wq.frozen? ⟨T,k,none⟩=false)):=Lib.hid (fun wq g=>fun k=>lay_frozen g HBwa0.out k)
     have HRra:=Lib.hid (HRr.out.keep HGwa.out)
     have HPma:=Lib.hid (HPm.out.keep HGwa.out)
     have HRwa:=Lib.hid (HRw.out.keep HGwa.out)
     have HSza:Hid (S≤wa.heap.size):=Lib.hid (Nat.le_trans HSz.out HGwa.out.size)
     clear HRr HPm HRw HSz HSwa HXwa HGwa
     obtain ⟨c00,c01⟩:=CXwa.out wa (Flow.grow_refl _)
     have HLk:=Lib.hid (Rs.look HPma.out.ord HOk.out.1 HOk.out.2 Htl.out)
     by_cases hp:Rs.pos ls' tl < ls'.length
     ·have Hp:=Lib.hid hp
      rw [Rs.step_old hp] at HNx
      obtain ⟨q,hq⟩:∃ q,q=Rs.pos ls' tl:=⟨_,rfl⟩
      have Hq:=Lib.hid hq
      rw [← hq] at HNx
      have hh:Maps.has D' (Rs.ku tl)=true:=by rw [HLk.out.1,decide_eq_true_eq];exact hp
      have Hh:=Lib.hid hh
      clear hp hh hq
      go_upto_region 14 with (at_lookup;refine wpList_lookup_own_ok_int _ rfl _ _ 95 rfl 69 3 .i64 law_mark Tryz.underlying95 Tryz.underlying3 (zero_int17 _) Mb ls'.length D' rfl HPma.out.m (.int .u64 (Mark.ofBools tl:Int)) _ rfl (key_mark Htl.out) ?_;intro cx hat hwc;rw [Hh.out];have HCx:=Lib.hid hat;clear hat hwc)
      obtain rfl:cx=(q:Int):=by
       have h1:=HCx.out.symm.trans (HLk.out.2 Hp.out)
       rw [← Hq.out] at h1
       simpa using h1
      clear HCx HLk Hh
      have HRo:Hid (wa.ownsRow S 76 2 (.slice ra k rc) k (Rs.flat2 row)):=Lib.hid (by
       have h1:=HRwa.out.row
       rwa [Hrk.out] at h1)
      go_wp2_with (at_builtin;refine wpList_plain rfl fun K hK=>?_;refine wp_appB S _ _ 74 rfl 76 i4 _ 2 16 Tryz.underlying74 HI4.out.1 HI4.out.2.1 HI4.out.2.2.1 HI4.out.2.2.2 rfl (by decide) (.slice ra k rc) k (Rs.flat2 row) rfl (own_keep HRo.out (Flow.grow_alloc wa (.cells #[.int .i64 lab,.int .i64 (q:Int)] 76))) (by have:=HSza.out;simp;omega) _ [.int .i64 lab,.int .i64 (q:Int)] 1 1 rfl rfl (cells_of (heap_alloc_new _ _)) (by intro u hu;simp at hu;rcases hu with rfl | rfl <;> rfl) (by omega) (by decide) (by decide) ?_;intro v' w' ho hk;refine hK _ _ ?_;have HOw:=Lib.hid ho;have HKw:=Lib.hid hk;clear ho hk hK)
      have HOl:=Lib.hid (own_keep HRwa.out.row (Flow.grow_alloc wa (.cells #[.int .i64 lab,.int .i64 (q:Int)] 76)))
      have HOx:Hid (w'.ownsRow S 76 2 v' (row.length+1) (Rs.flat2 row++[.int .i64 lab,.int .i64 (q:Int)])):=Lib.hid (by
       have h1:=HOw.out
       rw [← Hrk.out] at h1
       exact h1)
      have HR2:=Lib.hid ((HRra.out.keep (Flow.grow_alloc wa (.cells #[.int .i64 lab,.int .i64 (q:Int)] 76))).mv HOld.out HWo.out HOl.out HKw.out)
      have HP2:=Lib.hid ((HPma.out.keep (Flow.grow_alloc wa (.cells #[.int .i64 lab,.int .i64 (q:Int)] 76))).ty (TY.own HOl.out) HKw.out (by simp) (by decide))
      have HW2:=Lib.hid ((HRwa.out.keep (Flow.grow_alloc wa (.cells #[.int .i64 lab,.int .i64 (q:Int)] 76))).more (x:=(lab,(q:Int))) HOx.out HKw.out)
      have HS2:Hid (S≤w'.heap.size):=Lib.hid (Nat.le_trans HSza.out (Nat.le_trans (Flow.grow_alloc wa (.cells #[.int .i64 lab,.int .i64 (q:Int)] 76)).size HKw.out.size))
      go_roundw
      case rel=>exact ⟨k+1,D',ls',row++[(lab,(q:Int))],by omega,by go_num,by rw [List.length_append,Hrk.out];rfl,by rw [← Hn'.out];omega,HNx,HR2,by rw [Hn'.out];exact HP2,HW2,HS2⟩
      case measure=>simp [intOf];omega
     ·have hh:Maps.has D' (Rs.ku tl)=false:=by rw [HLk.out.1,decide_eq_false_iff_not];exact hp
      have Hh:=Lib.hid hh
      rw [Rs.step_new hp,← Hn'.out] at HNx
      have Hp:=Lib.hid hp
      clear hp hh HLk
      go_upto_region 17 with (first
       | (at_lookup;refine wpList_lookup_own_ok_int _ rfl _ _ 95 rfl 69 3 .i64 law_mark Tryz.underlying95 Tryz.underlying3 (zero_int17 _) Mb ls'.length D' rfl HPma.out.m (.int .u64 (Mark.ofBools tl:Int)) _ rfl (key_mark Htl.out) ?_;intro cx hat hwc;rw [Hh.out];clear hat hwc)
       | (at_mapUpdate;refine wpList_mapUpdate_own _ rfl _ _ _ 95 rfl 69 3 law_mark Tryz.underlying95 _ Mb ls'.length D' rfl HPma.out.m (by have:=Hn'.out;unfold maxLen;omega) (.int .u64 (Mark.ofBools tl:Int)) (.int .i64 (n':Int)) _ rfl rfl (key_mark Htl.out) _ [] (plainElem_int Tryz.underlying3 (WalkArith.wf_i64 (by omega))) ?_;intro wm hm hk;have HMm:=Lib.hid hm;have HKm:=Lib.hid hk;clear hm hk))
      rw [Hn'.out] at HMm
      obtain ⟨es,cl,hmb⟩:=map_at HPma.out.m
      have HT1:=Lib.hid (TY.map hmb)
      have HTb:=Lib.hid (HT1.out.keep_blk HKm.out HBwa0.out (by simp))
      have HRrm:=Lib.hid (HRra.out.ty HT1.out HKm.out (fun g e=>by cases e;exact HPma.out.lo) (by simp) (by simp) (by simp) (by simp) (by simp))
      have HRwm:=Lib.hid (HRwa.out.ty HT1.out HKm.out (by simp) (by simp))
      have HLm:=Lib.hid (HT1.out.keep_own HKm.out HPma.out.l (by simp))
      have HSm:Hid (S≤wm.heap.size):=Lib.hid (Nat.le_trans HSza.out HKm.out.size)
      have HPmo:=HPma
      have HLn:Hid (wm.ownsRow W.heap.size 69 1 (.slice la' n' lc') n' (ls'.map Rs.mcell)):=Lib.hid (by
       rw [Hn'.out]
       exact HLm.out)
      have c10:=(cell_of_row wm T 0 _ _ _ HTb.out).trans rfl
      have c11:=(cell_of_row wm T 1 _ _ _ HTb.out).trans rfl
      simp at c10 c11
      clear hmb HRra HRwa HPma HSza c00 c01 HBwa0 HKm HT1
      go_upto_region 18 with (at_builtin;refine wpList_plain rfl fun K hK=>?_;refine wp_appB W.heap.size _ _ 60 rfl 69 i2 _ 1 8 Tryz.underlying60 HI2.out.1 HI2.out.2.1 HI2.out.2.2.1 HI2.out.2.2.2 rfl (by decide) (.slice la' n' lc') n' (ls'.map Rs.mcell) rfl (own_keep HLn.out (Flow.grow_alloc wm (.cells #[.int .u64 (Mark.ofBools tl:Int)] 69))) (by have h1:=HSm.out;have h2:=HWo.out;simp;omega) _ [Rs.mcell tl] 1 1 rfl rfl (cells_of (heap_alloc_new _ _)) (by intro u hu;simp at hu;rw [hu];rfl) (by omega) (by decide) (by decide) ?_;intro vz wz ho hk;refine hK _ _ ?_;have HOz:=Lib.hid ho;have HKz:=Lib.hid hk;clear ho hk hK)
      clear c10 c11
      have HGa:=Lib.hid (Flow.grow_alloc wm (.cells #[.int .u64 (Mark.ofBools tl:Int)] 69))
      have HLz:=Lib.hid (own_keep HLm.out HGa.out)
      have HT2:=Lib.hid (TY.own HLz.out)
      have HK2:Hid ((wm.alloc (.cells #[.int .u64 (Mark.ofBools tl:Int)] 69)).grownBy wz (Value.slice la' ls'.length lc').ownBlock):=Lib.hid (by
       rw [← Hn'.out]
       exact HKz.out)
      have HPma:=Lib.hid (HPmo.out.more (vl':=vz) HOk.out.2 Htl.out Hp.out (World.ownsMap.kept (row:=none) HMm.out HGa.out (by simp)) HLz.out (by rw [← Hn'.out];exact HOz.out) HK2.out)
      have HRra:=Lib.hid ((HRrm.out.keep HGa.out).ty HT2.out HK2.out (own_lo HLz.out) (by decide) (by decide) (by decide) (by decide) (by decide))
      have HRwa:=Lib.hid ((HRwm.out.keep HGa.out).ty HT2.out HK2.out (by decide) (by decide))
      have HSza:Hid (S≤wz.heap.size):=Lib.hid (Nat.le_trans HSm.out (Nat.le_trans HGa.out.size HKz.out.size))
      have HTz:=Lib.hid (HT2.out.keep_blk HK2.out (heap_keep HGa.out HTb.out) (by decide))
      have c20:=(cell_of_row wz T 0 _ _ _ HTz.out).trans rfl
      simp at c20
      clear HMm HTb HRrm HRwm HLm HSm HPmo HLn HOz HKz HGa HLz HT2 HK2 HTz
      have HRo:Hid (wz.ownsRow S 76 2 (.slice ra k rc) k (Rs.flat2 row)):=Lib.hid (by
       have h1:=HRwa.out.row
       rwa [Hrk.out] at h1)
      go_wp2_with (at_builtin;refine wpList_plain rfl fun K hK=>?_;refine wp_appB S _ _ 74 rfl 76 i4 _ 2 16 Tryz.underlying74 HI4.out.1 HI4.out.2.1 HI4.out.2.2.1 HI4.out.2.2.2 rfl (by decide) (.slice ra k rc) k (Rs.flat2 row) rfl (own_keep HRo.out (Flow.grow_alloc wz (.cells #[.int .i64 lab,.int .i64 (n':Int)] 76))) (by have:=HSza.out;simp;omega) _ [.int .i64 lab,.int .i64 (n':Int)] 1 1 rfl rfl (cells_of (heap_alloc_new _ _)) (by intro u hu;simp at hu;rcases hu with rfl | rfl <;> rfl) (by omega) (by decide) (by decide) ?_;intro v' w' ho hk;refine hK _ _ ?_;have HOw:=Lib.hid ho;have HKw:=Lib.hid hk;clear ho hk hK)
      have HOl:=Lib.hid (own_keep HRwa.out.row (Flow.grow_alloc wz (.cells #[.int .i64 lab,.int .i64 (n':Int)] 76)))
      have HOx:Hid (w'.ownsRow S 76 2 v' (row.length+1) (Rs.flat2 row++[.int .i64 lab,.int .i64 (n':Int)])):=Lib.hid (by
       have h1:=HOw.out
       rw [← Hrk.out] at h1
       exact h1)
      have HR2:=Lib.hid ((HRra.out.keep (Flow.grow_alloc wz (.cells #[.int .i64 lab,.int .i64 (n':Int)] 76))).mv HOld.out HWo.out HOl.out HKw.out)
      have HP2:=Lib.hid ((HPma.out.keep (Flow.grow_alloc wz (.cells #[.int .i64 lab,.int .i64 (n':Int)] 76))).ty (TY.own HOl.out) HKw.out (by simp) (by decide))
      have HW2:=Lib.hid ((HRwa.out.keep (Flow.grow_alloc wz (.cells #[.int .i64 lab,.int .i64 (n':Int)] 76))).more (x:=(lab,(n':Int))) HOx.out HKw.out)
      have HS2:Hid (S≤w'.heap.size):=Lib.hid (Nat.le_trans HSza.out (Nat.le_trans (Flow.grow_alloc wz (.cells #[.int .i64 lab,.int .i64 (n':Int)] 76)).size HKw.out.size))
      go_roundw
      case rel=>exact ⟨k+1,_,ls'++[tl],row++[(lab,(n':Int))],by omega,by go_num,by rw [List.length_append,Hrk.out];rfl,by rw [List.length_append,← Hn'.out];simp;omega,HNx,HR2,HP2,HW2,HS2⟩
      case measure=>simp [intOf];omega
    ·obtain rfl:k=m:=by omega
     have HFl:Hid (Rs.run ls TS=(ls',row)):=Lib.hid (by
      have h1:=HFd.out
      rw [List.take_of_length_le (by rw [← Hm.out];exact Nat.le_refl _)] at h1
      exact h1)
     have HNs:Hid (Rs.stage f m0 (i+1)=(ls',rows++[row])):=Lib.hid (by
      have h1:=Rs.stage_next HSg.out Hl.out
      rw [← HTS.out,HFl.out] at h1
      exact h1)
     have HGk:Hid (Gr.Gm wk B v0 v1 v2 v3 lv g L (Gr.err F 0)):=Lib.hid (HGm.out.by HRr.out.by_ (by rw [Hgv.out];exact HRr.out.game))
     have d2:decide ((n':Int) > 2000)=decide (2000 < n'):=by simp;omega
     clear HFd
     cases F with
     | true =>
      have r2:=HRr.out.rb
      have q0:=(cell_of_row wk _ 0 _ _ _ r2).trans rfl
      have q1:=(cell_of_row wk _ 1 _ _ _ r2).trans rfl
      have q2:=(cell_of_row wk _ 2 _ _ _ r2).trans rfl
      have q3:=(cell_of_row wk _ 3 _ _ _ r2).trans rfl
      have f0:=frozen_of_row wk X 0 _ _ r2
      have f1:=frozen_of_row wk X 1 _ _ r2
      have f2:=frozen_of_row wk X 2 _ _ r2
      have f3:=frozen_of_row wk X 3 _ _ r2
      clear r2
      go_wp2_with (go_at_call 30;refine (HUn.out wk true HGk.out).mono ?_;rintro e w' ⟨rfl,rfl⟩)
      have HR:=Lib.hid (row4_res HRr.out (.int .i64 0) (.int .i64 0) (.slice none 0 0) (.slice none 0 0))
      exact bodyPost_ret (marks_res _ _ X _ _ _ _ _ _ rfl rfl rfl (row4_set17 _ _ _ _ _ _ _ HRr.out.rb)) rfl ⟨HR.out.1,⟨true,HGm.out.by HR.out.1 (by rw [Hgv.out];exact HR.out.2.1)⟩,i,HRun.out,.inr ⟨l,by rw [HSg.out];exact Hl.out,.inl ⟨by rw [← HTS.out,← HFe.out],rfl⟩⟩⟩
     | false =>
      by_cases hbig:2000 < n'
      ·have d3:decide ((2000:Int) < (n':Int))=true:=by simp;omega
       have d4:decide (2000 < n')=true:=by simp;omega
       have r2:=HRr.out.rb
       have q0:=(cell_of_row wk _ 0 _ _ _ r2).trans rfl
       have q1:=(cell_of_row wk _ 1 _ _ _ r2).trans rfl
       have q2:=(cell_of_row wk _ 2 _ _ _ r2).trans rfl
       have q3:=(cell_of_row wk _ 3 _ _ _ r2).trans rfl
       have f0:=frozen_of_row wk X 0 _ _ r2
       have f1:=frozen_of_row wk X 1 _ _ r2
       have f2:=frozen_of_row wk X 2 _ _ r2
       have f3:=frozen_of_row wk X 3 _ _ r2
       clear r2
       go_wp2_with (go_at_call 30;refine (HUn.out wk false HGk.out).mono ?_;rintro e w' ⟨rfl,rfl⟩)
       have HR:=Lib.hid (row4_res HRr.out (.int .i64 0) (.int .i64 0) (.slice none 0 0) (.slice none 0 0))
       exact bodyPost_ret (marks_res _ _ X _ _ _ _ _ _ rfl rfl rfl (row4_set17 _ _ _ _ _ _ _ HRr.out.rb)) rfl ⟨HR.out.1,⟨false,HGm.out.by HR.out.1 (by rw [Hgv.out];exact HR.out.2.1)⟩,i,HRun.out,.inr ⟨l,by rw [HSg.out];exact Hl.out,.inr ⟨by rw [← HTS.out,← HFe.out],by rw [HNs.out,← Hn'.out];exact hbig,rfl⟩⟩⟩
      ·have d3:decide ((2000:Int) < (n':Int))=false:=by simp;omega
       have d4:decide (2000 < n')=false:=by simp;omega
       obtain ⟨ma,mc,hma⟩:=own_form HRr.out.st.moves
       subst hma
       have HMo:Hid (wk.ownsRow W.heap.size 74 1 (.slice ma i mc) i vs):=Lib.hid (by
        have h1:=HRr.out.st.moves
        rwa [Hrl.out] at h1)
       have HNb:Hid (wk.heap[Nb]? = some (.cells #[.int .i64 (L.length:Int),.int .i64 0,vf,.slice ma i mc] 34 (0,0))):=Lib.hid (by
        have h1:=HRr.out.nb
        rwa [Hrl.out] at h1)
       have c3:=(cell_of_row wk Nb 3 _ _ _ HNb.out).trans rfl
       simp at c3
       have hi2:i≤2000:=by omega
       go_upto_region 25 with (first
        | (go_at_call 30;refine (HUn.out wk false HGk.out).mono ?_;rintro e w' ⟨rfl,rfl⟩)
        | (at_builtin;refine wpList_plain rfl fun K hK=>?_;refine wp_appB W.heap.size _ _ 32 rfl 74 i3 _ 1 24 Tryz.underlying32 HI3.out.1 HI3.out.2.1 HI3.out.2.2.1 HI3.out.2.2.2 rfl (by decide) (.slice ma i mc) i vs rfl (own_keep HMo.out (Flow.grow_alloc wk (.cells #[.slice ra k rc] 74))) (by have h1:=HRr.out.by_.size;simp;omega) _ [.slice ra k rc] 1 1 rfl rfl (cells_of (heap_alloc_new _ _)) (by intro u hu;simp at hu;rw [hu];rfl) (by omega) (by decide) (by decide) ?_;intro v3 w3 ho hk;refine hK _ _ ?_;obtain ⟨xa,xc,hv3⟩:=own_form ho;subst hv3;have HO3:=Lib.hid ho;have HK3:=Lib.hid hk;have HN3:=Lib.hid ((TY.own (own_keep HMo.out (Flow.grow_alloc wk (.cells #[.slice ra k rc] 74)))).keep_blk hk (heap_keep (Flow.grow_alloc wk (.cells #[.slice ra k rc] 74)) HNb.out) (by decide));have y0:=(cell_of_row w3 Nb 3 _ _ _ HN3.out).trans rfl;have f0:=frozen_of_row w3 Nb 3 _ _ HN3.out;simp at y0;clear ho hk hK))
       clear y0 f0 c3
       have HOl:=Lib.hid (own_keep HRw.out.row (Flow.grow_alloc wk (.cells #[.slice ra k rc] 74)))
       have HK4:Hid ((wk.alloc (.cells #[.slice ra k rc] 74)).grownBy w3 (Value.slice ma rows.length mc).ownBlock):=Lib.hid (by
        rw [Hrl.out]
        exact HK3.out)
       have HO4:Hid (w3.ownsRow W.heap.size 74 1 (.slice xa (i+1) xc) (rows.length+1) (vs++[.slice ra k rc])):=Lib.hid (by
        rw [Hrl.out]
        exact HO3.out)
       have HR3:=Lib.hid ((HRr.out.keep (Flow.grow_alloc wk (.cells #[.slice ra k rc] 74))).laid HOld.out HWo.out HOl.out HO4.out HK4.out)
       have HP3:=Lib.hid (((HPm.out.keep (Flow.grow_alloc wk (.cells #[.slice ra k rc] 74))).ty (TY.own (own_keep HMo.out (Flow.grow_alloc wk (.cells #[.slice ra k rc] 74)))) HK3.out (by simp) (by decide)).ty (TY.blk HN3.out) (by_set w3 Nb 3 (.slice xa (i+1) xc)) (by simp) (by decide))
       clear HRr HPm HRw HMo HNb HO3 HK3 HN3 HOl HK4 HO4 HSz HGk
       generalize w3.setCell ⟨Nb,3,none⟩ (.slice xa (i+1) xc)=wz at *
       have HR4:Hid (Rs.Rr W wz B (Gr.gcells v0 v1 v2 v3 lv (Gr.err false 0)) Nb X (L.length:Int) vf (.slice xa (i+1) xc) ((ls.take i).map Rs.over) (rows++[row]) (vs++[.slice ra k rc])):=Lib.hid (by
        rw [Hgv.out]
        exact HR3.out)
       clear HR3
       have hfl:((ls.take i).map Rs.over).length=i:=by
        have h1:=Hn.out
        simp
        omega
       obtain ⟨fa,fc,hfa⟩:=own_form HR4.out.st.finals
       rw [hfl] at hfa
       subst hfa
       have HFn:Hid (wz.ownsRow W.heap.size 4 1 (.slice fa i fc) i (((ls.take i).map Rs.over).map Value.bool)):=Lib.hid (by
        have h1:=HR4.out.st.finals
        rwa [hfl] at h1)
       have Hfl:=Lib.hid hfl
       clear hfl
       obtain ⟨rr,hrr⟩:=Rs.fold_pre HFl.out
       have hl':ls'[i]? = some l:=by
        rw [hrr,List.getElem?_append_left (List.getElem?_eq_some_iff.1 Hl.out).1]
        exact Hl.out
       have HTk:Hid ((ls'.take (i+1)).map Rs.over=(ls.take i).map Rs.over++[Rs.over l]):=Lib.hid (by
        rw [hrr,Rs.take_more Hl.out,List.map_append]
        rfl)
       have hin':i < n':=by
        have h1:=(List.getElem?_eq_some_iff.1 hl').1
        have h2:=Hn'.out
        omega
       obtain ⟨lb2,rfl⟩:=own_at HP3.out.l (by rw [← Hn'.out];omega)
       have Q0:Hid (wz.cell? ⟨lb2,i,none⟩=some (.int .u64 (Mark.ofBools l:Int))):=Lib.hid (by
        have k0:=HP3.out.l.cells (g:=lb2) rfl i (.int .u64 (Mark.ofBools l:Int)) (by rw [List.getElem?_map,hl'];rfl)
        rwa [Addr.add_lit,Nat.zero_add] at k0)
       clear hrr hl'
       have hii:(i:Int) < (n':Int):=by omega
       have HWz:=Lib.hid HR4.out.by_.size
       refine Flow.region_tail3 (R:=Flow.Grow) (C:=fun wq=>Flow.Grow wz wq) (Fs:=[.inl ((.pointer (some ⟨Nb,2,none⟩))),.inl ((.slice fa i fc)),.inl ((.slice (some ⟨lb2,0,none⟩) n' lc')),.inl ((.int .i64 (i:Int))),.inl ((.pointer (some ⟨lb2,i,none⟩))),.inl ((.int .u64 (Mark.ofBools l:Int))),.inl ((.bool (Rs.over l))),.inr (fun v w=>∃ q,v=.slice (some ⟨q,0,none⟩) 1 1∧w.heap[q]? = some (.cells #[.bool (Rs.over l)] 4 (0,0)))]) (T:=fun v w'=>∃ gp cp,v=.slice (some ⟨gp,0,none⟩) (i+1) cp∧Hid (w'.heap[Nb]? = some (.cells #[.int .i64 (L.length:Int),.int .i64 0,.slice fa i fc,.slice xa (i+1) xc] 34 (0,0))∧Rs.Rr W (w'.setCell ⟨Nb,2,none⟩ v) B (Gr.gcells v0 v1 v2 v3 lv (Gr.err false 0)) Nb X (L.length:Int) v (.slice xa (i+1) xc) ((ls.take i).map Rs.over++[Rs.over l]) (rows++[row]) (vs++[.slice ra k rc])∧Rs.Pm W (w'.setCell ⟨Nb,2,none⟩ v) Mb D' (.slice (some ⟨lb2,0,none⟩) ls'.length lc') ls')) (c:=.pointer (some ⟨Nb,2,none⟩))
        (S:=[[],[0],[],[],[2,3],[2,3,4],[2,3,4,5],[2,3,4,5,6],[0,1,2,3,4,5,6,7]]) 8 (by kernel_rfl) rfl rfl rfl (by kernel_rfl) (by kernel_rfl) rfl ?stab25 Flow.grow_refl (fun _ _ h k=>h.trans k) (Flow.grow_drew _) ?ones25 ?app25 ?place25 ?ends25
       case ones25 =>
        refine Flow.Ones.cons ?_ ?_
        ·intro a w hC hoff _
         have e7:a.eval (.tmp 7)=(.pointer (some ⟨Nb,0,none⟩)):=hoff.at 7 (by kernel_rfl)
         refine .inl ⟨Flow.want_none rfl,?_⟩
         refine Flow.run_same ?_ Flow.grow_refl
         have ec:=Flow.eval_const a
         generalize a.eval=ρ at e7 ec ⊢
         simp [execOp,e7,go_sem]
        refine Flow.Ones.cons ?_ ?_
        ·rintro a w hC hoff ⟨k0,-⟩
         have e88:a.eval (.tmp 88)=(.pointer (some ⟨Nb,2,none⟩)):=k0 88 rfl
         refine .inl ⟨Flow.want_none rfl,?_⟩
         refine Flow.run_same ?_ Flow.grow_refl
         have ec:=Flow.eval_const a
         generalize a.eval=ρ at e88 ec ⊢
         have hc:=(cell_of_row w Nb 2 _ _ _ (HR4.out.keep hC).nb).trans rfl
         simp [execOp,e88,hc,go_sem]
        refine Flow.Ones.cons ?_ ?_
        ·intro a w hC hoff _
         have e6:a.eval (.tmp 6)=(.slice (some ⟨lb2,0,none⟩) n' lc'):=hoff.at 6 (by kernel_rfl)
         refine .inl ⟨Flow.want_none rfl,?_⟩
         exact Flow.run_same (Flow.exec_move (.inl rfl) e6) Flow.grow_refl
        refine Flow.Ones.cons ?_ ?_
        ·intro a w hC hoff _
         have e8:a.eval (.tmp 8)=(.int .i64 (i:Int)):=hoff.at 8 (by kernel_rfl)
         refine .inl ⟨Flow.want_none rfl,?_⟩
         exact Flow.run_same (Flow.exec_move (.inl rfl) e8) Flow.grow_refl
        refine Flow.Ones.cons ?_ ?_
        ·rintro a w hC hoff ⟨k2,k3,-⟩
         have e90:a.eval (.tmp 90)=(.slice (some ⟨lb2,0,none⟩) n' lc'):=k2 90 rfl
         have e91:a.eval (.tmp 91)=(.int .i64 (i:Int)):=k3 91 rfl
         refine .inl ⟨Flow.want_none rfl,?_⟩
         refine Flow.run_same ?_ Flow.grow_refl
         have ec:=Flow.eval_const a
         generalize a.eval=ρ at e90 e91 ec ⊢
         simp [execOp,e90,e91,go_sem];intro hh;omega
        refine Flow.Ones.cons ?_ ?_
        ·rintro a w hC hoff ⟨_,_,k4,-⟩
         have e92:a.eval (.tmp 92)=(.pointer (some ⟨lb2,i,none⟩)):=k4 92 rfl
         refine .inl ⟨Flow.want_none rfl,?_⟩
         refine Flow.run_same ?_ Flow.grow_refl
         have ec:=Flow.eval_const a
         generalize a.eval=ρ at e92 ec ⊢
         have hc:=Xm2.cell_grow hC Q0.out
         simp [execOp,e92,hc,go_sem]
        refine Flow.Ones.cons ?_ ?_
        ·rintro a w hC hoff ⟨_,_,_,k5,-⟩
         have e93:a.eval (.tmp 93)=(.int .u64 (Mark.ofBools l:Int)):=k5 93 rfl
         refine .inl ⟨Flow.want_none rfl,?_⟩
         exact Flow.run_call (Flow.exec_call (args:=#[((.int .u64 (Mark.ofBools l:Int)))]) rfl Tryz.func31 (by kernel_rfl) (by kernel_rfl) (by simp only [List.map_toArray,List.map_cons,List.map_nil,e93] <;> rfl)) ((HOv.out w l Hl64.out).mono fun e w' ⟨he,hw⟩=>⟨_,he,by rw [hw];exact Flow.grow_refl _,rfl⟩)
        refine Flow.Ones.cons ?_ ?_
        ·rintro a w hC hoff ⟨_,_,_,_,k6,-⟩
         have e94:a.eval (.tmp 94)=(.bool (Rs.over l)):=k6 94 rfl
         refine .inl ⟨Flow.want_none rfl,?_⟩
         refine Flow.run_val (v:=.slice (some ⟨w.heap.size,0,none⟩) 1 1) (w':=w.alloc (.cells #[.bool (Rs.over l)] 4)) ?_ (Flow.grow_alloc _ _) ⟨_,rfl,heap_alloc_new _ _⟩
         generalize a.eval=ρ at e94 ⊢
         simp [execOp,e94,go_sem]
        exact trivial
       case place25 =>
        intro a w hoff
        have e7:a.eval (.tmp 7)=(.pointer (some ⟨Nb,0,none⟩)):=hoff.at 7 (by kernel_rfl)
        generalize a.eval=ρ at e7 ⊢
        simp [execOp,e7,go_sem]
       case app25 =>
        intro a w hC hoff hk
        have e89:a.eval (.tmp 89)=(.slice fa i fc):=hk 1 (by decide) 89 rfl
        have e95:(fun v w=>∃ q,v=.slice (some ⟨q,0,none⟩) 1 1∧w.heap[q]? = some (.cells #[.bool (Rs.over l)] 4 (0,0))) (a.eval (.tmp 95)) w:=hk 7 (by decide) 95 rfl
        obtain ⟨q,hq,hrow⟩:=e95
        have hr:=HR4.out.keep hC
        have hp:=HP3.out.keep hC
        have hown:=own_keep HFn.out hC
        refine exec_appT (P:=Tryz.prog) W.heap.size (.tmp 89) (.tmp 95) 31 rfl 4 i1 (.bool false) 1 1 Tryz.underlying31 HI1.out.1 HI1.out.2.1 HI1.out.2.2.1 HI1.out.2.2.2 rfl (by decide) (.slice fa i fc) i _ e89 hown (Nat.le_trans HWz.out hC.size) q [.bool (Rs.over l)] 1 1 hq rfl (cells_of hrow) (by intro u hu;simp at hu;subst hu;rfl) (by omega) (by decide) (by decide) (fun v' w' ho hk=>?_)
        obtain ⟨xb,xd,hv'⟩:=own_form ho
        subst hv'
        obtain ⟨gp,rfl⟩:=own_at ho (by omega)
        have t:=TY.own hown
        have hn':=t.keep_blk hk hr.nb (by decide)
        exact ⟨gp,xd,rfl,Lib.hid ⟨hn',hr.over (b:=Rs.over l) (by rw [Hfl.out];exact ho) hk,(hp.ty t hk (by simp) (by decide)).ty (TY.blk hn') (by_set w' Nb 2 _) (by simp) (by decide)⟩⟩
       case stab25=>exact ⟨fun v w w' hR ⟨q,h1,h2⟩=>⟨q,h1,(hR.block q (Array.getElem?_eq_some_iff.1 h2).1 (by simp)).trans h2⟩,trivial⟩
       case ends25 =>
        intro wy
        simp only [List.take_succ_cons,List.take_zero,List.replicate,List.cons_append,List.nil_append,Flow.ends]
        simp only [Act.put,List.setIfInBounds_toArray,List.set_cons_succ,List.set_cons_zero]
        iterate 8 (intro _ _)
        intro v96 h96
        obtain ⟨gp,cp,rfl,hT⟩:=h96
        have y2:=(cell_of_row wy Nb 2 _ _ _ hT.out.1).trans rfl
        have yf:=frozen_of_row wy Nb 2 _ _ hT.out.1
        unfold Oper.wp
        simp [execOp,y2,yf,go_sem]
        have HR5:Hid (Rs.Rr W (wy.setCell ⟨Nb,2,none⟩ (.slice (some ⟨gp,0,none⟩) (i+1) cp)) B (Gr.gcells v0 v1 v2 v3 lv (Gr.err false 0)) Nb X (L.length:Int) (.slice (some ⟨gp,0,none⟩) (i+1) cp) (.slice xa (i+1) xc) ((ls'.take (i+1)).map Rs.over) (rows++[row]) (vs++[.slice ra k rc])):=Lib.hid (by
         rw [HTk.out]
         exact hT.out.2.1)
        have HP5:=Lib.hid hT.out.2.2
        clear hT y2 yf HR4 HP3
        generalize wy.setCell ⟨Nb,2,none⟩ (.slice (some ⟨gp,0,none⟩) (i+1) cp)=wx at *
        go_wp2_with fail
        go_roundw
        case rel=>exact ⟨i+1,D',_,_,ls',rows++[row],vs++[.slice ra k rc],by rw [← Hn'.out];omega,by rw [← Hn'.out];omega,by rw [List.length_append,Hrl.out];rfl,by go_num,HNs,Lib.hid (HRun.out.more (l:=l) (by rw [HSg.out];exact Hl.out) (by rw [← HTS.out,← HFe.out]) (by rw [HNs.out,← Hn'.out];omega)),HR5,by rw [Hn'.out];exact HP5⟩
        case measure=>simp [intOf];omega
  ·obtain rfl:i=n:=by omega
   have d1:decide ((i:Int) < (i:Int))=false:=by simp
   have d1':decide (i < i)=false:=by simp
   have r2:=HRr.out.rb
   have q0:=(cell_of_row wo _ 0 _ _ _ r2).trans rfl
   have q1:=(cell_of_row wo _ 1 _ _ _ r2).trans rfl
   have q2:=(cell_of_row wo _ 2 _ _ _ r2).trans rfl
   have q3:=(cell_of_row wo _ 3 _ _ _ r2).trans rfl
   have f0:=frozen_of_row wo X 0 _ _ r2
   have f1:=frozen_of_row wo X 1 _ _ r2
   have f2:=frozen_of_row wo X 2 _ _ r2
   have f3:=frozen_of_row wo X 3 _ _ r2
   clear r2
   obtain ⟨fa,fc,hfa⟩:=own_form HRr.out.st.finals
   subst hfa
   obtain ⟨ma,mc,hma⟩:=own_form HRr.out.st.moves
   subst hma
   generalize ((ls.take i).map Rs.over).length=fn at *
   generalize rows.length=rn at *
   have r3:=HRr.out.nb
   have p0:=(cell_of_row wo _ 0 _ _ _ r3).trans rfl
   have p1:=(cell_of_row wo _ 1 _ _ _ r3).trans rfl
   have p2:=(cell_of_row wo _ 2 _ _ _ r3).trans rfl
   have p3:=(cell_of_row wo _ 3 _ _ _ r3).trans rfl
   clear r3
   go_wp2_with fail
   go_region
   go_wp2_with fail
   have HR:=Lib.hid (row4_res HRr.out (.int .i64 (L.length:Int)) (.int .i64 0) (.slice fa fn fc) (.slice ma rn mc))
   have HLl:=Lib.hid ((TY.blk HRr.out.rb).keep_own (row4_by wo X (.int .i64 (L.length:Int)) (.int .i64 0) (.slice fa fn fc) (.slice ma rn mc)) HPm.out.l (by decide))
   refine bodyPost_ret (marks_res _ _ X _ _ _ _ _ _ rfl rfl rfl (row4_set17 _ _ _ _ _ _ _ HRr.out.rb)) rfl ⟨by_trans HR.out.1 (by_grow (Flow.grow_drew _)),⟨false,HGm.out.by (by_trans HR.out.1 (by_grow (Flow.grow_drew _))) (heap_keep (Flow.grow_drew _) HR.out.2.1)⟩,i,HRun.out,.inl ?_⟩
   have e1:(Rs.stage f m0 i).1=ls:=by rw [HSg.out]
   have e2:(Rs.stage f m0 i).2=rows:=by rw [HSg.out]
   rw [e1,e2]
   have h1:=HLl.out
   have h2:=HR.out.2.2
   rw [← Hn.out] at h1
   rw [List.take_of_length_le (by rw [← Hn.out];exact Nat.le_refl _)] at h2
   exact ⟨Hn.out,_,_,_,vs,rfl,own_keep h1 (Flow.grow_drew _),h2.grow (Flow.grow_drew _)⟩
end Go.Proofs.YtcnmaplopbbmaaaGreat
