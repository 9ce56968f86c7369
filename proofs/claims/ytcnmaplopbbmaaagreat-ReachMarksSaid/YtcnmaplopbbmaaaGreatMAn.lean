/- galliardref13: tokens by value; put and without by their contracts. -/
import Derived.Test.YtcnmaplopbbmaaaGreatMAd
import Derived.Test.YtcnmaplopbbmaaaGreatMAf
import Derived.Test.YtcnmaplopbbmaaaGreatMAe
import Derived.Test.YtcnmaplopbbmaaaGreatMAh
import Derived.Test.YtcnmaplopbbmaaaGreatMAj
import Derived.Test.YtcnmaplopbbmaaaGreatMAc
import Derived.Deep.WholeRow
import Derived.Deep.DeepCutAuto
namespace Go.Proofs.YtcnmaplopbbmaaaGreat
open Go.RowKit
namespace Gr
def tcs (t:Tk):Array Value:=(t.1.map Value.bool++[Value.bool t.2]).toArray
def tz:Tk:=(List.replicate 64 false,false)
theorem tcs_size (t:Tk):(tcs t).size=t.1.length+1:=by simp [tcs]
theorem tcs_get {t:Tk} {i:Nat} (h:i < t.1.length):(tcs t)[i]? = some (.bool (t.1.getD i false)):=by simp [tcs,List.getElem?_append,h]
theorem tcs_bad (t:Tk):(tcs t)[t.1.length]? = some (.bool t.2):=by simp [tcs]
theorem tcs_set {t:Tk} {i:Nat} {b:Bool} (h:i < t.1.length):(tcs t).setIfInBounds i (.bool b)=tcs (t.1.set i b,t.2):=by
 apply Array.ext'
 simp [tcs,List.map_set,h]
theorem tcs_setBad (t:Tk) (b:Bool):(tcs t).setIfInBounds t.1.length (.bool b)=tcs (t.1,b):=by
 apply Array.ext'
 simp [tcs]
theorem tcs_one (t:Tk):∀ u∈(tcs t).toList,u.oneCell'=true:=by
 intro u hu
 rw [tcs,List.mem_append] at hu
 rcases hu with hu | hu
 ·obtain ⟨b,_,rfl⟩:=List.mem_map.1 hu
  rfl
 ·rw [List.mem_singleton] at hu
  subst hu
  rfl
theorem tcs_all (t:Tk):(tcs t).all (·.oneCell')=true:=by
 rw [Array.all_eq_true_iff_forall_mem]
 exact fun u hu=>tcs_one t u (by simpa using hu)
end Gr
theorem tk_size {t:Gr.Tk} (h:t.1.length=64):(Tryz.prog.info? 72).map (·.size)=some (Gr.tcs t).size:=by
 rw [Gr.tcs_size,h]
 kernel_rfl
theorem zeroTk (w:World):(zeroValue 72).run Tryz.prog w=.ok (.agg (Gr.tcs Gr.tz)) w:=by kernel_rfl
theorem row_set {w:World} {g:Nat} {T:TypeId} {cs ds:Array Value} {fr:Nat × Nat} (h:w.heap[g]? = some (.cells cs T fr)):(w.setRow g ds).heap[g]? = some (.cells ds T fr):=by
 unfold World.setRow
 rw [Array.getElem?_modify,if_pos rfl,h]
 rfl
theorem row_other {w:World} {g k:Nat} {ds:Array Value} (hk:k≠g):(w.setRow g ds).heap[k]? = w.heap[k]? := by
 unfold World.setRow
 rw [Array.getElem?_modify,if_neg (fun e=>hk e.symm)]
theorem row_store (P:Program) {w:World} {g:Nat} {T:TypeId} {cs ds:Array Value} (h:w.heap[g]? = some (.cells cs T (0,0))) (hs:ds.size=cs.size) (h1:ds.all (·.oneCell')=true) :
  (storeCells ⟨g,0,none⟩ ds.toList).run P w=.ok () (w.setRow g ds):=by
 rw [run_storeCells_at P g 0 T ds.toList 0 cs w h (by simp [hs]) (fun u hu=>by rw [Array.all_eq_true_iff_forall_mem] at h1;exact h1 u (by simpa using hu))]
 congr 2
 rw [List.take_zero,List.nil_append,List.drop_eq_nil_of_le (by simp [hs]),List.append_nil]
theorem row_grow {w0 w:World} {g:Nat} {ds:Array Value} (h:Flow.Grow w0 w) (hg:w0.heap.size≤g):Flow.Grow w0 (w.setRow g ds) :=
 ⟨h.os,h.tape,h.output,by simpa [World.setRow] using h.size,fun i hi hne=>by rw [row_other (by omega)];exact h.block i hi hne⟩
set_option maxRecDepth 100000 in
set_option maxHeartbeats 1000000 in
theorem put_any (t:Gr.Tk) (p:Int) (W:World) (hl:t.1.length=64) (h0:0≤p) (h1:p < 64) :
  Calls Tryz.prog 59 #[.agg (Gr.tcs t),.int .i64 p] W fun e w'=>e=.returned (.agg (Gr.tcs (Gr.put1 t p)))∧Flow.Grow W w':=by
 obtain ⟨q,rfl⟩:=Int.eq_ofNat_of_zero_le h0
 have hq:q < 64:=by omega
 clear h0 h1
 have Hp1:Hid (Gr.put1 t (q:Int)=(t.1.set q true,t.2 || t.1.getD q false)):=Lib.hid rfl
 generalize Gr.put1 t (q:Int)=r at *
 obtain ⟨l,b⟩:=t
 have Hl:Hid (l.length=64):=Lib.hid hl
 have Hrl:Hid (r.1.length=64):=Lib.hid (by rw [Hp1.out];simp;exact Hl.out)
 clear hl
 have hz0:=zeroTk
 obtain ⟨z,hz⟩:∃ z,z=Gr.tcs Gr.tz:=⟨_,rfl⟩
 have Hz:Hid (z.size=65):=Lib.hid (by rw [hz];rfl)
 rw [← hz] at hz0
 clear hz
 obtain ⟨c,hc⟩:∃ c,c=Gr.tcs (l,b):=⟨_,rfl⟩
 have Hc:Hid (c[64]? = some (.bool b)∧c[q]? = some (.bool (l.getD q false))∧∀ x,(c.setIfInBounds 64 (.bool x)).setIfInBounds q (.bool true)=Gr.tcs (l.set q true,x)):=Lib.hid (by
  have e1:=Gr.tcs_bad (l,b)
  have e2:=Gr.tcs_get (t:=(l,b)) (i:=q) (by rw [Hl.out];exact hq)
  refine ⟨by rw [hc];have:=Hl.out;simp only [this] at e1;exact e1,by rw [hc];exact e2,fun x=>?_⟩
  have e3:=Gr.tcs_setBad (l,b) x
  have:=Hl.out
  simp only [this] at e3
  rw [hc,e3,Gr.tcs_set (t:=(l,x)) (by rw [Hl.out];exact hq)])
 rw [← hc]
 clear hc
 go_enter Tryz.func59,Tryz.ntmps59
 go_upto_region 1 with fail
 clear hz0
 have HBw10:Hid (((W.alloc (.cells c 72)).alloc (.cells z 72)).heap[W.heap.size]? = some (.cells c 72 (0,0))):=Lib.hid (lay2_0 _ _ _)
 have HBw11:Hid (((W.alloc (.cells c 72)).alloc (.cells z 72)).heap[W.heap.size+1]? = some (.cells z 72 (0,0))):=Lib.hid (lay2_1 _ _ _)
 have HGw1:Hid (Flow.Grow W ((W.alloc (.cells c 72)).alloc (.cells z 72))):=Lib.hid (lay2_g _ _ _)
 have HSw1:Hid (((W.alloc (.cells c 72)).alloc (.cells z 72)).heap.size=W.heap.size+1+1):=Lib.hid (by simp)
 generalize (W.alloc (.cells c 72)).alloc (.cells z 72)=w1 at *
 obtain ⟨X,hX⟩:∃ X,X=W.heap.size:=⟨_,rfl⟩
 rw [← hX] at HBw10 HBw11 HSw1 ⊢
 have HXw1:=Lib.hid hX
 clear hX
 have FXw1:Hid (∀ wq,Flow.Grow w1 wq→(∀ k,wq.frozen? ⟨X,k,none⟩=false)∧(∀ k,wq.frozen? ⟨X+1,k,none⟩=false)):=Lib.hid (fun wq g=>⟨fun k=>lay_frozen g HBw10.out k,fun k=>lay_frozen g HBw11.out k⟩)
 have c64:w1.cell? ⟨X,64,none⟩=some (.bool b):=(cell_of_row w1 X 64 _ _ _ HBw10.out).trans Hc.out.1
 have cq:w1.cell? ⟨X,q,none⟩=some (.bool (l.getD q false)):=(cell_of_row w1 X q _ _ _ HBw10.out).trans Hc.out.2.1
 have f64:w1.frozen? ⟨X,64,none⟩=false:=frozen_of_row w1 X 64 _ _ HBw10.out
 obtain ⟨w2,hw2⟩:∃ w2,w2=w1.setCell ⟨X,64,none⟩ (.bool (b || l.getD q false)):=⟨_,rfl⟩
 have fq:w2.frozen? ⟨X,q,none⟩=false:=by rw [hw2];exact frozen_of_row _ X q _ _ (set_cells HBw10.out 64 _)
 have gq2:w2.cell? ⟨X,q,none⟩=some (.bool (l.getD q false)):=by
  rw [hw2,cell_of_row _ X q _ _ _ (set_cells HBw10.out 64 _),Array.getElem?_setIfInBounds,if_neg (by omega)]
  exact Hc.out.2.1
 have HR:Hid ((w2.setCell ⟨X,q,none⟩ (.bool true)).heap[X]? = some (.cells (Gr.tcs r) 72 (0,0))):=Lib.hid (by
  rw [hw2,set_cells (set_cells HBw10.out 64 _) q _,Hc.out.2.2,Hp1.out])
 have HY:Hid ((w2.setCell ⟨X,q,none⟩ (.bool true)).heap[X+1]? = some (.cells z 72 (0,0))):=Lib.hid (by
  rw [hw2];exact set_other (set_other HBw11.out (by omega)) (by omega))
 have HG:Hid (Flow.Grow W (w2.setCell ⟨X,q,none⟩ (.bool true))):=Lib.hid (by
  rw [hw2];exact set_grow (set_grow HGw1.out (by have:=HXw1.out;omega) _ _) (by have:=HXw1.out;omega) _ _)
 have hts:=tk_size Hrl.out
 have Hw2:=Lib.hid hw2
 clear hw2
 have HRa:=Lib.hid (Gr.tcs_all r)
 have HS:Hid ((Tryz.prog.info? 72).map (·.size)=some (Gr.tcs r).size∧z.size=(Gr.tcs r).size):=Lib.hid ⟨hts,by rw [Hz.out,Gr.tcs_size,Hrl.out]⟩
 clear hts
 generalize l.getD q false=gq at *
 cases b with
 | true =>
  have Hw3:Hid (w1.setCell ⟨X,64,none⟩ (.bool true)=w2):=Lib.hid (by rw [Hw2.out];rfl)
  clear Hc Hp1 Hw2
  go_upto_region 2 with fail
  rw [Hw3.out]
  clear c64 cq f64
  generalize hrr:Gr.tcs r=R at HR HRa HS ⊢
  have Hrr:=Lib.hid hrr
  clear hrr
  go_upto_region 3 with fail
  generalize w2.setCell ⟨X,q,none⟩ (.bool true)=w3 at *
  have hst:=row_store Tryz.prog HY.out HS.out.2.symm HRa.out
  have hsz:R.size=65:=by have:=HS.out.2;have:=Hz.out;omega
  go_wp2_with (with_reducible refine wpList_load_row rfl 72 (.tmp 2) rfl X rfl 72 R (0,0) _ HR.out Tryz.underlying72 rfl HS.out.1 ?_)
  refine bodyPost_ret (results_cell_row rfl _ _ (X+1) _ _ _ _ rfl (row_set HY.out) Tryz.underlying72 rfl HS.out.1) rfl ⟨by rw [Hrr.out],row_grow HG.out (by have:=HXw1.out;omega)⟩
 | false =>
  cases gq with
  | true =>
   have Hw3:Hid (w1.setCell ⟨X,64,none⟩ (.bool true)=w2):=Lib.hid (by rw [Hw2.out];rfl)
   clear Hc Hp1 Hw2
   go_upto_region 2 with fail
   rw [Hw3.out]
   clear c64 cq f64
   generalize hrr:Gr.tcs r=R at HR HRa HS ⊢
   have Hrr:=Lib.hid hrr
   clear hrr
   go_upto_region 3 with fail
   generalize w2.setCell ⟨X,q,none⟩ (.bool true)=w3 at *
   have hst:=row_store Tryz.prog HY.out HS.out.2.symm HRa.out
   have hsz:R.size=65:=by have:=HS.out.2;have:=Hz.out;omega
   go_wp2_with (with_reducible refine wpList_load_row rfl 72 (.tmp 2) rfl X rfl 72 R (0,0) _ HR.out Tryz.underlying72 rfl HS.out.1 ?_)
   refine bodyPost_ret (results_cell_row rfl _ _ (X+1) _ _ _ _ rfl (row_set HY.out) Tryz.underlying72 rfl HS.out.1) rfl ⟨by rw [Hrr.out],row_grow HG.out (by have:=HXw1.out;omega)⟩
  | false =>
   have Hw3:Hid (w1.setCell ⟨X,64,none⟩ (.bool false)=w2):=Lib.hid (by rw [Hw2.out];rfl)
   clear Hc Hp1 Hw2
   go_upto_region 2 with fail
   rw [Hw3.out]
   clear c64 cq f64
   generalize hrr:Gr.tcs r=R at HR HRa HS ⊢
   have Hrr:=Lib.hid hrr
   clear hrr
   go_upto_region 3 with fail
   generalize w2.setCell ⟨X,q,none⟩ (.bool true)=w3 at *
   have hst:=row_store Tryz.prog HY.out HS.out.2.symm HRa.out
   have hsz:R.size=65:=by have:=HS.out.2;have:=Hz.out;omega
   go_wp2_with (with_reducible refine wpList_load_row rfl 72 (.tmp 2) rfl X rfl 72 R (0,0) _ HR.out Tryz.underlying72 rfl HS.out.1 ?_)
   refine bodyPost_ret (results_cell_row rfl _ _ (X+1) _ _ _ _ rfl (row_set HY.out) Tryz.underlying72 rfl HS.out.1) rfl ⟨by rw [Hrr.out],row_grow HG.out (by have:=HXw1.out;omega)⟩
set_option maxRecDepth 100000 in
set_option maxHeartbeats 1000000 in
theorem without_any (t:Gr.Tk) (p:Int) (W:World) (hl:t.1.length=64) (h0:0≤p) (h1:p < 64) :
  Calls Tryz.prog 57 #[.agg (Gr.tcs t),.int .i64 p] W fun e w'=>e=.returned (.agg (Gr.tcs (Gr.wo t p)))∧Flow.Grow W w':=by
 obtain ⟨q,rfl⟩:=Int.eq_ofNat_of_zero_le h0
 have hq:q < 64:=by omega
 clear h0 h1
 have Hp1:Hid (Gr.wo t (q:Int)=(t.1.set q false,t.2)):=Lib.hid rfl
 generalize Gr.wo t (q:Int)=r at *
 have Hl:Hid (t.1.length=64):=Lib.hid hl
 have Hrl:Hid (r.1.length=64):=Lib.hid (by rw [Hp1.out];simp;exact Hl.out)
 clear hl
 have hz0:=zeroTk
 obtain ⟨z,hz⟩:∃ z,z=Gr.tcs Gr.tz:=⟨_,rfl⟩
 have Hz:Hid (z.size=65):=Lib.hid (by rw [hz];rfl)
 rw [← hz] at hz0
 clear hz
 have Hc:Hid ((Gr.tcs t).setIfInBounds q (.bool false)=Gr.tcs r):=Lib.hid (by rw [Hp1.out,Gr.tcs_set (by rw [Hl.out];exact hq)])
 have HS:Hid ((Tryz.prog.info? 72).map (·.size)=some (Gr.tcs r).size∧z.size=(Gr.tcs r).size):=Lib.hid ⟨tk_size Hrl.out,by rw [Hz.out,Gr.tcs_size,Hrl.out]⟩
 have HRa:=Lib.hid (Gr.tcs_all r)
 have Hsz:Hid ((Gr.tcs t).size=65):=Lib.hid (by rw [Gr.tcs_size,Hl.out])
 generalize Gr.tcs t=c at *
 generalize Gr.tcs r=R at *
 clear Hp1 Hl Hrl
 go_enter Tryz.func57,Tryz.ntmps57
 go_upto_region 1 with fail
 clear hz0
 have HBw10:Hid (((W.alloc (.cells c 72)).alloc (.cells z 72)).heap[W.heap.size]? = some (.cells c 72 (0,0))):=Lib.hid (lay2_0 _ _ _)
 have HBw11:Hid (((W.alloc (.cells c 72)).alloc (.cells z 72)).heap[W.heap.size+1]? = some (.cells z 72 (0,0))):=Lib.hid (lay2_1 _ _ _)
 have HGw1:Hid (Flow.Grow W ((W.alloc (.cells c 72)).alloc (.cells z 72))):=Lib.hid (lay2_g _ _ _)
 have HSw1:Hid (((W.alloc (.cells c 72)).alloc (.cells z 72)).heap.size=W.heap.size+1+1):=Lib.hid (by simp)
 generalize (W.alloc (.cells c 72)).alloc (.cells z 72)=w1 at *
 obtain ⟨X,hX⟩:∃ X,X=W.heap.size:=⟨_,rfl⟩
 rw [← hX] at HBw10 HBw11 HSw1 ⊢
 have HXw1:=Lib.hid hX
 clear hX
 have FXw1:Hid (∀ wq,Flow.Grow w1 wq→(∀ k,wq.frozen? ⟨X,k,none⟩=false)∧(∀ k,wq.frozen? ⟨X+1,k,none⟩=false)):=Lib.hid (fun wq g=>⟨fun k=>lay_frozen g HBw10.out k,fun k=>lay_frozen g HBw11.out k⟩)
 have cq:∃ v,w1.cell? ⟨X,q,none⟩=some v:=⟨_,(cell_of_row w1 X q _ _ _ HBw10.out).trans (Array.getElem?_eq_getElem (by rw [Hsz.out];omega))⟩
 obtain ⟨v,cq⟩:=cq
 have fq:w1.frozen? ⟨X,q,none⟩=false:=frozen_of_row w1 X q _ _ HBw10.out
 have HR:Hid ((w1.setCell ⟨X,q,none⟩ (.bool false)).heap[X]? = some (.cells R 72 (0,0))):=Lib.hid (by
  rw [set_cells HBw10.out q _,Hc.out])
 have HY:Hid ((w1.setCell ⟨X,q,none⟩ (.bool false)).heap[X+1]? = some (.cells z 72 (0,0))):=Lib.hid (set_other HBw11.out (by omega))
 have HG:Hid (Flow.Grow W (w1.setCell ⟨X,q,none⟩ (.bool false))):=Lib.hid (set_grow HGw1.out (by have:=HXw1.out;omega) _ _)
 go_upto_region 2 with fail
 generalize w1.setCell ⟨X,q,none⟩ (.bool false)=w3 at *
 have hst:=row_store Tryz.prog HY.out HS.out.2.symm HRa.out
 have hsz:R.size=65:=by have:=HS.out.2;have:=Hz.out;omega
 go_wp2_with (with_reducible refine wpList_load_row rfl 72 (.tmp 2) rfl X rfl 72 R (0,0) _ HR.out Tryz.underlying72 rfl HS.out.1 ?_)
 refine bodyPost_ret (results_cell_row rfl _ _ (X+1) _ _ _ _ rfl (row_set HY.out) Tryz.underlying72 rfl HS.out.1) rfl ⟨rfl,row_grow HG.out (by have:=HXw1.out;omega)⟩
end Go.Proofs.YtcnmaplopbbmaaaGreat
namespace Go.Proofs.YtcnmaplopbbmaaaGreat
open Go.RowKit
theorem Gr.tasks_step (ns:List Gr.Nd) (j:Nat):(Gr.tasks ns (j+1)).length=(Gr.tasks ns j).length+if (ns.getD j Gr.nd0).kind=3 then 1 else 0:=by
 rw [Gr.tasks,List.length_append]
 split <;> simp
def Gr.G.busyR (g:Gr.G) (n:Nat):Int:=(g.es.length:Int)+2 * ((Gr.tasks g.ns n).length:Int)
set_option maxRecDepth 100000 in
set_option maxHeartbeats 1000000 in
theorem busyR_any (v0 v1 v2 v3:Value) (g:Gr.G) (n:Nat) (W:World) (hf:g.Few) (hn:n≤g.ns.length) (h:Gr.GAt W v0 v1 v2 v3 g) :
  Calls Tryz.prog 79 #[.agg #[v0,v1,v2,v3],.int .i64 n] W fun e w'=>e=.returned (.int .i64 (g.busyR n))∧Flow.Grow W w':=by
 obtain ⟨an,cn,rfl⟩:=Gr.Recs.form h.nodes
 obtain ⟨ae,ce,rfl⟩:=Gr.Recs.form h.edges
 have HN:=Lib.hid h.nodes
 obtain ⟨f,hff⟩:∃ f:Nat→Nat,f=fun j=>(Gr.tasks g.ns j).length:=⟨_,rfl⟩
 have HT:Hid (∀ j,f (j+1)=f j+if (g.ns.getD j Gr.nd0).kind=3 then 1 else 0):=Lib.hid fun j=>by rw [hff];exact Gr.tasks_step g.ns j
 have HF0:Hid (f 0=0):=Lib.hid (by rw [hff];rfl)
 have HL:Hid (∀ j,f j≤j):=Lib.hid fun j=>by rw [hff];exact Gr.tasks_len g.ns j
 have HR:Hid (g.busyR n=(g.es.length:Int)+2 * (f n:Int)):=Lib.hid (by rw [hff];rfl)
 have h1:=hf.ns
 have h2:=hf.es
 clear hff h hf
 generalize g.busyR n=R at *
 generalize g.es.length=E at *
 go_enter Tryz.func79,Tryz.ntmps79
 go_upto_region 1 with fail
 have HBw10:Hid ((W.alloc (.cells #[v0,v1,.slice an g.ns.length cn,.slice ae E ce] 27)).heap[W.heap.size]? = some (.cells #[v0,v1,.slice an g.ns.length cn,.slice ae E ce] 27 (0,0))):=Lib.hid (lay1_0 _ _)
 have HGw1:Hid (Flow.Grow W (W.alloc (.cells #[v0,v1,.slice an g.ns.length cn,.slice ae E ce] 27))):=Lib.hid (lay1_g _ _)
 have HSw1:Hid ((W.alloc (.cells #[v0,v1,.slice an g.ns.length cn,.slice ae E ce] 27)).heap.size=W.heap.size+1):=Lib.hid (by simp)
 generalize W.alloc (.cells #[v0,v1,.slice an g.ns.length cn,.slice ae E ce] 27)=w1 at *
 obtain ⟨X,hX⟩:∃ X,X=W.heap.size:=⟨_,rfl⟩
 rw [← hX] at HBw10 HSw1 ⊢
 have HXw1:=Lib.hid hX
 clear hX
 have CXw1:Hid (∀ wq,Flow.Grow w1 wq→wq.cell? ⟨X,0,none⟩=some (v0)∧wq.cell? ⟨X,1,none⟩=some (v1)∧wq.cell? ⟨X,2,none⟩=some (.slice an g.ns.length cn)∧wq.cell? ⟨X,3,none⟩=some (.slice ae E ce)):=Lib.hid (fun wq g=>⟨lay_cell g HBw10.out rfl,lay_cell g HBw10.out rfl,lay_cell g HBw10.out rfl,lay_cell g HBw10.out rfl⟩)
 have FXw1:Hid (∀ wq,Flow.Grow w1 wq→(∀ k,wq.frozen? ⟨X,k,none⟩=false)):=Lib.hid (fun wq g=>fun k=>lay_frozen g HBw10.out k)
 obtain ⟨c00,c01,c02,c03⟩:=CXw1.out w1 (Flow.grow_refl _)
 have HNw:=Lib.hid (Gr.Recs.grow HN.out HGw1.out)
 generalize hnl:g.ns.length=nl at *
 have Hnl:=Lib.hid hnl
 clear hnl
 go_wp2_with fail
 go_loop [5,6] (fun va vi=>∃ j:Nat,j≤n∧vi=.int .i64 j∧va=.int .i64 ((E:Int)+2 * (f j:Int))) (fun _ vi=>n - (intOf vi).toNat)
 case atStart=>exact ⟨0,by omega,rfl,by rw [HF0.out];simp⟩
 case round =>
  obtain ⟨j,hj,rfl,rfl⟩:=hrel
  by_cases hjn:j < n
  ·obtain ⟨b,off,rfl,q⟩:=Gr.NdsAt.at HNw.out (j:=j) (by rw [Hnl.out];omega)
   have ck:=q.1
   have hfj:=HL.out j
   clear q
   have HS:=Lib.hid (HT.out j)
   generalize (g.ns.getD j Gr.nd0).kind=K at *
   by_cases hk:K=3
   ·have d:(K == 3)=true:=by simp [hk]
    have HS2:=Lib.hid (HS.out.trans (by rw [if_pos hk]))
    clear hk
    go_wp2_with fail
    go_round
    case rel=>exact ⟨j+1,by omega,by go_num,by rw [HS2.out];go_num⟩
    case measure=>simp [intOf];omega
   ·have d:(K == 3)=false:=by simp [hk]
    have HS2:=Lib.hid (HS.out.trans (by rw [if_neg hk]))
    clear hk
    go_wp2_with fail
    go_round
    case rel=>exact ⟨j+1,by omega,by go_num,by rw [HS2.out];go_num⟩
    case measure=>simp [intOf];omega
  ·obtain rfl:j=n:=by omega
   go_wp2_with fail
   go_ret
   exact ⟨by rw [HR.out];rfl,HGw1.out⟩
theorem Gr.idx_none {l:List Gr.Lb} {x:Gr.Lb} (h:∀ j,j < l.length→l.getD j (0,0,0)≠x):Gr.idx l x=-1:=by
 unfold Gr.idx
 rw [List.findIdx?_eq_none_iff.2]
 intro y hy
 obtain ⟨j,hj,rfl⟩:=List.mem_iff_getElem.1 hy
 have:=h j hj
 rw [List.getD_eq_getElem?_getD,List.getElem?_eq_getElem hj] at this
 simpa using this
theorem Gr.idx_first {l:List Gr.Lb} {x:Gr.Lb} {k:Nat} (hk:k < l.length) (e:l.getD k (0,0,0)=x) (h:∀ j,j < k→l.getD j (0,0,0)≠x):Gr.idx l x=k:=by
 unfold Gr.idx
 rw [(List.findIdx?_eq_some_iff_getElem (i:=k)).2 ⟨hk,?_,?_⟩]
 ·rw [List.getD_eq_getElem?_getD,List.getElem?_eq_getElem hk] at e
  simpa using e
 ·intro j hj
  have:=h j hj
  rw [List.getD_eq_getElem?_getD,List.getElem?_eq_getElem (by omega)] at this
  simpa using this
end Go.Proofs.YtcnmaplopbbmaaaGreat
namespace Go.Proofs.YtcnmaplopbbmaaaGreat
open Go.RowKit
theorem Gr.outE_step (es:List Gr.Ed) (n:Int) (t:Gr.Tk) (j:Nat):(Gr.outE es n (j+1)).foldl Gr.put1 t=if (es.getD j (0,0)).1=n then Gr.put1 ((Gr.outE es n j).foldl Gr.put1 t) j else (Gr.outE es n j).foldl Gr.put1 t:=by
 rw [Gr.outE,List.foldl_append]
 split <;> rfl
theorem Gr.G.Fit.es {g:Gr.G} (h:g.Fit):g.es.length≤64:=by
 have:=h.pl
 unfold Gr.G.places at this
 omega
theorem tk_sz {t:Gr.Tk} (h:t.1.length=64):(Tryz.prog.info? 72).map (·.size)=some (Gr.tcs t).size∧(Gr.tcs t).size=65∧(Gr.tcs t).all (·.oneCell')=true:=⟨tk_size h,by rw [Gr.tcs_size,h],Gr.tcs_all t⟩
set_option maxRecDepth 100000 in
set_option maxHeartbeats 1000000 in
theorem rout_any (v0 v1 v2 v3:Value) (g:Gr.G) (n:Nat) (t:Gr.Tk) (W:World) (hF:g.Fit) (hl:t.1.length=64) (h:Gr.GAt W v0 v1 v2 v3 g) :
  Calls Tryz.prog 58 #[.agg #[v0,v1,v2,v3],.int .i64 n,.agg (Gr.tcs t)] W fun e w'=>e=.returned (.agg (Gr.tcs (g.outT n t)))∧Flow.Grow W w':=by
 obtain ⟨ae,ce,rfl⟩:=Gr.Recs.form h.edges
 have HE:=Lib.hid h.edges
 have hE:=hF.es
 have Hlen:∀ j,((Gr.outE g.es n j).foldl Gr.put1 t).1.length=64:=fun j=>by rw [Gr.puts_len,hl]
 obtain ⟨F,hFF⟩:∃ F:Nat→Array Value,F=fun j=>Gr.tcs ((Gr.outE g.es n j).foldl Gr.put1 t):=⟨_,rfl⟩
 have HP:Hid (∀ j w,j < g.es.length→(g.es.getD j (0,0)).1=n→Calls Tryz.prog 59 #[.agg (F j),.int .i64 j] w fun e w'=>e=.returned (.agg (F (j+1)))∧Flow.Grow w w'):=Lib.hid fun j w hj he=>by
  rw [hFF]
  dsimp only
  rw [Gr.outE_step,if_pos he]
  exact put_any _ j w (Hlen j) (by omega) (by omega)
 have HN:Hid (∀ j,(g.es.getD j (0,0)).1≠n→F (j+1)=F j):=Lib.hid fun j he=>by
  rw [hFF]
  dsimp only
  rw [Gr.outE_step,if_neg he]
 have HSz:Hid (∀ j,(Tryz.prog.info? 72).map (·.size)=some (F j).size∧(F j).size=65∧(F j).all (·.oneCell')=true):=Lib.hid fun j=>by rw [hFF];exact tk_sz (Hlen j)
 have HRes:Hid (Gr.tcs (g.outT n t)=F g.es.length):=Lib.hid (by rw [hFF];rfl)
 have H00:Hid (Gr.tcs t=F 0):=Lib.hid (by rw [hFF];rfl)
 generalize Gr.tcs (g.outT n t)=R at *
 rw [H00.out]
 clear hFF Hlen hF hl h
 have hz0:=zeroTk
 obtain ⟨z,hz⟩:∃ z,z=Gr.tcs Gr.tz:=⟨_,rfl⟩
 have Hz:Hid (z.size=65):=Lib.hid (by rw [hz];rfl)
 rw [← hz] at hz0
 clear hz
 generalize hEl:g.es.length=E at *
 have HEl:=Lib.hid hEl
 clear hEl
 go_enter Tryz.func58,Tryz.ntmps58
 go_upto_region 1 with fail
 clear hz0
 have HBw10:Hid ((((W.alloc (.cells #[v0,v1,v2,.slice ae E ce] 27)).alloc (.cells (F 0) 72)).alloc (.cells z 72)).heap[W.heap.size]? = some (.cells #[v0,v1,v2,.slice ae E ce] 27 (0,0))):=Lib.hid (lay3_0 _ _ _ _)
 have HBw11:Hid ((((W.alloc (.cells #[v0,v1,v2,.slice ae E ce] 27)).alloc (.cells (F 0) 72)).alloc (.cells z 72)).heap[W.heap.size+1]? = some (.cells (F 0) 72 (0,0))):=Lib.hid (lay3_1 _ _ _ _)
 have HBw12:Hid ((((W.alloc (.cells #[v0,v1,v2,.slice ae E ce] 27)).alloc (.cells (F 0) 72)).alloc (.cells z 72)).heap[W.heap.size+1+1]? = some (.cells z 72 (0,0))):=Lib.hid (lay3_2 _ _ _ _)
 have HGw1:Hid (Flow.Grow W (((W.alloc (.cells #[v0,v1,v2,.slice ae E ce] 27)).alloc (.cells (F 0) 72)).alloc (.cells z 72))):=Lib.hid (lay3_g _ _ _ _)
 have HSw1:Hid ((((W.alloc (.cells #[v0,v1,v2,.slice ae E ce] 27)).alloc (.cells (F 0) 72)).alloc (.cells z 72)).heap.size=W.heap.size+1+1+1):=Lib.hid (by simp)
 generalize ((W.alloc (.cells #[v0,v1,v2,.slice ae E ce] 27)).alloc (.cells (F 0) 72)).alloc (.cells z 72)=w1 at *
 obtain ⟨X,hX⟩:∃ X,X=W.heap.size:=⟨_,rfl⟩
 rw [← hX] at HBw10 HBw11 HBw12 HSw1 ⊢
 have HXw1:=Lib.hid hX
 clear hX
 have CXw1:Hid (∀ wq,Flow.Grow w1 wq→wq.cell? ⟨X,0,none⟩=some (v0)∧wq.cell? ⟨X,1,none⟩=some (v1)∧wq.cell? ⟨X,2,none⟩=some (v2)∧wq.cell? ⟨X,3,none⟩=some (.slice ae E ce)):=Lib.hid (fun wq g=>⟨lay_cell g HBw10.out rfl,lay_cell g HBw10.out rfl,lay_cell g HBw10.out rfl,lay_cell g HBw10.out rfl⟩)
 have FXw1:Hid (∀ wq,Flow.Grow w1 wq→(∀ k,wq.frozen? ⟨X,k,none⟩=false)∧(∀ k,wq.frozen? ⟨X+1,k,none⟩=false)∧(∀ k,wq.frozen? ⟨X+1+1,k,none⟩=false)):=Lib.hid (fun wq g=>⟨fun k=>lay_frozen g HBw10.out k,fun k=>lay_frozen g HBw11.out k,fun k=>lay_frozen g HBw12.out k⟩)
 go_wp2_with fail
 go_loopw [7] (fun vi wr=>∃ j:Nat,j≤E∧vi=.int .i64 j∧Hid (wr.heap[X]? = some (.cells #[v0,v1,v2,.slice ae E ce] 27 (0,0)))∧Hid (wr.heap[X+1]? = some (.cells (F j) 72 (0,0)))∧Hid (wr.heap[X+1+1]? = some (.cells z 72 (0,0)))∧Hid (Flow.Grow W wr)) (fun vi _=>E - (intOf vi).toNat)
 case atStart=>exact ⟨0,by omega,rfl,HBw10,HBw11,HBw12,HGw1⟩
 case round =>
  obtain ⟨j,hj,rfl,H0,H1,H2,HG⟩:=hrel
  rename World=>wr
  have c3:wr.cell? ⟨X,3,none⟩=some (.slice ae E ce):=(cell_of_row wr X 3 _ _ _ H0.out).trans rfl
  by_cases hjn:j < E
  ·obtain ⟨b,off,rfl,p0,p1⟩:=Gr.EsAt.at (Gr.Recs.grow HE.out HG.out) (j:=j) (by rw [HEl.out];exact hjn)
   have HPj:=Lib.hid fun w=>HP.out j w hjn
   have HNj:=Lib.hid (HN.out j)
   have p0':wr.cell? ⟨b,off+j * 2,none⟩=some (.int .i64 (g.es.getD j (0,0)).1):=p0
   clear p0 p1 HP HN
   generalize (g.es.getD j (0,0)).1=y at *
   by_cases hy:y=n
   ·have d:(y == (n:Int))=true:=by simp [hy]
    replace HPj:=Lib.hid fun w=>HPj.out w hy
    clear hy
    go_wp2_with (first
     | (with_reducible refine wpList_load_row rfl 72 (.tmp 5) rfl (X+1) rfl 72 (F j) (0,0) _ H1.out Tryz.underlying72 rfl (HSz.out j).1 ?_)
     | (go_at_call 59;refine (HPj.out _).mono ?_;rintro e w3 ⟨rfl,hg⟩;have H1':=Lib.hid (heap_keep hg H1.out);have hst:=row_store Tryz.prog H1'.out ((HSz.out (j+1)).2.1.trans (HSz.out j).2.1.symm) (HSz.out (j+1)).2.2;have hsz:=(HSz.out (j+1)).2.1;have H0':=Lib.hid (heap_keep hg H0.out);have H2':=Lib.hid (heap_keep hg H2.out);have HG':=Lib.hid (HG.out.trans hg);clear hg))
    go_roundw
    case rel=>exact ⟨j+1,by omega,by go_num,Lib.hid ((row_other (by omega)).trans H0'.out),Lib.hid (row_set H1'.out),Lib.hid ((row_other (by omega)).trans H2'.out),Lib.hid (row_grow HG'.out (by have:=HXw1.out;omega))⟩
    case measure=>simp [intOf];omega
   ·have d:(y == (n:Int))=false:=by simp [hy]
    replace HNj:=Lib.hid (HNj.out hy)
    clear hy HPj
    go_wp2_with fail
    go_roundw
    case rel=>exact ⟨j+1,by omega,by go_num,H0,Lib.hid (by rw [HNj.out];exact H1.out),H2,HG⟩
    case measure=>simp [intOf];omega
  ·obtain rfl:j=E:=by omega
   have hst:=row_store Tryz.prog H2.out ((HSz.out j).2.1.trans Hz.out.symm) (HSz.out j).2.2
   have hsz:=(HSz.out j).2.1
   go_wp2_with (with_reducible refine wpList_load_row rfl 72 (.tmp 5) rfl (X+1) rfl 72 (F j) (0,0) _ H1.out Tryz.underlying72 rfl (HSz.out j).1 ?_)
   refine bodyPost_ret (results_cell_row rfl _ _ (X+1+1) _ _ _ _ rfl (row_set H2.out) Tryz.underlying72 rfl (HSz.out j).1) rfl ⟨by rw [HRes.out],row_grow HG.out (by have:=HXw1.out;omega)⟩
end Go.Proofs.YtcnmaplopbbmaaaGreat
