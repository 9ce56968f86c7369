/- galliardref13.Turns by its contract. -/
import Derived.Test.YtcnmaplopbbmaaaGreatRTask
import Derived.Test.YtcnmaplopbbmaaaGreatRLab
import Derived.Test.YtcnmaplopbbmaaaGreatMAt
namespace Go.Proofs.YtcnmaplopbbmaaaGreat
open Go.RowKit
theorem store_newR (P:Program) (w:World) (cs ds:Array Value) (e:TypeId) (hs:ds.size=cs.size) (h1:ds.all (·.oneCell')=true) :
  (storeCells ⟨w.heap.size,0,none⟩ ds.toList).run P (w.alloc (.cells cs e))=.ok () (w.alloc (.cells ds e)):=by
 rw [row_store P (heap_alloc_new w _) hs h1,World.setRow_alloc_new]
theorem own_lift {w w':World} {bs e sz n:Nat} {v:Value} {xs:List Value} (h:w.ownsRow bs e sz v n xs) (hT:e≠112) (k:∀ (Y:Nat) (cs:Array Value) (T:TypeId) (fr:Nat × Nat),w.heap[Y]? = some (.cells cs T fr)→T≠112→w'.heap[Y]? = some (.cells cs T fr)):w'.ownsRow bs e sz v n xs:=by
 refine ⟨h.1,?_⟩
 rcases h.2 with h0 | ⟨g,cap,cur,h1,h2,h3,h4⟩
 ·exact .inl h0
 ·exact .inr ⟨g,cap,cur,h1,h2,k _ _ _ _ h3 hT,h4⟩
structure Gr.RS (W:World) (gv C:Array Value) (X:Nat) (vl:Value) (L:List Gr.Lb) (w:World) (v:Value) (ts:List Gr.Tn):Prop where
 ro:Gr.RO W w v ts
 g:w.heap[X]? = some (.cells gv 27 (0,0))
 t:w.heap[X+1]? = some (.cells C 72 (0,0))
 lb:w.ownsRow W.heap.size 104 3 vl L.length (L.flatMap Gr.lcells)
section
variable {W w w':World} {gv C:Array Value} {X:Nat} {vl v v':Value} {L:List Gr.Lb} {ts ts':List Gr.Tn}
theorem Gr.RS.keep (h:Gr.RS W gv C X vl L w v ts) (k:Flow.Grow w w'):Gr.RS W gv C X vl L w' v ts:=⟨h.ro.keep k,heap_keep k h.g,heap_keep k h.t,own_keep h.lb k⟩
theorem Gr.RS.app (h:Gr.RS W gv C X vl L w v ts) (o:Gr.RO W w' v' ts') (k:∀ (Y:Nat) (cs:Array Value) (T:TypeId) (fr:Nat × Nat),w.heap[Y]? = some (.cells cs T fr)→T≠112→w'.heap[Y]? = some (.cells cs T fr)):Gr.RS W gv C X vl L w' v' ts':=⟨o,k _ _ _ _ h.g (by decide),k _ _ _ _ h.t (by decide),own_lift h.lb (by decide) k⟩
theorem Gr.RS.gc {v0 v1 v2 v3:Value} (h:Gr.RS W #[v0,v1,v2,v3] C X vl L w v ts):w.cell? ⟨X,0,none⟩=some v0∧w.cell? ⟨X,1,none⟩=some v1∧w.cell? ⟨X,2,none⟩=some v2∧w.cell? ⟨X,3,none⟩=some v3:=⟨(cell_of_row w X 0 _ _ _ h.g).trans rfl,(cell_of_row w X 1 _ _ _ h.g).trans rfl,(cell_of_row w X 2 _ _ _ h.g).trans rfl,(cell_of_row w X 3 _ _ _ h.g).trans rfl⟩
end
theorem info_int13:(Tryz.prog.info? 3).map (fun i=>(i.zero,i.size,i.bytes))=some (some (.int .i64 0),1,8):=by kernel_rfl
set_option maxRecDepth 100000 in
set_option maxHeartbeats 16000000 in
theorem rturns_any (v0 v1 v2 v3:Value) (g:Gr.G) (t:Gr.Tk) (W:World) (hF:g.Fit) (hl:t.1.length=64) (hnp:g.np≤20) (hnm:g.nm≤1000) (h:Gr.GAt W v0 v1 v2 v3 g) :
  Calls Tryz.prog 38 #[.agg #[v0,v1,v2,v3],.agg (Gr.tcs t)] W fun e w'=>∃ v,e=.returned v∧Gr.RO W w' v (g.turns g.labels t):=by
 obtain ⟨an,cn,rfl⟩:=Gr.Recs.form h.nodes
 obtain ⟨ae,ce,rfl⟩:=Gr.Recs.form h.edges
 have HNs:=Lib.hid h.nodes
 have HEs:=Lib.hid h.edges
 have hEl:=hF.es
 have hNl:=hF.few.ns
 have HLb:=Lib.hid fun w (hg:Flow.Grow W w)=>rlabels_any v0 v1 _ _ g w hF.few hnp hnm (h.grow hg)
 have hLl:g.labels.length≤1000000:=by
  refine Nat.le_trans (g.la_len g.np) ?_
  have h1:g.np * g.nm≤20 * 1000:=Nat.mul_le_mul hnp hnm
  have h2:=Nat.mul_le_mul hnp h1
  omega
 generalize g.labels=L at *
 have HTk:Hid (∀ w vi vl (j:Nat),j < g.ns.length→(g.nd j).kind=3→Flow.Grow W w→Ints w vi (g.inn j)→Gr.LbsAt w vl L→Calls Tryz.prog 56 #[.agg #[v0,v1,.slice an g.ns.length cn,.slice ae g.es.length ce],.agg (Gr.tcs t),.int .i64 j,vi,vl] w fun e w'=>∃ v,e=.returned v∧Gr.RO w w' v (g.taskT L j t)) :=
  Lib.hid fun w vi vl j hj hk hg hi hlb=>rtask_any v0 v1 _ _ vi vl g L j t w hF hl hj hk hLl (h.grow hg) hi hlb
 have HWo:Hid (∀ (u:Gr.Tk) w (q:Nat),u.1.length=64→q < 64→Calls Tryz.prog 57 #[.agg (Gr.tcs u),.int .i64 q] w fun e w'=>e=.returned (.agg (Gr.tcs (Gr.wo u (q:Int))))∧Flow.Grow w w'):=Lib.hid fun u w q hu hq=>without_any u q w hu (by omega) (by omega)
 have HPu:Hid (∀ (u:Gr.Tk) w (q:Nat),u.1.length=64→q < 64→Calls Tryz.prog 59 #[.agg (Gr.tcs u),.int .i64 q] w fun e w'=>e=.returned (.agg (Gr.tcs (Gr.put1 u (q:Int))))∧Flow.Grow w w'):=Lib.hid fun u w q hu hq=>put_any u q w hu (by omega) (by omega)
 have HOu:Hid (∀ (u:Gr.Tk) w (j:Nat),u.1.length=64→Flow.Grow W w→Calls Tryz.prog 58 #[.agg #[v0,v1,.slice an g.ns.length cn,.slice ae g.es.length ce],.int .i64 j,.agg (Gr.tcs u)] w fun e w'=>e=.returned (.agg (Gr.tcs (g.outT j u)))∧Flow.Grow w w'):=Lib.hid fun u w j hu hg=>rout_any v0 v1 _ _ g j u w hF hu (h.grow hg)
 have HIp:=Lib.hid (fun j:Int=>hF.inn j)
 have HIl:=Lib.hid (fun j:Int=>hF.inn_len j)
 have HOl:=Lib.hid (fun j:Int=>hF.out_len j)
 have HTl:=Lib.hid (fun j=>Gr.G.nodeT_len hF L j t)
 have HT:Hid (g.turns L t=(List.range g.ns.length).flatMap fun j=>g.nodeT L j t):=Lib.hid rfl
 have HNt:Hid (∀ j,g.nodeT L j t=if (g.nd j).kind=3 then g.taskT L j t
  else if (g.nd j).kind=5 then (if (g.inn j).length > 0∧(g.inn j).all (Gr.at1 t) then [(-1,g.outT j ((g.inn j).foldl Gr.wo t))] else [])
  else if (g.nd j).kind=4∨(g.nd j).kind=6 then (g.inn j).flatMap fun k=>(g.out j).flatMap fun o=>if Gr.at1 t k then [(-1,Gr.put1 (Gr.wo t k) o)] else []
  else if (g.nd j).kind=2 then (g.inn j).flatMap fun k=>if Gr.at1 t k then [(-1,Gr.wo t k)] else []
  else []):=Lib.hid fun j=>rfl
 have HIs:Hid (∀ (j:Int) k,Gr.inE g.es j (k+1)=Gr.inE g.es j k++if (g.es.getD k (0,0)).2=j then [(k:Int)] else []):=Lib.hid fun j k=>rfl
 have HI0:Hid (∀ (j:Int),Gr.inE g.es j 0=[]):=Lib.hid fun j=>rfl
 have HIle:=Lib.hid (Gr.inE_len g.es)
 have HIe:Hid (∀ (j:Int),Gr.inE g.es j g.es.length=g.inn j):=Lib.hid fun j=>rfl
 have HOs:Hid (∀ (j:Int) k,Gr.outE g.es j (k+1)=Gr.outE g.es j k++if (g.es.getD k (0,0)).1=j then [(k:Int)] else []):=Lib.hid fun j k=>rfl
 have HO0:Hid (∀ (j:Int),Gr.outE g.es j 0=[]):=Lib.hid fun j=>rfl
 have HOe:Hid (∀ (j:Int),Gr.outE g.es j g.es.length=g.out j):=Lib.hid fun j=>rfl
 have HOle:=Lib.hid (Gr.outE_len g.es)
 obtain ⟨C,hC⟩:∃ C,C=Gr.tcs t:=⟨_,rfl⟩
 have HCs:Hid ((Tryz.prog.info? 72).map (·.size)=some C.size∧C.size=65∧C.all (·.oneCell')=true):=Lib.hid (by rw [hC];exact tk_sz hl)
 have HCb:Hid (∀ q:Nat,q < 64→C[q]? = some (.bool (Gr.at1 t (q:Int)))):=Lib.hid fun q hq=>by rw [hC,at1_bit];exact Gr.tcs_get (by omega)
 have HCt:=Lib.hid hC
 rw [← hC] at HTk ⊢
 clear hC
 have Hl:=Lib.hid hl
 clear h hF hl hnp hnm
 generalize g.turns L t=TRS at *
 generalize hnl:g.ns.length=nl at *
 have Hnl:=Lib.hid hnl
 clear hnl
 generalize hel:g.es.length=E at *
 have Hel:=Lib.hid hel
 clear hel
 obtain ⟨f,hf⟩:∃ f:Nat→List Gr.Tn,f=fun j=>g.nodeT L j t:=⟨_,rfl⟩
 have HFf:Hid (∀ j,g.nodeT L j t=f j):=Lib.hid fun j=>by rw [hf]
 rw [← hf] at HT
 have HFl2:Hid (∀ ys:List Nat,(ys.flatMap f).length≤ys.length * 4096):=Lib.hid fun ys=>flat_len_le f 4096 (fun j=>by rw [hf];exact HTl.out j) ys
 clear hf
 obtain ⟨i0,hi0,hz0',hz1,hz2⟩:=info_parts info_int13
 have HI:=Lib.hid (And.intro hi0 (And.intro hz0' (And.intro hz1 hz2)))
 clear hi0 hz0' hz1 hz2
 obtain ⟨iT,zT,hiT,hzT,hsT,hbT,hcT⟩:=info_rt
 have HITn:=Lib.hid (And.intro hiT (And.intro hzT (And.intro hsT (And.intro hbT hcT))))
 clear hiT hzT hsT hbT hcT
 have HZ:=Lib.hid zeroTk
 obtain ⟨z,hz⟩:∃ z,z=Gr.tcs Gr.tz:=⟨_,rfl⟩
 have Hz:Hid (z.size=65):=Lib.hid (by rw [hz];rfl)
 rw [← hz] at HZ
 clear hz
 go_enter Tryz.func38,Tryz.ntmps38
 go_upto_region 2 with fail
 have HBw10:Hid ((((W.alloc (.cells #[v0,v1,.slice an nl cn,.slice ae E ce] 27)).alloc (.cells C 72)).alloc (.cells #[] 112)).heap[W.heap.size]? = some (.cells #[v0,v1,.slice an nl cn,.slice ae E ce] 27 (0,0))):=Lib.hid (lay3_0 _ _ _ _)
 have HBw11:Hid ((((W.alloc (.cells #[v0,v1,.slice an nl cn,.slice ae E ce] 27)).alloc (.cells C 72)).alloc (.cells #[] 112)).heap[W.heap.size+1]? = some (.cells C 72 (0,0))):=Lib.hid (lay3_1 _ _ _ _)
 have HBw12:Hid ((((W.alloc (.cells #[v0,v1,.slice an nl cn,.slice ae E ce] 27)).alloc (.cells C 72)).alloc (.cells #[] 112)).heap[W.heap.size+1+1]? = some (.cells #[] 112 (0,0))):=Lib.hid (lay3_2 _ _ _ _)
 have HGw1:Hid (Flow.Grow W (((W.alloc (.cells #[v0,v1,.slice an nl cn,.slice ae E ce] 27)).alloc (.cells C 72)).alloc (.cells #[] 112))):=Lib.hid (lay3_g _ _ _ _)
 have HSw1:Hid ((((W.alloc (.cells #[v0,v1,.slice an nl cn,.slice ae E ce] 27)).alloc (.cells C 72)).alloc (.cells #[] 112)).heap.size=W.heap.size+1+1+1):=Lib.hid (by simp)
 generalize ((W.alloc (.cells #[v0,v1,.slice an nl cn,.slice ae E ce] 27)).alloc (.cells C 72)).alloc (.cells #[] 112)=w1 at *
 obtain ⟨X,hX⟩:∃ X,X=W.heap.size:=⟨_,rfl⟩
 rw [← hX] at HBw10 HBw11 HBw12 HSw1 ⊢
 have HXw1:=Lib.hid hX
 clear hX
 have CXw1:Hid (∀ wq,Flow.Grow w1 wq→wq.cell? ⟨X,0,none⟩=some (v0)∧wq.cell? ⟨X,1,none⟩=some (v1)∧wq.cell? ⟨X,2,none⟩=some (.slice an nl cn)∧wq.cell? ⟨X,3,none⟩=some (.slice ae E ce)):=Lib.hid (fun wq g=>⟨lay_cell g HBw10.out rfl,lay_cell g HBw10.out rfl,lay_cell g HBw10.out rfl,lay_cell g HBw10.out rfl⟩)
 have FXw1:Hid (∀ wq,Flow.Grow w1 wq→(∀ k,wq.frozen? ⟨X,k,none⟩=false)∧(∀ k,wq.frozen? ⟨X+1,k,none⟩=false)∧(∀ k,wq.frozen? ⟨X+1+1,k,none⟩=false)):=Lib.hid (fun wq g=>⟨fun k=>lay_frozen g HBw10.out k,fun k=>lay_frozen g HBw11.out k,fun k=>lay_frozen g HBw12.out k⟩)
 obtain ⟨c00,c01,c02,c03⟩:=CXw1.out w1 (Flow.grow_refl _)
 have HR0:Hid (Gr.RO W w1 (.slice (some ⟨X+1+1,0,none⟩) 0 0) []):=Lib.hid (Gr.RO.empty HBw12.out (by have:=HXw1.out;omega) HGw1.out)
 go_upto_region 3 with (go_at_call 37;refine (HLb.out _ HGw1.out).mono ?_;rintro e w2 ⟨⟨vl,rfl,ho⟩,hg⟩;have HS2:Hid (Gr.RS W #[v0,v1,.slice an nl cn,.slice ae E ce] C X vl L w2 (.slice (some ⟨X+1+1,0,none⟩) 0 0) []):=Lib.hid ⟨HR0.out.keep hg,heap_keep hg HBw10.out,heap_keep hg HBw11.out,own_base ho HGw1.out.size⟩;obtain ⟨la,lc,rfl⟩:=own_form ho;clear ho hg)
 clear c00 c01 c02 c03
 go_wp2_with fail
 go_loopw [5,7] (fun vo vi wr=>∃ j:Nat,j≤nl∧vi=.int .i64 j∧Hid (Gr.RS W #[v0,v1,.slice an nl cn,.slice ae E ce] C X (.slice la L.length lc) L wr vo (((List.range nl).take j).flatMap f))) (fun _ vi _=>nl - (intOf vi).toNat)
 case atStart=>exact ⟨0,by omega,rfl,HS2⟩
 case round =>
  obtain ⟨j,hj,rfl,HRj⟩:=hrel
  rename World=>wj
  obtain ⟨va,hva⟩:∃ va,va=u5:=⟨_,rfl⟩
  obtain ⟨oa,oc,hoa⟩:=own_form HRj.out.ro.own
  subst hoa
  clear hva
  obtain ⟨c0,c1,c2,c3⟩:=HRj.out.gc
  by_cases hjn:j < nl
  ·have HX2j:=Lib.hid (flat_take f (List.range nl) j _ (range_take nl j hjn))
   have HLn2:=Lib.hid (HFl2.out ((List.range nl).take j))
   generalize ((List.range nl).take j).flatMap f=t0 at *
   have hlen0:t0.length≤4096000000:=by have h1:=HLn2.out;rw [List.length_take,List.length_range] at h1;omega
   go_wp2_with fail
   clear c0 c1 c2 c3
   go_loopw [8,9,10] (fun vn vf vk wr=>∃ k:Nat,k≤E∧vk=.int .i64 k∧vf=.bool ((Gr.inE g.es j k).all (Gr.at1 t))∧Hid (wr.ownsRow wj.heap.size 3 1 vn (Gr.inE g.es j k).length ((Gr.inE g.es j k).map (Value.int .i64)))∧Hid (Flow.Grow wj wr)) (fun _ _ vk _=>E - (intOf vk).toNat)
   case atStart=>exact ⟨0,by omega,rfl,by rw [HI0.out];rfl,Lib.hid (by rw [HI0.out];exact World.ownsRow_lit wj #[] 0 (Nat.le_refl _) (by decide) rfl),Lib.hid (Flow.grow_alloc _ _)⟩
   case round =>
    obtain ⟨k,hk,rfl,rfl,HIo,HGk⟩:=hrel
    rename World=>wr
    obtain ⟨va,hva⟩:∃ va,va=u8:=⟨_,rfl⟩
    obtain ⟨ia,ic,hia⟩:=own_form HIo.out
    subst hia
    clear hva
    have HRk:=Lib.hid (HRj.out.keep HGk.out)
    obtain ⟨c0,c1,c2,c3⟩:=HRk.out.gc
    by_cases hkn:k < E
    ·obtain ⟨eb,eo,rfl,p0,p1⟩:=Gr.EsAt.at (Gr.Recs.grow HEs.out HRk.out.ro.grow) (j:=k) (by rw [Hel.out];exact hkn)
     have p1':wr.cell? ⟨eb,eo+k * 2+1,none⟩=some (.int .i64 (g.es.getD k (0,0)).2):=p1
     have HIs2:=Lib.hid (HIs.out j k)
     have hil:=HIle.out j k
     clear p0 p1
     generalize (g.es.getD k (0,0)).2=y at *
     generalize Gr.inE g.es j k=xk at *
     have cb:wr.cell? ⟨X+1,k,none⟩=some (.bool (Gr.at1 t (k:Int))):=(cell_of_row wr (X+1) k _ _ _ HRk.out.t).trans (HCb.out k (by omega))
     by_cases hy:y=(j:Int)
     ·have d:(y == (j:Int))=true:=by simp [hy]
      have HE:Hid (Gr.inE g.es j (k+1)=xk++[(k:Int)]):=Lib.hid (by rw [HIs2.out,if_pos hy])
      clear hy
      go_upto_region 12 with (at_builtin;refine wpList_app1 (W:=wj) rfl _ _ 22 rfl 3 i0 (.int .i64 0) 1 8 Tryz.underlying22 HI.out.1 HI.out.2.1 HI.out.2.2.1 HI.out.2.2.2 rfl (by decide) _ xk.length (xk.map (Value.int .i64)) rfl (own_keep HIo.out (Flow.grow_alloc _ _)) (HGk.out.trans (Flow.grow_alloc _ _)) _ #[.int .i64 k] 3 rfl (heap_alloc_new _ _) rfl (by intro u hu;simp at hu;subst hu;rfl) (by omega) (by decide) ?_;intro v' w' hO hG hf _;have HO2:=Lib.hid hO;have HG2:=Lib.hid hG;obtain ⟨g',c',rfl,_⟩:=hf;clear hO hG)
      clear cb c0 c1 c2 c3 p1'
      rename World=>wn
      have HRn:=Lib.hid (HRj.out.keep HG2.out)
      have cb:wn.cell? ⟨X+1,k,none⟩=some (.bool (Gr.at1 t (k:Int))):=(cell_of_row wn (X+1) k _ _ _ HRn.out.t).trans (HCb.out k (by omega))
      have HAl:Hid ((Gr.inE g.es j (k+1)).all (Gr.at1 t)=(xk.all (Gr.at1 t) && Gr.at1 t (k:Int))):=Lib.hid (by rw [HE.out,List.all_append];simp)
      generalize xk.all (Gr.at1 t)=fb at *
      generalize Gr.at1 t (k:Int)=ab at *
      cases fb with
      | true =>
       go_wp2_with fail
       go_roundw
       case rel=>exact ⟨k+1,by omega,by go_num,by rw [HAl.out];simp,Lib.hid (by rw [HE.out,List.length_append,List.map_append];exact HO2.out),HG2⟩
       case measure=>simp [intOf];omega
      | false =>
       go_wp2_with fail
       go_roundw
       case rel=>exact ⟨k+1,by omega,by go_num,by rw [HAl.out];simp,Lib.hid (by rw [HE.out,List.length_append,List.map_append];exact HO2.out),HG2⟩
       case measure=>simp [intOf];omega
     ·have d:(y == (j:Int))=false:=by simp [hy]
      have HE:Hid (Gr.inE g.es j (k+1)=xk):=Lib.hid (by rw [HIs2.out,if_neg hy,List.append_nil])
      clear hy
      generalize hfb:xk.all (Gr.at1 t)=fb at *
      have Hfb:=Lib.hid hfb
      clear hfb
      go_wp2_with fail
      go_roundw
      case rel=>exact ⟨k+1,by omega,by go_num,by rw [HE.out,Hfb.out],Lib.hid (by rw [HE.out];exact HIo.out),HGk⟩
      case measure=>simp [intOf];omega
    ·obtain rfl:E=k:=by omega
     rw [HIe.out] at HIo ⊢
     obtain ⟨nb,no,rfl,m0,_⟩:=Gr.NdsAt.at (Gr.Recs.grow HNs.out HRk.out.ro.grow) (j:=j) (by rw [Hnl.out];exact hjn)
     have m0':wr.cell? ⟨nb,no+j * 7,none⟩=some (.int .i64 (g.nd j).kind):=m0
     have HNj:=Lib.hid (HNt.out j)
     have HTj:=Lib.hid fun w vi vl=>HTk.out w vi vl j hjn
     have HIpj:=Lib.hid (HIp.out j)
     have HIlj:=Lib.hid (HIl.out j)
     have HOlj:=Lib.hid (HOl.out j)
     have HTlj:=Lib.hid (HTl.out j)
     rw [HFf.out] at HNj HTlj
     clear m0 HNt HTk
     have HOuj:=Lib.hid fun u w=>HOu.out u w j
     have hi:=HIlj.out
     obtain ⟨xs,hxs⟩:∃ xs,xs=g.inn j:=⟨_,rfl⟩
     rw [← hxs] at HIo HNj HIpj HIlj hi HTj ⊢
     clear hxs
     obtain ⟨n,hn⟩:∃ n,n=xs.length:=⟨_,rfl⟩
     have Hn:=Lib.hid hn
     rw [← hn] at HIo HNj HIlj hi ⊢
     clear hn
     generalize (g.nd j).kind=K at *
     obtain ⟨fj,hfj⟩:∃ fj,fj=f j:=⟨_,rfl⟩
     rw [← hfj] at HNj HTlj HX2j
     clear hfj
     generalize hfb:xs.all (Gr.at1 t)=fb at *
     clear hfb HIp HIl HOl HTl HOu
     by_cases h3:K=3
     ·have k3:(K == 3)=true:=by simp [h3]
      have HNe:=Lib.hid (HNj.out.trans (if_pos h3))
      replace HTj:=Lib.hid fun w vi vl=>HTj.out w vi vl h3
      clear h3 HNj
      go_wp2_with (first
       | (with_reducible refine wpList_load_row rfl 72 (.tmp 3) rfl (X+1) rfl 72 C (0,0) _ HRk.out.t Tryz.underlying72 rfl HCs.out.1 ?_)
       | (go_at_call 56;refine (HTj.out _ _ _ HRk.out.ro.grow (Ints.of_own (by rw [← Hn.out];exact HIo.out)) (Seg.of_own HRk.out.lb)).mono ?_;rintro e w4 ⟨vt,rfl,hro⟩;rw [← HNe.out] at hro;obtain ⟨ta,tc,rfl⟩:=own_form hro.own;have HT4:=Lib.hid hro;clear hro)
       | (at_builtin;refine wpList_appRow rfl _ _ 109 rfl W.heap.size 112 iT zT 66 80 Tryz.underlying109 HITn.out.1 HITn.out.2.1 HITn.out.2.2.1 HITn.out.2.2.2.1 HITn.out.2.2.2.2 (by decide) (Tryz.sizeOf112 _) _ t0.length (t0.flatMap Gr.rc) rfl (own_keep HRk.out.ro.own HT4.out.grow) (Nat.le_trans HRk.out.ro.grow.size HT4.out.grow.size) _ fj.length (fj.flatMap Gr.rc) rfl (Seg.of_own HT4.out.own) (Gr.rcs_one fj) (by omega) (by have:=HTlj.out;omega) (by decide) ?_;intro v' w5 ho hby;have HR5:=Lib.hid ((HRk.out.keep HT4.out.grow).app ((HRk.out.ro.keep HT4.out.grow).app ho hby) (fun Y cs T fr hY hT=>own_otherR (own_keep HRk.out.ro.own HT4.out.grow) hY hT hby));clear ho hby))
      go_roundw
      case rel=>exact ⟨j+1,by omega,by go_num,Lib.hid (by rw [HX2j.out];exact HR5.out)⟩
      case measure=>simp [intOf];omega
     ·have k3:(K == 3)=false:=by simp [h3]
      by_cases h5:K=5
      ·have k5:(K == 5)=true:=by simp [h5]
       have HNe:=Lib.hid (HNj.out.trans ((if_neg h3).trans (if_pos h5)))
       clear h3 h5 HNj HTj
       cases fb with
       | false =>
        have HE:Hid (fj=[]):=Lib.hid (by rw [HNe.out,if_neg (by simp)])
        go_wp2_with fail
        go_roundw
        case rel=>exact ⟨j+1,by omega,by go_num,Lib.hid (by rw [HX2j.out,HE.out,List.append_nil];exact HRk.out)⟩
        case measure=>simp [intOf];omega
       | true =>
        by_cases hn0:n=0
        ·have HE:Hid (fj=[]):=Lib.hid (by rw [HNe.out,if_neg (by omega)])
         have d0:decide (0 < (n:Int))=false:=by simp;omega
         go_wp2_with fail
         go_roundw
         case rel=>exact ⟨j+1,by omega,by go_num,Lib.hid (by rw [HX2j.out,HE.out,List.append_nil];exact HRk.out)⟩
         case measure=>simp [intOf];omega
        ·have d0:decide (0 < (n:Int))=true:=by simp;omega
         have HE:=Lib.hid (HNe.out.trans (if_pos ⟨by omega,rfl⟩))
         have hz0:=HZ.out
         have hst:=store_newR Tryz.prog wr z C 72 (HCs.out.2.1.trans Hz.out.symm) HCs.out.2.2
         have hsz:=HCs.out.2.1
         go_upto_region 19 with (with_reducible refine wpList_load_row rfl 72 (.tmp 3) rfl (X+1) rfl 72 C (0,0) _ HRk.out.t Tryz.underlying72 rfl HCs.out.1 ?_)
         clear hz0 hst hsz m0' c0 c1 c2 c3
         have HBwu0:Hid ((wr.alloc (.cells C 72)).heap[wr.heap.size]? = some (.cells C 72 (0,0))):=Lib.hid (lay1_0 _ _)
         have HGwu:Hid (Flow.Grow wr (wr.alloc (.cells C 72))):=Lib.hid (lay1_g _ _)
         have HSwu:Hid ((wr.alloc (.cells C 72)).heap.size=wr.heap.size+1):=Lib.hid (by simp)
         generalize wr.alloc (.cells C 72)=wu at *
         obtain ⟨U,hU⟩:∃ X,X=wr.heap.size:=⟨_,rfl⟩
         rw [← hU] at HBwu0 HSwu ⊢
         have HXwu:=Lib.hid hU
         clear hU
         have FXwu:Hid (∀ wq,Flow.Grow wu wq→(∀ k,wq.frozen? ⟨U,k,none⟩=false)):=Lib.hid (fun wq g=>fun k=>lay_frozen g HBwu0.out k)
         have HRu:=Lib.hid (HRk.out.keep HGwu.out)
         have HIu:=Lib.hid (own_keep HIo.out HGwu.out)
         go_wp2_with fail
         go_loopw [12] (fun vk wz=>∃ k:Nat,k≤n∧vk=.int .i64 k∧Hid (wz.heap[U]? = some (.cells (Gr.tcs ((xs.take k).foldl Gr.wo t)) 72 (0,0)))∧Hid (Flow.Grow wr wz)) (fun vk _=>n - (intOf vk).toNat)
         case atStart=>exact ⟨0,by omega,rfl,Lib.hid (by have k0:=HBwu0.out;rw [HCt.out] at k0;simpa using k0),HGwu⟩
         case round =>
          obtain ⟨k,hk,rfl,HU,HGq⟩:=hrel
          rename World=>wz
          have HRq:=Lib.hid (HRk.out.keep HGq.out)
          have HIq:=Lib.hid (own_keep HIo.out HGq.out)
          have HTl2:Hid (((xs.take k).foldl Gr.wo t).1.length=64):=Lib.hid (by rw [Gr.wos_len];exact Hl.out)
          have HSu:=Lib.hid (tk_sz HTl2.out)
          by_cases hkn:k < n
          ·have hx:xs[k]? = some (xs.getD k 0):=by rw [List.getD_eq_getElem?_getD,List.getElem?_eq_getElem (by rw [← Hn.out];exact hkn)];rfl
           have hp:=HIpj.out _ (List.mem_of_getElem? hx)
           obtain ⟨xb,xo,rfl,c⟩:=Ints.at1 (Ints.of_own (zs:=xs) (by rw [← Hn.out];exact HIq.out)) (k:=k) (by rw [← Hn.out];exact hkn)
           have HS:Hid ((xs.take (k+1)).foldl Gr.wo t=Gr.wo ((xs.take k).foldl Gr.wo t) (xs.getD k 0)):=Lib.hid (by
            rw [List.take_add_one,hx]
            simp [List.foldl_append])
           clear hx
           generalize xs.getD k 0=p at *
           obtain ⟨p,rfl⟩:=Int.eq_ofNat_of_zero_le hp.1
           have hp64:p < 64:=by omega
           have HWp:=Lib.hid fun w=>HWo.out _ w p HTl2.out hp64
           have HSv:=Lib.hid (tk_sz (t:=Gr.wo ((xs.take k).foldl Gr.wo t) (p:Int)) (by rw [Gr.wo_len];exact HTl2.out))
           rw [← HS.out] at HWp HSv
           obtain ⟨u2,hu2⟩:∃ u,u=(xs.take (k+1)).foldl Gr.wo t:=⟨_,rfl⟩
           rw [← hu2] at HWp HSv
           have Hu2:=Lib.hid hu2
           clear hu2
           clear HS
           generalize (xs.take k).foldl Gr.wo t=u1 at *
           go_upto_region 22 with fail
           refine Flow.region_tail2 (R:=Flow.Grow) (C:=fun wq=>Flow.Grow wz wq) (Fs:=[.inl ((.agg (Gr.tcs u1))),.inl ((.slice (some ⟨xb,xo,none⟩) n ic)),.inl ((.int .i64 (k:Int))),.inl ((.pointer (some ⟨xb,xo+k,none⟩))),.inl ((.int .i64 (p:Int))),.inl ((.agg (Gr.tcs u2)))])
            (S:=[[],[],[],[1,2],[3],[0,4],[0,1,2,3,4,5]]) 6 (by kernel_rfl) (by kernel_rfl) (by kernel_rfl) (by kernel_rfl) rfl ?stab22 Flow.grow_refl (fun _ _ h k=>h.trans k) (Flow.grow_drew _) ?ones22 ?ends22
           case ones22 =>
            refine Flow.Ones.cons ?_ ?_
            ·intro a w hC hoff _
             have e11:a.eval (.tmp 11)=(.pointer (some ⟨U,0,none⟩)):=hoff.at 11 (by kernel_rfl)
             refine .inl ⟨Flow.want_none rfl,?_⟩
             refine Flow.run_same ?_ Flow.grow_refl
             have ec:=Flow.eval_const a
             generalize a.eval=ρ at e11 ec ⊢
             exact exec_load_row 72 _ rfl U e11 72 (Gr.tcs u1) (0,0) _ (heap_keep hC HU.out) Tryz.underlying72 rfl HSu.out.1
            refine Flow.Ones.cons ?_ ?_
            ·intro a w hC hoff _
             have e8:a.eval (.tmp 8)=(.slice (some ⟨xb,xo,none⟩) n ic):=hoff.at 8 (by kernel_rfl)
             refine .inl ⟨Flow.want_none rfl,?_⟩
             exact Flow.run_same (Flow.exec_move (.inl rfl) e8) Flow.grow_refl
            refine Flow.Ones.cons ?_ ?_
            ·intro a w hC hoff _
             have e12:a.eval (.tmp 12)=(.int .i64 (k:Int)):=hoff.at 12 (by kernel_rfl)
             refine .inl ⟨Flow.want_none rfl,?_⟩
             exact Flow.run_same (Flow.exec_move (.inl rfl) e12) Flow.grow_refl
            refine Flow.Ones.cons ?_ ?_
            ·rintro a w hC hoff ⟨k1,k2,-⟩
             have e85:a.eval (.tmp 85)=(.slice (some ⟨xb,xo,none⟩) n ic):=k1 85 rfl
             have e86:a.eval (.tmp 86)=(.int .i64 (k:Int)):=k2 86 rfl
             refine .inl ⟨Flow.want_none rfl,?_⟩
             refine Flow.run_same ?_ Flow.grow_refl
             have ec:=Flow.eval_const a
             generalize a.eval=ρ at e85 e86 ec ⊢
             simp [execOp,e85,e86,go_sem];intro hh;omega
            refine Flow.Ones.cons ?_ ?_
            ·rintro a w hC hoff ⟨k3,-⟩
             have e87:a.eval (.tmp 87)=(.pointer (some ⟨xb,xo+k,none⟩)):=k3 87 rfl
             refine .inl ⟨Flow.want_none rfl,?_⟩
             refine Flow.run_same ?_ Flow.grow_refl
             have ec:=Flow.eval_const a
             generalize a.eval=ρ at e87 ec ⊢
             have h0:=Xm2.cell_grow hC c
             simp [execOp,e87,h0,go_sem]
            refine Flow.Ones.cons ?_ ?_
            ·rintro a w hC hoff ⟨k0,k4,-⟩
             have e84:a.eval (.tmp 84)=(.agg (Gr.tcs u1)):=k0 84 rfl
             have e88:a.eval (.tmp 88)=(.int .i64 (p:Int)):=k4 88 rfl
             refine .inl ⟨Flow.want_none rfl,?_⟩
             exact Flow.run_call (Flow.exec_call (args:=#[((.agg (Gr.tcs u1))),((.int .i64 (p:Int)))]) rfl Tryz.func57 (by kernel_rfl) (by kernel_rfl) (by simp only [List.map_toArray,List.map_cons,List.map_nil,e84,e88] <;> rfl)) ((HWp.out w).mono fun e w' ⟨he,hg⟩=>⟨_,he,hg,rfl⟩)
            exact trivial
           case stab22=>exact trivial
           case ends22 =>
            intro wx o ho hC
            simp only [List.take_succ_cons,List.take_zero,Flow.ends]
            have hop:o.op=.store 72 (.tmp 11) (.tmp 89):=by cases ho;rfl
            have hdst:o.dst=none:=by cases ho;rfl
            clear ho
            simp only [Act.put,List.setIfInBounds_toArray,List.set_cons_succ,List.set_cons_zero]
            have HC:=Lib.hid hC
            clear hC c
            refine wp_store_row 72 _ _ hop U (Gr.tcs u2) rfl rfl 72 (Gr.tcs u1) (heap_keep HC.out HU.out) HSv.out.1 (HSu.out.2.1.trans HSv.out.2.1.symm) HSv.out.2.2 ?_
            rw [hdst]
            simp only [Act.put]
            clear hop hdst
            go_wp2_with fail
            go_roundw
            case rel=>exact ⟨k+1,by omega,by go_num,Lib.hid (by rw [← Hu2.out];exact row_set (heap_keep HC.out HU.out)),Lib.hid (row_grow (HGq.out.trans HC.out) (by have:=HXwu.out;omega))⟩
            case measure=>simp [intOf];omega
          ·obtain rfl:k=n:=by omega
           have ht0:xs.take k=xs:=List.take_of_length_le (by rw [← Hn.out];exact Nat.le_refl _)
           rw [ht0] at HU HTl2 HSu
           clear ht0
           generalize xs.foldl Gr.wo t=u1 at *
           have HOp:=Lib.hid fun w hg=>HOuj.out u1 w HTl2.out hg
           have HSv:=Lib.hid (tk_sz (t:=g.outT j u1) (by rw [Gr.G.outT_len];exact HTl2.out))
           have HLv:Hid ((g.outT j u1).1.length=64):=Lib.hid (by rw [Gr.G.outT_len];exact HTl2.out)
           generalize g.outT j u1=u2 at *
           obtain ⟨c0,c1,c2,c3⟩:=HRq.out.gc
           go_wp2_with (first
            | (with_reducible refine wpList_load_row rfl 72 (.tmp 11) rfl U rfl 72 (Gr.tcs u1) (0,0) _ HU.out Tryz.underlying72 rfl HSu.out.1 ?_)
            | (go_at_call 58;refine (HOp.out _ HRq.out.ro.grow).mono ?_;rintro e w4 ⟨rfl,hg⟩;have HR4:=Lib.hid ((HRq.out.keep hg).keep (Flow.grow_alloc w4 (.cells (#[.int .i64 (-1)]++Gr.tcs u2) 112)));clear hg)
            | (refine wpList_buildTo rfl 112 _ rfl _ rfl (#[.int .i64 (-1)]++Gr.tcs u2) (by simp only [List.map_toArray,List.map_cons,List.map_nil];exact built_rt (-1) (Gr.tcs u2) HSv.out.2.1) ?_)
            | (refine wpList_plain rfl fun K hK=>?_;refine Flow.run_wp (exec_slice1 rfl rfl (by rw [Array.size_append,HSv.out.2.1];rfl)) ?_;refine hK _ _ ?_)
            | (at_builtin;go_loud (refine wpList_plain rfl fun K hK=>?_;refine wp_appR (W:=W) _ _ rfl (.slice oa t0.length oc) t0 [((-1:Int),u2)] _ rfl HR4.out.ro _ 1 rfl (by rw [Gr.rc_of _ _ HLv.out];simp) (heap_alloc_new _ _) (by omega) (by simp) ?_;intro v' w5 hro hkp;have HR5:=Lib.hid (HR4.out.app hro hkp);obtain ⟨oa',oc',rfl⟩:=own_form hro.own;clear hro hkp;refine hK _ _ ?_)))
           go_roundw
           case rel=>exact ⟨j+1,by omega,by go_num,Lib.hid (by have k0:=HR5.out;rw [List.length_append] at k0;rw [HX2j.out,HE.out];exact k0)⟩
           case measure=>simp [intOf];omega
      ·have k5:(K == 5)=false:=by simp [h5]
       by_cases h46:K=4∨K=6
       ·have HNe:=Lib.hid (HNj.out.trans ((if_neg h3).trans ((if_neg h5).trans (if_pos h46))))
        clear h3 h5 HNj HTj
        obtain ⟨fk,hfk⟩:∃ fk:Int→List Gr.Tn,fk=fun k=>(g.out j).flatMap fun o=>if Gr.at1 t k then [((-1:Int),Gr.put1 (Gr.wo t k) o)] else []:=⟨_,rfl⟩
        rw [← hfk] at HNe
        have HFk:Hid (∀ p,fk p=(g.out j).flatMap fun o=>if Gr.at1 t p then [((-1:Int),Gr.put1 (Gr.wo t p) o)] else []):=Lib.hid fun p=>by rw [hfk]
        have HFl:Hid (∀ ys:List Int,(ys.flatMap fk).length≤ys.length * 64):=Lib.hid fun ys=>flat_len_le fk 64 (fun p=>by
         rw [hfk]
         exact Nat.le_trans (Gr.flat_le _ (fun o=>by split <;> simp) (g.out j)) HOlj.out) ys
        clear hfk
        have hcut:∀ P:Prop,(K=4→P)→(K≠4→K=6→P)→P:=fun P h1 h2=>by
         by_cases h4:K=4
         ·exact h1 h4
         ·exact h2 h4 (h46.resolve_left h4)
        clear h46
        refine hcut _ (fun h4=>?_) (fun h4 h6=>?_)
        ·have k4:(K == 4)=true:=by simp [h4]
         clear h4 hcut
         go_wp2_with fail
         clear m0' c0 c1 c2 c3
         go_loopw [5,13] (fun vo vk wq=>∃ k:Nat,k≤n∧vk=.int .i64 k∧Hid (Gr.RS W #[v0,v1,.slice (some ⟨nb,no,none⟩) nl cn,.slice ae E ce] C X (.slice la L.length lc) L wq vo (t0++(xs.take k).flatMap fk))∧Hid (wq.ownsRow wj.heap.size 3 1 (.slice ia n ic) n (xs.map (Value.int .i64)))) (fun _ vk _=>n - (intOf vk).toNat)
         case atStart=>exact ⟨0,by omega,rfl,Lib.hid (by simpa using HRk.out),HIo⟩
         case round =>
          clear HRk HIo HGk
          obtain ⟨k,hk,rfl,HRk,HIo⟩:=hrel
          rename World=>wq
          obtain ⟨va,hva⟩:∃ va,va=u5:=⟨_,rfl⟩
          obtain ⟨oa,oc,hoa⟩:=own_form HRk.out.ro.own
          subst hoa
          clear hva
          by_cases hkn:k < n
          ·have hx:xs[k]? = some (xs.getD k 0):=by rw [List.getD_eq_getElem?_getD,List.getElem?_eq_getElem (by rw [← Hn.out];exact hkn)];rfl
           have HX2:=Lib.hid (flat_take fk xs k _ hx)
           have hp:=HIpj.out _ (List.mem_of_getElem? hx)
           obtain ⟨xb,xo,rfl,c⟩:=Ints.at1 (Ints.of_own (zs:=xs) (by rw [← Hn.out];exact HIo.out)) (k:=k) (by rw [← Hn.out];exact hkn)
           have HP:=Lib.hid (HFk.out (xs.getD k 0))
           have HLn:=Lib.hid (HFl.out (xs.take k))
           clear hx
           obtain ⟨p,hpx⟩:∃ p,p=xs.getD k 0:=⟨_,rfl⟩
           rw [← hpx] at hp c HP HX2
           have Hpx:=Lib.hid hpx.symm
           clear hpx
           generalize (xs.take k).flatMap fk=ts at *
           have hlen1:(t0++ts).length≤4097000000:=by have:=HLn.out;rw [List.length_append];rw [List.length_take] at this;omega
           have HTa:Hid (∀ y,t0++(ts++y)=(t0++ts)++y):=Lib.hid fun y=>(List.append_assoc _ _ _).symm
           generalize t0++ts=t1 at *
           obtain ⟨p,rfl⟩:=Int.eq_ofNat_of_zero_le hp.1
           have hp64:p < 64:=by omega
           have HWp:=Lib.hid fun w=>HWo.out t w p Hl.out hp64
           have HPp:=Lib.hid fun w (q:Nat) hq=>HPu.out (Gr.wo t (p:Int)) w q (by rw [Gr.wo_len];exact Hl.out) hq
           have HLp:Hid (∀ q:Int,(Gr.put1 (Gr.wo t (p:Int)) q).1.length=64):=Lib.hid fun q=>by rw [Gr.put1_len,Gr.wo_len];exact Hl.out
           obtain ⟨fo,hfo⟩:∃ fo:Int→List Gr.Tn,fo=fun o=>if Gr.at1 t (p:Int) then [((-1:Int),Gr.put1 (Gr.wo t (p:Int)) o)] else []:=⟨_,rfl⟩
           rw [← hfo] at HP
           have HFo:Hid (∀ o,fo o=if Gr.at1 t (p:Int) then [((-1:Int),Gr.put1 (Gr.wo t (p:Int)) o)] else []):=Lib.hid fun o=>by rw [hfo]
           have HFol:Hid (∀ ys:List Int,(ys.flatMap fo).length≤ys.length):=Lib.hid fun ys=>Gr.flat_le fo (fun o=>by rw [hfo];dsimp only;split <;> simp) ys
           clear hfo c
           go_wp2_with fail
           go_loopw [5,14] (fun vo vq wq=>∃ q:Nat,q≤E∧vq=.int .i64 q∧Hid (Gr.RS W #[v0,v1,.slice (some ⟨nb,no,none⟩) nl cn,.slice ae E ce] C X (.slice la L.length lc) L wq vo (t1++(Gr.outE g.es j q).flatMap fo))∧Hid (wq.ownsRow wj.heap.size 3 1 (.slice (some ⟨xb,xo,none⟩) n ic) n (xs.map (Value.int .i64)))) (fun _ vq _=>E - (intOf vq).toNat)
           case atStart=>exact ⟨0,by omega,rfl,Lib.hid (by rw [HO0.out];simpa using HRk.out),HIo⟩
           case round =>
            clear HRk HIo
            obtain ⟨q,hq,rfl,HRk,HIo⟩:=hrel
            rename World=>wr
            obtain ⟨va,hva⟩:∃ va,va=u5:=⟨_,rfl⟩
            obtain ⟨oa,oc,hoa⟩:=own_form HRk.out.ro.own
            subst hoa
            clear hva
            obtain ⟨c0,c1,c2,c3⟩:=HRk.out.gc
            by_cases hqn:q < E
            ·obtain ⟨eb,eo,hae,p0,p1⟩:=Gr.EsAt.at (Gr.Recs.grow HEs.out HRk.out.ro.grow) (j:=q) (by rw [Hel.out];exact hqn)
             have p0':wr.cell? ⟨eb,eo+q * 2,none⟩=some (.int .i64 (g.es.getD q (0,0)).1):=p0
             rw [hae] at c3
             have Hae:=Lib.hid hae
             have HOs2:=Lib.hid (HOs.out j q)
             have hol:=HOle.out j q
             have HFq:=Lib.hid (HFol.out (Gr.outE g.es j q))
             have HFoq:=Lib.hid (HFo.out (q:Int))
             clear p0 p1 hae
             generalize (g.es.getD q (0,0)).1=y at *
             generalize Gr.outE g.es j q=ok at *
             have cb:wr.cell? ⟨X+1,p,none⟩=some (.bool (Gr.at1 t (p:Int))):=(cell_of_row wr (X+1) p _ _ _ HRk.out.t).trans (HCb.out p hp64)
             obtain ⟨_,_,e1,cx⟩:=Ints.at1 (Ints.of_own (zs:=xs) (by rw [← Hn.out];exact HIo.out)) (k:=k) (by rw [← Hn.out];exact hkn)
             cases e1
             rw [Hpx.out] at cx
             have HA1:Hid ((Gr.outE g.es j (q+1)).flatMap fo=ok.flatMap fo++(if y=(j:Int) then fo (q:Int) else [])):=Lib.hid (by rw [HOs2.out,List.flatMap_append];split <;> simp)
             have hlen3:(t1++ok.flatMap fo).length≤4098000000:=by have:=HFq.out;rw [List.length_append];omega
             have HT3:Hid (∀ y,t1++(ok.flatMap fo++y)=(t1++ok.flatMap fo)++y):=Lib.hid fun y=>(List.append_assoc _ _ _).symm
             generalize t1++ok.flatMap fo=t3 at *
             cases hat:Gr.at1 t (p:Int) with
             | false =>
              rw [hat] at cb
              have HE:Hid (t1++(Gr.outE g.es j (q+1)).flatMap fo=t3):=Lib.hid (by rw [HA1.out,HT3.out,HFoq.out,hat];simp)
              go_wp2_with fail
              go_roundw
              case rel=>exact ⟨q+1,by omega,by go_num,Lib.hid (by rw [HE.out];exact HRk.out),HIo⟩
              case measure=>simp [intOf];omega
             | true =>
              rw [hat] at cb
              by_cases hy:y=(j:Int)
              ·have d:(y == (j:Int))=true:=by simp [hy]
               have HE:Hid (t1++(Gr.outE g.es j (q+1)).flatMap fo=t3++[((-1:Int),Gr.put1 (Gr.wo t (p:Int)) (q:Int))]):=Lib.hid (by rw [HA1.out,HT3.out,HFoq.out,if_pos hy,if_pos hat])
               clear hy
               have HPq:=Lib.hid fun w=>HPp.out w q (by omega)
               have HLq:=Lib.hid (HLp.out (q:Int))
               go_upto_region 33 with fail
               clear cb p0' cx c0 c1 c2 c3
               obtain ⟨_,_,e1,cx⟩:=Ints.at1 (Ints.of_own (zs:=xs) (by rw [← Hn.out];exact HIo.out)) (k:=k) (by rw [← Hn.out];exact hkn)
               cases e1
               rw [Hpx.out] at cx
               refine Flow.region_tailA (R:=Flow.Grow) (C:=Flow.Grow wr) (Fs:=[.inl ((.slice oa t3.length oc)),.inl ((.agg C)),.inl ((.slice (some ⟨xb,xo,none⟩) n ic)),.inl ((.int .i64 (k:Int))),.inl ((.pointer (some ⟨xb,xo+k,none⟩))),.inl ((.int .i64 (p:Int))),.inl ((.agg (Gr.tcs (Gr.wo t (p:Int))))),.inl ((.int .i64 (q:Int))),.inl ((.agg (Gr.tcs (Gr.put1 (Gr.wo t (p:Int)) (q:Int))))),.inl ((.agg (#[.int .i64 (-1)]++Gr.tcs (Gr.put1 (Gr.wo t (p:Int)) (q:Int))))),.inr (fun v w=>∃ qb,v=.slice (some ⟨qb,0,none⟩) 1 1∧w.heap[qb]? = some (.cells (#[.int .i64 (-1)]++Gr.tcs (Gr.put1 (Gr.wo t (p:Int)) (q:Int))) 112 (0,0)))])
                (S:=[[],[],[],[],[2,3],[2,3,4],[1,2,3,4,5],[],[1,2,3,4,5,6,7],[1,2,3,4,5,6,7,8],[1,2,3,4,5,6,7,8,9],[0,1,2,3,4,5,6,7,8,9,10],[11]]) 11 (by kernel_rfl) (by kernel_rfl) (by kernel_rfl) rfl ?stab33 (fun _ _ h k=>h.trans k) (Flow.grow_drew _) ?ones33 ?ends33
               case ones33 =>
                refine Flow.Ones.cons ?_ ?_
                ·intro a w hC hoff _
                 have e5:a.eval (.tmp 5)=(.slice oa t3.length oc):=hoff.at 5 (by kernel_rfl)
                 refine .inl ⟨Flow.want_none rfl,?_⟩
                 exact Flow.run_same (Flow.exec_move (.inl rfl) e5) Flow.grow_refl
                refine Flow.Ones.cons ?_ ?_
                ·intro a w hC hoff _
                 have e3:a.eval (.tmp 3)=(.pointer (some ⟨X+1,0,none⟩)):=hoff.at 3 (by kernel_rfl)
                 refine .inl ⟨Flow.want_none rfl,?_⟩
                 refine Flow.run_same ?_ Flow.grow_refl
                 have ec:=Flow.eval_const a
                 generalize a.eval=ρ at e3 ec ⊢
                 exact exec_load_row 72 _ rfl (X+1) e3 72 C (0,0) _ (HRk.out.keep hC).t Tryz.underlying72 rfl HCs.out.1
                refine Flow.Ones.cons ?_ ?_
                ·intro a w hC hoff _
                 have e8:a.eval (.tmp 8)=(.slice (some ⟨xb,xo,none⟩) n ic):=hoff.at 8 (by kernel_rfl)
                 refine .inl ⟨Flow.want_none rfl,?_⟩
                 exact Flow.run_same (Flow.exec_move (.inl rfl) e8) Flow.grow_refl
                refine Flow.Ones.cons ?_ ?_
                ·intro a w hC hoff _
                 have e13:a.eval (.tmp 13)=(.int .i64 (k:Int)):=hoff.at 13 (by kernel_rfl)
                 refine .inl ⟨Flow.want_none rfl,?_⟩
                 exact Flow.run_same (Flow.exec_move (.inl rfl) e13) Flow.grow_refl
                refine Flow.Ones.cons ?_ ?_
                ·rintro a w hC hoff ⟨k2,k3,-⟩
                 have e133:a.eval (.tmp 133)=(.slice (some ⟨xb,xo,none⟩) n ic):=k2 133 rfl
                 have e134:a.eval (.tmp 134)=(.int .i64 (k:Int)):=k3 134 rfl
                 refine .inl ⟨Flow.want_none rfl,?_⟩
                 refine Flow.run_same ?_ Flow.grow_refl
                 have ec:=Flow.eval_const a
                 generalize a.eval=ρ at e133 e134 ec ⊢
                 simp [execOp,e133,e134,go_sem];intro hh;omega
                refine Flow.Ones.cons ?_ ?_
                ·rintro a w hC hoff ⟨_,_,k4,-⟩
                 have e135:a.eval (.tmp 135)=(.pointer (some ⟨xb,xo+k,none⟩)):=k4 135 rfl
                 refine .inl ⟨Flow.want_none rfl,?_⟩
                 refine Flow.run_same ?_ Flow.grow_refl
                 have ec:=Flow.eval_const a
                 generalize a.eval=ρ at e135 ec ⊢
                 have h0:=Xm2.cell_grow hC cx
                 simp [execOp,e135,h0,go_sem]
                refine Flow.Ones.cons ?_ ?_
                ·rintro a w hC hoff ⟨k1,_,_,_,k5,-⟩
                 have e132:a.eval (.tmp 132)=(.agg C):=k1 132 rfl
                 have e136:a.eval (.tmp 136)=(.int .i64 (p:Int)):=k5 136 rfl
                 refine .inl ⟨Flow.want_none rfl,?_⟩
                 exact Flow.run_call (Flow.exec_call (args:=#[((.agg C)),((.int .i64 (p:Int)))]) rfl Tryz.func57 (by kernel_rfl) (by kernel_rfl) (by simp only [List.map_toArray,List.map_cons,List.map_nil,e132,e136] <;> rfl)) ((by rw [HCt.out];exact HWp.out w:Calls Tryz.prog _ #[.agg C,_] w fun e w'=>e=.returned (.agg (Gr.tcs (Gr.wo t (p:Int))))∧Flow.Grow w w').mono fun e w' ⟨he,hg⟩=>⟨_,he,hg,rfl⟩)
                refine Flow.Ones.cons ?_ ?_
                ·intro a w hC hoff _
                 have e14:a.eval (.tmp 14)=(.int .i64 (q:Int)):=hoff.at 14 (by kernel_rfl)
                 refine .inl ⟨Flow.want_none rfl,?_⟩
                 exact Flow.run_same (Flow.exec_move (.inl rfl) e14) Flow.grow_refl
                refine Flow.Ones.cons ?_ ?_
                ·rintro a w hC hoff ⟨_,_,_,_,_,k6,k7,-⟩
                 have e137:a.eval (.tmp 137)=(.agg (Gr.tcs (Gr.wo t (p:Int)))):=k6 137 rfl
                 have e138:a.eval (.tmp 138)=(.int .i64 (q:Int)):=k7 138 rfl
                 refine .inl ⟨Flow.want_none rfl,?_⟩
                 exact Flow.run_call (Flow.exec_call (args:=#[((.agg (Gr.tcs (Gr.wo t (p:Int))))),((.int .i64 (q:Int)))]) rfl Tryz.func59 (by kernel_rfl) (by kernel_rfl) (by simp only [List.map_toArray,List.map_cons,List.map_nil,e137,e138] <;> rfl)) ((HPq.out w).mono fun e w' ⟨he,hg⟩=>⟨_,he,hg,rfl⟩)
                refine Flow.Ones.cons ?_ ?_
                ·rintro a w hC hoff ⟨_,_,_,_,_,_,_,k8,-⟩
                 have e139:a.eval (.tmp 139)=(.agg (Gr.tcs (Gr.put1 (Gr.wo t (p:Int)) (q:Int)))):=k8 139 rfl
                 refine .inl ⟨Flow.want_none rfl,?_⟩
                 refine Flow.run_same ?_ Flow.grow_refl
                 have ec:=Flow.eval_const a
                 generalize a.eval=ρ at e139 ec ⊢
                 exact exec_turn rfl (ec _) e139 (tk_sz HLq.out).2.1
                refine Flow.Ones.cons ?_ ?_
                ·rintro a w hC hoff ⟨_,_,_,_,_,_,_,_,k9,-⟩
                 have e140:a.eval (.tmp 140)=(.agg (#[.int .i64 (-1)]++Gr.tcs (Gr.put1 (Gr.wo t (p:Int)) (q:Int)))):=k9 140 rfl
                 refine .inl ⟨Flow.want_none rfl,?_⟩
                 refine Flow.run_val (v:=.slice (some ⟨w.heap.size,0,none⟩) 1 1) (w':=w.alloc (.cells (#[.int .i64 (-1)]++Gr.tcs (Gr.put1 (Gr.wo t (p:Int)) (q:Int))) 112)) (exec_slice1 rfl e140 (by have:=(tk_sz HLq.out).2.1;rw [Array.size_append,this];rfl)) (Flow.grow_alloc _ _) ⟨_,rfl,heap_alloc_new _ _⟩
                exact trivial
               case stab33 =>
                simp only [Flow.Stable,and_true]
                exact fun v w w' hR ⟨q,h1,h2⟩=>⟨q,h1,heap_keep hR h2⟩
               case ends33 =>
                intro wy op1 op2 ho1 ho2 hC
                simp only [List.take_succ_cons,List.take_zero,Flow.ends]
                rintro v141 ⟨q',rfl,hq'⟩
                have h1:op1.op=.call { callee:=.builtin .append,args:=#[.tmp 131,.tmp 141],argTypes:=#[109,109] }:=by cases ho1;rfl
                have h1d:op1.dst=some 142:=by cases ho1;rfl
                have h2:op2.op=.assign (.tmp 142):=by cases ho2;rfl
                have h2d:op2.dst=some 5:=by cases ho2;rfl
                clear ho1 ho2
                simp only [Act.put,List.setIfInBounds_toArray,List.set_cons_succ,List.set_cons_zero]
                refine wp_appR (W:=W) _ _ h1 (.slice oa t3.length oc) t3 [((-1:Int),Gr.put1 (Gr.wo t (p:Int)) (q:Int))] _ rfl ((HRk.out.keep hC).ro) q' 1 rfl (by rw [Gr.rc_of _ _ HLq.out];simp) hq' (by omega) (by simp) ?_
                intro v' w4 hro hkp
                have HR4:=Lib.hid ((HRk.out.keep hC).app hro hkp)
                have HI4:=Lib.hid (own_lift (own_keep HIo.out hC) (by decide) hkp)
                obtain ⟨oa',oc',rfl⟩:=own_form hro.own
                refine Flow.run_wp (Flow.exec_move (.inr h2) rfl) ?_
                rw [h1d,h2d]
                simp only [Act.put,Act.eval,List.setIfInBounds_toArray,List.set_cons_succ,List.set_cons_zero]
                clear h1 h2 h1d h2d hro hkp hC hq'
                go_wp2_with fail
                go_roundw
                case rel=>exact ⟨q+1,by omega,by go_num,Lib.hid (by rw [HE.out];exact HR4.out),HI4⟩
                case measure=>simp [intOf];omega
              ·have d:(y == (j:Int))=false:=by simp [hy]
               have HE:Hid (t1++(Gr.outE g.es j (q+1)).flatMap fo=t3):=Lib.hid (by rw [HA1.out,HT3.out,if_neg hy,List.append_nil])
               clear hy
               go_wp2_with fail
               go_roundw
               case rel=>exact ⟨q+1,by omega,by go_num,Lib.hid (by rw [HE.out];exact HRk.out),HIo⟩
               case measure=>simp [intOf];omega
            ·obtain rfl:E=q:=by omega
             have HE:Hid (t0++(xs.take (k+1)).flatMap fk=t1++(Gr.outE g.es j E).flatMap fo):=Lib.hid (by rw [HX2.out,HTa.out,HP.out,HOe.out])
             go_wp2_with fail
             go_roundw
             case rel=>exact ⟨k+1,by omega,by go_num,Lib.hid (by rw [HE.out];exact HRk.out),HIo⟩
             case measure=>simp [intOf];omega
          ·obtain rfl:k=n:=by omega
           have ht0:xs.take k=xs:=List.take_of_length_le (by rw [← Hn.out];exact Nat.le_refl _)
           rw [ht0,← HNe.out] at HRk ⊢
           go_wp2_with fail
           go_roundw
           case rel=>exact ⟨j+1,by omega,by go_num,Lib.hid (by rw [HX2j.out];exact HRk.out)⟩
           case measure=>simp [intOf];omega
        ·have k4:(K == 4)=false:=by simp [h4]
         have k6:(K == 6)=true:=by simp [h6]
         clear h4 h6 hcut
         go_wp2_with fail
         clear m0' c0 c1 c2 c3
         go_loopw [5,13] (fun vo vk wq=>∃ k:Nat,k≤n∧vk=.int .i64 k∧Hid (Gr.RS W #[v0,v1,.slice (some ⟨nb,no,none⟩) nl cn,.slice ae E ce] C X (.slice la L.length lc) L wq vo (t0++(xs.take k).flatMap fk))∧Hid (wq.ownsRow wj.heap.size 3 1 (.slice ia n ic) n (xs.map (Value.int .i64)))) (fun _ vk _=>n - (intOf vk).toNat)
         case atStart=>exact ⟨0,by omega,rfl,Lib.hid (by simpa using HRk.out),HIo⟩
         case round =>
          clear HRk HIo HGk
          obtain ⟨k,hk,rfl,HRk,HIo⟩:=hrel
          rename World=>wq
          obtain ⟨va,hva⟩:∃ va,va=u5:=⟨_,rfl⟩
          obtain ⟨oa,oc,hoa⟩:=own_form HRk.out.ro.own
          subst hoa
          clear hva
          by_cases hkn:k < n
          ·have hx:xs[k]? = some (xs.getD k 0):=by rw [List.getD_eq_getElem?_getD,List.getElem?_eq_getElem (by rw [← Hn.out];exact hkn)];rfl
           have HX2:=Lib.hid (flat_take fk xs k _ hx)
           have hp:=HIpj.out _ (List.mem_of_getElem? hx)
           obtain ⟨xb,xo,rfl,c⟩:=Ints.at1 (Ints.of_own (zs:=xs) (by rw [← Hn.out];exact HIo.out)) (k:=k) (by rw [← Hn.out];exact hkn)
           have HP:=Lib.hid (HFk.out (xs.getD k 0))
           have HLn:=Lib.hid (HFl.out (xs.take k))
           clear hx
           obtain ⟨p,hpx⟩:∃ p,p=xs.getD k 0:=⟨_,rfl⟩
           rw [← hpx] at hp c HP HX2
           have Hpx:=Lib.hid hpx.symm
           clear hpx
           generalize (xs.take k).flatMap fk=ts at *
           have hlen1:(t0++ts).length≤4097000000:=by have:=HLn.out;rw [List.length_append];rw [List.length_take] at this;omega
           have HTa:Hid (∀ y,t0++(ts++y)=(t0++ts)++y):=Lib.hid fun y=>(List.append_assoc _ _ _).symm
           generalize t0++ts=t1 at *
           obtain ⟨p,rfl⟩:=Int.eq_ofNat_of_zero_le hp.1
           have hp64:p < 64:=by omega
           have HWp:=Lib.hid fun w=>HWo.out t w p Hl.out hp64
           have HPp:=Lib.hid fun w (q:Nat) hq=>HPu.out (Gr.wo t (p:Int)) w q (by rw [Gr.wo_len];exact Hl.out) hq
           have HLp:Hid (∀ q:Int,(Gr.put1 (Gr.wo t (p:Int)) q).1.length=64):=Lib.hid fun q=>by rw [Gr.put1_len,Gr.wo_len];exact Hl.out
           obtain ⟨fo,hfo⟩:∃ fo:Int→List Gr.Tn,fo=fun o=>if Gr.at1 t (p:Int) then [((-1:Int),Gr.put1 (Gr.wo t (p:Int)) o)] else []:=⟨_,rfl⟩
           rw [← hfo] at HP
           have HFo:Hid (∀ o,fo o=if Gr.at1 t (p:Int) then [((-1:Int),Gr.put1 (Gr.wo t (p:Int)) o)] else []):=Lib.hid fun o=>by rw [hfo]
           have HFol:Hid (∀ ys:List Int,(ys.flatMap fo).length≤ys.length):=Lib.hid fun ys=>Gr.flat_le fo (fun o=>by rw [hfo];dsimp only;split <;> simp) ys
           clear hfo c
           go_wp2_with fail
           go_loopw [5,14] (fun vo vq wq=>∃ q:Nat,q≤E∧vq=.int .i64 q∧Hid (Gr.RS W #[v0,v1,.slice (some ⟨nb,no,none⟩) nl cn,.slice ae E ce] C X (.slice la L.length lc) L wq vo (t1++(Gr.outE g.es j q).flatMap fo))∧Hid (wq.ownsRow wj.heap.size 3 1 (.slice (some ⟨xb,xo,none⟩) n ic) n (xs.map (Value.int .i64)))) (fun _ vq _=>E - (intOf vq).toNat)
           case atStart=>exact ⟨0,by omega,rfl,Lib.hid (by rw [HO0.out];simpa using HRk.out),HIo⟩
           case round =>
            clear HRk HIo
            obtain ⟨q,hq,rfl,HRk,HIo⟩:=hrel
            rename World=>wr
            obtain ⟨va,hva⟩:∃ va,va=u5:=⟨_,rfl⟩
            obtain ⟨oa,oc,hoa⟩:=own_form HRk.out.ro.own
            subst hoa
            clear hva
            obtain ⟨c0,c1,c2,c3⟩:=HRk.out.gc
            by_cases hqn:q < E
            ·obtain ⟨eb,eo,hae,p0,p1⟩:=Gr.EsAt.at (Gr.Recs.grow HEs.out HRk.out.ro.grow) (j:=q) (by rw [Hel.out];exact hqn)
             have p0':wr.cell? ⟨eb,eo+q * 2,none⟩=some (.int .i64 (g.es.getD q (0,0)).1):=p0
             rw [hae] at c3
             have Hae:=Lib.hid hae
             have HOs2:=Lib.hid (HOs.out j q)
             have hol:=HOle.out j q
             have HFq:=Lib.hid (HFol.out (Gr.outE g.es j q))
             have HFoq:=Lib.hid (HFo.out (q:Int))
             clear p0 p1 hae
             generalize (g.es.getD q (0,0)).1=y at *
             generalize Gr.outE g.es j q=ok at *
             have cb:wr.cell? ⟨X+1,p,none⟩=some (.bool (Gr.at1 t (p:Int))):=(cell_of_row wr (X+1) p _ _ _ HRk.out.t).trans (HCb.out p hp64)
             obtain ⟨_,_,e1,cx⟩:=Ints.at1 (Ints.of_own (zs:=xs) (by rw [← Hn.out];exact HIo.out)) (k:=k) (by rw [← Hn.out];exact hkn)
             cases e1
             rw [Hpx.out] at cx
             have HA1:Hid ((Gr.outE g.es j (q+1)).flatMap fo=ok.flatMap fo++(if y=(j:Int) then fo (q:Int) else [])):=Lib.hid (by rw [HOs2.out,List.flatMap_append];split <;> simp)
             have hlen3:(t1++ok.flatMap fo).length≤4098000000:=by have:=HFq.out;rw [List.length_append];omega
             have HT3:Hid (∀ y,t1++(ok.flatMap fo++y)=(t1++ok.flatMap fo)++y):=Lib.hid fun y=>(List.append_assoc _ _ _).symm
             generalize t1++ok.flatMap fo=t3 at *
             cases hat:Gr.at1 t (p:Int) with
             | false =>
              rw [hat] at cb
              have HE:Hid (t1++(Gr.outE g.es j (q+1)).flatMap fo=t3):=Lib.hid (by rw [HA1.out,HT3.out,HFoq.out,hat];simp)
              go_wp2_with fail
              go_roundw
              case rel=>exact ⟨q+1,by omega,by go_num,Lib.hid (by rw [HE.out];exact HRk.out),HIo⟩
              case measure=>simp [intOf];omega
             | true =>
              rw [hat] at cb
              by_cases hy:y=(j:Int)
              ·have d:(y == (j:Int))=true:=by simp [hy]
               have HE:Hid (t1++(Gr.outE g.es j (q+1)).flatMap fo=t3++[((-1:Int),Gr.put1 (Gr.wo t (p:Int)) (q:Int))]):=Lib.hid (by rw [HA1.out,HT3.out,HFoq.out,if_pos hy,if_pos hat])
               clear hy
               have HPq:=Lib.hid fun w=>HPp.out w q (by omega)
               have HLq:=Lib.hid (HLp.out (q:Int))
               go_upto_region 33 with fail
               clear cb p0' cx c0 c1 c2 c3
               obtain ⟨_,_,e1,cx⟩:=Ints.at1 (Ints.of_own (zs:=xs) (by rw [← Hn.out];exact HIo.out)) (k:=k) (by rw [← Hn.out];exact hkn)
               cases e1
               rw [Hpx.out] at cx
               refine Flow.region_tailA (R:=Flow.Grow) (C:=Flow.Grow wr) (Fs:=[.inl ((.slice oa t3.length oc)),.inl ((.agg C)),.inl ((.slice (some ⟨xb,xo,none⟩) n ic)),.inl ((.int .i64 (k:Int))),.inl ((.pointer (some ⟨xb,xo+k,none⟩))),.inl ((.int .i64 (p:Int))),.inl ((.agg (Gr.tcs (Gr.wo t (p:Int))))),.inl ((.int .i64 (q:Int))),.inl ((.agg (Gr.tcs (Gr.put1 (Gr.wo t (p:Int)) (q:Int))))),.inl ((.agg (#[.int .i64 (-1)]++Gr.tcs (Gr.put1 (Gr.wo t (p:Int)) (q:Int))))),.inr (fun v w=>∃ qb,v=.slice (some ⟨qb,0,none⟩) 1 1∧w.heap[qb]? = some (.cells (#[.int .i64 (-1)]++Gr.tcs (Gr.put1 (Gr.wo t (p:Int)) (q:Int))) 112 (0,0)))])
                (S:=[[],[],[],[],[2,3],[2,3,4],[1,2,3,4,5],[],[1,2,3,4,5,6,7],[1,2,3,4,5,6,7,8],[1,2,3,4,5,6,7,8,9],[0,1,2,3,4,5,6,7,8,9,10],[11]]) 11 (by kernel_rfl) (by kernel_rfl) (by kernel_rfl) rfl ?stab33 (fun _ _ h k=>h.trans k) (Flow.grow_drew _) ?ones33 ?ends33
               case ones33 =>
                refine Flow.Ones.cons ?_ ?_
                ·intro a w hC hoff _
                 have e5:a.eval (.tmp 5)=(.slice oa t3.length oc):=hoff.at 5 (by kernel_rfl)
                 refine .inl ⟨Flow.want_none rfl,?_⟩
                 exact Flow.run_same (Flow.exec_move (.inl rfl) e5) Flow.grow_refl
                refine Flow.Ones.cons ?_ ?_
                ·intro a w hC hoff _
                 have e3:a.eval (.tmp 3)=(.pointer (some ⟨X+1,0,none⟩)):=hoff.at 3 (by kernel_rfl)
                 refine .inl ⟨Flow.want_none rfl,?_⟩
                 refine Flow.run_same ?_ Flow.grow_refl
                 have ec:=Flow.eval_const a
                 generalize a.eval=ρ at e3 ec ⊢
                 exact exec_load_row 72 _ rfl (X+1) e3 72 C (0,0) _ (HRk.out.keep hC).t Tryz.underlying72 rfl HCs.out.1
                refine Flow.Ones.cons ?_ ?_
                ·intro a w hC hoff _
                 have e8:a.eval (.tmp 8)=(.slice (some ⟨xb,xo,none⟩) n ic):=hoff.at 8 (by kernel_rfl)
                 refine .inl ⟨Flow.want_none rfl,?_⟩
                 exact Flow.run_same (Flow.exec_move (.inl rfl) e8) Flow.grow_refl
                refine Flow.Ones.cons ?_ ?_
                ·intro a w hC hoff _
                 have e13:a.eval (.tmp 13)=(.int .i64 (k:Int)):=hoff.at 13 (by kernel_rfl)
                 refine .inl ⟨Flow.want_none rfl,?_⟩
                 exact Flow.run_same (Flow.exec_move (.inl rfl) e13) Flow.grow_refl
                refine Flow.Ones.cons ?_ ?_
                ·rintro a w hC hoff ⟨k2,k3,-⟩
                 have e133:a.eval (.tmp 133)=(.slice (some ⟨xb,xo,none⟩) n ic):=k2 133 rfl
                 have e134:a.eval (.tmp 134)=(.int .i64 (k:Int)):=k3 134 rfl
                 refine .inl ⟨Flow.want_none rfl,?_⟩
                 refine Flow.run_same ?_ Flow.grow_refl
                 have ec:=Flow.eval_const a
                 generalize a.eval=ρ at e133 e134 ec ⊢
                 simp [execOp,e133,e134,go_sem];intro hh;omega
                refine Flow.Ones.cons ?_ ?_
                ·rintro a w hC hoff ⟨_,_,k4,-⟩
                 have e135:a.eval (.tmp 135)=(.pointer (some ⟨xb,xo+k,none⟩)):=k4 135 rfl
                 refine .inl ⟨Flow.want_none rfl,?_⟩
                 refine Flow.run_same ?_ Flow.grow_refl
                 have ec:=Flow.eval_const a
                 generalize a.eval=ρ at e135 ec ⊢
                 have h0:=Xm2.cell_grow hC cx
                 simp [execOp,e135,h0,go_sem]
                refine Flow.Ones.cons ?_ ?_
                ·rintro a w hC hoff ⟨k1,_,_,_,k5,-⟩
                 have e132:a.eval (.tmp 132)=(.agg C):=k1 132 rfl
                 have e136:a.eval (.tmp 136)=(.int .i64 (p:Int)):=k5 136 rfl
                 refine .inl ⟨Flow.want_none rfl,?_⟩
                 exact Flow.run_call (Flow.exec_call (args:=#[((.agg C)),((.int .i64 (p:Int)))]) rfl Tryz.func57 (by kernel_rfl) (by kernel_rfl) (by simp only [List.map_toArray,List.map_cons,List.map_nil,e132,e136] <;> rfl)) ((by rw [HCt.out];exact HWp.out w:Calls Tryz.prog _ #[.agg C,_] w fun e w'=>e=.returned (.agg (Gr.tcs (Gr.wo t (p:Int))))∧Flow.Grow w w').mono fun e w' ⟨he,hg⟩=>⟨_,he,hg,rfl⟩)
                refine Flow.Ones.cons ?_ ?_
                ·intro a w hC hoff _
                 have e14:a.eval (.tmp 14)=(.int .i64 (q:Int)):=hoff.at 14 (by kernel_rfl)
                 refine .inl ⟨Flow.want_none rfl,?_⟩
                 exact Flow.run_same (Flow.exec_move (.inl rfl) e14) Flow.grow_refl
                refine Flow.Ones.cons ?_ ?_
                ·rintro a w hC hoff ⟨_,_,_,_,_,k6,k7,-⟩
                 have e137:a.eval (.tmp 137)=(.agg (Gr.tcs (Gr.wo t (p:Int)))):=k6 137 rfl
                 have e138:a.eval (.tmp 138)=(.int .i64 (q:Int)):=k7 138 rfl
                 refine .inl ⟨Flow.want_none rfl,?_⟩
                 exact Flow.run_call (Flow.exec_call (args:=#[((.agg (Gr.tcs (Gr.wo t (p:Int))))),((.int .i64 (q:Int)))]) rfl Tryz.func59 (by kernel_rfl) (by kernel_rfl) (by simp only [List.map_toArray,List.map_cons,List.map_nil,e137,e138] <;> rfl)) ((HPq.out w).mono fun e w' ⟨he,hg⟩=>⟨_,he,hg,rfl⟩)
                refine Flow.Ones.cons ?_ ?_
                ·rintro a w hC hoff ⟨_,_,_,_,_,_,_,k8,-⟩
                 have e139:a.eval (.tmp 139)=(.agg (Gr.tcs (Gr.put1 (Gr.wo t (p:Int)) (q:Int)))):=k8 139 rfl
                 refine .inl ⟨Flow.want_none rfl,?_⟩
                 refine Flow.run_same ?_ Flow.grow_refl
                 have ec:=Flow.eval_const a
                 generalize a.eval=ρ at e139 ec ⊢
                 exact exec_turn rfl (ec _) e139 (tk_sz HLq.out).2.1
                refine Flow.Ones.cons ?_ ?_
                ·rintro a w hC hoff ⟨_,_,_,_,_,_,_,_,k9,-⟩
                 have e140:a.eval (.tmp 140)=(.agg (#[.int .i64 (-1)]++Gr.tcs (Gr.put1 (Gr.wo t (p:Int)) (q:Int)))):=k9 140 rfl
                 refine .inl ⟨Flow.want_none rfl,?_⟩
                 refine Flow.run_val (v:=.slice (some ⟨w.heap.size,0,none⟩) 1 1) (w':=w.alloc (.cells (#[.int .i64 (-1)]++Gr.tcs (Gr.put1 (Gr.wo t (p:Int)) (q:Int))) 112)) (exec_slice1 rfl e140 (by have:=(tk_sz HLq.out).2.1;rw [Array.size_append,this];rfl)) (Flow.grow_alloc _ _) ⟨_,rfl,heap_alloc_new _ _⟩
                exact trivial
               case stab33 =>
                simp only [Flow.Stable,and_true]
                exact fun v w w' hR ⟨q,h1,h2⟩=>⟨q,h1,heap_keep hR h2⟩
               case ends33 =>
                intro wy op1 op2 ho1 ho2 hC
                simp only [List.take_succ_cons,List.take_zero,Flow.ends]
                rintro v141 ⟨q',rfl,hq'⟩
                have h1:op1.op=.call { callee:=.builtin .append,args:=#[.tmp 131,.tmp 141],argTypes:=#[109,109] }:=by cases ho1;rfl
                have h1d:op1.dst=some 142:=by cases ho1;rfl
                have h2:op2.op=.assign (.tmp 142):=by cases ho2;rfl
                have h2d:op2.dst=some 5:=by cases ho2;rfl
                clear ho1 ho2
                simp only [Act.put,List.setIfInBounds_toArray,List.set_cons_succ,List.set_cons_zero]
                refine wp_appR (W:=W) _ _ h1 (.slice oa t3.length oc) t3 [((-1:Int),Gr.put1 (Gr.wo t (p:Int)) (q:Int))] _ rfl ((HRk.out.keep hC).ro) q' 1 rfl (by rw [Gr.rc_of _ _ HLq.out];simp) hq' (by omega) (by simp) ?_
                intro v' w4 hro hkp
                have HR4:=Lib.hid ((HRk.out.keep hC).app hro hkp)
                have HI4:=Lib.hid (own_lift (own_keep HIo.out hC) (by decide) hkp)
                obtain ⟨oa',oc',rfl⟩:=own_form hro.own
                refine Flow.run_wp (Flow.exec_move (.inr h2) rfl) ?_
                rw [h1d,h2d]
                simp only [Act.put,Act.eval,List.setIfInBounds_toArray,List.set_cons_succ,List.set_cons_zero]
                clear h1 h2 h1d h2d hro hkp hC hq'
                go_wp2_with fail
                go_roundw
                case rel=>exact ⟨q+1,by omega,by go_num,Lib.hid (by rw [HE.out];exact HR4.out),HI4⟩
                case measure=>simp [intOf];omega
              ·have d:(y == (j:Int))=false:=by simp [hy]
               have HE:Hid (t1++(Gr.outE g.es j (q+1)).flatMap fo=t3):=Lib.hid (by rw [HA1.out,HT3.out,if_neg hy,List.append_nil])
               clear hy
               go_wp2_with fail
               go_roundw
               case rel=>exact ⟨q+1,by omega,by go_num,Lib.hid (by rw [HE.out];exact HRk.out),HIo⟩
               case measure=>simp [intOf];omega
            ·obtain rfl:E=q:=by omega
             have HE:Hid (t0++(xs.take (k+1)).flatMap fk=t1++(Gr.outE g.es j E).flatMap fo):=Lib.hid (by rw [HX2.out,HTa.out,HP.out,HOe.out])
             go_wp2_with fail
             go_roundw
             case rel=>exact ⟨k+1,by omega,by go_num,Lib.hid (by rw [HE.out];exact HRk.out),HIo⟩
             case measure=>simp [intOf];omega
          ·obtain rfl:k=n:=by omega
           have ht0:xs.take k=xs:=List.take_of_length_le (by rw [← Hn.out];exact Nat.le_refl _)
           rw [ht0,← HNe.out] at HRk ⊢
           go_wp2_with fail
           go_roundw
           case rel=>exact ⟨j+1,by omega,by go_num,Lib.hid (by rw [HX2j.out];exact HRk.out)⟩
           case measure=>simp [intOf];omega
       ·have k4:(K == 4)=false:=by simp;exact fun e=>h46 (.inl e)
        have k6:(K == 6)=false:=by simp;exact fun e=>h46 (.inr e)
        by_cases h2:K=2
        ·have k2:(K == 2)=true:=by simp [h2]
         have HNe:=Lib.hid (HNj.out.trans ((if_neg h3).trans ((if_neg h5).trans ((if_neg h46).trans (if_pos h2)))))
         clear h3 h5 h46 h2 HNj HTj
         obtain ⟨fk,hfk⟩:∃ fk:Int→List Gr.Tn,fk=fun k=>if Gr.at1 t k then [((-1:Int),Gr.wo t k)] else []:=⟨_,rfl⟩
         rw [← hfk] at HNe
         have HFk:Hid (∀ p,fk p=if Gr.at1 t p then [((-1:Int),Gr.wo t p)] else []):=Lib.hid fun p=>by rw [hfk]
         have HFl:Hid (∀ ys:List Int,(ys.flatMap fk).length≤ys.length):=Lib.hid fun ys=>Gr.flat_le fk (fun p=>by rw [hfk];dsimp only;split <;> simp) ys
         clear hfk
         go_wp2_with fail
         clear m0' c0 c1 c2 c3
         go_loopw [5,15] (fun vo vk wq=>∃ k:Nat,k≤n∧vk=.int .i64 k∧Hid (Gr.RS W #[v0,v1,.slice (some ⟨nb,no,none⟩) nl cn,.slice ae E ce] C X (.slice la L.length lc) L wq vo (t0++(xs.take k).flatMap fk))∧Hid (wq.ownsRow wj.heap.size 3 1 (.slice ia n ic) n (xs.map (Value.int .i64)))) (fun _ vk _=>n - (intOf vk).toNat)
         case atStart=>exact ⟨0,by omega,rfl,Lib.hid (by simpa using HRk.out),HIo⟩
         case round =>
          clear HRk HIo HGk
          obtain ⟨k,hk,rfl,HRk,HIo⟩:=hrel
          rename World=>wr
          obtain ⟨va,hva⟩:∃ va,va=u5:=⟨_,rfl⟩
          obtain ⟨oa,oc,hoa⟩:=own_form HRk.out.ro.own
          subst hoa
          clear hva
          by_cases hkn:k < n
          ·have hx:xs[k]? = some (xs.getD k 0):=by rw [List.getD_eq_getElem?_getD,List.getElem?_eq_getElem (by rw [← Hn.out];exact hkn)];rfl
           have HX2:=Lib.hid (flat_take fk xs k _ hx)
           have hp:=HIpj.out _ (List.mem_of_getElem? hx)
           obtain ⟨xb,xo,rfl,c⟩:=Ints.at1 (Ints.of_own (zs:=xs) (by rw [← Hn.out];exact HIo.out)) (k:=k) (by rw [← Hn.out];exact hkn)
           have HP:=Lib.hid (HFk.out (xs.getD k 0))
           have HLn:=Lib.hid (HFl.out (xs.take k))
           clear hx
           obtain ⟨p,hpx⟩:∃ p,p=xs.getD k 0:=⟨_,rfl⟩
           rw [← hpx] at hp c HP HX2
           have Hpx:=Lib.hid hpx.symm
           clear hpx
           generalize (xs.take k).flatMap fk=ts at *
           have hlen1:(t0++ts).length≤4097000000:=by have:=HLn.out;rw [List.length_append];rw [List.length_take] at this;omega
           have HTa:Hid (∀ y,t0++(ts++y)=(t0++ts)++y):=Lib.hid fun y=>(List.append_assoc _ _ _).symm
           generalize t0++ts=t1 at *
           obtain ⟨p,rfl⟩:=Int.eq_ofNat_of_zero_le hp.1
           have hp64:p < 64:=by omega
           have HWp:=Lib.hid fun w=>HWo.out t w p Hl.out hp64
           have HLq:Hid ((Gr.wo t (p:Int)).1.length=64):=Lib.hid (by rw [Gr.wo_len];exact Hl.out)
           have cb:wr.cell? ⟨X+1,p,none⟩=some (.bool (Gr.at1 t (p:Int))):=(cell_of_row wr (X+1) p _ _ _ HRk.out.t).trans (HCb.out p hp64)
           cases hat:Gr.at1 t (p:Int) with
           | false =>
            rw [hat] at cb
            have HE:Hid (t0++(xs.take (k+1)).flatMap fk=t1):=Lib.hid (by rw [HX2.out,HTa.out,HP.out,if_neg (by rw [hat];simp),List.append_nil])
            go_wp2_with fail
            go_roundw
            case rel=>exact ⟨k+1,by omega,by go_num,Lib.hid (by rw [HE.out];exact HRk.out),HIo⟩
            case measure=>simp [intOf];omega
           | true =>
            rw [hat] at cb
            have HE:Hid (t0++(xs.take (k+1)).flatMap fk=t1++[((-1:Int),Gr.wo t (p:Int))]):=Lib.hid (by rw [HX2.out,HTa.out,HP.out,if_pos hat])
            go_upto_region 39 with fail
            have cx:=c
            clear cb c
            refine Flow.region_tailA (R:=Flow.Grow) (C:=Flow.Grow wr) (Fs:=[.inl ((.slice oa t1.length oc)),.inl ((.agg C)),.inl ((.slice (some ⟨xb,xo,none⟩) n ic)),.inl ((.int .i64 (k:Int))),.inl ((.pointer (some ⟨xb,xo+k,none⟩))),.inl ((.int .i64 (p:Int))),.inl ((.agg (Gr.tcs (Gr.wo t (p:Int))))),.inl ((.agg (#[.int .i64 (-1)]++Gr.tcs (Gr.wo t (p:Int))))),.inr (fun v w=>∃ qb,v=.slice (some ⟨qb,0,none⟩) 1 1∧w.heap[qb]? = some (.cells (#[.int .i64 (-1)]++Gr.tcs (Gr.wo t (p:Int))) 112 (0,0)))])
             (S:=[[],[],[],[],[2,3],[2,3,4],[1,2,3,4,5],[1,2,3,4,5,6],[1,2,3,4,5,6,7],[0,1,2,3,4,5,6,7,8],[9]]) 9 (by kernel_rfl) (by kernel_rfl) (by kernel_rfl) rfl ?stab39 (fun _ _ h k=>h.trans k) (Flow.grow_drew _) ?ones39 ?ends39
            case ones39 =>
             refine Flow.Ones.cons ?_ ?_
             ·intro a w hC hoff _
              have e5:a.eval (.tmp 5)=(.slice oa t1.length oc):=hoff.at 5 (by kernel_rfl)
              refine .inl ⟨Flow.want_none rfl,?_⟩
              exact Flow.run_same (Flow.exec_move (.inl rfl) e5) Flow.grow_refl
             refine Flow.Ones.cons ?_ ?_
             ·intro a w hC hoff _
              have e3:a.eval (.tmp 3)=(.pointer (some ⟨X+1,0,none⟩)):=hoff.at 3 (by kernel_rfl)
              refine .inl ⟨Flow.want_none rfl,?_⟩
              refine Flow.run_same ?_ Flow.grow_refl
              have ec:=Flow.eval_const a
              generalize a.eval=ρ at e3 ec ⊢
              exact exec_load_row 72 _ rfl (X+1) e3 72 C (0,0) _ (HRk.out.keep hC).t Tryz.underlying72 rfl HCs.out.1
             refine Flow.Ones.cons ?_ ?_
             ·intro a w hC hoff _
              have e8:a.eval (.tmp 8)=(.slice (some ⟨xb,xo,none⟩) n ic):=hoff.at 8 (by kernel_rfl)
              refine .inl ⟨Flow.want_none rfl,?_⟩
              exact Flow.run_same (Flow.exec_move (.inl rfl) e8) Flow.grow_refl
             refine Flow.Ones.cons ?_ ?_
             ·intro a w hC hoff _
              have e15:a.eval (.tmp 15)=(.int .i64 (k:Int)):=hoff.at 15 (by kernel_rfl)
              refine .inl ⟨Flow.want_none rfl,?_⟩
              exact Flow.run_same (Flow.exec_move (.inl rfl) e15) Flow.grow_refl
             refine Flow.Ones.cons ?_ ?_
             ·rintro a w hC hoff ⟨k2,k3,-⟩
              have e160:a.eval (.tmp 160)=(.slice (some ⟨xb,xo,none⟩) n ic):=k2 160 rfl
              have e161:a.eval (.tmp 161)=(.int .i64 (k:Int)):=k3 161 rfl
              refine .inl ⟨Flow.want_none rfl,?_⟩
              refine Flow.run_same ?_ Flow.grow_refl
              have ec:=Flow.eval_const a
              generalize a.eval=ρ at e160 e161 ec ⊢
              simp [execOp,e160,e161,go_sem];intro hh;omega
             refine Flow.Ones.cons ?_ ?_
             ·rintro a w hC hoff ⟨_,_,k4,-⟩
              have e162:a.eval (.tmp 162)=(.pointer (some ⟨xb,xo+k,none⟩)):=k4 162 rfl
              refine .inl ⟨Flow.want_none rfl,?_⟩
              refine Flow.run_same ?_ Flow.grow_refl
              have ec:=Flow.eval_const a
              generalize a.eval=ρ at e162 ec ⊢
              have h0:=Xm2.cell_grow hC cx
              simp [execOp,e162,h0,go_sem]
             refine Flow.Ones.cons ?_ ?_
             ·rintro a w hC hoff ⟨k1,_,_,_,k5,-⟩
              have e159:a.eval (.tmp 159)=(.agg C):=k1 159 rfl
              have e163:a.eval (.tmp 163)=(.int .i64 (p:Int)):=k5 163 rfl
              refine .inl ⟨Flow.want_none rfl,?_⟩
              exact Flow.run_call (Flow.exec_call (args:=#[((.agg C)),((.int .i64 (p:Int)))]) rfl Tryz.func57 (by kernel_rfl) (by kernel_rfl) (by simp only [List.map_toArray,List.map_cons,List.map_nil,e159,e163] <;> rfl)) ((by rw [HCt.out];exact HWp.out w:Calls Tryz.prog _ #[.agg C,_] w fun e w'=>e=.returned (.agg (Gr.tcs (Gr.wo t (p:Int))))∧Flow.Grow w w').mono fun e w' ⟨he,hg⟩=>⟨_,he,hg,rfl⟩)
             refine Flow.Ones.cons ?_ ?_
             ·rintro a w hC hoff ⟨_,_,_,_,_,k6,-⟩
              have e164:a.eval (.tmp 164)=(.agg (Gr.tcs (Gr.wo t (p:Int)))):=k6 164 rfl
              refine .inl ⟨Flow.want_none rfl,?_⟩
              refine Flow.run_same ?_ Flow.grow_refl
              have ec:=Flow.eval_const a
              generalize a.eval=ρ at e164 ec ⊢
              exact exec_turn rfl (ec _) e164 (tk_sz HLq.out).2.1
             refine Flow.Ones.cons ?_ ?_
             ·rintro a w hC hoff ⟨_,_,_,_,_,_,k7,-⟩
              have e165:a.eval (.tmp 165)=(.agg (#[.int .i64 (-1)]++Gr.tcs (Gr.wo t (p:Int)))):=k7 165 rfl
              refine .inl ⟨Flow.want_none rfl,?_⟩
              refine Flow.run_val (v:=.slice (some ⟨w.heap.size,0,none⟩) 1 1) (w':=w.alloc (.cells (#[.int .i64 (-1)]++Gr.tcs (Gr.wo t (p:Int))) 112)) (exec_slice1 rfl e165 (by have:=(tk_sz HLq.out).2.1;rw [Array.size_append,this];rfl)) (Flow.grow_alloc _ _) ⟨_,rfl,heap_alloc_new _ _⟩
             exact trivial
            case stab39 =>
             simp only [Flow.Stable,and_true]
             exact fun v w w' hR ⟨q,h1,h2⟩=>⟨q,h1,heap_keep hR h2⟩
            case ends39 =>
             intro wy op1 op2 ho1 ho2 hC
             simp only [List.take_succ_cons,List.take_zero,Flow.ends]
             rintro v166 ⟨q',rfl,hq'⟩
             have h1:op1.op=.call { callee:=.builtin .append,args:=#[.tmp 158,.tmp 166],argTypes:=#[109,109] }:=by cases ho1;rfl
             have h1d:op1.dst=some 167:=by cases ho1;rfl
             have h2:op2.op=.assign (.tmp 167):=by cases ho2;rfl
             have h2d:op2.dst=some 5:=by cases ho2;rfl
             clear ho1 ho2
             simp only [Act.put,List.setIfInBounds_toArray,List.set_cons_succ,List.set_cons_zero]
             refine wp_appR (W:=W) _ _ h1 (.slice oa t1.length oc) t1 [((-1:Int),Gr.wo t (p:Int))] _ rfl ((HRk.out.keep hC).ro) q' 1 rfl (by rw [Gr.rc_of _ _ HLq.out];simp) hq' (by omega) (by simp) ?_
             intro v' w4 hro hkp
             have HR4:=Lib.hid ((HRk.out.keep hC).app hro hkp)
             have HI4:=Lib.hid (own_lift (own_keep HIo.out hC) (by decide) hkp)
             obtain ⟨oa',oc',rfl⟩:=own_form hro.own
             refine Flow.run_wp (Flow.exec_move (.inr h2) rfl) ?_
             rw [h1d,h2d]
             simp only [Act.put,Act.eval,List.setIfInBounds_toArray,List.set_cons_succ,List.set_cons_zero]
             clear h1 h2 h1d h2d hro hkp hC hq'
             go_wp2_with fail
             go_roundw
             case rel=>exact ⟨k+1,by omega,by go_num,Lib.hid (by rw [HE.out];exact HR4.out),HI4⟩
             case measure=>simp [intOf];omega
          ·obtain rfl:k=n:=by omega
           have ht0:xs.take k=xs:=List.take_of_length_le (by rw [← Hn.out];exact Nat.le_refl _)
           rw [ht0,← HNe.out] at HRk ⊢
           go_wp2_with fail
           go_roundw
           case rel=>exact ⟨j+1,by omega,by go_num,Lib.hid (by rw [HX2j.out];exact HRk.out)⟩
           case measure=>simp [intOf];omega
        ·have k2:(K == 2)=false:=by simp [h2]
         have HE:Hid (fj=[]):=Lib.hid (HNj.out.trans ((if_neg h3).trans ((if_neg h5).trans ((if_neg h46).trans (if_neg h2)))))
         clear h3 h5 h46 h2 HNj HTj
         go_wp2_with fail
         go_roundw
         case rel=>exact ⟨j+1,by omega,by go_num,Lib.hid (by rw [HX2j.out,HE.out,List.append_nil];exact HRk.out)⟩
         case measure=>simp [intOf];omega
  ·obtain rfl:j=nl:=by omega
   have ht0:(List.range j).take j=List.range j:=List.take_of_length_le (by simp)
   rw [ht0,← HT.out] at HRj ⊢
   go_wp2_with fail
   go_ret
   exact ⟨_,rfl,HRj.out.ro⟩
end Go.Proofs.YtcnmaplopbbmaaaGreat
