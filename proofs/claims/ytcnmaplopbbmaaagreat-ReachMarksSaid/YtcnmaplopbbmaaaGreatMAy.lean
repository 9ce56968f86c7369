/- graph.Check by its contract. -/
import Derived.Test.YtcnmaplopbbmaaaGreatMAx
import Derived.Test.YtcnmaplopbbmaaaGreatMAv
namespace Go.Proofs.YtcnmaplopbbmaaaGreat
open Go.RowKit
set_option maxRecDepth 100000 in
set_option maxHeartbeats 4000000 in
theorem check_any (v0 v1 v2 v3:Value) (g:Gr.G) (W:World) (hf:g.Few) (h:Gr.GAt W v0 v1 v2 v3 g) :
  Calls Tryz.prog 5 #[.agg #[v0,v1,v2,v3]] W fun e w'=>e=.returned (.int .i64 g.check)∧Flow.Grow W w':=by
 have HPl:Hid (∀ w,Flow.Grow W w→Calls Tryz.prog 11 #[.agg #[v0,v1,v2,v3]] w fun e w'=>e=.returned (.int .i64 (g.places:Int))∧Flow.Grow w w'):=Lib.hid fun w hg=>places_any v0 v1 v2 v3 g w hf (h.grow hg)
 have HNd:Hid (∀ w n,Flow.Grow W w→Calls Tryz.prog 12 #[.agg #[v0,v1,v2,v3],.agg n.cells.toArray] w fun e w'=>e=.returned (.bool (g.nodeOk n))∧Flow.Grow w w'):=Lib.hid fun w n hg=>node_any v0 v1 v2 v3 g n w hf (h.grow hg)
 have HIn:Hid (∀ w n,Flow.Grow W w→Calls Tryz.prog 13 #[.agg #[v0,v1,v2,v3],.int .i64 n] w fun e w'=>(∃ a c,e=.returned (.slice a (g.inn n).length c))∧Flow.Grow w w'):=Lib.hid fun w n hg=>(graphIn_any v0 v1 v2 v3 n g.es w hf.es (Gr.Recs.grow h.edges hg)).mono fun e w' ⟨⟨va,a,b⟩,c⟩=>⟨by obtain ⟨x,y,rfl⟩:=own_form b;exact ⟨x,y,a⟩,c⟩
 have HOu:Hid (∀ w n,Flow.Grow W w→Calls Tryz.prog 14 #[.agg #[v0,v1,v2,v3],.int .i64 n] w fun e w'=>(∃ a c,e=.returned (.slice a (g.out n).length c))∧Flow.Grow w w'):=Lib.hid fun w n hg=>(graphOut_any v0 v1 v2 v3 n g.es w hf.es (Gr.Recs.grow h.edges hg)).mono fun e w' ⟨⟨va,a,b⟩,c⟩=>⟨by obtain ⟨x,y,rfl⟩:=own_form b;exact ⟨x,y,a⟩,c⟩
 have hpl:g.places≤3000000:=by have:=Gr.tasks_len g.ns g.ns.length;have h1:=hf.ns;have h2:=hf.es;have:g.tasks.length≤g.ns.length:=this;show g.es.length+2 * g.tasks.length≤_;omega
 have hin:∀ n,(g.inn n).length≤1000000:=fun n=>Nat.le_trans (Gr.inE_len g.es n _) hf.es
 have hou:∀ n,(g.out n).length≤1000000:=fun n=>Nat.le_trans (Gr.outE_len g.es n _) hf.es
 have Hin:=Lib.hid hin
 have Hou:=Lib.hid hou
 obtain ⟨⟨a0,c0,rfl⟩,⟨a1,c1,rfl⟩,h2,h3⟩:=h
 have H2:=Lib.hid h2
 have H3:=Lib.hid h3
 obtain ⟨a2,c2,rfl⟩:=Gr.Recs.form h2
 obtain ⟨a3,c3,rfl⟩:=Gr.Recs.form h3
 have HCk:Hid (g.check=if 16 < g.np∨64 < g.places then 5 else match g.chkN 0 g.ns.length with | some c=>c | none=>match g.chkE 0 g.es.length with | some c=>c | none=>if Gr.starts g.ns g.ns.length≠1 then 9 else 0):=Lib.hid rfl
 have hns:=hf.ns
 have hes:=hf.es
 have hnp:=hf.np
 have hnm:=hf.nm
 clear h2 h3 hf hin hou
 generalize g.check=r at *
 generalize hpe:g.places=pl at *
 clear hpe
 obtain ⟨ln,hln⟩:∃ k,k=g.ns.length:=⟨_,rfl⟩
 have HLn:=Lib.hid hln
 rw [← hln] at hns HCk HPl HNd HIn HOu H2 ⊢
 obtain ⟨le,hle⟩:∃ k,k=g.es.length:=⟨_,rfl⟩
 have HLe:=Lib.hid hle
 rw [← hle] at hes HCk HPl HNd HIn HOu H3 ⊢
 generalize hlp:g.np=lp at *
 generalize hlm:g.nm=lm at *
 clear hln hle hlp hlm
 by_cases h0:16 < lp
 ·have d0:decide ((16:Int) < (lp:Int))=true:=by simp;omega
  have HE:Hid (r=5):=Lib.hid (by rw [HCk.out,if_pos (.inl h0)])
  go_enter Tryz.func5,Tryz.ntmps5
  go_wp2_with fail
  go_ret
  exact ⟨by rw [HE.out];rfl,Flow.grow_alloc _ _⟩
 have d0:decide ((16:Int) < (lp:Int))=false:=by simp;omega
 by_cases h1:64 < pl
 ·have d1:decide ((64:Int) < (pl:Int))=true:=by simp;omega
  have HE:Hid (r=5):=Lib.hid (by rw [HCk.out,if_pos (.inr h1)])
  go_enter Tryz.func5,Tryz.ntmps5
  go_wp2_with (go_at_call 11;refine (HPl.out _ (Flow.grow_alloc _ _)).mono ?_;rintro e w1 ⟨rfl,hg⟩;have HG1:=Lib.hid ((Flow.grow_alloc _ _).trans hg);clear hg)
  go_ret
  exact ⟨by rw [HE.out];rfl,HG1.out⟩
 have d1:decide ((64:Int) < (pl:Int))=false:=by simp;omega
 replace HCk:Hid (r=match g.chkN 0 ln with | some c=>c | none=>match g.chkE 0 le with | some c=>c | none=>if Gr.starts g.ns ln≠1 then 9 else 0):=Lib.hid (by rw [HCk.out,if_neg (by omega)])
 go_enter Tryz.func5,Tryz.ntmps5
 go_upto_region 3 with (go_at_call 11;refine (HPl.out _ (Flow.grow_alloc _ _)).mono ?_;rintro e w1 ⟨rfl,hg⟩;have HG0:=Lib.hid hg;clear hg)
 obtain ⟨X,hX⟩:∃ X,X=W.heap.size:=⟨_,rfl⟩
 have HX:Hid (w1.heap[X]? = some (.cells #[.slice a0 lp c0,.slice a1 lm c1,.slice a2 ln c2,.slice a3 le c3] 27 (0,0))):=Lib.hid (by rw [hX];exact (HG0.out.block _ (by simp) (by simp)).trans (heap_alloc_new W _))
 have HG1:Hid (Flow.Grow W w1):=Lib.hid ((Flow.grow_alloc _ _).trans HG0.out)
 rw [← hX]
 clear hX HG0
 have q0:w1.cell? ⟨X,0,none⟩=some (.slice a0 lp c0):=(cell_of_row w1 X 0 _ _ _ HX.out).trans rfl
 have q1:w1.cell? ⟨X,1,none⟩=some (.slice a1 lm c1):=(cell_of_row w1 X 1 _ _ _ HX.out).trans rfl
 have q2:w1.cell? ⟨X,2,none⟩=some (.slice a2 ln c2):=(cell_of_row w1 X 2 _ _ _ HX.out).trans rfl
 have q3:w1.cell? ⟨X,3,none⟩=some (.slice a3 le c3):=(cell_of_row w1 X 3 _ _ _ HX.out).trans rfl
 have HQ:=Lib.hid fun (w:World) (hg:Flow.Grow w1 w)=>(And.intro (Xm2.cell_grow hg q0) (And.intro (Xm2.cell_grow hg q1) (And.intro (Xm2.cell_grow hg q2) (Xm2.cell_grow hg q3))))
 clear HX q0 q1
 go_wp2_with fail
 go_loopw [3,20] (fun s i wr=>∃ j:Nat,j≤ln∧i=.int .i64 j∧s=.int .i64 (Gr.starts g.ns j:Int)∧Hid (g.chkN 0 ln=g.chkN j (ln - j))∧Hid (Flow.Grow w1 wr)) (fun _ i _=>ln - (intOf i).toNat)
 case atStart=>exact ⟨0,by omega,rfl,rfl,Lib.hid rfl,Lib.hid (Flow.grow_refl _)⟩
 case round =>
  obtain ⟨j,hj,rfl,rfl,HR,HG⟩:=hrel
  rename World=>wr
  obtain ⟨q0,q1,q2,q3⟩:=HQ.out wr HG.out
  by_cases hjn:j < ln
  ·obtain ⟨b,off,rfl,p0,p1,p2,p3,p4,p5,p6⟩:=Gr.NdsAt.at H2.out (j:=j) (by rw [← HLn.out];exact hjn)
   have c0':=Xm2.cell_grow (HG1.out.trans HG.out) p0
   have c1':=Xm2.cell_grow (HG1.out.trans HG.out) p1
   have c2':=Xm2.cell_grow (HG1.out.trans HG.out) p2
   have c3':=Xm2.cell_grow (HG1.out.trans HG.out) p3
   have c4':=Xm2.cell_grow (HG1.out.trans HG.out) p4
   have c5':=Xm2.cell_grow (HG1.out.trans HG.out) p5
   have c6':=Xm2.cell_grow (HG1.out.trans HG.out) p6
   clear p0 p1 p2 p3 p4 p5 p6
   have hinj:=Hin.out (j:Int)
   have houj:=Hou.out (j:Int)
   have HR2:Hid (g.chkN 0 ln=if g.nodeOk (g.ns.getD j Gr.nd0)=false then some 1 else if g.nodeBad j=true then some 9 else g.chkN (j+1) (ln - (j+1))):=Lib.hid (by rw [HR.out,show ln - j=(ln - (j+1))+1 by omega];rfl)
   have HBd:Hid (g.nodeBad j=((decide ((g.ns.getD j Gr.nd0).kind=1) && decide (0 < (g.inn j).length)) || ((decide ((g.ns.getD j Gr.nd0).kind=1) || decide ((g.ns.getD j Gr.nd0).kind=3)) && decide ((g.out j).length≠1)))):=Lib.hid rfl
   have HSt:Hid (Gr.starts g.ns (j+1)=Gr.starts g.ns j+if (g.ns.getD j Gr.nd0).kind=1 then 1 else 0):=Lib.hid rfl
   have hst:=Gr.starts_le g.ns j
   clear HR
   generalize g.ns.getD j Gr.nd0=x at *
   obtain ⟨x0,x1,x2,x3,x4,x5,x6⟩:=x
   simp only at c0' c1' c2' c3' c4' c5' c6'
   have HBd2:=HBd.out
   have HSt2:=HSt.out
   simp only at HBd2 HSt2
   replace HBd:=Lib.hid HBd2
   replace HSt:=Lib.hid HSt2
   clear HBd2 HSt2
   have HNj:Hid (∀ w,Flow.Grow W w→Calls Tryz.prog 12 #[.agg #[.slice a0 lp c0,.slice a1 lm c1,.slice (some ⟨b,off,none⟩) ln c2,.slice a3 le c3],.agg #[.int .i64 x0,.string x1,.int .i64 x2,.int .i64 x3,.int .i64 x4,.int .i64 x5,.bool x6]] w fun e w'=>e=.returned (.bool (g.nodeOk ⟨x0,x1,x2,x3,x4,x5,x6⟩))∧Flow.Grow w w'):=Lib.hid fun w hg=>HNd.out w ⟨x0,x1,x2,x3,x4,x5,x6⟩ hg
   generalize g.nodeOk ⟨x0,x1,x2,x3,x4,x5,x6⟩=bo at *
   go_upto_region 7 with fail
   obtain ⟨w6,hw6⟩:∃ w6,w6=wr.alloc (.cells #[.int .i64 x0,.string x1,.int .i64 x2,.int .i64 x3,.int .i64 x4,.int .i64 x5,.bool x6] 52):=⟨_,rfl⟩
   obtain ⟨Y,hY⟩:∃ Y,Y=wr.heap.size:=⟨_,rfl⟩
   have HY:Hid (w6.heap[Y]? = some (.cells #[.int .i64 x0,.string x1,.int .i64 x2,.int .i64 x3,.int .i64 x4,.int .i64 x5,.bool x6] 52 (0,0))):=Lib.hid (by rw [hw6,hY];exact heap_alloc_new wr _)
   have HG6:Hid (Flow.Grow w1 w6):=Lib.hid (by rw [hw6];exact HG.out.trans (Flow.grow_alloc _ _))
   rw [← hw6,← hY]
   clear hw6 hY q0 q1 q2 q3 c0' c1' c2' c3' c4' c5' c6' HG
   obtain ⟨q0,q1,q2,q3⟩:=HQ.out w6 HG6.out
   have y0:w6.cell? ⟨Y,0,none⟩=some (.int .i64 x0):=(cell_of_row w6 Y 0 _ _ _ HY.out).trans rfl
   have y1:w6.cell? ⟨Y,1,none⟩=some (.string x1):=(cell_of_row w6 Y 1 _ _ _ HY.out).trans rfl
   have y2:w6.cell? ⟨Y,2,none⟩=some (.int .i64 x2):=(cell_of_row w6 Y 2 _ _ _ HY.out).trans rfl
   have y3:w6.cell? ⟨Y,3,none⟩=some (.int .i64 x3):=(cell_of_row w6 Y 3 _ _ _ HY.out).trans rfl
   have y4:w6.cell? ⟨Y,4,none⟩=some (.int .i64 x4):=(cell_of_row w6 Y 4 _ _ _ HY.out).trans rfl
   have y5:w6.cell? ⟨Y,5,none⟩=some (.int .i64 x5):=(cell_of_row w6 Y 5 _ _ _ HY.out).trans rfl
   have y6:w6.cell? ⟨Y,6,none⟩=some (.bool x6):=(cell_of_row w6 Y 6 _ _ _ HY.out).trans rfl
   cases bo with
   | false =>
    have HE:Hid (r=1):=Lib.hid (by rw [HCk.out,HR2.out,if_pos rfl])
    go_wp2_with (go_at_call 12;refine (HNj.out _ (HG1.out.trans HG6.out)).mono ?_;rintro e w2 ⟨rfl,hg⟩;have HG2:=Lib.hid ((HG1.out.trans HG6.out).trans hg);clear hg)
    go_ret
    exact ⟨by rw [HE.out];rfl,HG2.out⟩
   | true =>
    replace HR2:Hid (g.chkN 0 ln=if g.nodeBad j=true then some 9 else g.chkN (j+1) (ln - (j+1))):=Lib.hid (by rw [HR2.out,if_neg (by simp)])
    go_upto_region 9 with (go_at_call 12;refine (HNj.out _ (HG1.out.trans HG6.out)).mono ?_;rintro e w2 ⟨rfl,hg⟩;have HG2:=Lib.hid hg;clear hg)
    replace y0:w2.cell? ⟨Y,0,none⟩=some (.int .i64 x0):=Xm2.cell_grow HG2.out y0
    have HG3:Hid (Flow.Grow W w2):=Lib.hid ((HG1.out.trans HG6.out).trans HG2.out)
    have HG4:Hid (Flow.Grow w1 w2):=Lib.hid (HG6.out.trans HG2.out)
    clear q0 q1 q2 q3 y1 y2 y3 y4 y5 y6 HG2 HNj HG6 HY
    obtain ⟨q0,q1,q2,q3⟩:=HQ.out w2 HG4.out
    have HInj:Hid (∀ w,Flow.Grow W w→Calls Tryz.prog 13 #[.agg #[.slice a0 lp c0,.slice a1 lm c1,.slice (some ⟨b,off,none⟩) ln c2,.slice a3 le c3],.int .i64 j] w fun e w'=>(∃ a c,e=.returned (.slice a (g.inn (j:Int)).length c))∧Flow.Grow w w'):=Lib.hid fun w hg=>HIn.out w j hg
    have HOuj:Hid (∀ w,Flow.Grow W w→Calls Tryz.prog 14 #[.agg #[.slice a0 lp c0,.slice a1 lm c1,.slice (some ⟨b,off,none⟩) ln c2,.slice a3 le c3],.int .i64 j] w fun e w'=>(∃ a c,e=.returned (.slice a (g.out (j:Int)).length c))∧Flow.Grow w w'):=Lib.hid fun w hg=>HOu.out w j hg
    generalize (g.inn (j:Int)).length=li at *
    generalize (g.out (j:Int)).length=lo at *
    clear HNd HIn HOu HPl
    by_cases k1:x0=1
    ·have d1:(x0 == 1)=true:=by simp [k1]
     by_cases k2:0 < li
     ·have d2:decide ((0:Int) < (li:Int))=true:=by simp;omega
      have HE:Hid (r=9):=Lib.hid (by rw [HCk.out,HR2.out,if_pos (by rw [HBd.out];simp [k1,k2])])
      go_wp2_with (first | (go_at_call 13;refine (HInj.out _ HG3.out).mono ?_;rintro e w4 ⟨⟨ai,ci,rfl⟩,hg⟩;replace y0:=Xm2.cell_grow hg y0;replace HG4:=Lib.hid (HG4.out.trans hg);replace HG3:=Lib.hid (HG3.out.trans hg);clear hg q0 q1 q2 q3;obtain ⟨q0,q1,q2,q3⟩:=HQ.out w4 HG4.out) | (go_at_call 14;refine (HOuj.out _ HG3.out).mono ?_;rintro e w5 ⟨⟨ao,co,rfl⟩,hg⟩;replace y0:=Xm2.cell_grow hg y0;replace HG4:=Lib.hid (HG4.out.trans hg);replace HG3:=Lib.hid (HG3.out.trans hg);clear hg q0 q1 q2 q3;obtain ⟨q0,q1,q2,q3⟩:=HQ.out w5 HG4.out))
      go_ret
      exact ⟨by rw [HE.out];rfl,HG3.out⟩
     ·have d2:decide ((0:Int) < (li:Int))=false:=by simp;omega
      by_cases k3:lo=1
      ·have d3:((lo:Int) != 1)=false:=by simp;omega
       have HR3:Hid (g.chkN 0 ln=g.chkN (j+1) (ln - (j+1))):=Lib.hid (by rw [HR2.out,if_neg (by rw [HBd.out];simp [k1,k2,k3])])
       have HS3:Hid (Gr.starts g.ns (j+1)=Gr.starts g.ns j+1):=Lib.hid (by rw [HSt.out];simp [k1])
       go_wp2_with (first | (go_at_call 13;refine (HInj.out _ HG3.out).mono ?_;rintro e w4 ⟨⟨ai,ci,rfl⟩,hg⟩;replace y0:=Xm2.cell_grow hg y0;replace HG4:=Lib.hid (HG4.out.trans hg);replace HG3:=Lib.hid (HG3.out.trans hg);clear hg q0 q1 q2 q3;obtain ⟨q0,q1,q2,q3⟩:=HQ.out w4 HG4.out) | (go_at_call 14;refine (HOuj.out _ HG3.out).mono ?_;rintro e w5 ⟨⟨ao,co,rfl⟩,hg⟩;replace y0:=Xm2.cell_grow hg y0;replace HG4:=Lib.hid (HG4.out.trans hg);replace HG3:=Lib.hid (HG3.out.trans hg);clear hg q0 q1 q2 q3;obtain ⟨q0,q1,q2,q3⟩:=HQ.out w5 HG4.out))
       go_roundw
       case rel=>exact ⟨j+1,by omega,by go_num,by rw [HS3.out];go_num,HR3,HG4⟩
       case measure=>simp [intOf];omega
      ·have d3:((lo:Int) != 1)=true:=by simp;omega
       have HE:Hid (r=9):=Lib.hid (by rw [HCk.out,HR2.out,if_pos (by rw [HBd.out];simp [k1,k3])])
       go_wp2_with (first | (go_at_call 13;refine (HInj.out _ HG3.out).mono ?_;rintro e w4 ⟨⟨ai,ci,rfl⟩,hg⟩;replace y0:=Xm2.cell_grow hg y0;replace HG4:=Lib.hid (HG4.out.trans hg);replace HG3:=Lib.hid (HG3.out.trans hg);clear hg q0 q1 q2 q3;obtain ⟨q0,q1,q2,q3⟩:=HQ.out w4 HG4.out) | (go_at_call 14;refine (HOuj.out _ HG3.out).mono ?_;rintro e w5 ⟨⟨ao,co,rfl⟩,hg⟩;replace y0:=Xm2.cell_grow hg y0;replace HG4:=Lib.hid (HG4.out.trans hg);replace HG3:=Lib.hid (HG3.out.trans hg);clear hg q0 q1 q2 q3;obtain ⟨q0,q1,q2,q3⟩:=HQ.out w5 HG4.out))
       go_ret
       exact ⟨by rw [HE.out];rfl,HG3.out⟩
    ·have d1:(x0 == 1)=false:=by simp [k1]
     by_cases k2:x0=3
     ·have d2:(x0 == 3)=true:=by simp [k2]
      by_cases k3:lo=1
      ·have d3:((lo:Int) != 1)=false:=by simp;omega
       have HR3:Hid (g.chkN 0 ln=g.chkN (j+1) (ln - (j+1))):=Lib.hid (by rw [HR2.out,if_neg (by rw [HBd.out];simp [k1,k3])])
       have HS3:Hid (Gr.starts g.ns (j+1)=Gr.starts g.ns j+0):=Lib.hid (by rw [HSt.out];simp [k1])
       go_wp2_with (first | (go_at_call 13;refine (HInj.out _ HG3.out).mono ?_;rintro e w4 ⟨⟨ai,ci,rfl⟩,hg⟩;replace y0:=Xm2.cell_grow hg y0;replace HG4:=Lib.hid (HG4.out.trans hg);replace HG3:=Lib.hid (HG3.out.trans hg);clear hg q0 q1 q2 q3;obtain ⟨q0,q1,q2,q3⟩:=HQ.out w4 HG4.out) | (go_at_call 14;refine (HOuj.out _ HG3.out).mono ?_;rintro e w5 ⟨⟨ao,co,rfl⟩,hg⟩;replace y0:=Xm2.cell_grow hg y0;replace HG4:=Lib.hid (HG4.out.trans hg);replace HG3:=Lib.hid (HG3.out.trans hg);clear hg q0 q1 q2 q3;obtain ⟨q0,q1,q2,q3⟩:=HQ.out w5 HG4.out))
       go_roundw
       case rel=>exact ⟨j+1,by omega,by go_num,by rw [HS3.out];go_num,HR3,HG4⟩
       case measure=>simp [intOf];omega
      ·have d3:((lo:Int) != 1)=true:=by simp;omega
       have HE:Hid (r=9):=Lib.hid (by rw [HCk.out,HR2.out,if_pos (by rw [HBd.out];simp [k2,k3])])
       go_wp2_with (first | (go_at_call 13;refine (HInj.out _ HG3.out).mono ?_;rintro e w4 ⟨⟨ai,ci,rfl⟩,hg⟩;replace y0:=Xm2.cell_grow hg y0;replace HG4:=Lib.hid (HG4.out.trans hg);replace HG3:=Lib.hid (HG3.out.trans hg);clear hg q0 q1 q2 q3;obtain ⟨q0,q1,q2,q3⟩:=HQ.out w4 HG4.out) | (go_at_call 14;refine (HOuj.out _ HG3.out).mono ?_;rintro e w5 ⟨⟨ao,co,rfl⟩,hg⟩;replace y0:=Xm2.cell_grow hg y0;replace HG4:=Lib.hid (HG4.out.trans hg);replace HG3:=Lib.hid (HG3.out.trans hg);clear hg q0 q1 q2 q3;obtain ⟨q0,q1,q2,q3⟩:=HQ.out w5 HG4.out))
       go_ret
       exact ⟨by rw [HE.out];rfl,HG3.out⟩
     ·have d2:(x0 == 3)=false:=by simp [k2]
      have HR3:Hid (g.chkN 0 ln=g.chkN (j+1) (ln - (j+1))):=Lib.hid (by rw [HR2.out,if_neg (by rw [HBd.out];simp [k1,k2])])
      have HS3:Hid (Gr.starts g.ns (j+1)=Gr.starts g.ns j+0):=Lib.hid (by rw [HSt.out];simp [k1])
      go_wp2_with (first | (go_at_call 13;refine (HInj.out _ HG3.out).mono ?_;rintro e w4 ⟨⟨ai,ci,rfl⟩,hg⟩;replace y0:=Xm2.cell_grow hg y0;replace HG4:=Lib.hid (HG4.out.trans hg);replace HG3:=Lib.hid (HG3.out.trans hg);clear hg q0 q1 q2 q3;obtain ⟨q0,q1,q2,q3⟩:=HQ.out w4 HG4.out) | (go_at_call 14;refine (HOuj.out _ HG3.out).mono ?_;rintro e w5 ⟨⟨ao,co,rfl⟩,hg⟩;replace y0:=Xm2.cell_grow hg y0;replace HG4:=Lib.hid (HG4.out.trans hg);replace HG3:=Lib.hid (HG3.out.trans hg);clear hg q0 q1 q2 q3;obtain ⟨q0,q1,q2,q3⟩:=HQ.out w5 HG4.out))
      go_roundw
      case rel=>exact ⟨j+1,by omega,by go_num,by rw [HS3.out];go_num,HR3,HG4⟩
      case measure=>simp [intOf];omega
  ·have ej:j=ln:=by omega
   subst ej
   cases hcn:g.chkN 0 j with
   | some c=>exact absurd (hcn.symm.trans HR.out) (by rw [Nat.sub_self];simp [Gr.G.chkN])
   | none =>
    replace HCk:Hid (r=match g.chkE 0 le with | some c=>c | none=>if Gr.starts g.ns j≠1 then 9 else 0):=Lib.hid (by rw [HCk.out,hcn])
    clear hcn HR
    have hst:=Gr.starts_le g.ns j
    generalize Gr.starts g.ns j=st at *
    have HGW:Hid (Flow.Grow W wr):=Lib.hid (HG1.out.trans HG.out)
    go_wp2_with fail
    go_loopw [65] (fun i wq=>∃ k:Nat,k≤le∧i=.int .i64 k∧Hid (g.chkE 0 le=g.chkE k (le - k))∧Hid (Flow.Grow w1 wq)) (fun i _=>le - (intOf i).toNat)
    case atStart=>exact ⟨0,by omega,rfl,Lib.hid rfl,HG⟩
    case round =>
     obtain ⟨k,hk,rfl,HR,HG⟩:=hrel
     rename World=>wq
     clear q0 q1 q2 q3
     obtain ⟨q0,q1,q2,q3⟩:=HQ.out wq HG.out
     by_cases hkn:k < le
     ·obtain ⟨b,off,rfl,p0,p1⟩:=Gr.EsAt.at H3.out (j:=k) (by rw [← HLe.out];exact hkn)
      have c0':=Xm2.cell_grow (HG1.out.trans HG.out) p0
      have c1':=Xm2.cell_grow (HG1.out.trans HG.out) p1
      clear p0 p1
      have HR2:Hid (g.chkE 0 le=if g.edgeOk (g.es.getD k (0,0))=false then some 1 else g.chkE (k+1) (le - (k+1))):=Lib.hid (by rw [HR.out,show le - k=(le - (k+1))+1 by omega];rfl)
      have HEo:Hid (g.edgeOk (g.es.getD k (0,0))=(decide (0≤(g.es.getD k (0,0)).1∧(g.es.getD k (0,0)).1 < (j:Int)) && decide (0≤(g.es.getD k (0,0)).2∧(g.es.getD k (0,0)).2 < (j:Int)))):=Lib.hid (by rw [HLn.out];rfl)
      clear HR
      generalize g.es.getD k (0,0)=x at *
      obtain ⟨x0,x1⟩:=x
      simp only at c0' c1'
      have HEo2:=HEo.out
      simp only at HEo2
      replace HEo:=Lib.hid HEo2
      clear HEo2
      generalize g.edgeOk (x0,x1)=eo at *
      have z2:(wq.alloc (.cells #[.int .i64 x0,.int .i64 x1] 56)).cell? ⟨X,2,none⟩=some (.slice a2 j c2):=(HQ.out _ (HG.out.trans (Flow.grow_alloc _ _))).2.2.1
      by_cases k0:x0 < 0
      ·have d0:decide (x0 < 0)=true:=by simp [k0]
       have HE:Hid (r=1):=Lib.hid (by rw [HCk.out,HR2.out,if_pos (by rw [HEo.out];simp;omega)])
       go_wp2_with fail
       go_ret
       exact ⟨by rw [HE.out];rfl,(HG1.out.trans HG.out).trans (Flow.grow_alloc _ _)⟩
      have d0:decide (x0 < 0)=false:=by simp [k0]
      by_cases k1:(j:Int)≤x0
      ·have d1:decide ((j:Int)≤x0)=true:=by simp [k1]
       have HE:Hid (r=1):=Lib.hid (by rw [HCk.out,HR2.out,if_pos (by rw [HEo.out];simp;omega)])
       go_wp2_with fail
       go_ret
       exact ⟨by rw [HE.out];rfl,(HG1.out.trans HG.out).trans (Flow.grow_alloc _ _)⟩
      have d1:decide ((j:Int)≤x0)=false:=by simp [k1]
      by_cases k2:x1 < 0
      ·have d2:decide (x1 < 0)=true:=by simp [k2]
       have HE:Hid (r=1):=Lib.hid (by rw [HCk.out,HR2.out,if_pos (by rw [HEo.out];simp;omega)])
       go_wp2_with fail
       go_ret
       exact ⟨by rw [HE.out];rfl,(HG1.out.trans HG.out).trans (Flow.grow_alloc _ _)⟩
      have d2:decide (x1 < 0)=false:=by simp [k2]
      by_cases k3:(j:Int)≤x1
      ·have d3:decide ((j:Int)≤x1)=true:=by simp [k3]
       have HE:Hid (r=1):=Lib.hid (by rw [HCk.out,HR2.out,if_pos (by rw [HEo.out];simp;omega)])
       go_wp2_with fail
       go_ret
       exact ⟨by rw [HE.out];rfl,(HG1.out.trans HG.out).trans (Flow.grow_alloc _ _)⟩
      have d3:decide ((j:Int)≤x1)=false:=by simp [k3]
      have HR3:Hid (g.chkE 0 le=g.chkE (k+1) (le - (k+1))):=Lib.hid (by rw [HR2.out,if_neg (by rw [HEo.out];simp;omega)])
      go_wp2_with fail
      go_roundw
      case rel=>exact ⟨k+1,by omega,by go_num,HR3,Lib.hid (HG.out.trans (Flow.grow_alloc _ _))⟩
      case measure=>simp [intOf];omega
     ·have ek:k=le:=by omega
      subst ek
      cases hce:g.chkE 0 k with
      | some c=>exact absurd (hce.symm.trans HR.out) (by rw [Nat.sub_self];simp [Gr.G.chkE])
      | none =>
       replace HCk:Hid (r=if st≠1 then 9 else 0):=Lib.hid (by rw [HCk.out,hce])
       by_cases k5:st=1
       ·have d5:((st:Int) != 1)=false:=by simp;omega
        have HE:Hid (r=0):=Lib.hid (by rw [HCk.out,if_neg (by omega)])
        go_wp2_with fail
        go_ret
        exact ⟨by rw [HE.out];rfl,HG1.out.trans HG.out⟩
       ·have d5:((st:Int) != 1)=true:=by simp;omega
        have HE:Hid (r=9):=Lib.hid (by rw [HCk.out,if_pos k5])
        go_wp2_with fail
        go_ret
        exact ⟨by rw [HE.out];rfl,HG1.out.trans HG.out⟩
end Go.Proofs.YtcnmaplopbbmaaaGreat
namespace Go.Proofs.YtcnmaplopbbmaaaGreat
open Go.RowKit
structure Gr.LabOf (g:Gr.G) (L:List Gr.Lb):Prop where
 len:L.length≤800000
 srt:Gr.Srt L
 mem:∀ x,x∈L↔x∈g.gath g.ns.length
def Gr.NewP (n:Nat) (v0 v1 v2 v3:Value) (g:Gr.G) (e:Ending) (w:World):Prop :=
 (g.check≠0∧e=.returned (.tuple #[.pointer none,.int .i64 g.check])) ∨
 (g.check=0∧∃ B lv L,e=.returned (.tuple #[.pointer (some ⟨B,0,none⟩),.int .i64 0])∧Gr.Gm w B v0 v1 v2 v3 lv g L 0∧Gr.LabOf g L∧n≤B)
set_option maxRecDepth 100000 in
set_option maxHeartbeats 2000000 in
theorem new_any (v0 v1 v2 v3:Value) (g:Gr.G) (W:World) (hf:g.Few) (hns:g.ns.length≤400000) (h:Gr.GAt W v0 v1 v2 v3 g) :
  Calls Tryz.prog 15 #[.agg #[v0,v1,v2,v3]] W fun e w'=>Gr.NewP W.heap.size v0 v1 v2 v3 g e w'∧Flow.Grow W w':=by
 have HA:=Lib.hid h
 have HCk:=Lib.hid fun w (hg:Flow.Grow W w)=>check_any v0 v1 v2 v3 g w hf (h.grow hg)
 have HOf:=Lib.hid fun w (hg:Flow.Grow W w)=>aof_any v0 v1 v2 v3 g w hns (h.grow hg)
 clear h hf hns
 obtain ⟨ck,hck⟩:∃ ck,ck=g.check:=⟨_,rfl⟩
 have Hck:=Lib.hid hck
 rw [← hck] at HCk
 clear hck
 go_enter Tryz.func15,Tryz.ntmps15
 go_upto_region 1 with fail
 have HBw10:Hid ((W.alloc (.cells #[v0,v1,v2,v3] 27)).heap[W.heap.size]? = some (.cells #[v0,v1,v2,v3] 27 (0,0))):=Lib.hid (lay1_0 _ _)
 have HGw1:Hid (Flow.Grow W (W.alloc (.cells #[v0,v1,v2,v3] 27))):=Lib.hid (lay1_g _ _)
 have HSw1:Hid ((W.alloc (.cells #[v0,v1,v2,v3] 27)).heap.size=W.heap.size+1):=Lib.hid (by simp)
 generalize W.alloc (.cells #[v0,v1,v2,v3] 27)=w1 at *
 obtain ⟨X,hX⟩:∃ X,X=W.heap.size:=⟨_,rfl⟩
 rw [← hX] at HBw10 HSw1 ⊢
 have HXw1:=Lib.hid hX
 clear hX
 have CXw1:Hid (∀ wq,Flow.Grow w1 wq→wq.cell? ⟨X,0,none⟩=some (v0)∧wq.cell? ⟨X,1,none⟩=some (v1)∧wq.cell? ⟨X,2,none⟩=some (v2)∧wq.cell? ⟨X,3,none⟩=some (v3)):=Lib.hid (fun wq g=>⟨lay_cell g HBw10.out rfl,lay_cell g HBw10.out rfl,lay_cell g HBw10.out rfl,lay_cell g HBw10.out rfl⟩)
 have FXw1:Hid (∀ wq,Flow.Grow w1 wq→(∀ k,wq.frozen? ⟨X,k,none⟩=false)):=Lib.hid (fun wq g=>fun k=>lay_frozen g HBw10.out k)
 obtain ⟨c00,c01,c02,c03⟩:=CXw1.out w1 (Flow.grow_refl _)
 by_cases hc:ck=0
 ·have d0:(ck != 0)=false:=by simp [hc]
  go_upto_region 4 with (go_at_call 5;refine (HCk.out _ HGw1.out).mono ?_;rintro e w2 ⟨rfl,hg⟩;have HG2:=Lib.hid hg;clear hg)
  have HGW:Hid (Flow.Grow W w2):=Lib.hid (HGw1.out.trans HG2.out)
  clear c00 c01 c02 c03
  refine Flow.region_grown (Fs:=[.inl ((.agg #[v0,v1,v2,v3])),.inl ((.agg #[v0,v1,v2,v3])),.inr (fun v w=>∃ L,Gr.LbsAt w v L∧Gr.LabOf g L),.inr (fun v w=>∃ lv L,v=.agg #[v0,v1,v2,v3,lv,.int .i64 0]∧Gr.LbsAt w lv L∧Gr.LabOf g L),.inr (fun v w=>∃ B lv L,v=.pointer (some ⟨B,0,none⟩)∧Gr.Gm w B v0 v1 v2 v3 lv g L 0∧Gr.LabOf g L∧W.heap.size≤B),.inr (fun v w=>∃ B lv L,v=.pointer (some ⟨B,0,none⟩)∧Gr.Gm w B v0 v1 v2 v3 lv g L 0∧Gr.LabOf g L∧W.heap.size≤B),.inl ((.int .i64 0))])
   (S:=[[],[],[1],[0,2],[3],[4],[]]) (by kernel_rfl) (by kernel_rfl) (by kernel_rfl) rfl ?stab4 ?ones4 ?ends4
  case ones4 =>
   refine Flow.Ones.cons ?_ ?_
   ·intro a w hC hoff _
    have e1:a.eval (.tmp 1)=(.pointer (some ⟨X,0,none⟩)):=hoff.at 1 (by kernel_rfl)
    refine .inl ⟨Flow.want_none rfl,?_⟩
    refine Flow.run_same ?_ Flow.grow_refl
    have ec:=Flow.eval_const a
    generalize a.eval=ρ at e1 ec ⊢
    obtain ⟨h0,h1,h2,h3⟩:=CXw1.out w (HG2.out.trans hC)
    simp [execOp,e1,h0,h1,h2,h3,go_sem]
   refine Flow.Ones.cons ?_ ?_
   ·intro a w hC hoff _
    have e1:a.eval (.tmp 1)=(.pointer (some ⟨X,0,none⟩)):=hoff.at 1 (by kernel_rfl)
    refine .inl ⟨Flow.want_none rfl,?_⟩
    refine Flow.run_same ?_ Flow.grow_refl
    have ec:=Flow.eval_const a
    generalize a.eval=ρ at e1 ec ⊢
    obtain ⟨h0,h1,h2,h3⟩:=CXw1.out w (HG2.out.trans hC)
    simp [execOp,e1,h0,h1,h2,h3,go_sem]
   refine Flow.Ones.cons ?_ ?_
   ·rintro a w hC hoff ⟨k1,-⟩
    have e11:a.eval (.tmp 11)=(.agg #[v0,v1,v2,v3]):=k1 11 rfl
    refine .inl ⟨Flow.want_none rfl,?_⟩
    exact Flow.run_call (Flow.exec_call (args:=#[((.agg #[v0,v1,v2,v3]))]) rfl Tryz.func27 (by kernel_rfl) (by kernel_rfl) (by simp only [List.map_toArray,List.map_cons,List.map_nil,e11] <;> rfl)) ((HOf.out w (HGW.out.trans hC)).mono fun e w' ⟨L,⟨v,he,h1⟩,h2,h3,h4,h5⟩=>⟨v,he,h5,L,h1,h2,h3,h4⟩)
   refine Flow.Ones.cons ?_ ?_
   ·rintro a w hC hoff ⟨k0,k2,-⟩
    have e10:a.eval (.tmp 10)=(.agg #[v0,v1,v2,v3]):=k0 10 rfl
    have e12:(fun v w=>∃ L,Gr.LbsAt w v L∧Gr.LabOf g L) (a.eval (.tmp 12)) w:=k2 12 rfl
    refine .inl ⟨Flow.want_none rfl,?_⟩
    obtain ⟨L,h1,h2⟩:=e12
    refine Flow.run_val (v:=.agg #[v0,v1,v2,v3,a.eval (.tmp 12),.int .i64 0]) (w':=w) ?_ (Flow.grow_refl _) ⟨_,L,rfl,h1,h2⟩
    obtain ⟨xa,xc,hx⟩:=h1.form
    clear h1 k2
    generalize a.eval=ρ at e10 hx ⊢
    simp [execOp,e10,hx,go_sem]
   refine Flow.Ones.cons ?_ ?_
   ·rintro a w hC hoff ⟨k3,-⟩
    have e13:(fun v w=>∃ lv L,v=.agg #[v0,v1,v2,v3,lv,.int .i64 0]∧Gr.LbsAt w lv L∧Gr.LabOf g L) (a.eval (.tmp 13)) w:=k3 13 rfl
    refine .inl ⟨Flow.want_none rfl,?_⟩
    obtain ⟨lv,L,h13,h1,h2⟩:=e13
    refine Flow.run_val (v:=.pointer (some ⟨w.heap.size,0,none⟩)) (w':=w.alloc (.cells #[v0,v1,v2,v3,lv,.int .i64 0] 94)) ?_ (Flow.grow_alloc _ _) ⟨_,lv,L,rfl,⟨heap_alloc_new _ _,Gr.GAt.sub (HA.out.grow (HGW.out.trans hC)) (mask_of (Sub.of_grow (Flow.grow_alloc _ _)) (by simp)),Seg.sub h1 (mask_of (Sub.of_grow (Flow.grow_alloc _ _)) (by simp))⟩,h2,(HGW.out.trans hC).size⟩
    clear h1 k3
    generalize a.eval=ρ at h13 ⊢
    simp [execOp,h13,go_sem]
   refine Flow.Ones.cons ?_ ?_
   ·rintro a w hC hoff ⟨k4,-⟩
    have e14:(fun v w=>∃ B lv L,v=.pointer (some ⟨B,0,none⟩)∧Gr.Gm w B v0 v1 v2 v3 lv g L 0∧Gr.LabOf g L∧W.heap.size≤B) (a.eval (.tmp 14)) w:=k4 14 rfl
    refine .inl ⟨Flow.want_none rfl,?_⟩
    exact Flow.run_val (Flow.exec_move (.inr rfl) rfl) (Flow.grow_refl _) e14
   refine Flow.Ones.cons ?_ ?_
   ·intro a w hC hoff _
    refine .inl ⟨Flow.want_none rfl,?_⟩
    exact Flow.run_same (Flow.exec_move (.inr rfl) rfl) Flow.grow_refl
   exact trivial
  case stab4 =>
   simp only [Flow.Stable,and_true]
   exact ⟨fun v w w' hR ⟨L,h1,h2⟩=>⟨L,Seg.grow h1 hR,h2⟩,fun v w w' hR ⟨lv,L,h0,h1,h2⟩=>⟨lv,L,h0,Seg.grow h1 hR,h2⟩,fun v w w' hR ⟨B,lv,L,h0,h1,h2⟩=>⟨B,lv,L,h0,h1.grow hR,h2⟩,fun v w w' hR ⟨B,lv,L,h0,h1,h2⟩=>⟨B,lv,L,h0,h1.grow hR,h2⟩⟩
  case ends4 =>
   intro w3 hg
   simp only [Flow.ends]
   rintro v12 _ v13 _ v14 _ v2 ⟨B,lv,L,rfl,h1,h2⟩
   simp only [Act.put,List.setIfInBounds_toArray,List.set_cons_succ,List.set_cons_zero]
   have HG3:=Lib.hid hg
   have H1:=Lib.hid h1
   have H2:=Lib.hid h2
   clear hg h1 h2
   go_wp2_with fail
   go_ret2
   exact ⟨.inr ⟨by rw [← Hck.out,hc],B,lv,L,rfl,H1.out,H2.out⟩,HGW.out.trans HG3.out⟩
 ·have d0:(ck != 0)=true:=by simp [hc]
  go_wp2_with (go_at_call 5;refine (HCk.out _ HGw1.out).mono ?_;rintro e w2 ⟨rfl,hg⟩;have HG2:=Lib.hid hg;clear hg)
  go_ret2
  exact ⟨.inl ⟨by rw [← Hck.out];exact hc,by rw [← Hck.out];rfl⟩,HGw1.out.trans HG2.out⟩
end Go.Proofs.YtcnmaplopbbmaaaGreat
