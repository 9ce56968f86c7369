/- galliardref13.Labels by its contract. -/
import Derived.Test.YtcnmaplopbbmaaaGreatRFin
import Derived.Test.YtcnmaplopbbmaaaGreatMAv
namespace Go.Proofs.YtcnmaplopbbmaaaGreat
open Go.RowKit
theorem own_base {w:World} {B B' e sz n:Nat} {v:Value} {xs:List Value} (h:w.ownsRow B e sz v n xs) (hB:B'≤B):w.ownsRow B' e sz v n xs:=by
 refine ⟨h.1,?_⟩
 rcases h.2 with h0 | ⟨g,cap,cur,h1,h2,h3⟩
 ·exact .inl h0
 ·exact .inr ⟨g,cap,cur,h1,Nat.le_trans hB h2,h3⟩
namespace Gr
def labIs (a b m:Int) (n:Nd):Bool:=n.kind == 3 && ((n.fr == a && n.to == b && n.msg == m) || (n.fr == b && n.to == a && n.rep == m))
def G.isN (g:G) (a b m:Int) (k:Nat):Bool:=(g.ns.take k).any (labIs a b m)
def G.lm (g:G) (a b k:Nat):List Lb:=(List.range k).flatMap fun (m:Nat)=>if g.isN a b m g.ns.length then [((a:Int),(b:Int),(m:Int))] else []
def G.lb (g:G) (a k:Nat):List Lb:=(List.range k).flatMap fun b=>g.lm a b g.nm
def G.la (g:G) (k:Nat):List Lb:=(List.range k).flatMap fun a=>g.lb a g.np
def G.labels (g:G):List Lb:=g.la g.np
theorem range_flat {α:Type} (f:Nat→List α) (k:Nat):(List.range (k+1)).flatMap f=(List.range k).flatMap f++f k:=by
 rw [List.range_succ,List.flatMap_append]
 simp
theorem flat_bd {α:Type} (f:Nat→List α) (c:Nat) (h:∀ k,(f k).length≤c):∀ k,((List.range k).flatMap f).length≤k * c
 | 0=>by simp
 | k+1=>by rw [range_flat,List.length_append,Nat.succ_mul];have:=flat_bd f c h k;have:=h k;omega
theorem G.isN_step (g:G) (a b m:Int) (k:Nat) (hk:k < g.ns.length):g.isN a b m (k+1)=(g.isN a b m k || labIs a b m (g.ns.getD k nd0)):=by
 unfold G.isN
 rw [List.take_succ_eq_append_getElem hk,List.any_append,List.getD_eq_getElem?_getD,List.getElem?_eq_getElem hk]
 simp
theorem G.lm_len (g:G) (a b k:Nat):(g.lm a b k).length≤k:=by
 have:=flat_bd (fun (m:Nat)=>if g.isN a b m g.ns.length then [((a:Int),(b:Int),(m:Int))] else []) 1 (fun k=>by split <;> simp) k
 unfold G.lm
 omega
theorem G.lb_len (g:G) (a k:Nat):(g.lb a k).length≤k * g.nm:=flat_bd (fun b=>g.lm a b g.nm) g.nm (fun b=>g.lm_len a b g.nm) k
theorem G.la_len (g:G) (k:Nat):(g.la k).length≤k * (g.np * g.nm):=flat_bd (fun a=>g.lb a g.np) (g.np * g.nm) (fun a=>g.lb_len a g.np) k
end Gr
set_option maxRecDepth 100000 in
set_option maxHeartbeats 8000000 in
theorem rlabels_any (v0 v1 v2 v3:Value) (g:Gr.G) (W:World) (hf:g.Few) (hnp:g.np≤20) (hnm:g.nm≤1000) (h:Gr.GAt W v0 v1 v2 v3 g) :
  Calls Tryz.prog 37 #[.agg #[v0,v1,v2,v3]] W fun e w'=>(∃ v,e=.returned v∧w'.ownsRow W.heap.size 104 3 v g.labels.length (g.labels.flatMap Gr.lcells))∧Flow.Grow W w':=by
 obtain ⟨⟨a0,c0,rfl⟩,⟨a1,c1,rfl⟩,h2,h3⟩:=h
 have HN:=Lib.hid h2
 obtain ⟨an,cn,rfl⟩:=Gr.Recs.form h2
 clear h2 h3
 have hns:=hf.ns
 clear hf
 obtain ⟨LA,hLA⟩:∃ F:Nat→List Gr.Lb,F=g.la:=⟨_,rfl⟩
 obtain ⟨LB,hLB⟩:∃ F:Nat→Nat→List Gr.Lb,F=g.lb:=⟨_,rfl⟩
 obtain ⟨LM,hLM⟩:∃ F:Nat→Nat→Nat→List Gr.Lb,F=g.lm:=⟨_,rfl⟩
 obtain ⟨IS,hIS⟩:∃ F:Int→Int→Int→Nat→Bool,F=g.isN:=⟨_,rfl⟩
 have HA0:Hid (LA 0=[]):=Lib.hid (by rw [hLA];rfl)
 have HB0:Hid (∀ a,LB a 0=[]):=Lib.hid (by rw [hLB];intro a;rfl)
 have HM0:Hid (∀ a b,LM a b 0=[]):=Lib.hid (by rw [hLM];intro a b;rfl)
 have HI0:Hid (∀ a b m,IS a b m 0=false):=Lib.hid (by rw [hIS];intro a b m;rfl)
 have HA1:Hid (∀ k,LA (k+1)=LA k++LB k g.np):=Lib.hid (by rw [hLA,hLB];intro k;exact Gr.range_flat _ k)
 have HB1:Hid (∀ a k,LB a (k+1)=LB a k++LM a k g.nm):=Lib.hid (by rw [hLB,hLM];intro a k;exact Gr.range_flat _ k)
 have HM1:Hid (∀ a b k,LM a b (k+1)=LM a b k++if IS a b k g.ns.length then [((a:Int),(b:Int),(k:Int))] else []):=Lib.hid (by rw [hLM,hIS];intro a b k;exact Gr.range_flat _ k)
 have HI1:Hid (∀ a b m k,k < g.ns.length→IS a b m (k+1)=(IS a b m k || Gr.labIs a b m (g.ns.getD k Gr.nd0))):=Lib.hid (by rw [hIS];exact g.isN_step)
 have HAl:Hid (∀ k,k≤20→(LA k).length≤400000):=Lib.hid (by
  rw [hLA]
  intro k hk
  refine Nat.le_trans (g.la_len k) ?_
  have:g.np * g.nm≤20 * 1000:=Nat.mul_le_mul hnp hnm
  have:=Nat.mul_le_mul hk this
  omega)
 have HBl:Hid (∀ a k,k≤20→(LB a k).length≤20000):=Lib.hid (by
  rw [hLB]
  intro a k hk
  refine Nat.le_trans (g.lb_len a k) ?_
  have:=Nat.mul_le_mul hk hnm
  omega)
 have HMl:Hid (∀ a b k,(LM a b k).length≤k):=Lib.hid (by rw [hLM];exact g.lm_len)
 have HRes:Hid (g.labels=LA g.np):=Lib.hid (by rw [hLA];rfl)
 generalize g.labels=RES at *
 clear hLA hLB hLM hIS
 generalize hnpe:g.np=np at *
 generalize hnme:g.nm=nm at *
 generalize hnle:g.ns.length=nl at *
 have Hnl:=Lib.hid hnle
 clear hnle hnpe hnme
 obtain ⟨i0,hi0,hz0,hz1,hz2⟩:=info_parts info_lab
 have HI:=Lib.hid (And.intro hi0 (And.intro hz0 (And.intro hz1 hz2)))
 clear hi0 hz0 hz1 hz2
 go_enter Tryz.func37,Tryz.ntmps37
 go_upto_region 1 with fail
 have HBw10:Hid ((W.alloc (.cells #[.slice a0 np c0,.slice a1 nm c1,.slice an nl cn,v3] 27)).heap[W.heap.size]? = some (.cells #[.slice a0 np c0,.slice a1 nm c1,.slice an nl cn,v3] 27 (0,0))):=Lib.hid (lay1_0 _ _)
 have HGw1:Hid (Flow.Grow W (W.alloc (.cells #[.slice a0 np c0,.slice a1 nm c1,.slice an nl cn,v3] 27))):=Lib.hid (lay1_g _ _)
 have HSw1:Hid ((W.alloc (.cells #[.slice a0 np c0,.slice a1 nm c1,.slice an nl cn,v3] 27)).heap.size=W.heap.size+1):=Lib.hid (by simp)
 generalize W.alloc (.cells #[.slice a0 np c0,.slice a1 nm c1,.slice an nl cn,v3] 27)=w1 at *
 obtain ⟨X,hX⟩:∃ X,X=W.heap.size:=⟨_,rfl⟩
 rw [← hX] at HBw10 HSw1 ⊢
 have HXw1:=Lib.hid hX
 clear hX
 have CXw1:Hid (∀ wq,Flow.Grow w1 wq→wq.cell? ⟨X,0,none⟩=some (.slice a0 np c0)∧wq.cell? ⟨X,1,none⟩=some (.slice a1 nm c1)∧wq.cell? ⟨X,2,none⟩=some (.slice an nl cn)∧wq.cell? ⟨X,3,none⟩=some (v3)):=Lib.hid (fun wq g=>⟨lay_cell g HBw10.out rfl,lay_cell g HBw10.out rfl,lay_cell g HBw10.out rfl,lay_cell g HBw10.out rfl⟩)
 have FXw1:Hid (∀ wq,Flow.Grow w1 wq→(∀ k,wq.frozen? ⟨X,k,none⟩=false)):=Lib.hid (fun wq g=>fun k=>lay_frozen g HBw10.out k)
 go_wp2_with fail
 go_loopw [3,4] (fun vo vi wr=>∃ a:Nat,a≤np∧vi=.int .i64 a∧Hid (wr.ownsRow w1.heap.size 104 3 vo (LA a).length ((LA a).flatMap Gr.lcells))∧Hid (Flow.Grow w1 wr)) (fun _ vi _=>np - (intOf vi).toNat)
 case atStart=>exact ⟨0,by omega,rfl,Lib.hid (by rw [HA0.out];exact World.ownsRow_lit w1 #[] 0 (Nat.le_refl _) (by decide) rfl),Lib.hid (Flow.grow_alloc _ _)⟩
 case round =>
  obtain ⟨a,ha,rfl,HO,HG⟩:=hrel
  rename World=>wa
  obtain ⟨va,hva⟩:∃ va,va=u3:=⟨_,rfl⟩
  obtain ⟨oa,oc,hoa⟩:=own_form HO.out
  subst hoa
  clear hva
  obtain ⟨c00,c01,c02,c03⟩:=CXw1.out wa (HG.out)
  by_cases han:a < np
  ·have HLA:=HAl.out a (by omega)
   have HA2:=Lib.hid (HA1.out a)
   generalize LA a=TA at *
   go_wp2_with fail
   go_loopw [3,5] (fun vo vi wr=>∃ b:Nat,b≤np∧vi=.int .i64 b∧Hid (wr.ownsRow w1.heap.size 104 3 vo (TA++LB a b).length ((TA++LB a b).flatMap Gr.lcells))∧Hid (Flow.Grow w1 wr)) (fun _ vi _=>np - (intOf vi).toNat)
   case atStart=>exact ⟨0,by omega,rfl,Lib.hid (by rw [HB0.out,List.append_nil];exact HO.out),HG⟩
   case round =>
    obtain ⟨b,hb,rfl,HOb,HGb⟩:=hrel
    rename World=>wb
    obtain ⟨va,hva⟩:∃ va,va=u3:=⟨_,rfl⟩
    obtain ⟨oa,oc,hoa⟩:=own_form HOb.out
    subst hoa
    clear hva c00 c01 c02 c03
    obtain ⟨c00,c01,c02,c03⟩:=CXw1.out wb (HGb.out)
    by_cases hbn:b < np
    ·have HLB:=HBl.out a b (by omega)
     have HB2:=Lib.hid (HB1.out a b)
     have HTB:Hid (∀ y,TA++(LB a b++y)=(TA++LB a b)++y):=Lib.hid fun y=>(List.append_assoc _ _ _).symm
     have hTBl:(TA++LB a b).length≤420000:=by rw [List.length_append];omega
     obtain ⟨TB,hTB⟩:∃ TB,TB=TA++LB a b:=⟨_,rfl⟩
     rw [← hTB] at HTB HOb hTBl ⊢
     have HTBe:=Lib.hid hTB
     clear hTB
     go_wp2_with fail
     go_loopw [3,6] (fun vo vi wr=>∃ m:Nat,m≤nm∧vi=.int .i64 m∧Hid (wr.ownsRow w1.heap.size 104 3 vo (TB++LM a b m).length ((TB++LM a b m).flatMap Gr.lcells))∧Hid (Flow.Grow w1 wr)) (fun _ vi _=>nm - (intOf vi).toNat)
     case atStart=>exact ⟨0,by omega,rfl,Lib.hid (by rw [HM0.out,List.append_nil];exact HOb.out),HGb⟩
     case round =>
      obtain ⟨m,hm,rfl,HOm,HGm⟩:=hrel
      rename World=>wm
      obtain ⟨va,hva⟩:∃ va,va=u3:=⟨_,rfl⟩
      obtain ⟨oa,oc,hoa⟩:=own_form HOm.out
      subst hoa
      clear hva c00 c01 c02 c03
      obtain ⟨c00,c01,c02,c03⟩:=CXw1.out wm (HGm.out)
      by_cases hmn:m < nm
      ·have HLM:=HMl.out a b m
       have HM2:=Lib.hid (HM1.out a b m)
       have HTM:Hid (∀ y,TB++(LM a b m++y)=(TB++LM a b m)++y):=Lib.hid fun y=>(List.append_assoc _ _ _).symm
       have hTMl:(TB++LM a b m).length≤421000:=by rw [List.length_append];omega
       obtain ⟨TM,hTM⟩:∃ TM,TM=TB++LM a b m:=⟨_,rfl⟩
       rw [← hTM] at HTM HOm hTMl ⊢
       clear hTM
       have HI3:=Lib.hid (HI1.out a b m)
       have HI4:=Lib.hid (HI0.out a b m)
       generalize IS a b m=f at *
       go_wp2_with fail
       go_loopw [7,8] (fun vs vi wr=>∃ k:Nat,k≤nl∧vi=.int .i64 k∧vs=.bool (f k)∧Hid (Flow.Grow wm wr)) (fun _ vi _=>nl - (intOf vi).toNat)
       case atStart=>exact ⟨0,by omega,rfl,by rw [HI4.out],Lib.hid (Flow.grow_refl _)⟩
       case round =>
        obtain ⟨k,hk,rfl,rfl,HGk⟩:=hrel
        rename World=>wk
        clear c00 c01 c02 c03
        have HG1k:Hid (Flow.Grow w1 wk):=Lib.hid (HGm.out.trans HGk.out)
        obtain ⟨c00,c01,c02,c03⟩:=CXw1.out wk (HG1k.out)
        by_cases hkn:k < nl
        ·obtain ⟨nb,no,rfl,m0,m1,m2,m3,m4,m5,m6⟩:=Gr.NdsAt.at (Gr.Recs.grow HN.out (HGw1.out.trans HG1k.out)) (j:=k) (by rw [Hnl.out];exact hkn)
         have HI2:=Lib.hid (HI3.out k hkn)
         generalize g.ns.getD k Gr.nd0=Y at *
         obtain ⟨y0,y1,y2,y3,y4,y5,y6⟩:=Y
         simp only at m0 m1 m2 m3 m4 m5 m6
         have HI2':=HI2.out
         simp only [Gr.labIs] at HI2'
         replace HI2:=Lib.hid HI2'
         clear HI2'
         go_upto_region 16 with fail
         clear m0 m1 m2 m3 m4 m5 m6 c00 c01 c02 c03
         have HBw20:Hid ((wk.alloc (.cells #[.int .i64 y0,.string y1,.int .i64 y2,.int .i64 y3,.int .i64 y4,.int .i64 y5,.bool y6] 52)).heap[wk.heap.size]? = some (.cells #[.int .i64 y0,.string y1,.int .i64 y2,.int .i64 y3,.int .i64 y4,.int .i64 y5,.bool y6] 52 (0,0))):=Lib.hid (lay1_0 _ _)
         have HGw2:Hid (Flow.Grow wk (wk.alloc (.cells #[.int .i64 y0,.string y1,.int .i64 y2,.int .i64 y3,.int .i64 y4,.int .i64 y5,.bool y6] 52))):=Lib.hid (lay1_g _ _)
         have HSw2:Hid ((wk.alloc (.cells #[.int .i64 y0,.string y1,.int .i64 y2,.int .i64 y3,.int .i64 y4,.int .i64 y5,.bool y6] 52)).heap.size=wk.heap.size+1):=Lib.hid (by simp)
         generalize wk.alloc (.cells #[.int .i64 y0,.string y1,.int .i64 y2,.int .i64 y3,.int .i64 y4,.int .i64 y5,.bool y6] 52)=w2 at *
         obtain ⟨Z,hZ⟩:∃ X,X=wk.heap.size:=⟨_,rfl⟩
         rw [← hZ] at HBw20 HSw2 ⊢
         have HXw2:=Lib.hid hZ
         clear hZ
         have CXw2:Hid (∀ wq,Flow.Grow w2 wq→wq.cell? ⟨Z,0,none⟩=some (.int .i64 y0)∧wq.cell? ⟨Z,1,none⟩=some (.string y1)∧wq.cell? ⟨Z,2,none⟩=some (.int .i64 y2)∧wq.cell? ⟨Z,3,none⟩=some (.int .i64 y3)∧wq.cell? ⟨Z,4,none⟩=some (.int .i64 y4)∧wq.cell? ⟨Z,5,none⟩=some (.int .i64 y5)∧wq.cell? ⟨Z,6,none⟩=some (.bool y6)):=Lib.hid (fun wq g=>⟨lay_cell g HBw20.out rfl,lay_cell g HBw20.out rfl,lay_cell g HBw20.out rfl,lay_cell g HBw20.out rfl,lay_cell g HBw20.out rfl,lay_cell g HBw20.out rfl,lay_cell g HBw20.out rfl⟩)
         have FXw2:Hid (∀ wq,Flow.Grow w2 wq→(∀ k,wq.frozen? ⟨Z,k,none⟩=false)):=Lib.hid (fun wq g=>fun k=>lay_frozen g HBw20.out k)
         obtain ⟨n00,n01,n02,n03,n04,n05,n06⟩:=CXw2.out w2 (Flow.grow_refl _)
         have HGk2:Hid (Flow.Grow wk w2):=HGw2
         generalize f k=fk at *
         cases fk with
         | true =>
          have HE:Hid (f (k+1)=true):=Lib.hid (by rw [HI2.out];simp)
          go_wp2_with fail
          go_roundw
          case rel=>exact ⟨k+1,by omega,by go_num,by rw [HE.out],Lib.hid (HGk.out.trans HGw2.out)⟩
          case measure=>simp [intOf];omega
         | false =>
          by_cases h0:y0=3
          ·have d0:(y0 == 3)=true:=by simp [h0]
           clear h0
           by_cases h1:y2=(a:Int)
           ·have d1:(y2 == (a:Int))=true:=by simp [h1]
            clear h1
            by_cases h2:y3=(b:Int)
            ·have d2:(y3 == (b:Int))=true:=by simp [h2]
             clear h2
             by_cases h3:y4=(m:Int)
             ·have d3:(y4 == (m:Int))=true:=by simp [h3]
              clear h3
              have HE:Hid (f (k+1)=true):=Lib.hid (by rw [HI2.out];simp [d0,d1,d2,d3])
              go_wp2_with fail
              go_roundw
              case rel=>exact ⟨k+1,by omega,by go_num,by rw [HE.out],Lib.hid (HGk.out.trans HGw2.out)⟩
              case measure=>simp [intOf];omega
             ·have d3:(y4 == (m:Int))=false:=by simp [h3]
              clear h3
              by_cases h4:y2=(b:Int)
              ·have d4:(y2 == (b:Int))=true:=by simp [h4]
               clear h4
               by_cases h5:y3=(a:Int)
               ·have d5:(y3 == (a:Int))=true:=by simp [h5]
                clear h5
                by_cases h6:y5=(m:Int)
                ·have d6:(y5 == (m:Int))=true:=by simp [h6]
                 clear h6
                 have HE:Hid (f (k+1)=true):=Lib.hid (by rw [HI2.out];simp [d0,d1,d2,d3,d4,d5,d6])
                 go_wp2_with fail
                 go_roundw
                 case rel=>exact ⟨k+1,by omega,by go_num,by rw [HE.out],Lib.hid (HGk.out.trans HGw2.out)⟩
                 case measure=>simp [intOf];omega
                ·have d6:(y5 == (m:Int))=false:=by simp [h6]
                 clear h6
                 have HE:Hid (f (k+1)=false):=Lib.hid (by rw [HI2.out];simp [d0,d1,d2,d3,d4,d5,d6])
                 go_wp2_with fail
                 go_roundw
                 case rel=>exact ⟨k+1,by omega,by go_num,by rw [HE.out],Lib.hid (HGk.out.trans HGw2.out)⟩
                 case measure=>simp [intOf];omega
               ·have d5:(y3 == (a:Int))=false:=by simp [h5]
                clear h5
                have HE:Hid (f (k+1)=false):=Lib.hid (by rw [HI2.out];simp [d0,d1,d2,d3,d4,d5])
                go_wp2_with fail
                go_roundw
                case rel=>exact ⟨k+1,by omega,by go_num,by rw [HE.out],Lib.hid (HGk.out.trans HGw2.out)⟩
                case measure=>simp [intOf];omega
              ·have d4:(y2 == (b:Int))=false:=by simp [h4]
               clear h4
               have HE:Hid (f (k+1)=false):=Lib.hid (by rw [HI2.out];simp [d0,d1,d2,d3,d4])
               go_wp2_with fail
               go_roundw
               case rel=>exact ⟨k+1,by omega,by go_num,by rw [HE.out],Lib.hid (HGk.out.trans HGw2.out)⟩
               case measure=>simp [intOf];omega
            ·have d2:(y3 == (b:Int))=false:=by simp [h2]
             clear h2
             by_cases h4:y2=(b:Int)
             ·have d4:(y2 == (b:Int))=true:=by simp [h4]
              clear h4
              by_cases h5:y3=(a:Int)
              ·have d5:(y3 == (a:Int))=true:=by simp [h5]
               clear h5
               by_cases h6:y5=(m:Int)
               ·have d6:(y5 == (m:Int))=true:=by simp [h6]
                clear h6
                have HE:Hid (f (k+1)=true):=Lib.hid (by rw [HI2.out];simp [d0,d1,d2,d4,d5,d6])
                go_wp2_with fail
                go_roundw
                case rel=>exact ⟨k+1,by omega,by go_num,by rw [HE.out],Lib.hid (HGk.out.trans HGw2.out)⟩
                case measure=>simp [intOf];omega
               ·have d6:(y5 == (m:Int))=false:=by simp [h6]
                clear h6
                have HE:Hid (f (k+1)=false):=Lib.hid (by rw [HI2.out];simp [d0,d1,d2,d4,d5,d6])
                go_wp2_with fail
                go_roundw
                case rel=>exact ⟨k+1,by omega,by go_num,by rw [HE.out],Lib.hid (HGk.out.trans HGw2.out)⟩
                case measure=>simp [intOf];omega
              ·have d5:(y3 == (a:Int))=false:=by simp [h5]
               clear h5
               have HE:Hid (f (k+1)=false):=Lib.hid (by rw [HI2.out];simp [d0,d1,d2,d4,d5])
               go_wp2_with fail
               go_roundw
               case rel=>exact ⟨k+1,by omega,by go_num,by rw [HE.out],Lib.hid (HGk.out.trans HGw2.out)⟩
               case measure=>simp [intOf];omega
             ·have d4:(y2 == (b:Int))=false:=by simp [h4]
              clear h4
              have HE:Hid (f (k+1)=false):=Lib.hid (by rw [HI2.out];simp [d0,d1,d2,d4])
              go_wp2_with fail
              go_roundw
              case rel=>exact ⟨k+1,by omega,by go_num,by rw [HE.out],Lib.hid (HGk.out.trans HGw2.out)⟩
              case measure=>simp [intOf];omega
           ·have d1:(y2 == (a:Int))=false:=by simp [h1]
            clear h1
            by_cases h4:y2=(b:Int)
            ·have d4:(y2 == (b:Int))=true:=by simp [h4]
             clear h4
             by_cases h5:y3=(a:Int)
             ·have d5:(y3 == (a:Int))=true:=by simp [h5]
              clear h5
              by_cases h6:y5=(m:Int)
              ·have d6:(y5 == (m:Int))=true:=by simp [h6]
               clear h6
               have HE:Hid (f (k+1)=true):=Lib.hid (by rw [HI2.out];simp [d0,d1,d4,d5,d6])
               go_wp2_with fail
               go_roundw
               case rel=>exact ⟨k+1,by omega,by go_num,by rw [HE.out],Lib.hid (HGk.out.trans HGw2.out)⟩
               case measure=>simp [intOf];omega
              ·have d6:(y5 == (m:Int))=false:=by simp [h6]
               clear h6
               have HE:Hid (f (k+1)=false):=Lib.hid (by rw [HI2.out];simp [d0,d1,d4,d5,d6])
               go_wp2_with fail
               go_roundw
               case rel=>exact ⟨k+1,by omega,by go_num,by rw [HE.out],Lib.hid (HGk.out.trans HGw2.out)⟩
               case measure=>simp [intOf];omega
             ·have d5:(y3 == (a:Int))=false:=by simp [h5]
              clear h5
              have HE:Hid (f (k+1)=false):=Lib.hid (by rw [HI2.out];simp [d0,d1,d4,d5])
              go_wp2_with fail
              go_roundw
              case rel=>exact ⟨k+1,by omega,by go_num,by rw [HE.out],Lib.hid (HGk.out.trans HGw2.out)⟩
              case measure=>simp [intOf];omega
            ·have d4:(y2 == (b:Int))=false:=by simp [h4]
             clear h4
             have HE:Hid (f (k+1)=false):=Lib.hid (by rw [HI2.out];simp [d0,d1,d4])
             go_wp2_with fail
             go_roundw
             case rel=>exact ⟨k+1,by omega,by go_num,by rw [HE.out],Lib.hid (HGk.out.trans HGw2.out)⟩
             case measure=>simp [intOf];omega
          ·have d0:(y0 == 3)=false:=by simp [h0]
           clear h0
           have HE:Hid (f (k+1)=false):=Lib.hid (by rw [HI2.out];simp [d0])
           go_wp2_with fail
           go_roundw
           case rel=>exact ⟨k+1,by omega,by go_num,by rw [HE.out],Lib.hid (HGk.out.trans HGw2.out)⟩
           case measure=>simp [intOf];omega
        ·obtain rfl:k=nl:=by omega
         generalize f k=fk at *
         have HOk:=Lib.hid (own_keep HOm.out HGk.out)
         cases fk with
         | false =>
          have HE:Hid (TB++LM a b (m+1)=TM):=Lib.hid (by rw [HM2.out,HTM.out];simp)
          go_wp2_with fail
          go_roundw
          case rel=>exact ⟨m+1,by omega,by go_num,Lib.hid (by rw [HE.out];exact HOk.out),HG1k⟩
          case measure=>simp [intOf];omega
         | true =>
          have HE:Hid (TB++LM a b (m+1)=TM++[((a:Int),(b:Int),(m:Int))]):=Lib.hid (by rw [HM2.out,HTM.out];simp)
          go_wp2_with (at_builtin;refine wpList_app1 (W:=w1) rfl _ _ 35 rfl 104 i0 (.agg #[.int .i64 0,.int .i64 0,.int .i64 0]) 3 24 Tryz.underlying35 HI.out.1 HI.out.2.1 HI.out.2.2.1 HI.out.2.2.2 rfl (by decide) _ TM.length (TM.flatMap Gr.lcells) rfl (own_keep HOk.out (Flow.grow_alloc _ _)) (HG1k.out.trans (Flow.grow_alloc _ _)) _ #[.int .i64 (a:Int),.int .i64 (b:Int),.int .i64 (m:Int)] 104 rfl (heap_alloc_new _ _) rfl (by intro u hu;simp at hu;rcases hu with rfl | rfl | rfl <;> rfl) (by omega) (by decide) ?_;intro v' w' hO hG hf hby;have HO2:=Lib.hid hO;have HG2:=Lib.hid hG;obtain ⟨g',c',rfl,_⟩:=hf;clear hO hG hby)
          go_roundw
          case rel=>exact ⟨m+1,by omega,by go_num,Lib.hid (by rw [HE.out,List.length_append,List.flatMap_append];exact HO2.out),HG2⟩
          case measure=>simp [intOf];omega
      ·obtain rfl:m=nm:=by omega
       have HE:Hid (TA++LB a (b+1)=TB++LM a b m):=Lib.hid (by rw [HB2.out,HTBe.out,List.append_assoc])
       go_wp2_with fail
       go_roundw
       case rel=>exact ⟨b+1,by omega,by go_num,Lib.hid (by rw [HE.out];exact HOm.out),HGm⟩
       case measure=>simp [intOf];omega
    ·obtain rfl:b=np:=by omega
     go_wp2_with fail
     go_roundw
     case rel=>exact ⟨a+1,by omega,by go_num,Lib.hid (by rw [HA2.out];exact HOb.out),HGb⟩
     case measure=>simp [intOf];omega
  ·obtain rfl:a=np:=by omega
   go_wp2_with fail
   go_ret
   exact ⟨⟨_,rfl,by rw [HRes.out];exact own_base HO.out HGw1.out.size⟩,HGw1.out.trans HG.out⟩
end Go.Proofs.YtcnmaplopbbmaaaGreat
