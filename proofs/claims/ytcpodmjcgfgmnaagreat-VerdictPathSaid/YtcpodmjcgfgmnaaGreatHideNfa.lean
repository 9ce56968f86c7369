/- hide.Nfa by its contract. -/
import Derived.Test.YtcpodmjcgfgmnaaGreatMNfa
namespace Go.Proofs.YtcpodmjcgfgmnaaGreat
open Go.RowKit
namespace Pr
def Below (K:Nat) (rows:List (List (Int × Int))):Prop:=∀ r∈rows,∀ m∈r,-1≤m.1∧m.1 < K
end Pr
set_option maxRecDepth 100000 in
set_option maxHeartbeats 2000000 in
theorem Qqq (L S part:Int) (vF vN vL:Value) (fin:List Bool) (rows:List (List Int)) (ls:List Pr.Lb) (W:World) (hf0:fin≠[]) (hf1:fin.length≤1000000) (hr1:rows.length≤1000000) (mx:Nat) (hmx:mx≤1000000) (hr2:∀ r∈rows,r.length≤mx) (hF:Bools W vF fin) (hN:Rows2 W vN rows) (hn:ls.length≤1000000) (hL:Pr.LsAt W vL ls) :
  Calls Tryz.prog 36 #[.agg #[.int .i64 L,.int .i64 S,vF,vN],vL,.int .i64 part] W fun e w'=>(∃ vf vm vs rs,e=.returned (.agg #[.int .i64 ((Pr.acts part ls ls.length).length:Nat),.int .i64 S,vf,vm])∧Pr.NfaSt w' W.heap.size vf vm fin rs vs∧rs.length=rows.length∧(∀ r∈rs,r.length≤mx)∧Pr.Below (Pr.acts part ls ls.length).length rs)∧Flow.Grow W w':=by
 have HF:=Lib.hid hF;have HN:=Lib.hid hN;have HL:=Lib.hid hL;have HR2:=Lib.hid hr2;obtain ⟨af,cf,rfl,_⟩:=id hF;obtain ⟨an,cn,rfl⟩:=hN.val;obtain ⟨al,cl,rfl,_⟩:=id hL;clear hF hN hr2 hL;obtain ⟨n,hn'⟩:∃ n,n=rows.length:=⟨_,rfl⟩;obtain ⟨k,hk⟩:∃ k,k=fin.length:=⟨_,rfl⟩;obtain ⟨p,hp⟩:∃ p,p=ls.length:=⟨_,rfl⟩;obtain ⟨K,hK⟩:∃ K,K=(Pr.acts part ls ls.length).length:=⟨_,rfl⟩;have Hn:=Lib.hid hn';have Hk:=Lib.hid hk;have Hp:=Lib.hid hp;have HK:=Lib.hid hK;have hK1:K≤1000000:=by have:=Pr.acts_len part ls ls.length;omega
 rw [← hn'] at hr1 HN ⊢;rw [← hk] at hf1 HF ⊢;rw [← hK];rw [← hp] at hn HL ⊢;clear hn' hk hp hK;go_enter Tryz.func36,Tryz.ntmps36;have HB0:Hid (((W.alloc (.cells #[.int .i64 L,.int .i64 S,.slice af k cf,.slice an n cn] 27)).alloc (.cells #[.int .i64 0,.int .i64 0,.slice none 0 0,.slice none 0 0] 99)).heap[W.heap.size]?=some (.cells #[.int .i64 L,.int .i64 S,.slice af k cf,.slice an n cn] 27 (0,0))):=Lib.hid (by
  rw [Below.heap_alloc _ _ _ (by simp)];exact heap_alloc_new _ _)
 have HR0:Hid (((W.alloc (.cells #[.int .i64 L,.int .i64 S,.slice af k cf,.slice an n cn] 27)).alloc (.cells #[.int .i64 0,.int .i64 0,.slice none 0 0,.slice none 0 0] 99)).heap[W.heap.size+1]?=some (.cells #[.int .i64 0,.int .i64 0,.slice none 0 0,.slice none 0 0] 99 (0,0))):=Lib.hid (Qbl _ _ _);have HG0:Hid (Flow.Grow W ((W.alloc (.cells #[.int .i64 L,.int .i64 S,.slice af k cf,.slice an n cn] 27)).alloc (.cells #[.int .i64 0,.int .i64 0,.slice none 0 0,.slice none 0 0] 99))):=Lib.hid ((Flow.grow_alloc _ _).trans (Flow.grow_alloc _ _));have HZ0:Hid (((W.alloc (.cells #[.int .i64 L,.int .i64 S,.slice af k cf,.slice an n cn] 27)).alloc (.cells #[.int .i64 0,.int .i64 0,.slice none 0 0,.slice none 0 0] 99)).heap.size=W.heap.size+2):=Lib.hid (by simp);go_upto_region 1 with fail;generalize (W.alloc (.cells #[.int .i64 L,.int .i64 S,.slice af k cf,.slice an n cn] 27)).alloc (.cells #[.int .i64 0,.int .i64 0,.slice none 0 0,.slice none 0 0] 99)=w2 at *;have CX:Hid (∀ wq,Flow.Grow w2 wq→wq.cell? ⟨W.heap.size,0,none⟩=some (.int .i64 L)∧wq.cell? ⟨W.heap.size,1,none⟩=some (.int .i64 S)∧wq.cell? ⟨W.heap.size,2,none⟩=some (.slice af k cf)∧wq.cell? ⟨W.heap.size,3,none⟩=some (.slice an n cn)):=Lib.hid (fun wq g=>by
  have hb:wq.heap[W.heap.size]?=_:=(g.block _ (by have:=HZ0.out;omega) (by simp)).trans HB0.out;exact ⟨(cell_of_row wq _ 0 _ _ _ hb).trans rfl,(cell_of_row wq _ 1 _ _ _ hb).trans rfl,(cell_of_row wq _ 2 _ _ _ hb).trans rfl,(cell_of_row wq _ 3 _ _ _ hb).trans rfl⟩)
 go_upto_region 2 with (go_at_call 37;refine (Qnb _ part ls w2 (by rw [← Hp.out];exact hn) (HL.out.grow HG0.out)).mono ?_;rintro e w3 ⟨⟨va,rfl,ho⟩,hg⟩;obtain ⟨aa,ac,rfl⟩:=Qah ho;have HO:=Lib.hid ho;have HG3:=Lib.hid hg;clear ho hg;obtain ⟨d0,d1,d2,d3⟩:=CX.out w3 HG3.out);rw [← HK.out] at HO ⊢;go_upto_region 3 with (go_at_call 58;refine (Que L S _ _ fin rows w3 hf0 (by rw [← Hk.out];exact hf1) (by rw [← Hn.out];exact hr1) (fun r hr=>Nat.le_trans (HR2.out r hr) hmx) (HF.out.grow (HG0.out.trans HG3.out)) (HN.out.grow (HG0.out.trans HG3.out))).mono ?_;rintro e w4 ⟨⟨vf,vm,vs,rfl,hs⟩,hg⟩;obtain ⟨fa,fc,hvf⟩:=Qah hs.finals;obtain ⟨ma,mc,hvm⟩:=Qah hs.moves;rw [List.length_map,← Hn.out] at hvm;rw [← Hk.out] at hvf;subst hvf hvm;have HS:=Lib.hid hs;have HG4:=Lib.hid hg;clear hs hg);have HO4:=Lib.hid (Qab HO.out HG4.out);go_upto_region 4 with fail;have HBN:Hid ((w4.alloc (.cells #[.int .i64 K,.int .i64 S,.slice fa k fc,.slice ma n mc] 99)).heap[w4.heap.size]?=some (.cells #[.int .i64 K,.int .i64 S,.slice fa k fc,.slice ma n mc] 99 (0,0))):=Lib.hid (heap_alloc_new _ _);have HS5:=Lib.hid (HS.out.grow (Flow.grow_alloc w4 (.cells #[.int .i64 K,.int .i64 S,.slice fa k fc,.slice ma n mc] 99)));have HG5:=Lib.hid (HG4.out.trans (Flow.grow_alloc w4 (.cells #[.int .i64 K,.int .i64 S,.slice fa k fc,.slice ma n mc] 99)));have HO5:=Lib.hid (Qab HO4.out (Flow.grow_alloc w4 (.cells #[.int .i64 K,.int .i64 S,.slice fa k fc,.slice ma n mc] 99)));have hN4:w3.heap.size≤w4.heap.size:=HG4.out.size;generalize w4.alloc (.cells #[.int .i64 K,.int .i64 S,.slice fa k fc,.slice ma n mc] 99)=w5 at *;obtain ⟨N,hN⟩:∃ N,N=w4.heap.size:=⟨_,rfl⟩;rw [← hN] at hN4 HBN ⊢;clear hN HO4 HS HG4 d0 d1 d2 d3 CX HB0 HL HN HF;have qn:w5.cell? ⟨N,3,none⟩=some (.slice ma n mc):=(cell_of_row w5 _ 3 _ _ _ HBN.out).trans rfl;obtain ⟨r0,hr0⟩:∃ r0,r0=rows.map Pr.rowM:=⟨_,rfl⟩;have hl0:r0.length=n:=by rw [hr0,List.length_map,Hn.out]
 have hb0:∀ r∈r0,r.length≤mx:=by
  intro r hr;rw [hr0] at hr;obtain ⟨x,hx,rfl⟩:=List.mem_map.1 hr;have:=Pr.mvs_len x x.length;have:=HR2.out x hx;rw [Pr.rowM];omega
 rw [← hr0] at HS5;have Hb0:=Lib.hid hb0;clear hr0 hb0;go_wp2_with fail;clear qn;go_loopw [23] (fun i wr=>∃ (j:Nat) (rs:List (List (Int × Int))),j≤n∧i=.int .i64 j∧Hid (Pr.NfaSt wr w3.heap.size (.slice fa k fc) (.slice ma n mc) fin rs vs)∧Hid (rs.length=n)∧Hid (∀ r∈rs,r.length≤mx)∧Hid (∀ q,q < j→∀ m∈rs.getD q [],-1≤m.1∧m.1 < K)∧Hid (wr.heap[N]?=some (.cells #[.int .i64 K,.int .i64 S,.slice fa k fc,.slice ma n mc] 99 (0,0)))∧Hid (Flow.Grow w3 wr)) (fun i _=>n - (intOf i).toNat)
 case atStart=>exact ⟨0,r0,by omega,rfl,HS5,Lib.hid hl0,Hb0,Lib.hid (fun q hq=>by omega),HBN,HG5⟩
 case round =>
  clear HS5 Hb0 HBN HG5 HO5 hl0;obtain ⟨j,rs,hj,rfl,HS,HL,HB,HD,HN,HG⟩:=hrel
  rename World=>wr
  by_cases hjn:j < n
  ·have hN:=HN.out;have q3:wr.cell? ⟨N,3,none⟩=some (.slice ma n mc):=(cell_of_row wr _ 3 _ _ _ hN).trans rfl;clear hN;obtain ⟨gm,hgm⟩:∃ gm,ma=some ⟨gm,0,none⟩:=by
    rcases HS.out.moves.2 with ⟨h1,h2⟩ | ⟨g,cap,cur,h1,_⟩
    ·injection h1 with h1 h3 h4;omega
    ·injection h1 with h1;exact ⟨g,h1⟩
   subst hgm;obtain ⟨m,hm⟩:∃ m,m=(rs.getD j []).length:=⟨_,rfl⟩;have Hm:=Lib.hid hm;have hrow:=HS.out.row j (by rw [HL.out];exact hjn);rw [← hm] at hrow;obtain ⟨ra,rc,hva⟩:=Qah hrow;have hvj:wr.cell? ⟨gm,j,none⟩=some (.slice ra m rc):=by
    have:=HS.out.moves;rw [HL.out] at this;rw [this.cellAt j (by omega),← hva];have h5:j < vs.length:=by rw [HS.out.len,HL.out];exact hjn
    simp [h5]
   have Hva:=Lib.hid hva;have Hvj:=Lib.hid hvj;have hm6:m≤1000000:=by
    rw [hm];refine Nat.le_trans (HB.out _ ?_) hmx;have h5:j < rs.length:=by rw [HL.out];exact hjn
    rw [List.getD_eq_getElem?_getD,List.getElem?_eq_getElem h5];exact List.getElem_mem h5
   clear hva hrow hm;go_wp2_with fail;clear q3 hvj Hvj;go_loopw [32] (fun i wi=>∃ (c:Nat) (r1:List (List (Int × Int))),c≤m∧i=.int .i64 c∧Hid (Pr.NfaSt wi w3.heap.size (.slice fa k fc) (.slice (some ⟨gm,0,none⟩) n mc) fin r1 vs)∧Hid (r1.length=n)∧Hid ((r1.getD j []).length=m)∧Hid (∀ r∈r1,r.length≤mx)∧Hid (∀ q,q < j→∀ m∈r1.getD q [],-1≤m.1∧m.1 < K) ∧
    Hid (∀ q,q < c→-1≤((r1.getD j []).getD q (0,0)).1∧((r1.getD j []).getD q (0,0)).1 < K)∧Hid (wi.heap[N]?=some (.cells #[.int .i64 K,.int .i64 S,.slice fa k fc,.slice (some ⟨gm,0,none⟩) n mc] 99 (0,0)))∧Hid (Flow.Grow w3 wi)) (fun i _=>m - (intOf i).toNat)
   case atStart=>exact ⟨0,rs,by omega,rfl,HS,HL,Lib.hid Hm.out.symm,HB,HD,Lib.hid (fun q hq=>by omega),HN,HG⟩
   case round =>
    clear HS HL Hm HB HD HN HG;obtain ⟨c,r1,hc,rfl,HS,HL,Hm,HB,HD,HC,HN,HG⟩:=hrel
    rename World=>wi
    by_cases hcm:c < m
    ·have CY:Hid (∀ wq,Flow.Grow wi wq→wq.cell? ⟨N,3,none⟩=some (.slice (some ⟨gm,0,none⟩) n mc)∧wq.cell? ⟨gm,j,none⟩=some (.slice ra m rc)):=Lib.hid (fun wq g=>by
      have hN:=(g.block _ (Array.getElem?_eq_some_iff.1 HN.out).1 (by simp)).trans HN.out;refine ⟨(cell_of_row wq _ 3 _ _ _ hN).trans rfl,Xm2.cell_grow g ?_⟩;have h6:=HS.out.moves;rw [HL.out] at h6;rw [h6.cellAt j (by omega),← Hva.out];have h5:j < vs.length:=by rw [HS.out.len,HL.out];exact hjn
      simp [h5])
     have hrow:=HS.out.row j (by rw [HL.out];exact hjn);rw [Hm.out,Hva.out] at hrow;obtain ⟨g,hra⟩:∃ g,ra=some ⟨g,0,none⟩:=by
      rcases hrow.2 with ⟨h1,h2⟩ | ⟨g,cap,cur,h1,_⟩
      ·omega
      ·injection h1 with h1;exact ⟨g,h1⟩
     subst hra;obtain ⟨cs,hcs⟩:∃ cs,wi.heap[g]?=some (.cells cs 131 (0,0)):=by
      rcases hrow.2 with ⟨h1,_⟩ | ⟨_,_,cur,h1,_,h2,_⟩
      ·cases h1
      ·cases h1;exact ⟨cur,h2⟩
     have hg3:w3.heap.size≤g:=(hrow.lt g rfl).1;obtain ⟨z0,z1⟩:=Pr.flat2_get (r1.getD j []) c (by rw [Hm.out];exact hcm);have y0:wi.cell? ⟨g,c * 2,none⟩=some (.int .i64 ((r1.getD j []).getD c (0,0)).1):=by rw [hrow.cellAt (c * 2) (by omega)];exact z0
     have y1:wi.cell? ⟨g,c * 2+1,none⟩=some (.int .i64 ((r1.getD j []).getD c (0,0)).2):=by rw [hrow.cellAt (c * 2+1) (by omega)];exact z1
     have Hcs:=Lib.hid hcs;have Y0:=Lib.hid y0;generalize hxe:(r1.getD j []).getD c (0,0)=x at *;have Hx:=Lib.hid hxe;clear hxe;obtain ⟨x0,x1⟩:=x;simp only at y0 y1 Y0;clear z0 z1 hcs hrow;have HO':=Lib.hid ((Seg.of_own HO.out).grow HG.out);go_upto_region 10 with fail;clear y0 y1;obtain ⟨Q,hQ⟩:∃ Q,Q=wi.heap.size:=⟨_,rfl⟩;have HQ0:Hid ((wi.alloc (.cells #[.int .i64 x0,.int .i64 x1] 131)).heap[wi.heap.size]?=some (.cells #[.int .i64 x0,.int .i64 x1] 131 (0,0))):=Lib.hid (heap_alloc_new _ _);have HG6:Hid (Flow.Grow wi (wi.alloc (.cells #[.int .i64 x0,.int .i64 x1] 131))):=Lib.hid (Flow.grow_alloc _ _);generalize wi.alloc (.cells #[.int .i64 x0,.int .i64 x1] 131)=w6 at *;rw [← hQ] at HQ0 ⊢;clear hQ;have HIX:Hid (∀ wq,Flow.Grow w6 wq→Calls Tryz.prog 59 #[.slice aa K ac,.func (.func 60) #[] #[.pointer (some ⟨Q,0,none⟩)]] wq fun e w'=>(∃ z:Int,e=.returned (.int .i64 z)∧-1≤z∧z < K)∧Flow.Grow wq w'):=Lib.hid (fun wq g=>by
      have:=Qwk (.slice aa K ac) (Pr.acts part ls ls.length) (by rw [← HK.out];exact hK1) Q x0 wq ((cell_of_row wq _ 0 _ _ _ ((g.block _ (Array.getElem?_eq_some_iff.1 HQ0.out).1 (by simp)).trans HQ0.out)).trans rfl) (by rw [← HK.out];exact (HO'.out.grow HG6.out).grow g);rw [← HK.out] at this;exact this)
     have HNg:Hid (N≠g):=Lib.hid (by
      intro e2;have h1:=HN.out;have h2:=Hcs.out;rw [e2,h2] at h1;injection h1 with h1;injection h1 with _ h1 _;exact absurd h1 (by decide))
     have HMg:Hid (gm≠g):=Lib.hid (by
      intro e2;exact Qan HS.out.moves Hcs.out (by decide) (by rw [← e2];rfl))
     have CY2:Hid (∀ wq,Flow.Grow wi wq→∀ (q:Nat) (u:Value),(wq.setCell ⟨g,q,none⟩ u).cell? ⟨N,3,none⟩=some (.slice (some ⟨gm,0,none⟩) n mc)∧(wq.setCell ⟨g,q,none⟩ u).cell? ⟨gm,j,none⟩=some (.slice (some ⟨g,0,none⟩) m rc)):=Lib.hid (fun wq h q u=>by
      obtain ⟨h1,h2⟩:=CY.out wq h;exact ⟨(World.cell?_of_block (Below.heap_setCell _ _ _ _ HNg.out)).trans h1,(World.cell?_of_block (Below.heap_setCell _ _ _ _ HMg.out)).trans h2⟩)
     have hjI:(j:Int) < (n:Int):=by omega
     have hj0:(0:Int)≤(j:Int):=by omega
     have hcI:(c:Int) < (m:Int):=by omega
     have hc0:(0:Int)≤(c:Int):=by omega
     go_region_held3 (fun w'=>w'.cell? ⟨N,3,none⟩=some (.slice (some ⟨gm,0,none⟩) n mc)∧w'.cell? ⟨gm,j,none⟩=some (.slice (some ⟨g,0,none⟩) m rc))
      (first
        | exact CY.out _ HG6.out
        | exact CY.out _ (HG6.out.trans (Flow.grow_drew _))
        | exact CY.out _ hgx.out
        | exact CY2.out _ hgx.out _ _)
      (first | (go_at_call 59;refine (HIX.out _ (Flow.grow_drew _)).mono ?_;rintro e w7 ⟨⟨z,rfl,hz1,hz2⟩,hg⟩;have hgx:=Lib.hid ((HG6.out.trans (Flow.grow_drew _)).trans hg);have hcx:w7.cell? ⟨g,c * 2,none⟩=some (.int .i64 x0):=Xm2.cell_grow hgx.out Y0.out;have hfx:w7.frozen? ⟨g,c * 2,none⟩=false:=frozen_of_row w7 _ _ _ _ ((hgx.out.block _ (Array.getElem?_eq_some_iff.1 Hcs.out).1 (by simp)).trans Hcs.out);clear hg))
     have hrj:j < r1.length:=by rw [HL.out];exact hjn
     have HSP:=Lib.hid (((HS.out.grow hgx.out).put z hrj Hva.out (by rw [Hm.out];exact hcm)));rw [Hx.out] at HSP;have HGP:=Lib.hid (Qag (HG.out.trans hgx.out) hg3 (c * 2) (.int .i64 z));have HNP:Hid ((w7.setCell ⟨g,c * 2,none⟩ (.int .i64 z)).heap[N]?=some (.cells #[.int .i64 K,.int .i64 S,.slice fa k fc,.slice (some ⟨gm,0,none⟩) n mc] 99 (0,0))):=Lib.hid (by
      rw [Below.heap_setCell _ _ _ _ HNg.out];exact (hgx.out.block _ (Array.getElem?_eq_some_iff.1 HN.out).1 (by simp)).trans HN.out)
     have hsj:(r1.set j ((r1.getD j []).set c (z,x1))).getD j []=(r1.getD j []).set c (z,x1):=by
      rw [List.getD_eq_getElem?_getD,List.getElem?_set_self hrj];rfl
     have hso:∀ q,q≠j→(r1.set j ((r1.getD j []).set c (z,x1))).getD q []=r1.getD q []:=fun q hq=>by
      rw [List.getD_eq_getElem?_getD,List.getElem?_set_ne (by omega),← List.getD_eq_getElem?_getD]
     have Hsj:=Lib.hid hsj;have Hso:=Lib.hid hso;have Hrj:=Lib.hid hrj;clear hsj hso hrj;go_wp2_with fail;go_roundw
     case rel =>
      refine ⟨c+1,r1.set j ((r1.getD j []).set c (z,x1)),by omega,by go_num,HSP,Lib.hid (by rw [List.length_set];exact HL.out),Lib.hid (by rw [Hsj.out,List.length_set];exact Hm.out),Lib.hid ?_,Lib.hid ?_,Lib.hid ?_,HNP,HGP⟩
      ·intro r hr;rcases List.mem_or_eq_of_mem_set hr with h | rfl
       ·exact HB.out r h
       ·rw [List.length_set];refine HB.out _ ?_;rw [List.getD_eq_getElem?_getD,List.getElem?_eq_getElem Hrj.out];exact List.getElem_mem Hrj.out
      ·intro q hq y hy;rw [Hso.out q (by omega)] at hy;exact HD.out q hq y hy
      ·intro q hq;rw [Hsj.out];by_cases e:q=c
       ·subst e;rw [List.getD_eq_getElem?_getD,List.getElem?_set_self (by rw [Hm.out];exact hcm)];exact ⟨hz1,hz2⟩
       ·rw [List.getD_eq_getElem?_getD,List.getElem?_set_ne (by omega),← List.getD_eq_getElem?_getD];exact HC.out q (by omega)
     case measure=>simp [intOf];omega
    ·obtain rfl:c=m:=by omega
     go_wp2_with fail;go_roundw
     case rel =>
      refine ⟨j+1,r1,by omega,by go_num,HS,HL,HB,Lib.hid ?_,HN,HG⟩;intro q hq y hy;by_cases e:q < j
      ·exact HD.out q e y hy
      ·obtain rfl:q=j:=by omega
       obtain ⟨t,ht,rfl⟩:=List.getElem_of_mem hy;have:=HC.out t (by rw [← Hm.out];exact ht);rw [List.getD_eq_getElem?_getD,List.getElem?_eq_getElem ht] at this;exact this
     case measure=>simp [intOf];omega
  ·obtain rfl:j=n:=by omega
   have hb:=HN.out;have q0:wr.cell? ⟨N,0,none⟩=_:=(cell_of_row wr _ 0 _ _ _ hb).trans rfl;have q1:wr.cell? ⟨N,1,none⟩=_:=(cell_of_row wr _ 1 _ _ _ hb).trans rfl;have q2:wr.cell? ⟨N,2,none⟩=_:=(cell_of_row wr _ 2 _ _ _ hb).trans rfl;have q3:wr.cell? ⟨N,3,none⟩=_:=(cell_of_row wr _ 3 _ _ _ hb).trans rfl;have hx:wr.heap[W.heap.size+1]?=_:=((HG3.out.trans HG.out).block _ (by have:=HZ0.out;omega) (by simp)).trans HR0.out;have HX:=Lib.hid hx;have x0:wr.cell? ⟨W.heap.size+1,0,none⟩=_:=(cell_of_row wr _ 0 _ _ _ hx).trans rfl;have x1:wr.cell? ⟨W.heap.size+1,1,none⟩=_:=(cell_of_row wr _ 1 _ _ _ hx).trans rfl;have x2:wr.cell? ⟨W.heap.size+1,2,none⟩=_:=(cell_of_row wr _ 2 _ _ _ hx).trans rfl;have x3:wr.cell? ⟨W.heap.size+1,3,none⟩=_:=(cell_of_row wr _ 3 _ _ _ hx).trans rfl;have f0:wr.frozen? ⟨W.heap.size+1,0,none⟩=false:=frozen_of_row wr _ _ _ _ hx;have f1:wr.frozen? ⟨W.heap.size+1,1,none⟩=false:=frozen_of_row wr _ _ _ _ hx;have f2:wr.frozen? ⟨W.heap.size+1,2,none⟩=false:=frozen_of_row wr _ _ _ _ hx;have f3:wr.frozen? ⟨W.heap.size+1,3,none⟩=false:=frozen_of_row wr _ _ _ _ hx;clear hb hx;have hB3:W.heap.size≤w3.heap.size:=(HG0.out.trans HG3.out).size;have Hend:Hid (_∧_∧_):=Lib.hid (And.intro (set4 (.int .i64 K) (.int .i64 S) (.slice fa k fc) (.slice ma j mc) HX.out) (And.intro (((HS.out.mono hB3).set4 (.int .i64 K) (.int .i64 S) (.slice fa k fc) (.slice ma j mc) HX.out (by decide) (by decide) (by decide)))
    (Qag (Qag (Qag (Qag ((HG0.out.trans HG3.out).trans HG.out) (g:=W.heap.size+1) (by omega) 0 (.int .i64 K)) (g:=W.heap.size+1) (by omega) 1 (.int .i64 S)) (g:=W.heap.size+1) (by omega) 2 (.slice fa k fc)) (g:=W.heap.size+1) (by omega) 3 (.slice ma j mc))))
   have hres:∀ (tm:Array Value),tm.getD 6 undef=.pointer (some ⟨W.heap.size+1,0,none⟩)→(results Tryz.f36 tm).run Tryz.prog _=_:=fun tm htm=>results_cell_row (by kernel_rfl) tm _ (W.heap.size+1) _ _ _ _ htm Hend.out.1 Tryz.underlying99 rfl (by kernel_rfl);have Hres:=Lib.hid hres;clear hres;go_wp2_with fail;refine bodyPost_ret (Hres.out _ rfl) rfl ?_;refine ⟨⟨_,_,_,rs,rfl,Hend.out.2.1,HL.out,HB.out,?_⟩,Hend.out.2.2⟩;intro r hr y hy;obtain ⟨t,ht,rfl⟩:=List.getElem_of_mem hr;refine HD.out t (by rw [← HL.out];exact ht) y ?_;rw [List.getD_eq_getElem?_getD,List.getElem?_eq_getElem ht];exact hy
end Go.Proofs.YtcpodmjcgfgmnaaGreat
