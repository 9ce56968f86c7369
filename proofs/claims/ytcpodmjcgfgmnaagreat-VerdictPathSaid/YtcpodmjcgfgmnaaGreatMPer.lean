/- mini.Least by its contract. -/
import Derived.Test.YtcpodmjcgfgmnaaGreatMMin
import Derived.Test.YtcpodmjcgfgmnaaGreatMDet
import Derived.Test.YtcpodmjcgfgmnaaGreatMEps
namespace Go.Proofs.YtcpodmjcgfgmnaaGreat
open Go.RowKit Go.Maps
theorem Qjh (tmps:Array Value) (w:World) (X:Nat) (c0 c1 c2 c3 v:Value) (h2:tmps.getD 2 undef=.pointer (some ⟨X,0,none⟩)) (h3:tmps.getD 3 undef=v) (hx:w.heap[X]?=some (.cells #[c0,c1,c2,c3] 27 (0,0))) :
  (results Tryz.f35 tmps).run Tryz.prog w=.ok (.tuple #[.agg #[c0,c1,c2,c3],v]) w:=by
 have x0:=(cell_of_row w X 0 _ _ _ hx).trans rfl;have x1:=(cell_of_row w X 1 _ _ _ hx).trans rfl;have x2:=(cell_of_row w X 2 _ _ _ hx).trans rfl;have x3:=(cell_of_row w X 3 _ _ _ hx).trans rfl;simp at x0 x1 x2 x3;simp only [Array.getD_eq_getD_getElem?] at h2 h3;simp [results,Tryz.results35,h2,h3,x0,x1,x2,x3,go_sem]
theorem DfaAt.parts {w:World} {L S:Int} {vf vn:Value} {fin:List Bool} {rows:List (List Int)} (h:DfaAt w #[.int .i64 L,.int .i64 S,vf,vn] L S fin rows):Bools w vf fin∧Rows2 w vn rows:=by
 obtain ⟨vf',vn',h1,h2,h3⟩:=h.cells;simp only [Array.mk.injEq,List.cons.injEq,true_and,and_true] at h1;obtain ⟨rfl,rfl⟩:=h1;exact ⟨h2,h3⟩
set_option maxRecDepth 100000 in
set_option maxHeartbeats 4000000 in
theorem Qwa (K S:Nat) (vf vm:Value) (fin:List Bool) (rows:List (List (Int × Int))) (W:World) (hK:K≤100) (h1:1≤rows.length) (hr1:rows.length≤100) (hfn:fin.length=rows.length) (hr2:∀ r∈rows,r.length≤100) (hS:S < rows.length) (hB:Pr.Below K rows) (hf:Bools W vf fin) (hv:Pr.RowsM W vm rows) :
  Calls Tryz.prog 35 #[.agg #[.int .i64 K,.int .i64 S,vf,vm]] W fun e w'=>(∃ (d:Value) (c:Int),e=.returned (.tuple #[d,.int .i64 c])∧Pr.DfaRes W.heap.size K w' d c)∧Flow.Grow W w':=by
 have HDO:Hid (∀ wq,Flow.Grow W wq→Calls Tryz.prog 56 #[.agg #[.int .i64 K,.int .i64 S,vf,vm]] wq fun e w'=>(∃ (d:Value) (c:Int),e=.returned (.tuple #[d,.int .i64 c])∧Pr.DfaRes wq.heap.size K w' d c)∧Flow.Grow wq w'):=Lib.hid (fun wq g=>Qw8 K S vf vm fin rows wq hK h1 hr1 hfn hr2 hS hB (hf.grow g) (hv.grow g));obtain ⟨af,cf,rfl,_⟩:=id hf;obtain ⟨am,cm,rfl⟩:=hv.val;clear hf hv hB hr2;rw [hfn] at HDO ⊢;clear hfn;generalize rows.length=nm at *;go_enter Tryz.func35,Tryz.ntmps35;go_upto_region 1 with fail;have HB0:Hid (((W.alloc (.cells #[.int .i64 K,.int .i64 S,.slice af nm cf,.slice am nm cm] 99)).alloc (.cells #[.int .i64 0,.int .i64 0,.slice none 0 0,.slice none 0 0] 27)).heap[W.heap.size]?=some (.cells #[.int .i64 K,.int .i64 S,.slice af nm cf,.slice am nm cm] 99 (0,0))):=Lib.hid (Qef _ _ _);have HB1:Hid (((W.alloc (.cells #[.int .i64 K,.int .i64 S,.slice af nm cf,.slice am nm cm] 99)).alloc (.cells #[.int .i64 0,.int .i64 0,.slice none 0 0,.slice none 0 0] 27)).heap[W.heap.size+1]?=some (.cells #[.int .i64 0,.int .i64 0,.slice none 0 0,.slice none 0 0] 27 (0,0))):=Lib.hid (Qbl _ _ _);have HG0:Hid (Flow.Grow W ((W.alloc (.cells #[.int .i64 K,.int .i64 S,.slice af nm cf,.slice am nm cm] 99)).alloc (.cells #[.int .i64 0,.int .i64 0,.slice none 0 0,.slice none 0 0] 27))):=Lib.hid ((Flow.grow_alloc _ _).trans (Flow.grow_alloc _ _));generalize (W.alloc (.cells #[.int .i64 K,.int .i64 S,.slice af nm cf,.slice am nm cm] 99)).alloc (.cells #[.int .i64 0,.int .i64 0,.slice none 0 0,.slice none 0 0] 27)=w1 at *;obtain ⟨X,hX⟩:∃ X,X=W.heap.size:=⟨_,rfl⟩;rw [← hX] at HB0 HB1 ⊢;have HX:=Lib.hid hX;clear hX;have c0:=(cell_of_row w1 X 0 _ _ _ HB0.out).trans rfl;have c1:=(cell_of_row w1 X 1 _ _ _ HB0.out).trans rfl;have c2:=(cell_of_row w1 X 2 _ _ _ HB0.out).trans rfl;have c3:=(cell_of_row w1 X 3 _ _ _ HB0.out).trans rfl;have CR:Hid (∀ wq,Flow.Grow w1 wq→wq.heap[X+1]?=some (.cells #[.int .i64 0,.int .i64 0,.slice none 0 0,.slice none 0 0] 27 (0,0))):=Lib.hid (fun wq g=>(g.block _ (Array.getElem?_eq_some_iff.1 HB1.out).1 (by simp)).trans HB1.out);have HW:Hid (Calls Tryz.prog 56 #[.agg #[.int .i64 K,.int .i64 S,.slice af nm cf,.slice am nm cm]] w1 fun e w2=>Flow.Grow w1 w2∧((∃ c:Int,c≠0∧e=.returned (.tuple #[.agg #[.int .i64 0,.int .i64 0,.slice none 0 0,.slice none 0 0],.int .i64 c]))∨(∃ (G:Nat) (fa na:Option Addr) (m fc nc:Nat) (fin':List Bool) (rows':List (List Int)) (rs':List Nat),e=.returned (.tuple #[.agg #[.int .i64 K,.int .i64 0,.slice fa m fc,.slice na m nc],.int .i64 0])∧DfaSt w2 G K 0 (.slice fa m fc) (.slice na m nc) fin' rows' rs'∧fin'.length=m∧rows'.length=m∧1≤m∧m≤2000∧w1.heap.size≤G))):=Lib.hid (by
  refine (HDO.out w1 HG0.out).mono ?_;rintro e w2 ⟨⟨d,c,rfl,hr⟩,hg⟩;refine ⟨hg,?_⟩;rcases hr with ⟨hc,rfl⟩ | ⟨rfl,G,f,n,fin',rows',rs',rfl,hd,hl1,hl2,hl3,hl4⟩
  ·exact .inl ⟨c,hc,rfl⟩
  ·obtain ⟨fa,fc,rfl⟩:=Qaw hd.finals;obtain ⟨na,nc,rfl⟩:=Qaw hd.nexts;rw [hl1] at hd ⊢;exact .inr ⟨G,fa,na,rows'.length,fc,nc,fin',rows',rs',rfl,hd,hl1,rfl,hl2,hl3,hl4⟩)
 go_upto_region 2 with (go_at_call 56;refine HW.out.mono ?_;rintro e w2 ⟨hg,h⟩;have HG2:=Lib.hid hg;clear hg;rcases h with ⟨c,hc,rfl⟩ | ⟨G,fa,na,m,fc,nc,fin',rows',rs',rfl,hd,hm1,hm2,hm3,hm4,hm5⟩)
 ·have d0:(c != 0)=true:=by simp [hc]
  have HY:Hid (Flow.Grow w1 (w2.alloc (.cells #[.int .i64 0,.int .i64 0,.slice none 0 0,.slice none 0 0] 27))):=Lib.hid (HG2.out.trans (Flow.grow_alloc _ _));generalize w2.alloc (.cells #[.int .i64 0,.int .i64 0,.slice none 0 0,.slice none 0 0] 27)=w3 at *;have r2:=CR.out w3 HY.out;have q0:=(cell_of_row w3 _ 0 _ _ _ r2).trans rfl;have q1:=(cell_of_row w3 _ 1 _ _ _ r2).trans rfl;have q2:=(cell_of_row w3 _ 2 _ _ _ r2).trans rfl;have q3:=(cell_of_row w3 _ 3 _ _ _ r2).trans rfl;have f0:=frozen_of_row w3 (X+1) 0 _ _ r2;have f1:=frozen_of_row w3 (X+1) 1 _ _ r2;have f2:=frozen_of_row w3 (X+1) 2 _ _ r2;have f3:=frozen_of_row w3 (X+1) 3 _ _ r2;have Hc:=Lib.hid hc;clear r2 hc;go_wp2_with fail;refine bodyPost_ret (Qjh _ _ (X+1) _ _ _ _ _ rfl rfl (Qba _ _ _ _ (CR.out w3 HY.out))) rfl ⟨⟨_,_,rfl,.inl ⟨Hc.out,rfl⟩⟩,?_⟩;exact Qa2 _ _ _ _ (HG0.out.trans HY.out) (by rw [HX.out];omega)
 ·have HY:Hid (Flow.Grow w1 (w2.alloc (.cells #[.int .i64 K,.int .i64 0,.slice fa m fc,.slice na m nc] 27))):=Lib.hid (HG2.out.trans (Flow.grow_alloc _ _));have HYb:Hid ((w2.alloc (.cells #[.int .i64 K,.int .i64 0,.slice fa m fc,.slice na m nc] 27)).heap[w2.heap.size]?=some (.cells #[.int .i64 K,.int .i64 0,.slice fa m fc,.slice na m nc] 27 (0,0))):=Lib.hid (heap_alloc_new _ _);have HD:=Lib.hid (hd.grow (Flow.grow_alloc w2 (.cells #[.int .i64 K,.int .i64 0,.slice fa m fc,.slice na m nc] 27)));generalize w2.alloc (.cells #[.int .i64 K,.int .i64 0,.slice fa m fc,.slice na m nc] 27)=w3 at *;obtain ⟨Y,hY⟩:∃ Y,Y=w2.heap.size:=⟨_,rfl⟩;rw [← hY] at HYb ⊢;clear hY hd;have HMO:Hid (Calls Tryz.prog 57 #[.agg #[.int .i64 K,.int .i64 0,.slice fa m fc,.slice na m nc]] w3 fun e w4=>Flow.Grow w3 w4∧((∃ c:Int,c≠0∧e=.returned (.tuple #[.agg #[.int .i64 0,.int .i64 0,.slice none 0 0,.slice none 0 0],.int .i64 c]))∨(∃ (G:Nat) (fa na:Option Addr) (m fc nc:Nat) (fin':List Bool) (rows':List (List Int)) (rs':List Nat),e=.returned (.tuple #[.agg #[.int .i64 K,.int .i64 0,.slice fa m fc,.slice na m nc],.int .i64 0])∧DfaSt w4 G K 0 (.slice fa m fc) (.slice na m nc) fin' rows' rs'∧fin'.length=m∧rows'.length=m∧1≤m∧m≤2000∧w3.heap.size≤G))):=Lib.hid (by
   have hda:=HD.out.dfa (by omega) (by omega) (by omega);refine (Qtn K 0 (.slice fa m fc) (.slice na m nc) fin' rows' w3 hK hda hda.parts.1 hda.parts.2).mono ?_;rintro e w4 ⟨⟨d,c,rfl,hr⟩,hg⟩;refine ⟨hg,?_⟩;rcases hr with ⟨hc,rfl⟩ | ⟨rfl,G,f,n,fin',rows',rs',rfl,hd,hl1,hl2,hl3,hl4⟩
   ·exact .inl ⟨c,hc,rfl⟩
   ·obtain ⟨fa,fc,rfl⟩:=Qaw hd.finals;obtain ⟨na,nc,rfl⟩:=Qaw hd.nexts;rw [hl1] at hd ⊢;exact .inr ⟨G,fa,na,rows'.length,fc,nc,fin',rows',rs',rfl,hd,hl1,rfl,hl2,hl3,hl4⟩)
  have y0:=(cell_of_row w3 Y 0 _ _ _ HYb.out).trans rfl;have y1:=(cell_of_row w3 Y 1 _ _ _ HYb.out).trans rfl;have y2:=(cell_of_row w3 Y 2 _ _ _ HYb.out).trans rfl;have y3:=(cell_of_row w3 Y 3 _ _ _ HYb.out).trans rfl;have Hms:=Lib.hid (And.intro hm1 (And.intro hm2 (And.intro hm3 hm4)));clear hm1 hm2 hm3 hm4 c0 c1 c2 c3;go_wp2_with (go_at_call 57;refine HMO.out.mono ?_;rintro e w4 ⟨hg,h⟩;have HG4:=Lib.hid (HY.out.trans hg);clear hg;have r2:=CR.out w4 HG4.out;have q0:=(cell_of_row w4 _ 0 _ _ _ r2).trans rfl;have q1:=(cell_of_row w4 _ 1 _ _ _ r2).trans rfl;have q2:=(cell_of_row w4 _ 2 _ _ _ r2).trans rfl;have q3:=(cell_of_row w4 _ 3 _ _ _ r2).trans rfl;have f0:=frozen_of_row w4 (X+1) 0 _ _ r2;have f1:=frozen_of_row w4 (X+1) 1 _ _ r2;have f2:=frozen_of_row w4 (X+1) 2 _ _ r2;have f3:=frozen_of_row w4 (X+1) 3 _ _ r2;clear r2;rcases h with ⟨c,hc,rfl⟩ | ⟨G',fa',na',m',fc',nc',fin2,rows2,rs2,rfl,hd2,hp1,hp2,hp3,hp4,hp5⟩)
  ·refine bodyPost_ret (Qjh _ _ (X+1) _ _ _ _ _ rfl rfl (Qba _ _ _ _ (CR.out w4 HG4.out))) rfl ⟨⟨_,_,rfl,.inl ⟨by assumption,rfl⟩⟩,?_⟩;exact Qa2 _ _ _ _ (HG0.out.trans HG4.out) (by rw [HX.out];omega)
  ·have hXG:X+1 < G':=by have h1:=(Array.getElem?_eq_some_iff.1 HB1.out).1;have h2:=HY.out.size;omega
   refine bodyPost_ret (Qjh _ _ (X+1) _ _ _ _ _ rfl rfl (Qba _ _ _ _ (CR.out w4 HG4.out))) rfl ⟨⟨_,_,rfl,.inr ⟨rfl,G',_,_,fin2,rows2,rs2,rfl,((((hd2.old hXG _ _).old hXG _ _).old hXG _ _).old hXG _ _),by rw [hp1,hp2],by rw [hp2];exact hp3,by rw [hp2];exact hp4,by have h1:=HG0.out.size;have h2:=HY.out.size;omega⟩⟩,?_⟩;exact Qa2 _ _ _ _ (HG0.out.trans HG4.out) (by rw [HX.out];omega)
end Go.Proofs.YtcpodmjcgfgmnaaGreat
namespace Go.Proofs.YtcpodmjcgfgmnaaGreat
open Go.RowKit Go.Maps
namespace Pr
def HidRes (B:Nat) (w':World) (d va:Value) (c:Int) (qs:List (Int × Int)):Prop :=
 (c≠0∧d=.agg #[.int .i64 0,.int .i64 0,.slice none 0 0,.slice none 0 0]∧va=.slice none 0 0)∨(c=0∧∃ (G:Nat) (fa na:Option Addr) (m fc nc:Nat) (fin':List Bool) (rows':List (List Int)) (rs':List Nat),d=.agg #[.int .i64 (qs.length:Nat),.int .i64 0,.slice fa m fc,.slice na m nc]∧DfaSt w' G qs.length 0 (.slice fa m fc) (.slice na m nc) fin' rows' rs'∧fin'.length=m∧rows'.length=m∧1≤m∧m≤2000∧B≤G∧w'.ownsRow B 89 2 va qs.length (flat2 qs))
end Pr
theorem Qhm (tmps:Array Value) (w:World) (X:Nat) (c0 c1 c2 c3 v u:Value) (h2:tmps.getD 6 undef=.pointer (some ⟨X,0,none⟩)) (h3:tmps.getD 7 undef=v) (h4:tmps.getD 8 undef=u) (hx:w.heap[X]?=some (.cells #[c0,c1,c2,c3] 27 (0,0))) :
  (results Tryz.f17 tmps).run Tryz.prog w=.ok (.tuple #[.agg #[c0,c1,c2,c3],v,u]) w:=by
 have x0:=(cell_of_row w X 0 _ _ _ hx).trans rfl;have x1:=(cell_of_row w X 1 _ _ _ hx).trans rfl;have x2:=(cell_of_row w X 2 _ _ _ hx).trans rfl;have x3:=(cell_of_row w X 3 _ _ _ hx).trans rfl;simp at x0 x1 x2 x3;simp only [Array.getD_eq_getD_getElem?] at h2 h3 h4;simp [results,Tryz.results17,h2,h3,h4,x0,x1,x2,x3,go_sem]
theorem Qeb {w:World} {B e e' sz n g:Nat} {v:Value} {xs:List Value} {cs:Array Value} (h:w.ownsRow B e sz v n xs) (hb:w.heap[g]?=some (.cells cs e' (0,0))) (hne:e≠e') (q:Nat) (u:Value):(w.setCell ⟨g,q,none⟩ u).ownsRow B e sz v n xs :=
 h.kept (Qad w g q u) (.inr (Qan h hb (Ne.symm hne)))
def Pr.DfaRes2 (B K:Nat) (w4:World) (e:Ending):Prop:=(∃ c:Int,c≠0∧e=.returned (.tuple #[.agg #[.int .i64 0,.int .i64 0,.slice none 0 0,.slice none 0 0],.int .i64 c]))∨(∃ (G:Nat) (fa na:Option Addr) (m fc nc:Nat) (fin':List Bool) (rows':List (List Int)) (rs':List Nat),e=.returned (.tuple #[.agg #[.int .i64 K,.int .i64 0,.slice fa m fc,.slice na m nc],.int .i64 0])∧DfaSt w4 G K 0 (.slice fa m fc) (.slice na m nc) fin' rows' rs'∧fin'.length=m∧rows'.length=m∧1≤m∧m≤2000∧B≤G)
theorem Pr.DfaRes.two {B K:Nat} {w:World} {d:Value} {c:Int} (h:Pr.DfaRes B K w d c):Pr.DfaRes2 B K w (.returned (.tuple #[d,.int .i64 c])):=by
 rcases h with ⟨hc,rfl⟩ | ⟨rfl,G,f,n,fin',rows',rs',rfl,hd,hl1,hl2,hl3,hl4⟩
 ·exact .inl ⟨c,hc,rfl⟩
 ·obtain ⟨fa,fc,rfl⟩:=Qaw hd.finals;obtain ⟨na,nc,rfl⟩:=Qaw hd.nexts;rw [hl1] at hd ⊢;exact .inr ⟨G,fa,na,rows'.length,fc,nc,fin',rows',rs',rfl,hd,hl1,rfl,hl2,hl3,hl4⟩
set_option maxRecDepth 100000 in
set_option maxHeartbeats 4000000 in
theorem Qt1 (L S:Nat) (part:Int) (vf vn vl:Value) (fin:List Bool) (rows:List (List Int)) (ls:List Pr.Lb) (W:World) (hL:L≤100) (hll:ls.length=L) (hn:rows.length≤100) (hD:DfaAt W #[.int .i64 L,.int .i64 S,vf,vn] L S fin rows) (hF:Bools W vf fin) (hN:Rows2 W vn rows) (hLs:Pr.LsAt W vl ls) :
  Calls Tryz.prog 17 #[.agg #[.int .i64 L,.int .i64 S,vf,vn],vl,.int .i64 part] W fun e w'=>(∃ (d va:Value) (c:Int),e=.returned (.tuple #[d,va,.int .i64 c])∧Pr.HidRes W.heap.size w' d va c (Pr.acts part ls L))∧Flow.Grow W w':=by
 have HD:=Lib.hid hD;have HF:=Lib.hid hF;have HN:=Lib.hid hN;have HLs:=Lib.hid hLs;have Hll:=Lib.hid hll;obtain ⟨af,cf,rfl,_⟩:=id hF;obtain ⟨an,cn,rfl⟩:=hN.val;obtain ⟨al,cl,rfl,_⟩:=id hLs;rw [hll] at HLs ⊢;clear hD hF hN hLs hll;obtain ⟨nf,hnf⟩:∃ nf,nf=fin.length:=⟨_,rfl⟩;have Hnf:=Lib.hid hnf;obtain ⟨n,hn'⟩:∃ n,n=rows.length:=⟨_,rfl⟩;have Hn:=Lib.hid hn';rw [← hnf] at HF HD ⊢;rw [← hn'] at HN HD hn ⊢;clear hnf hn';have HActs:Hid (∀ wq,Flow.Grow W wq→Calls Tryz.prog 37 #[.slice al L cl,.int .i64 part] wq fun e w'=>(∃ va,e=.returned va∧w'.ownsRow wq.heap.size 89 2 va (Pr.acts part ls L).length (Pr.flat2 (Pr.acts part ls L)))∧Flow.Grow wq w'):=Lib.hid (fun wq g=>by
  have h:=Qnb (.slice al L cl) part ls wq (by rw [Hll.out];omega) (HLs.out.grow g);rw [Hll.out] at h;exact h)
 obtain ⟨ax,hax⟩:∃ ax,ax=Pr.acts part ls L:=⟨_,rfl⟩;have Hax:=Lib.hid hax;rw [← hax] at HActs ⊢;clear hax;go_enter Tryz.func17,Tryz.ntmps17;go_upto_region 1 with fail;have HB0:Hid (((W.alloc (.cells #[.int .i64 L,.int .i64 S,.slice af nf cf,.slice an n cn] 27)).alloc (.cells #[.int .i64 0,.int .i64 0,.slice none 0 0,.slice none 0 0] 27)).heap[W.heap.size]?=some (.cells #[.int .i64 L,.int .i64 S,.slice af nf cf,.slice an n cn] 27 (0,0))):=Lib.hid (Qef _ _ _);have HB1:Hid (((W.alloc (.cells #[.int .i64 L,.int .i64 S,.slice af nf cf,.slice an n cn] 27)).alloc (.cells #[.int .i64 0,.int .i64 0,.slice none 0 0,.slice none 0 0] 27)).heap[W.heap.size+1]?=some (.cells #[.int .i64 0,.int .i64 0,.slice none 0 0,.slice none 0 0] 27 (0,0))):=Lib.hid (Qbl _ _ _);have HG0:Hid (Flow.Grow W ((W.alloc (.cells #[.int .i64 L,.int .i64 S,.slice af nf cf,.slice an n cn] 27)).alloc (.cells #[.int .i64 0,.int .i64 0,.slice none 0 0,.slice none 0 0] 27))):=Lib.hid ((Flow.grow_alloc _ _).trans (Flow.grow_alloc _ _));generalize (W.alloc (.cells #[.int .i64 L,.int .i64 S,.slice af nf cf,.slice an n cn] 27)).alloc (.cells #[.int .i64 0,.int .i64 0,.slice none 0 0,.slice none 0 0] 27)=w1 at *;obtain ⟨X,hX⟩:∃ X,X=W.heap.size:=⟨_,rfl⟩;rw [← hX] at HB0 HB1 ⊢;have HX:=Lib.hid hX;clear hX;have CX:Hid (∀ wq,Flow.Grow w1 wq→wq.cell? ⟨X,0,none⟩=some (.int .i64 L)∧wq.cell? ⟨X,1,none⟩=some (.int .i64 S)∧wq.cell? ⟨X,2,none⟩=some (.slice af nf cf)∧wq.cell? ⟨X,3,none⟩=some (.slice an n cn)):=Lib.hid (fun wq g=>by
  have hb:wq.heap[X]?=_:=(g.block _ (Array.getElem?_eq_some_iff.1 HB0.out).1 (by simp)).trans HB0.out;exact ⟨(cell_of_row wq _ 0 _ _ _ hb).trans rfl,(cell_of_row wq _ 1 _ _ _ hb).trans rfl,(cell_of_row wq _ 2 _ _ _ hb).trans rfl,(cell_of_row wq _ 3 _ _ _ hb).trans rfl⟩)
 have CR:Hid (∀ wq,Flow.Grow w1 wq→wq.heap[X+1]?=some (.cells #[.int .i64 0,.int .i64 0,.slice none 0 0,.slice none 0 0] 27 (0,0))):=Lib.hid (fun wq g=>(g.block _ (Array.getElem?_eq_some_iff.1 HB1.out).1 (by simp)).trans HB1.out);have CQ:Hid (∀ wq,Flow.Grow w1 wq→(wq.cell? ⟨X+1,0,none⟩=some (.int .i64 0)∧wq.cell? ⟨X+1,1,none⟩=some (.int .i64 0)∧wq.cell? ⟨X+1,2,none⟩=some (.slice none 0 0)∧wq.cell? ⟨X+1,3,none⟩=some (.slice none 0 0))∧∀ q,wq.frozen? ⟨X+1,q,none⟩=false):=Lib.hid (fun wq g=>by
  have r2:=CR.out wq g;exact ⟨⟨(cell_of_row wq _ 0 _ _ _ r2).trans rfl,(cell_of_row wq _ 1 _ _ _ r2).trans rfl,(cell_of_row wq _ 2 _ _ _ r2).trans rfl,(cell_of_row wq _ 3 _ _ _ r2).trans rfl⟩,fun q=>frozen_of_row wq (X+1) q _ _ r2⟩)
 obtain ⟨c0,c1,c2,c3⟩:=CX.out w1 (Flow.grow_refl _);have HMay:Hid (Calls Tryz.prog 34 #[.agg #[.int .i64 L,.int .i64 S,.slice af nf cf,.slice an n cn]] w1 fun e w'=>e=.returned (.bool (Det.may L S nf rows))∧Flow.Grow w1 w'):=Lib.hid (by
  refine (Qjd _ L S fin rows w1 (HD.out.grow HG0.out)).mono ?_;rintro e w' ⟨h,rfl⟩;rw [← Hnf.out] at h;exact ⟨h,Flow.grow_alloc _ _⟩)
 have t0:((L:Int) != (L:Int))=false:=by simp
 cases hmay:Det.may L S nf rows with
 | false =>
  rw [hmay] at HMay;clear hmay;go_wp2_with (go_at_call 34;refine HMay.out.mono ?_;rintro e w2 ⟨rfl,hg⟩;have HG2:=Lib.hid hg;clear hg;obtain ⟨⟨q0,q1,q2,q3⟩,qf⟩:=CQ.out w2 HG2.out);refine bodyPost_ret (Qhm _ _ (X+1) _ _ _ _ _ _ rfl rfl rfl (Qba _ _ _ _ (CR.out w2 HG2.out))) rfl ⟨⟨_,_,_,rfl,.inl ⟨by decide,rfl,rfl⟩⟩,?_⟩;exact Qa2 _ _ _ _ (HG0.out.trans HG2.out) (by rw [HX.out];omega)
 | true =>
  rw [hmay] at HMay;have HM:=Lib.hid hmay;obtain ⟨hm1,hm2,hm3,hm4,hm5,hm6,hm7⟩:=Qoc hmay;rw [← Hn.out] at hm2 hm3 hm4 hm6 hm7;obtain rfl:n=nf:=hm2.symm;have Hrow:=Lib.hid hm7;clear hmay hm7 hm1 hm5;have hSn:S < n:=by omega
  go_upto_region 3 with (go_at_call 34;refine HMay.out.mono ?_;rintro e w2 ⟨rfl,hg⟩;have HG2:=Lib.hid hg;clear hg c0 c1 c2 c3;obtain ⟨c0,c1,c2,c3⟩:=CX.out w2 HG2.out);clear HMay;have HNf:Hid (Calls Tryz.prog 36 #[.agg #[.int .i64 L,.int .i64 S,.slice af n cf,.slice an n cn],.slice al L cl,.int .i64 part] w2 fun e w'=>(∃ (vf vm:Value) (vs:List Value) (rs:List (List (Int × Int))),e=.returned (.agg #[.int .i64 ((ax).length:Nat),.int .i64 S,vf,vm])∧Bools w' vf fin∧Pr.RowsM w' vm rs∧rs.length=n∧(∀ r∈rs,r.length≤100)∧Pr.Below (ax).length rs)∧Flow.Grow w2 w'):=Lib.hid (by
   have hg:Flow.Grow W w2:=HG0.out.trans HG2.out;have h:=Qqq L S part (.slice af n cf) (.slice an n cn) (.slice al L cl) fin rows ls w2 (by intro e;have h3:=Hnf.out;rw [e] at h3;simp at h3;omega) (by rw [← Hnf.out];omega) (by rw [← Hn.out];omega) 100 (by omega) (fun r hr=>by have h3:=(Hrow.out r hr).1;omega) (HF.out.grow hg) (HN.out.grow hg) (by rw [Hll.out];omega) (HLs.out.grow hg);rw [Hll.out,← Hax.out] at h;refine h.mono ?_;rintro e w' ⟨⟨vf,vm,vs,rs,rfl,h1,h2,h3,h4⟩,h5⟩;exact ⟨⟨vf,vm,vs,rs,rfl,Seg.of_own h1.finals,h1.rowsM,by rw [h2,← Hn.out],h3,h4⟩,h5⟩)
  have hK:ax.length≤100:=by rw [Hax.out];have:=Pr.acts_len part ls L;omega
  obtain ⟨K,hKe⟩:∃ K,K=ax.length:=⟨_,rfl⟩;have HKe:=Lib.hid hKe;rw [← hKe] at HNf hK HActs;clear hKe
  go_upto_region 4 with (first
   | (go_at_call 36;refine HNf.out.mono ?_;rintro e w3 ⟨⟨vf,vm,vs,rs,rfl,h1,h2,h3,h4,h5⟩,hg⟩;obtain ⟨f1,f2,hvf,_⟩:=id h1;subst hvf;obtain ⟨m1,m2,rfl⟩:=h2.val;have HL3:=Lib.hid (Qwa K S _ _ fin rs w3 hK (by rw [h3];exact hm3) (by rw [h3];exact hn) (by rw [h3,← Hnf.out]) h4 (by rw [h3];exact hSn) h5 h1 h2);have HG3:=Lib.hid (HG2.out.trans hg);clear h1 h2 h3 h4 h5 hg)
   | (go_at_call 35;refine HL3.out.mono ?_;rintro e w4 ⟨⟨d,c,he,hr⟩,hg⟩;have HG4:=Lib.hid (HG3.out.trans hg);have HB3:=Lib.hid HG3.out.size;replace hr:=hr.two;rw [← he] at hr;clear hg he d c;rcases hr with ⟨c,hc,rfl⟩ | ⟨G,fa,na,m,fc,nc,fin',rows',rs',rfl,hd,hl1,hl2,hl3,hl4,hl5⟩))
  ·have d0:(c != 0)=true:=by simp [hc]
   have HY:Hid (Flow.Grow w1 (w4.alloc (.cells #[.int .i64 0,.int .i64 0,.slice none 0 0,.slice none 0 0] 27))):=Lib.hid (HG4.out.trans (Flow.grow_alloc _ _));generalize w4.alloc (.cells #[.int .i64 0,.int .i64 0,.slice none 0 0,.slice none 0 0] 27)=w5 at *;obtain ⟨⟨q0,q1,q2,q3⟩,qf⟩:=CQ.out w5 HY.out;have Hc:=Lib.hid hc;clear hc;go_wp2_with fail;refine bodyPost_ret (Qhm _ _ (X+1) _ _ _ _ _ _ rfl rfl rfl (Qba _ _ _ _ (CR.out w5 HY.out))) rfl ⟨⟨_,_,_,rfl,.inl ⟨Hc.out,rfl,rfl⟩⟩,?_⟩;exact Qa2 _ _ _ _ (HG0.out.trans HY.out) (by rw [HX.out];omega)
  ·have HY:Hid (Flow.Grow w1 (w4.alloc (.cells #[.int .i64 K,.int .i64 0,.slice fa m fc,.slice na m nc] 27))):=Lib.hid (HG4.out.trans (Flow.grow_alloc _ _));have HYb:Hid ((w4.alloc (.cells #[.int .i64 K,.int .i64 0,.slice fa m fc,.slice na m nc] 27)).heap[w4.heap.size]?=some (.cells #[.int .i64 K,.int .i64 0,.slice fa m fc,.slice na m nc] 27 (0,0))):=Lib.hid (heap_alloc_new _ _);have HDs:=Lib.hid (hd.grow (Flow.grow_alloc w4 (.cells #[.int .i64 K,.int .i64 0,.slice fa m fc,.slice na m nc] 27)));generalize w4.alloc (.cells #[.int .i64 K,.int .i64 0,.slice fa m fc,.slice na m nc] 27)=w5 at *;have hXY:X+1 < w4.heap.size:=by have h1:=(Array.getElem?_eq_some_iff.1 HB1.out).1;have h2:=HG4.out.size;omega
   obtain ⟨Y,hY⟩:∃ Y,Y=w4.heap.size:=⟨_,rfl⟩;rw [← hY] at HYb hXY ⊢;have Hms:=Lib.hid (And.intro hl1 (And.intro hl2 (And.intro hl3 (And.intro hl4 hl5))));have hXG:X+1 < G:=by have h1:=(Array.getElem?_eq_some_iff.1 HB1.out).1;have h2:=HB3.out;omega
   clear hY hd hl1 hl2 hl3 hl4 hl5 c0 c1 c2 c3;have CY:Hid (∀ wq,Flow.Grow w5 wq→wq.cell? ⟨Y,0,none⟩=some (.int .i64 K)∧wq.cell? ⟨Y,1,none⟩=some (.int .i64 0)∧wq.cell? ⟨Y,2,none⟩=some (.slice fa m fc)∧wq.cell? ⟨Y,3,none⟩=some (.slice na m nc)):=Lib.hid (fun wq g=>by
    have hb:wq.heap[Y]?=_:=(g.block _ (Array.getElem?_eq_some_iff.1 HYb.out).1 (by simp)).trans HYb.out;exact ⟨(cell_of_row wq _ 0 _ _ _ hb).trans rfl,(cell_of_row wq _ 1 _ _ _ hb).trans rfl,(cell_of_row wq _ 2 _ _ _ hb).trans rfl,(cell_of_row wq _ 3 _ _ _ hb).trans rfl⟩)
   have HTS:Hid (∀ wq wp,Flow.Grow w5 wq→Flow.Grow ((((wq.setCell ⟨X+1,0,none⟩ (.int .i64 K)).setCell ⟨X+1,1,none⟩ (.int .i64 0)).setCell ⟨X+1,2,none⟩ (.slice fa m fc)).setCell ⟨X+1,3,none⟩ (.slice na m nc)) wp→wp.cell? ⟨Y,0,none⟩=some (.int .i64 K)∧wp.cell? ⟨Y,1,none⟩=some (.int .i64 0)∧wp.cell? ⟨Y,2,none⟩=some (.slice fa m fc)∧wp.cell? ⟨Y,3,none⟩=some (.slice na m nc)):=Lib.hid (fun wq wp g g2=>by
    have hb:wq.heap[Y]?=_:=(g.block _ (Array.getElem?_eq_some_iff.1 HYb.out).1 (by simp)).trans HYb.out;have hb2:((((wq.setCell ⟨X+1,0,none⟩ (.int .i64 K)).setCell ⟨X+1,1,none⟩ (.int .i64 0)).setCell ⟨X+1,2,none⟩ (.slice fa m fc)).setCell ⟨X+1,3,none⟩ (.slice na m nc)).heap[Y]?=some (.cells #[.int .i64 K,.int .i64 0,.slice fa m fc,.slice na m nc] 27 (0,0)):=(by rw [Below.heap_setCell _ _ _ _ (by show Y≠X+1;omega),Below.heap_setCell _ _ _ _ (by show Y≠X+1;omega),Below.heap_setCell _ _ _ _ (by show Y≠X+1;omega),Below.heap_setCell _ _ _ _ (by show Y≠X+1;omega)];exact hb);have hb3:wp.heap[Y]?=_:=(g2.block _ (Array.getElem?_eq_some_iff.1 hb2).1 (by simp)).trans hb2;exact ⟨(cell_of_row wp _ 0 _ _ _ hb3).trans rfl,(cell_of_row wp _ 1 _ _ _ hb3).trans rfl,(cell_of_row wp _ 2 _ _ _ hb3).trans rfl,(cell_of_row wp _ 3 _ _ _ hb3).trans rfl⟩)
   have HTG:Hid (∀ wq,Flow.Grow w5 wq→Flow.Grow W ((((wq.setCell ⟨X+1,0,none⟩ (.int .i64 K)).setCell ⟨X+1,1,none⟩ (.int .i64 0)).setCell ⟨X+1,2,none⟩ (.slice fa m fc)).setCell ⟨X+1,3,none⟩ (.slice na m nc))):=Lib.hid (fun wq g=>Qa2 _ _ _ _ (HG0.out.trans (HY.out.trans g)) (by rw [HX.out];omega));have HTD:Hid (∀ wq wp,Flow.Grow w5 wq→Flow.Grow ((((wq.setCell ⟨X+1,0,none⟩ (.int .i64 K)).setCell ⟨X+1,1,none⟩ (.int .i64 0)).setCell ⟨X+1,2,none⟩ (.slice fa m fc)).setCell ⟨X+1,3,none⟩ (.slice na m nc)) wp→DfaSt wp G K 0 (.slice fa m fc) (.slice na m nc) fin' rows' rs'∧wp.heap[X+1]?=some (.cells #[.int .i64 K,.int .i64 0,.slice fa m fc,.slice na m nc] 27 (0,0))):=Lib.hid (fun wq wp g g2=>by
    have h1:=Qba (.int .i64 K) (.int .i64 0) (.slice fa m fc) (.slice na m nc) (CR.out wq (HY.out.trans g));exact ⟨((((((HDs.out.grow g).old hXG _ _).old hXG _ _).old hXG _ _).old hXG _ _)).grow g2,(g2.block _ (Array.getElem?_eq_some_iff.1 h1).1 (by simp)).trans h1⟩)
   obtain ⟨⟨q0,q1,q2,q3⟩,qf⟩:=CQ.out w5 HY.out;obtain ⟨⟨e0,e1,e2,e3⟩,ef⟩:=CQ.out w5.drew (HY.out.trans (Flow.grow_drew _));have qf0:=qf 0;have qf1:=qf 1;have qf2:=qf 2;have qf3:=qf 3;have ef0:=ef 0;have ef1:=ef 1;have ef2:=ef 2;have ef3:=ef 3;clear qf ef;go_upto_region 6 with fail
   go_region_held3 (fun w'=>w'.cell? ⟨Y,0,none⟩=some (.int .i64 K)∧w'.cell? ⟨Y,1,none⟩=some (.int .i64 0)∧w'.cell? ⟨Y,2,none⟩=some (.slice fa m fc)∧w'.cell? ⟨Y,3,none⟩=some (.slice na m nc))
    (first
      | (with_reducible exact CY.out _ (Flow.grow_refl _))
      | (with_reducible exact CY.out _ (Flow.grow_drew _))
      | (with_reducible exact CY.out _ ((Flow.grow_drew _).trans HGa.out))
      | (with_reducible exact HTS.out _ _ (Flow.grow_drew _) (Flow.grow_refl _))
      | (with_reducible exact HTS.out _ _ ((Flow.grow_drew _).trans HGa.out) (Flow.grow_refl _))
      | (with_reducible exact HTS.out _ _ (Flow.grow_drew _) HGb.out))
    (first
      | (go_at_call 37;refine (HActs.out _ (by first | (with_reducible exact HG0.out.trans (HY.out.trans (Flow.grow_drew _))) | (with_reducible exact HTG.out _ (Flow.grow_drew _)))).mono ?_;rintro e w6 ⟨⟨va,rfl,ho⟩,hg⟩;obtain ⟨aa,ka,rfl⟩:=Qah ho;have HOa:=Lib.hid ho;
          first
          | (have HGa:Hid (Flow.Grow w5.drew w6):=Lib.hid (by with_reducible exact hg);clear hg ho;obtain ⟨⟨g0,g1,g2,g3⟩,gf⟩:=CQ.out w6 (HY.out.trans ((Flow.grow_drew _).trans HGa.out));have gf0:=gf 0;have gf1:=gf 1;have gf2:=gf 2;have gf3:=gf 3;clear gf)
          | (have HGb:Hid (Flow.Grow ((((w5.drew.setCell ⟨X+1,0,none⟩ (.int .i64 K)).setCell ⟨X+1,1,none⟩ (.int .i64 0)).setCell ⟨X+1,2,none⟩ (.slice fa m fc)).setCell ⟨X+1,3,none⟩ (.slice na m nc)) w6):=Lib.hid (by with_reducible exact hg);clear hg ho)))
   have h1:=HTD.out w6 _ ((Flow.grow_drew _).trans HGa.out) (Flow.grow_refl _);have h2:=CR.out w6 (HY.out.trans ((Flow.grow_drew _).trans HGa.out));have h3:=HTG.out w6 ((Flow.grow_drew _).trans HGa.out);have hown:=Qeb (Qeb (Qeb (Qeb HOa.out h2 (by decide) 0 (.int .i64 K)) (heap_setCell_same w6 (X+1) 0 _ _ _ h2) (by decide) 1 (.int .i64 0)) (heap_setCell_same _ (X+1) 1 _ _ _ (heap_setCell_same w6 (X+1) 0 _ _ _ h2)) (by decide) 2 (.slice fa m fc)) (heap_setCell_same _ (X+1) 2 _ _ _ (heap_setCell_same _ (X+1) 1 _ _ _ (heap_setCell_same w6 (X+1) 0 _ _ _ h2))) (by decide) 3 (.slice na m nc);have Hend:=Lib.hid (And.intro h1 (And.intro h3 hown));clear h1 h2 h3 hown;go_wp2_with fail;refine bodyPost_ret (Qhm _ _ (X+1) _ _ _ _ _ _ rfl rfl rfl Hend.out.1.2) rfl ⟨⟨_,_,_,rfl,.inr ⟨rfl,G,fa,na,m,fc,nc,fin',rows',rs',by rw [← HKe.out],by rw [← HKe.out];exact Hend.out.1.1,Hms.out.1,Hms.out.2.1,Hms.out.2.2.1,Hms.out.2.2.2.1,?_,?_⟩⟩,Hend.out.2.1⟩
   ·have h1:=HG0.out.size;have h2:=HB3.out;have h3:=Hms.out.2.2.2.2;omega
   ·rw [← HKe.out];exact Pr.own_mono Hend.out.2.2 (by have h1:=HG0.out.size;have h2:=HY.out.size;simp;omega)
end Go.Proofs.YtcpodmjcgfgmnaaGreat
namespace Go.Proofs.YtcpodmjcgfgmnaaGreat
open Go.RowKit Go.Maps
def Pr.FmPost (K n:Nat) (rows:List (List Int)) (e:Ending):Prop:=∃ b:Bool,e=.returned (.bool b)∧(b=true→∀ j c,j < n→c < K→-1≤(rows.getD j []).getD c 0∧(rows.getD j []).getD c 0 < n)
theorem Qrs {w:World} {a:Option Addr} {n c:Nat} {rows:List (List Int)} (h:Rows2 w (.slice a n c) rows) {j:Nat} (hj:j < rows.length):∃ b off ra rc,a=some ⟨b,off,none⟩∧w.cell? ⟨b,off+j,none⟩=some (.slice ra (rows.getD j []).length rc)∧Ints w (.slice ra (rows.getD j []).length rc) (rows.getD j []):=by
 obtain ⟨rb,ro,rcp,hv,_,hrc⟩:=h.shape (by intro e;rw [e] at hj;simp at hj);injection hv with hv1 hv2 hv3;subst hv1 hv3;obtain ⟨u,huc,hux⟩:=hrc j hj;obtain ⟨ra,rc,rfl,_⟩:=id hux;exact ⟨rb,ro,ra,rc,rfl,huc,hux⟩
set_option maxRecDepth 100000 in
set_option maxHeartbeats 4000000 in
theorem Qt5 (K:Nat) (vf vn:Value) (fin:List Bool) (rows:List (List Int)) (W:World) (hfn:fin.length=rows.length) (h1:1≤rows.length) (h2:rows.length≤2000) (hrl:∀ j,j < rows.length→(rows.getD j []).length=K) (hK:K≤1000000) (hff:∃ a c,vf=.slice a fin.length c) (hN:Rows2 W vn rows) :
  Calls Tryz.prog 18 #[.agg #[.int .i64 K,.int .i64 0,vf,vn]] W fun e w'=>Pr.FmPost K rows.length rows e∧Flow.Grow W w':=by
 have HN:=Lib.hid hN;have HRL:=Lib.hid hrl;obtain ⟨af,cf,rfl⟩:=hff;obtain ⟨an,cn,rfl⟩:=hN.val;clear hN hrl;rw [hfn];clear hfn;obtain ⟨n,hn⟩:∃ n,n=rows.length:=⟨_,rfl⟩;have Hn:=Lib.hid hn;rw [← hn] at h1 h2 HN HRL ⊢;clear hn;have t0:((n:Int) == 0)=false:=by simp;omega
 have t1:decide ((0:Int)≥(n:Int))=false:=by simp;omega
 have t2:((n:Int) != (n:Int))=false:=by simp
 go_enter Tryz.func18,Tryz.ntmps18;go_upto_region 1 with fail;have HB0:Hid ((W.alloc (.cells #[.int .i64 K,.int .i64 0,.slice af n cf,.slice an n cn] 27)).heap[W.heap.size]?=some (.cells #[.int .i64 K,.int .i64 0,.slice af n cf,.slice an n cn] 27 (0,0))):=Lib.hid (heap_alloc_new _ _);have HG0:Hid (Flow.Grow W (W.alloc (.cells #[.int .i64 K,.int .i64 0,.slice af n cf,.slice an n cn] 27))):=Lib.hid (Flow.grow_alloc _ _);generalize W.alloc (.cells #[.int .i64 K,.int .i64 0,.slice af n cf,.slice an n cn] 27)=w1 at *;obtain ⟨X,hX⟩:∃ X,X=W.heap.size:=⟨_,rfl⟩;rw [← hX] at HB0 ⊢;clear hX;have CX:Hid (∀ wq,Flow.Grow w1 wq→wq.cell? ⟨X,0,none⟩=some (.int .i64 K)∧wq.cell? ⟨X,1,none⟩=some (.int .i64 0)∧wq.cell? ⟨X,2,none⟩=some (.slice af n cf)∧wq.cell? ⟨X,3,none⟩=some (.slice an n cn)):=Lib.hid (fun wq g=>by
  have hb:wq.heap[X]?=_:=(g.block _ (Array.getElem?_eq_some_iff.1 HB0.out).1 (by simp)).trans HB0.out;exact ⟨(cell_of_row wq _ 0 _ _ _ hb).trans rfl,(cell_of_row wq _ 1 _ _ _ hb).trans rfl,(cell_of_row wq _ 2 _ _ _ hb).trans rfl,(cell_of_row wq _ 3 _ _ _ hb).trans rfl⟩)
 obtain ⟨c0,c1,c2,c3⟩:=CX.out w1 (Flow.grow_refl _);go_upto_region 4 with fail;clear c0 c1 c2 c3 t0 t1 t2;go_loopw [3] (fun i wr=>∃ j:Nat,j≤n∧i=.int .i64 j∧Hid (Flow.Grow w1 wr)∧Hid (∀ q c,q < j→c < K→-1≤(rows.getD q []).getD c 0∧(rows.getD q []).getD c 0 < n)) (fun i _=>n - (intOf i).toNat)
 case atStart=>exact ⟨0,by omega,rfl,Lib.hid (Flow.grow_refl _),Lib.hid (fun q c hq=>by omega)⟩
 case round =>
  obtain ⟨j,hj,rfl,HG,HA⟩:=hrel
  rename World=>wo
  obtain ⟨c0,_,_,c3⟩:=CX.out wo HG.out;by_cases hjn:j < n
  ·obtain ⟨b,off,ra,rc,rfl,q0,q1⟩:=Qrs (HN.out.grow (HG0.out.trans HG.out)) (j:=j) (by rw [← Hn.out];exact hjn);have hl:=HRL.out j hjn;rw [hl] at q0 q1;have Hl:=Lib.hid hl;obtain ⟨row,hrow⟩:∃ row,row=rows.getD j []:=⟨_,rfl⟩;have Hrow:=Lib.hid hrow;rw [← hrow] at q1 Hl;have Q1:=Lib.hid q1;clear hl hrow q1;have t0:((K:Int) != (K:Int))=false:=by simp
   have hji:(0:Int)≤(j:Int):=by omega
   have hji2:(j:Int) < (n:Int):=by omega
   go_upto_region 6 with fail;go_region;have HGd:Hid (Flow.Grow w1 wo.drew):=Lib.hid (HG.out.trans (Flow.grow_drew _));have q0d:wo.drew.cell? ⟨b,off+j,none⟩=some (.slice ra K rc):=q0;have Q1d:Hid (Ints wo.drew (.slice ra K rc) row):=Lib.hid (Q1.out.grow (Flow.grow_drew _));generalize wo.drew=wd at *;clear q0 c0 c3 HG Q1;have HQ:Hid (∀ wq,Flow.Grow wd wq→wq.cell? ⟨b,off+j,none⟩=some (.slice ra K rc)):=Lib.hid (fun wq g=>Xm2.cell_grow g q0d);clear q0d;go_wp2_with fail;go_loopw [4] (fun i wr=>∃ c:Nat,c≤K∧i=.int .i64 c∧Hid (Flow.Grow wd wr)∧Hid (∀ c',c' < c→-1≤row.getD c' 0∧row.getD c' 0 < n)) (fun i _=>K - (intOf i).toNat)
   case atStart=>exact ⟨0,by omega,rfl,Lib.hid (Flow.grow_refl _),Lib.hid (fun c' h=>by omega)⟩
   case round =>
    obtain ⟨c,hc,rfl,HG,HC⟩:=hrel
    rename World=>wi
    obtain ⟨c0,_,_,c3⟩:=CX.out wi (HGd.out.trans HG.out);have q0:=HQ.out wi HG.out;by_cases hcK:c < K
    ·obtain ⟨kb,ko,rfl,y0⟩:=Qa8 (Q1d.out.grow HG.out) (j:=c) (by rw [Hl.out];exact hcK);obtain ⟨t,ht⟩:∃ t,t=row.getD c 0:=⟨_,rfl⟩;have Ht:=Lib.hid ht;rw [← ht] at y0;clear ht;have hci:(0:Int)≤(c:Int):=by omega
     have hci2:(c:Int) < (K:Int):=by omega
     go_upto_region 11 with fail;by_cases ht1:t < -1
     ·have d1:decide (t < -1)=true:=by simp [ht1]
      go_region;go_wp2_with fail;go_ret;exact ⟨⟨false,rfl,fun h=>by cases h⟩,HG0.out.trans ((HGd.out.trans HG.out).trans (Flow.grow_drew _))⟩
     ·have d1:decide (t < -1)=false:=by simp;omega
      by_cases ht2:t≥(n:Int)
      ·have d2:decide (t≥(n:Int))=true:=by simp;omega
       go_region;go_wp2_with fail;go_ret;exact ⟨⟨false,rfl,fun h=>by cases h⟩,HG0.out.trans ((HGd.out.trans HG.out).trans (Flow.grow_drew _))⟩
      ·have d2:decide (t≥(n:Int))=false:=by simp;omega
       go_region;go_wp2_with fail;go_roundw
       case rel=>exact ⟨c+1,by omega,by go_num,Lib.hid (HG.out.trans (Flow.grow_drew _)),Lib.hid (fun c' h=>by
        by_cases e:c'=c
        ·subst e;rw [← Ht.out];omega
        ·exact HC.out c' (by omega))⟩
       case measure=>simp [intOf];omega
    ·obtain rfl:K=c:=by omega
     go_wp2_with fail;go_roundw
     case rel=>exact ⟨j+1,by omega,by go_num,Lib.hid (HGd.out.trans HG.out),Lib.hid (fun q c hq hc=>by
      by_cases e:q=j
      ·subst e;rw [← Hrow.out];exact HC.out c hc
      ·exact HA.out q c (by omega) hc)⟩
     case measure=>simp [intOf];omega
  ·obtain rfl:n=j:=by omega
   go_wp2_with fail;go_ret;exact ⟨⟨true,rfl,fun _ j c hj hc=>HA.out j c hj hc⟩,HG0.out.trans HG.out⟩
end Go.Proofs.YtcpodmjcgfgmnaaGreat
namespace Go.Proofs.YtcpodmjcgfgmnaaGreat
open Go.RowKit Go.Maps
namespace Pr
structure Pd where
 acts:List (Int × Int)
 fin:List Bool
 rows:List (List Int)
instance:Inhabited Pd:=⟨⟨[],[],[]⟩⟩
structure Pd.Ok (p:Pd) (ls:List Lb) (i:Nat):Prop where
 acts:p.acts=Pr.acts i ls ls.length
 fin:p.fin.length=p.rows.length
 pos:1≤p.rows.length
 few:p.rows.length≤2000
 len:∀ j,j < p.rows.length→(p.rows.getD j []).length=p.acts.length
 rng:∀ j c,j < p.rows.length→c < p.acts.length→-1≤(p.rows.getD j []).getD c 0∧(p.rows.getD j []).getD c 0 < p.rows.length
def PeerO (w:World) (B:Nat) (ls:List Lb) (i:Nat) (cells:List Value) (p:Pd):Prop :=
 ∃ (G:Nat) (va vf vn:Value) (rs:List Nat),cells=[.int .i64 (i:Int),va,.int .i64 (p.acts.length:Nat),.int .i64 0,vf,vn]∧DfaSt w G p.acts.length 0 vf vn p.fin p.rows rs∧w.ownsRow B 89 2 va p.acts.length (flat2 p.acts)∧p.Ok ls i
def PeerAt (w:World) (ls:List Lb) (i:Nat) (cells:List Value) (p:Pd):Prop :=
 ∃ (va vf vn:Value),cells=[.int .i64 (i:Int),va,.int .i64 (p.acts.length:Nat),.int .i64 0,vf,vn]∧Seg 2 w va p.acts.length (flat2 p.acts)∧Bools w vf p.fin∧Rows2 w vn p.rows∧p.Ok ls i
theorem PeerAt.grow {w w':World} {ls:List Lb} {i:Nat} {cells:List Value} {p:Pd} (h:PeerAt w ls i cells p) (g:Flow.Grow w w'):PeerAt w' ls i cells p:=by
 obtain ⟨va,vf,vn,h1,h2,h3,h4,h5⟩:=h;exact ⟨va,vf,vn,h1,Seg.grow h2 g,h3.grow g,h4.grow g,h5⟩
theorem PeerO.at_ {w:World} {B:Nat} {ls:List Lb} {i:Nat} {cells:List Value} {p:Pd} (h:PeerO w B ls i cells p) (hl:p.acts.length≤1000000):PeerAt w ls i cells p:=by
 obtain ⟨G,va,vf,vn,rs,h1,h2,h3,h4⟩:=h;have hd:=h2.dfa (by omega) (by rw [h4.fin];have:=h4.few;omega) (by have:=h4.few;omega);exact ⟨va,vf,vn,h1,Seg.of_own h3,hd.parts.1,hd.parts.2,h4⟩
theorem PeerO.kept {w w':World} {B:Nat} {ls:List Lb} {i:Nat} {cells:List Value} {p:Pd} {B' n:Nat} {v:Value} {xs:List Value} (h:PeerO w B ls i cells p) (hv:w.ownsRow B' 69 6 v n xs) (k:w.grownBy w' v.ownBlock):PeerO w' B ls i cells p:=by
 obtain ⟨G,va,vf,vn,rs,h1,h2,h3,h4⟩:=h;refine ⟨G,va,vf,vn,rs,h1,h2.kept k (fun e=>Qan hv h2.block (by decide) e) (own_apart h2.finals hv (by decide)) (own_apart h2.nexts hv (by decide)) (fun j hj e=>Qan hv (h2.row j hj).2.1 (by decide) e),h3.kept k (own_apart h3 hv (by decide)),h4⟩
theorem PeerO.grow {w w':World} {B:Nat} {ls:List Lb} {i:Nat} {cells:List Value} {p:Pd} (h:PeerO w B ls i cells p) (g:Flow.Grow w w'):PeerO w' B ls i cells p:=by
 obtain ⟨G,va,vf,vn,rs,h1,h2,h3,h4⟩:=h;exact ⟨G,va,vf,vn,rs,h1,h2.grow g,Qab h3 g,h4⟩
structure PeersO (w:World) (B:Nat) (ls:List Lb) (ov:Value) (css:List (List Value)) (ps:List Pd):Prop where
 own:w.ownsRow B 69 6 ov ps.length css.flatten
 len:css.length=ps.length
 row:∀ i,i < ps.length→PeerO w B ls i (css.getD i []) (ps.getD i default)
theorem PeersO.grow {w w':World} {B:Nat} {ls:List Lb} {ov:Value} {css:List (List Value)} {ps:List Pd} (h:PeersO w B ls ov css ps) (g:Flow.Grow w w'):PeersO w' B ls ov css ps :=
 ⟨Qab h.own g,h.len,fun i hi=>(h.row i hi).grow g⟩
theorem PeersO.push {w w1:World} {B:Nat} {ls:List Lb} {ov ov':Value} {css:List (List Value)} {ps:List Pd} {cells:List Value} {p:Pd} (h:PeersO w B ls ov css ps) (hp:PeerO w B ls ps.length cells p)
  (hown:w1.ownsRow B 69 6 ov' (ps.length+1) (css.flatten++cells)) (k:w.grownBy w1 ov.ownBlock):PeersO w1 B ls ov' (css++[cells]) (ps++[p]) where
 own:=by simpa using hown
 len:=by simp [h.len]
 row:=fun i hi=>by
  rw [List.length_append,List.length_singleton] at hi;by_cases e:i < ps.length
  ·have e1:(css++[cells]).getD i []=css.getD i []:=by simp [List.getD_eq_getElem?_getD,List.getElem?_append_left (show i < css.length by rw [h.len];exact e)]
   have e2:(ps++[p]).getD i default=ps.getD i default:=by simp [List.getD_eq_getElem?_getD,List.getElem?_append_left e]
   rw [e1,e2];exact (h.row i e).kept h.own k
  ·obtain rfl:i=ps.length:=by omega
   have e1:(css++[cells]).getD ps.length []=cells:=by rw [← h.len];simp
   have e2:(ps++[p]).getD ps.length default=p:=by simp
   rw [e1,e2];exact hp.kept h.own k
structure PeersAt (w:World) (v:Value) (ls:List Lb) (css:List (List Value)) (ps:List Pd):Prop where
 seg:Seg 6 w v 3 css.flatten
 len:css.length=3
 lenp:ps.length=3
 row:∀ i,i < 3→PeerAt w ls i (css.getD i []) (ps.getD i default)
theorem PeersAt.grow {w w':World} {v:Value} {ls:List Lb} {css:List (List Value)} {ps:List Pd} (h:PeersAt w v ls css ps) (g:Flow.Grow w w'):PeersAt w' v ls css ps :=
 ⟨Seg.grow h.seg g,h.len,h.lenp,fun i hi=>(h.row i hi).grow g⟩
def PeersRes (w':World) (ls:List Lb) (e:Ending):Prop:=e=.returned (.tuple #[.slice none 0 0,.bool false])∨(∃ (v:Value) (css:List (List Value)) (ps:List Pd),e=.returned (.tuple #[v,.bool true])∧PeersAt w' v ls css ps)
end Pr
theorem Qwi:(Tryz.prog.info? 69).map (fun i=>(i.zero,i.size,i.bytes))=some (some (.agg #[.int .i64 0,.slice none 0 0,.int .i64 0,.int .i64 0,.slice none 0 0,.slice none 0 0]),6,96):=by kernel_rfl
set_option maxRecDepth 100000 in
set_option maxHeartbeats 4000000 in
theorem Qve (L S:Nat) (vf vn vl:Value) (fin:List Bool) (rows:List (List Int)) (ls:List Pr.Lb) (W:World) (hL:L≤100) (hll:ls.length=L) (hn:rows.length≤100) (hD:DfaAt W #[.int .i64 L,.int .i64 S,vf,vn] L S fin rows) (hF:Bools W vf fin) (hN:Rows2 W vn rows) (hLs:Pr.LsAt W vl ls) :
  Calls Tryz.prog 6 #[.agg #[.int .i64 L,.int .i64 S,vf,vn],vl] W fun e w'=>Pr.PeersRes w' ls e∧Flow.Grow W w':=by
 have HHo:Hid (∀ (wq:World) (i:Nat),Flow.Grow W wq→Calls Tryz.prog 17 #[.agg #[.int .i64 L,.int .i64 S,vf,vn],vl,.int .i64 (i:Int)] wq fun e w'=>(∃ (d va:Value) (c:Int),e=.returned (.tuple #[d,va,.int .i64 c])∧Pr.HidRes wq.heap.size w' d va c (Pr.acts i ls L))∧Flow.Grow wq w'):=Lib.hid (fun wq i g=>Qt1 L S i vf vn vl fin rows ls wq hL hll hn (hD.grow g) (hF.grow g) (hN.grow g) (hLs.grow g));have Hll:=Lib.hid hll;obtain ⟨af,cf,rfl,_⟩:=id hF;obtain ⟨an,cn,rfl⟩:=hN.val;obtain ⟨al,cl,rfl,_⟩:=id hLs;clear hD hF hN hLs;rw [hll] at HHo ⊢;clear hll;generalize rows.length=n at *;generalize fin.length=nf at *;obtain ⟨i0,hi,hz0,hz1,hz2⟩:=info_parts Qwi;go_enter Tryz.func6,Tryz.ntmps6;go_upto_region 2 with fail;have HB0:Hid ((W.alloc (.cells #[.int .i64 L,.int .i64 S,.slice af nf cf,.slice an n cn] 27)).heap[W.heap.size]?=some (.cells #[.int .i64 L,.int .i64 S,.slice af nf cf,.slice an n cn] 27 (0,0))):=Lib.hid (heap_alloc_new _ _);have HG0:Hid (Flow.Grow W (W.alloc (.cells #[.int .i64 L,.int .i64 S,.slice af nf cf,.slice an n cn] 27))):=Lib.hid (Flow.grow_alloc _ _);have HS0:Hid ((W.alloc (.cells #[.int .i64 L,.int .i64 S,.slice af nf cf,.slice an n cn] 27)).heap.size=W.heap.size+1):=Lib.hid (by simp);generalize W.alloc (.cells #[.int .i64 L,.int .i64 S,.slice af nf cf,.slice an n cn] 27)=wb at *;obtain ⟨X,hX⟩:∃ X,X=W.heap.size:=⟨_,rfl⟩;rw [← hX] at HB0 HS0 ⊢;clear hX
 have HP0:Hid (Pr.PeersO (wb.alloc (.cells #[] 69)) wb.heap.size ls (.slice (some ⟨X+1,0,none⟩) 0 0) [] []):=Lib.hid
  ⟨⟨rfl,.inr ⟨X+1,0,#[],rfl,by rw [HS0.out];exact Nat.le_refl _,by rw [← HS0.out];exact heap_alloc_new _ _,Nat.le_refl _,by decide,rfl,rfl⟩⟩,rfl,fun i hi=>by simp at hi⟩
 have HG1:Hid (Flow.Grow wb (wb.alloc (.cells #[] 69))):=Lib.hid (Flow.grow_alloc _ _);generalize wb.alloc (.cells #[] 69)=w1 at *;have CX:Hid (∀ wq,Flow.Grow wb wq→wq.cell? ⟨X,0,none⟩=some (.int .i64 L)∧wq.cell? ⟨X,1,none⟩=some (.int .i64 S)∧wq.cell? ⟨X,2,none⟩=some (.slice af nf cf)∧wq.cell? ⟨X,3,none⟩=some (.slice an n cn)):=Lib.hid (fun wq g=>by
  have hb:wq.heap[X]?=_:=(g.block _ (Array.getElem?_eq_some_iff.1 HB0.out).1 (by simp)).trans HB0.out;exact ⟨(cell_of_row wq _ 0 _ _ _ hb).trans rfl,(cell_of_row wq _ 1 _ _ _ hb).trans rfl,(cell_of_row wq _ 2 _ _ _ hb).trans rfl,(cell_of_row wq _ 3 _ _ _ hb).trans rfl⟩)
 go_wp2_with fail;go_loopw [6,7] (fun ov i wr=>∃ (css:List (List Value)) (ps:List Pr.Pd),ps.length≤3∧i=.int .i64 (ps.length:Nat)∧Hid (Pr.PeersO wr wb.heap.size ls ov css ps)∧Hid (Flow.Grow wb wr)) (fun _ i _=>3 - (intOf i).toNat)
 case atStart=>exact ⟨[],[],by simp,rfl,HP0,HG1⟩
 case round =>
  clear HP0 HG1;obtain ⟨css,ps,hp3,rfl,HP,HG⟩:=hrel
  rename World=>wo
  obtain ⟨vq,hvq⟩:∃ v,v=u6:=⟨_,rfl⟩;obtain ⟨oa,oc,hoa⟩:=Qah HP.out.own;subst hoa;clear hvq;obtain ⟨j,hj⟩:∃ j,j=ps.length:=⟨_,rfl⟩;have Hj:=Lib.hid hj;rw [← hj] at hp3 HP ⊢;clear hj;by_cases hj3:j < 3
  ·obtain ⟨c0,c1,c2,c3⟩:=CX.out wo HG.out;have HH:=Lib.hid (HHo.out wo j (HG0.out.trans HG.out));go_upto_region 6 with (go_at_call 17;refine HH.out.mono ?_;rintro e w2 ⟨⟨d,va,c,rfl,hr⟩,hg⟩;have HG2:=Lib.hid hg;clear hg;rcases hr with ⟨hc,rfl,rfl⟩ | ⟨rfl,G,fa,na,m,fc,nc,fin',rows',rs',rfl,hd,hl1,hl2,hl3,hl4,hl5,ho⟩)
   ·have d0:(c != 0)=true:=by simp [hc]
    clear hc;go_wp2_with fail;go_ret2;exact ⟨.inl rfl,(HG0.out.trans (HG.out.trans HG2.out)).trans (Flow.grow_alloc _ _)⟩
   ·have HY:Hid (Flow.Grow wo (w2.alloc (.cells #[.int .i64 ((Pr.acts j ls L).length:Nat),.int .i64 0,.slice fa m fc,.slice na m nc] 27))):=Lib.hid (HG2.out.trans (Flow.grow_alloc _ _));have HYb:Hid ((w2.alloc (.cells #[.int .i64 ((Pr.acts j ls L).length:Nat),.int .i64 0,.slice fa m fc,.slice na m nc] 27)).heap[w2.heap.size]?=some (.cells #[.int .i64 ((Pr.acts j ls L).length:Nat),.int .i64 0,.slice fa m fc,.slice na m nc] 27 (0,0))):=Lib.hid (heap_alloc_new _ _);have HDs:=Lib.hid (hd.grow (Flow.grow_alloc w2 (.cells #[.int .i64 ((Pr.acts j ls L).length:Nat),.int .i64 0,.slice fa m fc,.slice na m nc] 27)));have HOs:=Lib.hid (Qab ho (Flow.grow_alloc w2 (.cells #[.int .i64 ((Pr.acts j ls L).length:Nat),.int .i64 0,.slice fa m fc,.slice na m nc] 27)));have hK:(Pr.acts j ls L).length≤100:=by have:=Pr.acts_len j ls L;omega
    obtain ⟨ax,hax⟩:∃ ax,ax=Pr.acts j ls L:=⟨_,rfl⟩;have Hax:=Lib.hid hax;rw [← hax] at HY HYb HDs HOs hK ⊢;obtain ⟨K,hKe⟩:∃ K,K=ax.length:=⟨_,rfl⟩;have HKe:=Lib.hid hKe;rw [← hKe] at HY HYb HDs HOs hK ⊢;obtain ⟨ya,yc,rfl⟩:=Qah ho;rw [← hax,← hKe] at HOs ⊢;clear hax hKe ho hd;generalize w2.alloc (.cells #[.int .i64 (K:Int),.int .i64 0,.slice fa m fc,.slice na m nc] 27)=w3 at *;obtain ⟨Y,hY⟩:∃ Y,Y=w2.heap.size:=⟨_,rfl⟩;rw [← hY] at HYb ⊢;clear hY;have CY:Hid (∀ wq,Flow.Grow w3 wq→wq.cell? ⟨Y,0,none⟩=some (.int .i64 K)∧wq.cell? ⟨Y,1,none⟩=some (.int .i64 0)∧wq.cell? ⟨Y,2,none⟩=some (.slice fa m fc)∧wq.cell? ⟨Y,3,none⟩=some (.slice na m nc)):=Lib.hid (fun wq g=>by
     have hb:wq.heap[Y]?=_:=(g.block _ (Array.getElem?_eq_some_iff.1 HYb.out).1 (by simp)).trans HYb.out;exact ⟨(cell_of_row wq _ 0 _ _ _ hb).trans rfl,(cell_of_row wq _ 1 _ _ _ hb).trans rfl,(cell_of_row wq _ 2 _ _ _ hb).trans rfl,(cell_of_row wq _ 3 _ _ _ hb).trans rfl⟩)
    have hda:=HDs.out.dfa (by omega) (by omega) (by omega);have HFm:Hid (Calls Tryz.prog 18 #[.agg #[.int .i64 K,.int .i64 0,.slice fa m fc,.slice na m nc]] w3 fun e w'=>Pr.FmPost K m rows' e∧Flow.Grow w3 w'):=Lib.hid (by
     have h:=Qt5 K (.slice fa m fc) (.slice na m nc) fin' rows' w3 (by rw [hl1,hl2]) (by rw [hl2];exact hl3) (by rw [hl2];exact hl4) (fun q hq=>(HDs.out.row q hq).2.2) (by omega) ⟨fa,fc,by rw [hl1]⟩ hda.parts.2;rw [hl2] at h;exact h)
    have Hms:=Lib.hid (And.intro hl1 (And.intro hl2 (And.intro hl3 (And.intro hl4 hl5))));clear hda hl1 hl2 hl3 hl4 hl5 c0 c1 c2 c3;obtain ⟨c0,c1,c2,c3⟩:=CY.out w3 (Flow.grow_refl _);have t0:((K:Int) != (K:Int))=false:=by simp
    go_upto_region 8 with (go_at_call 18;refine HFm.out.mono ?_;rintro e w4 ⟨⟨b,rfl,hb⟩,hg⟩;have HG4:=Lib.hid hg;have HBx:=Lib.hid hb;clear hg hb c0 c1 c2 c3;obtain ⟨c0,c1,c2,c3⟩:=CY.out w4 HG4.out;cases b)
    ·go_ret2;exact ⟨.inl rfl,(HG0.out.trans (HG.out.trans HY.out)).trans HG4.out⟩
    ·clear c0 c1 c2 c3;obtain ⟨c0,c1,c2,c3⟩:=CY.out w4 HG4.out;have HPe:Hid (Pr.PeerO w4 wb.heap.size ls j [.int .i64 (j:Int),.slice ya K yc,.int .i64 (K:Int),.int .i64 0,.slice fa m fc,.slice na m nc] ⟨ax,fin',rows'⟩):=Lib.hid (by
      refine ⟨G,.slice ya K yc,.slice fa m fc,.slice na m nc,rs',by rw [HKe.out],by rw [← HKe.out];exact HDs.out.grow HG4.out,by rw [← HKe.out];exact Qab (Pr.own_mono HOs.out HG.out.size) HG4.out,?_⟩;have h2:=Hms.out.2.1
      exact { acts:=by rw [Hax.out,Hll.out]
              fin:=by rw [Hms.out.1,h2]
              pos:=by rw [h2];exact Hms.out.2.2.1
              few:=by rw [h2];exact Hms.out.2.2.2.1
              len:=fun q hq=>by rw [← HKe.out];exact (HDs.out.row q hq).2.2
              rng:=fun q c hq hc=>by
               have h3:=HBx.out trivial q c (by rw [← h2];exact hq) (by rw [HKe.out];exact hc);rw [h2];exact h3 })
     have HPw:=Lib.hid (HP.out.grow (HY.out.trans HG4.out));have HPown:Hid (w4.ownsRow wb.heap.size 69 6 (.slice oa j oc) j css.flatten):=Lib.hid (by have h:=HPw.out.own;rw [← Hj.out] at h;exact h);go_wp2_with (at_builtin;refine Qbq (W:=wb) rfl _ _ 31 rfl 69 i0 _ 6 96 Tryz.underlying31 hi hz0 hz1 hz2 rfl (by decide) (.slice oa j oc) j css.flatten rfl (Qab HPown.out (Flow.grow_alloc _ _)) ((HG.out.trans (HY.out.trans HG4.out)).trans (Flow.grow_alloc _ _)) _ #[.int .i64 (j:Int),.slice ya K yc,.int .i64 (K:Int),.int .i64 0,.slice fa m fc,.slice na m nc] 69 rfl (heap_alloc_new _ _) rfl (by intro u hu;simp at hu;rcases hu with rfl | rfl | rfl | rfl | rfl | rfl <;> rfl) (by omega) (by decide) ?_;intro v' w' hO hGw hf hk;have HO2:=Lib.hid hO;have HG5:=Lib.hid hGw;have HK5:=Lib.hid hk;obtain ⟨g,c',rfl,_⟩:=hf;clear hO hGw hk);go_roundw
     case rel=>exact ⟨css++[[.int .i64 (j:Int),.slice ya K yc,.int .i64 (K:Int),.int .i64 0,.slice fa m fc,.slice na m nc]],ps++[⟨ax,fin',rows'⟩],by rw [List.length_append,← Hj.out];simp;omega,by rw [List.length_append,← Hj.out];go_num,Lib.hid ((HPw.out.grow (Flow.grow_alloc _ _)).push (by rw [← Hj.out];exact HPe.out.grow (Flow.grow_alloc _ _)) (by rw [← Hj.out];exact HO2.out) HK5.out),HG5⟩
     case measure=>simp [intOf];omega
  ·obtain rfl:3=j:=by omega
   go_wp2_with fail;go_ret2;refine ⟨.inr ⟨_,css,ps,rfl,?_⟩,HG0.out.trans HG.out⟩;have hps:ps.length=3:=Hj.out.symm;exact ⟨by have h:=Seg.of_own HP.out.own;rw [hps] at h;exact h,by rw [HP.out.len,hps],hps,fun i hi=>(HP.out.row i (by omega)).at_ (by
    obtain ⟨_,_,_,_,_,_,_,_,h⟩:=HP.out.row i (by omega);rw [h.acts];have:=Pr.acts_len i ls ls.length;have:=Hll.out;omega)⟩
end Go.Proofs.YtcpodmjcgfgmnaaGreat
