/- alpha.Find by its contract: a search by halves in what is sorted. -/
import Derived.Test.YtcnmaplopbbmaaaGreatMAh
namespace Go.Proofs.YtcnmaplopbbmaaaGreat
open Go.RowKit
theorem Flow.exec_callT {P:Program} {w:World} {a:Act} {o:Oper} {f:Operand} {x:Array Operand} {ts:Array TypeId} {fn:FuncId} {g:Func} {args:Array Value} (ho:o.op=.call { callee:=.value f,args:=x,argTypes:=ts })
  (hv : a.eval f = .func (.func fn) #[] #[]) (hf : P.funcs[fn]? = some g) (hn : (g.name == "runtime.NumGoroutine") = false) (hb : g.body.isNone = false) (h : x.map a.eval = args) :
  (execOp a.eval o).run P w=.ok (.enter fn args) w:=by
 subst h
 have hn' : ¬ g.name = "runtime.NumGoroutine" := by simpa using hn
 have hb':¬ g.body=none:=by cases hg:g.body <;> simp_all
 have hc:∀ args,(callFunc fn args).run P w=.ok (.enter fn args) w:=fun args=>by
  simp [callFunc,hf,hn',hb']
 simp [execOp,ho,hv,resolve,invoke,Deferred.ofValue,hc]
namespace Gr
def ltL (a b:Lb):Prop:=a.1 < b.1∨(a.1=b.1∧(a.2.1 < b.2.1∨(a.2.1=b.2.1∧a.2.2 < b.2.2)))
theorem ltL_trans {a b c:Lb} (h:ltL a b) (k:ltL b c):ltL a c:=by unfold ltL at *;omega
theorem ltL_ne {a b:Lb} (h:ltL a b):a≠b:=by rintro rfl;unfold ltL at h;omega
theorem cmpInt_cases (x y:Int):(x < y∧Lib.compareInt x y=-1)∨(x=y∧Lib.compareInt x y=0)∨(y < x∧Lib.compareInt x y=1):=by
 unfold Lib.compareInt
 split
 ·exact .inl ⟨by assumption,rfl⟩
 ·split
  ·exact .inr (.inr ⟨by omega,rfl⟩)
  ·exact .inr (.inl ⟨by omega,rfl⟩)
theorem cmpL_cases (a b:Lb):(ltL a b∧cmpL a b=-1)∨(a=b∧cmpL a b=0)∨(ltL b a∧cmpL a b=1):=by
 obtain ⟨a0,a1,a2⟩:=a
 obtain ⟨b0,b1,b2⟩:=b
 unfold cmpL ltL
 simp only
 rcases cmpInt_cases a0 b0 with ⟨h,e⟩ | ⟨h,e⟩ | ⟨h,e⟩ <;> rw [e]
 ·exact .inl ⟨by omega,rfl⟩
 ·rcases cmpInt_cases a1 b1 with ⟨h1,e⟩ | ⟨h1,e⟩ | ⟨h1,e⟩ <;> rw [e]
  ·exact .inl ⟨by omega,rfl⟩
  ·rcases cmpInt_cases a2 b2 with ⟨h2,e⟩ | ⟨h2,e⟩ | ⟨h2,e⟩ <;> rw [e]
   ·exact .inl ⟨by omega,rfl⟩
   ·exact .inr (.inl ⟨by rw [h,h1,h2],rfl⟩)
   ·exact .inr (.inr ⟨by omega,rfl⟩)
  ·exact .inr (.inr ⟨by omega,rfl⟩)
 ·exact .inr (.inr ⟨by omega,rfl⟩)
theorem cmpL_neg {a b:Lb}:cmpL a b < 0↔ltL a b:=by
 rcases cmpL_cases a b with ⟨h,e⟩ | ⟨h,e⟩ | ⟨h,e⟩
 ·exact ⟨fun _=>h,fun _=>by omega⟩
 ·exact ⟨fun k=>by omega,fun k=>absurd h (ltL_ne k)⟩
 ·exact ⟨fun k=>by omega,fun k=>absurd rfl (ltL_ne (ltL_trans h k))⟩
theorem cmpL_zero {a b:Lb}:cmpL a b=0↔a=b:=by
 rcases cmpL_cases a b with ⟨h,e⟩ | ⟨h,e⟩ | ⟨h,e⟩
 ·exact ⟨fun k=>by omega,fun k=>absurd k (ltL_ne h)⟩
 ·exact ⟨fun _=>h,fun _=>e⟩
 ·exact ⟨fun k=>by omega,fun k=>absurd k.symm (ltL_ne h)⟩
def LbsAt (w:World) (v:Value) (L:List Lb):Prop:=Recs 3 lcells w v L
theorem lcells_len (l:Lb):(lcells l).length=3:=rfl
theorem LbsAt.at {w:World} {a:Option Addr} {n cap:Nat} {L:List Lb} (h:LbsAt w (.slice a n cap) L) {j:Nat} (hj:j < L.length):∃ b off,a=some ⟨b,off,none⟩ ∧
  w.cell? ⟨b,off+j * 3,none⟩=some (.int .i64 (L.getD j (0,0,0)).1)∧w.cell? ⟨b,off+j * 3+1,none⟩=some (.int .i64 (L.getD j (0,0,0)).2.1)∧w.cell? ⟨b,off+j * 3+2,none⟩=some (.int .i64 (L.getD j (0,0,0)).2.2):=by
 have hx:L[j]? = some (L.getD j (0,0,0)):=by rw [List.getD_eq_getElem?_getD,List.getElem?_eq_getElem hj];rfl
 obtain ⟨b,off,rfl,hc⟩:=Recs.at lcells_len (by omega) h hx
 refine ⟨b,off,rfl,hc 0 _ rfl,?_,?_⟩ <;> rw [Nat.add_assoc]
 ·exact hc 1 _ rfl
 ·exact hc 2 _ rfl
def Srt (L:List Lb):Prop:=∀ i j,i < j→j < L.length→ltL (L.getD i (0,0,0)) (L.getD j (0,0,0))
theorem idx_hit {L:List Lb} {x:Lb} {i:Nat} (hi:i < L.length) (h:L.getD i (0,0,0)=x) (hn:∀ k,k < i→L.getD k (0,0,0)≠x):idx L x=(i:Int):=by
 unfold idx
 have:L.findIdx? (fun y=>decide (y=x))=some i:=by
  rw [List.findIdx?_eq_some_iff_getElem]
  refine ⟨hi,by simpa [hi] using h,fun k hk=>?_⟩
  have:=hn k hk
  simpa [show k < L.length by omega] using this
 rw [this]
theorem idx_miss {L:List Lb} {x:Lb} (hn:∀ k,k < L.length→L.getD k (0,0,0)≠x):idx L x=-1:=by
 unfold idx
 have:L.findIdx? (fun y=>decide (y=x))=none:=by
  rw [List.findIdx?_eq_none_iff]
  intro y hy
  obtain ⟨k,hk,rfl⟩:=List.mem_iff_getElem.1 hy
  have:=hn k hk
  simpa [hk] using this
 rw [this]
def SrP (L:List Lb) (x:Lb) (e:Ending):Prop:=∃ (i:Nat) (b:Bool),e=.returned (.tuple #[.int .i64 i,.bool b])∧(b=true→idx L x=i)∧(b=false→idx L x=-1)
end Gr
set_option maxRecDepth 100000 in
set_option maxHeartbeats 2000000 in
theorem search_any (v:Value) (L:List Gr.Lb) (x:Gr.Lb) (W:World) (hL:L.length≤1000000) (hS:Gr.Srt L) (h:Gr.LbsAt W v L) :
  Calls Tryz.prog 112 #[v,.agg (Gr.lcells x).toArray,.func (.func 48) #[] #[]] W fun e w'=>Gr.SrP L x e∧Flow.Grow W w':=by
 have H:=Lib.hid h
 obtain ⟨ao,ac,rfl⟩:=h.form
 obtain ⟨n,hn⟩:∃ k,k=L.length:=⟨_,rfl⟩
 have Hn:=Lib.hid hn
 rw [← hn] at hL H ⊢
 have HSt:=Lib.hid hS
 clear h hn hS
 have HCm:=Lib.hid compare_any
 obtain ⟨x0,x1,x2⟩:=x
 show Calls _ _ #[_,.agg #[.int .i64 x0,.int .i64 x1,.int .i64 x2],_] W _
 go_enter Tryz.func112,Tryz.ntmps112
 go_upto_region 1 with fail
 obtain ⟨w1,hw1⟩:∃ w1,w1=W.alloc (.cells #[.int .i64 x0,.int .i64 x1,.int .i64 x2] 104):=⟨_,rfl⟩
 have HG1:Hid (Flow.Grow W w1):=Lib.hid (by rw [hw1];exact Flow.grow_alloc _ _)
 obtain ⟨X,hX⟩:∃ X,X=W.heap.size:=⟨_,rfl⟩
 have HX:Hid (w1.heap[X]? = some (.cells #[.int .i64 x0,.int .i64 x1,.int .i64 x2] 104 (0,0))):=Lib.hid (by rw [hw1,hX];exact heap_alloc_new W _)
 rw [← hw1,← hX]
 clear hw1 hX
 have q0:w1.cell? ⟨X,0,none⟩=some (.int .i64 x0):=(cell_of_row w1 X 0 _ _ _ HX.out).trans rfl
 have q1:w1.cell? ⟨X,1,none⟩=some (.int .i64 x1):=(cell_of_row w1 X 1 _ _ _ HX.out).trans rfl
 have q2:w1.cell? ⟨X,2,none⟩=some (.int .i64 x2):=(cell_of_row w1 X 2 _ _ _ HX.out).trans rfl
 have HQ:=Lib.hid fun (w:World) (hg:Flow.Grow w1 w)=>(And.intro (Xm2.cell_grow hg q0) (And.intro (Xm2.cell_grow hg q1) (Xm2.cell_grow hg q2)))
 clear q0 q1 q2 HX
 go_wp2_with fail
 go_loopw [9,10] (fun vi vj wr=>∃ i j:Nat,vi=.int .i64 i∧vj=.int .i64 j∧i≤j∧j≤n∧Hid (∀ k,k < i→Gr.ltL (L.getD k (0,0,0)) (x0,x1,x2))∧Hid (∀ k,j≤k→k < n→¬ Gr.ltL (L.getD k (0,0,0)) (x0,x1,x2))∧Hid (Flow.Grow w1 wr)) (fun vi vj _=>(intOf vj).toNat - (intOf vi).toNat)
 case atStart=>exact ⟨0,n,rfl,rfl,by omega,by omega,Lib.hid (fun k hk=>by omega),Lib.hid (fun k h1 h2=>by omega),Lib.hid (Flow.grow_refl _)⟩
 case round =>
  obtain ⟨i,j,rfl,rfl,hij,hjn,HA,HB,HG⟩:=hrel
  rename World=>wr
  by_cases hlt:i < j
  ·obtain ⟨m,hm⟩:∃ m,m=(i+j) / 2:=⟨_,rfl⟩
   have hm1:i≤m:=by omega
   have hm2:m < j:=by omega
   obtain ⟨b,off,rfl,p0,p1,p2⟩:=Gr.LbsAt.at H.out (j:=m) (by rw [← Hn.out];omega)
   have hlt':(i:Int) < (j:Int):=by omega
   go_upto_region 5 with fail
   rw [show ((i:Int)+(j:Int)) / 2=(m:Int) by omega]
   have HMm:Hid (m < n):=Lib.hid (by omega)
   have hmn:=HMm.out
   have HL:Hid (Gr.cmpL (L.getD m (0,0,0)) (x0,x1,x2) < 0↔Gr.ltL (L.getD m (0,0,0)) (x0,x1,x2)):=Lib.hid Gr.cmpL_neg
   have HCc:=Lib.hid (HCm.out (L.getD m (0,0,0)) (x0,x1,x2))
   obtain ⟨y,hy⟩:∃ y,y=L.getD m (0,0,0):=⟨_,rfl⟩
   have Hy:=Lib.hid hy
   rw [← hy] at p0 p1 p2 HL HCc
   clear hy
   obtain ⟨y0,y1,y2⟩:=y
   simp only at p0 p1 p2
   generalize Gr.cmpL (y0,y1,y2) (x0,x1,x2)=cc at *
   have HPq:Hid (Flow.Grow W wr):=Lib.hid (HG1.out.trans HG.out)
   refine Flow.region_grown (Fs:=[.inl ((.func (.func 48) #[] #[])),.inl ((.slice (some ⟨b,off,none⟩) n ac)),.inl ((.int .i64 (m:Int))),.inl ((.pointer (some ⟨b,off+m * 3,none⟩))),.inl ((.agg #[.int .i64 y0,.int .i64 y1,.int .i64 y2])),.inl ((.agg #[.int .i64 x0,.int .i64 x1,.int .i64 x2])),.inl ((.int .i64 cc)),.inl ((.bool (decide (cc < 0))))])
    (S:=[[],[],[],[1,2],[3],[],[0,4,5],[6]]) (by kernel_rfl) (by kernel_rfl) (by kernel_rfl) rfl ?stab5 ?ones5 ?ends5
   case ones5 =>
    refine Flow.Ones.cons ?_ ?_
    ·intro a w hC hoff _
     have e2:a.eval (.tmp 2)=(.func (.func 48) #[] #[]):=hoff.at 2 (by kernel_rfl)
     refine .inl ⟨Flow.want_none rfl,?_⟩
     exact Flow.run_same (Flow.exec_move (.inl rfl) e2) Flow.grow_refl
    refine Flow.Ones.cons ?_ ?_
    ·intro a w hC hoff _
     have e0:a.eval (.tmp 0)=(.slice (some ⟨b,off,none⟩) n ac):=hoff.at 0 (by kernel_rfl)
     refine .inl ⟨Flow.want_none rfl,?_⟩
     exact Flow.run_same (Flow.exec_move (.inl rfl) e0) Flow.grow_refl
    refine Flow.Ones.cons ?_ ?_
    ·intro a w hC hoff _
     have e11:a.eval (.tmp 11)=(.int .i64 (m:Int)):=hoff.at 11 (by kernel_rfl)
     refine .inl ⟨Flow.want_none rfl,?_⟩
     exact Flow.run_same (Flow.exec_move (.inl rfl) e11) Flow.grow_refl
    refine Flow.Ones.cons ?_ ?_
    ·rintro a w hC hoff ⟨k1,k2,-⟩
     have e25:a.eval (.tmp 25)=(.slice (some ⟨b,off,none⟩) n ac):=k1 25 rfl
     have e26:a.eval (.tmp 26)=(.int .i64 (m:Int)):=k2 26 rfl
     refine .inl ⟨Flow.want_none rfl,?_⟩
     refine Flow.run_same ?_ Flow.grow_refl
     have ec:=Flow.eval_const a
     generalize a.eval=ρ at e25 e26 ec ⊢
     simp [execOp,e25,e26,go_sem];intro hh;omega
    refine Flow.Ones.cons ?_ ?_
    ·rintro a w hC hoff ⟨k3,-⟩
     have e27:a.eval (.tmp 27)=(.pointer (some ⟨b,off+m * 3,none⟩)):=k3 27 rfl
     refine .inl ⟨Flow.want_none rfl,?_⟩
     refine Flow.run_same ?_ Flow.grow_refl
     have ec:=Flow.eval_const a
     generalize a.eval=ρ at e27 ec ⊢
     have h0:=Xm2.cell_grow (HPq.out.trans hC) p0
     have h1:=Xm2.cell_grow (HPq.out.trans hC) p1
     have h2:=Xm2.cell_grow (HPq.out.trans hC) p2
     simp [execOp,e27,h0,h1,h2,go_sem]
    refine Flow.Ones.cons ?_ ?_
    ·intro a w hC hoff _
     have e4:a.eval (.tmp 4)=(.pointer (some ⟨X,0,none⟩)):=hoff.at 4 (by kernel_rfl)
     refine .inl ⟨Flow.want_none rfl,?_⟩
     refine Flow.run_same ?_ Flow.grow_refl
     have ec:=Flow.eval_const a
     generalize a.eval=ρ at e4 ec ⊢
     obtain ⟨h0,h1,h2⟩:=HQ.out w (HG.out.trans hC)
     simp [execOp,e4,h0,h1,h2,go_sem]
    refine Flow.Ones.cons ?_ ?_
    ·rintro a w hC hoff ⟨k0,k4,k5,-⟩
     have e24:a.eval (.tmp 24)=(.func (.func 48) #[] #[]):=k0 24 rfl
     have e28:a.eval (.tmp 28)=(.agg #[.int .i64 y0,.int .i64 y1,.int .i64 y2]):=k4 28 rfl
     have e29:a.eval (.tmp 29)=(.agg #[.int .i64 x0,.int .i64 x1,.int .i64 x2]):=k5 29 rfl
     refine .inl ⟨Flow.want_none rfl,?_⟩
     exact Flow.run_call (Flow.exec_callT rfl e24 Tryz.func48 (by kernel_rfl) (by kernel_rfl) (by simp [e28,e29,Gr.lcells])) ((HCc.out w).mono fun e w' ⟨he,hg⟩=>⟨_,he,hg,rfl⟩)
    refine Flow.Ones.cons ?_ ?_
    ·rintro a w hC hoff ⟨k6,-⟩
     have e30:a.eval (.tmp 30)=(.int .i64 cc):=k6 30 rfl
     refine .inl ⟨Flow.want_none rfl,?_⟩
     refine Flow.run_same ?_ Flow.grow_refl
     have ec:=Flow.eval_const a
     generalize a.eval=ρ at e30 ec ⊢
     simp [execOp,e30,ec,go_sem]
    exact trivial
   case stab5=>exact trivial
   case ends5 =>
    intro w' hg
    simp only [Flow.ends]
    simp only [Act.put,List.setIfInBounds_toArray,List.set_cons_succ,List.set_cons_zero]
    have HG2:=Lib.hid (HG.out.trans hg)
    clear hg
    by_cases hcc:cc < 0
    ·have d0:decide (cc < 0)=true:=by simp [hcc]
     have hl:=HL.out.1 hcc
     have HA2:Hid (∀ k,k < m+1→Gr.ltL (L.getD k (0,0,0)) (x0,x1,x2)):=Lib.hid fun k hk=>by
      by_cases e:k=m
      ·rw [e,← Hy.out];exact hl
      ·have:=HSt.out k m (by omega) (by rw [← Hn.out];exact HMm.out)
       rw [← Hy.out] at this
       exact Gr.ltL_trans this hl
     clear hl hcc
     rw [d0]
     go_wp2_with fail
     go_roundw
     case rel=>exact ⟨m+1,j,by go_num,rfl,by omega,hjn,HA2,HB,HG2⟩
     case measure=>simp [intOf];omega
    ·have d0:decide (cc < 0)=false:=by simp [hcc]
     have hl:=fun h=>hcc (HL.out.2 h)
     have HB2:Hid (∀ k,m≤k→k < n→¬ Gr.ltL (L.getD k (0,0,0)) (x0,x1,x2)):=Lib.hid fun k hk hkn h=>by
      by_cases e:k=m
      ·rw [e,← Hy.out] at h;exact hl h
      ·have:=HSt.out m k (by omega) (by rw [← Hn.out];exact hkn)
       rw [← Hy.out] at this
       exact hl (Gr.ltL_trans this h)
     clear hl hcc
     rw [d0]
     go_wp2_with fail
     go_roundw
     case rel=>exact ⟨i,m,rfl,rfl,by omega,by omega,HA,HB2,HG2⟩
     case measure=>simp [intOf];omega
  ·obtain rfl:i=j:=by omega
   have hlt':¬ (i:Int) < (i:Int):=by omega
   have HPq:Hid (Flow.Grow W wr):=Lib.hid (HG1.out.trans HG.out)
   by_cases hin:i < n
   ·obtain ⟨b,off,rfl,p0,p1,p2⟩:=Gr.LbsAt.at H.out (j:=i) (by rw [← Hn.out];omega)
    have HL:Hid (Gr.cmpL (L.getD i (0,0,0)) (x0,x1,x2)=0↔L.getD i (0,0,0)=(x0,x1,x2)):=Lib.hid Gr.cmpL_zero
    have HCc:=Lib.hid (HCm.out (L.getD i (0,0,0)) (x0,x1,x2))
    have HI1:Hid (L.getD i (0,0,0)=(x0,x1,x2)→Gr.idx L (x0,x1,x2)=i):=Lib.hid fun h=>Gr.idx_hit (by rw [← Hn.out];exact hin) h fun k hk=>Gr.ltL_ne (HA.out k hk)
    have HI2:Hid (¬ L.getD i (0,0,0)=(x0,x1,x2)→Gr.idx L (x0,x1,x2)=-1):=Lib.hid fun h=>Gr.idx_miss fun k hk e=>by
     rw [← Hn.out] at hk
     by_cases h1:k < i
     ·exact Gr.ltL_ne (HA.out k h1) e
     ·by_cases h2:k=i
      ·rw [h2] at e;exact h e
      ·have:=HSt.out i k (by omega) (by rw [← Hn.out];exact hk)
       rw [e] at this
       exact HB.out i (Nat.le_refl _) hin this
    obtain ⟨y,hy⟩:∃ y,y=L.getD i (0,0,0):=⟨_,rfl⟩
    rw [← hy] at p0 p1 p2 HL HCc HI1 HI2
    clear hy
    obtain ⟨y0,y1,y2⟩:=y
    simp only at p0 p1 p2
    generalize Gr.cmpL (y0,y1,y2) (x0,x1,x2)=cc at *
    have hin':(i:Int) < (n:Int):=by omega
    go_upto_region 8 with fail
    refine Flow.region_grown (Fs:=[.inl ((.int .i64 (i:Int))),.inl ((.int .i64 (i:Int))),.inl ((.int .i64 (n:Int))),.inl ((.bool true)),.inl ((.bool true)),.inl ((.func (.func 48) #[] #[])),.inl ((.slice (some ⟨b,off,none⟩) n ac)),.inl ((.int .i64 (i:Int))),.inl ((.pointer (some ⟨b,off+i * 3,none⟩))),.inl ((.agg #[.int .i64 y0,.int .i64 y1,.int .i64 y2])),.inl ((.agg #[.int .i64 x0,.int .i64 x1,.int .i64 x2])),.inl ((.int .i64 cc)),.inl ((.bool (cc == 0))),.inl ((.bool (cc == 0))),.inl ((.int .i64 (i:Int))),.inl ((.bool (cc == 0)))])
     (S:=[[],[],[],[1,2],[3],[4],[4],[4],[6,7,4],[8,4],[4],[5,9,10,4],[11,4],[4,12],[0],[13]]) (by kernel_rfl) (by kernel_rfl) (by kernel_rfl) rfl ?stab8 ?ones8 ?ends8
    case ones8 =>
     refine Flow.Ones.cons ?_ ?_
     ·intro a w hC hoff _
      have e9:a.eval (.tmp 9)=(.int .i64 (i:Int)):=hoff.at 9 (by kernel_rfl)
      refine .inl ⟨Flow.want_none rfl,?_⟩
      exact Flow.run_same (Flow.exec_move (.inl rfl) e9) Flow.grow_refl
     refine Flow.Ones.cons ?_ ?_
     ·intro a w hC hoff _
      have e9:a.eval (.tmp 9)=(.int .i64 (i:Int)):=hoff.at 9 (by kernel_rfl)
      refine .inl ⟨Flow.want_none rfl,?_⟩
      exact Flow.run_same (Flow.exec_move (.inl rfl) e9) Flow.grow_refl
     refine Flow.Ones.cons ?_ ?_
     ·intro a w hC hoff _
      have e8:a.eval (.tmp 8)=(.int .i64 (n:Int)):=hoff.at 8 (by kernel_rfl)
      refine .inl ⟨Flow.want_none rfl,?_⟩
      exact Flow.run_same (Flow.exec_move (.inl rfl) e8) Flow.grow_refl
     refine Flow.Ones.cons ?_ ?_
     ·rintro a w hC hoff ⟨k1,k2,-⟩
      have e36:a.eval (.tmp 36)=(.int .i64 (i:Int)):=k1 36 rfl
      have e37:a.eval (.tmp 37)=(.int .i64 (n:Int)):=k2 37 rfl
      refine .inl ⟨Flow.want_none rfl,?_⟩
      refine Flow.run_same ?_ Flow.grow_refl
      have ec:=Flow.eval_const a
      generalize a.eval=ρ at e36 e37 ec ⊢
      simp [execOp,e36,e37,go_sem];omega
     refine Flow.Ones.cons ?_ ?_
     ·rintro a w hC hoff ⟨k3,-⟩
      have e38:a.eval (.tmp 38)=(.bool true):=k3 38 rfl
      refine .inl ⟨Flow.want_none rfl,?_⟩
      exact Flow.run_same (Flow.exec_move (.inl rfl) e38) Flow.grow_refl
     refine Flow.Ones.cons ?_ ?_
     ·rintro a w hC hoff ⟨k4,-⟩
      have e39:a.eval (.tmp 39)=(.bool true):=k4 39 rfl
      have e2:a.eval (.tmp 2)=(.func (.func 48) #[] #[]):=hoff.at 2 (by kernel_rfl)
      refine .inl ⟨Flow.want_yes rfl rfl e39,?_⟩
      exact Flow.run_same (Flow.exec_move (.inl rfl) e2) Flow.grow_refl
     refine Flow.Ones.cons ?_ ?_
     ·rintro a w hC hoff ⟨k4,-⟩
      have e39:a.eval (.tmp 39)=(.bool true):=k4 39 rfl
      have e0:a.eval (.tmp 0)=(.slice (some ⟨b,off,none⟩) n ac):=hoff.at 0 (by kernel_rfl)
      refine .inl ⟨Flow.want_yes rfl rfl e39,?_⟩
      exact Flow.run_same (Flow.exec_move (.inl rfl) e0) Flow.grow_refl
     refine Flow.Ones.cons ?_ ?_
     ·rintro a w hC hoff ⟨k4,-⟩
      have e39:a.eval (.tmp 39)=(.bool true):=k4 39 rfl
      have e9:a.eval (.tmp 9)=(.int .i64 (i:Int)):=hoff.at 9 (by kernel_rfl)
      refine .inl ⟨Flow.want_yes rfl rfl e39,?_⟩
      exact Flow.run_same (Flow.exec_move (.inl rfl) e9) Flow.grow_refl
     refine Flow.Ones.cons ?_ ?_
     ·rintro a w hC hoff ⟨k6,k7,k4,-⟩
      have e41:a.eval (.tmp 41)=(.slice (some ⟨b,off,none⟩) n ac):=k6 41 rfl
      have e42:a.eval (.tmp 42)=(.int .i64 (i:Int)):=k7 42 rfl
      have e39:a.eval (.tmp 39)=(.bool true):=k4 39 rfl
      refine .inl ⟨Flow.want_yes rfl rfl e39,?_⟩
      refine Flow.run_same ?_ Flow.grow_refl
      have ec:=Flow.eval_const a
      generalize a.eval=ρ at e41 e42 ec ⊢
      simp [execOp,e41,e42,go_sem];intro hh;omega
     refine Flow.Ones.cons ?_ ?_
     ·rintro a w hC hoff ⟨k8,k4,-⟩
      have e43:a.eval (.tmp 43)=(.pointer (some ⟨b,off+i * 3,none⟩)):=k8 43 rfl
      have e39:a.eval (.tmp 39)=(.bool true):=k4 39 rfl
      refine .inl ⟨Flow.want_yes rfl rfl e39,?_⟩
      refine Flow.run_same ?_ Flow.grow_refl
      have ec:=Flow.eval_const a
      generalize a.eval=ρ at e43 ec ⊢
      have h0:=Xm2.cell_grow (HPq.out.trans hC) p0
      have h1:=Xm2.cell_grow (HPq.out.trans hC) p1
      have h2:=Xm2.cell_grow (HPq.out.trans hC) p2
      simp [execOp,e43,h0,h1,h2,go_sem]
     refine Flow.Ones.cons ?_ ?_
     ·rintro a w hC hoff ⟨k4,-⟩
      have e39:a.eval (.tmp 39)=(.bool true):=k4 39 rfl
      have e4:a.eval (.tmp 4)=(.pointer (some ⟨X,0,none⟩)):=hoff.at 4 (by kernel_rfl)
      refine .inl ⟨Flow.want_yes rfl rfl e39,?_⟩
      refine Flow.run_same ?_ Flow.grow_refl
      have ec:=Flow.eval_const a
      generalize a.eval=ρ at e4 ec ⊢
      obtain ⟨h0,h1,h2⟩:=HQ.out w (HG.out.trans hC)
      simp [execOp,e4,h0,h1,h2,go_sem]
     refine Flow.Ones.cons ?_ ?_
     ·rintro a w hC hoff ⟨k5,k9,k10,k4,-⟩
      have e40:a.eval (.tmp 40)=(.func (.func 48) #[] #[]):=k5 40 rfl
      have e44:a.eval (.tmp 44)=(.agg #[.int .i64 y0,.int .i64 y1,.int .i64 y2]):=k9 44 rfl
      have e45:a.eval (.tmp 45)=(.agg #[.int .i64 x0,.int .i64 x1,.int .i64 x2]):=k10 45 rfl
      have e39:a.eval (.tmp 39)=(.bool true):=k4 39 rfl
      refine .inl ⟨Flow.want_yes rfl rfl e39,?_⟩
      exact Flow.run_call (Flow.exec_callT rfl e40 Tryz.func48 (by kernel_rfl) (by kernel_rfl) (by simp [e44,e45,Gr.lcells])) ((HCc.out w).mono fun e w' ⟨he,hg⟩=>⟨_,he,hg,rfl⟩)
     refine Flow.Ones.cons ?_ ?_
     ·rintro a w hC hoff ⟨k11,k4,-⟩
      have e46:a.eval (.tmp 46)=(.int .i64 cc):=k11 46 rfl
      have e39:a.eval (.tmp 39)=(.bool true):=k4 39 rfl
      refine .inl ⟨Flow.want_yes rfl rfl e39,?_⟩
      refine Flow.run_same ?_ Flow.grow_refl
      have ec:=Flow.eval_const a
      generalize a.eval=ρ at e46 ec ⊢
      simp [execOp,e46,ec,go_sem]
     refine Flow.Ones.cons ?_ ?_
     ·rintro a w hC hoff ⟨k4,k12,-⟩
      have e39:a.eval (.tmp 39)=(.bool true):=k4 39 rfl
      have e47:a.eval (.tmp 47)=(.bool (cc == 0)):=k12 47 rfl
      refine .inl ⟨Flow.want_none rfl,?_⟩
      refine Flow.run_same ?_ Flow.grow_refl
      have ec:=Flow.eval_const a
      generalize a.eval=ρ at e39 e47 ec ⊢
      simp [execOp,e39,e47,ec,go_sem]
     refine Flow.Ones.cons ?_ ?_
     ·rintro a w hC hoff ⟨k0,-⟩
      have e35:a.eval (.tmp 35)=(.int .i64 (i:Int)):=k0 35 rfl
      refine .inl ⟨Flow.want_none rfl,?_⟩
      exact Flow.run_same (Flow.exec_move (.inr rfl) e35) Flow.grow_refl
     refine Flow.Ones.cons ?_ ?_
     ·rintro a w hC hoff ⟨k13,-⟩
      have e48:a.eval (.tmp 48)=(.bool (cc == 0)):=k13 48 rfl
      refine .inl ⟨Flow.want_none rfl,?_⟩
      exact Flow.run_same (Flow.exec_move (.inr rfl) e48) Flow.grow_refl
     exact trivial
    case stab8=>exact trivial
    case ends8 =>
     intro w' hg
     simp only [Flow.ends]
     simp only [Act.put,List.setIfInBounds_toArray,List.set_cons_succ,List.set_cons_zero]
     have HG2:=Lib.hid (HPq.out.trans hg)
     clear hg
     go_wp2_with fail
     go_ret2
     refine ⟨⟨i,cc == 0,rfl,fun h=>HI1.out (HL.out.1 (by simpa using h)),fun h=>HI2.out fun e=>?_⟩,HG2.out⟩
     have:=HL.out.2 e
     simp [this] at h
   ·obtain rfl:i=n:=by omega
    have HI2:Hid (Gr.idx L (x0,x1,x2)=-1):=Lib.hid (Gr.idx_miss fun k hk e=>Gr.ltL_ne (HA.out k (by rw [Hn.out];exact hk)) e)
    go_upto_region 8 with fail
    refine Flow.region_grown (Fs:=[.inl ((.int .i64 (i:Int))),.inl ((.int .i64 (i:Int))),.inl ((.int .i64 (i:Int))),.inl ((.bool false)),.inl ((.bool false)),.inl (undef),.inl (undef),.inl (undef),.inl (undef),.inl (undef),.inl (undef),.inl (undef),.inl (undef),.inl ((.bool false)),.inl ((.int .i64 (i:Int))),.inl ((.bool false))])
     (S:=[[],[],[],[1,2],[3],[4],[4],[4],[6,7,4],[8,4],[4],[5,9,10,4],[11,4],[4,12],[0],[13]]) (by kernel_rfl) (by kernel_rfl) (by kernel_rfl) rfl ?stab8 ?ones8 ?ends8
    case ones8 =>
     refine Flow.Ones.cons ?_ ?_
     ·intro a w hC hoff _
      have e9:a.eval (.tmp 9)=(.int .i64 (i:Int)):=hoff.at 9 (by kernel_rfl)
      refine .inl ⟨Flow.want_none rfl,?_⟩
      exact Flow.run_same (Flow.exec_move (.inl rfl) e9) Flow.grow_refl
     refine Flow.Ones.cons ?_ ?_
     ·intro a w hC hoff _
      have e9:a.eval (.tmp 9)=(.int .i64 (i:Int)):=hoff.at 9 (by kernel_rfl)
      refine .inl ⟨Flow.want_none rfl,?_⟩
      exact Flow.run_same (Flow.exec_move (.inl rfl) e9) Flow.grow_refl
     refine Flow.Ones.cons ?_ ?_
     ·intro a w hC hoff _
      have e8:a.eval (.tmp 8)=(.int .i64 (i:Int)):=hoff.at 8 (by kernel_rfl)
      refine .inl ⟨Flow.want_none rfl,?_⟩
      exact Flow.run_same (Flow.exec_move (.inl rfl) e8) Flow.grow_refl
     refine Flow.Ones.cons ?_ ?_
     ·rintro a w hC hoff ⟨k1,k2,-⟩
      have e36:a.eval (.tmp 36)=(.int .i64 (i:Int)):=k1 36 rfl
      have e37:a.eval (.tmp 37)=(.int .i64 (i:Int)):=k2 37 rfl
      refine .inl ⟨Flow.want_none rfl,?_⟩
      refine Flow.run_same ?_ Flow.grow_refl
      have ec:=Flow.eval_const a
      generalize a.eval=ρ at e36 e37 ec ⊢
      simp [execOp,e36,e37,go_sem]
     refine Flow.Ones.cons ?_ ?_
     ·rintro a w hC hoff ⟨k3,-⟩
      have e38:a.eval (.tmp 38)=(.bool false):=k3 38 rfl
      refine .inl ⟨Flow.want_none rfl,?_⟩
      exact Flow.run_same (Flow.exec_move (.inl rfl) e38) Flow.grow_refl
     refine Flow.Ones.cons ?_ ?_
     ·rintro a w hC hoff ⟨k4,-⟩
      have e39:a.eval (.tmp 39)=(.bool false):=k4 39 rfl
      have e2:a.eval (.tmp 2)=(.func (.func 48) #[] #[]):=hoff.at 2 (by kernel_rfl)
      exact .inr ⟨Flow.want_no rfl rfl e39,rfl⟩
     refine Flow.Ones.cons ?_ ?_
     ·rintro a w hC hoff ⟨k4,-⟩
      have e39:a.eval (.tmp 39)=(.bool false):=k4 39 rfl
      have e0:a.eval (.tmp 0)=(.slice ao i ac):=hoff.at 0 (by kernel_rfl)
      exact .inr ⟨Flow.want_no rfl rfl e39,rfl⟩
     refine Flow.Ones.cons ?_ ?_
     ·rintro a w hC hoff ⟨k4,-⟩
      have e39:a.eval (.tmp 39)=(.bool false):=k4 39 rfl
      have e9:a.eval (.tmp 9)=(.int .i64 (i:Int)):=hoff.at 9 (by kernel_rfl)
      exact .inr ⟨Flow.want_no rfl rfl e39,rfl⟩
     refine Flow.Ones.cons ?_ ?_
     ·rintro a w hC hoff ⟨k6,k7,k4,-⟩
      have e41:a.eval (.tmp 41)=undef:=k6 41 rfl
      have e42:a.eval (.tmp 42)=undef:=k7 42 rfl
      have e39:a.eval (.tmp 39)=(.bool false):=k4 39 rfl
      exact .inr ⟨Flow.want_no rfl rfl e39,rfl⟩
     refine Flow.Ones.cons ?_ ?_
     ·rintro a w hC hoff ⟨k8,k4,-⟩
      have e43:a.eval (.tmp 43)=undef:=k8 43 rfl
      have e39:a.eval (.tmp 39)=(.bool false):=k4 39 rfl
      exact .inr ⟨Flow.want_no rfl rfl e39,rfl⟩
     refine Flow.Ones.cons ?_ ?_
     ·rintro a w hC hoff ⟨k4,-⟩
      have e39:a.eval (.tmp 39)=(.bool false):=k4 39 rfl
      have e4:a.eval (.tmp 4)=(.pointer (some ⟨X,0,none⟩)):=hoff.at 4 (by kernel_rfl)
      exact .inr ⟨Flow.want_no rfl rfl e39,rfl⟩
     refine Flow.Ones.cons ?_ ?_
     ·rintro a w hC hoff ⟨k5,k9,k10,k4,-⟩
      have e40:a.eval (.tmp 40)=undef:=k5 40 rfl
      have e44:a.eval (.tmp 44)=undef:=k9 44 rfl
      have e45:a.eval (.tmp 45)=undef:=k10 45 rfl
      have e39:a.eval (.tmp 39)=(.bool false):=k4 39 rfl
      exact .inr ⟨Flow.want_no rfl rfl e39,rfl⟩
     refine Flow.Ones.cons ?_ ?_
     ·rintro a w hC hoff ⟨k11,k4,-⟩
      have e46:a.eval (.tmp 46)=undef:=k11 46 rfl
      have e39:a.eval (.tmp 39)=(.bool false):=k4 39 rfl
      exact .inr ⟨Flow.want_no rfl rfl e39,rfl⟩
     refine Flow.Ones.cons ?_ ?_
     ·rintro a w hC hoff ⟨k4,k12,-⟩
      have e39:a.eval (.tmp 39)=(.bool false):=k4 39 rfl
      have e47:a.eval (.tmp 47)=undef:=k12 47 rfl
      refine .inl ⟨Flow.want_none rfl,?_⟩
      refine Flow.run_same ?_ Flow.grow_refl
      have ec:=Flow.eval_const a
      generalize a.eval=ρ at e39 e47 ec ⊢
      simp [execOp,e39,ec,go_sem]
     refine Flow.Ones.cons ?_ ?_
     ·rintro a w hC hoff ⟨k0,-⟩
      have e35:a.eval (.tmp 35)=(.int .i64 (i:Int)):=k0 35 rfl
      refine .inl ⟨Flow.want_none rfl,?_⟩
      exact Flow.run_same (Flow.exec_move (.inr rfl) e35) Flow.grow_refl
     refine Flow.Ones.cons ?_ ?_
     ·rintro a w hC hoff ⟨k13,-⟩
      have e48:a.eval (.tmp 48)=(.bool false):=k13 48 rfl
      refine .inl ⟨Flow.want_none rfl,?_⟩
      exact Flow.run_same (Flow.exec_move (.inr rfl) e48) Flow.grow_refl
     exact trivial
    case stab8=>exact trivial
    case ends8 =>
     intro w' hg
     simp only [Flow.ends]
     simp only [Act.put,List.setIfInBounds_toArray,List.set_cons_succ,List.set_cons_zero]
     have HG2:=Lib.hid (HPq.out.trans hg)
     clear hg
     go_wp2_with fail
     go_ret2
     exact ⟨⟨i,false,rfl,fun h=>(by cases h),fun _=>HI2.out⟩,HG2.out⟩
set_option maxRecDepth 100000 in
set_option maxHeartbeats 1000000 in
theorem find_any (v:Value) (L:List Gr.Lb) (x:Gr.Lb) (W:World) (hL:L.length≤1000000) (hS:Gr.Srt L) (h:Gr.LbsAt W v L) :
  Calls Tryz.prog 99 #[v,.agg (Gr.lcells x).toArray] W fun e w'=>e=.returned (.int .i64 (Gr.idx L x))∧Flow.Grow W w':=by
 have HSr:Hid (∀ w,Flow.Grow W w→Calls Tryz.prog 112 #[v,.agg (Gr.lcells x).toArray,.func (.func 48) #[] #[]] w fun e w'=>Gr.SrP L x e∧Flow.Grow w w'):=Lib.hid fun w hg=>search_any v L x w hL hS (Gr.Recs.grow h hg)
 obtain ⟨ao,ac,rfl⟩:=h.form
 clear h hS hL
 obtain ⟨x0,x1,x2⟩:=x
 have HS2:Hid (∀ w,Flow.Grow W w→Calls Tryz.prog 112 #[.slice ao L.length ac,.agg #[.int .i64 x0,.int .i64 x1,.int .i64 x2],.func (.func 48) #[] #[]] w fun e w'=>Gr.SrP L (x0,x1,x2) e∧Flow.Grow w w'):=HSr
 show Calls _ _ #[_,.agg #[.int .i64 x0,.int .i64 x1,.int .i64 x2]] W _
 clear HSr
 generalize L.length=n at *
 go_enter Tryz.func99,Tryz.ntmps99
 go_upto_region 2 with (go_at_call 112;refine (HS2.out _ (Flow.grow_alloc _ _)).mono ?_;rintro e w1 ⟨⟨i,b,rfl,h1,h2⟩,hg⟩;have HG:=Lib.hid ((Flow.grow_alloc _ _).trans hg);have H1:=Lib.hid h1;have H2:=Lib.hid h2;clear hg h1 h2)
 cases b with
 | false =>
  have HE:=Lib.hid (H2.out rfl)
  go_wp2_with fail
  go_ret
  exact ⟨by rw [HE.out];rfl,HG.out⟩
 | true =>
  have HE:=Lib.hid (H1.out rfl)
  go_wp2_with fail
  go_ret
  exact ⟨by rw [HE.out];rfl,HG.out⟩
end Go.Proofs.YtcnmaplopbbmaaaGreat
