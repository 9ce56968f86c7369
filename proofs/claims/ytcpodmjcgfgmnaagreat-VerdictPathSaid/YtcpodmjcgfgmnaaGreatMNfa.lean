/- slices.IndexFunc over acts with hide.Nfa's closure, by its contract. -/
import Derived.Test.YtcpodmjcgfgmnaaGreatMAct
import Derived.Test.YtcpodmjcgfgmnaaGreatDetNfa
import Derived.Outline
namespace Go.Proofs.YtcpodmjcgfgmnaaGreat
open Go.RowKit
theorem Pr.flat2_get (ls:List (Int × Int)):∀ (j:Nat),j < ls.length→(Pr.flat2 ls)[j * 2]?=some (.int .i64 (ls.getD j (0,0)).1)∧(Pr.flat2 ls)[j * 2+1]?=some (.int .i64 (ls.getD j (0,0)).2):=by
 induction ls with
 | nil=>intro j h;simp at h
 | cons l ls ih =>
  intro j h;have e:Pr.flat2 (l :: ls)=[.int .i64 l.1,.int .i64 l.2]++Pr.flat2 ls:=rfl;cases j with
  | zero=>exact ⟨rfl,rfl⟩
  | succ j =>
   have ⟨h1,h2⟩:=ih j (by simpa using h);rw [e];refine ⟨?_,?_⟩
   ·rw [List.getElem?_append_right (by simp;omega),show (j+1) * 2 - [Value.int .i64 l.1,.int .i64 l.2].length=j * 2 by simp;omega];simpa using h1
   ·rw [List.getElem?_append_right (by simp;omega),show (j+1) * 2+1 - [Value.int .i64 l.1,.int .i64 l.2].length=j * 2+1 by simp;omega];simpa using h2
set_option maxRecDepth 100000 in
set_option maxHeartbeats 400000 in
theorem Qse (d x y:Int) (q:Nat) (w:World) (hc:w.cell? ⟨q,0,none⟩=some (.int .i64 y)) :
  Calls Tryz.prog 60 #[.agg #[.int .i64 d,.int .i64 x],.pointer (some ⟨q,0,none⟩)] w fun e w'=>e=.returned (.bool (x == y))∧Flow.Grow w w':=by
 have hq:(w.alloc (.cells #[.int .i64 d,.int .i64 x] 89)).cell? ⟨q,0,none⟩=some (.int .i64 y):=Xm2.cell_grow (Flow.grow_alloc _ _) hc;clear hc;go_enter Tryz.func60,Tryz.ntmps60;go_wp2;go_ret;exact ⟨rfl,Flow.grow_alloc _ _⟩
set_option maxRecDepth 100000 in
set_option maxHeartbeats 400000 in
theorem Qwk (v:Value) (l:List (Int × Int)) (hl:l.length≤1000000) (q:Nat) (y:Int) (w:World) (hc:w.cell? ⟨q,0,none⟩=some (.int .i64 y)) (hv:Seg 2 w v l.length (Pr.flat2 l)) :
  Calls Tryz.prog 59 #[v,.func (.func 60) #[] #[.pointer (some ⟨q,0,none⟩)]] w fun e w'=>(∃ k:Int,e=.returned (.int .i64 k)∧-1≤k∧(k < l.length))∧Flow.Grow w w':=by
 have HV:=Lib.hid hv;have HC:=Lib.hid hc;obtain ⟨ao,ac,rfl,_⟩:=id hv;clear hv hc;obtain ⟨n,hn⟩:∃ n,n=l.length:=⟨_,rfl⟩;have Hn:=Lib.hid hn;rw [← hn] at hl HV ⊢;clear hn;go_enter Tryz.func59,Tryz.ntmps59;go_wp2_with fail;go_loopw [8] (fun i wr=>∃ j:Nat,j≤n∧i=.int .i64 j∧Hid (Flow.Grow w wr)) (fun i _=>n - (intOf i).toNat)
 case atStart=>exact ⟨0,by omega,rfl,Lib.hid (Flow.grow_refl _)⟩
 case round =>
  obtain ⟨j,hj,rfl,HG⟩:=hrel
  rename World=>wr
  by_cases hjn:j < n
  ·have hcells:∃ (b off:Nat) (d x:Int),ao=some ⟨b,off,none⟩∧wr.cell? ⟨b,off+j * 2,none⟩=some (.int .i64 d)∧wr.cell? ⟨b,off+j * 2+1,none⟩=some (.int .i64 x):=by
    have hb:=HV.out;obtain ⟨h1,h2⟩:=Pr.flat2_get l j (by rw [← Hn.out];exact hjn);obtain ⟨a',cap',e,hl2,_,hc2⟩:=hb;cases e;obtain ⟨b,off,rfl,hb1,hb2⟩:=hc2 (j * 2) (by omega);obtain ⟨_,_,e1,_,hb3⟩:=hc2 (j * 2+1) (by omega);cases e1;exact ⟨b,off,_,_,rfl,Xm2.cell_grow HG.out (hb2.trans h1),Xm2.cell_grow HG.out (hb3.trans h2)⟩
   obtain ⟨b,off,d,x,rfl,q0,q1⟩:=hcells;have hc2:=Xm2.cell_grow HG.out HC.out;have HC2:=Lib.hid hc2;clear hc2;by_cases hxy:x=y
   ·have dxy:(x == y)=true:=by simp [hxy]
    have Dxy:=Lib.hid dxy;clear hxy dxy;go_wp2_with (go_at_call 60;refine (Qse _ _ y q wr HC2.out).mono ?_;rintro e w' ⟨rfl,hg⟩;rw [Dxy.out];have Hg:=Lib.hid hg;clear hg);go_ret;exact ⟨⟨(j:Int),rfl,by omega,by omega⟩,HG.out.trans Hg.out⟩
   ·have dxy:(x == y)=false:=by simp [hxy]
    have Dxy:=Lib.hid dxy;clear hxy dxy;go_wp2_with (go_at_call 60;refine (Qse _ _ y q wr HC2.out).mono ?_;rintro e w' ⟨rfl,hg⟩;rw [Dxy.out];have Hg:=Lib.hid hg;clear hg);go_roundw
    case rel=>exact ⟨j+1,by omega,by go_num,Lib.hid (HG.out.trans Hg.out)⟩
    case measure=>simp [intOf];omega
  ·obtain rfl:j=n:=by omega
   go_wp2_with fail;go_ret;exact ⟨⟨-1,rfl,by omega,by omega⟩,HG.out⟩
end Go.Proofs.YtcpodmjcgfgmnaaGreat
namespace Go.Proofs.YtcpodmjcgfgmnaaGreat
open Go.RowKit
theorem Qdv {w:World} {B e sz n g c q:Nat} {xs:List Value} (u:Value) (h:w.ownsRow B e sz (.slice (some ⟨g,0,none⟩) n c) n xs) (_hq:q < n * sz):(w.setCell ⟨g,q,none⟩ u).ownsRow B e sz (.slice (some ⟨g,0,none⟩) n c) n (xs.set q u):=by
 refine ⟨by rw [List.length_set];exact h.1,.inr ?_⟩;rcases h.2 with ⟨h1,_⟩ | ⟨g',cap,cur,hv,hB,hg,h4,h5,h6,h7⟩
 ·cases h1
 ·cases hv;refine ⟨g,c,cur.setIfInBounds q u,rfl,hB,heap_setCell_same w g q cur e u hg,h4,h5,by simpa using h6,?_⟩;rw [← h7,Array.toList_setIfInBounds,List.take_set]
namespace Pr
theorem Qws (l:List (Int × Int)) (z:Int):∀ k,k < l.length→(flat2 l).set (k * 2) (.int .i64 z)=flat2 (l.set k (z,(l.getD k (0,0)).2)):=by
 induction l with
 | nil=>intro k h;simp at h
 | cons a l ih =>
  intro k h;have e:flat2 (a :: l)=.int .i64 a.1 :: .int .i64 a.2 :: flat2 l:=rfl;cases k with
  | zero=>rfl
  | succ k =>
   have:=ih k (by simpa using h);rw [e,show (k+1) * 2=k * 2+1+1 by omega,List.set_cons_succ,List.set_cons_succ,this];rfl
theorem NfaSt.put {w:World} {B:Nat} {vf vm:Value} {fin:List Bool} {rows:List (List (Int × Int))} {vs:List Value} {i k g n c:Nat} (z:Int) (h:NfaSt w B vf vm fin rows vs) (hi:i < rows.length) (hv:vs.getD i undef=.slice (some ⟨g,0,none⟩) n c) (hk:k < (rows.getD i []).length) :
  NfaSt (w.setCell ⟨g,k * 2,none⟩ (.int .i64 z)) B vf vm fin (rows.set i ((rows.getD i []).set k (z,((rows.getD i []).getD k (0,0)).2))) vs:=by
 have hr:=h.row i hi;rw [hv] at hr;have hn:n=(rows.getD i []).length:=by
  rcases hr.2 with ⟨h1,_⟩ | ⟨_,_,_,h1,_⟩
  ·cases h1
  ·injection h1
 obtain ⟨cs,hcs⟩:∃ cs,w.heap[g]?=some (.cells cs 131 (0,0)):=by
  rcases hr.2 with ⟨h1,_⟩ | ⟨_,_,cur,h1,_,h2,_⟩
  ·cases h1
  ·cases h1;exact ⟨cur,h2⟩
 have kb:=Qad w g (k * 2) (.int .i64 z);refine ⟨h.finals.kept kb (.inr (Qan h.finals hcs (by decide))),by rw [List.length_set];exact h.moves.kept kb (.inr (Qan h.moves hcs (by decide))),by rw [List.length_set];exact h.len,fun j hj=>?_,fun a b ha hb=>h.inj a b (by simpa using ha) (by simpa using hb)⟩;rw [List.length_set] at hj;by_cases e:j=i
 ·subst e;have e2:(rows.set j ((rows.getD j []).set k (z,((rows.getD j []).getD k (0,0)).2))).getD j []=(rows.getD j []).set k (z,((rows.getD j []).getD k (0,0)).2):=by
   rw [List.getD_eq_getElem?_getD,List.getElem?_set_self hj];rfl
  rw [e2,List.length_set,hv,← Qws _ _ _ hk];rw [hn] at hr ⊢;exact Qdv _ hr (by omega)
 ·have e2:(rows.set i ((rows.getD i []).set k (z,((rows.getD i []).getD k (0,0)).2))).getD j []=rows.getD j []:=by
   rw [List.getD_eq_getElem?_getD,List.getElem?_set_ne (by omega),← List.getD_eq_getElem?_getD]
  rw [e2];refine (h.row j hj).kept kb ?_;rcases h.inj j i hj hi e with h1 | h1
  ·exact .inl h1
  ·rw [hv] at h1;exact .inr h1
end Pr
end Go.Proofs.YtcpodmjcgfgmnaaGreat
