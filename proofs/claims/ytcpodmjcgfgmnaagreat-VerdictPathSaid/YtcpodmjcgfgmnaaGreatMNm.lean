/- reach.May by its contract: it ends with a truth. -/
import Derived.Test.YtcpodmjcgfgmnaaGreatHideNfa
import Derived.Test.YtcpodmjcgfgmnaaGreatMDfa
namespace Go.Proofs.YtcpodmjcgfgmnaaGreat
open Go.RowKit
namespace Pr
def Mvs (w:World) (v:Value) (l:List (Int × Int)):Prop:=Seg 2 w v l.length (flat2 l)
theorem Mvs.grow {w w':World} {v:Value} {l:List (Int × Int)} (h:Mvs w v l) (g:Flow.Grow w w'):Mvs w' v l:=Seg.grow h g
theorem Mvs.at {w:World} {a:Option Addr} {n cap:Nat} {l:List (Int × Int)} (h:Mvs w (.slice a n cap) l) {j:Nat} (hj:j < l.length):∃ b off,a=some ⟨b,off,none⟩ ∧
  w.cell? ⟨b,off+j * 2,none⟩=some (.int .i64 (l.getD j (0,0)).1)∧w.cell? ⟨b,off+j * 2+1,none⟩=some (.int .i64 (l.getD j (0,0)).2):=by
 obtain ⟨a',cap',e,hl,_,hc⟩:=h;cases e;obtain ⟨q0,q1⟩:=flat2_get l j hj;obtain ⟨b,off,rfl,_,c0⟩:=hc (j * 2) (by omega);obtain ⟨_,_,e1,_,c1⟩:=hc (j * 2+1) (by omega);cases e1;exact ⟨b,off,rfl,c0.trans q0,c1.trans q1⟩
def RowsM (w:World) (v:Value) (rows:List (List (Int × Int))):Prop:=∃ vs:List Value,Seg 1 w v rows.length vs∧∀ i,i < rows.length→Mvs w (vs.getD i undef) (rows.getD i [])
theorem RowsM.grow {w w':World} {v:Value} {rows:List (List (Int × Int))} (h:RowsM w v rows) (g:Flow.Grow w w'):RowsM w' v rows:=by
 obtain ⟨vs,h1,h2⟩:=h;exact ⟨vs,h1.grow g,fun i hi=>(h2 i hi).grow g⟩
theorem RowsM.val {w:World} {v:Value} {rows:List (List (Int × Int))} (h:RowsM w v rows):∃ a cap,v=.slice a rows.length cap:=by
 obtain ⟨vs,⟨a,cap,hv,_⟩,_⟩:=h;exact ⟨a,cap,hv⟩
theorem RowsM.at {w:World} {a:Option Addr} {n cap:Nat} {rows:List (List (Int × Int))} (h:RowsM w (.slice a n cap) rows) {j:Nat} (hj:j < rows.length):∃ b off ra rc,a=some ⟨b,off,none⟩ ∧
  w.cell? ⟨b,off+j,none⟩=some (.slice ra (rows.getD j []).length rc)∧Mvs w (.slice ra (rows.getD j []).length rc) (rows.getD j []):=by
 obtain ⟨vs,⟨a',cap',e,hl,_,hc⟩,h2⟩:=h;cases e;have hj2:j < vs.length:=by omega
 obtain ⟨b,off,rfl,_,c0⟩:=hc j hj2;have h3:=h2 j hj;obtain ⟨ra,rc,hv,_⟩:=id h3;rw [hv] at h3;refine ⟨b,off,ra,rc,rfl,?_,h3⟩;rw [c0,← hv];simp [hj2]
theorem NfaSt.rowsM {w:World} {B:Nat} {vf vm:Value} {fin:List Bool} {rows:List (List (Int × Int))} {vs:List Value} (h:NfaSt w B vf vm fin rows vs):RowsM w vm rows :=
 ⟨vs,Seg.of_own h.moves,fun i hi=>Seg.of_own (h.row i hi)⟩
def badMove (K:Int) (n:Nat) (m:Int × Int):Bool:=decide (m.1 < -1) || decide (K≤m.1) || decide (m.2 < 0) || decide ((n:Int)≤m.2)
end Pr
set_option maxRecDepth 100000 in
set_option maxHeartbeats 800000 in
theorem Zca (x y:Int) (g:Nat) (K:Int) (a:Option Addr) (n cap:Nat) (w:World) (hl:w.cell? ⟨g,0,none⟩=some (.int .i64 K)) (hc:w.cell? ⟨g,3,none⟩=some (.slice a n cap)) :
  Calls Tryz.prog 95 #[.agg #[.int .i64 x,.int .i64 y],.pointer (some ⟨g,0,none⟩)] w fun e w'=>e=.returned (.bool (Pr.badMove K n (x,y)))∧Flow.Grow w w':=by
 have hl2:=Xm2.cell_grow (Flow.grow_alloc w (.cells #[.int .i64 x,.int .i64 y] 131)) hl;have hc2:=Xm2.cell_grow (Flow.grow_alloc w (.cells #[.int .i64 x,.int .i64 y] 131)) hc;clear hl hc;by_cases h1:x < -1
 ·have d1:decide (x < -1)=true:=by simp [h1]
  have H:Hid (Pr.badMove K n (x,y)=true):=Lib.hid (by simp [Pr.badMove,h1]);clear h1;go_enter Tryz.func95,Tryz.ntmps95;go_wp2_with fail;go_ret;exact ⟨Qax H.out.symm,Flow.grow_alloc _ _⟩
 ·have d1:decide (x < -1)=false:=by simp [h1]
  by_cases h2:x≥K
  ·have d2:decide (x≥K)=true:=by simp;omega
   have H:Hid (Pr.badMove K n (x,y)=true):=Lib.hid (by simp [Pr.badMove];left;left;right;omega);clear h1 h2;go_enter Tryz.func95,Tryz.ntmps95;go_wp2_with fail;go_ret;exact ⟨Qax H.out.symm,Flow.grow_alloc _ _⟩
  ·have d2:decide (x≥K)=false:=by simp;omega
   by_cases h3:y < 0
   ·have d3:decide (y < 0)=true:=by simp [h3]
    have H:Hid (Pr.badMove K n (x,y)=true):=Lib.hid (by simp [Pr.badMove];left;right;omega);clear h1 h2 h3;go_enter Tryz.func95,Tryz.ntmps95;go_wp2_with fail;go_ret;exact ⟨Qax H.out.symm,Flow.grow_alloc _ _⟩
   ·have d3:decide (y < 0)=false:=by simp [h3]
    have H:Hid (Pr.badMove K n (x,y)=decide (y≥(n:Int))):=Lib.hid (by
     have e2:decide (K≤x)=false:=by simp;omega
     simp only [Pr.badMove,d1,d3,e2,Bool.false_or,ge_iff_le])
    clear h1 h2 h3;go_enter Tryz.func95,Tryz.ntmps95;go_wp2_with fail;go_ret;exact ⟨Qax H.out.symm,Flow.grow_alloc _ _⟩
set_option maxRecDepth 100000 in
set_option maxHeartbeats 800000 in
theorem Qyr (v:Value) (l:List (Int × Int)) (hz:l.length≤1000000) (g:Nat) (K:Int) (a:Option Addr) (n cap:Nat) (w:World) (hl:w.cell? ⟨g,0,none⟩=some (.int .i64 K)) (hc:w.cell? ⟨g,3,none⟩=some (.slice a n cap)) (hv:Pr.Mvs w v l) :
  Calls Tryz.prog 106 #[v,.func (.func 95) #[] #[.pointer (some ⟨g,0,none⟩)]] w fun e w'=>(∃ k:Int,e=.returned (.int .i64 k)∧decide (0≤k)=l.any (Pr.badMove K n))∧Flow.Grow w w':=by
 have HV:=Lib.hid hv;have HL:=Lib.hid hl;have HC:=Lib.hid hc;obtain ⟨ao,ac,rfl,_⟩:=id hv;clear hv hc hl;obtain ⟨p,hp⟩:∃ p,p=l.length:=⟨_,rfl⟩;have Hp:=Lib.hid hp;rw [← hp] at hz HV ⊢;clear hp;go_enter Tryz.func106,Tryz.ntmps106;go_wp2_with fail;go_loopw [8] (fun i wr=>∃ j:Nat,j≤p∧i=.int .i64 j∧Hid (l.any (Pr.badMove K n)=(l.drop j).any (Pr.badMove K n))∧Hid (Flow.Grow w wr)) (fun i _=>p - (intOf i).toNat)
 case atStart=>exact ⟨0,by omega,rfl,Lib.hid rfl,Lib.hid (Flow.grow_refl _)⟩
 case round =>
  obtain ⟨j,hj,rfl,Hall,HG⟩:=hrel
  rename World=>wr
  by_cases hjn:j < p
  ·obtain ⟨b,off,rfl,q0,q1⟩:=(HV.out.grow HG.out).at (j:=j) (by rw [← Hp.out];exact hjn);have Hs:Hid ((l.drop j).any (Pr.badMove K n)=(Pr.badMove K n (l.getD j (0,0)) || (l.drop (j+1)).any (Pr.badMove K n))):=by
    have hk':j < l.length:=by rw [← Hp.out];exact hjn
    refine Lib.hid ?_;rw [List.drop_eq_getElem_cons hk',List.any_cons,List.getD_eq_getElem?_getD,List.getElem?_eq_getElem hk',Option.getD_some]
   generalize l.getD j (0,0)=m at *;obtain ⟨x,y⟩:=m;simp only at q0 q1;have HCC:Hid (Calls Tryz.prog 95 #[.agg #[.int .i64 x,.int .i64 y],.pointer (some ⟨g,0,none⟩)] wr fun e w'=>e=.returned (.bool (Pr.badMove K n (x,y)))∧Flow.Grow wr w'):=Lib.hid (Zca x y g K a n cap wr (Xm2.cell_grow HG.out HL.out) (Xm2.cell_grow HG.out HC.out));cases hb:Pr.badMove K n (x,y) with
   | false =>
    have Hs':Hid (l.any (Pr.badMove K n)=(l.drop (j+1)).any (Pr.badMove K n)):=Lib.hid (by rw [Hall.out,Hs.out,hb];rfl);have Hb:=Lib.hid hb;clear hb Hs Hall;go_wp2_with (go_at_call 95;refine HCC.out.mono ?_;rintro e w' ⟨rfl,hg⟩;rw [Hb.out];have Hg:=Lib.hid hg;clear hg);go_roundw
    case rel=>exact ⟨j+1,by omega,by go_num,Hs',Lib.hid (HG.out.trans Hg.out)⟩
    case measure=>simp [intOf];omega
   | true =>
    have Hs':Hid (l.any (Pr.badMove K n)=true):=Lib.hid (by rw [Hall.out,Hs.out,hb];rfl);have Hb:=Lib.hid hb;clear hb Hs Hall;go_wp2_with (go_at_call 95;refine HCC.out.mono ?_;rintro e w' ⟨rfl,hg⟩;rw [Hb.out];have Hg:=Lib.hid hg;clear hg);go_ret;exact ⟨⟨j,rfl,by rw [Hs'.out];simp⟩,HG.out.trans Hg.out⟩
  ·have HE:Hid (l.any (Pr.badMove K n)=false):=Lib.hid (by rw [Hall.out,List.drop_eq_nil_of_le (by rw [← Hp.out];omega)];rfl);clear Hall;obtain rfl:j=p:=by omega
   go_wp2_with fail;go_ret;exact ⟨⟨-1,rfl,by rw [HE.out];rfl⟩,HG.out⟩
end Go.Proofs.YtcpodmjcgfgmnaaGreat
namespace Go.Proofs.YtcpodmjcgfgmnaaGreat
open Go.RowKit
namespace Pr
def badMoves (K:Int) (n:Nat) (l:List (Int × Int)):Bool:=l.any (badMove K n)
end Pr
set_option maxRecDepth 100000 in
set_option maxHeartbeats 800000 in
theorem Zc9 (v:Value) (l:List (Int × Int)) (hz:l.length≤1000000) (g:Nat) (K:Int) (a:Option Addr) (n cap:Nat) (w:World) (hl:w.cell? ⟨g,0,none⟩=some (.int .i64 K)) (hc:w.cell? ⟨g,3,none⟩=some (.slice a n cap)) (hv:Pr.Mvs w v l) :
  Calls Tryz.prog 93 #[v,.pointer (some ⟨g,0,none⟩)] w fun e w'=>e=.returned (.bool (Pr.badMoves K n l))∧Flow.Grow w w':=by
 have HI:Hid (Calls Tryz.prog 106 #[v,.func (.func 95) #[] #[.pointer (some ⟨g,0,none⟩)]] w fun e w'=>(∃ k:Int,e=.returned (.int .i64 k)∧decide (0≤k)=l.any (Pr.badMove K n))∧Flow.Grow w w'):=Lib.hid (Qyr v l hz g K a n cap w hl hc hv);have HCt:Hid (Calls Tryz.prog 94 #[v,.func (.func 95) #[] #[.pointer (some ⟨g,0,none⟩)]] w fun e w'=>e=.returned (.bool (Pr.badMoves K n l))∧Flow.Grow w w'):=Lib.hid (by
  clear hl hc hv hz;go_enter Tryz.func94,Tryz.ntmps94;go_wp2_with (go_at_call 106;refine HI.out.mono ?_;rintro e w' ⟨⟨k,rfl,hk⟩,hg⟩;have Hk:=Lib.hid hk;have Hg:=Lib.hid hg;clear hk hg);go_ret;exact ⟨Qax Hk.out,Hg.out⟩)
 clear HI hl hc hv hz;go_enter Tryz.func93,Tryz.ntmps93;go_wp2_with (go_at_call 94;refine HCt.out.mono ?_;rintro e w' ⟨rfl,hg⟩;have Hg:=Lib.hid hg;clear hg);go_ret;exact ⟨rfl,Hg.out⟩
set_option maxRecDepth 100000 in
set_option maxHeartbeats 800000 in
theorem Za7 (v:Value) (rows:List (List (Int × Int))) (hz:rows.length≤1000000) (hr:∀ r∈rows,r.length≤1000000) (g:Nat) (K:Int) (a:Option Addr) (n cap:Nat) (w:World) (hl:w.cell? ⟨g,0,none⟩=some (.int .i64 K)) (hc:w.cell? ⟨g,3,none⟩=some (.slice a n cap)) (hv:Pr.RowsM w v rows) :
  Calls Tryz.prog 105 #[v,.func (.func 93) #[] #[.pointer (some ⟨g,0,none⟩)]] w fun e w'=>(∃ k:Int,e=.returned (.int .i64 k)∧decide (0≤k)=rows.any (Pr.badMoves K n))∧Flow.Grow w w':=by
 have HV:=Lib.hid hv;have HL:=Lib.hid hl;have HC:=Lib.hid hc;have HR:=Lib.hid hr;obtain ⟨ao,ac,rfl⟩:=hv.val;clear hv hc hl hr;obtain ⟨p,hp⟩:∃ p,p=rows.length:=⟨_,rfl⟩;have Hp:=Lib.hid hp;rw [← hp] at hz HV ⊢;clear hp;go_enter Tryz.func105,Tryz.ntmps105;go_wp2_with fail;go_loopw [8] (fun i wr=>∃ j:Nat,j≤p∧i=.int .i64 j∧Hid (rows.any (Pr.badMoves K n)=(rows.drop j).any (Pr.badMoves K n))∧Hid (Flow.Grow w wr)) (fun i _=>p - (intOf i).toNat)
 case atStart=>exact ⟨0,by omega,rfl,Lib.hid rfl,Lib.hid (Flow.grow_refl _)⟩
 case round =>
  obtain ⟨j,hj,rfl,Hall,HG⟩:=hrel
  rename World=>wr
  by_cases hjn:j < p
  ·have hk':j < rows.length:=by rw [← Hp.out];exact hjn
   obtain ⟨b,off,ra,rc,rfl,q0,q1⟩:=(HV.out.grow HG.out).at (j:=j) hk';have Hs:Hid ((rows.drop j).any (Pr.badMoves K n)=(Pr.badMoves K n (rows.getD j []) || (rows.drop (j+1)).any (Pr.badMoves K n))):=by
    refine Lib.hid ?_;rw [List.drop_eq_getElem_cons hk',List.any_cons,List.getD_eq_getElem?_getD,List.getElem?_eq_getElem hk',Option.getD_some]
   have hzl:(rows.getD j []).length≤1000000:=by
    rw [List.getD_eq_getElem?_getD,List.getElem?_eq_getElem hk',Option.getD_some];exact HR.out _ (List.getElem_mem hk')
   clear hk';generalize rows.getD j []=m at *;have HCC:Hid (Calls Tryz.prog 93 #[.slice ra m.length rc,.pointer (some ⟨g,0,none⟩)] wr fun e w'=>e=.returned (.bool (Pr.badMoves K n m))∧Flow.Grow wr w'):=Lib.hid (Zc9 _ m hzl g K a n cap wr (Xm2.cell_grow HG.out HL.out) (Xm2.cell_grow HG.out HC.out) q1);clear q1;cases hb:Pr.badMoves K n m with
   | false =>
    have Hs':Hid (rows.any (Pr.badMoves K n)=(rows.drop (j+1)).any (Pr.badMoves K n)):=Lib.hid (by rw [Hall.out,Hs.out,hb];rfl);have Hb:=Lib.hid hb;clear hb Hs Hall;go_wp2_with (go_at_call 93;refine HCC.out.mono ?_;rintro e w' ⟨rfl,hg⟩;rw [Hb.out];have Hg:=Lib.hid hg;clear hg);go_roundw
    case rel=>exact ⟨j+1,by omega,by go_num,Hs',Lib.hid (HG.out.trans Hg.out)⟩
    case measure=>simp [intOf];omega
   | true =>
    have Hs':Hid (rows.any (Pr.badMoves K n)=true):=Lib.hid (by rw [Hall.out,Hs.out,hb];rfl);have Hb:=Lib.hid hb;clear hb Hs Hall;go_wp2_with (go_at_call 93;refine HCC.out.mono ?_;rintro e w' ⟨rfl,hg⟩;rw [Hb.out];have Hg:=Lib.hid hg;clear hg);go_ret;exact ⟨⟨j,rfl,by rw [Hs'.out];simp⟩,HG.out.trans Hg.out⟩
  ·have HE:Hid (rows.any (Pr.badMoves K n)=false):=Lib.hid (by rw [Hall.out,List.drop_eq_nil_of_le (by rw [← Hp.out];omega)];rfl);clear Hall;obtain rfl:j=p:=by omega
   go_wp2_with fail;go_ret;exact ⟨⟨-1,rfl,by rw [HE.out];rfl⟩,HG.out⟩
set_option maxRecDepth 100000 in
set_option maxHeartbeats 800000 in
theorem Qyi (vf vm:Value) (K S:Int) (n:Nat) (fin:List Bool) (rows:List (List (Int × Int))) (w:World) (h1:0≤K) (h2:fin.length=n) (h3:rows.length=n) (h4:1≤n) (h5:n≤2000) (h6:0≤S) (h7:S < n) (hr:∀ r∈rows,r.length≤1000000) (hf:Bools w vf fin) (hv:Pr.RowsM w vm rows) :
  Calls Tryz.prog 75 #[.agg #[.int .i64 K,.int .i64 S,vf,vm]] w fun e w'=>e=.returned (.bool (!rows.any (Pr.badMoves K n)))∧Flow.Grow w w':=by
 obtain ⟨af,cf,rfl,_⟩:=id hf;obtain ⟨am,cm,rfl⟩:=hv.val;rw [h2,h3];rw [h3] at hv;have HX:Hid (∀ wq,Flow.Grow (w.alloc (.cells #[.int .i64 K,.int .i64 S,.slice af n cf,.slice am n cm] 99)) wq→Calls Tryz.prog 105 #[.slice am n cm,.func (.func 93) #[] #[.pointer (some ⟨w.heap.size,0,none⟩)]] wq fun e w'=>(∃ k:Int,e=.returned (.int .i64 k)∧decide (0≤k)=rows.any (Pr.badMoves K n))∧Flow.Grow wq w'):=Lib.hid (fun wq g=>by
  have hb:wq.heap[w.heap.size]?=_:=(g.block _ (by simp) (by simp)).trans (heap_alloc_new _ _);exact Za7 _ rows (by omega) hr w.heap.size K am n cm wq ((cell_of_row wq _ 0 _ _ _ hb).trans rfl) ((cell_of_row wq _ 3 _ _ _ hb).trans rfl) (hv.grow ((Flow.grow_alloc _ _).trans g)))
 have HCt:Hid (∀ wq,Flow.Grow (w.alloc (.cells #[.int .i64 K,.int .i64 S,.slice af n cf,.slice am n cm] 99)) wq→Calls Tryz.prog 92 #[.slice am n cm,.func (.func 93) #[] #[.pointer (some ⟨w.heap.size,0,none⟩)]] wq fun e w'=>e=.returned (.bool (rows.any (Pr.badMoves K n)))∧Flow.Grow wq w'):=Lib.hid (fun wq g=>by
  have HI:=Lib.hid (HX.out wq g);clear hf hv h1 h2 h3 h4 h5 h6 h7 hr HX g;go_enter Tryz.func92,Tryz.ntmps92;go_wp2_with (go_at_call 105;refine HI.out.mono ?_;rintro e w' ⟨⟨k,rfl,hk⟩,hg⟩;have Hk:=Lib.hid hk;have Hg:=Lib.hid hg;clear hk hg);go_ret;exact ⟨Qax Hk.out,Hg.out⟩)
 clear HX hf hv hr h2 h3;have d1:decide (K < 0)=false:=by simp;omega
 have d2:((n:Int) != (n:Int))=false:=by simp
 have d3:decide ((n:Int) < 1)=false:=by simp;omega
 have d4:decide ((n:Int) > 2000)=false:=by simp;omega
 have d5:decide (S < 0)=false:=by simp;omega
 have d6:decide (S≥(n:Int))=false:=by simp;omega
 go_enter Tryz.func75,Tryz.ntmps75;go_wp2_with (go_at_call 92;refine (HCt.out _ (Flow.grow_refl _)).mono ?_;rintro e w' ⟨rfl,hg⟩;have Hg:=Lib.hid hg;clear hg);go_ret;exact ⟨rfl,(Flow.grow_alloc _ _).trans Hg.out⟩
end Go.Proofs.YtcpodmjcgfgmnaaGreat
