/- reach.May by its contract: it ends with a truth. -/
import Derived.Test.YtcnmaplopbbmaaaGreatRAll
import Derived.Test.YtcnmaplopbbmaaaGreatMAe
namespace Go.Proofs.YtcnmaplopbbmaaaGreat
open Go.RowKit
namespace Pr
abbrev flat2:=Rs.flat2
theorem flat2_get:∀ (l:List (Int × Int)) (j:Nat),j < l.length→(flat2 l)[j * 2]? = some (.int .i64 (l.getD j (0,0)).1)∧(flat2 l)[j * 2+1]? = some (.int .i64 (l.getD j (0,0)).2)
 | [],j,h=>by simp at h
 | a :: l,0,_=>⟨rfl,rfl⟩
 | a :: l,j+1,h=>by
  have k:=flat2_get l j (by simpa using h)
  have e:(flat2 (a :: l))=.int .i64 a.1 :: .int .i64 a.2 :: flat2 l:=rfl
  rw [e,show (j+1) * 2=j * 2+1+1 from by omega]
  simpa using k
def Mvs (w:World) (v:Value) (l:List (Int × Int)):Prop:=Seg 2 w v l.length (flat2 l)
theorem Mvs.grow {w w':World} {v:Value} {l:List (Int × Int)} (h:Mvs w v l) (g:Flow.Grow w w'):Mvs w' v l:=Seg.grow h g
theorem Mvs.at {w:World} {a:Option Addr} {n cap:Nat} {l:List (Int × Int)} (h:Mvs w (.slice a n cap) l) {j:Nat} (hj:j < l.length):∃ b off,a=some ⟨b,off,none⟩ ∧
  w.cell? ⟨b,off+j * 2,none⟩=some (.int .i64 (l.getD j (0,0)).1)∧w.cell? ⟨b,off+j * 2+1,none⟩=some (.int .i64 (l.getD j (0,0)).2):=by
 obtain ⟨a',cap',e,hl,_,hc⟩:=h
 cases e
 obtain ⟨q0,q1⟩:=flat2_get l j hj
 obtain ⟨b,off,rfl,_,c0⟩:=hc (j * 2) (by omega)
 obtain ⟨_,_,e1,_,c1⟩:=hc (j * 2+1) (by omega)
 cases e1
 exact ⟨b,off,rfl,c0.trans q0,c1.trans q1⟩
def RowsM (w:World) (v:Value) (rows:List (List (Int × Int))):Prop:=∃ vs:List Value,Seg 1 w v rows.length vs∧∀ i,i < rows.length→Mvs w (vs.getD i undef) (rows.getD i [])
theorem RowsM.grow {w w':World} {v:Value} {rows:List (List (Int × Int))} (h:RowsM w v rows) (g:Flow.Grow w w'):RowsM w' v rows:=by
 obtain ⟨vs,h1,h2⟩:=h
 exact ⟨vs,h1.grow g,fun i hi=>(h2 i hi).grow g⟩
theorem RowsM.val {w:World} {v:Value} {rows:List (List (Int × Int))} (h:RowsM w v rows):∃ a cap,v=.slice a rows.length cap:=by
 obtain ⟨vs,⟨a,cap,hv,_⟩,_⟩:=h
 exact ⟨a,cap,hv⟩
theorem RowsM.at {w:World} {a:Option Addr} {n cap:Nat} {rows:List (List (Int × Int))} (h:RowsM w (.slice a n cap) rows) {j:Nat} (hj:j < rows.length):∃ b off ra rc,a=some ⟨b,off,none⟩ ∧
  w.cell? ⟨b,off+j,none⟩=some (.slice ra (rows.getD j []).length rc)∧Mvs w (.slice ra (rows.getD j []).length rc) (rows.getD j []):=by
 obtain ⟨vs,⟨a',cap',e,hl,_,hc⟩,h2⟩:=h
 cases e
 have hj2:j < vs.length:=by omega
 obtain ⟨b,off,rfl,_,c0⟩:=hc j hj2
 have h3:=h2 j hj
 obtain ⟨ra,rc,hv,_⟩:=id h3
 rw [hv] at h3
 refine ⟨b,off,ra,rc,rfl,?_,h3⟩
 rw [c0,← hv]
 simp [hj2]
theorem NS_rowsM {w:World} {B:Nat} {vf vm:Value} {fin:List Bool} {rows:List (List (Int × Int))} {vs:List Value} (h:Rs.NS w B vf vm fin rows vs):RowsM w vm rows :=
 ⟨vs,Seg.of_own h.moves,fun i hi=>Seg.of_own (h.row i hi)⟩
theorem ret_bool {a b:Bool} (h:a=b):Ending.returned (.bool a)=.returned (.bool b):=by rw [h]
def badMove (K:Int) (n:Nat) (m:Int × Int):Bool:=decide (m.1 < -1) || decide (K≤m.1) || decide (m.2 < 0) || decide ((n:Int)≤m.2)
end Pr
open Pr (ret_bool)
set_option maxRecDepth 100000 in
set_option maxHeartbeats 800000 in
theorem mayN11 (x y:Int) (g:Nat) (K:Int) (a:Option Addr) (n cap:Nat) (w:World) (hl:w.cell? ⟨g,0,none⟩=some (.int .i64 K)) (hc:w.cell? ⟨g,3,none⟩=some (.slice a n cap)) :
  Calls Tryz.prog 36 #[.agg #[.int .i64 x,.int .i64 y],.pointer (some ⟨g,0,none⟩)] w fun e w'=>e=.returned (.bool (Pr.badMove K n (x,y)))∧Flow.Grow w w':=by
 have hl2:=Xm2.cell_grow (Flow.grow_alloc w (.cells #[.int .i64 x,.int .i64 y] 76)) hl
 have hc2:=Xm2.cell_grow (Flow.grow_alloc w (.cells #[.int .i64 x,.int .i64 y] 76)) hc
 clear hl hc
 by_cases h1:x < -1
 ·have d1:decide (x < -1)=true:=by simp [h1]
  have H:Hid (Pr.badMove K n (x,y)=true):=Lib.hid (by simp [Pr.badMove,h1])
  clear h1
  go_enter Tryz.func36,Tryz.ntmps36
  go_wp2_with fail
  go_ret
  exact ⟨ret_bool H.out.symm,Flow.grow_alloc _ _⟩
 ·have d1:decide (x < -1)=false:=by simp [h1]
  by_cases h2:x≥K
  ·have d2:decide (x≥K)=true:=by simp;omega
   have H:Hid (Pr.badMove K n (x,y)=true):=Lib.hid (by simp [Pr.badMove];left;left;right;omega)
   clear h1 h2
   go_enter Tryz.func36,Tryz.ntmps36
   go_wp2_with fail
   go_ret
   exact ⟨ret_bool H.out.symm,Flow.grow_alloc _ _⟩
  ·have d2:decide (x≥K)=false:=by simp;omega
   by_cases h3:y < 0
   ·have d3:decide (y < 0)=true:=by simp [h3]
    have H:Hid (Pr.badMove K n (x,y)=true):=Lib.hid (by simp [Pr.badMove];left;right;omega)
    clear h1 h2 h3
    go_enter Tryz.func36,Tryz.ntmps36
    go_wp2_with fail
    go_ret
    exact ⟨ret_bool H.out.symm,Flow.grow_alloc _ _⟩
   ·have d3:decide (y < 0)=false:=by simp [h3]
    have H:Hid (Pr.badMove K n (x,y)=decide (y≥(n:Int))):=Lib.hid (by
     have e2:decide (K≤x)=false:=by simp;omega
     simp only [Pr.badMove,d1,d3,e2,Bool.false_or,ge_iff_le])
    clear h1 h2 h3
    go_enter Tryz.func36,Tryz.ntmps36
    go_wp2_with fail
    go_ret
    exact ⟨ret_bool H.out.symm,Flow.grow_alloc _ _⟩
set_option maxRecDepth 100000 in
set_option maxHeartbeats 800000 in
theorem indexN11 (v:Value) (l:List (Int × Int)) (hz:l.length≤1000000) (g:Nat) (K:Int) (a:Option Addr) (n cap:Nat) (w:World) (hl:w.cell? ⟨g,0,none⟩=some (.int .i64 K)) (hc:w.cell? ⟨g,3,none⟩=some (.slice a n cap)) (hv:Pr.Mvs w v l) :
  Calls Tryz.prog 55 #[v,.func (.func 36) #[] #[.pointer (some ⟨g,0,none⟩)]] w fun e w'=>(∃ k:Int,e=.returned (.int .i64 k)∧decide (0≤k)=l.any (Pr.badMove K n))∧Flow.Grow w w':=by
 have HV:=Lib.hid hv
 have HL:=Lib.hid hl
 have HC:=Lib.hid hc
 obtain ⟨ao,ac,rfl,_⟩:=id hv
 clear hv hc hl
 obtain ⟨p,hp⟩:∃ p,p=l.length:=⟨_,rfl⟩
 have Hp:=Lib.hid hp
 rw [← hp] at hz HV ⊢
 clear hp
 go_enter Tryz.func55,Tryz.ntmps55
 go_wp2_with fail
 go_loopw [8] (fun i wr=>∃ j:Nat,j≤p∧i=.int .i64 j∧Hid (l.any (Pr.badMove K n)=(l.drop j).any (Pr.badMove K n))∧Hid (Flow.Grow w wr)) (fun i _=>p - (intOf i).toNat)
 case atStart=>exact ⟨0,by omega,rfl,Lib.hid rfl,Lib.hid (Flow.grow_refl _)⟩
 case round =>
  obtain ⟨j,hj,rfl,Hall,HG⟩:=hrel
  rename World=>wr
  by_cases hjn:j < p
  ·obtain ⟨b,off,rfl,q0,q1⟩:=(HV.out.grow HG.out).at (j:=j) (by rw [← Hp.out];exact hjn)
   have Hs:Hid ((l.drop j).any (Pr.badMove K n)=(Pr.badMove K n (l.getD j (0,0)) || (l.drop (j+1)).any (Pr.badMove K n))):=by
    have hk':j < l.length:=by rw [← Hp.out];exact hjn
    refine Lib.hid ?_
    rw [List.drop_eq_getElem_cons hk',List.any_cons,List.getD_eq_getElem?_getD,List.getElem?_eq_getElem hk',Option.getD_some]
   generalize l.getD j (0,0)=m at *
   obtain ⟨x,y⟩:=m
   simp only at q0 q1
   have HCC:Hid (Calls Tryz.prog 36 #[.agg #[.int .i64 x,.int .i64 y],.pointer (some ⟨g,0,none⟩)] wr fun e w'=>e=.returned (.bool (Pr.badMove K n (x,y)))∧Flow.Grow wr w'):=Lib.hid (mayN11 x y g K a n cap wr (Xm2.cell_grow HG.out HL.out) (Xm2.cell_grow HG.out HC.out))
   cases hb:Pr.badMove K n (x,y) with
   | false =>
    have Hs':Hid (l.any (Pr.badMove K n)=(l.drop (j+1)).any (Pr.badMove K n)):=Lib.hid (by rw [Hall.out,Hs.out,hb];rfl)
    have Hb:=Lib.hid hb
    clear hb Hs Hall
    go_wp2_with (go_at_call 36;refine HCC.out.mono ?_;rintro e w' ⟨rfl,hg⟩;rw [Hb.out];have Hg:=Lib.hid hg;clear hg)
    go_roundw
    case rel=>exact ⟨j+1,by omega,by go_num,Hs',Lib.hid (HG.out.trans Hg.out)⟩
    case measure=>simp [intOf];omega
   | true =>
    have Hs':Hid (l.any (Pr.badMove K n)=true):=Lib.hid (by rw [Hall.out,Hs.out,hb];rfl)
    have Hb:=Lib.hid hb
    clear hb Hs Hall
    go_wp2_with (go_at_call 36;refine HCC.out.mono ?_;rintro e w' ⟨rfl,hg⟩;rw [Hb.out];have Hg:=Lib.hid hg;clear hg)
    go_ret
    exact ⟨⟨j,rfl,by rw [Hs'.out];simp⟩,HG.out.trans Hg.out⟩
  ·have HE:Hid (l.any (Pr.badMove K n)=false):=Lib.hid (by rw [Hall.out,List.drop_eq_nil_of_le (by rw [← Hp.out];omega)];rfl)
   clear Hall
   obtain rfl:j=p:=by omega
   go_wp2_with fail
   go_ret
   exact ⟨⟨-1,rfl,by rw [HE.out];rfl⟩,HG.out⟩
namespace Pr
def badMoves (K:Int) (n:Nat) (l:List (Int × Int)):Bool:=l.any (badMove K n)
end Pr
set_option maxRecDepth 100000 in
set_option maxHeartbeats 800000 in
theorem mayN1 (v:Value) (l:List (Int × Int)) (hz:l.length≤1000000) (g:Nat) (K:Int) (a:Option Addr) (n cap:Nat) (w:World) (hl:w.cell? ⟨g,0,none⟩=some (.int .i64 K)) (hc:w.cell? ⟨g,3,none⟩=some (.slice a n cap)) (hv:Pr.Mvs w v l) :
  Calls Tryz.prog 34 #[v,.pointer (some ⟨g,0,none⟩)] w fun e w'=>e=.returned (.bool (Pr.badMoves K n l))∧Flow.Grow w w':=by
 have HI:Hid (Calls Tryz.prog 55 #[v,.func (.func 36) #[] #[.pointer (some ⟨g,0,none⟩)]] w fun e w'=>(∃ k:Int,e=.returned (.int .i64 k)∧decide (0≤k)=l.any (Pr.badMove K n))∧Flow.Grow w w'):=Lib.hid (indexN11 v l hz g K a n cap w hl hc hv)
 have HCt:Hid (Calls Tryz.prog 35 #[v,.func (.func 36) #[] #[.pointer (some ⟨g,0,none⟩)]] w fun e w'=>e=.returned (.bool (Pr.badMoves K n l))∧Flow.Grow w w'):=Lib.hid (by
  clear hl hc hv hz
  go_enter Tryz.func35,Tryz.ntmps35
  go_wp2_with (go_at_call 55;refine HI.out.mono ?_;rintro e w' ⟨⟨k,rfl,hk⟩,hg⟩;have Hk:=Lib.hid hk;have Hg:=Lib.hid hg;clear hk hg)
  go_ret
  exact ⟨ret_bool Hk.out,Hg.out⟩)
 clear HI hl hc hv hz
 go_enter Tryz.func34,Tryz.ntmps34
 go_wp2_with (go_at_call 35;refine HCt.out.mono ?_;rintro e w' ⟨rfl,hg⟩;have Hg:=Lib.hid hg;clear hg)
 go_ret
 exact ⟨rfl,Hg.out⟩
set_option maxRecDepth 100000 in
set_option maxHeartbeats 800000 in
theorem indexN1 (v:Value) (rows:List (List (Int × Int))) (hz:rows.length≤1000000) (hr:∀ r∈rows,r.length≤1000000) (g:Nat) (K:Int) (a:Option Addr) (n cap:Nat) (w:World) (hl:w.cell? ⟨g,0,none⟩=some (.int .i64 K)) (hc:w.cell? ⟨g,3,none⟩=some (.slice a n cap)) (hv:Pr.RowsM w v rows) :
  Calls Tryz.prog 54 #[v,.func (.func 34) #[] #[.pointer (some ⟨g,0,none⟩)]] w fun e w'=>(∃ k:Int,e=.returned (.int .i64 k)∧decide (0≤k)=rows.any (Pr.badMoves K n))∧Flow.Grow w w':=by
 have HV:=Lib.hid hv
 have HL:=Lib.hid hl
 have HC:=Lib.hid hc
 have HR:=Lib.hid hr
 obtain ⟨ao,ac,rfl⟩:=hv.val
 clear hv hc hl hr
 obtain ⟨p,hp⟩:∃ p,p=rows.length:=⟨_,rfl⟩
 have Hp:=Lib.hid hp
 rw [← hp] at hz HV ⊢
 clear hp
 go_enter Tryz.func54,Tryz.ntmps54
 go_wp2_with fail
 go_loopw [8] (fun i wr=>∃ j:Nat,j≤p∧i=.int .i64 j∧Hid (rows.any (Pr.badMoves K n)=(rows.drop j).any (Pr.badMoves K n))∧Hid (Flow.Grow w wr)) (fun i _=>p - (intOf i).toNat)
 case atStart=>exact ⟨0,by omega,rfl,Lib.hid rfl,Lib.hid (Flow.grow_refl _)⟩
 case round =>
  obtain ⟨j,hj,rfl,Hall,HG⟩:=hrel
  rename World=>wr
  by_cases hjn:j < p
  ·have hk':j < rows.length:=by rw [← Hp.out];exact hjn
   obtain ⟨b,off,ra,rc,rfl,q0,q1⟩:=(HV.out.grow HG.out).at (j:=j) hk'
   have Hs:Hid ((rows.drop j).any (Pr.badMoves K n)=(Pr.badMoves K n (rows.getD j []) || (rows.drop (j+1)).any (Pr.badMoves K n))):=by
    refine Lib.hid ?_
    rw [List.drop_eq_getElem_cons hk',List.any_cons,List.getD_eq_getElem?_getD,List.getElem?_eq_getElem hk',Option.getD_some]
   have hzl:(rows.getD j []).length≤1000000:=by
    rw [List.getD_eq_getElem?_getD,List.getElem?_eq_getElem hk',Option.getD_some]
    exact HR.out _ (List.getElem_mem hk')
   clear hk'
   generalize rows.getD j []=m at *
   have HCC:Hid (Calls Tryz.prog 34 #[.slice ra m.length rc,.pointer (some ⟨g,0,none⟩)] wr fun e w'=>e=.returned (.bool (Pr.badMoves K n m))∧Flow.Grow wr w'):=Lib.hid (mayN1 _ m hzl g K a n cap wr (Xm2.cell_grow HG.out HL.out) (Xm2.cell_grow HG.out HC.out) q1)
   clear q1
   cases hb:Pr.badMoves K n m with
   | false =>
    have Hs':Hid (rows.any (Pr.badMoves K n)=(rows.drop (j+1)).any (Pr.badMoves K n)):=Lib.hid (by rw [Hall.out,Hs.out,hb];rfl)
    have Hb:=Lib.hid hb
    clear hb Hs Hall
    go_wp2_with (go_at_call 34;refine HCC.out.mono ?_;rintro e w' ⟨rfl,hg⟩;rw [Hb.out];have Hg:=Lib.hid hg;clear hg)
    go_roundw
    case rel=>exact ⟨j+1,by omega,by go_num,Hs',Lib.hid (HG.out.trans Hg.out)⟩
    case measure=>simp [intOf];omega
   | true =>
    have Hs':Hid (rows.any (Pr.badMoves K n)=true):=Lib.hid (by rw [Hall.out,Hs.out,hb];rfl)
    have Hb:=Lib.hid hb
    clear hb Hs Hall
    go_wp2_with (go_at_call 34;refine HCC.out.mono ?_;rintro e w' ⟨rfl,hg⟩;rw [Hb.out];have Hg:=Lib.hid hg;clear hg)
    go_ret
    exact ⟨⟨j,rfl,by rw [Hs'.out];simp⟩,HG.out.trans Hg.out⟩
  ·have HE:Hid (rows.any (Pr.badMoves K n)=false):=Lib.hid (by rw [Hall.out,List.drop_eq_nil_of_le (by rw [← Hp.out];omega)];rfl)
   clear Hall
   obtain rfl:j=p:=by omega
   go_wp2_with fail
   go_ret
   exact ⟨⟨-1,rfl,by rw [HE.out];rfl⟩,HG.out⟩
set_option maxRecDepth 100000 in
set_option maxHeartbeats 800000 in
theorem mayN_any (vf vm:Value) (K S:Int) (n:Nat) (fin:List Bool) (rows:List (List (Int × Int))) (w:World) (h1:0≤K) (h2:fin.length=n) (h3:rows.length=n) (h4:1≤n) (h5:n≤2000) (h6:0≤S) (h7:S < n) (hr:∀ r∈rows,r.length≤1000000) (hf:Bools w vf fin) (hv:Pr.RowsM w vm rows) :
  Calls Tryz.prog 18 #[.agg #[.int .i64 K,.int .i64 S,vf,vm]] w fun e w'=>e=.returned (.bool (!rows.any (Pr.badMoves K n)))∧Flow.Grow w w':=by
 obtain ⟨af,cf,rfl,_⟩:=id hf
 obtain ⟨am,cm,rfl⟩:=hv.val
 rw [h2,h3]
 rw [h3] at hv
 have HX:Hid (∀ wq,Flow.Grow (w.alloc (.cells #[.int .i64 K,.int .i64 S,.slice af n cf,.slice am n cm] 34)) wq→Calls Tryz.prog 54 #[.slice am n cm,.func (.func 34) #[] #[.pointer (some ⟨w.heap.size,0,none⟩)]] wq fun e w'=>(∃ k:Int,e=.returned (.int .i64 k)∧decide (0≤k)=rows.any (Pr.badMoves K n))∧Flow.Grow wq w'):=Lib.hid (fun wq g=>by
  have hb:wq.heap[w.heap.size]? = _:=(g.block _ (by simp) (by simp)).trans (heap_alloc_new _ _)
  exact indexN1 _ rows (by omega) hr w.heap.size K am n cm wq ((cell_of_row wq _ 0 _ _ _ hb).trans rfl) ((cell_of_row wq _ 3 _ _ _ hb).trans rfl) (hv.grow ((Flow.grow_alloc _ _).trans g)))
 have HCt:Hid (∀ wq,Flow.Grow (w.alloc (.cells #[.int .i64 K,.int .i64 S,.slice af n cf,.slice am n cm] 34)) wq→Calls Tryz.prog 33 #[.slice am n cm,.func (.func 34) #[] #[.pointer (some ⟨w.heap.size,0,none⟩)]] wq fun e w'=>e=.returned (.bool (rows.any (Pr.badMoves K n)))∧Flow.Grow wq w'):=Lib.hid (fun wq g=>by
  have HI:=Lib.hid (HX.out wq g)
  clear hf hv h1 h2 h3 h4 h5 h6 h7 hr HX g
  go_enter Tryz.func33,Tryz.ntmps33
  go_wp2_with (go_at_call 54;refine HI.out.mono ?_;rintro e w' ⟨⟨k,rfl,hk⟩,hg⟩;have Hk:=Lib.hid hk;have Hg:=Lib.hid hg;clear hk hg)
  go_ret
  exact ⟨ret_bool Hk.out,Hg.out⟩)
 clear HX hf hv hr h2 h3
 have d1:decide (K < 0)=false:=by simp;omega
 have d2:((n:Int) != (n:Int))=false:=by simp
 have d3:decide ((n:Int) < 1)=false:=by simp;omega
 have d4:decide ((n:Int) > 2000)=false:=by simp;omega
 have d5:decide (S < 0)=false:=by simp;omega
 have d6:decide (S≥(n:Int))=false:=by simp;omega
 go_enter Tryz.func18,Tryz.ntmps18
 go_wp2_with (go_at_call 33;refine (HCt.out _ (Flow.grow_refl _)).mono ?_;rintro e w' ⟨rfl,hg⟩;have Hg:=Lib.hid hg;clear hg)
 go_ret
 exact ⟨rfl,(Flow.grow_alloc _ _).trans Hg.out⟩
end Go.Proofs.YtcnmaplopbbmaaaGreat
namespace Go.Proofs.YtcnmaplopbbmaaaGreat
open Go.RowKit
namespace Gr
theorem idx_rng (L:List Lb) (x:Lb):-1≤idx L x∧idx L x < (L.length:Int):=by
 unfold idx
 split
 ·rename_i i h
  rw [List.findIdx?_eq_some_iff_findIdx_eq] at h
  have:=h.1
  omega
 ·omega
theorem G.taskT_lab (g:G) (L:List Lb) (i:Nat) (t:Tk):∀ x∈g.taskT L i t,-1≤x.1∧x.1 < (L.length:Int):=by
 intro x hx
 have h1:=idx_rng L (g.nd i).first
 have h2:=idx_rng L (g.nd i).back
 unfold taskT at hx
 simp only [List.mem_append,List.mem_flatMap] at hx
 rcases hx with (⟨p,_,hx⟩ | hx) | hx
 ·split at hx <;> simp at hx
  rw [hx];exact h1
 ·split at hx <;> simp at hx
  rw [hx];exact h2
 ·split at hx <;> simp at hx
  rcases hx with rfl | rfl
  ·exact h1
  ·simp only;omega
theorem G.nodeT_lab (g:G) (L:List Lb) (i:Nat) (t:Tk):∀ x∈g.nodeT L i t,-1≤x.1∧x.1 < (L.length:Int):=by
 intro x hx
 have h0:(-1:Int) < (L.length:Int):=by omega
 unfold nodeT at hx
 split at hx
 ·exact g.taskT_lab L i t x hx
 ·split at hx
  ·split at hx <;> simp at hx
   rw [hx];exact ⟨Int.le_refl _,h0⟩
  ·split at hx
   ·simp only [List.mem_flatMap] at hx
    obtain ⟨k,_,o,_,hx⟩:=hx
    split at hx <;> simp at hx
    rw [hx];exact ⟨Int.le_refl _,h0⟩
   ·split at hx
    ·simp only [List.mem_flatMap] at hx
     obtain ⟨k,_,hx⟩:=hx
     split at hx <;> simp at hx
     rw [hx];exact ⟨Int.le_refl _,h0⟩
    ·simp at hx
theorem G.turns_lab (g:G) (L:List Lb) (t:Tk):∀ x∈g.turns L t,-1≤x.1∧x.1 < (L.length:Int):=by
 intro x hx
 unfold turns at hx
 rw [List.mem_flatMap] at hx
 obtain ⟨i,_,hx⟩:=hx
 exact g.nodeT_lab L i t x hx
theorem G.good (g:G) (L:List Lb):Rs.Good (fun l=>g.turns L (l,false)) L.length :=
 ⟨fun l hl t ht=>by rw [← hl];exact g.turns_tk L (l,false) t ht,fun l t ht=>g.turns_lab L (l,false) t ht⟩
end Gr
namespace Rs
theorem stage_mono (f:M→List Gr.Tn) (m0:M) {j:Nat}:∀ {k:Nat},j≤k→(stage f m0 j).1.length≤(stage f m0 k).1.length
 | 0,h=>by
  obtain rfl:j=0:=by omega
  exact Nat.le_refl _
 | k+1,h=>by
  by_cases e:j=k+1
  ·subst e
   exact Nat.le_refl _
  ·obtain ⟨r,hr⟩:=stage_pre f m0 k
   have:=stage_mono f m0 (j:=j) (k:=k) (by omega)
   rw [hr,List.length_append]
   omega
theorem same_place {f:M→List Gr.Tn} {m0:M} {i i':Nat} (hL:RunL f m0 i) (hM:Run f m0 2000 i') (h60:(stage f m0 i).1.length≤60)
  (hi:i=(stage f m0 i).1.length∨∃ l,(stage f m0 i).1[i]? = some l∧Gr.bad (f l)=true)
  (hi':i'=(stage f m0 i').1.length∨∃ l,(stage f m0 i').1[i']? = some l∧(Gr.bad (f l)=true∨2000 < (stage f m0 (i'+1)).1.length)):i'=i:=by
 rcases Nat.lt_trichotomy i' i with h | h | h
 ·exfalso
  obtain ⟨l,h1,h2,h3⟩:=hL i' h
  have h4:=(List.getElem?_eq_some_iff.1 h1).1
  rcases hi' with e | ⟨l',g1,g2⟩
  ·omega
  ·rw [h1] at g1
   cases g1
   rcases g2 with g2 | g2
   ·rw [h2] at g2;cases g2
   ·have:=stage_mono f m0 (j:=i'+1) (k:=i) (by omega)
    omega
 ·exact h
 ·exfalso
  obtain ⟨l,h1,h2,h3⟩:=hM i h
  rcases hi with e | ⟨l',g1,g2⟩
  ·have:=(List.getElem?_eq_some_iff.1 h1).1
   omega
  ·rw [h1] at g1
   cases g1
   rw [h2] at g2;cases g2
theorem stage_rowlen {f:M→List Gr.Tn} {N:Nat} (h:∀ l,(f l).length≤N) (m0:M):∀ i,∀ r∈(stage f m0 i).2,r.length≤N
 | 0,r,hr=>by simp [stage] at hr
 | i+1,r,hr=>by
  rw [stage] at hr
  cases hl:(stage f m0 i).1[i]? with
  | none =>
   rw [hl] at hr
   exact stage_rowlen h m0 i r hr
  | some l =>
   rw [hl] at hr
   simp only [List.mem_append,List.mem_singleton] at hr
   rcases hr with hr | hr
   ·exact stage_rowlen h m0 i r hr
   ·have:=(fold_inv (f l) ((stage f m0 i).1,[])).1
    subst hr
    simp only [run,this,List.length_nil]
    have:=h l
    omega
theorem none_bad {K:Int} {s:List M × List Row} (h:Ok K s):(!s.2.any (Pr.badMoves K s.1.length))=true:=by
 rw [Bool.not_eq_true',List.any_eq_false]
 intro r hr
 rw [Bool.not_eq_true]
 unfold Pr.badMoves
 rw [List.any_eq_false]
 intro m hm
 have:=h.2.2 r hr m hm
 simp [Pr.badMove]
 omega
end Rs
end Go.Proofs.YtcnmaplopbbmaaaGreat
namespace Go.Proofs.YtcnmaplopbbmaaaGreat
open Go.RowKit Go.Maps
namespace Rs
section
variable {W w:World} {B:Nat} {v0 v1 v2 v3 lv:Value} {g:Gr.G} {L:List Gr.Lb} {f:M→List Gr.Tn} {m0:M} {e:Ending} {i:Nat}
theorem Left.form (h:Left W w B v0 v1 v2 v3 lv g L f m0 e):∃ am nm cm K fa fn fc ma mn mc er,e=.returned (.tuple #[.slice am nm cm,.agg #[.int .i64 K,.int .i64 0,.slice fa fn fc,.slice ma mn mc],.int .i64 er]):=by
 obtain ⟨_,_,i,_,h | ⟨l,_,h | h⟩⟩:=h
 ·obtain ⟨_,vl,vf,vm,vs,he,ho,hn⟩:=h
  obtain ⟨_,_,rfl⟩:=own_form ho
  obtain ⟨_,_,rfl⟩:=own_form hn.finals
  obtain ⟨_,_,rfl⟩:=own_form hn.moves
  exact ⟨_,_,_,_,_,_,_,_,_,_,_,he⟩
 ·exact ⟨_,_,_,_,_,_,_,_,_,_,_,h.2⟩
 ·exact ⟨_,_,_,_,_,_,_,_,_,_,_,h.2.2⟩
theorem Left.fine (h:Left W w B v0 v1 v2 v3 lv g L f m0 e) (hL:RunL f m0 i) (hi:i=(stage f m0 i).1.length) (h60:(stage f m0 i).1.length≤60) :
  ∃ vl vf vm vs,e=.returned (.tuple #[vl,.agg #[.int .i64 (L.length:Int),.int .i64 0,vf,vm],.int .i64 0]) ∧
    w.ownsRow W.heap.size 69 1 vl i ((stage f m0 i).1.map mcell)∧NS w W.heap.size vf vm ((stage f m0 i).1.map over) (stage f m0 i).2 vs:=by
 obtain ⟨_,_,i',hM,h⟩:=h
 have e:i'=i:=same_place hL hM h60 (.inl hi) (by
  rcases h with h | ⟨l,hl,h | h⟩
  ·exact .inl h.1
  ·exact .inr ⟨l,hl,.inl h.1⟩
  ·exact .inr ⟨l,hl,.inr h.2.1⟩)
 subst e
 rcases h with h | ⟨l,hl,_⟩
 ·exact h.2
 ·have:=(List.getElem?_eq_some_iff.1 hl).1
  omega
theorem Left.evil (h:Left W w B v0 v1 v2 v3 lv g L f m0 e) (hL:RunL f m0 i) {l:M} (hl:(stage f m0 i).1[i]? = some l) (hb:Gr.bad (f l)=true) (h60:(stage f m0 i).1.length≤60) :
  e=.returned (.tuple #[.slice none 0 0,.agg #[.int .i64 0,.int .i64 0,.slice none 0 0,.slice none 0 0],.int .i64 11]):=by
 obtain ⟨_,_,i',hM,h⟩:=h
 have e:i'=i:=same_place hL hM h60 (.inr ⟨l,hl,hb⟩) (by
  rcases h with h | ⟨l,hl,h | h⟩
  ·exact .inl h.1
  ·exact .inr ⟨l,hl,.inl h.1⟩
  ·exact .inr ⟨l,hl,.inr h.2.1⟩)
 subst e
 rcases h with h | ⟨l',hl',h⟩
 ·have:=(List.getElem?_eq_some_iff.1 hl).1
  omega
 ·rw [hl] at hl'
  cases hl'
  rcases h with h | h
  ·exact h.2
  ·rw [hb] at h
   cases h.1
theorem LeftL.form {K:Nat} (h:LeftL W w K f m0 e):∃ al nl cl K' fa fn fc ma mn mc ok,e=.returned (.tuple #[.slice al nl cl,.agg #[.int .i64 K',.int .i64 0,.slice fa fn fc,.slice ma mn mc],.bool ok]):=by
 obtain ⟨_,i,_,h | ⟨l,_,_,_,h⟩⟩:=h
 ·obtain ⟨_,_,vl,vf,vm,vs,he,ho,hn⟩:=h
  obtain ⟨_,_,rfl⟩:=own_form ho
  obtain ⟨_,_,rfl⟩:=own_form hn.finals
  obtain ⟨_,_,rfl⟩:=own_form hn.moves
  exact ⟨_,_,_,_,_,_,_,_,_,_,_,he⟩
 ·exact ⟨_,_,_,_,_,_,_,_,_,_,_,h⟩
end
end Rs
end Go.Proofs.YtcnmaplopbbmaaaGreat
