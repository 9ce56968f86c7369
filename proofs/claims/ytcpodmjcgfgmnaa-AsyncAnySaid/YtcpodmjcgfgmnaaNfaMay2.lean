/- reach.May by its contract, second part. -/
import Derived.Test.YtcpodmjcgfgmnaaNfaMay
namespace Go.Proofs.Ytcpodmjcgfgmnaa
open Go.RowKit
namespace Pr
def badMoves (K:Int) (n:Nat) (l:List (Int × Int)):Bool:=l.any (badMove K n)
end Pr
set_option maxRecDepth 100000 in
set_option maxHeartbeats 800000 in
theorem mayN1 (v:Value) (l:List (Int × Int)) (hz:l.length≤1000000) (g:Nat) (K:Int) (a:Option Addr) (n cap:Nat) (w:World) (hl:w.cell? ⟨g,0,none⟩=some (.int .i64 K)) (hc:w.cell? ⟨g,3,none⟩=some (.slice a n cap)) (hv:Pr.Mvs w v l) :
  Calls Try.prog 73 #[v,.pointer (some ⟨g,0,none⟩)] w fun e w'=>e=.returned (.bool (Pr.badMoves K n l))∧Flow.Grow w w':=by
 have HI:Hid (Calls Try.prog 82 #[v,.func (.func 75) #[] #[.pointer (some ⟨g,0,none⟩)]] w fun e w'=>(∃ k:Int,e=.returned (.int .i64 k)∧decide (0≤k)=l.any (Pr.badMove K n))∧Flow.Grow w w'):=Lib.hid (indexN11 v l hz g K a n cap w hl hc hv)
 have HCt:Hid (Calls Try.prog 74 #[v,.func (.func 75) #[] #[.pointer (some ⟨g,0,none⟩)]] w fun e w'=>e=.returned (.bool (Pr.badMoves K n l))∧Flow.Grow w w'):=Lib.hid (by
  clear hl hc hv hz
  go_enter Try.func74,Try.ntmps74
  go_wp2_with (go_at_call 82;refine HI.out.mono ?_;rintro e w' ⟨⟨k,rfl,hk⟩,hg⟩;have Hk:=Lib.hid hk;have Hg:=Lib.hid hg;clear hk hg)
  go_ret
  exact ⟨ret_bool Hk.out,Hg.out⟩)
 clear HI hl hc hv hz
 go_enter Try.func73,Try.ntmps73
 go_wp2_with (go_at_call 74;refine HCt.out.mono ?_;rintro e w' ⟨rfl,hg⟩;have Hg:=Lib.hid hg;clear hg)
 go_ret
 exact ⟨rfl,Hg.out⟩
set_option maxRecDepth 100000 in
set_option maxHeartbeats 800000 in
theorem indexN1 (v:Value) (rows:List (List (Int × Int))) (hz:rows.length≤1000000) (hr:∀ r∈rows,r.length≤1000000) (g:Nat) (K:Int) (a:Option Addr) (n cap:Nat) (w:World) (hl:w.cell? ⟨g,0,none⟩=some (.int .i64 K)) (hc:w.cell? ⟨g,3,none⟩=some (.slice a n cap)) (hv:Pr.RowsM w v rows) :
  Calls Try.prog 81 #[v,.func (.func 73) #[] #[.pointer (some ⟨g,0,none⟩)]] w fun e w'=>(∃ k:Int,e=.returned (.int .i64 k)∧decide (0≤k)=rows.any (Pr.badMoves K n))∧Flow.Grow w w':=by
 have HV:=Lib.hid hv
 have HL:=Lib.hid hl
 have HC:=Lib.hid hc
 have HR:=Lib.hid hr
 obtain ⟨ao,ac,rfl⟩:=hv.val
 clear hv hc hl hr
 obtain ⟨p,hp⟩:∃ p,p=rows.length:=⟨_,rfl⟩
 have Hp:=Lib.hid hp
 rw [← hp] at hz HV ⊢
 clear hp
 go_enter Try.func81,Try.ntmps81
 go_wp2_with fail
 go_loopw [8] (fun i wr=>∃ j:Nat,j≤p∧i=.int .i64 j∧Hid (rows.any (Pr.badMoves K n)=(rows.drop j).any (Pr.badMoves K n))∧Hid (Flow.Grow w wr)) (fun i _=>p - (intOf i).toNat)
 case atStart=>exact ⟨0,by omega,rfl,Lib.hid rfl,Lib.hid (Flow.grow_refl _)⟩
 case round =>
  obtain ⟨j,hj,rfl,Hall,HG⟩:=hrel
  rename World=>wr
  by_cases hjn:j < p
  ·have hk':j < rows.length:=by rw [← Hp.out];exact hjn
   obtain ⟨b,off,ra,rc,rfl,q0,q1⟩:=(HV.out.grow HG.out).at (j:=j) hk'
   have Hs:Hid ((rows.drop j).any (Pr.badMoves K n)=(Pr.badMoves K n (rows.getD j []) || (rows.drop (j+1)).any (Pr.badMoves K n))):=by
    refine Lib.hid ?_
    rw [List.drop_eq_getElem_cons hk',List.any_cons,List.getD_eq_getElem?_getD,List.getElem?_eq_getElem hk',Option.getD_some]
   have hzl:(rows.getD j []).length≤1000000:=by
    rw [List.getD_eq_getElem?_getD,List.getElem?_eq_getElem hk',Option.getD_some]
    exact HR.out _ (List.getElem_mem hk')
   clear hk'
   generalize rows.getD j []=m at *
   have HCC:Hid (Calls Try.prog 73 #[.slice ra m.length rc,.pointer (some ⟨g,0,none⟩)] wr fun e w'=>e=.returned (.bool (Pr.badMoves K n m))∧Flow.Grow wr w'):=Lib.hid (mayN1 _ m hzl g K a n cap wr (Xm2.cell_grow HG.out HL.out) (Xm2.cell_grow HG.out HC.out) q1)
   clear q1
   cases hb:Pr.badMoves K n m with
   | false =>
    have Hs':Hid (rows.any (Pr.badMoves K n)=(rows.drop (j+1)).any (Pr.badMoves K n)):=Lib.hid (by rw [Hall.out,Hs.out,hb];rfl)
    have Hb:=Lib.hid hb
    clear hb Hs Hall
    go_wp2_with (go_at_call 73;refine HCC.out.mono ?_;rintro e w' ⟨rfl,hg⟩;rw [Hb.out];have Hg:=Lib.hid hg;clear hg)
    go_roundw
    case rel=>exact ⟨j+1,by omega,by go_num,Hs',Lib.hid (HG.out.trans Hg.out)⟩
    case measure=>simp [intOf];omega
   | true =>
    have Hs':Hid (rows.any (Pr.badMoves K n)=true):=Lib.hid (by rw [Hall.out,Hs.out,hb];rfl)
    have Hb:=Lib.hid hb
    clear hb Hs Hall
    go_wp2_with (go_at_call 73;refine HCC.out.mono ?_;rintro e w' ⟨rfl,hg⟩;rw [Hb.out];have Hg:=Lib.hid hg;clear hg)
    go_ret
    exact ⟨⟨j,rfl,by rw [Hs'.out];simp⟩,HG.out.trans Hg.out⟩
  ·have HE:Hid (rows.any (Pr.badMoves K n)=false):=Lib.hid (by rw [Hall.out,List.drop_eq_nil_of_le (by rw [← Hp.out];omega)];rfl)
   clear Hall
   obtain rfl:j=p:=by omega
   go_wp2_with fail
   go_ret
   exact ⟨⟨-1,rfl,by rw [HE.out];rfl⟩,HG.out⟩
set_option maxRecDepth 100000 in
set_option maxHeartbeats 800000 in
theorem mayN_any (vf vm:Value) (K S:Int) (n:Nat) (fin:List Bool) (rows:List (List (Int × Int))) (w:World) (h1:0≤K) (h2:fin.length=n) (h3:rows.length=n) (h4:1≤n) (h5:n≤2000) (h6:0≤S) (h7:S < n) (hr:∀ r∈rows,r.length≤1000000) (hf:Bools w vf fin) (hv:Pr.RowsM w vm rows) :
  Calls Try.prog 64 #[.agg #[.int .i64 K,.int .i64 S,vf,vm]] w fun e w'=>e=.returned (.bool (!rows.any (Pr.badMoves K n)))∧Flow.Grow w w':=by
 obtain ⟨af,cf,rfl,_⟩:=id hf
 obtain ⟨am,cm,rfl⟩:=hv.val
 rw [h2,h3]
 rw [h3] at hv
 have HX:Hid (∀ wq,Flow.Grow (w.alloc (.cells #[.int .i64 K,.int .i64 S,.slice af n cf,.slice am n cm] 104)) wq→Calls Try.prog 81 #[.slice am n cm,.func (.func 73) #[] #[.pointer (some ⟨w.heap.size,0,none⟩)]] wq fun e w'=>(∃ k:Int,e=.returned (.int .i64 k)∧decide (0≤k)=rows.any (Pr.badMoves K n))∧Flow.Grow wq w'):=Lib.hid (fun wq g=>by
  have hb:wq.heap[w.heap.size]?=_:=(g.block _ (by simp) (by simp)).trans (heap_alloc_new _ _)
  exact indexN1 _ rows (by omega) hr w.heap.size K am n cm wq ((cell_of_row wq _ 0 _ _ _ hb).trans rfl) ((cell_of_row wq _ 3 _ _ _ hb).trans rfl) (hv.grow ((Flow.grow_alloc _ _).trans g)))
 have HCt:Hid (∀ wq,Flow.Grow (w.alloc (.cells #[.int .i64 K,.int .i64 S,.slice af n cf,.slice am n cm] 104)) wq→Calls Try.prog 72 #[.slice am n cm,.func (.func 73) #[] #[.pointer (some ⟨w.heap.size,0,none⟩)]] wq fun e w'=>e=.returned (.bool (rows.any (Pr.badMoves K n)))∧Flow.Grow wq w'):=Lib.hid (fun wq g=>by
  have HI:=Lib.hid (HX.out wq g)
  clear hf hv h1 h2 h3 h4 h5 h6 h7 hr HX g
  go_enter Try.func72,Try.ntmps72
  go_wp2_with (go_at_call 81;refine HI.out.mono ?_;rintro e w' ⟨⟨k,rfl,hk⟩,hg⟩;have Hk:=Lib.hid hk;have Hg:=Lib.hid hg;clear hk hg)
  go_ret
  exact ⟨ret_bool Hk.out,Hg.out⟩)
 clear HX hf hv hr h2 h3
 have d1:decide (K < 0)=false:=by simp;omega
 have d2:((n:Int) != (n:Int))=false:=by simp
 have d3:decide ((n:Int) < 1)=false:=by simp;omega
 have d4:decide ((n:Int) > 2000)=false:=by simp;omega
 have d5:decide (S < 0)=false:=by simp;omega
 have d6:decide (S≥(n:Int))=false:=by simp;omega
 go_enter Try.func64,Try.ntmps64
 go_wp2_with (go_at_call 72;refine (HCt.out _ (Flow.grow_refl _)).mono ?_;rintro e w' ⟨rfl,hg⟩;have Hg:=Lib.hid hg;clear hg)
 go_ret
 exact ⟨rfl,(Flow.grow_alloc _ _).trans Hg.out⟩
end Go.Proofs.Ytcpodmjcgfgmnaa
