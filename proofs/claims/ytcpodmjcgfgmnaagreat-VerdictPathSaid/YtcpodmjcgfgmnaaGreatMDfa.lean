/- det.May by its contract: the rows, and the whole. -/
import Derived.Test.YtcpodmjcgfgmnaaGreatMay
import Derived.Test.YtcpodmjcgfgmnaaGreatMBase
import Derived.Below
import Derived.Lib.Builder
import Derived.Laws.MakeOwn
namespace Go.Proofs.YtcpodmjcgfgmnaaGreat
open Go.RowKit
def Zbp (zss:List (List Int)):Prop:=∀ l∈zss,l.length≤9223372036854775807
set_option maxRecDepth 100000 in
set_option maxHeartbeats 400000 in
theorem Zcl (v:Value) (zss:List (List Int)) (hz:zss.length≤9223372036854775807) (hsh:Zbp zss) (g:Nat) (labels:Int) (a:Option Addr) (n cap:Nat) (w:World) (hl:w.cell? ⟨g,0,none⟩=some (.int .i64 labels)) (hc:w.cell? ⟨g,3,none⟩=some (.slice a n cap)) (hv:Rows2 w v zss) :
  Calls Tryz.prog 73 #[v,.func (.func 53) #[] #[.pointer (some ⟨g,0,none⟩)]] w fun e w'=>(∃ k:Int,e=.returned (.int .i64 k)∧decide (0≤k)=zss.any (Det.badRow labels n))∧w=w':=by
 by_cases hn:zss=[]
 ·subst hn;obtain ⟨ao,cp,rfl⟩:=hv.val;go_enter Tryz.func73,Tryz.ntmps73;go_wp2_with fail;refine wp_loop_rounds 1 ?_;rw [rounds_succ];go_wp2_with fail;go_ret;exact ⟨⟨-1,rfl,rfl⟩,rfl⟩
 ·obtain ⟨b,off,cp,rfl,_,hcell⟩:=hv.shape hn;obtain ⟨len,hlen⟩:∃ len,len=zss.length:=⟨_,rfl⟩;rw [← hlen] at hcell hz ⊢;have Hlen:=Lib.hid hlen;have Hcell:=Lib.hid hcell;have Hsh:=Lib.hid hsh;clear hlen hn hv hcell hsh;go_enter Tryz.func73,Tryz.ntmps73;go_wp2_with fail;go_loop [8] (fun i=>∃ k:Nat,k≤len∧i=.int .i64 k∧Hid (zss.any (Det.badRow labels n)=(zss.drop k).any (Det.badRow labels n))) (fun i=>len - (intOf i).toNat)
  case atStart=>exact ⟨0,by omega,rfl,Lib.hid rfl⟩
  case round =>
   obtain ⟨k,hk,rfl,Hall⟩:=hrel;by_cases hkl:k < len
   ·obtain ⟨u,hcl,hu⟩:=Hcell.out k hkl;have hk':k < zss.length:=by rw [← Hlen.out];exact hkl
    have Hs:Hid ((zss.drop k).any (Det.badRow labels n)=(Det.badRow labels n (zss.getD k []) || (zss.drop (k+1)).any (Det.badRow labels n))):=by
     refine Lib.hid ?_;rw [List.drop_eq_getElem_cons hk',List.any_cons,List.getD_eq_getElem?_getD,List.getElem?_eq_getElem hk',Option.getD_some]
    have hzl:(zss.getD k []).length≤9223372036854775807:=by
     rw [List.getD_eq_getElem?_getD,List.getElem?_eq_getElem hk',Option.getD_some];exact Hsh.out _ (List.getElem_mem hk')
    clear Hcell hk';generalize zss.getD k []=z at *;have Hu:=Lib.hid hu;clear hu;cases hb:Det.badRow labels n z with
    | false =>
     have Hs':Hid (zss.any (Det.badRow labels n)=(zss.drop (k+1)).any (Det.badRow labels n)):=Lib.hid (by rw [Hall.out,Hs.out,hb];rfl);have Hb:=Lib.hid hb;clear hb Hs Hall;go_wp2_with (go_at_call 53;refine (may1 _ _ hzl _ _ _ _ _ _ hl hc Hu.out).mono ?_;rintro e w' ⟨rfl,rfl⟩;rw [Hb.out]);go_round
     case rel=>exact ⟨k+1,by omega,by go_num,Hs'⟩
     case measure=>simp [intOf];omega
    | true =>
     have Hs':Hid (zss.any (Det.badRow labels n)=true):=Lib.hid (by rw [Hall.out,Hs.out,hb];rfl);have Hb:=Lib.hid hb;clear hb Hs Hall;go_wp2_with (go_at_call 53;refine (may1 _ _ hzl _ _ _ _ _ _ hl hc Hu.out).mono ?_;rintro e w' ⟨rfl,rfl⟩;rw [Hb.out]);go_ret;exact ⟨⟨k,rfl,by rw [Hs'.out];simp⟩,rfl⟩
   ·have HE:Hid (zss.any (Det.badRow labels n)=false):=Lib.hid (by rw [Hall.out,List.drop_eq_nil_of_le (by rw [← Hlen.out];omega)];rfl);clear Hall Hcell;go_wp2_with fail;go_ret;exact ⟨⟨-1,rfl,by rw [HE.out];rfl⟩,rfl⟩
set_option maxRecDepth 100000 in
set_option maxHeartbeats 400000 in
theorem Qw9 (v:Value) (zss:List (List Int)) (hz:zss.length≤9223372036854775807) (hsh:Zbp zss) (g:Nat) (labels:Int) (a:Option Addr) (n cap:Nat) (w:World) (hl:w.cell? ⟨g,0,none⟩=some (.int .i64 labels)) (hc:w.cell? ⟨g,3,none⟩=some (.slice a n cap)) (hv:Rows2 w v zss) :
  Calls Tryz.prog 52 #[v,.func (.func 53) #[] #[.pointer (some ⟨g,0,none⟩)]] w fun e w'=>e=.returned (.bool (zss.any (Det.badRow labels n)))∧w=w':=by
 have Hsh:=Lib.hid hsh;clear hsh;go_enter Tryz.func52,Tryz.ntmps52;go_wp2_with fail;refine (Zcl _ _ hz Hsh.out _ _ _ _ _ _ hl hc hv).mono ?_;rintro e w' ⟨⟨k,rfl,hk⟩,rfl⟩;have Hk:=Lib.hid hk;clear hk;go_wp2_with fail;go_ret;exact ⟨Qax Hk.out,rfl⟩
structure DfaAt (w:World) (c:Array Value) (labels start:Int) (final:List Bool) (next:List (List Int)):Prop where
 cells:∃ vf vn,c=#[.int .i64 labels,.int .i64 start,vf,vn]∧Bools w vf final∧Rows2 w vn next
 fin:final.length≤9223372036854775807
 len:next.length≤9223372036854775807
 short:Zbp next
theorem DfaAt.grow {w w':World} {c:Array Value} {labels start:Int} {final:List Bool} {next:List (List Int)} (h:DfaAt w c labels start final next) (g:Flow.Grow w w'):DfaAt w' c labels start final next :=
 ⟨by obtain ⟨vf,vn,h1,h2,h3⟩:=h.cells;exact ⟨vf,vn,h1,h2.grow g,h3.grow g⟩,h.fin,h.len,h.short⟩
set_option maxRecDepth 100000 in
set_option maxHeartbeats 800000 in
theorem Qjd (c:Array Value) (labels start:Int) (final:List Bool) (next:List (List Int)) (w:World) (h:DfaAt w c labels start final next) :
  Calls Tryz.prog 34 #[.agg c] w fun e w'=>e=.returned (.bool (Det.may labels start final.length next))∧w'=w.alloc (.cells c 27):=by
 obtain ⟨⟨vf,vn,rfl,hf,hn⟩,hfl,hnl,hsh⟩:=h;obtain ⟨af,cf,rfl,_⟩:=hf;obtain ⟨an,cn,rfl⟩:=hn.val;have Hn:Hid (Rows2 (w.alloc (.cells #[.int .i64 labels,.int .i64 start,.slice af final.length cf,.slice an next.length cn] 27)) (.slice an next.length cn) next):=Lib.hid (hn.grow (Flow.grow_alloc _ _));have Hsh:=Lib.hid hsh;obtain ⟨nf,hnf⟩:∃ k,k=final.length:=⟨_,rfl⟩;rw [← hnf] at Hn hfl ⊢;obtain ⟨nn,hnn⟩:∃ k,k=next.length:=⟨_,rfl⟩;have Hnn:=Lib.hid hnn;rw [← hnn] at Hn hnl ⊢;have Hm:Hid (Det.may labels start nf next=(decide (0≤labels) && decide (nf=nn) && decide (1≤nn) && decide (nn≤2000) && decide (0≤start) && decide (start < nn) && !next.any (Det.badRow labels nn))):=Lib.hid (by rw [hnn];rfl);clear hn hnf hnn hsh;by_cases h1:labels < 0
 ·have d1:decide (labels < 0)=true:=by simp;omega
  have HR:Hid (Det.may labels start nf next=false):=Lib.hid (by rw [Hm.out];simp;intros;omega);clear Hm Hn;go_enter Tryz.func34,Tryz.ntmps34;go_wp2_with fail;go_ret;exact ⟨Qax HR.out.symm,rfl⟩
 ·have d1:decide (labels < 0)=false:=by simp;omega
  by_cases h2:nf≠nn
  ·have d2:((nf:Int) != (nn:Int))=true:=by simp;omega
   have e2:(nf != nn)=true:=by simp;omega
   have HR:Hid (Det.may labels start nf next=false):=Lib.hid (by rw [Hm.out];simp;intros;omega);clear Hm Hn;go_enter Tryz.func34,Tryz.ntmps34;go_wp2_with fail;go_ret;exact ⟨Qax HR.out.symm,rfl⟩
  ·have d2:((nf:Int) != (nn:Int))=false:=by simp;omega
   have e2:(nf != nn)=false:=by simp;omega
   by_cases h3:nn < 1
   ·have d3:decide ((nn:Int) < 1)=true:=by simp;omega
    have e3:decide (nn < 1)=true:=by simp;omega
    have HR:Hid (Det.may labels start nf next=false):=Lib.hid (by rw [Hm.out];simp;intros;omega);clear Hm Hn;go_enter Tryz.func34,Tryz.ntmps34;go_wp2_with fail;go_ret;exact ⟨Qax HR.out.symm,rfl⟩
   ·have d3:decide ((nn:Int) < 1)=false:=by simp;omega
    have e3:decide (nn < 1)=false:=by simp;omega
    by_cases h4:2000 < nn
    ·have d4:decide ((2000:Int) < (nn:Int))=true:=by simp;omega
     have e4:decide (2000 < nn)=true:=by simp;omega
     have HR:Hid (Det.may labels start nf next=false):=Lib.hid (by rw [Hm.out];simp;intros;omega);clear Hm Hn;go_enter Tryz.func34,Tryz.ntmps34;go_wp2_with fail;go_ret;exact ⟨Qax HR.out.symm,rfl⟩
    ·have d4:decide ((2000:Int) < (nn:Int))=false:=by simp;omega
     have e4:decide (2000 < nn)=false:=by simp;omega
     by_cases h5:start < 0
     ·have d5:decide (start < 0)=true:=by simp;omega
      have HR:Hid (Det.may labels start nf next=false):=Lib.hid (by rw [Hm.out];simp;intros;omega);clear Hm Hn;go_enter Tryz.func34,Tryz.ntmps34;go_wp2_with fail;go_ret;exact ⟨Qax HR.out.symm,rfl⟩
     ·have d5:decide (start < 0)=false:=by simp;omega
      by_cases h6:(nn:Int)≤start
      ·have d6:decide ((nn:Int)≤start)=true:=by simp;omega
       have HR:Hid (Det.may labels start nf next=false):=Lib.hid (by rw [Hm.out];simp;intros;omega);clear Hm Hn;go_enter Tryz.func34,Tryz.ntmps34;go_wp2_with fail;go_ret;exact ⟨Qax HR.out.symm,rfl⟩
      ·have d6:decide ((nn:Int)≤start)=false:=by simp;omega
       have HR:Hid (Det.may labels start nf next=!next.any (Det.badRow labels nn)):=Lib.hid (by rw [Hm.out];simp;intros;omega);clear Hm;go_enter Tryz.func34,Tryz.ntmps34;go_wp2_with fail;refine (Qw9 _ _ (by rw [← Hnn.out];exact hnl) Hsh.out _ labels an nn cn _ (by simp [World.cell?_alloc_new]) (by simp [World.cell?_alloc_new]) Hn.out).mono ?_;rintro e w' ⟨rfl,rfl⟩;clear Hn;go_wp2_with fail;go_ret;exact ⟨Qax HR.out.symm,rfl⟩
end Go.Proofs.YtcpodmjcgfgmnaaGreat
namespace Go.Proofs.YtcpodmjcgfgmnaaGreat
open Go.RowKit
def Qaj (l:List Int):Array Value:=(l.map (Value.int .i64)).toArray
theorem Qms (l:List Int):(Qaj l).size=l.length:=by simp [Qaj]
theorem Qa1 {l:List Int} {i:Nat} (h:i < l.length):(Qaj l)[i]?=some (.int .i64 (l.getD i 0)):=by simp [Qaj,h]
theorem Qcc {w:World} {g e:Nat} {l:List Int} {q:Nat} {z:Int} (h:w.heap[g]?=some (.cells (Qaj l) e (0,0))) :
  (w.setCell ⟨g,q,none⟩ (.int .i64 z)).heap[g]?=some (.cells (Qaj (l.set q z)) e (0,0)):=by
 rw [heap_setCell_same w g q _ e _ h];congr 2;apply Array.ext';simp [Qaj,List.map_set]
theorem Qmt (n:Nat):madeCells (Value.int .i64 0).cells (n * 1)=Qaj (List.replicate n 0):=by
 refine Array.ext (by simp [madeCells,Qaj]) fun i h1 h2=>?_;simp [madeCells,Qaj,Value.cells,Nat.mod_one]
theorem Qag {w wr:World} {g:Nat} (h:Flow.Grow w wr) (hg:w.heap.size≤g) (q:Nat) (u:Value):Flow.Grow w (wr.setCell ⟨g,q,none⟩ u) :=
 ⟨h.os,h.tape,h.output,by simpa [World.setCell] using h.size,fun i hi hne=>by
  rw [Below.heap_setCell _ _ _ _ (by show i≠g;omega)];exact h.block i hi hne⟩
theorem Qap {W w w1:World} {row:Option Nat} (h:Flow.Grow W w) (k:w.grownBy w1 row) (hr:∀ b,row=some b→W.heap.size≤b):Flow.Grow W w1 :=
 ⟨k.os.trans h.os,k.tape.trans h.tape,k.output.trans h.output,Nat.le_trans h.size k.size,fun i hi hne=>(k.block i (Nat.lt_of_lt_of_le hi h.size) (fun e=>by have:=hr i e.symm;omega)).trans (h.block i hi hne)⟩
structure DfaSt (w:World) (G:Nat) (L:Nat) (start:Int) (vf vn:Value) (fin:List Bool) (rows:List (List Int)) (rs:List Nat):Prop where
 block:w.heap[G]?=some (.cells #[.int .i64 L,.int .i64 start,vf,vn] 27 (0,0))
 finals:w.ownsRow (G+1) 4 1 vf fin.length (fin.map Value.bool)
 nexts:w.ownsRow (G+1) 49 1 vn rows.length (rs.map fun g=>Value.slice (some ⟨g,0,none⟩) L L)
 len:rs.length=rows.length
 inj:∀ i j,i < rs.length→j < rs.length→rs.getD i 0=rs.getD j 0→i=j
 row:∀ j,j < rows.length→G+1≤rs.getD j 0∧w.heap[rs.getD j 0]?=some (.cells (Qaj (rows.getD j [])) 3 (0,0))∧(rows.getD j []).length=L
variable {w w0 w1:World} {G L:Nat} {start:Int} {vf vn v':Value} {fin:List Bool} {rows:List (List Int)} {rs:List Nat}
theorem DfaSt.lt (h:DfaSt w G L start vf vn fin rows rs):G < w.heap.size:=(Array.getElem?_eq_some_iff.1 h.block).1
theorem DfaSt.row_lt (h:DfaSt w G L start vf vn fin rows rs) {j:Nat} (hj:j < rows.length):rs.getD j 0 < w.heap.size:=(Array.getElem?_eq_some_iff.1 (h.row j hj).2.1).1
theorem DfaSt.cell (h:DfaSt w G L start vf vn fin rows rs) (j:Nat):w.cell? ⟨G,j,none⟩=(#[.int .i64 L,.int .i64 start,vf,vn]:Array Value)[j]?:=cell_of_row w G j _ _ _ h.block
theorem DfaSt.grow (h:DfaSt w0 G L start vf vn fin rows rs) (g:Flow.Grow w0 w):DfaSt w G L start vf vn fin rows rs where
 block:=(g.block _ h.lt (by simp)).trans h.block
 finals:=h.finals.kept g (by cases vf.ownBlock <;> simp)
 nexts:=h.nexts.kept g (by cases vn.ownBlock <;> simp)
 len:=h.len
 inj:=h.inj
 row:=fun j hj=>⟨(h.row j hj).1,(g.block _ (h.row_lt hj) (by simp)).trans (h.row j hj).2.1,(h.row j hj).2.2⟩
theorem DfaSt.after {o:Obj} {row:Option Nat} (h:DfaSt w G L start vf vn fin rows rs) (k:(w.alloc o).grownBy w1 row) (hr:∀ b,row=some b→G+1≤b) :
  w1.heap[G]?=some (.cells #[.int .i64 L,.int .i64 start,vf,vn] 27 (0,0)):=by
 rw [k.block G (h.grow (Flow.grow_alloc w o)).lt (fun e=>by have:=hr G e.symm;omega)];exact (h.grow (Flow.grow_alloc w o)).block
theorem DfaSt.nexts_lo (h:DfaSt w G L start vf vn fin rows rs):∀ b,vn.ownBlock=some b→G+1≤b:=fun b hb=>(h.nexts.lt b hb).1
theorem DfaSt.finals_lo (h:DfaSt w G L start vf vn fin rows rs):∀ b,vf.ownBlock=some b→G+1≤b:=fun b hb=>(h.finals.lt b hb).1
theorem Qaw {e n:Nat} {v:Value} {xs:List Value} {B:Nat} (h:w.ownsRow B e 1 v n xs):∃ a cap,v=.slice a n cap:=by
 rcases h.2 with ⟨rfl,rfl⟩ | ⟨g,cap,cur,hv,_⟩
 ·exact ⟨none,0,rfl⟩
 ·exact ⟨_,_,hv⟩
theorem Qr0 {e e':Nat} {v u:Value} {n m:Nat} {xs ys:List Value} {B B':Nat} (h:w.ownsRow B e 1 v n xs) (k:w.ownsRow B' e' 1 u m ys) (hne:e≠e'):v.ownBlock=none∨v.ownBlock≠u.ownBlock:=by
 rcases k.2 with ⟨rfl,_⟩ | ⟨g,cap,cur,rfl,_,hg,_⟩
 ·cases h:v.ownBlock
  ·exact .inl rfl
  ·exact .inr (by simp [Value.ownBlock])
 ·right;exact Lib.ownBlock_ne h hg (Ne.symm hne)
theorem DfaSt.pushRow {o:Obj} {r:Nat} {row:List Int} (h:DfaSt w0 G L start vf vn fin rows rs) (g:Flow.Grow w0 w) (hr:w0.heap.size≤r) (hb:w.heap[r]?=some (.cells (Qaj row) 3 (0,0))) (hl:row.length=L)
  (hown:w1.ownsRow (G+1) 49 1 v' (rows.length+1) ((rs.map fun g=>Value.slice (some ⟨g,0,none⟩) L L)++[.slice (some ⟨r,0,none⟩) L L])) (k:(w.alloc o).grownBy w1 vn.ownBlock) :
  DfaSt (w1.setCell ⟨G,3,none⟩ v') G L start vf v' fin (rows++[row]) (rs++[r]):=by
 have h':=h.grow (g.trans (Flow.grow_alloc w o));have hlt:=h'.lt;have hGr:G < r:=Nat.lt_of_lt_of_le h.lt hr;have hlo:∀ b,vn.ownBlock=some b→G+1≤b:=fun b hb=>(h'.nexts.lt b hb).1;have hrlt:r < (w.alloc o).heap.size:=by have:=(Array.getElem?_eq_some_iff.1 hb).1;simp;omega
 have hb':(w.alloc o).heap[r]?=some (.cells (Qaj row) 3 (0,0)):=by rw [Below.heap_alloc w o r (Array.getElem?_eq_some_iff.1 hb).1];exact hb
 have hG1:w1.heap[G]?=some (.cells #[.int .i64 L,.int .i64 start,vf,vn] 27 (0,0)):=by
  rw [k.block G hlt (fun e=>by have:=hlo G e.symm;omega)];exact h'.block
 have keep:∀ (b:Nat) (cs:Array Value),(w.alloc o).heap[b]?=some (.cells cs 3 (0,0))→w1.heap[b]?=some (.cells cs 3 (0,0)):=fun b cs hbb=>by
  rw [k.block b (Array.getElem?_eq_some_iff.1 hbb).1 (Ne.symm (Lib.ownBlock_ne h'.nexts hbb (by decide)))];exact hbb
 have set:∀ b,G+1≤b→(w1.setCell ⟨G,3,none⟩ v').heap[b]?=w1.heap[b]?:=fun b hb=>Below.heap_setCell _ _ _ _ (by show b≠G;omega);refine ⟨?_,?_,?_,by simp [h.len],?_,?_⟩
 ·rw [heap_setCell_same w1 G 3 _ _ _ hG1];rfl
 ·have hf:=h'.finals.kept k (Qr0 h'.finals h'.nexts (by decide));exact hf.kept (row:=some G) ⟨rfl,rfl,rfl,by simp [World.setCell],fun b _ hne=>Below.heap_setCell _ _ _ _ (by show b≠G;intro e;exact hne (by rw [e]))⟩ (.inr (Lib.ownBlock_ne hf hG1 (by decide)))
 ·have hn:=hown.kept (row:=some G) (w':=w1.setCell ⟨G,3,none⟩ v') ⟨rfl,rfl,rfl,by simp [World.setCell],fun b _ hne=>Below.heap_setCell _ _ _ _ (by show b≠G;intro e;exact hne (by rw [e]))⟩ (.inr (Lib.ownBlock_ne hown hG1 (by decide)));simpa using hn
 ·have hne:∀ i,i < rs.length→rs.getD i 0≠r:=fun i hi e=>by
   have:=h.row_lt (j:=i) (by rw [← h.len];exact hi);omega
  intro i j hi hj e;rw [List.length_append,List.length_singleton] at hi hj;have gl:∀ q,q < rs.length→(rs++[r]).getD q 0=rs.getD q 0:=fun q hq=>by simp [List.getD_eq_getElem?_getD,List.getElem?_append_left hq]
  have gr:(rs++[r]).getD rs.length 0=r:=by simp
  rcases Nat.lt_or_ge i rs.length with hi' | hi' <;> rcases Nat.lt_or_ge j rs.length with hj' | hj'
  ·rw [gl i hi',gl j hj'] at e;exact h.inj i j hi' hj' e
  ·rw [show j=rs.length by omega,gl i hi',gr] at e;exact (hne i hi' e).elim
  ·rw [show i=rs.length by omega,gl j hj',gr] at e;exact (hne j hj' e.symm).elim
  ·omega
 ·intro j hj;rw [List.length_append,List.length_singleton] at hj;rcases Nat.lt_or_ge j rows.length with hj' | hj'
  ·have hjr:j < rs.length:=by rw [h.len];exact hj'
   have e1:(rs++[r]).getD j 0=rs.getD j 0:=by simp [List.getD_eq_getElem?_getD,List.getElem?_append_left hjr]
   have e2:(rows++[row]).getD j []=rows.getD j []:=by simp [List.getD_eq_getElem?_getD,List.getElem?_append_left hj']
   obtain ⟨a1,a2,a3⟩:=h'.row j hj';rw [e1,e2];exact ⟨a1,by rw [set _ a1];exact keep _ _ a2,a3⟩
  ·have ej:j=rows.length:=by omega
   subst ej;have e1:(rs++[r]).getD rows.length 0=r:=by rw [← h.len];simp
   have e2:(rows++[row]).getD rows.length []=row:=by simp
   rw [e1,e2];exact ⟨by omega,by rw [set _ (by omega)];exact keep _ _ hb',hl⟩
theorem DfaSt.pushFin {o:Obj} {x:Bool} (h:DfaSt w G L start vf vn fin rows rs)
  (hown:w1.ownsRow (G+1) 4 1 v' (fin.length+1) (fin.map Value.bool++[.bool x])) (k:(w.alloc o).grownBy w1 vf.ownBlock) :
  DfaSt (w1.setCell ⟨G,2,none⟩ v') G L start v' vn (fin++[x]) rows rs:=by
 have h':=h.grow (Flow.grow_alloc w o);have hlt:=h'.lt;have hlo:∀ b,vf.ownBlock=some b→G+1≤b:=fun b hb=>(h'.finals.lt b hb).1;have hG1:w1.heap[G]?=some (.cells #[.int .i64 L,.int .i64 start,vf,vn] 27 (0,0)):=by
  rw [k.block G hlt (fun e=>by have:=hlo G e.symm;omega)];exact h'.block
 have keep:∀ (b:Nat) (cs:Array Value),(w.alloc o).heap[b]?=some (.cells cs 3 (0,0))→w1.heap[b]?=some (.cells cs 3 (0,0)):=fun b cs hbb=>by
  rw [k.block b (Array.getElem?_eq_some_iff.1 hbb).1 (Ne.symm (Lib.ownBlock_ne h'.finals hbb (by decide)))];exact hbb
 have set:∀ b,G+1≤b→(w1.setCell ⟨G,2,none⟩ v').heap[b]?=w1.heap[b]?:=fun b hb=>Below.heap_setCell _ _ _ _ (by show b≠G;omega);have gset:w1.grownBy (w1.setCell ⟨G,2,none⟩ v') (some G):=⟨rfl,rfl,rfl,by simp [World.setCell],fun b _ hne=>Below.heap_setCell _ _ _ _ (by show b≠G;intro e;exact hne (by rw [e]))⟩;refine ⟨?_,?_,?_,h.len,h.inj,?_⟩
 ·rw [heap_setCell_same w1 G 2 _ _ _ hG1];rfl
 ·have hn:=hown.kept gset (.inr (Lib.ownBlock_ne hown hG1 (by decide)));simpa using hn
 ·have hf:=h'.nexts.kept k (Qr0 h'.nexts h'.finals (by decide));exact hf.kept gset (.inr (Lib.ownBlock_ne hf hG1 (by decide)))
 ·intro j hj;obtain ⟨a1,a2,a3⟩:=h'.row j hj;exact ⟨a1,by rw [set _ a1];exact keep _ _ a2,a3⟩
theorem DfaSt.put {a b:Nat} {z:Int} (h:DfaSt w G L start vf vn fin rows rs) (ha:a < rows.length) :
  DfaSt (w.setCell ⟨rs.getD a 0,b,none⟩ (.int .i64 z)) G L start vf vn fin (rows.set a ((rows.getD a []).set b z)) rs:=by
 obtain ⟨a1,a2,a3⟩:=h.row a ha;have gset:w.grownBy (w.setCell ⟨rs.getD a 0,b,none⟩ (.int .i64 z)) (some (rs.getD a 0)):=⟨rfl,rfl,rfl,by simp [World.setCell],fun q _ hne=>Below.heap_setCell _ _ _ _ (by show q≠rs.getD a 0;intro e;exact hne (by rw [e]))⟩;refine ⟨?_,?_,?_,by simp [h.len],h.inj,?_⟩
 ·rw [Below.heap_setCell _ _ _ _ (by show G≠rs.getD a 0;omega)];exact h.block
 ·exact h.finals.kept gset (.inr (Lib.ownBlock_ne h.finals a2 (by decide)))
 ·have:=h.nexts.kept gset (.inr (Lib.ownBlock_ne h.nexts a2 (by decide)));simpa using this
 ·intro j hj;rw [List.length_set] at hj;obtain ⟨b1,b2,b3⟩:=h.row j hj;by_cases e:a=j
  ·subst e;have e2:(rows.set a ((rows.getD a []).set b z)).getD a []=(rows.getD a []).set b z:=by simp [ha]
   rw [e2];exact ⟨b1,Qcc b2,by simpa using b3⟩
  ·have e2:(rows.set a ((rows.getD a []).set b z)).getD j []=rows.getD j []:=by simp [List.getD_eq_getElem?_getD,List.getElem?_set_ne e]
   rw [e2];refine ⟨b1,?_,b3⟩;rw [Below.heap_setCell _ _ _ _ (by show rs.getD j 0≠rs.getD a 0;intro e';exact e (h.inj a j (by rw [h.len];exact ha) (by rw [h.len];exact hj) e'.symm))];exact b2
theorem DfaSt.begins (h:DfaSt w G L start vf vn fin rows rs) (z:Int):DfaSt (w.setCell ⟨G,1,none⟩ (.int .i64 z)) G L z vf vn fin rows rs:=by
 have gset:w.grownBy (w.setCell ⟨G,1,none⟩ (.int .i64 z)) (some G):=⟨rfl,rfl,rfl,by simp [World.setCell],fun q _ hne=>Below.heap_setCell _ _ _ _ (by show q≠G;intro e;exact hne (by rw [e]))⟩;refine ⟨?_,h.finals.kept gset (.inr (Lib.ownBlock_ne h.finals h.block (by decide))),h.nexts.kept gset (.inr (Lib.ownBlock_ne h.nexts h.block (by decide))),h.len,h.inj,fun j hj=>?_⟩
 ·rw [heap_setCell_same w G 1 _ _ _ h.block];rfl
 ·obtain ⟨b1,b2,b3⟩:=h.row j hj;exact ⟨b1,by rw [Below.heap_setCell _ _ _ _ (by show rs.getD j 0≠G;omega)];exact b2,b3⟩
theorem DfaSt.old (h:DfaSt w G L start vf vn fin rows rs) {x:Nat} (hx:x < G) (q:Nat) (u:Value):DfaSt (w.setCell ⟨x,q,none⟩ u) G L start vf vn fin rows rs:=by
 have gset:w.grownBy (w.setCell ⟨x,q,none⟩ u) (some x):=⟨rfl,rfl,rfl,by simp [World.setCell],fun q _ hne=>Below.heap_setCell _ _ _ _ (by show q≠x;intro e;exact hne (by rw [e]))⟩;refine ⟨?_,h.finals.kept gset ?_,h.nexts.kept gset ?_,h.len,h.inj,fun j hj=>?_⟩
 ·rw [Below.heap_setCell _ _ _ _ (by show G≠x;omega)];exact h.block
 ·cases hb:vf.ownBlock with
  | none=>exact .inl rfl
  | some b=>right;intro e;injection e with e;have:=h.finals_lo b hb;omega
 ·cases hb:vn.ownBlock with
  | none=>exact .inl rfl
  | some b=>right;intro e;injection e with e;have:=h.nexts_lo b hb;omega
 ·obtain ⟨b1,b2,b3⟩:=h.row j hj;exact ⟨b1,by rw [Below.heap_setCell _ _ _ _ (by show rs.getD j 0≠x;omega)];exact b2,b3⟩
theorem DfaSt.same (h:DfaSt w G L start vf vn fin rows rs) (q:Nat) (u:Value) (hq:(#[.int .i64 L,.int .i64 start,vf,vn]:Array Value)[q]?=some u):DfaSt (w.setCell ⟨G,q,none⟩ u) G L start vf vn fin rows rs:=by
 have gset:w.grownBy (w.setCell ⟨G,q,none⟩ u) (some G):=⟨rfl,rfl,rfl,by simp [World.setCell],fun q _ hne=>Below.heap_setCell _ _ _ _ (by show q≠G;intro e;exact hne (by rw [e]))⟩;refine ⟨?_,h.finals.kept gset (.inr (Lib.ownBlock_ne h.finals h.block (by decide))),h.nexts.kept gset (.inr (Lib.ownBlock_ne h.nexts h.block (by decide))),h.len,h.inj,fun j hj=>?_⟩
 ·rw [heap_setCell_same w G q _ _ _ h.block];congr 2;refine Array.ext (by simp) fun i h1 h2=>?_;rw [Array.getElem_setIfInBounds];split
  ·rename_i e;subst e;rw [Array.getElem?_eq_getElem h2] at hq;exact (Option.some.inj hq).symm
  ·rfl
 ·obtain ⟨b1,b2,b3⟩:=h.row j hj;exact ⟨b1,by rw [Below.heap_setCell _ _ _ _ (by show rs.getD j 0≠G;omega)];exact b2,b3⟩
theorem DfaSt.dfa (h:DfaSt w G L start vf vn fin rows rs) (hL:L≤9223372036854775807) (hf:fin.length≤9223372036854775807) (hn:rows.length≤9223372036854775807) :
  DfaAt w #[.int .i64 L,.int .i64 start,vf,vn] L start fin rows:=by
 refine ⟨⟨vf,vn,rfl,Seg.of_own h.finals,⟨_,Seg.of_own h.nexts,fun j hj=>?_⟩⟩,hf,hn,?_⟩
 ·obtain ⟨b1,b2,b3⟩:=h.row j hj;have hjr:j < rs.length:=by rw [h.len];exact hj
  have e1:(rs.map fun g=>Value.slice (some ⟨g,0,none⟩) L L).getD j undef=.slice (some ⟨rs.getD j 0,0,none⟩) L L:=by simp [hjr]
  rw [e1];refine ⟨_,_,by rw [b3],by simp,by simp,fun q hq=>⟨_,_,rfl,h.row_lt hj,?_⟩⟩;rw [cell_of_row w _ _ _ _ _ b2,Nat.zero_add];simp [Qaj]
 ·intro l hl;obtain ⟨j,hj,rfl⟩:=List.mem_iff_getElem.1 hl;have:=(h.row j hj).2.2;rw [List.getD_eq_getElem?_getD,List.getElem?_eq_getElem hj,Option.getD_some] at this;omega
end Go.Proofs.YtcpodmjcgfgmnaaGreat
