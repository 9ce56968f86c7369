/- The cells of three participants; peer.Find by its contract. -/
import Derived.Test.YtcpodmjcgfgmnaaGreatMPer
import Derived.BigQuiet
namespace Go.Proofs.YtcpodmjcgfgmnaaGreat
open Go.RowKit Go.Maps
namespace Pr
theorem Qjm {n:Nat}:∀ (css:List (List Value)),(∀ c∈css,c.length=n)→∀ i k,i < css.length→k < n→css.flatten[i * n+k]?=(css.getD i [])[k]?
 | [],_,i,_,hi,_=>by simp at hi
 | c :: css,h,i,k,hi,hk=>by
  have hc:c.length=n:=h c (by simp);cases i with
  | zero=>simp [List.getElem?_append_left (show k < c.length by omega)]
  | succ i =>
   have:=Qjm css (fun c hc=>h c (by simp [hc])) i k (by simpa using hi) hk;rw [List.flatten_cons,List.getElem?_append_right (by rw [hc,Nat.add_mul];omega),hc,show (i+1) * n+k - n=i * n+k by rw [Nat.add_mul];omega,this];simp
theorem PeersAt.at_ {w:World} {v:Value} {ls:List Lb} {css:List (List Value)} {ps:List Pd} (h:PeersAt w v ls css ps):∃ (b off cap:Nat),v=.slice (some ⟨b,off,none⟩) 3 cap∧b < w.heap.size∧∀ i,i < 3→∃ (va vf vn:Value) (p:Pd),p=ps.getD i default∧w.cell? ⟨b,off+i * 6,none⟩=some (.int .i64 (i:Int))∧w.cell? ⟨b,off+i * 6+1,none⟩=some va∧w.cell? ⟨b,off+i * 6+2,none⟩=some (.int .i64 (p.acts.length:Nat))∧w.cell? ⟨b,off+i * 6+3,none⟩=some (.int .i64 0)∧w.cell? ⟨b,off+i * 6+4,none⟩=some vf∧w.cell? ⟨b,off+i * 6+5,none⟩=some vn∧Seg 2 w va p.acts.length (flat2 p.acts)∧Bools w vf p.fin∧Rows2 w vn p.rows∧p.Ok ls i:=by
 have h6:∀ c∈css,c.length=6:=by
  intro c hc;obtain ⟨i,hi,rfl⟩:=List.getElem_of_mem hc;obtain ⟨va,vf,vn,e,_⟩:=h.row i (by have:=h.len;omega);have:css.getD i []=css[i]:=by simp [hi]
  rw [this] at e;rw [e];rfl
 obtain ⟨a,cap,hv,hl,_,hc⟩:=h.seg;obtain ⟨b,off,ha,hb,_⟩:=hc 0 (by omega);refine ⟨b,off,cap,by rw [hv,ha],hb,fun i hi=>?_⟩;obtain ⟨va,vf,vn,e,h1,h2,h3,h4⟩:=h.row i hi;have hk:∀ k,k < 6→w.cell? ⟨b,off+(i * 6+k),none⟩=(css.getD i [])[k]?:=fun k hk=>by
  obtain ⟨b',off',e1,_,e2⟩:=hc (i * 6+k) (by omega);rw [ha] at e1;cases e1;rw [e2,Qjm css h6 i k (by rw [h.len];exact hi) hk]
 rw [e] at hk;refine ⟨va,vf,vn,_,rfl,hk 0 (by omega),hk 1 (by omega),hk 2 (by omega),hk 3 (by omega),hk 4 (by omega),hk 5 (by omega),h1,h2,h3,h4⟩
def findFrom (x:Int × Int):List (Int × Int)→Nat→Int
 | [],_=>-1
 | a :: l,j=>if a=x then (j:Int) else findFrom x l (j+1)
def find (x:Int × Int) (l:List (Int × Int)):Int:=findFrom x l 0
theorem findFrom_drop (x:Int × Int) (l:List (Int × Int)) {j:Nat} (hj:j < l.length):findFrom x (l.drop j) j=if l.getD j (0,0)=x then (j:Int) else findFrom x (l.drop (j+1)) (j+1):=by
 rw [List.drop_eq_getElem_cons hj,findFrom];have:l.getD j (0,0)=l[j]:=by simp [hj]
 rw [this]
theorem Acts_at {w:World} {a:Option Addr} {n cap:Nat} {l:List (Int × Int)} (h:Seg 2 w (.slice a n cap) l.length (flat2 l)) {j:Nat} (hj:j < l.length):∃ b off,a=some ⟨b,off,none⟩ ∧
  w.cell? ⟨b,off+j * 2,none⟩=some (.int .i64 (l.getD j (0,0)).1)∧w.cell? ⟨b,off+j * 2+1,none⟩=some (.int .i64 (l.getD j (0,0)).2):=Mvs.at h hj
end Pr
set_option maxRecDepth 100000 in
set_option maxHeartbeats 2000000 in
theorem Qyw (pt K:Int) (va vf vn:Value) (l:List (Int × Int)) (d x:Int) (W:World) (hl:l.length≤1000000) (hff:∃ a n c,vf=.slice a n c) (hnn:∃ a n c,vn=.slice a n c) (hA:Seg 2 W va l.length (Pr.flat2 l)) :
  Calls Tryz.prog 48 #[.agg #[.int .i64 pt,va,.int .i64 K,.int .i64 0,vf,vn],.agg #[.int .i64 d,.int .i64 x]] W fun e w'=>e=.returned (.int .i64 (Pr.find (d,x) l))∧Flow.Grow W w':=by
 have HA:=Lib.hid hA;obtain ⟨af,nf,cf,rfl⟩:=hff;obtain ⟨an,nn,cn,rfl⟩:=hnn;obtain ⟨aa,ca,rfl,_⟩:=id hA;clear hA;obtain ⟨p,hp⟩:∃ p,p=l.length:=⟨_,rfl⟩;have Hp:=Lib.hid hp;rw [← hp] at hl ⊢;clear hp;go_enter Tryz.func48,Tryz.ntmps48;go_upto_region 1 with fail;have HB0:Hid (((W.alloc (.cells #[.int .i64 pt,.slice aa p ca,.int .i64 K,.int .i64 0,.slice af nf cf,.slice an nn cn] 69)).alloc (.cells #[.int .i64 d,.int .i64 x] 89)).heap[W.heap.size]?=some (.cells #[.int .i64 pt,.slice aa p ca,.int .i64 K,.int .i64 0,.slice af nf cf,.slice an nn cn] 69 (0,0))):=Lib.hid (Qef _ _ _);have HB1:Hid (((W.alloc (.cells #[.int .i64 pt,.slice aa p ca,.int .i64 K,.int .i64 0,.slice af nf cf,.slice an nn cn] 69)).alloc (.cells #[.int .i64 d,.int .i64 x] 89)).heap[W.heap.size+1]?=some (.cells #[.int .i64 d,.int .i64 x] 89 (0,0))):=Lib.hid (Qbl _ _ _);have HG0:Hid (Flow.Grow W ((W.alloc (.cells #[.int .i64 pt,.slice aa p ca,.int .i64 K,.int .i64 0,.slice af nf cf,.slice an nn cn] 69)).alloc (.cells #[.int .i64 d,.int .i64 x] 89))):=Lib.hid ((Flow.grow_alloc _ _).trans (Flow.grow_alloc _ _));generalize (W.alloc (.cells #[.int .i64 pt,.slice aa p ca,.int .i64 K,.int .i64 0,.slice af nf cf,.slice an nn cn] 69)).alloc (.cells #[.int .i64 d,.int .i64 x] 89)=w1 at *;obtain ⟨X,hX⟩:∃ X,X=W.heap.size:=⟨_,rfl⟩;rw [← hX] at HB0 HB1 ⊢;clear hX;have c1:=(cell_of_row w1 X 1 _ _ _ HB0.out).trans rfl;have CA:Hid (∀ wq,Flow.Grow w1 wq→wq.cell? ⟨X+1,0,none⟩=some (.int .i64 d)∧wq.cell? ⟨X+1,1,none⟩=some (.int .i64 x)):=Lib.hid (fun wq g=>by
  have hb:wq.heap[X+1]?=_:=(g.block _ (Array.getElem?_eq_some_iff.1 HB1.out).1 (by simp)).trans HB1.out;exact ⟨(cell_of_row wq _ 0 _ _ _ hb).trans rfl,(cell_of_row wq _ 1 _ _ _ hb).trans rfl⟩)
 go_wp2_with fail;clear c1;go_loopw [10] (fun i wr=>∃ j:Nat,j≤p∧i=.int .i64 j∧Hid (Flow.Grow w1 wr)∧Hid (Pr.find (d,x) l=Pr.findFrom (d,x) (l.drop j) j)) (fun i _=>p - (intOf i).toNat)
 case atStart=>exact ⟨0,by omega,rfl,Lib.hid (Flow.grow_refl _),Lib.hid rfl⟩
 case round =>
  obtain ⟨j,hj,rfl,HG,HFi⟩:=hrel
  rename World=>wo
  by_cases hjp:j < p
  ·have hjl:j < l.length:=by rw [← Hp.out];exact hjp
   obtain ⟨b,off,rfl,y0,y1⟩:=Pr.Acts_at (Seg.grow HA.out (HG0.out.trans HG.out)) hjl;have HD:=Lib.hid (Pr.findFrom_drop (d,x) l hjl);clear hjl;generalize l.getD j (0,0)=ac at *;obtain ⟨u,v⟩:=ac;simp only at y0 y1;obtain ⟨x0,x1⟩:=CA.out (wo.alloc (.cells #[.int .i64 u,.int .i64 v] 89)) (HG.out.trans (Flow.grow_alloc _ _));by_cases he:(u,v)=(d,x)
   ·obtain ⟨rfl,rfl⟩:=Prod.mk.inj he;have HR:Hid (Pr.find (u,v) l=(j:Int)):=Lib.hid (by rw [HFi.out,HD.out,if_pos rfl]);clear he HFi HD;go_wp2_with fail;go_ret;exact ⟨by rw [HR.out];rfl,HG0.out.trans (HG.out.trans (Flow.grow_alloc _ _))⟩
   ·have HR:Hid (Pr.find (d,x) l=Pr.findFrom (d,x) (l.drop (j+1)) (j+1)):=Lib.hid (by rw [HFi.out,HD.out,if_neg he]);have hne:u=d→v≠x:=fun h1 h2=>he (by rw [h1,h2]);have Hne:=Lib.hid hne;clear he HFi HD hne;by_cases hu:u=d
    ·subst hu;have hv:=Hne.out rfl;clear Hne;go_wp2_with fail;go_roundw
     case rel=>exact ⟨j+1,by omega,by go_num,Lib.hid (HG.out.trans (Flow.grow_alloc _ _)),HR⟩
     case measure=>simp [intOf];omega
    ·clear Hne;go_wp2_with fail;go_roundw
     case rel=>exact ⟨j+1,by omega,by go_num,Lib.hid (HG.out.trans (Flow.grow_alloc _ _)),HR⟩
     case measure=>simp [intOf];omega
  ·obtain rfl:p=j:=by omega
   go_wp2_with fail;go_ret;exact ⟨by rw [HFi.out,Hp.out,List.drop_length];rfl,HG0.out.trans HG.out⟩
end Go.Proofs.YtcpodmjcgfgmnaaGreat
namespace Go.Proofs.YtcpodmjcgfgmnaaGreat
open Go.RowKit Go.Maps
namespace Pr
def labsL (L:Nat):List Lb:=Ref23.labs.take L
theorem labsL_len {L:Nat} (h:L≤4):(labsL L).length=L:=by simp [labsL,Ref23.labs];omega
theorem Qtw:∀ L,L≤4→Qqw (labsL L)=Ref23.labV.take (L * 3):=by
 intro L hL;have:L=0∨L=1∨L=2∨L=3∨L=4:=by omega
 rcases this with rfl | rfl | rfl | rfl | rfl <;> rfl
theorem Za4 {w:World} {v:Value} {L:Nat} (hL:L≤4) (h:Ref23.LabAt w v L):LsAt w v (labsL L):=by
 unfold LsAt;rw [labsL_len hL,Qtw L hL];exact h
def AnyP (L:Nat) (W:World) (e:Ending) (w':World):Prop :=
 ∃ (S:Nat) (af an al:Option Addr) (k cf cn cl:Nat),e=.returned (.tuple #[.agg #[.int .i64 (L:Int),.int .i64 (S:Int),.slice af k cf,.slice an k cn],.slice al L cl])∧L≤4∧LsAt w' (.slice al L cl) (labsL L)∧Flow.Grow W w' ∧
  ∀ wq,Flow.Grow w' wq→Calls Tryz.prog 6 #[.agg #[.int .i64 (L:Int),.int .i64 (S:Int),.slice af k cf,.slice an k cn],.slice al L cl] wq fun e w''=>PeersRes w'' (labsL L) e∧Flow.Grow wq w''
theorem any_peers {zs:List Int} {fin s0 s1:Int} {n:Nat} {W w':World} {e:Ending} (h:Ref23.AnyPost zs fin s0 s1 n W e w'):AnyP (Ref18.labels s0) W e w':=by
 obtain ⟨⟨vf,vn,rs,G,vl,rfl,_,hd,hl⟩,hg⟩:=h;have hL:Ref18.labels s0≤4:=by rw [Ref18.labels];omega
 have hk:Ref18.states s1≤8:=by rw [Ref18.states];omega
 have hls:=Za4 hL hl;have hfl:(Ref18.finals fin (Ref18.states s1)).length=Ref18.states s1:=by simp [Ref18.finals]
 have hnl:=Ref18.nexts_len (Ref18.states s1) (Ref18.labels s0) zs (Ref18.moves (Ref18.labels s0) n);have hda:=hd.dfa (by omega) (by omega) (by omega);obtain ⟨af,cf,rfl⟩:=Qaw hd.finals;obtain ⟨an,cn,rfl⟩:=Qaw hd.nexts;obtain ⟨al,cl,rfl,_⟩:=id hl;have hp:=hda.parts;rw [hfl,hnl] at hp hda ⊢;exact ⟨_,af,an,al,_,cf,cn,cl,rfl,hL,hls,hg,fun wq g=>Qve _ _ _ _ _ _ _ _ wq (by omega) (labsL_len hL) (by rw [hnl];omega) (hda.grow g) (hp.1.grow g) (hp.2.grow g) (hls.grow g)⟩
end Pr
end Go.Proofs.YtcpodmjcgfgmnaaGreat
namespace Go.Proofs.YtcpodmjcgfgmnaaGreat
open Go.RowKit Go.Maps
theorem Rows2.form3 {w:World} {v:Value} {rows:List (List Int)} (h:Rows2 w v rows):∃ a n c,v=.slice a n c:=by
 obtain ⟨a,c,rfl⟩:=h.val;exact ⟨_,_,_,rfl⟩
namespace Pr
def toD (rows:List (List Int)) (s k:Int):Int:=if 0≤s∧s < rows.length∧0≤k∧k < (rows.getD s.toNat []).length then (rows.getD s.toNat []).getD k.toNat 0 else -1
def toP (p:Pd) (s:Int) (a:Int × Int):Int:=toD p.rows s (find a p.acts)
end Pr
set_option maxRecDepth 100000 in
set_option maxHeartbeats 1000000 in
theorem Qw7 (L S:Int) (vf vn:Value) (rows:List (List Int)) (s k:Int) (W:World) (_hr:rows.length≤1000000) (hff:∃ a n c,vf=.slice a n c) (hN:Rows2 W vn rows) :
  Calls Tryz.prog 47 #[.agg #[.int .i64 L,.int .i64 S,vf,vn],.int .i64 s,.int .i64 k] W fun e w'=>e=.returned (.int .i64 (Pr.toD rows s k))∧Flow.Grow W w':=by
 have HN:=Lib.hid hN;obtain ⟨af,nf,cf,rfl⟩:=hff;obtain ⟨an,cn,rfl⟩:=hN.val;clear hN;obtain ⟨n,hn⟩:∃ n,n=rows.length:=⟨_,rfl⟩;have Hn:=Lib.hid hn;rw [← hn] at HN ⊢;clear hn;have HG0:Hid (Flow.Grow W (W.alloc (.cells #[.int .i64 L,.int .i64 S,.slice af nf cf,.slice an n cn] 27))):=Lib.hid (Flow.grow_alloc _ _);have HB0:Hid ((W.alloc (.cells #[.int .i64 L,.int .i64 S,.slice af nf cf,.slice an n cn] 27)).heap[W.heap.size]?=some (.cells #[.int .i64 L,.int .i64 S,.slice af nf cf,.slice an n cn] 27 (0,0))):=Lib.hid (heap_alloc_new _ _);by_cases h1:s < 0
 ·have d1:decide (s < 0)=true:=by simp [h1]
  have HR:Hid (Pr.toD rows s k=-1):=Lib.hid (by rw [Pr.toD,if_neg (by omega)]);clear h1;go_enter Tryz.func47,Tryz.ntmps47;go_wp2_with fail;go_ret;exact ⟨by rw [HR.out];rfl,HG0.out⟩
 ·have d1:decide (s < 0)=false:=by simp;omega
  obtain ⟨x,rfl⟩:∃ x:Nat,s=(x:Int):=⟨s.toNat,by omega⟩;by_cases h2:(x:Int)≥(n:Int)
  ·have d2:decide ((x:Int)≥(n:Int))=true:=by simp;omega
   have d2n:decide (n≤x)=true:=by simp;omega
   have HR:Hid (Pr.toD rows x k=-1):=Lib.hid (by rw [Pr.toD,if_neg (by rw [← Hn.out];omega)]);clear h1 h2;go_enter Tryz.func47,Tryz.ntmps47;go_upto_region 1 with fail;generalize W.alloc (.cells #[.int .i64 L,.int .i64 S,.slice af nf cf,.slice an n cn] 27)=w1 at *;have c3:=(cell_of_row w1 _ 3 _ _ _ HB0.out).trans rfl;go_wp2_with fail;go_ret;exact ⟨by rw [HR.out];rfl,HG0.out⟩
  ·have d2:decide ((x:Int)≥(n:Int))=false:=by simp;omega
   have d2n:decide (n≤x)=false:=by simp;omega
   have hxn:x < n:=by omega
   clear h1 h2;by_cases h3:k < 0
   ·have d3:decide (k < 0)=true:=by simp [h3]
    have HR:Hid (Pr.toD rows x k=-1):=Lib.hid (by rw [Pr.toD,if_neg (by omega)]);clear h3;go_enter Tryz.func47,Tryz.ntmps47;go_upto_region 1 with fail;generalize W.alloc (.cells #[.int .i64 L,.int .i64 S,.slice af nf cf,.slice an n cn] 27)=w1 at *;have c3:=(cell_of_row w1 _ 3 _ _ _ HB0.out).trans rfl;go_wp2_with fail;go_ret;exact ⟨by rw [HR.out];rfl,HG0.out⟩
   ·have d3:decide (k < 0)=false:=by simp;omega
    obtain ⟨y,rfl⟩:∃ y:Nat,k=(y:Int):=⟨k.toNat,by omega⟩;obtain ⟨b,off,ra,rc,rfl,q0,q1⟩:=Qrs (HN.out.grow HG0.out) (j:=x) (by rw [← Hn.out];exact hxn);have Q1:=Lib.hid q1;have HT:Hid (Pr.toD rows x y=if y < (rows.getD x []).length then (rows.getD x []).getD y 0 else -1):=Lib.hid (by
     rw [Pr.toD];simp only [Int.toNat_natCast];by_cases e:y < (rows.getD x []).length
     ·rw [if_pos e,if_pos (by rw [← Hn.out];omega)]
     ·rw [if_neg e,if_neg (by omega)])
    clear q1 h3;generalize rows.getD x []=row at *;obtain ⟨m,hm⟩:∃ m,m=row.length:=⟨_,rfl⟩;have Hm:=Lib.hid hm;rw [← hm] at q0 Q1 HT;clear hm;by_cases h4:(y:Int)≥(m:Int)
    ·have d4:decide ((y:Int)≥(m:Int))=true:=by simp;omega
     have d4n:decide (m≤y)=true:=by simp;omega
     have HR:Hid (Pr.toD rows x y=-1):=Lib.hid (by rw [HT.out,if_neg (by omega)]);clear h4 HT;go_enter Tryz.func47,Tryz.ntmps47;go_upto_region 1 with fail;generalize W.alloc (.cells #[.int .i64 L,.int .i64 S,.slice af nf cf,.slice (some ⟨b,off,none⟩) n cn] 27)=w1 at *;have c3:=(cell_of_row w1 _ 3 _ _ _ HB0.out).trans rfl;go_wp2_with fail;go_ret;exact ⟨by rw [HR.out];rfl,HG0.out⟩
    ·have d4:decide ((y:Int)≥(m:Int))=false:=by simp;omega
     have d4n:decide (m≤y)=false:=by simp;omega
     have HR:Hid (Pr.toD rows x y=row.getD y 0):=Lib.hid (by rw [HT.out,if_pos (by omega)]);obtain ⟨kb,ko,rfl,q2⟩:=Qa8 Q1.out (j:=y) (by rw [← Hm.out];omega);generalize row.getD y 0=z at *;have hym:y < m:=by omega
     clear h4 HT;go_enter Tryz.func47,Tryz.ntmps47;go_upto_region 1 with fail;generalize W.alloc (.cells #[.int .i64 L,.int .i64 S,.slice af nf cf,.slice (some ⟨b,off,none⟩) n cn] 27)=w1 at *;have c3:=(cell_of_row w1 _ 3 _ _ _ HB0.out).trans rfl;go_wp2_with fail;go_ret;exact ⟨by rw [HR.out];rfl,HG0.out⟩
set_option maxRecDepth 100000 in
set_option maxHeartbeats 2000000 in
theorem Qtd (pt:Int) (va vf vn:Value) (p:Pr.Pd) (s d x:Int) (W:World) (hl:p.acts.length≤1000000) (hr:p.rows.length≤1000000) (hff:∃ a n c,vf=.slice a n c) (hA:Seg 2 W va p.acts.length (Pr.flat2 p.acts)) (hN:Rows2 W vn p.rows) :
  Calls Tryz.prog 28 #[.agg #[.int .i64 pt,va,.int .i64 (p.acts.length:Nat),.int .i64 0,vf,vn],.int .i64 s,.agg #[.int .i64 d,.int .i64 x]] W fun e w'=>e=.returned (.int .i64 (Pr.toP p s (d,x)))∧Flow.Grow W w':=by
 have HFd:Hid (∀ wq,Flow.Grow W wq→Calls Tryz.prog 48 #[.agg #[.int .i64 pt,va,.int .i64 (p.acts.length:Nat),.int .i64 0,vf,vn],.agg #[.int .i64 d,.int .i64 x]] wq fun e w'=>e=.returned (.int .i64 (Pr.find (d,x) p.acts))∧Flow.Grow wq w'):=Lib.hid (fun wq g=>Qyw _ _ _ _ _ _ _ _ wq hl hff hN.form3 (Seg.grow hA g));have HTo:Hid (∀ wq k,Flow.Grow W wq→Calls Tryz.prog 47 #[.agg #[.int .i64 (p.acts.length:Nat),.int .i64 0,vf,vn],.int .i64 s,.int .i64 k] wq fun e w'=>e=.returned (.int .i64 (Pr.toD p.rows s k))∧Flow.Grow wq w'):=Lib.hid (fun wq k g=>Qw7 _ _ _ _ _ _ _ wq hr hff (hN.grow g));have HR:Hid (Pr.toP p s (d,x)=Pr.toD p.rows s (Pr.find (d,x) p.acts)):=Lib.hid rfl;obtain ⟨af,nf,cf,rfl⟩:=hff;obtain ⟨an,cn,rfl⟩:=hN.val;obtain ⟨aa,ca,rfl,_⟩:=id hA;clear hA hN;rw [HR.out];clear HR;generalize Pr.find (d,x) p.acts=fk at *;generalize p.acts.length=K at *;generalize p.rows.length=n at *;go_enter Tryz.func28,Tryz.ntmps28;go_upto_region 1 with fail;have HB0:Hid (((W.alloc (.cells #[.int .i64 pt,.slice aa K ca,.int .i64 K,.int .i64 0,.slice af nf cf,.slice an n cn] 69)).alloc (.cells #[.int .i64 d,.int .i64 x] 89)).heap[W.heap.size]?=some (.cells #[.int .i64 pt,.slice aa K ca,.int .i64 K,.int .i64 0,.slice af nf cf,.slice an n cn] 69 (0,0))):=Lib.hid (Qef _ _ _);have HB1:Hid (((W.alloc (.cells #[.int .i64 pt,.slice aa K ca,.int .i64 K,.int .i64 0,.slice af nf cf,.slice an n cn] 69)).alloc (.cells #[.int .i64 d,.int .i64 x] 89)).heap[W.heap.size+1]?=some (.cells #[.int .i64 d,.int .i64 x] 89 (0,0))):=Lib.hid (Qbl _ _ _);have HG0:Hid (Flow.Grow W ((W.alloc (.cells #[.int .i64 pt,.slice aa K ca,.int .i64 K,.int .i64 0,.slice af nf cf,.slice an n cn] 69)).alloc (.cells #[.int .i64 d,.int .i64 x] 89))):=Lib.hid ((Flow.grow_alloc _ _).trans (Flow.grow_alloc _ _));generalize (W.alloc (.cells #[.int .i64 pt,.slice aa K ca,.int .i64 K,.int .i64 0,.slice af nf cf,.slice an n cn] 69)).alloc (.cells #[.int .i64 d,.int .i64 x] 89)=w1 at *;obtain ⟨X,hX⟩:∃ X,X=W.heap.size:=⟨_,rfl⟩;rw [← hX] at HB0 HB1 ⊢;clear hX;have CX:Hid (∀ wq,Flow.Grow w1 wq→wq.cell? ⟨X,0,none⟩=some (.int .i64 pt)∧wq.cell? ⟨X,1,none⟩=some (.slice aa K ca)∧wq.cell? ⟨X,2,none⟩=some (.int .i64 K)∧wq.cell? ⟨X,3,none⟩=some (.int .i64 0)∧wq.cell? ⟨X,4,none⟩=some (.slice af nf cf)∧wq.cell? ⟨X,5,none⟩=some (.slice an n cn)∧wq.cell? ⟨X+1,0,none⟩=some (.int .i64 d)∧wq.cell? ⟨X+1,1,none⟩=some (.int .i64 x)):=Lib.hid (fun wq g=>by
  have hb:wq.heap[X]?=_:=(g.block _ (Array.getElem?_eq_some_iff.1 HB0.out).1 (by simp)).trans HB0.out;have hc:wq.heap[X+1]?=_:=(g.block _ (Array.getElem?_eq_some_iff.1 HB1.out).1 (by simp)).trans HB1.out;exact ⟨(cell_of_row wq _ 0 _ _ _ hb).trans rfl,(cell_of_row wq _ 1 _ _ _ hb).trans rfl,(cell_of_row wq _ 2 _ _ _ hb).trans rfl,(cell_of_row wq _ 3 _ _ _ hb).trans rfl,(cell_of_row wq _ 4 _ _ _ hb).trans rfl,(cell_of_row wq _ 5 _ _ _ hb).trans rfl,(cell_of_row wq _ 0 _ _ _ hc).trans rfl,(cell_of_row wq _ 1 _ _ _ hc).trans rfl⟩)
 go_region_held3 (fun wq=>wq.cell? ⟨X,0,none⟩=some (.int .i64 pt)∧wq.cell? ⟨X,1,none⟩=some (.slice aa K ca)∧wq.cell? ⟨X,2,none⟩=some (.int .i64 K)∧wq.cell? ⟨X,3,none⟩=some (.int .i64 0)∧wq.cell? ⟨X,4,none⟩=some (.slice af nf cf)∧wq.cell? ⟨X,5,none⟩=some (.slice an n cn)∧wq.cell? ⟨X+1,0,none⟩=some (.int .i64 d)∧wq.cell? ⟨X+1,1,none⟩=some (.int .i64 x))
  (first
    | (with_reducible exact CX.out _ (Flow.grow_refl _))
    | (with_reducible exact CX.out _ (Flow.grow_drew _))
    | (with_reducible exact CX.out _ ((Flow.grow_drew _).trans HGa.out))
    | (with_reducible exact CX.out _ (((Flow.grow_drew _).trans HGa.out).trans HGb.out)))
  (first
    | (go_at_call 48;refine (HFd.out _ (HG0.out.trans (Flow.grow_drew _))).mono ?_;rintro e wa ⟨rfl,hg⟩;have HGa:=Lib.hid hg;clear hg)
    | (go_at_call 47;refine (HTo.out _ _ (HG0.out.trans ((Flow.grow_drew _).trans HGa.out))).mono ?_;rintro e wb ⟨rfl,hg⟩;have HGb:=Lib.hid hg;clear hg))
 go_wp2_with fail;go_ret;exact ⟨rfl,HG0.out.trans (((Flow.grow_drew _).trans HGa.out).trans HGb.out)⟩
end Go.Proofs.YtcpodmjcgfgmnaaGreat
