/- mini.key by its contract. -/
import Derived.Test.YtcpodmjcgfgmnaaGreatEpsClose
namespace Go.Proofs.YtcpodmjcgfgmnaaGreat
open Go.RowKit
namespace Pr
def mkt (cl:List Int) (lv:List Bool) (t:Int):Int:=if 0≤t∧lv.getD t.toNat false=true then cl.getD t.toNat 0 else -1
def mks (cl:List Int) (lv:List Bool) (row:List Int):Nat→List UInt8
 | 0=>[]
 | j+1=>mks cl lv row j++kb (mkt cl lv (row.getD j 0))
theorem mks_len (cl:List Int) (lv:List Bool) (row:List Int):∀ j,(mks cl lv row j).length=2 * j
 | 0=>rfl
 | j+1=>by rw [mks,List.length_append,mks_len cl lv row j];simp [kb];omega
end Pr
set_option maxRecDepth 100000 in
set_option maxHeartbeats 2000000 in
theorem Qp9 (L S:Int) (vf vn vc vl:Value) (rows:List (List Int)) (cl:List Int) (lv:List Bool) (s:Nat) (W:World) (_hr:rows.length≤1000000) (hs:s < rows.length) (hcl:cl.length=rows.length) (hlv:lv.length=rows.length) (hrange:∀ t∈rows.getD s [],t < rows.length)
  (hlen:(rows.getD s []).length≤100000) (hff:∃ a n c,vf=.slice a n c) (hN:Rows2 W vn rows) (hC:Ints W vc cl) (hL:Bools W vl lv) :
  Calls Tryz.prog 100 #[.agg #[.int .i64 L,.int .i64 S,vf,vn],vc,vl,.int .i64 (s:Int)] W fun e w'=>e=.returned (.string (str (Pr.kb (cl.getD s 0)++Pr.mks cl lv (rows.getD s []) (rows.getD s []).length)))∧Flow.Grow W w':=by
 have HNN:=Lib.hid hN;have HC:=Lib.hid hC;have HL:=Lib.hid hL;obtain ⟨af,nf,cf,rfl⟩:=hff;obtain ⟨an,cn,rfl⟩:=hN.val;obtain ⟨ac,cc,rfl,_⟩:=id hC;obtain ⟨al,ca,rfl,_⟩:=id hL;clear hN hC hL;obtain ⟨rb,ro,rcp,hv,_,hrc⟩:=HNN.out.shape (by intro e;rw [e] at hs;simp at hs);injection hv with hv1 hv2 hv3;subst hv1 hv3;clear hv2;obtain ⟨u,huc,hux⟩:=hrc s hs;clear hrc;generalize rows.getD s []=row at *;obtain ⟨ra,rc,rfl,_⟩:=id hux;have HUX:=Lib.hid hux;clear hux;rw [hcl] at HC ⊢;rw [hlv] at HL ⊢;generalize hn:rows.length=n at *;have Hcl:=Lib.hid hcl;have Hlv:=Lib.hid hlv;have Hrg:=Lib.hid hrange;clear hcl hlv hrange hn;obtain ⟨m,hm⟩:∃ m,m=row.length:=⟨_,rfl⟩;have Hm:=Lib.hid hm;rw [← hm] at hlen huc HUX ⊢;clear hm;obtain ⟨i0,hi,hz0,hz1,hz2⟩:=info_parts Qie;have HI:=Lib.hid (And.intro hi (And.intro hz0 (And.intro hz1 hz2)));clear hi hz0 hz1 hz2;obtain ⟨c0,hc0⟩:∃ c0,c0=cl.getD s 0:=⟨_,rfl⟩;have HC0:=Lib.hid hc0;rw [← hc0];clear hc0;go_enter Tryz.func100,Tryz.ntmps100;go_upto_region 1 with fail;have HB0:Hid ((W.alloc (.cells #[.int .i64 L,.int .i64 S,.slice af nf cf,.slice (some ⟨rb,ro,none⟩) n cn] 27)).heap[W.heap.size]?=some (.cells #[.int .i64 L,.int .i64 S,.slice af nf cf,.slice (some ⟨rb,ro,none⟩) n cn] 27 (0,0))):=Lib.hid (heap_alloc_new _ _);have HG0:Hid (Flow.Grow W (W.alloc (.cells #[.int .i64 L,.int .i64 S,.slice af nf cf,.slice (some ⟨rb,ro,none⟩) n cn] 27))):=Lib.hid (Flow.grow_alloc _ _);generalize W.alloc (.cells #[.int .i64 L,.int .i64 S,.slice af nf cf,.slice (some ⟨rb,ro,none⟩) n cn] 27)=w1 at *;obtain ⟨X,hX⟩:∃ X,X=W.heap.size:=⟨_,rfl⟩;rw [← hX] at HB0 ⊢;have HX:=Lib.hid hX;clear hX;obtain ⟨cb,co,rfl,q0⟩:=Qa8 (HC.out.grow HG0.out) (j:=s) (by rw [Hcl.out];exact hs);have q1:w1.drew.cell? ⟨cb,co+s,none⟩=_:=Xm2.cell_grow (Flow.grow_drew w1) q0;have hsI:(s:Int) < (n:Int):=by omega
 have hs0:(0:Int)≤(s:Int):=by omega
 rw [← HC0.out] at q0 q1;go_region;go_upto_region 2 with fail;have HA0:Hid ((w1.alloc (.cells #[.int .u8 (c0 % 256),.int .u8 (c0 / 256 % 256)] 5)).drew.ownsRow w1.heap.size 5 1 (.slice (some ⟨w1.heap.size,0,none⟩) 2 2) 2 ((Pr.kb c0).map u8v)):=Lib.hid ⟨rfl,.inr ⟨w1.heap.size,2,_,rfl,Nat.le_refl _,heap_alloc_new w1 _,Nat.le_refl _,by decide,rfl,by rw [← Pr.kb_cells];rfl⟩⟩;have HG2:Hid (Flow.Grow w1 (w1.alloc (.cells #[.int .u8 (c0 % 256),.int .u8 (c0 / 256 % 256)] 5)).drew):=Lib.hid ((Flow.grow_alloc _ _).trans (Flow.grow_drew _));generalize (w1.alloc (.cells #[.int .u8 (c0 % 256),.int .u8 (c0 / 256 % 256)] 5)).drew=w2 at *;have b3:w2.cell? ⟨X,3,none⟩=some (.slice (some ⟨rb,ro,none⟩) n cn):=(cell_of_row w2 _ 3 _ _ _ ((HG2.out.block _ (Array.getElem?_eq_some_iff.1 HB0.out).1 (by simp)).trans HB0.out)).trans rfl;have r3:=Xm2.cell_grow (HG0.out.trans HG2.out) huc;clear q0 q1 huc;go_wp2_with fail;clear b3 r3;go_loopw [9,31] (fun va i wr=>∃ j:Nat,j≤m∧i=.int .i64 j∧Hid (wr.ownsRow w1.heap.size 5 1 va (2+2 * j) ((Pr.kb c0++Pr.mks cl lv row j).map u8v))∧Hid (Flow.Grow w1 wr)) (fun _ i _=>m - (intOf i).toNat)
 case atStart=>exact ⟨0,by omega,rfl,Lib.hid (by rw [Pr.mks,List.append_nil];exact HA0.out),HG2⟩
 case round =>
  clear HA0 HG2;obtain ⟨j,hj,rfl,HO,HG⟩:=hrel
  rename World=>wr
  obtain ⟨va,hva⟩:∃ va,va=u9:=⟨_,rfl⟩;obtain ⟨oa,oc,hoa⟩:=Qah HO.out;subst hoa;clear hva;by_cases hjm:j < m
  ·have hjr:j < row.length:=by rw [← Hm.out];exact hjm
   obtain ⟨tb,tof,rfl,y0⟩:=Qa8 (HUX.out.grow (HG0.out.trans HG.out)) (j:=j) hjr;have hto:=Hrg.out (row.getD j 0) (Qa5 hjr);have HK:Hid (Pr.mks cl lv row (j+1)=Pr.mks cl lv row j++Pr.kb (Pr.mkt cl lv (row.getD j 0))):=Lib.hid rfl;clear hjr;generalize row.getD j 0=t at *;by_cases ht0:t≥0
   ·have d0:decide (t≥0)=true:=by simp;omega
    obtain ⟨x,rfl⟩:∃ x:Nat,t=(x:Int):=⟨t.toNat,by omega⟩;have hxn:x < n:=by omega
    obtain ⟨ab,ao,rfl,z0⟩:=Qep (HL.out.grow (HG0.out.trans HG.out)) (j:=x) (by rw [Hlv.out];exact hxn);obtain ⟨eb,eo,he,z1⟩:=Qa8 (HC.out.grow (HG0.out.trans HG.out)) (j:=x) (by rw [Hcl.out];exact hxn);cases he;cases hb:lv.getD x false with
    | true =>
     have HT:Hid (Pr.mkt cl lv (x:Int)=cl.getD x 0):=Lib.hid (by rw [Pr.mkt,Int.toNat_natCast,if_pos ⟨by omega,hb⟩]);rw [hb] at z0;clear hb;generalize cl.getD x 0=z at *;go_wp2_with (at_builtin;refine Qcj (W:=w1) rfl _ _ 116 rfl 5 i0 (.int .u8 0) 1 Tryz.underlying116 HI.out.1 HI.out.2.1 HI.out.2.2.1 HI.out.2.2.2 rfl _ (2+2 * j) ((Pr.kb c0++Pr.mks cl lv row j).map u8v) rfl (Qab HO.out (Flow.grow_alloc _ _)) (HG.out.trans (Flow.grow_alloc _ _)) _ _ _ 5 rfl (heap_alloc_new _ _) ⟨rfl,rfl⟩ (by omega) (by decide) ?_;intro v' w' hO hG hf hk;have HO2:=Lib.hid hO;have HG3:=Lib.hid hG;obtain ⟨g',c',rfl,_⟩:=hf;clear hO hG hk);go_roundw
     case rel=>exact ⟨j+1,by omega,by go_num,Lib.hid (by rw [HK.out,HT.out,← List.append_assoc,List.map_append (l₁:=Pr.kb c0++Pr.mks cl lv row j)];rw [← Pr.kb_cells];exact HO2.out),HG3⟩
     case measure=>simp [intOf];omega
    | false =>
     have HT:Hid (Pr.mkt cl lv (x:Int)=-1):=Lib.hid (by rw [Pr.mkt,Int.toNat_natCast,if_neg (by rw [hb];simp)]);rw [hb] at z0;clear hb z1;go_wp2_with (at_builtin;refine Qcj (W:=w1) rfl _ _ 116 rfl 5 i0 (.int .u8 0) 1 Tryz.underlying116 HI.out.1 HI.out.2.1 HI.out.2.2.1 HI.out.2.2.2 rfl _ (2+2 * j) ((Pr.kb c0++Pr.mks cl lv row j).map u8v) rfl (Qab HO.out (Flow.grow_alloc _ _)) (HG.out.trans (Flow.grow_alloc _ _)) _ _ _ 5 rfl (heap_alloc_new _ _) ⟨rfl,rfl⟩ (by omega) (by decide) ?_;intro v' w' hO hG hf hk;have HO2:=Lib.hid hO;have HG3:=Lib.hid hG;obtain ⟨g',c',rfl,_⟩:=hf;clear hO hG hk);go_roundw
     case rel=>exact ⟨j+1,by omega,by go_num,Lib.hid (by rw [HK.out,HT.out,← List.append_assoc,List.map_append (l₁:=Pr.kb c0++Pr.mks cl lv row j)];exact HO2.out),HG3⟩
     case measure=>simp [intOf];omega
   ·have d0:decide (t≥0)=false:=by simp;omega
    have HT:Hid (Pr.mkt cl lv t=-1):=Lib.hid (by rw [Pr.mkt,if_neg (by omega)]);clear ht0;go_wp2_with (at_builtin;refine Qcj (W:=w1) rfl _ _ 116 rfl 5 i0 (.int .u8 0) 1 Tryz.underlying116 HI.out.1 HI.out.2.1 HI.out.2.2.1 HI.out.2.2.2 rfl _ (2+2 * j) ((Pr.kb c0++Pr.mks cl lv row j).map u8v) rfl (Qab HO.out (Flow.grow_alloc _ _)) (HG.out.trans (Flow.grow_alloc _ _)) _ _ _ 5 rfl (heap_alloc_new _ _) ⟨rfl,rfl⟩ (by omega) (by decide) ?_;intro v' w' hO hG hf hk;have HO2:=Lib.hid hO;have HG3:=Lib.hid hG;obtain ⟨g',c',rfl,_⟩:=hf;clear hO hG hk);go_roundw
    case rel=>exact ⟨j+1,by omega,by go_num,Lib.hid (by rw [HK.out,HT.out,← List.append_assoc,List.map_append (l₁:=Pr.kb c0++Pr.mks cl lv row j)];exact HO2.out),HG3⟩
    case measure=>simp [intOf];omega
  ·obtain rfl:j=m:=by omega
   have hby:Bytes wr (.slice oa (2+2 * j) oc) (Pr.kb c0++Pr.mks cl lv row j):=Bytes.of_own HO.out (by rw [List.length_append,Pr.mks_len];simp [Pr.kb];omega);have hcv:=Qly (P:=Tryz.prog) hby 116 9 5 Tryz.underlying116 Tryz.underlying5 Tryz.underlying9;clear hby;go_wp2_with fail;go_ret;exact ⟨rfl,HG0.out.trans HG.out⟩
end Go.Proofs.YtcpodmjcgfgmnaaGreat
namespace Go.Proofs.YtcpodmjcgfgmnaaGreat
open Go.RowKit
namespace Pr
theorem Qzq {a b:Int} (ha:-1≤a∧a < 60000) (hb:-1≤b∧b < 60000) (h:kb a=kb b):a=b:=by
 simp only [kb,List.cons.injEq,and_true] at h;have h1:((lo8 a).toNat:Int)=(lo8 b).toNat:=by rw [h.1]
 have h2:((lo8 (a / 256)).toNat:Int)=(lo8 (b / 256)).toNat:=by rw [h.2]
 rw [lo8_val,lo8_val] at h1 h2;omega
theorem Qwg {cl:List Int} {lv:List Bool} {r r':List Int} {i j a b:Nat} (hi:-1≤cl.getD i 0∧cl.getD i 0 < 60000) (hj:-1≤cl.getD j 0∧cl.getD j 0 < 60000)
  (h:kb (cl.getD i 0)++mks cl lv r a=kb (cl.getD j 0)++mks cl lv r' b):cl.getD i 0=cl.getD j 0:=by
 have h2:=congrArg (List.take 2) h;refine Qzq hi hj ?_;have e:∀ (z:Int) (l:List UInt8),(kb z++l).take 2=kb z:=fun z l=>rfl;rw [e,e] at h2;exact h2
end Pr
end Go.Proofs.YtcpodmjcgfgmnaaGreat
namespace Go.Proofs.YtcpodmjcgfgmnaaGreat
open Go.RowKit
namespace Pr
def liveAt (sn:List Bool) (t:Int):Bool:=decide (0≤t) && sn.getD t.toNat false
end Pr
set_option maxRecDepth 100000 in
set_option maxHeartbeats 400000 in
theorem Zdb (t:Int) (G Z n c:Nat) (sn:List Bool) (w:World) (ht:t < n) (hn:sn.length=n) (hc:w.cell? ⟨G,0,none⟩=some (.slice (some ⟨Z,0,none⟩) n c)) (hz:Bools w (.slice (some ⟨Z,0,none⟩) n c) sn) :
  Calls Tryz.prog 109 #[.int .i64 t,.pointer (some ⟨G,0,none⟩)] w fun e w'=>e=.returned (.bool (Pr.liveAt sn t))∧w=w':=by
 have HZ:=Lib.hid hz;clear hz;by_cases h1:t≥0
 ·have d1:decide (t≥0)=true:=by simp;omega
  obtain ⟨x,rfl⟩:∃ x:Nat,t=(x:Int):=⟨t.toNat,by omega⟩;have hx:x < n:=by omega
  obtain ⟨b,off,hbo,q0⟩:=Qep HZ.out (j:=x) (by rw [hn];exact hx);cases hbo;rw [Nat.zero_add] at q0;have H:Hid (Pr.liveAt sn (x:Int)=sn.getD x false):=Lib.hid (by simp [Pr.liveAt]);generalize sn.getD x false=y at *;clear hn;go_enter Tryz.func109,Tryz.ntmps109;go_wp2_with fail;go_ret;exact ⟨Qax H.out.symm,rfl⟩
 ·have d1:decide (t≥0)=false:=by simp;omega
  have H:Hid (Pr.liveAt sn t=false):=Lib.hid (by simp [Pr.liveAt];omega);clear hn h1;go_enter Tryz.func109,Tryz.ntmps109;go_wp2_with fail;go_ret;exact ⟨Qax H.out.symm,rfl⟩
set_option maxRecDepth 100000 in
set_option maxHeartbeats 800000 in
theorem Qmj (vl:Value) (l:List Int) (G Z n c:Nat) (sn:List Bool) (w:World) (hl1:l.length≤1000000) (hr:∀ t∈l,t < n) (hn:sn.length=n) (hc:w.cell? ⟨G,0,none⟩=some (.slice (some ⟨Z,0,none⟩) n c)) (hz:Bools w (.slice (some ⟨Z,0,none⟩) n c) sn) (hl:Ints w vl l) :
  Calls Tryz.prog 54 #[vl,.func (.func 109) #[] #[.pointer (some ⟨G,0,none⟩)]] w fun e w'=>e=.returned (.bool (l.any (Pr.liveAt sn)))∧w=w':=by
 have HF:Hid (∀ t:Int,t∈l→Calls Tryz.prog 109 #[.int .i64 t,.pointer (some ⟨G,0,none⟩)] w fun e w'=>e=.returned (.bool (Pr.liveAt sn t))∧w=w'):=Lib.hid (fun t ht=>Zdb t G Z n c sn w (hr t ht) hn hc hz);have HL:=Lib.hid hl;obtain ⟨al,ca,rfl,_⟩:=id hl;clear hr hn hc hz hl;obtain ⟨p,hp⟩:∃ p,p=l.length:=⟨_,rfl⟩;have Hp:=Lib.hid hp;rw [← hp] at hl1 HL ⊢;clear hp;have HIX:Hid (Calls Tryz.prog 74 #[.slice al p ca,.func (.func 109) #[] #[.pointer (some ⟨G,0,none⟩)]] w fun e w'=>(∃ k:Int,e=.returned (.int .i64 k)∧decide (0≤k)=l.any (Pr.liveAt sn))∧w=w'):=Lib.hid (by
  go_enter Tryz.func74,Tryz.ntmps74;go_wp2_with fail;go_loop [8] (fun i=>∃ j:Nat,j≤p∧i=.int .i64 j∧Hid (l.any (Pr.liveAt sn)=(l.drop j).any (Pr.liveAt sn))) (fun i=>p - (intOf i).toNat)
  case atStart=>exact ⟨0,by omega,rfl,Lib.hid rfl⟩
  case round =>
   obtain ⟨j,hj,rfl,Hall⟩:=hrel;by_cases hjp:j < p
   ·have hk':j < l.length:=by rw [← Hp.out];exact hjp
    obtain ⟨b,off,rfl,q0⟩:=Qa8 HL.out (j:=j) hk';have Hs:Hid ((l.drop j).any (Pr.liveAt sn)=(Pr.liveAt sn (l.getD j 0) || (l.drop (j+1)).any (Pr.liveAt sn))):=by
     refine Lib.hid ?_;rw [List.drop_eq_getElem_cons hk',List.any_cons,List.getD_eq_getElem?_getD,List.getElem?_eq_getElem hk',Option.getD_some]
    have HFj:=Lib.hid (HF.out (l.getD j 0) (Qa5 hk'));clear hk';generalize l.getD j 0=s at *;cases hb:Pr.liveAt sn s with
    | false =>
     have Hs':Hid (l.any (Pr.liveAt sn)=(l.drop (j+1)).any (Pr.liveAt sn)):=Lib.hid (by rw [Hall.out,Hs.out,hb];rfl);have Hb:=Lib.hid hb;clear hb Hs Hall;go_wp2_with (go_at_call 109;refine HFj.out.mono ?_;rintro e w' ⟨rfl,rfl⟩;rw [Hb.out]);go_round
     case rel=>exact ⟨j+1,by omega,by go_num,Hs'⟩
     case measure=>simp [intOf];omega
    | true =>
     have Hs':Hid (l.any (Pr.liveAt sn)=true):=Lib.hid (by rw [Hall.out,Hs.out,hb];rfl);have Hb:=Lib.hid hb;clear hb Hs Hall;go_wp2_with (go_at_call 109;refine HFj.out.mono ?_;rintro e w' ⟨rfl,rfl⟩;rw [Hb.out]);go_ret;exact ⟨⟨j,rfl,by rw [Hs'.out];simp⟩,rfl⟩
   ·have HE:Hid (l.any (Pr.liveAt sn)=false):=Lib.hid (by rw [Hall.out,List.drop_eq_nil_of_le (by rw [← Hp.out];omega)];rfl);clear Hall;obtain rfl:j=p:=by omega
    go_wp2_with fail;go_ret;exact ⟨⟨-1,rfl,by rw [HE.out];rfl⟩,rfl⟩)
 clear HF HL;go_enter Tryz.func54,Tryz.ntmps54;go_wp2_with (go_at_call 74;refine HIX.out.mono ?_;rintro e w' ⟨⟨k,rfl,hk⟩,rfl⟩;have Hk:=Lib.hid hk;clear hk);go_ret;exact ⟨Qax Hk.out,rfl⟩
end Go.Proofs.YtcpodmjcgfgmnaaGreat
namespace Go.Proofs.YtcpodmjcgfgmnaaGreat
open Go.RowKit
namespace Pr
theorem falW_set {w:World} {Z x e:Nat} {cs:Array Value} (hz:w.heap[Z]?=some (.cells cs e (0,0))) (hx:cs[x]?=some (.bool false)):falW (w.setCell ⟨Z,x,none⟩ (.bool true)) Z+1=falW w Z:=by
 unfold falW;rw [heap_setCell_same w Z x _ _ _ hz,hz];show (cs.setIfInBounds x (.bool true)).toList.countP isF+1=cs.toList.countP isF;rw [Array.toList_setIfInBounds];obtain ⟨h1,h2⟩:=Array.getElem?_eq_some_iff.1 hx;have h3:cs.toList[x]'(by simpa using h1)=.bool false:=by simpa using h2
 have h4:0 < cs.toList.countP isF:=List.countP_pos_iff.2 ⟨.bool false,by rw [← h3];exact List.getElem_mem _,rfl⟩;rw [List.countP_set (by simpa using h1),h3];rw [show isF (.bool false)=true from rfl,show isF (.bool true)=false from rfl,if_pos rfl,if_neg (by simp)];omega
def moreV:Value→Nat
 | .bool true=>1
 | _=>0
end Pr
set_option maxRecDepth 100000 in
set_option maxHeartbeats 2000000 in
theorem Qyj (L S:Int) (vf vn:Value) (fin:List Bool) (rows:List (List Int)) (W:World) (hD:DfaAt W #[.int .i64 L,.int .i64 S,vf,vn] L S fin rows) (hF:Bools W vf fin) (hN:Rows2 W vn rows) (hfn:fin.length=rows.length) (h1:1≤rows.length) (h2:rows.length≤2000) (hmay:Det.may L S fin.length rows=true) (hr2:∀ r∈rows,r.length≤1000000) (hrt:∀ r∈rows,∀ t∈r,t < rows.length) :
  Calls Tryz.prog 99 #[.agg #[.int .i64 L,.int .i64 S,vf,vn]] W fun e w'=>(∃ (v':Value) (lv:List Bool),e=.returned v'∧w'.ownsRow W.heap.size 4 1 v' rows.length (lv.map Value.bool)∧lv.length=rows.length)∧Flow.Grow W w':=by
 have HD:=Lib.hid hD;have HF:=Lib.hid hF;have HN:=Lib.hid hN;have HR2:=Lib.hid hr2;have HRT:=Lib.hid hrt;have HM:=Lib.hid hmay;obtain ⟨af,cf,rfl,_⟩:=id hF;obtain ⟨an,cn,rfl⟩:=hN.val;clear hD hF hN hr2 hrt hmay;rw [hfn] at HD HF HM ⊢;obtain ⟨n,hn⟩:∃ n,n=rows.length:=⟨_,rfl⟩;have Hn:=Lib.hid hn;have Hfn:=Lib.hid hfn;rw [← hn] at HD HF HM HN HRT h1 h2 ⊢;clear hn hfn;go_enter Tryz.func99,Tryz.ntmps99;go_upto_region 1 with fail;have HB0:Hid ((W.alloc (.cells #[.int .i64 L,.int .i64 S,.slice af n cf,.slice an n cn] 27)).heap[W.heap.size]?=some (.cells #[.int .i64 L,.int .i64 S,.slice af n cf,.slice an n cn] 27 (0,0))):=Lib.hid (heap_alloc_new _ _);have HG0:Hid (Flow.Grow W (W.alloc (.cells #[.int .i64 L,.int .i64 S,.slice af n cf,.slice an n cn] 27))):=Lib.hid (Flow.grow_alloc _ _);generalize W.alloc (.cells #[.int .i64 L,.int .i64 S,.slice af n cf,.slice an n cn] 27)=w1 at *;obtain ⟨X,hX⟩:∃ X,X=W.heap.size:=⟨_,rfl⟩;rw [← hX] at HB0 ⊢;have HX:=Lib.hid hX;clear hX;have CX:Hid (∀ wq,Flow.Grow w1 wq→wq.cell? ⟨X,0,none⟩=some (.int .i64 L)∧wq.cell? ⟨X,1,none⟩=some (.int .i64 S)∧wq.cell? ⟨X,2,none⟩=some (.slice af n cf)∧wq.cell? ⟨X,3,none⟩=some (.slice an n cn)):=Lib.hid (fun wq g=>by
  have hb:wq.heap[X]?=_:=(g.block _ (Array.getElem?_eq_some_iff.1 HB0.out).1 (by simp)).trans HB0.out;exact ⟨(cell_of_row wq _ 0 _ _ _ hb).trans rfl,(cell_of_row wq _ 1 _ _ _ hb).trans rfl,(cell_of_row wq _ 2 _ _ _ hb).trans rfl,(cell_of_row wq _ 3 _ _ _ hb).trans rfl⟩)
 obtain ⟨c0,c1,c2,c3⟩:=CX.out w1 (Flow.grow_refl _);go_upto_region 3 with (go_at_call 34;refine (Qjd _ L S fin rows w1 (HD.out.grow HG0.out)).mono ?_;rintro e w' ⟨rfl,rfl⟩;rw [show Det.may L S fin.length rows=true by rw [Hfn.out,← Hn.out];exact HM.out]);have HG1:Hid (Flow.Grow w1 (w1.alloc (.cells #[.int .i64 L,.int .i64 S,.slice af n cf,.slice an n cn] 27))):=Lib.hid (Flow.grow_alloc _ _);generalize w1.alloc (.cells #[.int .i64 L,.int .i64 S,.slice af n cf,.slice an n cn] 27)=w2 at *;clear c0 c1 c2 c3;obtain ⟨_,_,c2,_⟩:=CX.out w2 HG1.out;go_upto_region 4 with (go_at_call 82;refine (Qj3 (.slice af n cf) fin w2 (by rw [Hfn.out,← Hn.out];omega) (by intro e;have h3:=Hfn.out;rw [e,← Hn.out] at h3;simp at h3;omega) (HF.out.grow (HG0.out.trans HG1.out))).mono ?_;rintro e w3 ⟨⟨vo,rfl,ho⟩,hg⟩;rw [Hfn.out,← Hn.out] at ho;obtain ⟨oa,oc,rfl⟩:=Qah ho;have HO:=Lib.hid ho;have HG3:=Lib.hid hg;clear ho hg);obtain ⟨Z,hZ⟩:∃ Z,oa=some ⟨Z,0,none⟩:=by
  rcases HO.out.2 with ⟨h3,h4⟩ | ⟨g,cap,cur,h3,_⟩
  ·omega
  ·injection h3 with h3;exact ⟨g,h3⟩
 subst hZ;obtain ⟨G,hG⟩:∃ G,G=w3.heap.size:=⟨_,rfl⟩;have HGc:Hid ((w3.alloc (.cells #[.slice (some ⟨Z,0,none⟩) n oc] 24)).heap[w3.heap.size]?=some (.cells #[.slice (some ⟨Z,0,none⟩) n oc] 24 (0,0))):=Lib.hid (heap_alloc_new _ _);have HO4:=Lib.hid (Qab HO.out (Flow.grow_alloc w3 (.cells #[.slice (some ⟨Z,0,none⟩) n oc] 24)));have HG4:Hid (Flow.Grow w2 (w3.alloc (.cells #[.slice (some ⟨Z,0,none⟩) n oc] 24))):=Lib.hid (HG3.out.trans (Flow.grow_alloc _ _));generalize w3.alloc (.cells #[.slice (some ⟨Z,0,none⟩) n oc] 24)=w4 at *;rw [← hG] at HGc ⊢;clear hG HO;clear HF HM HD c2;go_wp2_with fail;go_loopw [4] (fun more wr=>∃ (mb:Bool) (sn:List Bool),more=.bool mb∧Hid (wr.ownsRow w2.heap.size 4 1 (.slice (some ⟨Z,0,none⟩) n oc) n (sn.map Value.bool))∧Hid (wr.heap[G]?=some (.cells #[.slice (some ⟨Z,0,none⟩) n oc] 24 (0,0)))∧Hid (Flow.Grow w2 wr)) (fun more wr=>2 * Pr.falW wr Z+Pr.moreV more)
 case atStart=>exact ⟨true,fin,rfl,HO4,HGc,HG4⟩
 case round =>
  clear HO4 HGc HG4;obtain ⟨mb,sn,rfl,HO,HGc,HG⟩:=hrel
  rename World=>wo
  cases mb with
  | false =>
   have g0:wo.cell? ⟨G,0,none⟩=some (.slice (some ⟨Z,0,none⟩) n oc):=(cell_of_row wo _ 0 _ _ _ HGc.out).trans rfl;go_wp2_with fail;go_ret;refine ⟨⟨_,sn,rfl,Pr.own_mono HO.out (HG0.out.trans HG1.out).size,?_⟩,(HG0.out.trans HG1.out).trans HG.out⟩;have:=HO.out.1;simpa using this
  | true =>
   obtain ⟨_,_,_,c3⟩:=CX.out wo (HG1.out.trans HG.out);go_wp2_with fail;clear c3;go_loopw [4,17] (fun more i wi=>∃ (j:Nat) (mb:Bool) (s2:List Bool),j≤n∧more=.bool mb∧i=.int .i64 j∧Hid (wi.ownsRow w2.heap.size 4 1 (.slice (some ⟨Z,0,none⟩) n oc) n (s2.map Value.bool))∧Hid (wi.heap[G]?=some (.cells #[.slice (some ⟨Z,0,none⟩) n oc] 24 (0,0)))∧Hid (Flow.Grow w2 wi)∧Hid (2 * Pr.falW wi Z+Pr.moreV (.bool mb)≤2 * Pr.falW wo Z)) (fun _ i _=>n - (intOf i).toNat)
   case atStart=>exact ⟨0,false,sn,by omega,rfl,rfl,HO,HGc,HG,Lib.hid (by simp [Pr.moreV])⟩
   case round =>
    clear HO HGc HG;obtain ⟨j,mb,s2,hj,rfl,rfl,HO,HGc,HG,HM⟩:=hrel
    rename World=>wi
    by_cases hjn:j < n
    ·have hjr:j < rows.length:=by rw [← Hn.out];exact hjn
     obtain ⟨rb,ro,rcp,hv,_,hrc⟩:=HN.out.shape (by intro e;rw [e] at hjr;simp at hjr);injection hv with hv1 hv2 hv3;subst hv1 hv3;clear hv2;obtain ⟨u,huc,hux⟩:=hrc j hjr;clear hrc;have hx1:=HR2.out _ (Qa5 (d:=[]) hjr);have hx2:=HRT.out _ (Qa5 (d:=[]) hjr);clear hjr;generalize rows.getD j []=row at *;obtain ⟨ra,rc,rfl,_⟩:=id hux;have r0:=Xm2.cell_grow ((HG0.out.trans HG1.out).trans HG.out) huc;have HCt:Hid (Calls Tryz.prog 54 #[.slice ra row.length rc,.func (.func 109) #[] #[.pointer (some ⟨G,0,none⟩)]] wi fun e w'=>e=.returned (.bool (row.any (Pr.liveAt s2)))∧wi=w'):=Lib.hid (by
      have hl:s2.length=n:=by have:=HO.out.1;simpa using this
      exact Qmj _ row G Z n oc s2 wi hx1 hx2 hl ((cell_of_row wi _ 0 _ _ _ HGc.out).trans rfl) (by have:=Seg.of_own HO.out;rw [← hl] at this ⊢;exact this) (hux.grow ((HG0.out.trans HG1.out).trans HG.out)))
     have g0:wi.cell? ⟨G,0,none⟩=some (.slice (some ⟨Z,0,none⟩) n oc):=(cell_of_row wi _ 0 _ _ _ HGc.out).trans rfl;clear huc hux hx1 hx2;obtain ⟨m,hm⟩:∃ m,m=row.length:=⟨_,rfl⟩;rw [← hm] at r0 HCt;clear hm;have hjs:j < s2.length:=by have:=HO.out.1;simp at this;omega
     have z0:wi.cell? ⟨Z,j,none⟩=some (.bool (s2.getD j false)):=by
      rw [HO.out.cellAt j (by omega)];simp [hjs]
     cases hb:s2.getD j false with
     | true =>
      rw [hb] at z0;clear hb;go_wp2_with fail;go_roundw
      case rel=>exact ⟨j+1,mb,s2,by omega,rfl,by go_num,HO,HGc,HG,HM⟩
      case measure=>simp [intOf];omega
     | false =>
      rw [hb] at z0;clear hb;cases ha:row.any (Pr.liveAt s2) with
      | false =>
       rw [ha] at HCt;clear ha;go_wp2_with (go_at_call 54;refine HCt.out.mono ?_;rintro e w' ⟨rfl,rfl⟩);go_roundw
       case rel=>exact ⟨j+1,mb,s2,by omega,rfl,by go_num,HO,HGc,HG,HM⟩
       case measure=>simp [intOf];omega
      | true =>
       rw [ha] at HCt;clear ha;obtain ⟨cs,hcs⟩:∃ cs,wi.heap[Z]?=some (.cells cs 4 (0,0)):=by
        rcases HO.out.2 with ⟨h3,_⟩ | ⟨_,_,cur,h3,_,h4,_⟩
        ·cases h3
        ·cases h3;exact ⟨cur,h4⟩
       have fz:wi.frozen? ⟨Z,j,none⟩=false:=frozen_of_row wi _ _ _ _ hcs;have HFs:=Lib.hid (Pr.falW_set hcs (by rw [← cell_of_row wi Z j _ _ _ hcs];exact z0));have HOs:=Lib.hid (Qdv (q:=j) (.bool true) HO.out (by omega));have HGs:=Lib.hid (Qag HG.out (HO.out.lt Z rfl).1 j (.bool true));have hGZ:G≠Z:=by
        intro e;have h3:=HGc.out;rw [e,hcs] at h3;injection h3 with h3;injection h3 with _ h3 _;exact absurd h3 (by decide)
       have HGq:=Lib.hid ((Below.heap_setCell wi ⟨Z,j,none⟩ (.bool true) G hGZ).trans HGc.out);clear hcs hGZ;go_wp2_with (go_at_call 54;refine HCt.out.mono ?_;rintro e w' ⟨rfl,rfl⟩);go_roundw
       case rel=>exact ⟨j+1,true,s2.set j true,by omega,rfl,by go_num,Lib.hid (by rw [List.map_set];exact HOs.out),HGq,HGs,Lib.hid (by have h3:=HFs.out;have h4:=HM.out;simp only [Pr.moreV];omega)⟩
       case measure=>simp [intOf];omega
    ·obtain rfl:j=n:=by omega
     go_wp2_with fail;go_roundw
     case rel=>exact ⟨mb,s2,rfl,HO,HGc,HG⟩
     case measure=>have:=HM.out;simp only [Pr.moreV] at this ⊢;omega
end Go.Proofs.YtcpodmjcgfgmnaaGreat
