/- eps.Step by its contract: what it answers is its own, and not too long. -/
import Derived.Test.YtcpodmjcgfgmnaaGreatMNm
import Derived.Test.YtcpodmjcgfgmnaaGreatMClo
namespace Go.Proofs.YtcpodmjcgfgmnaaGreat
open Go.RowKit
theorem Qa8 {w:World} {a:Option Addr} {n cap:Nat} {zs:List Int} (h:Ints w (.slice a n cap) zs) {j:Nat} (hj:j < zs.length):∃ b off,a=some ⟨b,off,none⟩∧w.cell? ⟨b,off+j,none⟩=some (.int .i64 (zs.getD j 0)):=by
 obtain ⟨b,off,cp,hv,_,hc⟩:=h.shape (by intro e;rw [e] at hj;simp at hj);injection hv with h1 _ _;exact ⟨b,off,h1,hc j hj⟩
theorem Qa5 {α:Type} {l:List α} {j:Nat} {d:α} (h:j < l.length):l.getD j d∈l:=by
 rw [List.getD_eq_getElem?_getD,List.getElem?_eq_getElem h];exact List.getElem_mem h
set_option maxRecDepth 100000 in
set_option maxHeartbeats 2000000 in
theorem Qq1 (K S label:Int) (vf vm vl:Value) (rows:List (List (Int × Int))) (l:List Int) (W:World) (_hr1:rows.length≤100) (hr2:∀ r∈rows,r.length≤100) (hl1:l.length≤100) (hff:∃ a n c,vf=.slice a n c) (hv:Pr.RowsM W vm rows) (hl:Ints W vl l) :
  Calls Tryz.prog 79 #[.agg #[.int .i64 K,.int .i64 S,vf,vm],vl,.int .i64 label] W fun e w'=>(∃ (v':Value) (zs:List Int),e=.returned v'∧w'.ownsRow W.heap.size 3 1 v' zs.length (zs.map (Value.int .i64))∧zs.length≤10000)∧Flow.Grow W w':=by
 have HV:=Lib.hid hv;have HLL:=Lib.hid hl;have HR2:=Lib.hid hr2;obtain ⟨af,nf,cf,rfl⟩:=hff;obtain ⟨am,cm,rfl⟩:=hv.val;obtain ⟨al,cl,rfl,_⟩:=id hl;clear hv hr2 hl;obtain ⟨n,hn⟩:∃ n,n=rows.length:=⟨_,rfl⟩;obtain ⟨p,hp⟩:∃ p,p=l.length:=⟨_,rfl⟩;have Hn:=Lib.hid hn;have Hp:=Lib.hid hp;rw [← hn] at HV ⊢;rw [← hp] at hl1 HLL ⊢;clear hn hp;obtain ⟨i0,hi,hz0,hz1,hz2⟩:=info_parts Qbo;have HI:=Lib.hid (And.intro hi (And.intro hz0 (And.intro hz1 hz2)));clear hi hz0 hz1 hz2;go_enter Tryz.func79,Tryz.ntmps79;have HB0:Hid ((W.alloc (.cells #[.int .i64 K,.int .i64 S,.slice af nf cf,.slice am n cm] 99)).heap[W.heap.size]?=some (.cells #[.int .i64 K,.int .i64 S,.slice af nf cf,.slice am n cm] 99 (0,0))):=Lib.hid (heap_alloc_new _ _);have HG0:Hid (Flow.Grow W (W.alloc (.cells #[.int .i64 K,.int .i64 S,.slice af nf cf,.slice am n cm] 99))):=Lib.hid (Flow.grow_alloc _ _);go_upto_region 2 with fail;generalize W.alloc (.cells #[.int .i64 K,.int .i64 S,.slice af nf cf,.slice am n cm] 99)=w1 at *;obtain ⟨X,hX⟩:∃ X,X=W.heap.size:=⟨_,rfl⟩;rw [← hX] at HB0 ⊢;have HX:=Lib.hid hX;clear hX;have CX:Hid (∀ wq,Flow.Grow w1 wq→wq.cell? ⟨X,3,none⟩=some (.slice am n cm)):=Lib.hid (fun wq g=>(cell_of_row wq _ 3 _ _ _ ((g.block _ (Array.getElem?_eq_some_iff.1 HB0.out).1 (by simp)).trans HB0.out)).trans rfl);go_wp2_with fail;go_loopw [7,14] (fun va i wr=>∃ (j:Nat) (out:List Int),j≤p∧i=.int .i64 j∧out.length≤j * 100∧Hid (wr.ownsRow w1.heap.size 3 1 va out.length (out.map (Value.int .i64)))∧Hid (Flow.Grow w1 wr)) (fun _ i _=>p - (intOf i).toNat)
 case atStart=>exact ⟨0,[],by omega,rfl,by simp,Lib.hid (World.ownsRow_nil _ _ _ _),Lib.hid (Flow.grow_refl _)⟩
 case round =>
  obtain ⟨j,out,hj,rfl,hol,HO,HG⟩:=hrel
  rename World=>wr
  obtain ⟨va,hva⟩:∃ va,va=u7:=⟨_,rfl⟩;obtain ⟨oa,oc,hoa⟩:=Qah HO.out;subst hoa;clear hva;obtain ⟨t,ht⟩:∃ t,t=out.length:=⟨_,rfl⟩;have Ht:=Lib.hid ht;rw [← ht] at hol HO ⊢;clear ht;by_cases hjp:j < p
  ·obtain ⟨lb,lo,rfl,q0⟩:=Qa8 (HLL.out.grow (HG0.out.trans HG.out)) (j:=j) (by rw [← Hp.out];exact hjp);generalize l.getD j 0=s at *;have q3:=CX.out wr HG.out;by_cases hs0:s < 0
   ·have d0:decide (s < 0)=true:=by simp [hs0]
    go_wp2_with fail;go_roundw
    case rel=>exact ⟨j+1,out,by omega,by go_num,by rw [← Ht.out];omega,by rw [← Ht.out];exact HO,HG⟩
    case measure=>simp [intOf];omega
   ·have d0:decide (s < 0)=false:=by simp [hs0]
    by_cases hsn:s≥(n:Int)
    ·have d1:decide (s≥(n:Int))=true:=by simp;omega
     go_wp2_with fail;go_roundw
     case rel=>exact ⟨j+1,out,by omega,by go_num,by rw [← Ht.out];omega,by rw [← Ht.out];exact HO,HG⟩
     case measure=>simp [intOf];omega
    ·have d1:decide (s≥(n:Int))=false:=by simp;omega
     obtain ⟨x,rfl⟩:∃ x:Nat,s=(x:Int):=⟨s.toNat,by omega⟩;have hxn:x < n:=by omega
     have hxr:x < rows.length:=by rw [← Hn.out];exact hxn
     obtain ⟨mb,mo,ra,rc,rfl,q1,q2⟩:=HV.out.at (j:=x) hxr;replace q1:=Xm2.cell_grow (HG0.out.trans HG.out) q1;have hm:=HR2.out _ (Qa5 (d:=[]) hxr);clear hxr;generalize rows.getD x []=row at *;obtain ⟨m,hmr⟩:∃ m,m=row.length:=⟨_,rfl⟩;have Hm:=Lib.hid hmr;rw [← hmr] at hm q1 q2;have Q2:=Lib.hid q2;clear hmr q2;go_wp2_with fail;clear q0 q1 q3;go_loopw [7,33] (fun va i wi=>∃ (c:Nat) (o2:List Int),c≤m∧i=.int .i64 c∧o2.length≤j * 100+c∧Hid (wi.ownsRow w1.heap.size 3 1 va o2.length (o2.map (Value.int .i64)))∧Hid (Flow.Grow w1 wi)) (fun _ i _=>m - (intOf i).toNat)
     case atStart=>exact ⟨0,out,by omega,rfl,by rw [← Ht.out];omega,by rw [← Ht.out];exact HO,HG⟩
     case round =>
      clear HO HG;obtain ⟨c,o2,hc,rfl,hol2,HO,HG⟩:=hrel
      rename World=>wi
      obtain ⟨va,hva⟩:∃ va,va=u7:=⟨_,rfl⟩;obtain ⟨oa2,oc2,hoa⟩:=Qah HO.out;subst hoa;clear hva;obtain ⟨t2,ht2⟩:∃ t,t=o2.length:=⟨_,rfl⟩;have Ht2:=Lib.hid ht2;rw [← ht2] at hol2 HO ⊢;clear ht2;by_cases hcm:c < m
      ·obtain ⟨g,go,rfl,y0,y1⟩:=(Q2.out.grow (HG0.out.trans HG.out)).at (j:=c) (by rw [← Hm.out];exact hcm);generalize row.getD c (0,0)=mv at *;obtain ⟨x0,x1⟩:=mv;simp only at y0 y1;by_cases h0:x0=label
       ·have d2:(x0 == label)=true:=by simp [h0]
        clear h0;go_wp2_with (at_builtin;refine Qbq (W:=w1) rfl _ _ 49 rfl 3 i0 (.int .i64 0) 1 8 Tryz.underlying49 HI.out.1 HI.out.2.1 HI.out.2.2.1 HI.out.2.2.2 rfl (by decide) _ t2 (o2.map (Value.int .i64)) rfl (Qab HO.out ((Flow.grow_alloc _ _).trans (Flow.grow_alloc _ _))) (HG.out.trans ((Flow.grow_alloc _ _).trans (Flow.grow_alloc _ _))) _ #[.int .i64 x1] 3 rfl (Qbl _ _ _) rfl (by intro u hu;simp at hu;subst hu;rfl) (by omega) (by decide) ?_;intro v' w' hO hG hf hk;have HO2:=Lib.hid hO;have HG2:=Lib.hid hG;have HK2:=Lib.hid hk;obtain ⟨g',c',rfl,_⟩:=hf;clear hO hG hk);go_roundw
        case rel=>exact ⟨c+1,o2++[x1],by omega,by go_num,by rw [List.length_append,← Ht2.out];simp;omega,Lib.hid (by rw [List.length_append,← Ht2.out,List.map_append];exact HO2.out),HG2⟩
        case measure=>simp [intOf];omega
       ·have d2:(x0 == label)=false:=by simp [h0]
        clear h0;go_wp2_with fail;go_roundw
        case rel=>exact ⟨c+1,o2,by omega,by go_num,by rw [← Ht2.out];omega,Lib.hid (by rw [← Ht2.out];exact Qab HO.out (Flow.grow_alloc _ _)),Lib.hid (HG.out.trans (Flow.grow_alloc _ _))⟩
        case measure=>simp [intOf];omega
      ·obtain rfl:c=m:=by omega
       go_wp2_with fail;go_roundw
       case rel=>exact ⟨j+1,o2,by omega,by go_num,by rw [← Ht2.out];omega,by rw [← Ht2.out];exact HO,HG⟩
       case measure=>simp [intOf];omega
  ·obtain rfl:j=p:=by omega
   go_wp2_with (first
    | (go_at_call 96;refine (Qlu (.slice oa t oc) out w1.heap.size wr (by rw [← Ht.out];omega) (by rw [← Ht.out];exact HO.out)).mono ?_;rintro e w4 ⟨rfl,hs,hk⟩;have HS:=Lib.hid hs;have HK:=Lib.hid hk;clear hs hk)
    | (go_at_call 97;refine (Qj2 (.slice oa t oc) (out.mergeSort fun x y=>decide (x≤y)) w1.heap.size w4 (by rw [List.length_mergeSort,← Ht.out];omega) (by rw [List.length_mergeSort];exact HS.out)).mono ?_;rintro e w5 ⟨⟨v',rfl,hs,hb⟩,hk⟩;have HS5:=Lib.hid hs;have HK5:=Lib.hid hk;clear hs hk hb))
   go_ret;refine ⟨⟨_,_,rfl,Pr.own_mono HS5.out (HX.out ▸ HG0.out.size),?_⟩,?_⟩
   ·have:=Lib.compact_length_le (out.mergeSort fun x y=>decide (x≤y));rw [List.length_mergeSort,← Ht.out] at this;omega
   ·exact HG0.out.trans (Qap (Qap HG.out HK.out fun b e=>(HO.out.lt b e).1) HK5.out fun b e=>(HO.out.lt b e).1)
end Go.Proofs.YtcpodmjcgfgmnaaGreat
namespace Go.Proofs.YtcpodmjcgfgmnaaGreat
open Go.RowKit
set_option maxRecDepth 100000 in
set_option maxHeartbeats 2000000 in
theorem Qud (K S:Int) (Kn:Nat) (vf vm vl:Value) (rows:List (List (Int × Int))) (l:List Int) (W:World) (_hr1:rows.length≤100) (hr2:∀ r∈rows,r.length≤100) (hl1:l.length≤100) (hB:Pr.Below Kn rows) (hff:∃ a n c,vf=.slice a n c) (hv:Pr.RowsM W vm rows) (hl:Ints W vl l) :
  Calls Tryz.prog 78 #[.agg #[.int .i64 K,.int .i64 S,vf,vm],vl] W fun e w'=>(∃ (v':Value) (zs:List Int),e=.returned v'∧w'.ownsRow W.heap.size 3 1 v' zs.length (zs.map (Value.int .i64))∧zs.length≤10000∧∀ z∈zs,0≤z∧z < Kn)∧Flow.Grow W w':=by
 have HBe:=Lib.hid hB;clear hB;have HV:=Lib.hid hv;have HLL:=Lib.hid hl;have HR2:=Lib.hid hr2;obtain ⟨af,nf,cf,rfl⟩:=hff;obtain ⟨am,cm,rfl⟩:=hv.val;obtain ⟨al,cl,rfl,_⟩:=id hl;clear hv hr2 hl;obtain ⟨n,hn⟩:∃ n,n=rows.length:=⟨_,rfl⟩;obtain ⟨p,hp⟩:∃ p,p=l.length:=⟨_,rfl⟩;have Hn:=Lib.hid hn;have Hp:=Lib.hid hp;rw [← hn] at HV ⊢;rw [← hp] at hl1 HLL ⊢;clear hn hp;obtain ⟨i0,hi,hz0,hz1,hz2⟩:=info_parts Qbo;have HI:=Lib.hid (And.intro hi (And.intro hz0 (And.intro hz1 hz2)));clear hi hz0 hz1 hz2;go_enter Tryz.func78,Tryz.ntmps78;have HB0:Hid ((W.alloc (.cells #[.int .i64 K,.int .i64 S,.slice af nf cf,.slice am n cm] 99)).heap[W.heap.size]?=some (.cells #[.int .i64 K,.int .i64 S,.slice af nf cf,.slice am n cm] 99 (0,0))):=Lib.hid (heap_alloc_new _ _);have HG0:Hid (Flow.Grow W (W.alloc (.cells #[.int .i64 K,.int .i64 S,.slice af nf cf,.slice am n cm] 99))):=Lib.hid (Flow.grow_alloc _ _);go_upto_region 2 with fail;generalize W.alloc (.cells #[.int .i64 K,.int .i64 S,.slice af nf cf,.slice am n cm] 99)=w1 at *;obtain ⟨X,hX⟩:∃ X,X=W.heap.size:=⟨_,rfl⟩;rw [← hX] at HB0 ⊢;have HX:=Lib.hid hX;clear hX;have CX:Hid (∀ wq,Flow.Grow w1 wq→wq.cell? ⟨X,3,none⟩=some (.slice am n cm)):=Lib.hid (fun wq g=>(cell_of_row wq _ 3 _ _ _ ((g.block _ (Array.getElem?_eq_some_iff.1 HB0.out).1 (by simp)).trans HB0.out)).trans rfl);go_wp2_with fail;go_loopw [5,12] (fun va i wr=>∃ (j:Nat) (out:List Int),j≤p∧i=.int .i64 j∧out.length≤j * 100∧Hid (∀ z∈out,0≤z∧z < Kn)∧Hid (wr.ownsRow w1.heap.size 3 1 va out.length (out.map (Value.int .i64)))∧Hid (Flow.Grow w1 wr)) (fun _ i _=>p - (intOf i).toNat)
 case atStart=>exact ⟨0,[],by omega,rfl,by simp,Lib.hid (by simp),Lib.hid (World.ownsRow_nil _ _ _ _),Lib.hid (Flow.grow_refl _)⟩
 case round =>
  obtain ⟨j,out,hj,rfl,hol,HPo,HO,HG⟩:=hrel
  rename World=>wr
  obtain ⟨va,hva⟩:∃ va,va=u5:=⟨_,rfl⟩;obtain ⟨oa,oc,hoa⟩:=Qah HO.out;subst hoa;clear hva;obtain ⟨t,ht⟩:∃ t,t=out.length:=⟨_,rfl⟩;have Ht:=Lib.hid ht;rw [← ht] at hol HO ⊢;clear ht;by_cases hjp:j < p
  ·obtain ⟨lb,lo,rfl,q0⟩:=Qa8 (HLL.out.grow (HG0.out.trans HG.out)) (j:=j) (by rw [← Hp.out];exact hjp);generalize l.getD j 0=s at *;have q3:=CX.out wr HG.out;by_cases hs0:s < 0
   ·have d0:decide (s < 0)=true:=by simp [hs0]
    go_wp2_with fail;go_roundw
    case rel=>exact ⟨j+1,out,by omega,by go_num,by rw [← Ht.out];omega,HPo,by rw [← Ht.out];exact HO,HG⟩
    case measure=>simp [intOf];omega
   ·have d0:decide (s < 0)=false:=by simp [hs0]
    by_cases hsn:s≥(n:Int)
    ·have d1:decide (s≥(n:Int))=true:=by simp;omega
     go_wp2_with fail;go_roundw
     case rel=>exact ⟨j+1,out,by omega,by go_num,by rw [← Ht.out];omega,HPo,by rw [← Ht.out];exact HO,HG⟩
     case measure=>simp [intOf];omega
    ·have d1:decide (s≥(n:Int))=false:=by simp;omega
     obtain ⟨x,rfl⟩:∃ x:Nat,s=(x:Int):=⟨s.toNat,by omega⟩;have hxn:x < n:=by omega
     have hxr:x < rows.length:=by rw [← Hn.out];exact hxn
     obtain ⟨mb,mo,ra,rc,rfl,q1,q2⟩:=HV.out.at (j:=x) hxr;replace q1:=Xm2.cell_grow (HG0.out.trans HG.out) q1;have hm:=HR2.out _ (Qa5 (d:=[]) hxr);have HBr:=Lib.hid (HBe.out _ (Qa5 (d:=[]) hxr));clear hxr;generalize rows.getD x []=row at *;obtain ⟨m,hmr⟩:∃ m,m=row.length:=⟨_,rfl⟩;have Hm:=Lib.hid hmr;rw [← hmr] at hm q1 q2;have Q2:=Lib.hid q2;clear hmr q2;go_wp2_with fail;clear q0 q1 q3;go_loopw [5,31] (fun va i wi=>∃ (c:Nat) (o2:List Int),c≤m∧i=.int .i64 c∧o2.length≤j * 100+c∧Hid (∀ z∈o2,0≤z∧z < Kn)∧Hid (wi.ownsRow w1.heap.size 3 1 va o2.length (o2.map (Value.int .i64)))∧Hid (Flow.Grow w1 wi)) (fun _ i _=>m - (intOf i).toNat)
     case atStart=>exact ⟨0,out,by omega,rfl,by rw [← Ht.out];omega,HPo,by rw [← Ht.out];exact HO,HG⟩
     case round =>
      clear HO HG;obtain ⟨c,o2,hc,rfl,hol2,HP2,HO,HG⟩:=hrel
      rename World=>wi
      obtain ⟨va,hva⟩:∃ va,va=u5:=⟨_,rfl⟩;obtain ⟨oa2,oc2,hoa⟩:=Qah HO.out;subst hoa;clear hva;obtain ⟨t2,ht2⟩:∃ t,t=o2.length:=⟨_,rfl⟩;have Ht2:=Lib.hid ht2;rw [← ht2] at hol2 HO ⊢;clear ht2;by_cases hcm:c < m
      ·obtain ⟨g,go,rfl,y0,y1⟩:=(Q2.out.grow (HG0.out.trans HG.out)).at (j:=c) (by rw [← Hm.out];exact hcm);have hbd:=HBr.out (row.getD c (0,0)) (Qa5 (by rw [← Hm.out];exact hcm));generalize row.getD c (0,0)=mv at *;obtain ⟨x0,x1⟩:=mv;simp only at y0 y1 hbd;by_cases h0:0≤x0
       ·have d2:decide (x0≥0)=true:=by simp;omega
        go_wp2_with (at_builtin;refine Qbq (W:=w1) rfl _ _ 49 rfl 3 i0 (.int .i64 0) 1 8 Tryz.underlying49 HI.out.1 HI.out.2.1 HI.out.2.2.1 HI.out.2.2.2 rfl (by decide) _ t2 (o2.map (Value.int .i64)) rfl (Qab HO.out ((Flow.grow_alloc _ _).trans (Flow.grow_alloc _ _))) (HG.out.trans ((Flow.grow_alloc _ _).trans (Flow.grow_alloc _ _))) _ #[.int .i64 x0] 3 rfl (Qbl _ _ _) rfl (by intro u hu;simp at hu;subst hu;rfl) (by omega) (by decide) ?_;intro v' w' hO hG hf hk;have HO2:=Lib.hid hO;have HG2:=Lib.hid hG;have HK2:=Lib.hid hk;obtain ⟨g',c',rfl,_⟩:=hf;clear hO hG hk);go_roundw
        case rel=>exact ⟨c+1,o2++[x0],by omega,by go_num,by rw [List.length_append,← Ht2.out];simp;omega,Lib.hid (by intro z hz;rcases List.mem_append.1 hz with h | h;exact HP2.out z h;simp at h;subst h;exact ⟨h0,hbd.2⟩),Lib.hid (by rw [List.length_append,← Ht2.out,List.map_append];exact HO2.out),HG2⟩
        case measure=>simp [intOf];omega
       ·have d2:decide (x0≥0)=false:=by simp;omega
        clear h0;go_wp2_with fail;go_roundw
        case rel=>exact ⟨c+1,o2,by omega,by go_num,by rw [← Ht2.out];omega,HP2,Lib.hid (by rw [← Ht2.out];exact Qab HO.out (Flow.grow_alloc _ _)),Lib.hid (HG.out.trans (Flow.grow_alloc _ _))⟩
        case measure=>simp [intOf];omega
      ·obtain rfl:c=m:=by omega
       go_wp2_with fail;go_roundw
       case rel=>exact ⟨j+1,o2,by omega,by go_num,by rw [← Ht2.out];omega,HP2,by rw [← Ht2.out];exact HO,HG⟩
       case measure=>simp [intOf];omega
  ·obtain rfl:j=p:=by omega
   go_wp2_with (first
    | (go_at_call 96;refine (Qlu (.slice oa t oc) out w1.heap.size wr (by rw [← Ht.out];omega) (by rw [← Ht.out];exact HO.out)).mono ?_;rintro e w4 ⟨rfl,hs,hk⟩;have HS:=Lib.hid hs;have HK:=Lib.hid hk;clear hs hk)
    | (go_at_call 97;refine (Qj2 (.slice oa t oc) (out.mergeSort fun x y=>decide (x≤y)) w1.heap.size w4 (by rw [List.length_mergeSort,← Ht.out];omega) (by rw [List.length_mergeSort];exact HS.out)).mono ?_;rintro e w5 ⟨⟨v',rfl,hs,hb⟩,hk⟩;have HS5:=Lib.hid hs;have HK5:=Lib.hid hk;clear hs hk hb))
   go_ret;refine ⟨⟨_,_,rfl,Pr.own_mono HS5.out (HX.out ▸ HG0.out.size),?_,fun z hz=>HPo.out z (List.mem_mergeSort.1 (Qqa hz))⟩,?_⟩
   ·have:=Lib.compact_length_le (out.mergeSort fun x y=>decide (x≤y));rw [List.length_mergeSort,← Ht.out] at this;omega
   ·exact HG0.out.trans (Qap (Qap HG.out HK.out fun b e=>(HO.out.lt b e).1) HK5.out fun b e=>(HO.out.lt b e).1)
end Go.Proofs.YtcpodmjcgfgmnaaGreat
namespace Go.Proofs.YtcpodmjcgfgmnaaGreat
open Go.RowKit
namespace Pr
def finAt (fin:List Bool) (s:Int):Bool:=decide (0≤s) && decide (s < fin.length) && fin.getD s.toNat false
end Pr
theorem Qep {w:World} {a:Option Addr} {n cap:Nat} {bs:List Bool} (h:Bools w (.slice a n cap) bs) {j:Nat} (hj:j < bs.length):∃ b off,a=some ⟨b,off,none⟩∧w.cell? ⟨b,off+j,none⟩=some (.bool (bs.getD j false)):=by
 obtain ⟨b,off,cp,hv,_,hc⟩:=h.shape (by intro e;rw [e] at hj;simp at hj);injection hv with h1 _ _;exact ⟨b,off,h1,hc j hj⟩
set_option maxRecDepth 100000 in
set_option maxHeartbeats 400000 in
theorem Zcp (s:Int) (g:Nat) (a:Option Addr) (n cap:Nat) (fin:List Bool) (w:World) (hn:fin.length=n) (hc:w.cell? ⟨g,2,none⟩=some (.slice a n cap)) (hf:Bools w (.slice a n cap) fin) :
  Calls Tryz.prog 98 #[.int .i64 s,.pointer (some ⟨g,0,none⟩)] w fun e w'=>e=.returned (.bool (Pr.finAt fin s))∧w=w':=by
 have HF:=Lib.hid hf;clear hf;by_cases h1:0≤s
 ·have d1:decide (s≥0)=true:=by simp [h1]
  by_cases h2:s < (n:Int)
  ·have d2:decide (s < (n:Int))=true:=by simp [h2]
   obtain ⟨x,rfl⟩:∃ x:Nat,s=(x:Int):=⟨s.toNat,by omega⟩;have hx:x < n:=by omega
   obtain ⟨b,off,rfl,q0⟩:=Qep HF.out (j:=x) (by rw [hn];exact hx);have H:Hid (Pr.finAt fin (x:Int)=fin.getD x false):=Lib.hid (by
    have e1:decide ((x:Int) < fin.length)=true:=by simp;omega
    simp [Pr.finAt,hn,hx])
   generalize fin.getD x false=y at *;clear hn;go_enter Tryz.func98,Tryz.ntmps98;go_wp2_with fail;go_ret;exact ⟨Qax H.out.symm,rfl⟩
  ·have d2:decide (s < (n:Int))=false:=by simp;omega
   have H:Hid (Pr.finAt fin s=false):=Lib.hid (by
    have e1:decide (s < fin.length)=false:=by rw [hn];exact d2
    simp only [Pr.finAt,e1,Bool.and_false,Bool.false_and])
   clear hn h1 h2;go_enter Tryz.func98,Tryz.ntmps98;go_wp2_with fail;go_ret;exact ⟨Qax H.out.symm,rfl⟩
 ·have d1:decide (s≥0)=false:=by simp;omega
  have H:Hid (Pr.finAt fin s=false):=Lib.hid (by simp [Pr.finAt,h1]);clear hn h1;go_enter Tryz.func98,Tryz.ntmps98;go_wp2_with fail;go_ret;exact ⟨Qax H.out.symm,rfl⟩
set_option maxRecDepth 100000 in
set_option maxHeartbeats 800000 in
theorem Qo8 (K S:Int) (vf vm vl:Value) (fin:List Bool) (l:List Int) (W:World) (hl1:l.length≤1000000) (hmm:∃ a n c,vm=.slice a n c) (hf:Bools W vf fin) (hl:Ints W vl l) :
  Calls Tryz.prog 80 #[.agg #[.int .i64 K,.int .i64 S,vf,vm],vl] W fun e w'=>(∃ b,e=.returned (.bool b))∧Flow.Grow W w':=by
 obtain ⟨am,nm,cm,rfl⟩:=hmm;obtain ⟨af,cf,rfl,_⟩:=id hf;obtain ⟨al,cl,rfl,_⟩:=id hl;obtain ⟨n,hn⟩:∃ n,n=fin.length:=⟨_,rfl⟩;rw [← hn] at hf ⊢;obtain ⟨p,hp⟩:∃ p,p=l.length:=⟨_,rfl⟩;rw [← hp] at hl1 hl ⊢;obtain ⟨w1,hw1⟩:∃ w1,w1=W.alloc (.cells #[.int .i64 K,.int .i64 S,.slice af n cf,.slice am nm cm] 99):=⟨_,rfl⟩;have HG:Hid (Flow.Grow W w1):=Lib.hid (by rw [hw1];exact Flow.grow_alloc _ _);have hb:w1.heap[W.heap.size]?=_:=(by rw [hw1];exact heap_alloc_new _ _:w1.heap[W.heap.size]?=some (.cells #[.int .i64 K,.int .i64 S,.slice af n cf,.slice am nm cm] 99 (0,0)));have HFn:Hid (∀ s:Int,Calls Tryz.prog 98 #[.int .i64 s,.pointer (some ⟨W.heap.size,0,none⟩)] w1 fun e w'=>e=.returned (.bool (Pr.finAt fin s))∧w1=w'):=Lib.hid (fun s=>Zcp s _ af n cf fin w1 hn.symm ((cell_of_row w1 _ 2 _ _ _ hb).trans rfl) (hf.grow HG.out));have HL:Hid (Ints w1 (.slice al p cl) l):=Lib.hid (hl.grow HG.out);have Hp:=Lib.hid hp;have Hw1:=Lib.hid hw1;clear hf hl hn hp hb hw1;generalize hX:W.heap.size=X at *;have HX:=Lib.hid hX;clear hX;have HIX:Hid (Calls Tryz.prog 74 #[.slice al p cl,.func (.func 98) #[] #[.pointer (some ⟨X,0,none⟩)]] w1 fun e w'=>(∃ k:Int,e=.returned (.int .i64 k))∧w1=w'):=Lib.hid (by
  go_enter Tryz.func74,Tryz.ntmps74;go_wp2_with fail;go_loop [8] (fun i=>∃ j:Nat,j≤p∧i=.int .i64 j) (fun i=>p - (intOf i).toNat)
  case atStart=>exact ⟨0,by omega,rfl⟩
  case round =>
   obtain ⟨j,hj,rfl⟩:=hrel;by_cases hjp:j < p
   ·obtain ⟨b,off,rfl,q0⟩:=Qa8 HL.out (j:=j) (by rw [← Hp.out];exact hjp);generalize l.getD j 0=s at *;cases hb:Pr.finAt fin s with
    | false =>
     have Hb:=Lib.hid hb;clear hb;go_wp2_with (go_at_call 98;refine (HFn.out _).mono ?_;rintro e w' ⟨rfl,rfl⟩;rw [Hb.out]);go_round
     case rel=>exact ⟨j+1,by omega,by go_num⟩
     case measure=>simp [intOf];omega
    | true =>
     have Hb:=Lib.hid hb;clear hb;go_wp2_with (go_at_call 98;refine (HFn.out _).mono ?_;rintro e w' ⟨rfl,rfl⟩;rw [Hb.out]);go_ret;exact ⟨⟨_,rfl⟩,rfl⟩
   ·obtain rfl:j=p:=by omega
    go_wp2_with fail;go_ret;exact ⟨⟨_,rfl⟩,rfl⟩)
 have HCt:Hid (Calls Tryz.prog 54 #[.slice al p cl,.func (.func 98) #[] #[.pointer (some ⟨X,0,none⟩)]] w1 fun e w'=>(∃ b,e=.returned (.bool b))∧w1=w'):=Lib.hid (by
  go_enter Tryz.func54,Tryz.ntmps54;go_wp2_with (go_at_call 74;refine HIX.out.mono ?_;rintro e w' ⟨⟨k,rfl⟩,rfl⟩);go_ret;exact ⟨⟨_,rfl⟩,rfl⟩)
 go_enter Tryz.func80,Tryz.ntmps80;rw [← HX.out,Hw1.out] at HCt;go_wp2_with (go_at_call 54;refine HCt.out.mono ?_;rintro e w' ⟨⟨b,rfl⟩,rfl⟩);go_ret;exact ⟨⟨_,rfl⟩,Hw1.out ▸ HG.out⟩
end Go.Proofs.YtcpodmjcgfgmnaaGreat
