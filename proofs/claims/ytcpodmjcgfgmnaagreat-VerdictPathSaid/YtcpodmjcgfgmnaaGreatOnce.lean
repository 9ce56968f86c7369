/- galliardlaw31.once by its contract: numbers, each once. -/
import Derived.Test.YtcpodmjcgfgmnaaGreatPath
import Derived.Test.YtcpodmjcgfgmnaaGreatMAsC
import Derived.BigQuiet
namespace Go.Proofs.YtcpodmjcgfgmnaaGreat
open Go.RowKit
theorem Qn2 {w:World} {B e h:Nat} (hh:w.heap[h]?=some (.cells #[] e (0,0))) (hB:B≤h):w.ownsRow B e 1 (.slice (some ⟨h,0,none⟩) 0 0) 0 []:=⟨rfl,.inr ⟨h,0,#[],rfl,hB,hh,Nat.le_refl _,by decide,rfl,rfl⟩⟩
theorem Qmd {l:List Int} {k:Nat} (h:k < l.length) (z:Int):decide (z∈l.take (k+1))=(decide (z∈l.take k) || decide (l.getD k 0=z)):=by
 have e:l.take (k+1)=l.take k++[l.getD k 0]:=by
  rw [List.take_add_one,List.getD_eq_getElem?_getD,List.getElem?_eq_getElem h];rfl
 rw [e,Bool.eq_iff_iff];simp only [decide_eq_true_eq,Bool.or_eq_true,List.mem_append,List.mem_singleton];exact ⟨fun h=>h.imp id Eq.symm,fun h=>h.imp id Eq.symm⟩
set_option maxRecDepth 100000 in
set_option maxHeartbeats 2000000 in
theorem Qyd (v:Value) (ls:List Int) (W:World) (h:Ints W v ls) (hn:ls.length≤100000) :
  Calls Tryz.prog 13 #[v] W fun e w'=>(∃ (ov:Value) (rs:List Int),e=.returned ov∧w'.ownsRow W.heap.size 3 1 ov rs.length (rs.map (Value.int .i64))∧(∀ x∈rs,x∈ls)∧rs.Nodup)∧Flow.Grow W w':=by
 have HV:=Lib.hid h;obtain ⟨va,vc,rfl,_⟩:=id h;clear h;obtain ⟨n,hnl⟩:∃ n,n=ls.length:=⟨_,rfl⟩;rw [← hnl] at hn ⊢;have Hn:=Lib.hid hnl;clear hnl;obtain ⟨i1,hi1,hy0,hy1,hy2⟩:=info_parts Qbo;go_enter Tryz.func13,Tryz.ntmps13;go_upto_region 2 with fail;have HO0:Hid ((W.alloc (.cells #[] 3)).ownsRow W.heap.size 3 1 (.slice (some ⟨W.heap.size,0,none⟩) 0 0) 0 []):=Lib.hid (Qn2 (heap_alloc_new _ _) (Nat.le_refl _));have HG0:Hid (Flow.Grow W (W.alloc (.cells #[] 3))):=Lib.hid (Flow.grow_alloc _ _);generalize W.alloc (.cells #[] 3)=w1 at *;go_upto_region 3 with fail;go_loopw [3,4] (fun ov iv wq=>∃ (i:Nat) (rs:List Int),i≤n∧rs.length≤i∧iv=.int .i64 i∧Hid (wq.ownsRow W.heap.size 3 1 ov rs.length (rs.map (Value.int .i64)))∧Hid (Flow.Grow W wq)∧Hid (∀ x∈rs,x∈ls)∧Hid rs.Nodup) (fun _ iv _=>n - (intOf iv).toNat)
 case atStart=>exact ⟨0,[],by omega,by simp,rfl,HO0,HG0,Lib.hid (by simp),Lib.hid (by simp)⟩
 case round =>
  clear HO0 HG0;obtain ⟨i,rs,hin',hri,rfl,HO,HG,HM,HD⟩:=hrel
  rename World=>wo
  obtain ⟨oa,oc,hov⟩:=Qah HO.out;subst hov;obtain ⟨m,hm⟩:∃ m,m=rs.length:=⟨_,rfl⟩;rw [← hm] at HO hri ⊢;have Hm:=Lib.hid hm;clear hm;by_cases hin:i < n
  ·obtain ⟨lb,lo,rfl,_⟩:=Qa8 HV.out (j:=i) (by rw [← Hn.out];exact hin);have hid:decide ((i:Int) < (n:Int))=true:=by simp;omega
   go_upto_region 7 with fail;go_loopw [5,6] (fun bv kv wq=>∃ k:Nat,k≤m∧kv=.int .i64 k∧bv=.bool (decide (ls.getD i 0∈rs.take k))∧Hid (Flow.Grow wo wq)) (fun _ kv _=>m - (intOf kv).toNat)
   case atStart=>exact ⟨0,by omega,rfl,by simp,Lib.hid (Flow.grow_refl _)⟩
   case round =>
    obtain ⟨k,hkm,rfl,rfl,HGi⟩:=hrel
    rename World=>wi
    by_cases hk:k < m
    ·have hmt:=Lib.hid (Qmd (by rw [← Hm.out];exact hk) (ls.getD i 0));obtain ⟨ob,oo,hoe,y0⟩:=Qa8 (Qbz (Qab HO.out HGi.out) Hm.out) (j:=k) (by rw [← Hm.out];exact hk);obtain ⟨lb',lo',hle,x0⟩:=Qa8 (HV.out.grow (HG.out.trans HGi.out)) (j:=i) (by rw [← Hn.out];exact hin);cases hle;subst hoe;have hkd:decide ((k:Int) < (m:Int))=true:=by simp;omega
     have b1:(0:Int)≤(k:Int):=by omega
     have b2:(k:Int) < (m:Int):=by omega
     have b3:(0:Int)≤(i:Int):=by omega
     have b4:(i:Int) < (n:Int):=by omega
     have HRel:Hid (decide (ls.getD i 0∈rs.take (k+1))=(decide (ls.getD i 0∈rs.take k) || decide (rs.getD k 0=ls.getD i 0))):=hmt;generalize ls.getD i 0=z at *;generalize rs.getD k 0=y at *;cases hb:decide (z∈rs.take k) with
     | true =>
      have Hb:=Lib.hid hb;clear hb;go_upto_region 9 with fail;go_quiet (fail);have HGq:Hid (Flow.Grow wi (wi.drewN nq)):=Lib.hid (Flow.grow_drewN _ _);generalize wi.drewN nq=w3 at *;go_wp2_with fail;go_roundw
      case rel=>exact ⟨k+1,by omega,by go_num,by rw [HRel.out,Hb.out];rfl,Lib.hid (HGi.out.trans HGq.out)⟩
      case measure=>simp [intOf];omega
     | false =>
      have Hb:=Lib.hid hb;clear hb;go_upto_region 9 with fail;go_quiet (fail);have HGq:Hid (Flow.Grow wi (wi.drewN nq)):=Lib.hid (Flow.grow_drewN _ _);generalize wi.drewN nq=w3 at *;go_wp2_with fail;go_roundw
      case rel=>exact ⟨k+1,by omega,by go_num,by rw [HRel.out,Hb.out,Bool.false_or];by_cases e:y=z <;> simp [e],Lib.hid (HGi.out.trans HGq.out)⟩
      case measure=>simp [intOf];omega
    ·obtain rfl:m=k:=by omega
     have htk:rs.take m=rs:=by rw [Hm.out,List.take_length]
     rw [htk];clear htk;have HO1:=Lib.hid (Qab HO.out HGi.out);have HG1:=Lib.hid (HG.out.trans HGi.out);obtain ⟨lb',lo',hle,x0⟩:=Qa8 (HV.out.grow HG1.out) (j:=i) (by rw [← Hn.out];exact hin);cases hle;have HMi:=Lib.hid (Qa5 (l:=ls) (j:=i) (d:=0) (by rw [← Hn.out];exact hin));have b3:(0:Int)≤(i:Int):=by omega
     have b4:(i:Int) < (n:Int):=by omega
     generalize ls.getD i 0=z at *;by_cases hz:z∈rs
     ·have hzd:decide (z∈rs)=true:=by simpa using hz
      rw [hzd];clear hzd x0;go_wp2_with fail;go_roundw
      case rel=>exact ⟨i+1,rs,by omega,by rw [← Hm.out];omega,by go_num,by rw [← Hm.out];exact HO1,HG1,HM,HD⟩
      case measure=>simp [intOf];omega
     ·have hzd:decide (z∈rs)=false:=by simpa using hz
      rw [hzd];have HZ:=Lib.hid hz;have hBw:W.heap.size≤wi.heap.size:=HG1.out.size;clear hzd hz;go_upto_region 4 with (at_builtin;refine Qbp W.heap.size rfl _ _ 49 rfl 3 i1 _ 8 Tryz.underlying49 hi1 hy0 hy1 hy2 rfl (.slice oa m oc) m (rs.map (Value.int .i64)) rfl (Qab HO1.out (Flow.grow_alloc wi (.cells #[.int .i64 z] 3))) (by simp;omega) _ (.int .i64 z) 3 rfl (heap_alloc_new _ _) rfl (by omega) (by decide) ?_;intro g' c' w' h1 h2 h3;have HO2:=Lib.hid h1;have HG2:=Lib.hid (Qap (HG1.out.trans (Flow.grow_alloc wi (.cells #[.int .i64 z] 3))) h2 (fun b e=>(HO1.out.lt b e).1));clear h1 h2 h3);clear x0;go_wp2_with fail;go_roundw
      case rel =>
       refine ⟨i+1,rs++[z],by omega,by rw [List.length_append,← Hm.out];simp;omega,by go_num,?_,HG2,Lib.hid (fun x hx=>?_),Lib.hid ?_⟩
       ·rw [List.length_append,← Hm.out,List.map_append];exact HO2
       ·rcases List.mem_append.1 hx with h | h
        ·exact HM.out x h
        ·rw [List.mem_singleton.1 h];exact HMi.out
       ·rw [List.nodup_append];exact ⟨HD.out,by simp,fun x hx y hy e=>by rw [List.mem_singleton] at hy;subst hy;subst e;exact HZ.out hx⟩
      case measure=>simp [intOf];omega
  ·obtain rfl:n=i:=by omega
   go_wp2_with fail;go_ret;exact ⟨⟨_,rs,rfl,by rw [← Hm.out];exact HO.out,HM.out,HD.out⟩,HG.out⟩
end Go.Proofs.YtcpodmjcgfgmnaaGreat
