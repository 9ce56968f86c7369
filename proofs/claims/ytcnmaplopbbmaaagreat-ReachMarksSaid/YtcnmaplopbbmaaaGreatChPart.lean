/- galliardref08's maker.part by contract. -/
import Derived.Test.YtcnmaplopbbmaaaGreatChTask
namespace Go.Proofs.YtcnmaplopbbmaaaGreat
open Go.RowKit
theorem part_res (tmps:Array Value) (w:World) (X:Nat) (c0 c1 c2 c3 c4 c5 c6 c7 u:Value) (h1:tmps.getD 6 undef=u) (h2:tmps.getD 7 undef=.pointer (some ⟨X,0,none⟩)) (hx:w.heap[X]? = some (.cells #[c0,c1,c2,c3,c4,c5,c6,c7] 86 (0,0))) :
  (results Tryz.f43 tmps).run Tryz.prog w=.ok (.tuple #[u,.agg #[c0,c1,c2,c3,c4,c5,c6,c7]]) w:=by
 obtain ⟨x0,x1,x2,x3,x4,x5,x6,x7,_⟩:=m8_cells hx
 simp only [Array.getD_eq_getD_getElem?] at h1 h2
 simp [results,Tryz.results43,h1,h2,x0,x1,x2,x3,x4,x5,x6,x7,go_sem]
namespace Ch
theorem taskT_n (c:Cx) (m:Mk) (x:Nat):(taskT c m x).2.n≤m.n+3∧(taskT c m x).2.seqs=m.seqs:=by
 unfold taskT
 dsimp only
 split <;> exact ⟨by simp only [Mk.named,Mk.flow,Mk.item];omega,rfl⟩
structure Room (m:Mk) (k:Nat):Prop where
 at_:m.at_+2 * k≤10000
 n:m.n+10 * k≤10000
 flows:m.flows.length+2 * k≤10000
 items:m.items.length+3 * k≤10000
 seqs:m.seqs.length+5 * k≤10000
theorem partT_leaf (c:Cx) (d:Nat) (a:S) (m:Mk) (h:d=0∨pick c.p m.at_ % 8 < 3∨9 < m.items.length):partT c d a m=leafT c m.next a (pick c.p m.at_):=by
 cases d with
 | zero=>rfl
 | succ d =>
  rw [partT,if_pos]
  rcases h with h | h
  ·omega
  ·exact h
def PartPost (c:Cx) (d:Nat) (a:S) (m:Mk) (vp va:Value) (W:World) (e:Ending) (w':World):Prop :=
 ∃ vf' vi' vs',e=.returned (.tuple #[.string (partT c d a m).1,.agg (mc c (partT c d a m).2 vp va vf' vi' vs')])∧MkAt w' c (partT c d a m).2 vp va vf' vi' vs'∧Flow.Grow W w'
end Ch
set_option maxRecDepth 100000 in
set_option maxHeartbeats 16000000 in
theorem part_step (c:Ch.Cx) (d:Nat) (hpa:2≤c.parts.length∧c.parts.length≤4) (hc:c.pre.size≤1000) (hp:c.p.length≤9223372036854775807)
  (HRec:∀ d',d=d'+1→∀ (m:Ch.Mk) (a:ByteArray) (vp va vf vi vs:Value) (W:World),Ch.Room m (2 ^ d')→Ch.MkAt W c m vp va vf vi vs→Calls Tryz.prog 43 #[.agg (Ch.mc c m vp va vf vi vs),.string a,.int .i64 (d':Int)] W fun e w'=>Ch.PartPost c d' a m vp va W e w')
  (m:Ch.Mk) (a:ByteArray) (vp va vf vi vs:Value) (W:World) (hR:Ch.Room m (2 ^ d)) (hd:d≤10) (h:Ch.MkAt W c m vp va vf vi vs) :
  Calls Tryz.prog 43 #[.agg (Ch.mc c m vp va vf vi vs),.string a,.int .i64 (d:Int)] W fun e w'=>Ch.PartPost c d a m vp va W e w':=by
 have H:=Lib.hid h
 have h2d:1≤2 ^ d:=Nat.one_le_two_pow
 obtain ⟨r1,r2,r3,r4,r5⟩:=hR
 obtain ⟨p0,p1,a0,a1,f0,f1,i0,i1,s0,s1,rfl,rfl,rfl,rfl,rfl⟩:=h.forms
 clear h
 have HNx:=Lib.hid fun w (g:Flow.Grow W w)=>next_any c m (.slice p0 c.p.length p1) (.slice a0 c.parts.length a1) (.slice f0 m.flows.length f1) (.slice i0 m.items.length i1) (.slice s0 m.seqs.length s1) w (by omega) hp (H.out.grow g)
 obtain ⟨pk,hpk⟩:∃ k,k=Ch.pick c.p m.at_:=⟨_,rfl⟩
 have Hpk:=Lib.hid hpk
 have hpl:pk < 16777216:=by rw [hpk];exact Ch.pick_lt _ _
 rw [← hpk] at HNx
 clear hpk
 obtain ⟨K1,hK1⟩:∃ K,K=m.next:=⟨_,rfl⟩
 rw [← hK1] at HNx
 have HK1:=Lib.hid hK1
 have HM1:Hid (∀ w,Flow.Grow W w→Ch.MkAt w c K1 (.slice p0 c.p.length p1) (.slice a0 c.parts.length a1) (.slice f0 K1.flows.length f1) (.slice i0 K1.items.length i1) (.slice s0 K1.seqs.length s1)):=Lib.hid fun w g=>by
  rw [hK1]
  exact ⟨(H.out.grow g).p,(H.out.grow g).parts,(H.out.grow g).flows,(H.out.grow g).items,(H.out.grow g).seqs⟩
 have b1:K1.n=m.n∧K1.flows.length=m.flows.length∧K1.items.length=m.items.length∧K1.seqs.length=m.seqs.length∧K1.at_=m.at_+1:=by rw [hK1];exact ⟨rfl,rfl,rfl,rfl,rfl⟩
 obtain ⟨b11,b12,b13,b14,b15⟩:=b1
 rw [show m.flows.length=K1.flows.length from b12.symm,show m.items.length=K1.items.length from b13.symm,show m.seqs.length=K1.seqs.length from b14.symm] at HNx ⊢
 rw [show (m.n:Nat)=K1.n from b11.symm] at r2
 rw [← b12] at r3
 rw [← b13] at r4
 rw [← b14] at r5
 have HB1:=Lib.hid (And.intro b11 b15)
 clear hK1 b11 b12 b13 b14 b15
 obtain ⟨kk,hkk⟩:∃ k,k=pk % 8:=⟨_,rfl⟩
 have Hkk:=Lib.hid hkk
 have q8:(pk:Int).tmod 8=(kk:Int):=by rw [hkk];exact (Int.ofNat_tmod pk 8).symm
 have hkk8:kk < 8:=by rw [hkk];exact Nat.mod_lt _ (by decide)
 clear hkk
 simp only [Ch.mc] at HNx ⊢
 go_enter Tryz.func43,Tryz.ntmps43
 go_upto_region 1 with fail
 have HBw10:Hid (((W.alloc (.cells #[.slice p0 c.p.length p1,.int .i64 (m.at_:Int),.int .i64 (m.n:Int),.slice a0 c.parts.length a1,.slice f0 K1.flows.length f1,.slice i0 K1.items.length i1,.slice s0 K1.seqs.length s1,.string c.pre] 86)).alloc (.cells #[.slice none 0 0,.int .i64 0,.int .i64 0,.slice none 0 0,.slice none 0 0,.slice none 0 0,.slice none 0 0,.string ⟨#[]⟩] 86)).heap[W.heap.size]? = some (.cells #[.slice p0 c.p.length p1,.int .i64 (m.at_:Int),.int .i64 (m.n:Int),.slice a0 c.parts.length a1,.slice f0 K1.flows.length f1,.slice i0 K1.items.length i1,.slice s0 K1.seqs.length s1,.string c.pre] 86 (0,0))):=Lib.hid (lay2_0 _ _ _)
 have HBw11:Hid (((W.alloc (.cells #[.slice p0 c.p.length p1,.int .i64 (m.at_:Int),.int .i64 (m.n:Int),.slice a0 c.parts.length a1,.slice f0 K1.flows.length f1,.slice i0 K1.items.length i1,.slice s0 K1.seqs.length s1,.string c.pre] 86)).alloc (.cells #[.slice none 0 0,.int .i64 0,.int .i64 0,.slice none 0 0,.slice none 0 0,.slice none 0 0,.slice none 0 0,.string ⟨#[]⟩] 86)).heap[W.heap.size+1]? = some (.cells #[.slice none 0 0,.int .i64 0,.int .i64 0,.slice none 0 0,.slice none 0 0,.slice none 0 0,.slice none 0 0,.string ⟨#[]⟩] 86 (0,0))):=Lib.hid (lay2_1 _ _ _)
 have HGw1:Hid (Flow.Grow W ((W.alloc (.cells #[.slice p0 c.p.length p1,.int .i64 (m.at_:Int),.int .i64 (m.n:Int),.slice a0 c.parts.length a1,.slice f0 K1.flows.length f1,.slice i0 K1.items.length i1,.slice s0 K1.seqs.length s1,.string c.pre] 86)).alloc (.cells #[.slice none 0 0,.int .i64 0,.int .i64 0,.slice none 0 0,.slice none 0 0,.slice none 0 0,.slice none 0 0,.string ⟨#[]⟩] 86))):=Lib.hid (lay2_g _ _ _)
 have HSw1:Hid (((W.alloc (.cells #[.slice p0 c.p.length p1,.int .i64 (m.at_:Int),.int .i64 (m.n:Int),.slice a0 c.parts.length a1,.slice f0 K1.flows.length f1,.slice i0 K1.items.length i1,.slice s0 K1.seqs.length s1,.string c.pre] 86)).alloc (.cells #[.slice none 0 0,.int .i64 0,.int .i64 0,.slice none 0 0,.slice none 0 0,.slice none 0 0,.slice none 0 0,.string ⟨#[]⟩] 86)).heap.size=W.heap.size+1+1):=Lib.hid (by simp)
 generalize (W.alloc (.cells #[.slice p0 c.p.length p1,.int .i64 (m.at_:Int),.int .i64 (m.n:Int),.slice a0 c.parts.length a1,.slice f0 K1.flows.length f1,.slice i0 K1.items.length i1,.slice s0 K1.seqs.length s1,.string c.pre] 86)).alloc (.cells #[.slice none 0 0,.int .i64 0,.int .i64 0,.slice none 0 0,.slice none 0 0,.slice none 0 0,.slice none 0 0,.string ⟨#[]⟩] 86)=w1 at *
 obtain ⟨X,hX⟩:∃ X,X=W.heap.size:=⟨_,rfl⟩
 rw [← hX] at HBw10 HBw11 HSw1 ⊢
 have HXw1:=Lib.hid hX
 clear hX
 have CXw1:Hid (∀ wq,Flow.Grow w1 wq→wq.cell? ⟨X,0,none⟩=some (.slice p0 c.p.length p1)∧wq.cell? ⟨X,1,none⟩=some (.int .i64 (m.at_:Int))∧wq.cell? ⟨X,2,none⟩=some (.int .i64 (m.n:Int))∧wq.cell? ⟨X,3,none⟩=some (.slice a0 c.parts.length a1)∧wq.cell? ⟨X,4,none⟩=some (.slice f0 K1.flows.length f1)∧wq.cell? ⟨X,5,none⟩=some (.slice i0 K1.items.length i1)∧wq.cell? ⟨X,6,none⟩=some (.slice s0 K1.seqs.length s1)∧wq.cell? ⟨X,7,none⟩=some (.string c.pre)∧wq.cell? ⟨X+1,0,none⟩=some (.slice none 0 0)∧wq.cell? ⟨X+1,1,none⟩=some (.int .i64 0)∧wq.cell? ⟨X+1,2,none⟩=some (.int .i64 0)∧wq.cell? ⟨X+1,3,none⟩=some (.slice none 0 0)∧wq.cell? ⟨X+1,4,none⟩=some (.slice none 0 0)∧wq.cell? ⟨X+1,5,none⟩=some (.slice none 0 0)∧wq.cell? ⟨X+1,6,none⟩=some (.slice none 0 0)∧wq.cell? ⟨X+1,7,none⟩=some (.string ⟨#[]⟩)):=Lib.hid (fun wq g=>⟨lay_cell g HBw10.out rfl,lay_cell g HBw10.out rfl,lay_cell g HBw10.out rfl,lay_cell g HBw10.out rfl,lay_cell g HBw10.out rfl,lay_cell g HBw10.out rfl,lay_cell g HBw10.out rfl,lay_cell g HBw10.out rfl,lay_cell g HBw11.out rfl,lay_cell g HBw11.out rfl,lay_cell g HBw11.out rfl,lay_cell g HBw11.out rfl,lay_cell g HBw11.out rfl,lay_cell g HBw11.out rfl,lay_cell g HBw11.out rfl,lay_cell g HBw11.out rfl⟩)
 have FXw1:Hid (∀ wq,Flow.Grow w1 wq→(∀ k,wq.frozen? ⟨X,k,none⟩=false)∧(∀ k,wq.frozen? ⟨X+1,k,none⟩=false)):=Lib.hid (fun wq g=>⟨fun k=>lay_frozen g HBw10.out k,fun k=>lay_frozen g HBw11.out k⟩)
 have hX:W.heap.size≤X:=by rw [HXw1.out];exact Nat.le_refl _
 obtain ⟨x0,x1,x2,x3,x4,x5,x6,x7,xf⟩:=m8_cells HBw10.out
 go_upto_region 3 with (go_at_call 65;refine (HNx.out _ HGw1.out).mono ?_;rintro e w2 ⟨rfl,hg⟩;have HG2:=Lib.hid (HGw1.out.trans hg);have hb2:=heap_keep hg HBw10.out;have hz2:=heap_keep hg HBw11.out;obtain ⟨y0,y1,y2,y3,y4,y5,y6,y7,yf⟩:=m8_cells hb2;clear hg)
 clear x0 x1 x2 x3 x4 x5 x6 x7 xf y0 y1 y2 y3 y4 y5 y6 y7 yf
 have HBw3:=Lib.hid (m8_set (w:=w2) (X:=X) (.slice p0 c.p.length p1) (.int .i64 ((K1.at_:Nat):Int)) (.int .i64 ((K1.n:Nat):Int)) (.slice a0 c.parts.length a1) (.slice f0 K1.flows.length f1) (.slice i0 K1.items.length i1) (.slice s0 K1.seqs.length s1) (.string c.pre) hb2)
 have HGw3:=Lib.hid (m8_grow (w:=w2) (X:=X) (HG2.out) (hX) (.slice p0 c.p.length p1) (.int .i64 ((K1.at_:Nat):Int)) (.int .i64 ((K1.n:Nat):Int)) (.slice a0 c.parts.length a1) (.slice f0 K1.flows.length f1) (.slice i0 K1.items.length i1) (.slice s0 K1.seqs.length s1) (.string c.pre))
 have HZ3:=Lib.hid (m8_other (w:=w2) (X:=X) (.slice p0 c.p.length p1) (.int .i64 ((K1.at_:Nat):Int)) (.int .i64 ((K1.n:Nat):Int)) (.slice a0 c.parts.length a1) (.slice f0 K1.flows.length f1) (.slice i0 K1.items.length i1) (.slice s0 K1.seqs.length s1) (.string c.pre) (hz2) (by omega))
 rw [show (((((((w2.setCell ⟨X,0,none⟩ (.slice p0 c.p.length p1)).setCell ⟨X,1,none⟩ (.int .i64 ((K1.at_:Nat):Int))).setCell ⟨X,2,none⟩ (.int .i64 ((K1.n:Nat):Int))).setCell ⟨X,3,none⟩ (.slice a0 c.parts.length a1)).setCell ⟨X,4,none⟩ (.slice f0 K1.flows.length f1)).setCell ⟨X,5,none⟩ (.slice i0 K1.items.length i1)).setCell ⟨X,6,none⟩ (.slice s0 K1.seqs.length s1)).setCell ⟨X,7,none⟩ (.string c.pre)=(((((((w2.setCell ⟨X,0,none⟩ (.slice p0 c.p.length p1)).setCell ⟨X,1,none⟩ (.int .i64 ((K1.at_:Nat):Int))).setCell ⟨X,2,none⟩ (.int .i64 ((K1.n:Nat):Int))).setCell ⟨X,3,none⟩ (.slice a0 c.parts.length a1)).setCell ⟨X,4,none⟩ (.slice f0 K1.flows.length f1)).setCell ⟨X,5,none⟩ (.slice i0 K1.items.length i1)).setCell ⟨X,6,none⟩ (.slice s0 K1.seqs.length s1)).setCell ⟨X,7,none⟩ (.string c.pre) from rfl]
 generalize (((((((w2.setCell ⟨X,0,none⟩ (.slice p0 c.p.length p1)).setCell ⟨X,1,none⟩ (.int .i64 ((K1.at_:Nat):Int))).setCell ⟨X,2,none⟩ (.int .i64 ((K1.n:Nat):Int))).setCell ⟨X,3,none⟩ (.slice a0 c.parts.length a1)).setCell ⟨X,4,none⟩ (.slice f0 K1.flows.length f1)).setCell ⟨X,5,none⟩ (.slice i0 K1.items.length i1)).setCell ⟨X,6,none⟩ (.slice s0 K1.seqs.length s1)).setCell ⟨X,7,none⟩ (.string c.pre)=w3 at *
 clear hb2 hz2 HG2 HNx
 have HMw3:=Lib.hid (HM1.out w3 HGw3.out)
 go_upto_region 4 with fail
 generalize hv:(pk:Int) % 8=vk
 obtain rfl:vk=(kk:Int):=by rw [← hv];have:=Hkk.out;omega
 clear hv q8
 obtain ⟨x0,x1,x2,x3,x4,x5,x6,x7,xf⟩:=m8_cells HBw3.out
 by_cases hd0:d=0
 ·have d0:((d:Int) == 0)=true:=by simp;omega
  have hleaf:d=0∨Ch.pick c.p m.at_ % 8 < 3∨9 < m.items.length:=.inl hd0
  have e8':((pk / 8:Nat):Int)=(pk:Int) / 8:=by omega
  have HTk:Hid (∀ w,Ch.MkAt w c K1 (.slice p0 c.p.length p1) (.slice a0 c.parts.length a1) (.slice f0 K1.flows.length f1) (.slice i0 K1.items.length i1) (.slice s0 K1.seqs.length s1)→Calls Tryz.prog 66 #[.agg (Ch.mc c K1 (.slice p0 c.p.length p1) (.slice a0 c.parts.length a1) (.slice f0 K1.flows.length f1) (.slice i0 K1.items.length i1) (.slice s0 K1.seqs.length s1)),.int .i64 ((pk:Int) / 8)] w fun e w'=>∃ vf' vi',e=.returned (.tuple #[.string (Ch.taskT c K1 (pk / 8)).1,.agg (Ch.mc c (Ch.taskT c K1 (pk / 8)).2 (.slice p0 c.p.length p1) (.slice a0 c.parts.length a1) vf' vi' (.slice s0 K1.seqs.length s1))])∧Ch.MkAt w' c (Ch.taskT c K1 (pk / 8)).2 (.slice p0 c.p.length p1) (.slice a0 c.parts.length a1) vf' vi' (.slice s0 K1.seqs.length s1)∧Flow.Grow w w'):=Lib.hid fun w hm=>by
   have k:=task08_any c K1 (pk / 8) _ _ _ _ _ w (by omega) (by omega) (by omega) (by omega) hpa hc hm
   rw [e8'] at k
   exact k
  clear e8'
  obtain ⟨T,hT⟩:∃ T,T=Ch.taskT c K1 (pk / 8):=⟨_,rfl⟩
  rw [← hT] at HTk
  have HT:=Lib.hid hT
  have hTn:T.2.n≤K1.n+3∧T.2.seqs=K1.seqs:=by rw [hT];exact Ch.taskT_n c K1 (pk / 8)
  have HLf:Hid (Ch.partT c d a m=(T.1,Ch.seqT c T.2 a T.1)):=Lib.hid (by
   rw [Ch.partT_leaf c d a m hleaf,hT,HK1.out,Hpk.out]
   rfl)
  obtain ⟨hTn1,hTn2⟩:=hTn
  have HTn1:=Lib.hid hTn1
  have HTn2:=Lib.hid hTn2
  have HRm:=Lib.hid (And.intro r1 (And.intro r2 (And.intro r3 (And.intro r4 (And.intro r5 h2d)))))
  clear hT hleaf r1 r2 r3 r4 r5 h2d hTn1
  clear hTn2
  simp only [Ch.mc] at HTk
  go_upto_region 6 with (go_at_call 66;refine (HTk.out _ HMw3.out).mono ?_;rintro e w4 ⟨vf',vi',rfl,hm,hg⟩;obtain ⟨g0,g1,j0,j1,t0,t1,e1,e2,e3⟩:=hm.forms3;have HM4:=Lib.hid hm;have HG4:=Lib.hid (HGw3.out.trans hg);have HZ4:=Lib.hid (heap_keep hg HZ3.out);subst e1 e2;clear e3 hm hg)
  clear x0 x1 x2 x3 x4 x5 x6 x7 xf
  have HBw50:Hid ((w4.alloc (.cells #[.slice p0 c.p.length p1,.int .i64 ((T.2.at_:Nat):Int),.int .i64 ((T.2.n:Nat):Int),.slice a0 c.parts.length a1,.slice g0 T.2.flows.length g1,.slice j0 T.2.items.length j1,.slice s0 K1.seqs.length s1,.string c.pre] 86)).heap[w4.heap.size]? = some (.cells #[.slice p0 c.p.length p1,.int .i64 ((T.2.at_:Nat):Int),.int .i64 ((T.2.n:Nat):Int),.slice a0 c.parts.length a1,.slice g0 T.2.flows.length g1,.slice j0 T.2.items.length j1,.slice s0 K1.seqs.length s1,.string c.pre] 86 (0,0))):=Lib.hid (lay1_0 _ _)
  have HGw5:Hid (Flow.Grow w4 (w4.alloc (.cells #[.slice p0 c.p.length p1,.int .i64 ((T.2.at_:Nat):Int),.int .i64 ((T.2.n:Nat):Int),.slice a0 c.parts.length a1,.slice g0 T.2.flows.length g1,.slice j0 T.2.items.length j1,.slice s0 K1.seqs.length s1,.string c.pre] 86))):=Lib.hid (lay1_g _ _)
  have HSw5:Hid ((w4.alloc (.cells #[.slice p0 c.p.length p1,.int .i64 ((T.2.at_:Nat):Int),.int .i64 ((T.2.n:Nat):Int),.slice a0 c.parts.length a1,.slice g0 T.2.flows.length g1,.slice j0 T.2.items.length j1,.slice s0 K1.seqs.length s1,.string c.pre] 86)).heap.size=w4.heap.size+1):=Lib.hid (by simp)
  generalize w4.alloc (.cells #[.slice p0 c.p.length p1,.int .i64 ((T.2.at_:Nat):Int),.int .i64 ((T.2.n:Nat):Int),.slice a0 c.parts.length a1,.slice g0 T.2.flows.length g1,.slice j0 T.2.items.length j1,.slice s0 K1.seqs.length s1,.string c.pre] 86)=w5 at *
  obtain ⟨Y,hY⟩:∃ X,X=w4.heap.size:=⟨_,rfl⟩
  rw [← hY] at HBw50 HSw5 ⊢
  have HXw5:=Lib.hid hY
  clear hY
  have CXw5:Hid (∀ wq,Flow.Grow w5 wq→wq.cell? ⟨Y,0,none⟩=some (.slice p0 c.p.length p1)∧wq.cell? ⟨Y,1,none⟩=some (.int .i64 ((T.2.at_:Nat):Int))∧wq.cell? ⟨Y,2,none⟩=some (.int .i64 ((T.2.n:Nat):Int))∧wq.cell? ⟨Y,3,none⟩=some (.slice a0 c.parts.length a1)∧wq.cell? ⟨Y,4,none⟩=some (.slice g0 T.2.flows.length g1)∧wq.cell? ⟨Y,5,none⟩=some (.slice j0 T.2.items.length j1)∧wq.cell? ⟨Y,6,none⟩=some (.slice s0 K1.seqs.length s1)∧wq.cell? ⟨Y,7,none⟩=some (.string c.pre)):=Lib.hid (fun wq g=>⟨lay_cell g HBw50.out rfl,lay_cell g HBw50.out rfl,lay_cell g HBw50.out rfl,lay_cell g HBw50.out rfl,lay_cell g HBw50.out rfl,lay_cell g HBw50.out rfl,lay_cell g HBw50.out rfl,lay_cell g HBw50.out rfl⟩)
  have FXw5:Hid (∀ wq,Flow.Grow w5 wq→(∀ k,wq.frozen? ⟨Y,k,none⟩=false)):=Lib.hid (fun wq g=>fun k=>lay_frozen g HBw50.out k)
  have HM5:=Lib.hid (HM4.out.grow HGw5.out)
  have HG5:=Lib.hid (HG4.out.trans HGw5.out)
  have HZ5:=Lib.hid (heap_keep HGw5.out HZ4.out)
  have HSq:=Lib.hid (seq_any c T.2 a T.1 _ _ _ _ _ w5 (by have h1:=HTn1.out;have h2:=HRm.out.2.1;omega) (by have h1:=HTn2.out;have h2:=HRm.out.2.2.2.2.1;rw [h1];omega) hc HM5.out)
  simp only [Ch.mc] at HSq
  obtain ⟨x0,x1,x2,x3,x4,x5,x6,x7,xf⟩:=m8_cells HBw50.out
  obtain ⟨K3,hK3⟩:∃ K,K=Ch.seqT c T.2 a T.1:=⟨_,rfl⟩
  rw [← hK3] at HSq HLf
  clear hK3
  go_wp2_with (go_at_call 44;refine HSq.out.mono ?_;rintro e w6 ⟨vs',rfl,hm,hg⟩;obtain ⟨n0,n1,n2,n3,t0,t1,e4,e5,e3⟩:=hm.forms3;have HM6:=Lib.hid hm;have HG6:=Lib.hid (HG5.out.trans hg);have HZ6:=Lib.hid (heap_keep hg HZ5.out);subst e3;obtain ⟨y0,y1,y2,y3,y4,y5,y6,y7,yf⟩:=m8_cells HZ6.out;clear e4 e5 hm hg)
  have hX1:W.heap.size≤X+1:=by omega
  refine bodyPost_ret (part_res _ _ (X+1) _ _ _ _ _ _ _ _ _ rfl rfl (m8_set _ _ _ _ _ _ _ _ HZ6.out)) rfl ?_
  unfold Ch.PartPost
  rw [HLf.out]
  exact ⟨_,_,_,rfl,HM6.out.ty (TY.blk HZ6.out) (m8_by w6 (X+1) _ _ _ _ _ _ _ _) (H.out.grow (m8_grow (w:=w6) (X:=X+1) HG6.out hX1 _ _ _ _ _ _ _ _)).p (by decide) (by decide) (by decide) (by decide) (by decide),m8_grow (w:=w6) (X:=X+1) HG6.out hX1 _ _ _ _ _ _ _ _⟩
 ·have d0:((d:Int) == 0)=false:=by simp;omega
  by_cases hk3:kk < 3
  ·have d1:decide ((kk:Int) < 3)=true:=by simp;omega
   have hleaf:d=0∨Ch.pick c.p m.at_ % 8 < 3∨9 < m.items.length:=.inr (.inl (by rw [← Hpk.out,← Hkk.out];exact hk3))
   have e8':((pk / 8:Nat):Int)=(pk:Int) / 8:=by omega
   have HTk:Hid (∀ w,Ch.MkAt w c K1 (.slice p0 c.p.length p1) (.slice a0 c.parts.length a1) (.slice f0 K1.flows.length f1) (.slice i0 K1.items.length i1) (.slice s0 K1.seqs.length s1)→Calls Tryz.prog 66 #[.agg (Ch.mc c K1 (.slice p0 c.p.length p1) (.slice a0 c.parts.length a1) (.slice f0 K1.flows.length f1) (.slice i0 K1.items.length i1) (.slice s0 K1.seqs.length s1)),.int .i64 ((pk:Int) / 8)] w fun e w'=>∃ vf' vi',e=.returned (.tuple #[.string (Ch.taskT c K1 (pk / 8)).1,.agg (Ch.mc c (Ch.taskT c K1 (pk / 8)).2 (.slice p0 c.p.length p1) (.slice a0 c.parts.length a1) vf' vi' (.slice s0 K1.seqs.length s1))])∧Ch.MkAt w' c (Ch.taskT c K1 (pk / 8)).2 (.slice p0 c.p.length p1) (.slice a0 c.parts.length a1) vf' vi' (.slice s0 K1.seqs.length s1)∧Flow.Grow w w'):=Lib.hid fun w hm=>by
    have k:=task08_any c K1 (pk / 8) _ _ _ _ _ w (by omega) (by omega) (by omega) (by omega) hpa hc hm
    rw [e8'] at k
    exact k
   clear e8'
   obtain ⟨T,hT⟩:∃ T,T=Ch.taskT c K1 (pk / 8):=⟨_,rfl⟩
   rw [← hT] at HTk
   have HT:=Lib.hid hT
   have hTn:T.2.n≤K1.n+3∧T.2.seqs=K1.seqs:=by rw [hT];exact Ch.taskT_n c K1 (pk / 8)
   have HLf:Hid (Ch.partT c d a m=(T.1,Ch.seqT c T.2 a T.1)):=Lib.hid (by
    rw [Ch.partT_leaf c d a m hleaf,hT,HK1.out,Hpk.out]
    rfl)
   obtain ⟨hTn1,hTn2⟩:=hTn
   have HTn1:=Lib.hid hTn1
   have HTn2:=Lib.hid hTn2
   have HRm:=Lib.hid (And.intro r1 (And.intro r2 (And.intro r3 (And.intro r4 (And.intro r5 h2d)))))
   clear hT hleaf r1 r2 r3 r4 r5 h2d hTn1
   clear hTn2
   simp only [Ch.mc] at HTk
   go_upto_region 6 with (go_at_call 66;refine (HTk.out _ HMw3.out).mono ?_;rintro e w4 ⟨vf',vi',rfl,hm,hg⟩;obtain ⟨g0,g1,j0,j1,t0,t1,e1,e2,e3⟩:=hm.forms3;have HM4:=Lib.hid hm;have HG4:=Lib.hid (HGw3.out.trans hg);have HZ4:=Lib.hid (heap_keep hg HZ3.out);subst e1 e2;clear e3 hm hg)
   clear x0 x1 x2 x3 x4 x5 x6 x7 xf
   have HBw50:Hid ((w4.alloc (.cells #[.slice p0 c.p.length p1,.int .i64 ((T.2.at_:Nat):Int),.int .i64 ((T.2.n:Nat):Int),.slice a0 c.parts.length a1,.slice g0 T.2.flows.length g1,.slice j0 T.2.items.length j1,.slice s0 K1.seqs.length s1,.string c.pre] 86)).heap[w4.heap.size]? = some (.cells #[.slice p0 c.p.length p1,.int .i64 ((T.2.at_:Nat):Int),.int .i64 ((T.2.n:Nat):Int),.slice a0 c.parts.length a1,.slice g0 T.2.flows.length g1,.slice j0 T.2.items.length j1,.slice s0 K1.seqs.length s1,.string c.pre] 86 (0,0))):=Lib.hid (lay1_0 _ _)
   have HGw5:Hid (Flow.Grow w4 (w4.alloc (.cells #[.slice p0 c.p.length p1,.int .i64 ((T.2.at_:Nat):Int),.int .i64 ((T.2.n:Nat):Int),.slice a0 c.parts.length a1,.slice g0 T.2.flows.length g1,.slice j0 T.2.items.length j1,.slice s0 K1.seqs.length s1,.string c.pre] 86))):=Lib.hid (lay1_g _ _)
   have HSw5:Hid ((w4.alloc (.cells #[.slice p0 c.p.length p1,.int .i64 ((T.2.at_:Nat):Int),.int .i64 ((T.2.n:Nat):Int),.slice a0 c.parts.length a1,.slice g0 T.2.flows.length g1,.slice j0 T.2.items.length j1,.slice s0 K1.seqs.length s1,.string c.pre] 86)).heap.size=w4.heap.size+1):=Lib.hid (by simp)
   generalize w4.alloc (.cells #[.slice p0 c.p.length p1,.int .i64 ((T.2.at_:Nat):Int),.int .i64 ((T.2.n:Nat):Int),.slice a0 c.parts.length a1,.slice g0 T.2.flows.length g1,.slice j0 T.2.items.length j1,.slice s0 K1.seqs.length s1,.string c.pre] 86)=w5 at *
   obtain ⟨Y,hY⟩:∃ X,X=w4.heap.size:=⟨_,rfl⟩
   rw [← hY] at HBw50 HSw5 ⊢
   have HXw5:=Lib.hid hY
   clear hY
   have CXw5:Hid (∀ wq,Flow.Grow w5 wq→wq.cell? ⟨Y,0,none⟩=some (.slice p0 c.p.length p1)∧wq.cell? ⟨Y,1,none⟩=some (.int .i64 ((T.2.at_:Nat):Int))∧wq.cell? ⟨Y,2,none⟩=some (.int .i64 ((T.2.n:Nat):Int))∧wq.cell? ⟨Y,3,none⟩=some (.slice a0 c.parts.length a1)∧wq.cell? ⟨Y,4,none⟩=some (.slice g0 T.2.flows.length g1)∧wq.cell? ⟨Y,5,none⟩=some (.slice j0 T.2.items.length j1)∧wq.cell? ⟨Y,6,none⟩=some (.slice s0 K1.seqs.length s1)∧wq.cell? ⟨Y,7,none⟩=some (.string c.pre)):=Lib.hid (fun wq g=>⟨lay_cell g HBw50.out rfl,lay_cell g HBw50.out rfl,lay_cell g HBw50.out rfl,lay_cell g HBw50.out rfl,lay_cell g HBw50.out rfl,lay_cell g HBw50.out rfl,lay_cell g HBw50.out rfl,lay_cell g HBw50.out rfl⟩)
   have FXw5:Hid (∀ wq,Flow.Grow w5 wq→(∀ k,wq.frozen? ⟨Y,k,none⟩=false)):=Lib.hid (fun wq g=>fun k=>lay_frozen g HBw50.out k)
   have HM5:=Lib.hid (HM4.out.grow HGw5.out)
   have HG5:=Lib.hid (HG4.out.trans HGw5.out)
   have HZ5:=Lib.hid (heap_keep HGw5.out HZ4.out)
   have HSq:=Lib.hid (seq_any c T.2 a T.1 _ _ _ _ _ w5 (by have h1:=HTn1.out;have h2:=HRm.out.2.1;omega) (by have h1:=HTn2.out;have h2:=HRm.out.2.2.2.2.1;rw [h1];omega) hc HM5.out)
   simp only [Ch.mc] at HSq
   obtain ⟨x0,x1,x2,x3,x4,x5,x6,x7,xf⟩:=m8_cells HBw50.out
   obtain ⟨K3,hK3⟩:∃ K,K=Ch.seqT c T.2 a T.1:=⟨_,rfl⟩
   rw [← hK3] at HSq HLf
   clear hK3
   go_wp2_with (go_at_call 44;refine HSq.out.mono ?_;rintro e w6 ⟨vs',rfl,hm,hg⟩;obtain ⟨n0,n1,n2,n3,t0,t1,e4,e5,e3⟩:=hm.forms3;have HM6:=Lib.hid hm;have HG6:=Lib.hid (HG5.out.trans hg);have HZ6:=Lib.hid (heap_keep hg HZ5.out);subst e3;obtain ⟨y0,y1,y2,y3,y4,y5,y6,y7,yf⟩:=m8_cells HZ6.out;clear e4 e5 hm hg)
   have hX1:W.heap.size≤X+1:=by omega
   refine bodyPost_ret (part_res _ _ (X+1) _ _ _ _ _ _ _ _ _ rfl rfl (m8_set _ _ _ _ _ _ _ _ HZ6.out)) rfl ?_
   unfold Ch.PartPost
   rw [HLf.out]
   exact ⟨_,_,_,rfl,HM6.out.ty (TY.blk HZ6.out) (m8_by w6 (X+1) _ _ _ _ _ _ _ _) (H.out.grow (m8_grow (w:=w6) (X:=X+1) HG6.out hX1 _ _ _ _ _ _ _ _)).p (by decide) (by decide) (by decide) (by decide) (by decide),m8_grow (w:=w6) (X:=X+1) HG6.out hX1 _ _ _ _ _ _ _ _⟩
  ·have d1:decide ((kk:Int) < 3)=false:=by simp;omega
   by_cases hi9:9 < K1.items.length
   ·have d2:decide (9 < (K1.items.length:Int))=true:=by simp;omega
    have hleaf:d=0∨Ch.pick c.p m.at_ % 8 < 3∨9 < m.items.length:=.inr (.inr (by have h1:=HK1.out;rw [h1] at hi9;exact hi9))
    have e8':((pk / 8:Nat):Int)=(pk:Int) / 8:=by omega
    have HTk:Hid (∀ w,Ch.MkAt w c K1 (.slice p0 c.p.length p1) (.slice a0 c.parts.length a1) (.slice f0 K1.flows.length f1) (.slice i0 K1.items.length i1) (.slice s0 K1.seqs.length s1)→Calls Tryz.prog 66 #[.agg (Ch.mc c K1 (.slice p0 c.p.length p1) (.slice a0 c.parts.length a1) (.slice f0 K1.flows.length f1) (.slice i0 K1.items.length i1) (.slice s0 K1.seqs.length s1)),.int .i64 ((pk:Int) / 8)] w fun e w'=>∃ vf' vi',e=.returned (.tuple #[.string (Ch.taskT c K1 (pk / 8)).1,.agg (Ch.mc c (Ch.taskT c K1 (pk / 8)).2 (.slice p0 c.p.length p1) (.slice a0 c.parts.length a1) vf' vi' (.slice s0 K1.seqs.length s1))])∧Ch.MkAt w' c (Ch.taskT c K1 (pk / 8)).2 (.slice p0 c.p.length p1) (.slice a0 c.parts.length a1) vf' vi' (.slice s0 K1.seqs.length s1)∧Flow.Grow w w'):=Lib.hid fun w hm=>by
     have k:=task08_any c K1 (pk / 8) _ _ _ _ _ w (by omega) (by omega) (by omega) (by omega) hpa hc hm
     rw [e8'] at k
     exact k
    clear e8'
    obtain ⟨T,hT⟩:∃ T,T=Ch.taskT c K1 (pk / 8):=⟨_,rfl⟩
    rw [← hT] at HTk
    have HT:=Lib.hid hT
    have hTn:T.2.n≤K1.n+3∧T.2.seqs=K1.seqs:=by rw [hT];exact Ch.taskT_n c K1 (pk / 8)
    have HLf:Hid (Ch.partT c d a m=(T.1,Ch.seqT c T.2 a T.1)):=Lib.hid (by
     rw [Ch.partT_leaf c d a m hleaf,hT,HK1.out,Hpk.out]
     rfl)
    obtain ⟨hTn1,hTn2⟩:=hTn
    have HTn1:=Lib.hid hTn1
    have HTn2:=Lib.hid hTn2
    have HRm:=Lib.hid (And.intro r1 (And.intro r2 (And.intro r3 (And.intro r4 (And.intro r5 h2d)))))
    clear hT hleaf r1 r2 r3 r4 r5 h2d hTn1
    clear hTn2
    simp only [Ch.mc] at HTk
    go_upto_region 6 with (go_at_call 66;refine (HTk.out _ HMw3.out).mono ?_;rintro e w4 ⟨vf',vi',rfl,hm,hg⟩;obtain ⟨g0,g1,j0,j1,t0,t1,e1,e2,e3⟩:=hm.forms3;have HM4:=Lib.hid hm;have HG4:=Lib.hid (HGw3.out.trans hg);have HZ4:=Lib.hid (heap_keep hg HZ3.out);subst e1 e2;clear e3 hm hg)
    clear x0 x1 x2 x3 x4 x5 x6 x7 xf
    have HBw50:Hid ((w4.alloc (.cells #[.slice p0 c.p.length p1,.int .i64 ((T.2.at_:Nat):Int),.int .i64 ((T.2.n:Nat):Int),.slice a0 c.parts.length a1,.slice g0 T.2.flows.length g1,.slice j0 T.2.items.length j1,.slice s0 K1.seqs.length s1,.string c.pre] 86)).heap[w4.heap.size]? = some (.cells #[.slice p0 c.p.length p1,.int .i64 ((T.2.at_:Nat):Int),.int .i64 ((T.2.n:Nat):Int),.slice a0 c.parts.length a1,.slice g0 T.2.flows.length g1,.slice j0 T.2.items.length j1,.slice s0 K1.seqs.length s1,.string c.pre] 86 (0,0))):=Lib.hid (lay1_0 _ _)
    have HGw5:Hid (Flow.Grow w4 (w4.alloc (.cells #[.slice p0 c.p.length p1,.int .i64 ((T.2.at_:Nat):Int),.int .i64 ((T.2.n:Nat):Int),.slice a0 c.parts.length a1,.slice g0 T.2.flows.length g1,.slice j0 T.2.items.length j1,.slice s0 K1.seqs.length s1,.string c.pre] 86))):=Lib.hid (lay1_g _ _)
    have HSw5:Hid ((w4.alloc (.cells #[.slice p0 c.p.length p1,.int .i64 ((T.2.at_:Nat):Int),.int .i64 ((T.2.n:Nat):Int),.slice a0 c.parts.length a1,.slice g0 T.2.flows.length g1,.slice j0 T.2.items.length j1,.slice s0 K1.seqs.length s1,.string c.pre] 86)).heap.size=w4.heap.size+1):=Lib.hid (by simp)
    generalize w4.alloc (.cells #[.slice p0 c.p.length p1,.int .i64 ((T.2.at_:Nat):Int),.int .i64 ((T.2.n:Nat):Int),.slice a0 c.parts.length a1,.slice g0 T.2.flows.length g1,.slice j0 T.2.items.length j1,.slice s0 K1.seqs.length s1,.string c.pre] 86)=w5 at *
    obtain ⟨Y,hY⟩:∃ X,X=w4.heap.size:=⟨_,rfl⟩
    rw [← hY] at HBw50 HSw5 ⊢
    have HXw5:=Lib.hid hY
    clear hY
    have CXw5:Hid (∀ wq,Flow.Grow w5 wq→wq.cell? ⟨Y,0,none⟩=some (.slice p0 c.p.length p1)∧wq.cell? ⟨Y,1,none⟩=some (.int .i64 ((T.2.at_:Nat):Int))∧wq.cell? ⟨Y,2,none⟩=some (.int .i64 ((T.2.n:Nat):Int))∧wq.cell? ⟨Y,3,none⟩=some (.slice a0 c.parts.length a1)∧wq.cell? ⟨Y,4,none⟩=some (.slice g0 T.2.flows.length g1)∧wq.cell? ⟨Y,5,none⟩=some (.slice j0 T.2.items.length j1)∧wq.cell? ⟨Y,6,none⟩=some (.slice s0 K1.seqs.length s1)∧wq.cell? ⟨Y,7,none⟩=some (.string c.pre)):=Lib.hid (fun wq g=>⟨lay_cell g HBw50.out rfl,lay_cell g HBw50.out rfl,lay_cell g HBw50.out rfl,lay_cell g HBw50.out rfl,lay_cell g HBw50.out rfl,lay_cell g HBw50.out rfl,lay_cell g HBw50.out rfl,lay_cell g HBw50.out rfl⟩)
    have FXw5:Hid (∀ wq,Flow.Grow w5 wq→(∀ k,wq.frozen? ⟨Y,k,none⟩=false)):=Lib.hid (fun wq g=>fun k=>lay_frozen g HBw50.out k)
    have HM5:=Lib.hid (HM4.out.grow HGw5.out)
    have HG5:=Lib.hid (HG4.out.trans HGw5.out)
    have HZ5:=Lib.hid (heap_keep HGw5.out HZ4.out)
    have HSq:=Lib.hid (seq_any c T.2 a T.1 _ _ _ _ _ w5 (by have h1:=HTn1.out;have h2:=HRm.out.2.1;omega) (by have h1:=HTn2.out;have h2:=HRm.out.2.2.2.2.1;rw [h1];omega) hc HM5.out)
    simp only [Ch.mc] at HSq
    obtain ⟨x0,x1,x2,x3,x4,x5,x6,x7,xf⟩:=m8_cells HBw50.out
    obtain ⟨K3,hK3⟩:∃ K,K=Ch.seqT c T.2 a T.1:=⟨_,rfl⟩
    rw [← hK3] at HSq HLf
    clear hK3
    go_wp2_with (go_at_call 44;refine HSq.out.mono ?_;rintro e w6 ⟨vs',rfl,hm,hg⟩;obtain ⟨n0,n1,n2,n3,t0,t1,e4,e5,e3⟩:=hm.forms3;have HM6:=Lib.hid hm;have HG6:=Lib.hid (HG5.out.trans hg);have HZ6:=Lib.hid (heap_keep hg HZ5.out);subst e3;obtain ⟨y0,y1,y2,y3,y4,y5,y6,y7,yf⟩:=m8_cells HZ6.out;clear e4 e5 hm hg)
    have hX1:W.heap.size≤X+1:=by omega
    refine bodyPost_ret (part_res _ _ (X+1) _ _ _ _ _ _ _ _ _ rfl rfl (m8_set _ _ _ _ _ _ _ _ HZ6.out)) rfl ?_
    unfold Ch.PartPost
    rw [HLf.out]
    exact ⟨_,_,_,rfl,HM6.out.ty (TY.blk HZ6.out) (m8_by w6 (X+1) _ _ _ _ _ _ _ _) (H.out.grow (m8_grow (w:=w6) (X:=X+1) HG6.out hX1 _ _ _ _ _ _ _ _)).p (by decide) (by decide) (by decide) (by decide) (by decide),m8_grow (w:=w6) (X:=X+1) HG6.out hX1 _ _ _ _ _ _ _ _⟩
   ·have d2:decide (9 < (K1.items.length:Int))=false:=by simp;omega
    have HRm:=Lib.hid (And.intro r1 (And.intro r2 (And.intro r3 (And.intro r4 r5))))
    obtain ⟨d',hd'⟩:∃ d',d=d'+1:=⟨d - 1,by omega⟩
    obtain ⟨q,hq⟩:∃ q,q=2 ^ d':=⟨_,rfl⟩
    have hq2:2 ^ d=2 * q:=by rw [hd',Nat.pow_succ,hq,Nat.mul_comm]
    have hq1:1≤q:=by rw [hq];exact Nat.one_le_two_pow
    have hdi:((d':Nat):Int)=(d:Int) - 1:=by omega
    have hRoom1:Ch.Room K1 q:=⟨by have:=HB1.out.2;omega,by omega,by omega,by omega,by omega⟩
    have HNat:=Lib.hid (And.intro hq2 hq1)
    have HRc:=Lib.hid (HRec d' hd')
    rw [← hq,hdi] at HRc
    have Hq:=Lib.hid hq
    have Hd':=Lib.hid hd'
    have HRoom1:=Lib.hid hRoom1
    have Hkd:=Lib.hid (And.intro hd0 (And.intro hk3 hi9))
    clear hd0 hk3 hi9 hq hd' hq2 hq1 hdi hRoom1 r1 r2 r3 r4 r5 h2d
    simp only [Ch.PartPost,Ch.mc] at HRc
    by_cases hk5:kk < 5
    ·obtain ⟨P,hP⟩:∃ P,P=Ch.partT c d' a K1:=⟨_,rfl⟩
     have HP:=Lib.hid hP
     have HR1:=Lib.hid (HRc.out K1 a _ _ _ _ _ w3 HRoom1.out HMw3.out)
     rw [← hP] at HR1
     have HUp:=Lib.hid (Ch.part_up c d' a K1)
     rw [← hP,← Hq.out] at HUp
     have HTwo:Hid (Ch.partT c d a m=Ch.partT c d' P.1 P.2):=Lib.hid (by
      rw [hP,HK1.out,Hd'.out,Ch.partT,if_neg (fun h=>h.elim (fun h=>Hkd.out.2.1 (by rw [Hkk.out,Hpk.out];exact h)) (fun h=>Hkd.out.2.2 (by rw [HK1.out];exact h))),if_pos (by have h3:=Hkk.out;have h4:=Hpk.out;rw [← h4,← h3];exact hk5)])
     clear hP
     have d3:decide ((kk:Int) < 5)=true:=by simp;omega
     go_upto_region 9 with (go_at_call 43;refine HR1.out.mono ?_;rintro e w4 ⟨vf',vi',vs',rfl,hm,hg⟩;obtain ⟨g0,g1,j0,j1,t0,t1,e1,e2,e3⟩:=hm.forms3;have HM4:=Lib.hid hm;have HG4:=Lib.hid (HGw3.out.trans hg);have HZ4:=Lib.hid (heap_keep hg HZ3.out);subst e1 e2 e3;clear hm hg)
     have HBw50:Hid ((w4.alloc (.cells #[.slice p0 c.p.length p1,.int .i64 ((P.2.at_:Nat):Int),.int .i64 ((P.2.n:Nat):Int),.slice a0 c.parts.length a1,.slice g0 P.2.flows.length g1,.slice j0 P.2.items.length j1,.slice t0 P.2.seqs.length t1,.string c.pre] 86)).heap[w4.heap.size]? = some (.cells #[.slice p0 c.p.length p1,.int .i64 ((P.2.at_:Nat):Int),.int .i64 ((P.2.n:Nat):Int),.slice a0 c.parts.length a1,.slice g0 P.2.flows.length g1,.slice j0 P.2.items.length j1,.slice t0 P.2.seqs.length t1,.string c.pre] 86 (0,0))):=Lib.hid (lay1_0 _ _)
     have HGw5:Hid (Flow.Grow w4 (w4.alloc (.cells #[.slice p0 c.p.length p1,.int .i64 ((P.2.at_:Nat):Int),.int .i64 ((P.2.n:Nat):Int),.slice a0 c.parts.length a1,.slice g0 P.2.flows.length g1,.slice j0 P.2.items.length j1,.slice t0 P.2.seqs.length t1,.string c.pre] 86))):=Lib.hid (lay1_g _ _)
     have HSw5:Hid ((w4.alloc (.cells #[.slice p0 c.p.length p1,.int .i64 ((P.2.at_:Nat):Int),.int .i64 ((P.2.n:Nat):Int),.slice a0 c.parts.length a1,.slice g0 P.2.flows.length g1,.slice j0 P.2.items.length j1,.slice t0 P.2.seqs.length t1,.string c.pre] 86)).heap.size=w4.heap.size+1):=Lib.hid (by simp)
     generalize w4.alloc (.cells #[.slice p0 c.p.length p1,.int .i64 ((P.2.at_:Nat):Int),.int .i64 ((P.2.n:Nat):Int),.slice a0 c.parts.length a1,.slice g0 P.2.flows.length g1,.slice j0 P.2.items.length j1,.slice t0 P.2.seqs.length t1,.string c.pre] 86)=w5 at *
     obtain ⟨Y,hY⟩:∃ X,X=w4.heap.size:=⟨_,rfl⟩
     rw [← hY] at HBw50 HSw5 ⊢
     have HXw5:=Lib.hid hY
     clear hY
     have CXw5:Hid (∀ wq,Flow.Grow w5 wq→wq.cell? ⟨Y,0,none⟩=some (.slice p0 c.p.length p1)∧wq.cell? ⟨Y,1,none⟩=some (.int .i64 ((P.2.at_:Nat):Int))∧wq.cell? ⟨Y,2,none⟩=some (.int .i64 ((P.2.n:Nat):Int))∧wq.cell? ⟨Y,3,none⟩=some (.slice a0 c.parts.length a1)∧wq.cell? ⟨Y,4,none⟩=some (.slice g0 P.2.flows.length g1)∧wq.cell? ⟨Y,5,none⟩=some (.slice j0 P.2.items.length j1)∧wq.cell? ⟨Y,6,none⟩=some (.slice t0 P.2.seqs.length t1)∧wq.cell? ⟨Y,7,none⟩=some (.string c.pre)):=Lib.hid (fun wq g=>⟨lay_cell g HBw50.out rfl,lay_cell g HBw50.out rfl,lay_cell g HBw50.out rfl,lay_cell g HBw50.out rfl,lay_cell g HBw50.out rfl,lay_cell g HBw50.out rfl,lay_cell g HBw50.out rfl,lay_cell g HBw50.out rfl⟩)
     have FXw5:Hid (∀ wq,Flow.Grow w5 wq→(∀ k,wq.frozen? ⟨Y,k,none⟩=false)):=Lib.hid (fun wq g=>fun k=>lay_frozen g HBw50.out k)
     have HM5:=Lib.hid (HM4.out.grow HGw5.out)
     have HG5:=Lib.hid (HG4.out.trans HGw5.out)
     have HZ5:=Lib.hid (heap_keep HGw5.out HZ4.out)
     obtain ⟨P2,hP2⟩:∃ Q,Q=Ch.partT c d' P.1 P.2:=⟨_,rfl⟩
     have HR2:=Lib.hid (HRc.out P.2 P.1 _ _ _ _ _ w5 ⟨by have h1:=HUp.out.at_;have h2:=HRm.out.1;have h3:=HNat.out;have h4:=HB1.out.2;omega,by have h1:=HUp.out.n;have h2:=HRm.out.2.1;have h3:=HNat.out;omega,by have h1:=HUp.out.flows;have h2:=HRm.out.2.2.1;have h3:=HNat.out;omega,by have h1:=HUp.out.items;have h2:=HRm.out.2.2.2.1;have h3:=HNat.out;omega,by have h1:=HUp.out.seqs;have h2:=HRm.out.2.2.2.2;have h3:=HNat.out;omega⟩ HM5.out)
     rw [← hP2] at HR2 HTwo
     clear hP2
     obtain ⟨z0,z1,z2,z3,z4,z5,z6,z7,zf⟩:=m8_cells HBw50.out
     go_wp2_with (go_at_call 43;refine HR2.out.mono ?_;rintro e w6 ⟨vf',vi',vs',rfl,hm,hg⟩;obtain ⟨n0,n1,n2,n3,n4,n5,e1,e2,e3⟩:=hm.forms3;have HM6:=Lib.hid hm;have HG6:=Lib.hid (HG5.out.trans hg);have HZ6:=Lib.hid (heap_keep hg HZ5.out);subst e1 e2 e3;obtain ⟨y0,y1,y2,y3,y4,y5,y6,y7,yf⟩:=m8_cells HZ6.out;clear hm hg)
     have hX1:W.heap.size≤X+1:=by omega
     refine bodyPost_ret (part_res _ _ (X+1) _ _ _ _ _ _ _ _ _ rfl rfl (m8_set _ _ _ _ _ _ _ _ HZ6.out)) rfl ?_
     unfold Ch.PartPost
     rw [HTwo.out]
     exact ⟨_,_,_,rfl,HM6.out.ty (TY.blk HZ6.out) (m8_by w6 (X+1) _ _ _ _ _ _ _ _) (H.out.grow (m8_grow (w:=w6) (X:=X+1) HG6.out hX1 _ _ _ _ _ _ _ _)).p (by decide) (by decide) (by decide) (by decide) (by decide),m8_grow (w:=w6) (X:=X+1) HG6.out hX1 _ _ _ _ _ _ _ _⟩
    ·have d3:decide ((kk:Int) < 5)=false:=by simp;omega
     have HKk5:=Lib.hid hk5
     have HZw3:=HZ3
     clear hk5
     by_cases hk7:kk=7
     ·have d4:((kk:Int) == 7)=true:=by simp;omega
      have HKk7:Hid (pk % 8=7):=Lib.hid (by rw [← Hkk.out];exact hk7)
      clear hk7
      obtain ⟨ga,hga⟩:∃ s,s=c.name ⟨#[103]⟩ (K1.n+1):=⟨_,rfl⟩
      obtain ⟨K2,hK2⟩:∃ K,K=K1.named:=⟨_,rfl⟩
      have HNa:=Lib.hid (name_any c K1 ⟨#[103]⟩ _ _ _ _ _ w3 (by have h1:=HRm.out.2.1;omega) (by decide) hc HMw3.out)
      rw [← hga,← hK2] at HNa
      have HM2:Hid (∀ w,Flow.Grow w3 w→Ch.MkAt w c K2 (.slice p0 c.p.length p1) (.slice a0 c.parts.length a1) (.slice f0 K1.flows.length f1) (.slice i0 K1.items.length i1) (.slice s0 K1.seqs.length s1)):=Lib.hid fun w g=>by rw [hK2];have k:=HMw3.out.grow g;exact ⟨k.p,k.parts,k.flows,k.items,k.seqs⟩
      obtain ⟨K2i,hK2i⟩:∃ K,K=K2.item (Ch.gate 5 ga):=⟨_,rfl⟩
      obtain ⟨K3,hK3⟩:∃ K,K=Ch.seqT c K2i a ga:=⟨_,rfl⟩
      have hB2:K2.items.length=K1.items.length∧K2i.n=K1.n+1∧K2i.seqs.length=K1.seqs.length:=by rw [hK2i,hK2];exact ⟨rfl,rfl,rfl⟩
      have hB3:K3.at_=K1.at_∧K3.n=K1.n+2∧K3.flows.length=K1.flows.length∧K3.items.length=K1.items.length+1∧K3.seqs.length=K1.seqs.length+1:=by rw [hK3,hK2i,hK2];exact ⟨rfl,rfl,rfl,by simp [Ch.seqT,Ch.Mk.named,Ch.Mk.item],by simp [Ch.seqT,Ch.Mk.named,Ch.Mk.item]⟩
      have HB2:=Lib.hid hB2
      have HB3:=Lib.hid hB3
      have HIt:=Lib.hid fun w (hm:Ch.MkAt w c K2 (.slice p0 c.p.length p1) (.slice a0 c.parts.length a1) (.slice f0 K1.flows.length f1) (.slice i0 K1.items.length i1) (.slice s0 K1.seqs.length s1))=>item_any c K2 (Ch.gate 5 ga) _ _ _ _ _ (.slice none 0 0) (.slice none 0 0) w (by have h1:=HRm.out.2.2.2.1;have h2:=HB2.out.1;omega) hm (World.ownsRow_nil _ _ _ _) (World.ownsRow_nil _ _ _ _)
      rw [← hK2i] at HIt
      have HSq:=Lib.hid fun (vf vi vs:Value) w (hm:Ch.MkAt w c K2i (.slice p0 c.p.length p1) (.slice a0 c.parts.length a1) vf vi vs)=>seq_any c K2i a ga _ _ vf vi vs w (by have h1:=HRm.out.2.1;have h2:=HB2.out.2.1;omega) (by have h1:=HRm.out.2.2.2.2;have h2:=HB2.out.2.2;omega) hc hm
      rw [← hK3] at HSq
      have Hga:=Lib.hid hga
      have HK2:=Lib.hid hK2
      have HK2i:=Lib.hid hK2i
      have HK3:=Lib.hid hK3
      clear hga hK2 hK2i hK3 hB2 hB3
      simp only [Ch.mc,Ch.ic,Ch.gate] at HNa HIt HSq
      have HRoom3:Hid (Ch.Room K3 q):=Lib.hid ⟨by have h1:=HRm.out.1;have h2:=HB3.out.1;have h3:=HNat.out;have h4:=HB1.out.2;omega,by have h1:=HRm.out.2.1;have h2:=HB3.out.2.1;have h3:=HNat.out;omega,by have h1:=HRm.out.2.2.1;have h2:=HB3.out.2.2.1;have h3:=HNat.out;omega,by have h1:=HRm.out.2.2.2.1;have h2:=HB3.out.2.2.2.1;have h3:=HNat.out;omega,by have h1:=HRm.out.2.2.2.2;have h2:=HB3.out.2.2.2.2;have h3:=HNat.out;omega⟩
      have HBw3':=HBw3
      go_upto_region 15 with (go_at_call 41;refine HNa.out.mono ?_;rintro e w4 ⟨rfl,hg⟩;have hm:=HM2.out w4 hg;have HMc:=Lib.hid hm;have HGc:=Lib.hid (HGw3.out.trans hg);have hbc:=heap_keep hg HBw3.out;have hzc:=heap_keep hg HZ3.out;clear hm hg;obtain ⟨y0,y1,y2,y3,y4,y5,y6,y7,yf⟩:=m8_cells hbc)
      clear y0 y1 y2 y3 y4 y5 y6 y7 yf
      have tX:=TY.blk hbc
      have HMw5:=Lib.hid (HMc.out.ty tX (m8_by w4 X (.slice p0 c.p.length p1) (.int .i64 ((K2.at_:Nat):Int)) (.int .i64 ((K2.n:Nat):Int)) (.slice a0 c.parts.length a1) (.slice f0 K1.flows.length f1) (.slice i0 K1.items.length i1) (.slice s0 K1.seqs.length s1) (.string c.pre)) (H.out.grow (m8_grow (w:=w4) (X:=X) HGc.out hX (.slice p0 c.p.length p1) (.int .i64 ((K2.at_:Nat):Int)) (.int .i64 ((K2.n:Nat):Int)) (.slice a0 c.parts.length a1) (.slice f0 K1.flows.length f1) (.slice i0 K1.items.length i1) (.slice s0 K1.seqs.length s1) (.string c.pre))).p (by decide) (by decide) (by decide) (by decide) (by decide))
      have HBw5:=Lib.hid (m8_set (w:=w4) (X:=X) (.slice p0 c.p.length p1) (.int .i64 ((K2.at_:Nat):Int)) (.int .i64 ((K2.n:Nat):Int)) (.slice a0 c.parts.length a1) (.slice f0 K1.flows.length f1) (.slice i0 K1.items.length i1) (.slice s0 K1.seqs.length s1) (.string c.pre) hbc)
      have HGw5:=Lib.hid (m8_grow (w:=w4) (X:=X) (HGc.out) (hX) (.slice p0 c.p.length p1) (.int .i64 ((K2.at_:Nat):Int)) (.int .i64 ((K2.n:Nat):Int)) (.slice a0 c.parts.length a1) (.slice f0 K1.flows.length f1) (.slice i0 K1.items.length i1) (.slice s0 K1.seqs.length s1) (.string c.pre))
      have HZw5:=Lib.hid (m8_other (w:=w4) (X:=X) (.slice p0 c.p.length p1) (.int .i64 ((K2.at_:Nat):Int)) (.int .i64 ((K2.n:Nat):Int)) (.slice a0 c.parts.length a1) (.slice f0 K1.flows.length f1) (.slice i0 K1.items.length i1) (.slice s0 K1.seqs.length s1) (.string c.pre) (hzc) (by omega))
      rw [show (((((((w4.setCell ⟨X,0,none⟩ (.slice p0 c.p.length p1)).setCell ⟨X,1,none⟩ (.int .i64 ((K2.at_:Nat):Int))).setCell ⟨X,2,none⟩ (.int .i64 ((K2.n:Nat):Int))).setCell ⟨X,3,none⟩ (.slice a0 c.parts.length a1)).setCell ⟨X,4,none⟩ (.slice f0 K1.flows.length f1)).setCell ⟨X,5,none⟩ (.slice i0 K1.items.length i1)).setCell ⟨X,6,none⟩ (.slice s0 K1.seqs.length s1)).setCell ⟨X,7,none⟩ (.string c.pre)=(((((((w4.setCell ⟨X,0,none⟩ (.slice p0 c.p.length p1)).setCell ⟨X,1,none⟩ (.int .i64 ((K2.at_:Nat):Int))).setCell ⟨X,2,none⟩ (.int .i64 ((K2.n:Nat):Int))).setCell ⟨X,3,none⟩ (.slice a0 c.parts.length a1)).setCell ⟨X,4,none⟩ (.slice f0 K1.flows.length f1)).setCell ⟨X,5,none⟩ (.slice i0 K1.items.length i1)).setCell ⟨X,6,none⟩ (.slice s0 K1.seqs.length s1)).setCell ⟨X,7,none⟩ (.string c.pre) from rfl]
      generalize (((((((w4.setCell ⟨X,0,none⟩ (.slice p0 c.p.length p1)).setCell ⟨X,1,none⟩ (.int .i64 ((K2.at_:Nat):Int))).setCell ⟨X,2,none⟩ (.int .i64 ((K2.n:Nat):Int))).setCell ⟨X,3,none⟩ (.slice a0 c.parts.length a1)).setCell ⟨X,4,none⟩ (.slice f0 K1.flows.length f1)).setCell ⟨X,5,none⟩ (.slice i0 K1.items.length i1)).setCell ⟨X,6,none⟩ (.slice s0 K1.seqs.length s1)).setCell ⟨X,7,none⟩ (.string c.pre)=w5 at *
      clear hbc hzc HMc HGc tX x0 x1 x2 x3 x4 x5 x6 x7 xf
      obtain ⟨x0,x1,x2,x3,x4,x5,x6,x7,xf⟩:=m8_cells HBw5.out
      go_upto_region 16 with (first
       | (go_at_call 42;refine (HIt.out w5 HMw5.out).mono ?_;rintro e wi ⟨vi',rfl,hm,hg⟩;obtain ⟨n0,n1,ib0,ib1,n4,n5,e1,e2,e3⟩:=hm.forms3;subst e2;clear e1 e3;have HMi:=Lib.hid hm;have HGi:=Lib.hid hg;clear hm hg)
       | (go_at_call 44;refine (HSq.out _ _ _ wi HMi.out).mono ?_;rintro e w6 ⟨vs',rfl,hm,hg'⟩;obtain ⟨n6,n7,n8,n9,sb0,sb1,e1,e2,e3⟩:=hm.forms3;subst e3;clear e1 e2;have hg:=HGi.out.trans hg';have HMc:=Lib.hid hm;have HGc:=Lib.hid (HGw5.out.trans hg);have hbc:=heap_keep hg HBw5.out;have hzc:=heap_keep hg HZw5.out;clear hm hg hg';obtain ⟨y0,y1,y2,y3,y4,y5,y6,y7,yf⟩:=m8_cells hbc))
      clear y0 y1 y2 y3 y4 y5 y6 y7 yf HMi HGi
      have tX:=TY.blk hbc
      have HMw7:=Lib.hid (HMc.out.ty tX (m8_by w6 X (.slice p0 c.p.length p1) (.int .i64 ((K3.at_:Nat):Int)) (.int .i64 ((K3.n:Nat):Int)) (.slice a0 c.parts.length a1) (.slice f0 K1.flows.length f1) (.slice ib0 K2i.items.length ib1) (.slice sb0 K3.seqs.length sb1) (.string c.pre)) (H.out.grow (m8_grow (w:=w6) (X:=X) HGc.out hX (.slice p0 c.p.length p1) (.int .i64 ((K3.at_:Nat):Int)) (.int .i64 ((K3.n:Nat):Int)) (.slice a0 c.parts.length a1) (.slice f0 K1.flows.length f1) (.slice ib0 K2i.items.length ib1) (.slice sb0 K3.seqs.length sb1) (.string c.pre))).p (by decide) (by decide) (by decide) (by decide) (by decide))
      have HBw7:=Lib.hid (m8_set (w:=w6) (X:=X) (.slice p0 c.p.length p1) (.int .i64 ((K3.at_:Nat):Int)) (.int .i64 ((K3.n:Nat):Int)) (.slice a0 c.parts.length a1) (.slice f0 K1.flows.length f1) (.slice ib0 K2i.items.length ib1) (.slice sb0 K3.seqs.length sb1) (.string c.pre) hbc)
      have HGw7:=Lib.hid (m8_grow (w:=w6) (X:=X) (HGc.out) (hX) (.slice p0 c.p.length p1) (.int .i64 ((K3.at_:Nat):Int)) (.int .i64 ((K3.n:Nat):Int)) (.slice a0 c.parts.length a1) (.slice f0 K1.flows.length f1) (.slice ib0 K2i.items.length ib1) (.slice sb0 K3.seqs.length sb1) (.string c.pre))
      have HZw7:=Lib.hid (m8_other (w:=w6) (X:=X) (.slice p0 c.p.length p1) (.int .i64 ((K3.at_:Nat):Int)) (.int .i64 ((K3.n:Nat):Int)) (.slice a0 c.parts.length a1) (.slice f0 K1.flows.length f1) (.slice ib0 K2i.items.length ib1) (.slice sb0 K3.seqs.length sb1) (.string c.pre) (hzc) (by omega))
      rw [show (((((((w6.setCell ⟨X,0,none⟩ (.slice p0 c.p.length p1)).setCell ⟨X,1,none⟩ (.int .i64 ((K3.at_:Nat):Int))).setCell ⟨X,2,none⟩ (.int .i64 ((K3.n:Nat):Int))).setCell ⟨X,3,none⟩ (.slice a0 c.parts.length a1)).setCell ⟨X,4,none⟩ (.slice f0 K1.flows.length f1)).setCell ⟨X,5,none⟩ (.slice ib0 K2i.items.length ib1)).setCell ⟨X,6,none⟩ (.slice sb0 K3.seqs.length sb1)).setCell ⟨X,7,none⟩ (.string c.pre)=(((((((w6.setCell ⟨X,0,none⟩ (.slice p0 c.p.length p1)).setCell ⟨X,1,none⟩ (.int .i64 ((K3.at_:Nat):Int))).setCell ⟨X,2,none⟩ (.int .i64 ((K3.n:Nat):Int))).setCell ⟨X,3,none⟩ (.slice a0 c.parts.length a1)).setCell ⟨X,4,none⟩ (.slice f0 K1.flows.length f1)).setCell ⟨X,5,none⟩ (.slice ib0 K2i.items.length ib1)).setCell ⟨X,6,none⟩ (.slice sb0 K3.seqs.length sb1)).setCell ⟨X,7,none⟩ (.string c.pre) from rfl]
      generalize (((((((w6.setCell ⟨X,0,none⟩ (.slice p0 c.p.length p1)).setCell ⟨X,1,none⟩ (.int .i64 ((K3.at_:Nat):Int))).setCell ⟨X,2,none⟩ (.int .i64 ((K3.n:Nat):Int))).setCell ⟨X,3,none⟩ (.slice a0 c.parts.length a1)).setCell ⟨X,4,none⟩ (.slice f0 K1.flows.length f1)).setCell ⟨X,5,none⟩ (.slice ib0 K2i.items.length ib1)).setCell ⟨X,6,none⟩ (.slice sb0 K3.seqs.length sb1)).setCell ⟨X,7,none⟩ (.string c.pre)=w7 at *
      clear hbc hzc HMc HGc tX x0 x1 x2 x3 x4 x5 x6 x7 xf
      obtain ⟨x0,x1,x2,x3,x4,x5,x6,x7,xf⟩:=m8_cells HBw7.out
      obtain ⟨P,hP⟩:∃ P,P=Ch.partT c d' ga K3:=⟨_,rfl⟩
      have HR1:=Lib.hid (HRc.out K3 ga _ _ _ _ _ w7 HRoom3.out HMw7.out)
      rw [← hP] at HR1
      have HUp:=Lib.hid (Ch.part_up c d' ga K3)
      rw [← hP,← Hq.out] at HUp
      have HP:=Lib.hid hP
      clear hP
      go_upto_region 17 with (go_at_call 43;refine HR1.out.mono ?_;rintro e w8 ⟨vf',vi',vs',rfl,hm,hg⟩;obtain ⟨fc0,fc1,ic0,ic1,sc0,sc1,e1,e2,e3⟩:=hm.forms3;subst e1 e2 e3;have HMc:=Lib.hid hm;have HGc:=Lib.hid (HGw7.out.trans hg);have hbc:=heap_keep hg HBw7.out;have hzc:=heap_keep hg HZw7.out;clear hm hg;obtain ⟨y0,y1,y2,y3,y4,y5,y6,y7,yf⟩:=m8_cells hbc)
      clear y0 y1 y2 y3 y4 y5 y6 y7 yf
      have tX:=TY.blk hbc
      have HMw9:=Lib.hid (HMc.out.ty tX (m8_by w8 X (.slice p0 c.p.length p1) (.int .i64 ((P.2.at_:Nat):Int)) (.int .i64 ((P.2.n:Nat):Int)) (.slice a0 c.parts.length a1) (.slice fc0 P.2.flows.length fc1) (.slice ic0 P.2.items.length ic1) (.slice sc0 P.2.seqs.length sc1) (.string c.pre)) (H.out.grow (m8_grow (w:=w8) (X:=X) HGc.out hX (.slice p0 c.p.length p1) (.int .i64 ((P.2.at_:Nat):Int)) (.int .i64 ((P.2.n:Nat):Int)) (.slice a0 c.parts.length a1) (.slice fc0 P.2.flows.length fc1) (.slice ic0 P.2.items.length ic1) (.slice sc0 P.2.seqs.length sc1) (.string c.pre))).p (by decide) (by decide) (by decide) (by decide) (by decide))
      have HBw9:=Lib.hid (m8_set (w:=w8) (X:=X) (.slice p0 c.p.length p1) (.int .i64 ((P.2.at_:Nat):Int)) (.int .i64 ((P.2.n:Nat):Int)) (.slice a0 c.parts.length a1) (.slice fc0 P.2.flows.length fc1) (.slice ic0 P.2.items.length ic1) (.slice sc0 P.2.seqs.length sc1) (.string c.pre) hbc)
      have HGw9:=Lib.hid (m8_grow (w:=w8) (X:=X) (HGc.out) (hX) (.slice p0 c.p.length p1) (.int .i64 ((P.2.at_:Nat):Int)) (.int .i64 ((P.2.n:Nat):Int)) (.slice a0 c.parts.length a1) (.slice fc0 P.2.flows.length fc1) (.slice ic0 P.2.items.length ic1) (.slice sc0 P.2.seqs.length sc1) (.string c.pre))
      have HZw9:=Lib.hid (m8_other (w:=w8) (X:=X) (.slice p0 c.p.length p1) (.int .i64 ((P.2.at_:Nat):Int)) (.int .i64 ((P.2.n:Nat):Int)) (.slice a0 c.parts.length a1) (.slice fc0 P.2.flows.length fc1) (.slice ic0 P.2.items.length ic1) (.slice sc0 P.2.seqs.length sc1) (.string c.pre) (hzc) (by omega))
      rw [show (((((((w8.setCell ⟨X,0,none⟩ (.slice p0 c.p.length p1)).setCell ⟨X,1,none⟩ (.int .i64 ((P.2.at_:Nat):Int))).setCell ⟨X,2,none⟩ (.int .i64 ((P.2.n:Nat):Int))).setCell ⟨X,3,none⟩ (.slice a0 c.parts.length a1)).setCell ⟨X,4,none⟩ (.slice fc0 P.2.flows.length fc1)).setCell ⟨X,5,none⟩ (.slice ic0 P.2.items.length ic1)).setCell ⟨X,6,none⟩ (.slice sc0 P.2.seqs.length sc1)).setCell ⟨X,7,none⟩ (.string c.pre)=(((((((w8.setCell ⟨X,0,none⟩ (.slice p0 c.p.length p1)).setCell ⟨X,1,none⟩ (.int .i64 ((P.2.at_:Nat):Int))).setCell ⟨X,2,none⟩ (.int .i64 ((P.2.n:Nat):Int))).setCell ⟨X,3,none⟩ (.slice a0 c.parts.length a1)).setCell ⟨X,4,none⟩ (.slice fc0 P.2.flows.length fc1)).setCell ⟨X,5,none⟩ (.slice ic0 P.2.items.length ic1)).setCell ⟨X,6,none⟩ (.slice sc0 P.2.seqs.length sc1)).setCell ⟨X,7,none⟩ (.string c.pre) from rfl]
      generalize (((((((w8.setCell ⟨X,0,none⟩ (.slice p0 c.p.length p1)).setCell ⟨X,1,none⟩ (.int .i64 ((P.2.at_:Nat):Int))).setCell ⟨X,2,none⟩ (.int .i64 ((P.2.n:Nat):Int))).setCell ⟨X,3,none⟩ (.slice a0 c.parts.length a1)).setCell ⟨X,4,none⟩ (.slice fc0 P.2.flows.length fc1)).setCell ⟨X,5,none⟩ (.slice ic0 P.2.items.length ic1)).setCell ⟨X,6,none⟩ (.slice sc0 P.2.seqs.length sc1)).setCell ⟨X,7,none⟩ (.string c.pre)=w9 at *
      clear hbc hzc HMc HGc tX x0 x1 x2 x3 x4 x5 x6 x7 xf
      obtain ⟨x0,x1,x2,x3,x4,x5,x6,x7,xf⟩:=m8_cells HBw9.out
      obtain ⟨Q,hQ⟩:∃ Q,Q=Ch.partT c d' ga P.2:=⟨_,rfl⟩
      have HRoomP:Hid (Ch.Room P.2 q):=Lib.hid ⟨by have h1:=HUp.out.at_;have h2:=HRm.out.1;have h3:=HNat.out;have h4:=HB1.out.2;have h5:=HB3.out.1;omega,by have h1:=HUp.out.n;have h2:=HRm.out.2.1;have h3:=HNat.out;have h5:=HB3.out.2.1;omega,by have h1:=HUp.out.flows;have h2:=HRm.out.2.2.1;have h3:=HNat.out;have h5:=HB3.out.2.2.1;omega,by have h1:=HUp.out.items;have h2:=HRm.out.2.2.2.1;have h3:=HNat.out;have h5:=HB3.out.2.2.2.1;omega,by have h1:=HUp.out.seqs;have h2:=HRm.out.2.2.2.2;have h3:=HNat.out;have h5:=HB3.out.2.2.2.2;omega⟩
      have HR2:=Lib.hid (HRc.out P.2 ga _ _ _ _ _ w9 HRoomP.out HMw9.out)
      rw [← hQ] at HR2
      have HUq:=Lib.hid (Ch.part_up c d' ga P.2)
      rw [← hQ,← Hq.out] at HUq
      have HQ:=Lib.hid hQ
      clear hQ
      go_upto_region 18 with (go_at_call 43;refine HR2.out.mono ?_;rintro e wa ⟨vf',vi',vs',rfl,hm,hg⟩;obtain ⟨fd0,fd1,id0,id1,sd0,sd1,e1,e2,e3⟩:=hm.forms3;subst e1 e2 e3;have HMc:=Lib.hid hm;have HGc:=Lib.hid (HGw9.out.trans hg);have hbc:=heap_keep hg HBw9.out;have hzc:=heap_keep hg HZw9.out;clear hm hg;obtain ⟨y0,y1,y2,y3,y4,y5,y6,y7,yf⟩:=m8_cells hbc)
      clear y0 y1 y2 y3 y4 y5 y6 y7 yf
      have tX:=TY.blk hbc
      have HMwb:=Lib.hid (HMc.out.ty tX (m8_by wa X (.slice p0 c.p.length p1) (.int .i64 ((Q.2.at_:Nat):Int)) (.int .i64 ((Q.2.n:Nat):Int)) (.slice a0 c.parts.length a1) (.slice fd0 Q.2.flows.length fd1) (.slice id0 Q.2.items.length id1) (.slice sd0 Q.2.seqs.length sd1) (.string c.pre)) (H.out.grow (m8_grow (w:=wa) (X:=X) HGc.out hX (.slice p0 c.p.length p1) (.int .i64 ((Q.2.at_:Nat):Int)) (.int .i64 ((Q.2.n:Nat):Int)) (.slice a0 c.parts.length a1) (.slice fd0 Q.2.flows.length fd1) (.slice id0 Q.2.items.length id1) (.slice sd0 Q.2.seqs.length sd1) (.string c.pre))).p (by decide) (by decide) (by decide) (by decide) (by decide))
      have HBwb:=Lib.hid (m8_set (w:=wa) (X:=X) (.slice p0 c.p.length p1) (.int .i64 ((Q.2.at_:Nat):Int)) (.int .i64 ((Q.2.n:Nat):Int)) (.slice a0 c.parts.length a1) (.slice fd0 Q.2.flows.length fd1) (.slice id0 Q.2.items.length id1) (.slice sd0 Q.2.seqs.length sd1) (.string c.pre) hbc)
      have HGwb:=Lib.hid (m8_grow (w:=wa) (X:=X) (HGc.out) (hX) (.slice p0 c.p.length p1) (.int .i64 ((Q.2.at_:Nat):Int)) (.int .i64 ((Q.2.n:Nat):Int)) (.slice a0 c.parts.length a1) (.slice fd0 Q.2.flows.length fd1) (.slice id0 Q.2.items.length id1) (.slice sd0 Q.2.seqs.length sd1) (.string c.pre))
      have HZwb:=Lib.hid (m8_other (w:=wa) (X:=X) (.slice p0 c.p.length p1) (.int .i64 ((Q.2.at_:Nat):Int)) (.int .i64 ((Q.2.n:Nat):Int)) (.slice a0 c.parts.length a1) (.slice fd0 Q.2.flows.length fd1) (.slice id0 Q.2.items.length id1) (.slice sd0 Q.2.seqs.length sd1) (.string c.pre) (hzc) (by omega))
      rw [show (((((((wa.setCell ⟨X,0,none⟩ (.slice p0 c.p.length p1)).setCell ⟨X,1,none⟩ (.int .i64 ((Q.2.at_:Nat):Int))).setCell ⟨X,2,none⟩ (.int .i64 ((Q.2.n:Nat):Int))).setCell ⟨X,3,none⟩ (.slice a0 c.parts.length a1)).setCell ⟨X,4,none⟩ (.slice fd0 Q.2.flows.length fd1)).setCell ⟨X,5,none⟩ (.slice id0 Q.2.items.length id1)).setCell ⟨X,6,none⟩ (.slice sd0 Q.2.seqs.length sd1)).setCell ⟨X,7,none⟩ (.string c.pre)=(((((((wa.setCell ⟨X,0,none⟩ (.slice p0 c.p.length p1)).setCell ⟨X,1,none⟩ (.int .i64 ((Q.2.at_:Nat):Int))).setCell ⟨X,2,none⟩ (.int .i64 ((Q.2.n:Nat):Int))).setCell ⟨X,3,none⟩ (.slice a0 c.parts.length a1)).setCell ⟨X,4,none⟩ (.slice fd0 Q.2.flows.length fd1)).setCell ⟨X,5,none⟩ (.slice id0 Q.2.items.length id1)).setCell ⟨X,6,none⟩ (.slice sd0 Q.2.seqs.length sd1)).setCell ⟨X,7,none⟩ (.string c.pre) from rfl]
      generalize (((((((wa.setCell ⟨X,0,none⟩ (.slice p0 c.p.length p1)).setCell ⟨X,1,none⟩ (.int .i64 ((Q.2.at_:Nat):Int))).setCell ⟨X,2,none⟩ (.int .i64 ((Q.2.n:Nat):Int))).setCell ⟨X,3,none⟩ (.slice a0 c.parts.length a1)).setCell ⟨X,4,none⟩ (.slice fd0 Q.2.flows.length fd1)).setCell ⟨X,5,none⟩ (.slice id0 Q.2.items.length id1)).setCell ⟨X,6,none⟩ (.slice sd0 Q.2.seqs.length sd1)).setCell ⟨X,7,none⟩ (.string c.pre)=wb at *
      clear hbc hzc HMc HGc tX x0 x1 x2 x3 x4 x5 x6 x7 xf
      obtain ⟨x0,x1,x2,x3,x4,x5,x6,x7,xf⟩:=m8_cells HBwb.out
      have HQb:Hid (Q.2.n+2≤10000∧Q.2.items.length≤10000∧Q.2.seqs.length+3≤10000):=Lib.hid ⟨by have h1:=HUq.out.n;have h2:=HRoomP.out.n;omega,by have h1:=HUq.out.items;have h2:=HRoomP.out.items;omega,by have h1:=HUq.out.seqs;have h2:=HRoomP.out.seqs;omega⟩
      obtain ⟨gb,hgb⟩:∃ s,s=c.name ⟨#[103]⟩ (Q.2.n+1):=⟨_,rfl⟩
      obtain ⟨K5,hK5⟩:∃ K,K=Q.2.named:=⟨_,rfl⟩
      have HNb:=Lib.hid (name_any c Q.2 ⟨#[103]⟩ _ _ _ _ _ wb (by have h1:=HQb.out.1;omega) (by decide) hc HMwb.out)
      rw [← hgb,← hK5] at HNb
      have HM5:Hid (∀ w,Flow.Grow wb w→Ch.MkAt w c K5 (.slice p0 c.p.length p1) (.slice a0 c.parts.length a1) (.slice fd0 Q.2.flows.length fd1) (.slice id0 Q.2.items.length id1) (.slice sd0 Q.2.seqs.length sd1)):=Lib.hid fun w g=>by rw [hK5];have k:=HMwb.out.grow g;exact ⟨k.p,k.parts,k.flows,k.items,k.seqs⟩
      obtain ⟨K5i,hK5i⟩:∃ K,K=K5.item (Ch.gate 5 gb):=⟨_,rfl⟩
      obtain ⟨K6,hK6⟩:∃ K,K=Ch.seqT c K5i P.1 gb:=⟨_,rfl⟩
      obtain ⟨K7,hK7⟩:∃ K,K=Ch.seqT c K6 Q.1 gb:=⟨_,rfl⟩
      have hB5:K5.items.length=Q.2.items.length∧K5i.n=Q.2.n+1∧K5i.seqs.length=Q.2.seqs.length∧K6.n=Q.2.n+2∧K6.seqs.length=Q.2.seqs.length+1∧K7.n=Q.2.n+3∧K7.seqs.length=Q.2.seqs.length+2:=by rw [hK7,hK6,hK5i,hK5];exact ⟨rfl,rfl,rfl,rfl,by simp [Ch.seqT,Ch.Mk.named,Ch.Mk.item],rfl,by simp [Ch.seqT,Ch.Mk.named,Ch.Mk.item]⟩
      have HB5:=Lib.hid hB5
      have HIt2:=Lib.hid fun w (hm:Ch.MkAt w c K5 (.slice p0 c.p.length p1) (.slice a0 c.parts.length a1) (.slice fd0 Q.2.flows.length fd1) (.slice id0 Q.2.items.length id1) (.slice sd0 Q.2.seqs.length sd1))=>item_any c K5 (Ch.gate 5 gb) _ _ _ _ _ (.slice none 0 0) (.slice none 0 0) w (by have h1:=HQb.out.2.1;have h2:=HB5.out.1;omega) hm (World.ownsRow_nil _ _ _ _) (World.ownsRow_nil _ _ _ _)
      rw [← hK5i] at HIt2
      have HSq2:=Lib.hid fun (vf vi vs:Value) w (hm:Ch.MkAt w c K5i (.slice p0 c.p.length p1) (.slice a0 c.parts.length a1) vf vi vs)=>seq_any c K5i P.1 gb _ _ vf vi vs w (by have h1:=HQb.out.1;have h2:=HB5.out.2.1;omega) (by have h1:=HQb.out.2.2;have h2:=HB5.out.2.2.1;omega) hc hm
      rw [← hK6] at HSq2
      have HSq3:=Lib.hid fun (vf vi vs:Value) w (hm:Ch.MkAt w c K6 (.slice p0 c.p.length p1) (.slice a0 c.parts.length a1) vf vi vs)=>seq_any c K6 Q.1 gb _ _ vf vi vs w (by have h1:=HQb.out.1;have h2:=HB5.out.2.2.2.1;omega) (by have h1:=HQb.out.2.2;have h2:=HB5.out.2.2.2.2.1;omega) hc hm
      rw [← hK7] at HSq3
      have HSq4:=Lib.hid fun (vf vi vs:Value) w (hm:Ch.MkAt w c K7 (.slice p0 c.p.length p1) (.slice a0 c.parts.length a1) vf vi vs)=>seq_any c K7 gb ga _ _ vf vi vs w (by have h1:=HQb.out.1;have h2:=HB5.out.2.2.2.2.2.1;omega) (by have h1:=HQb.out.2.2;have h2:=HB5.out.2.2.2.2.2.2;omega) hc hm
      obtain ⟨K8,hK8⟩:∃ K,K=Ch.seqT c K7 gb ga:=⟨_,rfl⟩
      rw [← hK8] at HSq4
      have Hgb:=Lib.hid hgb
      have HK5:=Lib.hid hK5
      have HK5i:=Lib.hid hK5i
      have HK6:=Lib.hid hK6
      have HK7:=Lib.hid hK7
      have HK8:=Lib.hid hK8
      clear hgb hK5 hK5i hK6 hK7 hK8 hB5
      simp only [Ch.mc,Ch.ic,Ch.gate] at HNb HIt2 HSq2 HSq3 HSq4
      go_upto_region 19 with (go_at_call 41;refine HNb.out.mono ?_;rintro e wc ⟨rfl,hg⟩;have hm:=HM5.out wc hg;have HMc:=Lib.hid hm;have HGc:=Lib.hid (HGwb.out.trans hg);have hbc:=heap_keep hg HBwb.out;have hzc:=heap_keep hg HZwb.out;clear hm hg;obtain ⟨y0,y1,y2,y3,y4,y5,y6,y7,yf⟩:=m8_cells hbc)
      clear y0 y1 y2 y3 y4 y5 y6 y7 yf
      have tX:=TY.blk hbc
      have HMwd:=Lib.hid (HMc.out.ty tX (m8_by wc X (.slice p0 c.p.length p1) (.int .i64 ((K5.at_:Nat):Int)) (.int .i64 ((K5.n:Nat):Int)) (.slice a0 c.parts.length a1) (.slice fd0 Q.2.flows.length fd1) (.slice id0 Q.2.items.length id1) (.slice sd0 Q.2.seqs.length sd1) (.string c.pre)) (H.out.grow (m8_grow (w:=wc) (X:=X) HGc.out hX (.slice p0 c.p.length p1) (.int .i64 ((K5.at_:Nat):Int)) (.int .i64 ((K5.n:Nat):Int)) (.slice a0 c.parts.length a1) (.slice fd0 Q.2.flows.length fd1) (.slice id0 Q.2.items.length id1) (.slice sd0 Q.2.seqs.length sd1) (.string c.pre))).p (by decide) (by decide) (by decide) (by decide) (by decide))
      have HBwd:=Lib.hid (m8_set (w:=wc) (X:=X) (.slice p0 c.p.length p1) (.int .i64 ((K5.at_:Nat):Int)) (.int .i64 ((K5.n:Nat):Int)) (.slice a0 c.parts.length a1) (.slice fd0 Q.2.flows.length fd1) (.slice id0 Q.2.items.length id1) (.slice sd0 Q.2.seqs.length sd1) (.string c.pre) hbc)
      have HGwd:=Lib.hid (m8_grow (w:=wc) (X:=X) (HGc.out) (hX) (.slice p0 c.p.length p1) (.int .i64 ((K5.at_:Nat):Int)) (.int .i64 ((K5.n:Nat):Int)) (.slice a0 c.parts.length a1) (.slice fd0 Q.2.flows.length fd1) (.slice id0 Q.2.items.length id1) (.slice sd0 Q.2.seqs.length sd1) (.string c.pre))
      have HZwd:=Lib.hid (m8_other (w:=wc) (X:=X) (.slice p0 c.p.length p1) (.int .i64 ((K5.at_:Nat):Int)) (.int .i64 ((K5.n:Nat):Int)) (.slice a0 c.parts.length a1) (.slice fd0 Q.2.flows.length fd1) (.slice id0 Q.2.items.length id1) (.slice sd0 Q.2.seqs.length sd1) (.string c.pre) (hzc) (by omega))
      rw [show (((((((wc.setCell ⟨X,0,none⟩ (.slice p0 c.p.length p1)).setCell ⟨X,1,none⟩ (.int .i64 ((K5.at_:Nat):Int))).setCell ⟨X,2,none⟩ (.int .i64 ((K5.n:Nat):Int))).setCell ⟨X,3,none⟩ (.slice a0 c.parts.length a1)).setCell ⟨X,4,none⟩ (.slice fd0 Q.2.flows.length fd1)).setCell ⟨X,5,none⟩ (.slice id0 Q.2.items.length id1)).setCell ⟨X,6,none⟩ (.slice sd0 Q.2.seqs.length sd1)).setCell ⟨X,7,none⟩ (.string c.pre)=(((((((wc.setCell ⟨X,0,none⟩ (.slice p0 c.p.length p1)).setCell ⟨X,1,none⟩ (.int .i64 ((K5.at_:Nat):Int))).setCell ⟨X,2,none⟩ (.int .i64 ((K5.n:Nat):Int))).setCell ⟨X,3,none⟩ (.slice a0 c.parts.length a1)).setCell ⟨X,4,none⟩ (.slice fd0 Q.2.flows.length fd1)).setCell ⟨X,5,none⟩ (.slice id0 Q.2.items.length id1)).setCell ⟨X,6,none⟩ (.slice sd0 Q.2.seqs.length sd1)).setCell ⟨X,7,none⟩ (.string c.pre) from rfl]
      generalize (((((((wc.setCell ⟨X,0,none⟩ (.slice p0 c.p.length p1)).setCell ⟨X,1,none⟩ (.int .i64 ((K5.at_:Nat):Int))).setCell ⟨X,2,none⟩ (.int .i64 ((K5.n:Nat):Int))).setCell ⟨X,3,none⟩ (.slice a0 c.parts.length a1)).setCell ⟨X,4,none⟩ (.slice fd0 Q.2.flows.length fd1)).setCell ⟨X,5,none⟩ (.slice id0 Q.2.items.length id1)).setCell ⟨X,6,none⟩ (.slice sd0 Q.2.seqs.length sd1)).setCell ⟨X,7,none⟩ (.string c.pre)=wd at *
      clear hbc hzc HMc HGc tX x0 x1 x2 x3 x4 x5 x6 x7 xf
      obtain ⟨x0,x1,x2,x3,x4,x5,x6,x7,xf⟩:=m8_cells HBwd.out
      go_upto_region 20 with (first
       | (go_at_call 42;refine (HIt2.out wd HMwd.out).mono ?_;rintro e wi ⟨vi',rfl,hm,hg⟩;obtain ⟨n0,n1,ie0,ie1,n4,n5,e1,e2,e3⟩:=hm.forms3;subst e2;clear e1 e3;have HMi:=Lib.hid hm;have HGi:=Lib.hid hg;clear hm hg)
       | (go_at_call 44;refine (HSq3.out _ _ _ wj HMj.out).mono ?_;rintro e we ⟨vs',rfl,hm,hg'⟩;obtain ⟨n6,n7,n8,n9,sg0,sg1,e1,e2,e3⟩:=hm.forms3;subst e3;clear e1 e2;have hg:=HGj.out.trans hg';have HMc:=Lib.hid hm;have HGc:=Lib.hid (HGwd.out.trans hg);have hbc:=heap_keep hg HBwd.out;have hzc:=heap_keep hg HZwd.out;clear hm hg hg';obtain ⟨y0,y1,y2,y3,y4,y5,y6,y7,yf⟩:=m8_cells hbc)
       | (go_at_call 44;refine (HSq2.out _ _ _ wi HMi.out).mono ?_;rintro e wj ⟨vs',rfl,hm,hg'⟩;obtain ⟨n6,n7,n8,n9,se0,se1,e1,e2,e3⟩:=hm.forms3;subst e3;clear e1 e2;have HMj:=Lib.hid hm;have HGj:=Lib.hid (HGi.out.trans hg');clear hm hg'))
      clear y0 y1 y2 y3 y4 y5 y6 y7 yf HMi HGi HMj HGj
      have tX:=TY.blk hbc
      have HMwf:=Lib.hid (HMc.out.ty tX (m8_by we X (.slice p0 c.p.length p1) (.int .i64 ((K7.at_:Nat):Int)) (.int .i64 ((K7.n:Nat):Int)) (.slice a0 c.parts.length a1) (.slice fd0 Q.2.flows.length fd1) (.slice ie0 K5i.items.length ie1) (.slice sg0 K7.seqs.length sg1) (.string c.pre)) (H.out.grow (m8_grow (w:=we) (X:=X) HGc.out hX (.slice p0 c.p.length p1) (.int .i64 ((K7.at_:Nat):Int)) (.int .i64 ((K7.n:Nat):Int)) (.slice a0 c.parts.length a1) (.slice fd0 Q.2.flows.length fd1) (.slice ie0 K5i.items.length ie1) (.slice sg0 K7.seqs.length sg1) (.string c.pre))).p (by decide) (by decide) (by decide) (by decide) (by decide))
      have HBwf:=Lib.hid (m8_set (w:=we) (X:=X) (.slice p0 c.p.length p1) (.int .i64 ((K7.at_:Nat):Int)) (.int .i64 ((K7.n:Nat):Int)) (.slice a0 c.parts.length a1) (.slice fd0 Q.2.flows.length fd1) (.slice ie0 K5i.items.length ie1) (.slice sg0 K7.seqs.length sg1) (.string c.pre) hbc)
      have HGwf:=Lib.hid (m8_grow (w:=we) (X:=X) (HGc.out) (hX) (.slice p0 c.p.length p1) (.int .i64 ((K7.at_:Nat):Int)) (.int .i64 ((K7.n:Nat):Int)) (.slice a0 c.parts.length a1) (.slice fd0 Q.2.flows.length fd1) (.slice ie0 K5i.items.length ie1) (.slice sg0 K7.seqs.length sg1) (.string c.pre))
      have HZwf:=Lib.hid (m8_other (w:=we) (X:=X) (.slice p0 c.p.length p1) (.int .i64 ((K7.at_:Nat):Int)) (.int .i64 ((K7.n:Nat):Int)) (.slice a0 c.parts.length a1) (.slice fd0 Q.2.flows.length fd1) (.slice ie0 K5i.items.length ie1) (.slice sg0 K7.seqs.length sg1) (.string c.pre) (hzc) (by omega))
      rw [show (((((((we.setCell ⟨X,0,none⟩ (.slice p0 c.p.length p1)).setCell ⟨X,1,none⟩ (.int .i64 ((K7.at_:Nat):Int))).setCell ⟨X,2,none⟩ (.int .i64 ((K7.n:Nat):Int))).setCell ⟨X,3,none⟩ (.slice a0 c.parts.length a1)).setCell ⟨X,4,none⟩ (.slice fd0 Q.2.flows.length fd1)).setCell ⟨X,5,none⟩ (.slice ie0 K5i.items.length ie1)).setCell ⟨X,6,none⟩ (.slice sg0 K7.seqs.length sg1)).setCell ⟨X,7,none⟩ (.string c.pre)=(((((((we.setCell ⟨X,0,none⟩ (.slice p0 c.p.length p1)).setCell ⟨X,1,none⟩ (.int .i64 ((K7.at_:Nat):Int))).setCell ⟨X,2,none⟩ (.int .i64 ((K7.n:Nat):Int))).setCell ⟨X,3,none⟩ (.slice a0 c.parts.length a1)).setCell ⟨X,4,none⟩ (.slice fd0 Q.2.flows.length fd1)).setCell ⟨X,5,none⟩ (.slice ie0 K5i.items.length ie1)).setCell ⟨X,6,none⟩ (.slice sg0 K7.seqs.length sg1)).setCell ⟨X,7,none⟩ (.string c.pre) from rfl]
      generalize (((((((we.setCell ⟨X,0,none⟩ (.slice p0 c.p.length p1)).setCell ⟨X,1,none⟩ (.int .i64 ((K7.at_:Nat):Int))).setCell ⟨X,2,none⟩ (.int .i64 ((K7.n:Nat):Int))).setCell ⟨X,3,none⟩ (.slice a0 c.parts.length a1)).setCell ⟨X,4,none⟩ (.slice fd0 Q.2.flows.length fd1)).setCell ⟨X,5,none⟩ (.slice ie0 K5i.items.length ie1)).setCell ⟨X,6,none⟩ (.slice sg0 K7.seqs.length sg1)).setCell ⟨X,7,none⟩ (.string c.pre)=wf at *
      clear hbc hzc HMc HGc tX x0 x1 x2 x3 x4 x5 x6 x7 xf
      obtain ⟨x0,x1,x2,x3,x4,x5,x6,x7,xf⟩:=m8_cells HBwf.out
      have hX1:W.heap.size≤X+1:=by omega
      have HGate:Hid (Ch.partT c d a m=if (5:Int)=4∧pk / 1048576 % 4=0 then (gb,K8) else (gb,K7)):=Lib.hid (by
       rw [HK8.out,HK7.out,HK6.out,HK5i.out,HK5.out,Hgb.out,HQ.out,HP.out,HK3.out,HK2i.out,HK2.out,Hga.out,HK1.out,Hd'.out,Ch.partT,if_neg (fun h=>h.elim (fun h=>Hkd.out.2.1 (by rw [Hkk.out,Hpk.out];exact h)) (fun h=>Hkd.out.2.2 (by rw [HK1.out];exact h))),if_neg (by rw [← Hpk.out,← Hkk.out];exact HKk5.out)]
       rw [← Hpk.out]
       simp only [if_pos HKk7.out]
       rfl)
      have hfin:¬ ((5:Int)=4∧pk / 1048576 % 4=0):=by intro h;exact absurd h.1 (by decide)
      obtain ⟨y0,y1,y2,y3,y4,y5,y6,y7,yf⟩:=m8_cells HZwf.out
      go_upto_region 22 with fail
      go_region
      go_wp2_with fail
      have k:=m8_setD (w:=wf) (X:=X+1) (.slice p0 c.p.length p1) (.int .i64 ((K7.at_:Nat):Int)) (.int .i64 ((K7.n:Nat):Int)) (.slice a0 c.parts.length a1) (.slice fd0 Q.2.flows.length fd1) (.slice ie0 K5i.items.length ie1) (.slice sg0 K7.seqs.length sg1) (.string c.pre) HZwf.out
      have kg:=m8_grow (w:=wf) (X:=X+1) HGwf.out hX1 (.slice p0 c.p.length p1) (.int .i64 ((K7.at_:Nat):Int)) (.int .i64 ((K7.n:Nat):Int)) (.slice a0 c.parts.length a1) (.slice fd0 Q.2.flows.length fd1) (.slice ie0 K5i.items.length ie1) (.slice sg0 K7.seqs.length sg1) (.string c.pre)
      refine bodyPost_ret (part_res _ _ (X+1) _ _ _ _ _ _ _ _ _ rfl rfl k) rfl ?_
      unfold Ch.PartPost
      rw [HGate.out,if_neg hfin]
      exact ⟨_,_,_,rfl,(HMwf.out.ty (TY.blk HZwf.out) (m8_by wf (X+1) (.slice p0 c.p.length p1) (.int .i64 ((K7.at_:Nat):Int)) (.int .i64 ((K7.n:Nat):Int)) (.slice a0 c.parts.length a1) (.slice fd0 Q.2.flows.length fd1) (.slice ie0 K5i.items.length ie1) (.slice sg0 K7.seqs.length sg1) (.string c.pre)) (H.out.grow kg).p (by decide) (by decide) (by decide) (by decide) (by decide)).grow (Flow.grow_drew _),kg.trans (Flow.grow_drew _)⟩
     ·have d4:((kk:Int) == 7)=false:=by simp;omega
      have HKk7:Hid (¬ pk % 8=7):=Lib.hid (by rw [← Hkk.out];exact hk7)
      clear hk7
      obtain ⟨ga,hga⟩:∃ s,s=c.name ⟨#[103]⟩ (K1.n+1):=⟨_,rfl⟩
      obtain ⟨K2,hK2⟩:∃ K,K=K1.named:=⟨_,rfl⟩
      have HNa:=Lib.hid (name_any c K1 ⟨#[103]⟩ _ _ _ _ _ w3 (by have h1:=HRm.out.2.1;omega) (by decide) hc HMw3.out)
      rw [← hga,← hK2] at HNa
      have HM2:Hid (∀ w,Flow.Grow w3 w→Ch.MkAt w c K2 (.slice p0 c.p.length p1) (.slice a0 c.parts.length a1) (.slice f0 K1.flows.length f1) (.slice i0 K1.items.length i1) (.slice s0 K1.seqs.length s1)):=Lib.hid fun w g=>by rw [hK2];have k:=HMw3.out.grow g;exact ⟨k.p,k.parts,k.flows,k.items,k.seqs⟩
      obtain ⟨K2i,hK2i⟩:∃ K,K=K2.item (Ch.gate 4 ga):=⟨_,rfl⟩
      obtain ⟨K3,hK3⟩:∃ K,K=Ch.seqT c K2i a ga:=⟨_,rfl⟩
      have hB2:K2.items.length=K1.items.length∧K2i.n=K1.n+1∧K2i.seqs.length=K1.seqs.length:=by rw [hK2i,hK2];exact ⟨rfl,rfl,rfl⟩
      have hB3:K3.at_=K1.at_∧K3.n=K1.n+2∧K3.flows.length=K1.flows.length∧K3.items.length=K1.items.length+1∧K3.seqs.length=K1.seqs.length+1:=by rw [hK3,hK2i,hK2];exact ⟨rfl,rfl,rfl,by simp [Ch.seqT,Ch.Mk.named,Ch.Mk.item],by simp [Ch.seqT,Ch.Mk.named,Ch.Mk.item]⟩
      have HB2:=Lib.hid hB2
      have HB3:=Lib.hid hB3
      have HIt:=Lib.hid fun w (hm:Ch.MkAt w c K2 (.slice p0 c.p.length p1) (.slice a0 c.parts.length a1) (.slice f0 K1.flows.length f1) (.slice i0 K1.items.length i1) (.slice s0 K1.seqs.length s1))=>item_any c K2 (Ch.gate 4 ga) _ _ _ _ _ (.slice none 0 0) (.slice none 0 0) w (by have h1:=HRm.out.2.2.2.1;have h2:=HB2.out.1;omega) hm (World.ownsRow_nil _ _ _ _) (World.ownsRow_nil _ _ _ _)
      rw [← hK2i] at HIt
      have HSq:=Lib.hid fun (vf vi vs:Value) w (hm:Ch.MkAt w c K2i (.slice p0 c.p.length p1) (.slice a0 c.parts.length a1) vf vi vs)=>seq_any c K2i a ga _ _ vf vi vs w (by have h1:=HRm.out.2.1;have h2:=HB2.out.2.1;omega) (by have h1:=HRm.out.2.2.2.2;have h2:=HB2.out.2.2;omega) hc hm
      rw [← hK3] at HSq
      have Hga:=Lib.hid hga
      have HK2:=Lib.hid hK2
      have HK2i:=Lib.hid hK2i
      have HK3:=Lib.hid hK3
      clear hga hK2 hK2i hK3 hB2 hB3
      simp only [Ch.mc,Ch.ic,Ch.gate] at HNa HIt HSq
      have HRoom3:Hid (Ch.Room K3 q):=Lib.hid ⟨by have h1:=HRm.out.1;have h2:=HB3.out.1;have h3:=HNat.out;have h4:=HB1.out.2;omega,by have h1:=HRm.out.2.1;have h2:=HB3.out.2.1;have h3:=HNat.out;omega,by have h1:=HRm.out.2.2.1;have h2:=HB3.out.2.2.1;have h3:=HNat.out;omega,by have h1:=HRm.out.2.2.2.1;have h2:=HB3.out.2.2.2.1;have h3:=HNat.out;omega,by have h1:=HRm.out.2.2.2.2;have h2:=HB3.out.2.2.2.2;have h3:=HNat.out;omega⟩
      have HBw3':=HBw3
      go_upto_region 15 with (go_at_call 41;refine HNa.out.mono ?_;rintro e w4 ⟨rfl,hg⟩;have hm:=HM2.out w4 hg;have HMc:=Lib.hid hm;have HGc:=Lib.hid (HGw3.out.trans hg);have hbc:=heap_keep hg HBw3.out;have hzc:=heap_keep hg HZ3.out;clear hm hg;obtain ⟨y0,y1,y2,y3,y4,y5,y6,y7,yf⟩:=m8_cells hbc)
      clear y0 y1 y2 y3 y4 y5 y6 y7 yf
      have tX:=TY.blk hbc
      have HMw5:=Lib.hid (HMc.out.ty tX (m8_by w4 X (.slice p0 c.p.length p1) (.int .i64 ((K2.at_:Nat):Int)) (.int .i64 ((K2.n:Nat):Int)) (.slice a0 c.parts.length a1) (.slice f0 K1.flows.length f1) (.slice i0 K1.items.length i1) (.slice s0 K1.seqs.length s1) (.string c.pre)) (H.out.grow (m8_grow (w:=w4) (X:=X) HGc.out hX (.slice p0 c.p.length p1) (.int .i64 ((K2.at_:Nat):Int)) (.int .i64 ((K2.n:Nat):Int)) (.slice a0 c.parts.length a1) (.slice f0 K1.flows.length f1) (.slice i0 K1.items.length i1) (.slice s0 K1.seqs.length s1) (.string c.pre))).p (by decide) (by decide) (by decide) (by decide) (by decide))
      have HBw5:=Lib.hid (m8_set (w:=w4) (X:=X) (.slice p0 c.p.length p1) (.int .i64 ((K2.at_:Nat):Int)) (.int .i64 ((K2.n:Nat):Int)) (.slice a0 c.parts.length a1) (.slice f0 K1.flows.length f1) (.slice i0 K1.items.length i1) (.slice s0 K1.seqs.length s1) (.string c.pre) hbc)
      have HGw5:=Lib.hid (m8_grow (w:=w4) (X:=X) (HGc.out) (hX) (.slice p0 c.p.length p1) (.int .i64 ((K2.at_:Nat):Int)) (.int .i64 ((K2.n:Nat):Int)) (.slice a0 c.parts.length a1) (.slice f0 K1.flows.length f1) (.slice i0 K1.items.length i1) (.slice s0 K1.seqs.length s1) (.string c.pre))
      have HZw5:=Lib.hid (m8_other (w:=w4) (X:=X) (.slice p0 c.p.length p1) (.int .i64 ((K2.at_:Nat):Int)) (.int .i64 ((K2.n:Nat):Int)) (.slice a0 c.parts.length a1) (.slice f0 K1.flows.length f1) (.slice i0 K1.items.length i1) (.slice s0 K1.seqs.length s1) (.string c.pre) (hzc) (by omega))
      rw [show (((((((w4.setCell ⟨X,0,none⟩ (.slice p0 c.p.length p1)).setCell ⟨X,1,none⟩ (.int .i64 ((K2.at_:Nat):Int))).setCell ⟨X,2,none⟩ (.int .i64 ((K2.n:Nat):Int))).setCell ⟨X,3,none⟩ (.slice a0 c.parts.length a1)).setCell ⟨X,4,none⟩ (.slice f0 K1.flows.length f1)).setCell ⟨X,5,none⟩ (.slice i0 K1.items.length i1)).setCell ⟨X,6,none⟩ (.slice s0 K1.seqs.length s1)).setCell ⟨X,7,none⟩ (.string c.pre)=(((((((w4.setCell ⟨X,0,none⟩ (.slice p0 c.p.length p1)).setCell ⟨X,1,none⟩ (.int .i64 ((K2.at_:Nat):Int))).setCell ⟨X,2,none⟩ (.int .i64 ((K2.n:Nat):Int))).setCell ⟨X,3,none⟩ (.slice a0 c.parts.length a1)).setCell ⟨X,4,none⟩ (.slice f0 K1.flows.length f1)).setCell ⟨X,5,none⟩ (.slice i0 K1.items.length i1)).setCell ⟨X,6,none⟩ (.slice s0 K1.seqs.length s1)).setCell ⟨X,7,none⟩ (.string c.pre) from rfl]
      generalize (((((((w4.setCell ⟨X,0,none⟩ (.slice p0 c.p.length p1)).setCell ⟨X,1,none⟩ (.int .i64 ((K2.at_:Nat):Int))).setCell ⟨X,2,none⟩ (.int .i64 ((K2.n:Nat):Int))).setCell ⟨X,3,none⟩ (.slice a0 c.parts.length a1)).setCell ⟨X,4,none⟩ (.slice f0 K1.flows.length f1)).setCell ⟨X,5,none⟩ (.slice i0 K1.items.length i1)).setCell ⟨X,6,none⟩ (.slice s0 K1.seqs.length s1)).setCell ⟨X,7,none⟩ (.string c.pre)=w5 at *
      clear hbc hzc HMc HGc tX x0 x1 x2 x3 x4 x5 x6 x7 xf
      obtain ⟨x0,x1,x2,x3,x4,x5,x6,x7,xf⟩:=m8_cells HBw5.out
      go_upto_region 16 with (first
       | (go_at_call 42;refine (HIt.out w5 HMw5.out).mono ?_;rintro e wi ⟨vi',rfl,hm,hg⟩;obtain ⟨n0,n1,ib0,ib1,n4,n5,e1,e2,e3⟩:=hm.forms3;subst e2;clear e1 e3;have HMi:=Lib.hid hm;have HGi:=Lib.hid hg;clear hm hg)
       | (go_at_call 44;refine (HSq.out _ _ _ wi HMi.out).mono ?_;rintro e w6 ⟨vs',rfl,hm,hg'⟩;obtain ⟨n6,n7,n8,n9,sb0,sb1,e1,e2,e3⟩:=hm.forms3;subst e3;clear e1 e2;have hg:=HGi.out.trans hg';have HMc:=Lib.hid hm;have HGc:=Lib.hid (HGw5.out.trans hg);have hbc:=heap_keep hg HBw5.out;have hzc:=heap_keep hg HZw5.out;clear hm hg hg';obtain ⟨y0,y1,y2,y3,y4,y5,y6,y7,yf⟩:=m8_cells hbc))
      clear y0 y1 y2 y3 y4 y5 y6 y7 yf HMi HGi
      have tX:=TY.blk hbc
      have HMw7:=Lib.hid (HMc.out.ty tX (m8_by w6 X (.slice p0 c.p.length p1) (.int .i64 ((K3.at_:Nat):Int)) (.int .i64 ((K3.n:Nat):Int)) (.slice a0 c.parts.length a1) (.slice f0 K1.flows.length f1) (.slice ib0 K2i.items.length ib1) (.slice sb0 K3.seqs.length sb1) (.string c.pre)) (H.out.grow (m8_grow (w:=w6) (X:=X) HGc.out hX (.slice p0 c.p.length p1) (.int .i64 ((K3.at_:Nat):Int)) (.int .i64 ((K3.n:Nat):Int)) (.slice a0 c.parts.length a1) (.slice f0 K1.flows.length f1) (.slice ib0 K2i.items.length ib1) (.slice sb0 K3.seqs.length sb1) (.string c.pre))).p (by decide) (by decide) (by decide) (by decide) (by decide))
      have HBw7:=Lib.hid (m8_set (w:=w6) (X:=X) (.slice p0 c.p.length p1) (.int .i64 ((K3.at_:Nat):Int)) (.int .i64 ((K3.n:Nat):Int)) (.slice a0 c.parts.length a1) (.slice f0 K1.flows.length f1) (.slice ib0 K2i.items.length ib1) (.slice sb0 K3.seqs.length sb1) (.string c.pre) hbc)
      have HGw7:=Lib.hid (m8_grow (w:=w6) (X:=X) (HGc.out) (hX) (.slice p0 c.p.length p1) (.int .i64 ((K3.at_:Nat):Int)) (.int .i64 ((K3.n:Nat):Int)) (.slice a0 c.parts.length a1) (.slice f0 K1.flows.length f1) (.slice ib0 K2i.items.length ib1) (.slice sb0 K3.seqs.length sb1) (.string c.pre))
      have HZw7:=Lib.hid (m8_other (w:=w6) (X:=X) (.slice p0 c.p.length p1) (.int .i64 ((K3.at_:Nat):Int)) (.int .i64 ((K3.n:Nat):Int)) (.slice a0 c.parts.length a1) (.slice f0 K1.flows.length f1) (.slice ib0 K2i.items.length ib1) (.slice sb0 K3.seqs.length sb1) (.string c.pre) (hzc) (by omega))
      rw [show (((((((w6.setCell ⟨X,0,none⟩ (.slice p0 c.p.length p1)).setCell ⟨X,1,none⟩ (.int .i64 ((K3.at_:Nat):Int))).setCell ⟨X,2,none⟩ (.int .i64 ((K3.n:Nat):Int))).setCell ⟨X,3,none⟩ (.slice a0 c.parts.length a1)).setCell ⟨X,4,none⟩ (.slice f0 K1.flows.length f1)).setCell ⟨X,5,none⟩ (.slice ib0 K2i.items.length ib1)).setCell ⟨X,6,none⟩ (.slice sb0 K3.seqs.length sb1)).setCell ⟨X,7,none⟩ (.string c.pre)=(((((((w6.setCell ⟨X,0,none⟩ (.slice p0 c.p.length p1)).setCell ⟨X,1,none⟩ (.int .i64 ((K3.at_:Nat):Int))).setCell ⟨X,2,none⟩ (.int .i64 ((K3.n:Nat):Int))).setCell ⟨X,3,none⟩ (.slice a0 c.parts.length a1)).setCell ⟨X,4,none⟩ (.slice f0 K1.flows.length f1)).setCell ⟨X,5,none⟩ (.slice ib0 K2i.items.length ib1)).setCell ⟨X,6,none⟩ (.slice sb0 K3.seqs.length sb1)).setCell ⟨X,7,none⟩ (.string c.pre) from rfl]
      generalize (((((((w6.setCell ⟨X,0,none⟩ (.slice p0 c.p.length p1)).setCell ⟨X,1,none⟩ (.int .i64 ((K3.at_:Nat):Int))).setCell ⟨X,2,none⟩ (.int .i64 ((K3.n:Nat):Int))).setCell ⟨X,3,none⟩ (.slice a0 c.parts.length a1)).setCell ⟨X,4,none⟩ (.slice f0 K1.flows.length f1)).setCell ⟨X,5,none⟩ (.slice ib0 K2i.items.length ib1)).setCell ⟨X,6,none⟩ (.slice sb0 K3.seqs.length sb1)).setCell ⟨X,7,none⟩ (.string c.pre)=w7 at *
      clear hbc hzc HMc HGc tX x0 x1 x2 x3 x4 x5 x6 x7 xf
      obtain ⟨x0,x1,x2,x3,x4,x5,x6,x7,xf⟩:=m8_cells HBw7.out
      obtain ⟨P,hP⟩:∃ P,P=Ch.partT c d' ga K3:=⟨_,rfl⟩
      have HR1:=Lib.hid (HRc.out K3 ga _ _ _ _ _ w7 HRoom3.out HMw7.out)
      rw [← hP] at HR1
      have HUp:=Lib.hid (Ch.part_up c d' ga K3)
      rw [← hP,← Hq.out] at HUp
      have HP:=Lib.hid hP
      clear hP
      go_upto_region 17 with (go_at_call 43;refine HR1.out.mono ?_;rintro e w8 ⟨vf',vi',vs',rfl,hm,hg⟩;obtain ⟨fc0,fc1,ic0,ic1,sc0,sc1,e1,e2,e3⟩:=hm.forms3;subst e1 e2 e3;have HMc:=Lib.hid hm;have HGc:=Lib.hid (HGw7.out.trans hg);have hbc:=heap_keep hg HBw7.out;have hzc:=heap_keep hg HZw7.out;clear hm hg;obtain ⟨y0,y1,y2,y3,y4,y5,y6,y7,yf⟩:=m8_cells hbc)
      clear y0 y1 y2 y3 y4 y5 y6 y7 yf
      have tX:=TY.blk hbc
      have HMw9:=Lib.hid (HMc.out.ty tX (m8_by w8 X (.slice p0 c.p.length p1) (.int .i64 ((P.2.at_:Nat):Int)) (.int .i64 ((P.2.n:Nat):Int)) (.slice a0 c.parts.length a1) (.slice fc0 P.2.flows.length fc1) (.slice ic0 P.2.items.length ic1) (.slice sc0 P.2.seqs.length sc1) (.string c.pre)) (H.out.grow (m8_grow (w:=w8) (X:=X) HGc.out hX (.slice p0 c.p.length p1) (.int .i64 ((P.2.at_:Nat):Int)) (.int .i64 ((P.2.n:Nat):Int)) (.slice a0 c.parts.length a1) (.slice fc0 P.2.flows.length fc1) (.slice ic0 P.2.items.length ic1) (.slice sc0 P.2.seqs.length sc1) (.string c.pre))).p (by decide) (by decide) (by decide) (by decide) (by decide))
      have HBw9:=Lib.hid (m8_set (w:=w8) (X:=X) (.slice p0 c.p.length p1) (.int .i64 ((P.2.at_:Nat):Int)) (.int .i64 ((P.2.n:Nat):Int)) (.slice a0 c.parts.length a1) (.slice fc0 P.2.flows.length fc1) (.slice ic0 P.2.items.length ic1) (.slice sc0 P.2.seqs.length sc1) (.string c.pre) hbc)
      have HGw9:=Lib.hid (m8_grow (w:=w8) (X:=X) (HGc.out) (hX) (.slice p0 c.p.length p1) (.int .i64 ((P.2.at_:Nat):Int)) (.int .i64 ((P.2.n:Nat):Int)) (.slice a0 c.parts.length a1) (.slice fc0 P.2.flows.length fc1) (.slice ic0 P.2.items.length ic1) (.slice sc0 P.2.seqs.length sc1) (.string c.pre))
      have HZw9:=Lib.hid (m8_other (w:=w8) (X:=X) (.slice p0 c.p.length p1) (.int .i64 ((P.2.at_:Nat):Int)) (.int .i64 ((P.2.n:Nat):Int)) (.slice a0 c.parts.length a1) (.slice fc0 P.2.flows.length fc1) (.slice ic0 P.2.items.length ic1) (.slice sc0 P.2.seqs.length sc1) (.string c.pre) (hzc) (by omega))
      rw [show (((((((w8.setCell ⟨X,0,none⟩ (.slice p0 c.p.length p1)).setCell ⟨X,1,none⟩ (.int .i64 ((P.2.at_:Nat):Int))).setCell ⟨X,2,none⟩ (.int .i64 ((P.2.n:Nat):Int))).setCell ⟨X,3,none⟩ (.slice a0 c.parts.length a1)).setCell ⟨X,4,none⟩ (.slice fc0 P.2.flows.length fc1)).setCell ⟨X,5,none⟩ (.slice ic0 P.2.items.length ic1)).setCell ⟨X,6,none⟩ (.slice sc0 P.2.seqs.length sc1)).setCell ⟨X,7,none⟩ (.string c.pre)=(((((((w8.setCell ⟨X,0,none⟩ (.slice p0 c.p.length p1)).setCell ⟨X,1,none⟩ (.int .i64 ((P.2.at_:Nat):Int))).setCell ⟨X,2,none⟩ (.int .i64 ((P.2.n:Nat):Int))).setCell ⟨X,3,none⟩ (.slice a0 c.parts.length a1)).setCell ⟨X,4,none⟩ (.slice fc0 P.2.flows.length fc1)).setCell ⟨X,5,none⟩ (.slice ic0 P.2.items.length ic1)).setCell ⟨X,6,none⟩ (.slice sc0 P.2.seqs.length sc1)).setCell ⟨X,7,none⟩ (.string c.pre) from rfl]
      generalize (((((((w8.setCell ⟨X,0,none⟩ (.slice p0 c.p.length p1)).setCell ⟨X,1,none⟩ (.int .i64 ((P.2.at_:Nat):Int))).setCell ⟨X,2,none⟩ (.int .i64 ((P.2.n:Nat):Int))).setCell ⟨X,3,none⟩ (.slice a0 c.parts.length a1)).setCell ⟨X,4,none⟩ (.slice fc0 P.2.flows.length fc1)).setCell ⟨X,5,none⟩ (.slice ic0 P.2.items.length ic1)).setCell ⟨X,6,none⟩ (.slice sc0 P.2.seqs.length sc1)).setCell ⟨X,7,none⟩ (.string c.pre)=w9 at *
      clear hbc hzc HMc HGc tX x0 x1 x2 x3 x4 x5 x6 x7 xf
      obtain ⟨x0,x1,x2,x3,x4,x5,x6,x7,xf⟩:=m8_cells HBw9.out
      obtain ⟨Q,hQ⟩:∃ Q,Q=Ch.partT c d' ga P.2:=⟨_,rfl⟩
      have HRoomP:Hid (Ch.Room P.2 q):=Lib.hid ⟨by have h1:=HUp.out.at_;have h2:=HRm.out.1;have h3:=HNat.out;have h4:=HB1.out.2;have h5:=HB3.out.1;omega,by have h1:=HUp.out.n;have h2:=HRm.out.2.1;have h3:=HNat.out;have h5:=HB3.out.2.1;omega,by have h1:=HUp.out.flows;have h2:=HRm.out.2.2.1;have h3:=HNat.out;have h5:=HB3.out.2.2.1;omega,by have h1:=HUp.out.items;have h2:=HRm.out.2.2.2.1;have h3:=HNat.out;have h5:=HB3.out.2.2.2.1;omega,by have h1:=HUp.out.seqs;have h2:=HRm.out.2.2.2.2;have h3:=HNat.out;have h5:=HB3.out.2.2.2.2;omega⟩
      have HR2:=Lib.hid (HRc.out P.2 ga _ _ _ _ _ w9 HRoomP.out HMw9.out)
      rw [← hQ] at HR2
      have HUq:=Lib.hid (Ch.part_up c d' ga P.2)
      rw [← hQ,← Hq.out] at HUq
      have HQ:=Lib.hid hQ
      clear hQ
      go_upto_region 18 with (go_at_call 43;refine HR2.out.mono ?_;rintro e wa ⟨vf',vi',vs',rfl,hm,hg⟩;obtain ⟨fd0,fd1,id0,id1,sd0,sd1,e1,e2,e3⟩:=hm.forms3;subst e1 e2 e3;have HMc:=Lib.hid hm;have HGc:=Lib.hid (HGw9.out.trans hg);have hbc:=heap_keep hg HBw9.out;have hzc:=heap_keep hg HZw9.out;clear hm hg;obtain ⟨y0,y1,y2,y3,y4,y5,y6,y7,yf⟩:=m8_cells hbc)
      clear y0 y1 y2 y3 y4 y5 y6 y7 yf
      have tX:=TY.blk hbc
      have HMwb:=Lib.hid (HMc.out.ty tX (m8_by wa X (.slice p0 c.p.length p1) (.int .i64 ((Q.2.at_:Nat):Int)) (.int .i64 ((Q.2.n:Nat):Int)) (.slice a0 c.parts.length a1) (.slice fd0 Q.2.flows.length fd1) (.slice id0 Q.2.items.length id1) (.slice sd0 Q.2.seqs.length sd1) (.string c.pre)) (H.out.grow (m8_grow (w:=wa) (X:=X) HGc.out hX (.slice p0 c.p.length p1) (.int .i64 ((Q.2.at_:Nat):Int)) (.int .i64 ((Q.2.n:Nat):Int)) (.slice a0 c.parts.length a1) (.slice fd0 Q.2.flows.length fd1) (.slice id0 Q.2.items.length id1) (.slice sd0 Q.2.seqs.length sd1) (.string c.pre))).p (by decide) (by decide) (by decide) (by decide) (by decide))
      have HBwb:=Lib.hid (m8_set (w:=wa) (X:=X) (.slice p0 c.p.length p1) (.int .i64 ((Q.2.at_:Nat):Int)) (.int .i64 ((Q.2.n:Nat):Int)) (.slice a0 c.parts.length a1) (.slice fd0 Q.2.flows.length fd1) (.slice id0 Q.2.items.length id1) (.slice sd0 Q.2.seqs.length sd1) (.string c.pre) hbc)
      have HGwb:=Lib.hid (m8_grow (w:=wa) (X:=X) (HGc.out) (hX) (.slice p0 c.p.length p1) (.int .i64 ((Q.2.at_:Nat):Int)) (.int .i64 ((Q.2.n:Nat):Int)) (.slice a0 c.parts.length a1) (.slice fd0 Q.2.flows.length fd1) (.slice id0 Q.2.items.length id1) (.slice sd0 Q.2.seqs.length sd1) (.string c.pre))
      have HZwb:=Lib.hid (m8_other (w:=wa) (X:=X) (.slice p0 c.p.length p1) (.int .i64 ((Q.2.at_:Nat):Int)) (.int .i64 ((Q.2.n:Nat):Int)) (.slice a0 c.parts.length a1) (.slice fd0 Q.2.flows.length fd1) (.slice id0 Q.2.items.length id1) (.slice sd0 Q.2.seqs.length sd1) (.string c.pre) (hzc) (by omega))
      rw [show (((((((wa.setCell ⟨X,0,none⟩ (.slice p0 c.p.length p1)).setCell ⟨X,1,none⟩ (.int .i64 ((Q.2.at_:Nat):Int))).setCell ⟨X,2,none⟩ (.int .i64 ((Q.2.n:Nat):Int))).setCell ⟨X,3,none⟩ (.slice a0 c.parts.length a1)).setCell ⟨X,4,none⟩ (.slice fd0 Q.2.flows.length fd1)).setCell ⟨X,5,none⟩ (.slice id0 Q.2.items.length id1)).setCell ⟨X,6,none⟩ (.slice sd0 Q.2.seqs.length sd1)).setCell ⟨X,7,none⟩ (.string c.pre)=(((((((wa.setCell ⟨X,0,none⟩ (.slice p0 c.p.length p1)).setCell ⟨X,1,none⟩ (.int .i64 ((Q.2.at_:Nat):Int))).setCell ⟨X,2,none⟩ (.int .i64 ((Q.2.n:Nat):Int))).setCell ⟨X,3,none⟩ (.slice a0 c.parts.length a1)).setCell ⟨X,4,none⟩ (.slice fd0 Q.2.flows.length fd1)).setCell ⟨X,5,none⟩ (.slice id0 Q.2.items.length id1)).setCell ⟨X,6,none⟩ (.slice sd0 Q.2.seqs.length sd1)).setCell ⟨X,7,none⟩ (.string c.pre) from rfl]
      generalize (((((((wa.setCell ⟨X,0,none⟩ (.slice p0 c.p.length p1)).setCell ⟨X,1,none⟩ (.int .i64 ((Q.2.at_:Nat):Int))).setCell ⟨X,2,none⟩ (.int .i64 ((Q.2.n:Nat):Int))).setCell ⟨X,3,none⟩ (.slice a0 c.parts.length a1)).setCell ⟨X,4,none⟩ (.slice fd0 Q.2.flows.length fd1)).setCell ⟨X,5,none⟩ (.slice id0 Q.2.items.length id1)).setCell ⟨X,6,none⟩ (.slice sd0 Q.2.seqs.length sd1)).setCell ⟨X,7,none⟩ (.string c.pre)=wb at *
      clear hbc hzc HMc HGc tX x0 x1 x2 x3 x4 x5 x6 x7 xf
      obtain ⟨x0,x1,x2,x3,x4,x5,x6,x7,xf⟩:=m8_cells HBwb.out
      have HQb:Hid (Q.2.n+2≤10000∧Q.2.items.length≤10000∧Q.2.seqs.length+3≤10000):=Lib.hid ⟨by have h1:=HUq.out.n;have h2:=HRoomP.out.n;omega,by have h1:=HUq.out.items;have h2:=HRoomP.out.items;omega,by have h1:=HUq.out.seqs;have h2:=HRoomP.out.seqs;omega⟩
      obtain ⟨gb,hgb⟩:∃ s,s=c.name ⟨#[103]⟩ (Q.2.n+1):=⟨_,rfl⟩
      obtain ⟨K5,hK5⟩:∃ K,K=Q.2.named:=⟨_,rfl⟩
      have HNb:=Lib.hid (name_any c Q.2 ⟨#[103]⟩ _ _ _ _ _ wb (by have h1:=HQb.out.1;omega) (by decide) hc HMwb.out)
      rw [← hgb,← hK5] at HNb
      have HM5:Hid (∀ w,Flow.Grow wb w→Ch.MkAt w c K5 (.slice p0 c.p.length p1) (.slice a0 c.parts.length a1) (.slice fd0 Q.2.flows.length fd1) (.slice id0 Q.2.items.length id1) (.slice sd0 Q.2.seqs.length sd1)):=Lib.hid fun w g=>by rw [hK5];have k:=HMwb.out.grow g;exact ⟨k.p,k.parts,k.flows,k.items,k.seqs⟩
      obtain ⟨K5i,hK5i⟩:∃ K,K=K5.item (Ch.gate 4 gb):=⟨_,rfl⟩
      obtain ⟨K6,hK6⟩:∃ K,K=Ch.seqT c K5i P.1 gb:=⟨_,rfl⟩
      obtain ⟨K7,hK7⟩:∃ K,K=Ch.seqT c K6 Q.1 gb:=⟨_,rfl⟩
      have hB5:K5.items.length=Q.2.items.length∧K5i.n=Q.2.n+1∧K5i.seqs.length=Q.2.seqs.length∧K6.n=Q.2.n+2∧K6.seqs.length=Q.2.seqs.length+1∧K7.n=Q.2.n+3∧K7.seqs.length=Q.2.seqs.length+2:=by rw [hK7,hK6,hK5i,hK5];exact ⟨rfl,rfl,rfl,rfl,by simp [Ch.seqT,Ch.Mk.named,Ch.Mk.item],rfl,by simp [Ch.seqT,Ch.Mk.named,Ch.Mk.item]⟩
      have HB5:=Lib.hid hB5
      have HIt2:=Lib.hid fun w (hm:Ch.MkAt w c K5 (.slice p0 c.p.length p1) (.slice a0 c.parts.length a1) (.slice fd0 Q.2.flows.length fd1) (.slice id0 Q.2.items.length id1) (.slice sd0 Q.2.seqs.length sd1))=>item_any c K5 (Ch.gate 4 gb) _ _ _ _ _ (.slice none 0 0) (.slice none 0 0) w (by have h1:=HQb.out.2.1;have h2:=HB5.out.1;omega) hm (World.ownsRow_nil _ _ _ _) (World.ownsRow_nil _ _ _ _)
      rw [← hK5i] at HIt2
      have HSq2:=Lib.hid fun (vf vi vs:Value) w (hm:Ch.MkAt w c K5i (.slice p0 c.p.length p1) (.slice a0 c.parts.length a1) vf vi vs)=>seq_any c K5i P.1 gb _ _ vf vi vs w (by have h1:=HQb.out.1;have h2:=HB5.out.2.1;omega) (by have h1:=HQb.out.2.2;have h2:=HB5.out.2.2.1;omega) hc hm
      rw [← hK6] at HSq2
      have HSq3:=Lib.hid fun (vf vi vs:Value) w (hm:Ch.MkAt w c K6 (.slice p0 c.p.length p1) (.slice a0 c.parts.length a1) vf vi vs)=>seq_any c K6 Q.1 gb _ _ vf vi vs w (by have h1:=HQb.out.1;have h2:=HB5.out.2.2.2.1;omega) (by have h1:=HQb.out.2.2;have h2:=HB5.out.2.2.2.2.1;omega) hc hm
      rw [← hK7] at HSq3
      have HSq4:=Lib.hid fun (vf vi vs:Value) w (hm:Ch.MkAt w c K7 (.slice p0 c.p.length p1) (.slice a0 c.parts.length a1) vf vi vs)=>seq_any c K7 gb ga _ _ vf vi vs w (by have h1:=HQb.out.1;have h2:=HB5.out.2.2.2.2.2.1;omega) (by have h1:=HQb.out.2.2;have h2:=HB5.out.2.2.2.2.2.2;omega) hc hm
      obtain ⟨K8,hK8⟩:∃ K,K=Ch.seqT c K7 gb ga:=⟨_,rfl⟩
      rw [← hK8] at HSq4
      have Hgb:=Lib.hid hgb
      have HK5:=Lib.hid hK5
      have HK5i:=Lib.hid hK5i
      have HK6:=Lib.hid hK6
      have HK7:=Lib.hid hK7
      have HK8:=Lib.hid hK8
      clear hgb hK5 hK5i hK6 hK7 hK8 hB5
      simp only [Ch.mc,Ch.ic,Ch.gate] at HNb HIt2 HSq2 HSq3 HSq4
      go_upto_region 19 with (go_at_call 41;refine HNb.out.mono ?_;rintro e wc ⟨rfl,hg⟩;have hm:=HM5.out wc hg;have HMc:=Lib.hid hm;have HGc:=Lib.hid (HGwb.out.trans hg);have hbc:=heap_keep hg HBwb.out;have hzc:=heap_keep hg HZwb.out;clear hm hg;obtain ⟨y0,y1,y2,y3,y4,y5,y6,y7,yf⟩:=m8_cells hbc)
      clear y0 y1 y2 y3 y4 y5 y6 y7 yf
      have tX:=TY.blk hbc
      have HMwd:=Lib.hid (HMc.out.ty tX (m8_by wc X (.slice p0 c.p.length p1) (.int .i64 ((K5.at_:Nat):Int)) (.int .i64 ((K5.n:Nat):Int)) (.slice a0 c.parts.length a1) (.slice fd0 Q.2.flows.length fd1) (.slice id0 Q.2.items.length id1) (.slice sd0 Q.2.seqs.length sd1) (.string c.pre)) (H.out.grow (m8_grow (w:=wc) (X:=X) HGc.out hX (.slice p0 c.p.length p1) (.int .i64 ((K5.at_:Nat):Int)) (.int .i64 ((K5.n:Nat):Int)) (.slice a0 c.parts.length a1) (.slice fd0 Q.2.flows.length fd1) (.slice id0 Q.2.items.length id1) (.slice sd0 Q.2.seqs.length sd1) (.string c.pre))).p (by decide) (by decide) (by decide) (by decide) (by decide))
      have HBwd:=Lib.hid (m8_set (w:=wc) (X:=X) (.slice p0 c.p.length p1) (.int .i64 ((K5.at_:Nat):Int)) (.int .i64 ((K5.n:Nat):Int)) (.slice a0 c.parts.length a1) (.slice fd0 Q.2.flows.length fd1) (.slice id0 Q.2.items.length id1) (.slice sd0 Q.2.seqs.length sd1) (.string c.pre) hbc)
      have HGwd:=Lib.hid (m8_grow (w:=wc) (X:=X) (HGc.out) (hX) (.slice p0 c.p.length p1) (.int .i64 ((K5.at_:Nat):Int)) (.int .i64 ((K5.n:Nat):Int)) (.slice a0 c.parts.length a1) (.slice fd0 Q.2.flows.length fd1) (.slice id0 Q.2.items.length id1) (.slice sd0 Q.2.seqs.length sd1) (.string c.pre))
      have HZwd:=Lib.hid (m8_other (w:=wc) (X:=X) (.slice p0 c.p.length p1) (.int .i64 ((K5.at_:Nat):Int)) (.int .i64 ((K5.n:Nat):Int)) (.slice a0 c.parts.length a1) (.slice fd0 Q.2.flows.length fd1) (.slice id0 Q.2.items.length id1) (.slice sd0 Q.2.seqs.length sd1) (.string c.pre) (hzc) (by omega))
      rw [show (((((((wc.setCell ⟨X,0,none⟩ (.slice p0 c.p.length p1)).setCell ⟨X,1,none⟩ (.int .i64 ((K5.at_:Nat):Int))).setCell ⟨X,2,none⟩ (.int .i64 ((K5.n:Nat):Int))).setCell ⟨X,3,none⟩ (.slice a0 c.parts.length a1)).setCell ⟨X,4,none⟩ (.slice fd0 Q.2.flows.length fd1)).setCell ⟨X,5,none⟩ (.slice id0 Q.2.items.length id1)).setCell ⟨X,6,none⟩ (.slice sd0 Q.2.seqs.length sd1)).setCell ⟨X,7,none⟩ (.string c.pre)=(((((((wc.setCell ⟨X,0,none⟩ (.slice p0 c.p.length p1)).setCell ⟨X,1,none⟩ (.int .i64 ((K5.at_:Nat):Int))).setCell ⟨X,2,none⟩ (.int .i64 ((K5.n:Nat):Int))).setCell ⟨X,3,none⟩ (.slice a0 c.parts.length a1)).setCell ⟨X,4,none⟩ (.slice fd0 Q.2.flows.length fd1)).setCell ⟨X,5,none⟩ (.slice id0 Q.2.items.length id1)).setCell ⟨X,6,none⟩ (.slice sd0 Q.2.seqs.length sd1)).setCell ⟨X,7,none⟩ (.string c.pre) from rfl]
      generalize (((((((wc.setCell ⟨X,0,none⟩ (.slice p0 c.p.length p1)).setCell ⟨X,1,none⟩ (.int .i64 ((K5.at_:Nat):Int))).setCell ⟨X,2,none⟩ (.int .i64 ((K5.n:Nat):Int))).setCell ⟨X,3,none⟩ (.slice a0 c.parts.length a1)).setCell ⟨X,4,none⟩ (.slice fd0 Q.2.flows.length fd1)).setCell ⟨X,5,none⟩ (.slice id0 Q.2.items.length id1)).setCell ⟨X,6,none⟩ (.slice sd0 Q.2.seqs.length sd1)).setCell ⟨X,7,none⟩ (.string c.pre)=wd at *
      clear hbc hzc HMc HGc tX x0 x1 x2 x3 x4 x5 x6 x7 xf
      obtain ⟨x0,x1,x2,x3,x4,x5,x6,x7,xf⟩:=m8_cells HBwd.out
      go_upto_region 20 with (first
       | (go_at_call 42;refine (HIt2.out wd HMwd.out).mono ?_;rintro e wi ⟨vi',rfl,hm,hg⟩;obtain ⟨n0,n1,ie0,ie1,n4,n5,e1,e2,e3⟩:=hm.forms3;subst e2;clear e1 e3;have HMi:=Lib.hid hm;have HGi:=Lib.hid hg;clear hm hg)
       | (go_at_call 44;refine (HSq3.out _ _ _ wj HMj.out).mono ?_;rintro e we ⟨vs',rfl,hm,hg'⟩;obtain ⟨n6,n7,n8,n9,sg0,sg1,e1,e2,e3⟩:=hm.forms3;subst e3;clear e1 e2;have hg:=HGj.out.trans hg';have HMc:=Lib.hid hm;have HGc:=Lib.hid (HGwd.out.trans hg);have hbc:=heap_keep hg HBwd.out;have hzc:=heap_keep hg HZwd.out;clear hm hg hg';obtain ⟨y0,y1,y2,y3,y4,y5,y6,y7,yf⟩:=m8_cells hbc)
       | (go_at_call 44;refine (HSq2.out _ _ _ wi HMi.out).mono ?_;rintro e wj ⟨vs',rfl,hm,hg'⟩;obtain ⟨n6,n7,n8,n9,se0,se1,e1,e2,e3⟩:=hm.forms3;subst e3;clear e1 e2;have HMj:=Lib.hid hm;have HGj:=Lib.hid (HGi.out.trans hg');clear hm hg'))
      clear y0 y1 y2 y3 y4 y5 y6 y7 yf HMi HGi HMj HGj
      have tX:=TY.blk hbc
      have HMwf:=Lib.hid (HMc.out.ty tX (m8_by we X (.slice p0 c.p.length p1) (.int .i64 ((K7.at_:Nat):Int)) (.int .i64 ((K7.n:Nat):Int)) (.slice a0 c.parts.length a1) (.slice fd0 Q.2.flows.length fd1) (.slice ie0 K5i.items.length ie1) (.slice sg0 K7.seqs.length sg1) (.string c.pre)) (H.out.grow (m8_grow (w:=we) (X:=X) HGc.out hX (.slice p0 c.p.length p1) (.int .i64 ((K7.at_:Nat):Int)) (.int .i64 ((K7.n:Nat):Int)) (.slice a0 c.parts.length a1) (.slice fd0 Q.2.flows.length fd1) (.slice ie0 K5i.items.length ie1) (.slice sg0 K7.seqs.length sg1) (.string c.pre))).p (by decide) (by decide) (by decide) (by decide) (by decide))
      have HBwf:=Lib.hid (m8_set (w:=we) (X:=X) (.slice p0 c.p.length p1) (.int .i64 ((K7.at_:Nat):Int)) (.int .i64 ((K7.n:Nat):Int)) (.slice a0 c.parts.length a1) (.slice fd0 Q.2.flows.length fd1) (.slice ie0 K5i.items.length ie1) (.slice sg0 K7.seqs.length sg1) (.string c.pre) hbc)
      have HGwf:=Lib.hid (m8_grow (w:=we) (X:=X) (HGc.out) (hX) (.slice p0 c.p.length p1) (.int .i64 ((K7.at_:Nat):Int)) (.int .i64 ((K7.n:Nat):Int)) (.slice a0 c.parts.length a1) (.slice fd0 Q.2.flows.length fd1) (.slice ie0 K5i.items.length ie1) (.slice sg0 K7.seqs.length sg1) (.string c.pre))
      have HZwf:=Lib.hid (m8_other (w:=we) (X:=X) (.slice p0 c.p.length p1) (.int .i64 ((K7.at_:Nat):Int)) (.int .i64 ((K7.n:Nat):Int)) (.slice a0 c.parts.length a1) (.slice fd0 Q.2.flows.length fd1) (.slice ie0 K5i.items.length ie1) (.slice sg0 K7.seqs.length sg1) (.string c.pre) (hzc) (by omega))
      rw [show (((((((we.setCell ⟨X,0,none⟩ (.slice p0 c.p.length p1)).setCell ⟨X,1,none⟩ (.int .i64 ((K7.at_:Nat):Int))).setCell ⟨X,2,none⟩ (.int .i64 ((K7.n:Nat):Int))).setCell ⟨X,3,none⟩ (.slice a0 c.parts.length a1)).setCell ⟨X,4,none⟩ (.slice fd0 Q.2.flows.length fd1)).setCell ⟨X,5,none⟩ (.slice ie0 K5i.items.length ie1)).setCell ⟨X,6,none⟩ (.slice sg0 K7.seqs.length sg1)).setCell ⟨X,7,none⟩ (.string c.pre)=(((((((we.setCell ⟨X,0,none⟩ (.slice p0 c.p.length p1)).setCell ⟨X,1,none⟩ (.int .i64 ((K7.at_:Nat):Int))).setCell ⟨X,2,none⟩ (.int .i64 ((K7.n:Nat):Int))).setCell ⟨X,3,none⟩ (.slice a0 c.parts.length a1)).setCell ⟨X,4,none⟩ (.slice fd0 Q.2.flows.length fd1)).setCell ⟨X,5,none⟩ (.slice ie0 K5i.items.length ie1)).setCell ⟨X,6,none⟩ (.slice sg0 K7.seqs.length sg1)).setCell ⟨X,7,none⟩ (.string c.pre) from rfl]
      generalize (((((((we.setCell ⟨X,0,none⟩ (.slice p0 c.p.length p1)).setCell ⟨X,1,none⟩ (.int .i64 ((K7.at_:Nat):Int))).setCell ⟨X,2,none⟩ (.int .i64 ((K7.n:Nat):Int))).setCell ⟨X,3,none⟩ (.slice a0 c.parts.length a1)).setCell ⟨X,4,none⟩ (.slice fd0 Q.2.flows.length fd1)).setCell ⟨X,5,none⟩ (.slice ie0 K5i.items.length ie1)).setCell ⟨X,6,none⟩ (.slice sg0 K7.seqs.length sg1)).setCell ⟨X,7,none⟩ (.string c.pre)=wf at *
      clear hbc hzc HMc HGc tX x0 x1 x2 x3 x4 x5 x6 x7 xf
      obtain ⟨x0,x1,x2,x3,x4,x5,x6,x7,xf⟩:=m8_cells HBwf.out
      have hX1:W.heap.size≤X+1:=by omega
      have HGate:Hid (Ch.partT c d a m=if (4:Int)=4∧pk / 1048576 % 4=0 then (gb,K8) else (gb,K7)):=Lib.hid (by
       rw [HK8.out,HK7.out,HK6.out,HK5i.out,HK5.out,Hgb.out,HQ.out,HP.out,HK3.out,HK2i.out,HK2.out,Hga.out,HK1.out,Hd'.out,Ch.partT,if_neg (fun h=>h.elim (fun h=>Hkd.out.2.1 (by rw [Hkk.out,Hpk.out];exact h)) (fun h=>Hkd.out.2.2 (by rw [HK1.out];exact h))),if_neg (by rw [← Hpk.out,← Hkk.out];exact HKk5.out)]
       rw [← Hpk.out]
       simp only [if_neg HKk7.out]
       rfl)
      obtain ⟨U,hU⟩:∃ k,k=pk / 1048576 % 4:=⟨_,rfl⟩
      have m20:=Bits.i64_mask ((pk:Int) / 1048576) 2 (by omega) 3 (by decide)
      have m20':bits .and .i64 ((pk:Int) / 1048576) 3=(U:Int):=by rw [m20,hU];omega
      clear m20
      have HU:=Lib.hid hU
      clear hU
      by_cases hU0:U=0
      ·have hfin:(4:Int)=4∧pk / 1048576 % 4=0:=⟨rfl,by rw [← HU.out];exact hU0⟩
       have Hfin:=Lib.hid hfin
       clear hfin
       have d5:((U:Int) == 0)=true:=by simp;omega
       go_wp2_with (go_at_call 44;refine (HSq4.out _ _ _ wf HMwf.out).mono ?_;rintro e wg ⟨vs',rfl,hm,hg⟩;obtain ⟨n6,n7,n8,n9,sh0,sh1,e1,e2,e3⟩:=hm.forms3;subst e3;clear e1 e2;have HMg:=Lib.hid hm;have HGg:=Lib.hid (HGwf.out.trans hg);have HZg:=Lib.hid (heap_keep hg HZwf.out);obtain ⟨y0,y1,y2,y3,y4,y5,y6,y7,yf⟩:=m8_cells HZg.out;clear hm hg)
       refine bodyPost_ret (part_res _ _ (X+1) _ _ _ _ _ _ _ _ _ rfl rfl (m8_set _ _ _ _ _ _ _ _ HZg.out)) rfl ?_
       unfold Ch.PartPost
       rw [HGate.out,if_pos Hfin.out]
       exact ⟨_,_,_,rfl,HMg.out.ty (TY.blk HZg.out) (m8_by wg (X+1) _ _ _ _ _ _ _ _) (H.out.grow (m8_grow (w:=wg) (X:=X+1) HGg.out hX1 _ _ _ _ _ _ _ _)).p (by decide) (by decide) (by decide) (by decide) (by decide),m8_grow (w:=wg) (X:=X+1) HGg.out hX1 _ _ _ _ _ _ _ _⟩
      ·have hfin:¬ ((4:Int)=4∧pk / 1048576 % 4=0):=by intro h;exact hU0 (by rw [HU.out];exact h.2)
       have Hfin:=Lib.hid hfin
       clear hfin
       have d5:((U:Int) == 0)=false:=by simp;omega
       obtain ⟨y0,y1,y2,y3,y4,y5,y6,y7,yf⟩:=m8_cells HZwf.out
       go_upto_region 22 with fail
       go_region
       go_wp2_with fail
       have k:=m8_setD (w:=wf) (X:=X+1) (.slice p0 c.p.length p1) (.int .i64 ((K7.at_:Nat):Int)) (.int .i64 ((K7.n:Nat):Int)) (.slice a0 c.parts.length a1) (.slice fd0 Q.2.flows.length fd1) (.slice ie0 K5i.items.length ie1) (.slice sg0 K7.seqs.length sg1) (.string c.pre) HZwf.out
       have kg:=m8_grow (w:=wf) (X:=X+1) HGwf.out hX1 (.slice p0 c.p.length p1) (.int .i64 ((K7.at_:Nat):Int)) (.int .i64 ((K7.n:Nat):Int)) (.slice a0 c.parts.length a1) (.slice fd0 Q.2.flows.length fd1) (.slice ie0 K5i.items.length ie1) (.slice sg0 K7.seqs.length sg1) (.string c.pre)
       refine bodyPost_ret (part_res _ _ (X+1) _ _ _ _ _ _ _ _ _ rfl rfl k) rfl ?_
       unfold Ch.PartPost
       rw [HGate.out,if_neg Hfin.out]
       exact ⟨_,_,_,rfl,(HMwf.out.ty (TY.blk HZwf.out) (m8_by wf (X+1) (.slice p0 c.p.length p1) (.int .i64 ((K7.at_:Nat):Int)) (.int .i64 ((K7.n:Nat):Int)) (.slice a0 c.parts.length a1) (.slice fd0 Q.2.flows.length fd1) (.slice ie0 K5i.items.length ie1) (.slice sg0 K7.seqs.length sg1) (.string c.pre)) (H.out.grow kg).p (by decide) (by decide) (by decide) (by decide) (by decide)).grow (Flow.grow_drew _),kg.trans (Flow.grow_drew _)⟩
end Go.Proofs.YtcnmaplopbbmaaaGreat
