/- galliardref08's level by contract. -/
import Derived.Test.YtcnmaplopbbmaaaGreatChPart
namespace Go.Proofs.YtcnmaplopbbmaaaGreat
open Go.RowKit
theorem level_res (tmps:Array Value) (w:World) (X:Nat) (c0 c1 c2 c3 c4 c5 c6 c7:Value) (h2:tmps.getD 4 undef=.pointer (some ⟨X,0,none⟩)) (hx:w.heap[X]? = some (.cells #[c0,c1,c2,c3,c4,c5,c6,c7] 86 (0,0))) :
  (results Tryz.f22 tmps).run Tryz.prog w=.ok (.agg #[c0,c1,c2,c3,c4,c5,c6,c7]) w:=by
 obtain ⟨x0,x1,x2,x3,x4,x5,x6,x7,_⟩:=m8_cells hx
 simp only [Array.getD_eq_getD_getElem?] at h2
 simp [results,Tryz.results22,h2,x0,x1,x2,x3,x4,x5,x6,x7,go_sem]
theorem part08_any (c:Ch.Cx) (hpa:2≤c.parts.length∧c.parts.length≤4) (hc:c.pre.size≤1000) (hp:c.p.length≤9223372036854775807):∀ (d:Nat),d≤10→∀ (m:Ch.Mk) (a:ByteArray) (vp va vf vi vs:Value) (W:World),Ch.Room m (2 ^ d)→Ch.MkAt W c m vp va vf vi vs→Calls Tryz.prog 43 #[.agg (Ch.mc c m vp va vf vi vs),.string a,.int .i64 (d:Int)] W fun e w'=>Ch.PartPost c d a m vp va W e w'
 | 0,hd,m,a,vp,va,vf,vi,vs,W,hR,h=>part_step c 0 hpa hc hp (fun d' e=>by omega) m a vp va vf vi vs W hR hd h
 | d+1,hd,m,a,vp,va,vf,vi,vs,W,hR,h=>part_step c (d+1) hpa hc hp (fun d' e=>by
   obtain rfl:d'=d:=by omega
   exact part08_any c hpa hc hp d' (by omega)) m a vp va vf vi vs W hR hd h
set_option maxRecDepth 100000 in
set_option maxHeartbeats 8000000 in
theorem level_any (c:Ch.Cx) (d:Nat) (hpa:2≤c.parts.length∧c.parts.length≤4) (hc:c.pre.size≤1000) (hp:c.p.length≤9223372036854775807) (m:Ch.Mk) (vp va vf vi vs:Value) (W:World) (hR:m.at_+2 * 2 ^ d≤9000∧m.n+10 * 2 ^ d≤9000∧m.flows.length+2 * 2 ^ d≤9000∧m.items.length+3 * 2 ^ d≤9000∧m.seqs.length+5 * 2 ^ d≤9000) (hd:d≤10) (h:Ch.MkAt W c m vp va vf vi vs) :
  Calls Tryz.prog 22 #[.agg (Ch.mc c m vp va vf vi vs),.int .i64 (d:Int)] W fun e w'=>∃ vf' vi' vs',e=.returned (.agg (Ch.mc c (Ch.levelT c m d) vp va vf' vi' vs'))∧Ch.MkAt w' c (Ch.levelT c m d) vp va vf' vi' vs'∧Flow.Grow W w':=by
 have H:=Lib.hid h
 have h2d:1≤2 ^ d:=Nat.one_le_two_pow
 obtain ⟨r1,r2,r3,r4,r5⟩:=hR
 obtain ⟨p0,p1,a0,a1,f0,f1,i0,i1,s0,s1,rfl,rfl,rfl,rfl,rfl⟩:=h.forms
 clear h
 simp only [Ch.mc]
 go_enter Tryz.func22,Tryz.ntmps22
 go_upto_region 2 with fail
 have HBw10:Hid (((W.alloc (.cells #[.slice p0 c.p.length p1,.int .i64 ((m.at_:Nat):Int),.int .i64 ((m.n:Nat):Int),.slice a0 c.parts.length a1,.slice f0 m.flows.length f1,.slice i0 m.items.length i1,.slice s0 m.seqs.length s1,.string c.pre] 86)).alloc (.cells #[.slice none 0 0,.int .i64 0,.int .i64 0,.slice none 0 0,.slice none 0 0,.slice none 0 0,.slice none 0 0,.string ⟨#[]⟩] 86)).heap[W.heap.size]? = some (.cells #[.slice p0 c.p.length p1,.int .i64 ((m.at_:Nat):Int),.int .i64 ((m.n:Nat):Int),.slice a0 c.parts.length a1,.slice f0 m.flows.length f1,.slice i0 m.items.length i1,.slice s0 m.seqs.length s1,.string c.pre] 86 (0,0))):=Lib.hid (lay2_0 _ _ _)
 have HBw11:Hid (((W.alloc (.cells #[.slice p0 c.p.length p1,.int .i64 ((m.at_:Nat):Int),.int .i64 ((m.n:Nat):Int),.slice a0 c.parts.length a1,.slice f0 m.flows.length f1,.slice i0 m.items.length i1,.slice s0 m.seqs.length s1,.string c.pre] 86)).alloc (.cells #[.slice none 0 0,.int .i64 0,.int .i64 0,.slice none 0 0,.slice none 0 0,.slice none 0 0,.slice none 0 0,.string ⟨#[]⟩] 86)).heap[W.heap.size+1]? = some (.cells #[.slice none 0 0,.int .i64 0,.int .i64 0,.slice none 0 0,.slice none 0 0,.slice none 0 0,.slice none 0 0,.string ⟨#[]⟩] 86 (0,0))):=Lib.hid (lay2_1 _ _ _)
 have HGw1:Hid (Flow.Grow W ((W.alloc (.cells #[.slice p0 c.p.length p1,.int .i64 ((m.at_:Nat):Int),.int .i64 ((m.n:Nat):Int),.slice a0 c.parts.length a1,.slice f0 m.flows.length f1,.slice i0 m.items.length i1,.slice s0 m.seqs.length s1,.string c.pre] 86)).alloc (.cells #[.slice none 0 0,.int .i64 0,.int .i64 0,.slice none 0 0,.slice none 0 0,.slice none 0 0,.slice none 0 0,.string ⟨#[]⟩] 86))):=Lib.hid (lay2_g _ _ _)
 have HSw1:Hid (((W.alloc (.cells #[.slice p0 c.p.length p1,.int .i64 ((m.at_:Nat):Int),.int .i64 ((m.n:Nat):Int),.slice a0 c.parts.length a1,.slice f0 m.flows.length f1,.slice i0 m.items.length i1,.slice s0 m.seqs.length s1,.string c.pre] 86)).alloc (.cells #[.slice none 0 0,.int .i64 0,.int .i64 0,.slice none 0 0,.slice none 0 0,.slice none 0 0,.slice none 0 0,.string ⟨#[]⟩] 86)).heap.size=W.heap.size+1+1):=Lib.hid (by simp)
 generalize (W.alloc (.cells #[.slice p0 c.p.length p1,.int .i64 ((m.at_:Nat):Int),.int .i64 ((m.n:Nat):Int),.slice a0 c.parts.length a1,.slice f0 m.flows.length f1,.slice i0 m.items.length i1,.slice s0 m.seqs.length s1,.string c.pre] 86)).alloc (.cells #[.slice none 0 0,.int .i64 0,.int .i64 0,.slice none 0 0,.slice none 0 0,.slice none 0 0,.slice none 0 0,.string ⟨#[]⟩] 86)=w1 at *
 obtain ⟨X,hX⟩:∃ X,X=W.heap.size:=⟨_,rfl⟩
 rw [← hX] at HBw10 HBw11 HSw1 ⊢
 have HXw1:=Lib.hid hX
 clear hX
 have CXw1:Hid (∀ wq,Flow.Grow w1 wq→wq.cell? ⟨X,0,none⟩=some (.slice p0 c.p.length p1)∧wq.cell? ⟨X,1,none⟩=some (.int .i64 ((m.at_:Nat):Int))∧wq.cell? ⟨X,2,none⟩=some (.int .i64 ((m.n:Nat):Int))∧wq.cell? ⟨X,3,none⟩=some (.slice a0 c.parts.length a1)∧wq.cell? ⟨X,4,none⟩=some (.slice f0 m.flows.length f1)∧wq.cell? ⟨X,5,none⟩=some (.slice i0 m.items.length i1)∧wq.cell? ⟨X,6,none⟩=some (.slice s0 m.seqs.length s1)∧wq.cell? ⟨X,7,none⟩=some (.string c.pre)∧wq.cell? ⟨X+1,0,none⟩=some (.slice none 0 0)∧wq.cell? ⟨X+1,1,none⟩=some (.int .i64 0)∧wq.cell? ⟨X+1,2,none⟩=some (.int .i64 0)∧wq.cell? ⟨X+1,3,none⟩=some (.slice none 0 0)∧wq.cell? ⟨X+1,4,none⟩=some (.slice none 0 0)∧wq.cell? ⟨X+1,5,none⟩=some (.slice none 0 0)∧wq.cell? ⟨X+1,6,none⟩=some (.slice none 0 0)∧wq.cell? ⟨X+1,7,none⟩=some (.string ⟨#[]⟩)):=Lib.hid (fun wq g=>⟨lay_cell g HBw10.out rfl,lay_cell g HBw10.out rfl,lay_cell g HBw10.out rfl,lay_cell g HBw10.out rfl,lay_cell g HBw10.out rfl,lay_cell g HBw10.out rfl,lay_cell g HBw10.out rfl,lay_cell g HBw10.out rfl,lay_cell g HBw11.out rfl,lay_cell g HBw11.out rfl,lay_cell g HBw11.out rfl,lay_cell g HBw11.out rfl,lay_cell g HBw11.out rfl,lay_cell g HBw11.out rfl,lay_cell g HBw11.out rfl,lay_cell g HBw11.out rfl⟩)
 have FXw1:Hid (∀ wq,Flow.Grow w1 wq→(∀ k,wq.frozen? ⟨X,k,none⟩=false)∧(∀ k,wq.frozen? ⟨X+1,k,none⟩=false)):=Lib.hid (fun wq g=>⟨fun k=>lay_frozen g HBw10.out k,fun k=>lay_frozen g HBw11.out k⟩)
 have hX:W.heap.size≤X:=by rw [HXw1.out];exact Nat.le_refl _
 have HBw1:=HBw10
 have HZw1:=HBw11
 have HMw1:=Lib.hid (H.out.grow HGw1.out)
 obtain ⟨x0,x1,x2,x3,x4,x5,x6,x7,xf⟩:=m8_cells HBw1.out
 obtain ⟨ga,hga⟩:∃ s,s=c.name ⟨#[98]⟩ (m.n+1):=⟨_,rfl⟩
 obtain ⟨K2,hK2⟩:∃ K,K=m.named:=⟨_,rfl⟩
 have HNa:=Lib.hid (name_any c m ⟨#[98]⟩ _ _ _ _ _ w1 (by omega) (by decide) hc HMw1.out)
 rw [← hga,← hK2] at HNa
 have HM2:Hid (∀ w,Flow.Grow w1 w→Ch.MkAt w c K2 (.slice p0 c.p.length p1) (.slice a0 c.parts.length a1) (.slice f0 m.flows.length f1) (.slice i0 m.items.length i1) (.slice s0 m.seqs.length s1)):=Lib.hid fun w g=>by rw [hK2];have k:=HMw1.out.grow g;exact ⟨k.p,k.parts,k.flows,k.items,k.seqs⟩
 obtain ⟨K3,hK3⟩:∃ K,K=K2.item (Ch.gate 1 ga):=⟨_,rfl⟩
 have hB3:K2.items.length=m.items.length∧K3.at_=m.at_∧K3.n=m.n+1∧K3.flows.length=m.flows.length∧K3.items.length=m.items.length+1∧K3.seqs.length=m.seqs.length:=by rw [hK3,hK2];exact ⟨rfl,rfl,rfl,rfl,by simp [Ch.Mk.named,Ch.Mk.item],rfl⟩
 have HIt:=Lib.hid fun w (hm:Ch.MkAt w c K2 (.slice p0 c.p.length p1) (.slice a0 c.parts.length a1) (.slice f0 m.flows.length f1) (.slice i0 m.items.length i1) (.slice s0 m.seqs.length s1))=>item_any c K2 (Ch.gate 1 ga) _ _ _ _ _ (.slice none 0 0) (.slice none 0 0) w (by omega) hm (World.ownsRow_nil _ _ _ _) (World.ownsRow_nil _ _ _ _)
 rw [← hK3] at HIt
 have HRoom:Hid (Ch.Room K3 (2 ^ d)):=Lib.hid ⟨by omega,by omega,by omega,by omega,by omega⟩
 have HK2:=Lib.hid hK2
 have HK3:=Lib.hid hK3
 have Hga:=Lib.hid hga
 have HB3:=Lib.hid hB3
 have HRm:=Lib.hid (And.intro r2 (And.intro r4 (And.intro r5 h2d)))
 clear hga hK2 hK3 hB3 r1 r2 r3 r4 r5 h2d
 simp only [Ch.mc,Ch.ic,Ch.gate] at HNa HIt
 go_upto_region 3 with (go_at_call 41;refine HNa.out.mono ?_;rintro e w4 ⟨rfl,hg⟩;have hm:=HM2.out w4 hg;have HMc:=Lib.hid hm;have HGc:=Lib.hid (HGw1.out.trans hg);have hbc:=heap_keep hg HBw1.out;have hzc:=heap_keep hg HZw1.out;clear hm hg;obtain ⟨y0,y1,y2,y3,y4,y5,y6,y7,yf⟩:=m8_cells hbc)
 clear y0 y1 y2 y3 y4 y5 y6 y7 yf
 have tX:=TY.blk hbc
 have HMw5:=Lib.hid (HMc.out.ty tX (m8_by w4 X (.slice p0 c.p.length p1) (.int .i64 ((K2.at_:Nat):Int)) (.int .i64 ((K2.n:Nat):Int)) (.slice a0 c.parts.length a1) (.slice f0 m.flows.length f1) (.slice i0 m.items.length i1) (.slice s0 m.seqs.length s1) (.string c.pre)) (H.out.grow (m8_grow (w:=w4) (X:=X) HGc.out hX (.slice p0 c.p.length p1) (.int .i64 ((K2.at_:Nat):Int)) (.int .i64 ((K2.n:Nat):Int)) (.slice a0 c.parts.length a1) (.slice f0 m.flows.length f1) (.slice i0 m.items.length i1) (.slice s0 m.seqs.length s1) (.string c.pre))).p (by decide) (by decide) (by decide) (by decide) (by decide))
 have HBw5:=Lib.hid (m8_set (w:=w4) (X:=X) (.slice p0 c.p.length p1) (.int .i64 ((K2.at_:Nat):Int)) (.int .i64 ((K2.n:Nat):Int)) (.slice a0 c.parts.length a1) (.slice f0 m.flows.length f1) (.slice i0 m.items.length i1) (.slice s0 m.seqs.length s1) (.string c.pre) hbc)
 have HGw5:=Lib.hid (m8_grow (w:=w4) (X:=X) (HGc.out) (hX) (.slice p0 c.p.length p1) (.int .i64 ((K2.at_:Nat):Int)) (.int .i64 ((K2.n:Nat):Int)) (.slice a0 c.parts.length a1) (.slice f0 m.flows.length f1) (.slice i0 m.items.length i1) (.slice s0 m.seqs.length s1) (.string c.pre))
 have HZw5:=Lib.hid (m8_other (w:=w4) (X:=X) (.slice p0 c.p.length p1) (.int .i64 ((K2.at_:Nat):Int)) (.int .i64 ((K2.n:Nat):Int)) (.slice a0 c.parts.length a1) (.slice f0 m.flows.length f1) (.slice i0 m.items.length i1) (.slice s0 m.seqs.length s1) (.string c.pre) (hzc) (by omega))
 rw [show (((((((w4.setCell ⟨X,0,none⟩ (.slice p0 c.p.length p1)).setCell ⟨X,1,none⟩ (.int .i64 ((K2.at_:Nat):Int))).setCell ⟨X,2,none⟩ (.int .i64 ((K2.n:Nat):Int))).setCell ⟨X,3,none⟩ (.slice a0 c.parts.length a1)).setCell ⟨X,4,none⟩ (.slice f0 m.flows.length f1)).setCell ⟨X,5,none⟩ (.slice i0 m.items.length i1)).setCell ⟨X,6,none⟩ (.slice s0 m.seqs.length s1)).setCell ⟨X,7,none⟩ (.string c.pre)=(((((((w4.setCell ⟨X,0,none⟩ (.slice p0 c.p.length p1)).setCell ⟨X,1,none⟩ (.int .i64 ((K2.at_:Nat):Int))).setCell ⟨X,2,none⟩ (.int .i64 ((K2.n:Nat):Int))).setCell ⟨X,3,none⟩ (.slice a0 c.parts.length a1)).setCell ⟨X,4,none⟩ (.slice f0 m.flows.length f1)).setCell ⟨X,5,none⟩ (.slice i0 m.items.length i1)).setCell ⟨X,6,none⟩ (.slice s0 m.seqs.length s1)).setCell ⟨X,7,none⟩ (.string c.pre) from rfl]
 generalize (((((((w4.setCell ⟨X,0,none⟩ (.slice p0 c.p.length p1)).setCell ⟨X,1,none⟩ (.int .i64 ((K2.at_:Nat):Int))).setCell ⟨X,2,none⟩ (.int .i64 ((K2.n:Nat):Int))).setCell ⟨X,3,none⟩ (.slice a0 c.parts.length a1)).setCell ⟨X,4,none⟩ (.slice f0 m.flows.length f1)).setCell ⟨X,5,none⟩ (.slice i0 m.items.length i1)).setCell ⟨X,6,none⟩ (.slice s0 m.seqs.length s1)).setCell ⟨X,7,none⟩ (.string c.pre)=w5 at *
 clear hbc hzc HMc HGc tX x0 x1 x2 x3 x4 x5 x6 x7 xf
 obtain ⟨x0,x1,x2,x3,x4,x5,x6,x7,xf⟩:=m8_cells HBw5.out
 go_upto_region 4 with (go_at_call 42;refine (HIt.out w5 HMw5.out).mono ?_;rintro e w6 ⟨vi',rfl,hm,hg⟩;obtain ⟨n0,n1,ib0,ib1,n4,n5,e1,e2,e3⟩:=hm.forms3;subst e2;clear e1 e3;have HMc:=Lib.hid hm;have HGc:=Lib.hid (HGw5.out.trans hg);have hbc:=heap_keep hg HBw5.out;have hzc:=heap_keep hg HZw5.out;clear hm hg;obtain ⟨y0,y1,y2,y3,y4,y5,y6,y7,yf⟩:=m8_cells hbc)
 clear y0 y1 y2 y3 y4 y5 y6 y7 yf
 have tX:=TY.blk hbc
 have HMw7:=Lib.hid (HMc.out.ty tX (m8_by w6 X (.slice p0 c.p.length p1) (.int .i64 ((K3.at_:Nat):Int)) (.int .i64 ((K3.n:Nat):Int)) (.slice a0 c.parts.length a1) (.slice f0 m.flows.length f1) (.slice ib0 K3.items.length ib1) (.slice s0 m.seqs.length s1) (.string c.pre)) (H.out.grow (m8_grow (w:=w6) (X:=X) HGc.out hX (.slice p0 c.p.length p1) (.int .i64 ((K3.at_:Nat):Int)) (.int .i64 ((K3.n:Nat):Int)) (.slice a0 c.parts.length a1) (.slice f0 m.flows.length f1) (.slice ib0 K3.items.length ib1) (.slice s0 m.seqs.length s1) (.string c.pre))).p (by decide) (by decide) (by decide) (by decide) (by decide))
 have HBw7:=Lib.hid (m8_set (w:=w6) (X:=X) (.slice p0 c.p.length p1) (.int .i64 ((K3.at_:Nat):Int)) (.int .i64 ((K3.n:Nat):Int)) (.slice a0 c.parts.length a1) (.slice f0 m.flows.length f1) (.slice ib0 K3.items.length ib1) (.slice s0 m.seqs.length s1) (.string c.pre) hbc)
 have HGw7:=Lib.hid (m8_grow (w:=w6) (X:=X) (HGc.out) (hX) (.slice p0 c.p.length p1) (.int .i64 ((K3.at_:Nat):Int)) (.int .i64 ((K3.n:Nat):Int)) (.slice a0 c.parts.length a1) (.slice f0 m.flows.length f1) (.slice ib0 K3.items.length ib1) (.slice s0 m.seqs.length s1) (.string c.pre))
 have HZw7:=Lib.hid (m8_other (w:=w6) (X:=X) (.slice p0 c.p.length p1) (.int .i64 ((K3.at_:Nat):Int)) (.int .i64 ((K3.n:Nat):Int)) (.slice a0 c.parts.length a1) (.slice f0 m.flows.length f1) (.slice ib0 K3.items.length ib1) (.slice s0 m.seqs.length s1) (.string c.pre) (hzc) (by omega))
 rw [show (((((((w6.setCell ⟨X,0,none⟩ (.slice p0 c.p.length p1)).setCell ⟨X,1,none⟩ (.int .i64 ((K3.at_:Nat):Int))).setCell ⟨X,2,none⟩ (.int .i64 ((K3.n:Nat):Int))).setCell ⟨X,3,none⟩ (.slice a0 c.parts.length a1)).setCell ⟨X,4,none⟩ (.slice f0 m.flows.length f1)).setCell ⟨X,5,none⟩ (.slice ib0 K3.items.length ib1)).setCell ⟨X,6,none⟩ (.slice s0 m.seqs.length s1)).setCell ⟨X,7,none⟩ (.string c.pre)=(((((((w6.setCell ⟨X,0,none⟩ (.slice p0 c.p.length p1)).setCell ⟨X,1,none⟩ (.int .i64 ((K3.at_:Nat):Int))).setCell ⟨X,2,none⟩ (.int .i64 ((K3.n:Nat):Int))).setCell ⟨X,3,none⟩ (.slice a0 c.parts.length a1)).setCell ⟨X,4,none⟩ (.slice f0 m.flows.length f1)).setCell ⟨X,5,none⟩ (.slice ib0 K3.items.length ib1)).setCell ⟨X,6,none⟩ (.slice s0 m.seqs.length s1)).setCell ⟨X,7,none⟩ (.string c.pre) from rfl]
 generalize (((((((w6.setCell ⟨X,0,none⟩ (.slice p0 c.p.length p1)).setCell ⟨X,1,none⟩ (.int .i64 ((K3.at_:Nat):Int))).setCell ⟨X,2,none⟩ (.int .i64 ((K3.n:Nat):Int))).setCell ⟨X,3,none⟩ (.slice a0 c.parts.length a1)).setCell ⟨X,4,none⟩ (.slice f0 m.flows.length f1)).setCell ⟨X,5,none⟩ (.slice ib0 K3.items.length ib1)).setCell ⟨X,6,none⟩ (.slice s0 m.seqs.length s1)).setCell ⟨X,7,none⟩ (.string c.pre)=w7 at *
 clear hbc hzc HMc HGc tX x0 x1 x2 x3 x4 x5 x6 x7 xf
 obtain ⟨x0,x1,x2,x3,x4,x5,x6,x7,xf⟩:=m8_cells HBw7.out
 obtain ⟨P,hP⟩:∃ P,P=Ch.partT c d ga K3:=⟨_,rfl⟩
 have HR1:=Lib.hid (part08_any c hpa hc hp d hd K3 ga _ _ _ _ _ w7 HRoom.out HMw7.out)
 unfold Ch.PartPost at HR1
 rw [← hP] at HR1
 have HUp:=Lib.hid (Ch.part_up c d ga K3)
 rw [← hP] at HUp
 have HP:=Lib.hid hP
 clear hP
 simp only [Ch.mc] at HR1
 go_upto_region 5 with (go_at_call 43;refine HR1.out.mono ?_;rintro e w8 ⟨vf',vi',vs',rfl,hm,hg⟩;obtain ⟨fc0,fc1,ic0,ic1,sc0,sc1,e1,e2,e3⟩:=hm.forms3;subst e1 e2 e3;have HMc:=Lib.hid hm;have HGc:=Lib.hid (HGw7.out.trans hg);have hbc:=heap_keep hg HBw7.out;have hzc:=heap_keep hg HZw7.out;clear hm hg;obtain ⟨y0,y1,y2,y3,y4,y5,y6,y7,yf⟩:=m8_cells hbc)
 clear y0 y1 y2 y3 y4 y5 y6 y7 yf
 have tX:=TY.blk hbc
 have HMw9:=Lib.hid (HMc.out.ty tX (m8_by w8 X (.slice p0 c.p.length p1) (.int .i64 ((P.2.at_:Nat):Int)) (.int .i64 ((P.2.n:Nat):Int)) (.slice a0 c.parts.length a1) (.slice fc0 P.2.flows.length fc1) (.slice ic0 P.2.items.length ic1) (.slice sc0 P.2.seqs.length sc1) (.string c.pre)) (H.out.grow (m8_grow (w:=w8) (X:=X) HGc.out hX (.slice p0 c.p.length p1) (.int .i64 ((P.2.at_:Nat):Int)) (.int .i64 ((P.2.n:Nat):Int)) (.slice a0 c.parts.length a1) (.slice fc0 P.2.flows.length fc1) (.slice ic0 P.2.items.length ic1) (.slice sc0 P.2.seqs.length sc1) (.string c.pre))).p (by decide) (by decide) (by decide) (by decide) (by decide))
 have HBw9:=Lib.hid (m8_set (w:=w8) (X:=X) (.slice p0 c.p.length p1) (.int .i64 ((P.2.at_:Nat):Int)) (.int .i64 ((P.2.n:Nat):Int)) (.slice a0 c.parts.length a1) (.slice fc0 P.2.flows.length fc1) (.slice ic0 P.2.items.length ic1) (.slice sc0 P.2.seqs.length sc1) (.string c.pre) hbc)
 have HGw9:=Lib.hid (m8_grow (w:=w8) (X:=X) (HGc.out) (hX) (.slice p0 c.p.length p1) (.int .i64 ((P.2.at_:Nat):Int)) (.int .i64 ((P.2.n:Nat):Int)) (.slice a0 c.parts.length a1) (.slice fc0 P.2.flows.length fc1) (.slice ic0 P.2.items.length ic1) (.slice sc0 P.2.seqs.length sc1) (.string c.pre))
 have HZw9:=Lib.hid (m8_other (w:=w8) (X:=X) (.slice p0 c.p.length p1) (.int .i64 ((P.2.at_:Nat):Int)) (.int .i64 ((P.2.n:Nat):Int)) (.slice a0 c.parts.length a1) (.slice fc0 P.2.flows.length fc1) (.slice ic0 P.2.items.length ic1) (.slice sc0 P.2.seqs.length sc1) (.string c.pre) (hzc) (by omega))
 rw [show (((((((w8.setCell ⟨X,0,none⟩ (.slice p0 c.p.length p1)).setCell ⟨X,1,none⟩ (.int .i64 ((P.2.at_:Nat):Int))).setCell ⟨X,2,none⟩ (.int .i64 ((P.2.n:Nat):Int))).setCell ⟨X,3,none⟩ (.slice a0 c.parts.length a1)).setCell ⟨X,4,none⟩ (.slice fc0 P.2.flows.length fc1)).setCell ⟨X,5,none⟩ (.slice ic0 P.2.items.length ic1)).setCell ⟨X,6,none⟩ (.slice sc0 P.2.seqs.length sc1)).setCell ⟨X,7,none⟩ (.string c.pre)=(((((((w8.setCell ⟨X,0,none⟩ (.slice p0 c.p.length p1)).setCell ⟨X,1,none⟩ (.int .i64 ((P.2.at_:Nat):Int))).setCell ⟨X,2,none⟩ (.int .i64 ((P.2.n:Nat):Int))).setCell ⟨X,3,none⟩ (.slice a0 c.parts.length a1)).setCell ⟨X,4,none⟩ (.slice fc0 P.2.flows.length fc1)).setCell ⟨X,5,none⟩ (.slice ic0 P.2.items.length ic1)).setCell ⟨X,6,none⟩ (.slice sc0 P.2.seqs.length sc1)).setCell ⟨X,7,none⟩ (.string c.pre) from rfl]
 generalize (((((((w8.setCell ⟨X,0,none⟩ (.slice p0 c.p.length p1)).setCell ⟨X,1,none⟩ (.int .i64 ((P.2.at_:Nat):Int))).setCell ⟨X,2,none⟩ (.int .i64 ((P.2.n:Nat):Int))).setCell ⟨X,3,none⟩ (.slice a0 c.parts.length a1)).setCell ⟨X,4,none⟩ (.slice fc0 P.2.flows.length fc1)).setCell ⟨X,5,none⟩ (.slice ic0 P.2.items.length ic1)).setCell ⟨X,6,none⟩ (.slice sc0 P.2.seqs.length sc1)).setCell ⟨X,7,none⟩ (.string c.pre)=w9 at *
 clear hbc hzc HMc HGc tX x0 x1 x2 x3 x4 x5 x6 x7 xf
 obtain ⟨x0,x1,x2,x3,x4,x5,x6,x7,xf⟩:=m8_cells HBw9.out
 have HQb:Hid (P.2.n+2≤10010∧P.2.items.length≤10010∧P.2.seqs.length+2≤10010):=Lib.hid ⟨by have h1:=HUp.out.n;have h2:=HRm.out;have h3:=HB3.out;omega,by have h1:=HUp.out.items;have h2:=HRm.out;have h3:=HB3.out;omega,by have h1:=HUp.out.seqs;have h2:=HRm.out;have h3:=HB3.out;omega⟩
 obtain ⟨gb,hgb⟩:∃ s,s=c.name ⟨#[101]⟩ (P.2.n+1):=⟨_,rfl⟩
 obtain ⟨K5,hK5⟩:∃ K,K=P.2.named:=⟨_,rfl⟩
 have HNb:=Lib.hid (name_any c P.2 ⟨#[101]⟩ _ _ _ _ _ w9 (by have h1:=HQb.out.1;omega) (by decide) hc HMw9.out)
 rw [← hgb,← hK5] at HNb
 have HM5:Hid (∀ w,Flow.Grow w9 w→Ch.MkAt w c K5 (.slice p0 c.p.length p1) (.slice a0 c.parts.length a1) (.slice fc0 P.2.flows.length fc1) (.slice ic0 P.2.items.length ic1) (.slice sc0 P.2.seqs.length sc1)):=Lib.hid fun w g=>by rw [hK5];have k:=HMw9.out.grow g;exact ⟨k.p,k.parts,k.flows,k.items,k.seqs⟩
 obtain ⟨K6,hK6⟩:∃ K,K=K5.item (Ch.gate 2 gb):=⟨_,rfl⟩
 obtain ⟨K7,hK7⟩:∃ K,K=Ch.seqT c K6 P.1 gb:=⟨_,rfl⟩
 have HB5:Hid (K5.items.length=P.2.items.length∧K6.n=P.2.n+1∧K6.seqs.length=P.2.seqs.length):=Lib.hid (by rw [hK6,hK5];exact ⟨rfl,rfl,rfl⟩)
 have HIt2:=Lib.hid fun w (hm:Ch.MkAt w c K5 (.slice p0 c.p.length p1) (.slice a0 c.parts.length a1) (.slice fc0 P.2.flows.length fc1) (.slice ic0 P.2.items.length ic1) (.slice sc0 P.2.seqs.length sc1))=>item_any c K5 (Ch.gate 2 gb) _ _ _ _ _ (.slice none 0 0) (.slice none 0 0) w (by have h1:=HQb.out.2.1;have h2:=HB5.out.1;omega) hm (World.ownsRow_nil _ _ _ _) (World.ownsRow_nil _ _ _ _)
 rw [← hK6] at HIt2
 have HSq2:=Lib.hid fun (vf vi vs:Value) w (hm:Ch.MkAt w c K6 (.slice p0 c.p.length p1) (.slice a0 c.parts.length a1) vf vi vs)=>seq_any c K6 P.1 gb _ _ vf vi vs w (by have h1:=HQb.out.1;have h2:=HB5.out.2.1;omega) (by have h1:=HQb.out.2.2;have h2:=HB5.out.2.2;omega) hc hm
 rw [← hK7] at HSq2
 have HLv:Hid (Ch.levelT c m d=K7):=Lib.hid (by rw [hK7,hK6,hK5,hgb,HP.out,HK3.out,HK2.out,Hga.out];rfl)
 clear hgb hK5 hK6 hK7
 simp only [Ch.mc,Ch.ic,Ch.gate] at HNb HIt2 HSq2
 go_upto_region 6 with (go_at_call 41;refine HNb.out.mono ?_;rintro e wa ⟨rfl,hg⟩;have hm:=HM5.out wa hg;have HMc:=Lib.hid hm;have HGc:=Lib.hid (HGw9.out.trans hg);have hbc:=heap_keep hg HBw9.out;have hzc:=heap_keep hg HZw9.out;clear hm hg;obtain ⟨y0,y1,y2,y3,y4,y5,y6,y7,yf⟩:=m8_cells hbc)
 clear y0 y1 y2 y3 y4 y5 y6 y7 yf
 have tX:=TY.blk hbc
 have HMwb:=Lib.hid (HMc.out.ty tX (m8_by wa X (.slice p0 c.p.length p1) (.int .i64 ((K5.at_:Nat):Int)) (.int .i64 ((K5.n:Nat):Int)) (.slice a0 c.parts.length a1) (.slice fc0 P.2.flows.length fc1) (.slice ic0 P.2.items.length ic1) (.slice sc0 P.2.seqs.length sc1) (.string c.pre)) (H.out.grow (m8_grow (w:=wa) (X:=X) HGc.out hX (.slice p0 c.p.length p1) (.int .i64 ((K5.at_:Nat):Int)) (.int .i64 ((K5.n:Nat):Int)) (.slice a0 c.parts.length a1) (.slice fc0 P.2.flows.length fc1) (.slice ic0 P.2.items.length ic1) (.slice sc0 P.2.seqs.length sc1) (.string c.pre))).p (by decide) (by decide) (by decide) (by decide) (by decide))
 have HBwb:=Lib.hid (m8_set (w:=wa) (X:=X) (.slice p0 c.p.length p1) (.int .i64 ((K5.at_:Nat):Int)) (.int .i64 ((K5.n:Nat):Int)) (.slice a0 c.parts.length a1) (.slice fc0 P.2.flows.length fc1) (.slice ic0 P.2.items.length ic1) (.slice sc0 P.2.seqs.length sc1) (.string c.pre) hbc)
 have HGwb:=Lib.hid (m8_grow (w:=wa) (X:=X) (HGc.out) (hX) (.slice p0 c.p.length p1) (.int .i64 ((K5.at_:Nat):Int)) (.int .i64 ((K5.n:Nat):Int)) (.slice a0 c.parts.length a1) (.slice fc0 P.2.flows.length fc1) (.slice ic0 P.2.items.length ic1) (.slice sc0 P.2.seqs.length sc1) (.string c.pre))
 have HZwb:=Lib.hid (m8_other (w:=wa) (X:=X) (.slice p0 c.p.length p1) (.int .i64 ((K5.at_:Nat):Int)) (.int .i64 ((K5.n:Nat):Int)) (.slice a0 c.parts.length a1) (.slice fc0 P.2.flows.length fc1) (.slice ic0 P.2.items.length ic1) (.slice sc0 P.2.seqs.length sc1) (.string c.pre) (hzc) (by omega))
 rw [show (((((((wa.setCell ⟨X,0,none⟩ (.slice p0 c.p.length p1)).setCell ⟨X,1,none⟩ (.int .i64 ((K5.at_:Nat):Int))).setCell ⟨X,2,none⟩ (.int .i64 ((K5.n:Nat):Int))).setCell ⟨X,3,none⟩ (.slice a0 c.parts.length a1)).setCell ⟨X,4,none⟩ (.slice fc0 P.2.flows.length fc1)).setCell ⟨X,5,none⟩ (.slice ic0 P.2.items.length ic1)).setCell ⟨X,6,none⟩ (.slice sc0 P.2.seqs.length sc1)).setCell ⟨X,7,none⟩ (.string c.pre)=(((((((wa.setCell ⟨X,0,none⟩ (.slice p0 c.p.length p1)).setCell ⟨X,1,none⟩ (.int .i64 ((K5.at_:Nat):Int))).setCell ⟨X,2,none⟩ (.int .i64 ((K5.n:Nat):Int))).setCell ⟨X,3,none⟩ (.slice a0 c.parts.length a1)).setCell ⟨X,4,none⟩ (.slice fc0 P.2.flows.length fc1)).setCell ⟨X,5,none⟩ (.slice ic0 P.2.items.length ic1)).setCell ⟨X,6,none⟩ (.slice sc0 P.2.seqs.length sc1)).setCell ⟨X,7,none⟩ (.string c.pre) from rfl]
 generalize (((((((wa.setCell ⟨X,0,none⟩ (.slice p0 c.p.length p1)).setCell ⟨X,1,none⟩ (.int .i64 ((K5.at_:Nat):Int))).setCell ⟨X,2,none⟩ (.int .i64 ((K5.n:Nat):Int))).setCell ⟨X,3,none⟩ (.slice a0 c.parts.length a1)).setCell ⟨X,4,none⟩ (.slice fc0 P.2.flows.length fc1)).setCell ⟨X,5,none⟩ (.slice ic0 P.2.items.length ic1)).setCell ⟨X,6,none⟩ (.slice sc0 P.2.seqs.length sc1)).setCell ⟨X,7,none⟩ (.string c.pre)=wb at *
 clear hbc hzc HMc HGc tX x0 x1 x2 x3 x4 x5 x6 x7 xf
 obtain ⟨x0,x1,x2,x3,x4,x5,x6,x7,xf⟩:=m8_cells HBwb.out
 go_wp2_with (first
  | (go_at_call 42;refine (HIt2.out wb HMwb.out).mono ?_;rintro e wi ⟨vi',rfl,hm,hg⟩;obtain ⟨n0,n1,ie0,ie1,n4,n5,e1,e2,e3⟩:=hm.forms3;subst e2;clear e1 e3;have HMi:=Lib.hid hm;have HGi:=Lib.hid hg;clear hm hg)
  | (go_at_call 44;refine (HSq2.out _ _ _ wi HMi.out).mono ?_;rintro e we ⟨vs',rfl,hm,hg'⟩;obtain ⟨n6,n7,n8,n9,sg0,sg1,e1,e2,e3⟩:=hm.forms3;subst e3;clear e1 e2;have HMe:=Lib.hid hm;have HGe:=Lib.hid (HGwb.out.trans (HGi.out.trans hg'));have HZe:=Lib.hid (heap_keep (HGi.out.trans hg') HZwb.out);obtain ⟨y0,y1,y2,y3,y4,y5,y6,y7,yf⟩:=m8_cells HZe.out;clear hm hg'))
 have hX1:W.heap.size≤X+1:=by omega
 refine bodyPost_ret (level_res _ _ (X+1) _ _ _ _ _ _ _ _ rfl (m8_set _ _ _ _ _ _ _ _ HZe.out)) rfl ?_
 rw [HLv.out]
 exact ⟨_,_,_,rfl,HMe.out.ty (TY.blk HZe.out) (m8_by we (X+1) _ _ _ _ _ _ _ _) (H.out.grow (m8_grow (w:=we) (X:=X+1) HGe.out hX1 _ _ _ _ _ _ _ _)).p (by decide) (by decide) (by decide) (by decide) (by decide),m8_grow (w:=we) (X:=X+1) HGe.out hX1 _ _ _ _ _ _ _ _⟩
end Go.Proofs.YtcnmaplopbbmaaaGreat
