/- galliardref08's maker.seq and maker.item by contract. -/
import Derived.Test.YtcnmaplopbbmaaaGreatMBg
namespace Go.Proofs.YtcnmaplopbbmaaaGreat
open Go.RowKit
theorem info_seq08:(Tryz.prog.info? 119).map (fun i=>(i.zero,i.size,i.bytes))=some (some (.agg #[.string ⟨#[]⟩,.string ⟨#[]⟩,.string ⟨#[]⟩]),3,48):=by kernel_rfl
theorem info_parts08 {o:Option TypeInfo} {z:Value} {s b:Nat} (h:o.map (fun i=>(i.zero,i.size,i.bytes))=some (some z,s,b)):∃ i,o=some i∧i.zero=some z∧i.size=s∧i.bytes=b:=by
 cases o with
 | none=>cases h
 | some i=>simp at h;exact ⟨i,rfl,h.1,h.2.1,h.2.2⟩
theorem seq_res (tmps:Array Value) (w:World) (X:Nat) (c0 c1 c2 c3 c4 c5 c6 c7:Value) (h2:tmps.getD 6 undef=.pointer (some ⟨X,0,none⟩)) (hx:w.heap[X]? = some (.cells #[c0,c1,c2,c3,c4,c5,c6,c7] 86 (0,0))) :
  (results Tryz.f44 tmps).run Tryz.prog w=.ok (.agg #[c0,c1,c2,c3,c4,c5,c6,c7]) w:=by
 obtain ⟨x0,x1,x2,x3,x4,x5,x6,x7,_⟩:=m8_cells hx
 simp only [Array.getD_eq_getD_getElem?] at h2
 simp [results,Tryz.results44,h2,x0,x1,x2,x3,x4,x5,x6,x7,go_sem]
theorem Ch.scells_one:∀ (l:List Ch.Sq),∀ u∈l.flatMap Ch.scells,u.oneCell'=true:=fun l u hu=>by
 rw [List.mem_flatMap] at hu
 obtain ⟨x,_,hx⟩:=hu
 simp [Ch.scells] at hx
 rcases hx with rfl | rfl | rfl <;> rfl
set_option maxRecDepth 100000 in
set_option maxHeartbeats 4000000 in
theorem seq_any (c:Ch.Cx) (m:Ch.Mk) (a b:ByteArray) (vp va vf vi vs:Value) (W:World) (hn:m.n≤100000) (hsq:m.seqs.length≤100000) (hc:c.pre.size≤1000) (h:Ch.MkAt W c m vp va vf vi vs) :
  Calls Tryz.prog 44 #[.agg (Ch.mc c m vp va vf vi vs),.string a,.string b] W fun e w'=>∃ vs',e=.returned (.agg (Ch.mc c (Ch.seqT c m a b) vp va vf vi vs'))∧Ch.MkAt w' c (Ch.seqT c m a b) vp va vf vi vs'∧Flow.Grow W w':=by
 have HNm:=Lib.hid fun w (hg:Flow.Grow W w)=>name_any c m Ch.lS vp va vf vi vs w hn (by decide) hc (h.grow hg)
 have H:=Lib.hid h
 obtain ⟨p0,p1,a0,a1,f0,f1,i0,i1,s0,s1,rfl,rfl,rfl,rfl,rfl⟩:=h.forms
 clear h
 obtain ⟨nm,hnm⟩:∃ x,x=c.name Ch.lS (m.n+1):=⟨_,rfl⟩
 have HT:Hid (Ch.seqT c m a b={ m.named with seqs:=m.seqs++[(nm,a,b)] }):=Lib.hid (by rw [hnm];rfl)
 rw [← hnm] at HNm
 clear hnm
 obtain ⟨i,hi,hz,hs,hb⟩:=info_parts08 info_seq08
 have HI:=Lib.hid (And.intro hi (And.intro hz (And.intro hs hb)))
 clear hi hz hs hb
 simp only [Ch.mc] at HNm ⊢
 go_enter Tryz.func44,Tryz.ntmps44
 go_upto_region 2 with fail
 have HBw10:Hid (((W.alloc (.cells #[.slice p0 c.p.length p1,.int .i64 (m.at_:Int),.int .i64 (m.n:Int),.slice a0 c.parts.length a1,.slice f0 m.flows.length f1,.slice i0 m.items.length i1,.slice s0 m.seqs.length s1,.string c.pre] 86)).alloc (.cells #[.slice none 0 0,.int .i64 0,.int .i64 0,.slice none 0 0,.slice none 0 0,.slice none 0 0,.slice none 0 0,.string ⟨#[]⟩] 86)).heap[W.heap.size]? = some (.cells #[.slice p0 c.p.length p1,.int .i64 (m.at_:Int),.int .i64 (m.n:Int),.slice a0 c.parts.length a1,.slice f0 m.flows.length f1,.slice i0 m.items.length i1,.slice s0 m.seqs.length s1,.string c.pre] 86 (0,0))):=Lib.hid (lay2_0 _ _ _)
 have HBw11:Hid (((W.alloc (.cells #[.slice p0 c.p.length p1,.int .i64 (m.at_:Int),.int .i64 (m.n:Int),.slice a0 c.parts.length a1,.slice f0 m.flows.length f1,.slice i0 m.items.length i1,.slice s0 m.seqs.length s1,.string c.pre] 86)).alloc (.cells #[.slice none 0 0,.int .i64 0,.int .i64 0,.slice none 0 0,.slice none 0 0,.slice none 0 0,.slice none 0 0,.string ⟨#[]⟩] 86)).heap[W.heap.size+1]? = some (.cells #[.slice none 0 0,.int .i64 0,.int .i64 0,.slice none 0 0,.slice none 0 0,.slice none 0 0,.slice none 0 0,.string ⟨#[]⟩] 86 (0,0))):=Lib.hid (lay2_1 _ _ _)
 have HGw1:Hid (Flow.Grow W ((W.alloc (.cells #[.slice p0 c.p.length p1,.int .i64 (m.at_:Int),.int .i64 (m.n:Int),.slice a0 c.parts.length a1,.slice f0 m.flows.length f1,.slice i0 m.items.length i1,.slice s0 m.seqs.length s1,.string c.pre] 86)).alloc (.cells #[.slice none 0 0,.int .i64 0,.int .i64 0,.slice none 0 0,.slice none 0 0,.slice none 0 0,.slice none 0 0,.string ⟨#[]⟩] 86))):=Lib.hid (lay2_g _ _ _)
 have HSw1:Hid (((W.alloc (.cells #[.slice p0 c.p.length p1,.int .i64 (m.at_:Int),.int .i64 (m.n:Int),.slice a0 c.parts.length a1,.slice f0 m.flows.length f1,.slice i0 m.items.length i1,.slice s0 m.seqs.length s1,.string c.pre] 86)).alloc (.cells #[.slice none 0 0,.int .i64 0,.int .i64 0,.slice none 0 0,.slice none 0 0,.slice none 0 0,.slice none 0 0,.string ⟨#[]⟩] 86)).heap.size=W.heap.size+1+1):=Lib.hid (by simp)
 generalize (W.alloc (.cells #[.slice p0 c.p.length p1,.int .i64 (m.at_:Int),.int .i64 (m.n:Int),.slice a0 c.parts.length a1,.slice f0 m.flows.length f1,.slice i0 m.items.length i1,.slice s0 m.seqs.length s1,.string c.pre] 86)).alloc (.cells #[.slice none 0 0,.int .i64 0,.int .i64 0,.slice none 0 0,.slice none 0 0,.slice none 0 0,.slice none 0 0,.string ⟨#[]⟩] 86)=w1 at *
 obtain ⟨X,hX⟩:∃ X,X=W.heap.size:=⟨_,rfl⟩
 rw [← hX] at HBw10 HBw11 HSw1 ⊢
 have HXw1:=Lib.hid hX
 clear hX
 have CXw1:Hid (∀ wq,Flow.Grow w1 wq→wq.cell? ⟨X,0,none⟩=some (.slice p0 c.p.length p1)∧wq.cell? ⟨X,1,none⟩=some (.int .i64 (m.at_:Int))∧wq.cell? ⟨X,2,none⟩=some (.int .i64 (m.n:Int))∧wq.cell? ⟨X,3,none⟩=some (.slice a0 c.parts.length a1)∧wq.cell? ⟨X,4,none⟩=some (.slice f0 m.flows.length f1)∧wq.cell? ⟨X,5,none⟩=some (.slice i0 m.items.length i1)∧wq.cell? ⟨X,6,none⟩=some (.slice s0 m.seqs.length s1)∧wq.cell? ⟨X,7,none⟩=some (.string c.pre)∧wq.cell? ⟨X+1,0,none⟩=some (.slice none 0 0)∧wq.cell? ⟨X+1,1,none⟩=some (.int .i64 0)∧wq.cell? ⟨X+1,2,none⟩=some (.int .i64 0)∧wq.cell? ⟨X+1,3,none⟩=some (.slice none 0 0)∧wq.cell? ⟨X+1,4,none⟩=some (.slice none 0 0)∧wq.cell? ⟨X+1,5,none⟩=some (.slice none 0 0)∧wq.cell? ⟨X+1,6,none⟩=some (.slice none 0 0)∧wq.cell? ⟨X+1,7,none⟩=some (.string ⟨#[]⟩)):=Lib.hid (fun wq g=>⟨lay_cell g HBw10.out rfl,lay_cell g HBw10.out rfl,lay_cell g HBw10.out rfl,lay_cell g HBw10.out rfl,lay_cell g HBw10.out rfl,lay_cell g HBw10.out rfl,lay_cell g HBw10.out rfl,lay_cell g HBw10.out rfl,lay_cell g HBw11.out rfl,lay_cell g HBw11.out rfl,lay_cell g HBw11.out rfl,lay_cell g HBw11.out rfl,lay_cell g HBw11.out rfl,lay_cell g HBw11.out rfl,lay_cell g HBw11.out rfl,lay_cell g HBw11.out rfl⟩)
 have FXw1:Hid (∀ wq,Flow.Grow w1 wq→(∀ k,wq.frozen? ⟨X,k,none⟩=false)∧(∀ k,wq.frozen? ⟨X+1,k,none⟩=false)):=Lib.hid (fun wq g=>⟨fun k=>lay_frozen g HBw10.out k,fun k=>lay_frozen g HBw11.out k⟩)
 obtain ⟨c00,c01,c02,c03,c04,c05,c06,c07,c10,c11,c12,c13,c14,c15,c16,c17⟩:=CXw1.out w1 (Flow.grow_refl _)
 have hX:W.heap.size≤X:=by rw [HXw1.out];exact Nat.le_refl _
 go_upto_region 3 with (go_at_call 41;refine (HNm.out _ HGw1.out).mono ?_;rintro e w2 ⟨rfl,hg⟩;have HG2:=Lib.hid hg;obtain ⟨d00,d01,d02,d03,d04,d05,d06,d07,d10,d11,d12,d13,d14,d15,d16,d17⟩:=CXw1.out w2 (HG2.out);obtain ⟨f0,f1⟩:=FXw1.out w2 (HG2.out);clear hg)
 clear c00 c01 c02 c03 c04 c05 c06 c07 c10 c11 c12 c13 c14 c15 c16 c17 d00 d01 d02 d03 d04 d05 d06 d07 d10 d11 d12 d13 d14 d15 d16 d17 f0 f1
 have hb2:=heap_keep HG2.out HBw10.out
 have hz2:=heap_keep HG2.out HBw11.out
 have HBw3:=Lib.hid (m8_set (w:=w2) (X:=X) (.slice p0 c.p.length p1) (.int .i64 ((m.named.at_:Nat):Int)) (.int .i64 ((m.named.n:Nat):Int)) (.slice a0 c.parts.length a1) (.slice f0 m.flows.length f1) (.slice i0 m.items.length i1) (.slice s0 m.seqs.length s1) (.string c.pre) hb2)
 have HGw3:=Lib.hid (m8_grow (w:=w2) (X:=X) (HGw1.out.trans HG2.out) (hX) (.slice p0 c.p.length p1) (.int .i64 ((m.named.at_:Nat):Int)) (.int .i64 ((m.named.n:Nat):Int)) (.slice a0 c.parts.length a1) (.slice f0 m.flows.length f1) (.slice i0 m.items.length i1) (.slice s0 m.seqs.length s1) (.string c.pre))
 have HZ3:=Lib.hid (m8_other (w:=w2) (X:=X) (.slice p0 c.p.length p1) (.int .i64 ((m.named.at_:Nat):Int)) (.int .i64 ((m.named.n:Nat):Int)) (.slice a0 c.parts.length a1) (.slice f0 m.flows.length f1) (.slice i0 m.items.length i1) (.slice s0 m.seqs.length s1) (.string c.pre) (hz2) (by omega))
 rw [show (((((((w2.setCell ⟨X,0,none⟩ (.slice p0 c.p.length p1)).setCell ⟨X,1,none⟩ (.int .i64 ((m.named.at_:Nat):Int))).setCell ⟨X,2,none⟩ (.int .i64 ((m.named.n:Nat):Int))).setCell ⟨X,3,none⟩ (.slice a0 c.parts.length a1)).setCell ⟨X,4,none⟩ (.slice f0 m.flows.length f1)).setCell ⟨X,5,none⟩ (.slice i0 m.items.length i1)).setCell ⟨X,6,none⟩ (.slice s0 m.seqs.length s1)).setCell ⟨X,7,none⟩ (.string c.pre)=(((((((w2.setCell ⟨X,0,none⟩ (.slice p0 c.p.length p1)).setCell ⟨X,1,none⟩ (.int .i64 ((m.named.at_:Nat):Int))).setCell ⟨X,2,none⟩ (.int .i64 ((m.named.n:Nat):Int))).setCell ⟨X,3,none⟩ (.slice a0 c.parts.length a1)).setCell ⟨X,4,none⟩ (.slice f0 m.flows.length f1)).setCell ⟨X,5,none⟩ (.slice i0 m.items.length i1)).setCell ⟨X,6,none⟩ (.slice s0 m.seqs.length s1)).setCell ⟨X,7,none⟩ (.string c.pre) from rfl]
 generalize (((((((w2.setCell ⟨X,0,none⟩ (.slice p0 c.p.length p1)).setCell ⟨X,1,none⟩ (.int .i64 ((m.named.at_:Nat):Int))).setCell ⟨X,2,none⟩ (.int .i64 ((m.named.n:Nat):Int))).setCell ⟨X,3,none⟩ (.slice a0 c.parts.length a1)).setCell ⟨X,4,none⟩ (.slice f0 m.flows.length f1)).setCell ⟨X,5,none⟩ (.slice i0 m.items.length i1)).setCell ⟨X,6,none⟩ (.slice s0 m.seqs.length s1)).setCell ⟨X,7,none⟩ (.string c.pre)=w3 at *
 have HG3:Hid (Flow.Grow W w3):=HGw3
 clear hb2 hz2
 obtain ⟨x0,x1,x2,x3,x4,x5,x6,x7,xf⟩:=m8_cells HBw3.out
 have HV3:=Lib.hid (own_keep (own_keep H.out.seqs HG3.out) (Flow.grow_alloc w3 (.cells #[] 119)))
 have HE:=Lib.hid (World.ownsRow_lit (base:=W.heap.size) (e:=119) (size:=3) w3 #[] 0 HG3.out.size (by decide) rfl)
 have z6:=Xm2.cell_grow (Flow.grow_alloc w3 (.cells #[] 119)) x6
 clear x0 x1 x2 x3 x4 x5 x6 x7 xf
 go_upto_region 4 with (at_builtin;refine wpList_plain rfl fun K hK=>?_;first
  | (refine wp_appB W.heap.size _ _ 46 rfl 119 i _ 3 48 Tryz.underlying46 HI.out.1 HI.out.2.1 HI.out.2.2.1 HI.out.2.2.2 rfl (by decide) (.slice (some ⟨g,0,none⟩) m.seqs.length gc) m.seqs.length _ rfl (own_keep HO4.out (Flow.grow_alloc w4 (.cells #[.string nm,.string a,.string b] 119))) (by have:=HG3.out.size;have:=HG4.out.size;simp;omega) _ (Ch.scells (nm,a,b)) 1 1 rfl rfl (cells_of (heap_alloc_new _ _)) (by intro u hu;simp [Ch.scells] at hu;rcases hu with rfl | rfl | rfl <;> rfl) (by omega) (by decide) (by decide) ?_;intro v5 w5 ho hk;refine hK _ _ ?_;have HO5:=Lib.hid ho;have HK5:=Lib.hid hk;clear ho hk hK
     have HB5:=Lib.hid ((TY.own (own_keep HO4.out (Flow.grow_alloc w4 (.cells #[.string nm,.string a,.string b] 119)))).keep_blk HK5.out (heap_keep (HG4.out.trans (Flow.grow_alloc _ _)) HBw3.out) (by decide))
     have HZ5:=Lib.hid ((TY.own (own_keep HO4.out (Flow.grow_alloc w4 (.cells #[.string nm,.string a,.string b] 119)))).keep_blk HK5.out (heap_keep (HG4.out.trans (Flow.grow_alloc _ _)) HZ3.out) (by decide))
     obtain ⟨y0,y1,y2,y3,y4,y5,y6,y7,yf⟩:=m8_cells HB5.out
     obtain ⟨va5,vc5,hv5⟩:=own_form HO5.out
     subst hv5)
  | (refine wp_appF W.heap.size _ _ 46 rfl 119 i _ 3 48 Tryz.underlying46 HI.out.1 HI.out.2.1 HI.out.2.2.1 HI.out.2.2.2 rfl (by decide) _ rfl HE.out (by have:=HG3.out.size;simp;omega) _ _ _ rfl HV3.out (Ch.scells_one _) (by omega) (by decide) ?_;intro g gc w4 ho hg;refine hK _ _ ?_;have HO4:=Lib.hid ho;have HG4:=Lib.hid ((Flow.grow_alloc w3 (.cells #[] 119)).trans hg);clear ho hg hK))
 have HB6:Hid ((w5.setCell ⟨X,6,none⟩ (.slice va5 (m.seqs.length+1) vc5)).heap[X]? = some (.cells #[.slice p0 c.p.length p1,.int .i64 ((m.named.at_:Nat):Int),.int .i64 ((m.named.n:Nat):Int),.slice a0 c.parts.length a1,.slice f0 m.flows.length f1,.slice i0 m.items.length i1,.slice va5 (m.seqs.length+1) vc5,.string c.pre] 86 (0,0))):=Lib.hid ((set_cells HB5.out 6 (.slice va5 (m.seqs.length+1) vc5)).trans rfl)
 have HZ6:=Lib.hid (set_other (g:=X) (q:=6) (u:=.slice va5 (m.seqs.length+1) vc5) HZ5.out (by omega))
 have HO6:=Lib.hid ((TY.blk HB5.out).keep_own (by_set w5 X 6 (.slice va5 (m.seqs.length+1) vc5)) HO5.out (by decide))
 have HG5:Hid (Flow.Grow W w5):=Lib.hid (grow_row (HG3.out.trans (HG4.out.trans (Flow.grow_alloc _ _))) HK5.out (own_lo HO4.out))
 have HG6:=Lib.hid (set_grow (g:=X) HG5.out hX 6 (.slice va5 (m.seqs.length+1) vc5))
 generalize w5.setCell ⟨X,6,none⟩ (.slice va5 (m.seqs.length+1) vc5)=w6 at *
 clear y0 y1 y2 y3 y4 y5 y6 y7 yf z6
 obtain ⟨x0,x1,x2,x3,x4,x5,x6,x7,xf⟩:=m8_cells HB6.out
 obtain ⟨y0,y1,y2,y3,y4,y5,y6,y7,yf⟩:=m8_cells HZ6.out
 go_wp2_with fail
 have k:=m8_set (w:=w6) (X:=X+1) (.slice p0 c.p.length p1) (.int .i64 ((m.named.at_:Nat):Int)) (.int .i64 ((m.named.n:Nat):Int)) (.slice a0 c.parts.length a1) (.slice f0 m.flows.length f1) (.slice i0 m.items.length i1) (.slice va5 (m.seqs.length+1) vc5) (.string c.pre) HZ6.out
 have kb:=m8_by w6 (X+1) (.slice p0 c.p.length p1) (.int .i64 ((m.named.at_:Nat):Int)) (.int .i64 ((m.named.n:Nat):Int)) (.slice a0 c.parts.length a1) (.slice f0 m.flows.length f1) (.slice i0 m.items.length i1) (.slice va5 (m.seqs.length+1) vc5) (.string c.pre)
 have kg:=m8_grow (w:=w6) (X:=X+1) HG6.out (by omega) (.slice p0 c.p.length p1) (.int .i64 ((m.named.at_:Nat):Int)) (.int .i64 ((m.named.n:Nat):Int)) (.slice a0 c.parts.length a1) (.slice f0 m.flows.length f1) (.slice i0 m.items.length i1) (.slice va5 (m.seqs.length+1) vc5) (.string c.pre)
 have ko:=(TY.blk HZ6.out).keep_own kb HO6.out (by decide)
 refine bodyPost_ret (seq_res _ _ (X+1) _ _ _ _ _ _ _ _ rfl k) rfl ⟨.slice va5 (m.seqs.length+1) vc5,rfl,?_,kg⟩
 rw [HT.out]
 have h0:=H.out.grow kg
 refine ⟨h0.p,h0.parts,h0.flows,h0.items,?_⟩
 simp only [List.length_append,List.length_singleton,List.flatMap_append,List.flatMap_cons,List.flatMap_nil,List.append_nil]
 exact Rs.own_mono ko (Nat.zero_le _)
end Go.Proofs.YtcnmaplopbbmaaaGreat
