/- galliardref08's maker.task by contract. -/
import Derived.Test.YtcnmaplopbbmaaaGreatMBi
import Derived.Test.YtcnmaplopbbmaaaGreatMAl
namespace Go.Proofs.YtcnmaplopbbmaaaGreat
open Go.RowKit
theorem task_res (tmps:Array Value) (w:World) (X:Nat) (c0 c1 c2 c3 c4 c5 c6 c7 u:Value) (h1:tmps.getD 4 undef=u) (h2:tmps.getD 5 undef=.pointer (some ⟨X,0,none⟩)) (hx:w.heap[X]? = some (.cells #[c0,c1,c2,c3,c4,c5,c6,c7] 86 (0,0))) :
  (results Tryz.f66 tmps).run Tryz.prog w=.ok (.tuple #[u,.agg #[c0,c1,c2,c3,c4,c5,c6,c7]]) w:=by
 obtain ⟨x0,x1,x2,x3,x4,x5,x6,x7,_⟩:=m8_cells hx
 simp only [Array.getD_eq_getD_getElem?] at h1 h2
 simp [results,Tryz.results66,h1,h2,x0,x1,x2,x3,x4,x5,x6,x7,go_sem]
theorem Ch.pcells_get:∀ (l:List Ch.S) (i:Nat),i < l.length→(l.flatMap Ch.pcells)[i * 2]? = some (.string (l.getD i Ch.nE))
 | [],i,h=>by simp at h
 | a :: l,0,_=>rfl
 | a :: l,i+1,h=>by
  have k:=Ch.pcells_get l i (by simpa using h)
  have e:((a :: l).flatMap Ch.pcells)=.string a :: .string Ch.nE :: l.flatMap Ch.pcells:=rfl
  rw [e,show (i+1) * 2=i * 2+1+1 from by omega]
  simpa using k
theorem Ch.own_cell {w:World} {bs e sz n g c j:Nat} {xs:List Value} {u:Value} (h:w.ownsRow bs e sz (.slice (some ⟨g,0,none⟩) n c) n xs) (hj:xs[j]? = some u):w.cell? ⟨g,j,none⟩=some u:=by
 have k:=h.cells (g:=g) rfl j u hj
 rwa [Addr.add_lit,Nat.zero_add] at k
theorem Ch.own_at {w:World} {bs e sz n:Nat} {a:Option Addr} {c:Nat} {xs:List Value} (h:w.ownsRow bs e sz (.slice a n c) n xs) (hn:0 < n):∃ b,a=some ⟨b,0,none⟩:=by
 rcases h.2 with ⟨e1,e2⟩ | ⟨g,cap,cur,e1,_⟩
 ·omega
 ·cases e1
  exact ⟨g,rfl⟩
theorem info_str08:(Tryz.prog.info? 9).map (fun i=>(i.zero,i.size,i.bytes))=some (some (.string ⟨#[]⟩),1,16):=by kernel_rfl
theorem info_flow08:(Tryz.prog.info? 163).map (fun i=>(i.zero,i.size,i.bytes))=some (some (.agg #[.string ⟨#[]⟩,.string ⟨#[]⟩,.string ⟨#[]⟩,.string ⟨#[]⟩]),4,64):=by kernel_rfl
theorem Ch.fcells_one:∀ (l:List Ch.Fl),∀ u∈l.flatMap Ch.fcells,u.oneCell'=true:=fun l u hu=>by
 rw [List.mem_flatMap] at hu
 obtain ⟨x,_,hx⟩:=hu
 simp [Ch.fcells] at hx
 rcases hx with rfl | rfl | rfl | rfl <;> rfl
set_option maxRecDepth 100000 in
set_option maxHeartbeats 8000000 in
theorem task08_any (c:Ch.Cx) (m:Ch.Mk) (x:Nat) (vp va vf vi vs:Value) (W:World) (_hx:x < 16777216) (hn:m.n≤10000) (hit:m.items.length≤10000) (hfl:m.flows.length≤10000) (hpa:2≤c.parts.length∧c.parts.length≤4) (hc:c.pre.size≤1000) (h:Ch.MkAt W c m vp va vf vi vs) :
  Calls Tryz.prog 66 #[.agg (Ch.mc c m vp va vf vi vs),.int .i64 (x:Int)] W fun e w'=>∃ vf' vi',e=.returned (.tuple #[.string (Ch.taskT c m x).1,.agg (Ch.mc c (Ch.taskT c m x).2 vp va vf' vi' vs)])∧Ch.MkAt w' c (Ch.taskT c m x).2 vp va vf' vi' vs∧Flow.Grow W w':=by
 have HNm:=Lib.hid fun (k:Ch.Mk) (s:ByteArray) (hk:k.n≤100000) (hs:s.size≤1000) w (g:Ch.MkAt w c k vp va vf vi vs)=>name_any c k s vp va vf vi vs w hk hs hc g
 have H:=Lib.hid h
 have HM1:=Lib.hid fun w (g:Flow.Grow W w)=>(show Ch.MkAt w c m.named vp va vf vi vs from ⟨(h.grow g).p,(h.grow g).parts,(h.grow g).flows,(h.grow g).items,(h.grow g).seqs⟩)
 have HM2:=Lib.hid fun w (g:Flow.Grow W w)=>(show Ch.MkAt w c m.named.named vp va vf vi vs from ⟨(h.grow g).p,(h.grow g).parts,(h.grow g).flows,(h.grow g).items,(h.grow g).seqs⟩)
 obtain ⟨p0,p1,a0,a1,f0,f1,i0,i1,s0,s1,rfl,rfl,rfl,rfl,rfl⟩:=h.forms
 have HPc:Hid (∀ w,Flow.Grow W w→∀ i,i < c.parts.length→∀ b,a0=some ⟨b,0,none⟩→w.cell? ⟨b,i * 2,none⟩=some (.string (c.part i))):=Lib.hid fun w g i hi b hb=>by
  subst hb
  exact Ch.own_cell (own_keep h.parts g) (Ch.pcells_get c.parts i hi)
 obtain ⟨pb,rfl⟩:=Ch.own_at h.parts (by omega)
 clear h
 obtain ⟨np,hnp⟩:∃ n,n=c.parts.length:=⟨_,rfl⟩
 have Hnp:=Lib.hid hnp
 rw [← hnp] at hpa HPc HNm HM1 HM2 H ⊢
 clear hnp
 obtain ⟨A,hA⟩:∃ k,k=x % 16 % np:=⟨_,rfl⟩
 obtain ⟨D,hD⟩:∃ k,k=x / 16 % 16 % (np - 1):=⟨_,rfl⟩
 obtain ⟨B,hB⟩:∃ k,k=(A+1+D) % np:=⟨_,rfl⟩
 have HW:Hid (c.who x=(A,B)):=Lib.hid (by rw [hB,hD,hA,Hnp.out];rfl)
 have hAl:A < np:=by rw [hA];exact Nat.mod_lt _ (by omega)
 have hBl:B < np:=by rw [hB];exact Nat.mod_lt _ (by omega)
 have hDl:D < np - 1:=by rw [hD];exact Nat.mod_lt _ (by omega)
 have HW1:Hid (wrap64 ((A:Int)+1)=(A:Int)+1):=Lib.hid (IntWalk.wrap64_in _ (by omega))
 have HW2:Hid (wrap64 ((A:Int)+1+(D:Int))=(A:Int)+1+(D:Int)):=Lib.hid (IntWalk.wrap64_in _ (by omega))
 have m15:=Bits.i64_mask (x:Int) 4 (by omega) 15 (by decide)
 have e15:(x:Int) % 2 ^ 4=((x % 16:Nat):Int):=by omega
 have q1:((x % 16:Nat):Int).tmod (np:Int)=(A:Int):=by rw [hA];exact (Int.ofNat_tmod _ _).symm
 have m4:=Bits.i64_mask ((x:Int) / 16) 4 (by omega) 15 (by decide)
 have e4:((x:Int) / 16) % 2 ^ 4=((x / 16 % 16:Nat):Int):=by omega
 have n1:(np:Int) - 1=((np - 1:Nat):Int):=by omega
 have q2:((x / 16 % 16:Nat):Int).tmod ((np:Int) - 1)=(D:Int):=by rw [hD,n1];exact (Int.ofNat_tmod _ _).symm
 have s1:(A:Int)+1+(D:Int)=((A+1+D:Nat):Int):=by omega
 have q3:((A:Int)+1+(D:Int)).tmod (np:Int)=(B:Int):=by rw [hB,s1];exact (Int.ofNat_tmod _ _).symm
 rw [e15] at m15
 rw [e4] at m4
 have z1:((np:Int) == 0)=false:=by simp;omega
 have z2:((np:Int) - 1 == 0)=false:=by simp;omega
 have HAx:=Lib.hid hA
 have HDx:=Lib.hid hD
 clear e15 e4 n1 s1 hA hD hB
 simp only [Ch.mc] at HNm ⊢
 go_enter Tryz.func66,Tryz.ntmps66
 go_upto_region 1 with fail
 have HBw10:Hid (((W.alloc (.cells #[.slice p0 c.p.length p1,.int .i64 (m.at_:Int),.int .i64 (m.n:Int),.slice (some ⟨pb,0,none⟩) np a1,.slice f0 m.flows.length f1,.slice i0 m.items.length i1,.slice s0 m.seqs.length s1,.string c.pre] 86)).alloc (.cells #[.slice none 0 0,.int .i64 0,.int .i64 0,.slice none 0 0,.slice none 0 0,.slice none 0 0,.slice none 0 0,.string ⟨#[]⟩] 86)).heap[W.heap.size]? = some (.cells #[.slice p0 c.p.length p1,.int .i64 (m.at_:Int),.int .i64 (m.n:Int),.slice (some ⟨pb,0,none⟩) np a1,.slice f0 m.flows.length f1,.slice i0 m.items.length i1,.slice s0 m.seqs.length s1,.string c.pre] 86 (0,0))):=Lib.hid (lay2_0 _ _ _)
 have HBw11:Hid (((W.alloc (.cells #[.slice p0 c.p.length p1,.int .i64 (m.at_:Int),.int .i64 (m.n:Int),.slice (some ⟨pb,0,none⟩) np a1,.slice f0 m.flows.length f1,.slice i0 m.items.length i1,.slice s0 m.seqs.length s1,.string c.pre] 86)).alloc (.cells #[.slice none 0 0,.int .i64 0,.int .i64 0,.slice none 0 0,.slice none 0 0,.slice none 0 0,.slice none 0 0,.string ⟨#[]⟩] 86)).heap[W.heap.size+1]? = some (.cells #[.slice none 0 0,.int .i64 0,.int .i64 0,.slice none 0 0,.slice none 0 0,.slice none 0 0,.slice none 0 0,.string ⟨#[]⟩] 86 (0,0))):=Lib.hid (lay2_1 _ _ _)
 have HGw1:Hid (Flow.Grow W ((W.alloc (.cells #[.slice p0 c.p.length p1,.int .i64 (m.at_:Int),.int .i64 (m.n:Int),.slice (some ⟨pb,0,none⟩) np a1,.slice f0 m.flows.length f1,.slice i0 m.items.length i1,.slice s0 m.seqs.length s1,.string c.pre] 86)).alloc (.cells #[.slice none 0 0,.int .i64 0,.int .i64 0,.slice none 0 0,.slice none 0 0,.slice none 0 0,.slice none 0 0,.string ⟨#[]⟩] 86))):=Lib.hid (lay2_g _ _ _)
 have HSw1:Hid (((W.alloc (.cells #[.slice p0 c.p.length p1,.int .i64 (m.at_:Int),.int .i64 (m.n:Int),.slice (some ⟨pb,0,none⟩) np a1,.slice f0 m.flows.length f1,.slice i0 m.items.length i1,.slice s0 m.seqs.length s1,.string c.pre] 86)).alloc (.cells #[.slice none 0 0,.int .i64 0,.int .i64 0,.slice none 0 0,.slice none 0 0,.slice none 0 0,.slice none 0 0,.string ⟨#[]⟩] 86)).heap.size=W.heap.size+1+1):=Lib.hid (by simp)
 generalize (W.alloc (.cells #[.slice p0 c.p.length p1,.int .i64 (m.at_:Int),.int .i64 (m.n:Int),.slice (some ⟨pb,0,none⟩) np a1,.slice f0 m.flows.length f1,.slice i0 m.items.length i1,.slice s0 m.seqs.length s1,.string c.pre] 86)).alloc (.cells #[.slice none 0 0,.int .i64 0,.int .i64 0,.slice none 0 0,.slice none 0 0,.slice none 0 0,.slice none 0 0,.string ⟨#[]⟩] 86)=w1 at *
 obtain ⟨X,hX⟩:∃ X,X=W.heap.size:=⟨_,rfl⟩
 rw [← hX] at HBw10 HBw11 HSw1 ⊢
 have HXw1:=Lib.hid hX
 clear hX
 have CXw1:Hid (∀ wq,Flow.Grow w1 wq→wq.cell? ⟨X,0,none⟩=some (.slice p0 c.p.length p1)∧wq.cell? ⟨X,1,none⟩=some (.int .i64 (m.at_:Int))∧wq.cell? ⟨X,2,none⟩=some (.int .i64 (m.n:Int))∧wq.cell? ⟨X,3,none⟩=some (.slice (some ⟨pb,0,none⟩) np a1)∧wq.cell? ⟨X,4,none⟩=some (.slice f0 m.flows.length f1)∧wq.cell? ⟨X,5,none⟩=some (.slice i0 m.items.length i1)∧wq.cell? ⟨X,6,none⟩=some (.slice s0 m.seqs.length s1)∧wq.cell? ⟨X,7,none⟩=some (.string c.pre)∧wq.cell? ⟨X+1,0,none⟩=some (.slice none 0 0)∧wq.cell? ⟨X+1,1,none⟩=some (.int .i64 0)∧wq.cell? ⟨X+1,2,none⟩=some (.int .i64 0)∧wq.cell? ⟨X+1,3,none⟩=some (.slice none 0 0)∧wq.cell? ⟨X+1,4,none⟩=some (.slice none 0 0)∧wq.cell? ⟨X+1,5,none⟩=some (.slice none 0 0)∧wq.cell? ⟨X+1,6,none⟩=some (.slice none 0 0)∧wq.cell? ⟨X+1,7,none⟩=some (.string ⟨#[]⟩)):=Lib.hid (fun wq g=>⟨lay_cell g HBw10.out rfl,lay_cell g HBw10.out rfl,lay_cell g HBw10.out rfl,lay_cell g HBw10.out rfl,lay_cell g HBw10.out rfl,lay_cell g HBw10.out rfl,lay_cell g HBw10.out rfl,lay_cell g HBw10.out rfl,lay_cell g HBw11.out rfl,lay_cell g HBw11.out rfl,lay_cell g HBw11.out rfl,lay_cell g HBw11.out rfl,lay_cell g HBw11.out rfl,lay_cell g HBw11.out rfl,lay_cell g HBw11.out rfl,lay_cell g HBw11.out rfl⟩)
 have FXw1:Hid (∀ wq,Flow.Grow w1 wq→(∀ k,wq.frozen? ⟨X,k,none⟩=false)∧(∀ k,wq.frozen? ⟨X+1,k,none⟩=false)):=Lib.hid (fun wq g=>⟨fun k=>lay_frozen g HBw10.out k,fun k=>lay_frozen g HBw11.out k⟩)
 have hX:W.heap.size≤X:=by rw [HXw1.out];exact Nat.le_refl _
 obtain ⟨x0,x1,x2,x3,x4,x5,x6,x7,xf⟩:=m8_cells HBw10.out
 go_upto_region 5 with fail
 clear q1 q2 m15 m4 z1 z2
 have e7:(x:Int) % 16 % (np:Int)=(A:Int):=by rw [HAx.out,Int.natCast_emod,Int.natCast_emod];rfl
 have eD:(x:Int) / 16 % 16 % ((np:Int) - 1)=(D:Int):=by
  have e1:(np:Int) - 1=((np - 1:Nat):Int):=by omega
  rw [HDx.out,Int.natCast_emod,Int.natCast_emod,Int.natCast_ediv,← e1]
  rfl
 have w1':=HW1.out
 have w2':=HW2.out
 generalize hvA:(x:Int) % 16 % (np:Int)=vA
 obtain rfl:vA=(A:Int):=by rw [← hvA];exact e7
 clear hvA
 generalize hvB:(wrap64 (wrap64 ((A:Int)+1)+(x:Int) / 16 % 16 % ((np:Int) - 1))).tmod (np:Int)=vB
 obtain rfl:vB=(B:Int):=by rw [← hvB,w1',eD,w2'];exact q3
 clear hvB
 clear e7 eD w1' w2' q3
 go_upto_region 6 with (go_at_call 41;refine (HNm.out m ⟨#[116]⟩ (by omega) (by decide) _ (H.out.grow HGw1.out)).mono ?_;rintro e w2 ⟨rfl,hg⟩;have HG2:=Lib.hid (HGw1.out.trans hg);have hb2:=heap_keep hg HBw10.out;have hz2:=heap_keep hg HBw11.out;obtain ⟨y0,y1,y2,y3,y4,y5,y6,y7,yf⟩:=m8_cells hb2;clear hg)
 clear x0 x1 x2 x3 x4 x5 x6 x7 xf y0 y1 y2 y3 y4 y5 y6 y7 yf
 have HBw3:=Lib.hid (m8_set (w:=w2) (X:=X) (.slice p0 c.p.length p1) (.int .i64 ((m.named.at_:Nat):Int)) (.int .i64 ((m.named.n:Nat):Int)) (.slice (some ⟨pb,0,none⟩) np a1) (.slice f0 m.flows.length f1) (.slice i0 m.items.length i1) (.slice s0 m.seqs.length s1) (.string c.pre) hb2)
 have HGw3:=Lib.hid (m8_grow (w:=w2) (X:=X) (HG2.out) (hX) (.slice p0 c.p.length p1) (.int .i64 ((m.named.at_:Nat):Int)) (.int .i64 ((m.named.n:Nat):Int)) (.slice (some ⟨pb,0,none⟩) np a1) (.slice f0 m.flows.length f1) (.slice i0 m.items.length i1) (.slice s0 m.seqs.length s1) (.string c.pre))
 have HZ3:=Lib.hid (m8_other (w:=w2) (X:=X) (.slice p0 c.p.length p1) (.int .i64 ((m.named.at_:Nat):Int)) (.int .i64 ((m.named.n:Nat):Int)) (.slice (some ⟨pb,0,none⟩) np a1) (.slice f0 m.flows.length f1) (.slice i0 m.items.length i1) (.slice s0 m.seqs.length s1) (.string c.pre) (hz2) (by omega))
 rw [show (((((((w2.setCell ⟨X,0,none⟩ (.slice p0 c.p.length p1)).setCell ⟨X,1,none⟩ (.int .i64 ((m.named.at_:Nat):Int))).setCell ⟨X,2,none⟩ (.int .i64 ((m.named.n:Nat):Int))).setCell ⟨X,3,none⟩ (.slice (some ⟨pb,0,none⟩) np a1)).setCell ⟨X,4,none⟩ (.slice f0 m.flows.length f1)).setCell ⟨X,5,none⟩ (.slice i0 m.items.length i1)).setCell ⟨X,6,none⟩ (.slice s0 m.seqs.length s1)).setCell ⟨X,7,none⟩ (.string c.pre)=(((((((w2.setCell ⟨X,0,none⟩ (.slice p0 c.p.length p1)).setCell ⟨X,1,none⟩ (.int .i64 ((m.named.at_:Nat):Int))).setCell ⟨X,2,none⟩ (.int .i64 ((m.named.n:Nat):Int))).setCell ⟨X,3,none⟩ (.slice (some ⟨pb,0,none⟩) np a1)).setCell ⟨X,4,none⟩ (.slice f0 m.flows.length f1)).setCell ⟨X,5,none⟩ (.slice i0 m.items.length i1)).setCell ⟨X,6,none⟩ (.slice s0 m.seqs.length s1)).setCell ⟨X,7,none⟩ (.string c.pre) from rfl]
 generalize (((((((w2.setCell ⟨X,0,none⟩ (.slice p0 c.p.length p1)).setCell ⟨X,1,none⟩ (.int .i64 ((m.named.at_:Nat):Int))).setCell ⟨X,2,none⟩ (.int .i64 ((m.named.n:Nat):Int))).setCell ⟨X,3,none⟩ (.slice (some ⟨pb,0,none⟩) np a1)).setCell ⟨X,4,none⟩ (.slice f0 m.flows.length f1)).setCell ⟨X,5,none⟩ (.slice i0 m.items.length i1)).setCell ⟨X,6,none⟩ (.slice s0 m.seqs.length s1)).setCell ⟨X,7,none⟩ (.string c.pre)=w3 at *
 clear hb2 hz2
 obtain ⟨x0,x1,x2,x3,x4,x5,x6,x7,xf⟩:=m8_cells HBw3.out
 go_upto_region 7 with (go_at_call 41;refine (HNm.out m.named ⟨#[102]⟩ (by have e:m.named.n=m.n+1:=rfl;omega) (by decide) _ (HM1.out _ HGw3.out)).mono ?_;rintro e w4 ⟨rfl,hg⟩;have HG4:=Lib.hid (HGw3.out.trans hg);have hb2:=heap_keep hg HBw3.out;have hz2:=heap_keep hg HZ3.out;obtain ⟨y0,y1,y2,y3,y4,y5,y6,y7,yf⟩:=m8_cells hb2;clear hg)
 clear x0 x1 x2 x3 x4 x5 x6 x7 xf y0 y1 y2 y3 y4 y5 y6 y7 yf
 have HBw5:=Lib.hid (m8_set (w:=w4) (X:=X) (.slice p0 c.p.length p1) (.int .i64 ((m.named.named.at_:Nat):Int)) (.int .i64 ((m.named.named.n:Nat):Int)) (.slice (some ⟨pb,0,none⟩) np a1) (.slice f0 m.flows.length f1) (.slice i0 m.items.length i1) (.slice s0 m.seqs.length s1) (.string c.pre) hb2)
 have HGw5:=Lib.hid (m8_grow (w:=w4) (X:=X) (HG4.out) (hX) (.slice p0 c.p.length p1) (.int .i64 ((m.named.named.at_:Nat):Int)) (.int .i64 ((m.named.named.n:Nat):Int)) (.slice (some ⟨pb,0,none⟩) np a1) (.slice f0 m.flows.length f1) (.slice i0 m.items.length i1) (.slice s0 m.seqs.length s1) (.string c.pre))
 have HZ5:=Lib.hid (m8_other (w:=w4) (X:=X) (.slice p0 c.p.length p1) (.int .i64 ((m.named.named.at_:Nat):Int)) (.int .i64 ((m.named.named.n:Nat):Int)) (.slice (some ⟨pb,0,none⟩) np a1) (.slice f0 m.flows.length f1) (.slice i0 m.items.length i1) (.slice s0 m.seqs.length s1) (.string c.pre) (hz2) (by omega))
 rw [show (((((((w4.setCell ⟨X,0,none⟩ (.slice p0 c.p.length p1)).setCell ⟨X,1,none⟩ (.int .i64 ((m.named.named.at_:Nat):Int))).setCell ⟨X,2,none⟩ (.int .i64 ((m.named.named.n:Nat):Int))).setCell ⟨X,3,none⟩ (.slice (some ⟨pb,0,none⟩) np a1)).setCell ⟨X,4,none⟩ (.slice f0 m.flows.length f1)).setCell ⟨X,5,none⟩ (.slice i0 m.items.length i1)).setCell ⟨X,6,none⟩ (.slice s0 m.seqs.length s1)).setCell ⟨X,7,none⟩ (.string c.pre)=(((((((w4.setCell ⟨X,0,none⟩ (.slice p0 c.p.length p1)).setCell ⟨X,1,none⟩ (.int .i64 ((m.named.named.at_:Nat):Int))).setCell ⟨X,2,none⟩ (.int .i64 ((m.named.named.n:Nat):Int))).setCell ⟨X,3,none⟩ (.slice (some ⟨pb,0,none⟩) np a1)).setCell ⟨X,4,none⟩ (.slice f0 m.flows.length f1)).setCell ⟨X,5,none⟩ (.slice i0 m.items.length i1)).setCell ⟨X,6,none⟩ (.slice s0 m.seqs.length s1)).setCell ⟨X,7,none⟩ (.string c.pre) from rfl]
 generalize (((((((w4.setCell ⟨X,0,none⟩ (.slice p0 c.p.length p1)).setCell ⟨X,1,none⟩ (.int .i64 ((m.named.named.at_:Nat):Int))).setCell ⟨X,2,none⟩ (.int .i64 ((m.named.named.n:Nat):Int))).setCell ⟨X,3,none⟩ (.slice (some ⟨pb,0,none⟩) np a1)).setCell ⟨X,4,none⟩ (.slice f0 m.flows.length f1)).setCell ⟨X,5,none⟩ (.slice i0 m.items.length i1)).setCell ⟨X,6,none⟩ (.slice s0 m.seqs.length s1)).setCell ⟨X,7,none⟩ (.string c.pre)=w5 at *
 clear hb2 hz2
 obtain ⟨nt,hnt⟩:∃ s,s=c.name ⟨#[116]⟩ (m.n+1):=⟨_,rfl⟩
 obtain ⟨nf,hnf⟩:∃ s,s=c.name ⟨#[102]⟩ (m.named.n+1):=⟨_,rfl⟩
 rw [← hnt,← hnf]
 have Hnt:=Lib.hid hnt
 have Hnf:=Lib.hid hnf
 clear hnt hnf
 obtain ⟨pA,hpA⟩:∃ s,s=c.part A:=⟨_,rfl⟩
 obtain ⟨pB,hpB⟩:∃ s,s=c.part B:=⟨_,rfl⟩
 have HpA:=Lib.hid hpA
 have HpB:=Lib.hid hpB
 have HA5:Hid (w5.cell? ⟨pb,A * 2,none⟩=some (.string pA)):=Lib.hid (by rw [hpA];exact HPc.out w5 HGw5.out A hAl pb rfl)
 have HB5:Hid (w5.cell? ⟨pb,B * 2,none⟩=some (.string pB)):=Lib.hid (by rw [hpB];exact HPc.out w5 HGw5.out B hBl pb rfl)
 clear hpA hpB
 obtain ⟨lp,hlp⟩:∃ b,b=decide (x / 16384 % 8=0):=⟨_,rfl⟩
 have Hlp:=Lib.hid hlp
 clear hlp
 have m7:=Bits.i64_mask ((x:Int) / 16384) 3 (by omega) 7 (by decide)
 have Hm7:Hid (bits .and .i64 ((x:Int) / 16384) 7=((x / 16384 % 8:Nat):Int)):=Lib.hid (by rw [m7];omega)
 clear m7
 refine Flow.region_tail2 (R:=Flow.Grow) (C:=fun wq=>Flow.Grow w5 wq) (Fs:=[.inl ((.string nt)),.inl ((.pointer (some ⟨X,3,none⟩))),.inl ((.slice (some ⟨pb,0,none⟩) np a1)),.inl ((.int .i64 (A:Int))),.inl ((.pointer (some ⟨pb,A * 2,none⟩))),.inl ((.pointer (some ⟨pb,A * 2,none⟩))),.inl ((.string pA)),.inl ((.pointer (some ⟨X,3,none⟩))),.inl ((.slice (some ⟨pb,0,none⟩) np a1)),.inl ((.int .i64 (A:Int))),.inl ((.pointer (some ⟨pb,A * 2,none⟩))),.inl ((.pointer (some ⟨pb,A * 2,none⟩))),.inl ((.string pA)),.inl ((.pointer (some ⟨X,3,none⟩))),.inl ((.slice (some ⟨pb,0,none⟩) np a1)),.inl ((.int .i64 (B:Int))),.inl ((.pointer (some ⟨pb,B * 2,none⟩))),.inl ((.pointer (some ⟨pb,B * 2,none⟩))),.inl ((.string pB)),.inr (fun v w=>∃ q,v=.slice (some ⟨q,0,none⟩) 2 2∧w.ownsRow W.heap.size 9 1 v 2 [.string pA,.string pB]),.inl ((.string nf)),.inr (fun v w=>∃ q,v=.slice (some ⟨q,0,none⟩) 1 1∧w.ownsRow W.heap.size 9 1 v 1 [.string nf]),.inl ((.int .i64 (x:Int))),.inl ((.int .i64 ((x:Int) / 16384))),.inl ((.int .i64 ((x / 16384 % 8:Nat):Int))),.inl ((.bool lp)),.inr (fun v w=>∃ qa qb,v=.agg #[.int .i64 3,.string nt,.string pA,.slice (some ⟨qa,0,none⟩) 2 2,.slice (some ⟨qb,0,none⟩) 1 1,.bool lp,.string ⟨#[]⟩,.slice none 0 0,.slice none 0 0,.slice none 0 0]∧w.ownsRow W.heap.size 9 1 (.slice (some ⟨qa,0,none⟩) 2 2) 2 [.string pA,.string pB]∧w.ownsRow W.heap.size 9 1 (.slice (some ⟨qb,0,none⟩) 1 1) 1 [.string nf]),.inr (fun v w=>∃ N,v=.pointer (some ⟨N,0,none⟩)∧w5.heap.size≤N∧w.heap[N]? = some (.cells #[.int .i64 0,.string ⟨#[]⟩,.string ⟨#[]⟩,.slice none 0 0,.slice none 0 0,.bool false,.string ⟨#[]⟩,.slice none 0 0,.slice none 0 0,.slice none 0 0] 116 (0,0)))])
  (S:=[[],[],[1],[],[2,3],[4],[5],[],[7],[],[8,9],[10],[11],[],[13],[],[14,15],[16],[17],[12,18],[],[20],[],[22],[23],[24],[0,6,19,21,25],[],[0,1,2,3,4,5,6,7,8,9,10,11,12,13,14,15,16,17,18,19,20,21,22,23,24,25,26,27]]) 28 (by kernel_rfl) (by kernel_rfl) (by kernel_rfl) (by kernel_rfl) rfl ?stab7 Flow.grow_refl (fun _ _ h k=>h.trans k) (Flow.grow_drew _) ?ones7 ?ends7
 case ones7 =>
  refine Flow.Ones.cons ?_ ?_
  ·intro a w hC hoff _
   have e9:a.eval (.tmp 9)=(.string nt):=hoff.at 9 (by kernel_rfl)
   refine .inl ⟨Flow.want_none rfl,?_⟩
   exact Flow.run_same (Flow.exec_move (.inl rfl) e9) Flow.grow_refl
  refine Flow.Ones.cons ?_ ?_
  ·intro a w hC hoff _
   have e2:a.eval (.tmp 2)=(.pointer (some ⟨X,0,none⟩)):=hoff.at 2 (by kernel_rfl)
   refine .inl ⟨Flow.want_none rfl,?_⟩
   refine Flow.run_same ?_ Flow.grow_refl
   have ec:=Flow.eval_const a
   generalize a.eval=ρ at e2 ec ⊢
   simp [execOp,e2,go_sem]
  refine Flow.Ones.cons ?_ ?_
  ·rintro a w hC hoff ⟨k1,-⟩
   have e43:a.eval (.tmp 43)=(.pointer (some ⟨X,3,none⟩)):=k1 43 rfl
   refine .inl ⟨Flow.want_none rfl,?_⟩
   refine Flow.run_same ?_ Flow.grow_refl
   have ec:=Flow.eval_const a
   generalize a.eval=ρ at e43 ec ⊢
   obtain ⟨x0,x1,x2,x3,x4,x5,x6,x7,xf⟩:=m8_cells (heap_keep hC HBw5.out)
   simp [execOp,e43,x3,go_sem]
  refine Flow.Ones.cons ?_ ?_
  ·intro a w hC hoff _
   have e7:a.eval (.tmp 7)=(.int .i64 (A:Int)):=hoff.at 7 (by kernel_rfl)
   refine .inl ⟨Flow.want_none rfl,?_⟩
   exact Flow.run_same (Flow.exec_move (.inl rfl) e7) Flow.grow_refl
  refine Flow.Ones.cons ?_ ?_
  ·rintro a w hC hoff ⟨k2,k3,-⟩
   have e44:a.eval (.tmp 44)=(.slice (some ⟨pb,0,none⟩) np a1):=k2 44 rfl
   have e45:a.eval (.tmp 45)=(.int .i64 (A:Int)):=k3 45 rfl
   refine .inl ⟨Flow.want_none rfl,?_⟩
   refine Flow.run_same ?_ Flow.grow_refl
   have ec:=Flow.eval_const a
   generalize a.eval=ρ at e44 e45 ec ⊢
   simp [execOp,e44,e45,go_sem];intro hh;omega
  refine Flow.Ones.cons ?_ ?_
  ·rintro a w hC hoff ⟨k4,-⟩
   have e46:a.eval (.tmp 46)=(.pointer (some ⟨pb,A * 2,none⟩)):=k4 46 rfl
   refine .inl ⟨Flow.want_none rfl,?_⟩
   refine Flow.run_same ?_ Flow.grow_refl
   have ec:=Flow.eval_const a
   generalize a.eval=ρ at e46 ec ⊢
   simp [execOp,e46,go_sem]
  refine Flow.Ones.cons ?_ ?_
  ·rintro a w hC hoff ⟨k5,-⟩
   have e47:a.eval (.tmp 47)=(.pointer (some ⟨pb,A * 2,none⟩)):=k5 47 rfl
   refine .inl ⟨Flow.want_none rfl,?_⟩
   refine Flow.run_same ?_ Flow.grow_refl
   have ec:=Flow.eval_const a
   generalize a.eval=ρ at e47 ec ⊢
   have h0:=Xm2.cell_grow hC HA5.out
   simp [execOp,e47,h0,go_sem]
  refine Flow.Ones.cons ?_ ?_
  ·intro a w hC hoff _
   have e2:a.eval (.tmp 2)=(.pointer (some ⟨X,0,none⟩)):=hoff.at 2 (by kernel_rfl)
   refine .inl ⟨Flow.want_none rfl,?_⟩
   refine Flow.run_same ?_ Flow.grow_refl
   have ec:=Flow.eval_const a
   generalize a.eval=ρ at e2 ec ⊢
   simp [execOp,e2,go_sem]
  refine Flow.Ones.cons ?_ ?_
  ·rintro a w hC hoff ⟨k7,-⟩
   have e49:a.eval (.tmp 49)=(.pointer (some ⟨X,3,none⟩)):=k7 49 rfl
   refine .inl ⟨Flow.want_none rfl,?_⟩
   refine Flow.run_same ?_ Flow.grow_refl
   have ec:=Flow.eval_const a
   generalize a.eval=ρ at e49 ec ⊢
   obtain ⟨x0,x1,x2,x3,x4,x5,x6,x7,xf⟩:=m8_cells (heap_keep hC HBw5.out)
   simp [execOp,e49,x3,go_sem]
  refine Flow.Ones.cons ?_ ?_
  ·intro a w hC hoff _
   have e7:a.eval (.tmp 7)=(.int .i64 (A:Int)):=hoff.at 7 (by kernel_rfl)
   refine .inl ⟨Flow.want_none rfl,?_⟩
   exact Flow.run_same (Flow.exec_move (.inl rfl) e7) Flow.grow_refl
  refine Flow.Ones.cons ?_ ?_
  ·rintro a w hC hoff ⟨k8,k9,-⟩
   have e50:a.eval (.tmp 50)=(.slice (some ⟨pb,0,none⟩) np a1):=k8 50 rfl
   have e51:a.eval (.tmp 51)=(.int .i64 (A:Int)):=k9 51 rfl
   refine .inl ⟨Flow.want_none rfl,?_⟩
   refine Flow.run_same ?_ Flow.grow_refl
   have ec:=Flow.eval_const a
   generalize a.eval=ρ at e50 e51 ec ⊢
   simp [execOp,e50,e51,go_sem];intro hh;omega
  refine Flow.Ones.cons ?_ ?_
  ·rintro a w hC hoff ⟨k10,-⟩
   have e52:a.eval (.tmp 52)=(.pointer (some ⟨pb,A * 2,none⟩)):=k10 52 rfl
   refine .inl ⟨Flow.want_none rfl,?_⟩
   refine Flow.run_same ?_ Flow.grow_refl
   have ec:=Flow.eval_const a
   generalize a.eval=ρ at e52 ec ⊢
   simp [execOp,e52,go_sem]
  refine Flow.Ones.cons ?_ ?_
  ·rintro a w hC hoff ⟨k11,-⟩
   have e53:a.eval (.tmp 53)=(.pointer (some ⟨pb,A * 2,none⟩)):=k11 53 rfl
   refine .inl ⟨Flow.want_none rfl,?_⟩
   refine Flow.run_same ?_ Flow.grow_refl
   have ec:=Flow.eval_const a
   generalize a.eval=ρ at e53 ec ⊢
   have h0:=Xm2.cell_grow hC HA5.out
   simp [execOp,e53,h0,go_sem]
  refine Flow.Ones.cons ?_ ?_
  ·intro a w hC hoff _
   have e2:a.eval (.tmp 2)=(.pointer (some ⟨X,0,none⟩)):=hoff.at 2 (by kernel_rfl)
   refine .inl ⟨Flow.want_none rfl,?_⟩
   refine Flow.run_same ?_ Flow.grow_refl
   have ec:=Flow.eval_const a
   generalize a.eval=ρ at e2 ec ⊢
   simp [execOp,e2,go_sem]
  refine Flow.Ones.cons ?_ ?_
  ·rintro a w hC hoff ⟨k13,-⟩
   have e55:a.eval (.tmp 55)=(.pointer (some ⟨X,3,none⟩)):=k13 55 rfl
   refine .inl ⟨Flow.want_none rfl,?_⟩
   refine Flow.run_same ?_ Flow.grow_refl
   have ec:=Flow.eval_const a
   generalize a.eval=ρ at e55 ec ⊢
   obtain ⟨x0,x1,x2,x3,x4,x5,x6,x7,xf⟩:=m8_cells (heap_keep hC HBw5.out)
   simp [execOp,e55,x3,go_sem]
  refine Flow.Ones.cons ?_ ?_
  ·intro a w hC hoff _
   have e8:a.eval (.tmp 8)=(.int .i64 (B:Int)):=hoff.at 8 (by kernel_rfl)
   refine .inl ⟨Flow.want_none rfl,?_⟩
   exact Flow.run_same (Flow.exec_move (.inl rfl) e8) Flow.grow_refl
  refine Flow.Ones.cons ?_ ?_
  ·rintro a w hC hoff ⟨k14,k15,-⟩
   have e56:a.eval (.tmp 56)=(.slice (some ⟨pb,0,none⟩) np a1):=k14 56 rfl
   have e57:a.eval (.tmp 57)=(.int .i64 (B:Int)):=k15 57 rfl
   refine .inl ⟨Flow.want_none rfl,?_⟩
   refine Flow.run_same ?_ Flow.grow_refl
   have ec:=Flow.eval_const a
   generalize a.eval=ρ at e56 e57 ec ⊢
   simp [execOp,e56,e57,go_sem];intro hh;omega
  refine Flow.Ones.cons ?_ ?_
  ·rintro a w hC hoff ⟨k16,-⟩
   have e58:a.eval (.tmp 58)=(.pointer (some ⟨pb,B * 2,none⟩)):=k16 58 rfl
   refine .inl ⟨Flow.want_none rfl,?_⟩
   refine Flow.run_same ?_ Flow.grow_refl
   have ec:=Flow.eval_const a
   generalize a.eval=ρ at e58 ec ⊢
   simp [execOp,e58,go_sem]
  refine Flow.Ones.cons ?_ ?_
  ·rintro a w hC hoff ⟨k17,-⟩
   have e59:a.eval (.tmp 59)=(.pointer (some ⟨pb,B * 2,none⟩)):=k17 59 rfl
   refine .inl ⟨Flow.want_none rfl,?_⟩
   refine Flow.run_same ?_ Flow.grow_refl
   have ec:=Flow.eval_const a
   generalize a.eval=ρ at e59 ec ⊢
   have h0:=Xm2.cell_grow hC HB5.out
   simp [execOp,e59,h0,go_sem]
  refine Flow.Ones.cons ?_ ?_
  ·rintro a w hC hoff ⟨k12,k18,-⟩
   have e54:a.eval (.tmp 54)=(.string pA):=k12 54 rfl
   have e60:a.eval (.tmp 60)=(.string pB):=k18 60 rfl
   refine .inl ⟨Flow.want_none rfl,?_⟩
   refine Flow.run_val (v:=.slice (some ⟨w.heap.size,0,none⟩) 2 2) (w':=w.alloc (.cells #[.string pA,.string pB] 9)) ?_ (Flow.grow_alloc _ _) ⟨_,rfl,World.ownsRow_lit (base:=W.heap.size) (e:=9) (size:=1) w #[.string pA,.string pB] 2 (HGw5.out.trans hC).size (by decide) rfl⟩
   generalize a.eval=ρ at e54 e60 ⊢
   simp [execOp,e54,e60,go_sem]
  refine Flow.Ones.cons ?_ ?_
  ·intro a w hC hoff _
   have e10:a.eval (.tmp 10)=(.string nf):=hoff.at 10 (by kernel_rfl)
   refine .inl ⟨Flow.want_none rfl,?_⟩
   exact Flow.run_same (Flow.exec_move (.inl rfl) e10) Flow.grow_refl
  refine Flow.Ones.cons ?_ ?_
  ·rintro a w hC hoff ⟨k20,-⟩
   have e62:a.eval (.tmp 62)=(.string nf):=k20 62 rfl
   refine .inl ⟨Flow.want_none rfl,?_⟩
   refine Flow.run_val (v:=.slice (some ⟨w.heap.size,0,none⟩) 1 1) (w':=w.alloc (.cells #[.string nf] 9)) ?_ (Flow.grow_alloc _ _) ⟨_,rfl,World.ownsRow_lit (base:=W.heap.size) (e:=9) (size:=1) w #[.string nf] 1 (HGw5.out.trans hC).size (by decide) rfl⟩
   generalize a.eval=ρ at e62 ⊢
   simp [execOp,e62,go_sem]
  refine Flow.Ones.cons ?_ ?_
  ·intro a w hC hoff _
   have e1:a.eval (.tmp 1)=(.int .i64 (x:Int)):=hoff.at 1 (by kernel_rfl)
   refine .inl ⟨Flow.want_none rfl,?_⟩
   exact Flow.run_same (Flow.exec_move (.inl rfl) e1) Flow.grow_refl
  refine Flow.Ones.cons ?_ ?_
  ·rintro a w hC hoff ⟨k22,-⟩
   have e64:a.eval (.tmp 64)=(.int .i64 (x:Int)):=k22 64 rfl
   refine .inl ⟨Flow.want_none rfl,?_⟩
   refine Flow.run_same ?_ Flow.grow_refl
   have ec:=Flow.eval_const a
   generalize a.eval=ρ at e64 ec ⊢
   simp [execOp,e64,ec,go_sem]
  refine Flow.Ones.cons ?_ ?_
  ·rintro a w hC hoff ⟨k23,-⟩
   have e65:a.eval (.tmp 65)=(.int .i64 ((x:Int) / 16384)):=k23 65 rfl
   refine .inl ⟨Flow.want_none rfl,?_⟩
   refine Flow.run_same ?_ Flow.grow_refl
   have ec:=Flow.eval_const a
   generalize a.eval=ρ at e65 ec ⊢
   have hm:=Hm7.out
   simp [execOp,e65,ec,hm,go_sem]
  refine Flow.Ones.cons ?_ ?_
  ·rintro a w hC hoff ⟨k24,-⟩
   have e66:a.eval (.tmp 66)=(.int .i64 ((x / 16384 % 8:Nat):Int)):=k24 66 rfl
   refine .inl ⟨Flow.want_none rfl,?_⟩
   refine Flow.run_same ?_ Flow.grow_refl
   have ec:=Flow.eval_const a
   generalize a.eval=ρ at e66 ec ⊢
   rw [Hlp.out]
   simp [execOp,e66,ec,go_sem]
   rw [Bool.eq_iff_iff]
   simp
   omega
  refine Flow.Ones.cons ?_ ?_
  ·rintro a w hC hoff ⟨k0,k6,k19,k21,k25,-⟩
   have e42:a.eval (.tmp 42)=(.string nt):=k0 42 rfl
   have e48:a.eval (.tmp 48)=(.string pA):=k6 48 rfl
   have e61:(fun v w=>∃ q,v=.slice (some ⟨q,0,none⟩) 2 2∧w.ownsRow W.heap.size 9 1 v 2 [.string pA,.string pB]) (a.eval (.tmp 61)) w:=k19 61 rfl
   have e63:(fun v w=>∃ q,v=.slice (some ⟨q,0,none⟩) 1 1∧w.ownsRow W.heap.size 9 1 v 1 [.string nf]) (a.eval (.tmp 63)) w:=k21 63 rfl
   have e67:a.eval (.tmp 67)=(.bool lp):=k25 67 rfl
   refine .inl ⟨Flow.want_none rfl,?_⟩
   obtain ⟨qa,ha1,ha2⟩:=e61
   obtain ⟨qb,hb1,hb2⟩:=e63
   rw [ha1] at ha2
   rw [hb1] at hb2
   refine Flow.run_val (v:=.agg #[.int .i64 3,.string nt,.string pA,.slice (some ⟨qa,0,none⟩) 2 2,.slice (some ⟨qb,0,none⟩) 1 1,.bool lp,.string ⟨#[]⟩,.slice none 0 0,.slice none 0 0,.slice none 0 0]) (w':=w) ?_ (Flow.grow_refl _) ⟨qa,qb,rfl,ha2,hb2⟩
   have hc3:a.eval (.const (.int .i64 3))=.int .i64 3:=rfl
   generalize a.eval=ρ at e42 e48 ha1 hb1 e67 hc3 ⊢
   simp [execOp,e42,e48,ha1,hb1,e67,hc3,go_sem]
  refine Flow.Ones.cons ?_ ?_
  ·intro a w hC hoff _
   refine .inl ⟨Flow.want_none rfl,?_⟩
   refine Flow.run_val (v:=.pointer (some ⟨w.heap.size,0,none⟩)) (w':=w.alloc (.cells #[.int .i64 0,.string ⟨#[]⟩,.string ⟨#[]⟩,.slice none 0 0,.slice none 0 0,.bool false,.string ⟨#[]⟩,.slice none 0 0,.slice none 0 0,.slice none 0 0] 116)) ?_ (Flow.grow_alloc _ _) ⟨_,rfl,hC.size,heap_alloc_new _ _⟩
   simp [execOp,go_sem]
  exact trivial
 case stab7 =>
  simp only [Flow.Stable,and_true]
  exact ⟨fun v w w' hg ⟨q,e,h⟩=>⟨q,e,own_keep h hg⟩,fun v w w' hg ⟨q,e,h⟩=>⟨q,e,own_keep h hg⟩,fun v w w' hg ⟨qa,qb,e,h,k⟩=>⟨qa,qb,e,own_keep h hg,own_keep k hg⟩,fun v w w' hg ⟨N,e,h1,h2⟩=>⟨N,e,h1,heap_keep hg h2⟩⟩
 case ends7 =>
  intro wx o ho hC
  simp only [List.take_succ_cons,List.take_zero,Flow.ends]
  rintro v61 _ v63 _ v68 ⟨qa,qb,rfl,hqa,hqb⟩ v12 ⟨N,rfl,hN,hNr⟩
  have hop:o.op=.store 116 (.tmp 12) (.tmp 68):=by cases ho;rfl
  have hdst:o.dst=none:=by cases ho;rfl
  clear ho
  simp only [Act.put,List.setIfInBounds_toArray,List.set_cons_succ,List.set_cons_zero]
  obtain ⟨y0,y1,y2,y3,y4,y5,y6,y7,y8,y9,yf⟩:=m10_cells hNr
  have HQA:=Lib.hid hqa
  have HQB:=Lib.hid hqb
  have HNr:=Lib.hid hNr
  have HXx:=Lib.hid (heap_keep hC HBw5.out)
  have HZx:=Lib.hid (heap_keep hC HZ5.out)
  have HGx:=Lib.hid (HGw5.out.trans hC)
  have hWN:W.heap.size≤N:=Nat.le_trans HGw5.out.size hN
  have hXN:X≠N:=by
   intro e
   have h1:=(Array.getElem?_eq_some_iff.1 HZ5.out).1
   omega
  have hXN1:X+1≠N:=by
   intro e
   have h1:=(Array.getElem?_eq_some_iff.1 HZ5.out).1
   omega
  clear hC hqa hqb hNr hN
  unfold Oper.wp
  simp only [execOp,hop,Act.eval]
  simp [y0,y1,y2,y3,y4,y5,y6,y7,y8,y9,yf,go_sem]
  simp only [hdst]
  clear y0 y1 y2 y3 y4 y5 y6 y7 y8 y9 yf hop hdst
  have HQA7:=Lib.hid ((TY.blk HNr.out).keep_own (m10_by wx N (.int .i64 3) (.string nt) (.string pA) (.slice (some ⟨qa,0,none⟩) 2 2) (.slice (some ⟨qb,0,none⟩) 1 1) (.bool lp) (.string ⟨#[]⟩) (.slice none 0 0) (.slice none 0 0) (.slice none 0 0)) HQA.out (by decide))
  have HQB7:=Lib.hid ((TY.blk HNr.out).keep_own (m10_by wx N (.int .i64 3) (.string nt) (.string pA) (.slice (some ⟨qa,0,none⟩) 2 2) (.slice (some ⟨qb,0,none⟩) 1 1) (.bool lp) (.string ⟨#[]⟩) (.slice none 0 0) (.slice none 0 0) (.slice none 0 0)) HQB.out (by decide))
  have HBw7:=Lib.hid (m10_set (w:=wx) (X:=N) (.int .i64 3) (.string nt) (.string pA) (.slice (some ⟨qa,0,none⟩) 2 2) (.slice (some ⟨qb,0,none⟩) 1 1) (.bool lp) (.string ⟨#[]⟩) (.slice none 0 0) (.slice none 0 0) (.slice none 0 0) HNr.out)
  have HGw7:=Lib.hid (m10_grow (w:=wx) (X:=N) (HGx.out) (hWN) (.int .i64 3) (.string nt) (.string pA) (.slice (some ⟨qa,0,none⟩) 2 2) (.slice (some ⟨qb,0,none⟩) 1 1) (.bool lp) (.string ⟨#[]⟩) (.slice none 0 0) (.slice none 0 0) (.slice none 0 0))
  have HX7:=Lib.hid (m10_other (w:=wx) (X:=N) (.int .i64 3) (.string nt) (.string pA) (.slice (some ⟨qa,0,none⟩) 2 2) (.slice (some ⟨qb,0,none⟩) 1 1) (.bool lp) (.string ⟨#[]⟩) (.slice none 0 0) (.slice none 0 0) (.slice none 0 0) (HXx.out) (by omega))
  have HZ7:=Lib.hid (m10_other (w:=wx) (X:=N) (.int .i64 3) (.string nt) (.string pA) (.slice (some ⟨qa,0,none⟩) 2 2) (.slice (some ⟨qb,0,none⟩) 1 1) (.bool lp) (.string ⟨#[]⟩) (.slice none 0 0) (.slice none 0 0) (.slice none 0 0) (HZx.out) (by omega))
  rw [show (((((((((wx.setCell ⟨N,0,none⟩ (.int .i64 3)).setCell ⟨N,1,none⟩ (.string nt)).setCell ⟨N,2,none⟩ (.string pA)).setCell ⟨N,3,none⟩ (.slice (some ⟨qa,0,none⟩) 2 2)).setCell ⟨N,4,none⟩ (.slice (some ⟨qb,0,none⟩) 1 1)).setCell ⟨N,5,none⟩ (.bool lp)).setCell ⟨N,6,none⟩ (.string ⟨#[]⟩)).setCell ⟨N,7,none⟩ (.slice none 0 0)).setCell ⟨N,8,none⟩ (.slice none 0 0)).setCell ⟨N,9,none⟩ (.slice none 0 0)=(((((((((wx.setCell ⟨N,0,none⟩ (.int .i64 3)).setCell ⟨N,1,none⟩ (.string nt)).setCell ⟨N,2,none⟩ (.string pA)).setCell ⟨N,3,none⟩ (.slice (some ⟨qa,0,none⟩) 2 2)).setCell ⟨N,4,none⟩ (.slice (some ⟨qb,0,none⟩) 1 1)).setCell ⟨N,5,none⟩ (.bool lp)).setCell ⟨N,6,none⟩ (.string ⟨#[]⟩)).setCell ⟨N,7,none⟩ (.slice none 0 0)).setCell ⟨N,8,none⟩ (.slice none 0 0)).setCell ⟨N,9,none⟩ (.slice none 0 0) from rfl]
  generalize (((((((((wx.setCell ⟨N,0,none⟩ (.int .i64 3)).setCell ⟨N,1,none⟩ (.string nt)).setCell ⟨N,2,none⟩ (.string pA)).setCell ⟨N,3,none⟩ (.slice (some ⟨qa,0,none⟩) 2 2)).setCell ⟨N,4,none⟩ (.slice (some ⟨qb,0,none⟩) 1 1)).setCell ⟨N,5,none⟩ (.bool lp)).setCell ⟨N,6,none⟩ (.string ⟨#[]⟩)).setCell ⟨N,7,none⟩ (.slice none 0 0)).setCell ⟨N,8,none⟩ (.slice none 0 0)).setCell ⟨N,9,none⟩ (.slice none 0 0)=w7 at *
  clear HNr HXx HZx HGx
  clear HQA HQB HA5 HB5 HBw5 HZ5 HGw5 HG4 HZ3 HGw3 HBw3 HG2 HM1
  have HA5:=Lib.hid (HPc.out w7 HGw7.out A hAl pb rfl)
  have HB5:=Lib.hid (HPc.out w7 HGw7.out B hBl pb rfl)
  rw [← HpA.out] at HA5
  rw [← HpB.out] at HB5
  obtain ⟨Y,hY⟩:∃ k,k=x / 256 % 16:=⟨_,rfl⟩
  obtain ⟨Mm,hMm⟩:∃ k,k=Y % 3:=⟨_,rfl⟩
  obtain ⟨mg,hmg⟩:∃ s,s=Ch.msg Mm:=⟨_,rfl⟩
  have m8:=Bits.i64_mask ((x:Int) / 256) 4 (by omega) 15 (by decide)
  have Hm8:Hid (bits .and .i64 ((x:Int) / 256) 15=(Y:Int)):=Lib.hid (by rw [m8,hY];omega)
  clear m8
  have hM3:Mm < 3:=by rw [hMm];exact Nat.mod_lt _ (by decide)
  have HMg:Hid (∀ (w:World) (q:Nat),w.heap[q]? = some (.cells #[.string ⟨#[109,97]⟩,.string ⟨#[109,98]⟩,.string ⟨#[109,99]⟩] 9 (0,0))→w.cell? ⟨q,Mm,none⟩=some (.string mg)):=Lib.hid fun w q hq=>by
   rw [hmg]
   have h3:Mm=0∨Mm=1∨Mm=2:=by omega
   rcases h3 with e | e | e <;> rw [e] <;> exact (cell_of_row w q _ _ _ _ hq).trans rfl
  have HMm:=Lib.hid hMm
  have HmgE:=Lib.hid hmg
  have HYe:=Lib.hid hY
  clear hY hMm hmg
  have HFl7:=Lib.hid (own_keep H.out.flows HGw7.out)
  obtain ⟨i9,hi,hz,hs,hb⟩:=info_parts08 info_flow08
  have HI:=Lib.hid (And.intro hi (And.intro hz (And.intro hs hb)))
  clear hi hz hs hb
  go_wp2_with fail
  refine Flow.region_tailA (R:=Flow.Grow) (C:=Flow.Grow w7) (Fs:=[.inr (fun v w=>∃ q,v=.slice (some ⟨q,0,none⟩) 0 0∧w.ownsRow W.heap.size 163 4 v 0 []),.inl ((.pointer (some ⟨X,4,none⟩))),.inl ((.slice f0 m.flows.length f1)),.inr (fun v w=>∃ g gc,v=.slice (some ⟨g,0,none⟩) m.flows.length gc∧w.ownsRow W.heap.size 163 4 v m.flows.length (m.flows.flatMap Ch.fcells)),.inl ((.string nf)),.inl ((.pointer (some ⟨X,3,none⟩))),.inl ((.slice (some ⟨pb,0,none⟩) np a1)),.inl ((.int .i64 (A:Int))),.inl ((.pointer (some ⟨pb,A * 2,none⟩))),.inl ((.pointer (some ⟨pb,A * 2,none⟩))),.inl ((.string pA)),.inl ((.pointer (some ⟨X,3,none⟩))),.inl ((.slice (some ⟨pb,0,none⟩) np a1)),.inl ((.int .i64 (B:Int))),.inl ((.pointer (some ⟨pb,B * 2,none⟩))),.inl ((.pointer (some ⟨pb,B * 2,none⟩))),.inl ((.string pB)),.inr (fun v w=>∃ q,v=.slice (some ⟨q,0,none⟩) 3 3∧w.heap[q]? = some (.cells #[.string ⟨#[109,97]⟩,.string ⟨#[109,98]⟩,.string ⟨#[109,99]⟩] 9 (0,0))),.inl ((.int .i64 (x:Int))),.inl ((.int .i64 ((x:Int) / 256))),.inl ((.int .i64 (Y:Int))),.inl ((.int .i64 (Mm:Int))),.inr (fun v w=>∃ q,v=.pointer (some ⟨q,Mm,none⟩)∧w.heap[q]? = some (.cells #[.string ⟨#[109,97]⟩,.string ⟨#[109,98]⟩,.string ⟨#[109,99]⟩] 9 (0,0))),.inl ((.string mg)),.inl ((.agg #[.string nf,.string pA,.string pB,.string mg])),.inr (fun v w=>∃ q,v=.slice (some ⟨q,0,none⟩) 1 1∧w.heap[q]? = some (.cells #[.string nf,.string pA,.string pB,.string mg] 163 (0,0)))])
   (S:=[[],[],[1],[0,1,2],[],[],[5],[],[5,6,7],[5,6,7,8],[5,6,7,8,9],[],[11],[],[11,12,13],[11,12,13,14],[11,12,13,14,15],[],[],[18],[18,19],[18,19,20],[17,18,19,20,21],[17,18,19,20,21,22],[4,5,6,7,8,9,10,11,12,13,14,15,16,17,18,19,20,21,22,23],[4,5,6,7,8,9,10,11,12,13,14,15,16,17,18,19,20,21,22,23,24],[0,1,2,3,4,5,6,7,8,9,10,11,12,13,14,15,16,17,18,19,20,21,22,23,24,25],[26]]) 26 (by kernel_rfl) (by kernel_rfl) (by kernel_rfl) rfl ?stab8 (fun _ _ h k=>h.trans k) (Flow.grow_drew _) ?ones8 ?ends8
  case ones8 =>
   refine Flow.Ones.cons ?_ ?_
   ·intro a w hC hoff _
    refine .inl ⟨Flow.want_none rfl,?_⟩
    refine Flow.run_val (v:=.slice (some ⟨w.heap.size,0,none⟩) 0 0) (w':=w.alloc (.cells #[] 163)) ?_ (Flow.grow_alloc _ _) ⟨_,rfl,World.ownsRow_lit (base:=W.heap.size) (e:=163) (size:=4) w #[] 0 (HGw7.out.trans hC).size (by decide) rfl⟩
    simp [execOp,go_sem]
   refine Flow.Ones.cons ?_ ?_
   ·intro a w hC hoff _
    have e2:a.eval (.tmp 2)=(.pointer (some ⟨X,0,none⟩)):=hoff.at 2 (by kernel_rfl)
    refine .inl ⟨Flow.want_none rfl,?_⟩
    refine Flow.run_same ?_ Flow.grow_refl
    have ec:=Flow.eval_const a
    generalize a.eval=ρ at e2 ec ⊢
    simp [execOp,e2,go_sem]
   refine Flow.Ones.cons ?_ ?_
   ·rintro a w hC hoff ⟨k1,-⟩
    have e70:a.eval (.tmp 70)=(.pointer (some ⟨X,4,none⟩)):=k1 70 rfl
    refine .inl ⟨Flow.want_none rfl,?_⟩
    refine Flow.run_same ?_ Flow.grow_refl
    have ec:=Flow.eval_const a
    generalize a.eval=ρ at e70 ec ⊢
    obtain ⟨x0,x1,x2,x3,x4,x5,x6,x7,xf⟩:=m8_cells (heap_keep hC HX7.out)
    simp [execOp,e70,x4,go_sem]
   refine Flow.Ones.cons ?_ ?_
   ·rintro a w hC hoff ⟨k0,_,k2,-⟩
    have e69:(fun v w=>∃ q,v=.slice (some ⟨q,0,none⟩) 0 0∧w.ownsRow W.heap.size 163 4 v 0 []) (a.eval (.tmp 69)) w:=k0 69 rfl
    have e71:a.eval (.tmp 71)=(.slice f0 m.flows.length f1):=k2 71 rfl
    refine .inl ⟨Flow.want_none rfl,?_⟩
    obtain ⟨q,hq1,hq2⟩:=e69
    rw [hq1] at hq2
    refine wp_appF (P:=Tryz.prog) W.heap.size _ _ 44 rfl 163 i9 _ 4 64 Tryz.underlying44 HI.out.1 HI.out.2.1 HI.out.2.2.1 HI.out.2.2.2 rfl (by decide) q hq1 hq2 (HGw7.out.trans hC).size _ _ _ e71 (own_keep HFl7.out hC) (Ch.fcells_one _) (by omega) (by decide) ?_
    intro g gc w' ho hg
    exact ⟨_,rfl,hg,_,_,rfl,ho⟩
   refine Flow.Ones.cons ?_ ?_
   ·intro a w hC hoff _
    have e10:a.eval (.tmp 10)=(.string nf):=hoff.at 10 (by kernel_rfl)
    refine .inl ⟨Flow.want_none rfl,?_⟩
    exact Flow.run_same (Flow.exec_move (.inl rfl) e10) Flow.grow_refl
   refine Flow.Ones.cons ?_ ?_
   ·intro a w hC hoff _
    have e2:a.eval (.tmp 2)=(.pointer (some ⟨X,0,none⟩)):=hoff.at 2 (by kernel_rfl)
    refine .inl ⟨Flow.want_none rfl,?_⟩
    refine Flow.run_same ?_ Flow.grow_refl
    have ec:=Flow.eval_const a
    generalize a.eval=ρ at e2 ec ⊢
    simp [execOp,e2,go_sem]
   refine Flow.Ones.cons ?_ ?_
   ·rintro a w hC hoff ⟨k5,-⟩
    have e74:a.eval (.tmp 74)=(.pointer (some ⟨X,3,none⟩)):=k5 74 rfl
    refine .inl ⟨Flow.want_none rfl,?_⟩
    refine Flow.run_same ?_ Flow.grow_refl
    have ec:=Flow.eval_const a
    generalize a.eval=ρ at e74 ec ⊢
    obtain ⟨x0,x1,x2,x3,x4,x5,x6,x7,xf⟩:=m8_cells (heap_keep hC HX7.out)
    simp [execOp,e74,x3,go_sem]
   refine Flow.Ones.cons ?_ ?_
   ·intro a w hC hoff _
    have e7:a.eval (.tmp 7)=(.int .i64 (A:Int)):=hoff.at 7 (by kernel_rfl)
    refine .inl ⟨Flow.want_none rfl,?_⟩
    exact Flow.run_same (Flow.exec_move (.inl rfl) e7) Flow.grow_refl
   refine Flow.Ones.cons ?_ ?_
   ·rintro a w hC hoff ⟨_,k6,k7,-⟩
    have e75:a.eval (.tmp 75)=(.slice (some ⟨pb,0,none⟩) np a1):=k6 75 rfl
    have e76:a.eval (.tmp 76)=(.int .i64 (A:Int)):=k7 76 rfl
    refine .inl ⟨Flow.want_none rfl,?_⟩
    refine Flow.run_same ?_ Flow.grow_refl
    have ec:=Flow.eval_const a
    generalize a.eval=ρ at e75 e76 ec ⊢
    simp [execOp,e75,e76,go_sem];intro hh;omega
   refine Flow.Ones.cons ?_ ?_
   ·rintro a w hC hoff ⟨_,_,_,k8,-⟩
    have e77:a.eval (.tmp 77)=(.pointer (some ⟨pb,A * 2,none⟩)):=k8 77 rfl
    refine .inl ⟨Flow.want_none rfl,?_⟩
    refine Flow.run_same ?_ Flow.grow_refl
    have ec:=Flow.eval_const a
    generalize a.eval=ρ at e77 ec ⊢
    simp [execOp,e77,go_sem]
   refine Flow.Ones.cons ?_ ?_
   ·rintro a w hC hoff ⟨_,_,_,_,k9,-⟩
    have e78:a.eval (.tmp 78)=(.pointer (some ⟨pb,A * 2,none⟩)):=k9 78 rfl
    refine .inl ⟨Flow.want_none rfl,?_⟩
    refine Flow.run_same ?_ Flow.grow_refl
    have ec:=Flow.eval_const a
    generalize a.eval=ρ at e78 ec ⊢
    have h0:=Xm2.cell_grow hC HA5.out
    simp [execOp,e78,h0,go_sem]
   refine Flow.Ones.cons ?_ ?_
   ·intro a w hC hoff _
    have e2:a.eval (.tmp 2)=(.pointer (some ⟨X,0,none⟩)):=hoff.at 2 (by kernel_rfl)
    refine .inl ⟨Flow.want_none rfl,?_⟩
    refine Flow.run_same ?_ Flow.grow_refl
    have ec:=Flow.eval_const a
    generalize a.eval=ρ at e2 ec ⊢
    simp [execOp,e2,go_sem]
   refine Flow.Ones.cons ?_ ?_
   ·rintro a w hC hoff ⟨k11,-⟩
    have e80:a.eval (.tmp 80)=(.pointer (some ⟨X,3,none⟩)):=k11 80 rfl
    refine .inl ⟨Flow.want_none rfl,?_⟩
    refine Flow.run_same ?_ Flow.grow_refl
    have ec:=Flow.eval_const a
    generalize a.eval=ρ at e80 ec ⊢
    obtain ⟨x0,x1,x2,x3,x4,x5,x6,x7,xf⟩:=m8_cells (heap_keep hC HX7.out)
    simp [execOp,e80,x3,go_sem]
   refine Flow.Ones.cons ?_ ?_
   ·intro a w hC hoff _
    have e8:a.eval (.tmp 8)=(.int .i64 (B:Int)):=hoff.at 8 (by kernel_rfl)
    refine .inl ⟨Flow.want_none rfl,?_⟩
    exact Flow.run_same (Flow.exec_move (.inl rfl) e8) Flow.grow_refl
   refine Flow.Ones.cons ?_ ?_
   ·rintro a w hC hoff ⟨_,k12,k13,-⟩
    have e81:a.eval (.tmp 81)=(.slice (some ⟨pb,0,none⟩) np a1):=k12 81 rfl
    have e82:a.eval (.tmp 82)=(.int .i64 (B:Int)):=k13 82 rfl
    refine .inl ⟨Flow.want_none rfl,?_⟩
    refine Flow.run_same ?_ Flow.grow_refl
    have ec:=Flow.eval_const a
    generalize a.eval=ρ at e81 e82 ec ⊢
    simp [execOp,e81,e82,go_sem];intro hh;omega
   refine Flow.Ones.cons ?_ ?_
   ·rintro a w hC hoff ⟨_,_,_,k14,-⟩
    have e83:a.eval (.tmp 83)=(.pointer (some ⟨pb,B * 2,none⟩)):=k14 83 rfl
    refine .inl ⟨Flow.want_none rfl,?_⟩
    refine Flow.run_same ?_ Flow.grow_refl
    have ec:=Flow.eval_const a
    generalize a.eval=ρ at e83 ec ⊢
    simp [execOp,e83,go_sem]
   refine Flow.Ones.cons ?_ ?_
   ·rintro a w hC hoff ⟨_,_,_,_,k15,-⟩
    have e84:a.eval (.tmp 84)=(.pointer (some ⟨pb,B * 2,none⟩)):=k15 84 rfl
    refine .inl ⟨Flow.want_none rfl,?_⟩
    refine Flow.run_same ?_ Flow.grow_refl
    have ec:=Flow.eval_const a
    generalize a.eval=ρ at e84 ec ⊢
    have h0:=Xm2.cell_grow hC HB5.out
    simp [execOp,e84,h0,go_sem]
   refine Flow.Ones.cons ?_ ?_
   ·intro a w hC hoff _
    refine .inl ⟨Flow.want_none rfl,?_⟩
    refine Flow.run_val (v:=.slice (some ⟨w.heap.size,0,none⟩) 3 3) (w':=w.alloc (.cells #[.string ⟨#[109,97]⟩,.string ⟨#[109,98]⟩,.string ⟨#[109,99]⟩] 9)) ?_ (Flow.grow_alloc _ _) ⟨_,rfl,heap_alloc_new _ _⟩
    have ec:=Flow.eval_const a
    generalize a.eval=ρ at ec ⊢
    simp [execOp,ec,go_sem]
   refine Flow.Ones.cons ?_ ?_
   ·intro a w hC hoff _
    have e1:a.eval (.tmp 1)=(.int .i64 (x:Int)):=hoff.at 1 (by kernel_rfl)
    refine .inl ⟨Flow.want_none rfl,?_⟩
    exact Flow.run_same (Flow.exec_move (.inl rfl) e1) Flow.grow_refl
   refine Flow.Ones.cons ?_ ?_
   ·rintro a w hC hoff ⟨k18,-⟩
    have e87:a.eval (.tmp 87)=(.int .i64 (x:Int)):=k18 87 rfl
    refine .inl ⟨Flow.want_none rfl,?_⟩
    refine Flow.run_same ?_ Flow.grow_refl
    have ec:=Flow.eval_const a
    generalize a.eval=ρ at e87 ec ⊢
    simp [execOp,e87,ec,go_sem]
   refine Flow.Ones.cons ?_ ?_
   ·rintro a w hC hoff ⟨_,k19,-⟩
    have e88:a.eval (.tmp 88)=(.int .i64 ((x:Int) / 256)):=k19 88 rfl
    refine .inl ⟨Flow.want_none rfl,?_⟩
    refine Flow.run_same ?_ Flow.grow_refl
    have ec:=Flow.eval_const a
    generalize a.eval=ρ at e88 ec ⊢
    have hm:=Hm8.out
    simp [execOp,e88,ec,hm,go_sem]
   refine Flow.Ones.cons ?_ ?_
   ·rintro a w hC hoff ⟨_,_,k20,-⟩
    have e89:a.eval (.tmp 89)=(.int .i64 (Y:Int)):=k20 89 rfl
    refine .inl ⟨Flow.want_none rfl,?_⟩
    refine Flow.run_same ?_ Flow.grow_refl
    have ec:=Flow.eval_const a
    generalize a.eval=ρ at e89 ec ⊢
    simp [execOp,e89,ec,go_sem]
    rw [HMm.out]
    exact (Int.ofNat_tmod Y 3).symm
   refine Flow.Ones.cons ?_ ?_
   ·rintro a w hC hoff ⟨k17,_,_,_,k21,-⟩
    have e86:(fun v w=>∃ q,v=.slice (some ⟨q,0,none⟩) 3 3∧w.heap[q]? = some (.cells #[.string ⟨#[109,97]⟩,.string ⟨#[109,98]⟩,.string ⟨#[109,99]⟩] 9 (0,0))) (a.eval (.tmp 86)) w:=k17 86 rfl
    have e90:a.eval (.tmp 90)=(.int .i64 (Mm:Int)):=k21 90 rfl
    refine .inl ⟨Flow.want_none rfl,?_⟩
    obtain ⟨q,hq1,hq2⟩:=e86
    refine Flow.run_val (v:=.pointer (some ⟨q,Mm,none⟩)) (w':=w) ?_ (Flow.grow_refl _) ⟨q,rfl,hq2⟩
    generalize a.eval=ρ at hq1 e90 ⊢
    simp [execOp,hq1,e90,go_sem];intro hh;omega
   refine Flow.Ones.cons ?_ ?_
   ·rintro a w hC hoff ⟨_,_,_,_,_,k22,-⟩
    have e91:(fun v w=>∃ q,v=.pointer (some ⟨q,Mm,none⟩)∧w.heap[q]? = some (.cells #[.string ⟨#[109,97]⟩,.string ⟨#[109,98]⟩,.string ⟨#[109,99]⟩] 9 (0,0))) (a.eval (.tmp 91)) w:=k22 91 rfl
    refine .inl ⟨Flow.want_none rfl,?_⟩
    obtain ⟨q,hq1,hq2⟩:=e91
    refine Flow.run_val (v:=.string mg) (w':=w) ?_ (Flow.grow_refl _) rfl
    have hcq:=HMg.out w q hq2
    generalize a.eval=ρ at hq1 ⊢
    simp [execOp,hq1,hcq,go_sem]
   refine Flow.Ones.cons ?_ ?_
   ·rintro a w hC hoff ⟨k4,_,_,_,_,_,k10,_,_,_,_,_,k16,_,_,_,_,_,_,k23,-⟩
    have e73:a.eval (.tmp 73)=(.string nf):=k4 73 rfl
    have e79:a.eval (.tmp 79)=(.string pA):=k10 79 rfl
    have e85:a.eval (.tmp 85)=(.string pB):=k16 85 rfl
    have e92:a.eval (.tmp 92)=(.string mg):=k23 92 rfl
    refine .inl ⟨Flow.want_none rfl,?_⟩
    refine Flow.run_same ?_ Flow.grow_refl
    have ec:=Flow.eval_const a
    generalize a.eval=ρ at e73 e79 e85 e92 ec ⊢
    simp [execOp,e73,e79,e85,e92,go_sem]
   refine Flow.Ones.cons ?_ ?_
   ·rintro a w hC hoff ⟨_,_,_,_,_,_,_,_,_,_,_,_,_,_,_,_,_,_,_,_,k24,-⟩
    have e93:a.eval (.tmp 93)=(.agg #[.string nf,.string pA,.string pB,.string mg]):=k24 93 rfl
    refine .inl ⟨Flow.want_none rfl,?_⟩
    refine Flow.run_val (v:=.slice (some ⟨w.heap.size,0,none⟩) 1 1) (w':=w.alloc (.cells #[.string nf,.string pA,.string pB,.string mg] 163)) ?_ (Flow.grow_alloc _ _) ⟨_,rfl,heap_alloc_new _ _⟩
    generalize a.eval=ρ at e93 ⊢
    simp [execOp,e93,go_sem]
   exact trivial
  case stab8 =>
   simp only [Flow.Stable,and_true]
   exact ⟨fun v w w' hg ⟨q,e,h⟩=>⟨q,e,own_keep h hg⟩,fun v w w' hg ⟨g,gc,e,h⟩=>⟨g,gc,e,own_keep h hg⟩,fun v w w' hg ⟨q,e,h⟩=>⟨q,e,heap_keep hg h⟩,fun v w w' hg ⟨q,e,h⟩=>⟨q,e,heap_keep hg h⟩,fun v w w' hg ⟨q,e,h⟩=>⟨q,e,heap_keep hg h⟩⟩
  case ends8 =>
   intro wy op1 op2 ho1 ho2 hC
   simp only [List.take_succ_cons,List.take_zero,Flow.ends]
   rintro v69 _ v72 ⟨g8,gc8,rfl,hv8⟩ v86 _ v91 _ v94 ⟨q8,rfl,hq8⟩
   have h1:op1.op=.call { callee:=.builtin .append,args:=#[.tmp 72,.tmp 94],argTypes:=#[44,44] }:=by cases ho1;rfl
   have h1d:op1.dst=some 95:=by cases ho1;rfl
   have h2:op2.op=.assign (.tmp 95):=by cases ho2;rfl
   have h2d:op2.dst=some 13:=by cases ho2;rfl
   clear ho1 ho2
   simp only [Act.put,List.setIfInBounds_toArray,List.set_cons_succ,List.set_cons_zero]
   refine wp_appB W.heap.size _ _ 44 h1 163 i9 _ 4 64 Tryz.underlying44 HI.out.1 HI.out.2.1 HI.out.2.2.1 HI.out.2.2.2 rfl (by decide) (.slice (some ⟨g8,0,none⟩) m.flows.length gc8) m.flows.length _ rfl hv8 (HGw7.out.trans hC).size q8 [.string nf,.string pA,.string pB,.string mg] 1 1 rfl rfl (cells_of hq8) (by intro u hu;simp at hu;rcases hu with rfl | rfl | rfl | rfl <;> rfl) (by omega) (by decide) (by decide) ?_
   intro v9 w9 ho hk
   have HO9:=Lib.hid ho
   have t9:=TY.own hv8
   have HN9:=Lib.hid (t9.keep_blk hk (heap_keep hC HBw7.out) (by decide))
   have HX9:=Lib.hid (t9.keep_blk hk (heap_keep hC HX7.out) (by decide))
   have HZ9:=Lib.hid (t9.keep_blk hk (heap_keep hC HZ7.out) (by decide))
   have HQA9:=Lib.hid (t9.keep_own hk (own_keep HQA7.out hC) (by decide))
   have HQB9:=Lib.hid (t9.keep_own hk (own_keep HQB7.out hC) (by decide))
   have HG9:=Lib.hid (grow_row (HGw7.out.trans hC) hk (own_lo hv8))
   obtain ⟨r9,rc9,rfl⟩:=own_form ho
   obtain ⟨b9,rfl⟩:=Ch.own_at ho (by omega)
   rw [h1d]
   simp only [Act.put,List.setIfInBounds_toArray,List.set_cons_succ,List.set_cons_zero]
   refine Flow.run_wp (Flow.exec_move (c:=.slice (some ⟨b9,0,none⟩) (m.flows.length+1) rc9) (.inr h2) rfl) ?_
   rw [h2d]
   simp only [Act.put,List.setIfInBounds_toArray,List.set_cons_succ,List.set_cons_zero]
   clear h1 h2 h1d h2d ho hk hC hv8 hq8 t9 HA5 HB5 HQA7 HQB7 HBw7 HX7 HZ7 HGw7 HFl7
   have m12:=Bits.i64_mask ((x:Int) / 4096) 2 (by omega) 3 (by decide)
   obtain ⟨U,hU⟩:∃ k,k=x / 4096 % 4:=⟨_,rfl⟩
   have m12':bits .and .i64 ((x:Int) / 4096) 3=(U:Int):=by rw [m12,hU];omega
   have HU:=Lib.hid hU
   clear m12 hU
   by_cases hU0:U=0
   ·have d0:((U:Int) == 0)=true:=by simp;omega
    obtain ⟨z0,z1,z2,z3,z4,z5,z6,z7,zf⟩:=m8_cells HX9.out
    go_upto_region 11 with (go_at_call 41;refine (HNm.out m.named.named ⟨#[102]⟩ (by have e:m.named.named.n=m.n+1+1:=rfl;omega) (by decide) _ (HM2.out _ HG9.out)).mono ?_;rintro e wa ⟨rfl,hg⟩;have HGa:=Lib.hid (HG9.out.trans hg);have hb2:=heap_keep hg HX9.out;have hz2:=heap_keep hg HZ9.out;have hn2:=heap_keep hg HN9.out;have HOa:=Lib.hid (own_keep HO9.out hg);have HQAa:=Lib.hid (own_keep HQA9.out hg);have HQBa:=Lib.hid (own_keep HQB9.out hg);obtain ⟨y0,y1,y2,y3,y4,y5,y6,y7,yf⟩:=m8_cells hb2;clear hg)
    clear z0 z1 z2 z3 z4 z5 z6 z7 zf y0 y1 y2 y3 y4 y5 y6 y7 yf HX9 HZ9 HN9 HO9 HQA9 HQB9 HG9
    have tX:=TY.blk hb2
    have HOb:=Lib.hid (tX.keep_own (m8_by wa X (.slice p0 c.p.length p1) (.int .i64 ((m.named.named.named.at_:Nat):Int)) (.int .i64 ((m.named.named.named.n:Nat):Int)) (.slice (some ⟨pb,0,none⟩) np a1) (.slice f0 m.flows.length f1) (.slice i0 m.items.length i1) (.slice s0 m.seqs.length s1) (.string c.pre)) HOa.out (by decide))
    have HQAb:=Lib.hid (tX.keep_own (m8_by wa X (.slice p0 c.p.length p1) (.int .i64 ((m.named.named.named.at_:Nat):Int)) (.int .i64 ((m.named.named.named.n:Nat):Int)) (.slice (some ⟨pb,0,none⟩) np a1) (.slice f0 m.flows.length f1) (.slice i0 m.items.length i1) (.slice s0 m.seqs.length s1) (.string c.pre)) HQAa.out (by decide))
    have HQBb:=Lib.hid (tX.keep_own (m8_by wa X (.slice p0 c.p.length p1) (.int .i64 ((m.named.named.named.at_:Nat):Int)) (.int .i64 ((m.named.named.named.n:Nat):Int)) (.slice (some ⟨pb,0,none⟩) np a1) (.slice f0 m.flows.length f1) (.slice i0 m.items.length i1) (.slice s0 m.seqs.length s1) (.string c.pre)) HQBa.out (by decide))
    have HBwb:=Lib.hid (m8_set (w:=wa) (X:=X) (.slice p0 c.p.length p1) (.int .i64 ((m.named.named.named.at_:Nat):Int)) (.int .i64 ((m.named.named.named.n:Nat):Int)) (.slice (some ⟨pb,0,none⟩) np a1) (.slice f0 m.flows.length f1) (.slice i0 m.items.length i1) (.slice s0 m.seqs.length s1) (.string c.pre) hb2)
    have HGwb:=Lib.hid (m8_grow (w:=wa) (X:=X) (HGa.out) (hX) (.slice p0 c.p.length p1) (.int .i64 ((m.named.named.named.at_:Nat):Int)) (.int .i64 ((m.named.named.named.n:Nat):Int)) (.slice (some ⟨pb,0,none⟩) np a1) (.slice f0 m.flows.length f1) (.slice i0 m.items.length i1) (.slice s0 m.seqs.length s1) (.string c.pre))
    have HZb:=Lib.hid (m8_other (w:=wa) (X:=X) (.slice p0 c.p.length p1) (.int .i64 ((m.named.named.named.at_:Nat):Int)) (.int .i64 ((m.named.named.named.n:Nat):Int)) (.slice (some ⟨pb,0,none⟩) np a1) (.slice f0 m.flows.length f1) (.slice i0 m.items.length i1) (.slice s0 m.seqs.length s1) (.string c.pre) (hz2) (by omega))
    have HNb:=Lib.hid (m8_other (w:=wa) (X:=X) (.slice p0 c.p.length p1) (.int .i64 ((m.named.named.named.at_:Nat):Int)) (.int .i64 ((m.named.named.named.n:Nat):Int)) (.slice (some ⟨pb,0,none⟩) np a1) (.slice f0 m.flows.length f1) (.slice i0 m.items.length i1) (.slice s0 m.seqs.length s1) (.string c.pre) (hn2) (by omega))
    rw [show (((((((wa.setCell ⟨X,0,none⟩ (.slice p0 c.p.length p1)).setCell ⟨X,1,none⟩ (.int .i64 ((m.named.named.named.at_:Nat):Int))).setCell ⟨X,2,none⟩ (.int .i64 ((m.named.named.named.n:Nat):Int))).setCell ⟨X,3,none⟩ (.slice (some ⟨pb,0,none⟩) np a1)).setCell ⟨X,4,none⟩ (.slice f0 m.flows.length f1)).setCell ⟨X,5,none⟩ (.slice i0 m.items.length i1)).setCell ⟨X,6,none⟩ (.slice s0 m.seqs.length s1)).setCell ⟨X,7,none⟩ (.string c.pre)=(((((((wa.setCell ⟨X,0,none⟩ (.slice p0 c.p.length p1)).setCell ⟨X,1,none⟩ (.int .i64 ((m.named.named.named.at_:Nat):Int))).setCell ⟨X,2,none⟩ (.int .i64 ((m.named.named.named.n:Nat):Int))).setCell ⟨X,3,none⟩ (.slice (some ⟨pb,0,none⟩) np a1)).setCell ⟨X,4,none⟩ (.slice f0 m.flows.length f1)).setCell ⟨X,5,none⟩ (.slice i0 m.items.length i1)).setCell ⟨X,6,none⟩ (.slice s0 m.seqs.length s1)).setCell ⟨X,7,none⟩ (.string c.pre) from rfl]
    generalize (((((((wa.setCell ⟨X,0,none⟩ (.slice p0 c.p.length p1)).setCell ⟨X,1,none⟩ (.int .i64 ((m.named.named.named.at_:Nat):Int))).setCell ⟨X,2,none⟩ (.int .i64 ((m.named.named.named.n:Nat):Int))).setCell ⟨X,3,none⟩ (.slice (some ⟨pb,0,none⟩) np a1)).setCell ⟨X,4,none⟩ (.slice f0 m.flows.length f1)).setCell ⟨X,5,none⟩ (.slice i0 m.items.length i1)).setCell ⟨X,6,none⟩ (.slice s0 m.seqs.length s1)).setCell ⟨X,7,none⟩ (.string c.pre)=wb at *
    clear hb2 hz2 hn2 HOa HQAa HQBa tX HGa
    obtain ⟨ng,hng⟩:∃ s,s=c.name ⟨#[102]⟩ (m.named.named.n+1):=⟨_,rfl⟩
    rw [← hng]
    have Hng:=Lib.hid hng
    clear hng
    obtain ⟨ist,hi,hz,hs,hb⟩:=info_parts08 info_str08
    have HIs:=Lib.hid (And.intro hi (And.intro hz (And.intro hs hb)))
    clear hi hz hs hb
    obtain ⟨y0,y1,y2,y3,y4,y5,y6,y7,y8,y9,yf⟩:=m10_cells HNb.out
    go_upto_region 12 with (at_builtin;refine wpList_plain rfl fun K' hK'=>?_;refine wp_appB W.heap.size _ _ 23 rfl 9 ist _ 1 16 Tryz.underlying23 HIs.out.1 HIs.out.2.1 HIs.out.2.2.1 HIs.out.2.2.2 rfl (by decide) (.slice (some ⟨qb,0,none⟩) 1 1) 1 [.string nf] rfl (own_keep HQBb.out (Flow.grow_alloc wb (.cells #[.string ng] 9))) (by have:=HGwb.out.size;simp;omega) _ [.string ng] 1 1 rfl rfl (cells_of (heap_alloc_new _ _)) (by intro u hu;simp at hu;rw [hu];rfl) (by omega) (by decide) (by decide) ?_;intro vs5 wc ho hk;refine hK' _ _ ?_;have HQc:=Lib.hid ho;have tq:=TY.own (own_keep HQBb.out (Flow.grow_alloc wb (.cells #[.string ng] 9)));have HXc:=Lib.hid (tq.keep_blk hk (heap_keep (Flow.grow_alloc _ _) HBwb.out) (by decide));have HZc:=Lib.hid (tq.keep_blk hk (heap_keep (Flow.grow_alloc _ _) HZb.out) (by decide));have HNc:=Lib.hid (tq.keep_blk hk (heap_keep (Flow.grow_alloc _ _) HNb.out) (by decide));have HOc:=Lib.hid (tq.keep_own hk (own_keep HOb.out (Flow.grow_alloc _ _)) (by decide));have HKc:=Lib.hid hk;have HGc:=Lib.hid (grow_row (HGwb.out.trans (Flow.grow_alloc _ _)) hk (own_lo HQBb.out));clear ho hk hK' tq;obtain ⟨x0,x1,x2,x3,x4,x5,x6,x7,x8,x9,xf⟩:=m10_cells HNc.out;obtain ⟨_,cq,hv5⟩:=own_form HQc.out;subst hv5)
    obtain ⟨qc,hqc⟩:=Ch.own_at HQc.out (by decide)
    subst hqc
    have hne:qa≠qb:=own_ne HQAb.out HQBb.out (by decide) (by decide)
    have HQAc:=Lib.hid ((own_keep HQAb.out (Flow.grow_alloc wb (.cells #[.string ng] 9))).kept HKc.out (.inr (fun e=>hne (by cases e;rfl))))
    clear x0 x1 x2 x3 x4 x5 x6 x7 x8 x9 xf y0 y1 y2 y3 y4 y5 y6 y7 y8 y9 yf HKc hne HOb HQAb HQBb HBwb HZb HNb HGwb
    have tN:=TY.blk HNc.out
    have HNd:Hid ((wc.setCell ⟨N,4,none⟩ (.slice (some ⟨qc,0,none⟩) 2 cq)).heap[N]? = some (.cells #[.int .i64 3,.string nt,.string pA,.slice (some ⟨qa,0,none⟩) 2 2,.slice (some ⟨qc,0,none⟩) 2 cq,.bool lp,.string ⟨#[]⟩,.slice none 0 0,.slice none 0 0,.slice none 0 0] 116 (0,0))):=Lib.hid ((set_cells HNc.out 4 (.slice (some ⟨qc,0,none⟩) 2 cq)).trans rfl)
    have HXd:=Lib.hid (set_other (g:=N) (q:=4) (u:=.slice (some ⟨qc,0,none⟩) 2 cq) HXc.out hXN)
    have HZd:=Lib.hid (set_other (g:=N) (q:=4) (u:=.slice (some ⟨qc,0,none⟩) 2 cq) HZc.out hXN1)
    have HOd:=Lib.hid (tN.keep_own (by_set wc N 4 (.slice (some ⟨qc,0,none⟩) 2 cq)) HOc.out (by decide))
    have HQAd:=Lib.hid (tN.keep_own (by_set wc N 4 (.slice (some ⟨qc,0,none⟩) 2 cq)) HQAc.out (by decide))
    have HQd:=Lib.hid (tN.keep_own (by_set wc N 4 (.slice (some ⟨qc,0,none⟩) 2 cq)) HQc.out (by decide))
    have HGd:=Lib.hid (set_grow (g:=N) HGc.out hWN 4 (.slice (some ⟨qc,0,none⟩) 2 cq))
    have hf2:(1:Nat)+1=2:=rfl
    rw [hf2] at HQd
    generalize wc.setCell ⟨N,4,none⟩ (.slice (some ⟨qc,0,none⟩) 2 cq)=wd at *
    clear tN HNc HXc HZc HOc HQAc HQc HGc hf2
    have HA5:=Lib.hid (HPc.out wd HGd.out A hAl pb rfl)
    have HB5:=Lib.hid (HPc.out wd HGd.out B hBl pb rfl)
    rw [← HpA.out] at HA5
    rw [← HpB.out] at HB5
    obtain ⟨f9,hf9⟩:∃ n,n=m.flows.length+1:=⟨_,rfl⟩
    rw [← hf9] at HOd ⊢
    refine Flow.region_tailA (R:=Flow.Grow) (C:=Flow.Grow wd) (Fs:=[.inl ((.slice (some ⟨b9,0,none⟩) f9 rc9)),.inl ((.string ng)),.inl ((.pointer (some ⟨X,3,none⟩))),.inl ((.slice (some ⟨pb,0,none⟩) np a1)),.inl ((.int .i64 (B:Int))),.inl ((.pointer (some ⟨pb,B * 2,none⟩))),.inl ((.pointer (some ⟨pb,B * 2,none⟩))),.inl ((.string pB)),.inl ((.pointer (some ⟨X,3,none⟩))),.inl ((.slice (some ⟨pb,0,none⟩) np a1)),.inl ((.int .i64 (A:Int))),.inl ((.pointer (some ⟨pb,A * 2,none⟩))),.inl ((.pointer (some ⟨pb,A * 2,none⟩))),.inl ((.string pA)),.inl ((.agg #[.string ng,.string pB,.string pA,.string ⟨#[109,100]⟩])),.inr (fun v w=>∃ q,v=.slice (some ⟨q,0,none⟩) 1 1∧w.heap[q]? = some (.cells #[.string ng,.string pB,.string pA,.string ⟨#[109,100]⟩] 163 (0,0)))])
     (S:=[[],[],[],[2],[],[2,3,4],[2,3,4,5],[2,3,4,5,6],[],[8],[],[8,9,10],[8,9,10,11],[8,9,10,11,12],[1,2,3,4,5,6,7,8,9,10,11,12,13],[1,2,3,4,5,6,7,8,9,10,11,12,13,14],[0,1,2,3,4,5,6,7,8,9,10,11,12,13,14,15],[16]]) 16 (by kernel_rfl) (by kernel_rfl) (by kernel_rfl) rfl ?stab12 (fun _ _ h k=>h.trans k) (Flow.grow_drew _) ?ones12 ?ends12
    case ones12 =>
     refine Flow.Ones.cons ?_ ?_
     ·intro a w hC hoff _
      have e13:a.eval (.tmp 13)=(.slice (some ⟨b9,0,none⟩) f9 rc9):=hoff.at 13 (by kernel_rfl)
      refine .inl ⟨Flow.want_none rfl,?_⟩
      exact Flow.run_same (Flow.exec_move (.inl rfl) e13) Flow.grow_refl
     refine Flow.Ones.cons ?_ ?_
     ·intro a w hC hoff _
      have e11:a.eval (.tmp 11)=(.string ng):=hoff.at 11 (by kernel_rfl)
      refine .inl ⟨Flow.want_none rfl,?_⟩
      exact Flow.run_same (Flow.exec_move (.inl rfl) e11) Flow.grow_refl
     refine Flow.Ones.cons ?_ ?_
     ·intro a w hC hoff _
      have e2:a.eval (.tmp 2)=(.pointer (some ⟨X,0,none⟩)):=hoff.at 2 (by kernel_rfl)
      refine .inl ⟨Flow.want_none rfl,?_⟩
      refine Flow.run_same ?_ Flow.grow_refl
      have ec:=Flow.eval_const a
      generalize a.eval=ρ at e2 ec ⊢
      simp [execOp,e2,go_sem]
     refine Flow.Ones.cons ?_ ?_
     ·rintro a w hC hoff ⟨k2,-⟩
      have e113:a.eval (.tmp 113)=(.pointer (some ⟨X,3,none⟩)):=k2 113 rfl
      refine .inl ⟨Flow.want_none rfl,?_⟩
      refine Flow.run_same ?_ Flow.grow_refl
      have ec:=Flow.eval_const a
      generalize a.eval=ρ at e113 ec ⊢
      obtain ⟨x0,x1,x2,x3,x4,x5,x6,x7,xf⟩:=m8_cells (heap_keep hC HXd.out)
      simp [execOp,e113,x3,go_sem]
     refine Flow.Ones.cons ?_ ?_
     ·intro a w hC hoff _
      have e8:a.eval (.tmp 8)=(.int .i64 (B:Int)):=hoff.at 8 (by kernel_rfl)
      refine .inl ⟨Flow.want_none rfl,?_⟩
      exact Flow.run_same (Flow.exec_move (.inl rfl) e8) Flow.grow_refl
     refine Flow.Ones.cons ?_ ?_
     ·rintro a w hC hoff ⟨_,k3,k4,-⟩
      have e114:a.eval (.tmp 114)=(.slice (some ⟨pb,0,none⟩) np a1):=k3 114 rfl
      have e115:a.eval (.tmp 115)=(.int .i64 (B:Int)):=k4 115 rfl
      refine .inl ⟨Flow.want_none rfl,?_⟩
      refine Flow.run_same ?_ Flow.grow_refl
      have ec:=Flow.eval_const a
      generalize a.eval=ρ at e114 e115 ec ⊢
      simp [execOp,e114,e115,go_sem];intro hh;omega
     refine Flow.Ones.cons ?_ ?_
     ·rintro a w hC hoff ⟨_,_,_,k5,-⟩
      have e116:a.eval (.tmp 116)=(.pointer (some ⟨pb,B * 2,none⟩)):=k5 116 rfl
      refine .inl ⟨Flow.want_none rfl,?_⟩
      refine Flow.run_same ?_ Flow.grow_refl
      have ec:=Flow.eval_const a
      generalize a.eval=ρ at e116 ec ⊢
      simp [execOp,e116,go_sem]
     refine Flow.Ones.cons ?_ ?_
     ·rintro a w hC hoff ⟨_,_,_,_,k6,-⟩
      have e117:a.eval (.tmp 117)=(.pointer (some ⟨pb,B * 2,none⟩)):=k6 117 rfl
      refine .inl ⟨Flow.want_none rfl,?_⟩
      refine Flow.run_same ?_ Flow.grow_refl
      have ec:=Flow.eval_const a
      generalize a.eval=ρ at e117 ec ⊢
      have h0:=Xm2.cell_grow hC HB5.out
      simp [execOp,e117,h0,go_sem]
     refine Flow.Ones.cons ?_ ?_
     ·intro a w hC hoff _
      have e2:a.eval (.tmp 2)=(.pointer (some ⟨X,0,none⟩)):=hoff.at 2 (by kernel_rfl)
      refine .inl ⟨Flow.want_none rfl,?_⟩
      refine Flow.run_same ?_ Flow.grow_refl
      have ec:=Flow.eval_const a
      generalize a.eval=ρ at e2 ec ⊢
      simp [execOp,e2,go_sem]
     refine Flow.Ones.cons ?_ ?_
     ·rintro a w hC hoff ⟨k8,-⟩
      have e119:a.eval (.tmp 119)=(.pointer (some ⟨X,3,none⟩)):=k8 119 rfl
      refine .inl ⟨Flow.want_none rfl,?_⟩
      refine Flow.run_same ?_ Flow.grow_refl
      have ec:=Flow.eval_const a
      generalize a.eval=ρ at e119 ec ⊢
      obtain ⟨x0,x1,x2,x3,x4,x5,x6,x7,xf⟩:=m8_cells (heap_keep hC HXd.out)
      simp [execOp,e119,x3,go_sem]
     refine Flow.Ones.cons ?_ ?_
     ·intro a w hC hoff _
      have e7:a.eval (.tmp 7)=(.int .i64 (A:Int)):=hoff.at 7 (by kernel_rfl)
      refine .inl ⟨Flow.want_none rfl,?_⟩
      exact Flow.run_same (Flow.exec_move (.inl rfl) e7) Flow.grow_refl
     refine Flow.Ones.cons ?_ ?_
     ·rintro a w hC hoff ⟨_,k9,k10,-⟩
      have e120:a.eval (.tmp 120)=(.slice (some ⟨pb,0,none⟩) np a1):=k9 120 rfl
      have e121:a.eval (.tmp 121)=(.int .i64 (A:Int)):=k10 121 rfl
      refine .inl ⟨Flow.want_none rfl,?_⟩
      refine Flow.run_same ?_ Flow.grow_refl
      have ec:=Flow.eval_const a
      generalize a.eval=ρ at e120 e121 ec ⊢
      simp [execOp,e120,e121,go_sem];intro hh;omega
     refine Flow.Ones.cons ?_ ?_
     ·rintro a w hC hoff ⟨_,_,_,k11,-⟩
      have e122:a.eval (.tmp 122)=(.pointer (some ⟨pb,A * 2,none⟩)):=k11 122 rfl
      refine .inl ⟨Flow.want_none rfl,?_⟩
      refine Flow.run_same ?_ Flow.grow_refl
      have ec:=Flow.eval_const a
      generalize a.eval=ρ at e122 ec ⊢
      simp [execOp,e122,go_sem]
     refine Flow.Ones.cons ?_ ?_
     ·rintro a w hC hoff ⟨_,_,_,_,k12,-⟩
      have e123:a.eval (.tmp 123)=(.pointer (some ⟨pb,A * 2,none⟩)):=k12 123 rfl
      refine .inl ⟨Flow.want_none rfl,?_⟩
      refine Flow.run_same ?_ Flow.grow_refl
      have ec:=Flow.eval_const a
      generalize a.eval=ρ at e123 ec ⊢
      have h0:=Xm2.cell_grow hC HA5.out
      simp [execOp,e123,h0,go_sem]
     refine Flow.Ones.cons ?_ ?_
     ·rintro a w hC hoff ⟨k1,_,_,_,_,_,k7,_,_,_,_,_,k13,-⟩
      have e112:a.eval (.tmp 112)=(.string ng):=k1 112 rfl
      have e118:a.eval (.tmp 118)=(.string pB):=k7 118 rfl
      have e124:a.eval (.tmp 124)=(.string pA):=k13 124 rfl
      refine .inl ⟨Flow.want_none rfl,?_⟩
      refine Flow.run_same ?_ Flow.grow_refl
      have ec:=Flow.eval_const a
      generalize a.eval=ρ at e112 e118 e124 ec ⊢
      simp [execOp,e112,e118,e124,ec,go_sem]
     refine Flow.Ones.cons ?_ ?_
     ·rintro a w hC hoff ⟨_,_,_,_,_,_,_,_,_,_,_,_,_,k14,-⟩
      have e125:a.eval (.tmp 125)=(.agg #[.string ng,.string pB,.string pA,.string ⟨#[109,100]⟩]):=k14 125 rfl
      refine .inl ⟨Flow.want_none rfl,?_⟩
      refine Flow.run_val (v:=.slice (some ⟨w.heap.size,0,none⟩) 1 1) (w':=w.alloc (.cells #[.string ng,.string pB,.string pA,.string ⟨#[109,100]⟩] 163)) ?_ (Flow.grow_alloc _ _) ⟨_,rfl,heap_alloc_new _ _⟩
      generalize a.eval=ρ at e125 ⊢
      simp [execOp,e125,go_sem]
     exact trivial
    case stab12 =>
     simp only [Flow.Stable,and_true]
     exact fun v w w' hg ⟨q,e,h⟩=>⟨q,e,heap_keep hg h⟩
    case ends12 =>
     intro wy2 op3 op4 ho3 ho4 hC
     simp only [List.take_succ_cons,List.take_zero,Flow.ends]
     rintro v126 ⟨q9,rfl,hq9⟩
     have h1:op3.op=.call { callee:=.builtin .append,args:=#[.tmp 111,.tmp 126],argTypes:=#[44,44] }:=by cases ho3;rfl
     have h1d:op3.dst=some 127:=by cases ho3;rfl
     have h2:op4.op=.assign (.tmp 127):=by cases ho4;rfl
     have h2d:op4.dst=some 13:=by cases ho4;rfl
     clear ho3 ho4
     simp only [Act.put,List.setIfInBounds_toArray,List.set_cons_succ,List.set_cons_zero]
     have hOd:=own_keep HOd.out hC
     refine wp_appB W.heap.size _ _ 44 h1 163 i9 _ 4 64 Tryz.underlying44 HI.out.1 HI.out.2.1 HI.out.2.2.1 HI.out.2.2.2 rfl (by decide) (.slice (some ⟨b9,0,none⟩) f9 rc9) f9 _ rfl hOd (HGd.out.trans hC).size q9 [.string ng,.string pB,.string pA,.string ⟨#[109,100]⟩] 1 1 rfl rfl (cells_of hq9) (by intro u hu;simp at hu;rcases hu with rfl | rfl | rfl | rfl <;> rfl) (by omega) (by decide) (by decide) ?_
     intro ve we ho hk
     have t9:=TY.own hOd
     have HNe:=Lib.hid (t9.keep_blk hk (heap_keep hC HNd.out) (by decide))
     have HXe:=Lib.hid (t9.keep_blk hk (heap_keep hC HXd.out) (by decide))
     have HZt:=Lib.hid (t9.keep_blk hk (heap_keep hC HZd.out) (by decide))
     have HQAt:=Lib.hid (t9.keep_own hk (own_keep HQAd.out hC) (by decide))
     have HQBe:=Lib.hid (t9.keep_own hk (own_keep HQd.out hC) (by decide))
     have HGt:=Lib.hid (grow_row (HGd.out.trans hC) hk (own_lo hOd))
     obtain ⟨re,rcf,rfl⟩:=own_form ho
     obtain ⟨bf,rfl⟩:=Ch.own_at ho (by omega)
     have HOe:=Lib.hid ho
     rw [h1d]
     simp only [Act.put,List.setIfInBounds_toArray,List.set_cons_succ,List.set_cons_zero]
     refine Flow.run_wp (Flow.exec_move (c:=.slice (some ⟨bf,0,none⟩) (f9+1) rcf) (.inr h2) rfl) ?_
     rw [h2d]
     simp only [Act.put,List.setIfInBounds_toArray,List.set_cons_succ,List.set_cons_zero]
     clear h1 h2 h1d h2d ho hk hC hq9 t9 hOd HA5 HB5 HNd HXd HZd HQAd HQd HGd HOd
     obtain ⟨K,hK⟩:∃ K,K=m.named.named.named:=⟨_,rfl⟩
     have HXt:=HXe
     rw [← hK] at HXt
     have HK:=Lib.hid hK
     obtain ⟨FS,hFS⟩:∃ l,l=m.flows++[(nf,pA,pB,mg)]++[(ng,pB,pA,Ch.msgD)]:=⟨_,rfl⟩
     have HFS:=Lib.hid hFS
     obtain ⟨fn,hfn⟩:∃ n,n=f9+1:=⟨_,rfl⟩
     rw [← hfn] at HOe ⊢
     have Hfn:Hid (fn=FS.length):=Lib.hid (by rw [hfn,hf9,hFS,List.length_append,List.length_append];rfl)
     obtain ⟨FL,hFL⟩:∃ l,l=[nf,ng]:=⟨_,rfl⟩
     have HFL:=Lib.hid hFL
     obtain ⟨kn,hkn⟩:∃ n,n=2:=⟨_,rfl⟩
     have Hkn:Hid (kn=FL.length):=Lib.hid (by rw [hkn,hFL];rfl)
     have HFt:Hid (we.ownsRow W.heap.size 163 4 (.slice (some ⟨bf,0,none⟩) fn rcf) fn (FS.flatMap Ch.fcells)):=Lib.hid (by
      have k:=HOe.out
      rw [hFS,List.flatMap_append,List.flatMap_append,List.flatMap_cons,List.flatMap_nil,List.append_nil,List.flatMap_cons,List.flatMap_nil,List.append_nil]
      exact k)
     have HQBt:Hid (we.ownsRow W.heap.size 9 1 (.slice (some ⟨qc,0,none⟩) kn cq) kn (FL.map Value.string)):=Lib.hid (by
      rw [hkn,hFL]
      exact HQBe.out)
     have HNt:Hid (we.heap[N]? = some (.cells #[.int .i64 3,.string nt,.string pA,.slice (some ⟨qa,0,none⟩) 2 2,.slice (some ⟨qc,0,none⟩) kn cq,.bool lp,.string ⟨#[]⟩,.slice none 0 0,.slice none 0 0,.slice none 0 0] 116 (0,0))):=Lib.hid (by
      rw [hkn]
      exact HNe.out)
     have HTask:Hid (Ch.taskT c m x=(nt,(⟨K.at_,K.n,FS,m.items,m.seqs⟩:Ch.Mk).item ⟨3,nt,pA,[pA,pB],FL,lp⟩)):=Lib.hid (by
      unfold Ch.taskT
      simp only [HW.out]
      rw [if_pos (by rw [← HU.out];exact hU0),hFS,hFL,hK,Hnt.out,Hnf.out,Hng.out,HpA.out,HpB.out,Hlp.out,HmgE.out,HMm.out,HYe.out]
      rfl)
     clear hK hFS hfn hFL hkn HOe HNe HQBe HXe hf9
     generalize we=wt at *
     generalize hqb:qc=qb at *
     generalize hkc:cq=kc at *
     clear hqb hkc
     obtain ⟨z0,z1,z2,z3,z4,z5,z6,z7,zf⟩:=m8_cells HXt.out
     go_upto_region 14 with fail
     clear z0 z1 z2 z3 z4 z5 z6 z7 zf
     have HXu:Hid ((wt.setCell ⟨X,4,none⟩ (.slice (some ⟨bf,0,none⟩) fn rcf)).heap[X]? = some (.cells #[.slice p0 c.p.length p1,.int .i64 ((K.at_:Nat):Int),.int .i64 ((K.n:Nat):Int),.slice (some ⟨pb,0,none⟩) np a1,.slice (some ⟨bf,0,none⟩) fn rcf,.slice i0 m.items.length i1,.slice s0 m.seqs.length s1,.string c.pre] 86 (0,0))):=Lib.hid ((set_cells HXt.out 4 (.slice (some ⟨bf,0,none⟩) fn rcf)).trans rfl)
     have HZu:=Lib.hid (set_other (g:=X) (q:=4) (u:=.slice (some ⟨bf,0,none⟩) fn rcf) HZt.out (by omega))
     have HNu:=Lib.hid (set_other (g:=X) (q:=4) (u:=.slice (some ⟨bf,0,none⟩) fn rcf) HNt.out (by omega))
     have tX:=TY.blk HXt.out
     have HQAu:=Lib.hid (tX.keep_own (by_set wt X 4 (.slice (some ⟨bf,0,none⟩) fn rcf)) HQAt.out (by decide))
     have HQBu:=Lib.hid (tX.keep_own (by_set wt X 4 (.slice (some ⟨bf,0,none⟩) fn rcf)) HQBt.out (by decide))
     have HFu:=Lib.hid (tX.keep_own (by_set wt X 4 (.slice (some ⟨bf,0,none⟩) fn rcf)) HFt.out (by decide))
     have HGu:=Lib.hid (set_grow (g:=X) HGt.out hX 4 (.slice (some ⟨bf,0,none⟩) fn rcf))
     clear tX HXt HZt HNt HQAt HQBt HFt HGt
     generalize wt.setCell ⟨X,4,none⟩ (.slice (some ⟨bf,0,none⟩) fn rcf)=wu at *
     obtain ⟨z0,z1,z2,z3,z4,z5,z6,z7,zf⟩:=m8_cells HXu.out
     obtain ⟨y0,y1,y2,y3,y4,y5,y6,y7,y8,y9,yf⟩:=m10_cells HNu.out
     have HMu:Hid (Ch.MkAt wu c ⟨K.at_,K.n,FS,m.items,m.seqs⟩ (.slice p0 c.p.length p1) (.slice (some ⟨pb,0,none⟩) np a1) (.slice (some ⟨bf,0,none⟩) fn rcf) (.slice i0 m.items.length i1) (.slice s0 m.seqs.length s1)):=Lib.hid (by
      have k:=H.out.grow HGu.out
      have hf:=Rs.own_mono HFu.out (Nat.zero_le _)
      rw [Hfn.out] at hf
      refine ⟨k.p,k.parts,?_,k.items,k.seqs⟩
      rw [Hfn.out]
      exact hf)
     have HSA:Hid (Ch.Strs wu (.slice (some ⟨qa,0,none⟩) 2 2) [pA,pB]):=Lib.hid (Rs.own_mono HQAu.out (Nat.zero_le _))
     have HSB:Hid (Ch.Strs wu (.slice (some ⟨qb,0,none⟩) kn kc) FL):=Lib.hid (by
      have k:=Rs.own_mono HQBu.out (Nat.zero_le _)
      rw [Hkn.out] at k ⊢
      exact k)
     have HIt:=Lib.hid (item_any c ⟨K.at_,K.n,FS,m.items,m.seqs⟩ ⟨3,nt,pA,[pA,pB],FL,lp⟩ _ _ _ _ _ _ _ wu (by simp only;omega) HMu.out HSA.out HSB.out)
     simp only [Ch.mc,Ch.ic] at HIt
     go_wp2_with (go_at_call 42;refine HIt.out.mono ?_;rintro e wv ⟨vi',rfl,hm,hg⟩;obtain ⟨ysv,_,hvi,_⟩:=hm.items;obtain ⟨j0,j1,hvj⟩:=own_form hvi;subst hvj;clear hvi;have HMv:=Lib.hid hm;have HGv:=Lib.hid (HGu.out.trans hg);have HZv:=Lib.hid (heap_keep hg HZu.out);obtain ⟨u0,u1,u2,u3,u4,u5,u6,u7,uf⟩:=m8_cells HZv.out;clear hm hg)
     have hX1:W.heap.size≤X+1:=by omega
     clear u0 u1 u2 u3 u4 u5 u6 u7 uf z0 z1 z2 z3 z4 z5 z6 z7 zf y0 y1 y2 y3 y4 y5 y6 y7 y8 y9 yf
     refine bodyPost_ret (task_res _ _ (X+1) _ _ _ _ _ _ _ _ _ rfl rfl (m8_set _ _ _ _ _ _ _ _ HZv.out)) rfl ⟨.slice (some ⟨bf,0,none⟩) fn rcf,.slice j0 ((⟨K.at_,K.n,FS,m.items,m.seqs⟩:Ch.Mk).item ⟨3,nt,pA,[pA,pB],FL,lp⟩).items.length j1,?_,?_,m8_grow (w:=wv) (X:=X+1) HGv.out hX1 _ _ _ _ _ _ _ _⟩
     ·rw [HTask.out]
      rfl
     ·rw [HTask.out]
      exact HMv.out.ty (TY.blk HZv.out) (m8_by wv (X+1) _ _ _ _ _ _ _ _) (H.out.grow (m8_grow (w:=wv) (X:=X+1) HGv.out hX1 _ _ _ _ _ _ _ _)).p (by decide) (by decide) (by decide) (by decide) (by decide)
   ·have d0:((U:Int) == 0)=false:=by simp;omega
    obtain ⟨K,hK⟩:∃ K,K=m.named.named:=⟨_,rfl⟩
    rw [← hK] at HX9
    have HK:=Lib.hid hK
    obtain ⟨FS,hFS⟩:∃ l,l=m.flows++[(nf,pA,pB,mg)]:=⟨_,rfl⟩
    have HFS:=Lib.hid hFS
    obtain ⟨fn,hfn⟩:∃ n,n=m.flows.length+1:=⟨_,rfl⟩
    rw [← hfn] at HO9 ⊢
    have Hfn:Hid (fn=FS.length):=Lib.hid (by rw [hfn,hFS,List.length_append];rfl)
    obtain ⟨FL,hFL⟩:∃ l,l=[nf]:=⟨_,rfl⟩
    have HFL:=Lib.hid hFL
    obtain ⟨kn,hkn⟩:∃ n,n=1:=⟨_,rfl⟩
    obtain ⟨kc,hkc⟩:∃ n,n=1:=⟨_,rfl⟩
    have Hkn:Hid (kn=FL.length):=Lib.hid (by rw [hkn,hFL];rfl)
    have HFt:Hid (w9.ownsRow W.heap.size 163 4 (.slice (some ⟨b9,0,none⟩) fn rc9) fn (FS.flatMap Ch.fcells)):=Lib.hid (by
     have k:=HO9.out
     rw [hFS,List.flatMap_append,List.flatMap_cons,List.flatMap_nil,List.append_nil]
     exact k)
    have HQBt:Hid (w9.ownsRow W.heap.size 9 1 (.slice (some ⟨qb,0,none⟩) kn kc) kn (FL.map Value.string)):=Lib.hid (by
     rw [hkn,hkc,hFL]
     exact HQB9.out)
    have HNt:Hid (w9.heap[N]? = some (.cells #[.int .i64 3,.string nt,.string pA,.slice (some ⟨qa,0,none⟩) 2 2,.slice (some ⟨qb,0,none⟩) kn kc,.bool lp,.string ⟨#[]⟩,.slice none 0 0,.slice none 0 0,.slice none 0 0] 116 (0,0))):=Lib.hid (by
     rw [hkn,hkc]
     exact HN9.out)
    have HTask:Hid (Ch.taskT c m x=(nt,(⟨K.at_,K.n,FS,m.items,m.seqs⟩:Ch.Mk).item ⟨3,nt,pA,[pA,pB],FL,lp⟩)):=Lib.hid (by
     unfold Ch.taskT
     simp only [HW.out]
     rw [if_neg (by rw [← HU.out];exact hU0),hFS,hFL,hK,Hnt.out,Hnf.out,HpA.out,HpB.out,Hlp.out,HmgE.out,HMm.out,HYe.out]
     rfl)
    clear hK hFS hfn hFL hkn hkc HO9 HN9 HQB9
    have HXt:=HX9
    have HZt:=HZ9
    have HQAt:=HQA9
    have HGt:=HG9
    clear HX9 HZ9 HQA9 HG9
    generalize w9=wt at *
    generalize b9=bf at *
    generalize rc9=rcf at *
    obtain ⟨z0,z1,z2,z3,z4,z5,z6,z7,zf⟩:=m8_cells HXt.out
    go_upto_region 14 with fail
    clear z0 z1 z2 z3 z4 z5 z6 z7 zf
    have HXu:Hid ((wt.setCell ⟨X,4,none⟩ (.slice (some ⟨bf,0,none⟩) fn rcf)).heap[X]? = some (.cells #[.slice p0 c.p.length p1,.int .i64 ((K.at_:Nat):Int),.int .i64 ((K.n:Nat):Int),.slice (some ⟨pb,0,none⟩) np a1,.slice (some ⟨bf,0,none⟩) fn rcf,.slice i0 m.items.length i1,.slice s0 m.seqs.length s1,.string c.pre] 86 (0,0))):=Lib.hid ((set_cells HXt.out 4 (.slice (some ⟨bf,0,none⟩) fn rcf)).trans rfl)
    have HZu:=Lib.hid (set_other (g:=X) (q:=4) (u:=.slice (some ⟨bf,0,none⟩) fn rcf) HZt.out (by omega))
    have HNu:=Lib.hid (set_other (g:=X) (q:=4) (u:=.slice (some ⟨bf,0,none⟩) fn rcf) HNt.out (by omega))
    have tX:=TY.blk HXt.out
    have HQAu:=Lib.hid (tX.keep_own (by_set wt X 4 (.slice (some ⟨bf,0,none⟩) fn rcf)) HQAt.out (by decide))
    have HQBu:=Lib.hid (tX.keep_own (by_set wt X 4 (.slice (some ⟨bf,0,none⟩) fn rcf)) HQBt.out (by decide))
    have HFu:=Lib.hid (tX.keep_own (by_set wt X 4 (.slice (some ⟨bf,0,none⟩) fn rcf)) HFt.out (by decide))
    have HGu:=Lib.hid (set_grow (g:=X) HGt.out hX 4 (.slice (some ⟨bf,0,none⟩) fn rcf))
    clear tX HXt HZt HNt HQAt HQBt HFt HGt
    generalize wt.setCell ⟨X,4,none⟩ (.slice (some ⟨bf,0,none⟩) fn rcf)=wu at *
    obtain ⟨z0,z1,z2,z3,z4,z5,z6,z7,zf⟩:=m8_cells HXu.out
    obtain ⟨y0,y1,y2,y3,y4,y5,y6,y7,y8,y9,yf⟩:=m10_cells HNu.out
    have HMu:Hid (Ch.MkAt wu c ⟨K.at_,K.n,FS,m.items,m.seqs⟩ (.slice p0 c.p.length p1) (.slice (some ⟨pb,0,none⟩) np a1) (.slice (some ⟨bf,0,none⟩) fn rcf) (.slice i0 m.items.length i1) (.slice s0 m.seqs.length s1)):=Lib.hid (by
     have k:=H.out.grow HGu.out
     have hf:=Rs.own_mono HFu.out (Nat.zero_le _)
     rw [Hfn.out] at hf
     refine ⟨k.p,k.parts,?_,k.items,k.seqs⟩
     rw [Hfn.out]
     exact hf)
    have HSA:Hid (Ch.Strs wu (.slice (some ⟨qa,0,none⟩) 2 2) [pA,pB]):=Lib.hid (Rs.own_mono HQAu.out (Nat.zero_le _))
    have HSB:Hid (Ch.Strs wu (.slice (some ⟨qb,0,none⟩) kn kc) FL):=Lib.hid (by
     have k:=Rs.own_mono HQBu.out (Nat.zero_le _)
     rw [Hkn.out] at k ⊢
     exact k)
    have HIt:=Lib.hid (item_any c ⟨K.at_,K.n,FS,m.items,m.seqs⟩ ⟨3,nt,pA,[pA,pB],FL,lp⟩ _ _ _ _ _ _ _ wu (by simp only;omega) HMu.out HSA.out HSB.out)
    simp only [Ch.mc,Ch.ic] at HIt
    go_wp2_with (go_at_call 42;refine HIt.out.mono ?_;rintro e wv ⟨vi',rfl,hm,hg⟩;obtain ⟨ysv,_,hvi,_⟩:=hm.items;obtain ⟨j0,j1,hvj⟩:=own_form hvi;subst hvj;clear hvi;have HMv:=Lib.hid hm;have HGv:=Lib.hid (HGu.out.trans hg);have HZv:=Lib.hid (heap_keep hg HZu.out);obtain ⟨u0,u1,u2,u3,u4,u5,u6,u7,uf⟩:=m8_cells HZv.out;clear hm hg)
    have hX1:W.heap.size≤X+1:=by omega
    clear u0 u1 u2 u3 u4 u5 u6 u7 uf z0 z1 z2 z3 z4 z5 z6 z7 zf y0 y1 y2 y3 y4 y5 y6 y7 y8 y9 yf
    refine bodyPost_ret (task_res _ _ (X+1) _ _ _ _ _ _ _ _ _ rfl rfl (m8_set _ _ _ _ _ _ _ _ HZv.out)) rfl ⟨.slice (some ⟨bf,0,none⟩) fn rcf,.slice j0 ((⟨K.at_,K.n,FS,m.items,m.seqs⟩:Ch.Mk).item ⟨3,nt,pA,[pA,pB],FL,lp⟩).items.length j1,?_,?_,m8_grow (w:=wv) (X:=X+1) HGv.out hX1 _ _ _ _ _ _ _ _⟩
    ·rw [HTask.out]
     rfl
    ·rw [HTask.out]
     exact HMv.out.ty (TY.blk HZv.out) (m8_by wv (X+1) _ _ _ _ _ _ _ _) (H.out.grow (m8_grow (w:=wv) (X:=X+1) HGv.out hX1 _ _ _ _ _ _ _ _)).p (by decide) (by decide) (by decide) (by decide) (by decide)
end Go.Proofs.YtcnmaplopbbmaaaGreat
