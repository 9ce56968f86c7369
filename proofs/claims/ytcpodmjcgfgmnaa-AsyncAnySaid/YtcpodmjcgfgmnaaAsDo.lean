/- async.Do by its contract. -/
import Derived.Test.YtcpodmjcgfgmnaaMAsA
namespace Go.Proofs.Ytcpodmjcgfgmnaa
open Go.RowKit
theorem row4_own {w:World} {B e sz n g c Y:Nat} {xs:List Value} (c0 c1 c2 c3:Value) (h:w.ownsRow B e sz (.slice (some ⟨g,0,none⟩) n c) n xs) (hne:g≠Y):((((w.setCell ⟨Y,0,none⟩ c0).setCell ⟨Y,1,none⟩ c1).setCell ⟨Y,2,none⟩ c2).setCell ⟨Y,3,none⟩ c3).ownsRow B e sz (.slice (some ⟨g,0,none⟩) n c) n xs :=
 have hb:(Value.slice (some ⟨g,0,none⟩) n c).ownBlock=none∨(Value.slice (some ⟨g,0,none⟩) n c).ownBlock≠some Y:=.inr (by simpa [Value.ownBlock] using hne)
 (((h.kept (grownBy_set _ Y 0 c0) hb).kept (grownBy_set _ Y 1 c1) hb).kept (grownBy_set _ Y 2 c2) hb).kept (grownBy_set _ Y 3 c3) hb
theorem do_res (X:Nat) (v v':Value) (tmps:Array Value) (w:World) (c0 c1 c2 c3:Value) (h10:tmps.getD 10 undef=.pointer (some ⟨X,0,none⟩)) (h11:tmps.getD 11 undef=v) (h12:tmps.getD 12 undef=v') (hx:w.heap[X]?=some (.cells #[c0,c1,c2,c3] 43 (0,0))) :
  (results Try.f13 tmps).run Try.prog w=.ok (.tuple #[.agg #[c0,c1,c2,c3],v,v']) w:=by
 have x0:=(cell_of_row w X 0 _ _ _ hx).trans rfl
 have x1:=(cell_of_row w X 1 _ _ _ hx).trans rfl
 have x2:=(cell_of_row w X 2 _ _ _ hx).trans rfl
 have x3:=(cell_of_row w X 3 _ _ _ hx).trans rfl
 simp at x0 x1 x2 x3
 simp only [Array.getD_eq_getD_getElem?] at h10 h11 h12
 simp [results,Try.results13,h10,h11,h12,x0,x1,x2,x3,go_sem]
theorem info_config:(Try.prog.info? 43).map (fun i=>(i.zero,i.size,i.bytes))=some (some (.agg #[.slice none 0 0,.int .i64 0,.int .i64 0,.slice none 0 0]),4,64):=by kernel_rfl
namespace As
open Pr
def DoPost (W:World) (B:Nat) (room:Nat) (vS vM:Value) (r:Option Cfg × Bool) (e:Ending) (w':World):Prop:=match r with
 | (some d,_)=>∃ sa sn sc va vn vc,e=.returned (.tuple #[.agg #[.slice sa sn sc,.int .i64 3,.int .i64 (room:Nat),.slice va vn vc],.bool true,.bool false])∧CfgD W w' B (.slice sa sn sc) (.slice va vn vc) d
 | (none,bk)=>e=.returned (.tuple #[.agg #[vS,.int .i64 3,.int .i64 (room:Nat),vM],.bool false,.bool bk])
end As
open As in
set_option maxRecDepth 100000 in
set_option maxHeartbeats 4000000 in
theorem asyncDo_any (L room i k:Nat) (vp vl vS vM:Value) (css:List (List Value)) (ps:List Pr.Pd) (c:Cfg) (W0 W:World) (hg0:Sub W0 W) (hL:L≤4) (hroom:room≤1000) (hP:Pr.PeersAt W vp (Pr.labsL L) css ps) (hLs:Pr.LsAt W vl (Pr.labsL L)) (hC0:CfgAt W0 vS vM c) (hw:Wf ps c) (hi:i < 3) (hk:k < (ps.getD i default).acts.length) (hlen:∀ j,(c.2.getD j []).length≤100000) :
  Calls Try.prog 13 #[vp,vl,.agg #[vS,.int .i64 3,.int .i64 (room:Nat),vM],.int .i64 i,.int .i64 k] W fun e w'=>DoPost W0 W.heap.size room vS vM (stp ps (Pr.labsL L) room c i k) e w'∧Flow.Grow W w':=by
 have hC:=hC0.sub hg0
 obtain ⟨pb,po,pc,rfl,hpb,hpa⟩:=hP.at_
 obtain ⟨va,vf,vn,p,hp,f0,f1,f2,f3,f4,f5,f6,f7,f8,f9⟩:=hpa i hi
 have hll:=Pr.labsL_len hL
 obtain ⟨d,q,f,t,m,ha,hq,hl,hf,ht,hd,hfd⟩:=act_at hL hi (by rw [← f9.acts,hp];exact hk)
 rw [← hp] at hk
 rw [← f9.acts] at ha hfd
 obtain ⟨hs0,hs1⟩:=hw.rng i hi
 rw [← hp] at hs1
 have hTS:=toP_at f9 hk hfd hs0 hs1
 have HSt:Hid (stp ps (Pr.labsL L) room c i k=if toS p (c.1.getD i 0) k < 0 then (none,false) else match doB room c.2 ((f:Int),(t:Int),m) (d,(q:Int)) with
  | some b=>(some (c.1.set i (toS p (c.1.getD i 0) k),b),false)
  | none=>(none,(d == 1))):=Lib.hid (by
   unfold stp
   simp only
   rw [← hp,ha]
   simp only [Int.toNat_natCast]
   rw [hl]
   rfl)
 obtain ⟨al,cl,rfl,_⟩:=id hLs
 have Hll:=Lib.hid hll
 rw [hll] at hLs ⊢
 obtain ⟨lb,lo,rfl,y0,y1,y2⟩:=hLs.at (j:=q) (by rw [hll];exact hq)
 rw [hl] at y0 y1 y2
 simp only at y0 y1 y2
 obtain ⟨aa,ac,rfl,_⟩:=id f6
 obtain ⟨ab,ao,rfl,a0,a1⟩:=Pr.Acts_at f6 hk
 rw [ha] at a0 a1
 simp only at a0 a1
 obtain ⟨af,cf,hvf,_⟩:=id f7
 obtain ⟨an,cn,hvn⟩:=f8.val
 obtain ⟨sa,sc,hvs,_⟩:=id hC.st
 have h3:=hw.len
 have hb9:=hw.boxes
 have HCs:=Lib.hid hC.st
 obtain ⟨vs,hbx⟩:=hC0.ml
 obtain ⟨mb,mo,mc,hvm,_,_,_⟩:=hbx.cells (by intro e;rw [e] at hb9;cases hb9)
 have HBx:=Lib.hid hbx
 subst hvs hvf hvn hvm
 rw [hb9] at HBx ⊢
 rw [h3] at HCs ⊢
 obtain ⟨sb,so,hse,s0⟩:=ints_at hC.st (j:=i) (by rw [h3];exact hi)
 subst hse
 have HTo:Hid (∀ wq,Flow.Grow W wq→Calls Try.prog 26 #[.agg #[.int .i64 (i:Nat),.slice (some ⟨ab,ao,none⟩) p.acts.length ac,.int .i64 (p.acts.length:Nat),.int .i64 0,.slice af p.fin.length cf,.slice an p.rows.length cn],.int .i64 (c.1.getD i 0),.agg #[.int .i64 d,.int .i64 (q:Nat)]] wq fun e w'=>∃ v,e=.returned v∧Flow.Grow wq w'∧v=.int .i64 (toS p (c.1.getD i 0) k)):=Lib.hid (fun wq g=>by
  have h:=peerTo_any (i:Nat) _ (.slice af p.fin.length cf) _ p (c.1.getD i 0) d (q:Nat) wq (by rw [f9.acts];have:=Pr.acts_len i (Pr.labsL L) (Pr.labsL L).length;omega) (by have:=f9.few;omega) ⟨_,_,_,rfl⟩ (Seg.grow f6 g) (f8.grow g)
  refine h.mono ?_
  rintro e w' ⟨rfl,hg⟩
  rw [hTS]
  exact ⟨_,rfl,hg,rfl⟩)
 have HPut:Hid (∀ wq,Flow.Grow W wq→Calls Try.prog 27 #[.agg #[.int .i64 3,.int .i64 (room:Nat),.slice (some ⟨mb,mo,none⟩) 9 mc],.int .i64 f,.int .i64 t,.int .i64 (q:Nat)] wq fun e w'=>(match doB room c.2 ((f:Int),(t:Int),m) (1,(q:Int)) with
   | some b'=>∃ va vn vc,e=.returned (.tuple #[.agg #[.int .i64 3,.int .i64 (room:Nat),.slice va vn vc],.bool true])∧MailD W0 w' wq.heap.size (.slice va vn vc) b'
   | none=>e=.returned (.tuple #[.agg #[.int .i64 3,.int .i64 (room:Nat),.slice (some ⟨mb,mo,none⟩) 9 mc],.bool false]))∧Flow.Grow wq w'):=Lib.hid (fun wq g=>mailPut_do room f t m q _ vs c.2 W0 wq (hg0.trans (Sub.of_grow g)) hroom hb9 hf ht HBx.out)
 have HTake:Hid (∀ wq,Flow.Grow W wq→Calls Try.prog 28 #[.agg #[.int .i64 3,.int .i64 (room:Nat),.slice (some ⟨mb,mo,none⟩) 9 mc],.int .i64 f,.int .i64 t,.int .i64 (q:Nat)] wq fun e w'=>(match doB room c.2 ((f:Int),(t:Int),m) (2,(q:Int)) with
   | some b'=>∃ va vn vc,e=.returned (.tuple #[.agg #[.int .i64 3,.int .i64 (room:Nat),.slice va vn vc],.bool true])∧MailD W0 w' wq.heap.size (.slice va vn vc) b'
   | none=>e=.returned (.tuple #[.agg #[.int .i64 3,.int .i64 (room:Nat),.slice (some ⟨mb,mo,none⟩) 9 mc],.bool false]))∧Flow.Grow wq w'):=Lib.hid (fun wq g=>mailTake_do room f t m q _ vs c.2 W0 wq (hg0.trans (Sub.of_grow g)) hb9 hf ht HBx.out (hlen _))
 rw [HSt.out]
 clear HSt hC0 hP hpa f6 f7 f8 f9 hLs hC hbx hw hlen hTS hfd hs0 hs1 ha hl hp
 generalize p.acts.length=K at *
 generalize p.fin.length=F at *
 generalize p.rows.length=N at *
 generalize toS p (c.1.getD i 0) k=tv at *
 generalize c.1.getD i 0=s at *
 have HF:Hid (W.cell? ⟨pb,po+i * 6,none⟩=some (.int .i64 (i:Int))∧W.cell? ⟨pb,po+i * 6+1,none⟩=some (.slice (some ⟨ab,ao,none⟩) K ac)∧W.cell? ⟨pb,po+i * 6+2,none⟩=some (.int .i64 (K:Nat))∧W.cell? ⟨pb,po+i * 6+3,none⟩=some (.int .i64 0)∧W.cell? ⟨pb,po+i * 6+4,none⟩=some (.slice af F cf)∧W.cell? ⟨pb,po+i * 6+5,none⟩=some (.slice an N cn)):=Lib.hid ⟨f0,f1,f2,f3,f4,f5⟩
 have HA:=Lib.hid (And.intro a0 a1)
 have HS:=Lib.hid s0
 have HY:=Lib.hid (And.intro y0 (And.intro y1 y2))
 clear f0 f1 f2 f3 f4 f5 a0 a1 s0 y0 y1 y2
 have i1:decide ((i:Int) < 0)=false:=by simp
 have i2:decide ((i:Int)≥3)=false:=by simp;omega
 have i2n:decide (3≤i)=false:=by simp;omega
 have k1:decide ((k:Int) < 0)=false:=by simp
 have k2:decide ((k:Int)≥(K:Int))=false:=by simp;omega
 have k2n:decide (K≤k)=false:=by simp;omega
 go_enter Try.func13,Try.ntmps13
 go_upto_region 1 with fail
 have HBw10:Hid (((W.alloc (.cells #[.slice (some ⟨sb,so,none⟩) 3 sc,.int .i64 3,.int .i64 (room:Nat),.slice (some ⟨mb,mo,none⟩) 9 mc] 43)).alloc (.cells #[.slice none 0 0,.int .i64 0,.int .i64 0,.slice none 0 0] 43)).heap[W.heap.size]?=some (.cells #[.slice (some ⟨sb,so,none⟩) 3 sc,.int .i64 3,.int .i64 (room:Nat),.slice (some ⟨mb,mo,none⟩) 9 mc] 43 (0,0))):=Lib.hid (lay2_0 _ _ _)
 have HBw11:Hid (((W.alloc (.cells #[.slice (some ⟨sb,so,none⟩) 3 sc,.int .i64 3,.int .i64 (room:Nat),.slice (some ⟨mb,mo,none⟩) 9 mc] 43)).alloc (.cells #[.slice none 0 0,.int .i64 0,.int .i64 0,.slice none 0 0] 43)).heap[W.heap.size+1]?=some (.cells #[.slice none 0 0,.int .i64 0,.int .i64 0,.slice none 0 0] 43 (0,0))):=Lib.hid (lay2_1 _ _ _)
 have HGw1:Hid (Flow.Grow W ((W.alloc (.cells #[.slice (some ⟨sb,so,none⟩) 3 sc,.int .i64 3,.int .i64 (room:Nat),.slice (some ⟨mb,mo,none⟩) 9 mc] 43)).alloc (.cells #[.slice none 0 0,.int .i64 0,.int .i64 0,.slice none 0 0] 43))):=Lib.hid (lay2_g _ _ _)
 have HSw1:Hid (((W.alloc (.cells #[.slice (some ⟨sb,so,none⟩) 3 sc,.int .i64 3,.int .i64 (room:Nat),.slice (some ⟨mb,mo,none⟩) 9 mc] 43)).alloc (.cells #[.slice none 0 0,.int .i64 0,.int .i64 0,.slice none 0 0] 43)).heap.size=W.heap.size+1+1):=Lib.hid (by simp)
 generalize (W.alloc (.cells #[.slice (some ⟨sb,so,none⟩) 3 sc,.int .i64 3,.int .i64 (room:Nat),.slice (some ⟨mb,mo,none⟩) 9 mc] 43)).alloc (.cells #[.slice none 0 0,.int .i64 0,.int .i64 0,.slice none 0 0] 43)=w1 at *
 obtain ⟨X,hX⟩:∃ X,X=W.heap.size:=⟨_,rfl⟩
 rw [← hX] at HBw10 HBw11 HSw1 ⊢
 have HXw1:=Lib.hid hX
 clear hX
 have CXw1:Hid (∀ wq,Flow.Grow w1 wq→wq.cell? ⟨X,0,none⟩=some (.slice (some ⟨sb,so,none⟩) 3 sc)∧wq.cell? ⟨X,1,none⟩=some (.int .i64 3)∧wq.cell? ⟨X,2,none⟩=some (.int .i64 (room:Nat))∧wq.cell? ⟨X,3,none⟩=some (.slice (some ⟨mb,mo,none⟩) 9 mc)∧wq.cell? ⟨X+1,0,none⟩=some (.slice none 0 0)∧wq.cell? ⟨X+1,1,none⟩=some (.int .i64 0)∧wq.cell? ⟨X+1,2,none⟩=some (.int .i64 0)∧wq.cell? ⟨X+1,3,none⟩=some (.slice none 0 0)):=Lib.hid (fun wq g=>⟨lay_cell g HBw10.out rfl,lay_cell g HBw10.out rfl,lay_cell g HBw10.out rfl,lay_cell g HBw10.out rfl,lay_cell g HBw11.out rfl,lay_cell g HBw11.out rfl,lay_cell g HBw11.out rfl,lay_cell g HBw11.out rfl⟩)
 have FXw1:Hid (∀ wq,Flow.Grow w1 wq→(∀ k,wq.frozen? ⟨X,k,none⟩=false)∧(∀ k,wq.frozen? ⟨X+1,k,none⟩=false)):=Lib.hid (fun wq g=>⟨fun k=>lay_frozen g HBw10.out k,fun k=>lay_frozen g HBw11.out k⟩)
 obtain ⟨c00,c01,c02,c03,c10,c11,c12,c13⟩:=CXw1.out w1 (Flow.grow_refl _)
 have f1:=Xm2.cell_grow HGw1.out HF.out.2.1
 have a0:=Xm2.cell_grow HGw1.out HA.out.1
 have a1:=Xm2.cell_grow HGw1.out HA.out.2
 go_upto_region 4 with fail
 clear c00 c01 c02 c03 c10 c11 c12 c13 f1 a0 a1
 have HBw20:Hid ((w1.alloc (.cells #[.int .i64 d,.int .i64 (q:Nat)] 81)).heap[w1.heap.size]?=some (.cells #[.int .i64 d,.int .i64 (q:Nat)] 81 (0,0))):=Lib.hid (lay1_0 _ _)
 have HGw2:Hid (Flow.Grow w1 (w1.alloc (.cells #[.int .i64 d,.int .i64 (q:Nat)] 81))):=Lib.hid (lay1_g _ _)
 have HSw2:Hid ((w1.alloc (.cells #[.int .i64 d,.int .i64 (q:Nat)] 81)).heap.size=w1.heap.size+1):=Lib.hid (by simp)
 generalize w1.alloc (.cells #[.int .i64 d,.int .i64 (q:Nat)] 81)=w2 at *
 obtain ⟨Y,hY⟩:∃ X,X=w1.heap.size:=⟨_,rfl⟩
 rw [← hY] at HBw20 HSw2 ⊢
 have HXw2:=Lib.hid hY
 clear hY
 have CXw2:Hid (∀ wq,Flow.Grow w2 wq→wq.cell? ⟨Y,0,none⟩=some (.int .i64 d)∧wq.cell? ⟨Y,1,none⟩=some (.int .i64 (q:Nat))):=Lib.hid (fun wq g=>⟨lay_cell g HBw20.out rfl,lay_cell g HBw20.out rfl⟩)
 have FXw2:Hid (∀ wq,Flow.Grow w2 wq→(∀ k,wq.frozen? ⟨Y,k,none⟩=false)):=Lib.hid (fun wq g=>fun k=>lay_frozen g HBw20.out k)
 have HG2:Hid (Flow.Grow W w2):=Lib.hid (HGw1.out.trans HGw2.out)
 refine Flow.regionG (C:=fun _ wq=>Flow.Grow w2 wq) (Fs:=[.inl ((.slice (some ⟨pb,po,none⟩) 3 pc)),.inl ((.int .i64 (i:Int))),.inl ((.pointer (some ⟨pb,po+i * 6,none⟩))),.inl ((.agg #[.int .i64 (i:Int),.slice (some ⟨ab,ao,none⟩) K ac,.int .i64 (K:Nat),.int .i64 0,.slice af F cf,.slice an N cn])),.inl ((.pointer (some ⟨X,0,none⟩))),.inl ((.slice (some ⟨sb,so,none⟩) 3 sc)),.inl ((.int .i64 (i:Int))),.inl ((.pointer (some ⟨sb,so+i,none⟩))),.inl ((.int .i64 s)),.inl ((.agg #[.int .i64 d,.int .i64 (q:Nat)])),.inl ((.int .i64 tv)),.inl ((.int .i64 tv))])
  [[],[],[0,1],[2],[],[4],[],[5,6],[7],[],[3,8,9],[10]] [[],[],[0,1],[0,1,2],[],[4],[],[4,5,6],[4,5,6,7],[],[0,1,2,3,4,5,6,7,8,9],[0,1,2,3,4,5,6,7,8,9,10]] [] (by kernel_rfl) (by kernel_rfl) (by kernel_rfl) rfl (Flow.grow_drew _) ?ones4 ?ends4
 case ones4 =>
  refine Flow.OnesG.start (by exact trivial) (fun L w w' i=>(fun _ _ h g=>h.trans g) w w') fun HST HCG=>?_
  refine Flow.oq rfl HST HCG ?_ ?_
  ·intro L a w hC hLi hoff _
   exact Flow.gs rfl (Flow.exec_move (.inl rfl) (hoff.at2 0 0 hLi (by kernel_rfl)))
  refine Flow.oq rfl HST HCG ?_ ?_
  ·intro L a w hC hLi hoff _
   exact Flow.gs rfl (Flow.exec_move (.inl rfl) (hoff.at2 3 1 hLi (by kernel_rfl)))
  refine Flow.oq rfl HST HCG ?_ ?_
  ·rintro L a w hC hLi hoff ⟨k0,k1,-⟩
   have e57:=Flow.kv k0 rfl rfl
   have e58:=Flow.kv k1 rfl rfl
   refine Flow.gs rfl ?_
   generalize a.eval=ρ at e57 e58 ⊢
   simp [execOp,e57,e58,go_sem];intro hh;omega
  refine Flow.oq rfl HST HCG ?_ ?_
  ·rintro L a w hC hLi hoff ⟨k2,-⟩
   have e59:=Flow.kv k2 rfl rfl
   refine Flow.gs rfl ?_
   generalize a.eval=ρ at e59 ⊢
   obtain ⟨h0,h1,h2,h3,h4,h5⟩:=HF.out
   replace h0:=Xm2.cell_grow (HG2.out.trans hC) h0
   replace h1:=Xm2.cell_grow (HG2.out.trans hC) h1
   replace h2:=Xm2.cell_grow (HG2.out.trans hC) h2
   replace h3:=Xm2.cell_grow (HG2.out.trans hC) h3
   replace h4:=Xm2.cell_grow (HG2.out.trans hC) h4
   replace h5:=Xm2.cell_grow (HG2.out.trans hC) h5
   simp [execOp,e59,h0,h1,h2,h3,h4,h5,go_sem]
  refine Flow.oq rfl HST HCG ?_ ?_
  ·intro L a w hC hLi hoff _
   have e7:a.eval (.tmp 7)=(.pointer (some ⟨X,0,none⟩)):=hoff.at2 7 4 hLi (by kernel_rfl)
   refine Flow.gs rfl ?_
   generalize a.eval=ρ at e7 ⊢
   simp [execOp,e7,go_sem]
  refine Flow.oq rfl HST HCG ?_ ?_
  ·rintro L a w hC hLi hoff ⟨k4,-⟩
   have e61:=Flow.kv k4 rfl rfl
   refine Flow.gs rfl ?_
   generalize a.eval=ρ at e61 ⊢
   have h0:=(CXw1.out _ (HGw2.out.trans hC)).1
   simp [execOp,e61,h0,go_sem]
  refine Flow.oq rfl HST HCG ?_ ?_
  ·intro L a w hC hLi hoff _
   exact Flow.gs rfl (Flow.exec_move (.inl rfl) (hoff.at2 3 6 hLi (by kernel_rfl)))
  refine Flow.oq rfl HST HCG ?_ ?_
  ·rintro L a w hC hLi hoff ⟨k5,k6,-⟩
   have e62:=Flow.kv k5 rfl rfl
   have e63:=Flow.kv k6 rfl rfl
   refine Flow.gs rfl ?_
   generalize a.eval=ρ at e62 e63 ⊢
   simp [execOp,e62,e63,go_sem];intro hh;omega
  refine Flow.oq rfl HST HCG ?_ ?_
  ·rintro L a w hC hLi hoff ⟨k7,-⟩
   have e64:=Flow.kv k7 rfl rfl
   refine Flow.gs rfl ?_
   generalize a.eval=ρ at e64 ⊢
   have h0:=Xm2.cell_grow (HG2.out.trans hC) HS.out
   simp [execOp,e64,h0,go_sem]
  refine Flow.oq rfl HST HCG ?_ ?_
  ·intro L a w hC hLi hoff _
   have e13:a.eval (.tmp 13)=(.pointer (some ⟨Y,0,none⟩)):=hoff.at2 13 9 hLi (by kernel_rfl)
   refine Flow.gs rfl ?_
   generalize a.eval=ρ at e13 ⊢
   obtain ⟨h0,h1⟩:=CXw2.out _ hC
   simp [execOp,e13,h0,h1,go_sem]
  refine Flow.oq rfl HST HCG ?_ ?_
  ·rintro L a w hC hLi hoff ⟨k3,k8,k9,-⟩
   have e60:=Flow.kv k3 rfl rfl
   have e65:=Flow.kv k8 rfl rfl
   have e66:=Flow.kv k9 rfl rfl
   exact .inl ⟨Flow.want_none rfl,Flow.run_call (Flow.exec_call rfl Try.func26 (by kernel_rfl) (by kernel_rfl) (by simp only [List.map_toArray,List.map_cons,List.map_nil,e60,e65,e66] <;> rfl)) (HTo.out w (HG2.out.trans hC))⟩
  refine Flow.oq rfl HST HCG ?_ ?_
  ·rintro L a w hC hLi hoff ⟨k10,-⟩
   have e67:=Flow.kv k10 rfl rfl
   exact Flow.gs rfl (Flow.exec_move (.inr rfl) e67)
  exact trivial
 case ends4 =>
  intro LL wx hLL hC
  iterate 12 refine Flow.endsG_v rfl ?_
  refine Flow.endsG_nil ?_
  simp only [Act.put,List.setIfInBounds_toArray,List.set_cons_succ,List.set_cons_zero]
  have HC:=Lib.hid hC
  have HG3:Hid (Flow.Grow W wx):=Lib.hid (HG2.out.trans hC)
  clear hC
  obtain ⟨c00,c01,c02,c03,c10,c11,c12,c13⟩:=CXw1.out wx (HGw2.out.trans HC.out)
  obtain ⟨f0,f1⟩:=FXw1.out wx (HGw2.out.trans HC.out)
  obtain ⟨d00,d01⟩:=CXw2.out wx (HC.out)
  have q1:decide ((q:Int) < 0)=false:=by simp
  have q2:decide ((q:Int)≥(L:Int))=false:=by simp;omega
  have q2n:decide (L≤q)=false:=by simp;omega
  by_cases hneg:tv < 0
  ·have t1:decide (tv < 0)=true:=by simpa using hneg
   go_wp2_with fail
   try rw [if_pos hneg]
   exact bodyPost_ret (do_res (X+1) _ _ _ _ _ _ _ _ rfl rfl rfl (row4_set _ _ _ _ (heap_keep (HGw2.out.trans HC.out) HBw11.out))) rfl ⟨rfl,row4_grow _ _ _ _ HG3.out (by have:=HXw1.out;omega)⟩
  ·have t1:decide (tv < 0)=false:=by simpa using hneg
   obtain ⟨y0,y1,y2⟩:=HY.out
   have y0:=Xm2.cell_grow HG3.out y0
   have y1:=Xm2.cell_grow HG3.out y1
   have y2:=Xm2.cell_grow HG3.out y2
   go_upto_region 9 with fail
   have HBw40:Hid (((wx.alloc (.cells #[.int .i64 (f:Int),.int .i64 (t:Int),.int .i64 m] 79)).alloc (.cells #[.int .i64 0,.int .i64 0,.slice none 0 0] 41)).heap[wx.heap.size]?=some (.cells #[.int .i64 (f:Int),.int .i64 (t:Int),.int .i64 m] 79 (0,0))):=Lib.hid (lay2_0 _ _ _)
   have HBw41:Hid (((wx.alloc (.cells #[.int .i64 (f:Int),.int .i64 (t:Int),.int .i64 m] 79)).alloc (.cells #[.int .i64 0,.int .i64 0,.slice none 0 0] 41)).heap[wx.heap.size+1]?=some (.cells #[.int .i64 0,.int .i64 0,.slice none 0 0] 41 (0,0))):=Lib.hid (lay2_1 _ _ _)
   have HGw4:Hid (Flow.Grow wx ((wx.alloc (.cells #[.int .i64 (f:Int),.int .i64 (t:Int),.int .i64 m] 79)).alloc (.cells #[.int .i64 0,.int .i64 0,.slice none 0 0] 41))):=Lib.hid (lay2_g _ _ _)
   have HSw4:Hid (((wx.alloc (.cells #[.int .i64 (f:Int),.int .i64 (t:Int),.int .i64 m] 79)).alloc (.cells #[.int .i64 0,.int .i64 0,.slice none 0 0] 41)).heap.size=wx.heap.size+1+1):=Lib.hid (by simp)
   generalize (wx.alloc (.cells #[.int .i64 (f:Int),.int .i64 (t:Int),.int .i64 m] 79)).alloc (.cells #[.int .i64 0,.int .i64 0,.slice none 0 0] 41)=w4 at *
   obtain ⟨Z,hZ⟩:∃ X,X=wx.heap.size:=⟨_,rfl⟩
   rw [← hZ] at HBw40 HBw41 HSw4 ⊢
   have HXw4:=Lib.hid hZ
   clear hZ
   have CXw4:Hid (∀ wq,Flow.Grow w4 wq→wq.cell? ⟨Z,0,none⟩=some (.int .i64 (f:Int))∧wq.cell? ⟨Z,1,none⟩=some (.int .i64 (t:Int))∧wq.cell? ⟨Z,2,none⟩=some (.int .i64 m)∧wq.cell? ⟨Z+1,0,none⟩=some (.int .i64 0)∧wq.cell? ⟨Z+1,1,none⟩=some (.int .i64 0)∧wq.cell? ⟨Z+1,2,none⟩=some (.slice none 0 0)):=Lib.hid (fun wq g=>⟨lay_cell g HBw40.out rfl,lay_cell g HBw40.out rfl,lay_cell g HBw40.out rfl,lay_cell g HBw41.out rfl,lay_cell g HBw41.out rfl,lay_cell g HBw41.out rfl⟩)
   have FXw4:Hid (∀ wq,Flow.Grow w4 wq→(∀ k,wq.frozen? ⟨Z,k,none⟩=false)∧(∀ k,wq.frozen? ⟨Z+1,k,none⟩=false)):=Lib.hid (fun wq g=>⟨fun k=>lay_frozen g HBw40.out k,fun k=>lay_frozen g HBw41.out k⟩)
   have HG4:Hid (Flow.Grow W w4):=Lib.hid (HG3.out.trans HGw4.out)
   clear c00 c01 c02 c03 c10 c11 c12 c13 f0 f1 d00 d01 y0 y1 y2
   obtain ⟨c00,c01,c02,c03,c10,c11,c12,c13⟩:=CXw1.out w4 (HGw2.out.trans (HC.out.trans HGw4.out))
   obtain ⟨f0,f1⟩:=FXw1.out w4 (HGw2.out.trans (HC.out.trans HGw4.out))
   obtain ⟨d00,d01⟩:=CXw2.out w4 (HC.out.trans HGw4.out)
   obtain ⟨z00,z01,z02,z10,z11,z12⟩:=CXw4.out w4 (Flow.grow_refl _)
   rcases hd with rfl | rfl
   ·have HP2:=HPut.out w4 HG4.out
    cases hdo:doB room c.2 ((f:Int),(t:Int),m) (1,(q:Int)) with
    | none =>
     rw [hdo] at HP2
     simp only at HP2
     have HP3:=Lib.hid HP2
     clear HP2
     go_upto_region 13 with (go_at_call 27;refine HP3.out.mono ?_;rintro e w5 ⟨rfl,hg⟩;have HG5:=Lib.hid hg;clear hg;clear c00 c01 c02 c03 c10 c11 c12 c13 f0 f1 d00 d01 z00 z01 z02 z10 z11 z12;obtain ⟨z00,z01,z02,z10,z11,z12⟩:=CXw4.out w5 (HG5.out);obtain ⟨g0,g1⟩:=FXw4.out w5 (HG5.out))
     have HQ:Hid (Flow.Grow W (((w5.setCell ⟨Z+1,0,none⟩ (.int .i64 3)).setCell ⟨Z+1,1,none⟩ (.int .i64 (room:Nat))).setCell ⟨Z+1,2,none⟩ (.slice (some ⟨mb,mo,none⟩) 9 mc))∧(((w5.setCell ⟨Z+1,0,none⟩ (.int .i64 3)).setCell ⟨Z+1,1,none⟩ (.int .i64 (room:Nat))).setCell ⟨Z+1,2,none⟩ (.slice (some ⟨mb,mo,none⟩) 9 mc)).heap[X]?=some (.cells #[.slice (some ⟨sb,so,none⟩) 3 sc,.int .i64 3,.int .i64 (room:Nat),.slice (some ⟨mb,mo,none⟩) 9 mc] 43 (0,0))∧(((w5.setCell ⟨Z+1,0,none⟩ (.int .i64 3)).setCell ⟨Z+1,1,none⟩ (.int .i64 (room:Nat))).setCell ⟨Z+1,2,none⟩ (.slice (some ⟨mb,mo,none⟩) 9 mc)).heap[X+1]?=some (.cells #[.slice none 0 0,.int .i64 0,.int .i64 0,.slice none 0 0] 43 (0,0))∧(((w5.setCell ⟨Z+1,0,none⟩ (.int .i64 3)).setCell ⟨Z+1,1,none⟩ (.int .i64 (room:Nat))).setCell ⟨Z+1,2,none⟩ (.slice (some ⟨mb,mo,none⟩) 9 mc)).heap[Y]?=some (.cells #[.int .i64 1,.int .i64 (q:Nat)] 81 (0,0))):=Lib.hid (by
      have h0:=HXw1.out
      have h1:=HSw1.out
      have h2:=HXw2.out
      have h3:=HSw2.out
      have h4:=HC.out.size
      have h5:=HXw4.out
      have g5:=HC.out.trans (HGw4.out.trans HG5.out)
      exact ⟨row3_grow _ _ _ (HG4.out.trans HG5.out) (by omega),row3_other _ _ _ (heap_keep (HGw2.out.trans g5) HBw10.out) (by omega),row3_other _ _ _ (heap_keep (HGw2.out.trans g5) HBw11.out) (by omega),row3_other _ _ _ (heap_keep g5 HBw20.out) (by omega)⟩)
     generalize ((w5.setCell ⟨Z+1,0,none⟩ (.int .i64 3)).setCell ⟨Z+1,1,none⟩ (.int .i64 (room:Nat))).setCell ⟨Z+1,2,none⟩ (.slice (some ⟨mb,mo,none⟩) 9 mc)=w6 at *
     have x0:=(cell_of_row w6 X 0 _ _ _ HQ.out.2.1).trans rfl
     have x1:=(cell_of_row w6 X 1 _ _ _ HQ.out.2.1).trans rfl
     have x2:=(cell_of_row w6 X 2 _ _ _ HQ.out.2.1).trans rfl
     have x3:=(cell_of_row w6 X 3 _ _ _ HQ.out.2.1).trans rfl
     have d0:=(cell_of_row w6 Y 0 _ _ _ HQ.out.2.2.2).trans rfl
     have hX1:X≠X+1:=by omega
     have hY1:Y≠X+1:=by have h1:=HSw1.out;have h2:=HXw2.out;omega
     obtain ⟨iM,hiM,hM0,hM1,hM2⟩:=info_parts info_config
     go_upto_region 14 with fail
     refine Flow.regionG (C:=fun _ wq=>But W w6 (X+1) 43 4 wq) (Fs:=[.inl ((.agg #[.slice (some ⟨sb,so,none⟩) 3 sc,.int .i64 3,.int .i64 (room:Nat),.slice (some ⟨mb,mo,none⟩) 9 mc])),.inl ((.pointer (some ⟨Y,0,none⟩))),.inl ((.int .i64 1)),.inl ((.bool true)),.inr (fun _ w=>w.heap[X+1]?=some (.cells #[.slice (some ⟨sb,so,none⟩) 3 sc,.int .i64 3,.int .i64 (room:Nat),.slice (some ⟨mb,mo,none⟩) 9 mc] 43 (0,0))),.inl ((Value.bool false)),.inl ((.bool true))])
      [[],[],[1],[2],[0],[],[3]] [[],[],[1],[1,2],[0],[],[1,2,3]] [4] (by kernel_rfl) (by kernel_rfl) (by kernel_rfl) rfl (But.start HQ.out.1 HQ.out.2.2.1 rfl) ?ones14 ?ends14
     case ones14 =>
      refine Flow.OnesG.start (by exact ⟨fun _ _ _ g h=>heap_keep g h,trivial⟩) (fun L w w' i=>(fun _ _ h g=>h.more g) w w') fun HST HCG=>?_
      refine Flow.oq rfl HST HCG ?_ ?_
      ·intro L a w hC hLi hoff _
       have e7:a.eval (.tmp 7)=(.pointer (some ⟨X,0,none⟩)):=hoff.at2 7 0 hLi (by kernel_rfl)
       refine Flow.gs rfl ?_
       generalize a.eval=ρ at e7 ⊢
       have h0:=hC.cell x0 hX1
       have h1:=hC.cell x1 hX1
       have h2:=hC.cell x2 hX1
       have h3:=hC.cell x3 hX1
       simp [execOp,e7,h0,h1,h2,h3,go_sem]
      refine Flow.oq rfl HST HCG ?_ ?_
      ·intro L a w hC hLi hoff _
       have e13:a.eval (.tmp 13)=(.pointer (some ⟨Y,0,none⟩)):=hoff.at2 13 1 hLi (by kernel_rfl)
       refine Flow.gs rfl ?_
       generalize a.eval=ρ at e13 ⊢
       simp [execOp,e13,go_sem]
      refine Flow.oq rfl HST HCG ?_ ?_
      ·rintro L a w hC hLi hoff ⟨k1,-⟩
       have e118:=Flow.kv k1 rfl rfl
       refine Flow.gs rfl ?_
       generalize a.eval=ρ at e118 ⊢
       have h0:=hC.cell d0 hY1
       simp [execOp,e118,h0,go_sem]
      refine Flow.oq rfl HST HCG ?_ ?_
      ·rintro L a w hC hLi hoff ⟨k2,-⟩
       have e119:=Flow.kv k2 rfl rfl
       refine Flow.gs rfl ?_
       have ec:=Flow.eval_const a
       generalize a.eval=ρ at e119 ec ⊢
       simp [execOp,e119,ec,go_sem]
      refine Flow.OnesG.cons (Flow.OneG.w (by kernel_rfl) ?_) ?_
      ·rintro L a w hC hLi hoff ⟨k0,-⟩
       have e117:=Flow.kv k0 rfl rfl
       have e10:a.eval (.tmp 10)=(.pointer (some ⟨X+1,0,none⟩)):=hoff.at2 10 4 hLi (by kernel_rfl)
       refine ⟨Flow.want_none rfl,?_⟩
       refine wp_sto (s:=10) (x:=117) rfl rfl hiM hM1 rfl (by intro v hv;simp at hv;rcases hv with rfl | rfl | rfl | rfl <;> rfl) (W:=W) (X+1) hC.grow (by have:=HXw1.out;omega) e10 e117 hC.row_ fun w' h2 h3 h4 h5=>?_
       exact ⟨undef,rfl,hC.store h2 h3 h4 rfl h5,fun s _=>h4⟩
      refine Flow.oq rfl HST HCG ?_ ?_
      ·intro L a w hC hLi hoff _
       exact Flow.gs rfl (Flow.exec_move (.inr rfl) rfl)
      refine Flow.oq rfl HST HCG ?_ ?_
      ·rintro L a w hC hLi hoff ⟨k3,-⟩
       have e120:=Flow.kv k3 rfl rfl
       exact Flow.gs rfl (Flow.exec_move (.inr rfl) e120)
      exact trivial
     case ends14 =>
      intro LL wx hLL hC
      iterate 4 refine Flow.endsG_v rfl ?_
      refine Flow.endsG_s rfl rfl rfl fun hE4=>?_
      iterate 2 refine Flow.endsG_v rfl ?_
      refine Flow.endsG_nil ?_
      simp only [Act.put,List.setIfInBounds_toArray,List.set_cons_succ,List.set_cons_zero]
      go_wp2_with fail
      try rw [if_neg hneg]
      try rw [hdo]
      exact bodyPost_ret (do_res (X+1) _ _ _ _ _ _ _ _ rfl rfl rfl hE4) rfl ⟨rfl,hC.grow⟩
    | some b' =>
     rw [hdo] at HP2
     simp only at HP2
     have HP3:=Lib.hid HP2
     clear HP2
     go_upto_region 13 with (go_at_call 27;refine HP3.out.mono ?_;rintro e w5 ⟨⟨va,vn,vc,rfl,hmd⟩,hg⟩;have HMd:=Lib.hid hmd;have HG5:=Lib.hid hg;clear hg hmd;clear c00 c01 c02 c03 c10 c11 c12 c13 f0 f1 d00 d01 z00 z01 z02 z10 z11 z12;obtain ⟨z00,z01,z02,z10,z11,z12⟩:=CXw4.out w5 (HG5.out);obtain ⟨g0,g1⟩:=FXw4.out w5 (HG5.out))
     have HQ:Hid (Flow.Grow W (((w5.setCell ⟨Z+1,0,none⟩ (.int .i64 3)).setCell ⟨Z+1,1,none⟩ (.int .i64 (room:Nat))).setCell ⟨Z+1,2,none⟩ (.slice va vn vc))∧(((w5.setCell ⟨Z+1,0,none⟩ (.int .i64 3)).setCell ⟨Z+1,1,none⟩ (.int .i64 (room:Nat))).setCell ⟨Z+1,2,none⟩ (.slice va vn vc)).heap[X]?=some (.cells #[.slice (some ⟨sb,so,none⟩) 3 sc,.int .i64 3,.int .i64 (room:Nat),.slice (some ⟨mb,mo,none⟩) 9 mc] 43 (0,0))∧(((w5.setCell ⟨Z+1,0,none⟩ (.int .i64 3)).setCell ⟨Z+1,1,none⟩ (.int .i64 (room:Nat))).setCell ⟨Z+1,2,none⟩ (.slice va vn vc)).heap[X+1]?=some (.cells #[.slice none 0 0,.int .i64 0,.int .i64 0,.slice none 0 0] 43 (0,0))∧(((w5.setCell ⟨Z+1,0,none⟩ (.int .i64 3)).setCell ⟨Z+1,1,none⟩ (.int .i64 (room:Nat))).setCell ⟨Z+1,2,none⟩ (.slice va vn vc)).heap[Z+1]?=some (.cells #[.int .i64 3,.int .i64 (room:Nat),.slice va vn vc] 41 (0,0))∧MailD W0 (((w5.setCell ⟨Z+1,0,none⟩ (.int .i64 3)).setCell ⟨Z+1,1,none⟩ (.int .i64 (room:Nat))).setCell ⟨Z+1,2,none⟩ (.slice va vn vc)) W.heap.size (.slice va vn vc) b'):=Lib.hid (by
      have h0:=HXw1.out
      have h1:=HSw1.out
      have h2:=HXw2.out
      have h3:=HSw2.out
      have h4:=HC.out.size
      have h5:=HXw4.out
      have g5:=HC.out.trans (HGw4.out.trans HG5.out)
      exact ⟨row3_grow _ _ _ (HG4.out.trans HG5.out) (by omega),row3_other _ _ _ (heap_keep (HGw2.out.trans g5) HBw10.out) (by omega),row3_other _ _ _ (heap_keep (HGw2.out.trans g5) HBw11.out) (by omega),row3_set _ _ _ (heap_keep HG5.out HBw41.out),(HMd.out.mono HG4.out.size).set3 (heap_keep HG5.out HBw41.out) (by decide) (by decide)⟩)
     generalize ((w5.setCell ⟨Z+1,0,none⟩ (.int .i64 3)).setCell ⟨Z+1,1,none⟩ (.int .i64 (room:Nat))).setCell ⟨Z+1,2,none⟩ (.slice va vn vc)=w6 at *
     clear z00 z01 z02 z10 z11 z12 g0 g1
     have x0:=(cell_of_row w6 X 0 _ _ _ HQ.out.2.1).trans rfl
     have m0:=(cell_of_row w6 (Z+1) 0 _ _ _ HQ.out.2.2.2.1).trans rfl
     have m1:=(cell_of_row w6 (Z+1) 1 _ _ _ HQ.out.2.2.2.1).trans rfl
     have m2:=(cell_of_row w6 (Z+1) 2 _ _ _ HQ.out.2.2.2.1).trans rfl
     obtain ⟨iM,hiM,hM0,hM1,hM2⟩:=info_parts info_config
     have HCl:Hid (∀ wq,Flow.Grow w6 wq→Calls Try.prog 29 #[.slice (some ⟨sb,so,none⟩) 3 sc] wq fun e w'=>∃ v,e=.returned v∧Flow.Grow wq w'∧∃ g gc,v=.slice (some ⟨g,0,none⟩) 3 gc∧w'.ownsRow w6.heap.size 3 1 (.slice (some ⟨g,0,none⟩) 3 gc) 3 (c.1.map (Value.int .i64))):=Lib.hid (fun wq g=>by
      have cl:=clone_intsR (.slice (some ⟨sb,so,none⟩) 3 sc) c.1 wq (by omega) (HCs.out.grow (HQ.out.1.trans g))
      refine cl.mono ?_
      rintro e w' ⟨⟨v',rfl,ho⟩,hg⟩
      rw [h3] at ho
      obtain ⟨g',gc,cur,rfl,_,_⟩:=own_some ho (by decide)
      exact ⟨_,rfl,hg,g',gc,rfl,Pr.own_mono ho g.size⟩)
     go_upto_region 15 with fail
     refine Flow.regionG (C:=fun _ wq=>Flow.Grow w6 wq) (Fs:=[.inl ((.pointer (some ⟨X,0,none⟩))),.inl ((.slice (some ⟨sb,so,none⟩) 3 sc)),.inr (fun v w=>∃ g gc,v=.slice (some ⟨g,0,none⟩) 3 gc∧w.ownsRow w6.heap.size 3 1 (.slice (some ⟨g,0,none⟩) 3 gc) 3 (c.1.map (Value.int .i64))),.inl ((.agg #[.int .i64 3,.int .i64 (room:Nat),.slice va vn vc])),.inr (fun v w=>∃ g gc,v=.agg #[.slice (some ⟨g,0,none⟩) 3 gc,.int .i64 3,.int .i64 (room:Nat),.slice va vn vc]∧w.ownsRow w6.heap.size 3 1 (.slice (some ⟨g,0,none⟩) 3 gc) 3 (c.1.map (Value.int .i64))),.inr (fun v w=>∃ A cs,v=.pointer (some ⟨A,0,none⟩)∧w6.heap.size≤A∧w.heap[A]?=some (.cells cs 43 (0,0))∧cs.size=4),.inr (fun v w=>∃ A g gc,v=.pointer (some ⟨A,0,none⟩)∧w6.heap.size≤A∧w.heap[A]?=some (.cells #[.slice (some ⟨g,0,none⟩) 3 gc,.int .i64 3,.int .i64 (room:Nat),.slice va vn vc] 43 (0,0))∧w.ownsRow w6.heap.size 3 1 (.slice (some ⟨g,0,none⟩) 3 gc) 3 (c.1.map (Value.int .i64)))])
      [[],[0],[1],[],[2,3],[],[5,4]] [[],[0],[0,1],[],[0,1,2,3],[],[0,1,2,3,4,5]] [6] (by kernel_rfl) (by kernel_rfl) (by kernel_rfl) rfl (Flow.grow_drew _) ?ones15 ?ends15
     case ones15 =>
      refine Flow.OnesG.start (by exact ⟨fun _ _ _ g ⟨a,b,h1,h2⟩=>⟨a,b,h1,own_keep h2 g⟩,fun _ _ _ g ⟨a,b,h1,h2⟩=>⟨a,b,h1,own_keep h2 g⟩,fun _ _ _ g ⟨A,cs,h1,h2,h3,h4⟩=>⟨A,cs,h1,h2,heap_keep g h3,h4⟩,fun _ _ _ g ⟨A,a,b,h1,h2,h3,h4⟩=>⟨A,a,b,h1,h2,heap_keep g h3,own_keep h4 g⟩,trivial⟩) (fun L w w' i=>(fun _ _ h g=>h.trans g) w w') fun HST HCG=>?_
      refine Flow.oq rfl HST HCG ?_ ?_
      ·intro L a w hC hLi hoff _
       have e7:a.eval (.tmp 7)=(.pointer (some ⟨X,0,none⟩)):=hoff.at2 7 0 hLi (by kernel_rfl)
       refine Flow.gs rfl ?_
       generalize a.eval=ρ at e7 ⊢
       simp [execOp,e7,go_sem]
      refine Flow.oq rfl HST HCG ?_ ?_
      ·rintro L a w hC hLi hoff ⟨k0,-⟩
       have e121:=Flow.kv k0 rfl rfl
       refine Flow.gs rfl ?_
       generalize a.eval=ρ at e121 ⊢
       have h0:=Xm2.cell_grow hC x0
       simp [execOp,e121,h0,go_sem]
      refine Flow.oq rfl HST HCG ?_ ?_
      ·rintro L a w hC hLi hoff ⟨k1,-⟩
       have e122:=Flow.kv k1 rfl rfl
       exact .inl ⟨Flow.want_none rfl,Flow.run_call (Flow.exec_call rfl Try.func29 (by kernel_rfl) (by kernel_rfl) (by simp only [List.map_toArray,List.map_cons,List.map_nil,e122] <;> rfl)) (HCl.out w hC)⟩
      refine Flow.oq rfl HST HCG ?_ ?_
      ·intro L a w hC hLi hoff _
       have e16:a.eval (.tmp 16)=(.pointer (some ⟨Z+1,0,none⟩)):=hoff.at2 16 3 hLi (by kernel_rfl)
       refine Flow.gs rfl ?_
       generalize a.eval=ρ at e16 ⊢
       have h0:=Xm2.cell_grow hC m0
       have h1:=Xm2.cell_grow hC m1
       have h2:=Xm2.cell_grow hC m2
       simp [execOp,e16,h0,h1,h2,go_sem]
      refine Flow.oq rfl HST HCG ?_ ?_
      ·rintro L a w hC hLi hoff ⟨k2,k3,-⟩
       have e123:=Flow.kr k2 rfl rfl
       have e124:=Flow.kv k3 rfl rfl
       refine .inl ⟨Flow.want_none rfl,?_⟩
       obtain ⟨g,gc,e123,ho⟩:=e123
       refine Flow.run_val (v:=.agg #[.slice (some ⟨g,0,none⟩) 3 gc,.int .i64 3,.int .i64 (room:Nat),.slice va vn vc]) (w':=w) ?_ (Flow.grow_refl _) ⟨g,gc,rfl,ho⟩
       simp only [execOp,Sem.run_bind]
       rw [run_build (P:=Try.prog) w 43 _ #[.slice (some ⟨g,0,none⟩) 3 gc,.int .i64 3,.int .i64 (room:Nat),.slice va vn vc] (by simp only [List.map_toArray,List.map_cons,List.map_nil,e123,e124];kernel_rfl)]
       rfl
      refine Flow.oq rfl HST HCG ?_ ?_
      ·intro L a w hC hLi hoff _
       refine .inl ⟨Flow.want_none rfl,?_⟩
       refine Flow.run_val (v:=.pointer (some ⟨w.heap.size,0,none⟩)) (w':=w.alloc (.cells #[.slice none 0 0,.int .i64 0,.int .i64 0,.slice none 0 0] 43)) (Flow.alloc_run rfl hiM hM0 _ _) (Flow.grow_alloc _ _) ⟨_,_,rfl,hC.size,heap_alloc_new _ _,rfl⟩
      refine Flow.OnesG.cons (Flow.OneG.w (by kernel_rfl) ?_) ?_
      ·rintro L a w hC hLi hoff ⟨k5,k4,-⟩
       have e18:=Flow.kr k5 rfl rfl
       have e125:=Flow.kr k4 rfl rfl
       refine ⟨Flow.want_none rfl,?_⟩
       obtain ⟨A,cs,e18,hA,hAc,hcs⟩:=e18
       obtain ⟨g,gc,e125,ho⟩:=e125
       refine wp_sto (s:=18) (x:=125) rfl rfl hiM hM1 rfl (by intro v hv;simp at hv;rcases hv with rfl | rfl | rfl | rfl <;> rfl) (W:=w6) A hC hA e18 e125 ⟨cs,hAc,hcs⟩ fun w' h2 h3 h4 h5=>?_
       exact ⟨undef,rfl,h2,fun s hs=>⟨A,g,gc,by cases hs;exact e18,hA,h4,own_heap ho fun g' hg'=>h5 g' (fun e=>own_not ho hAc (by decide) (by rw [hg',e]))⟩⟩
      exact trivial
     case ends15 =>
      intro LL wx hLL hC
      iterate 2 refine Flow.endsG_v rfl ?_
      refine Flow.endsG_r rfl fun v123 _=>?_
      refine Flow.endsG_v rfl ?_
      refine Flow.endsG_r rfl fun v125 _=>?_
      refine Flow.endsG_r rfl fun v18 _=>?_
      refine Flow.endsG_s rfl rfl rfl fun hE6=>?_
      refine Flow.endsG_nil ?_
      simp only [Act.put,List.setIfInBounds_toArray,List.set_cons_succ,List.set_cons_zero]
      obtain ⟨A,g,gc,hv,hA,hAc,ho⟩:=hE6
      obtain rfl:v18=.pointer (some ⟨A,0,none⟩):=by rw [← hv];kernel_rfl
      have hAg:A≠g:=fun e=>own_not ho hAc (by decide) (by rw [e];rfl)
      have hgl:=(ho.lt g rfl).1
      have HO:=Lib.hid ho
      have HAc:=Lib.hid hAc
      have HCx:=Lib.hid hC
      clear hv ho hAc hC
      have a0:=(cell_of_row wx A 0 _ _ _ HAc.out).trans rfl
      obtain ⟨u,g0⟩:∃ u,wx.cell? ⟨g,i,none⟩=some u:=by
       rw [HO.out.cellAt i (by omega)]
       exact ⟨_,List.getElem?_eq_getElem (by simp;omega)⟩
      have fg:wx.frozen? ⟨g,i,none⟩=false:=by
       obtain ⟨g',gc',cur,e,_,hcur⟩:=own_some HO.out (by decide)
       cases e
       exact frozen_of_row wx g i _ _ hcur
      go_upto_region 17 with fail
      have HQ8:Hid (Flow.Grow w6 (wx.setCell ⟨g,i,none⟩ (.int .i64 tv))∧(wx.setCell ⟨g,i,none⟩ (.int .i64 tv)).heap[A]?=some (.cells #[.slice (some ⟨g,0,none⟩) 3 gc,.int .i64 3,.int .i64 (room:Nat),.slice va vn vc] 43 (0,0))∧(wx.setCell ⟨g,i,none⟩ (.int .i64 tv)).ownsRow w6.heap.size 3 1 (.slice (some ⟨g,0,none⟩) 3 gc) 3 ((c.1.map (Value.int .i64)).set i (.int .i64 tv))):=Lib.hid
       ⟨set_grow HCx.out hgl _ _,set_other HAc.out hAg,own_setAt _ HO.out (by omega)⟩
      generalize wx.setCell ⟨g,i,none⟩ (.int .i64 tv)=w8 at *
      clear a0 g0 fg x0 m0 m1 m2
      have a0:=(cell_of_row w8 A 0 _ _ _ HQ8.out.2.1).trans rfl
      have a1:=(cell_of_row w8 A 1 _ _ _ HQ8.out.2.1).trans rfl
      have a2:=(cell_of_row w8 A 2 _ _ _ HQ8.out.2.1).trans rfl
      have a3:=(cell_of_row w8 A 3 _ _ _ HQ8.out.2.1).trans rfl
      have HX8:=Lib.hid (heap_keep HQ8.out.1 HQ.out.2.2.1)
      have b0:=(cell_of_row w8 (X+1) 0 _ _ _ HX8.out).trans rfl
      have b1:=(cell_of_row w8 (X+1) 1 _ _ _ HX8.out).trans rfl
      have b2:=(cell_of_row w8 (X+1) 2 _ _ _ HX8.out).trans rfl
      have b3:=(cell_of_row w8 (X+1) 3 _ _ _ HX8.out).trans rfl
      have fX:=fun k=>frozen_of_row w8 (X+1) k _ _ HX8.out
      go_wp2_with fail
      try rw [if_neg hneg]
      try rw [hdo]
      have hXg:g≠X+1:=by have:=(Array.getElem?_eq_some_iff.1 HQ.out.2.2.1).1;omega
      refine bodyPost_ret (do_res (X+1) _ _ _ _ _ _ _ _ rfl rfl rfl (row4_set _ _ _ _ HX8.out)) rfl ⟨⟨_,_,_,_,_,_,rfl,?_,?_⟩,row4_grow _ _ _ _ (HQ.out.1.trans HQ8.out.1) (by have:=HXw1.out;omega)⟩
      ·have:=row4_own (.slice (some ⟨g,0,none⟩) 3 gc) (.int .i64 3) (.int .i64 (room:Nat)) (.slice va vn vc) HQ8.out.2.2 hXg
       simp only [List.length_set,h3,List.map_set]
       exact Pr.own_mono this HQ.out.1.size
      ·exact (HQ.out.2.2.2.2.grow HQ8.out.1).set4 HX8.out (by decide) (by decide)
   ·have HP2:=HTake.out w4 HG4.out
    cases hdo:doB room c.2 ((f:Int),(t:Int),m) (2,(q:Int)) with
    | none =>
     rw [hdo] at HP2
     simp only at HP2
     have HP3:=Lib.hid HP2
     clear HP2
     go_upto_region 13 with (go_at_call 28;refine HP3.out.mono ?_;rintro e w5 ⟨rfl,hg⟩;have HG5:=Lib.hid hg;clear hg;clear c00 c01 c02 c03 c10 c11 c12 c13 f0 f1 d00 d01 z00 z01 z02 z10 z11 z12;obtain ⟨z00,z01,z02,z10,z11,z12⟩:=CXw4.out w5 (HG5.out);obtain ⟨g0,g1⟩:=FXw4.out w5 (HG5.out))
     have HQ:Hid (Flow.Grow W (((w5.setCell ⟨Z+1,0,none⟩ (.int .i64 3)).setCell ⟨Z+1,1,none⟩ (.int .i64 (room:Nat))).setCell ⟨Z+1,2,none⟩ (.slice (some ⟨mb,mo,none⟩) 9 mc))∧(((w5.setCell ⟨Z+1,0,none⟩ (.int .i64 3)).setCell ⟨Z+1,1,none⟩ (.int .i64 (room:Nat))).setCell ⟨Z+1,2,none⟩ (.slice (some ⟨mb,mo,none⟩) 9 mc)).heap[X]?=some (.cells #[.slice (some ⟨sb,so,none⟩) 3 sc,.int .i64 3,.int .i64 (room:Nat),.slice (some ⟨mb,mo,none⟩) 9 mc] 43 (0,0))∧(((w5.setCell ⟨Z+1,0,none⟩ (.int .i64 3)).setCell ⟨Z+1,1,none⟩ (.int .i64 (room:Nat))).setCell ⟨Z+1,2,none⟩ (.slice (some ⟨mb,mo,none⟩) 9 mc)).heap[X+1]?=some (.cells #[.slice none 0 0,.int .i64 0,.int .i64 0,.slice none 0 0] 43 (0,0))∧(((w5.setCell ⟨Z+1,0,none⟩ (.int .i64 3)).setCell ⟨Z+1,1,none⟩ (.int .i64 (room:Nat))).setCell ⟨Z+1,2,none⟩ (.slice (some ⟨mb,mo,none⟩) 9 mc)).heap[Y]?=some (.cells #[.int .i64 2,.int .i64 (q:Nat)] 81 (0,0))):=Lib.hid (by
      have h0:=HXw1.out
      have h1:=HSw1.out
      have h2:=HXw2.out
      have h3:=HSw2.out
      have h4:=HC.out.size
      have h5:=HXw4.out
      have g5:=HC.out.trans (HGw4.out.trans HG5.out)
      exact ⟨row3_grow _ _ _ (HG4.out.trans HG5.out) (by omega),row3_other _ _ _ (heap_keep (HGw2.out.trans g5) HBw10.out) (by omega),row3_other _ _ _ (heap_keep (HGw2.out.trans g5) HBw11.out) (by omega),row3_other _ _ _ (heap_keep g5 HBw20.out) (by omega)⟩)
     generalize ((w5.setCell ⟨Z+1,0,none⟩ (.int .i64 3)).setCell ⟨Z+1,1,none⟩ (.int .i64 (room:Nat))).setCell ⟨Z+1,2,none⟩ (.slice (some ⟨mb,mo,none⟩) 9 mc)=w6 at *
     have x0:=(cell_of_row w6 X 0 _ _ _ HQ.out.2.1).trans rfl
     have x1:=(cell_of_row w6 X 1 _ _ _ HQ.out.2.1).trans rfl
     have x2:=(cell_of_row w6 X 2 _ _ _ HQ.out.2.1).trans rfl
     have x3:=(cell_of_row w6 X 3 _ _ _ HQ.out.2.1).trans rfl
     have d0:=(cell_of_row w6 Y 0 _ _ _ HQ.out.2.2.2).trans rfl
     have hX1:X≠X+1:=by omega
     have hY1:Y≠X+1:=by have h1:=HSw1.out;have h2:=HXw2.out;omega
     obtain ⟨iM,hiM,hM0,hM1,hM2⟩:=info_parts info_config
     go_upto_region 14 with fail
     refine Flow.regionG (C:=fun _ wq=>But W w6 (X+1) 43 4 wq) (Fs:=[.inl ((.agg #[.slice (some ⟨sb,so,none⟩) 3 sc,.int .i64 3,.int .i64 (room:Nat),.slice (some ⟨mb,mo,none⟩) 9 mc])),.inl ((.pointer (some ⟨Y,0,none⟩))),.inl ((.int .i64 2)),.inl ((.bool false)),.inr (fun _ w=>w.heap[X+1]?=some (.cells #[.slice (some ⟨sb,so,none⟩) 3 sc,.int .i64 3,.int .i64 (room:Nat),.slice (some ⟨mb,mo,none⟩) 9 mc] 43 (0,0))),.inl ((Value.bool false)),.inl ((.bool false))])
      [[],[],[1],[2],[0],[],[3]] [[],[],[1],[1,2],[0],[],[1,2,3]] [4] (by kernel_rfl) (by kernel_rfl) (by kernel_rfl) rfl (But.start HQ.out.1 HQ.out.2.2.1 rfl) ?ones14 ?ends14
     case ones14 =>
      refine Flow.OnesG.start (by exact ⟨fun _ _ _ g h=>heap_keep g h,trivial⟩) (fun L w w' i=>(fun _ _ h g=>h.more g) w w') fun HST HCG=>?_
      refine Flow.oq rfl HST HCG ?_ ?_
      ·intro L a w hC hLi hoff _
       have e7:a.eval (.tmp 7)=(.pointer (some ⟨X,0,none⟩)):=hoff.at2 7 0 hLi (by kernel_rfl)
       refine Flow.gs rfl ?_
       generalize a.eval=ρ at e7 ⊢
       have h0:=hC.cell x0 hX1
       have h1:=hC.cell x1 hX1
       have h2:=hC.cell x2 hX1
       have h3:=hC.cell x3 hX1
       simp [execOp,e7,h0,h1,h2,h3,go_sem]
      refine Flow.oq rfl HST HCG ?_ ?_
      ·intro L a w hC hLi hoff _
       have e13:a.eval (.tmp 13)=(.pointer (some ⟨Y,0,none⟩)):=hoff.at2 13 1 hLi (by kernel_rfl)
       refine Flow.gs rfl ?_
       generalize a.eval=ρ at e13 ⊢
       simp [execOp,e13,go_sem]
      refine Flow.oq rfl HST HCG ?_ ?_
      ·rintro L a w hC hLi hoff ⟨k1,-⟩
       have e118:=Flow.kv k1 rfl rfl
       refine Flow.gs rfl ?_
       generalize a.eval=ρ at e118 ⊢
       have h0:=hC.cell d0 hY1
       simp [execOp,e118,h0,go_sem]
      refine Flow.oq rfl HST HCG ?_ ?_
      ·rintro L a w hC hLi hoff ⟨k2,-⟩
       have e119:=Flow.kv k2 rfl rfl
       refine Flow.gs rfl ?_
       have ec:=Flow.eval_const a
       generalize a.eval=ρ at e119 ec ⊢
       simp [execOp,e119,ec,go_sem]
      refine Flow.OnesG.cons (Flow.OneG.w (by kernel_rfl) ?_) ?_
      ·rintro L a w hC hLi hoff ⟨k0,-⟩
       have e117:=Flow.kv k0 rfl rfl
       have e10:a.eval (.tmp 10)=(.pointer (some ⟨X+1,0,none⟩)):=hoff.at2 10 4 hLi (by kernel_rfl)
       refine ⟨Flow.want_none rfl,?_⟩
       refine wp_sto (s:=10) (x:=117) rfl rfl hiM hM1 rfl (by intro v hv;simp at hv;rcases hv with rfl | rfl | rfl | rfl <;> rfl) (W:=W) (X+1) hC.grow (by have:=HXw1.out;omega) e10 e117 hC.row_ fun w' h2 h3 h4 h5=>?_
       exact ⟨undef,rfl,hC.store h2 h3 h4 rfl h5,fun s _=>h4⟩
      refine Flow.oq rfl HST HCG ?_ ?_
      ·intro L a w hC hLi hoff _
       exact Flow.gs rfl (Flow.exec_move (.inr rfl) rfl)
      refine Flow.oq rfl HST HCG ?_ ?_
      ·rintro L a w hC hLi hoff ⟨k3,-⟩
       have e120:=Flow.kv k3 rfl rfl
       exact Flow.gs rfl (Flow.exec_move (.inr rfl) e120)
      exact trivial
     case ends14 =>
      intro LL wx hLL hC
      iterate 4 refine Flow.endsG_v rfl ?_
      refine Flow.endsG_s rfl rfl rfl fun hE4=>?_
      iterate 2 refine Flow.endsG_v rfl ?_
      refine Flow.endsG_nil ?_
      simp only [Act.put,List.setIfInBounds_toArray,List.set_cons_succ,List.set_cons_zero]
      go_wp2_with fail
      try rw [if_neg hneg]
      try rw [hdo]
      exact bodyPost_ret (do_res (X+1) _ _ _ _ _ _ _ _ rfl rfl rfl hE4) rfl ⟨rfl,hC.grow⟩
    | some b' =>
     rw [hdo] at HP2
     simp only at HP2
     have HP3:=Lib.hid HP2
     clear HP2
     go_upto_region 13 with (go_at_call 28;refine HP3.out.mono ?_;rintro e w5 ⟨⟨va,vn,vc,rfl,hmd⟩,hg⟩;have HMd:=Lib.hid hmd;have HG5:=Lib.hid hg;clear hg hmd;clear c00 c01 c02 c03 c10 c11 c12 c13 f0 f1 d00 d01 z00 z01 z02 z10 z11 z12;obtain ⟨z00,z01,z02,z10,z11,z12⟩:=CXw4.out w5 (HG5.out);obtain ⟨g0,g1⟩:=FXw4.out w5 (HG5.out))
     have HQ:Hid (Flow.Grow W (((w5.setCell ⟨Z+1,0,none⟩ (.int .i64 3)).setCell ⟨Z+1,1,none⟩ (.int .i64 (room:Nat))).setCell ⟨Z+1,2,none⟩ (.slice va vn vc))∧(((w5.setCell ⟨Z+1,0,none⟩ (.int .i64 3)).setCell ⟨Z+1,1,none⟩ (.int .i64 (room:Nat))).setCell ⟨Z+1,2,none⟩ (.slice va vn vc)).heap[X]?=some (.cells #[.slice (some ⟨sb,so,none⟩) 3 sc,.int .i64 3,.int .i64 (room:Nat),.slice (some ⟨mb,mo,none⟩) 9 mc] 43 (0,0))∧(((w5.setCell ⟨Z+1,0,none⟩ (.int .i64 3)).setCell ⟨Z+1,1,none⟩ (.int .i64 (room:Nat))).setCell ⟨Z+1,2,none⟩ (.slice va vn vc)).heap[X+1]?=some (.cells #[.slice none 0 0,.int .i64 0,.int .i64 0,.slice none 0 0] 43 (0,0))∧(((w5.setCell ⟨Z+1,0,none⟩ (.int .i64 3)).setCell ⟨Z+1,1,none⟩ (.int .i64 (room:Nat))).setCell ⟨Z+1,2,none⟩ (.slice va vn vc)).heap[Z+1]?=some (.cells #[.int .i64 3,.int .i64 (room:Nat),.slice va vn vc] 41 (0,0))∧MailD W0 (((w5.setCell ⟨Z+1,0,none⟩ (.int .i64 3)).setCell ⟨Z+1,1,none⟩ (.int .i64 (room:Nat))).setCell ⟨Z+1,2,none⟩ (.slice va vn vc)) W.heap.size (.slice va vn vc) b'):=Lib.hid (by
      have h0:=HXw1.out
      have h1:=HSw1.out
      have h2:=HXw2.out
      have h3:=HSw2.out
      have h4:=HC.out.size
      have h5:=HXw4.out
      have g5:=HC.out.trans (HGw4.out.trans HG5.out)
      exact ⟨row3_grow _ _ _ (HG4.out.trans HG5.out) (by omega),row3_other _ _ _ (heap_keep (HGw2.out.trans g5) HBw10.out) (by omega),row3_other _ _ _ (heap_keep (HGw2.out.trans g5) HBw11.out) (by omega),row3_set _ _ _ (heap_keep HG5.out HBw41.out),(HMd.out.mono HG4.out.size).set3 (heap_keep HG5.out HBw41.out) (by decide) (by decide)⟩)
     generalize ((w5.setCell ⟨Z+1,0,none⟩ (.int .i64 3)).setCell ⟨Z+1,1,none⟩ (.int .i64 (room:Nat))).setCell ⟨Z+1,2,none⟩ (.slice va vn vc)=w6 at *
     clear z00 z01 z02 z10 z11 z12 g0 g1
     have x0:=(cell_of_row w6 X 0 _ _ _ HQ.out.2.1).trans rfl
     have m0:=(cell_of_row w6 (Z+1) 0 _ _ _ HQ.out.2.2.2.1).trans rfl
     have m1:=(cell_of_row w6 (Z+1) 1 _ _ _ HQ.out.2.2.2.1).trans rfl
     have m2:=(cell_of_row w6 (Z+1) 2 _ _ _ HQ.out.2.2.2.1).trans rfl
     obtain ⟨iM,hiM,hM0,hM1,hM2⟩:=info_parts info_config
     have HCl:Hid (∀ wq,Flow.Grow w6 wq→Calls Try.prog 29 #[.slice (some ⟨sb,so,none⟩) 3 sc] wq fun e w'=>∃ v,e=.returned v∧Flow.Grow wq w'∧∃ g gc,v=.slice (some ⟨g,0,none⟩) 3 gc∧w'.ownsRow w6.heap.size 3 1 (.slice (some ⟨g,0,none⟩) 3 gc) 3 (c.1.map (Value.int .i64))):=Lib.hid (fun wq g=>by
      have cl:=clone_intsR (.slice (some ⟨sb,so,none⟩) 3 sc) c.1 wq (by omega) (HCs.out.grow (HQ.out.1.trans g))
      refine cl.mono ?_
      rintro e w' ⟨⟨v',rfl,ho⟩,hg⟩
      rw [h3] at ho
      obtain ⟨g',gc,cur,rfl,_,_⟩:=own_some ho (by decide)
      exact ⟨_,rfl,hg,g',gc,rfl,Pr.own_mono ho g.size⟩)
     go_upto_region 15 with fail
     refine Flow.regionG (C:=fun _ wq=>Flow.Grow w6 wq) (Fs:=[.inl ((.pointer (some ⟨X,0,none⟩))),.inl ((.slice (some ⟨sb,so,none⟩) 3 sc)),.inr (fun v w=>∃ g gc,v=.slice (some ⟨g,0,none⟩) 3 gc∧w.ownsRow w6.heap.size 3 1 (.slice (some ⟨g,0,none⟩) 3 gc) 3 (c.1.map (Value.int .i64))),.inl ((.agg #[.int .i64 3,.int .i64 (room:Nat),.slice va vn vc])),.inr (fun v w=>∃ g gc,v=.agg #[.slice (some ⟨g,0,none⟩) 3 gc,.int .i64 3,.int .i64 (room:Nat),.slice va vn vc]∧w.ownsRow w6.heap.size 3 1 (.slice (some ⟨g,0,none⟩) 3 gc) 3 (c.1.map (Value.int .i64))),.inr (fun v w=>∃ A cs,v=.pointer (some ⟨A,0,none⟩)∧w6.heap.size≤A∧w.heap[A]?=some (.cells cs 43 (0,0))∧cs.size=4),.inr (fun v w=>∃ A g gc,v=.pointer (some ⟨A,0,none⟩)∧w6.heap.size≤A∧w.heap[A]?=some (.cells #[.slice (some ⟨g,0,none⟩) 3 gc,.int .i64 3,.int .i64 (room:Nat),.slice va vn vc] 43 (0,0))∧w.ownsRow w6.heap.size 3 1 (.slice (some ⟨g,0,none⟩) 3 gc) 3 (c.1.map (Value.int .i64)))])
      [[],[0],[1],[],[2,3],[],[5,4]] [[],[0],[0,1],[],[0,1,2,3],[],[0,1,2,3,4,5]] [6] (by kernel_rfl) (by kernel_rfl) (by kernel_rfl) rfl (Flow.grow_drew _) ?ones15 ?ends15
     case ones15 =>
      refine Flow.OnesG.start (by exact ⟨fun _ _ _ g ⟨a,b,h1,h2⟩=>⟨a,b,h1,own_keep h2 g⟩,fun _ _ _ g ⟨a,b,h1,h2⟩=>⟨a,b,h1,own_keep h2 g⟩,fun _ _ _ g ⟨A,cs,h1,h2,h3,h4⟩=>⟨A,cs,h1,h2,heap_keep g h3,h4⟩,fun _ _ _ g ⟨A,a,b,h1,h2,h3,h4⟩=>⟨A,a,b,h1,h2,heap_keep g h3,own_keep h4 g⟩,trivial⟩) (fun L w w' i=>(fun _ _ h g=>h.trans g) w w') fun HST HCG=>?_
      refine Flow.oq rfl HST HCG ?_ ?_
      ·intro L a w hC hLi hoff _
       have e7:a.eval (.tmp 7)=(.pointer (some ⟨X,0,none⟩)):=hoff.at2 7 0 hLi (by kernel_rfl)
       refine Flow.gs rfl ?_
       generalize a.eval=ρ at e7 ⊢
       simp [execOp,e7,go_sem]
      refine Flow.oq rfl HST HCG ?_ ?_
      ·rintro L a w hC hLi hoff ⟨k0,-⟩
       have e121:=Flow.kv k0 rfl rfl
       refine Flow.gs rfl ?_
       generalize a.eval=ρ at e121 ⊢
       have h0:=Xm2.cell_grow hC x0
       simp [execOp,e121,h0,go_sem]
      refine Flow.oq rfl HST HCG ?_ ?_
      ·rintro L a w hC hLi hoff ⟨k1,-⟩
       have e122:=Flow.kv k1 rfl rfl
       exact .inl ⟨Flow.want_none rfl,Flow.run_call (Flow.exec_call rfl Try.func29 (by kernel_rfl) (by kernel_rfl) (by simp only [List.map_toArray,List.map_cons,List.map_nil,e122] <;> rfl)) (HCl.out w hC)⟩
      refine Flow.oq rfl HST HCG ?_ ?_
      ·intro L a w hC hLi hoff _
       have e16:a.eval (.tmp 16)=(.pointer (some ⟨Z+1,0,none⟩)):=hoff.at2 16 3 hLi (by kernel_rfl)
       refine Flow.gs rfl ?_
       generalize a.eval=ρ at e16 ⊢
       have h0:=Xm2.cell_grow hC m0
       have h1:=Xm2.cell_grow hC m1
       have h2:=Xm2.cell_grow hC m2
       simp [execOp,e16,h0,h1,h2,go_sem]
      refine Flow.oq rfl HST HCG ?_ ?_
      ·rintro L a w hC hLi hoff ⟨k2,k3,-⟩
       have e123:=Flow.kr k2 rfl rfl
       have e124:=Flow.kv k3 rfl rfl
       refine .inl ⟨Flow.want_none rfl,?_⟩
       obtain ⟨g,gc,e123,ho⟩:=e123
       refine Flow.run_val (v:=.agg #[.slice (some ⟨g,0,none⟩) 3 gc,.int .i64 3,.int .i64 (room:Nat),.slice va vn vc]) (w':=w) ?_ (Flow.grow_refl _) ⟨g,gc,rfl,ho⟩
       simp only [execOp,Sem.run_bind]
       rw [run_build (P:=Try.prog) w 43 _ #[.slice (some ⟨g,0,none⟩) 3 gc,.int .i64 3,.int .i64 (room:Nat),.slice va vn vc] (by simp only [List.map_toArray,List.map_cons,List.map_nil,e123,e124];kernel_rfl)]
       rfl
      refine Flow.oq rfl HST HCG ?_ ?_
      ·intro L a w hC hLi hoff _
       refine .inl ⟨Flow.want_none rfl,?_⟩
       refine Flow.run_val (v:=.pointer (some ⟨w.heap.size,0,none⟩)) (w':=w.alloc (.cells #[.slice none 0 0,.int .i64 0,.int .i64 0,.slice none 0 0] 43)) (Flow.alloc_run rfl hiM hM0 _ _) (Flow.grow_alloc _ _) ⟨_,_,rfl,hC.size,heap_alloc_new _ _,rfl⟩
      refine Flow.OnesG.cons (Flow.OneG.w (by kernel_rfl) ?_) ?_
      ·rintro L a w hC hLi hoff ⟨k5,k4,-⟩
       have e18:=Flow.kr k5 rfl rfl
       have e125:=Flow.kr k4 rfl rfl
       refine ⟨Flow.want_none rfl,?_⟩
       obtain ⟨A,cs,e18,hA,hAc,hcs⟩:=e18
       obtain ⟨g,gc,e125,ho⟩:=e125
       refine wp_sto (s:=18) (x:=125) rfl rfl hiM hM1 rfl (by intro v hv;simp at hv;rcases hv with rfl | rfl | rfl | rfl <;> rfl) (W:=w6) A hC hA e18 e125 ⟨cs,hAc,hcs⟩ fun w' h2 h3 h4 h5=>?_
       exact ⟨undef,rfl,h2,fun s hs=>⟨A,g,gc,by cases hs;exact e18,hA,h4,own_heap ho fun g' hg'=>h5 g' (fun e=>own_not ho hAc (by decide) (by rw [hg',e]))⟩⟩
      exact trivial
     case ends15 =>
      intro LL wx hLL hC
      iterate 2 refine Flow.endsG_v rfl ?_
      refine Flow.endsG_r rfl fun v123 _=>?_
      refine Flow.endsG_v rfl ?_
      refine Flow.endsG_r rfl fun v125 _=>?_
      refine Flow.endsG_r rfl fun v18 _=>?_
      refine Flow.endsG_s rfl rfl rfl fun hE6=>?_
      refine Flow.endsG_nil ?_
      simp only [Act.put,List.setIfInBounds_toArray,List.set_cons_succ,List.set_cons_zero]
      obtain ⟨A,g,gc,hv,hA,hAc,ho⟩:=hE6
      obtain rfl:v18=.pointer (some ⟨A,0,none⟩):=by rw [← hv];kernel_rfl
      have hAg:A≠g:=fun e=>own_not ho hAc (by decide) (by rw [e];rfl)
      have hgl:=(ho.lt g rfl).1
      have HO:=Lib.hid ho
      have HAc:=Lib.hid hAc
      have HCx:=Lib.hid hC
      clear hv ho hAc hC
      have a0:=(cell_of_row wx A 0 _ _ _ HAc.out).trans rfl
      obtain ⟨u,g0⟩:∃ u,wx.cell? ⟨g,i,none⟩=some u:=by
       rw [HO.out.cellAt i (by omega)]
       exact ⟨_,List.getElem?_eq_getElem (by simp;omega)⟩
      have fg:wx.frozen? ⟨g,i,none⟩=false:=by
       obtain ⟨g',gc',cur,e,_,hcur⟩:=own_some HO.out (by decide)
       cases e
       exact frozen_of_row wx g i _ _ hcur
      go_upto_region 17 with fail
      have HQ8:Hid (Flow.Grow w6 (wx.setCell ⟨g,i,none⟩ (.int .i64 tv))∧(wx.setCell ⟨g,i,none⟩ (.int .i64 tv)).heap[A]?=some (.cells #[.slice (some ⟨g,0,none⟩) 3 gc,.int .i64 3,.int .i64 (room:Nat),.slice va vn vc] 43 (0,0))∧(wx.setCell ⟨g,i,none⟩ (.int .i64 tv)).ownsRow w6.heap.size 3 1 (.slice (some ⟨g,0,none⟩) 3 gc) 3 ((c.1.map (Value.int .i64)).set i (.int .i64 tv))):=Lib.hid
       ⟨set_grow HCx.out hgl _ _,set_other HAc.out hAg,own_setAt _ HO.out (by omega)⟩
      generalize wx.setCell ⟨g,i,none⟩ (.int .i64 tv)=w8 at *
      clear a0 g0 fg x0 m0 m1 m2
      have a0:=(cell_of_row w8 A 0 _ _ _ HQ8.out.2.1).trans rfl
      have a1:=(cell_of_row w8 A 1 _ _ _ HQ8.out.2.1).trans rfl
      have a2:=(cell_of_row w8 A 2 _ _ _ HQ8.out.2.1).trans rfl
      have a3:=(cell_of_row w8 A 3 _ _ _ HQ8.out.2.1).trans rfl
      have HX8:=Lib.hid (heap_keep HQ8.out.1 HQ.out.2.2.1)
      have b0:=(cell_of_row w8 (X+1) 0 _ _ _ HX8.out).trans rfl
      have b1:=(cell_of_row w8 (X+1) 1 _ _ _ HX8.out).trans rfl
      have b2:=(cell_of_row w8 (X+1) 2 _ _ _ HX8.out).trans rfl
      have b3:=(cell_of_row w8 (X+1) 3 _ _ _ HX8.out).trans rfl
      have fX:=fun k=>frozen_of_row w8 (X+1) k _ _ HX8.out
      go_wp2_with fail
      try rw [if_neg hneg]
      try rw [hdo]
      have hXg:g≠X+1:=by have:=(Array.getElem?_eq_some_iff.1 HQ.out.2.2.1).1;omega
      refine bodyPost_ret (do_res (X+1) _ _ _ _ _ _ _ _ rfl rfl rfl (row4_set _ _ _ _ HX8.out)) rfl ⟨⟨_,_,_,_,_,_,rfl,?_,?_⟩,row4_grow _ _ _ _ (HQ.out.1.trans HQ8.out.1) (by have:=HXw1.out;omega)⟩
      ·have:=row4_own (.slice (some ⟨g,0,none⟩) 3 gc) (.int .i64 3) (.int .i64 (room:Nat)) (.slice va vn vc) HQ8.out.2.2 hXg
       simp only [List.length_set,h3,List.map_set]
       exact Pr.own_mono this HQ.out.1.size
      ·exact (HQ.out.2.2.2.2.grow HQ8.out.1).set4 HX8.out (by decide) (by decide)
end Go.Proofs.Ytcpodmjcgfgmnaa
