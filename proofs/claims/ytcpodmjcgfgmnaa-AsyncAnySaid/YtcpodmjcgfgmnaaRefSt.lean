/- galliardref23.Steps by its contract. -/
import Derived.Test.YtcpodmjcgfgmnaaAsSteps
import Derived.Test.YtcpodmjcgfgmnaaMFlow
namespace Go.Proofs.Ytcpodmjcgfgmnaa
open Go.RowKit
theorem wp_append_none0 {P:Program} {w:World} {o:Oper} {a:Act} {K:Act→World→Prop} {Q:Exit→Act→World→Prop} (s x:Operand) (t e:TypeId)
  (ho:o.op=.call { callee:=.builtin .append,args:=#[s,x],argTypes:=#[t,t] }) (ht:P.underlying t=some (.slice e)) (sz:Nat) (hsz:(sizeOf e).run P w=.ok sz w)
  (b:Addr) (xa:Option Addr) (cx:Nat) (hs:a.eval s=.slice (some b) 0 0) (hx:a.eval x=.slice xa 0 cx) (h:K (a.put o.dst (.slice (some b) 0 0)) w):Oper.wp P o a w K Q:=by
 have hr:(Builtin.append_ #[t,t] o.type #[.slice (some b) 0 0,.slice xa 0 cx]).run P w=.ok (.slice (some b) 0 0) w:=by
  cases xa <;> simp [Builtin.append_,run_underlying ht,Sem.run_bind,hsz,Builtin.lenOf,Builtin.firstCells,loadCells,storeCells,go_sem]
 unfold Oper.wp execOp
 simp only [ho,resolve,invoke,builtin,Sem.run_bind,Sem.run_pure,Result.andThen_ok,List.map_toArray,List.map_cons,List.map_nil,hs,hx,hr]
 exact h
theorem wp_app0 {P:Program} {w:World} {o:Oper} {a:Act} {Q:Exit→Act→World→Prop} (s x:Operand) (t e:TypeId)
  (ho:o.op=.call { callee:=.builtin .append,args:=#[s,x],argTypes:=#[t,t] }) (B:Nat) (i:TypeInfo) (z:Value) (bytes:Nat) (ht:P.underlying t=some (.slice e)) (hi:P.info? e=some i) (hz:i.zero=some z)
  (hsize:i.size=1) (hby:i.bytes=bytes) (hzs:z.cells.size=1) (hszo:∀ w,(sizeOf e).run P w=.ok 1 w) (h:Nat) (hs:a.eval s=.slice (some ⟨h,0,none⟩) 0 0) (hh:w.heap[h]?=some (.cells #[] e (0,0))) (hB:B≤h)
  (v:Value) (m:Nat) (ys:List Value) (hx:a.eval x=v) (hseg:Seg 1 w v m ys) (h1:∀ u∈ys,u.oneCell'=true) (hm:m≤1000000) (hb:bytes≤1000000) (hBw:B≤w.heap.size) :
  o.wp P a w (fun a' w'=>∃ v,a'=a.put o.dst v∧Flow.Grow w w'∧w'.ownsRow B e 1 v m ys) Q:=by
 have hlen:ys.length=m:=by
  obtain ⟨_,_,_,hl,_⟩:=hseg
  simpa using hl
 have hown:w.ownsRow B e 1 (.slice (some ⟨h,0,none⟩) 0 0) 0 []:=⟨rfl,.inr ⟨h,0,#[],rfl,hB,hh,Nat.le_refl _,by decide,rfl,rfl⟩⟩
 by_cases h0:m=0
 ·subst h0
  obtain rfl:=List.eq_nil_of_length_eq_zero hlen
  obtain ⟨xa,cx,rfl,_⟩:=hseg
  exact wp_append_none0 s x t e ho ht 1 (hszo w) _ xa cx hs hx ⟨_,rfl,Flow.grow_refl w,hown⟩
 ·obtain ⟨b,off,cap,rfl,_,hc⟩:=hseg.shape (by intro e;rw [e] at hlen;simp at hlen;omega)
  have hc':∀ j u,ys[j]?=some u→w.cell? ((⟨b,off,none⟩:Addr).add j)=some u:=fun j u hj=>by
   rw [Addr.add_lit,hc j (List.getElem?_eq_some_iff.1 hj).1];exact hj
  have hmb:(0+m) * bytes≤140737488355328:=by
   have:(0+m) * bytes≤1000000 * 1000000:=Nat.mul_le_mul (by omega) hb
   omega
  obtain ⟨v',w',hr,h2,h3,_⟩:=run_append_own (P:=P) w B t o.type e i z 1 bytes ht hi hz hsize hby hzs (by decide) _ 0 [] hown ⟨b,off,none⟩ m cap ys (by omega) hc' h1 (by unfold maxLen;omega) hmb hBw
  have hmv:=(moved_of_append w B t o.type e i z 1 bytes ht hi hz hsize hby _ 0 [] hown ⟨b,off,none⟩ m cap ys (by omega) hc' h1 (by unfold maxLen;omega) hmb hr).2 (.inr ⟨_,rfl⟩) (by omega)
  unfold Oper.wp execOp
  simp only [ho,resolve,invoke,builtin,Sem.run_bind,Sem.run_pure,Result.andThen_ok,List.map_toArray,List.map_cons,List.map_nil,hs,hx,hr]
  exact ⟨v',rfl,hmv.1,by simpa using h2⟩
theorem own_cell {w:World} {B e n g c j:Nat} {xs:List Value} (h:w.ownsRow B e 1 (.slice (some ⟨g,0,none⟩) n c) n xs) (hj:j < n):∃ u,w.cell? ⟨g,j,none⟩=some u:=by
 have hl:=h.1
 exact ⟨xs[j]'(by omega),by rw [h.cellAt j (by omega)];exact List.getElem?_eq_getElem (by omega)⟩
theorem wp_sto1 {P:Program} {o:Oper} {a:Act} {w:World} {K:Act→World→Prop} {Q:Exit→Act→World→Prop} {T:TypeId} {s x:Tmp} {b off:Nat} {va:Option Addr} {vn vc:Nat} {u:Value} (hop:o.op=.store T (.tmp s) (.tmp x)) (hd:o.dst=none) (hsz:(sizeOf T).run P w=.ok 1 w) (hs:a.eval (.tmp s)=.pointer (some ⟨b,off,none⟩)) (hx:a.eval (.tmp x)=.slice va vn vc) (hc:w.cell? ⟨b,off,none⟩=some u) (hf:w.frozen? ⟨b,off,none⟩=false)
  (k:K a (w.setCell ⟨b,off,none⟩ (.slice va vn vc))):o.wp P a w K Q:=by
 have hr:(execOp a.eval o).run P w=.ok .skip (w.setCell ⟨b,off,none⟩ (.slice va vn vc)):=by
  generalize a.eval=ρ at hs hx ⊢
  simp [execOp,hop,hs,hx,Instr.storeAt,Instr.sureAddr,storeVar,Value.cells,hsz,storeCells,hc,hf,go_sem]
 unfold Oper.wp
 rw [hr,Oper.upon_skip]
 rw [show a.put o.dst undef=a by rw [hd];rfl]
 exact k
namespace As
open Pr
def rstCells (l:List (Stp × Value × Value)):List Value:=l.flatMap fun s=>[.int .i64 (s.1.1:Int),.int .i64 (s.1.2.1:Int),s.2.1,s.2.2]
def RStD (W w:World) (B:Nat) (ov:Value) (l:List Stp):Prop:=∃ cs:List (Value × Value),cs.length=l.length∧w.ownsRow B 58 4 ov l.length (rstCells (l.zip cs))∧∀ j,j < l.length→CfgD W w B (cs.getD j (undef,undef)).1 (cs.getD j (undef,undef)).2 (l.getD j (0,0,[],[])).2.2
theorem RStD.grow {W w w':World} {B:Nat} {ov:Value} {l:List Stp} (h:RStD W w B ov l) (g:Flow.Grow w w'):RStD W w' B ov l:=by
 obtain ⟨cs,h1,h2,h3⟩:=h
 exact ⟨cs,h1,own_keep h2 g,fun j hj=>(h3 j hj).grow g⟩
theorem RStD.mono {W w:World} {B B':Nat} {ov:Value} {l:List Stp} (h:RStD W w B ov l) (hB:B'≤B):RStD W w B' ov l:=by
 obtain ⟨cs,h1,h2,h3⟩:=h
 exact ⟨cs,h1,own_mono h2 hB,fun j hj=>(h3 j hj).mono hB⟩
theorem RStD.form {W w:World} {B:Nat} {ov:Value} {l:List Stp} (h:RStD W w B ov l):∃ a c,ov=.slice a l.length c:=by
 obtain ⟨cs,_,h2,_⟩:=h
 exact own_form h2
theorem RStD.push {W w w':World} {B:Nat} {ov ov' vS vB:Value} {l:List Stp} {s:Stp} (h:RStD W w B ov l) (hn:CfgD W w B vS vB s.2.2) (k:w.grownBy w' ov.ownBlock)
  (ho:∀ xs,w.ownsRow B 58 4 ov l.length xs→w'.ownsRow B 58 4 ov' (l.length+1) (xs++[.int .i64 (s.1:Int),.int .i64 (s.2.1:Int),vS,vB])):RStD W w' B ov' (l++[s]):=by
 obtain ⟨cs,h1,h2,h3⟩:=h
 have ht:=own_typed h2
 have kp:∀ {d:Cfg} {a b:Value},CfgD W w B a b d→CfgD W w' B a b d:=fun hd=>hd.kept k fun g hg=>by
  obtain ⟨c,hc⟩:=ht g hg
  exact ⟨c,_,hc,by decide,by decide⟩
 refine ⟨cs++[(vS,vB)],by simp [h1],?_,fun j hj=>?_⟩
 ·have:=ho _ h2
  rw [List.length_append,List.length_singleton,List.zip_append h1.symm]
  simpa [rstCells] using this
 ·rw [List.length_append,List.length_singleton] at hj
  by_cases e:j < l.length
  ·rw [show (cs++[(vS,vB)]).getD j (undef,undef)=cs.getD j (undef,undef) by simp [List.getD_eq_getElem?_getD,List.getElem?_append_left (show j < cs.length by omega)],show (l++[s]).getD j (0,0,[],[])=l.getD j (0,0,[],[]) by simp [List.getD_eq_getElem?_getD,List.getElem?_append_left e]]
   exact kp (h3 j e)
  ·obtain rfl:j=l.length:=by omega
   rw [show (cs++[(vS,vB)]).getD l.length (undef,undef)=(vS,vB) by rw [← h1];simp,show (l++[s]).getD l.length (0,0,[],[])=s by simp]
   exact kp hn
end As
theorem info_rstep:(Try.prog.info? 58).map (fun i=>(i.zero,i.size,i.bytes))=some (some (.agg #[.int .i64 0,.int .i64 0,.slice none 0 0,.slice none 0 0]),4,64):=by kernel_rfl
theorem info_rcfg:(Try.prog.info? 46).map (fun i=>(i.zero,i.size,i.bytes))=some (some (.agg #[.slice none 0 0,.slice none 0 0]),2,48):=by kernel_rfl
namespace As
open Pr
theorem stp_eq {L room i k:Nat} {ps:List Pd} {p:Pd} {c:Cfg} (hL:L≤4) (hi:i < 3) (hp:p=ps.getD i default) (hok:p.Ok (labsL L) i) (hk:k < p.acts.length):∃ (d:Int) (q f t:Nat) (m:Int),p.acts.getD k (0,0)=(d,(q:Int))∧q < L∧(labsL L).getD q (0,0,0)=((f:Int),(t:Int),m)∧f < 3∧t < 3∧(d=1∨d=2) ∧
  stp ps (labsL L) room c i k=if toS p (c.1.getD i 0) k < 0 then (none,false) else match doB room c.2 ((f:Int),(t:Int),m) (d,(q:Int)) with
  | some b=>(some (c.1.set i (toS p (c.1.getD i 0) k),b),false)
  | none=>(none,(d == 1)):=by
 obtain ⟨d,q,f,t,m,ha,hq,hl,hf,ht,hd,_⟩:=act_at hL hi (by rw [← hok.acts];exact hk)
 rw [← hok.acts] at ha
 refine ⟨d,q,f,t,m,ha,hq,hl,hf,ht,hd,?_⟩
 unfold stp
 simp only
 rw [← hp,ha]
 simp only [Int.toNat_natCast]
 rw [hl]
 rfl
structure NObj (w5 w:World) (A g gc h hc:Nat) (st:List Int) (vs:List Value):Prop where
 lo:w5.heap.size≤A
 at_:w.heap[A]?=some (.cells #[.slice (some ⟨g,0,none⟩) 3 gc,.slice (some ⟨h,0,none⟩) 9 hc] 46 (0,0))
 st:w.ownsRow w5.heap.size 3 1 (.slice (some ⟨g,0,none⟩) 3 gc) 3 (st.map (Value.int .i64))
 bx:w.ownsRow w5.heap.size 39 1 (.slice (some ⟨h,0,none⟩) 9 hc) 9 vs
theorem NObj.grow {w5 w w':World} {A g gc h hc:Nat} {st:List Int} {vs:List Value} (n:NObj w5 w A g gc h hc st vs) (k:Flow.Grow w w'):NObj w5 w' A g gc h hc st vs:=⟨n.lo,heap_keep k n.at_,own_keep n.st k,own_keep n.bx k⟩
theorem RStD.push2 {W w w':World} {B:Nat} {ov' vS vB:Value} {l:List Stp} {s:Stp} {cs:List (Value × Value)} (h1:cs.length=l.length) (h3:∀ j,j < l.length→CfgD W w B (cs.getD j (undef,undef)).1 (cs.getD j (undef,undef)).2 (l.getD j (0,0,[],[])).2.2) (hn:CfgD W w B vS vB s.2.2) {r:Option Nat} (k:w.grownBy w' r) (ht:∀ g,r=some g→∃ c,w.heap[g]?=some (.cells c 58 (0,0)))
  (ho:w'.ownsRow B 58 4 ov' (l.length+1) (rstCells (l.zip cs)++[.int .i64 (s.1:Int),.int .i64 (s.2.1:Int),vS,vB])):RStD W w' B ov' (l++[s]):=by
 have kp:∀ {d:Cfg} {a b:Value},CfgD W w B a b d→CfgD W w' B a b d:=fun hd=>hd.kept k fun g hg=>by
  obtain ⟨c,hc⟩:=ht g hg
  exact ⟨c,_,hc,by decide,by decide⟩
 refine ⟨cs++[(vS,vB)],by simp [h1],?_,fun j hj=>?_⟩
 ·rw [List.length_append,List.length_singleton,List.zip_append h1.symm]
  simpa [rstCells] using ho
 ·rw [List.length_append,List.length_singleton] at hj
  by_cases e:j < l.length
  ·rw [show (cs++[(vS,vB)]).getD j (undef,undef)=cs.getD j (undef,undef) by simp [List.getD_eq_getElem?_getD,List.getElem?_append_left (show j < cs.length by omega)],show (l++[s]).getD j (0,0,[],[])=l.getD j (0,0,[],[]) by simp [List.getD_eq_getElem?_getD,List.getElem?_append_left e]]
   exact kp (h3 j e)
  ·obtain rfl:j=l.length:=by omega
   rw [show (cs++[(vS,vB)]).getD l.length (undef,undef)=(vS,vB) by rw [← h1];simp,show (l++[s]).getD l.length (0,0,[],[])=s by simp]
   exact kp hn
theorem mailD_setO {W w':World} {B g gc j:Nat} {vl vb:Value} {vs:List Value} {b:List (List Int)} {row:List Int} (h9:b.length=9) (hR:BoxAt W vl vs b) (h:w'.ownsRow B 39 1 (.slice (some ⟨g,0,none⟩) 9 gc) 9 (vs.set j vb)) (hb:BoxO W w' B vb row) (hj:j < 9) :
  MailD W w' B (.slice (some ⟨g,0,none⟩) 9 gc) (b.set j row):=by
 have hvl:vs.length=9:=by simpa using h.1
 refine ⟨vs.set j vb,by rw [List.length_set,h9];exact h,fun i hi=>?_⟩
 rw [List.length_set] at hi
 by_cases e:i=j
 ·subst e
  rw [getD_set_eq (by omega),getD_set_eq (by omega)]
  exact hb
 ·rw [getD_set_other (Ne.symm e),getD_set_other (Ne.symm e)]
  exact .inr (hR.2 i hi)
def RefPost (W:World) (B:Nat) (l:List Stp) (bk:Bool) (e:Ending) (w':World):Prop:=∃ oa oc,e=.returned (.tuple #[.slice oa l.length oc,.bool bk])∧RStD W w' B (.slice oa l.length oc) l
end As
open As in
set_option maxRecDepth 100000 in
set_option maxHeartbeats 4000000 in
theorem refSteps_any (L room:Nat) (vp vl vS vB:Value) (css:List (List Value)) (ps:List Pr.Pd) (c:Cfg) (W0 W:World) (hg0:Sub W0 W) (hL:L≤4) (_hroom:room≤1000) (hP:Pr.PeersAt W vp (Pr.labsL L) css ps) (hLs:Pr.LsAt W vl (Pr.labsL L)) (hCo:CfgAt W0 vS vB c) (hw:Wf ps c) (hlen:∀ j,(c.2.getD j []).length≤100000) :
  Calls Try.prog 11 #[vp,vl,.agg #[vS,vB],.int .i64 (room:Nat)] W fun e w'=>RefPost W0 W.heap.size (stepsI ps (Pr.labsL L) room c 3) (blkI ps (Pr.labsL L) room c 3) e w'∧Flow.Grow W w':=by
 have hC:=hCo.sub hg0
 have HSub:=Lib.hid hg0
 have HAl:Hid (∀ i,i < 3→(ps.getD i default).acts.length≤4):=Lib.hid (fun i hi=>by
  obtain ⟨_,_,_,_,_,hpa⟩:=hP.at_
  obtain ⟨_,_,_,p,hp,_,_,_,_,_,_,_,_,_,f9⟩:=hpa i hi
  rw [← hp,f9.acts]
  have:=Pr.acts_len i (Pr.labsL L) (Pr.labsL L).length
  have:=Pr.labsL_len hL
  omega)
 obtain ⟨pb,po,pc,rfl,hpb,hpa⟩:=hP.at_
 have HPa:=Lib.hid hpa
 obtain ⟨al,cl,rfl,_⟩:=id hLs
 have hll:=Pr.labsL_len hL
 have HLs:=Lib.hid hLs
 have HS:=Lib.hid hC.st
 obtain ⟨sa,sc,hvs,_⟩:=id hC.st
 have hb9:=hw.boxes
 have h3:=hw.len
 have HRng:=Lib.hid hw.rng
 have HLenB:=Lib.hid hlen
 obtain ⟨vs,hbx0⟩:=hCo.ml
 have hbx:=As.BoxAt.sub hbx0 hg0
 have HBx:=Lib.hid hbx0
 have HB1:=Lib.hid hbx.1
 obtain ⟨mb,mo,mc,hvm,_,_,h1c⟩:=hbx.cells (by intro e;rw [e] at hb9;cases hb9)
 have H1c:=Lib.hid h1c
 subst hvs hvm
 have Hll:=Lib.hid hll
 rw [hb9] at HBx HB1 ⊢
 have HS3:=Lib.hid (show Seg 1 W _ c.1.length (c.1.map (Value.int .i64)) from hC.st)
 rw [h3] at HS HS3 ⊢
 rw [hll] at HLs ⊢
 have HBc:Hid (∀ bx,bx < 9→∃ ba bn bc,vs.getD bx undef=.slice ba bn bc∧bn=(c.2.getD bx []).length∧bn≤bc∧Ints W0 (.slice ba bn bc) (c.2.getD bx [])∧W.cell? ⟨mb,mo+bx,none⟩=some (.slice ba bn bc)):=Lib.hid (fun bx hb=>by
  obtain ⟨_,_,_,e,hvl,hvc,_⟩:=hbx.cells (by intro e;rw [e] at hb9;cases hb9)
  cases e
  obtain ⟨hBI,ba,bn,bc,hbe,hbcap⟩:=hbx0.2 bx (by omega)
  have hc:=hvc bx (vs.getD bx undef) (by simp [List.getD_eq_getElem?_getD,show bx < vs.length by omega])
  rw [hbe] at hBI hc
  refine ⟨ba,bn,bc,hbe,?_,hbcap,hBI,hc⟩
  obtain ⟨_,_,e,_⟩:=hBI
  injection e)
 clear hP hLs hC hCo hg0 hw hlen hbx hbx0 hpa hll h1c
 obtain ⟨iR,hiR,hR0,hR1,hR2⟩:=info_parts info_rstep
 obtain ⟨iC,hiC,hC0,hC1,hC2⟩:=info_parts info_rcfg
 obtain ⟨iI,hiI,hI0,hI1,hI2⟩:=info_parts info_int
 obtain ⟨iJ,hiJ,hJ0,hJ1,hJ2⟩:=info_parts info_ints
 obtain ⟨ls,hls⟩:∃ ls,ls=Pr.labsL L:=⟨_,rfl⟩
 have HEq:Hid (∀ (i k:Nat) (p:Pr.Pd),i < 3→p=ps.getD i default→p.Ok ls i→k < p.acts.length→∃ (d:Int) (q f t:Nat) (m:Int),p.acts.getD k (0,0)=(d,(q:Int))∧q < L∧ls.getD q (0,0,0)=((f:Int),(t:Int),m)∧f < 3∧t < 3∧(d=1∨d=2) ∧
  stp ps ls room c i k=if toS p (c.1.getD i 0) k < 0 then (none,false) else match doB room c.2 ((f:Int),(t:Int),m) (d,(q:Int)) with
  | some b=>(some (c.1.set i (toS p (c.1.getD i 0) k),b),false)
  | none=>(none,(d == 1))):=Lib.hid (by rw [hls];exact fun i k p hi hp hok hk=>stp_eq hL hi hp hok hk)
 rw [← hls] at HPa HLs Hll ⊢
 clear hls
 go_enter Try.func11,Try.ntmps11
 go_upto_region 1 with fail
 have HBw10:Hid ((W.alloc (.cells #[.slice sa 3 sc,.slice (some ⟨mb,mo,none⟩) 9 mc] 46)).heap[W.heap.size]?=some (.cells #[.slice sa 3 sc,.slice (some ⟨mb,mo,none⟩) 9 mc] 46 (0,0))):=Lib.hid (lay1_0 _ _)
 have HGw1:Hid (Flow.Grow W (W.alloc (.cells #[.slice sa 3 sc,.slice (some ⟨mb,mo,none⟩) 9 mc] 46))):=Lib.hid (lay1_g _ _)
 have HSw1:Hid ((W.alloc (.cells #[.slice sa 3 sc,.slice (some ⟨mb,mo,none⟩) 9 mc] 46)).heap.size=W.heap.size+1):=Lib.hid (by simp)
 generalize W.alloc (.cells #[.slice sa 3 sc,.slice (some ⟨mb,mo,none⟩) 9 mc] 46)=w1 at *
 obtain ⟨X,hX⟩:∃ X,X=W.heap.size:=⟨_,rfl⟩
 rw [← hX] at HBw10 HSw1 ⊢
 have HXw1:=Lib.hid hX
 clear hX
 have CXw1:Hid (∀ wq,Flow.Grow w1 wq→wq.cell? ⟨X,0,none⟩=some (.slice sa 3 sc)∧wq.cell? ⟨X,1,none⟩=some (.slice (some ⟨mb,mo,none⟩) 9 mc)):=Lib.hid (fun wq g=>⟨lay_cell g HBw10.out rfl,lay_cell g HBw10.out rfl⟩)
 have FXw1:Hid (∀ wq,Flow.Grow w1 wq→(∀ k,wq.frozen? ⟨X,k,none⟩=false)):=Lib.hid (fun wq g=>fun k=>lay_frozen g HBw10.out k)
 go_upto_region 2 with fail
 have HBw20:Hid ((w1.alloc (.cells #[] 58)).heap[w1.heap.size]?=some (.cells #[] 58 (0,0))):=Lib.hid (lay1_0 _ _)
 have HGw2:Hid (Flow.Grow w1 (w1.alloc (.cells #[] 58))):=Lib.hid (lay1_g _ _)
 have HSw2:Hid ((w1.alloc (.cells #[] 58)).heap.size=w1.heap.size+1):=Lib.hid (by simp)
 generalize w1.alloc (.cells #[] 58)=w2 at *
 obtain ⟨O,hO⟩:∃ X,X=w1.heap.size:=⟨_,rfl⟩
 rw [← hO] at HBw20 HSw2 ⊢
 have HXw2:=Lib.hid hO
 clear hO
 have FXw2:Hid (∀ wq,Flow.Grow w2 wq→(∀ k,wq.frozen? ⟨O,k,none⟩=false)):=Lib.hid (fun wq g=>fun k=>lay_frozen g HBw20.out k)
 have HD0:Hid (RStD W0 w2 w1.heap.size (.slice (some ⟨O,0,none⟩) 0 0) (stepsI ps ls room c 0)):=Lib.hid (by
  rw [stepsI_zero]
  exact ⟨[],rfl,⟨rfl,.inr ⟨O,0,#[],rfl,by rw [HXw2.out];exact Nat.le_refl _,HBw20.out,Nat.le_refl _,by decide,rfl,rfl⟩⟩,fun j hj=>by simp at hj⟩)
 go_wp2_with fail
 go_loopw [10,11,12] (fun ov bv iv wr=>∃ i:Nat,i≤3∧iv=.int .i64 i∧bv=.bool (blkI ps ls room c i)∧Hid (RStD W0 wr w1.heap.size ov (stepsI ps ls room c i))∧Hid (Flow.Grow w1 wr)) (fun _ _ iv _=>3 - (intOf iv).toNat)
 case atStart=>exact ⟨0,by omega,rfl,rfl,HD0,HGw2⟩
 case round =>
  clear HD0
  obtain ⟨i,hi3,rfl,rfl,HD,HG⟩:=hrel
  rename World=>wo
  obtain ⟨vq,hvq⟩:∃ v,v=u10:=⟨_,rfl⟩
  obtain ⟨oa,oc,hoa⟩:=HD.out.form
  subst hoa
  clear hvq
  by_cases hi:i < 3
  ·have hid:decide ((i:Int) < 3)=true:=by simp;omega
   go_wp2_with fail
   go_loopw [10,11,13] (fun ov bv kv wr=>∃ k:Nat,k≤(ps.getD i default).acts.length∧kv=.int .i64 k∧bv=.bool (blkI ps ls room c i || blkK ps ls room c i k)∧Hid (RStD W0 wr w1.heap.size ov (stepsI ps ls room c i++stepsK ps ls room c i k))∧Hid (Flow.Grow w1 wr)) (fun _ _ kv _=>(ps.getD i default).acts.length - (intOf kv).toNat)
   case atStart=>exact ⟨0,by omega,rfl,by simp [blkK],Lib.hid (by rw [stepsK_zero,List.append_nil];exact HD.out),HG⟩
   case round =>
    clear HD HG
    obtain ⟨k,hkK,rfl,rfl,HD,HG⟩:=hrel
    rename World=>wi
    obtain ⟨vq,hvq⟩:∃ v,v=u10:=⟨_,rfl⟩
    obtain ⟨qa,qc,hoa⟩:=HD.out.form
    subst hoa
    clear hvq
    have HGi:Hid (Flow.Grow W wi):=Lib.hid (HGw1.out.trans HG.out)
    obtain ⟨va,vf,vn,p,hp,f0,f1,f2,f3,f4,f5,f6,f7,f8,f9⟩:=HPa.out i hi
    have HKp:Hid ((ps.getD i default).acts.length=p.acts.length):=Lib.hid (by rw [hp])
    rw [HKp.out] at hkK ⊢
    obtain ⟨aa,ac,hva,_⟩:=id f6
    subst hva
    replace f1:=Xm2.cell_grow HGi.out f1
    replace f5:=Xm2.cell_grow HGi.out f5
    by_cases hk:k < p.acts.length
    ·have hkd:decide ((k:Int) < (p.acts.length:Nat))=true:=by simp;omega
     obtain ⟨d,q,f,t,m,ha,hq,hl,hf,ht,hd,hst⟩:=HEq.out i k p hi hp f9 hk
     obtain ⟨hs0,hs1⟩:=HRng.out i hi
     rw [← hp] at hs1
     obtain ⟨s,hs⟩:∃ s:Nat,c.1.getD i 0=(s:Int):=⟨(c.1.getD i 0).toNat,by omega⟩
     obtain ⟨sb,so,hse,s0⟩:=ints_at HS.out (j:=i) (by rw [h3];exact hi)
     subst hse
     rw [hs] at s0 hs1 hst
     have hsN:s < p.rows.length:=by omega
     obtain ⟨an,cn,hvn⟩:=f8.val
     subst hvn
     obtain ⟨nb,no,ra,rc,hne,n0,hrow⟩:=rows2_at f8 (j:=s) hsN
     subst hne
     have hrl:=f9.len s hsN
     obtain ⟨rb,ro,hre,r0⟩:=ints_at hrow (j:=k) (by omega)
     subst hre
     have htv:toS p (s:Int) k=(p.rows.getD s []).getD k 0:=rfl
     rw [htv] at hst
     obtain ⟨ab,ao,hae,a0,a1⟩:=Pr.Acts_at f6 hk
     cases hae
     rw [ha] at a0 a1
     simp only at a0 a1
     obtain ⟨lb,lo,hle,y0,y1,y2⟩:=HLs.out.at (j:=q) (by rw [Hll.out];exact hq)
     subst hle
     rw [hl] at y0 y1 y2
     simp only at y0 y1 y2
     replace s0:=Xm2.cell_grow HGi.out s0
     replace n0:=Xm2.cell_grow HGi.out n0
     replace r0:=Xm2.cell_grow HGi.out r0
     replace a0:=Xm2.cell_grow HGi.out a0
     replace a1:=Xm2.cell_grow HGi.out a1
     replace y0:=Xm2.cell_grow HGi.out y0
     replace y1:=Xm2.cell_grow HGi.out y1
     replace y2:=Xm2.cell_grow HGi.out y2
     have HSk:=Lib.hid (stepsK_succ ps ls room c i k)
     have HBk:=Lib.hid (blkK_succ ps ls room c i k)
     have HLen:Hid ((stepsI ps ls room c i++stepsK ps ls room c i k).length≤100):=Lib.hid (by
      have h1:=stepsI_len (ps:=ps) (ls:=ls) (room:=room) (c:=c) i fun j hj=>HAl.out j (by omega)
      have h2:=stepsK_len ps ls room c i k
      have h3:=HAl.out i hi
      rw [HKp.out] at h3
      rw [List.length_append]
      omega)
     have Hst:=Lib.hid hst
     have Hk:=Lib.hid hk
     have Hkb:Hid (k < 4):=Lib.hid (by have:=HAl.out i hi;rw [HKp.out] at this;omega)
     clear hst f0 f2 f3 f4 f6 f7 f8 f9 hrow htv ha hl hp
     generalize (p.rows.getD s []).getD k 0=tv at *
     generalize (p.rows.getD s []).length=RL at *
     generalize p.rows.length=N at *
     generalize p.acts.length=K at *
     generalize blkI ps ls room c i=b0 at *
     generalize blkK ps ls room c i k=b1 at *
     generalize hl:stepsI ps ls room c i++stepsK ps ls room c i k=l at *
     have Hl:=Lib.hid hl
     clear hl
     obtain ⟨x0,x1⟩:=CXw1.out wi HG.out
     go_upto_region 8 with fail
     have hkR:k < RL:=by omega
     go_quiet (fail)
     have HGq:Hid (Flow.Grow w1 (wi.drewN nq)):=Lib.hid (HG.out.trans (Flow.grow_drewN _ _))
     have HDq:=Lib.hid (HD.out.grow (Flow.grow_drewN wi nq))
     replace a0:=Xm2.cell_grow (Flow.grow_drewN wi nq) a0
     replace a1:=Xm2.cell_grow (Flow.grow_drewN wi nq) a1
     replace y0:=Xm2.cell_grow (Flow.grow_drewN wi nq) y0
     replace y1:=Xm2.cell_grow (Flow.grow_drewN wi nq) y1
     replace y2:=Xm2.cell_grow (Flow.grow_drewN wi nq) y2
     replace f1:=Xm2.cell_grow (Flow.grow_drewN wi nq) f1
     clear s0 n0 r0 f5 x0 x1 HD HGi
     generalize wi.drewN nq=w3 at *
     have HGi:Hid (Flow.Grow W w3):=Lib.hid (HGw1.out.trans HGq.out)
     by_cases hneg:tv < 0
     ·have t1:decide (tv < 0)=true:=by simpa using hneg
      have HN:Hid (stp ps ls room c i k=(none,false)):=Lib.hid (by rw [Hst.out,if_pos hneg])
      have hw1:IntKind.i64.wrap ((k:Int)+1)=(k:Int)+1:=IntWalk.i64_in _ (by have:=Hkb.out;omega)
      go_wp2_with fail
      go_roundw
      case rel=>exact ⟨k+1,Hk.out,by go_num,by rw [HBk.out,HN.out,Bool.or_false],Lib.hid (by rw [HSk.out,HN.out,← List.append_assoc,Hl.out];simpa using HDq.out),HGq⟩
      case measure=>(have:=Hk.out;simp [intOf];omega)
     ·have t1:decide (tv < 0)=false:=by simpa using hneg
      have HN:Hid (stp ps ls room c i k=match doB room c.2 ((f:Int),(t:Int),m) (d,(q:Int)) with
       | some b=>(some (c.1.set i tv,b),false)
       | none=>(none,(d == 1))):=Lib.hid (by rw [Hst.out,if_neg hneg])
      go_upto_region 11 with fail
      have HBw40:Hid ((w3.alloc (.cells #[.int .i64 d,.int .i64 (q:Nat)] 81)).heap[w3.heap.size]?=some (.cells #[.int .i64 d,.int .i64 (q:Nat)] 81 (0,0))):=Lib.hid (lay1_0 _ _)
      have HGw4:Hid (Flow.Grow w3 (w3.alloc (.cells #[.int .i64 d,.int .i64 (q:Nat)] 81))):=Lib.hid (lay1_g _ _)
      have HSw4:Hid ((w3.alloc (.cells #[.int .i64 d,.int .i64 (q:Nat)] 81)).heap.size=w3.heap.size+1):=Lib.hid (by simp)
      generalize w3.alloc (.cells #[.int .i64 d,.int .i64 (q:Nat)] 81)=w4 at *
      obtain ⟨Y,hY⟩:∃ X,X=w3.heap.size:=⟨_,rfl⟩
      rw [← hY] at HBw40 HSw4 ⊢
      have HXw4:=Lib.hid hY
      clear hY
      have CXw4:Hid (∀ wq,Flow.Grow w4 wq→wq.cell? ⟨Y,0,none⟩=some (.int .i64 d)∧wq.cell? ⟨Y,1,none⟩=some (.int .i64 (q:Nat))):=Lib.hid (fun wq g=>⟨lay_cell g HBw40.out rfl,lay_cell g HBw40.out rfl⟩)
      have FXw4:Hid (∀ wq,Flow.Grow w4 wq→(∀ k,wq.frozen? ⟨Y,k,none⟩=false)):=Lib.hid (fun wq g=>fun k=>lay_frozen g HBw40.out k)
      replace y0:=Xm2.cell_grow HGw4.out y0
      replace y1:=Xm2.cell_grow HGw4.out y1
      replace y2:=Xm2.cell_grow HGw4.out y2
      obtain ⟨d00,d01⟩:=CXw4.out w4 (Flow.grow_refl _)
      go_upto_region 12 with fail
      have HBw50:Hid ((w4.alloc (.cells #[.int .i64 (f:Int),.int .i64 (t:Int),.int .i64 m] 79)).heap[w4.heap.size]?=some (.cells #[.int .i64 (f:Int),.int .i64 (t:Int),.int .i64 m] 79 (0,0))):=Lib.hid (lay1_0 _ _)
      have HGw5:Hid (Flow.Grow w4 (w4.alloc (.cells #[.int .i64 (f:Int),.int .i64 (t:Int),.int .i64 m] 79))):=Lib.hid (lay1_g _ _)
      have HSw5:Hid ((w4.alloc (.cells #[.int .i64 (f:Int),.int .i64 (t:Int),.int .i64 m] 79)).heap.size=w4.heap.size+1):=Lib.hid (by simp)
      generalize w4.alloc (.cells #[.int .i64 (f:Int),.int .i64 (t:Int),.int .i64 m] 79)=w5 at *
      obtain ⟨Z,hZ⟩:∃ X,X=w4.heap.size:=⟨_,rfl⟩
      rw [← hZ] at HBw50 HSw5 ⊢
      have HXw5:=Lib.hid hZ
      clear hZ
      have CXw5:Hid (∀ wq,Flow.Grow w5 wq→wq.cell? ⟨Z,0,none⟩=some (.int .i64 (f:Int))∧wq.cell? ⟨Z,1,none⟩=some (.int .i64 (t:Int))∧wq.cell? ⟨Z,2,none⟩=some (.int .i64 m)):=Lib.hid (fun wq g=>⟨lay_cell g HBw50.out rfl,lay_cell g HBw50.out rfl,lay_cell g HBw50.out rfl⟩)
      have FXw5:Hid (∀ wq,Flow.Grow w5 wq→(∀ k,wq.frozen? ⟨Z,k,none⟩=false)):=Lib.hid (fun wq g=>fun k=>lay_frozen g HBw50.out k)
      clear a0 a1 f1 y0 y1 y2 d00 d01
      obtain ⟨z00,z01,z02⟩:=CXw5.out w5 (Flow.grow_refl _)
      have m1:IntKind.i64.wrap ((f:Int) * 3)=(f:Int) * 3:=IntWalk.i64_in _ (by omega)
      have m2:IntKind.i64.wrap ((f:Int) * 3+(t:Int))=(f:Int) * 3+(t:Int):=IntWalk.i64_in _ (by omega)
      have HG5:Hid (Flow.Grow w1 w5):=Lib.hid (HGq.out.trans (HGw4.out.trans HGw5.out))
      go_upto_region 13 with fail
      have hbx9:f * 3+t < 9:=by omega
      obtain ⟨bx,hbx⟩:∃ bx,bx=f * 3+t:=⟨_,rfl⟩
      have hbI:(f:Int) * 3+(t:Int)=(bx:Int):=by omega
      rw [hbI]
      have Hbx:=Lib.hid hbx
      rw [← hbx] at hbx9
      clear z00 z01 z02 m1 m2 hbx hbI
      have HG5W:Hid (Flow.Grow W w5):=Lib.hid (HGw1.out.trans HG5.out)
      refine Flow.regionG (C:=fun _ wq=>Flow.Grow w5 wq) (Fs:=[.inr (fun v w=>∃ h,v=.slice (some ⟨h,0,none⟩) 0 0∧w5.heap.size≤h∧w.heap[h]?=some (.cells #[] 3 (0,0))),.inl ((.pointer (some ⟨X,0,none⟩))),.inl ((.slice (some ⟨sb,so,none⟩) 3 sc)),.inr (fun v w=>∃ g gc,v=.slice (some ⟨g,0,none⟩) 3 gc∧w.ownsRow w5.heap.size 3 1 v 3 (c.1.map (Value.int .i64))),.inr (fun v w=>∃ h,v=.slice (some ⟨h,0,none⟩) 0 0∧w5.heap.size≤h∧w.heap[h]?=some (.cells #[] 39 (0,0))),.inl ((.pointer (some ⟨X,1,none⟩))),.inl ((.slice (some ⟨mb,mo,none⟩) 9 mc)),.inr (fun v w=>∃ g gc,v=.slice (some ⟨g,0,none⟩) 9 gc∧w.ownsRow w5.heap.size 39 1 v 9 vs),.inr (fun v w=>∃ g gc h hc,v=.agg #[.slice (some ⟨g,0,none⟩) 3 gc,.slice (some ⟨h,0,none⟩) 9 hc]∧w.ownsRow w5.heap.size 3 1 (.slice (some ⟨g,0,none⟩) 3 gc) 3 (c.1.map (Value.int .i64))∧w.ownsRow w5.heap.size 39 1 (.slice (some ⟨h,0,none⟩) 9 hc) 9 vs),.inr (fun v w=>∃ A cs,v=.pointer (some ⟨A,0,none⟩)∧w5.heap.size≤A∧w.heap[A]?=some (.cells cs 46 (0,0))∧cs.size=2),.inr (fun v w=>∃ A g gc h hc,v=.pointer (some ⟨A,0,none⟩)∧NObj w5 w A g gc h hc c.1 vs)])
       [[],[],[1],[0,2],[],[],[5],[4,6],[3,7],[],[9,8]] [[],[],[1],[0,1,2],[],[],[5],[4,5,6],[0,1,2,3,4,5,6,7],[],[0,1,2,3,4,5,6,7,8,9]] [10] (by kernel_rfl) (by kernel_rfl) (by kernel_rfl) rfl (Flow.grow_drew _) ?ones13 ?ends13
      case ones13 =>
       refine Flow.OnesG.start (by exact ⟨fun _ _ _ g ⟨h,h1,h2,h3⟩=>⟨h,h1,h2,heap_keep g h3⟩,fun _ _ _ g ⟨a,b,h1,h2⟩=>⟨a,b,h1,own_keep h2 g⟩,fun _ _ _ g ⟨h,h1,h2,h3⟩=>⟨h,h1,h2,heap_keep g h3⟩,fun _ _ _ g ⟨a,b,h1,h2⟩=>⟨a,b,h1,own_keep h2 g⟩,fun _ _ _ g ⟨a,b,a',b',h1,h2,h3⟩=>⟨a,b,a',b',h1,own_keep h2 g,own_keep h3 g⟩,fun _ _ _ g ⟨A,cs,h1,h2,h3,h4⟩=>⟨A,cs,h1,h2,heap_keep g h3,h4⟩,fun _ _ _ g ⟨A,a,b,a',b',h1,h2⟩=>⟨A,a,b,a',b',h1,h2.grow g⟩,trivial⟩) (fun L w w' i=>(fun _ _ h g=>h.trans g) w w') fun HST HCG=>?_
       refine Flow.oq rfl HST HCG ?_ ?_
       ·intro L a w hC hLi hoff _
        refine .inl ⟨Flow.want_none rfl,?_⟩
        refine Flow.run_val (v:=.slice (some ⟨w.heap.size,0,none⟩) 0 0) (w':=w.alloc (.cells #[] 3)) ?_ (Flow.grow_alloc _ _) ⟨_,rfl,hC.size,heap_alloc_new _ _⟩
        simp [execOp,go_sem]
       refine Flow.oq rfl HST HCG ?_ ?_
       ·intro L a w hC hLi hoff _
        have e6:a.eval (.tmp 6)=(.pointer (some ⟨X,0,none⟩)):=hoff.at2 6 1 hLi (by kernel_rfl)
        refine Flow.gs rfl ?_
        generalize a.eval=ρ at e6 ⊢
        simp [execOp,e6,go_sem]
       refine Flow.oq rfl HST HCG ?_ ?_
       ·rintro L a w hC hLi hoff ⟨k1,-⟩
        have e76:=Flow.kv k1 rfl rfl
        refine Flow.gs rfl ?_
        generalize a.eval=ρ at e76 ⊢
        have h0:=(CXw1.out w (HG5.out.trans hC)).1
        simp [execOp,e76,h0,go_sem]
       refine Flow.oq rfl HST HCG ?_ ?_
       ·rintro L a w hC hLi hoff ⟨k0,k2,-⟩
        have e75:=Flow.kr k0 rfl rfl
        have e77:=Flow.kv k2 rfl rfl
        refine .inl ⟨Flow.want_none rfl,?_⟩
        obtain ⟨h,e75,hh1,hh2⟩:=e75
        refine Oper.wp_mono (fun a' w' ⟨v,e,hg,ho⟩=>?_) (wp_app0 _ _ 39 3 rfl w5.heap.size iI _ 8 Try.underlying39 hiI hI0 hI1 hI2 rfl Try.sizeOf3 h e75 hh2 hh1 (.slice (some ⟨sb,so,none⟩) 3 sc) 3 (c.1.map (Value.int .i64)) e77 (HS3.out.grow (HG5W.out.trans hC)) (fun u hu=>by obtain ⟨x,_,rfl⟩:=List.mem_map.1 hu;rfl) (by decide) (by decide) hC.size)
        obtain ⟨g,gc,cur,rfl,_,_⟩:=own_some ho (by decide)
        exact ⟨_,e,hg,g,gc,rfl,ho⟩
       refine Flow.oq rfl HST HCG ?_ ?_
       ·intro L a w hC hLi hoff _
        refine .inl ⟨Flow.want_none rfl,?_⟩
        refine Flow.run_val (v:=.slice (some ⟨w.heap.size,0,none⟩) 0 0) (w':=w.alloc (.cells #[] 39)) ?_ (Flow.grow_alloc _ _) ⟨_,rfl,hC.size,heap_alloc_new _ _⟩
        simp [execOp,go_sem]
       refine Flow.oq rfl HST HCG ?_ ?_
       ·intro L a w hC hLi hoff _
        have e6:a.eval (.tmp 6)=(.pointer (some ⟨X,0,none⟩)):=hoff.at2 6 5 hLi (by kernel_rfl)
        refine Flow.gs rfl ?_
        generalize a.eval=ρ at e6 ⊢
        simp [execOp,e6,go_sem]
       refine Flow.oq rfl HST HCG ?_ ?_
       ·rintro L a w hC hLi hoff ⟨k5,-⟩
        have e80:=Flow.kv k5 rfl rfl
        refine Flow.gs rfl ?_
        generalize a.eval=ρ at e80 ⊢
        have h0:=(CXw1.out w (HG5.out.trans hC)).2
        simp [execOp,e80,h0,go_sem]
       refine Flow.oq rfl HST HCG ?_ ?_
       ·rintro L a w hC hLi hoff ⟨k4,k6,-⟩
        have e79:=Flow.kr k4 rfl rfl
        have e81:=Flow.kv k6 rfl rfl
        refine .inl ⟨Flow.want_none rfl,?_⟩
        obtain ⟨h,e79,hh1,hh2⟩:=e79
        refine Oper.wp_mono (fun a' w' ⟨v,e,hg,ho⟩=>?_) (wp_app0 _ _ 25 39 rfl w5.heap.size iJ _ 24 Try.underlying25 hiJ hJ0 hJ1 hJ2 rfl Try.sizeOf39 h e79 hh2 hh1 (.slice (some ⟨mb,mo,none⟩) 9 mc) 9 vs e81 (HB1.out.grow (HG5W.out.trans hC)) H1c.out (by decide) (by decide) hC.size)
        obtain ⟨g,gc,cur,rfl,_,_⟩:=own_some ho (by decide)
        exact ⟨_,e,hg,g,gc,rfl,ho⟩
       refine Flow.oq rfl HST HCG ?_ ?_
       ·rintro L a w hC hLi hoff ⟨k3,k7,-⟩
        have e78:=Flow.kr k3 rfl rfl
        have e82:=Flow.kr k7 rfl rfl
        refine .inl ⟨Flow.want_none rfl,?_⟩
        obtain ⟨g,gc,e78,ho⟩:=e78
        obtain ⟨h,hc,e82,ho2⟩:=e82
        rw [e78] at ho
        rw [e82] at ho2
        refine Flow.run_val (v:=.agg #[.slice (some ⟨g,0,none⟩) 3 gc,.slice (some ⟨h,0,none⟩) 9 hc]) (w':=w) ?_ (Flow.grow_refl _) ⟨g,gc,h,hc,rfl,ho,ho2⟩
        simp only [execOp,Sem.run_bind]
        rw [run_build (P:=Try.prog) w 46 _ #[.slice (some ⟨g,0,none⟩) 3 gc,.slice (some ⟨h,0,none⟩) 9 hc] (by simp only [List.map_toArray,List.map_cons,List.map_nil,e78,e82];kernel_rfl)]
        rfl
       refine Flow.oq rfl HST HCG ?_ ?_
       ·intro L a w hC hLi hoff _
        refine .inl ⟨Flow.want_none rfl,?_⟩
        refine Flow.run_val (v:=.pointer (some ⟨w.heap.size,0,none⟩)) (w':=w.alloc (.cells #[.slice none 0 0,.slice none 0 0] 46)) (Flow.alloc_run rfl hiC hC0 _ _) (Flow.grow_alloc _ _) ⟨_,_,rfl,hC.size,heap_alloc_new _ _,rfl⟩
       refine Flow.OnesG.cons (Flow.OneG.w (by kernel_rfl) ?_) ?_
       ·rintro L a w hC hLi hoff ⟨k9,k8,-⟩
        have e18:=Flow.kr k9 rfl rfl
        have e83:=Flow.kr k8 rfl rfl
        refine ⟨Flow.want_none rfl,?_⟩
        obtain ⟨A,cs,e18,hA,hAc,hcs⟩:=e18
        obtain ⟨g,gc,h,hc,e83,ho1,ho2⟩:=e83
        refine wp_sto (s:=18) (x:=83) rfl rfl hiC hC1 rfl (by intro v hv;simp at hv;rcases hv with rfl | rfl <;> rfl) (W:=w5) A hC hA e18 e83 ⟨cs,hAc,hcs⟩ fun w' h2 h3 h4 h5=>?_
        exact ⟨undef,rfl,h2,fun s hs=>⟨A,g,gc,h,hc,by cases hs;exact e18,hA,h4,own_heap ho1 fun g' hg'=>h5 g' (fun e=>own_not ho1 hAc (by decide) (by rw [hg',e])),own_heap ho2 fun g' hg'=>h5 g' (fun e=>own_not ho2 hAc (by decide) (by rw [hg',e]))⟩⟩
       exact trivial
      case ends13 =>
       intro LL wx hLL hC
       refine Flow.endsG_r rfl fun v75 _=>?_
       iterate 2 refine Flow.endsG_v rfl ?_
       refine Flow.endsG_r rfl fun v78 _=>?_
       refine Flow.endsG_r rfl fun v79 _=>?_
       iterate 2 refine Flow.endsG_v rfl ?_
       refine Flow.endsG_r rfl fun v82 _=>?_
       refine Flow.endsG_r rfl fun v83 _=>?_
       refine Flow.endsG_r rfl fun v18 _=>?_
       refine Flow.endsG_s rfl rfl rfl fun hE10=>?_
       refine Flow.endsG_nil ?_
       simp only [Act.put,List.setIfInBounds_toArray,List.set_cons_succ,List.set_cons_zero]
       obtain ⟨A,g,gc,h,hc,hv,hn⟩:=hE10
       obtain rfl:v18=.pointer (some ⟨A,0,none⟩):=by rw [← hv];kernel_rfl
       have HNO:=Lib.hid hn
       have HCx:=Lib.hid hC
       clear hv hn hC
       have hgl:=(HNO.out.st.lt g rfl).1
       have hhl:=(HNO.out.bx.lt h rfl).1
       have hAl:=HNO.out.lo
       have hAg:A≠g:=fun e=>own_not HNO.out.st HNO.out.at_ (by decide) (by rw [e];rfl)
       have hAh:A≠h:=fun e=>own_not HNO.out.bx HNO.out.at_ (by decide) (by rw [e];rfl)
       have n0:=(cell_of_row wx A 0 _ _ _ HNO.out.at_).trans rfl
       obtain ⟨u,g0⟩:∃ u,wx.cell? ⟨g,i,none⟩=some u:=by
        rw [HNO.out.st.cellAt i (by omega)]
        exact ⟨_,List.getElem?_eq_getElem (by simp;omega)⟩
       have fg:wx.frozen? ⟨g,i,none⟩=false:=by
        obtain ⟨g',gc',cur,e,_,hcur⟩:=own_some HNO.out.st (by decide)
        cases e
        exact frozen_of_row wx g i _ _ hcur
       have hgh:g≠h:=fun e=>by
        obtain ⟨_,_,cur,e1,_,hcur⟩:=own_some HNO.out.st (by decide)
        cases e1
        exact own_not HNO.out.bx hcur (by decide) (by rw [e];rfl)
       go_upto_region 15 with fail
       have HN8:Hid (NObj w5 (wx.setCell ⟨g,i,none⟩ (.int .i64 tv)) A g gc h hc (c.1.set i tv) vs):=Lib.hid
        ⟨hAl,set_other HNO.out.at_ hAg,by rw [List.map_set];exact own_setAt _ HNO.out.st (by omega),HNO.out.bx.kept (grownBy_set _ _ _ _) (.inr (by simpa [Value.ownBlock] using Ne.symm hgh))⟩
       have HG8:Hid (Flow.Grow w5 (wx.setCell ⟨g,i,none⟩ (.int .i64 tv))):=Lib.hid (set_grow HCx.out hgl _ _)
       generalize wx.setCell ⟨g,i,none⟩ (.int .i64 tv)=w8 at *
       clear n0 g0 fg HNO HCx
       have d0:=(CXw4.out w8 (HGw5.out.trans HG8.out)).1
       have d1:=(CXw4.out w8 (HGw5.out.trans HG8.out)).2
       have x1:=(CXw1.out w8 (HG5.out.trans HG8.out)).2
       have HG8W:Hid (Flow.Grow W w8):=Lib.hid (HG5W.out.trans HG8.out)
       have HD8:=Lib.hid (HDq.out.grow (HGw4.out.trans (HGw5.out.trans HG8.out)))
       obtain ⟨ba,bn,bc,_,hbl,hbcap,hBI,hb0⟩:=HBc.out bx hbx9
       have HBI0:=Lib.hid hBI
       have HBI:=Lib.hid (Seg.sub hBI HSub.out)
       have Hbcap:=Lib.hid hbcap
       have b0:=Xm2.cell_grow HG8W.out hb0
       clear hb0 hbcap hBI
       have hw1:IntKind.i64.wrap ((k:Int)+1)=(k:Int)+1:=IntWalk.i64_in _ (by have:=Hkb.out;omega)
       have hbbx:box ((f:Int),(t:Int),m)=bx:=by rw [Hbx.out];simp [box]
       have HDo:Hid (∀ dd,doB room c.2 ((f:Int),(t:Int),m) (dd,(q:Int))=if dd=1 then (if bn < room then some (c.2.set bx (c.2.getD bx []++[(q:Int)])) else none) else if (c.2.getD bx []).head?=some (q:Int) then some (c.2.set bx (c.2.getD bx []).tail) else none):=Lib.hid (fun dd=>by
        unfold doB
        rw [hbbx,hbl])
       have Hbl:=Lib.hid hbl
       have hbn5:bn≤100000:=by rw [hbl];exact HLenB.out bx
       clear hbl hbbx
       obtain ⟨row,hrow⟩:∃ row,row=c.2.getD bx []:=⟨_,rfl⟩
       rw [← hrow] at HDo Hbl HBI HBI0
       clear hrow
       rcases hd with rfl | rfl
       ·by_cases hfull:bn < room
        ·have r1:decide ((bn:Int)≥(room:Int))=false:=by simp;omega
         have r2:decide (room≤bn)=false:=by simp;omega
         have HN2:Hid (stp ps ls room c i k=(some (c.1.set i tv,c.2.set bx (row++[(q:Int)])),false)):=Lib.hid (by rw [HN.out,HDo.out,if_pos rfl,if_pos hfull])
         go_upto_region 18 with fail
         refine Flow.regionG (C:=fun (L:Nat→Bool) (wq:World)=>L 15=false→Flow.Grow w8 wq) (Fs:=[.inl ((.pointer (some ⟨A,1,none⟩))),.inl ((.slice (some ⟨h,0,none⟩) 9 hc)),.inl ((.int .i64 (bx:Int))),.inr (fun v w=>∃ h',v=.slice (some ⟨h',0,none⟩) 0 0∧w8.heap.size≤h'∧w.heap[h']?=some (.cells #[] 3 (0,0))),.inl ((.pointer (some ⟨X,1,none⟩))),.inl ((.slice (some ⟨mb,mo,none⟩) 9 mc)),.inl ((.int .i64 (bx:Int))),.inl ((.pointer (some ⟨mb,mo+bx,none⟩))),.inl ((.slice ba bn bc)),.inr (fun v w=>∃ a c',v=.slice a bn c'∧w.ownsRow w8.heap.size 3 1 v bn (row.map (Value.int .i64))),.inl ((.pointer (some ⟨Y,1,none⟩))),.inl ((.int .i64 (q:Int))),.inr (fun v w=>∃ q',v=.slice (some ⟨q',0,none⟩) 1 1∧w.heap[q']?=some (.cells #[.int .i64 (q:Int)] 3 (0,0))),.inr (fun v w=>∃ g' c',v=.slice (some ⟨g',0,none⟩) (bn+1) c'∧w.ownsRow w8.heap.size 3 1 v (bn+1) ((row++[(q:Int)]).map (Value.int .i64))),.inl ((.pointer (some ⟨h,bx,none⟩))),.inr (fun _ w=>∃ g' c',NObj w5 w A g gc h hc (c.1.set i tv) (vs.set bx (.slice (some ⟨g',0,none⟩) (bn+1) c'))∧w.ownsRow w8.heap.size 3 1 (.slice (some ⟨g',0,none⟩) (bn+1) c') (bn+1) ((row++[(q:Int)]).map (Value.int .i64))∧Flow.Grow w5 w)])
          [[],[0],[],[],[],[4],[],[5,6],[7],[3,8],[],[10],[11],[9,12],[1,2],[14,13]] [[],[0],[],[],[],[4],[],[4,5,6],[4,5,6,7],[3,4,5,6,7,8],[],[10],[10,11],[3,4,5,6,7,8,9,10,11,12],[0,1,2],[0,1,2,3,4,5,6,7,8,9,10,11,12,13,14]] [15] (by kernel_rfl) (by kernel_rfl) (by kernel_rfl) rfl (fun _=>Flow.grow_drew _) ?ones18 ?ends18
         case ones18 =>
          refine Flow.OnesG.start (by exact ⟨fun _ _ _ g ⟨h,h1,h2,h3⟩=>⟨h,h1,h2,heap_keep g h3⟩,fun _ _ _ g ⟨a,b,h1,h2⟩=>⟨a,b,h1,own_keep h2 g⟩,fun _ _ _ g ⟨q,h1,h2⟩=>⟨q,h1,heap_keep g h2⟩,fun _ _ _ g ⟨a,b,h1,h2⟩=>⟨a,b,h1,own_keep h2 g⟩,fun _ _ _ g ⟨a,b,h1,h2,h3⟩=>⟨a,b,h1.grow g,own_keep h2 g,h3.trans g⟩,trivial⟩) (fun L w w' i h g e=>(h (by unfold Flow.ad at e;simp at e;exact e.2)).trans g) fun HST HCG=>?_
          refine Flow.oq rfl HST HCG ?_ ?_
          ·intro L a w hC hLi hoff _
           replace hC:=hC (hoff.notyet hLi 15 (by kernel_rfl))
           have e18:a.eval (.tmp 18)=(.pointer (some ⟨A,0,none⟩)):=hoff.at2 18 0 hLi (by kernel_rfl)
           refine Flow.gs rfl ?_
           generalize a.eval=ρ at e18 ⊢
           simp [execOp,e18,go_sem]
          refine Flow.oq rfl HST HCG ?_ ?_
          ·rintro L a w hC hLi hoff ⟨k0,-⟩
           replace hC:=hC (hoff.notyet hLi 15 (by kernel_rfl))
           have e100:=Flow.kv k0 rfl rfl
           refine Flow.gs rfl ?_
           generalize a.eval=ρ at e100 ⊢
           have h0:=lay_cell hC HN8.out.at_ (k:=1) rfl
           simp [execOp,e100,h0,go_sem]
          refine Flow.oq rfl HST HCG ?_ ?_
          ·intro L a w hC hLi hoff _
           replace hC:=hC (hoff.notyet hLi 15 (by kernel_rfl))
           exact Flow.gs rfl (Flow.exec_move (.inl rfl) (hoff.at2 17 2 hLi (by kernel_rfl)))
          refine Flow.oq rfl HST HCG ?_ ?_
          ·intro L a w hC hLi hoff _
           replace hC:=hC (hoff.notyet hLi 15 (by kernel_rfl))
           refine .inl ⟨Flow.want_none rfl,?_⟩
           refine Flow.run_val (v:=.slice (some ⟨w.heap.size,0,none⟩) 0 0) (w':=w.alloc (.cells #[] 3)) ?_ (Flow.grow_alloc _ _) ⟨_,rfl,hC.size,heap_alloc_new _ _⟩
           simp [execOp,go_sem]
          refine Flow.oq rfl HST HCG ?_ ?_
          ·intro L a w hC hLi hoff _
           replace hC:=hC (hoff.notyet hLi 15 (by kernel_rfl))
           have e6:a.eval (.tmp 6)=(.pointer (some ⟨X,0,none⟩)):=hoff.at2 6 4 hLi (by kernel_rfl)
           refine Flow.gs rfl ?_
           generalize a.eval=ρ at e6 ⊢
           simp [execOp,e6,go_sem]
          refine Flow.oq rfl HST HCG ?_ ?_
          ·rintro L a w hC hLi hoff ⟨k4,-⟩
           replace hC:=hC (hoff.notyet hLi 15 (by kernel_rfl))
           have e104:=Flow.kv k4 rfl rfl
           refine Flow.gs rfl ?_
           generalize a.eval=ρ at e104 ⊢
           have h0:=Xm2.cell_grow hC x1
           simp [execOp,e104,h0,go_sem]
          refine Flow.oq rfl HST HCG ?_ ?_
          ·intro L a w hC hLi hoff _
           replace hC:=hC (hoff.notyet hLi 15 (by kernel_rfl))
           exact Flow.gs rfl (Flow.exec_move (.inl rfl) (hoff.at2 17 6 hLi (by kernel_rfl)))
          refine Flow.oq rfl HST HCG ?_ ?_
          ·rintro L a w hC hLi hoff ⟨k5,k6,-⟩
           replace hC:=hC (hoff.notyet hLi 15 (by kernel_rfl))
           have e105:=Flow.kv k5 rfl rfl
           have e106:=Flow.kv k6 rfl rfl
           refine Flow.gs rfl ?_
           generalize a.eval=ρ at e105 e106 ⊢
           simp [execOp,e105,e106,go_sem];intro hh;omega
          refine Flow.oq rfl HST HCG ?_ ?_
          ·rintro L a w hC hLi hoff ⟨k7,-⟩
           replace hC:=hC (hoff.notyet hLi 15 (by kernel_rfl))
           have e107:=Flow.kv k7 rfl rfl
           refine Flow.gs rfl ?_
           generalize a.eval=ρ at e107 ⊢
           have h0:=Xm2.cell_grow hC b0
           simp [execOp,e107,h0,go_sem]
          refine Flow.oq rfl HST HCG ?_ ?_
          ·rintro L a w hC hLi hoff ⟨k3,k8,-⟩
           replace hC:=hC (hoff.notyet hLi 15 (by kernel_rfl))
           have e103:=Flow.kr k3 rfl rfl
           have e108:=Flow.kv k8 rfl rfl
           refine .inl ⟨Flow.want_none rfl,?_⟩
           obtain ⟨h',e103,hh1,hh2⟩:=e103
           refine Oper.wp_mono (fun a' w' ⟨v,e,hg,ho⟩=>?_) (wp_app0 _ _ 39 3 rfl w8.heap.size iI _ 8 Try.underlying39 hiI hI0 hI1 hI2 rfl Try.sizeOf3 h' e103 hh2 hh1 (.slice ba bn bc) bn (row.map (Value.int .i64)) e108 (by rw [Hbl.out];have:=HBI.out;rw [Hbl.out] at this;exact this.grow (HG8W.out.trans hC)) (fun u hu=>by obtain ⟨x,_,rfl⟩:=List.mem_map.1 hu;rfl) (by omega) (by decide) hC.size)
           obtain ⟨a1,c1,rfl⟩:=own_form ho
           exact ⟨_,e,hg,a1,c1,rfl,ho⟩
          refine Flow.oq rfl HST HCG ?_ ?_
          ·intro L a w hC hLi hoff _
           replace hC:=hC (hoff.notyet hLi 15 (by kernel_rfl))
           have e15:a.eval (.tmp 15)=(.pointer (some ⟨Y,0,none⟩)):=hoff.at2 15 10 hLi (by kernel_rfl)
           refine Flow.gs rfl ?_
           generalize a.eval=ρ at e15 ⊢
           simp [execOp,e15,go_sem]
          refine Flow.oq rfl HST HCG ?_ ?_
          ·rintro L a w hC hLi hoff ⟨k10,-⟩
           replace hC:=hC (hoff.notyet hLi 15 (by kernel_rfl))
           have e110:=Flow.kv k10 rfl rfl
           refine Flow.gs rfl ?_
           generalize a.eval=ρ at e110 ⊢
           have h0:=Xm2.cell_grow hC d1
           simp [execOp,e110,h0,go_sem]
          refine Flow.oq rfl HST HCG ?_ ?_
          ·rintro L a w hC hLi hoff ⟨k11,-⟩
           replace hC:=hC (hoff.notyet hLi 15 (by kernel_rfl))
           have e111:=Flow.kv k11 rfl rfl
           refine .inl ⟨Flow.want_none rfl,?_⟩
           refine Flow.run_val (v:=.slice (some ⟨w.heap.size,0,none⟩) 1 1) (w':=w.alloc (.cells #[.int .i64 (q:Int)] 3)) ?_ (Flow.grow_alloc _ _) ⟨_,rfl,heap_alloc_new _ _⟩
           generalize a.eval=ρ at e111 ⊢
           simp [execOp,e111,go_sem]
          refine Flow.OnesG.cons (Flow.OneG.w (by kernel_rfl) ?_) ?_
          ·rintro L a w hC hLi hoff ⟨k9,k12,-⟩
           replace hC:=hC (hoff.notyet hLi 15 (by kernel_rfl))
           have e109:=Flow.kr k9 rfl rfl
           have e112:=Flow.kr k12 rfl rfl
           refine ⟨Flow.want_none rfl,?_⟩
           obtain ⟨q',he112,hq'⟩:=e112
           obtain ⟨a1,c1,e109,ho⟩:=e109
           refine wp_app1 _ _ 39 rfl w8.heap.size 3 iI _ 1 8 Try.underlying39 hiI hI0 hI1 hI2 rfl (by decide) _ bn _ rfl ho q' #[.int .i64 (q:Int)] _ he112 hq' rfl (by intro u hu;simp at hu;subst hu;rfl) (by omega) (by decide) hC.size fun g' cap w' h2 h3 h4 h5=>?_
           exact ⟨_,rfl,fun _=>grow_row hC h3 h5,g',cap,rfl,by rw [List.map_append];exact h2⟩
          refine Flow.oq rfl HST HCG ?_ ?_
          ·rintro L a w hC hLi hoff ⟨k1,k2,-⟩
           replace hC:=hC (hoff.notyet hLi 15 (by kernel_rfl))
           have e101:=Flow.kv k1 rfl rfl
           have e102:=Flow.kv k2 rfl rfl
           refine Flow.gs rfl ?_
           generalize a.eval=ρ at e101 e102 ⊢
           simp [execOp,e101,e102,go_sem];intro hh;omega
          refine Flow.OnesG.cons (Flow.OneG.w (by kernel_rfl) ?_) ?_
          ·rintro L a w hC hLi hoff ⟨k14,k13,-⟩
           replace hC:=hC (hoff.notyet hLi 15 (by kernel_rfl))
           have e114:=Flow.kv k14 rfl rfl
           have e113:=Flow.kr k13 rfl rfl
           refine ⟨Flow.want_none rfl,?_⟩
           obtain ⟨g',c',e113,ho⟩:=e113
           rw [e113] at ho
           have hN:=HN8.out.grow hC
           have hgl':=(ho.lt g' rfl).1
           have hh8:=(HN8.out.bx.lt h rfl).2
           obtain ⟨u,hu⟩:∃ u,w.cell? ⟨h,bx,none⟩=some u:=own_cell hN.bx hbx9
           have hf:w.frozen? ⟨h,bx,none⟩=false:=by obtain ⟨_,_,cur,e,_,hcur⟩:=own_some hN.bx (by decide);cases e;exact frozen_of_row w h bx _ _ hcur
           refine wp_sto1 (s:=114) (x:=113) rfl rfl (Try.sizeOf39 w) e114 e113 hu hf ?_
           exact ⟨undef,rfl,fun e=>by simp [Flow.ad] at e,fun s hs=>⟨g',c',⟨hAl,set_other hN.at_ hAh,hN.st.kept (grownBy_set _ _ _ _) (.inr (by simpa [Value.ownBlock] using hgh)),own_setAt _ hN.bx (by omega)⟩,ho.kept (grownBy_set _ _ _ _) (.inr (by simp [Value.ownBlock];omega)),set_grow (HG8.out.trans hC) hhl _ _⟩⟩
          exact trivial
         case ends18 =>
          intro LL wx hLL hC
          iterate 3 refine Flow.endsG_v rfl ?_
          refine Flow.endsG_r rfl fun v103 _=>?_
          iterate 5 refine Flow.endsG_v rfl ?_
          refine Flow.endsG_r rfl fun v109 _=>?_
          iterate 2 refine Flow.endsG_v rfl ?_
          refine Flow.endsG_r rfl fun v112 _=>?_
          refine Flow.endsG_r rfl fun v113 _=>?_
          refine Flow.endsG_v rfl ?_
          refine Flow.endsG_s rfl rfl rfl fun hE15=>?_
          refine Flow.endsG_nil ?_
          simp only [Act.put,List.setIfInBounds_toArray,List.set_cons_succ,List.set_cons_zero]
          obtain ⟨g',c',hN9,ho9,hG9⟩:=hE15
          clear hC
          have hn0:=(cell_of_row wx A 0 _ _ _ hN9.at_).trans rfl
          have hn1:=(cell_of_row wx A 1 _ _ _ hN9.at_).trans rfl
          have HCd:Hid (CfgD W0 wx w1.heap.size (.slice (some ⟨g,0,none⟩) 3 gc) (.slice (some ⟨h,0,none⟩) 9 hc) (c.1.set i tv,c.2.set bx (row++[(q:Int)]))):=Lib.hid ⟨by simp only [List.length_set,h3];exact Pr.own_mono hN9.st HG5.out.size,mailD_set hb9 HBx.out (Pr.own_mono hN9.bx HG5.out.size) (by rw [List.length_append,← Hbl.out];exact Pr.own_mono ho9 (HG5.out.trans HG8.out).size) hbx9⟩
          have HGx:Hid (Flow.Grow w1 wx):=Lib.hid (HG5.out.trans hG9)
          obtain ⟨cs,hcs,hown,hcfg⟩:=HDq.out.grow (HGw4.out.trans (HGw5.out.trans hG9))
          have HOw:=Lib.hid hown
          have HCf:=Lib.hid hcfg
          clear hcfg hown hN9 ho9 hG9
          go_wp2_with (at_builtin;refine wpList_app1 (W:=w1) rfl _ _ 48 rfl 58 iR _ 4 64 Try.underlying48 hiR hR0 hR1 hR2 rfl (by decide) (.slice qa l.length qc) l.length _ rfl (own_keep HOw.out (Flow.grow_alloc _ _)) (HGx.out.trans (Flow.grow_alloc _ _)) _ #[.int .i64 (i:Int),.int .i64 (k:Int),.slice (some ⟨g,0,none⟩) 3 gc,.slice (some ⟨h,0,none⟩) 9 hc] 58 rfl (heap_alloc_new _ _) rfl (by intro u hu;simp at hu;rcases hu with rfl | rfl | rfl | rfl <;> rfl) (by have:=HLen.out;omega) (by decide) ?_;intro v' w' hO hGw hf2 hk2;have HP:Hid (RStD W0 w' w1.heap.size v' (l++[(i,k,(c.1.set i tv,c.2.set bx (row++[(q:Int)])))])):=Lib.hid (RStD.push2 hcs (fun j hj=>(HCf.out j hj).grow (Flow.grow_alloc _ _)) (HCd.out.grow (Flow.grow_alloc _ _)) hk2 (own_typed (own_keep HOw.out (Flow.grow_alloc _ _))) hO);have HGw:=Lib.hid hGw;obtain ⟨g9,c9,rfl,_⟩:=hf2;clear hO hGw hk2)
          go_wp2_with fail
          go_roundw
          case rel=>exact ⟨k+1,Hk.out,by go_num,by rw [HBk.out,HN2.out,Bool.or_false],Lib.hid (by rw [HSk.out,HN2.out,← List.append_assoc,Hl.out];simpa using HP.out),HGw⟩
          case measure=>(have:=Hk.out;simp [intOf];omega)
        ·have r1:decide ((bn:Int)≥(room:Int))=true:=by simp;omega
         have r2:decide (room≤bn)=true:=by simp;omega
         have HN2:Hid (stp ps ls room c i k=(none,true)):=Lib.hid (by rw [HN.out,HDo.out,if_pos rfl,if_neg hfull];rfl)
         go_wp2_with fail
         go_roundw
         case rel=>exact ⟨k+1,Hk.out,by go_num,by rw [HBk.out,HN2.out];simp,Lib.hid (by rw [HSk.out,HN2.out,← List.append_assoc,Hl.out];simpa using HD8.out),Lib.hid (HG5.out.trans HG8.out)⟩
         case measure=>(have:=Hk.out;simp [intOf];omega)
       ·cases row with
        | nil =>
         obtain rfl:bn=0:=Hbl.out
         have HN2:Hid (stp ps ls room c i k=(none,false)):=Lib.hid (by rw [HN.out,HDo.out];rfl)
         go_upto_region 19 with fail
         go_quiet (fail)
         have HGz:Hid (Flow.Grow w8 (w8.drewN nq)):=Lib.hid (Flow.grow_drewN _ _)
         generalize w8.drewN nq=w10 at *
         go_wp2_with fail
         go_roundw
         case rel=>exact ⟨k+1,Hk.out,by go_num,by rw [HBk.out,HN2.out,Bool.or_false],Lib.hid (by rw [HSk.out,HN2.out,← List.append_assoc,Hl.out];simpa using HD8.out.grow HGz.out),Lib.hid (HG5.out.trans (HG8.out.trans HGz.out))⟩
         case measure=>(have:=Hk.out;simp [intOf];omega)
        | cons y rest =>
         obtain ⟨bb,bo,bq,hve,_,hcell⟩:=Ints.shape HBI.out (by simp)
         have r0:=hcell 0 (by simp)
         simp only [Nat.add_zero,List.getD_cons_zero] at r0
         simp only [List.length_cons] at hve
         cases hve
         replace r0:=Xm2.cell_grow HG8W.out r0
         have HTl:=Lib.hid (HBI0.out.tl Hbcap.out)
         have HTc:=Lib.hid (tl1_cap bb bo (rest.length+1) bc Hbcap.out)
         clear hcell
         by_cases hyq:y=(q:Int)
         ·subst hyq
          have hne0:((q:Int) != (q:Int))=false:=by simp
          have HN2:Hid (stp ps ls room c i k=(some (c.1.set i tv,c.2.set bx rest),false)):=Lib.hid (by rw [HN.out,HDo.out,if_neg (by decide)];simp)
          generalize rest.length=n at *
          have z1:decide ((n:Int)+1=0)=false:=by simp;omega
          have z2:((n:Int)+1 == 0)=false:=by simp;omega
          have z3:decide (((n+1:Nat):Int)=0)=false:=by simp;omega
          have z4:(((n+1:Nat):Int) == 0)=false:=by simp;omega
          go_upto_region 19 with fail
          go_quiet (fail)
          have HGz:Hid (Flow.Grow w8 (w8.drewN nq)):=Lib.hid (Flow.grow_drewN _ _)
          have HN10:=Lib.hid (HN8.out.grow HGz.out)
          replace x1:=Xm2.cell_grow HGz.out x1
          have cb0:=Xm2.cell_grow HGz.out b0
          clear b0 r0 d0 d1
          generalize w8.drewN nq=w10 at *
          go_upto_region 20 with fail
          refine Flow.regionG (C:=fun (L:Nat→Bool) (wq:World)=>L 10=false→Flow.Grow w10 wq) (Fs:=[.inl ((.pointer (some ⟨A,1,none⟩))),.inl ((.slice (some ⟨h,0,none⟩) 9 hc)),.inl ((.int .i64 (bx:Int))),.inl ((.pointer (some ⟨X,1,none⟩))),.inl ((.slice (some ⟨mb,mo,none⟩) 9 mc)),.inl ((.int .i64 (bx:Int))),.inl ((.pointer (some ⟨mb,mo+bx,none⟩))),.inl ((.slice (some ⟨bb,bo,none⟩) (n+1) bc)),.inl ((.slice (some (if bc=1 then ⟨bb,bo,none⟩ else ⟨bb,bo+1,none⟩)) n (bc - 1))),.inl ((.pointer (some ⟨h,bx,none⟩))),.inr (fun _ w=>NObj w5 w A g gc h hc (c.1.set i tv) (vs.set bx (.slice (some (if bc=1 then ⟨bb,bo,none⟩ else ⟨bb,bo+1,none⟩)) n (bc - 1)))∧Flow.Grow w5 w)])
           [[],[0],[],[],[3],[],[4,5],[6],[7],[1,2],[9,8]] [[],[0],[],[],[3],[],[3,4,5],[3,4,5,6],[3,4,5,6,7],[0,1,2],[0,1,2,3,4,5,6,7,8,9]] [10] (by kernel_rfl) (by kernel_rfl) (by kernel_rfl) rfl (fun _=>Flow.grow_drew _) ?ones20 ?ends20
          case ones20 =>
           refine Flow.OnesG.start (by exact ⟨fun _ _ _ g ⟨h1,h2⟩=>⟨h1.grow g,h2.trans g⟩,trivial⟩) (fun L w w' i h g e=>(h (by unfold Flow.ad at e;simp at e;exact e.2)).trans g) fun HST HCG=>?_
           refine Flow.oq rfl HST HCG ?_ ?_
           ·intro L a w hC hLi hoff _
            replace hC:=hC (hoff.notyet hLi 10 (by kernel_rfl))
            have e18:a.eval (.tmp 18)=(.pointer (some ⟨A,0,none⟩)):=hoff.at2 18 0 hLi (by kernel_rfl)
            refine Flow.gs rfl ?_
            generalize a.eval=ρ at e18 ⊢
            simp [execOp,e18,go_sem]
           refine Flow.oq rfl HST HCG ?_ ?_
           ·rintro L a w hC hLi hoff ⟨k0,-⟩
            replace hC:=hC (hoff.notyet hLi 10 (by kernel_rfl))
            have e134:=Flow.kv k0 rfl rfl
            refine Flow.gs rfl ?_
            generalize a.eval=ρ at e134 ⊢
            have h0:=lay_cell hC HN10.out.at_ (k:=1) rfl
            simp [execOp,e134,h0,go_sem]
           refine Flow.oq rfl HST HCG ?_ ?_
           ·intro L a w hC hLi hoff _
            replace hC:=hC (hoff.notyet hLi 10 (by kernel_rfl))
            exact Flow.gs rfl (Flow.exec_move (.inl rfl) (hoff.at2 17 2 hLi (by kernel_rfl)))
           refine Flow.oq rfl HST HCG ?_ ?_
           ·intro L a w hC hLi hoff _
            replace hC:=hC (hoff.notyet hLi 10 (by kernel_rfl))
            have e6:a.eval (.tmp 6)=(.pointer (some ⟨X,0,none⟩)):=hoff.at2 6 3 hLi (by kernel_rfl)
            refine Flow.gs rfl ?_
            generalize a.eval=ρ at e6 ⊢
            simp [execOp,e6,go_sem]
           refine Flow.oq rfl HST HCG ?_ ?_
           ·rintro L a w hC hLi hoff ⟨k3,-⟩
            replace hC:=hC (hoff.notyet hLi 10 (by kernel_rfl))
            have e137:=Flow.kv k3 rfl rfl
            refine Flow.gs rfl ?_
            generalize a.eval=ρ at e137 ⊢
            have h0:=Xm2.cell_grow hC x1
            simp [execOp,e137,h0,go_sem]
           refine Flow.oq rfl HST HCG ?_ ?_
           ·intro L a w hC hLi hoff _
            replace hC:=hC (hoff.notyet hLi 10 (by kernel_rfl))
            exact Flow.gs rfl (Flow.exec_move (.inl rfl) (hoff.at2 17 5 hLi (by kernel_rfl)))
           refine Flow.oq rfl HST HCG ?_ ?_
           ·rintro L a w hC hLi hoff ⟨k4,k5,-⟩
            replace hC:=hC (hoff.notyet hLi 10 (by kernel_rfl))
            have e138:=Flow.kv k4 rfl rfl
            have e139:=Flow.kv k5 rfl rfl
            refine Flow.gs rfl ?_
            generalize a.eval=ρ at e138 e139 ⊢
            simp [execOp,e138,e139,go_sem];intro hh;omega
           refine Flow.oq rfl HST HCG ?_ ?_
           ·rintro L a w hC hLi hoff ⟨k6,-⟩
            replace hC:=hC (hoff.notyet hLi 10 (by kernel_rfl))
            have e140:=Flow.kv k6 rfl rfl
            refine Flow.gs rfl ?_
            generalize a.eval=ρ at e140 ⊢
            have h0:=Xm2.cell_grow hC cb0
            simp [execOp,e140,h0,go_sem]
           refine Flow.oq rfl HST HCG ?_ ?_
           ·rintro L a w hC hLi hoff ⟨k7,-⟩
            replace hC:=hC (hoff.notyet hLi 10 (by kernel_rfl))
            have e141:=Flow.kv k7 rfl rfl
            refine Flow.gs rfl ?_
            have ec:=Flow.eval_const a
            generalize a.eval=ρ at e141 ec ⊢
            by_cases hc1:bc=1
            ·simp [execOp,e141,hc1,ec,go_sem];intro hh;omega
            ·simp [execOp,e141,hc1,ec,go_sem];intro hh;omega
           refine Flow.oq rfl HST HCG ?_ ?_
           ·rintro L a w hC hLi hoff ⟨k1,k2,-⟩
            replace hC:=hC (hoff.notyet hLi 10 (by kernel_rfl))
            have e135:=Flow.kv k1 rfl rfl
            have e136:=Flow.kv k2 rfl rfl
            refine Flow.gs rfl ?_
            generalize a.eval=ρ at e135 e136 ⊢
            simp [execOp,e135,e136,go_sem];intro hh;omega
           refine Flow.OnesG.cons (Flow.OneG.w (by kernel_rfl) ?_) ?_
           ·rintro L a w hC hLi hoff ⟨k9,k8,-⟩
            replace hC:=hC (hoff.notyet hLi 10 (by kernel_rfl))
            have e143:=Flow.kv k9 rfl rfl
            have e142:=Flow.kv k8 rfl rfl
            refine ⟨Flow.want_none rfl,?_⟩
            have hN:=HN10.out.grow hC
            obtain ⟨u,hu⟩:=own_cell hN.bx hbx9
            have hf:w.frozen? ⟨h,bx,none⟩=false:=by obtain ⟨_,_,cur,e,_,hcur⟩:=own_some hN.bx (by decide);cases e;exact frozen_of_row w h bx _ _ hcur
            refine wp_sto1 (s:=143) (x:=142) rfl rfl (Try.sizeOf39 w) e143 e142 hu hf ?_
            exact ⟨undef,rfl,fun e=>by simp [Flow.ad] at e,fun s hs=>⟨⟨hAl,set_other hN.at_ hAh,hN.st.kept (grownBy_set _ _ _ _) (.inr (by simpa [Value.ownBlock] using hgh)),own_setAt _ hN.bx (by omega)⟩,set_grow ((HG8.out.trans HGz.out).trans hC) hhl _ _⟩⟩
           exact trivial
          case ends20 =>
           intro LL wx hLL hC
           iterate 10 refine Flow.endsG_v rfl ?_
           refine Flow.endsG_s rfl rfl rfl fun hE10=>?_
           refine Flow.endsG_nil ?_
           simp only [Act.put,List.setIfInBounds_toArray,List.set_cons_succ,List.set_cons_zero]
           obtain ⟨hN9,hG9⟩:=hE10
           clear hC
           have hn0:=(cell_of_row wx A 0 _ _ _ hN9.at_).trans rfl
           have hn1:=(cell_of_row wx A 1 _ _ _ hN9.at_).trans rfl
           have HCd:Hid (CfgD W0 wx w1.heap.size (.slice (some ⟨g,0,none⟩) 3 gc) (.slice (some ⟨h,0,none⟩) 9 hc) (c.1.set i tv,c.2.set bx rest)):=Lib.hid ⟨by simp only [List.length_set,h3];exact Pr.own_mono hN9.st HG5.out.size,mailD_setO hb9 HBx.out (Pr.own_mono hN9.bx HG5.out.size) (.inr ⟨HTl.out,HTc.out⟩) hbx9⟩
           have HGx:Hid (Flow.Grow w1 wx):=Lib.hid (HG5.out.trans hG9)
           obtain ⟨cs,hcs,hown,hcfg⟩:=HDq.out.grow (HGw4.out.trans (HGw5.out.trans hG9))
           have HOw:=Lib.hid hown
           have HCf:=Lib.hid hcfg
           clear hcfg hown hN9 hG9
           go_wp2_with (at_builtin;refine wpList_app1 (W:=w1) rfl _ _ 48 rfl 58 iR _ 4 64 Try.underlying48 hiR hR0 hR1 hR2 rfl (by decide) (.slice qa l.length qc) l.length _ rfl (own_keep HOw.out (Flow.grow_alloc _ _)) (HGx.out.trans (Flow.grow_alloc _ _)) _ #[.int .i64 (i:Int),.int .i64 (k:Int),.slice (some ⟨g,0,none⟩) 3 gc,.slice (some ⟨h,0,none⟩) 9 hc] 58 rfl (heap_alloc_new _ _) rfl (by intro u hu;simp at hu;rcases hu with rfl | rfl | rfl | rfl <;> rfl) (by have:=HLen.out;omega) (by decide) ?_;intro v' w' hO hGw hf2 hk2;have HP:Hid (RStD W0 w' w1.heap.size v' (l++[(i,k,(c.1.set i tv,c.2.set bx rest))])):=Lib.hid (RStD.push2 hcs (fun j hj=>(HCf.out j hj).grow (Flow.grow_alloc _ _)) (HCd.out.grow (Flow.grow_alloc _ _)) hk2 (own_typed (own_keep HOw.out (Flow.grow_alloc _ _))) hO);have HGw:=Lib.hid hGw;obtain ⟨g9,c9,rfl,_⟩:=hf2;clear hO hGw hk2)
           go_wp2_with fail
           go_roundw
           case rel=>exact ⟨k+1,Hk.out,by go_num,by rw [HBk.out,HN2.out,Bool.or_false],Lib.hid (by rw [HSk.out,HN2.out,← List.append_assoc,Hl.out];simpa using HP.out),HGw⟩
           case measure=>(have:=Hk.out;simp [intOf];omega)
         ·have hne1:(y != (q:Int))=true:=by simpa using hyq
          have HN2:Hid (stp ps ls room c i k=(none,false)):=Lib.hid (by rw [HN.out,HDo.out,if_neg (by decide),if_neg (fun e=>hyq (by injection e))];rfl)
          generalize rest.length=n at *
          have z1:decide ((n:Int)+1=0)=false:=by simp;omega
          have z2:((n:Int)+1 == 0)=false:=by simp;omega
          have z3:decide (((n+1:Nat):Int)=0)=false:=by simp;omega
          have z4:(((n+1:Nat):Int) == 0)=false:=by simp;omega
          go_upto_region 19 with fail
          go_quiet (fail)
          have HGz:Hid (Flow.Grow w8 (w8.drewN nq)):=Lib.hid (Flow.grow_drewN _ _)
          generalize w8.drewN nq=w10 at *
          go_wp2_with fail
          go_roundw
          case rel=>exact ⟨k+1,Hk.out,by go_num,by rw [HBk.out,HN2.out,Bool.or_false],Lib.hid (by rw [HSk.out,HN2.out,← List.append_assoc,Hl.out];simpa using HD8.out.grow HGz.out),Lib.hid (HG5.out.trans (HG8.out.trans HGz.out))⟩
          case measure=>(have:=Hk.out;simp [intOf];omega)
    ·obtain rfl:k=p.acts.length:=by omega
     have hkd:decide ((p.acts.length:Int) < (p.acts.length:Nat))=false:=by simp
     clear f0 f2 f3 f4 f6 f7 f8 f9
     go_wp2_with fail
     go_roundw
     case rel=>exact ⟨i+1,by omega,by go_num,by rw [blkI_succ,HKp.out],Lib.hid (by rw [stepsI_succ,HKp.out];exact HD.out),HG⟩
     case measure=>simp [intOf];omega
  ·obtain rfl:i=3:=by omega
   go_wp2_with fail
   go_ret2
   exact ⟨⟨_,_,rfl,HD.out.mono HGw1.out.size⟩,HGw1.out.trans HG.out⟩
end Go.Proofs.Ytcpodmjcgfgmnaa
