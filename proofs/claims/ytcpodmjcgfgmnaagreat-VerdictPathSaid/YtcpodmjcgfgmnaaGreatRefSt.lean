/- galliardref23.Steps by its contract. -/
import Derived.Test.YtcpodmjcgfgmnaaGreatAsSteps
import Derived.Test.YtcpodmjcgfgmnaaGreatMFlow
namespace Go.Proofs.YtcpodmjcgfgmnaaGreat
open Go.RowKit
namespace As
open Pr
def Qrr (l:List (Stp × Value × Value)):List Value:=l.flatMap fun s=>[.int .i64 (s.1.1:Int),.int .i64 (s.1.2.1:Int),s.2.1,s.2.2]
def RStD (W w:World) (B:Nat) (ov:Value) (l:List Stp):Prop:=∃ cs:List (Value × Value),cs.length=l.length∧w.ownsRow B 140 4 ov l.length (Qrr (l.zip cs))∧∀ j,j < l.length→CfgD W w B (cs.getD j (undef,undef)).1 (cs.getD j (undef,undef)).2 (l.getD j (0,0,[],[])).2.2
theorem RStD.grow {W w w':World} {B:Nat} {ov:Value} {l:List Stp} (h:RStD W w B ov l) (g:Flow.Grow w w'):RStD W w' B ov l:=by
 obtain ⟨cs,h1,h2,h3⟩:=h;exact ⟨cs,h1,Qab h2 g,fun j hj=>(h3 j hj).grow g⟩
theorem RStD.mono {W w:World} {B B':Nat} {ov:Value} {l:List Stp} (h:RStD W w B ov l) (hB:B'≤B):RStD W w B' ov l:=by
 obtain ⟨cs,h1,h2,h3⟩:=h;exact ⟨cs,h1,own_mono h2 hB,fun j hj=>(h3 j hj).mono hB⟩
theorem RStD.form {W w:World} {B:Nat} {ov:Value} {l:List Stp} (h:RStD W w B ov l):∃ a c,ov=.slice a l.length c:=by
 obtain ⟨cs,_,h2,_⟩:=h;exact Qah h2
theorem RStD.push {W w w':World} {B:Nat} {ov ov' vS vB:Value} {l:List Stp} {s:Stp} (h:RStD W w B ov l) (hn:CfgD W w B vS vB s.2.2) (k:w.grownBy w' ov.ownBlock)
  (ho:∀ xs,w.ownsRow B 140 4 ov l.length xs→w'.ownsRow B 140 4 ov' (l.length+1) (xs++[.int .i64 (s.1:Int),.int .i64 (s.2.1:Int),vS,vB])):RStD W w' B ov' (l++[s]):=by
 obtain ⟨cs,h1,h2,h3⟩:=h;have ht:=Qbj h2;have kp:∀ {d:Cfg} {a b:Value},CfgD W w B a b d→CfgD W w' B a b d:=fun hd=>hd.kept k fun g hg=>by
  obtain ⟨c,hc⟩:=ht g hg;exact ⟨c,_,hc,by decide,by decide⟩
 refine ⟨cs++[(vS,vB)],by simp [h1],?_,fun j hj=>?_⟩
 ·have:=ho _ h2;rw [List.length_append,List.length_singleton,List.zip_append h1.symm];simpa [Qrr] using this
 ·rw [List.length_append,List.length_singleton] at hj;by_cases e:j < l.length
  ·rw [show (cs++[(vS,vB)]).getD j (undef,undef)=cs.getD j (undef,undef) by simp [List.getD_eq_getElem?_getD,List.getElem?_append_left (show j < cs.length by omega)],show (l++[s]).getD j (0,0,[],[])=l.getD j (0,0,[],[]) by simp [List.getD_eq_getElem?_getD,List.getElem?_append_left e]];exact kp (h3 j e)
  ·obtain rfl:j=l.length:=by omega
   rw [show (cs++[(vS,vB)]).getD l.length (undef,undef)=(vS,vB) by rw [← h1];simp,show (l++[s]).getD l.length (0,0,[],[])=s by simp];exact kp hn
end As
namespace As
open Pr
structure NObj (w5 w:World) (A g gc h hc:Nat) (st:List Int) (vs:List Value):Prop where
 lo:w5.heap.size≤A
 at_:w.heap[A]?=some (.cells #[.slice (some ⟨g,0,none⟩) 3 gc,.slice (some ⟨h,0,none⟩) 9 hc] 109 (0,0))
 st:w.ownsRow w5.heap.size 3 1 (.slice (some ⟨g,0,none⟩) 3 gc) 3 (st.map (Value.int .i64))
 bx:w.ownsRow w5.heap.size 49 1 (.slice (some ⟨h,0,none⟩) 9 hc) 9 vs
theorem NObj.grow {w5 w w':World} {A g gc h hc:Nat} {st:List Int} {vs:List Value} (n:NObj w5 w A g gc h hc st vs) (k:Flow.Grow w w'):NObj w5 w' A g gc h hc st vs:=⟨n.lo,Qae k n.at_,Qab n.st k,Qab n.bx k⟩
end As
end Go.Proofs.YtcpodmjcgfgmnaaGreat
