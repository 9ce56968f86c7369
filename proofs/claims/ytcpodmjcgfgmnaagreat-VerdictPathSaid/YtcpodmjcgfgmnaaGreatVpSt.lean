/- What galliardlaw31.VerdictPath's loops hold. No walk. -/
import Derived.Test.YtcpodmjcgfgmnaaGreatOnce
namespace Go.Proofs.YtcpodmjcgfgmnaaGreat
open Go.RowKit
theorem Qt2 {w:World} {g:Nat} (c0 c1 c2 c3:Value):w.grownBy ((((w.setCell ⟨g,0,none⟩ c0).setCell ⟨g,1,none⟩ c1).setCell ⟨g,2,none⟩ c2).setCell ⟨g,3,none⟩ c3) (some g):=by
 have s:∀ (w:World) (q:Nat) (c:Value),w.grownBy (w.setCell ⟨g,q,none⟩ c) (some g):=fun w q c=>Qad w g q c;have t:∀ {a b c:World},a.grownBy b (some g)→b.grownBy c (some g)→a.grownBy c (some g):=fun h k=>⟨k.os.trans h.os,k.tape.trans h.tape,k.output.trans h.output,Nat.le_trans h.size k.size,fun b hb hn=>(k.block b (Nat.lt_of_lt_of_le hb h.size) hn).trans (h.block b hb hn)⟩;exact t (t (t (s _ _ _) (s _ _ _)) (s _ _ _)) (s _ _ _)
namespace As
open Pr
structure ASq (w8:World) (D room:Nat) (c:Cfg) (vS vM:Value) (w:World):Prop where
 grow:Flow.Grow w8 w
 cell:w.heap[D]?=some (.cells #[vS,.int .i64 3,.int .i64 (room:Nat),vM] 53 (0,0))
 at_:CfgAt (mask w [D]) vS vM c
theorem ASq.next {w8 wo wx:World} {D room B:Nat} {c d:Cfg} {vS vM uS uM:Value} (h:ASq w8 D room c vS vM wo) (g:Flow.Grow wo wx) (hc:CfgD (mask wo [D]) wx B uS uM d) (hB:D < B) (hD:w8.heap.size≤D) :
  ASq w8 D room d uS uM ((((wx.setCell ⟨D,0,none⟩ uS).setCell ⟨D,1,none⟩ (.int .i64 3)).setCell ⟨D,2,none⟩ (.int .i64 (room:Nat))).setCell ⟨D,3,none⟩ uM) where
 grow:=Qa2 _ _ _ _ (h.grow.trans g) hD
 cell:=Qba _ _ _ _ (Qae g h.cell)
 at_:=(hc.mask (Qdy g) (fun b hb=>.inl (by simp at hb;omega))).sub (Qje (Qt2 _ _ _ _) (fun b e=>by injection e with e;simp [e]))
theorem Qzi {ps:List Pd} {L room:Nat} (hL:L≤4) (hok:∀ j,j < 3→(ps.getD j default).Ok (labsL L) j) (c:Cfg):(sf ps L room c).length≤12:=by
 refine Qfk (i:=3) fun j hj=>?_;rw [(hok j hj).acts];have:=Pr.acts_len j (Pr.labsL L) (Pr.labsL L).length;have:=Pr.labsL_len hL;omega
theorem Zat {rs:List Int} {P:Nat→Prop} (h:∀ x∈rs,∃ t:Nat,x=(t:Int)∧P t):∃ nr:List Nat,rs=nr.map (fun t:Nat=>(t:Int))∧∀ t∈nr,P t:=by
 induction rs with
 | nil=>exact ⟨[],rfl,by simp⟩
 | cons x r ih =>
  obtain ⟨t,rfl,ht⟩:=h x (by simp);obtain ⟨nr,rfl,hn⟩:=ih fun y hy=>h y (by simp [hy]);exact ⟨t :: nr,rfl,fun u hu=>by rcases List.mem_cons.1 hu with rfl | h';exact ht;exact hn u h'⟩
theorem Zau {nr:List Nat} {N:Nat} (hd:(nr.map (fun t:Nat=>(t:Int))).Nodup) (h:∀ t∈nr,t < N):nr.length≤N:=by
 have h1:=Mo.nodup_le (m:=(List.range N).map (fun t:Nat=>(t:Int))) hd (fun x hx=>by
  obtain ⟨t,ht,rfl⟩:=List.mem_map.1 hx;exact List.mem_map.2 ⟨t,List.mem_range.2 (h t ht),rfl⟩)
 simpa using h1
theorem Qxs {f:Cfg→List Stp} {n u k i:Nat} {R:List Stt} (hE:As.Ends f n) (hu:u < n) (hi:i < R.length) (h:Way f u (R.drop i) k):∃ (a b t:Nat) (d:Cfg),R[i]?=some (a,b,t)∧(a,b,d)∈f ((Qal f u).getD u first)∧t < n∧(Qal f n).getD t first=d∧Way f t (R.drop (i+1)) k:=by
 rw [List.drop_eq_getElem_cons hi] at h;obtain ⟨⟨he,h1,h2⟩,h3⟩:=h;obtain ⟨d,h4,h5,h6⟩:=Qm3 he;have h7:=Qb9 f (show u+1≤n by omega);have h8:=hE.1;refine ⟨R[i].1,R[i].2.1,R[i].2.2,d,List.getElem?_eq_getElem hi,h4,by omega,?_,h3⟩;rw [Qg9 f (show u+1≤n by omega) h2];exact h6
def Qhi (l:List Nat):List Value:=l.map fun t:Nat=>.int .i64 (t:Int)
structure NxC (W0:World) (v:Value) (n:Nat) (xs:List Value) (L:Nat→Bool) (w:World):Prop where
 grow:Flow.Grow W0 w
 own:L 14=false→w.ownsRow W0.heap.size 3 1 v n xs
theorem NxC.more {W0 w w':World} {v:Value} {n:Nat} {xs:List Value} {L:Nat→Bool} (h:NxC W0 v n xs L w) (g:Flow.Grow w w') (i:Nat):NxC W0 v n xs (Flow.ad L i) w' :=
 ⟨h.grow.trans g,fun e=>Qab (h.own (by unfold Flow.ad at e;simp at e;exact e.2)) g⟩
theorem ExAt.cfg_ {w:World} {room n:Nat} {cv sv bv:Value} {all:List Cfg} {rl:List (List Stp × List Nat)} {bl:List Bool} (h:ExAt w room n cv sv bv all rl bl) {i:Nat} (hi:i < n):∃ (g o c:Nat) (vS vM:Value),cv=.slice (some ⟨g,o,none⟩) n c ∧
  w.cell? ⟨g,o+i * 4,none⟩=some vS∧w.cell? ⟨g,o+i * 4+1,none⟩=some (.int .i64 3)∧w.cell? ⟨g,o+i * 4+2,none⟩=some (.int .i64 (room:Nat))∧w.cell? ⟨g,o+i * 4+3,none⟩=some vM∧CfgAt w vS vM (all.getD i first):=by
 obtain ⟨cs,hc1,hc2,hc3⟩:=h.cfgs;have hcl:(Qb1 room cs).length=cs.length * 4:=Qmv (f:=fun c:Value × Value=>[c.1,Value.int .i64 3,.int .i64 (room:Nat),c.2]) (m:=4) (fun _=>rfl) cs;obtain ⟨g,o,c,hv,_,hcell⟩:=hc2.shape (by intro e;rw [e] at hcl;simp at hcl;omega);obtain ⟨⟨vS,vM⟩,hcs⟩:∃ x,cs[i]?=some x:=⟨cs[i]'(by omega),List.getElem?_eq_getElem _⟩;have e2:cs.getD i (undef,undef)=(vS,vM):=by rw [List.getD_eq_getElem?_getD,hcs];rfl
 have hcf:=hc3 i hi;rw [e2] at hcf;have t:∀ j,j < 4→w.cell? ⟨g,o+(i * 4+j),none⟩=[vS,Value.int .i64 3,.int .i64 (room:Nat),vM][j]?:=fun j hj=>by
  rw [hcell (i * 4+j) (by omega)];exact Qdd (f:=fun c:Value × Value=>[c.1,Value.int .i64 3,.int .i64 (room:Nat),c.2]) (fun _=>rfl) cs i j _ hcs hj
 exact ⟨g,o,c,vS,vM,hv,t 0 (by omega),t 1 (by omega),t 2 (by omega),t 3 (by omega),hcf⟩
end As
end Go.Proofs.YtcpodmjcgfgmnaaGreat
