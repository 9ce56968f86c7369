/- What the two Steps have gathered, read place by place. -/
import Derived.Test.YtcpodmjcgfgmnaaRefSt
import Derived.Test.YtcpodmjcgfgmnaaMAsA
namespace Go.Proofs.Ytcpodmjcgfgmnaa
open Go.RowKit
namespace As
open Pr
theorem flat_at {α β:Type} {f:α→List β} {m:Nat} (hm:∀ a,(f a).length=m):∀ (l:List α) (k j:Nat) (a:α),l[k]?=some a→j < m→(l.flatMap f)[k * m+j]?=(f a)[j]?
 | [],k,j,a,h,_=>by simp at h
 | x :: l,0,j,a,h,hj=>by
  simp at h; subst h
  rw [List.flatMap_cons,Nat.zero_mul,Nat.zero_add,List.getElem?_append_left (by rw [hm]; exact hj)]
 | x :: l,k+1,j,a,h,hj=>by
  rw [List.flatMap_cons,List.getElem?_append_right (by rw [hm,Nat.succ_mul]; omega),hm,show (k+1) * m+j - m=k * m+j by rw [Nat.succ_mul]; omega]
  exact flat_at hm l k j a (by simpa using h) hj
theorem own_n {w:World} {B e sz n:Nat} {v:Value} {xs:List Value} (h:w.ownsRow B e sz v n xs) (hn:0 < n):∃ g c,v=.slice (some ⟨g,0,none⟩) n c∧B≤g∧g < w.heap.size:=by
 rcases h.2 with ⟨_,h0⟩ | ⟨g,cap,cur,hv,hB,hg,_⟩
 ·omega
 ·exact ⟨g,cap,hv,hB,(Array.getElem?_eq_some_iff.1 hg).1⟩
theorem CfgD.atS {W w:World} {B:Nat} {vS vl:Value} {d:Cfg} (h:CfgD W w B vS vl d) (g:Sub W w):CfgAt w vS vl d:=by
 refine ⟨Seg.of_own h.st,?_⟩
 obtain ⟨vs,h3,h4⟩:=h.ml
 refine ⟨vs,Seg.of_own h3,fun j hj=>?_⟩
 rcases h4 j hj with h5 | h5
 ·exact ⟨Seg.of_own h5,own_cap h5⟩
 ·exact ⟨Seg.sub h5.1 g,h5.2⟩
theorem CfgAt.form {w:World} {vS vl:Value} {d:Cfg} (h:CfgAt w vS vl d) (h3:d.1.length=3) (h9:d.2.length=9):∃ sa sc mb mo mc,vS=.slice sa 3 sc∧vl=.slice (some ⟨mb,mo,none⟩) 9 mc:=by
 obtain ⟨sa,sc,hvs,_⟩:=id h.st
 obtain ⟨vs,hv⟩:=h.ml
 obtain ⟨mb,mo,mc,hvm,_⟩:=hv.cells (by intro e; rw [e] at h9; cases h9)
 rw [h3] at hvs
 rw [h9] at hvm
 exact ⟨sa,sc,mb,mo,mc,hvs,hvm⟩
theorem StD.read {W w:World} {B room:Nat} {ov tv:Value} {l:List Stp} (h:StD W w B room ov tv l) {k:Nat} (hk:k < l.length) {i q:Nat} {d:Cfg} (hl:l[k]?=some (i,q,d)):∃ (g1 g2 c1 c2:Nat) (vS vM:Value),ov=.slice (some ⟨g1,0,none⟩) l.length c1∧tv=.slice (some ⟨g2,0,none⟩) l.length c2 ∧
  w.cell? ⟨g1,k * 3,none⟩=some (.int .i64 (i:Int))∧w.cell? ⟨g1,k * 3+1,none⟩=some (.int .i64 (q:Int))∧w.cell? ⟨g1,k * 3+2,none⟩=some (.int .i64 (-1)) ∧
  w.cell? ⟨g2,k * 4,none⟩=some vS∧w.cell? ⟨g2,k * 4+1,none⟩=some (.int .i64 3)∧w.cell? ⟨g2,k * 4+2,none⟩=some (.int .i64 (room:Nat))∧w.cell? ⟨g2,k * 4+3,none⟩=some vM∧CfgD W w B vS vM d∧B≤g1∧B≤g2:=by
 obtain ⟨cs,hcl,ht,hc⟩:=h.tos
 obtain ⟨g1,c1,rfl,hb1,_⟩:=own_n h.out (by omega)
 obtain ⟨g2,c2,rfl,hb2,_⟩:=own_n ht (by omega)
 have hcf:=hc k hk
 have e1:l.getD k (0,0,[],[])=(i,q,d):=by rw [List.getD_eq_getElem?_getD,hl]; rfl
 obtain ⟨⟨vS,vM⟩,hcs⟩:∃ x,cs[k]?=some x:=⟨cs[k]'(by omega),List.getElem?_eq_getElem _⟩
 have e2:cs.getD k (undef,undef)=(vS,vM):=by rw [List.getD_eq_getElem?_getD,hcs]; rfl
 rw [e1,e2] at hcf
 have f3:∀ s:Stp,[Value.int .i64 (s.1:Int),.int .i64 (s.2.1:Int),.int .i64 (-1)].length=3:=fun _=>rfl
 have f4:∀ c:Value × Value,[c.1,Value.int .i64 3,.int .i64 (room:Nat),c.2].length=4:=fun _=>rfl
 have o:∀ j,j < 3→w.cell? ⟨g1,k * 3+j,none⟩=[Value.int .i64 (i:Int),.int .i64 (q:Int),.int .i64 (-1)][j]?:=fun j hj=>by
  rw [h.out.cellAt (k * 3+j) (by omega)]
  exact flat_at (f:=fun s:Stp=>[Value.int .i64 (s.1:Int),.int .i64 (s.2.1:Int),.int .i64 (-1)]) f3 l k j _ hl hj
 have t:∀ j,j < 4→w.cell? ⟨g2,k * 4+j,none⟩=[vS,Value.int .i64 3,.int .i64 (room:Nat),vM][j]?:=fun j hj=>by
  rw [ht.cellAt (k * 4+j) (by omega)]
  exact flat_at (f:=fun c:Value × Value=>[c.1,Value.int .i64 3,.int .i64 (room:Nat),c.2]) f4 cs k j _ hcs hj
 exact ⟨g1,g2,c1,c2,vS,vM,rfl,rfl,o 0 (by omega),o 1 (by omega),o 2 (by omega),t 0 (by omega),t 1 (by omega),t 2 (by omega),t 3 (by omega),hcf,hb1,hb2⟩
theorem RStD.read {W w:World} {B:Nat} {ov:Value} {l:List Stp} (h:RStD W w B ov l) {k:Nat} (hk:k < l.length) {i q:Nat} {d:Cfg} (hl:l[k]?=some (i,q,d)):∃ (g1 c1:Nat) (vS vB:Value),ov=.slice (some ⟨g1,0,none⟩) l.length c1 ∧
  w.cell? ⟨g1,k * 4,none⟩=some (.int .i64 (i:Int))∧w.cell? ⟨g1,k * 4+1,none⟩=some (.int .i64 (q:Int))∧w.cell? ⟨g1,k * 4+2,none⟩=some vS∧w.cell? ⟨g1,k * 4+3,none⟩=some vB∧CfgD W w B vS vB d∧B≤g1:=by
 obtain ⟨cs,hcl,ho,hc⟩:=h
 obtain ⟨g1,c1,rfl,hb1,_⟩:=own_n ho (by omega)
 have hcf:=hc k hk
 have e1:l.getD k (0,0,[],[])=(i,q,d):=by rw [List.getD_eq_getElem?_getD,hl]; rfl
 obtain ⟨⟨vS,vB⟩,hcs⟩:∃ x,cs[k]?=some x:=⟨cs[k]'(by omega),List.getElem?_eq_getElem _⟩
 have e2:cs.getD k (undef,undef)=(vS,vB):=by rw [List.getD_eq_getElem?_getD,hcs]; rfl
 rw [e1,e2] at hcf
 have hz:(l.zip cs)[k]?=some ((i,q,d),vS,vB):=by
  rw [List.getElem?_zip_eq_some]
  exact ⟨hl,hcs⟩
 have t:∀ j,j < 4→w.cell? ⟨g1,k * 4+j,none⟩=[Value.int .i64 (i:Int),.int .i64 (q:Int),vS,vB][j]?:=fun j hj=>by
  rw [ho.cellAt (k * 4+j) (by omega)]
  exact flat_at (f:=fun s:Stp × Value × Value=>[Value.int .i64 (s.1.1:Int),.int .i64 (s.1.2.1:Int),s.2.1,s.2.2]) (fun _=>rfl) (l.zip cs) k j _ hz hj
 exact ⟨g1,c1,vS,vB,rfl,t 0 (by omega),t 1 (by omega),t 2 (by omega),t 3 (by omega),hcf,hb1⟩
theorem steps_at {ps:List Pd} {ls:List Lb} {room:Nat} {c:Cfg} {k:Nat} (h:k < (stepsI ps ls room c 3).length):∃ (i q:Nat) (d:Cfg),(stepsI ps ls room c 3)[k]?=some (i,q,d)∧i < 3∧q < (ps.getD i default).acts.length∧stp ps ls room c i q=(some d,false):=by
 obtain ⟨⟨i,q,d⟩,he⟩:∃ x,(stepsI ps ls room c 3)[k]?=some x:=⟨_,List.getElem?_eq_getElem h⟩
 obtain ⟨h1,h2,h3⟩:=steps_mem (List.mem_of_getElem? he)
 refine ⟨i,q,d,he,h1,h2,?_⟩
 obtain ⟨r,b,hs⟩:∃ r b,stp ps ls room c i q=(r,b):=⟨_,_,rfl⟩
 rw [hs] at h3 ⊢
 simp only at h3
 subst h3
 rw [stp_some hs]
end As
end Go.Proofs.Ytcpodmjcgfgmnaa
