/- AsyncAny holds. -/
import Derived.Test.YtcpodmjcgfgmnaaRows
import Derived.Test.YtcpodmjcgfgmnaaAsyncAny
import Derived.Test.YtcpodmjcgfgmnaaTris
import Derived.WalkKit
import Derived.ProofKit
import Derived.OpenShut
import Derived.ShutString
import Derived.ChangeOld
import Derived.Below
namespace Go.Proofs.Ytcpodmjcgfgmnaa.asyncAny
open Go.ChangeShapes Go.WideShapes Go.ChangeAt Go.RowKit
open Go.ChangeMaps (open_string shut_string)
set_option linter.unusedVariables false
theorem own:ownKnob Try.prog.godebug=none:=by kernel_rfl
theorem laidOut:laidOutB Try.prog=true:=by kernel_rfl
theorem cInt:Try.prog.cellsOf 3=1:=by kernel_rfl
theorem ctwo:Try.prog.cellsOf 23=2:=by kernel_rfl
set_option maxRecDepth 100000 in
theorem two_of {H:Type} {enc:TypeId × Value→H} {W:World} {base:Nat} {v:Value} {d:DataW H} {ps:List MemPlace} (hv:Value.okWide Try.prog W .any base 23 v) (h:DataW.Trod enc Try.prog W 0 (fun _=>true) true 23 v d ps):∃ zs:List Int,v=.agg (zs.map (Value.int .i64)).toArray∧zs.length=2∧∀ z∈zs,(Lit.int .i64 z).wf=true:=by
 simp only [Value.okWide,Try.underlying23] at hv
 obtain ⟨cs,rfl,_,_⟩:=hv
 obtain ⟨fuel,hf⟩:=h
 obtain ⟨zs,h1,h2,h3⟩:=open_array_ints Try.underlying23 Try.underlying3 cInt ctwo hf
 refine ⟨zs,?_,h2,h3⟩
 have h4:cs.toList=zs.map (Value.int .i64):=h1
 rw [← h4]
theorem c3:Try.prog.cellsOf 38=3:=by kernel_rfl
theorem c1:Try.prog.cellsOf 3=1:=by kernel_rfl
set_option maxRecDepth 1000000 in
theorem lifted (os:Os) (started:os.Started) (H:Type) (enc:TypeId × Value→H) :
  ReturnsInHanded {} Try.checked os 3 .any (Rows.asyncAnySpec.pre6 enc Try.prog Try.f3 Rows.asyncAnyRow.domain false) (Rows.asyncAnySpec.post enc Try.prog Try.f3 false true false false):=by
 refine returnsInHanded_of_change (C:=Try.checked) own started (by kernel_rfl) Try.func3
  (ChangeSpec.witness6 (enc:=enc) (C:=Try.checked) false ⟨#[],#[.slice none 0 0,.int .i64 0,.agg #[.int .i64 0,.int .i64 0]],[]⟩ 8 (by kernel_rfl) (by kernel_rfl) (by kernel_rfl) (by kernel_rfl)) ?_
 intro W base args ds gs before hval0 hW hcnd _
 have hval:∀ (j:Nat) t v,Try.f3.params[j]?=some t→args[j]?=some v→Value.okWide Try.prog W .any base t v:=hval0
 have hW':=hW
 obtain ⟨p,q,hA0,hV,rfl,hfz,hnd⟩:=hW
 have hA:DataW.TrodAll enc Try.prog W 0 (fun _=>true) true Try.f3.params.toList args.toList ds p:=hA0
 rw [Try.params3] at hA hval
 obtain ⟨v0,vs0,d0,ds0,p0,q0,hargs,rfl,rfl,h0,r0⟩:=trodAll_cons hA
 obtain ⟨v1,vs1,d1,ds1,p1,q1,rfl,rfl,rfl,h1,r1⟩:=trodAll_cons r0
 obtain ⟨v2,vs2,d2,ds2,p2,q2,rfl,rfl,rfl,h2,r2⟩:=trodAll_cons r1
 obtain ⟨rfl,rfl,rfl⟩:=trodAll_nil r2
 obtain rfl:args=#[v0,v1,v2]:=by cases args;simp_all
 obtain ⟨rfl,rfl⟩:=trodVars_none hV
 have k0:=h0
 have lt0:∀ x∈p0,x.block < W.heap.size:=by obtain ⟨m,hm⟩:=k0;exact DataW.trod_lt m _ _ _ hm
 obtain ⟨a0,n0,c0,rfl⟩:=okWide_slice Try.underlying22 (hval 0 22 v0 rfl rfl)
 obtain ⟨z0,y0,s0⟩:∃ zs:List Int,n0≤9223372036854775807∧Seg 3 W (.slice a0 n0 c0) n0 (zs.map (Value.int .i64)):=by
  obtain ⟨fuel,hf⟩:=h0
  obtain ⟨a,len,cap,zs,e,g1,g2,g3,g4⟩:=open_rows Try.underlying22 Try.underlying38 Try.underlying3 c1 c3 hf
  simp [Value.cells] at e
  obtain ⟨rfl,rfl,rfl⟩:=e
  exact ⟨zs,by unfold maxLen at g2;omega,g3⟩
 have k1:=h1
 have lt1:∀ x∈p1,x.block < W.heap.size:=by obtain ⟨m,hm⟩:=k1;exact DataW.trod_lt m _ _ _ hm
 obtain ⟨a1,rfl,e1d,e1p,w1⟩:=open_int Try.underlying3 (hval 1 3 v1 rfl rfl) h1
 have k2:=h2
 have lt2:∀ x∈p2,x.block < W.heap.size:=by obtain ⟨m,hm⟩:=k2;exact DataW.trod_lt m _ _ _ hm
 obtain ⟨a2,b2,rfl⟩:∃ a b:Int,v2=.agg #[.int .i64 a,.int .i64 b]:=by
  obtain ⟨zs,e,hl,_⟩:=two_of (hval 2 23 v2 rfl rfl) h2
  match zs,hl with
  | [x,y],_=>exact ⟨x,y,e⟩
 clear hA0 hval0
 refine (show Calls Try.prog 3 #[.slice a0 n0 c0,.int .i64 a1,.agg #[.int .i64 a2,.int .i64 b2]] W _ from asyncAny_walk (.slice a0 n0 c0) z0 a1 a2 b2 n0 W y0 s0).mono fun e W' ⟨he,hg⟩=>?_
 have bel:Below W.heap.size W W':=hg.below (Nat.le_refl _)
 subst he
 exact ⟨_,rfl,_,_,_,[],_,[],hW',trodAll_mk1 (shut_bool Try.underlying4 _),(trodAll_cons_mk (Below.trod laidOut (by kernel_rfl) (of_decide_eq_true (by kernel_rfl)) k0 bel lt0) (trodAll_cons_mk (Below.trod laidOut (by kernel_rfl) (of_decide_eq_true (by kernel_rfl)) k1 bel lt1) (trodAll_cons_mk (Below.trod laidOut (by kernel_rfl) (of_decide_eq_true (by kernel_rfl)) k2 bel lt2) trodAll_mk0))),rfl,bel.frame _,fun h=>by cases h⟩
theorem over:Rows.asyncAnyRow.holds Try.pinned (OpenSpec.ofChange Rows.asyncAnySpec) :=
 OpenClaim.holds_of_wide 3 Try.f3 rfl rfl rfl rfl rfl rfl rfl ⟨rfl,rfl,rfl,rfl,rfl⟩ rfl rfl rfl rfl rfl (by kernel_rfl) Try.func3 (by kernel_rfl)
  (of_decide_eq_true (by kernel_rfl)) (by unfold Func.isWrapper;first | (rw [if_pos (by decide +kernel)];kernel_rfl) | (rw [if_neg (by decide +kernel)];exact ⟨rfl,rfl⟩))
  (fun os started H enc _=>lifted os started H enc)
theorem proved:Rows.AsyncAnySaid :=
 over
end Go.Proofs.Ytcpodmjcgfgmnaa.asyncAny
