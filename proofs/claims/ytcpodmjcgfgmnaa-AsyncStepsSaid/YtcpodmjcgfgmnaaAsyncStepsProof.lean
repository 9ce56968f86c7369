/- galliard: the law AsyncSteps: for every input the call returns true and each argument reads as it read before. -/
import Derived.Test.YtcpodmjcgfgmnaaRows
import Derived.Test.YtcpodmjcgfgmnaaAsyncSteps
import Derived.Test.YtcpodmjcgfgmnaaMArg
import Derived.WalkKit
import Derived.ProofKit
import Derived.OpenShut
import Derived.ShutString
import Derived.ChangeOld
import Derived.Below
namespace Go.Proofs.Ytcpodmjcgfgmnaa.asyncSteps
open Go.ChangeShapes Go.WideShapes Go.ChangeAt Go.RowKit
open Go.ChangeMaps (open_string shut_string)
set_option linter.unusedVariables false
theorem own:ownKnob Try.prog.godebug=none:=by kernel_rfl
theorem laidOut:laidOutB Try.prog=true:=by kernel_rfl
theorem cInt:Try.prog.cellsOf 3=1:=by kernel_rfl
theorem cthree:Try.prog.cellsOf 38=3:=by kernel_rfl
set_option maxRecDepth 100000 in
theorem three_of {H:Type} {enc:TypeId × Value→H} {W:World} {base:Nat} {v:Value} {d:DataW H} {ps:List MemPlace} (hv:Value.okWide Try.prog W .any base 38 v) (h:DataW.Trod enc Try.prog W 0 (fun _=>true) true 38 v d ps):∃ zs:List Int,v=.agg (zs.map (Value.int .i64)).toArray∧zs.length=3∧∀ z∈zs,(Lit.int .i64 z).wf=true:=by
 simp only [Value.okWide,Try.underlying38] at hv
 obtain ⟨cs,rfl,_,_⟩:=hv
 obtain ⟨fuel,hf⟩:=h
 obtain ⟨zs,h1,h2,h3⟩:=open_array_ints Try.underlying38 Try.underlying3 cInt cthree hf
 refine ⟨zs,?_,h2,h3⟩
 have h4:cs.toList=zs.map (Value.int .i64):=h1
 rw [← h4]
theorem c3:Try.prog.cellsOf 38=3:=by kernel_rfl
theorem c1:Try.prog.cellsOf 3=1:=by kernel_rfl
set_option maxRecDepth 1000000 in
theorem lifted (os:Os) (started:os.Started) (H:Type) (enc:TypeId × Value→H) :
  ReturnsInHanded {} Try.checked os 4 .any (Rows.asyncStepsSpec.pre6 enc Try.prog Try.f4 Rows.asyncStepsRow.domain false) (Rows.asyncStepsSpec.post enc Try.prog Try.f4 false true false false):=by
 refine returnsInHanded_of_change (C:=Try.checked) own started (by kernel_rfl) Try.func4
  (ChangeSpec.witness6 (enc:=enc) (C:=Try.checked) false ⟨#[],#[.slice none 0 0,.agg #[.int .i64 0,.int .i64 0,.int .i64 0],.slice none 0 0],[]⟩ 8 (by kernel_rfl) (by kernel_rfl) (by kernel_rfl) (by kernel_rfl)) ?_
 intro W base args ds gs before hval0 hW hcnd _
 have hval:∀ (j:Nat) t v,Try.f4.params[j]?=some t→args[j]?=some v→Value.okWide Try.prog W .any base t v:=hval0
 have hW':=hW
 obtain ⟨p,q,hA0,hV,rfl,hfz,hnd⟩:=hW
 have hA:DataW.TrodAll enc Try.prog W 0 (fun _=>true) true Try.f4.params.toList args.toList ds p:=hA0
 rw [Try.params4] at hA hval
 obtain ⟨v0,vs0,d0,ds0,p0,q0,hargs,rfl,rfl,h0,r0⟩:=trodAll_cons hA
 obtain ⟨v1,vs1,d1,ds1,p1,q1,rfl,rfl,rfl,h1,r1⟩:=trodAll_cons r0
 obtain ⟨v2,vs2,d2,ds2,p2,q2,rfl,rfl,rfl,h2,r2⟩:=trodAll_cons r1
 obtain ⟨rfl,rfl,rfl⟩:=trodAll_nil r2
 obtain rfl:args=#[v0,v1,v2]:=by cases args; simp_all
 obtain ⟨rfl,rfl⟩:=trodVars_none hV
 have k0:=h0
 have lt0:∀ x∈p0,x.block < W.heap.size:=by obtain ⟨m,hm⟩:=k0; exact DataW.trod_lt m _ _ _ hm
 obtain ⟨a0,n0,c0,rfl⟩:=okWide_slice Try.underlying22 (hval 0 22 v0 rfl rfl)
 obtain ⟨z0,y0,s0⟩:∃ zs:List Int,n0≤9223372036854775807∧Seg 3 W (.slice a0 n0 c0) n0 (zs.map (Value.int .i64)):=by
  obtain ⟨fuel,hf⟩:=h0
  obtain ⟨a,len,cap,zs,e,g1,g2,g3,g4⟩:=open_rows Try.underlying22 Try.underlying38 Try.underlying3 c1 c3 hf
  simp [Value.cells] at e
  obtain ⟨rfl,rfl,rfl⟩:=e
  exact ⟨zs,by unfold maxLen at g2; omega,g3⟩
 have k1:=h1
 have lt1:∀ x∈p1,x.block < W.heap.size:=by obtain ⟨m,hm⟩:=k1; exact DataW.trod_lt m _ _ _ hm
 obtain ⟨a1,b1,e1,rfl⟩:∃ a b c:Int,v1=.agg #[.int .i64 a,.int .i64 b,.int .i64 c]:=by
  obtain ⟨zs,e,hl,_⟩:=three_of (hval 1 38 v1 rfl rfl) h1
  match zs,hl with
  | [x,y,z],_=>exact ⟨x,y,z,e⟩
 have k2:=h2
 have lt2:∀ x∈p2,x.block < W.heap.size:=by obtain ⟨m,hm⟩:=k2; exact DataW.trod_lt m _ _ _ hm
 obtain ⟨a2,n2,c2,rfl⟩:=okWide_slice Try.underlying39 (hval 2 39 v2 rfl rfl)
 obtain ⟨z2,y2,s2⟩:∃ zs:List Int,zs.length≤9223372036854775807∧Ints W (.slice a2 n2 c2) zs:=ints_arg Try.underlying39 Try.underlying3 (by kernel_rfl) h2
 clear hA0 hval0
 refine (show Calls Try.prog 4 #[.slice a0 n0 c0,.agg #[.int .i64 a1,.int .i64 b1,.int .i64 e1],.slice a2 n2 c2] W _ from asyncSteps_walk (.slice a0 n0 c0) z0 n0 a1 b1 e1 (.slice a2 n2 c2) z2 W y0 s0 s2 y2).mono fun e W' ⟨he,hg⟩=>?_
 have bel:Below W.heap.size W W':=hg.below (Nat.le_refl _)
 subst he
 exact ⟨_,rfl,_,_,_,[],_,[],hW',trodAll_mk1 (shut_bool Try.underlying4 _),(trodAll_cons_mk (Below.trod laidOut (by kernel_rfl) (of_decide_eq_true (by kernel_rfl)) k0 bel lt0) (trodAll_cons_mk (Below.trod laidOut (by kernel_rfl) (of_decide_eq_true (by kernel_rfl)) k1 bel lt1) (trodAll_cons_mk (Below.trod laidOut (by kernel_rfl) (of_decide_eq_true (by kernel_rfl)) k2 bel lt2) trodAll_mk0))),rfl,bel.frame _,fun h=>by cases h⟩
theorem over:Rows.asyncStepsRow.holds Try.pinned (OpenSpec.ofChange Rows.asyncStepsSpec) :=
 OpenClaim.holds_of_wide 4 Try.f4 rfl rfl rfl rfl rfl rfl rfl ⟨rfl,rfl,rfl,rfl,rfl⟩ rfl rfl rfl rfl rfl (by kernel_rfl) Try.func4 (by kernel_rfl)
  (of_decide_eq_true (by kernel_rfl)) (by unfold Func.isWrapper; first | (rw [if_pos (by decide +kernel)]; kernel_rfl) | (rw [if_neg (by decide +kernel)]; exact ⟨rfl,rfl⟩))
  (fun os started H enc _=>lifted os started H enc)
theorem proved:Rows.AsyncStepsSaid :=
 over
end Go.Proofs.Ytcpodmjcgfgmnaa.asyncSteps
