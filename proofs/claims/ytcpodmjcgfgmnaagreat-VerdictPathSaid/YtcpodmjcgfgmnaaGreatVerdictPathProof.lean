/- galliard: the law VerdictPath: for every input the call returns true and each argument reads as it read before. -/
import Derived.Test.YtcpodmjcgfgmnaaGreatRows
import Derived.Test.YtcpodmjcgfgmnaaGreatVerdictPath
import Derived.Test.YtcpodmjcgfgmnaaGreatMBase
import Derived.Test.YtcpodmjcgfgmnaaGreatTris
import Derived.ChangeSlices
import Derived.Deep.Strs
import Derived.WalkKit
import Derived.ProofKit
import Derived.OpenShut
import Derived.ShutString
import Derived.ChangeOld
import Derived.Below
namespace Go.Proofs.YtcpodmjcgfgmnaaGreat.verdictPath
open Go.ChangeShapes Go.WideShapes Go.ChangeAt Go.RowKit
open Go.ChangeMaps (open_string shut_string)
set_option linter.unusedVariables false
theorem own:ownKnob Tryz.prog.godebug=none:=by kernel_rfl
theorem Qwe:laidOutB Tryz.prog=true:=by kernel_rfl
theorem cInt:Tryz.prog.cellsOf 3=1:=by kernel_rfl
theorem Zcu:Tryz.prog.cellsOf 38=3:=by kernel_rfl
set_option maxRecDepth 100000 in
theorem Qxu {H:Type} {enc:TypeId × Value→H} {W:World} {base:Nat} {v:Value} {d:DataW H} {ps:List MemPlace} (hv:Value.okWide Tryz.prog W .any base 38 v) (h:DataW.Trod enc Tryz.prog W 0 (fun _=>true) true 38 v d ps):∃ zs:List Int,v=.agg (zs.map (Value.int .i64)).toArray∧zs.length=3∧∀ z∈zs,(Lit.int .i64 z).wf=true:=by
 simp only [Value.okWide,Tryz.underlying38] at hv;obtain ⟨cs,rfl,_,_⟩:=hv;obtain ⟨fuel,hf⟩:=h;obtain ⟨zs,h1,h2,h3⟩:=Qew Tryz.underlying38 Tryz.underlying3 cInt Zcu hf;refine ⟨zs,?_,h2,h3⟩;have h4:cs.toList=zs.map (Value.int .i64):=h1;rw [← h4]
theorem c3:Tryz.prog.cellsOf 38=3:=by kernel_rfl
theorem c1:Tryz.prog.cellsOf 3=1:=by kernel_rfl
set_option maxRecDepth 1000000 in
theorem Zch (os:Os) (started:os.Started) (H:Type) (enc:TypeId × Value→H) :
  ReturnsInHanded {} Tryz.checked os 4 .any (Rows.verdictPathSpec.pre6 enc Tryz.prog Tryz.f4 Rows.verdictPathRow.domain false) (Rows.verdictPathSpec.post enc Tryz.prog Tryz.f4 false true false false):=by
 refine returnsInHanded_of_change (C:=Tryz.checked) own started (by kernel_rfl) Tryz.func4
  (ChangeSpec.witness6 (enc:=enc) (C:=Tryz.checked) false ⟨#[],#[.slice none 0 0,.agg #[.int .i64 0,.int .i64 0,.int .i64 0]],[]⟩ 8 (by kernel_rfl) (by kernel_rfl) (by kernel_rfl) (by kernel_rfl)) ?_
 intro W base args ds gs before hval0 hW hcnd _;have hval:∀ (j:Nat) t v,Tryz.f4.params[j]?=some t→args[j]?=some v→Value.okWide Tryz.prog W .any base t v:=hval0;have hW':=hW;obtain ⟨p,q,hA0,hV,rfl,hfz,hnd⟩:=hW;have hA:DataW.TrodAll enc Tryz.prog W 0 (fun _=>true) true Tryz.f4.params.toList args.toList ds p:=hA0;rw [Tryz.params4] at hA hval;obtain ⟨v0,vs0,d0,ds0,p0,q0,hargs,rfl,rfl,h0,r0⟩:=trodAll_cons hA;obtain ⟨v1,vs1,d1,ds1,p1,q1,rfl,rfl,rfl,h1,r1⟩:=trodAll_cons r0;obtain ⟨rfl,rfl,rfl⟩:=trodAll_nil r1;obtain rfl:args=#[v0,v1]:=by cases args;simp_all
 obtain ⟨rfl,rfl⟩:=trodVars_none hV;have k0:=h0;have lt0:∀ x∈p0,x.block < W.heap.size:=by obtain ⟨m,hm⟩:=k0;exact DataW.trod_lt m _ _ _ hm
 obtain ⟨a0,n0,c0,rfl⟩:=okWide_slice Tryz.underlying22 (hval 0 22 v0 rfl rfl);obtain ⟨z0,y0,s0⟩:∃ zs:List Int,n0≤9223372036854775807∧Seg 3 W (.slice a0 n0 c0) n0 (zs.map (Value.int .i64)):=by
  obtain ⟨fuel,hf⟩:=h0;obtain ⟨a,len,cap,zs,e,g1,g2,g3,g4⟩:=Qvg Tryz.underlying22 Tryz.underlying38 Tryz.underlying3 c1 c3 hf;simp [Value.cells] at e;obtain ⟨rfl,rfl,rfl⟩:=e;exact ⟨zs,by unfold maxLen at g2;omega,g3⟩
 have k1:=h1;have lt1:∀ x∈p1,x.block < W.heap.size:=by obtain ⟨m,hm⟩:=k1;exact DataW.trod_lt m _ _ _ hm
 obtain ⟨a1,b1,e1,rfl⟩:∃ a b c:Int,v1=.agg #[.int .i64 a,.int .i64 b,.int .i64 c]:=by
  obtain ⟨zs,e,hl,_⟩:=Qxu (hval 1 38 v1 rfl rfl) h1
  match zs,hl with
  | [x,y,z],_=>exact ⟨x,y,z,e⟩
 clear hA0 hval0;refine (show Calls Tryz.prog 4 #[.slice a0 n0 c0,.agg #[.int .i64 a1,.int .i64 b1,.int .i64 e1]] W _ from Qh3 _ z0 n0 a1 b1 e1 W (by omega) s0).mono fun e W' ⟨he,hg⟩=>?_;have bel:Below W.heap.size W W':=hg.below (Nat.le_refl _);subst he;exact ⟨_,rfl,_,_,_,[],_,[],hW',trodAll_mk1 (shut_bool Tryz.underlying4 _),(trodAll_cons_mk (Below.trod Qwe (by kernel_rfl) (of_decide_eq_true (by kernel_rfl)) k0 bel lt0) (trodAll_cons_mk (Below.trod Qwe (by kernel_rfl) (of_decide_eq_true (by kernel_rfl)) k1 bel lt1) trodAll_mk0)),rfl,bel.frame _,fun h=>by cases h⟩
theorem over:Rows.verdictPathRow.holds Tryz.pinned (OpenSpec.ofChange Rows.verdictPathSpec) :=
 OpenClaim.holds_of_wide 4 Tryz.f4 rfl rfl rfl rfl rfl rfl rfl ⟨rfl,rfl,rfl,rfl,rfl⟩ rfl rfl rfl rfl rfl (by kernel_rfl) Tryz.func4 (by kernel_rfl)
  (of_decide_eq_true (by kernel_rfl)) (by unfold Func.isWrapper;first | (rw [if_pos (by decide +kernel)];kernel_rfl) | (rw [if_neg (by decide +kernel)];exact ⟨rfl,rfl⟩))
  (fun os started H enc _=>Zch os started H enc)
theorem proved:Rows.VerdictPathSaid :=
 over
end Go.Proofs.YtcpodmjcgfgmnaaGreat.verdictPath
