/- '==' on arrays of truths, told exactly. No program but its types. -/
import Derived.Test.YtcnmaplopbbmaaaGreatRMarks
namespace Go.Proofs.YtcnmaplopbbmaaaGreat
open Go.RowKit
theorem eq_all {l m:List Bool} {n:Nat} (hl:l.length=n) (hm:m.length=n):(l == m)=(List.range' 0 n 1).all fun i=>l.getD i false == m.getD i false:=by
 rw [Bool.eq_iff_iff]
 simp only [beq_iff_eq,List.all_eq_true,List.mem_range'_1]
 constructor
 ·rintro rfl i _
  rfl
 ·intro h
  refine List.ext_getElem (by omega) fun i h1 h2=>?_
  have:=h i ⟨by omega,by omega⟩
  rwa [List.getD_eq_getElem?_getD,List.getD_eq_getElem?_getD,List.getElem?_eq_getElem h1,List.getElem?_eq_getElem h2] at this
theorem run_equal_boolsE {P:Program} (w:World) (d:Nat) (t e:TypeId) (n:Nat) (l m:List Bool) (ht:P.underlying t=some (.array n e)) (he:P.underlying e=some .bool) (hi:(P.info? e).map (·.size)=some 1)
  (hl:l.length=n) (hm:m.length=n):(Op.equalIn (d+2) t (.agg (Gr.bc l)) (.agg (Gr.bc m))).run P w=.ok (l == m) w:=by
 have hsz:(sizeOf e).run P w=.ok 1 w:=by
  cases hq:P.info? e with
  | none=>rw [hq] at hi;cases hi
  | some q =>
   rw [hq] at hi
   have:q.size=1:=by simpa using hi
   simp [sizeOf,typeInfo,hq,this]
 have hx:∀ {l:List Bool},l.length=n→∀ i,i < n→(Gr.bc l)[i]? = some (.bool (l.getD i false)):=fun {l} hl i h=>by simp [Gr.bc,List.getD_eq_getElem?_getD,show i < l.length by omega]
 rw [eq_all hl hm,Op.equalIn]
 simp only [Sem.run_bind,run_underlying ht,Result.andThen_ok,hsz,Nat.mul_one]
 rw [Std.Legacy.Range.forIn_eq_forIn_range']
 have hls:∀ i∈List.range' 0 n 1,i < n:=by simp
 have hr:({ stop:=n,step_pos:=Nat.zero_lt_one }:Std.Legacy.Range).size=n:=by simp [Std.Legacy.Range.size]
 simp only [hr]
 generalize List.range' 0 n 1=is at hls ⊢
 induction is with
 | nil=>simp
 | cons i is ih =>
  have ha:=hx hl i (hls i (by simp))
  have hb:=hx hm i (hls i (by simp))
  simp only [List.forIn_cons,Sem.run_bind,run_part w e he hi _ i _ ha,run_part w e he hi _ i _ hb,Result.andThen_ok,run_equalIn_bool w d e _ _ he]
  cases hab:(l.getD i false == m.getD i false) with
  | false=>simp only [List.all_cons,hab,Bool.false_and];simp
  | true =>
   have:=ih (fun j hj=>hls j (by simp [hj]))
   simp only [List.all_cons,hab,Bool.true_and]
   simpa using this
theorem exec_eql_arrE {o:Oper} {ρ:Operand→Value} {w:World} (x y:Operand) {l m:List Bool} (ho:o.op=.binOp .eql 70 x y 70) (hl:l.length=64) (hm:m.length=64) (hx:ρ x=.agg (Gr.bc l)) (hy:ρ y=.agg (Gr.bc m)) :
  (execOp ρ o).run Tryz.prog w=.ok (.value (.bool (l == m))) w:=by
 have hb:=run_equal_boolsE (P:=Tryz.prog) w 9998 70 4 64 l m Tryz.underlying70 Tryz.underlying4 (by kernel_rfl) hl hm
 have hg:=run_eqGuard_agg (P:=Tryz.prog) w .eql 70 x y (Gr.bc l) (Gr.bc m) (by kernel_rfl)
 unfold execOp
 simp only [ho,hx,hy,Sem.run_bind,hg,Result.andThen_ok,run_eql_struct,hb,Sem.run_pure]
end Go.Proofs.YtcnmaplopbbmaaaGreat
