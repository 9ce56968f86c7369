/- Ev: what a step does hangs on its operands alone. No program. -/
import Derived.Test.YtcpodmjcgfgmnaaEv8
namespace Go.Proofs.Ytcpodmjcgfgmnaa
open Go.RowKit
namespace Ev
variable {P:Program}
theorem all?_congr {α β:Type} {f g:α→Option β}:∀ {xs:List α},(∀ x∈xs,f x=g x)→all? f xs=all? g xs
 | [],_=>rfl
 | x :: r,h=>by
  simp only [all?]
  rw [h x (by simp),all?_congr fun y hy=>h y (by simp [hy])]
theorem cellX_congr {e e':Look} {x:Operand} (h:evX e x=evX e' x):cellX e x=cellX e' x:=by unfold cellX;rw [h]
theorem evBound_congr {e e':Look} {d:Nat} {x:Option Operand} (h:∀ y,x=some y→evX e y=evX e' y):evBound e d x=evBound e' d x:=by
 cases x with
 | none=>rfl
 | some y=>simp only [evBound];rw [h y rfl]
theorem evSlice_congr {e e':Look} {T:TypeId} {lo hi:Option Operand} {c:C} (h1:∀ y,lo=some y→evX e y=evX e' y) (h2:∀ y,hi=some y→evX e y=evX e' y):evSlice P e T lo hi c=evSlice P e' T lo hi c:=by
 unfold evSlice
 simp only [evBound_congr h1,evBound_congr h2]
theorem evSlice3_congr {e e':Look} {T:TypeId} {lo:Option Operand} {hi mx:Operand} {c:C} (h1:∀ y,lo=some y→evX e y=evX e' y) (h2:evX e hi=evX e' hi) (h3:evX e mx=evX e' mx):evSlice3 P e T lo hi mx c=evSlice3 P e' T lo hi mx c:=by
 unfold evSlice3
 simp only [evBound_congr h1,evBound_congr (d:=0) (x:=some hi) (fun y hy=>by cases hy;exact h2),evBound_congr (d:=0) (x:=some mx) (fun y hy=>by cases hy;exact h3)]
theorem evDry_congr {e e':Look} {o:Oper} (h:∀ x∈o.op.operands.toList,evX e x=evX e' x):evDry P e o=evDry P e' o:=by
 have hv:∀ x∈o.op.operands.toList,valX e x=valX e' x:=fun x hx=>by unfold valX;rw [h x hx]
 unfold evDry
 have h1:(o.op.operands.toList.all fun x=>(valX e x).isSome)=(o.op.operands.toList.all fun x=>(valX e' x).isSome):=by
  rw [Bool.eq_iff_iff]
  simp only [List.all_eq_true]
  exact ⟨fun k x hx=>by rw [← hv x hx];exact k x hx,fun k x hx=>by rw [hv x hx];exact k x hx⟩
 rw [h1]
 cases hk:dryKind o.op with
 | false=>simp
 | true =>
  rw [exec_congr (ρ:=rho e) (ρ':=rho e') hk fun x hx=>by unfold rho;rw [hv x hx]]
theorem evOp_congr {e e':Look} {st:St} {o:Oper} (h:∀ x∈o.op.operands.toList,evX e x=evX e' x):evOp P e st o=evOp P e' st o:=by
 have hd:evDry P e o=evDry P e' o:=evDry_congr h
 unfold evOp
 rw [hd]
 generalize evDry P e' o=D
 clear hd
 split
 ·rename_i x ho;rw [ho] at h;rw [h x (by simp [Op.operands])]
 ·rename_i x ho;rw [ho] at h;rw [h x (by simp [Op.operands])]
 ·rename_i c x y ho;rw [ho] at h
  rw [cellX_congr (h c (by simp [Op.operands]))]
  split
  ·rename_i t _;cases t
   ·simp only [Bool.false_eq_true,if_false];rw [h y (by simp [Op.operands])]
   ·simp only [if_true];rw [h x (by simp [Op.operands])]
  ·rfl
 ·rfl
 ·rename_i T x ho;rw [ho] at h;rw [h x (by simp [Op.operands])]
 ·rename_i T x ho;rw [ho] at h;rw [cellX_congr (h x (by simp [Op.operands]))]
 ·rename_i T x y ho;rw [ho] at h;rw [cellX_congr (h x (by simp [Op.operands])),h y (by simp [Op.operands])]
 ·rename_i x ho;rw [ho] at h;rw [cellX_congr (h x (by simp [Op.operands]))]
 ·rename_i T x f ho;rw [ho] at h;rw [cellX_congr (h x (by simp [Op.operands]))]
 ·rename_i T x f ho;rw [ho] at h;rw [h x (by simp [Op.operands])]
 ·rename_i T x y ho;rw [ho] at h;rw [cellX_congr (h x (by simp [Op.operands])),cellX_congr (h y (by simp [Op.operands]))]
 ·rename_i T x y ho;rw [ho] at h;rw [h x (by simp [Op.operands]),cellX_congr (h y (by simp [Op.operands]))]
 ·rename_i T x lo hi ho;rw [ho] at h
  rw [cellX_congr (h x (by simp [Op.operands]))]
  have e1:∀ c,evSlice P e T lo hi c=evSlice P e' T lo hi c:=fun c=>evSlice_congr (fun y hy=>h y (by simp [Op.operands,hy])) (fun y hy=>h y (by simp [Op.operands,hy]))
  simp only [e1]
 ·rename_i T x lo hi mx ho;rw [ho] at h
  rw [cellX_congr (h x (by simp [Op.operands]))]
  have e1:∀ c,evSlice3 P e T lo hi mx c=evSlice3 P e' T lo hi mx c:=fun c=>evSlice3_congr (fun y hy=>h y (by simp [Op.operands,hy])) (h hi (by simp [Op.operands])) (h mx (by simp [Op.operands]))
  simp only [e1]
 ·rename_i T x y ho;rw [ho] at h;rw [cellX_congr (h x (by simp [Op.operands])),cellX_congr (h y (by simp [Op.operands]))]
 ·rename_i T ps ho;rw [ho] at h
  have:evParts e ps.toList=evParts e' ps.toList:=all?_congr fun p hp=>by rw [h p.2 (by simp only [Op.operands,List.mem_map];exact ⟨p,hp,rfl⟩)]
  rw [this]
 ·rename_i T n ps ho;rw [ho] at h
  have:evParts e ps.toList=evParts e' ps.toList:=all?_congr fun p hp=>by rw [h p.2 (by simp only [Op.operands,List.mem_map];exact ⟨p,hp,rfl⟩)]
  rw [this]
 ·rename_i fn first caps ho;rw [ho] at h
  have:evMakeFunc e fn first caps=evMakeFunc e' fn first caps:=by
   unfold evMakeFunc
   cases fn with
   | func f =>
    simp only
    by_cases hf:first.toList.isEmpty=true
    ·rw [if_pos hf,if_pos hf]
     exact congrArg (fun z:Option (List (Nat × Nat))=>(match z with | some l=>some (PV.s (S.c (C.fn f l))) | none=>none:Option PV)) (all?_congr fun x hx=>by
      rw [h x (by simp only [Op.operands,Array.toList_append,List.mem_append];exact .inr hx)])
    ·rw [if_neg hf,if_neg hf]
     split
     ·rename_i x hfx _
      rw [h x (by simp [Op.operands,hfx])]
     ·rfl
   | _=>rfl
  rw [this]
 ·rename_i x k ho;rw [ho] at h;rw [h x (by simp [Op.operands])]
 ·rename_i s d x ho;rw [ho] at h;rw [cellX_congr (h x (by simp [Op.operands]))]
 ·rename_i op T x y T' ho;rw [ho] at h;rw [cellX_congr (h x (by simp [Op.operands])),cellX_congr (h y (by simp [Op.operands]))]
 ·rename_i args ts ho;rw [ho] at h
  split
  ·rename_i x T hargs hts
   have ha:args=#[x]:=by apply Array.ext';simpa using hargs
   subst ha
   rw [cellX_congr (h x (by simp [Op.operands,Call.operands]))]
  ·rfl
 ·rename_i args ts ho;rw [ho] at h
  split
  ·rename_i s x T T' hargs hts
   have ha:args=#[s,x]:=by apply Array.ext';simpa using hargs
   subst ha
   rw [cellX_congr (h s (by simp [Op.operands,Call.operands])),cellX_congr (h x (by simp [Op.operands,Call.operands]))]
  ·rfl
 ·rename_i args ts ho;rw [ho] at h
  split
  ·rename_i s x T hargs hts
   have ha:args=#[s,x]:=by apply Array.ext';simpa using hargs
   subst ha
   rw [cellX_congr (h s (by simp [Op.operands,Call.operands])),cellX_congr (h x (by simp [Op.operands,Call.operands]))]
  ·rfl
 ·rfl
 ·rename_i T x y ok ho;rw [ho] at h;rw [cellX_congr (h x (by simp [Op.operands])),cellX_congr (h y (by simp [Op.operands]))]
 ·rename_i T x y z ho;rw [ho] at h;rw [cellX_congr (h x (by simp [Op.operands])),cellX_congr (h y (by simp [Op.operands])),cellX_congr (h z (by simp [Op.operands]))]
 ·rename_i T x y z ho;rw [ho] at h;rw [cellX_congr (h x (by simp [Op.operands])),cellX_congr (h y (by simp [Op.operands])),cellX_congr (h z (by simp [Op.operands]))]
 ·rfl
theorem evTarget_congr {e e':Look} {c:Call} (h:∀ x∈c.operands.toList,evX e x=evX e' x):evTarget e c=evTarget e' c:=by
 unfold evTarget
 obtain ⟨cl,args,ts⟩:=c
 cases cl with
 | value f =>
  simp only
  rw [cellX_congr (h f (by simp [Call.operands])),all?_congr (f:=evX e) (g:=evX e') fun x hx=>h x (by simp only [Call.operands];simp;exact .inr (by simpa using hx))]
 | _=>rfl
theorem evStep_congr {ev:CallE} {e e':Look} {st:St} {o:Oper} (h:∀ x∈o.op.operands.toList,evX e x=evX e' x):evStep P ev e st o=evStep P ev e' st o:=by
 have h1:=evOp_congr (P:=P) (st:=st) h
 rw [evStep_old,evStep_old]
 unfold evStepO
 split
 ·rename_i c ho
  rw [ho] at h
  split
  ·exact h1
  ·rw [evTarget_congr (e:=e) (e':=e') h]
 ·exact h1
end Ev
end Go.Proofs.Ytcpodmjcgfgmnaa
