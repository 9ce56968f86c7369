/- Ev: what a step does hangs on its operands alone. No program. -/
import Derived.Test.YtcpodmjcgfgmnaaGreatEv8
namespace Go.Proofs.YtcpodmjcgfgmnaaGreat
open Go.RowKit
namespace Ev
variable {P:Program}
theorem Qd4 {α β:Type} {f g:α→Option β}:∀ {xs:List α},(∀ x∈xs,f x=g x)→all? f xs=all? g xs
 | [],_=>rfl
 | x :: r,h=>by
  simp only [all?];rw [h x (by simp),Qd4 fun y hy=>h y (by simp [hy])]
theorem Qam {e e':Look} {x:Operand} (h:evX e x=evX e' x):Qau e x=Qau e' x:=by unfold Qau;rw [h]
theorem Qg1 {e e':Look} {d:Nat} {x:Option Operand} (h:∀ y,x=some y→evX e y=evX e' y):Qbn e d x=Qbn e' d x:=by
 cases x with
 | none=>rfl
 | some y=>simp only [Qbn];rw [h y rfl]
theorem Qmy {e e':Look} {T:TypeId} {lo hi:Option Operand} {c:C} (h1:∀ y,lo=some y→evX e y=evX e' y) (h2:∀ y,hi=some y→evX e y=evX e' y):Qcn P e T lo hi c=Qcn P e' T lo hi c:=by
 unfold Qcn;simp only [Qg1 h1,Qg1 h2]
theorem Qqz {e e':Look} {o:Oper} (h:∀ x∈o.op.operands.toList,evX e x=evX e' x):Qel P e o=Qel P e' o:=by
 have hv:∀ x∈o.op.operands.toList,valX e x=valX e' x:=fun x hx=>by unfold valX;rw [h x hx]
 unfold Qel;have h1:(o.op.operands.toList.all fun x=>(valX e x).isSome)=(o.op.operands.toList.all fun x=>(valX e' x).isSome):=by
  rw [Bool.eq_iff_iff];simp only [List.all_eq_true];exact ⟨fun k x hx=>by rw [← hv x hx];exact k x hx,fun k x hx=>by rw [hv x hx];exact k x hx⟩
 rw [h1];cases hk:Qq2 o.op with
 | false=>simp
 | true =>
  rw [Qlb (ρ:=rho e) (ρ':=rho e') hk fun x hx=>by unfold rho;rw [hv x hx]]
theorem Qt8 {e e':Look} {st:St} {o:Oper} (h:∀ x∈o.op.operands.toList,evX e x=evX e' x):evOp P e st o=evOp P e' st o:=by
 have hd:Qel P e o=Qel P e' o:=Qqz h;unfold evOp;rw [hd];generalize Qel P e' o=D;clear hd;split
 ·rename_i x ho;rw [ho] at h;rw [h x (by simp [Op.operands])]
 ·rename_i x ho;rw [ho] at h;rw [h x (by simp [Op.operands])]
 ·rename_i c x y ho;rw [ho] at h;rw [Qam (h c (by simp [Op.operands]))];split
  ·rename_i t _;cases t
   ·simp only [Bool.false_eq_true,if_false];rw [h y (by simp [Op.operands])]
   ·simp only [if_true];rw [h x (by simp [Op.operands])]
  ·rfl
 ·rfl
 ·rename_i T x ho;rw [ho] at h;rw [h x (by simp [Op.operands])]
 ·rename_i T x ho;rw [ho] at h;rw [Qam (h x (by simp [Op.operands]))]
 ·rename_i T x y ho;rw [ho] at h;rw [Qam (h x (by simp [Op.operands])),h y (by simp [Op.operands])]
 ·rename_i x ho;rw [ho] at h;rw [Qam (h x (by simp [Op.operands]))]
 ·rename_i T x f ho;rw [ho] at h;rw [Qam (h x (by simp [Op.operands]))]
 ·rename_i T x f ho;rw [ho] at h;rw [h x (by simp [Op.operands])]
 ·rename_i T x y ho;rw [ho] at h;rw [Qam (h x (by simp [Op.operands])),Qam (h y (by simp [Op.operands]))]
 ·rename_i T x y ho;rw [ho] at h;rw [h x (by simp [Op.operands]),Qam (h y (by simp [Op.operands]))]
 ·rename_i T x lo hi ho;rw [ho] at h;rw [Qam (h x (by simp [Op.operands]))];have e1:∀ c,Qcn P e T lo hi c=Qcn P e' T lo hi c:=fun c=>Qmy (fun y hy=>h y (by simp [Op.operands,hy])) (fun y hy=>h y (by simp [Op.operands,hy]));simp only [e1]
 ·rename_i T x y ho;rw [ho] at h;rw [Qam (h x (by simp [Op.operands])),Qam (h y (by simp [Op.operands]))]
 ·rename_i T ps ho;rw [ho] at h;have:Qde e ps.toList=Qde e' ps.toList:=Qd4 fun p hp=>by rw [h p.2 (by simp only [Op.operands,List.mem_map];exact ⟨p,hp,rfl⟩)]
  rw [this]
 ·rename_i T n ps ho;rw [ho] at h;have:Qde e ps.toList=Qde e' ps.toList:=Qd4 fun p hp=>by rw [h p.2 (by simp only [Op.operands,List.mem_map];exact ⟨p,hp,rfl⟩)]
  rw [this]
 ·rename_i fn first caps ho;rw [ho] at h
  have:Qc7 e fn first caps=Qc7 e' fn first caps:=by
   unfold Qc7;cases fn with
   | func f =>
    simp only;by_cases hf:first.toList.isEmpty=true
    ·rw [if_pos hf,if_pos hf];exact congrArg (fun z:Option (List (Nat × Nat))=>(match z with | some l=>some (PV.s (S.c (C.fn f l))) | none=>none:Option PV)) (Qd4 fun x hx=>by
      rw [h x (by simp only [Op.operands,Array.toList_append,List.mem_append];exact .inr hx)])
    ·rw [if_neg hf,if_neg hf];split
     ·rename_i x hfx _;rw [h x (by simp [Op.operands,hfx])]
     ·rfl
   | _=>rfl
  rw [this]
 ·rename_i x k ho;rw [ho] at h;rw [h x (by simp [Op.operands])]
 ·rename_i s d x ho;rw [ho] at h;rw [Qam (h x (by simp [Op.operands]))]
 ·rename_i op T x y T' ho;rw [ho] at h;rw [Qam (h x (by simp [Op.operands])),Qam (h y (by simp [Op.operands]))]
 ·rename_i args ts ho;rw [ho] at h;split
  ·rename_i x T hargs hts;have ha:args=#[x]:=by apply Array.ext';simpa using hargs
   subst ha;rw [Qam (h x (by simp [Op.operands,Call.operands]))]
  ·rfl
 ·rename_i args ts ho;rw [ho] at h;split
  ·rename_i s x T T' hargs hts;have ha:args=#[s,x]:=by apply Array.ext';simpa using hargs
   subst ha;rw [Qam (h s (by simp [Op.operands,Call.operands])),Qam (h x (by simp [Op.operands,Call.operands]))]
  ·rfl
 ·rfl
 ·rename_i T x y ok ho;rw [ho] at h;rw [Qam (h x (by simp [Op.operands])),h y (by simp [Op.operands])]
 ·rename_i T x y z ho;rw [ho] at h;rw [Qam (h x (by simp [Op.operands])),h y (by simp [Op.operands]),Qam (h z (by simp [Op.operands]))]
 ·rename_i T x y z ho;rw [ho] at h;rw [Qam (h x (by simp [Op.operands])),h y (by simp [Op.operands]),Qam (h z (by simp [Op.operands]))]
 ·rfl
theorem Qkh {e e':Look} {c:Call} (h:∀ x∈c.operands.toList,evX e x=evX e' x):Qce e c=Qce e' c:=by
 unfold Qce;obtain ⟨cl,args,ts⟩:=c;cases cl with
 | value f =>
  simp only;rw [Qam (h f (by simp [Call.operands])),Qd4 (f:=evX e) (g:=evX e') fun x hx=>h x (by simp only [Call.operands];simp;exact .inr (by simpa using hx))]
 | _=>rfl
theorem Qhz {ev:Qav} {e e':Look} {st:St} {o:Oper} (h:∀ x∈o.op.operands.toList,evX e x=evX e' x):Qbd P ev e st o=Qbd P ev e' st o:=by
 have h1:=Qt8 (P:=P) (st:=st) h;rw [Qbb,Qbb];unfold Qcf;split
 ·rename_i c ho;rw [ho] at h;split
  ·exact h1
  ·rw [Qkh (e:=e) (e':=e') h]
 ·exact h1
end Ev
end Go.Proofs.YtcpodmjcgfgmnaaGreat
