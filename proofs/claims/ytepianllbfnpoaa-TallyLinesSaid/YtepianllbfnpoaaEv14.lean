/- Ev: a function's code, run on what is known of its values. Fourteenth part: calls that are handed no memory. No program. -/
import Derived.Test.YtepianllbfnpoaaEv13
namespace Go.Proofs.Ytepianllbfnpoaa
open Go.RowKit
namespace Ev
variable {P : Program}

def noOrc : CallE := fun _ _ _ => none
theorem noOrc_keep : CallKeep noOrc := fun F pvs st r st' h => by cases h
theorem noOrc_ok : CallOk P noOrc := fun F pvs st r st' m w args h => by cases h
theorem sr_nil (w : World) : SR (fun _ => none) [] w := ⟨(fun i p h => by cases h), (fun i p o h => by cases h), (fun i j p q o o' h => by cases h)⟩
theorem grow_of_res {st : St} {w w' : World} {m' : M} (h : Res (fun _ => none) ⟨[], 0⟩ w m' st w') : Flow.Grow w w' :=
  ⟨h.fr.os, h.fr.tape, h.fr.output, h.fr.size, fun b hb _ => h.fr.keep b hb fun i p _ _ h => by cases h⟩
/-- a call that is handed no memory, run through -/
theorem closed_calls (hN : NoCount P) (hM : P.follows .mixedOrders = true) {orc : CallE} (horc : CallOk P orc) (hork : CallKeep orc) {N n : Nat} {F : FuncId} {pvs : List PV} {v : Value} {st : St} (h : evFun P orc N n F pvs ⟨[], 0⟩ = some (.s (.c (.flat v)), st))
    {args : List Value} (hargs : All2 (VP fun _ => none) pvs args) (w : World) : Calls P F args.toArray w fun e w' => e = .returned v ∧ Flow.Grow w w' :=
  (fun_ok hN hM horc hork N n F pvs ⟨[], 0⟩ _ st (fun _ => none) w args h (sr_nil w) hargs).mono fun e w' ⟨u, m', he, hv, hres⟩ => by
    obtain ⟨rfl, _⟩ : u = v ∧ _ := hv
    exact ⟨he, grow_of_res hres⟩
theorem noCount_of (h : (P.funcs.toList.all fun f => !(f.name == "runtime.NumGoroutine")) = true) : NoCount P := fun f fn hf => by
  have hm : fn ∈ P.funcs.toList := by have := Array.mem_of_getElem? hf; simpa using this
  have := List.all_eq_true.1 h fn hm
  simpa using this
/-- an int's low bits -/
theorem vp_low (k : Nat) (n : Int) : ∃ r, r < 2 ^ k ∧ ∀ m : M, VP m (.s (.c (.low k r))) (.int .i64 n) := by
  have hp : (0 : Int) < ((2 ^ k : Nat) : Int) := by have := Nat.two_pow_pos k; omega
  have h0 := Int.emod_nonneg n (Int.ne_of_gt hp)
  have h1 := Int.emod_lt_of_pos n hp
  exact ⟨(n % ((2 ^ k : Nat) : Int)).toNat, by omega, fun m => ⟨n, rfl, by omega⟩⟩
end Ev
end Go.Proofs.Ytepianllbfnpoaa
