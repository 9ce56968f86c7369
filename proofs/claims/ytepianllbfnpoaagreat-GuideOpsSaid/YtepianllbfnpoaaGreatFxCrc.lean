/- Fx: crc.Sum as one step. -/
import Derived.Test.YtepianllbfnpoaaGreatFx8
import Derived.Test.YtepianllbfnpoaaGreatEvCrc
namespace Go.Proofs.YtepianllbfnpoaaGreat
open Go.RowKit Ev
namespace Fx
variable {β : Type}
theorem crcOrc_keep : CallKeep crcOrc := fun F pvs st r st' h => by
  unfold crcOrc at h
  repeat' split at h
  all_goals cases h
  all_goals exact Keep.refl _
/-- so many rounds of one bit -/
def turn (s : Nat) : Nat := Nat.xor (s / 2) (s % 2 * 3988292384)
def turns : Nat → Nat → Nat
  | 0, s => s
  | n + 1, s => turns n (turn s)
theorem turn_eq (s : Nat) : turn s = Crc.step s := by
  unfold turn Crc.step
  split
  · rename_i h; rw [h, Nat.one_mul]
  · rename_i h
    have : s % 2 = 0 := by omega
    rw [this, Nat.zero_mul]
    exact Nat.xor_zero _
theorem turns_eq : ∀ (n s : Nat), turns n s = Crc.rounds n s
  | 0, _ => rfl
  | n + 1, s => by rw [turns, turn_eq, turns_eq n]; rfl
def force (n : Nat) (k : Nat → Nat) : Nat := match n with
  | 0 => k 0
  | m + 1 => k (m + 1)
theorem force_eq (n : Nat) (k : Nat → Nat) : force n k = k n := by cases n <;> rfl
def eight (z : Nat) : Nat := turn (turn (turn (turn (turn (turn (turn (turn z)))))))
theorem eight_eq (z : Nat) : eight z = Crc.rounds 8 z := by
  rw [← turns_eq]
  simp only [eight, turns]
def rowSum (X : Nat) : Nat → Nat → Nat → Nat
  | 0, _, s => s
  | n + 1, j, s => force (eight (Nat.xor s (bget X j))) fun s' => rowSum X n (j + 1) s'
theorem rowSum_succ (X n j s : Nat) : rowSum X (n + 1) j s = rowSum X n (j + 1) (eight (Nat.xor s (bget X j))) := force_eq _ _
theorem rowSum_eq (X : Nat) (n : Nat) : ∀ (j s : Nat), rowSum X n j s = Crc.sumFrom s ((List.range' j n).map (bget X)) := by
  induction n with
  | zero => intro j s; rfl
  | succ n ih =>
    intro j s
    rw [rowSum_succ, ih, eight_eq, List.range'_succ, List.map_cons]
    generalize List.map (bget X) (List.range' (j + 1) n) = l
    generalize bget X j = b
    rfl
theorem natC_byC (X j : Nat) : natC (byC X j) = some (bget X j) := by
  have h : Nat.blt (bget X j) 256 = true := by rw [Nat.blt_eq]; exact bget_lt X j
  unfold byC natC
  simp only [h, if_true]
theorem all_nat : ∀ (l : List Nat) (X : Nat), all? natC (l.map (byC X)) = some (l.map (bget X))
  | [], _ => rfl
  | j :: r, X => by simp only [List.map_cons, all?, natC_byC, all_nat r X]
def crcStep (args : List FV) (fs : FSt) (k : Kont β) : Option β := match args with
  | [.c (.s i off len sz)] => srcF fs (.s i off len sz) fun ch _m => (match ch with
    | .bs n X => if Nat.beq len n && (Nat.ble 1 len && Nat.ble len 140737488351232) then k (.c (.k .u32 (4294967295 - rowSum X n 0 4294967295))) fs else none
    | _ => none)
  | _ => none
def crcOrcF : Orc β := fun F => if Nat.beq F 161 then some crcStep else none
theorem crcOrcF_ok : OrcOk (β := β) crcOrc crcOrcF := by
  refine ⟨fun F h a st => ?_, fun F g h args fs k r hok hr => ?_⟩
  · unfold crcOrcF at h
    split at h
    · cases h
    · rename_i hF
      unfold crcOrc
      rw [if_neg (by simpa using hF)]
  · unfold crcOrcF at h
    split at h
    · rename_i hF
      have hF : F = 161 := by simpa using hF
      cases h
      unfold crcStep at hr
      split at hr
      · rename_i i off len sz
        obtain ⟨ch, m, e1, e2⟩ := srcF_spec hr
        split at e2
        · rename_i n X
          split at e2
          · rename_i hc
            simp only [Bool.and_eq_true, Nat.beq_eq, Nat.ble_eq] at hc
            obtain ⟨rfl, h1, h2⟩ := hc
            refine ⟨_, fs, hok, ?_, e2⟩
            unfold crcOrc
            rw [if_pos hF]
            have e1 : evCells fs.st (.sl i off len sz) = some (byL len X, m) := e1
            simp only [List.map_cons, List.map_nil, Fx.abs, absC, e1]
            have e3 : all? natC (byL len X) = some ((List.range len).map (bget X)) := all_nat _ _
            rw [e3]
            simp only
            rw [if_pos (by simp; omega)]
            have e4 : Crc.sum ((List.range len).map (bget X)) = 4294967295 - rowSum X len 0 4294967295 := by
              rw [rowSum_eq, ← List.range_eq_range']; rfl
            rw [e4]; rfl
          · cases e2
        · cases e2
      · cases hr
    · cases h
end Fx
end Go.Proofs.YtepianllbfnpoaaGreat
