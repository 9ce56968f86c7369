/- Ev: crc.Sum as one step. -/
import Derived.Test.YtepianllbfnpoaaGreatMEve
import Derived.Test.YtepianllbfnpoaaGreatCrc
namespace Go.Proofs.YtepianllbfnpoaaGreat
open Go.RowKit
namespace Ev
def natC : C → Option Nat
  | .flat (.int .u8 (.ofNat n)) => if Nat.blt n 256 then some n else none
  | _ => none
theorem natC_spec {c : C} {n : Nat} (h : natC c = some n) : c = .flat (.int .u8 (n : Int)) ∧ n < 256 := by
  unfold natC at h
  split at h
  · split at h
    · rename_i hb
      cases h
      exact ⟨rfl, by simpa [Nat.blt_eq] using hb⟩
    · cases h
  · cases h
def crcOrc : CallE := fun F pvs st => if F = 161 then (match pvs with
    | [.s (.c (.sl i off len sz))] => match evCells st (.sl i off len sz) with
      | some (cs, _n) => match all? natC cs with
        | some l => if len = l.length ∧ 0 < len ∧ len ≤ 140737488351232 then some (.s (.c (.flat (.int .u32 (Crc.sum l : Int)))), st) else none
        | none => none
      | none => none
    | _ => none) else none
theorem crcOrc_ok : CallOk Tryz.prog crcOrc := by
  intro F pvs st r st' m w args h hs ha
  unfold crcOrc at h
  split at h
  · rename_i hF
    subst hF
    split at h
    · rename_i i off len sz
      obtain ⟨v, rfl, hv⟩ : ∃ v, args = [v] ∧ VP m (.s (.c (.sl i off len sz))) v := by
        obtain ⟨hl, hh⟩ := ha
        match args, hl with
        | [v], _ => exact ⟨v, rfl, hh 0 _ v rfl rfl⟩
      have hv : VC m (.sl i off len sz) v := hv
      split at h
      · rename_i cs n hcs
        split at h
        · rename_i l hl
          split at h
          · rename_i hh
            obtain ⟨hlen, h0, hmx⟩ := hh
            cases h
            obtain ⟨ad, cap, vs, hsv, hall, hmem, _⟩ := evCells_spec hs hv hcs
            obtain ⟨p, cap', hm, hsv', _⟩ := hv
            rw [hsv] at hsv'
            cases hsv'
            have hl2 := all?_spec hl
            have hcl : cs.length = l.length := hl2.1
            have hlt : ∀ x ∈ l, x < 256 := fun x hx => by
              obtain ⟨j, hj, rfl⟩ := List.mem_iff_getElem.1 hx
              exact (natC_spec (hl2.2 j cs[j] l[j] (by simp) (by simp))).2
            have hb : Bytes w (.slice (some ⟨p.b, p.o + off, none⟩) len cap) (l.map UInt8.ofNat) := by
              refine ⟨_, cap, by rw [List.length_map, hlen], by rw [List.length_map]; omega, by simp, fun j hj => ?_⟩
              rw [List.length_map] at hj
              have hjc : j < cs.length := by omega
              have hjv : j < vs.length := by rw [← hall.1]; exact hjc
              have hc := natC_spec (hl2.2 j cs[j] l[j] (by simp) (by simp))
              have hvj := hall.2 j cs[j] vs[j] (by simp) (by simp)
              rw [hc.1] at hvj
              have hcell := hmem _ rfl j vs[j] (by simp)
              rw [Addr.add_lit, hvj.1] at hcell
              refine ⟨p.b, p.o + off, rfl, World.block_lt_of_cell? w _ hcell, ?_⟩
              rw [hcell]
              have : (l.map UInt8.ofNat).getD j 0 = UInt8.ofNat l[j] := by simp [hj]
              rw [this, u8v, UInt8.toNat_ofNat', Nat.mod_eq_of_lt hc.2]
            have hbs : (l.map UInt8.ofNat).map (·.toNat) = l := by
              rw [List.map_map]
              conv => rhs; rw [← List.map_id l]
              refine List.map_congr_left fun x hx => ?_
              show (UInt8.ofNat x).toNat = x
              rw [UInt8.toNat_ofNat', Nat.mod_eq_of_lt (hlt x hx)]
            have hc := crc_sum _ _ w hb
            rw [hbs] at hc
            rw [hsv]
            refine hc.mono ?_
            rintro e w' ⟨rfl, rfl⟩
            exact ⟨_, m, rfl, ⟨rfl, rfl⟩, Res.refl hs⟩
          · cases h
        · cases h
      · cases h
    · cases h
  · cases h
end Ev
end Go.Proofs.YtepianllbfnpoaaGreat
