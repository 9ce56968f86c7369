/- Ev: append of n noughts (gc's append of a make). No program. -/
import Derived.Test.YtmjonmahecdngaaEv6
import Derived.Lib.AppendZerosOnto
namespace Go.Proofs.Ytmjonmahecdngaa
open Go.RowKit
namespace Ev
variable {P : Program}

theorem run_append_room_zeros (w : World) (t tn ty e : TypeId) (i : TypeInfo) (z : Value) (kq kn : IntKind) (ht : P.underlying t = some (.slice e)) (htn : P.underlying tn = some (.int kn)) (hi : P.info? e = some i) (hz : i.zero = some z) (hs : 0 < i.size) (hzs : z.cells.size = i.size)
    (g off sLen sCap : Nat) (cur : Array Value) (hg : w.heap[g]? = some (.cells cur e (0, 0))) (k : Nat) (h0 : 0 < k) (h63 : (k : Int) ≤ 9223372036854775807) (h48 : k * i.bytes ≤ 281474976710656)
    (h1 : ∀ u ∈ (Builtin.zeroCells z.cells k).toList, u.oneCell' = true) (hroom : sLen + k ≤ sCap) (hfit : off + sLen * i.size + k * i.size ≤ cur.size) :
    (Builtin.append_ #[t, tn] ty #[.slice (some ⟨g, off, none⟩) sLen sCap, .int kq k]).run P w =
      .ok (.slice (some ⟨g, off, none⟩) (sLen + k) sCap) (w.setRow g (cur.toList.take (off + sLen * i.size) ++ (Builtin.zeroCells z.cells k).toList ++ cur.toList.drop (off + sLen * i.size + (Builtin.zeroCells z.cells k).toList.length)).toArray) := by
  have hst := run_storeCells_at P g (off + sLen * i.size) e (Builtin.zeroCells z.cells k).toList 0 cur w hg (by simp only [Array.length_toList, size_zeroCells, hzs]; omega) h1
  simp only [Nat.add_zero] at hst
  have hk : k ≠ 0 := by omega
  have hw : IntKind.i64.wrap (k : Int) = k := by rw [IntKind.wrap_i64]; omega
  have h48i : ¬ (281474976710656 < (k : Int) * (i.bytes : Int)) := by
    rw [← Int.natCast_mul]
    omega
  have hneg : ¬ ((k : Int) < 0) := by omega
  have hns : ¬ (k * i.size = 0) := Nat.mul_ne_zero hk (by omega)
  simp only [Array.length_toList] at hst
  simp [Builtin.append_, run_underlying ht, run_underlying htn, sizeOf, typeInfo, zeroValue, hi, hz, asInt, asIntOf, hw, hneg, hns, h48i, hroom, Addr.add_lit, hst]

variable (P)
def isIntT (T : TypeId) : Bool := match P.underlying T with
  | some (.int _) => true
  | _ => false
def evAppendZ (st : St) (T Tn : TypeId) (s x : C) : Option (PV × St) :=
  match P.underlying T, x with
  | some (.slice el), .flat (.int _ n) => match P.info? el with
    | none => none
    | some inf => match inf.zero with
      | none => none
      | some z => match z.cells.toList with
        | [v] => match ofCell v with
          | none => none
          | some c => if ¬ (inf.size = 1 ∧ isIntT P Tn = true ∧ 0 < n ∧ n ≤ 9223372036854775807) then none else match s with
            | .sl i off len sz => match st.h[i]? with
              | none => none
              | some o => if o.live = true ∧ o.rw = true ∧ o.ty = el ∧ off = 0 ∧ sz = 1 ∧ o.cells.length = len ∧ len + n.toNat ≤ maxLen ∧ (len + n.toNat) * inf.bytes ≤ 140737488355328 then
                  some (.s (.c (.sl st.h.length 0 (len + n.toNat) 1)), ⟨st.h.set i { o with live := false, cells := [] } ++ [⟨o.cells ++ List.replicate n.toNat c, el, true, true, false⟩], min st.lo i⟩) else none
            | _ => none
        | _ => none
  | _, _ => none
variable {P}
theorem exec_appendZ {a : Act} {o : Oper} {s x : Operand} {T Tn : TypeId} (ho : o.op = .call { callee := .builtin .append, args := #[s, x], argTypes := #[T, Tn] }) {w w' : World} {v : Value}
    (h : (Builtin.append_ #[T, Tn] o.type #[a.eval s, a.eval x]).run P w = .ok v w') : (execOp a.eval o).run P w = .ok (.value v) w' := by
  simp [execOp, ho, resolve, invoke, builtin, h]
theorem zeroCells_one (v : Value) (z : Array Value) (hz : z.toList = [v]) (n : Nat) : (Builtin.zeroCells z n).toList = List.replicate n v := by
  have : z = #[v] := by apply Array.ext'; simpa using hz
  subst this
  apply List.ext_getElem
  · simp [size_zeroCells]
  · intro i h1 h2
    simp [Builtin.zeroCells, Nat.mod_one]
theorem appendZ_spec {m : M} {st st' : St} {w : World} {a : Act} {e : Look} {o : Oper} {T Tn : TypeId} {s x : Operand} {cs cx : C} {pv : PV} (hs : SR m st.h w) (he : EL m e a) (ho : o.op = .call { callee := .builtin .append, args := #[s, x], argTypes := #[T, Tn] })
    (hsx : evX e s = some (.s (.c cs))) (hxx : evX e x = some (.s (.c cx))) (h : evAppendZ P st T Tn cs cx = some (pv, st')) : Does P m st w a o pv st' := by
  have hcs : VC m cs (a.eval s) := evX_spec he hsx
  have hcx : VC m cx (a.eval x) := evX_spec he hxx
  unfold evAppendZ at h
  split at h
  · rename_i el kq n hu
    have hxv : a.eval x = .int kq n := hcx.1
    split at h
    · cases h
    rename_i inf hi
    split at h
    · cases h
    rename_i z hz
    split at h
    · rename_i v hzv
      split at h
      · cases h
      rename_i c hc
      split at h
      · cases h
      rename_i hg
      have hg := Decidable.of_not_not hg
      obtain ⟨hsz, htn, hn0, hn63⟩ := hg
      obtain ⟨kn, htn⟩ : ∃ kn, P.underlying Tn = some (.int kn) := by
        unfold isIntT at htn
        split at htn
        · exact ⟨_, by assumption⟩
        · cases htn
      obtain ⟨k, rfl⟩ : ∃ k : Nat, n = k := ⟨n.toNat, by omega⟩
      simp only [Int.toNat_natCast] at h
      have hk0 : 0 < k := by omega
      have hzs : z.cells.size = inf.size := by rw [hsz, ← Array.length_toList, hzv]; rfl
      have hzl := zeroCells_one v z.cells hzv
      have hvc : VC m c v := ofCell_spec hc
      have hone : ∀ u ∈ (Builtin.zeroCells z.cells k).toList, u.oneCell' = true := fun u hu' => by
        rw [hzl] at hu'
        rw [List.eq_of_mem_replicate hu']
        exact hvc.one
      have hall : All2 (VC m) (List.replicate k c) (List.replicate k v) := ⟨by simp, fun j c' v' h1 h2 => by
        have e1 := List.eq_of_mem_replicate (List.mem_of_getElem? h1)
        have e2 := List.eq_of_mem_replicate (List.mem_of_getElem? h2)
        subst e1; subst e2; exact hvc⟩
      split at h
      · rename_i i off len sz
        split at h
        · cases h
        rename_i ob hob
        split at h
        · rename_i hh
          obtain ⟨hl, hrw, rfl, rfl, rfl, hcl, hmx, hbt⟩ := hh
          cases h
          obtain ⟨p, sc, hm, hsv, hle, hsm, hcap⟩ := hcs
          obtain ⟨cur, fr, hb, hcz, hpl, hcell, hf⟩ := hs.obj i p ob hm hob hl
          obtain rfl := hf.1 hrw
          simp only [Nat.mul_one, Nat.add_zero] at hsv hcap
          have holen : ((cur.toList.drop p.o).take len).length = len := by simp; omega
          have hov : ∀ (j : Nat) v, ((cur.toList.drop p.o).take len)[j]? = some v → cur[p.o + j]? = some v := fun j v hv => by
            rw [List.getElem?_take] at hv
            split at hv
            · rw [List.getElem?_drop] at hv; simpa using hv
            · cases hv
          have hold : All2 (VC m) ob.cells ((cur.toList.drop p.o).take len) := ⟨by rw [holen, hcl], fun j c v hc hv => by
            obtain ⟨u, hu', hvc⟩ := hcell j c hc
            rw [hov j v hv] at hu'; cases hu'; exact hvc⟩
          have hkb : k * inf.bytes ≤ (len + k) * inf.bytes := Nat.mul_le_mul_right _ (by omega)
          by_cases hroom : len + k ≤ sc
          · have hr := run_append_room_zeros (P := P) w T Tn o.type ob.ty inf z kq kn hu htn hi hz (by omega) hzs p.b p.o len sc cur hb k hk0 hn63 (by omega) hone hroom (by rw [hsz, hcz]; omega)
            rw [hsz, hzl, Nat.mul_one, List.length_replicate] at hr
            obtain ⟨r1, r2, r3⟩ := room_cells (k := p.o + len) hold hov hall (by rw [holen]) (by rw [List.length_replicate, hcz]; omega)
            rw [List.length_replicate] at r1 r2 r3
            have hres := Res.room hs hm hob hl hrw hb (ob.cells ++ List.replicate k c) _ r1 ⟨p.b, p.o, p.n⟩ rfl rfl r2 r3
            refine ⟨_, .slice (some ⟨p.b, p.o, none⟩) (len + k) sc, _, _, exec_appendZ ho (by rw [hsv, hxv]; exact hr), .inl rfl, ?_, hres⟩
            exact ⟨_, sc, put_same _ _ _, rfl, hroom, hsm, by simpa using hcap⟩
          · have hholds : ∀ j v, ((cur.toList.drop p.o).take len)[j]? = some v → w.drew.cell? ((⟨p.b, p.o, none⟩ : Addr).add j) = some v := fun j v hv => by
              have : w.cell? ((⟨p.b, p.o, none⟩ : Addr).add j) = some v := by
                rw [Addr.add_lit, cell_of_row w p.b _ cur _ _ hb]
                exact hov j v hv
              simpa using this
            have hfo := run_firstCells_some (P := P) w.drew inf.size len ⟨p.b, p.o, none⟩ len sc ((cur.toList.drop p.o).take len) (by rw [holen, hsz, Nat.mul_one]) hholds
            have hr := Go.Lib.run_append_grow_zeros (P := P) w T Tn o.type ob.ty inf z kq kn hu htn hi hz (some ⟨p.b, p.o, none⟩) len sc ((cur.toList.drop p.o).take len) hfo k hk0 (by omega) (by omega) (by simp only [maxLen] at hmx; omega) (by omega) (growslice_fits (by omega) hbt)
            have hres := (Res.killed hs hob).draw' (Res.alloc ((hs.kill i ob hob).drew) (ob.cells ++ List.replicate k c) ((cur.toList.drop p.o).take len ++ List.replicate k v) ob.ty (hold.append hall) (Builtin.zeroCells z.cells (grownCap w (len + k) sc ob.ty - (len + k))).toList false (fun h => by cases h))
            have e1 : ((cur.toList.drop p.o).take len ++ List.replicate k v ++ (Builtin.zeroCells z.cells (grownCap w (len + k) sc ob.ty - (len + k))).toList).toArray = ((cur.toList.drop p.o).take len).toArray ++ Builtin.zeroCells z.cells k ++ Builtin.zeroCells z.cells (grownCap w (len + k) sc ob.ty - (len + k)) := by apply Array.ext'; simp [hzl]
            rw [e1] at hres
            simp only [List.length_set] at hres
            refine ⟨_, .slice (some ⟨w.heap.size, 0, none⟩) (len + k) (grownCap w (len + k) sc ob.ty), _, _, exec_appendZ ho (by rw [hsv, hxv]; exact hr), .inl rfl, ?_, hres⟩
            have hg := grownCap_ge w (len + k) sc ob.ty
            refine ⟨_, grownCap w (len + k) sc ob.ty, put_same _ _ _, rfl, hg, grownCap_le_maxLen w (len + k) sc ob.ty hmx, ?_⟩
            simp only [Nat.zero_add, Array.length_toList, size_zeroCells, hzs, hsz, List.length_append, holen, List.length_replicate, Nat.add_zero, Nat.mul_one]
            omega
        · cases h
      · cases h
    · cases h
  · cases h
end Ev
end Go.Proofs.Ytmjonmahecdngaa
