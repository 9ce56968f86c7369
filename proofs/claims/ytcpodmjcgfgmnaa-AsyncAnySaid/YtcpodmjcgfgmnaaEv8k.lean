/- Ev: what a step leaves of the objects that it was not said to write. No program. -/
import Derived.Test.YtcpodmjcgfgmnaaEv8
namespace Go.Proofs.Ytcpodmjcgfgmnaa
open Go.RowKit
namespace Ev
variable {P:Program}
structure Keep (st st':St):Prop where
 len:st.h.length≤st'.h.length
 lo:st'.lo≤st.lo
 old:∀ i,i < st.h.length→i < st'.lo→st'.h[i]?=st.h[i]?
theorem Keep.refl (st:St):Keep st st:=⟨Nat.le_refl _,Nat.le_refl _,fun _ _ _=>rfl⟩
theorem Keep.trans {a b c:St} (h:Keep a b) (k:Keep b c):Keep a c :=
 ⟨Nat.le_trans h.len k.len,Nat.le_trans k.lo h.lo,fun i hi hl=>(k.old i (Nat.lt_of_lt_of_le hi h.len) hl).trans (h.old i hi (Nat.lt_of_lt_of_le hl k.lo))⟩
theorem Keep.push (h:List O) (lo:Nat) (o:O):Keep ⟨h,lo⟩ ⟨h++[o],lo⟩ :=
 ⟨by simp,Nat.le_refl _,fun i hi _=>List.getElem?_append_left hi⟩
theorem Keep.set (h:List O) (lo i:Nat) (o:O):Keep ⟨h,lo⟩ ⟨h.set i o,min lo i⟩ :=
 ⟨by simp,Nat.min_le_left _ _,fun j _ hl=>List.getElem?_set_ne (by have:j < min lo i:=hl;omega)⟩
theorem Keep.setPush (h:List O) (lo i:Nat) (o o':O):Keep ⟨h,lo⟩ ⟨h.set i o++[o'],min lo i⟩ :=
 (Keep.set h lo i o).trans (Keep.push _ _ o')
theorem dry_keep {e:Look} {st st':St} {o:Oper} {pv:PV} (h:(match evDry P e o with | some pv=>some (pv,st) | none=>none)=some (pv,st')):Keep st st':=by
 split at h
 ·cases h;exact Keep.refl _
 ·cases h
theorem alloc_keep {st st':St} {T:TypeId} {pv:PV} (h:evAlloc P st T=some (pv,st')):Keep st st':=by
 unfold evAlloc at h
 repeat' split at h
 all_goals cases h
 exact Keep.push _ _ _
theorem box_keep {st st':St} {T:TypeId} {u pv:PV} (h:evBox st T u=some (pv,st')):Keep st st':=by
 unfold evBox at h
 repeat' split at h
 all_goals cases h
 exact Keep.push _ _ _
theorem store_keep {st st':St} {T:TypeId} {i off:Nat} {s:S} (h:evStore P st T i off s=some st'):Keep st st':=by
 unfold evStore at h
 repeat' split at h
 all_goals cases h
 exact Keep.set _ _ _ _
theorem make_keep {st st':St} {T:TypeId} {l c:Int} {pv:PV} (h:evMake P st T l c=some (pv,st')):Keep st st':=by
 unfold evMake at h
 repeat' split at h
 all_goals cases h
 exact Keep.push _ _ _
theorem buildSlice_keep {st st':St} {T:TypeId} {n:Nat} {ps:List (Nat × S)} {pv:PV} (h:evBuildSlice P st T n ps=some (pv,st')):Keep st st':=by
 unfold evBuildSlice at h
 repeat' split at h
 all_goals cases h
 exact Keep.push _ _ _
theorem mark_keep {st st':St} {c:C} {pv:PV} (h:evMark st c=some (pv,st')):Keep st st':=by
 unfold evMark at h
 repeat' split at h
 all_goals cases h
 exact Keep.setPush _ _ _ _ _
theorem bytes_keep {st st':St} {el:TypeId} {l:List UInt8} {pv:PV} (h:evBytes st el l=some (pv,st')):Keep st st':=by
 unfold evBytes at h
 repeat' split at h
 all_goals cases h
 exact Keep.push _ _ _
theorem append_keep {st st':St} {T:TypeId} {s x:C} {pv:PV} (h:evAppend P st T s x=some (pv,st')):Keep st st':=by
 unfold evAppend at h
 repeat' split at h
 all_goals cases h
 all_goals first | exact Keep.refl _ | exact Keep.push _ _ _ | exact Keep.setPush _ _ _ _ _
theorem appendZ_keep {st st':St} {T T':TypeId} {s x:C} {pv:PV} (h:evAppendZ P st T T' s x=some (pv,st')):Keep st st':=by
 unfold evAppendZ at h
 repeat' split at h
 all_goals cases h
 all_goals first | exact Keep.refl _ | exact Keep.push _ _ _ | exact Keep.setPush _ _ _ _ _
theorem copy_keep {st st':St} {T:TypeId} {d s:C} {pv:PV} (h:evCopy P st T d s=some (pv,st')):Keep st st':=by
 unfold evCopy at h
 repeat' split at h
 all_goals cases h
 exact Keep.set _ _ _ _
theorem mapSet_keep {st st':St} {T:TypeId} {i:Nat} {k v:C} (h:evMapSet P st T i k v=some st'):Keep st st':=by
 unfold evMapSet at h
 repeat' split at h
 all_goals cases h
 exact Keep.set _ _ _ _
theorem op_keep {e:Look} {st st':St} {o:Oper} {pv:PV} (h:evOp P e st o=some (pv,st')):Keep st st':=by
 unfold evOp at h
 repeat' split at h
 all_goals first
  | (cases h;done)
  | (cases h;exact Keep.refl _)
  | exact dry_keep (by assumption)
  | exact alloc_keep h
  | exact box_keep h
  | (cases h;exact store_keep (by assumption))
  | exact make_keep h
  | exact buildSlice_keep h
  | exact mark_keep h
  | exact bytes_keep h
  | exact append_keep h
  | exact appendZ_keep h
  | exact copy_keep h
  | (cases h;exact Keep.push _ _ _)
  | (cases h;exact mapSet_keep (by assumption))
def CallKeep (ev:CallE):Prop:=∀ F pvs st r st',ev F pvs st=some (r,st')→Keep st st'
theorem step_keep {ev:CallE} (hk:CallKeep ev) {e:Look} {st st':St} {o:Oper} {pv:PV} (h:evStep P ev e st o=some (pv,st')):Keep st st':=by
 rw [evStep_old] at h
 unfold evStepO at h
 split at h
 ·split at h
  ·exact op_keep h
  ·split at h
   ·split at h
    ·exact hk _ _ _ _ _ h
    ·cases h
   ·cases h
 ·exact op_keep h
theorem Keep.eq_append {st st':St} (h:Keep st st') (hlo:st.h.length≤st'.lo):st'.h=st.h++st'.h.drop st.h.length:=by
 refine List.ext_getElem? fun i=>?_
 by_cases hi:i < st.h.length
 ·rw [List.getElem?_append_left hi,h.old i hi (by omega)]
 ·rw [List.getElem?_append_right (by omega),List.getElem?_drop,show st.h.length+(i - st.h.length)=i by omega]
end Ev
end Go.Proofs.Ytcpodmjcgfgmnaa
