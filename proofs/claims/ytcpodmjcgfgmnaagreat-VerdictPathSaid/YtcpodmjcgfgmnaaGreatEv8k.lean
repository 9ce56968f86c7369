/- Ev: what a step leaves of the objects that it was not said to write. No program. -/
import Derived.Test.YtcpodmjcgfgmnaaGreatEv8
namespace Go.Proofs.YtcpodmjcgfgmnaaGreat
open Go.RowKit
namespace Ev
variable {P:Program}
structure Keep (st st':St):Prop where
 len:st.h.length≤st'.h.length
 lo:st'.lo≤st.lo
 old:∀ i,i < st.h.length→i < st'.lo→st'.h[i]?=st.h[i]?
theorem Keep.refl (st:St):Keep st st:=⟨Nat.le_refl _,Nat.le_refl _,fun _ _ _=>rfl⟩
theorem Keep.trans {a b c:St} (h:Keep a b) (k:Keep b c):Keep a c :=
 ⟨Nat.le_trans h.len k.len,Nat.le_trans k.lo h.lo,fun i hi hl=>(k.old i (Nat.lt_of_lt_of_le hi h.len) hl).trans (h.old i hi (Nat.lt_of_lt_of_le hl k.lo))⟩
theorem Keep.push (h:List O) (lo:Nat) (o:O):Keep ⟨h,lo⟩ ⟨h++[o],lo⟩ :=
 ⟨by simp,Nat.le_refl _,fun i hi _=>List.getElem?_append_left hi⟩
theorem Keep.set (h:List O) (lo i:Nat) (o:O):Keep ⟨h,lo⟩ ⟨h.set i o,min lo i⟩ :=
 ⟨by simp,Nat.min_le_left _ _,fun j _ hl=>List.getElem?_set_ne (by have:j < min lo i:=hl;omega)⟩
theorem Keep.setPush (h:List O) (lo i:Nat) (o o':O):Keep ⟨h,lo⟩ ⟨h.set i o++[o'],min lo i⟩ :=
 (Keep.set h lo i o).trans (Keep.push _ _ o')
theorem Qy3 {e:Look} {st st':St} {o:Oper} {pv:PV} (h:(match Qel P e o with | some pv=>some (pv,st) | none=>none)=some (pv,st')):Keep st st':=by
 split at h
 ·cases h;exact Keep.refl _
 ·cases h
theorem Qui {st st':St} {T:TypeId} {pv:PV} (h:Qff P st T=some (pv,st')):Keep st st':=by
 unfold Qff at h
 repeat' split at h
 all_goals cases h
 exact Keep.push _ _ _
theorem Qy5 {st st':St} {T:TypeId} {u pv:PV} (h:Qw1 st T u=some (pv,st')):Keep st st':=by
 unfold Qw1 at h
 repeat' split at h
 all_goals cases h
 exact Keep.push _ _ _
theorem Qs6 {st st':St} {T:TypeId} {i off:Nat} {s:S} (h:Qbm P st T i off s=some st'):Keep st st':=by
 unfold Qbm at h
 repeat' split at h
 all_goals cases h
 exact Keep.set _ _ _ _
theorem Qv6 {st st':St} {T:TypeId} {l c:Int} {pv:PV} (h:Qjt P st T l c=some (pv,st')):Keep st st':=by
 unfold Qjt at h
 repeat' split at h
 all_goals cases h
 exact Keep.push _ _ _
theorem Qj6 {st st':St} {T:TypeId} {n:Nat} {ps:List (Nat × S)} {pv:PV} (h:Qa4 P st T n ps=some (pv,st')):Keep st st':=by
 unfold Qa4 at h
 repeat' split at h
 all_goals cases h
 exact Keep.push _ _ _
theorem Qv4 {st st':St} {c:C} {pv:PV} (h:Qjs st c=some (pv,st')):Keep st st':=by
 unfold Qjs at h
 repeat' split at h
 all_goals cases h
 exact Keep.setPush _ _ _ _ _
theorem Qrb {st st':St} {T:TypeId} {s x:C} {pv:PV} (h:Qen P st T s x=some (pv,st')):Keep st st':=by
 unfold Qen at h
 repeat' split at h
 all_goals cases h
 all_goals first | exact Keep.refl _ | exact Keep.push _ _ _ | exact Keep.setPush _ _ _ _ _
theorem Qqd {st st':St} {T:TypeId} {i:Nat} {k v:C} (h:Qek P st T i k v=some st'):Keep st st':=by
 unfold Qek at h
 repeat' split at h
 all_goals cases h
 exact Keep.set _ _ _ _
theorem Qpp {st st':St} {T:TypeId} {i:Nat} {k:PV} {v:C} (h:Qdm P st T i k v=some st'):Keep st st':=by
 unfold Qdm Qfd at h
 repeat' split at h
 all_goals first
  | (cases h;exact Keep.set _ _ _ _)
  | exact Qqd h
  | cases h
theorem Qvh {e:Look} {st st':St} {o:Oper} {pv:PV} (h:evOp P e st o=some (pv,st')):Keep st st':=by
 unfold evOp at h
 repeat' split at h
 all_goals first
  | (cases h;done)
  | (cases h;exact Keep.refl _)
  | exact Qy3 (by assumption)
  | exact Qui h
  | exact Qy5 h
  | (cases h;exact Qs6 (by assumption))
  | exact Qv6 h
  | exact Qj6 h
  | exact Qv4 h
  | exact Qrb h
  | (cases h;exact Keep.push _ _ _)
  | (cases h;exact Qpp (by assumption))
def Qa9 (ev:Qav):Prop:=∀ F pvs st r st',ev F pvs st=some (r,st')→Keep st st'
theorem Qds {ev:Qav} (hk:Qa9 ev) {e:Look} {st st':St} {o:Oper} {pv:PV} (h:Qbd P ev e st o=some (pv,st')):Keep st st':=by
 rw [Qbb] at h;unfold Qcf at h;split at h
 ·split at h
  ·exact Qvh h
  ·split at h
   ·split at h
    ·exact hk _ _ _ _ _ h
    ·cases h
   ·cases h
 ·exact Qvh h
theorem Keep.eq_append {st st':St} (h:Keep st st') (hlo:st.h.length≤st'.lo):st'.h=st.h++st'.h.drop st.h.length:=by
 refine List.ext_getElem? fun i=>?_;by_cases hi:i < st.h.length
 ·rw [List.getElem?_append_left hi,h.old i hi (by omega)]
 ·rw [List.getElem?_append_right (by omega),List.getElem?_drop,show st.h.length+(i - st.h.length)=i by omega]
end Ev
end Go.Proofs.YtcpodmjcgfgmnaaGreat
