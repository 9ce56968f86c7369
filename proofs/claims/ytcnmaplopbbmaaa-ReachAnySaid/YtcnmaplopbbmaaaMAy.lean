/- slices.SortFunc of interactions by the shelf's law. -/
/- slices.SortFunc of interactions in a row. -/
import Derived.Test.YtcnmaplopbbmaaaGComp2
import Derived.Shelf.SlSortCmp.WholeK
import Derived.Shelf.Lay
import Derived.Ground.SlsfProg
import Derived.Shelf.SlSortCmp.NoneTotal
namespace Go.Proofs
open Go.Shelf Go.RowKit Go.Lib Go.Sort
shelf_lay_g SlLaysF0.n6 Slsf 6 at Try 39 as Try.sortLab
end Go.Proofs
namespace Go.Proofs.Ytcnmaplopbbmaaa
open Go.Shelf Go.RowKit Go.Lib Go.Sort
theorem ltOf_lab (a b : Gr.Lb) : ltOf Gr.cmpL a b = true ↔ Gr.ltL a b := by
  unfold ltOf
  simp [Gr.cmpL_neg]
theorem swo_lab : SWO (ltOf Gr.cmpL) where
  irrefl x := by
    cases h : ltOf Gr.cmpL x x with
    | false => rfl
    | true => exact absurd rfl (Gr.ltL_ne ((ltOf_lab _ _).1 h))
  trans x y z h1 h2 := (ltOf_lab _ _).2 (Gr.ltL_trans ((ltOf_lab _ _).1 h1) ((ltOf_lab _ _).1 h2))
  ntrans x y z h1 h2 := by
    have k1 : ¬ Gr.ltL x y := fun h => by rw [(ltOf_lab _ _).2 h] at h1; cases h1
    have k2 : ¬ Gr.ltL y z := fun h => by rw [(ltOf_lab _ _).2 h] at h2; cases h2
    cases h : ltOf Gr.cmpL x z with
    | false => rfl
    | true =>
      exfalso
      have k3 := (ltOf_lab _ _).1 h
      unfold Gr.ltL at *
      omega
end Go.Proofs.Ytcnmaplopbbmaaa
namespace Go.Proofs.Ytcnmaplopbbmaaa
open Go.Shelf Go.RowKit Go.Lib Go.Sort
/-- what is sorted -/
def Gr.Sorted (f : Nat → Gr.Lb) (n : Nat) : Prop := ∀ i j, i < j → j < n → ¬ Gr.ltL (f j) (f i)
def Gr.SameM (f f' : Nat → Gr.Lb) (n : Nat) : Prop := ∀ x, (∃ j, j < n ∧ f' j = x) ↔ ∃ j, j < n ∧ f j = x
theorem mem_d (d : Array Gr.Lb) (x : Gr.Lb) : x ∈ d.toList ↔ ∃ j, j < d.size ∧ d[j]! = x := by
  rw [List.mem_iff_getElem]
  constructor
  · rintro ⟨j, hj, rfl⟩
    have hj' : j < d.size := by simpa using hj
    exact ⟨j, hj', by rw [getElem!_pos d j hj', Array.getElem_toList]⟩
  · rintro ⟨j, hj, rfl⟩
    exact ⟨j, by simpa using hj, by rw [getElem!_pos d j hj, Array.getElem_toList]⟩
theorem sort_any (g n c : Nat) (f : Nat → Gr.Lb) (w : World) (hn : n ≤ 4000000) (h : Gr.LRow w g n f) :
    Calls Try.prog 39 #[.slice (some ⟨g, 0, none⟩) n c, .func (.func 40) #[] #[]] w fun e w' => e = .returned (.tuple #[]) ∧ w.grownBy w' (some g) ∧
      ∃ f', Gr.LRow w' g n f' ∧ Gr.Sorted f' n ∧ Gr.SameM f f' n := by
  obtain ⟨cur, hg, hs, hc⟩ := id h.row
  have hlt : g < w.heap.size := (Array.getElem?_eq_some_iff.1 hg).1
  obtain ⟨d, hd⟩ : ∃ d : Array Gr.Lb, d = Array.ofFn (n := n) fun j => f j.1 := ⟨_, rfl⟩
  have hsz : d.size = n := by rw [hd]; simp
  have hdf : ∀ j, j < n → d[j]! = f j := fun j hj => by rw [getElem!_pos d j (by omega)]; simp [hd]
  have hH : HoldsK Gr.lcells 3 w g 0 d := by
    intro t ht
    rw [size_flatK, hsz] at ht
    refine ⟨?_, ?_⟩
    · rw [get_flatK _ _ _ _ (by rw [hsz]; exact ht), Nat.zero_add, cell_of_row w g _ _ _ _ hg, hdf _ (by omega)]
      obtain ⟨a, b, c⟩ := hc (t / 3) (by omega)
      rcases (show t % 3 = 0 ∨ t % 3 = 1 ∨ t % 3 = 2 by omega) with e | e | e
      · rw [show cur[t]? = cur[t / 3 * 3]? by rw [show t / 3 * 3 = t by omega], a, e]; rfl
      · rw [show cur[t]? = cur[t / 3 * 3 + 1]? by rw [show t / 3 * 3 + 1 = t by omega], b, e]; rfl
      · rw [show cur[t]? = cur[t / 3 * 3 + 2]? by rw [show t / 3 * 3 + 2 = t by omega], c, e]; rfl
    · exact frozen_of_row w g _ _ _ hg
  have eg : ∀ args w, (callFunc 40 args).run Try.prog w = .ok (.enter 40 args) w := enters_of Try.func40 (by kernel_rfl) rfl
  have hcl : CmpLays Try.prog 40 #[] Gr.lcells 3 Gr.cmpL g 0 d.size w := fun _ _ _ _ x y => (compareD x y _).mono fun e w' ⟨he, hgd⟩ => ⟨he, hgd.form⟩
  have hcon := AnyQ.slices_SortFunc Try.sortLab 3 Try.isAgg45 Try.sizeOf45 Gr.lcells Gr.lcells_len (fun x v hv => by simp [Gr.lcells] at hv; rcases hv with rfl | rfl | rfl <;> rfl) Gr.cmpL swo_lab 40 #[] g 0 c d w eg hcl hH hlt (by omega)
  rw [hsz] at hcon
  refine hcon.mono ?_
  rintro e w' ⟨rfl, d', q, os, hp, hso, rfl⟩
  obtain ⟨hp1, _, hp3⟩ := hp
  have hsz' : d'.size = n := by rw [hp1, hsz]
  have hH' : HoldsK Gr.lcells 3 (sortWorldK Gr.lcells 3 w g 0 q d' os) g 0 d' := holdsK_sortWorldK_c Gr.lcells 3 w g 0 d d' q os hH hlt (by omega)
  have hheap : (sortWorldK Gr.lcells 3 w g 0 q d' os).heap = (w.heap.modify g (onCells (putCells id 0 (flatK Gr.lcells 3 d')))) ++ os := rfl
  have hb : (sortWorldK Gr.lcells 3 w g 0 q d' os).heap[g]? = some (.cells (putCells id 0 (flatK Gr.lcells 3 d') cur) 45 (0, 0)) := by
    rw [hheap, Array.getElem?_append_left (by simpa using hlt)]
    simp [Array.getElem?_modify, hg, onCells]
  refine ⟨rfl, ⟨rfl, rfl, rfl, by rw [hheap]; simp, fun k hk hne => ?_⟩, fun j => d'[j]!, ⟨_, hb, by simp [putCells]; omega, fun j hj => ?_⟩, fun i j hij hj => ?_, fun x => ?_⟩
  · rw [hheap, Array.getElem?_append_left (by simpa using hk), Array.getElem?_modify]
    rw [if_neg (fun e => hne (by rw [e]))]
  · have hcell : ∀ t, t < n * 3 → (putCells id 0 (flatK Gr.lcells 3 d') cur)[t]? = some ((Gr.lcells d'[t / 3]!)[t % 3]!) := fun t ht => by
      have := (hH' t (by rw [size_flatK, hsz']; exact ht)).1
      rw [get_flatK _ _ _ _ (by rw [hsz']; exact ht), Nat.zero_add, cell_of_row _ g _ _ _ _ hb] at this
      exact this
    have e0 := hcell (j * 3) (by omega)
    have e1 := hcell (j * 3 + 1) (by omega)
    have e2 := hcell (j * 3 + 2) (by omega)
    rw [show j * 3 / 3 = j by omega, show j * 3 % 3 = 0 by omega] at e0
    rw [show (j * 3 + 1) / 3 = j by omega, show (j * 3 + 1) % 3 = 1 by omega] at e1
    rw [show (j * 3 + 2) / 3 = j by omega, show (j * 3 + 2) % 3 = 2 by omega] at e2
    exact ⟨e0, e1, e2⟩
  · have k := hso i j (Nat.zero_le _) hij hj
    intro hl
    have := (ltOf_lab _ _).2 hl
    rw [k] at this
    cases this
  · have hext : ∀ a : Array Gr.Lb, a.size = n → (a.extract 0 n).toList = a.toList := fun a ha => by
      rw [← ha, Array.extract_size]
    rw [hext d' hsz', hext d hsz] at hp3
    have hm : x ∈ d'.toList ↔ x ∈ d.toList := hp3.mem_iff
    rw [mem_d, mem_d, hsz', hsz] at hm
    rw [hm]
    exact ⟨fun ⟨j, hj, e⟩ => ⟨j, hj, by rw [← hdf j hj]; exact e⟩, fun ⟨j, hj, e⟩ => ⟨j, hj, by rw [hdf j hj]; exact e⟩⟩
theorem sort_nil (fv : Value) (w : World) : Calls Try.prog 39 #[.slice none 0 0, fv] w fun e w' => e = .returned (.tuple #[]) ∧ w' = w :=
  AnyF.slices_SortFunc_none Try.sortLab none 0 fv w
set_option maxRecDepth 100000 in
theorem compact_nil (w : World) : Calls Try.prog 41 #[.slice none 0 0] w fun e w' => e = .returned (.slice none 0 0) ∧ w' = w := by
  go_enter Try.func41, Try.ntmps41
  go_wp2_with fail
  go_ret
  exact ⟨rfl, rfl⟩
end Go.Proofs.Ytcnmaplopbbmaaa
