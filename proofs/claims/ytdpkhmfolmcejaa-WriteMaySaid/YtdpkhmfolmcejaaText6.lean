/- galliardref06.Text by its contract. -/
import Derived.Test.YtdpkhmfolmcejaaNice
import Derived.Test.YtdpkhmfolmcejaaCount
import Derived.StillTailTactics
import Derived.BigQuiet
namespace Go.Proofs.Ytdpkhmfolmcejaa
open Go.RowKit
namespace Xm
def bl (s : ByteArray) : List UInt8 := s.data.toList
theorem str_bl (s : ByteArray) : str (bl s) = s := rfl
theorem bl_str (l : List UInt8) : bl (str l) = l := rfl
theorem bl_len (s : ByteArray) : (bl s).length = s.size := by simp [bl]
/-- attributes as a document has them -/
def atD (l : List (ByteArray × ByteArray)) : List UInt8 := l.flatMap fun a => 32 :: (bl a.1 ++ ([61, 34] ++ (clL (bl a.2) ++ [34])))
theorem atD_ge : ∀ l, l.length ≤ (atD l).length
  | [] => Nat.zero_le _
  | a :: l => by
    have := atD_ge l
    unfold atD at *
    rw [List.flatMap_cons, List.length_append, List.length_cons, List.length_cons]
    omega
theorem atD_snoc (l : List (ByteArray × ByteArray)) (a : ByteArray × ByteArray) : atD (l ++ [a]) = atD l ++ (32 :: (bl a.1 ++ ([61, 34] ++ (clL (bl a.2) ++ [34])))) := by simp [atD]
/-- the space, where it is another one -/
def spD (sp space : ByteArray) : List UInt8 := if sp = space then [] else [32, 120, 109, 108, 110, 115, 61, 34] ++ (clL (bl sp) ++ [34])
theorem clB_ge (c : UInt8) : 1 ≤ (clB c).length := by
  unfold clB
  repeat' split
  all_goals simp
theorem clL_ge : ∀ l, l.length ≤ (clL l).length
  | [] => Nat.zero_le _
  | c :: l => by
    have := clB_ge c
    have := clL_ge l
    unfold clL at *
    rw [List.flatMap_cons, List.length_append, List.length_cons]
    omega
mutual
/-- an element's document -/
def docN : Nod → ByteArray → List UInt8 → List UInt8
  | .mk sp nm l ks tx, space, pad =>
    pad ++ (60 :: (bl nm ++ (spD sp space ++ (atD l ++
      (match ks with
        | [] => if tx.size = 0 then [47, 62, 10] else 62 :: (clL (bl tx) ++ ([60, 47] ++ (bl nm ++ [62, 10])))
        | k :: ks => [62, 10] ++ (docN k sp (pad ++ [32]) ++ (docL ks sp (pad ++ [32]) ++ (pad ++ ([60, 47] ++ (bl nm ++ [62, 10]))))))))))
def docL : List Nod → ByteArray → List UInt8 → List UInt8
  | [], _, _ => []
  | k :: ks, sp, pad => docN k sp pad ++ docL ks sp pad
end
theorem docL_append : ∀ (a b : List Nod) (sp : ByteArray) (pad : List UInt8), docL (a ++ b) sp pad = docL a sp pad ++ docL b sp pad
  | [], b, sp, pad => rfl
  | k :: a, b, sp, pad => by rw [List.cons_append, docL, docL, docL_append a b, List.append_assoc]
/-- what stands ahead of the elements within, or of the end -/
def headD (sp nm : ByteArray) (l : List (ByteArray × ByteArray)) (space : ByteArray) (pad : List UInt8) : List UInt8 := pad ++ (60 :: (bl nm ++ (spD sp space ++ atD l)))
theorem docN_nil (sp nm : ByteArray) (l : List (ByteArray × ByteArray)) (tx space : ByteArray) (pad : List UInt8) : docN (.mk sp nm l [] tx) space pad = headD sp nm l space pad ++ (if tx.size = 0 then [47, 62, 10] else 62 :: (clL (bl tx) ++ ([60, 47] ++ (bl nm ++ [62, 10])))) := by
  rw [docN]; simp [headD]
theorem docN_kids (sp nm : ByteArray) (l : List (ByteArray × ByteArray)) (ks : List Nod) (tx space : ByteArray) (pad : List UInt8) (h : ks ≠ []) : docN (.mk sp nm l ks tx) space pad = headD sp nm l space pad ++ ([62, 10] ++ (docL ks sp (pad ++ [32]) ++ (pad ++ ([60, 47] ++ (bl nm ++ [62, 10]))))) := by
  cases ks with
  | nil => exact absurd rfl h
  | cons k ks => rw [docN, docL]; simp [headD]
theorem docN_ge (x : Nod) (space : ByteArray) (pad : List UInt8) : 1 ≤ (docN x space pad).length := by
  obtain ⟨sp, nm, l, ks, tx⟩ := x
  by_cases h : ks = []
  · subst h
    rw [docN_nil]; simp [headD]; omega
  · rw [docN_kids _ _ _ _ _ _ _ h]; simp [headD]; omega
theorem docL_ge : ∀ (ks : List Nod) (sp : ByteArray) (pad : List UInt8), ks.length ≤ (docL ks sp pad).length
  | [], sp, pad => Nat.zero_le _
  | k :: ks, sp, pad => by
    have := docN_ge k sp pad
    have := docL_ge ks sp pad
    rw [docL, List.length_append, List.length_cons]
    omega
end Xm
end Go.Proofs.Ytdpkhmfolmcejaa
