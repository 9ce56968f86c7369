/- galliardlaw04.piece by its contract: all kinds. -/
import Derived.Test.YtfkdjdmbgednkaaDoorPc4a
import Derived.Test.YtfkdjdmbgednkaaDoorPc4b
import Derived.Test.YtfkdjdmbgednkaaDoorPc4c
import Derived.Test.YtfkdjdmbgednkaaDoorPc4d
namespace Go.Proofs.YtfkdjdmbgednkaaDoor
open Go.RowKit
theorem piece_any (z : Int) (s t : ByteArray) (w : World) (hz : 0 ≤ z ∧ z < 65536) (hs : s.size ≤ 9223372036854775807) (ht : t.size ≤ 9223372036854775807) :
    Calls Tryd.prog 10 #[.int .i64 z, .string s, .string t] w (Xm.PcRet w) := by
  obtain ⟨kk, hkk, hkk8⟩ : ∃ kk : Nat, bits .and .i64 z 7 = (kk : Int) ∧ kk < 8 := ⟨(z % 2 ^ 3).toNat, by rw [Bits.i64_mask z 3 (by omega) 7 (by decide)]; omega, by omega⟩
  rcases (by omega : kk = 0 ∨ kk = 5 ∨ (kk = 6 ∨ kk = 7) ∨ (kk = 1 ∨ kk = 2 ∨ kk = 3 ∨ kk = 4)) with h | h | h | h
  · exact piece_a z s t w hz hs ht kk hkk h
  · exact piece_b z s t w hz hs ht kk hkk h
  · exact piece_d z s t w hz hs ht kk hkk h
  · exact piece_c z s t w hz hs ht kk hkk h
end Go.Proofs.YtfkdjdmbgednkaaDoor
