/- What strings.Repeat returns: a string of a bounded length. -/
import Derived.Test.YtmlpkejeglpciaaDoorStream
import Derived.Test.YtmlpkejeglpciaaDoorShelf
namespace Go.Proofs.YtmlpkejeglpciaaDoor
open Go.RowKit
/-- a string of at most M bytes is returned -/
def GivesStr (M : Nat) (w : World) (e : Ending) (w' : World) : Prop := ∃ s : ByteArray, s.size ≤ M ∧ e = .returned (.string s) ∧ Below w.heap.size w w'
theorem repeat_le (s : ByteArray) (z : Int) (M : Nat) (w : World) (h0 : 0 ≤ z) (hz : z ≤ 1000000) (hM : s.size * z.toNat ≤ M) (hM2 : M ≤ 1000000000) :
    Calls Tryd.prog 20 #[.string s, .int .i64 z] w (GivesStr M w) := by
  obtain ⟨n, rfl⟩ := Int.eq_ofNat_of_zero_le h0
  simp only [Int.toNat_natCast] at hM
  refine (Tryd.strings_Repeat s n w (by omega) (by omega)).mono ?_
  rintro e w' ⟨rfl, hl⟩
  refine ⟨_, ?_, rfl, hl⟩
  show (Lib.repeatL s.data.toList n).length ≤ M
  rw [Lib.repeatL_length, Nat.mul_comm]
  exact hM
end Go.Proofs.YtmlpkejeglpciaaDoor
