/- What consent.Proof returns. -/
import Derived.Test.YthmkphmciiiagaaGreatDoorMayTop
import Derived.Test.YthmkphmciiiagaaGreatDoorPrfLaw
import Derived.Test.YthmkphmciiiagaaGreatDoorSortInt
namespace Go.Proofs.YthmkphmciiiagaaGreatDoor
open Go Go.RowKit
theorem tyIntP : STy 22 3 rInt.size 8 (.int .i64 0) := ⟨Tryz.underlying22, by kernel_rfl, rfl, by decide⟩
def GivesNos (xs : List Int) (F : Int) (w : World) (e : Ending) (w' : World) : Prop := ∃ A c, e = .returned (.tuple #[.slice A xs.length c, .int .i64 F]) ∧ Sl rInt (Lt w.heap.size) w' A xs ∧ Below w.heap.size w w'
end Go.Proofs.YthmkphmciiiagaaGreatDoor
