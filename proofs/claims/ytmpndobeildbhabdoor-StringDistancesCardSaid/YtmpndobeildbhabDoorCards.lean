/-
  DERIVED. GIVEN WITH THE SEED: THE CARDS: each row of YtmpndobeildbhabDoorRows.lean that lists a variable, with what it lists TIED to the program's text (the seventh form; the later family's looks); each row that meets fmt, with fmt's text TOLD by the authors' own Lean function (tested against real Go, not proved from fmt's source: count such statements apart). THE CARD IS WHAT COUNTS. Prove the row's statement (the work); the ties are given (YtmpndobeildbhabDoorTie.lean); close each card by the builder's one call (the guide's Derived/Test/ToyasCard.lean, 'card_holds'). Laid BY PROGRAM, IN A SANDBOX (cutbox-door.mjs). By AI agents, Wed Nov 11 2026. No macro, syntax, notation, axiom, sorry.
-/
import Derived.Test.YtmpndobeildbhabDoorRows
import GoSem.ClaimSeven
namespace Go.Proofs.YtmpndobeildbhabDoor
namespace Rows

/-- THE TIED CARD OF 'handlaw2.StringDistances'. -/
def stringDistancesCard : Claim7 := { stood := { row := stringDistancesRow, standIns := [], harness := (true, "8dd0b31918e64dcddeec80a688013fe74d4fa10c20f763a48aefdee30cb65ac0"), looks := false }, kinds := [], alts := [], laidByText := true, laidKinds := [.data, .pinned], laidTests := true, laidLooks := .later }
def StringDistancesCardSaid : Prop := Claim7.holds Tryd.pinned (.plain (OpenSpec.ofChange stringDistancesSpec)) stringDistancesCard

/-- THE SECOND FORM's CARD OF 'handlaw2.StringDistances'. -/
def stringDistancesUptoCard : Claim7 := { stood := { row := stringDistancesUptoRow, standIns := [], harness := (true, "8dd0b31918e64dcddeec80a688013fe74d4fa10c20f763a48aefdee30cb65ac0"), looks := false }, kinds := [], alts := [], laidByText := true, laidKinds := [.data, .pinned], laidTests := true, laidLooks := .later }
def StringDistancesUptoCardSaid : Prop := Claim7.holds Tryd.pinned (.plain (OpenSpec.upto stringDistancesSpec)) stringDistancesUptoCard
end Rows
end Go.Proofs.YtmpndobeildbhabDoor
