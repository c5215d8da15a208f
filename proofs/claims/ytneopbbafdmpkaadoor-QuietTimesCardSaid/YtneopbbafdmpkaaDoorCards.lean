/-
  DERIVED. GIVEN WITH THE SEED: THE CARDS: each row of YtneopbbafdmpkaaDoorRows.lean that lists a variable, with what it lists TIED to the program's text (the seventh form; the later family's looks); each row that meets fmt, with fmt's text TOLD by the authors' own Lean function (tested against real Go, not proved from fmt's source: count such statements apart). THE CARD IS WHAT COUNTS. Prove the row's statement (the work); the ties are given (YtneopbbafdmpkaaDoorTie.lean); close each card by the builder's one call (the guide's Derived/Test/ToyasCard.lean, 'card_holds'). Laid BY PROGRAM, IN A SANDBOX (cutbox-door.mjs). By AI agents, Wed Nov 11 2026. No macro, syntax, notation, axiom, sorry.
-/
import Derived.Test.YtneopbbafdmpkaaDoorRows
import GoSem.ClaimSeven
namespace Go.Proofs.YtneopbbafdmpkaaDoor
namespace Rows

/-- THE TIED CARD OF 'handlaw2.PoolRooms'. -/
def poolRoomsCard : Claim7 := { stood := { row := poolRoomsRow, standIns := [], harness := (true, "b7e6c26d531c07b4e500ae987627902fa5bfda4275d0714aa517314b5ad6a017"), looks := false }, kinds := [], alts := [], laidByText := true, laidKinds := [.data, .pinned], laidTests := true, laidLooks := .later }
def PoolRoomsCardSaid : Prop := Claim7.holds Tryd.pinned (.plain (OpenSpec.ofChange poolRoomsSpec)) poolRoomsCard

/-- THE TIED CARD OF 'handlaw2.QuietTimes'. -/
def quietTimesCard : Claim7 := { stood := { row := quietTimesRow, standIns := [], harness := (true, "b7e6c26d531c07b4e500ae987627902fa5bfda4275d0714aa517314b5ad6a017"), looks := false }, kinds := [], alts := [], laidByText := true, laidKinds := [.data, .pinned], laidTests := true, laidLooks := .later }
def QuietTimesCardSaid : Prop := Claim7.holds Tryd.pinned (.plain (OpenSpec.ofChange quietTimesSpec)) quietTimesCard

/-- THE SECOND FORM's CARD OF 'handlaw2.PoolRooms'. -/
def poolRoomsUptoCard : Claim7 := { stood := { row := poolRoomsUptoRow, standIns := [], harness := (true, "b7e6c26d531c07b4e500ae987627902fa5bfda4275d0714aa517314b5ad6a017"), looks := false }, kinds := [], alts := [], laidByText := true, laidKinds := [.data, .pinned], laidTests := true, laidLooks := .later }
def PoolRoomsUptoCardSaid : Prop := Claim7.holds Tryd.pinned (.plain (OpenSpec.upto poolRoomsSpec)) poolRoomsUptoCard

/-- THE SECOND FORM's CARD OF 'handlaw2.QuietTimes'. -/
def quietTimesUptoCard : Claim7 := { stood := { row := quietTimesUptoRow, standIns := [], harness := (true, "b7e6c26d531c07b4e500ae987627902fa5bfda4275d0714aa517314b5ad6a017"), looks := false }, kinds := [], alts := [], laidByText := true, laidKinds := [.data, .pinned], laidTests := true, laidLooks := .later }
def QuietTimesUptoCardSaid : Prop := Claim7.holds Tryd.pinned (.plain (OpenSpec.upto quietTimesSpec)) quietTimesUptoCard
end Rows
end Go.Proofs.YtneopbbafdmpkaaDoor
