/-
  DERIVED. GIVEN WITH THE SEED: THE CARDS: each row of YteabhkmhogmoiaaGreatDoorRows.lean that lists a variable, with what it lists TIED to the program's text (the seventh form; the later family's looks); each row that meets fmt, with fmt's text TOLD by the authors' own Lean function (tested against real Go, not proved from fmt's source: count such statements apart). THE CARD IS WHAT COUNTS. Prove the row's statement (the work); the ties are given (YteabhkmhogmoiaaGreatDoorTie.lean); close each card by the builder's one call (the guide's Derived/Test/ToyasCard.lean, 'card_holds'). Laid BY PROGRAM, IN A SANDBOX (cutbox-door.mjs). By AI agents, Wed Nov 11 2026. No macro, syntax, notation, axiom, sorry.
-/
import Derived.Test.YteabhkmhogmoiaaGreatDoorRows
import GoSem.ClaimSeven
namespace Go.Proofs.YteabhkmhogmoiaaGreatDoor
namespace Rows

/-- THE TIED CARD OF 'handtop.TopPeople'. -/
def topPeopleCard : Claim7 := { stood := { row := topPeopleRow, standIns := [], harness := (true, "d424c6880d4f39b0adc5289466ba24315ed6bec7805a5c4802ebf10b2f6b0aeb"), looks := false }, kinds := [], alts := [], laidByText := true, laidKinds := [.data, .data, .data, .data, .pinned], laidTests := true, laidLooks := .later }
def TopPeopleCardSaid : Prop := Claim7.holds Tryz.pinned (.plain (OpenSpec.ofChange topPeopleSpec)) topPeopleCard

/-- THE TIED CARD OF 'handlaw2.DoublePairs'. -/
def doublePairsCard : Claim7 := { stood := { row := doublePairsRow, standIns := [], harness := (true, "d424c6880d4f39b0adc5289466ba24315ed6bec7805a5c4802ebf10b2f6b0aeb"), looks := false }, kinds := [], alts := [], laidByText := true, laidKinds := [.data, .data, .data, .pinned], laidTests := true, laidLooks := .later }
def DoublePairsCardSaid : Prop := Claim7.holds Tryz.pinned (.plain (OpenSpec.ofChange doublePairsSpec)) doublePairsCard

/-- THE TIED CARD OF 'handlaw2.IndexFollows'. -/
def indexFollowsCard : Claim7 := { stood := { row := indexFollowsRow, standIns := [], harness := (true, "d424c6880d4f39b0adc5289466ba24315ed6bec7805a5c4802ebf10b2f6b0aeb"), looks := false }, kinds := [], alts := [], laidByText := true, laidKinds := [.data, .data, .data, .pinned], laidTests := true, laidLooks := .later }
def IndexFollowsCardSaid : Prop := Claim7.holds Tryz.pinned (.plain (OpenSpec.ofChange indexFollowsSpec)) indexFollowsCard

/-- THE SECOND FORM's CARD OF 'handtop.TopPeople'. -/
def topPeopleUptoCard : Claim7 := { stood := { row := topPeopleUptoRow, standIns := [], harness := (true, "d424c6880d4f39b0adc5289466ba24315ed6bec7805a5c4802ebf10b2f6b0aeb"), looks := false }, kinds := [], alts := [], laidByText := true, laidKinds := [.data, .data, .data, .data, .pinned], laidTests := true, laidLooks := .later }
def TopPeopleUptoCardSaid : Prop := Claim7.holds Tryz.pinned (.plain (OpenSpec.upto topPeopleSpec)) topPeopleUptoCard

/-- THE SECOND FORM's CARD OF 'handlaw2.DoublePairs'. -/
def doublePairsUptoCard : Claim7 := { stood := { row := doublePairsUptoRow, standIns := [], harness := (true, "d424c6880d4f39b0adc5289466ba24315ed6bec7805a5c4802ebf10b2f6b0aeb"), looks := false }, kinds := [], alts := [], laidByText := true, laidKinds := [.data, .data, .data, .pinned], laidTests := true, laidLooks := .later }
def DoublePairsUptoCardSaid : Prop := Claim7.holds Tryz.pinned (.plain (OpenSpec.upto doublePairsSpec)) doublePairsUptoCard

/-- THE SECOND FORM's CARD OF 'handlaw2.IndexFollows'. -/
def indexFollowsUptoCard : Claim7 := { stood := { row := indexFollowsUptoRow, standIns := [], harness := (true, "d424c6880d4f39b0adc5289466ba24315ed6bec7805a5c4802ebf10b2f6b0aeb"), looks := false }, kinds := [], alts := [], laidByText := true, laidKinds := [.data, .data, .data, .pinned], laidTests := true, laidLooks := .later }
def IndexFollowsUptoCardSaid : Prop := Claim7.holds Tryz.pinned (.plain (OpenSpec.upto indexFollowsSpec)) indexFollowsUptoCard
end Rows
end Go.Proofs.YteabhkmhogmoiaaGreatDoor
