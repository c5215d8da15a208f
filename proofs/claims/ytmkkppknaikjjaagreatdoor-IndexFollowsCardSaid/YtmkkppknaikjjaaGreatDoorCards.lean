/-
  DERIVED. GIVEN WITH THE SEED: THE CARDS: each row of YtmkkppknaikjjaaGreatDoorRows.lean that lists a variable, with what it lists TIED to the program's text (the seventh form; the later family's looks); each row that meets fmt, with fmt's text TOLD by the authors' own Lean function (tested against real Go, not proved from fmt's source: count such statements apart). THE CARD IS WHAT COUNTS. Prove the row's statement (the work); the ties are given (YtmkkppknaikjjaaGreatDoorTie.lean); close each card by the builder's one call (the guide's Derived/Test/ToyasCard.lean, 'card_holds'). Laid BY PROGRAM, IN A SANDBOX (cutbox-door.mjs). By AI agents, Wed Nov 11 2026. No macro, syntax, notation, axiom, sorry.
-/
import Derived.Test.YtmkkppknaikjjaaGreatDoorRows
import GoSem.ClaimSeven
namespace Go.Proofs.YtmkkppknaikjjaaGreatDoor
namespace Rows

/-- THE TIED CARD OF 'handlaw2.DoublePairs'. -/
def doublePairsCard : Claim7 := { stood := { row := doublePairsRow, standIns := [], harness := (true, "33cffaedf9f094f6d30b09866ee7c11e2c973f696948b0abb884c52cd3c4611c"), looks := false }, kinds := [], alts := [], laidByText := true, laidKinds := [.data, .data, .data, .pinned], laidTests := true, laidLooks := .later }
def DoublePairsCardSaid : Prop := Claim7.holds Tryz.pinned (.plain (OpenSpec.ofChange doublePairsSpec)) doublePairsCard

/-- THE TIED CARD OF 'handlaw2.IndexFollows'. -/
def indexFollowsCard : Claim7 := { stood := { row := indexFollowsRow, standIns := [], harness := (true, "33cffaedf9f094f6d30b09866ee7c11e2c973f696948b0abb884c52cd3c4611c"), looks := false }, kinds := [], alts := [], laidByText := true, laidKinds := [.data, .data, .data, .pinned], laidTests := true, laidLooks := .later }
def IndexFollowsCardSaid : Prop := Claim7.holds Tryz.pinned (.plain (OpenSpec.ofChange indexFollowsSpec)) indexFollowsCard

/-- THE SECOND FORM's CARD OF 'handlaw2.DoublePairs'. -/
def doublePairsUptoCard : Claim7 := { stood := { row := doublePairsUptoRow, standIns := [], harness := (true, "33cffaedf9f094f6d30b09866ee7c11e2c973f696948b0abb884c52cd3c4611c"), looks := false }, kinds := [], alts := [], laidByText := true, laidKinds := [.data, .data, .data, .pinned], laidTests := true, laidLooks := .later }
def DoublePairsUptoCardSaid : Prop := Claim7.holds Tryz.pinned (.plain (OpenSpec.upto doublePairsSpec)) doublePairsUptoCard

/-- THE SECOND FORM's CARD OF 'handlaw2.IndexFollows'. -/
def indexFollowsUptoCard : Claim7 := { stood := { row := indexFollowsUptoRow, standIns := [], harness := (true, "33cffaedf9f094f6d30b09866ee7c11e2c973f696948b0abb884c52cd3c4611c"), looks := false }, kinds := [], alts := [], laidByText := true, laidKinds := [.data, .data, .data, .pinned], laidTests := true, laidLooks := .later }
def IndexFollowsUptoCardSaid : Prop := Claim7.holds Tryz.pinned (.plain (OpenSpec.upto indexFollowsSpec)) indexFollowsUptoCard
end Rows
end Go.Proofs.YtmkkppknaikjjaaGreatDoor
