/-
  DERIVED. GIVEN WITH THE SEED: THE CARDS: each row of YtfdcgedcfafmcaaGreatDoorRows.lean that lists a variable, with what it lists TIED to the program's text (the seventh form; the later family's looks); each row that meets fmt, with fmt's text TOLD by the authors' own Lean function (tested against real Go, not proved from fmt's source: count such statements apart). THE CARD IS WHAT COUNTS. Prove the row's statement (the work); the ties are given (YtfdcgedcfafmcaaGreatDoorTie.lean); close each card by the builder's one call (the guide's Derived/Test/ToyasCard.lean, 'card_holds'). Laid BY PROGRAM, IN A SANDBOX (cutbox-door.mjs). By AI agents, Wed Nov 11 2026. No macro, syntax, notation, axiom, sorry.
-/
import Derived.Test.YtfdcgedcfafmcaaGreatDoorRows
import GoSem.ClaimSeven
namespace Go.Proofs.YtfdcgedcfafmcaaGreatDoor
namespace Rows

/-- THE TIED CARD OF 'handlaw2.PersonChains'. -/
def personChainsCard : Claim7 := { stood := { row := personChainsRow, standIns := [], harness := (true, "93b7b59cf957424d2f96a40409ef9b25cfc8dc0cc063c76412c45aae923f0d41"), looks := false }, kinds := [], alts := [], laidByText := true, laidKinds := [.data, .data, .data, .pinned], laidTests := true, laidLooks := .later }
def PersonChainsCardSaid : Prop := Claim7.holds Tryz.pinned (.plain (OpenSpec.ofChange personChainsSpec)) personChainsCard

/-- THE TIED CARD OF 'handlaw2.PersonRecords'. -/
def personRecordsCard : Claim7 := { stood := { row := personRecordsRow, standIns := [], harness := (true, "93b7b59cf957424d2f96a40409ef9b25cfc8dc0cc063c76412c45aae923f0d41"), looks := false }, kinds := [], alts := [], laidByText := true, laidKinds := [.data, .data, .data, .pinned], laidTests := true, laidLooks := .later }
def PersonRecordsCardSaid : Prop := Claim7.holds Tryz.pinned (.plain (OpenSpec.ofChange personRecordsSpec)) personRecordsCard

/-- THE TIED CARD OF 'handlaw2.DoublePairs'. -/
def doublePairsCard : Claim7 := { stood := { row := doublePairsRow, standIns := [], harness := (true, "93b7b59cf957424d2f96a40409ef9b25cfc8dc0cc063c76412c45aae923f0d41"), looks := false }, kinds := [], alts := [], laidByText := true, laidKinds := [.data, .data, .data, .pinned], laidTests := true, laidLooks := .later }
def DoublePairsCardSaid : Prop := Claim7.holds Tryz.pinned (.plain (OpenSpec.ofChange doublePairsSpec)) doublePairsCard

/-- THE SECOND FORM's CARD OF 'handlaw2.PersonChains'. -/
def personChainsUptoCard : Claim7 := { stood := { row := personChainsUptoRow, standIns := [], harness := (true, "93b7b59cf957424d2f96a40409ef9b25cfc8dc0cc063c76412c45aae923f0d41"), looks := false }, kinds := [], alts := [], laidByText := true, laidKinds := [.data, .data, .data, .pinned], laidTests := true, laidLooks := .later }
def PersonChainsUptoCardSaid : Prop := Claim7.holds Tryz.pinned (.plain (OpenSpec.upto personChainsSpec)) personChainsUptoCard

/-- THE SECOND FORM's CARD OF 'handlaw2.PersonRecords'. -/
def personRecordsUptoCard : Claim7 := { stood := { row := personRecordsUptoRow, standIns := [], harness := (true, "93b7b59cf957424d2f96a40409ef9b25cfc8dc0cc063c76412c45aae923f0d41"), looks := false }, kinds := [], alts := [], laidByText := true, laidKinds := [.data, .data, .data, .pinned], laidTests := true, laidLooks := .later }
def PersonRecordsUptoCardSaid : Prop := Claim7.holds Tryz.pinned (.plain (OpenSpec.upto personRecordsSpec)) personRecordsUptoCard

/-- THE SECOND FORM's CARD OF 'handlaw2.DoublePairs'. -/
def doublePairsUptoCard : Claim7 := { stood := { row := doublePairsUptoRow, standIns := [], harness := (true, "93b7b59cf957424d2f96a40409ef9b25cfc8dc0cc063c76412c45aae923f0d41"), looks := false }, kinds := [], alts := [], laidByText := true, laidKinds := [.data, .data, .data, .pinned], laidTests := true, laidLooks := .later }
def DoublePairsUptoCardSaid : Prop := Claim7.holds Tryz.pinned (.plain (OpenSpec.upto doublePairsSpec)) doublePairsUptoCard
end Rows
end Go.Proofs.YtfdcgedcfafmcaaGreatDoor
