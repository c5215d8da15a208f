/-
  DERIVED. GIVEN WITH THE SEED: THE CARDS: each row of YtmlpkejeglpciaaGreatDoorRows.lean that lists a variable, with what it lists TIED to the program's text (the seventh form; the later family's looks); each row that meets fmt, with fmt's text TOLD by the authors' own Lean function (tested against real Go, not proved from fmt's source: count such statements apart). THE CARD IS WHAT COUNTS. Prove the row's statement (the work); the ties are given (YtmlpkejeglpciaaGreatDoorTie.lean); close each card by the builder's one call (the guide's Derived/Test/ToyasCard.lean, 'card_holds'). Laid BY PROGRAM, IN A SANDBOX (cutbox-door.mjs). By AI agents, Wed Nov 11 2026. No macro, syntax, notation, axiom, sorry.
-/
import Derived.Test.YtmlpkejeglpciaaGreatDoorRows
import GoSem.ClaimSeven
namespace Go.Proofs.YtmlpkejeglpciaaGreatDoor
namespace Rows

/-- THE TIED CARD OF 'handlaw2.LogFollows'. -/
def logFollowsCard : Claim7 := { stood := { row := logFollowsRow, standIns := [], harness := (true, "c3fa3d2e404480cfc819c3b1ad6dbce2eecda79309d1c703a884f3893b2eb9dd"), looks := true }, kinds := [], alts := [], laidByText := true, laidKinds := [.data, .data, .data, .data, .pinned], laidTests := true, laidLooks := .later }
def LogFollowsCardSaid : Prop := Claim7.holds Tryz.pinned (.plain (OpenSpec.ofChange logFollowsSpec)) logFollowsCard

/-- THE TIED CARD OF 'handlaw2.LogJoins'. -/
def logJoinsCard : Claim7 := { stood := { row := logJoinsRow, standIns := [], harness := (true, "c3fa3d2e404480cfc819c3b1ad6dbce2eecda79309d1c703a884f3893b2eb9dd"), looks := true }, kinds := [], alts := [], laidByText := true, laidKinds := [.data, .data, .data, .data, .pinned], laidTests := true, laidLooks := .later }
def LogJoinsCardSaid : Prop := Claim7.holds Tryz.pinned (.plain (OpenSpec.ofChange logJoinsSpec)) logJoinsCard

/-- THE TIED CARD OF 'handlaw2.EventPacks'. -/
def eventPacksCard : Claim7 := { stood := { row := eventPacksRow, standIns := [], harness := (true, "c3fa3d2e404480cfc819c3b1ad6dbce2eecda79309d1c703a884f3893b2eb9dd"), looks := true }, kinds := [], alts := [], laidByText := true, laidKinds := [.data, .data, .data, .data, .pinned], laidTests := true, laidLooks := .later }
def EventPacksCardSaid : Prop := Claim7.holds Tryz.pinned (.plain (OpenSpec.ofChange eventPacksSpec)) eventPacksCard

/-- THE TIED CARD OF 'handlaw2.EventTexts'. -/
def eventTextsCard : Claim7 := { stood := { row := eventTextsRow, standIns := [], harness := (true, "c3fa3d2e404480cfc819c3b1ad6dbce2eecda79309d1c703a884f3893b2eb9dd"), looks := true }, kinds := [], alts := [], laidByText := true, laidKinds := [.data, .data, .data, .data, .sentinel, .sentinel, .data, .data, .data, .pinned], laidTests := true, laidLooks := .later }
def EventTextsCardSaid : Prop := Claim7.holds Tryz.pinned (.plain (OpenSpec.ofChange eventTextsSpec)) eventTextsCard

/-- THE SECOND FORM's CARD OF 'handlaw2.LogFollows'. -/
def logFollowsUptoCard : Claim7 := { stood := { row := logFollowsUptoRow, standIns := [], harness := (true, "c3fa3d2e404480cfc819c3b1ad6dbce2eecda79309d1c703a884f3893b2eb9dd"), looks := true }, kinds := [], alts := [], laidByText := true, laidKinds := [.data, .data, .data, .data, .pinned], laidTests := true, laidLooks := .later }
def LogFollowsUptoCardSaid : Prop := Claim7.holds Tryz.pinned (.plain (OpenSpec.upto logFollowsSpec)) logFollowsUptoCard

/-- THE SECOND FORM's CARD OF 'handlaw2.LogJoins'. -/
def logJoinsUptoCard : Claim7 := { stood := { row := logJoinsUptoRow, standIns := [], harness := (true, "c3fa3d2e404480cfc819c3b1ad6dbce2eecda79309d1c703a884f3893b2eb9dd"), looks := true }, kinds := [], alts := [], laidByText := true, laidKinds := [.data, .data, .data, .data, .pinned], laidTests := true, laidLooks := .later }
def LogJoinsUptoCardSaid : Prop := Claim7.holds Tryz.pinned (.plain (OpenSpec.upto logJoinsSpec)) logJoinsUptoCard

/-- THE SECOND FORM's CARD OF 'handlaw2.EventPacks'. -/
def eventPacksUptoCard : Claim7 := { stood := { row := eventPacksUptoRow, standIns := [], harness := (true, "c3fa3d2e404480cfc819c3b1ad6dbce2eecda79309d1c703a884f3893b2eb9dd"), looks := true }, kinds := [], alts := [], laidByText := true, laidKinds := [.data, .data, .data, .data, .pinned], laidTests := true, laidLooks := .later }
def EventPacksUptoCardSaid : Prop := Claim7.holds Tryz.pinned (.plain (OpenSpec.upto eventPacksSpec)) eventPacksUptoCard

/-- THE SECOND FORM's CARD OF 'handlaw2.EventTexts'. -/
def eventTextsUptoCard : Claim7 := { stood := { row := eventTextsUptoRow, standIns := [], harness := (true, "c3fa3d2e404480cfc819c3b1ad6dbce2eecda79309d1c703a884f3893b2eb9dd"), looks := true }, kinds := [], alts := [], laidByText := true, laidKinds := [.data, .data, .data, .data, .sentinel, .sentinel, .data, .data, .data, .pinned], laidTests := true, laidLooks := .later }
def EventTextsUptoCardSaid : Prop := Claim7.holds Tryz.pinned (.plain (OpenSpec.upto eventTextsSpec)) eventTextsUptoCard
end Rows
end Go.Proofs.YtmlpkejeglpciaaGreatDoor
