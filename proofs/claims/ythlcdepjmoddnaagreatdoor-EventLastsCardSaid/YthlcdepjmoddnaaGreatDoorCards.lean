/-
  DERIVED. GIVEN WITH THE SEED: THE CARDS: each row of YthlcdepjmoddnaaGreatDoorRows.lean that lists a variable, with what it lists TIED to the program's text (the seventh form; the later family's looks); each row that meets fmt, with fmt's text TOLD by the authors' own Lean function (tested against real Go, not proved from fmt's source: count such statements apart). THE CARD IS WHAT COUNTS. Prove the row's statement (the work); the ties are given (YthlcdepjmoddnaaGreatDoorTie.lean); close each card by the builder's one call (the guide's Derived/Test/ToyasCard.lean, 'card_holds'). Laid BY PROGRAM, IN A SANDBOX (cutbox-door.mjs). By AI agents, Wed Nov 11 2026. No macro, syntax, notation, axiom, sorry.
-/
import Derived.Test.YthlcdepjmoddnaaGreatDoorRows
import GoSem.ClaimSeven
namespace Go.Proofs.YthlcdepjmoddnaaGreatDoor
namespace Rows

/-- THE TIED CARD OF 'handlaw2.SchemaChecks'. -/
def schemaChecksCard : Claim7 := { stood := { row := schemaChecksRow, standIns := [], harness := (true, "ceeb8227996892bd6f7b3d6424bf203dedc88a6bcb8d26a56f883b62aedc3afe"), looks := false }, kinds := [], alts := [], laidByText := true, laidKinds := [.data, .data, .data, .data, .pinned], laidTests := true, laidLooks := .later }
def SchemaChecksCardSaid : Prop := Claim7.holds Tryz.pinned (.plain (OpenSpec.ofChange schemaChecksSpec)) schemaChecksCard

/-- THE TIED CARD OF 'handlaw2.EventBusiest'. -/
def eventBusiestCard : Claim7 := { stood := { row := eventBusiestRow, standIns := [], harness := (true, "ceeb8227996892bd6f7b3d6424bf203dedc88a6bcb8d26a56f883b62aedc3afe"), looks := false }, kinds := [], alts := [], laidByText := true, laidKinds := [.data, .data, .data, .data, .pinned], laidTests := true, laidLooks := .later }
def EventBusiestCardSaid : Prop := Claim7.holds Tryz.pinned (.plain (OpenSpec.ofChange eventBusiestSpec)) eventBusiestCard

/-- THE TIED CARD OF 'handlaw2.EventSessions'. -/
def eventSessionsCard : Claim7 := { stood := { row := eventSessionsRow, standIns := [], harness := (true, "ceeb8227996892bd6f7b3d6424bf203dedc88a6bcb8d26a56f883b62aedc3afe"), looks := false }, kinds := [], alts := [], laidByText := true, laidKinds := [.data, .data, .data, .data, .pinned], laidTests := true, laidLooks := .later }
def EventSessionsCardSaid : Prop := Claim7.holds Tryz.pinned (.plain (OpenSpec.ofChange eventSessionsSpec)) eventSessionsCard

/-- THE TIED CARD OF 'handlaw2.EventLasts'. -/
def eventLastsCard : Claim7 := { stood := { row := eventLastsRow, standIns := [], harness := (true, "ceeb8227996892bd6f7b3d6424bf203dedc88a6bcb8d26a56f883b62aedc3afe"), looks := false }, kinds := [], alts := [], laidByText := true, laidKinds := [.data, .data, .data, .data, .pinned], laidTests := true, laidLooks := .later }
def EventLastsCardSaid : Prop := Claim7.holds Tryz.pinned (.plain (OpenSpec.ofChange eventLastsSpec)) eventLastsCard

/-- THE TIED CARD OF 'handlaw2.EventSeries'. -/
def eventSeriesCard : Claim7 := { stood := { row := eventSeriesRow, standIns := [], harness := (true, "ceeb8227996892bd6f7b3d6424bf203dedc88a6bcb8d26a56f883b62aedc3afe"), looks := false }, kinds := [], alts := [], laidByText := true, laidKinds := [.data, .data, .data, .data, .pinned], laidTests := true, laidLooks := .later }
def EventSeriesCardSaid : Prop := Claim7.holds Tryz.pinned (.plain (OpenSpec.ofChange eventSeriesSpec)) eventSeriesCard

/-- THE TIED CARD OF 'handlaw2.EventChecks'. -/
def eventChecksCard : Claim7 := { stood := { row := eventChecksRow, standIns := [], harness := (true, "ceeb8227996892bd6f7b3d6424bf203dedc88a6bcb8d26a56f883b62aedc3afe"), looks := false }, kinds := [], alts := [], laidByText := true, laidKinds := [.data, .data, .data, .data, .pinned], laidTests := true, laidLooks := .later }
def EventChecksCardSaid : Prop := Claim7.holds Tryz.pinned (.plain (OpenSpec.ofChange eventChecksSpec)) eventChecksCard

/-- THE TIED CARD OF 'handlaw2.EventFunnels'. -/
def eventFunnelsCard : Claim7 := { stood := { row := eventFunnelsRow, standIns := [], harness := (true, "ceeb8227996892bd6f7b3d6424bf203dedc88a6bcb8d26a56f883b62aedc3afe"), looks := false }, kinds := [], alts := [], laidByText := true, laidKinds := [.data, .data, .data, .data, .pinned], laidTests := true, laidLooks := .later }
def EventFunnelsCardSaid : Prop := Claim7.holds Tryz.pinned (.plain (OpenSpec.ofChange eventFunnelsSpec)) eventFunnelsCard

/-- THE TIED CARD OF 'handlaw2.EventPacks'. -/
def eventPacksCard : Claim7 := { stood := { row := eventPacksRow, standIns := [], harness := (true, "ceeb8227996892bd6f7b3d6424bf203dedc88a6bcb8d26a56f883b62aedc3afe"), looks := false }, kinds := [], alts := [], laidByText := true, laidKinds := [.data, .data, .data, .data, .pinned], laidTests := true, laidLooks := .later }
def EventPacksCardSaid : Prop := Claim7.holds Tryz.pinned (.plain (OpenSpec.ofChange eventPacksSpec)) eventPacksCard

/-- THE TIED CARD OF 'handlaw2.EventNamed'. -/
def eventNamedCard : Claim7 := { stood := { row := eventNamedRow, standIns := [], harness := (true, "ceeb8227996892bd6f7b3d6424bf203dedc88a6bcb8d26a56f883b62aedc3afe"), looks := false }, kinds := [], alts := [], laidByText := true, laidKinds := [.data, .data, .data, .data, .pinned], laidTests := true, laidLooks := .later }
def EventNamedCardSaid : Prop := Claim7.holds Tryz.pinned (.plain (OpenSpec.ofChange eventNamedSpec)) eventNamedCard

/-- THE SECOND FORM's CARD OF 'handlaw2.SchemaChecks'. -/
def schemaChecksUptoCard : Claim7 := { stood := { row := schemaChecksUptoRow, standIns := [], harness := (true, "ceeb8227996892bd6f7b3d6424bf203dedc88a6bcb8d26a56f883b62aedc3afe"), looks := false }, kinds := [], alts := [], laidByText := true, laidKinds := [.data, .data, .data, .data, .pinned], laidTests := true, laidLooks := .later }
def SchemaChecksUptoCardSaid : Prop := Claim7.holds Tryz.pinned (.plain (OpenSpec.upto schemaChecksSpec)) schemaChecksUptoCard

/-- THE SECOND FORM's CARD OF 'handlaw2.EventBusiest'. -/
def eventBusiestUptoCard : Claim7 := { stood := { row := eventBusiestUptoRow, standIns := [], harness := (true, "ceeb8227996892bd6f7b3d6424bf203dedc88a6bcb8d26a56f883b62aedc3afe"), looks := false }, kinds := [], alts := [], laidByText := true, laidKinds := [.data, .data, .data, .data, .pinned], laidTests := true, laidLooks := .later }
def EventBusiestUptoCardSaid : Prop := Claim7.holds Tryz.pinned (.plain (OpenSpec.upto eventBusiestSpec)) eventBusiestUptoCard

/-- THE SECOND FORM's CARD OF 'handlaw2.EventSessions'. -/
def eventSessionsUptoCard : Claim7 := { stood := { row := eventSessionsUptoRow, standIns := [], harness := (true, "ceeb8227996892bd6f7b3d6424bf203dedc88a6bcb8d26a56f883b62aedc3afe"), looks := false }, kinds := [], alts := [], laidByText := true, laidKinds := [.data, .data, .data, .data, .pinned], laidTests := true, laidLooks := .later }
def EventSessionsUptoCardSaid : Prop := Claim7.holds Tryz.pinned (.plain (OpenSpec.upto eventSessionsSpec)) eventSessionsUptoCard

/-- THE SECOND FORM's CARD OF 'handlaw2.EventLasts'. -/
def eventLastsUptoCard : Claim7 := { stood := { row := eventLastsUptoRow, standIns := [], harness := (true, "ceeb8227996892bd6f7b3d6424bf203dedc88a6bcb8d26a56f883b62aedc3afe"), looks := false }, kinds := [], alts := [], laidByText := true, laidKinds := [.data, .data, .data, .data, .pinned], laidTests := true, laidLooks := .later }
def EventLastsUptoCardSaid : Prop := Claim7.holds Tryz.pinned (.plain (OpenSpec.upto eventLastsSpec)) eventLastsUptoCard

/-- THE SECOND FORM's CARD OF 'handlaw2.EventSeries'. -/
def eventSeriesUptoCard : Claim7 := { stood := { row := eventSeriesUptoRow, standIns := [], harness := (true, "ceeb8227996892bd6f7b3d6424bf203dedc88a6bcb8d26a56f883b62aedc3afe"), looks := false }, kinds := [], alts := [], laidByText := true, laidKinds := [.data, .data, .data, .data, .pinned], laidTests := true, laidLooks := .later }
def EventSeriesUptoCardSaid : Prop := Claim7.holds Tryz.pinned (.plain (OpenSpec.upto eventSeriesSpec)) eventSeriesUptoCard

/-- THE SECOND FORM's CARD OF 'handlaw2.EventChecks'. -/
def eventChecksUptoCard : Claim7 := { stood := { row := eventChecksUptoRow, standIns := [], harness := (true, "ceeb8227996892bd6f7b3d6424bf203dedc88a6bcb8d26a56f883b62aedc3afe"), looks := false }, kinds := [], alts := [], laidByText := true, laidKinds := [.data, .data, .data, .data, .pinned], laidTests := true, laidLooks := .later }
def EventChecksUptoCardSaid : Prop := Claim7.holds Tryz.pinned (.plain (OpenSpec.upto eventChecksSpec)) eventChecksUptoCard

/-- THE SECOND FORM's CARD OF 'handlaw2.EventFunnels'. -/
def eventFunnelsUptoCard : Claim7 := { stood := { row := eventFunnelsUptoRow, standIns := [], harness := (true, "ceeb8227996892bd6f7b3d6424bf203dedc88a6bcb8d26a56f883b62aedc3afe"), looks := false }, kinds := [], alts := [], laidByText := true, laidKinds := [.data, .data, .data, .data, .pinned], laidTests := true, laidLooks := .later }
def EventFunnelsUptoCardSaid : Prop := Claim7.holds Tryz.pinned (.plain (OpenSpec.upto eventFunnelsSpec)) eventFunnelsUptoCard

/-- THE SECOND FORM's CARD OF 'handlaw2.EventPacks'. -/
def eventPacksUptoCard : Claim7 := { stood := { row := eventPacksUptoRow, standIns := [], harness := (true, "ceeb8227996892bd6f7b3d6424bf203dedc88a6bcb8d26a56f883b62aedc3afe"), looks := false }, kinds := [], alts := [], laidByText := true, laidKinds := [.data, .data, .data, .data, .pinned], laidTests := true, laidLooks := .later }
def EventPacksUptoCardSaid : Prop := Claim7.holds Tryz.pinned (.plain (OpenSpec.upto eventPacksSpec)) eventPacksUptoCard

/-- THE SECOND FORM's CARD OF 'handlaw2.EventNamed'. -/
def eventNamedUptoCard : Claim7 := { stood := { row := eventNamedUptoRow, standIns := [], harness := (true, "ceeb8227996892bd6f7b3d6424bf203dedc88a6bcb8d26a56f883b62aedc3afe"), looks := false }, kinds := [], alts := [], laidByText := true, laidKinds := [.data, .data, .data, .data, .pinned], laidTests := true, laidLooks := .later }
def EventNamedUptoCardSaid : Prop := Claim7.holds Tryz.pinned (.plain (OpenSpec.upto eventNamedSpec)) eventNamedUptoCard
end Rows
end Go.Proofs.YthlcdepjmoddnaaGreatDoor
