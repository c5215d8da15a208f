/-
  DERIVED. GIVEN WITH THE SEED: THE CARDS: each row of YtbbljokemhjkhaaGreatDoorRows.lean that lists a variable, with what it lists TIED to the program's text (the seventh form; the later family's looks); each row that meets fmt, with fmt's text TOLD by the authors' own Lean function (tested against real Go, not proved from fmt's source: count such statements apart). THE CARD IS WHAT COUNTS. Prove the row's statement (the work); the ties are given (YtbbljokemhjkhaaGreatDoorTie.lean); close each card by the builder's one call (the guide's Derived/Test/ToyasCard.lean, 'card_holds'). Laid BY PROGRAM, IN A SANDBOX (cutbox-door.mjs). By AI agents, Wed Nov 11 2026. No macro, syntax, notation, axiom, sorry.
-/
import Derived.Test.YtbbljokemhjkhaaGreatDoorRows
import GoSem.ClaimSeven
namespace Go.Proofs.YtbbljokemhjkhaaGreatDoor
namespace Rows

/-- THE TIED CARD OF 'handlaw2.EventNamed'. -/
def eventNamedCard : Claim7 := { stood := { row := eventNamedRow, standIns := [], harness := (true, "5708c02461ee3ea9876dab48fac87d7bcbe5b74a440dc1f4a87e6c4e878db686"), looks := false }, kinds := [], alts := [], laidByText := true, laidKinds := [.data, .data, .data, .data, .pinned], laidTests := true, laidLooks := .later }
def EventNamedCardSaid : Prop := Claim7.holds Tryz.pinned (.plain (OpenSpec.ofChange eventNamedSpec)) eventNamedCard

/-- THE TIED CARD OF 'handlaw2.TouchChecks'. -/
def touchChecksCard : Claim7 := { stood := { row := touchChecksRow, standIns := [], harness := (true, "5708c02461ee3ea9876dab48fac87d7bcbe5b74a440dc1f4a87e6c4e878db686"), looks := false }, kinds := [], alts := [], laidByText := true, laidKinds := [.data, .data, .data, .pinned], laidTests := true, laidLooks := .later }
def TouchChecksCardSaid : Prop := Claim7.holds Tryz.pinned (.plain (OpenSpec.ofChange touchChecksSpec)) touchChecksCard

/-- THE TIED CARD OF 'handlaw2.TouchJoins'. -/
def touchJoinsCard : Claim7 := { stood := { row := touchJoinsRow, standIns := [], harness := (true, "5708c02461ee3ea9876dab48fac87d7bcbe5b74a440dc1f4a87e6c4e878db686"), looks := false }, kinds := [], alts := [], laidByText := true, laidKinds := [.data, .data, .data, .pinned], laidTests := true, laidLooks := .later }
def TouchJoinsCardSaid : Prop := Claim7.holds Tryz.pinned (.plain (OpenSpec.ofChange touchJoinsSpec)) touchJoinsCard

/-- THE TIED CARD OF 'handlaw2.PersonOfs'. -/
def personOfsCard : Claim7 := { stood := { row := personOfsRow, standIns := [], harness := (true, "5708c02461ee3ea9876dab48fac87d7bcbe5b74a440dc1f4a87e6c4e878db686"), looks := false }, kinds := [], alts := [], laidByText := true, laidKinds := [.data, .data, .data, .pinned], laidTests := true, laidLooks := .later }
def PersonOfsCardSaid : Prop := Claim7.holds Tryz.pinned (.plain (OpenSpec.ofChange personOfsSpec)) personOfsCard

/-- THE SECOND FORM's CARD OF 'handlaw2.EventNamed'. -/
def eventNamedUptoCard : Claim7 := { stood := { row := eventNamedUptoRow, standIns := [], harness := (true, "5708c02461ee3ea9876dab48fac87d7bcbe5b74a440dc1f4a87e6c4e878db686"), looks := false }, kinds := [], alts := [], laidByText := true, laidKinds := [.data, .data, .data, .data, .pinned], laidTests := true, laidLooks := .later }
def EventNamedUptoCardSaid : Prop := Claim7.holds Tryz.pinned (.plain (OpenSpec.upto eventNamedSpec)) eventNamedUptoCard

/-- THE SECOND FORM's CARD OF 'handlaw2.TouchChecks'. -/
def touchChecksUptoCard : Claim7 := { stood := { row := touchChecksUptoRow, standIns := [], harness := (true, "5708c02461ee3ea9876dab48fac87d7bcbe5b74a440dc1f4a87e6c4e878db686"), looks := false }, kinds := [], alts := [], laidByText := true, laidKinds := [.data, .data, .data, .pinned], laidTests := true, laidLooks := .later }
def TouchChecksUptoCardSaid : Prop := Claim7.holds Tryz.pinned (.plain (OpenSpec.upto touchChecksSpec)) touchChecksUptoCard

/-- THE SECOND FORM's CARD OF 'handlaw2.TouchJoins'. -/
def touchJoinsUptoCard : Claim7 := { stood := { row := touchJoinsUptoRow, standIns := [], harness := (true, "5708c02461ee3ea9876dab48fac87d7bcbe5b74a440dc1f4a87e6c4e878db686"), looks := false }, kinds := [], alts := [], laidByText := true, laidKinds := [.data, .data, .data, .pinned], laidTests := true, laidLooks := .later }
def TouchJoinsUptoCardSaid : Prop := Claim7.holds Tryz.pinned (.plain (OpenSpec.upto touchJoinsSpec)) touchJoinsUptoCard

/-- THE SECOND FORM's CARD OF 'handlaw2.PersonOfs'. -/
def personOfsUptoCard : Claim7 := { stood := { row := personOfsUptoRow, standIns := [], harness := (true, "5708c02461ee3ea9876dab48fac87d7bcbe5b74a440dc1f4a87e6c4e878db686"), looks := false }, kinds := [], alts := [], laidByText := true, laidKinds := [.data, .data, .data, .pinned], laidTests := true, laidLooks := .later }
def PersonOfsUptoCardSaid : Prop := Claim7.holds Tryz.pinned (.plain (OpenSpec.upto personOfsSpec)) personOfsUptoCard
end Rows
end Go.Proofs.YtbbljokemhjkhaaGreatDoor
