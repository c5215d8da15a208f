/-
  DERIVED. GIVEN WITH THE SEED: THE CARDS: each row of YtlnklkedpknbpaaGreatDoorRows.lean that lists a variable, with what it lists TIED to the program's text (the seventh form; the later family's looks); each row that meets fmt, with fmt's text TOLD by the authors' own Lean function (tested against real Go, not proved from fmt's source: count such statements apart). THE CARD IS WHAT COUNTS. Prove the row's statement (the work); the ties are given (YtlnklkedpknbpaaGreatDoorTie.lean); close each card by the builder's one call (the guide's Derived/Test/ToyasCard.lean, 'card_holds'). Laid BY PROGRAM, IN A SANDBOX (cutbox-door.mjs). By AI agents, Wed Nov 11 2026. No macro, syntax, notation, axiom, sorry.
-/
import Derived.Test.YtlnklkedpknbpaaGreatDoorRows
import GoSem.ClaimSeven
namespace Go.Proofs.YtlnklkedpknbpaaGreatDoor
namespace Rows

/-- THE TIED CARD OF 'handlaw2.PolicyChecks'. -/
def policyChecksCard : Claim7 := { stood := { row := policyChecksRow, standIns := [], harness := (true, "6a2fa101ff1dc518c1dd52273ac43d6adb3e0a83008749513065749c82a67ce9"), looks := false }, kinds := [], alts := [], laidByText := true, laidKinds := [.data, .data, .pinned], laidTests := true, laidLooks := .later }
def PolicyChecksCardSaid : Prop := Claim7.holds Tryz.pinned (.plain (OpenSpec.ofChange policyChecksSpec)) policyChecksCard

/-- THE TIED CARD OF 'handlaw2.StatementChecks'. -/
def statementChecksCard : Claim7 := { stood := { row := statementChecksRow, standIns := [], harness := (true, "6a2fa101ff1dc518c1dd52273ac43d6adb3e0a83008749513065749c82a67ce9"), looks := false }, kinds := [], alts := [], laidByText := true, laidKinds := [.data, .data, .pinned], laidTests := true, laidLooks := .later }
def StatementChecksCardSaid : Prop := Claim7.holds Tryz.pinned (.plain (OpenSpec.ofChange statementChecksSpec)) statementChecksCard

/-- THE TIED CARD OF 'handlaw2.ConsentAsks'. -/
def consentAsksCard : Claim7 := { stood := { row := consentAsksRow, standIns := [], harness := (true, "6a2fa101ff1dc518c1dd52273ac43d6adb3e0a83008749513065749c82a67ce9"), looks := false }, kinds := [], alts := [], laidByText := true, laidKinds := [.data, .data, .pinned], laidTests := true, laidLooks := .later }
def ConsentAsksCardSaid : Prop := Claim7.holds Tryz.pinned (.plain (OpenSpec.ofChange consentAsksSpec)) consentAsksCard

/-- THE TIED CARD OF 'handlaw2.ConsentChoices'. -/
def consentChoicesCard : Claim7 := { stood := { row := consentChoicesRow, standIns := [], harness := (true, "6a2fa101ff1dc518c1dd52273ac43d6adb3e0a83008749513065749c82a67ce9"), looks := false }, kinds := [], alts := [], laidByText := true, laidKinds := [.data, .data, .pinned], laidTests := true, laidLooks := .later }
def ConsentChoicesCardSaid : Prop := Claim7.holds Tryz.pinned (.plain (OpenSpec.ofChange consentChoicesSpec)) consentChoicesCard

/-- THE TIED CARD OF 'handlaw2.ConsentPersons'. -/
def consentPersonsCard : Claim7 := { stood := { row := consentPersonsRow, standIns := [], harness := (true, "6a2fa101ff1dc518c1dd52273ac43d6adb3e0a83008749513065749c82a67ce9"), looks := false }, kinds := [], alts := [], laidByText := true, laidKinds := [.data, .data, .pinned], laidTests := true, laidLooks := .later }
def ConsentPersonsCardSaid : Prop := Claim7.holds Tryz.pinned (.plain (OpenSpec.ofChange consentPersonsSpec)) consentPersonsCard

/-- THE TIED CARD OF 'handlaw2.ConsentAudiences'. -/
def consentAudiencesCard : Claim7 := { stood := { row := consentAudiencesRow, standIns := [], harness := (true, "6a2fa101ff1dc518c1dd52273ac43d6adb3e0a83008749513065749c82a67ce9"), looks := false }, kinds := [], alts := [], laidByText := true, laidKinds := [.data, .data, .pinned], laidTests := true, laidLooks := .later }
def ConsentAudiencesCardSaid : Prop := Claim7.holds Tryz.pinned (.plain (OpenSpec.ofChange consentAudiencesSpec)) consentAudiencesCard

/-- THE TIED CARD OF 'handlaw2.ConsentChanges'. -/
def consentChangesCard : Claim7 := { stood := { row := consentChangesRow, standIns := [], harness := (true, "6a2fa101ff1dc518c1dd52273ac43d6adb3e0a83008749513065749c82a67ce9"), looks := false }, kinds := [], alts := [], laidByText := true, laidKinds := [.data, .data, .pinned], laidTests := true, laidLooks := .later }
def ConsentChangesCardSaid : Prop := Claim7.holds Tryz.pinned (.plain (OpenSpec.ofChange consentChangesSpec)) consentChangesCard

/-- THE TIED CARD OF 'handlaw2.ConsentProofs'. -/
def consentProofsCard : Claim7 := { stood := { row := consentProofsRow, standIns := [], harness := (true, "6a2fa101ff1dc518c1dd52273ac43d6adb3e0a83008749513065749c82a67ce9"), looks := false }, kinds := [], alts := [], laidByText := true, laidKinds := [.data, .data, .pinned], laidTests := true, laidLooks := .later }
def ConsentProofsCardSaid : Prop := Claim7.holds Tryz.pinned (.plain (OpenSpec.ofChange consentProofsSpec)) consentProofsCard

/-- THE TIED CARD OF 'handlaw2.ConsentPeriods'. -/
def consentPeriodsCard : Claim7 := { stood := { row := consentPeriodsRow, standIns := [], harness := (true, "6a2fa101ff1dc518c1dd52273ac43d6adb3e0a83008749513065749c82a67ce9"), looks := false }, kinds := [], alts := [], laidByText := true, laidKinds := [.data, .data, .pinned], laidTests := true, laidLooks := .later }
def ConsentPeriodsCardSaid : Prop := Claim7.holds Tryz.pinned (.plain (OpenSpec.ofChange consentPeriodsSpec)) consentPeriodsCard

/-- THE SECOND FORM's CARD OF 'handlaw2.PolicyChecks'. -/
def policyChecksUptoCard : Claim7 := { stood := { row := policyChecksUptoRow, standIns := [], harness := (true, "6a2fa101ff1dc518c1dd52273ac43d6adb3e0a83008749513065749c82a67ce9"), looks := false }, kinds := [], alts := [], laidByText := true, laidKinds := [.data, .data, .pinned], laidTests := true, laidLooks := .later }
def PolicyChecksUptoCardSaid : Prop := Claim7.holds Tryz.pinned (.plain (OpenSpec.upto policyChecksSpec)) policyChecksUptoCard

/-- THE SECOND FORM's CARD OF 'handlaw2.StatementChecks'. -/
def statementChecksUptoCard : Claim7 := { stood := { row := statementChecksUptoRow, standIns := [], harness := (true, "6a2fa101ff1dc518c1dd52273ac43d6adb3e0a83008749513065749c82a67ce9"), looks := false }, kinds := [], alts := [], laidByText := true, laidKinds := [.data, .data, .pinned], laidTests := true, laidLooks := .later }
def StatementChecksUptoCardSaid : Prop := Claim7.holds Tryz.pinned (.plain (OpenSpec.upto statementChecksSpec)) statementChecksUptoCard

/-- THE SECOND FORM's CARD OF 'handlaw2.ConsentAsks'. -/
def consentAsksUptoCard : Claim7 := { stood := { row := consentAsksUptoRow, standIns := [], harness := (true, "6a2fa101ff1dc518c1dd52273ac43d6adb3e0a83008749513065749c82a67ce9"), looks := false }, kinds := [], alts := [], laidByText := true, laidKinds := [.data, .data, .pinned], laidTests := true, laidLooks := .later }
def ConsentAsksUptoCardSaid : Prop := Claim7.holds Tryz.pinned (.plain (OpenSpec.upto consentAsksSpec)) consentAsksUptoCard

/-- THE SECOND FORM's CARD OF 'handlaw2.ConsentChoices'. -/
def consentChoicesUptoCard : Claim7 := { stood := { row := consentChoicesUptoRow, standIns := [], harness := (true, "6a2fa101ff1dc518c1dd52273ac43d6adb3e0a83008749513065749c82a67ce9"), looks := false }, kinds := [], alts := [], laidByText := true, laidKinds := [.data, .data, .pinned], laidTests := true, laidLooks := .later }
def ConsentChoicesUptoCardSaid : Prop := Claim7.holds Tryz.pinned (.plain (OpenSpec.upto consentChoicesSpec)) consentChoicesUptoCard

/-- THE SECOND FORM's CARD OF 'handlaw2.ConsentPersons'. -/
def consentPersonsUptoCard : Claim7 := { stood := { row := consentPersonsUptoRow, standIns := [], harness := (true, "6a2fa101ff1dc518c1dd52273ac43d6adb3e0a83008749513065749c82a67ce9"), looks := false }, kinds := [], alts := [], laidByText := true, laidKinds := [.data, .data, .pinned], laidTests := true, laidLooks := .later }
def ConsentPersonsUptoCardSaid : Prop := Claim7.holds Tryz.pinned (.plain (OpenSpec.upto consentPersonsSpec)) consentPersonsUptoCard

/-- THE SECOND FORM's CARD OF 'handlaw2.ConsentAudiences'. -/
def consentAudiencesUptoCard : Claim7 := { stood := { row := consentAudiencesUptoRow, standIns := [], harness := (true, "6a2fa101ff1dc518c1dd52273ac43d6adb3e0a83008749513065749c82a67ce9"), looks := false }, kinds := [], alts := [], laidByText := true, laidKinds := [.data, .data, .pinned], laidTests := true, laidLooks := .later }
def ConsentAudiencesUptoCardSaid : Prop := Claim7.holds Tryz.pinned (.plain (OpenSpec.upto consentAudiencesSpec)) consentAudiencesUptoCard

/-- THE SECOND FORM's CARD OF 'handlaw2.ConsentChanges'. -/
def consentChangesUptoCard : Claim7 := { stood := { row := consentChangesUptoRow, standIns := [], harness := (true, "6a2fa101ff1dc518c1dd52273ac43d6adb3e0a83008749513065749c82a67ce9"), looks := false }, kinds := [], alts := [], laidByText := true, laidKinds := [.data, .data, .pinned], laidTests := true, laidLooks := .later }
def ConsentChangesUptoCardSaid : Prop := Claim7.holds Tryz.pinned (.plain (OpenSpec.upto consentChangesSpec)) consentChangesUptoCard

/-- THE SECOND FORM's CARD OF 'handlaw2.ConsentProofs'. -/
def consentProofsUptoCard : Claim7 := { stood := { row := consentProofsUptoRow, standIns := [], harness := (true, "6a2fa101ff1dc518c1dd52273ac43d6adb3e0a83008749513065749c82a67ce9"), looks := false }, kinds := [], alts := [], laidByText := true, laidKinds := [.data, .data, .pinned], laidTests := true, laidLooks := .later }
def ConsentProofsUptoCardSaid : Prop := Claim7.holds Tryz.pinned (.plain (OpenSpec.upto consentProofsSpec)) consentProofsUptoCard

/-- THE SECOND FORM's CARD OF 'handlaw2.ConsentPeriods'. -/
def consentPeriodsUptoCard : Claim7 := { stood := { row := consentPeriodsUptoRow, standIns := [], harness := (true, "6a2fa101ff1dc518c1dd52273ac43d6adb3e0a83008749513065749c82a67ce9"), looks := false }, kinds := [], alts := [], laidByText := true, laidKinds := [.data, .data, .pinned], laidTests := true, laidLooks := .later }
def ConsentPeriodsUptoCardSaid : Prop := Claim7.holds Tryz.pinned (.plain (OpenSpec.upto consentPeriodsSpec)) consentPeriodsUptoCard
end Rows
end Go.Proofs.YtlnklkedpknbpaaGreatDoor
