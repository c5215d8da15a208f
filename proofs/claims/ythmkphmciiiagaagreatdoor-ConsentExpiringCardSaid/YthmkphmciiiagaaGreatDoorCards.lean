/-
  DERIVED. GIVEN WITH THE SEED: THE CARDS: each row of YthmkphmciiiagaaGreatDoorRows.lean that lists a variable, with what it lists TIED to the program's text (the seventh form; the later family's looks); each row that meets fmt, with fmt's text TOLD by the authors' own Lean function (tested against real Go, not proved from fmt's source: count such statements apart). THE CARD IS WHAT COUNTS. Prove the row's statement (the work); the ties are given (YthmkphmciiiagaaGreatDoorTie.lean); close each card by the builder's one call (the guide's Derived/Test/ToyasCard.lean, 'card_holds'). Laid BY PROGRAM, IN A SANDBOX (cutbox-door.mjs). By AI agents, Wed Nov 11 2026. No macro, syntax, notation, axiom, sorry.
-/
import Derived.Test.YthmkphmciiiagaaGreatDoorRows
import GoSem.ClaimSeven
namespace Go.Proofs.YthmkphmciiiagaaGreatDoor
namespace Rows

/-- THE TIED CARD OF 'handlaw2.ConsentChanges'. -/
def consentChangesCard : Claim7 := { stood := { row := consentChangesRow, standIns := [], harness := (true, "baba40803192848c477402e7dbce0e8e5c8823fc400a0945448f5ff776eb55e0"), looks := true }, kinds := [], alts := [], laidByText := true, laidKinds := [.data, .data, .pinned], laidTests := true, laidLooks := .later }
def ConsentChangesCardSaid : Prop := Claim7.holds Tryz.pinned (.plain (OpenSpec.ofChange consentChangesSpec)) consentChangesCard

/-- THE TIED CARD OF 'handlaw2.ConsentSeals'. -/
def consentSealsCard : Claim7 := { stood := { row := consentSealsRow, standIns := [], harness := (true, "baba40803192848c477402e7dbce0e8e5c8823fc400a0945448f5ff776eb55e0"), looks := true }, kinds := [], alts := [], laidByText := true, laidKinds := [.data, .data, .pinned], laidTests := true, laidLooks := .later }
def ConsentSealsCardSaid : Prop := Claim7.holds Tryz.pinned (.plain (OpenSpec.ofChange consentSealsSpec)) consentSealsCard

/-- THE TIED CARD OF 'handlaw2.ConsentMerges'. -/
def consentMergesCard : Claim7 := { stood := { row := consentMergesRow, standIns := [], harness := (true, "baba40803192848c477402e7dbce0e8e5c8823fc400a0945448f5ff776eb55e0"), looks := true }, kinds := [], alts := [], laidByText := true, laidKinds := [.data, .data, .pinned], laidTests := true, laidLooks := .later }
def ConsentMergesCardSaid : Prop := Claim7.holds Tryz.pinned (.plain (OpenSpec.ofChange consentMergesSpec)) consentMergesCard

/-- THE TIED CARD OF 'handlaw2.PolicyTexts'. -/
def policyTextsCard : Claim7 := { stood := { row := policyTextsRow, standIns := [], harness := (true, "baba40803192848c477402e7dbce0e8e5c8823fc400a0945448f5ff776eb55e0"), looks := true }, kinds := [], alts := [], laidByText := true, laidKinds := [.data, .data, .data, .data, .sentinel, .sentinel, .listed, .data, .pinned], laidTests := true, laidLooks := .later }
def PolicyTextsCardSaid : Prop := Claim7.holds Tryz.pinned (.plain (OpenSpec.ofChange policyTextsSpec)) policyTextsCard

/-- THE TIED CARD OF 'handlaw2.ConsentExpiring'. -/
def consentExpiringCard : Claim7 := { stood := { row := consentExpiringRow, standIns := [], harness := (true, "baba40803192848c477402e7dbce0e8e5c8823fc400a0945448f5ff776eb55e0"), looks := true }, kinds := [], alts := [], laidByText := true, laidKinds := [.data, .data, .pinned], laidTests := true, laidLooks := .later }
def ConsentExpiringCardSaid : Prop := Claim7.holds Tryz.pinned (.plain (OpenSpec.ofChange consentExpiringSpec)) consentExpiringCard

/-- THE TIED CARD OF 'handlaw2.StatementTexts'. -/
def statementTextsCard : Claim7 := { stood := { row := statementTextsRow, standIns := [], harness := (true, "baba40803192848c477402e7dbce0e8e5c8823fc400a0945448f5ff776eb55e0"), looks := true }, kinds := [], alts := [], laidByText := true, laidKinds := [.data, .data, .data, .data, .sentinel, .sentinel, .listed, .data, .data, .pinned], laidTests := true, laidLooks := .later }
def StatementTextsCardSaid : Prop := Claim7.holds Tryz.pinned (.plain (OpenSpec.ofChange statementTextsSpec)) statementTextsCard

/-- THE SECOND FORM's CARD OF 'handlaw2.ConsentChanges'. -/
def consentChangesUptoCard : Claim7 := { stood := { row := consentChangesUptoRow, standIns := [], harness := (true, "baba40803192848c477402e7dbce0e8e5c8823fc400a0945448f5ff776eb55e0"), looks := true }, kinds := [], alts := [], laidByText := true, laidKinds := [.data, .data, .pinned], laidTests := true, laidLooks := .later }
def ConsentChangesUptoCardSaid : Prop := Claim7.holds Tryz.pinned (.plain (OpenSpec.upto consentChangesSpec)) consentChangesUptoCard

/-- THE SECOND FORM's CARD OF 'handlaw2.ConsentSeals'. -/
def consentSealsUptoCard : Claim7 := { stood := { row := consentSealsUptoRow, standIns := [], harness := (true, "baba40803192848c477402e7dbce0e8e5c8823fc400a0945448f5ff776eb55e0"), looks := true }, kinds := [], alts := [], laidByText := true, laidKinds := [.data, .data, .pinned], laidTests := true, laidLooks := .later }
def ConsentSealsUptoCardSaid : Prop := Claim7.holds Tryz.pinned (.plain (OpenSpec.upto consentSealsSpec)) consentSealsUptoCard

/-- THE SECOND FORM's CARD OF 'handlaw2.ConsentMerges'. -/
def consentMergesUptoCard : Claim7 := { stood := { row := consentMergesUptoRow, standIns := [], harness := (true, "baba40803192848c477402e7dbce0e8e5c8823fc400a0945448f5ff776eb55e0"), looks := true }, kinds := [], alts := [], laidByText := true, laidKinds := [.data, .data, .pinned], laidTests := true, laidLooks := .later }
def ConsentMergesUptoCardSaid : Prop := Claim7.holds Tryz.pinned (.plain (OpenSpec.upto consentMergesSpec)) consentMergesUptoCard

/-- THE SECOND FORM's CARD OF 'handlaw2.PolicyTexts'. -/
def policyTextsUptoCard : Claim7 := { stood := { row := policyTextsUptoRow, standIns := [], harness := (true, "baba40803192848c477402e7dbce0e8e5c8823fc400a0945448f5ff776eb55e0"), looks := true }, kinds := [], alts := [], laidByText := true, laidKinds := [.data, .data, .data, .data, .sentinel, .sentinel, .listed, .data, .pinned], laidTests := true, laidLooks := .later }
def PolicyTextsUptoCardSaid : Prop := Claim7.holds Tryz.pinned (.plain (OpenSpec.upto policyTextsSpec)) policyTextsUptoCard

/-- THE SECOND FORM's CARD OF 'handlaw2.ConsentExpiring'. -/
def consentExpiringUptoCard : Claim7 := { stood := { row := consentExpiringUptoRow, standIns := [], harness := (true, "baba40803192848c477402e7dbce0e8e5c8823fc400a0945448f5ff776eb55e0"), looks := true }, kinds := [], alts := [], laidByText := true, laidKinds := [.data, .data, .pinned], laidTests := true, laidLooks := .later }
def ConsentExpiringUptoCardSaid : Prop := Claim7.holds Tryz.pinned (.plain (OpenSpec.upto consentExpiringSpec)) consentExpiringUptoCard

/-- THE SECOND FORM's CARD OF 'handlaw2.StatementTexts'. -/
def statementTextsUptoCard : Claim7 := { stood := { row := statementTextsUptoRow, standIns := [], harness := (true, "baba40803192848c477402e7dbce0e8e5c8823fc400a0945448f5ff776eb55e0"), looks := true }, kinds := [], alts := [], laidByText := true, laidKinds := [.data, .data, .data, .data, .sentinel, .sentinel, .listed, .data, .data, .pinned], laidTests := true, laidLooks := .later }
def StatementTextsUptoCardSaid : Prop := Claim7.holds Tryz.pinned (.plain (OpenSpec.upto statementTextsSpec)) statementTextsUptoCard
end Rows
end Go.Proofs.YthmkphmciiiagaaGreatDoor
