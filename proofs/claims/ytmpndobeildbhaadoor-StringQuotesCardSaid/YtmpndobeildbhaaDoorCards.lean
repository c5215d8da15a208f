/-
  DERIVED. GIVEN WITH THE SEED: THE CARDS: each row of YtmpndobeildbhaaDoorRows.lean that lists a variable, with what it lists TIED to the program's text (the seventh form; the later family's looks); each row that meets fmt, with fmt's text TOLD by the authors' own Lean function (tested against real Go, not proved from fmt's source: count such statements apart). THE CARD IS WHAT COUNTS. Prove the row's statement (the work); the ties are given (YtmpndobeildbhaaDoorTie.lean); close each card by the builder's one call (the guide's Derived/Test/ToyasCard.lean, 'card_holds'). Laid BY PROGRAM, IN A SANDBOX (cutbox-door.mjs). By AI agents, Wed Nov 11 2026. No macro, syntax, notation, axiom, sorry.
-/
import Derived.Test.YtmpndobeildbhaaDoorRows
import GoSem.ClaimSeven
namespace Go.Proofs.YtmpndobeildbhaaDoor
namespace Rows

/-- THE TIED CARD OF 'handlaw2.StringQuotes'. -/
def stringQuotesCard : Claim7 := { stood := { row := stringQuotesRow, standIns := [], harness := (true, "fc3a011713d0a817b5646a7bceaccf6aa3b91a9f7c4ec8ef94149945e963888c"), looks := false }, kinds := [], alts := [], laidByText := true, laidKinds := [.data, .pinned], laidTests := true, laidLooks := .later }
def StringQuotesCardSaid : Prop := Claim7.holds Tryd.pinned (.plain (OpenSpec.ofChange stringQuotesSpec)) stringQuotesCard

/-- THE SECOND FORM's CARD OF 'handlaw2.StringQuotes'. -/
def stringQuotesUptoCard : Claim7 := { stood := { row := stringQuotesUptoRow, standIns := [], harness := (true, "fc3a011713d0a817b5646a7bceaccf6aa3b91a9f7c4ec8ef94149945e963888c"), looks := false }, kinds := [], alts := [], laidByText := true, laidKinds := [.data, .pinned], laidTests := true, laidLooks := .later }
def StringQuotesUptoCardSaid : Prop := Claim7.holds Tryd.pinned (.plain (OpenSpec.upto stringQuotesSpec)) stringQuotesUptoCard
end Rows
end Go.Proofs.YtmpndobeildbhaaDoor
