/-
  DERIVED. GIVEN WITH THE SEED: THE CARDS: each row of YtmlpkejeglpciaaDoorRows.lean that lists a variable, with what it lists TIED to the program's text (the seventh form; the later family's looks); each row that meets fmt, with fmt's text TOLD by the authors' own Lean function (tested against real Go, not proved from fmt's source: count such statements apart). THE CARD IS WHAT COUNTS. Prove the row's statement (the work); the ties are given (YtmlpkejeglpciaaDoorTie.lean); close each card by the builder's one call (the guide's Derived/Test/ToyasCard.lean, 'card_holds'). Laid BY PROGRAM, IN A SANDBOX (cutbox-door.mjs). By AI agents, Wed Nov 11 2026. No macro, syntax, notation, axiom, sorry.
-/
import Derived.Test.YtmlpkejeglpciaaDoorRows
import GoSem.ClaimSeven
namespace Go.Proofs.YtmlpkejeglpciaaDoor
namespace Rows

/-- THE TIED CARD OF 'handlaw2.DoubleMeasures'. -/
def doubleMeasuresCard : Claim7 := { stood := { row := doubleMeasuresRow, standIns := [], harness := (true, "ae2939690c3bc1e73d44c31d024e9a02f17ceedc6b7712ed20bf2a5f7c4012ac"), looks := false }, kinds := [], alts := [], laidByText := true, laidKinds := [.data, .data, .pinned], laidTests := true, laidLooks := .later }
def DoubleMeasuresCardSaid : Prop := Claim7.holds Tryd.pinned (.plain (OpenSpec.ofChange doubleMeasuresSpec)) doubleMeasuresCard

/-- THE SECOND FORM's CARD OF 'handlaw2.DoubleMeasures'. -/
def doubleMeasuresUptoCard : Claim7 := { stood := { row := doubleMeasuresUptoRow, standIns := [], harness := (true, "ae2939690c3bc1e73d44c31d024e9a02f17ceedc6b7712ed20bf2a5f7c4012ac"), looks := false }, kinds := [], alts := [], laidByText := true, laidKinds := [.data, .data, .pinned], laidTests := true, laidLooks := .later }
def DoubleMeasuresUptoCardSaid : Prop := Claim7.holds Tryd.pinned (.plain (OpenSpec.upto doubleMeasuresSpec)) doubleMeasuresUptoCard
end Rows
end Go.Proofs.YtmlpkejeglpciaaDoor
