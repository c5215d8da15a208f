/-
  DERIVED. GIVEN WITH THE SEED: THE CARDS: each row of YtjlangjhdakmiaaGreatDoorRows.lean that lists a variable, with what it lists TIED to the program's text (the seventh form; the later family's looks); each row that meets fmt, with fmt's text TOLD by the authors' own Lean function (tested against real Go, not proved from fmt's source: count such statements apart). THE CARD IS WHAT COUNTS. Prove the row's statement (the work); the ties are given (YtjlangjhdakmiaaGreatDoorTie.lean); close each card by the builder's one call (the guide's Derived/Test/ToyasCard.lean, 'card_holds'). Laid BY PROGRAM, IN A SANDBOX (cutbox-door.mjs). By AI agents, Wed Nov 11 2026. No macro, syntax, notation, axiom, sorry.
-/
import Derived.Test.YtjlangjhdakmiaaGreatDoorRows
import GoSem.ClaimSeven
namespace Go.Proofs.YtjlangjhdakmiaaGreatDoor
namespace Rows

/-- THE TIED CARD OF 'handlaw2.TouchJoins'. -/
def touchJoinsCard : Claim7 := { stood := { row := touchJoinsRow, standIns := [], harness := (true, "e6e3ae4b84f9adc25d4dae69d384e0210695b9dff53418c43493b0b880cf97ed"), looks := false }, kinds := [], alts := [], laidByText := true, laidKinds := [.data, .data, .data, .pinned], laidTests := true, laidLooks := .later }
def TouchJoinsCardSaid : Prop := Claim7.holds Tryz.pinned (.plain (OpenSpec.ofChange touchJoinsSpec)) touchJoinsCard

/-- THE TIED CARD OF 'handlaw2.PersonOfs'. -/
def personOfsCard : Claim7 := { stood := { row := personOfsRow, standIns := [], harness := (true, "e6e3ae4b84f9adc25d4dae69d384e0210695b9dff53418c43493b0b880cf97ed"), looks := false }, kinds := [], alts := [], laidByText := true, laidKinds := [.data, .data, .data, .pinned], laidTests := true, laidLooks := .later }
def PersonOfsCardSaid : Prop := Claim7.holds Tryz.pinned (.plain (OpenSpec.ofChange personOfsSpec)) personOfsCard

/-- THE TIED CARD OF 'handlaw2.PersonCuts'. -/
def personCutsCard : Claim7 := { stood := { row := personCutsRow, standIns := [], harness := (true, "e6e3ae4b84f9adc25d4dae69d384e0210695b9dff53418c43493b0b880cf97ed"), looks := false }, kinds := [], alts := [], laidByText := true, laidKinds := [.data, .data, .data, .pinned], laidTests := true, laidLooks := .later }
def PersonCutsCardSaid : Prop := Claim7.holds Tryz.pinned (.plain (OpenSpec.ofChange personCutsSpec)) personCutsCard

/-- THE TIED CARD OF 'handlaw2.PersonDiffers'. -/
def personDiffersCard : Claim7 := { stood := { row := personDiffersRow, standIns := [], harness := (true, "e6e3ae4b84f9adc25d4dae69d384e0210695b9dff53418c43493b0b880cf97ed"), looks := false }, kinds := [], alts := [], laidByText := true, laidKinds := [.data, .data, .data, .pinned], laidTests := true, laidLooks := .later }
def PersonDiffersCardSaid : Prop := Claim7.holds Tryz.pinned (.plain (OpenSpec.ofChange personDiffersSpec)) personDiffersCard

/-- THE SECOND FORM's CARD OF 'handlaw2.TouchJoins'. -/
def touchJoinsUptoCard : Claim7 := { stood := { row := touchJoinsUptoRow, standIns := [], harness := (true, "e6e3ae4b84f9adc25d4dae69d384e0210695b9dff53418c43493b0b880cf97ed"), looks := false }, kinds := [], alts := [], laidByText := true, laidKinds := [.data, .data, .data, .pinned], laidTests := true, laidLooks := .later }
def TouchJoinsUptoCardSaid : Prop := Claim7.holds Tryz.pinned (.plain (OpenSpec.upto touchJoinsSpec)) touchJoinsUptoCard

/-- THE SECOND FORM's CARD OF 'handlaw2.PersonOfs'. -/
def personOfsUptoCard : Claim7 := { stood := { row := personOfsUptoRow, standIns := [], harness := (true, "e6e3ae4b84f9adc25d4dae69d384e0210695b9dff53418c43493b0b880cf97ed"), looks := false }, kinds := [], alts := [], laidByText := true, laidKinds := [.data, .data, .data, .pinned], laidTests := true, laidLooks := .later }
def PersonOfsUptoCardSaid : Prop := Claim7.holds Tryz.pinned (.plain (OpenSpec.upto personOfsSpec)) personOfsUptoCard

/-- THE SECOND FORM's CARD OF 'handlaw2.PersonCuts'. -/
def personCutsUptoCard : Claim7 := { stood := { row := personCutsUptoRow, standIns := [], harness := (true, "e6e3ae4b84f9adc25d4dae69d384e0210695b9dff53418c43493b0b880cf97ed"), looks := false }, kinds := [], alts := [], laidByText := true, laidKinds := [.data, .data, .data, .pinned], laidTests := true, laidLooks := .later }
def PersonCutsUptoCardSaid : Prop := Claim7.holds Tryz.pinned (.plain (OpenSpec.upto personCutsSpec)) personCutsUptoCard

/-- THE SECOND FORM's CARD OF 'handlaw2.PersonDiffers'. -/
def personDiffersUptoCard : Claim7 := { stood := { row := personDiffersUptoRow, standIns := [], harness := (true, "e6e3ae4b84f9adc25d4dae69d384e0210695b9dff53418c43493b0b880cf97ed"), looks := false }, kinds := [], alts := [], laidByText := true, laidKinds := [.data, .data, .data, .pinned], laidTests := true, laidLooks := .later }
def PersonDiffersUptoCardSaid : Prop := Claim7.holds Tryz.pinned (.plain (OpenSpec.upto personDiffersSpec)) personDiffersUptoCard
end Rows
end Go.Proofs.YtjlangjhdakmiaaGreatDoor
