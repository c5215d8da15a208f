/-
  NARROWER THAN 'FOR EVERY INPUT', by the rows' own cells (each row's printed sentence says how): TouchJoins: laid · PersonOfs: laid · PersonCuts: laid · PersonDiffers: laid.
  DERIVED. THE GIVEN ROWS OF THIS SEAT. 4 by the template 'for every input the law returns true; each argument reads behind the call as it read before'; 0 by the template 'total and deterministic' (their statements: YtjlangjhdakmiaaGreatDoorTotals.lean).
  GIVEN WITH THE SEED: the statements are not yours to turn. If you find one false, say at which input.
  Laid BY PROGRAM, IN A SANDBOX (cutbox-rows.mjs): the forced cells as the released guide's own fill.sh prints them over the translation 7446191920c8dff9… (all of the seat's roots in one cut). By AI agents, Wed Nov 11 2026. No macro, syntax, notation, axiom, sorry.
-/
import Derived.Test.YtjlangjhdakmiaaGreatDoorChecked
import GoSem.PinnedTables
import GoSem.Claim
import GoSem.ClaimJoined
import GoSem.ClaimMapViews
import Derived.JoinedTies
import Derived.KernelRfl
namespace Go.Proofs.YtjlangjhdakmiaaGreatDoor
/- THE CELL 'sum', in the pinned program and in every row, IS THE sha256 OF THE DUMP (.gsa) THAT YtjlangjhdakmiaaGreatDoorProg.lean LOADS. Nothing in Lean hashes anything: it is a label: what it is worth is what the hold of that sum in a sandbox is worth. -/
noncomputable def Tryz.pinned : Pinned := { name := "ytjlangjhdakmiaagreatdoor", sum := "7446191920c8dff9a318244cf3b077540922d6fc1ac7cdc6787e72ca1c50e933", checked := Tryz.checked }
namespace Rows
def none {H : Type} : Left H := { results := [], args := [] }

/- WHAT THE LISTED PACKAGE-LEVEL VARIABLES READ AS WHEN THE CALL BEGINS. Each datum BY PROGRAM (the guide's laid-datum.mjs) off the statement by which the dump's own 'gosem.cut.vars' lays the variable. In a bare row this is a premise. The card (YtjlangjhdakmiaaGreatDoorCards.lean) ties it to the program's text. -/
def laid_unicode_utf8_acceptRanges {H : Type} : DataW H := .agg [.agg [.lit (.int .u8 128), .lit (.int .u8 191)], .agg [.lit (.int .u8 160), .lit (.int .u8 191)], .agg [.lit (.int .u8 128), .lit (.int .u8 159)], .agg [.lit (.int .u8 144), .lit (.int .u8 191)], .agg [.lit (.int .u8 128), .lit (.int .u8 143)], .agg [.lit (.int .u8 0), .lit (.int .u8 0)], .agg [.lit (.int .u8 0), .lit (.int .u8 0)], .agg [.lit (.int .u8 0), .lit (.int .u8 0)], .agg [.lit (.int .u8 0), .lit (.int .u8 0)], .agg [.lit (.int .u8 0), .lit (.int .u8 0)], .agg [.lit (.int .u8 0), .lit (.int .u8 0)], .agg [.lit (.int .u8 0), .lit (.int .u8 0)], .agg [.lit (.int .u8 0), .lit (.int .u8 0)], .agg [.lit (.int .u8 0), .lit (.int .u8 0)], .agg [.lit (.int .u8 0), .lit (.int .u8 0)], .agg [.lit (.int .u8 0), .lit (.int .u8 0)]]
def laid_handbill_handmake_idPool {H : Type} : DataW H := .agg [.agg [.lit (.int .i64 1), .lit (.string [97, 64, 98, 46, 100, 101])], .agg [.lit (.int .i64 1), .lit (.string [97, 110, 110, 46, 98, 64, 120, 45, 121, 46, 111, 114, 103])], .agg [.lit (.int .i64 1), .lit (.string [98, 111, 98, 95, 49, 64, 98, 46, 100, 101])], .agg [.lit (.int .i64 1), .lit (.string [122, 45, 64, 48, 46, 97])], .agg [.lit (.int .i64 2), .lit (.string [43, 52, 57, 51, 48, 49, 50, 51, 52, 53, 54])], .agg [.lit (.int .i64 2), .lit (.string [43, 49, 53, 53, 53, 48, 48, 48, 49, 49, 49])], .agg [.lit (.int .i64 3), .lit (.string [65, 66, 49, 51])], .agg [.lit (.int .i64 3), .lit (.string [48, 48, 48, 48, 48, 48, 48, 48, 48, 48, 48, 48, 48, 48, 48, 48, 48, 48, 48, 48])], .agg [.lit (.int .i64 4), .lit (.string [48, 49, 50, 51, 52, 53, 54, 55, 56, 57, 97, 98, 99, 100, 101, 102, 48, 49, 50, 51, 52, 53, 54, 55, 56, 57, 97, 98, 99, 100, 101, 102])], .agg [.lit (.int .i64 4), .lit (.string [102, 102, 102, 102, 102, 102, 102, 102, 102, 102, 102, 102, 102, 102, 102, 102, 102, 102, 102, 102, 102, 102, 102, 102, 102, 102, 102, 102, 102, 102, 102, 102])]]
def laid_handbill_handmake_fieldNames {H : Type} : DataW H := .agg [.lit (.string [97, 103, 101]), .lit (.string [99, 105, 116, 121]), .lit (.string [106, 111, 105, 110, 101, 100]), .lit (.string [110, 97, 109, 101]), .lit (.string [112, 108, 97, 110]), .lit (.string [118, 105, 112])]
/-- One of Go's own tables, pinned by name: the form's constant. -/
def laid_unicode_utf8_first : DataW Unit := Go.Pinned.utf8First

/-- 'handlaw2.TouchJoins': WHATEVER THE INPUT: true; the input reads as it did. -/
def touchJoinsSpec : ChangeSpec := { name := "touchJoins", fn := fun _ => fun
  | [d] => { results := [.lit (.bool true)], args := [d] }
  | _ => none }
def touchJoinsRow : OpenClaim := { program := "ytjlangjhdakmiaagreatdoor", sum := "7446191920c8dff9a318244cf3b077540922d6fc1ac7cdc6787e72ca1c50e933", func := "handbill/handlaw2.TouchJoins", spec := "touchJoins", inPlace := ["internal/abi.NoEscape", "internal/bytealg.MakeNoZero", "internal/bytealg.IndexByteString", "internal/bytealg.IndexString", "internal/bytealg.CountString"], unfollowed := true, recurses := true, named := ["handbill/handmake.fieldNames", "handbill/handmake.idPool", "internal/bytealg.MaxLen", "unicode/utf8.first", "unicode/utf8.acceptRanges"], plainKeys := false, apart := false, laid := [("unicode/utf8.acceptRanges", laid_unicode_utf8_acceptRanges), ("handbill/handmake.idPool", laid_handbill_handmake_idPool), ("handbill/handmake.fieldNames", laid_handbill_handmake_fieldNames), ("unicode/utf8.first", laid_unicode_utf8_first)] }
def TouchJoinsSaid : Prop := touchJoinsRow.holds Tryz.pinned (OpenSpec.ofChange touchJoinsSpec)

/-- ITS FALSE NEIGHBOUR: 'it returns false'. Refute it at one input. -/
def touchJoinsWrong : ChangeSpec := { name := "touchJoins", fn := fun _ => fun
  | [d] => { results := [.lit (.bool false)], args := [d] }
  | _ => none }
def TouchJoinsWrongFalsely : Prop := touchJoinsRow.holds Tryz.pinned (OpenSpec.ofChange touchJoinsWrong)

/-- 'handlaw2.PersonOfs': WHATEVER THE INPUT: true; the input reads as it did. -/
def personOfsSpec : ChangeSpec := { name := "personOfs", fn := fun _ => fun
  | [d] => { results := [.lit (.bool true)], args := [d] }
  | _ => none }
def personOfsRow : OpenClaim := { program := "ytjlangjhdakmiaagreatdoor", sum := "7446191920c8dff9a318244cf3b077540922d6fc1ac7cdc6787e72ca1c50e933", func := "handbill/handlaw2.PersonOfs", spec := "personOfs", inPlace := ["internal/abi.NoEscape", "internal/bytealg.MakeNoZero", "internal/bytealg.IndexByteString", "internal/bytealg.IndexString", "internal/bytealg.CountString"], unfollowed := true, recurses := true, named := ["handbill/handmake.fieldNames", "handbill/handmake.idPool", "internal/bytealg.MaxLen", "unicode/utf8.first", "unicode/utf8.acceptRanges"], plainKeys := false, apart := false, laid := [("unicode/utf8.acceptRanges", laid_unicode_utf8_acceptRanges), ("handbill/handmake.idPool", laid_handbill_handmake_idPool), ("handbill/handmake.fieldNames", laid_handbill_handmake_fieldNames), ("unicode/utf8.first", laid_unicode_utf8_first)] }
def PersonOfsSaid : Prop := personOfsRow.holds Tryz.pinned (OpenSpec.ofChange personOfsSpec)

/-- ITS FALSE NEIGHBOUR: 'it returns false'. Refute it at one input. -/
def personOfsWrong : ChangeSpec := { name := "personOfs", fn := fun _ => fun
  | [d] => { results := [.lit (.bool false)], args := [d] }
  | _ => none }
def PersonOfsWrongFalsely : Prop := personOfsRow.holds Tryz.pinned (OpenSpec.ofChange personOfsWrong)

/-- 'handlaw2.PersonCuts': WHATEVER THE INPUT: true; the input reads as it did. -/
def personCutsSpec : ChangeSpec := { name := "personCuts", fn := fun _ => fun
  | [d] => { results := [.lit (.bool true)], args := [d] }
  | _ => none }
def personCutsRow : OpenClaim := { program := "ytjlangjhdakmiaagreatdoor", sum := "7446191920c8dff9a318244cf3b077540922d6fc1ac7cdc6787e72ca1c50e933", func := "handbill/handlaw2.PersonCuts", spec := "personCuts", inPlace := ["internal/abi.NoEscape", "internal/bytealg.MakeNoZero", "internal/bytealg.IndexByteString", "internal/bytealg.IndexString", "internal/bytealg.CountString"], unfollowed := true, recurses := true, named := ["handbill/handmake.fieldNames", "handbill/handmake.idPool", "internal/bytealg.MaxLen", "unicode/utf8.first", "unicode/utf8.acceptRanges"], plainKeys := false, apart := false, laid := [("unicode/utf8.acceptRanges", laid_unicode_utf8_acceptRanges), ("handbill/handmake.idPool", laid_handbill_handmake_idPool), ("handbill/handmake.fieldNames", laid_handbill_handmake_fieldNames), ("unicode/utf8.first", laid_unicode_utf8_first)] }
def PersonCutsSaid : Prop := personCutsRow.holds Tryz.pinned (OpenSpec.ofChange personCutsSpec)

/-- ITS FALSE NEIGHBOUR: 'it returns false'. Refute it at one input. -/
def personCutsWrong : ChangeSpec := { name := "personCuts", fn := fun _ => fun
  | [d] => { results := [.lit (.bool false)], args := [d] }
  | _ => none }
def PersonCutsWrongFalsely : Prop := personCutsRow.holds Tryz.pinned (OpenSpec.ofChange personCutsWrong)

/-- 'handlaw2.PersonDiffers': WHATEVER THE INPUT: true; the input reads as it did. -/
def personDiffersSpec : ChangeSpec := { name := "personDiffers", fn := fun _ => fun
  | [d] => { results := [.lit (.bool true)], args := [d] }
  | _ => none }
def personDiffersRow : OpenClaim := { program := "ytjlangjhdakmiaagreatdoor", sum := "7446191920c8dff9a318244cf3b077540922d6fc1ac7cdc6787e72ca1c50e933", func := "handbill/handlaw2.PersonDiffers", spec := "personDiffers", inPlace := ["internal/abi.NoEscape", "internal/bytealg.MakeNoZero", "internal/bytealg.IndexByteString", "internal/bytealg.IndexString", "internal/bytealg.CountString"], unfollowed := true, recurses := true, named := ["handbill/handmake.fieldNames", "handbill/handmake.idPool", "internal/bytealg.MaxLen", "unicode/utf8.first", "unicode/utf8.acceptRanges"], plainKeys := false, apart := false, laid := [("unicode/utf8.acceptRanges", laid_unicode_utf8_acceptRanges), ("handbill/handmake.idPool", laid_handbill_handmake_idPool), ("handbill/handmake.fieldNames", laid_handbill_handmake_fieldNames), ("unicode/utf8.first", laid_unicode_utf8_first)] }
def PersonDiffersSaid : Prop := personDiffersRow.holds Tryz.pinned (OpenSpec.ofChange personDiffersSpec)

/-- ITS FALSE NEIGHBOUR: 'it returns false'. Refute it at one input. -/
def personDiffersWrong : ChangeSpec := { name := "personDiffers", fn := fun _ => fun
  | [d] => { results := [.lit (.bool false)], args := [d] }
  | _ => none }
def PersonDiffersWrongFalsely : Prop := personDiffersRow.holds Tryz.pinned (OpenSpec.ofChange personDiffersWrong)

/- THE SECOND FORM. 'bulk': how many values and letters a reading holds, each counted each time it is reached (what is shared counts as often as it is met; a slice's spare places count too). A statement '..UptoSaid' is the law's where the arguments, and the package variables that the reading takes, are together of bulk at most 1048576: NARROWER than '..Said'. Prove '..Said' where nothing that the law and all that it calls make is longer than what came in: it says more and counts as full. Else prove '..UptoSaid'. A law counts once. -/
mutual
def uptoBulk {H : Type} : DataW H → Nat
  | .lit (.string bytes) => bytes.length + 1
  | .lit _ => 1
  | .nil => 1
  | .ptr d => uptoBulk d + 1
  | .slice elems spare => uptoBulkAll elems + uptoBulkAll spare + 1
  | .agg parts => uptoBulkAll parts + 1
  | .iface _ d => uptoBulk d + 1
  | .map entries => uptoBulkEntries entries + 1
  | .held _ => 1
def uptoBulkAll {H : Type} : List (DataW H) → Nat
  | [] => 0
  | d :: r => uptoBulk d + uptoBulkAll r
def uptoBulkEntries {H : Type} : List (Lit × DataW H) → Nat
  | [] => 0
  | x :: r => uptoBulkEntry x + uptoBulkEntries r
def uptoBulkEntry {H : Type} : Lit × DataW H → Nat
  | (.string bytes, d) => bytes.length + uptoBulk d + 1
  | (_, d) => uptoBulk d + 1
 end
def uptoSmall : (H : Type) → List (DataW H) → Bool := fun _ ds => decide (uptoBulkAll ds ≤ 1048576)
def OpenSpec.upto (s : _root_.Go.ChangeSpec) : _root_.Go.OpenSpec := { _root_.Go.OpenSpec.ofChange s with cond := some uptoSmall }

/-- 'handlaw2.TouchJoins', WHERE WHAT IT READS IS OF BULK AT MOST 1048576: true; the input reads as it did. -/
def touchJoinsUptoRow : OpenClaim := { program := "ytjlangjhdakmiaagreatdoor", sum := "7446191920c8dff9a318244cf3b077540922d6fc1ac7cdc6787e72ca1c50e933", func := "handbill/handlaw2.TouchJoins", spec := "touchJoins", inPlace := ["internal/abi.NoEscape", "internal/bytealg.MakeNoZero", "internal/bytealg.IndexByteString", "internal/bytealg.IndexString", "internal/bytealg.CountString"], unfollowed := true, recurses := true, named := ["handbill/handmake.fieldNames", "handbill/handmake.idPool", "internal/bytealg.MaxLen", "unicode/utf8.first", "unicode/utf8.acceptRanges"], plainKeys := false, apart := false, laid := [("unicode/utf8.acceptRanges", laid_unicode_utf8_acceptRanges), ("handbill/handmake.idPool", laid_handbill_handmake_idPool), ("handbill/handmake.fieldNames", laid_handbill_handmake_fieldNames), ("unicode/utf8.first", laid_unicode_utf8_first)], narrowed := true }
def TouchJoinsUptoSaid : Prop := touchJoinsUptoRow.holds Tryz.pinned (OpenSpec.upto touchJoinsSpec)

/-- 'handlaw2.PersonOfs', WHERE WHAT IT READS IS OF BULK AT MOST 1048576: true; the input reads as it did. -/
def personOfsUptoRow : OpenClaim := { program := "ytjlangjhdakmiaagreatdoor", sum := "7446191920c8dff9a318244cf3b077540922d6fc1ac7cdc6787e72ca1c50e933", func := "handbill/handlaw2.PersonOfs", spec := "personOfs", inPlace := ["internal/abi.NoEscape", "internal/bytealg.MakeNoZero", "internal/bytealg.IndexByteString", "internal/bytealg.IndexString", "internal/bytealg.CountString"], unfollowed := true, recurses := true, named := ["handbill/handmake.fieldNames", "handbill/handmake.idPool", "internal/bytealg.MaxLen", "unicode/utf8.first", "unicode/utf8.acceptRanges"], plainKeys := false, apart := false, laid := [("unicode/utf8.acceptRanges", laid_unicode_utf8_acceptRanges), ("handbill/handmake.idPool", laid_handbill_handmake_idPool), ("handbill/handmake.fieldNames", laid_handbill_handmake_fieldNames), ("unicode/utf8.first", laid_unicode_utf8_first)], narrowed := true }
def PersonOfsUptoSaid : Prop := personOfsUptoRow.holds Tryz.pinned (OpenSpec.upto personOfsSpec)

/-- 'handlaw2.PersonCuts', WHERE WHAT IT READS IS OF BULK AT MOST 1048576: true; the input reads as it did. -/
def personCutsUptoRow : OpenClaim := { program := "ytjlangjhdakmiaagreatdoor", sum := "7446191920c8dff9a318244cf3b077540922d6fc1ac7cdc6787e72ca1c50e933", func := "handbill/handlaw2.PersonCuts", spec := "personCuts", inPlace := ["internal/abi.NoEscape", "internal/bytealg.MakeNoZero", "internal/bytealg.IndexByteString", "internal/bytealg.IndexString", "internal/bytealg.CountString"], unfollowed := true, recurses := true, named := ["handbill/handmake.fieldNames", "handbill/handmake.idPool", "internal/bytealg.MaxLen", "unicode/utf8.first", "unicode/utf8.acceptRanges"], plainKeys := false, apart := false, laid := [("unicode/utf8.acceptRanges", laid_unicode_utf8_acceptRanges), ("handbill/handmake.idPool", laid_handbill_handmake_idPool), ("handbill/handmake.fieldNames", laid_handbill_handmake_fieldNames), ("unicode/utf8.first", laid_unicode_utf8_first)], narrowed := true }
def PersonCutsUptoSaid : Prop := personCutsUptoRow.holds Tryz.pinned (OpenSpec.upto personCutsSpec)

/-- 'handlaw2.PersonDiffers', WHERE WHAT IT READS IS OF BULK AT MOST 1048576: true; the input reads as it did. -/
def personDiffersUptoRow : OpenClaim := { program := "ytjlangjhdakmiaagreatdoor", sum := "7446191920c8dff9a318244cf3b077540922d6fc1ac7cdc6787e72ca1c50e933", func := "handbill/handlaw2.PersonDiffers", spec := "personDiffers", inPlace := ["internal/abi.NoEscape", "internal/bytealg.MakeNoZero", "internal/bytealg.IndexByteString", "internal/bytealg.IndexString", "internal/bytealg.CountString"], unfollowed := true, recurses := true, named := ["handbill/handmake.fieldNames", "handbill/handmake.idPool", "internal/bytealg.MaxLen", "unicode/utf8.first", "unicode/utf8.acceptRanges"], plainKeys := false, apart := false, laid := [("unicode/utf8.acceptRanges", laid_unicode_utf8_acceptRanges), ("handbill/handmake.idPool", laid_handbill_handmake_idPool), ("handbill/handmake.fieldNames", laid_handbill_handmake_fieldNames), ("unicode/utf8.first", laid_unicode_utf8_first)], narrowed := true }
def PersonDiffersUptoSaid : Prop := personDiffersUptoRow.holds Tryz.pinned (OpenSpec.upto personDiffersSpec)

end Rows
end Go.Proofs.YtjlangjhdakmiaaGreatDoor
