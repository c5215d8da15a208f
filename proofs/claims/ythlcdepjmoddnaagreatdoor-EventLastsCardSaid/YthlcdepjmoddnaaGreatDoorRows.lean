/-
  NARROWER THAN 'FOR EVERY INPUT', by the rows' own cells (each row's printed sentence says how): SchemaChecks: laid · EventBusiest: laid · EventSessions: laid · EventLasts: laid · EventSeries: laid · EventChecks: laid · EventFunnels: laid · EventPacks: laid · EventNamed: laid.
  DERIVED. THE GIVEN ROWS OF THIS SEAT. 9 by the template 'for every input the law returns true; each argument reads behind the call as it read before'; 0 by the template 'total and deterministic' (their statements: YthlcdepjmoddnaaGreatDoorTotals.lean).
  GIVEN WITH THE SEED: the statements are not yours to turn. If you find one false, say at which input.
  Laid BY PROGRAM, IN A SANDBOX (cutbox-rows.mjs): the forced cells as the released guide's own fill.sh prints them over the translation de4f347044466381… (all of the seat's roots in one cut). By AI agents, Wed Nov 11 2026. No macro, syntax, notation, axiom, sorry.
-/
import Derived.Test.YthlcdepjmoddnaaGreatDoorChecked
import GoSem.PinnedTables
import GoSem.Claim
import GoSem.ClaimJoined
import GoSem.ClaimMapViews
import Derived.JoinedTies
import Derived.KernelRfl
namespace Go.Proofs.YthlcdepjmoddnaaGreatDoor
/- THE CELL 'sum', in the pinned program and in every row, IS THE sha256 OF THE DUMP (.gsa) THAT YthlcdepjmoddnaaGreatDoorProg.lean LOADS. Nothing in Lean hashes anything: it is a label: what it is worth is what the hold of that sum in a sandbox is worth. -/
noncomputable def Tryz.pinned : Pinned := { name := "ythlcdepjmoddnaagreatdoor", sum := "de4f347044466381ac2d34c034524acda92f5089d3d836d13c0baf53355e1275", checked := Tryz.checked }
namespace Rows
def none {H : Type} : Left H := { results := [], args := [] }

/- WHAT THE LISTED PACKAGE-LEVEL VARIABLES READ AS WHEN THE CALL BEGINS. Each datum BY PROGRAM (the guide's laid-datum.mjs) off the statement by which the dump's own 'gosem.cut.vars' lays the variable. In a bare row this is a premise. The card (YthlcdepjmoddnaaGreatDoorCards.lean) ties it to the program's text. -/
def laid_unicode_utf8_acceptRanges {H : Type} : DataW H := .agg [.agg [.lit (.int .u8 128), .lit (.int .u8 191)], .agg [.lit (.int .u8 160), .lit (.int .u8 191)], .agg [.lit (.int .u8 128), .lit (.int .u8 159)], .agg [.lit (.int .u8 144), .lit (.int .u8 191)], .agg [.lit (.int .u8 128), .lit (.int .u8 143)], .agg [.lit (.int .u8 0), .lit (.int .u8 0)], .agg [.lit (.int .u8 0), .lit (.int .u8 0)], .agg [.lit (.int .u8 0), .lit (.int .u8 0)], .agg [.lit (.int .u8 0), .lit (.int .u8 0)], .agg [.lit (.int .u8 0), .lit (.int .u8 0)], .agg [.lit (.int .u8 0), .lit (.int .u8 0)], .agg [.lit (.int .u8 0), .lit (.int .u8 0)], .agg [.lit (.int .u8 0), .lit (.int .u8 0)], .agg [.lit (.int .u8 0), .lit (.int .u8 0)], .agg [.lit (.int .u8 0), .lit (.int .u8 0)], .agg [.lit (.int .u8 0), .lit (.int .u8 0)]]
def laid_handbill_handmake_eventNames {H : Type} : DataW H := .agg [.lit (.string [98, 117, 121]), .lit (.string [111, 112, 101, 110]), .lit (.string [113, 117, 105, 116]), .lit (.string [118, 105, 101, 119])]
def laid_handbill_handmake_idPool {H : Type} : DataW H := .agg [.agg [.lit (.int .i64 1), .lit (.string [97, 64, 98, 46, 100, 101])], .agg [.lit (.int .i64 1), .lit (.string [97, 110, 110, 46, 98, 64, 120, 45, 121, 46, 111, 114, 103])], .agg [.lit (.int .i64 1), .lit (.string [98, 111, 98, 95, 49, 64, 98, 46, 100, 101])], .agg [.lit (.int .i64 1), .lit (.string [122, 45, 64, 48, 46, 97])], .agg [.lit (.int .i64 2), .lit (.string [43, 52, 57, 51, 48, 49, 50, 51, 52, 53, 54])], .agg [.lit (.int .i64 2), .lit (.string [43, 49, 53, 53, 53, 48, 48, 48, 49, 49, 49])], .agg [.lit (.int .i64 3), .lit (.string [65, 66, 49, 51])], .agg [.lit (.int .i64 3), .lit (.string [48, 48, 48, 48, 48, 48, 48, 48, 48, 48, 48, 48, 48, 48, 48, 48, 48, 48, 48, 48])], .agg [.lit (.int .i64 4), .lit (.string [48, 49, 50, 51, 52, 53, 54, 55, 56, 57, 97, 98, 99, 100, 101, 102, 48, 49, 50, 51, 52, 53, 54, 55, 56, 57, 97, 98, 99, 100, 101, 102])], .agg [.lit (.int .i64 4), .lit (.string [102, 102, 102, 102, 102, 102, 102, 102, 102, 102, 102, 102, 102, 102, 102, 102, 102, 102, 102, 102, 102, 102, 102, 102, 102, 102, 102, 102, 102, 102, 102, 102])]]
def laid_handbill_handmake_fieldNames {H : Type} : DataW H := .agg [.lit (.string [97, 103, 101]), .lit (.string [99, 105, 116, 121]), .lit (.string [106, 111, 105, 110, 101, 100]), .lit (.string [110, 97, 109, 101]), .lit (.string [112, 108, 97, 110]), .lit (.string [118, 105, 112])]
/-- One of Go's own tables, pinned by name: the form's constant. -/
def laid_unicode_utf8_first : DataW Unit := Go.Pinned.utf8First

/-- 'handlaw2.SchemaChecks': WHATEVER THE INPUT: true; the input reads as it did. -/
def schemaChecksSpec : ChangeSpec := { name := "schemaChecks", fn := fun _ => fun
  | [d] => { results := [.lit (.bool true)], args := [d] }
  | _ => none }
def schemaChecksRow : OpenClaim := { program := "ythlcdepjmoddnaagreatdoor", sum := "de4f347044466381ac2d34c034524acda92f5089d3d836d13c0baf53355e1275", func := "handbill/handlaw2.SchemaChecks", spec := "schemaChecks", inPlace := ["internal/abi.NoEscape", "internal/bytealg.MakeNoZero", "internal/bytealg.IndexByteString", "internal/bytealg.IndexString", "internal/bytealg.CountString"], unfollowed := true, recurses := true, named := ["handbill/handmake.eventNames", "handbill/handmake.fieldNames", "handbill/handmake.idPool", "unicode/utf8.first", "unicode/utf8.acceptRanges", "internal/bytealg.MaxLen"], plainKeys := false, apart := false, laid := [("unicode/utf8.acceptRanges", laid_unicode_utf8_acceptRanges), ("handbill/handmake.eventNames", laid_handbill_handmake_eventNames), ("handbill/handmake.idPool", laid_handbill_handmake_idPool), ("handbill/handmake.fieldNames", laid_handbill_handmake_fieldNames), ("unicode/utf8.first", laid_unicode_utf8_first)] }
def SchemaChecksSaid : Prop := schemaChecksRow.holds Tryz.pinned (OpenSpec.ofChange schemaChecksSpec)

/-- ITS FALSE NEIGHBOUR: 'it returns false'. Refute it at one input. -/
def schemaChecksWrong : ChangeSpec := { name := "schemaChecks", fn := fun _ => fun
  | [d] => { results := [.lit (.bool false)], args := [d] }
  | _ => none }
def SchemaChecksWrongFalsely : Prop := schemaChecksRow.holds Tryz.pinned (OpenSpec.ofChange schemaChecksWrong)

/-- 'handlaw2.EventBusiest': WHATEVER THE INPUT: true; the input reads as it did. -/
def eventBusiestSpec : ChangeSpec := { name := "eventBusiest", fn := fun _ => fun
  | [d] => { results := [.lit (.bool true)], args := [d] }
  | _ => none }
def eventBusiestRow : OpenClaim := { program := "ythlcdepjmoddnaagreatdoor", sum := "de4f347044466381ac2d34c034524acda92f5089d3d836d13c0baf53355e1275", func := "handbill/handlaw2.EventBusiest", spec := "eventBusiest", inPlace := ["internal/abi.NoEscape", "internal/bytealg.MakeNoZero", "internal/bytealg.IndexByteString", "internal/bytealg.IndexString", "internal/bytealg.CountString"], unfollowed := true, recurses := true, named := ["handbill/handmake.eventNames", "handbill/handmake.idPool", "handbill/handmake.fieldNames", "unicode/utf8.first", "unicode/utf8.acceptRanges", "internal/bytealg.MaxLen"], plainKeys := false, apart := false, laid := [("unicode/utf8.acceptRanges", laid_unicode_utf8_acceptRanges), ("handbill/handmake.eventNames", laid_handbill_handmake_eventNames), ("handbill/handmake.idPool", laid_handbill_handmake_idPool), ("handbill/handmake.fieldNames", laid_handbill_handmake_fieldNames), ("unicode/utf8.first", laid_unicode_utf8_first)] }
def EventBusiestSaid : Prop := eventBusiestRow.holds Tryz.pinned (OpenSpec.ofChange eventBusiestSpec)

/-- ITS FALSE NEIGHBOUR: 'it returns false'. Refute it at one input. -/
def eventBusiestWrong : ChangeSpec := { name := "eventBusiest", fn := fun _ => fun
  | [d] => { results := [.lit (.bool false)], args := [d] }
  | _ => none }
def EventBusiestWrongFalsely : Prop := eventBusiestRow.holds Tryz.pinned (OpenSpec.ofChange eventBusiestWrong)

/-- 'handlaw2.EventSessions': WHATEVER THE INPUT: true; the input reads as it did. -/
def eventSessionsSpec : ChangeSpec := { name := "eventSessions", fn := fun _ => fun
  | [d] => { results := [.lit (.bool true)], args := [d] }
  | _ => none }
def eventSessionsRow : OpenClaim := { program := "ythlcdepjmoddnaagreatdoor", sum := "de4f347044466381ac2d34c034524acda92f5089d3d836d13c0baf53355e1275", func := "handbill/handlaw2.EventSessions", spec := "eventSessions", inPlace := ["internal/abi.NoEscape", "internal/bytealg.MakeNoZero", "internal/bytealg.IndexByteString", "internal/bytealg.IndexString", "internal/bytealg.CountString"], unfollowed := true, recurses := true, named := ["handbill/handmake.eventNames", "handbill/handmake.idPool", "handbill/handmake.fieldNames", "unicode/utf8.first", "unicode/utf8.acceptRanges", "internal/bytealg.MaxLen"], plainKeys := false, apart := false, laid := [("unicode/utf8.acceptRanges", laid_unicode_utf8_acceptRanges), ("handbill/handmake.eventNames", laid_handbill_handmake_eventNames), ("handbill/handmake.idPool", laid_handbill_handmake_idPool), ("handbill/handmake.fieldNames", laid_handbill_handmake_fieldNames), ("unicode/utf8.first", laid_unicode_utf8_first)] }
def EventSessionsSaid : Prop := eventSessionsRow.holds Tryz.pinned (OpenSpec.ofChange eventSessionsSpec)

/-- ITS FALSE NEIGHBOUR: 'it returns false'. Refute it at one input. -/
def eventSessionsWrong : ChangeSpec := { name := "eventSessions", fn := fun _ => fun
  | [d] => { results := [.lit (.bool false)], args := [d] }
  | _ => none }
def EventSessionsWrongFalsely : Prop := eventSessionsRow.holds Tryz.pinned (OpenSpec.ofChange eventSessionsWrong)

/-- 'handlaw2.EventLasts': WHATEVER THE INPUT: true; the input reads as it did. -/
def eventLastsSpec : ChangeSpec := { name := "eventLasts", fn := fun _ => fun
  | [d] => { results := [.lit (.bool true)], args := [d] }
  | _ => none }
def eventLastsRow : OpenClaim := { program := "ythlcdepjmoddnaagreatdoor", sum := "de4f347044466381ac2d34c034524acda92f5089d3d836d13c0baf53355e1275", func := "handbill/handlaw2.EventLasts", spec := "eventLasts", inPlace := ["internal/abi.NoEscape", "internal/bytealg.MakeNoZero", "internal/bytealg.IndexByteString", "internal/bytealg.IndexString", "internal/bytealg.CountString"], unfollowed := true, recurses := true, named := ["handbill/handmake.eventNames", "handbill/handmake.idPool", "handbill/handmake.fieldNames", "unicode/utf8.first", "unicode/utf8.acceptRanges", "internal/bytealg.MaxLen"], plainKeys := false, apart := false, laid := [("unicode/utf8.acceptRanges", laid_unicode_utf8_acceptRanges), ("handbill/handmake.eventNames", laid_handbill_handmake_eventNames), ("handbill/handmake.idPool", laid_handbill_handmake_idPool), ("handbill/handmake.fieldNames", laid_handbill_handmake_fieldNames), ("unicode/utf8.first", laid_unicode_utf8_first)] }
def EventLastsSaid : Prop := eventLastsRow.holds Tryz.pinned (OpenSpec.ofChange eventLastsSpec)

/-- ITS FALSE NEIGHBOUR: 'it returns false'. Refute it at one input. -/
def eventLastsWrong : ChangeSpec := { name := "eventLasts", fn := fun _ => fun
  | [d] => { results := [.lit (.bool false)], args := [d] }
  | _ => none }
def EventLastsWrongFalsely : Prop := eventLastsRow.holds Tryz.pinned (OpenSpec.ofChange eventLastsWrong)

/-- 'handlaw2.EventSeries': WHATEVER THE INPUT: true; the input reads as it did. -/
def eventSeriesSpec : ChangeSpec := { name := "eventSeries", fn := fun _ => fun
  | [d] => { results := [.lit (.bool true)], args := [d] }
  | _ => none }
def eventSeriesRow : OpenClaim := { program := "ythlcdepjmoddnaagreatdoor", sum := "de4f347044466381ac2d34c034524acda92f5089d3d836d13c0baf53355e1275", func := "handbill/handlaw2.EventSeries", spec := "eventSeries", inPlace := ["internal/abi.NoEscape", "internal/bytealg.MakeNoZero", "internal/bytealg.IndexByteString", "internal/bytealg.IndexString", "internal/bytealg.CountString"], unfollowed := true, recurses := true, named := ["handbill/handmake.eventNames", "handbill/handmake.idPool", "handbill/handmake.fieldNames", "unicode/utf8.first", "unicode/utf8.acceptRanges", "internal/bytealg.MaxLen"], plainKeys := false, apart := false, laid := [("unicode/utf8.acceptRanges", laid_unicode_utf8_acceptRanges), ("handbill/handmake.eventNames", laid_handbill_handmake_eventNames), ("handbill/handmake.idPool", laid_handbill_handmake_idPool), ("handbill/handmake.fieldNames", laid_handbill_handmake_fieldNames), ("unicode/utf8.first", laid_unicode_utf8_first)] }
def EventSeriesSaid : Prop := eventSeriesRow.holds Tryz.pinned (OpenSpec.ofChange eventSeriesSpec)

/-- ITS FALSE NEIGHBOUR: 'it returns false'. Refute it at one input. -/
def eventSeriesWrong : ChangeSpec := { name := "eventSeries", fn := fun _ => fun
  | [d] => { results := [.lit (.bool false)], args := [d] }
  | _ => none }
def EventSeriesWrongFalsely : Prop := eventSeriesRow.holds Tryz.pinned (OpenSpec.ofChange eventSeriesWrong)

/-- 'handlaw2.EventChecks': WHATEVER THE INPUT: true; the input reads as it did. -/
def eventChecksSpec : ChangeSpec := { name := "eventChecks", fn := fun _ => fun
  | [d] => { results := [.lit (.bool true)], args := [d] }
  | _ => none }
def eventChecksRow : OpenClaim := { program := "ythlcdepjmoddnaagreatdoor", sum := "de4f347044466381ac2d34c034524acda92f5089d3d836d13c0baf53355e1275", func := "handbill/handlaw2.EventChecks", spec := "eventChecks", inPlace := ["internal/abi.NoEscape", "internal/bytealg.MakeNoZero", "internal/bytealg.IndexByteString", "internal/bytealg.IndexString", "internal/bytealg.CountString"], unfollowed := true, recurses := true, named := ["handbill/handmake.eventNames", "handbill/handmake.idPool", "handbill/handmake.fieldNames", "internal/bytealg.MaxLen", "unicode/utf8.first", "unicode/utf8.acceptRanges"], plainKeys := false, apart := false, laid := [("unicode/utf8.acceptRanges", laid_unicode_utf8_acceptRanges), ("handbill/handmake.eventNames", laid_handbill_handmake_eventNames), ("handbill/handmake.idPool", laid_handbill_handmake_idPool), ("handbill/handmake.fieldNames", laid_handbill_handmake_fieldNames), ("unicode/utf8.first", laid_unicode_utf8_first)] }
def EventChecksSaid : Prop := eventChecksRow.holds Tryz.pinned (OpenSpec.ofChange eventChecksSpec)

/-- ITS FALSE NEIGHBOUR: 'it returns false'. Refute it at one input. -/
def eventChecksWrong : ChangeSpec := { name := "eventChecks", fn := fun _ => fun
  | [d] => { results := [.lit (.bool false)], args := [d] }
  | _ => none }
def EventChecksWrongFalsely : Prop := eventChecksRow.holds Tryz.pinned (OpenSpec.ofChange eventChecksWrong)

/-- 'handlaw2.EventFunnels': WHATEVER THE INPUT: true; the input reads as it did. -/
def eventFunnelsSpec : ChangeSpec := { name := "eventFunnels", fn := fun _ => fun
  | [d] => { results := [.lit (.bool true)], args := [d] }
  | _ => none }
def eventFunnelsRow : OpenClaim := { program := "ythlcdepjmoddnaagreatdoor", sum := "de4f347044466381ac2d34c034524acda92f5089d3d836d13c0baf53355e1275", func := "handbill/handlaw2.EventFunnels", spec := "eventFunnels", inPlace := ["internal/abi.NoEscape", "internal/bytealg.MakeNoZero", "internal/bytealg.IndexByteString", "internal/bytealg.IndexString", "internal/bytealg.CountString"], unfollowed := true, recurses := true, named := ["handbill/handmake.eventNames", "handbill/handmake.idPool", "handbill/handmake.fieldNames", "unicode/utf8.first", "unicode/utf8.acceptRanges", "internal/bytealg.MaxLen"], plainKeys := false, apart := false, laid := [("unicode/utf8.acceptRanges", laid_unicode_utf8_acceptRanges), ("handbill/handmake.eventNames", laid_handbill_handmake_eventNames), ("handbill/handmake.idPool", laid_handbill_handmake_idPool), ("handbill/handmake.fieldNames", laid_handbill_handmake_fieldNames), ("unicode/utf8.first", laid_unicode_utf8_first)] }
def EventFunnelsSaid : Prop := eventFunnelsRow.holds Tryz.pinned (OpenSpec.ofChange eventFunnelsSpec)

/-- ITS FALSE NEIGHBOUR: 'it returns false'. Refute it at one input. -/
def eventFunnelsWrong : ChangeSpec := { name := "eventFunnels", fn := fun _ => fun
  | [d] => { results := [.lit (.bool false)], args := [d] }
  | _ => none }
def EventFunnelsWrongFalsely : Prop := eventFunnelsRow.holds Tryz.pinned (OpenSpec.ofChange eventFunnelsWrong)

/-- 'handlaw2.EventPacks': WHATEVER THE INPUT: true; the input reads as it did. -/
def eventPacksSpec : ChangeSpec := { name := "eventPacks", fn := fun _ => fun
  | [d] => { results := [.lit (.bool true)], args := [d] }
  | _ => none }
def eventPacksRow : OpenClaim := { program := "ythlcdepjmoddnaagreatdoor", sum := "de4f347044466381ac2d34c034524acda92f5089d3d836d13c0baf53355e1275", func := "handbill/handlaw2.EventPacks", spec := "eventPacks", inPlace := ["internal/abi.NoEscape", "internal/bytealg.MakeNoZero", "internal/bytealg.IndexByteString", "internal/bytealg.IndexString", "internal/bytealg.CountString"], unfollowed := true, recurses := true, named := ["handbill/handmake.eventNames", "handbill/handmake.idPool", "handbill/handmake.fieldNames", "unicode/utf8.first", "unicode/utf8.acceptRanges", "internal/bytealg.MaxLen"], plainKeys := false, apart := false, laid := [("unicode/utf8.acceptRanges", laid_unicode_utf8_acceptRanges), ("handbill/handmake.eventNames", laid_handbill_handmake_eventNames), ("handbill/handmake.idPool", laid_handbill_handmake_idPool), ("handbill/handmake.fieldNames", laid_handbill_handmake_fieldNames), ("unicode/utf8.first", laid_unicode_utf8_first)] }
def EventPacksSaid : Prop := eventPacksRow.holds Tryz.pinned (OpenSpec.ofChange eventPacksSpec)

/-- ITS FALSE NEIGHBOUR: 'it returns false'. Refute it at one input. -/
def eventPacksWrong : ChangeSpec := { name := "eventPacks", fn := fun _ => fun
  | [d] => { results := [.lit (.bool false)], args := [d] }
  | _ => none }
def EventPacksWrongFalsely : Prop := eventPacksRow.holds Tryz.pinned (OpenSpec.ofChange eventPacksWrong)

/-- 'handlaw2.EventNamed': WHATEVER THE INPUT: true; the input reads as it did. -/
def eventNamedSpec : ChangeSpec := { name := "eventNamed", fn := fun _ => fun
  | [d] => { results := [.lit (.bool true)], args := [d] }
  | _ => none }
def eventNamedRow : OpenClaim := { program := "ythlcdepjmoddnaagreatdoor", sum := "de4f347044466381ac2d34c034524acda92f5089d3d836d13c0baf53355e1275", func := "handbill/handlaw2.EventNamed", spec := "eventNamed", inPlace := ["internal/abi.NoEscape", "internal/bytealg.MakeNoZero", "internal/bytealg.IndexByteString", "internal/bytealg.IndexString", "internal/bytealg.CountString", "internal/bytealg.abigen_runtime_cmpstring"], unfollowed := true, recurses := true, named := ["handbill/handmake.eventNames", "handbill/handmake.idPool", "handbill/handmake.fieldNames", "unicode/utf8.first", "unicode/utf8.acceptRanges", "internal/bytealg.MaxLen"], plainKeys := false, apart := false, laid := [("unicode/utf8.acceptRanges", laid_unicode_utf8_acceptRanges), ("handbill/handmake.eventNames", laid_handbill_handmake_eventNames), ("handbill/handmake.idPool", laid_handbill_handmake_idPool), ("handbill/handmake.fieldNames", laid_handbill_handmake_fieldNames), ("unicode/utf8.first", laid_unicode_utf8_first)] }
def EventNamedSaid : Prop := eventNamedRow.holds Tryz.pinned (OpenSpec.ofChange eventNamedSpec)

/-- ITS FALSE NEIGHBOUR: 'it returns false'. Refute it at one input. -/
def eventNamedWrong : ChangeSpec := { name := "eventNamed", fn := fun _ => fun
  | [d] => { results := [.lit (.bool false)], args := [d] }
  | _ => none }
def EventNamedWrongFalsely : Prop := eventNamedRow.holds Tryz.pinned (OpenSpec.ofChange eventNamedWrong)

/- THE SECOND FORM. 'bulk': how many values and letters a reading holds, each counted each time it is reached (what is shared counts as often as it is met; a slice's spare places count too). A statement '..UptoSaid' is the law's where the arguments, and the package variables that the reading takes, are together of bulk at most 1048576: NARROWER than '..Said'. Prove '..Said' where nothing that the law and all that it calls make is longer than what came in: it says more and counts as full. Else prove '..UptoSaid'. A law counts once. -/
mutual
def uptoBulk {H : Type} : DataW H → Nat
  | .lit (.string bytes) => bytes.length + 1
  | .lit _ => 1
  | .nil => 1
  | .ptr d => uptoBulk d + 1
  | .slice elems spare => uptoBulkAll elems + uptoBulkAll spare + 1
  | .agg parts => uptoBulkAll parts + 1
  | .iface _ d => uptoBulk d + 1
  | .map entries => uptoBulkEntries entries + 1
  | .held _ => 1
def uptoBulkAll {H : Type} : List (DataW H) → Nat
  | [] => 0
  | d :: r => uptoBulk d + uptoBulkAll r
def uptoBulkEntries {H : Type} : List (Lit × DataW H) → Nat
  | [] => 0
  | x :: r => uptoBulkEntry x + uptoBulkEntries r
def uptoBulkEntry {H : Type} : Lit × DataW H → Nat
  | (.string bytes, d) => bytes.length + uptoBulk d + 1
  | (_, d) => uptoBulk d + 1
 end
def uptoSmall : (H : Type) → List (DataW H) → Bool := fun _ ds => decide (uptoBulkAll ds ≤ 1048576)
def OpenSpec.upto (s : _root_.Go.ChangeSpec) : _root_.Go.OpenSpec := { _root_.Go.OpenSpec.ofChange s with cond := some uptoSmall }

/-- 'handlaw2.SchemaChecks', WHERE WHAT IT READS IS OF BULK AT MOST 1048576: true; the input reads as it did. -/
def schemaChecksUptoRow : OpenClaim := { program := "ythlcdepjmoddnaagreatdoor", sum := "de4f347044466381ac2d34c034524acda92f5089d3d836d13c0baf53355e1275", func := "handbill/handlaw2.SchemaChecks", spec := "schemaChecks", inPlace := ["internal/abi.NoEscape", "internal/bytealg.MakeNoZero", "internal/bytealg.IndexByteString", "internal/bytealg.IndexString", "internal/bytealg.CountString"], unfollowed := true, recurses := true, named := ["handbill/handmake.eventNames", "handbill/handmake.fieldNames", "handbill/handmake.idPool", "unicode/utf8.first", "unicode/utf8.acceptRanges", "internal/bytealg.MaxLen"], plainKeys := false, apart := false, laid := [("unicode/utf8.acceptRanges", laid_unicode_utf8_acceptRanges), ("handbill/handmake.eventNames", laid_handbill_handmake_eventNames), ("handbill/handmake.idPool", laid_handbill_handmake_idPool), ("handbill/handmake.fieldNames", laid_handbill_handmake_fieldNames), ("unicode/utf8.first", laid_unicode_utf8_first)], narrowed := true }
def SchemaChecksUptoSaid : Prop := schemaChecksUptoRow.holds Tryz.pinned (OpenSpec.upto schemaChecksSpec)

/-- 'handlaw2.EventBusiest', WHERE WHAT IT READS IS OF BULK AT MOST 1048576: true; the input reads as it did. -/
def eventBusiestUptoRow : OpenClaim := { program := "ythlcdepjmoddnaagreatdoor", sum := "de4f347044466381ac2d34c034524acda92f5089d3d836d13c0baf53355e1275", func := "handbill/handlaw2.EventBusiest", spec := "eventBusiest", inPlace := ["internal/abi.NoEscape", "internal/bytealg.MakeNoZero", "internal/bytealg.IndexByteString", "internal/bytealg.IndexString", "internal/bytealg.CountString"], unfollowed := true, recurses := true, named := ["handbill/handmake.eventNames", "handbill/handmake.idPool", "handbill/handmake.fieldNames", "unicode/utf8.first", "unicode/utf8.acceptRanges", "internal/bytealg.MaxLen"], plainKeys := false, apart := false, laid := [("unicode/utf8.acceptRanges", laid_unicode_utf8_acceptRanges), ("handbill/handmake.eventNames", laid_handbill_handmake_eventNames), ("handbill/handmake.idPool", laid_handbill_handmake_idPool), ("handbill/handmake.fieldNames", laid_handbill_handmake_fieldNames), ("unicode/utf8.first", laid_unicode_utf8_first)], narrowed := true }
def EventBusiestUptoSaid : Prop := eventBusiestUptoRow.holds Tryz.pinned (OpenSpec.upto eventBusiestSpec)

/-- 'handlaw2.EventSessions', WHERE WHAT IT READS IS OF BULK AT MOST 1048576: true; the input reads as it did. -/
def eventSessionsUptoRow : OpenClaim := { program := "ythlcdepjmoddnaagreatdoor", sum := "de4f347044466381ac2d34c034524acda92f5089d3d836d13c0baf53355e1275", func := "handbill/handlaw2.EventSessions", spec := "eventSessions", inPlace := ["internal/abi.NoEscape", "internal/bytealg.MakeNoZero", "internal/bytealg.IndexByteString", "internal/bytealg.IndexString", "internal/bytealg.CountString"], unfollowed := true, recurses := true, named := ["handbill/handmake.eventNames", "handbill/handmake.idPool", "handbill/handmake.fieldNames", "unicode/utf8.first", "unicode/utf8.acceptRanges", "internal/bytealg.MaxLen"], plainKeys := false, apart := false, laid := [("unicode/utf8.acceptRanges", laid_unicode_utf8_acceptRanges), ("handbill/handmake.eventNames", laid_handbill_handmake_eventNames), ("handbill/handmake.idPool", laid_handbill_handmake_idPool), ("handbill/handmake.fieldNames", laid_handbill_handmake_fieldNames), ("unicode/utf8.first", laid_unicode_utf8_first)], narrowed := true }
def EventSessionsUptoSaid : Prop := eventSessionsUptoRow.holds Tryz.pinned (OpenSpec.upto eventSessionsSpec)

/-- 'handlaw2.EventLasts', WHERE WHAT IT READS IS OF BULK AT MOST 1048576: true; the input reads as it did. -/
def eventLastsUptoRow : OpenClaim := { program := "ythlcdepjmoddnaagreatdoor", sum := "de4f347044466381ac2d34c034524acda92f5089d3d836d13c0baf53355e1275", func := "handbill/handlaw2.EventLasts", spec := "eventLasts", inPlace := ["internal/abi.NoEscape", "internal/bytealg.MakeNoZero", "internal/bytealg.IndexByteString", "internal/bytealg.IndexString", "internal/bytealg.CountString"], unfollowed := true, recurses := true, named := ["handbill/handmake.eventNames", "handbill/handmake.idPool", "handbill/handmake.fieldNames", "unicode/utf8.first", "unicode/utf8.acceptRanges", "internal/bytealg.MaxLen"], plainKeys := false, apart := false, laid := [("unicode/utf8.acceptRanges", laid_unicode_utf8_acceptRanges), ("handbill/handmake.eventNames", laid_handbill_handmake_eventNames), ("handbill/handmake.idPool", laid_handbill_handmake_idPool), ("handbill/handmake.fieldNames", laid_handbill_handmake_fieldNames), ("unicode/utf8.first", laid_unicode_utf8_first)], narrowed := true }
def EventLastsUptoSaid : Prop := eventLastsUptoRow.holds Tryz.pinned (OpenSpec.upto eventLastsSpec)

/-- 'handlaw2.EventSeries', WHERE WHAT IT READS IS OF BULK AT MOST 1048576: true; the input reads as it did. -/
def eventSeriesUptoRow : OpenClaim := { program := "ythlcdepjmoddnaagreatdoor", sum := "de4f347044466381ac2d34c034524acda92f5089d3d836d13c0baf53355e1275", func := "handbill/handlaw2.EventSeries", spec := "eventSeries", inPlace := ["internal/abi.NoEscape", "internal/bytealg.MakeNoZero", "internal/bytealg.IndexByteString", "internal/bytealg.IndexString", "internal/bytealg.CountString"], unfollowed := true, recurses := true, named := ["handbill/handmake.eventNames", "handbill/handmake.idPool", "handbill/handmake.fieldNames", "unicode/utf8.first", "unicode/utf8.acceptRanges", "internal/bytealg.MaxLen"], plainKeys := false, apart := false, laid := [("unicode/utf8.acceptRanges", laid_unicode_utf8_acceptRanges), ("handbill/handmake.eventNames", laid_handbill_handmake_eventNames), ("handbill/handmake.idPool", laid_handbill_handmake_idPool), ("handbill/handmake.fieldNames", laid_handbill_handmake_fieldNames), ("unicode/utf8.first", laid_unicode_utf8_first)], narrowed := true }
def EventSeriesUptoSaid : Prop := eventSeriesUptoRow.holds Tryz.pinned (OpenSpec.upto eventSeriesSpec)

/-- 'handlaw2.EventChecks', WHERE WHAT IT READS IS OF BULK AT MOST 1048576: true; the input reads as it did. -/
def eventChecksUptoRow : OpenClaim := { program := "ythlcdepjmoddnaagreatdoor", sum := "de4f347044466381ac2d34c034524acda92f5089d3d836d13c0baf53355e1275", func := "handbill/handlaw2.EventChecks", spec := "eventChecks", inPlace := ["internal/abi.NoEscape", "internal/bytealg.MakeNoZero", "internal/bytealg.IndexByteString", "internal/bytealg.IndexString", "internal/bytealg.CountString"], unfollowed := true, recurses := true, named := ["handbill/handmake.eventNames", "handbill/handmake.idPool", "handbill/handmake.fieldNames", "internal/bytealg.MaxLen", "unicode/utf8.first", "unicode/utf8.acceptRanges"], plainKeys := false, apart := false, laid := [("unicode/utf8.acceptRanges", laid_unicode_utf8_acceptRanges), ("handbill/handmake.eventNames", laid_handbill_handmake_eventNames), ("handbill/handmake.idPool", laid_handbill_handmake_idPool), ("handbill/handmake.fieldNames", laid_handbill_handmake_fieldNames), ("unicode/utf8.first", laid_unicode_utf8_first)], narrowed := true }
def EventChecksUptoSaid : Prop := eventChecksUptoRow.holds Tryz.pinned (OpenSpec.upto eventChecksSpec)

/-- 'handlaw2.EventFunnels', WHERE WHAT IT READS IS OF BULK AT MOST 1048576: true; the input reads as it did. -/
def eventFunnelsUptoRow : OpenClaim := { program := "ythlcdepjmoddnaagreatdoor", sum := "de4f347044466381ac2d34c034524acda92f5089d3d836d13c0baf53355e1275", func := "handbill/handlaw2.EventFunnels", spec := "eventFunnels", inPlace := ["internal/abi.NoEscape", "internal/bytealg.MakeNoZero", "internal/bytealg.IndexByteString", "internal/bytealg.IndexString", "internal/bytealg.CountString"], unfollowed := true, recurses := true, named := ["handbill/handmake.eventNames", "handbill/handmake.idPool", "handbill/handmake.fieldNames", "unicode/utf8.first", "unicode/utf8.acceptRanges", "internal/bytealg.MaxLen"], plainKeys := false, apart := false, laid := [("unicode/utf8.acceptRanges", laid_unicode_utf8_acceptRanges), ("handbill/handmake.eventNames", laid_handbill_handmake_eventNames), ("handbill/handmake.idPool", laid_handbill_handmake_idPool), ("handbill/handmake.fieldNames", laid_handbill_handmake_fieldNames), ("unicode/utf8.first", laid_unicode_utf8_first)], narrowed := true }
def EventFunnelsUptoSaid : Prop := eventFunnelsUptoRow.holds Tryz.pinned (OpenSpec.upto eventFunnelsSpec)

/-- 'handlaw2.EventPacks', WHERE WHAT IT READS IS OF BULK AT MOST 1048576: true; the input reads as it did. -/
def eventPacksUptoRow : OpenClaim := { program := "ythlcdepjmoddnaagreatdoor", sum := "de4f347044466381ac2d34c034524acda92f5089d3d836d13c0baf53355e1275", func := "handbill/handlaw2.EventPacks", spec := "eventPacks", inPlace := ["internal/abi.NoEscape", "internal/bytealg.MakeNoZero", "internal/bytealg.IndexByteString", "internal/bytealg.IndexString", "internal/bytealg.CountString"], unfollowed := true, recurses := true, named := ["handbill/handmake.eventNames", "handbill/handmake.idPool", "handbill/handmake.fieldNames", "unicode/utf8.first", "unicode/utf8.acceptRanges", "internal/bytealg.MaxLen"], plainKeys := false, apart := false, laid := [("unicode/utf8.acceptRanges", laid_unicode_utf8_acceptRanges), ("handbill/handmake.eventNames", laid_handbill_handmake_eventNames), ("handbill/handmake.idPool", laid_handbill_handmake_idPool), ("handbill/handmake.fieldNames", laid_handbill_handmake_fieldNames), ("unicode/utf8.first", laid_unicode_utf8_first)], narrowed := true }
def EventPacksUptoSaid : Prop := eventPacksUptoRow.holds Tryz.pinned (OpenSpec.upto eventPacksSpec)

/-- 'handlaw2.EventNamed', WHERE WHAT IT READS IS OF BULK AT MOST 1048576: true; the input reads as it did. -/
def eventNamedUptoRow : OpenClaim := { program := "ythlcdepjmoddnaagreatdoor", sum := "de4f347044466381ac2d34c034524acda92f5089d3d836d13c0baf53355e1275", func := "handbill/handlaw2.EventNamed", spec := "eventNamed", inPlace := ["internal/abi.NoEscape", "internal/bytealg.MakeNoZero", "internal/bytealg.IndexByteString", "internal/bytealg.IndexString", "internal/bytealg.CountString", "internal/bytealg.abigen_runtime_cmpstring"], unfollowed := true, recurses := true, named := ["handbill/handmake.eventNames", "handbill/handmake.idPool", "handbill/handmake.fieldNames", "unicode/utf8.first", "unicode/utf8.acceptRanges", "internal/bytealg.MaxLen"], plainKeys := false, apart := false, laid := [("unicode/utf8.acceptRanges", laid_unicode_utf8_acceptRanges), ("handbill/handmake.eventNames", laid_handbill_handmake_eventNames), ("handbill/handmake.idPool", laid_handbill_handmake_idPool), ("handbill/handmake.fieldNames", laid_handbill_handmake_fieldNames), ("unicode/utf8.first", laid_unicode_utf8_first)], narrowed := true }
def EventNamedUptoSaid : Prop := eventNamedUptoRow.holds Tryz.pinned (OpenSpec.upto eventNamedSpec)

end Rows
end Go.Proofs.YthlcdepjmoddnaaGreatDoor
