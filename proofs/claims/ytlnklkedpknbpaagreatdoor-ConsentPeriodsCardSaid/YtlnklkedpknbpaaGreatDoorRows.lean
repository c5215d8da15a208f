/-
  NARROWER THAN 'FOR EVERY INPUT', by the rows' own cells (each row's printed sentence says how): PolicyChecks: laid · StatementChecks: laid · ConsentAsks: laid · ConsentChoices: laid · ConsentPersons: laid · ConsentAudiences: laid · ConsentChanges: laid · ConsentProofs: laid · ConsentPeriods: laid.
  DERIVED. THE GIVEN ROWS OF THIS SEAT. 9 by the template 'for every input the law returns true; each argument reads behind the call as it read before'; 0 by the template 'total and deterministic' (their statements: YtlnklkedpknbpaaGreatDoorTotals.lean).
  GIVEN WITH THE SEED: the statements are not yours to turn. If you find one false, say at which input.
  Laid BY PROGRAM, IN A SANDBOX (cutbox-rows.mjs): the forced cells as the released guide's own fill.sh prints them over the translation 96a539c51fcfed31… (all of the seat's roots in one cut). By AI agents, Wed Nov 11 2026. No macro, syntax, notation, axiom, sorry.
-/
import Derived.Test.YtlnklkedpknbpaaGreatDoorChecked
import GoSem.PinnedTables
import GoSem.Claim
import GoSem.ClaimJoined
import GoSem.ClaimMapViews
import Derived.JoinedTies
import Derived.KernelRfl
namespace Go.Proofs.YtlnklkedpknbpaaGreatDoor
/- THE CELL 'sum', in the pinned program and in every row, IS THE sha256 OF THE DUMP (.gsa) THAT YtlnklkedpknbpaaGreatDoorProg.lean LOADS. Nothing in Lean hashes anything: it is a label: what it is worth is what the hold of that sum in a sandbox is worth. -/
noncomputable def Tryz.pinned : Pinned := { name := "ytlnklkedpknbpaagreatdoor", sum := "96a539c51fcfed31204a4973dfede50b8fea863836a9480f30e03dbf965b25e8", checked := Tryz.checked }
namespace Rows
def none {H : Type} : Left H := { results := [], args := [] }

/- WHAT THE LISTED PACKAGE-LEVEL VARIABLES READ AS WHEN THE CALL BEGINS. Each datum BY PROGRAM (the guide's laid-datum.mjs) off the statement by which the dump's own 'gosem.cut.vars' lays the variable. In a bare row this is a premise. The card (YtlnklkedpknbpaaGreatDoorCards.lean) ties it to the program's text. -/
def laid_unicode_utf8_acceptRanges {H : Type} : DataW H := .agg [.agg [.lit (.int .u8 128), .lit (.int .u8 191)], .agg [.lit (.int .u8 160), .lit (.int .u8 191)], .agg [.lit (.int .u8 128), .lit (.int .u8 159)], .agg [.lit (.int .u8 144), .lit (.int .u8 191)], .agg [.lit (.int .u8 128), .lit (.int .u8 143)], .agg [.lit (.int .u8 0), .lit (.int .u8 0)], .agg [.lit (.int .u8 0), .lit (.int .u8 0)], .agg [.lit (.int .u8 0), .lit (.int .u8 0)], .agg [.lit (.int .u8 0), .lit (.int .u8 0)], .agg [.lit (.int .u8 0), .lit (.int .u8 0)], .agg [.lit (.int .u8 0), .lit (.int .u8 0)], .agg [.lit (.int .u8 0), .lit (.int .u8 0)], .agg [.lit (.int .u8 0), .lit (.int .u8 0)], .agg [.lit (.int .u8 0), .lit (.int .u8 0)], .agg [.lit (.int .u8 0), .lit (.int .u8 0)], .agg [.lit (.int .u8 0), .lit (.int .u8 0)]]
def laid_handbill_handmake_idPool {H : Type} : DataW H := .agg [.agg [.lit (.int .i64 1), .lit (.string [97, 64, 98, 46, 100, 101])], .agg [.lit (.int .i64 1), .lit (.string [97, 110, 110, 46, 98, 64, 120, 45, 121, 46, 111, 114, 103])], .agg [.lit (.int .i64 1), .lit (.string [98, 111, 98, 95, 49, 64, 98, 46, 100, 101])], .agg [.lit (.int .i64 1), .lit (.string [122, 45, 64, 48, 46, 97])], .agg [.lit (.int .i64 2), .lit (.string [43, 52, 57, 51, 48, 49, 50, 51, 52, 53, 54])], .agg [.lit (.int .i64 2), .lit (.string [43, 49, 53, 53, 53, 48, 48, 48, 49, 49, 49])], .agg [.lit (.int .i64 3), .lit (.string [65, 66, 49, 51])], .agg [.lit (.int .i64 3), .lit (.string [48, 48, 48, 48, 48, 48, 48, 48, 48, 48, 48, 48, 48, 48, 48, 48, 48, 48, 48, 48])], .agg [.lit (.int .i64 4), .lit (.string [48, 49, 50, 51, 52, 53, 54, 55, 56, 57, 97, 98, 99, 100, 101, 102, 48, 49, 50, 51, 52, 53, 54, 55, 56, 57, 97, 98, 99, 100, 101, 102])], .agg [.lit (.int .i64 4), .lit (.string [102, 102, 102, 102, 102, 102, 102, 102, 102, 102, 102, 102, 102, 102, 102, 102, 102, 102, 102, 102, 102, 102, 102, 102, 102, 102, 102, 102, 102, 102, 102, 102])]]
/-- One of Go's own tables, pinned by name: the form's constant. -/
def laid_unicode_utf8_first : DataW Unit := Go.Pinned.utf8First

/-- 'handlaw2.PolicyChecks': WHATEVER THE INPUT: true; the input reads as it did. -/
def policyChecksSpec : ChangeSpec := { name := "policyChecks", fn := fun _ => fun
  | [d] => { results := [.lit (.bool true)], args := [d] }
  | _ => none }
def policyChecksRow : OpenClaim := { program := "ytlnklkedpknbpaagreatdoor", sum := "96a539c51fcfed31204a4973dfede50b8fea863836a9480f30e03dbf965b25e8", func := "handbill/handlaw2.PolicyChecks", spec := "policyChecks", inPlace := ["internal/abi.NoEscape", "internal/bytealg.MakeNoZero", "internal/bytealg.IndexByteString", "internal/bytealg.IndexString", "internal/bytealg.CountString"], unfollowed := true, recurses := true, named := ["handbill/handmake.idPool", "unicode/utf8.first", "unicode/utf8.acceptRanges", "internal/bytealg.MaxLen"], plainKeys := false, apart := false, laid := [("unicode/utf8.acceptRanges", laid_unicode_utf8_acceptRanges), ("handbill/handmake.idPool", laid_handbill_handmake_idPool), ("unicode/utf8.first", laid_unicode_utf8_first)] }
def PolicyChecksSaid : Prop := policyChecksRow.holds Tryz.pinned (OpenSpec.ofChange policyChecksSpec)

/-- ITS FALSE NEIGHBOUR: 'it returns false'. Refute it at one input. -/
def policyChecksWrong : ChangeSpec := { name := "policyChecks", fn := fun _ => fun
  | [d] => { results := [.lit (.bool false)], args := [d] }
  | _ => none }
def PolicyChecksWrongFalsely : Prop := policyChecksRow.holds Tryz.pinned (OpenSpec.ofChange policyChecksWrong)

/-- 'handlaw2.StatementChecks': WHATEVER THE INPUT: true; the input reads as it did. -/
def statementChecksSpec : ChangeSpec := { name := "statementChecks", fn := fun _ => fun
  | [d] => { results := [.lit (.bool true)], args := [d] }
  | _ => none }
def statementChecksRow : OpenClaim := { program := "ytlnklkedpknbpaagreatdoor", sum := "96a539c51fcfed31204a4973dfede50b8fea863836a9480f30e03dbf965b25e8", func := "handbill/handlaw2.StatementChecks", spec := "statementChecks", inPlace := ["internal/abi.NoEscape", "internal/bytealg.MakeNoZero", "internal/bytealg.IndexByteString", "internal/bytealg.IndexString", "internal/bytealg.CountString"], unfollowed := true, recurses := true, named := ["handbill/handmake.idPool", "internal/bytealg.MaxLen", "unicode/utf8.first", "unicode/utf8.acceptRanges"], plainKeys := false, apart := false, laid := [("unicode/utf8.acceptRanges", laid_unicode_utf8_acceptRanges), ("handbill/handmake.idPool", laid_handbill_handmake_idPool), ("unicode/utf8.first", laid_unicode_utf8_first)] }
def StatementChecksSaid : Prop := statementChecksRow.holds Tryz.pinned (OpenSpec.ofChange statementChecksSpec)

/-- ITS FALSE NEIGHBOUR: 'it returns false'. Refute it at one input. -/
def statementChecksWrong : ChangeSpec := { name := "statementChecks", fn := fun _ => fun
  | [d] => { results := [.lit (.bool false)], args := [d] }
  | _ => none }
def StatementChecksWrongFalsely : Prop := statementChecksRow.holds Tryz.pinned (OpenSpec.ofChange statementChecksWrong)

/-- 'handlaw2.ConsentAsks': WHATEVER THE INPUT: true; the input reads as it did. -/
def consentAsksSpec : ChangeSpec := { name := "consentAsks", fn := fun _ => fun
  | [d] => { results := [.lit (.bool true)], args := [d] }
  | _ => none }
def consentAsksRow : OpenClaim := { program := "ytlnklkedpknbpaagreatdoor", sum := "96a539c51fcfed31204a4973dfede50b8fea863836a9480f30e03dbf965b25e8", func := "handbill/handlaw2.ConsentAsks", spec := "consentAsks", inPlace := ["internal/abi.NoEscape", "internal/bytealg.MakeNoZero", "internal/bytealg.IndexByteString", "internal/bytealg.IndexString", "internal/bytealg.CountString"], unfollowed := true, recurses := true, named := ["handbill/handmake.idPool", "unicode/utf8.first", "unicode/utf8.acceptRanges", "internal/bytealg.MaxLen"], plainKeys := false, apart := false, laid := [("unicode/utf8.acceptRanges", laid_unicode_utf8_acceptRanges), ("handbill/handmake.idPool", laid_handbill_handmake_idPool), ("unicode/utf8.first", laid_unicode_utf8_first)] }
def ConsentAsksSaid : Prop := consentAsksRow.holds Tryz.pinned (OpenSpec.ofChange consentAsksSpec)

/-- ITS FALSE NEIGHBOUR: 'it returns false'. Refute it at one input. -/
def consentAsksWrong : ChangeSpec := { name := "consentAsks", fn := fun _ => fun
  | [d] => { results := [.lit (.bool false)], args := [d] }
  | _ => none }
def ConsentAsksWrongFalsely : Prop := consentAsksRow.holds Tryz.pinned (OpenSpec.ofChange consentAsksWrong)

/-- 'handlaw2.ConsentChoices': WHATEVER THE INPUT: true; the input reads as it did. -/
def consentChoicesSpec : ChangeSpec := { name := "consentChoices", fn := fun _ => fun
  | [d] => { results := [.lit (.bool true)], args := [d] }
  | _ => none }
def consentChoicesRow : OpenClaim := { program := "ytlnklkedpknbpaagreatdoor", sum := "96a539c51fcfed31204a4973dfede50b8fea863836a9480f30e03dbf965b25e8", func := "handbill/handlaw2.ConsentChoices", spec := "consentChoices", inPlace := ["internal/abi.NoEscape", "internal/bytealg.MakeNoZero", "internal/bytealg.IndexByteString", "internal/bytealg.IndexString", "internal/bytealg.CountString"], unfollowed := true, recurses := true, named := ["handbill/handmake.idPool", "unicode/utf8.first", "unicode/utf8.acceptRanges", "internal/bytealg.MaxLen"], plainKeys := false, apart := false, laid := [("unicode/utf8.acceptRanges", laid_unicode_utf8_acceptRanges), ("handbill/handmake.idPool", laid_handbill_handmake_idPool), ("unicode/utf8.first", laid_unicode_utf8_first)] }
def ConsentChoicesSaid : Prop := consentChoicesRow.holds Tryz.pinned (OpenSpec.ofChange consentChoicesSpec)

/-- ITS FALSE NEIGHBOUR: 'it returns false'. Refute it at one input. -/
def consentChoicesWrong : ChangeSpec := { name := "consentChoices", fn := fun _ => fun
  | [d] => { results := [.lit (.bool false)], args := [d] }
  | _ => none }
def ConsentChoicesWrongFalsely : Prop := consentChoicesRow.holds Tryz.pinned (OpenSpec.ofChange consentChoicesWrong)

/-- 'handlaw2.ConsentPersons': WHATEVER THE INPUT: true; the input reads as it did. -/
def consentPersonsSpec : ChangeSpec := { name := "consentPersons", fn := fun _ => fun
  | [d] => { results := [.lit (.bool true)], args := [d] }
  | _ => none }
def consentPersonsRow : OpenClaim := { program := "ytlnklkedpknbpaagreatdoor", sum := "96a539c51fcfed31204a4973dfede50b8fea863836a9480f30e03dbf965b25e8", func := "handbill/handlaw2.ConsentPersons", spec := "consentPersons", inPlace := ["internal/abi.NoEscape", "internal/bytealg.MakeNoZero", "internal/bytealg.IndexByteString", "internal/bytealg.IndexString", "internal/bytealg.CountString"], unfollowed := true, recurses := true, named := ["handbill/handmake.idPool", "unicode/utf8.first", "unicode/utf8.acceptRanges", "internal/bytealg.MaxLen"], plainKeys := false, apart := false, laid := [("unicode/utf8.acceptRanges", laid_unicode_utf8_acceptRanges), ("handbill/handmake.idPool", laid_handbill_handmake_idPool), ("unicode/utf8.first", laid_unicode_utf8_first)] }
def ConsentPersonsSaid : Prop := consentPersonsRow.holds Tryz.pinned (OpenSpec.ofChange consentPersonsSpec)

/-- ITS FALSE NEIGHBOUR: 'it returns false'. Refute it at one input. -/
def consentPersonsWrong : ChangeSpec := { name := "consentPersons", fn := fun _ => fun
  | [d] => { results := [.lit (.bool false)], args := [d] }
  | _ => none }
def ConsentPersonsWrongFalsely : Prop := consentPersonsRow.holds Tryz.pinned (OpenSpec.ofChange consentPersonsWrong)

/-- 'handlaw2.ConsentAudiences': WHATEVER THE INPUT: true; the input reads as it did. -/
def consentAudiencesSpec : ChangeSpec := { name := "consentAudiences", fn := fun _ => fun
  | [d] => { results := [.lit (.bool true)], args := [d] }
  | _ => none }
def consentAudiencesRow : OpenClaim := { program := "ytlnklkedpknbpaagreatdoor", sum := "96a539c51fcfed31204a4973dfede50b8fea863836a9480f30e03dbf965b25e8", func := "handbill/handlaw2.ConsentAudiences", spec := "consentAudiences", inPlace := ["internal/abi.NoEscape", "internal/bytealg.MakeNoZero", "internal/bytealg.IndexByteString", "internal/bytealg.IndexString", "internal/bytealg.CountString"], unfollowed := true, recurses := true, named := ["handbill/handmake.idPool", "unicode/utf8.first", "unicode/utf8.acceptRanges", "internal/bytealg.MaxLen"], plainKeys := false, apart := false, laid := [("unicode/utf8.acceptRanges", laid_unicode_utf8_acceptRanges), ("handbill/handmake.idPool", laid_handbill_handmake_idPool), ("unicode/utf8.first", laid_unicode_utf8_first)] }
def ConsentAudiencesSaid : Prop := consentAudiencesRow.holds Tryz.pinned (OpenSpec.ofChange consentAudiencesSpec)

/-- ITS FALSE NEIGHBOUR: 'it returns false'. Refute it at one input. -/
def consentAudiencesWrong : ChangeSpec := { name := "consentAudiences", fn := fun _ => fun
  | [d] => { results := [.lit (.bool false)], args := [d] }
  | _ => none }
def ConsentAudiencesWrongFalsely : Prop := consentAudiencesRow.holds Tryz.pinned (OpenSpec.ofChange consentAudiencesWrong)

/-- 'handlaw2.ConsentChanges': WHATEVER THE INPUT: true; the input reads as it did. -/
def consentChangesSpec : ChangeSpec := { name := "consentChanges", fn := fun _ => fun
  | [d] => { results := [.lit (.bool true)], args := [d] }
  | _ => none }
def consentChangesRow : OpenClaim := { program := "ytlnklkedpknbpaagreatdoor", sum := "96a539c51fcfed31204a4973dfede50b8fea863836a9480f30e03dbf965b25e8", func := "handbill/handlaw2.ConsentChanges", spec := "consentChanges", inPlace := ["internal/abi.NoEscape", "internal/bytealg.MakeNoZero", "internal/bytealg.IndexByteString", "internal/bytealg.IndexString", "internal/bytealg.CountString"], unfollowed := true, recurses := true, named := ["handbill/handmake.idPool", "unicode/utf8.first", "unicode/utf8.acceptRanges", "internal/bytealg.MaxLen"], plainKeys := false, apart := false, laid := [("unicode/utf8.acceptRanges", laid_unicode_utf8_acceptRanges), ("handbill/handmake.idPool", laid_handbill_handmake_idPool), ("unicode/utf8.first", laid_unicode_utf8_first)] }
def ConsentChangesSaid : Prop := consentChangesRow.holds Tryz.pinned (OpenSpec.ofChange consentChangesSpec)

/-- ITS FALSE NEIGHBOUR: 'it returns false'. Refute it at one input. -/
def consentChangesWrong : ChangeSpec := { name := "consentChanges", fn := fun _ => fun
  | [d] => { results := [.lit (.bool false)], args := [d] }
  | _ => none }
def ConsentChangesWrongFalsely : Prop := consentChangesRow.holds Tryz.pinned (OpenSpec.ofChange consentChangesWrong)

/-- 'handlaw2.ConsentProofs': WHATEVER THE INPUT: true; the input reads as it did. -/
def consentProofsSpec : ChangeSpec := { name := "consentProofs", fn := fun _ => fun
  | [d] => { results := [.lit (.bool true)], args := [d] }
  | _ => none }
def consentProofsRow : OpenClaim := { program := "ytlnklkedpknbpaagreatdoor", sum := "96a539c51fcfed31204a4973dfede50b8fea863836a9480f30e03dbf965b25e8", func := "handbill/handlaw2.ConsentProofs", spec := "consentProofs", inPlace := ["internal/abi.NoEscape", "internal/bytealg.MakeNoZero", "internal/bytealg.IndexByteString", "internal/bytealg.IndexString", "internal/bytealg.CountString"], unfollowed := true, recurses := true, named := ["handbill/handmake.idPool", "unicode/utf8.first", "unicode/utf8.acceptRanges", "internal/bytealg.MaxLen"], plainKeys := false, apart := false, laid := [("unicode/utf8.acceptRanges", laid_unicode_utf8_acceptRanges), ("handbill/handmake.idPool", laid_handbill_handmake_idPool), ("unicode/utf8.first", laid_unicode_utf8_first)] }
def ConsentProofsSaid : Prop := consentProofsRow.holds Tryz.pinned (OpenSpec.ofChange consentProofsSpec)

/-- ITS FALSE NEIGHBOUR: 'it returns false'. Refute it at one input. -/
def consentProofsWrong : ChangeSpec := { name := "consentProofs", fn := fun _ => fun
  | [d] => { results := [.lit (.bool false)], args := [d] }
  | _ => none }
def ConsentProofsWrongFalsely : Prop := consentProofsRow.holds Tryz.pinned (OpenSpec.ofChange consentProofsWrong)

/-- 'handlaw2.ConsentPeriods': WHATEVER THE INPUT: true; the input reads as it did. -/
def consentPeriodsSpec : ChangeSpec := { name := "consentPeriods", fn := fun _ => fun
  | [d] => { results := [.lit (.bool true)], args := [d] }
  | _ => none }
def consentPeriodsRow : OpenClaim := { program := "ytlnklkedpknbpaagreatdoor", sum := "96a539c51fcfed31204a4973dfede50b8fea863836a9480f30e03dbf965b25e8", func := "handbill/handlaw2.ConsentPeriods", spec := "consentPeriods", inPlace := ["internal/abi.NoEscape", "internal/bytealg.MakeNoZero", "internal/bytealg.IndexByteString", "internal/bytealg.IndexString", "internal/bytealg.CountString"], unfollowed := true, recurses := true, named := ["handbill/handmake.idPool", "unicode/utf8.first", "unicode/utf8.acceptRanges", "internal/bytealg.MaxLen"], plainKeys := false, apart := false, laid := [("unicode/utf8.acceptRanges", laid_unicode_utf8_acceptRanges), ("handbill/handmake.idPool", laid_handbill_handmake_idPool), ("unicode/utf8.first", laid_unicode_utf8_first)] }
def ConsentPeriodsSaid : Prop := consentPeriodsRow.holds Tryz.pinned (OpenSpec.ofChange consentPeriodsSpec)

/-- ITS FALSE NEIGHBOUR: 'it returns false'. Refute it at one input. -/
def consentPeriodsWrong : ChangeSpec := { name := "consentPeriods", fn := fun _ => fun
  | [d] => { results := [.lit (.bool false)], args := [d] }
  | _ => none }
def ConsentPeriodsWrongFalsely : Prop := consentPeriodsRow.holds Tryz.pinned (OpenSpec.ofChange consentPeriodsWrong)

/- THE SECOND FORM. 'bulk': how many values and letters a reading holds, each counted each time it is reached (what is shared counts as often as it is met; a slice's spare places count too). A statement '..UptoSaid' is the law's where the arguments, and the package variables that the reading takes, are together of bulk at most 1048576: NARROWER than '..Said'. Prove '..Said' where nothing that the law and all that it calls make is longer than what came in: it says more and counts as full. Else prove '..UptoSaid'. A law counts once. -/
mutual
def uptoBulk {H : Type} : DataW H → Nat
  | .lit (.string bytes) => bytes.length + 1
  | .lit _ => 1
  | .nil => 1
  | .ptr d => uptoBulk d + 1
  | .slice elems spare => uptoBulkAll elems + uptoBulkAll spare + 1
  | .agg parts => uptoBulkAll parts + 1
  | .iface _ d => uptoBulk d + 1
  | .map entries => uptoBulkEntries entries + 1
  | .held _ => 1
def uptoBulkAll {H : Type} : List (DataW H) → Nat
  | [] => 0
  | d :: r => uptoBulk d + uptoBulkAll r
def uptoBulkEntries {H : Type} : List (Lit × DataW H) → Nat
  | [] => 0
  | x :: r => uptoBulkEntry x + uptoBulkEntries r
def uptoBulkEntry {H : Type} : Lit × DataW H → Nat
  | (.string bytes, d) => bytes.length + uptoBulk d + 1
  | (_, d) => uptoBulk d + 1
 end
def uptoSmall : (H : Type) → List (DataW H) → Bool := fun _ ds => decide (uptoBulkAll ds ≤ 1048576)
def OpenSpec.upto (s : _root_.Go.ChangeSpec) : _root_.Go.OpenSpec := { _root_.Go.OpenSpec.ofChange s with cond := some uptoSmall }

/-- 'handlaw2.PolicyChecks', WHERE WHAT IT READS IS OF BULK AT MOST 1048576: true; the input reads as it did. -/
def policyChecksUptoRow : OpenClaim := { program := "ytlnklkedpknbpaagreatdoor", sum := "96a539c51fcfed31204a4973dfede50b8fea863836a9480f30e03dbf965b25e8", func := "handbill/handlaw2.PolicyChecks", spec := "policyChecks", inPlace := ["internal/abi.NoEscape", "internal/bytealg.MakeNoZero", "internal/bytealg.IndexByteString", "internal/bytealg.IndexString", "internal/bytealg.CountString"], unfollowed := true, recurses := true, named := ["handbill/handmake.idPool", "unicode/utf8.first", "unicode/utf8.acceptRanges", "internal/bytealg.MaxLen"], plainKeys := false, apart := false, laid := [("unicode/utf8.acceptRanges", laid_unicode_utf8_acceptRanges), ("handbill/handmake.idPool", laid_handbill_handmake_idPool), ("unicode/utf8.first", laid_unicode_utf8_first)], narrowed := true }
def PolicyChecksUptoSaid : Prop := policyChecksUptoRow.holds Tryz.pinned (OpenSpec.upto policyChecksSpec)

/-- 'handlaw2.StatementChecks', WHERE WHAT IT READS IS OF BULK AT MOST 1048576: true; the input reads as it did. -/
def statementChecksUptoRow : OpenClaim := { program := "ytlnklkedpknbpaagreatdoor", sum := "96a539c51fcfed31204a4973dfede50b8fea863836a9480f30e03dbf965b25e8", func := "handbill/handlaw2.StatementChecks", spec := "statementChecks", inPlace := ["internal/abi.NoEscape", "internal/bytealg.MakeNoZero", "internal/bytealg.IndexByteString", "internal/bytealg.IndexString", "internal/bytealg.CountString"], unfollowed := true, recurses := true, named := ["handbill/handmake.idPool", "internal/bytealg.MaxLen", "unicode/utf8.first", "unicode/utf8.acceptRanges"], plainKeys := false, apart := false, laid := [("unicode/utf8.acceptRanges", laid_unicode_utf8_acceptRanges), ("handbill/handmake.idPool", laid_handbill_handmake_idPool), ("unicode/utf8.first", laid_unicode_utf8_first)], narrowed := true }
def StatementChecksUptoSaid : Prop := statementChecksUptoRow.holds Tryz.pinned (OpenSpec.upto statementChecksSpec)

/-- 'handlaw2.ConsentAsks', WHERE WHAT IT READS IS OF BULK AT MOST 1048576: true; the input reads as it did. -/
def consentAsksUptoRow : OpenClaim := { program := "ytlnklkedpknbpaagreatdoor", sum := "96a539c51fcfed31204a4973dfede50b8fea863836a9480f30e03dbf965b25e8", func := "handbill/handlaw2.ConsentAsks", spec := "consentAsks", inPlace := ["internal/abi.NoEscape", "internal/bytealg.MakeNoZero", "internal/bytealg.IndexByteString", "internal/bytealg.IndexString", "internal/bytealg.CountString"], unfollowed := true, recurses := true, named := ["handbill/handmake.idPool", "unicode/utf8.first", "unicode/utf8.acceptRanges", "internal/bytealg.MaxLen"], plainKeys := false, apart := false, laid := [("unicode/utf8.acceptRanges", laid_unicode_utf8_acceptRanges), ("handbill/handmake.idPool", laid_handbill_handmake_idPool), ("unicode/utf8.first", laid_unicode_utf8_first)], narrowed := true }
def ConsentAsksUptoSaid : Prop := consentAsksUptoRow.holds Tryz.pinned (OpenSpec.upto consentAsksSpec)

/-- 'handlaw2.ConsentChoices', WHERE WHAT IT READS IS OF BULK AT MOST 1048576: true; the input reads as it did. -/
def consentChoicesUptoRow : OpenClaim := { program := "ytlnklkedpknbpaagreatdoor", sum := "96a539c51fcfed31204a4973dfede50b8fea863836a9480f30e03dbf965b25e8", func := "handbill/handlaw2.ConsentChoices", spec := "consentChoices", inPlace := ["internal/abi.NoEscape", "internal/bytealg.MakeNoZero", "internal/bytealg.IndexByteString", "internal/bytealg.IndexString", "internal/bytealg.CountString"], unfollowed := true, recurses := true, named := ["handbill/handmake.idPool", "unicode/utf8.first", "unicode/utf8.acceptRanges", "internal/bytealg.MaxLen"], plainKeys := false, apart := false, laid := [("unicode/utf8.acceptRanges", laid_unicode_utf8_acceptRanges), ("handbill/handmake.idPool", laid_handbill_handmake_idPool), ("unicode/utf8.first", laid_unicode_utf8_first)], narrowed := true }
def ConsentChoicesUptoSaid : Prop := consentChoicesUptoRow.holds Tryz.pinned (OpenSpec.upto consentChoicesSpec)

/-- 'handlaw2.ConsentPersons', WHERE WHAT IT READS IS OF BULK AT MOST 1048576: true; the input reads as it did. -/
def consentPersonsUptoRow : OpenClaim := { program := "ytlnklkedpknbpaagreatdoor", sum := "96a539c51fcfed31204a4973dfede50b8fea863836a9480f30e03dbf965b25e8", func := "handbill/handlaw2.ConsentPersons", spec := "consentPersons", inPlace := ["internal/abi.NoEscape", "internal/bytealg.MakeNoZero", "internal/bytealg.IndexByteString", "internal/bytealg.IndexString", "internal/bytealg.CountString"], unfollowed := true, recurses := true, named := ["handbill/handmake.idPool", "unicode/utf8.first", "unicode/utf8.acceptRanges", "internal/bytealg.MaxLen"], plainKeys := false, apart := false, laid := [("unicode/utf8.acceptRanges", laid_unicode_utf8_acceptRanges), ("handbill/handmake.idPool", laid_handbill_handmake_idPool), ("unicode/utf8.first", laid_unicode_utf8_first)], narrowed := true }
def ConsentPersonsUptoSaid : Prop := consentPersonsUptoRow.holds Tryz.pinned (OpenSpec.upto consentPersonsSpec)

/-- 'handlaw2.ConsentAudiences', WHERE WHAT IT READS IS OF BULK AT MOST 1048576: true; the input reads as it did. -/
def consentAudiencesUptoRow : OpenClaim := { program := "ytlnklkedpknbpaagreatdoor", sum := "96a539c51fcfed31204a4973dfede50b8fea863836a9480f30e03dbf965b25e8", func := "handbill/handlaw2.ConsentAudiences", spec := "consentAudiences", inPlace := ["internal/abi.NoEscape", "internal/bytealg.MakeNoZero", "internal/bytealg.IndexByteString", "internal/bytealg.IndexString", "internal/bytealg.CountString"], unfollowed := true, recurses := true, named := ["handbill/handmake.idPool", "unicode/utf8.first", "unicode/utf8.acceptRanges", "internal/bytealg.MaxLen"], plainKeys := false, apart := false, laid := [("unicode/utf8.acceptRanges", laid_unicode_utf8_acceptRanges), ("handbill/handmake.idPool", laid_handbill_handmake_idPool), ("unicode/utf8.first", laid_unicode_utf8_first)], narrowed := true }
def ConsentAudiencesUptoSaid : Prop := consentAudiencesUptoRow.holds Tryz.pinned (OpenSpec.upto consentAudiencesSpec)

/-- 'handlaw2.ConsentChanges', WHERE WHAT IT READS IS OF BULK AT MOST 1048576: true; the input reads as it did. -/
def consentChangesUptoRow : OpenClaim := { program := "ytlnklkedpknbpaagreatdoor", sum := "96a539c51fcfed31204a4973dfede50b8fea863836a9480f30e03dbf965b25e8", func := "handbill/handlaw2.ConsentChanges", spec := "consentChanges", inPlace := ["internal/abi.NoEscape", "internal/bytealg.MakeNoZero", "internal/bytealg.IndexByteString", "internal/bytealg.IndexString", "internal/bytealg.CountString"], unfollowed := true, recurses := true, named := ["handbill/handmake.idPool", "unicode/utf8.first", "unicode/utf8.acceptRanges", "internal/bytealg.MaxLen"], plainKeys := false, apart := false, laid := [("unicode/utf8.acceptRanges", laid_unicode_utf8_acceptRanges), ("handbill/handmake.idPool", laid_handbill_handmake_idPool), ("unicode/utf8.first", laid_unicode_utf8_first)], narrowed := true }
def ConsentChangesUptoSaid : Prop := consentChangesUptoRow.holds Tryz.pinned (OpenSpec.upto consentChangesSpec)

/-- 'handlaw2.ConsentProofs', WHERE WHAT IT READS IS OF BULK AT MOST 1048576: true; the input reads as it did. -/
def consentProofsUptoRow : OpenClaim := { program := "ytlnklkedpknbpaagreatdoor", sum := "96a539c51fcfed31204a4973dfede50b8fea863836a9480f30e03dbf965b25e8", func := "handbill/handlaw2.ConsentProofs", spec := "consentProofs", inPlace := ["internal/abi.NoEscape", "internal/bytealg.MakeNoZero", "internal/bytealg.IndexByteString", "internal/bytealg.IndexString", "internal/bytealg.CountString"], unfollowed := true, recurses := true, named := ["handbill/handmake.idPool", "unicode/utf8.first", "unicode/utf8.acceptRanges", "internal/bytealg.MaxLen"], plainKeys := false, apart := false, laid := [("unicode/utf8.acceptRanges", laid_unicode_utf8_acceptRanges), ("handbill/handmake.idPool", laid_handbill_handmake_idPool), ("unicode/utf8.first", laid_unicode_utf8_first)], narrowed := true }
def ConsentProofsUptoSaid : Prop := consentProofsUptoRow.holds Tryz.pinned (OpenSpec.upto consentProofsSpec)

/-- 'handlaw2.ConsentPeriods', WHERE WHAT IT READS IS OF BULK AT MOST 1048576: true; the input reads as it did. -/
def consentPeriodsUptoRow : OpenClaim := { program := "ytlnklkedpknbpaagreatdoor", sum := "96a539c51fcfed31204a4973dfede50b8fea863836a9480f30e03dbf965b25e8", func := "handbill/handlaw2.ConsentPeriods", spec := "consentPeriods", inPlace := ["internal/abi.NoEscape", "internal/bytealg.MakeNoZero", "internal/bytealg.IndexByteString", "internal/bytealg.IndexString", "internal/bytealg.CountString"], unfollowed := true, recurses := true, named := ["handbill/handmake.idPool", "unicode/utf8.first", "unicode/utf8.acceptRanges", "internal/bytealg.MaxLen"], plainKeys := false, apart := false, laid := [("unicode/utf8.acceptRanges", laid_unicode_utf8_acceptRanges), ("handbill/handmake.idPool", laid_handbill_handmake_idPool), ("unicode/utf8.first", laid_unicode_utf8_first)], narrowed := true }
def ConsentPeriodsUptoSaid : Prop := consentPeriodsUptoRow.holds Tryz.pinned (OpenSpec.upto consentPeriodsSpec)

end Rows
end Go.Proofs.YtlnklkedpknbpaaGreatDoor
