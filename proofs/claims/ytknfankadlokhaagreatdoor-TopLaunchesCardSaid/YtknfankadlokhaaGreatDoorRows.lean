/-
  NARROWER THAN 'FOR EVERY INPUT', by the rows' own cells (each row's printed sentence says how): TopLaunches: laid · LaunchtextParses: laid · LaunchtextSmall: laid · LaunchtextRoundTrip: loops, laid.
  DERIVED. THE GIVEN ROWS OF THIS SEAT. 4 by the template 'for every input the law returns true; each argument reads behind the call as it read before'; 0 by the template 'total and deterministic' (their statements: YtknfankadlokhaaGreatDoorTotals.lean).
  GIVEN WITH THE SEED: the statements are not yours to turn. If you find one false, say at which input.
  Laid BY PROGRAM, IN A SANDBOX (cutbox-rows.mjs): the forced cells as the released guide's own fill.sh prints them over the translation ba6dea7ff8e189bc… (all of the seat's roots in one cut). By AI agents, Wed Nov 11 2026. No macro, syntax, notation, axiom, sorry.
-/
import Derived.Test.YtknfankadlokhaaGreatDoorChecked
import GoSem.PinnedTables
import GoSem.Claim
import GoSem.ClaimJoined
import GoSem.ClaimMapViews
import Derived.JoinedTies
import Derived.KernelRfl
namespace Go.Proofs.YtknfankadlokhaaGreatDoor
/- THE CELL 'sum', in the pinned program and in every row, IS THE sha256 OF THE DUMP (.gsa) THAT YtknfankadlokhaaGreatDoorProg.lean LOADS. Nothing in Lean hashes anything: it is a label: what it is worth is what the hold of that sum in a sandbox is worth. -/
noncomputable def Tryz.pinned : Pinned := { name := "ytknfankadlokhaagreatdoor", sum := "ba6dea7ff8e189bc2d4579e7bd1bb645cea79377d6f309a224745753337ded8e", checked := Tryz.checked }
namespace Rows
def none {H : Type} : Left H := { results := [], args := [] }

/- WHAT THE LISTED PACKAGE-LEVEL VARIABLES READ AS WHEN THE CALL BEGINS. Each datum BY PROGRAM (the guide's laid-datum.mjs) off the statement by which the dump's own 'gosem.cut.vars' lays the variable. In a bare row this is a premise. The card (YtknfankadlokhaaGreatDoorCards.lean) ties it to the program's text. -/
def laid_robotics_lifecycle_rules {H : Type} : DataW H := .agg [.agg [.agg [.lit (.bool true), .lit (.bool false), .lit (.bool false), .lit (.bool false)], .lit (.int .i64 2), .lit (.int .i64 1)], .agg [.agg [.lit (.bool false), .lit (.bool true), .lit (.bool false), .lit (.bool false)], .lit (.int .i64 3), .lit (.int .i64 2)], .agg [.agg [.lit (.bool false), .lit (.bool false), .lit (.bool true), .lit (.bool false)], .lit (.int .i64 2), .lit (.int .i64 1)], .agg [.agg [.lit (.bool false), .lit (.bool true), .lit (.bool false), .lit (.bool false)], .lit (.int .i64 1), .lit (.int .i64 1)], .agg [.agg [.lit (.bool true), .lit (.bool true), .lit (.bool true), .lit (.bool false)], .lit (.int .i64 4), .lit (.int .i64 4)]]
def laid_unicode_utf8_acceptRanges {H : Type} : DataW H := .agg [.agg [.lit (.int .u8 128), .lit (.int .u8 191)], .agg [.lit (.int .u8 160), .lit (.int .u8 191)], .agg [.lit (.int .u8 128), .lit (.int .u8 159)], .agg [.lit (.int .u8 144), .lit (.int .u8 191)], .agg [.lit (.int .u8 128), .lit (.int .u8 143)], .agg [.lit (.int .u8 0), .lit (.int .u8 0)], .agg [.lit (.int .u8 0), .lit (.int .u8 0)], .agg [.lit (.int .u8 0), .lit (.int .u8 0)], .agg [.lit (.int .u8 0), .lit (.int .u8 0)], .agg [.lit (.int .u8 0), .lit (.int .u8 0)], .agg [.lit (.int .u8 0), .lit (.int .u8 0)], .agg [.lit (.int .u8 0), .lit (.int .u8 0)], .agg [.lit (.int .u8 0), .lit (.int .u8 0)], .agg [.lit (.int .u8 0), .lit (.int .u8 0)], .agg [.lit (.int .u8 0), .lit (.int .u8 0)], .agg [.lit (.int .u8 0), .lit (.int .u8 0)]]
/-- One of Go's own tables, pinned by name: the form's constant. -/
def laid_unicode_utf8_first : DataW Unit := Go.Pinned.utf8First

/-- 'roboticstop.TopLaunches': WHATEVER THE INPUT: true; the input reads as it did. -/
def topLaunchesSpec : ChangeSpec := { name := "topLaunches", fn := fun _ => fun
  | [d1, d2] => { results := [.lit (.bool true)], args := [d1, d2] }
  | _ => none }
def topLaunchesRow : OpenClaim := { program := "ytknfankadlokhaagreatdoor", sum := "ba6dea7ff8e189bc2d4579e7bd1bb645cea79377d6f309a224745753337ded8e", func := "robotics/roboticstop.TopLaunches", spec := "topLaunches", inPlace := ["internal/bytealg.IndexByteString", "internal/abi.NoEscape", "internal/bytealg.IndexString", "internal/bytealg.CountString", "internal/bytealg.MakeNoZero"], unfollowed := true, recurses := true, named := ["internal/bytealg.MaxLen", "robotics/lifecycle.rules", "unicode/utf8.first", "unicode/utf8.acceptRanges"], apart := false, laid := [("robotics/lifecycle.rules", laid_robotics_lifecycle_rules), ("unicode/utf8.acceptRanges", laid_unicode_utf8_acceptRanges), ("unicode/utf8.first", laid_unicode_utf8_first)] }
def TopLaunchesSaid : Prop := topLaunchesRow.holds Tryz.pinned (OpenSpec.ofChange topLaunchesSpec)

/-- ITS FALSE NEIGHBOUR: 'it returns false'. Refute it at one input. -/
def topLaunchesWrong : ChangeSpec := { name := "topLaunches", fn := fun _ => fun
  | [d1, d2] => { results := [.lit (.bool false)], args := [d1, d2] }
  | _ => none }
def TopLaunchesWrongFalsely : Prop := topLaunchesRow.holds Tryz.pinned (OpenSpec.ofChange topLaunchesWrong)

/-- 'roboticslaw40.LaunchtextParses': WHATEVER THE INPUT: true; the input reads as it did. -/
def launchtextParsesSpec : ChangeSpec := { name := "launchtextParses", fn := fun _ => fun
  | [d] => { results := [.lit (.bool true)], args := [d] }
  | _ => none }
def launchtextParsesRow : OpenClaim := { program := "ytknfankadlokhaagreatdoor", sum := "ba6dea7ff8e189bc2d4579e7bd1bb645cea79377d6f309a224745753337ded8e", func := "robotics/roboticslaw40.LaunchtextParses", spec := "launchtextParses", inPlace := ["internal/bytealg.IndexByteString", "internal/abi.NoEscape", "internal/bytealg.CountString", "internal/bytealg.IndexString", "internal/bytealg.MakeNoZero"], unfollowed := true, recurses := true, named := ["internal/bytealg.MaxLen", "unicode/utf8.first", "unicode/utf8.acceptRanges"], apart := false, laid := [("unicode/utf8.acceptRanges", laid_unicode_utf8_acceptRanges), ("unicode/utf8.first", laid_unicode_utf8_first)] }
def LaunchtextParsesSaid : Prop := launchtextParsesRow.holds Tryz.pinned (OpenSpec.ofChange launchtextParsesSpec)

/-- ITS FALSE NEIGHBOUR: 'it returns false'. Refute it at one input. -/
def launchtextParsesWrong : ChangeSpec := { name := "launchtextParses", fn := fun _ => fun
  | [d] => { results := [.lit (.bool false)], args := [d] }
  | _ => none }
def LaunchtextParsesWrongFalsely : Prop := launchtextParsesRow.holds Tryz.pinned (OpenSpec.ofChange launchtextParsesWrong)

/-- 'roboticslaw40.LaunchtextSmall': WHATEVER THE INPUT: true; the input reads as it did. -/
def launchtextSmallSpec : ChangeSpec := { name := "launchtextSmall", fn := fun _ => fun
  | [d] => { results := [.lit (.bool true)], args := [d] }
  | _ => none }
def launchtextSmallRow : OpenClaim := { program := "ytknfankadlokhaagreatdoor", sum := "ba6dea7ff8e189bc2d4579e7bd1bb645cea79377d6f309a224745753337ded8e", func := "robotics/roboticslaw40.LaunchtextSmall", spec := "launchtextSmall", inPlace := ["internal/bytealg.IndexByteString", "internal/abi.NoEscape", "internal/bytealg.CountString", "internal/bytealg.IndexString", "internal/bytealg.MakeNoZero"], unfollowed := true, recurses := true, named := ["internal/bytealg.MaxLen", "unicode/utf8.first", "unicode/utf8.acceptRanges"], apart := false, laid := [("unicode/utf8.acceptRanges", laid_unicode_utf8_acceptRanges), ("unicode/utf8.first", laid_unicode_utf8_first)] }
def LaunchtextSmallSaid : Prop := launchtextSmallRow.holds Tryz.pinned (OpenSpec.ofChange launchtextSmallSpec)

/-- ITS FALSE NEIGHBOUR: 'it returns false'. Refute it at one input. -/
def launchtextSmallWrong : ChangeSpec := { name := "launchtextSmall", fn := fun _ => fun
  | [d] => { results := [.lit (.bool false)], args := [d] }
  | _ => none }
def LaunchtextSmallWrongFalsely : Prop := launchtextSmallRow.holds Tryz.pinned (OpenSpec.ofChange launchtextSmallWrong)

/-- 'roboticslaw40.LaunchtextRoundTrip': WHATEVER THE INPUT: true; the input reads as it did. -/
def launchtextRoundTripSpec : ChangeSpec := { name := "launchtextRoundTrip", fn := fun _ => fun
  | [d] => { results := [.lit (.bool true)], args := [d] }
  | _ => none }
def launchtextRoundTripRow : OpenClaim := { program := "ytknfankadlokhaagreatdoor", sum := "ba6dea7ff8e189bc2d4579e7bd1bb645cea79377d6f309a224745753337ded8e", func := "robotics/roboticslaw40.LaunchtextRoundTrip", spec := "launchtextRoundTrip", inPlace := ["internal/bytealg.IndexByteString", "internal/abi.NoEscape", "internal/bytealg.CountString", "internal/bytealg.IndexString", "internal/bytealg.MakeNoZero"], unfollowed := true, recurses := true, named := ["internal/bytealg.MaxLen", "unicode/utf8.first", "unicode/utf8.acceptRanges"], loops := true, apart := false, laid := [("unicode/utf8.acceptRanges", laid_unicode_utf8_acceptRanges), ("unicode/utf8.first", laid_unicode_utf8_first)] }
def LaunchtextRoundTripSaid : Prop := launchtextRoundTripRow.holds Tryz.pinned (OpenSpec.ofChange launchtextRoundTripSpec)

/-- ITS FALSE NEIGHBOUR: 'it returns false'. Refute it at one input. -/
def launchtextRoundTripWrong : ChangeSpec := { name := "launchtextRoundTrip", fn := fun _ => fun
  | [d] => { results := [.lit (.bool false)], args := [d] }
  | _ => none }
def LaunchtextRoundTripWrongFalsely : Prop := launchtextRoundTripRow.holds Tryz.pinned (OpenSpec.ofChange launchtextRoundTripWrong)

/- THE SECOND FORM. 'bulk': how many values and letters a reading holds, each counted each time it is reached (what is shared counts as often as it is met; a slice's spare places count too). A statement '..UptoSaid' is the law's where the arguments, and the package variables that the reading takes, are together of bulk at most 1048576: NARROWER than '..Said'. Prove '..Said' where nothing that the law and all that it calls make is longer than what came in: it says more and counts as full. Else prove '..UptoSaid'. A law counts once. -/
mutual
def uptoBulk {H : Type} : DataW H → Nat
  | .lit (.string bytes) => bytes.length + 1
  | .lit _ => 1
  | .nil => 1
  | .ptr d => uptoBulk d + 1
  | .slice elems spare => uptoBulkAll elems + uptoBulkAll spare + 1
  | .agg parts => uptoBulkAll parts + 1
  | .iface _ d => uptoBulk d + 1
  | .map entries => uptoBulkEntries entries + 1
  | .held _ => 1
def uptoBulkAll {H : Type} : List (DataW H) → Nat
  | [] => 0
  | d :: r => uptoBulk d + uptoBulkAll r
def uptoBulkEntries {H : Type} : List (Lit × DataW H) → Nat
  | [] => 0
  | x :: r => uptoBulkEntry x + uptoBulkEntries r
def uptoBulkEntry {H : Type} : Lit × DataW H → Nat
  | (.string bytes, d) => bytes.length + uptoBulk d + 1
  | (_, d) => uptoBulk d + 1
 end
def uptoSmall : (H : Type) → List (DataW H) → Bool := fun _ ds => decide (uptoBulkAll ds ≤ 1048576)
def OpenSpec.upto (s : _root_.Go.ChangeSpec) : _root_.Go.OpenSpec := { _root_.Go.OpenSpec.ofChange s with cond := some uptoSmall }

/-- 'roboticstop.TopLaunches', WHERE WHAT IT READS IS OF BULK AT MOST 1048576: true; the input reads as it did. -/
def topLaunchesUptoRow : OpenClaim := { program := "ytknfankadlokhaagreatdoor", sum := "ba6dea7ff8e189bc2d4579e7bd1bb645cea79377d6f309a224745753337ded8e", func := "robotics/roboticstop.TopLaunches", spec := "topLaunches", inPlace := ["internal/bytealg.IndexByteString", "internal/abi.NoEscape", "internal/bytealg.IndexString", "internal/bytealg.CountString", "internal/bytealg.MakeNoZero"], unfollowed := true, recurses := true, named := ["internal/bytealg.MaxLen", "robotics/lifecycle.rules", "unicode/utf8.first", "unicode/utf8.acceptRanges"], apart := false, laid := [("robotics/lifecycle.rules", laid_robotics_lifecycle_rules), ("unicode/utf8.acceptRanges", laid_unicode_utf8_acceptRanges), ("unicode/utf8.first", laid_unicode_utf8_first)], narrowed := true }
def TopLaunchesUptoSaid : Prop := topLaunchesUptoRow.holds Tryz.pinned (OpenSpec.upto topLaunchesSpec)

/-- 'roboticslaw40.LaunchtextParses', WHERE WHAT IT READS IS OF BULK AT MOST 1048576: true; the input reads as it did. -/
def launchtextParsesUptoRow : OpenClaim := { program := "ytknfankadlokhaagreatdoor", sum := "ba6dea7ff8e189bc2d4579e7bd1bb645cea79377d6f309a224745753337ded8e", func := "robotics/roboticslaw40.LaunchtextParses", spec := "launchtextParses", inPlace := ["internal/bytealg.IndexByteString", "internal/abi.NoEscape", "internal/bytealg.CountString", "internal/bytealg.IndexString", "internal/bytealg.MakeNoZero"], unfollowed := true, recurses := true, named := ["internal/bytealg.MaxLen", "unicode/utf8.first", "unicode/utf8.acceptRanges"], apart := false, laid := [("unicode/utf8.acceptRanges", laid_unicode_utf8_acceptRanges), ("unicode/utf8.first", laid_unicode_utf8_first)], narrowed := true }
def LaunchtextParsesUptoSaid : Prop := launchtextParsesUptoRow.holds Tryz.pinned (OpenSpec.upto launchtextParsesSpec)

/-- 'roboticslaw40.LaunchtextSmall', WHERE WHAT IT READS IS OF BULK AT MOST 1048576: true; the input reads as it did. -/
def launchtextSmallUptoRow : OpenClaim := { program := "ytknfankadlokhaagreatdoor", sum := "ba6dea7ff8e189bc2d4579e7bd1bb645cea79377d6f309a224745753337ded8e", func := "robotics/roboticslaw40.LaunchtextSmall", spec := "launchtextSmall", inPlace := ["internal/bytealg.IndexByteString", "internal/abi.NoEscape", "internal/bytealg.CountString", "internal/bytealg.IndexString", "internal/bytealg.MakeNoZero"], unfollowed := true, recurses := true, named := ["internal/bytealg.MaxLen", "unicode/utf8.first", "unicode/utf8.acceptRanges"], apart := false, laid := [("unicode/utf8.acceptRanges", laid_unicode_utf8_acceptRanges), ("unicode/utf8.first", laid_unicode_utf8_first)], narrowed := true }
def LaunchtextSmallUptoSaid : Prop := launchtextSmallUptoRow.holds Tryz.pinned (OpenSpec.upto launchtextSmallSpec)

/-- 'roboticslaw40.LaunchtextRoundTrip', WHERE WHAT IT READS IS OF BULK AT MOST 1048576: true; the input reads as it did. -/
def launchtextRoundTripUptoRow : OpenClaim := { program := "ytknfankadlokhaagreatdoor", sum := "ba6dea7ff8e189bc2d4579e7bd1bb645cea79377d6f309a224745753337ded8e", func := "robotics/roboticslaw40.LaunchtextRoundTrip", spec := "launchtextRoundTrip", inPlace := ["internal/bytealg.IndexByteString", "internal/abi.NoEscape", "internal/bytealg.CountString", "internal/bytealg.IndexString", "internal/bytealg.MakeNoZero"], unfollowed := true, recurses := true, named := ["internal/bytealg.MaxLen", "unicode/utf8.first", "unicode/utf8.acceptRanges"], loops := true, apart := false, laid := [("unicode/utf8.acceptRanges", laid_unicode_utf8_acceptRanges), ("unicode/utf8.first", laid_unicode_utf8_first)], narrowed := true }
def LaunchtextRoundTripUptoSaid : Prop := launchtextRoundTripUptoRow.holds Tryz.pinned (OpenSpec.upto launchtextRoundTripSpec)

end Rows
end Go.Proofs.YtknfankadlokhaaGreatDoor
