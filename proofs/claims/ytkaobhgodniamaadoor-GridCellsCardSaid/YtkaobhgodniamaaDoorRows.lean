/-
  NARROWER THAN 'FOR EVERY INPUT', by the rows' own cells (each row's printed sentence says how): GridRoundTrip: laid · GridParses: laid · GridCells: laid · GridSteps: laid · GridPositions: laid.
  DERIVED. THE GIVEN ROWS OF THIS SEAT. 5 by the template 'for every input the law returns true; each argument reads behind the call as it read before'; 0 by the template 'total and deterministic' (their statements: YtkaobhgodniamaaDoorTotals.lean).
  GIVEN WITH THE SEED: the statements are not yours to turn. If you find one false, say at which input.
  Laid BY PROGRAM, IN A SANDBOX (cutbox-rows.mjs): the forced cells as the released guide's own fill.sh prints them over the translation 167081f25610e781… (all of the seat's roots in one cut). By AI agents, Wed Nov 11 2026. No macro, syntax, notation, axiom, sorry.
-/
import Derived.Test.YtkaobhgodniamaaDoorChecked
import GoSem.PinnedTables
import GoSem.Claim
import GoSem.ClaimJoined
import GoSem.ClaimMapViews
import Derived.JoinedTies
import Derived.KernelRfl
namespace Go.Proofs.YtkaobhgodniamaaDoor
/- THE CELL 'sum', in the pinned program and in every row, IS THE sha256 OF THE DUMP (.gsa) THAT YtkaobhgodniamaaDoorProg.lean LOADS. Nothing in Lean hashes anything: it is a label: what it is worth is what the hold of that sum in a sandbox is worth. -/
noncomputable def Tryd.pinned : Pinned := { name := "ytkaobhgodniamaadoor", sum := "167081f25610e781ff58ee2de878facf3205373fe6d9413fbf77d7bab5c450de", checked := Tryd.checked }
namespace Rows
def none {H : Type} : Left H := { results := [], args := [] }

/- WHAT THE LISTED PACKAGE-LEVEL VARIABLES READ AS WHEN THE CALL BEGINS. Each datum BY PROGRAM (the guide's laid-datum.mjs) off the statement by which the dump's own 'gosem.cut.vars' lays the variable. In a bare row this is a premise. The card (YtkaobhgodniamaaDoorCards.lean) ties it to the program's text. -/
def laid_unicode_utf8_acceptRanges {H : Type} : DataW H := .agg [.agg [.lit (.int .u8 128), .lit (.int .u8 191)], .agg [.lit (.int .u8 160), .lit (.int .u8 191)], .agg [.lit (.int .u8 128), .lit (.int .u8 159)], .agg [.lit (.int .u8 144), .lit (.int .u8 191)], .agg [.lit (.int .u8 128), .lit (.int .u8 143)], .agg [.lit (.int .u8 0), .lit (.int .u8 0)], .agg [.lit (.int .u8 0), .lit (.int .u8 0)], .agg [.lit (.int .u8 0), .lit (.int .u8 0)], .agg [.lit (.int .u8 0), .lit (.int .u8 0)], .agg [.lit (.int .u8 0), .lit (.int .u8 0)], .agg [.lit (.int .u8 0), .lit (.int .u8 0)], .agg [.lit (.int .u8 0), .lit (.int .u8 0)], .agg [.lit (.int .u8 0), .lit (.int .u8 0)], .agg [.lit (.int .u8 0), .lit (.int .u8 0)], .agg [.lit (.int .u8 0), .lit (.int .u8 0)], .agg [.lit (.int .u8 0), .lit (.int .u8 0)]]
def laid_robotics_grid_steps {H : Type} : DataW H := .agg [.agg [.lit (.int .i64 1), .lit (.int .i64 0)], .agg [.lit (.int .i64 1), .lit (.int .i64 1)], .agg [.lit (.int .i64 0), .lit (.int .i64 1)], .agg [.lit (.int .i64 (-1)), .lit (.int .i64 1)], .agg [.lit (.int .i64 (-1)), .lit (.int .i64 0)], .agg [.lit (.int .i64 (-1)), .lit (.int .i64 (-1))], .agg [.lit (.int .i64 0), .lit (.int .i64 (-1))], .agg [.lit (.int .i64 1), .lit (.int .i64 (-1))]]
/-- One of Go's own tables, pinned by name: the form's constant. -/
def laid_unicode_utf8_first : DataW Unit := Go.Pinned.utf8First

/-- 'roboticslaw43.GridRoundTrip': WHATEVER THE INPUT: true; the input reads as it did. -/
def gridRoundTripSpec : ChangeSpec := { name := "gridRoundTrip", fn := fun _ => fun
  | [d] => { results := [.lit (.bool true)], args := [d] }
  | _ => none }
def gridRoundTripRow : OpenClaim := { program := "ytkaobhgodniamaadoor", sum := "167081f25610e781ff58ee2de878facf3205373fe6d9413fbf77d7bab5c450de", func := "robotics/roboticslaw43.GridRoundTrip", spec := "gridRoundTrip", inPlace := ["internal/abi.NoEscape", "internal/bytealg.IndexByteString", "internal/bytealg.IndexString", "internal/bytealg.CountString", "internal/bytealg.MakeNoZero"], named := ["robotics/grid.steps", "internal/bytealg.MaxLen", "unicode/utf8.first", "unicode/utf8.acceptRanges"], apart := false, laid := [("unicode/utf8.acceptRanges", laid_unicode_utf8_acceptRanges), ("robotics/grid.steps", laid_robotics_grid_steps), ("unicode/utf8.first", laid_unicode_utf8_first)] }
def GridRoundTripSaid : Prop := gridRoundTripRow.holds Tryd.pinned (OpenSpec.ofChange gridRoundTripSpec)

/-- ITS FALSE NEIGHBOUR: 'it returns false'. Refute it at one input. -/
def gridRoundTripWrong : ChangeSpec := { name := "gridRoundTrip", fn := fun _ => fun
  | [d] => { results := [.lit (.bool false)], args := [d] }
  | _ => none }
def GridRoundTripWrongFalsely : Prop := gridRoundTripRow.holds Tryd.pinned (OpenSpec.ofChange gridRoundTripWrong)

/-- 'roboticslaw43.GridParses': WHATEVER THE INPUT: true; the input reads as it did. -/
def gridParsesSpec : ChangeSpec := { name := "gridParses", fn := fun _ => fun
  | [d] => { results := [.lit (.bool true)], args := [d] }
  | _ => none }
def gridParsesRow : OpenClaim := { program := "ytkaobhgodniamaadoor", sum := "167081f25610e781ff58ee2de878facf3205373fe6d9413fbf77d7bab5c450de", func := "robotics/roboticslaw43.GridParses", spec := "gridParses", inPlace := ["internal/bytealg.IndexByteString", "internal/bytealg.IndexString", "internal/bytealg.CountString", "internal/abi.NoEscape", "internal/bytealg.MakeNoZero"], named := ["internal/bytealg.MaxLen", "unicode/utf8.first", "unicode/utf8.acceptRanges", "robotics/grid.steps"], apart := false, laid := [("unicode/utf8.acceptRanges", laid_unicode_utf8_acceptRanges), ("robotics/grid.steps", laid_robotics_grid_steps), ("unicode/utf8.first", laid_unicode_utf8_first)] }
def GridParsesSaid : Prop := gridParsesRow.holds Tryd.pinned (OpenSpec.ofChange gridParsesSpec)

/-- ITS FALSE NEIGHBOUR: 'it returns false'. Refute it at one input. -/
def gridParsesWrong : ChangeSpec := { name := "gridParses", fn := fun _ => fun
  | [d] => { results := [.lit (.bool false)], args := [d] }
  | _ => none }
def GridParsesWrongFalsely : Prop := gridParsesRow.holds Tryd.pinned (OpenSpec.ofChange gridParsesWrong)

/-- 'roboticslaw43.GridCells': WHATEVER THE INPUT: true; the input reads as it did. -/
def gridCellsSpec : ChangeSpec := { name := "gridCells", fn := fun _ => fun
  | [d1, d2, d3, d4] => { results := [.lit (.bool true)], args := [d1, d2, d3, d4] }
  | _ => none }
def gridCellsRow : OpenClaim := { program := "ytkaobhgodniamaadoor", sum := "167081f25610e781ff58ee2de878facf3205373fe6d9413fbf77d7bab5c450de", func := "robotics/roboticslaw43.GridCells", spec := "gridCells", inPlace := ["internal/bytealg.IndexByteString", "internal/bytealg.IndexString", "internal/bytealg.CountString", "internal/abi.NoEscape", "internal/bytealg.MakeNoZero"], named := ["robotics/grid.steps", "internal/bytealg.MaxLen", "unicode/utf8.first", "unicode/utf8.acceptRanges"], apart := false, laid := [("unicode/utf8.acceptRanges", laid_unicode_utf8_acceptRanges), ("robotics/grid.steps", laid_robotics_grid_steps), ("unicode/utf8.first", laid_unicode_utf8_first)] }
def GridCellsSaid : Prop := gridCellsRow.holds Tryd.pinned (OpenSpec.ofChange gridCellsSpec)

/-- ITS FALSE NEIGHBOUR: 'it returns false'. Refute it at one input. -/
def gridCellsWrong : ChangeSpec := { name := "gridCells", fn := fun _ => fun
  | [d1, d2, d3, d4] => { results := [.lit (.bool false)], args := [d1, d2, d3, d4] }
  | _ => none }
def GridCellsWrongFalsely : Prop := gridCellsRow.holds Tryd.pinned (OpenSpec.ofChange gridCellsWrong)

/-- 'roboticslaw43.GridSteps': WHATEVER THE INPUT: true; the input reads as it did. -/
def gridStepsSpec : ChangeSpec := { name := "gridSteps", fn := fun _ => fun
  | [d1, d2, d3] => { results := [.lit (.bool true)], args := [d1, d2, d3] }
  | _ => none }
def gridStepsRow : OpenClaim := { program := "ytkaobhgodniamaadoor", sum := "167081f25610e781ff58ee2de878facf3205373fe6d9413fbf77d7bab5c450de", func := "robotics/roboticslaw43.GridSteps", spec := "gridSteps", inPlace := ["internal/bytealg.IndexByteString", "internal/bytealg.IndexString", "internal/bytealg.CountString", "internal/abi.NoEscape", "internal/bytealg.MakeNoZero"], named := ["robotics/grid.steps", "internal/bytealg.MaxLen", "unicode/utf8.first", "unicode/utf8.acceptRanges"], apart := false, laid := [("unicode/utf8.acceptRanges", laid_unicode_utf8_acceptRanges), ("robotics/grid.steps", laid_robotics_grid_steps), ("unicode/utf8.first", laid_unicode_utf8_first)] }
def GridStepsSaid : Prop := gridStepsRow.holds Tryd.pinned (OpenSpec.ofChange gridStepsSpec)

/-- ITS FALSE NEIGHBOUR: 'it returns false'. Refute it at one input. -/
def gridStepsWrong : ChangeSpec := { name := "gridSteps", fn := fun _ => fun
  | [d1, d2, d3] => { results := [.lit (.bool false)], args := [d1, d2, d3] }
  | _ => none }
def GridStepsWrongFalsely : Prop := gridStepsRow.holds Tryd.pinned (OpenSpec.ofChange gridStepsWrong)

/-- 'roboticslaw43.GridPositions': WHATEVER THE INPUT: true; the input reads as it did. -/
def gridPositionsSpec : ChangeSpec := { name := "gridPositions", fn := fun _ => fun
  | [d1, d2] => { results := [.lit (.bool true)], args := [d1, d2] }
  | _ => none }
def gridPositionsRow : OpenClaim := { program := "ytkaobhgodniamaadoor", sum := "167081f25610e781ff58ee2de878facf3205373fe6d9413fbf77d7bab5c450de", func := "robotics/roboticslaw43.GridPositions", spec := "gridPositions", inPlace := ["internal/bytealg.IndexByteString", "internal/bytealg.IndexString", "internal/bytealg.CountString", "internal/abi.NoEscape", "internal/bytealg.MakeNoZero"], named := ["robotics/grid.steps", "internal/bytealg.MaxLen", "unicode/utf8.first", "unicode/utf8.acceptRanges"], apart := false, laid := [("unicode/utf8.acceptRanges", laid_unicode_utf8_acceptRanges), ("robotics/grid.steps", laid_robotics_grid_steps), ("unicode/utf8.first", laid_unicode_utf8_first)] }
def GridPositionsSaid : Prop := gridPositionsRow.holds Tryd.pinned (OpenSpec.ofChange gridPositionsSpec)

/-- ITS FALSE NEIGHBOUR: 'it returns false'. Refute it at one input. -/
def gridPositionsWrong : ChangeSpec := { name := "gridPositions", fn := fun _ => fun
  | [d1, d2] => { results := [.lit (.bool false)], args := [d1, d2] }
  | _ => none }
def GridPositionsWrongFalsely : Prop := gridPositionsRow.holds Tryd.pinned (OpenSpec.ofChange gridPositionsWrong)

/- THE SECOND FORM. 'bulk': how many values and letters a reading holds, each counted each time it is reached (what is shared counts as often as it is met; a slice's spare places count too). A statement '..UptoSaid' is the law's where the arguments, and the package variables that the reading takes, are together of bulk at most 1048576: NARROWER than '..Said'. Prove '..Said' where nothing that the law and all that it calls make is longer than what came in: it says more and counts as full. Else prove '..UptoSaid'. A law counts once. -/
mutual
def uptoBulk {H : Type} : DataW H → Nat
  | .lit (.string bytes) => bytes.length + 1
  | .lit _ => 1
  | .nil => 1
  | .ptr d => uptoBulk d + 1
  | .slice elems spare => uptoBulkAll elems + uptoBulkAll spare + 1
  | .agg parts => uptoBulkAll parts + 1
  | .iface _ d => uptoBulk d + 1
  | .map entries => uptoBulkEntries entries + 1
  | .held _ => 1
def uptoBulkAll {H : Type} : List (DataW H) → Nat
  | [] => 0
  | d :: r => uptoBulk d + uptoBulkAll r
def uptoBulkEntries {H : Type} : List (Lit × DataW H) → Nat
  | [] => 0
  | x :: r => uptoBulkEntry x + uptoBulkEntries r
def uptoBulkEntry {H : Type} : Lit × DataW H → Nat
  | (.string bytes, d) => bytes.length + uptoBulk d + 1
  | (_, d) => uptoBulk d + 1
 end
def uptoSmall : (H : Type) → List (DataW H) → Bool := fun _ ds => decide (uptoBulkAll ds ≤ 1048576)
def OpenSpec.upto (s : _root_.Go.ChangeSpec) : _root_.Go.OpenSpec := { _root_.Go.OpenSpec.ofChange s with cond := some uptoSmall }

/-- 'roboticslaw43.GridRoundTrip', WHERE WHAT IT READS IS OF BULK AT MOST 1048576: true; the input reads as it did. -/
def gridRoundTripUptoRow : OpenClaim := { program := "ytkaobhgodniamaadoor", sum := "167081f25610e781ff58ee2de878facf3205373fe6d9413fbf77d7bab5c450de", func := "robotics/roboticslaw43.GridRoundTrip", spec := "gridRoundTrip", inPlace := ["internal/abi.NoEscape", "internal/bytealg.IndexByteString", "internal/bytealg.IndexString", "internal/bytealg.CountString", "internal/bytealg.MakeNoZero"], named := ["robotics/grid.steps", "internal/bytealg.MaxLen", "unicode/utf8.first", "unicode/utf8.acceptRanges"], apart := false, laid := [("unicode/utf8.acceptRanges", laid_unicode_utf8_acceptRanges), ("robotics/grid.steps", laid_robotics_grid_steps), ("unicode/utf8.first", laid_unicode_utf8_first)], narrowed := true }
def GridRoundTripUptoSaid : Prop := gridRoundTripUptoRow.holds Tryd.pinned (OpenSpec.upto gridRoundTripSpec)

/-- 'roboticslaw43.GridParses', WHERE WHAT IT READS IS OF BULK AT MOST 1048576: true; the input reads as it did. -/
def gridParsesUptoRow : OpenClaim := { program := "ytkaobhgodniamaadoor", sum := "167081f25610e781ff58ee2de878facf3205373fe6d9413fbf77d7bab5c450de", func := "robotics/roboticslaw43.GridParses", spec := "gridParses", inPlace := ["internal/bytealg.IndexByteString", "internal/bytealg.IndexString", "internal/bytealg.CountString", "internal/abi.NoEscape", "internal/bytealg.MakeNoZero"], named := ["internal/bytealg.MaxLen", "unicode/utf8.first", "unicode/utf8.acceptRanges", "robotics/grid.steps"], apart := false, laid := [("unicode/utf8.acceptRanges", laid_unicode_utf8_acceptRanges), ("robotics/grid.steps", laid_robotics_grid_steps), ("unicode/utf8.first", laid_unicode_utf8_first)], narrowed := true }
def GridParsesUptoSaid : Prop := gridParsesUptoRow.holds Tryd.pinned (OpenSpec.upto gridParsesSpec)

/-- 'roboticslaw43.GridCells', WHERE WHAT IT READS IS OF BULK AT MOST 1048576: true; the input reads as it did. -/
def gridCellsUptoRow : OpenClaim := { program := "ytkaobhgodniamaadoor", sum := "167081f25610e781ff58ee2de878facf3205373fe6d9413fbf77d7bab5c450de", func := "robotics/roboticslaw43.GridCells", spec := "gridCells", inPlace := ["internal/bytealg.IndexByteString", "internal/bytealg.IndexString", "internal/bytealg.CountString", "internal/abi.NoEscape", "internal/bytealg.MakeNoZero"], named := ["robotics/grid.steps", "internal/bytealg.MaxLen", "unicode/utf8.first", "unicode/utf8.acceptRanges"], apart := false, laid := [("unicode/utf8.acceptRanges", laid_unicode_utf8_acceptRanges), ("robotics/grid.steps", laid_robotics_grid_steps), ("unicode/utf8.first", laid_unicode_utf8_first)], narrowed := true }
def GridCellsUptoSaid : Prop := gridCellsUptoRow.holds Tryd.pinned (OpenSpec.upto gridCellsSpec)

/-- 'roboticslaw43.GridSteps', WHERE WHAT IT READS IS OF BULK AT MOST 1048576: true; the input reads as it did. -/
def gridStepsUptoRow : OpenClaim := { program := "ytkaobhgodniamaadoor", sum := "167081f25610e781ff58ee2de878facf3205373fe6d9413fbf77d7bab5c450de", func := "robotics/roboticslaw43.GridSteps", spec := "gridSteps", inPlace := ["internal/bytealg.IndexByteString", "internal/bytealg.IndexString", "internal/bytealg.CountString", "internal/abi.NoEscape", "internal/bytealg.MakeNoZero"], named := ["robotics/grid.steps", "internal/bytealg.MaxLen", "unicode/utf8.first", "unicode/utf8.acceptRanges"], apart := false, laid := [("unicode/utf8.acceptRanges", laid_unicode_utf8_acceptRanges), ("robotics/grid.steps", laid_robotics_grid_steps), ("unicode/utf8.first", laid_unicode_utf8_first)], narrowed := true }
def GridStepsUptoSaid : Prop := gridStepsUptoRow.holds Tryd.pinned (OpenSpec.upto gridStepsSpec)

/-- 'roboticslaw43.GridPositions', WHERE WHAT IT READS IS OF BULK AT MOST 1048576: true; the input reads as it did. -/
def gridPositionsUptoRow : OpenClaim := { program := "ytkaobhgodniamaadoor", sum := "167081f25610e781ff58ee2de878facf3205373fe6d9413fbf77d7bab5c450de", func := "robotics/roboticslaw43.GridPositions", spec := "gridPositions", inPlace := ["internal/bytealg.IndexByteString", "internal/bytealg.IndexString", "internal/bytealg.CountString", "internal/abi.NoEscape", "internal/bytealg.MakeNoZero"], named := ["robotics/grid.steps", "internal/bytealg.MaxLen", "unicode/utf8.first", "unicode/utf8.acceptRanges"], apart := false, laid := [("unicode/utf8.acceptRanges", laid_unicode_utf8_acceptRanges), ("robotics/grid.steps", laid_robotics_grid_steps), ("unicode/utf8.first", laid_unicode_utf8_first)], narrowed := true }
def GridPositionsUptoSaid : Prop := gridPositionsUptoRow.holds Tryd.pinned (OpenSpec.upto gridPositionsSpec)

end Rows
end Go.Proofs.YtkaobhgodniamaaDoor
