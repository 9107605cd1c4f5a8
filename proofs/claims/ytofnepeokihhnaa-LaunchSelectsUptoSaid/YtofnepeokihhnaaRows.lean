/-
  NARROWER THAN 'FOR EVERY INPUT', by the rows' own cells (each row's printed sentence says how): LaunchHolds: loops · LaunchFirst: loops · LaunchSelects: loops · LaunchDepends: loops · LaunchOrders: loops · LaunchChecks: loops.
  DERIVED. THE GIVEN ROWS OF THIS SEAT. 7 by the template 'for every input the law returns true; each argument reads behind the call as it read before'; 0 by the template 'total and deterministic' (their statements: YtofnepeokihhnaaTotals.lean).
  GIVEN WITH THE SEED: the statements are not yours to turn. If you find one false, say at which input.
  Laid BY PROGRAM, IN A SANDBOX (cutbox-rows.mjs): the forced cells as the released guide's own fill.sh prints them over the translation 697d3f31f3b5a04b… (all of the seat's roots in one cut). By AI agents, Wed Nov 11 2026. No macro, syntax, notation, axiom, sorry.
-/
import Derived.Test.YtofnepeokihhnaaChecked
import GoSem.Claim
import GoSem.ClaimJoined
import GoSem.ClaimMapViews
import Derived.JoinedTies
import Derived.KernelRfl
namespace Go.Proofs.Ytofnepeokihhnaa
/- THE CELL 'sum', in the pinned program and in every row, IS THE sha256 OF THE DUMP (.gsa) THAT YtofnepeokihhnaaProg.lean LOADS. Nothing in Lean hashes anything: it is a label: what it is worth is what the hold of that sum in a sandbox is worth. -/
noncomputable def Try.pinned : Pinned := { name := "ytofnepeokihhnaa", sum := "697d3f31f3b5a04bc8ef58035fd912b1f18bb96d230bcec1f827b2856ad585cb", checked := Try.checked }
namespace Rows
def none {H : Type} : Left H := { results := [], args := [] }

/-- 'roboticslaw39.LaunchHolds': WHATEVER THE INPUT: true; the input reads as it did. -/
def launchHoldsSpec : ChangeSpec := { name := "launchHolds", fn := fun _ => fun
  | [d1, d2, d3] => { results := [.lit (.bool true)], args := [d1, d2, d3] }
  | _ => none }
def launchHoldsRow : OpenClaim := { program := "ytofnepeokihhnaa", sum := "697d3f31f3b5a04bc8ef58035fd912b1f18bb96d230bcec1f827b2856ad585cb", func := "robotics/roboticslaw39.LaunchHolds", spec := "launchHolds", inPlace := ["internal/bytealg.IndexByteString", "internal/bytealg.IndexString", "internal/abi.NoEscape"], unfollowed := true, recurses := true, named := ["internal/bytealg.MaxLen"], loops := true, apart := false }
def LaunchHoldsSaid : Prop := launchHoldsRow.holds Try.pinned (OpenSpec.ofChange launchHoldsSpec)

/-- ITS FALSE NEIGHBOUR: 'it returns false'. Refute it at one input. -/
def launchHoldsWrong : ChangeSpec := { name := "launchHolds", fn := fun _ => fun
  | [d1, d2, d3] => { results := [.lit (.bool false)], args := [d1, d2, d3] }
  | _ => none }
def LaunchHoldsWrongFalsely : Prop := launchHoldsRow.holds Try.pinned (OpenSpec.ofChange launchHoldsWrong)

/-- 'roboticslaw39.LaunchSubstitutes': WHATEVER THE INPUT: true; the input reads as it did. -/
def launchSubstitutesSpec : ChangeSpec := { name := "launchSubstitutes", fn := fun _ => fun
  | [d1, d2] => { results := [.lit (.bool true)], args := [d1, d2] }
  | _ => none }
def launchSubstitutesRow : OpenClaim := { program := "ytofnepeokihhnaa", sum := "697d3f31f3b5a04bc8ef58035fd912b1f18bb96d230bcec1f827b2856ad585cb", func := "robotics/roboticslaw39.LaunchSubstitutes", spec := "launchSubstitutes", inPlace := ["internal/bytealg.IndexByteString", "internal/bytealg.IndexString", "internal/abi.NoEscape"], unfollowed := true, recurses := true, named := ["internal/bytealg.MaxLen"], apart := false }
def LaunchSubstitutesSaid : Prop := launchSubstitutesRow.holds Try.pinned (OpenSpec.ofChange launchSubstitutesSpec)

/-- ITS FALSE NEIGHBOUR: 'it returns false'. Refute it at one input. -/
def launchSubstitutesWrong : ChangeSpec := { name := "launchSubstitutes", fn := fun _ => fun
  | [d1, d2] => { results := [.lit (.bool false)], args := [d1, d2] }
  | _ => none }
def LaunchSubstitutesWrongFalsely : Prop := launchSubstitutesRow.holds Try.pinned (OpenSpec.ofChange launchSubstitutesWrong)

/-- 'roboticslaw39.LaunchFirst': WHATEVER THE INPUT: true; the input reads as it did. -/
def launchFirstSpec : ChangeSpec := { name := "launchFirst", fn := fun _ => fun
  | [d1, d2] => { results := [.lit (.bool true)], args := [d1, d2] }
  | _ => none }
def launchFirstRow : OpenClaim := { program := "ytofnepeokihhnaa", sum := "697d3f31f3b5a04bc8ef58035fd912b1f18bb96d230bcec1f827b2856ad585cb", func := "robotics/roboticslaw39.LaunchFirst", spec := "launchFirst", inPlace := ["internal/bytealg.IndexByteString", "internal/bytealg.IndexString", "internal/abi.NoEscape"], unfollowed := true, recurses := true, named := ["internal/bytealg.MaxLen"], loops := true, apart := false }
def LaunchFirstSaid : Prop := launchFirstRow.holds Try.pinned (OpenSpec.ofChange launchFirstSpec)

/-- ITS FALSE NEIGHBOUR: 'it returns false'. Refute it at one input. -/
def launchFirstWrong : ChangeSpec := { name := "launchFirst", fn := fun _ => fun
  | [d1, d2] => { results := [.lit (.bool false)], args := [d1, d2] }
  | _ => none }
def LaunchFirstWrongFalsely : Prop := launchFirstRow.holds Try.pinned (OpenSpec.ofChange launchFirstWrong)

/-- 'roboticslaw39.LaunchSelects': WHATEVER THE INPUT: true; the input reads as it did. -/
def launchSelectsSpec : ChangeSpec := { name := "launchSelects", fn := fun _ => fun
  | [d1, d2] => { results := [.lit (.bool true)], args := [d1, d2] }
  | _ => none }
def launchSelectsRow : OpenClaim := { program := "ytofnepeokihhnaa", sum := "697d3f31f3b5a04bc8ef58035fd912b1f18bb96d230bcec1f827b2856ad585cb", func := "robotics/roboticslaw39.LaunchSelects", spec := "launchSelects", inPlace := ["internal/bytealg.IndexByteString", "internal/bytealg.IndexString", "internal/abi.NoEscape"], unfollowed := true, recurses := true, named := ["internal/bytealg.MaxLen"], loops := true, apart := false }
def LaunchSelectsSaid : Prop := launchSelectsRow.holds Try.pinned (OpenSpec.ofChange launchSelectsSpec)

/-- ITS FALSE NEIGHBOUR: 'it returns false'. Refute it at one input. -/
def launchSelectsWrong : ChangeSpec := { name := "launchSelects", fn := fun _ => fun
  | [d1, d2] => { results := [.lit (.bool false)], args := [d1, d2] }
  | _ => none }
def LaunchSelectsWrongFalsely : Prop := launchSelectsRow.holds Try.pinned (OpenSpec.ofChange launchSelectsWrong)

/-- 'roboticslaw39.LaunchDepends': WHATEVER THE INPUT: true; the input reads as it did. -/
def launchDependsSpec : ChangeSpec := { name := "launchDepends", fn := fun _ => fun
  | [d1, d2, d3, d4] => { results := [.lit (.bool true)], args := [d1, d2, d3, d4] }
  | _ => none }
def launchDependsRow : OpenClaim := { program := "ytofnepeokihhnaa", sum := "697d3f31f3b5a04bc8ef58035fd912b1f18bb96d230bcec1f827b2856ad585cb", func := "robotics/roboticslaw39.LaunchDepends", spec := "launchDepends", inPlace := ["internal/bytealg.IndexByteString", "internal/bytealg.IndexString", "internal/abi.NoEscape"], unfollowed := true, recurses := true, named := ["internal/bytealg.MaxLen"], loops := true, apart := false }
def LaunchDependsSaid : Prop := launchDependsRow.holds Try.pinned (OpenSpec.ofChange launchDependsSpec)

/-- ITS FALSE NEIGHBOUR: 'it returns false'. Refute it at one input. -/
def launchDependsWrong : ChangeSpec := { name := "launchDepends", fn := fun _ => fun
  | [d1, d2, d3, d4] => { results := [.lit (.bool false)], args := [d1, d2, d3, d4] }
  | _ => none }
def LaunchDependsWrongFalsely : Prop := launchDependsRow.holds Try.pinned (OpenSpec.ofChange launchDependsWrong)

/-- 'roboticslaw39.LaunchOrders': WHATEVER THE INPUT: true; the input reads as it did. -/
def launchOrdersSpec : ChangeSpec := { name := "launchOrders", fn := fun _ => fun
  | [d] => { results := [.lit (.bool true)], args := [d] }
  | _ => none }
def launchOrdersRow : OpenClaim := { program := "ytofnepeokihhnaa", sum := "697d3f31f3b5a04bc8ef58035fd912b1f18bb96d230bcec1f827b2856ad585cb", func := "robotics/roboticslaw39.LaunchOrders", spec := "launchOrders", inPlace := ["internal/bytealg.IndexByteString", "internal/bytealg.IndexString", "internal/abi.NoEscape"], unfollowed := true, recurses := true, named := ["internal/bytealg.MaxLen"], loops := true, apart := false }
def LaunchOrdersSaid : Prop := launchOrdersRow.holds Try.pinned (OpenSpec.ofChange launchOrdersSpec)

/-- ITS FALSE NEIGHBOUR: 'it returns false'. Refute it at one input. -/
def launchOrdersWrong : ChangeSpec := { name := "launchOrders", fn := fun _ => fun
  | [d] => { results := [.lit (.bool false)], args := [d] }
  | _ => none }
def LaunchOrdersWrongFalsely : Prop := launchOrdersRow.holds Try.pinned (OpenSpec.ofChange launchOrdersWrong)

/-- 'roboticslaw39.LaunchChecks': WHATEVER THE INPUT: true; the input reads as it did. -/
def launchChecksSpec : ChangeSpec := { name := "launchChecks", fn := fun _ => fun
  | [d1, d2, d3] => { results := [.lit (.bool true)], args := [d1, d2, d3] }
  | _ => none }
def launchChecksRow : OpenClaim := { program := "ytofnepeokihhnaa", sum := "697d3f31f3b5a04bc8ef58035fd912b1f18bb96d230bcec1f827b2856ad585cb", func := "robotics/roboticslaw39.LaunchChecks", spec := "launchChecks", inPlace := ["internal/bytealg.IndexByteString", "internal/bytealg.IndexString", "internal/abi.NoEscape"], unfollowed := true, recurses := true, named := ["internal/bytealg.MaxLen"], loops := true, apart := false }
def LaunchChecksSaid : Prop := launchChecksRow.holds Try.pinned (OpenSpec.ofChange launchChecksSpec)

/-- ITS FALSE NEIGHBOUR: 'it returns false'. Refute it at one input. -/
def launchChecksWrong : ChangeSpec := { name := "launchChecks", fn := fun _ => fun
  | [d1, d2, d3] => { results := [.lit (.bool false)], args := [d1, d2, d3] }
  | _ => none }
def LaunchChecksWrongFalsely : Prop := launchChecksRow.holds Try.pinned (OpenSpec.ofChange launchChecksWrong)

/- THE SECOND FORM. 'bulk': how many values and letters a reading holds, each counted each time it is reached (what is shared counts as often as it is met; a slice's spare places count too). A statement '..UptoSaid' is the law's where the arguments, and the package variables that the reading takes, are together of bulk at most 1048576: NARROWER than '..Said'. Prove '..Said' where nothing that the law and all that it calls make is longer than what came in: it says more and counts as full. Else prove '..UptoSaid'. A law counts once. -/
mutual
def uptoBulk {H : Type} : DataW H → Nat
  | .lit (.string bytes) => bytes.length + 1
  | .lit _ => 1
  | .nil => 1
  | .ptr d => uptoBulk d + 1
  | .slice elems spare => uptoBulkAll elems + uptoBulkAll spare + 1
  | .agg parts => uptoBulkAll parts + 1
  | .iface _ d => uptoBulk d + 1
  | .map entries => uptoBulkEntries entries + 1
  | .held _ => 1
def uptoBulkAll {H : Type} : List (DataW H) → Nat
  | [] => 0
  | d :: r => uptoBulk d + uptoBulkAll r
def uptoBulkEntries {H : Type} : List (Lit × DataW H) → Nat
  | [] => 0
  | x :: r => uptoBulkEntry x + uptoBulkEntries r
def uptoBulkEntry {H : Type} : Lit × DataW H → Nat
  | (.string bytes, d) => bytes.length + uptoBulk d + 1
  | (_, d) => uptoBulk d + 1
 end
def uptoSmall : (H : Type) → List (DataW H) → Bool := fun _ ds => decide (uptoBulkAll ds ≤ 1048576)
def OpenSpec.upto (s : _root_.Go.ChangeSpec) : _root_.Go.OpenSpec := { _root_.Go.OpenSpec.ofChange s with cond := some uptoSmall }

/-- 'roboticslaw39.LaunchHolds', WHERE WHAT IT READS IS OF BULK AT MOST 1048576: true; the input reads as it did. -/
def launchHoldsUptoRow : OpenClaim := { program := "ytofnepeokihhnaa", sum := "697d3f31f3b5a04bc8ef58035fd912b1f18bb96d230bcec1f827b2856ad585cb", func := "robotics/roboticslaw39.LaunchHolds", spec := "launchHolds", inPlace := ["internal/bytealg.IndexByteString", "internal/bytealg.IndexString", "internal/abi.NoEscape"], unfollowed := true, recurses := true, named := ["internal/bytealg.MaxLen"], loops := true, apart := false, narrowed := true }
def LaunchHoldsUptoSaid : Prop := launchHoldsUptoRow.holds Try.pinned (OpenSpec.upto launchHoldsSpec)

/-- 'roboticslaw39.LaunchSubstitutes', WHERE WHAT IT READS IS OF BULK AT MOST 1048576: true; the input reads as it did. -/
def launchSubstitutesUptoRow : OpenClaim := { program := "ytofnepeokihhnaa", sum := "697d3f31f3b5a04bc8ef58035fd912b1f18bb96d230bcec1f827b2856ad585cb", func := "robotics/roboticslaw39.LaunchSubstitutes", spec := "launchSubstitutes", inPlace := ["internal/bytealg.IndexByteString", "internal/bytealg.IndexString", "internal/abi.NoEscape"], unfollowed := true, recurses := true, named := ["internal/bytealg.MaxLen"], apart := false, narrowed := true }
def LaunchSubstitutesUptoSaid : Prop := launchSubstitutesUptoRow.holds Try.pinned (OpenSpec.upto launchSubstitutesSpec)

/-- 'roboticslaw39.LaunchFirst', WHERE WHAT IT READS IS OF BULK AT MOST 1048576: true; the input reads as it did. -/
def launchFirstUptoRow : OpenClaim := { program := "ytofnepeokihhnaa", sum := "697d3f31f3b5a04bc8ef58035fd912b1f18bb96d230bcec1f827b2856ad585cb", func := "robotics/roboticslaw39.LaunchFirst", spec := "launchFirst", inPlace := ["internal/bytealg.IndexByteString", "internal/bytealg.IndexString", "internal/abi.NoEscape"], unfollowed := true, recurses := true, named := ["internal/bytealg.MaxLen"], loops := true, apart := false, narrowed := true }
def LaunchFirstUptoSaid : Prop := launchFirstUptoRow.holds Try.pinned (OpenSpec.upto launchFirstSpec)

/-- 'roboticslaw39.LaunchSelects', WHERE WHAT IT READS IS OF BULK AT MOST 1048576: true; the input reads as it did. -/
def launchSelectsUptoRow : OpenClaim := { program := "ytofnepeokihhnaa", sum := "697d3f31f3b5a04bc8ef58035fd912b1f18bb96d230bcec1f827b2856ad585cb", func := "robotics/roboticslaw39.LaunchSelects", spec := "launchSelects", inPlace := ["internal/bytealg.IndexByteString", "internal/bytealg.IndexString", "internal/abi.NoEscape"], unfollowed := true, recurses := true, named := ["internal/bytealg.MaxLen"], loops := true, apart := false, narrowed := true }
def LaunchSelectsUptoSaid : Prop := launchSelectsUptoRow.holds Try.pinned (OpenSpec.upto launchSelectsSpec)

/-- 'roboticslaw39.LaunchDepends', WHERE WHAT IT READS IS OF BULK AT MOST 1048576: true; the input reads as it did. -/
def launchDependsUptoRow : OpenClaim := { program := "ytofnepeokihhnaa", sum := "697d3f31f3b5a04bc8ef58035fd912b1f18bb96d230bcec1f827b2856ad585cb", func := "robotics/roboticslaw39.LaunchDepends", spec := "launchDepends", inPlace := ["internal/bytealg.IndexByteString", "internal/bytealg.IndexString", "internal/abi.NoEscape"], unfollowed := true, recurses := true, named := ["internal/bytealg.MaxLen"], loops := true, apart := false, narrowed := true }
def LaunchDependsUptoSaid : Prop := launchDependsUptoRow.holds Try.pinned (OpenSpec.upto launchDependsSpec)

/-- 'roboticslaw39.LaunchOrders', WHERE WHAT IT READS IS OF BULK AT MOST 1048576: true; the input reads as it did. -/
def launchOrdersUptoRow : OpenClaim := { program := "ytofnepeokihhnaa", sum := "697d3f31f3b5a04bc8ef58035fd912b1f18bb96d230bcec1f827b2856ad585cb", func := "robotics/roboticslaw39.LaunchOrders", spec := "launchOrders", inPlace := ["internal/bytealg.IndexByteString", "internal/bytealg.IndexString", "internal/abi.NoEscape"], unfollowed := true, recurses := true, named := ["internal/bytealg.MaxLen"], loops := true, apart := false, narrowed := true }
def LaunchOrdersUptoSaid : Prop := launchOrdersUptoRow.holds Try.pinned (OpenSpec.upto launchOrdersSpec)

/-- 'roboticslaw39.LaunchChecks', WHERE WHAT IT READS IS OF BULK AT MOST 1048576: true; the input reads as it did. -/
def launchChecksUptoRow : OpenClaim := { program := "ytofnepeokihhnaa", sum := "697d3f31f3b5a04bc8ef58035fd912b1f18bb96d230bcec1f827b2856ad585cb", func := "robotics/roboticslaw39.LaunchChecks", spec := "launchChecks", inPlace := ["internal/bytealg.IndexByteString", "internal/bytealg.IndexString", "internal/abi.NoEscape"], unfollowed := true, recurses := true, named := ["internal/bytealg.MaxLen"], loops := true, apart := false, narrowed := true }
def LaunchChecksUptoSaid : Prop := launchChecksUptoRow.holds Try.pinned (OpenSpec.upto launchChecksSpec)

end Rows
end Go.Proofs.Ytofnepeokihhnaa
