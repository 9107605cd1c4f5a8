/-
  No cell of these rows narrows 'for every input' (looked for: loops, veiled, ifaces, maps, wideKeys, modest, calm, conditions, laid).
  DERIVED. THE GIVEN ROWS OF THIS SEAT. 4 by the template 'for every input the law returns true; each argument reads behind the call as it read before'; 0 by the template 'total and deterministic' (their statements: YtbpebpkepflliaaTotals.lean).
  GIVEN WITH THE SEED: the statements are not yours to turn. If you find one false, say at which input.
  Laid BY PROGRAM, IN A SANDBOX (cutbox-rows.mjs): the forced cells as the released guide's own fill.sh prints them over the translation 85b679180f1907fe… (all of the seat's roots in one cut). By AI agents, Wed Nov 11 2026. No macro, syntax, notation, axiom, sorry.
-/
import Derived.Test.YtbpebpkepflliaaChecked
import GoSem.Claim
import GoSem.ClaimJoined
import GoSem.ClaimMapViews
import Derived.JoinedTies
import Derived.KernelRfl
namespace Go.Proofs.Ytbpebpkepflliaa
/- THE CELL 'sum', in the pinned program and in every row, IS THE sha256 OF THE DUMP (.gsa) THAT YtbpebpkepflliaaProg.lean LOADS. Nothing in Lean hashes anything: it is a label: what it is worth is what the hold of that sum in a sandbox is worth. -/
noncomputable def Try.pinned : Pinned := { name := "ytbpebpkepflliaa", sum := "85b679180f1907fe3837fbe40ef2f0749007a175bbb1854a4b2fc18f701f8c37", checked := Try.checked }
namespace Rows
def none {H : Type} : Left H := { results := [], args := [] }

/-- 'roboticslaw37.ActionclientEnds': WHATEVER THE INPUT: true; the input reads as it did. -/
def actionclientEndsSpec : ChangeSpec := { name := "actionclientEnds", fn := fun _ => fun
  | [d1, d2, d3] => { results := [.lit (.bool true)], args := [d1, d2, d3] }
  | _ => none }
def actionclientEndsRow : OpenClaim := { program := "ytbpebpkepflliaa", sum := "85b679180f1907fe3837fbe40ef2f0749007a175bbb1854a4b2fc18f701f8c37", func := "robotics/roboticslaw37.ActionclientEnds", spec := "actionclientEnds", apart := false }
def ActionclientEndsSaid : Prop := actionclientEndsRow.holds Try.pinned (OpenSpec.ofChange actionclientEndsSpec)

/-- ITS FALSE NEIGHBOUR: 'it returns false'. Refute it at one input. -/
def actionclientEndsWrong : ChangeSpec := { name := "actionclientEnds", fn := fun _ => fun
  | [d1, d2, d3] => { results := [.lit (.bool false)], args := [d1, d2, d3] }
  | _ => none }
def ActionclientEndsWrongFalsely : Prop := actionclientEndsRow.holds Try.pinned (OpenSpec.ofChange actionclientEndsWrong)

/-- 'roboticslaw37.ActionclientKeeps': WHATEVER THE INPUT: true; the input reads as it did. -/
def actionclientKeepsSpec : ChangeSpec := { name := "actionclientKeeps", fn := fun _ => fun
  | [d] => { results := [.lit (.bool true)], args := [d] }
  | _ => none }
def actionclientKeepsRow : OpenClaim := { program := "ytbpebpkepflliaa", sum := "85b679180f1907fe3837fbe40ef2f0749007a175bbb1854a4b2fc18f701f8c37", func := "robotics/roboticslaw37.ActionclientKeeps", spec := "actionclientKeeps", apart := false }
def ActionclientKeepsSaid : Prop := actionclientKeepsRow.holds Try.pinned (OpenSpec.ofChange actionclientKeepsSpec)

/-- ITS FALSE NEIGHBOUR: 'it returns false'. Refute it at one input. -/
def actionclientKeepsWrong : ChangeSpec := { name := "actionclientKeeps", fn := fun _ => fun
  | [d] => { results := [.lit (.bool false)], args := [d] }
  | _ => none }
def ActionclientKeepsWrongFalsely : Prop := actionclientKeepsRow.holds Try.pinned (OpenSpec.ofChange actionclientKeepsWrong)

/-- 'roboticslaw37.ActionclientPlays': WHATEVER THE INPUT: true; the input reads as it did. -/
def actionclientPlaysSpec : ChangeSpec := { name := "actionclientPlays", fn := fun _ => fun
  | [d1, d2, d3] => { results := [.lit (.bool true)], args := [d1, d2, d3] }
  | _ => none }
def actionclientPlaysRow : OpenClaim := { program := "ytbpebpkepflliaa", sum := "85b679180f1907fe3837fbe40ef2f0749007a175bbb1854a4b2fc18f701f8c37", func := "robotics/roboticslaw37.ActionclientPlays", spec := "actionclientPlays", apart := false }
def ActionclientPlaysSaid : Prop := actionclientPlaysRow.holds Try.pinned (OpenSpec.ofChange actionclientPlaysSpec)

/-- ITS FALSE NEIGHBOUR: 'it returns false'. Refute it at one input. -/
def actionclientPlaysWrong : ChangeSpec := { name := "actionclientPlays", fn := fun _ => fun
  | [d1, d2, d3] => { results := [.lit (.bool false)], args := [d1, d2, d3] }
  | _ => none }
def ActionclientPlaysWrongFalsely : Prop := actionclientPlaysRow.holds Try.pinned (OpenSpec.ofChange actionclientPlaysWrong)

/-- 'roboticslaw37.ActionclientRefuses': WHATEVER THE INPUT: true; the input reads as it did. -/
def actionclientRefusesSpec : ChangeSpec := { name := "actionclientRefuses", fn := fun _ => fun
  | [d1, d2, d3] => { results := [.lit (.bool true)], args := [d1, d2, d3] }
  | _ => none }
def actionclientRefusesRow : OpenClaim := { program := "ytbpebpkepflliaa", sum := "85b679180f1907fe3837fbe40ef2f0749007a175bbb1854a4b2fc18f701f8c37", func := "robotics/roboticslaw37.ActionclientRefuses", spec := "actionclientRefuses", apart := false }
def ActionclientRefusesSaid : Prop := actionclientRefusesRow.holds Try.pinned (OpenSpec.ofChange actionclientRefusesSpec)

/-- ITS FALSE NEIGHBOUR: 'it returns false'. Refute it at one input. -/
def actionclientRefusesWrong : ChangeSpec := { name := "actionclientRefuses", fn := fun _ => fun
  | [d1, d2, d3] => { results := [.lit (.bool false)], args := [d1, d2, d3] }
  | _ => none }
def ActionclientRefusesWrongFalsely : Prop := actionclientRefusesRow.holds Try.pinned (OpenSpec.ofChange actionclientRefusesWrong)

/- THE SECOND FORM. 'bulk': how many values and letters a reading holds, each counted each time it is reached (what is shared counts as often as it is met; a slice's spare places count too). A statement '..UptoSaid' is the law's where the arguments, and the package variables that the reading takes, are together of bulk at most 1048576: NARROWER than '..Said'. Prove '..Said' where nothing that the law and all that it calls make is longer than what came in: it says more and counts as full. Else prove '..UptoSaid'. A law counts once. -/
mutual
def uptoBulk {H : Type} : DataW H → Nat
  | .lit (.string bytes) => bytes.length + 1
  | .lit _ => 1
  | .nil => 1
  | .ptr d => uptoBulk d + 1
  | .slice elems spare => uptoBulkAll elems + uptoBulkAll spare + 1
  | .agg parts => uptoBulkAll parts + 1
  | .iface _ d => uptoBulk d + 1
  | .map entries => uptoBulkEntries entries + 1
  | .held _ => 1
def uptoBulkAll {H : Type} : List (DataW H) → Nat
  | [] => 0
  | d :: r => uptoBulk d + uptoBulkAll r
def uptoBulkEntries {H : Type} : List (Lit × DataW H) → Nat
  | [] => 0
  | x :: r => uptoBulkEntry x + uptoBulkEntries r
def uptoBulkEntry {H : Type} : Lit × DataW H → Nat
  | (.string bytes, d) => bytes.length + uptoBulk d + 1
  | (_, d) => uptoBulk d + 1
 end
def uptoSmall : (H : Type) → List (DataW H) → Bool := fun _ ds => decide (uptoBulkAll ds ≤ 1048576)
def OpenSpec.upto (s : _root_.Go.ChangeSpec) : _root_.Go.OpenSpec := { _root_.Go.OpenSpec.ofChange s with cond := some uptoSmall }

/-- 'roboticslaw37.ActionclientEnds', WHERE WHAT IT READS IS OF BULK AT MOST 1048576: true; the input reads as it did. -/
def actionclientEndsUptoRow : OpenClaim := { program := "ytbpebpkepflliaa", sum := "85b679180f1907fe3837fbe40ef2f0749007a175bbb1854a4b2fc18f701f8c37", func := "robotics/roboticslaw37.ActionclientEnds", spec := "actionclientEnds", apart := false, narrowed := true }
def ActionclientEndsUptoSaid : Prop := actionclientEndsUptoRow.holds Try.pinned (OpenSpec.upto actionclientEndsSpec)

/-- 'roboticslaw37.ActionclientKeeps', WHERE WHAT IT READS IS OF BULK AT MOST 1048576: true; the input reads as it did. -/
def actionclientKeepsUptoRow : OpenClaim := { program := "ytbpebpkepflliaa", sum := "85b679180f1907fe3837fbe40ef2f0749007a175bbb1854a4b2fc18f701f8c37", func := "robotics/roboticslaw37.ActionclientKeeps", spec := "actionclientKeeps", apart := false, narrowed := true }
def ActionclientKeepsUptoSaid : Prop := actionclientKeepsUptoRow.holds Try.pinned (OpenSpec.upto actionclientKeepsSpec)

/-- 'roboticslaw37.ActionclientPlays', WHERE WHAT IT READS IS OF BULK AT MOST 1048576: true; the input reads as it did. -/
def actionclientPlaysUptoRow : OpenClaim := { program := "ytbpebpkepflliaa", sum := "85b679180f1907fe3837fbe40ef2f0749007a175bbb1854a4b2fc18f701f8c37", func := "robotics/roboticslaw37.ActionclientPlays", spec := "actionclientPlays", apart := false, narrowed := true }
def ActionclientPlaysUptoSaid : Prop := actionclientPlaysUptoRow.holds Try.pinned (OpenSpec.upto actionclientPlaysSpec)

/-- 'roboticslaw37.ActionclientRefuses', WHERE WHAT IT READS IS OF BULK AT MOST 1048576: true; the input reads as it did. -/
def actionclientRefusesUptoRow : OpenClaim := { program := "ytbpebpkepflliaa", sum := "85b679180f1907fe3837fbe40ef2f0749007a175bbb1854a4b2fc18f701f8c37", func := "robotics/roboticslaw37.ActionclientRefuses", spec := "actionclientRefuses", apart := false, narrowed := true }
def ActionclientRefusesUptoSaid : Prop := actionclientRefusesUptoRow.holds Try.pinned (OpenSpec.upto actionclientRefusesSpec)

end Rows
end Go.Proofs.Ytbpebpkepflliaa
