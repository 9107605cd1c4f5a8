/-
  No cell of these rows narrows 'for every input' (looked for: loops, veiled, ifaces, maps, wideKeys, modest, calm, conditions, laid).
  DERIVED. THE GIVEN ROWS OF THIS SEAT. 3 by the template 'for every input the law returns true; each argument reads behind the call as it read before'; 0 by the template 'total and deterministic' (their statements: YtpcfmaddakhfiaaTotals.lean).
  GIVEN WITH THE SEED: the statements are not yours to turn. If you find one false, say at which input.
  Laid BY PROGRAM, IN A SANDBOX (cutbox-rows.mjs): the forced cells as the released guide's own fill.sh prints them over the translation c91950bef5071f6e… (all of the seat's roots in one cut). By AI agents, Wed Nov 11 2026. No macro, syntax, notation, axiom, sorry.
-/
import Derived.Test.YtpcfmaddakhfiaaChecked
import GoSem.Claim
import GoSem.ClaimJoined
import GoSem.ClaimMapViews
import Derived.JoinedTies
import Derived.KernelRfl
namespace Go.Proofs.Ytpcfmaddakhfiaa
/- THE CELL 'sum', in the pinned program and in every row, IS THE sha256 OF THE DUMP (.gsa) THAT YtpcfmaddakhfiaaProg.lean LOADS. Nothing in Lean hashes anything: it is a label: what it is worth is what the hold of that sum in a sandbox is worth. -/
noncomputable def Try.pinned : Pinned := { name := "ytpcfmaddakhfiaa", sum := "c91950bef5071f6ed15b1f3cb055e06cf62c8d9e809bd20259b260e5cffc0183", checked := Try.checked }
namespace Rows
def none {H : Type} : Left H := { results := [], args := [] }

/-- 'roboticslaw34.MediumPlays': WHATEVER THE INPUT: true; the input reads as it did. -/
def mediumPlaysSpec : ChangeSpec := { name := "mediumPlays", fn := fun _ => fun
  | [d1, d2] => { results := [.lit (.bool true)], args := [d1, d2] }
  | _ => none }
def mediumPlaysRow : OpenClaim := { program := "ytpcfmaddakhfiaa", sum := "c91950bef5071f6ed15b1f3cb055e06cf62c8d9e809bd20259b260e5cffc0183", func := "robotics/roboticslaw34.MediumPlays", spec := "mediumPlays", apart := false }
def MediumPlaysSaid : Prop := mediumPlaysRow.holds Try.pinned (OpenSpec.ofChange mediumPlaysSpec)

/-- ITS FALSE NEIGHBOUR: 'it returns false'. Refute it at one input. -/
def mediumPlaysWrong : ChangeSpec := { name := "mediumPlays", fn := fun _ => fun
  | [d1, d2] => { results := [.lit (.bool false)], args := [d1, d2] }
  | _ => none }
def MediumPlaysWrongFalsely : Prop := mediumPlaysRow.holds Try.pinned (OpenSpec.ofChange mediumPlaysWrong)

/-- 'roboticslaw34.MediumDurable': WHATEVER THE INPUT: true; the input reads as it did. -/
def mediumDurableSpec : ChangeSpec := { name := "mediumDurable", fn := fun _ => fun
  | [d] => { results := [.lit (.bool true)], args := [d] }
  | _ => none }
def mediumDurableRow : OpenClaim := { program := "ytpcfmaddakhfiaa", sum := "c91950bef5071f6ed15b1f3cb055e06cf62c8d9e809bd20259b260e5cffc0183", func := "robotics/roboticslaw34.MediumDurable", spec := "mediumDurable", apart := false }
def MediumDurableSaid : Prop := mediumDurableRow.holds Try.pinned (OpenSpec.ofChange mediumDurableSpec)

/-- ITS FALSE NEIGHBOUR: 'it returns false'. Refute it at one input. -/
def mediumDurableWrong : ChangeSpec := { name := "mediumDurable", fn := fun _ => fun
  | [d] => { results := [.lit (.bool false)], args := [d] }
  | _ => none }
def MediumDurableWrongFalsely : Prop := mediumDurableRow.holds Try.pinned (OpenSpec.ofChange mediumDurableWrong)

/-- 'roboticslaw34.MediumRefuses': WHATEVER THE INPUT: true; the input reads as it did. -/
def mediumRefusesSpec : ChangeSpec := { name := "mediumRefuses", fn := fun _ => fun
  | [d1, d2, d3] => { results := [.lit (.bool true)], args := [d1, d2, d3] }
  | _ => none }
def mediumRefusesRow : OpenClaim := { program := "ytpcfmaddakhfiaa", sum := "c91950bef5071f6ed15b1f3cb055e06cf62c8d9e809bd20259b260e5cffc0183", func := "robotics/roboticslaw34.MediumRefuses", spec := "mediumRefuses", apart := false }
def MediumRefusesSaid : Prop := mediumRefusesRow.holds Try.pinned (OpenSpec.ofChange mediumRefusesSpec)

/-- ITS FALSE NEIGHBOUR: 'it returns false'. Refute it at one input. -/
def mediumRefusesWrong : ChangeSpec := { name := "mediumRefuses", fn := fun _ => fun
  | [d1, d2, d3] => { results := [.lit (.bool false)], args := [d1, d2, d3] }
  | _ => none }
def MediumRefusesWrongFalsely : Prop := mediumRefusesRow.holds Try.pinned (OpenSpec.ofChange mediumRefusesWrong)

/- THE SECOND FORM. 'bulk': how many values and letters a reading holds, each counted each time it is reached (what is shared counts as often as it is met; a slice's spare places count too). A statement '..UptoSaid' is the law's where the arguments, and the package variables that the reading takes, are together of bulk at most 1048576: NARROWER than '..Said'. Prove '..Said' where nothing that the law and all that it calls make is longer than what came in: it says more and counts as full. Else prove '..UptoSaid'. A law counts once. -/
mutual
def uptoBulk {H : Type} : DataW H → Nat
  | .lit (.string bytes) => bytes.length + 1
  | .lit _ => 1
  | .nil => 1
  | .ptr d => uptoBulk d + 1
  | .slice elems spare => uptoBulkAll elems + uptoBulkAll spare + 1
  | .agg parts => uptoBulkAll parts + 1
  | .iface _ d => uptoBulk d + 1
  | .map entries => uptoBulkEntries entries + 1
  | .held _ => 1
def uptoBulkAll {H : Type} : List (DataW H) → Nat
  | [] => 0
  | d :: r => uptoBulk d + uptoBulkAll r
def uptoBulkEntries {H : Type} : List (Lit × DataW H) → Nat
  | [] => 0
  | x :: r => uptoBulkEntry x + uptoBulkEntries r
def uptoBulkEntry {H : Type} : Lit × DataW H → Nat
  | (.string bytes, d) => bytes.length + uptoBulk d + 1
  | (_, d) => uptoBulk d + 1
 end
def uptoSmall : (H : Type) → List (DataW H) → Bool := fun _ ds => decide (uptoBulkAll ds ≤ 1048576)
def OpenSpec.upto (s : _root_.Go.ChangeSpec) : _root_.Go.OpenSpec := { _root_.Go.OpenSpec.ofChange s with cond := some uptoSmall }

/-- 'roboticslaw34.MediumPlays', WHERE WHAT IT READS IS OF BULK AT MOST 1048576: true; the input reads as it did. -/
def mediumPlaysUptoRow : OpenClaim := { program := "ytpcfmaddakhfiaa", sum := "c91950bef5071f6ed15b1f3cb055e06cf62c8d9e809bd20259b260e5cffc0183", func := "robotics/roboticslaw34.MediumPlays", spec := "mediumPlays", apart := false, narrowed := true }
def MediumPlaysUptoSaid : Prop := mediumPlaysUptoRow.holds Try.pinned (OpenSpec.upto mediumPlaysSpec)

/-- 'roboticslaw34.MediumDurable', WHERE WHAT IT READS IS OF BULK AT MOST 1048576: true; the input reads as it did. -/
def mediumDurableUptoRow : OpenClaim := { program := "ytpcfmaddakhfiaa", sum := "c91950bef5071f6ed15b1f3cb055e06cf62c8d9e809bd20259b260e5cffc0183", func := "robotics/roboticslaw34.MediumDurable", spec := "mediumDurable", apart := false, narrowed := true }
def MediumDurableUptoSaid : Prop := mediumDurableUptoRow.holds Try.pinned (OpenSpec.upto mediumDurableSpec)

/-- 'roboticslaw34.MediumRefuses', WHERE WHAT IT READS IS OF BULK AT MOST 1048576: true; the input reads as it did. -/
def mediumRefusesUptoRow : OpenClaim := { program := "ytpcfmaddakhfiaa", sum := "c91950bef5071f6ed15b1f3cb055e06cf62c8d9e809bd20259b260e5cffc0183", func := "robotics/roboticslaw34.MediumRefuses", spec := "mediumRefuses", apart := false, narrowed := true }
def MediumRefusesUptoSaid : Prop := mediumRefusesUptoRow.holds Try.pinned (OpenSpec.upto mediumRefusesSpec)

end Rows
end Go.Proofs.Ytpcfmaddakhfiaa
