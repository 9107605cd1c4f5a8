/- The law Once: what is remembered of decisions; outcomes that are unique. No conditions. -/
import Derived.Test.YtndkifkaejmibaaGreatDoorSvt
import Derived.Test.YtndkifkaejmibaaGreatDoorSon

namespace Go.Proofs.YtndkifkaejmibaaGreatDoor
open Go.RowKit
set_option maxRecDepth 4000
set_option linter.unusedVariables false
set_option linter.unusedSimpArgs false
set_option maxHeartbeats 8000000

abbrev idC (x : Int × Int) : List Value := [I x.1, I x.2]
abbrev bools (l : List Bool) : List Value := l.map fun b => B b
/-- what the law remembers, in memory -/
def KW (kb : Nat) (ids : List (Int × Int)) (acc : List Bool) (fin : List Gl) (H : List (Nat × Obj)) : Prop :=
  ∃ v1 H1 v2 H2 v3 H3, OwnSl v1 33 2 (ids.flatMap idC) ids.length H1 ∧ OwnSl v2 4 1 (bools acc) acc.length H2 ∧ OwnSl v3 35 7 (fin.flatMap gC) fin.length H3 ∧ H = (kb, blk [v1, v2, v3] 50) :: ((H1 ++ H2) ++ H3)
end Go.Proofs.YtndkifkaejmibaaGreatDoor
