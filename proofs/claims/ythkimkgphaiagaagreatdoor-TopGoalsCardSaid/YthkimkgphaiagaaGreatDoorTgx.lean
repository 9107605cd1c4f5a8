/- The law TopGoals: the steps as they are read. No conditions. -/
import Derived.Test.YthkimkgphaiagaaGreatDoorJnx
import Derived.Test.YthkimkgphaiagaaGreatDoorTgj

namespace Go.Proofs.YthkimkgphaiagaaGreatDoor
open Go.RowKit Go.ChangeShapes Go.WideShapes Go.Deep
set_option linter.unusedVariables false
set_option linter.unusedSimpArgs false
set_option linter.unusedVariables false

set_option maxRecDepth 100000 in
theorem rd_play : Rd Tryz.prog 42 (fun _ cs (x : Int × Int × Int) => cs = plC x ∧ x.2.1 ≤ 9223372036854775807) := by
  intro H enc w base spare held fuel cs x h
  obtain ⟨hl, _⟩ := rd_fields Tryz.underlying42 h
  have hl : cs.length = 3 := hl.trans (by kernel_rfl)
  match cs, hl with
  | [c0, c1, c2], _ =>
    obtain ⟨k0, e0, r0⟩ := rd_field1 Tryz.underlying42 (by kernel_rfl) h 0 rfl (rd_int Tryz.underlying3) rfl
    obtain ⟨k1, e1, r1⟩ := rd_field1 Tryz.underlying42 (by kernel_rfl) h 1 rfl (rd_int Tryz.underlying3) rfl
    obtain ⟨k2, e2, r2⟩ := rd_field1 Tryz.underlying42 (by kernel_rfl) h 2 rfl (rd_int Tryz.underlying3) rfl
    injection e0 with e0; injection e1 with e1; injection e2 with e2
    subst e0; subst e1; subst e2
    exact ⟨(k0, k1, k2), rfl, (rg_i64 r1).2⟩
theorem rd_plays : Rd Tryz.prog 23 (fun w cs (l : List (Int × Int × Int)) => ∃ v, cs = [v] ∧ Sls 3 (fun _ cs (x : Int × Int × Int) => cs = plC x ∧ x.2.1 ≤ 9223372036854775807) w v l ∧ l.length ≤ maxLen) :=
  rd_slice Tryz.underlying23 (by kernel_rfl) (by decide) rd_play
end Go.Proofs.YthkimkgphaiagaaGreatDoor
