/- The steps as they are read. No conditions. -/
import Derived.Test.YtbpebpkepflliaaRd
import Derived.Test.YtbpebpkepflliaaLaa
import Derived.Test.YtbpebpkepflliaaChecked
namespace Go.Proofs.Ytbpebpkepflliaa
open Go.RowKit Go.ChangeShapes Go.WideShapes Go.Deep
set_option linter.unusedVariables false
set_option linter.unusedSimpArgs false

theorem rd_step : Rd Try.prog 47 (fun _ cs (x : Stp) => cs = x.cells ∧ x.Ok) := by
  intro H enc w base spare held fuel cs x h
  obtain ⟨hl, _⟩ := rd_fields Try.underlying47 h
  have hl : cs.length = 7 := hl.trans (by kernel_rfl)
  match cs, hl with
  | [c0, c1, c2, c3, c4, c5, c6], _ =>
    obtain ⟨k0, e0, r0⟩ := rd_field1 Try.underlying47 (by kernel_rfl) h 0 rfl (rd_int Try.underlying5) rfl
    obtain ⟨k1, e1, r1⟩ := rd_field1 Try.underlying47 (by kernel_rfl) h 1 rfl (rd_int Try.underlying45) rfl
    obtain ⟨k2, e2, r2⟩ := rd_field1 Try.underlying47 (by kernel_rfl) h 2 rfl (rd_int Try.underlying5) rfl
    obtain ⟨k3, e3, r3⟩ := rd_field1 Try.underlying47 (by kernel_rfl) h 3 rfl (rd_int Try.underlying45) rfl
    obtain ⟨k4, e4, r4⟩ := rd_field1 Try.underlying47 (by kernel_rfl) h 4 rfl (rd_string Try.underlying9) rfl
    obtain ⟨k5, e5⟩ := rd_field1 Try.underlying47 (by kernel_rfl) h 5 rfl (rd_bool Try.underlying4) rfl
    obtain ⟨k6, e6, r6⟩ := rd_field1 Try.underlying47 (by kernel_rfl) h 6 rfl (rd_int Try.underlying5) rfl
    injection e0 with e0; injection e1 with e1; injection e2 with e2; injection e3 with e3; injection e4 with e4; injection e5 with e5; injection e6 with e6
    subst e0; subst e1; subst e2; subst e3; subst e4; subst e5; subst e6
    exact ⟨⟨k0, k1, k2, k3, k4, k5, k6⟩, rfl, ⟨rg_u8 r0, rg_i8 r1, rg_u8 r2, rg_i8 r3, rg_u8 r6⟩⟩
theorem rd_steps : Rd Try.prog 43 (fun w cs (l : List Stp) => ∃ v, cs = [v] ∧ Sls 7 (fun _ cs (x : Stp) => cs = x.cells ∧ x.Ok) w v l ∧ l.length ≤ maxLen) :=
  rd_slice Try.underlying43 (by kernel_rfl) (by decide) rd_step
end Go.Proofs.Ytbpebpkepflliaa
