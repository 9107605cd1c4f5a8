/- The steps as they are read. No conditions. -/
import Derived.Test.YtpcfmaddakhfiaaRd
import Derived.Test.YtpcfmaddakhfiaaStp
import Derived.Test.YtpcfmaddakhfiaaChecked
namespace Go.Proofs.Ytpcfmaddakhfiaa
open Go.RowKit Go.ChangeShapes Go.WideShapes Go.Deep

theorem rd_step : Rd Try.prog 38 (fun _ cs (x : Stp) => cs = x.cells ∧ x.Ok) := by
  intro H enc w base spare held fuel cs x h
  obtain ⟨hl, _⟩ := rd_fields Try.underlying38 h
  have hl : cs.length = 4 := hl.trans (by kernel_rfl)
  match cs, hl with
  | [c0, c1, c2, c3], _ =>
    obtain ⟨k0, e0, r0⟩ := rd_field1 Try.underlying38 (by kernel_rfl) h 0 rfl (rd_int Try.underlying5) rfl
    obtain ⟨k1, e1, r1⟩ := rd_field1 Try.underlying38 (by kernel_rfl) h 1 rfl (rd_string Try.underlying9) rfl
    obtain ⟨k2, e2, r2⟩ := rd_field1 Try.underlying38 (by kernel_rfl) h 2 rfl (rd_int Try.underlying36) rfl
    obtain ⟨k3, e3, r3⟩ := rd_field1 Try.underlying38 (by kernel_rfl) h 3 rfl (rd_int Try.underlying36) rfl
    injection e0 with e0; injection e1 with e1; injection e2 with e2; injection e3 with e3
    subst e0; subst e1; subst e2; subst e3
    exact ⟨⟨k0, k1, k2, k3⟩, rfl, ⟨(rg_u8 r0).1, (rg_u8 r0).2, (rg_i16 r2).1, (rg_i16 r2).2, (rg_i16 r3).1, (rg_i16 r3).2⟩⟩
theorem rd_steps : Rd Try.prog 23 (fun w cs (l : List Stp) => ∃ v, cs = [v] ∧ Sls 4 (fun _ cs (x : Stp) => cs = x.cells ∧ x.Ok) w v l ∧ l.length ≤ maxLen) :=
  rd_slice Try.underlying23 (by kernel_rfl) (by decide) rd_step
end Go.Proofs.Ytpcfmaddakhfiaa
