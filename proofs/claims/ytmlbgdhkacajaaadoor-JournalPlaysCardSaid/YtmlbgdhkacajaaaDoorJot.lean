/- Journals: a list of steps as it is read. No conditions. -/
import Derived.Test.YtmlbgdhkacajaaaDoorJor
import Derived.Test.YtmlbgdhkacajaaaDoorJom
namespace Go.Proofs.YtmlbgdhkacajaaaDoor
open Go.RowKit Go.ChangeShapes Go.WideShapes Go.Deep
set_option linter.unusedVariables false
set_option linter.unusedSimpArgs false

set_option maxRecDepth 100000 in
theorem rd_step : Rd Tryd.prog 49 (fun _ cs (x : Jp) => cs = x.cells ∧ x.s.length ≤ 9223372036854775807 ∧ x.a ≤ 9223372036854775807) := by
  intro H enc w base spare held fuel cs x h
  obtain ⟨hl, _⟩ := rd_fields Tryd.underlying49 h
  have hl : cs.length = 4 := hl.trans (by kernel_rfl)
  match cs, hl with
  | [c0, c1, c2, c3], _ =>
    obtain ⟨k0, e0, _⟩ := rd_fieldN Tryd.underlying49 h 0 rfl rd_i (o := 0) rfl (z := 1) (by kernel_rfl) (vs := [c0]) rfl
    obtain ⟨k1, e1, _, f1⟩ := rd_fieldN Tryd.underlying49 h 1 rfl rd_i (o := 1) rfl (z := 1) (by kernel_rfl) (vs := [c1]) rfl
    obtain ⟨k2, e2, _⟩ := rd_fieldN Tryd.underlying49 h 2 rfl rd_i (o := 2) rfl (z := 1) (by kernel_rfl) (vs := [c2]) rfl
    obtain ⟨k3, e3, f3⟩ := rd_fieldN Tryd.underlying49 h 3 rfl rd_s (o := 3) rfl (z := 1) (by kernel_rfl) (vs := [c3]) rfl
    injection e0 with e0; injection e1 with e1; injection e2 with e2; injection e3 with e3
    subst e0; subst e1; subst e2; subst e3
    exact ⟨⟨k0, k1, k2, k3⟩, rfl, f3, f1⟩
section
variable {H : Type} {enc : TypeId × Value → H} {W : World} {b0 base : Nat} {r : Reach} {sp : Nat → Bool} {held : Bool} {v : Value} {d : DataW H} {p : List MemPlace}
set_option maxRecDepth 100000 in
theorem steps_of (hv : Value.okWide Tryd.prog W r b0 46 v) (k : DataW.Trod enc Tryd.prog W base sp held 46 v d p) : ∃ l : List Jp, SlAt W v 4 (l.map Jp.cells) ∧ l.length ≤ 9223372036854775807 ∧ (∀ x ∈ l, x.s.length ≤ 9223372036854775807) ∧ (∀ x ∈ l, x.a ≤ 9223372036854775807) := by
  obtain ⟨a, len, cap, rfl⟩ := okWide_slice Tryd.underlying46 hv
  obtain ⟨l, u, e, hs, hm⟩ := (rd_slice (z := 4) Tryd.underlying46 (by kernel_rfl) (by decide) rd_step).of_trod k
  injection e with e
  subst e
  have hall : ∀ x ∈ l, x.s.length ≤ 9223372036854775807 ∧ x.a ≤ 9223372036854775807 := by
    intro x hx
    obtain ⟨i, hi⟩ := List.mem_iff_getElem?.1 hx
    obtain ⟨y, hy⟩ := hs.each hi
    exact hy.2
  exact ⟨l, hs.at (fun x a hx => hx.1), hm, fun x hx => (hall x hx).1, fun x hx => (hall x hx).2⟩
end
end Go.Proofs.YtmlbgdhkacajaaaDoor
