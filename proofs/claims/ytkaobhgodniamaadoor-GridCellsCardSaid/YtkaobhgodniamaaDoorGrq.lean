/- Grids: what the start of a call tells of the tables; the arguments as they are read. No conditions. -/
import Derived.Test.YtkaobhgodniamaaDoorRl
import Derived.Test.YtkaobhgodniamaaDoorGrh
import Derived.Test.YtkaobhgodniamaaDoorRows
import Derived.Test.YtkaobhgodniamaaDoorChecked
namespace Go.Proofs.YtkaobhgodniamaaDoor
open Go.RowKit Go.ChangeShapes Go.WideShapes Go.Deep
set_option linter.unusedVariables false
set_option linter.unusedSimpArgs false

theorem StepsT.on {w0 w : World} {H : List (Nat × Obj)} (h : StepsT w0) (k : St w0 NoneS H w) : StepsT w := by
  obtain ⟨E, fz, h⟩ := h
  exact ⟨E, fz, k.base h (fun e => e)⟩
def laid3 : List (String × DataW Unit) := [("unicode/utf8.acceptRanges", Rows.laid_unicode_utf8_acceptRanges), ("robotics/grid.steps", Rows.laid_robotics_grid_steps), ("unicode/utf8.first", Rows.laid_unicode_utf8_first)]
set_option maxRecDepth 100000 in
theorem steps_of_laid {W : World} (h : laidMetH Tryd.prog laid3 W) : StepsT W := by
  rw [MakeChecks.laidMetH_plain _ _ _ (by kernel_rfl)] at h
  obtain ⟨ps, ⟨g0, t0, cs0, f0, p0, q0, hg0, ht0, hv0, hd0, ⟨g1, t1, cs1, f1, p1, q1, hg1, ht1, hv1, hd1, _, _⟩, _⟩, _, _⟩ := h
  obtain rfl := Option.some.inj ((show Tryd.prog.globalNamed "robotics/grid.steps" = some 0 by kernel_rfl).symm.trans hg1)
  obtain rfl := Option.some.inj ((show (Tryd.prog.globals[0]?).map (·.type) = some 69 by kernel_rfl).symm.trans ht1)
  have e := trod_pairs (n := 8) (k := .i64) (ds := dirs) Tryd.underlying69 Tryd.underlying35 ⟨rfl, rfl⟩ Tryd.underlying3 Tryd.underlying3 ⟨by kernel_rfl, by kernel_rfl⟩ (by kernel_rfl) (by kernel_rfl) hd1
  simp only [World.var?, hg1, Option.bind_some] at hv1
  obtain ⟨l⟩ := cs1
  have e2 : l = stp := e
  subst e2
  split at hv1
  · rename_i cs T fz hh
    injection hv1 with hv1
    subst hv1
    exact ⟨_, _, hh⟩
  · cases hv1
set_option maxRecDepth 100000 in
theorem max_of_shape {W : World} (h : W.ShapedOpen Tryd.prog) : MaxL W := by
  obtain ⟨n, fz, hh⟩ := int_of_shape (g := 1) (t := 3) (zero := #[.int .i64 0]) h (of_decide_eq_true (by kernel_rfl)) (by kernel_rfl) rfl (by kernel_rfl) (by kernel_rfl) Tryd.underlying3
  exact ⟨n, _, _, hh⟩
theorem witness_laid (os : Os) (args : Array Value) : laidMetH Tryd.prog laid3 ((World.laidAll Tryd.prog os laid3).forCall (fun _ _ => 0) ⟨#[], args, []⟩).memory := by
  rw [MakeChecks.laidMetH_plain _ _ _ (by kernel_rfl)]; exact laidMet_laidAll _ (by kernel_rfl) (by kernel_rfl)
end Go.Proofs.YtkaobhgodniamaaDoor
