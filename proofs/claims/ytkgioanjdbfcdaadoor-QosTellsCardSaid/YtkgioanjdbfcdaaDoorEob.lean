/- More of the rules with which this claim's walks are made: structs compared whose cells are known; the greatest of three. No conditions. -/
import Derived.Test.YtkgioanjdbfcdaaDoorEoa
import Derived.Test.YtkgioanjdbfcdaaDoorTys
namespace Go.Proofs.YtkgioanjdbfcdaaDoor
open Go.RowKit
set_option linter.unusedVariables false
set_option linter.unusedSimpArgs false
set_option linter.unusedSectionVars false
section
variable {P : Program} {L : Fr} {w : World} {t t' ty : TypeId} {xo yo zo : Operand}
theorem Ev_struct_no {ks : List CK} {xs ys : List Value} (h : eqsB P (t, ks) = true) (hx : opd L xo = some (.agg ⟨xs⟩)) (hy : opd L yo = some (.agg ⟨ys⟩)) (hfx : fitK ks xs = true) (hfy : fitK ks ys = true) (hne : xs ≠ ys) :
    Ev P L (.binOp .eql t xo yo t') ty w (.bool false) w := by
  have := Ev_struct_eql (w := w) (ty := ty) (t' := t') h hx hy hfx hfy
  rwa [show @decide (xs = ys) (Classical.propDecidable _) = false from @decide_eq_false _ (Classical.propDecidable _) hne] at this
theorem Ev_struct_yes {ks : List CK} {xs : List Value} (h : eqsB P (t, ks) = true) (hx : opd L xo = some (.agg ⟨xs⟩)) (hy : opd L yo = some (.agg ⟨xs⟩)) (hfx : fitK ks xs = true) :
    Ev P L (.binOp .eql t xo yo t') ty w (.bool true) w := by
  have := Ev_struct_eql (w := w) (ty := ty) (t' := t') h hx hy hfx hfx
  rwa [show @decide (xs = xs) (Classical.propDecidable _) = true from @decide_eq_true _ (Classical.propDecidable _) rfl] at this
theorem Ev_struct_nyes {ks : List CK} {xs : List Value} (h : eqsB P (t, ks) = true) (hx : opd L xo = some (.agg ⟨xs⟩)) (hy : opd L yo = some (.agg ⟨xs⟩)) (hfx : fitK ks xs = true) :
    Ev P L (.binOp .neq t xo yo t') ty w (.bool false) w := by
  have := Ev_struct_neq (w := w) (ty := ty) (t' := t') h hx hy hfx hfx
  rwa [show @decide (xs ≠ xs) (Classical.propDecidable _) = false from @decide_eq_false _ (Classical.propDecidable _) (fun e => e rfl)] at this
theorem Ev_max3 {x y z : Int} {k : IntKind} {ts : Array TypeId} (hx : opd L xo = some (.int k x)) (hy : opd L yo = some (.int k y)) (hz : opd L zo = some (.int k z)) : Ev P L (.call ⟨.builtin .max, #[xo, yo, zo], ts⟩) ty w (.int k (max (max x y) z)) w := by
  refine ⟨fun n c ha _ _ _ _ => ?_⟩
  have e : (if y > x then y else x) = max x y := by omega
  have e2 : (if z > max x y then z else max x y) = max (max x y) z := by omega
  simp [execOp, resolve, invoke, builtin, Builtin.max_, Builtin.max2, ha.eval hx, ha.eval hy, ha.eval hz, e, e2]
end
end Go.Proofs.YtkgioanjdbfcdaaDoor
