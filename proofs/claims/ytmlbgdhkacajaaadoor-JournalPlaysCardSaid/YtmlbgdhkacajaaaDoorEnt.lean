/- More operations on numbers. No conditions. -/
import Derived.Test.YtmlbgdhkacajaaaDoorEns
namespace Go.Proofs.YtmlbgdhkacajaaaDoor
open Go.RowKit
set_option linter.unusedVariables false
set_option linter.unusedSimpArgs false
section
variable {T : Tys} {P : Program} {L : Fr} {w : World} {ty t t' : TypeId} {xo yo : Operand}
theorem inU8 {x : Int} (h1 : 0 ≤ x) (h2 : x ≤ 255) : inK .u8 x := by
  simp [inK, IntKind.min, IntKind.max, IntKind.signed, IntKind.bits]; omega
/-- a quotient of numbers that are not negative, in the kind -/
theorem Ev_quoP {k : IntKind} {x y : Int} (hx : opd L xo = some (.int k x)) (hy : opd L yo = some (.int k y)) (h0 : 0 ≤ x) (hk : inK k x) (h2 : 0 < y) : Ev P L (.binOp .quo t xo yo t') ty w (.int k (x / y)) w := by
  have := Ev_quow (P := P) (t := t) (t' := t') (ty := ty) (w := w) hx hy (by omega)
  rw [Int.tdiv_eq_ediv_of_nonneg h0] at this
  have hb : 0 ≤ x / y := Int.ediv_nonneg h0 (by omega)
  have hc : x / y ≤ x := Int.ediv_le_self y h0
  have hm : k.min ≤ 0 := by cases k <;> simp [IntKind.min, IntKind.signed, IntKind.bits]
  rwa [wrap_in ⟨by have := hk.1; omega, by have := hk.2; omega⟩] at this
theorem Ev_quoT {x y : Int} (hx : opd L xo = some (.int .i64 x)) (hy : opd L yo = some (.int .i64 y)) (h0 : y ≠ 0) (h : -9223372036854775808 ≤ x.tdiv y ∧ x.tdiv y ≤ 9223372036854775807) : Ev P L (.binOp .quo t xo yo t') ty w (.int .i64 (x.tdiv y)) w := by
  have := Ev_quow (P := P) (t := t) (t' := t') (ty := ty) (w := w) hx hy h0
  rwa [wrap_in (inI h.1 h.2)] at this
theorem Ev_negI {x : Int} (hx : opd L xo = some (.int .i64 x)) (h : -9223372036854775808 ≤ -x ∧ -x ≤ 9223372036854775807) : Ev P L (.unOp .neg t xo) ty w (.int .i64 (-x)) w := by
  have := Ev_neg (P := P) (t := t) (ty := ty) (w := w) hx
  rw [show (0 - x) = -x by omega] at this
  rwa [wrap_in (inI h.1 h.2)] at this
theorem Ev_addP {k : IntKind} {x y : Int} (hx : opd L xo = some (.int k x)) (hy : opd L yo = some (.int k y)) (h : inK k (x + y)) : Ev P L (.binOp .add t xo yo t') ty w (.int k (x + y)) w := by
  have := Ev_addw (P := P) (t := t) (t' := t') (ty := ty) (w := w) hx hy
  rwa [wrap_in h] at this
theorem Ev_subP {k : IntKind} {x y : Int} (hx : opd L xo = some (.int k x)) (hy : opd L yo = some (.int k y)) (h : inK k (x - y)) : Ev P L (.binOp .sub t xo yo t') ty w (.int k (x - y)) w := by
  have := Ev_subw (P := P) (t := t) (t' := t') (ty := ty) (w := w) hx hy
  rwa [wrap_in h] at this
end
end Go.Proofs.YtmlbgdhkacajaaaDoor
