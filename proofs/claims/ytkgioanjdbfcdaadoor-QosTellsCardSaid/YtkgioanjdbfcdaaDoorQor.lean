/- Contracts of quality: what the start of a call tells of the tables; the arguments as they are read. No conditions. -/
import Derived.Test.YtkgioanjdbfcdaaDoorRl
import Derived.Test.YtkgioanjdbfcdaaDoorQoc
import Derived.Test.YtkgioanjdbfcdaaDoorRows
import Derived.Test.YtkgioanjdbfcdaaDoorChecked
import Derived.Lib.LaidTab
import Derived.Stop.LaidErr
namespace Go.Proofs.YtkgioanjdbfcdaaDoor
open Go.RowKit Go.ChangeShapes Go.WideShapes Go.Deep
set_option linter.unusedVariables false
set_option linter.unusedSimpArgs false

def laid5 : List (String × DataW Unit) := [("math/bits.deBruijn32tab", Rows.laid_math_bits_deBruijn32tab), ("math/bits.deBruijn64tab", Rows.laid_math_bits_deBruijn64tab), ("internal/strconv.uint64pow10", Rows.laid_internal_strconv_uint64pow10), ("unicode/utf8.acceptRanges", Rows.laid_unicode_utf8_acceptRanges), ("unicode/utf8.first", Rows.laid_unicode_utf8_first)]
theorem var_heap {P : Program} {W : World} {n : String} {g : Nat} {cs : Array Value} (hg : P.globalNamed n = some g) (h : W.var? P n = some cs) : ∃ E fz, W.heap[g]? = some (.cells cs E fz) := by
  simp only [World.var?, hg, Option.bind_some] at h
  split at h
  · rename_i cs T fz hh
    injection h with h
    subst h
    exact ⟨_, _, hh⟩
  · cases h
set_option maxRecDepth 100000 in
theorem vars_of {W : World} (h : laidMetH Tryd.prog laid5 W) (hs : W.ShapedOpen Tryd.prog) : Vars W := by
  rw [MakeChecks.laidMetH_plain _ _ _ (by kernel_rfl)] at h
  have h2 : laidMet Tryd.prog (("internal/strconv.uint64pow10", Lib.tabData .u64 Lib.pow10Tab) :: [("unicode/utf8.acceptRanges", Rows.laid_unicode_utf8_acceptRanges), ("unicode/utf8.first", Rows.laid_unicode_utf8_first)]) W := h.tail.tail
  have t1 := Lib.tabIs_of_head (P := Tryd.prog) (g := 1) (t := 73) (e := 65) (n := 20) (by kernel_rfl) (by kernel_rfl) Tryd.underlying73 Tryd.underlying65 (by kernel_rfl) (by kernel_rfl) h2
  obtain ⟨E1, z1, p1⟩ := var_heap (g := 1) (by kernel_rfl) t1
  obtain ⟨m, fz, p3⟩ := int_of_shape (g := 0) (t := 3) (zero := #[.int .i64 0]) hs (of_decide_eq_true (by kernel_rfl)) (by kernel_rfl) rfl (by kernel_rfl) (by kernel_rfl) Tryd.underlying3
  refine ⟨⟨E1, z1, ?_⟩, ⟨m, _, fz, p3⟩⟩
  rw [p1]
theorem witness_laid (os : Os) (args : Array Value) : laidMetH Tryd.prog laid5 ((World.laidAll Tryd.prog os laid5).forCall (fun _ _ => 0) ⟨#[], args, []⟩).memory := by
  rw [MakeChecks.laidMetH_plain _ _ _ (by kernel_rfl)]; exact laidMet_laidAll _ (by kernel_rfl) (by kernel_rfl)

theorem rd_fieldN {α : Type} {P : Program} {t : TypeId} {fs : Array Field} {c : World → List Value → α → Prop} (ht : P.underlying t = some (.struct fs)) {H : Type} {enc : TypeId × Value → H} {w : World} {base : Nat} {spare : Nat → Bool} {held : Bool} {fuel : Nat} {cs : List Value} {x : DataW H × List MemPlace}
    (h : DataW.trod enc P w base spare held fuel t cs = some x) (i : Nat) {f : Field} (hf : fs[i]? = some f) (hc : Rd P f.type c) {o z : Nat} (ho : f.offset = o) (hz : P.cellsOf f.type = z) {vs : List Value} (hv : (cs.drop o).take z = vs) : ∃ a : α, c w vs a := by
  obtain ⟨_, hall⟩ := rd_fields ht h
  obtain ⟨n, y, hy⟩ := hall i f hf
  rw [ho, hz, hv] at hy
  exact hc _ _ _ _ _ _ _ _ _ hy
theorem rd_i : Rd Tryd.prog 3 (fun _ cs (n : Int) => cs = [I n]) := fun _ _ _ _ _ _ _ _ _ h => by
  obtain ⟨n, h1, _⟩ := rd_int Tryd.underlying3 _ _ _ _ _ _ _ _ _ h
  exact ⟨n, h1⟩
theorem rd_b : Rd Tryd.prog 4 (fun _ cs (n : Bool) => cs = [B n]) := rd_bool Tryd.underlying4
theorem rd_qos : Rd Tryd.prog 23 (fun _ cs (q : Qo) => cs = qC q.rel q.dur q.all q.dep q.dl q.ls q.le) := by
  intro H enc w base spare held fuel cs x h
  obtain ⟨hl, _⟩ := rd_fields Tryd.underlying23 h
  have hl : cs.length = 7 := hl.trans (by kernel_rfl)
  match cs, hl with
  | [c0, c1, c2, c3, c4, c5, c6], _ =>
    obtain ⟨k0, e0⟩ := rd_fieldN Tryd.underlying23 h 0 rfl rd_b (o := 0) rfl (z := 1) (by kernel_rfl) (vs := [c0]) rfl
    obtain ⟨k1, e1⟩ := rd_fieldN Tryd.underlying23 h 1 rfl rd_b (o := 1) rfl (z := 1) (by kernel_rfl) (vs := [c1]) rfl
    obtain ⟨k2, e2⟩ := rd_fieldN Tryd.underlying23 h 2 rfl rd_b (o := 2) rfl (z := 1) (by kernel_rfl) (vs := [c2]) rfl
    obtain ⟨k3, e3⟩ := rd_fieldN Tryd.underlying23 h 3 rfl rd_i (o := 3) rfl (z := 1) (by kernel_rfl) (vs := [c3]) rfl
    obtain ⟨k4, e4⟩ := rd_fieldN Tryd.underlying23 h 4 rfl rd_i (o := 4) rfl (z := 1) (by kernel_rfl) (vs := [c4]) rfl
    obtain ⟨k5, e5⟩ := rd_fieldN Tryd.underlying23 h 5 rfl rd_i (o := 5) rfl (z := 1) (by kernel_rfl) (vs := [c5]) rfl
    obtain ⟨k6, e6⟩ := rd_fieldN Tryd.underlying23 h 6 rfl rd_i (o := 6) rfl (z := 1) (by kernel_rfl) (vs := [c6]) rfl
    injection e0 with e0; injection e1 with e1; injection e2 with e2; injection e3 with e3; injection e4 with e4; injection e5 with e5; injection e6 with e6
    subst e0; subst e1; subst e2; subst e3; subst e4; subst e5; subst e6
    exact ⟨⟨k0, k1, k2, k3, k4, k5, k6⟩, rfl⟩
section
variable {H : Type} {enc : TypeId × Value → H} {W : World} {b0 base : Nat} {r : Reach} {sp : Nat → Bool} {held : Bool} {v : Value} {d : DataW H} {p : List MemPlace}
theorem qos_of (hv : Value.okWide Tryd.prog W r b0 23 v) (k : DataW.Trod enc Tryd.prog W base sp held 23 v d p) : ∃ r d a n x y z, v = qV r d a n x y z := by
  obtain ⟨cs, rfl, _⟩ := okWide_struct Tryd.underlying23 hv
  obtain ⟨⟨r, d, a, n, x, y, z⟩, h⟩ := rd_qos.of_trod k
  obtain ⟨l⟩ := cs
  have e2 : l = qC r d a n x y z := h
  subst e2
  exact ⟨r, d, a, n, x, y, z, rfl⟩
end
end Go.Proofs.YtkgioanjdbfcdaaDoor
