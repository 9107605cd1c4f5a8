/- Action servers: what the start of a call tells of the tables. No conditions. -/
import Derived.Test.YthkimkgphaiagaaGreatDoorMC
import Derived.Test.YthkimkgphaiagaaGreatDoorSvh
import Derived.Test.YthkimkgphaiagaaGreatDoorMA
import Derived.Test.YthkimkgphaiagaaGreatDoorRows
import Derived.Test.YthkimkgphaiagaaGreatDoorChecked
import Derived.Lib.LaidTab
import Derived.Stop.LaidErr

namespace Go.Proofs.YthkimkgphaiagaaGreatDoor
open Go.RowKit Go.ChangeShapes Go.WideShapes Go.Deep
set_option linter.unusedVariables false
set_option linter.unusedSimpArgs false

def deb64 : List Int := [0, 1, 56, 2, 57, 49, 28, 3, 61, 58, 42, 50, 38, 29, 17, 4, 62, 47, 59, 36, 45, 43, 51, 22, 53, 39, 33, 30, 24, 18, 12, 5, 63, 55, 48, 27, 60, 41, 37, 16, 46, 35, 44, 21, 52, 32, 23, 11, 54, 26, 40, 15, 34, 20, 31, 10, 25, 14, 19, 9, 13, 8, 7, 6]
def laid5 : List (String × DataW Unit) := [("math/bits.deBruijn32tab", Rows.laid_math_bits_deBruijn32tab), ("math/bits.deBruijn64tab", Rows.laid_math_bits_deBruijn64tab), ("internal/strconv.uint64pow10", Rows.laid_internal_strconv_uint64pow10), ("strconv.ErrRange", Rows.laid_strconv_ErrRange), ("strconv.ErrSyntax", Rows.laid_strconv_ErrSyntax)]
theorem var_heap {P : Program} {W : World} {n : String} {g : Nat} {cs : Array Value} (hg : P.globalNamed n = some g) (h : W.var? P n = some cs) : ∃ E fz, W.heap[g]? = some (.cells cs E fz) := by
  simp only [World.var?, hg, Option.bind_some] at h
  split at h
  · rename_i cs T fz hh
    injection h with h
    subst h
    exact ⟨_, _, hh⟩
  · cases h
theorem star_err : "*" ++ "errors.errorString" = "*errors.errorString" := by decide
set_option maxRecDepth 100000 in
theorem row_err (u : TypeId) (h : Tryz.prog.typeName? 3 u = some "*errors.errorString") : u = 178 :=
  typeName_ptr_named (nm := "errors.errorString") (by rw [star_err]; kernel_rfl) (by kernel_rfl) (by decide) u (by rw [star_err]; exact h)
set_option maxRecDepth 100000 in
theorem vars_of {W : World} (h : laidMetH Tryz.prog laid5 W) (hs : W.ShapedOpen Tryz.prog) : Vars W := by
  rw [MakeChecks.laidMetH_plain _ _ _ (by kernel_rfl)] at h
  have h2 : laidMet Tryz.prog (("internal/strconv.uint64pow10", Lib.tabData .u64 Lib.pow10Tab) :: [("strconv.ErrRange", Rows.laid_strconv_ErrRange), ("strconv.ErrSyntax", Rows.laid_strconv_ErrSyntax)]) W := h.tail.tail
  have t1 := Lib.tabIs_of_head (P := Tryz.prog) (g := 3) (t := 170) (e := 103) (n := 20) (by kernel_rfl) (by kernel_rfl) Tryz.underlying170 Tryz.underlying103 (by kernel_rfl) (by kernel_rfl) h2
  obtain ⟨E1, z1, p1⟩ := var_heap (g := 3) (by kernel_rfl) t1
  obtain ⟨a, s, t2, _⟩ := laid_sentinel (P := Tryz.prog) (g := 1) (ti := 135) (tp := 178) (te := 180) (ts := 9) h2.tail.tail (by kernel_rfl) (by kernel_rfl) Tryz.underlying135 row_err Tryz.underlying178 Tryz.underlying180 rfl rfl Tryz.underlying9 (by kernel_rfl) (by kernel_rfl)
  obtain ⟨E2, z2, p2⟩ := var_heap (g := 1) (by kernel_rfl) t2
  obtain ⟨m, fz, p3⟩ := int_of_shape (g := 0) (t := 3) (zero := #[.int .i64 0]) hs (of_decide_eq_true (by kernel_rfl)) (by kernel_rfl) rfl (by kernel_rfl) (by kernel_rfl) Tryz.underlying3
  refine ⟨⟨E1, z1, ?_⟩, ⟨m, _, fz, p3⟩, ⟨_, _, E2, z2, p2⟩⟩
  rw [p1]
theorem witness_laid (os : Os) (args : Array Value) : laidMetH Tryz.prog laid5 ((World.laidAll Tryz.prog os laid5).forCall (fun _ _ => 0) ⟨#[], args, []⟩).memory := by
  rw [MakeChecks.laidMetH_plain _ _ _ (by kernel_rfl)]; exact laidMet_laidAll _ (by kernel_rfl) (by kernel_rfl)

set_option maxRecDepth 100000 in
theorem deb_of {W : World} (h : laidMetH Tryz.prog laid5 W) : Deb W := by
  rw [MakeChecks.laidMetH_plain _ _ _ (by kernel_rfl)] at h
  have h2 : laidMet Tryz.prog (("math/bits.deBruijn64tab", Lib.tabData .u8 deb64) :: [("internal/strconv.uint64pow10", Rows.laid_internal_strconv_uint64pow10), ("strconv.ErrRange", Rows.laid_strconv_ErrRange), ("strconv.ErrSyntax", Rows.laid_strconv_ErrSyntax)]) W := h.tail
  have t1 := Lib.tabIs_of_head (P := Tryz.prog) (g := 5) (t := 183) (e := 5) (n := 64) (by kernel_rfl) (by kernel_rfl) Tryz.underlying183 Tryz.underlying5 (by kernel_rfl) (by kernel_rfl) h2
  obtain ⟨E1, z1, p1⟩ := var_heap (g := 5) (by kernel_rfl) t1
  exact ⟨_, E1, z1, p1, rfl⟩
theorem gb_of {W : World} (h : laidMetH Tryz.prog laid5 W) (hs : W.ShapedOpen Tryz.prog) : Gb W := ⟨vars_of h hs, deb_of h⟩
theorem rd_u8s : Rd Tryz.prog 44 (fun w cs (l : List Int) => ∃ v, cs = [v] ∧ Sls 1 (fun _ cs (n : Int) => cs = [.int .u8 n] ∧ IntKind.u8.min ≤ n ∧ n ≤ IntKind.u8.max) w v l ∧ l.length ≤ maxLen) :=
  rd_slice Tryz.underlying44 (by kernel_rfl) (by decide) (rd_int Tryz.underlying5)
end Go.Proofs.YthkimkgphaiagaaGreatDoor
