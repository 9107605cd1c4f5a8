/- Journals: what the start of a call tells of the tables; the arguments as they are read. No conditions. -/
import Derived.Test.YtmlbgdhkacajaaaDoorRl
import Derived.Test.YtmlbgdhkacajaaaDoorJoh
import Derived.Test.YtmlbgdhkacajaaaDoorRows
import Derived.Test.YtmlbgdhkacajaaaDoorChecked
import Derived.Lib.LaidTab
import Derived.Stop.LaidErr
namespace Go.Proofs.YtmlbgdhkacajaaaDoor
open Go.RowKit Go.ChangeShapes Go.WideShapes Go.Deep
set_option linter.unusedVariables false
set_option linter.unusedSimpArgs false

def laid3 : List (String × DataW Unit) := [("math/bits.deBruijn32tab", Rows.laid_math_bits_deBruijn32tab), ("math/bits.deBruijn64tab", Rows.laid_math_bits_deBruijn64tab), ("internal/strconv.uint64pow10", Rows.laid_internal_strconv_uint64pow10)]
def deb64 : List Int := [0, 1, 56, 2, 57, 49, 28, 3, 61, 58, 42, 50, 38, 29, 17, 4, 62, 47, 59, 36, 45, 43, 51, 22, 53, 39, 33, 30, 24, 18, 12, 5, 63, 55, 48, 27, 60, 41, 37, 16, 46, 35, 44, 21, 52, 32, 23, 11, 54, 26, 40, 15, 34, 20, 31, 10, 25, 14, 19, 9, 13, 8, 7, 6]
theorem var_heap {P : Program} {W : World} {n : String} {g : Nat} {cs : Array Value} (hg : P.globalNamed n = some g) (h : W.var? P n = some cs) : ∃ E fz, W.heap[g]? = some (.cells cs E fz) := by
  simp only [World.var?, hg, Option.bind_some] at h
  split at h
  · rename_i cs T fz hh
    injection h with h
    subst h
    exact ⟨_, _, hh⟩
  · cases h
set_option maxRecDepth 100000 in
theorem deb_of {W : World} (h : laidMetH Tryd.prog laid3 W) : Deb W := by
  rw [MakeChecks.laidMetH_plain _ _ _ (by kernel_rfl)] at h
  have h2 : laidMet Tryd.prog (("math/bits.deBruijn64tab", Lib.tabData .u8 deb64) :: [("internal/strconv.uint64pow10", Rows.laid_internal_strconv_uint64pow10)]) W := h.tail
  have t1 := Lib.tabIs_of_head (P := Tryd.prog) (g := 2) (t := 118) (e := 5) (n := 64) (by kernel_rfl) (by kernel_rfl) Tryd.underlying118 Tryd.underlying5 (by kernel_rfl) (by kernel_rfl) h2
  obtain ⟨E1, z1, p1⟩ := var_heap (g := 2) (by kernel_rfl) t1
  exact ⟨_, E1, z1, p1, rfl⟩
theorem witness_laid (os : Os) (args : Array Value) : laidMetH Tryd.prog laid3 ((World.laidAll Tryd.prog os laid3).forCall (fun _ _ => 0) ⟨#[], args, []⟩).memory := by
  rw [MakeChecks.laidMetH_plain _ _ _ (by kernel_rfl)]; exact laidMet_laidAll _ (by kernel_rfl) (by kernel_rfl)

theorem rd_fieldN {α : Type} {P : Program} {t : TypeId} {fs : Array Field} {c : World → List Value → α → Prop} (ht : P.underlying t = some (.struct fs)) {H : Type} {enc : TypeId × Value → H} {w : World} {base : Nat} {spare : Nat → Bool} {held : Bool} {fuel : Nat} {cs : List Value} {x : DataW H × List MemPlace}
    (h : DataW.trod enc P w base spare held fuel t cs = some x) (i : Nat) {f : Field} (hf : fs[i]? = some f) (hc : Rd P f.type c) {o z : Nat} (ho : f.offset = o) (hz : P.cellsOf f.type = z) {vs : List Value} (hv : (cs.drop o).take z = vs) : ∃ a : α, c w vs a := by
  obtain ⟨_, hall⟩ := rd_fields ht h
  obtain ⟨n, y, hy⟩ := hall i f hf
  rw [ho, hz, hv] at hy
  exact hc _ _ _ _ _ _ _ _ _ hy
theorem rd_i : Rd Tryd.prog 3 (fun _ cs (n : Int) => cs = [I n] ∧ -9223372036854775808 ≤ n ∧ n ≤ 9223372036854775807) := fun _ _ _ _ _ _ _ _ _ h => by
  obtain ⟨n, h1, h2, h3⟩ := rd_int Tryd.underlying3 _ _ _ _ _ _ _ _ _ h
  exact ⟨n, h1, by simpa [IntKind.min, IntKind.max, IntKind.signed, IntKind.bits] using h2, by simpa [IntKind.min, IntKind.max, IntKind.signed, IntKind.bits] using h3⟩
theorem rd_s : Rd Tryd.prog 9 (fun _ cs (l : List UInt8) => cs = [S l] ∧ l.length ≤ 9223372036854775807) := fun _ _ _ _ _ _ _ _ _ h => by
  obtain ⟨n, h1, h2⟩ := rd_string Tryd.underlying9 _ _ _ _ _ _ _ _ _ h
  exact ⟨n, h1, h2⟩
theorem rd_texts : Rd Tryd.prog 24 (fun w cs (l : List (List UInt8)) => ∃ v, cs = [v] ∧ SlAt w v 1 (l.map tc) ∧ l.length ≤ maxLen ∧ ∀ a k c, v = .slice a k c → k ≤ c) := by
  intro H enc w base spare held fuel cs x h
  obtain ⟨l, v, e, hs, hm⟩ := rd_slice (z := 1) Tryd.underlying24 (by kernel_rfl) (by decide) rd_s _ _ _ _ _ _ _ _ _ h
  refine ⟨l, v, e, hs.at (fun x a hx => hx.1), hm, ?_⟩
  rcases open_slice Tryd.underlying24 h with ⟨hcs, _⟩ | ⟨a, len, cap, m, n, D, Pl, hcs, _, hl, _⟩
  · rw [e] at hcs
    injection hcs with hcs
    subst hcs
    intro a k c hh
    injection hh with _ h1 h2
    omega
  · rw [e] at hcs
    injection hcs with hcs
    subst hcs
    intro a k c hh
    injection hh with _ h1 h2
    omega
section
variable {H : Type} {enc : TypeId × Value → H} {W : World} {b0 base : Nat} {r : Reach} {sp : Nat → Bool} {held : Bool} {v : Value} {d : DataW H} {p : List MemPlace}
set_option maxRecDepth 100000 in
theorem u64_of (hv : Value.okWide Tryd.prog W r b0 22 v) (k : DataW.Trod enc Tryd.prog W base sp held 22 v d p) : ∃ n : Nat, v = U n ∧ n < 18446744073709551616 := by
  obtain ⟨a, rfl, _, _, w⟩ := open_int Tryd.underlying22 hv k
  have := rg_u64 (wf_range w)
  exact ⟨a.toNat, by rw [U, Int.toNat_of_nonneg this.1], by omega⟩
set_option maxRecDepth 100000 in
theorem texts_of (hv : Value.okWide Tryd.prog W r b0 24 v) (k : DataW.Trod enc Tryd.prog W base sp held 24 v d p) : ∃ l : List (List UInt8), SlAt W v 1 (l.map tc) ∧ l.length ≤ 9223372036854775807 ∧ ∀ a k c, v = .slice a k c → k ≤ c := by
  obtain ⟨a, len, cap, rfl⟩ := okWide_slice Tryd.underlying24 hv
  obtain ⟨l, u, e, h1, h2, h3⟩ := rd_texts.of_trod k
  injection e with e
  subst e
  exact ⟨l, h1, h2, h3⟩
end
end Go.Proofs.YtmlbgdhkacajaaaDoor
