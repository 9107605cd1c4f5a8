/- The laws Once and Plays: a setup as it is read. No conditions. -/
import Derived.Test.YtndkifkaejmibaaGreatDoorSvx
import Derived.Test.YtndkifkaejmibaaGreatDoorSwe

namespace Go.Proofs.YtndkifkaejmibaaGreatDoor
open Go.RowKit Go.ChangeShapes Go.WideShapes Go.Deep
set_option linter.unusedVariables false
set_option linter.unusedSimpArgs false

theorem rd_fieldN {α : Type} {P : Program} {t : TypeId} {fs : Array Field} {c : World → List Value → α → Prop} (ht : P.underlying t = some (.struct fs)) {H : Type} {enc : TypeId × Value → H} {w : World} {base : Nat} {spare : Nat → Bool} {held : Bool} {fuel : Nat} {cs : List Value} {x : DataW H × List MemPlace}
    (h : DataW.trod enc P w base spare held fuel t cs = some x) (i : Nat) {f : Field} (hf : fs[i]? = some f) (hc : Rd P f.type c) {o z : Nat} (ho : f.offset = o) (hz : P.cellsOf f.type = z) {vs : List Value} (hv : (cs.drop o).take z = vs) : ∃ a : α, c w vs a := by
  obtain ⟨_, hall⟩ := rd_fields ht h
  obtain ⟨n, y, hy⟩ := hall i f hf
  rw [ho, hz, hv] at hy
  exact hc _ _ _ _ _ _ _ _ _ hy
theorem rd_i : Rd Tryz.prog 3 (fun _ cs (n : Int) => cs = [I n] ∧ -9223372036854775808 ≤ n ∧ n ≤ 9223372036854775807) := fun _ _ _ _ _ _ _ _ _ h => by
  obtain ⟨n, h1, h2, h3⟩ := rd_int Tryz.underlying3 _ _ _ _ _ _ _ _ _ h
  exact ⟨n, h1, by simpa [IntKind.min, IntKind.max, IntKind.signed, IntKind.bits] using h2, by simpa [IntKind.min, IntKind.max, IntKind.signed, IntKind.bits] using h3⟩
theorem rd_s : Rd Tryz.prog 9 (fun _ cs (l : List UInt8) => cs = [S l] ∧ l.length ≤ 9223372036854775807) := fun _ _ _ _ _ _ _ _ _ h => by
  obtain ⟨n, h1, h2⟩ := rd_string Tryz.underlying9 _ _ _ _ _ _ _ _ _ h
  exact ⟨n, h1, h2⟩
theorem rd_u8 : Rd Tryz.prog 5 (fun _ cs (n : Int) => cs = [.int .u8 n] ∧ 0 ≤ n ∧ n ≤ 255) := fun _ _ _ _ _ _ _ _ _ h => by
  obtain ⟨n, h1, h2, h3⟩ := rd_int Tryz.underlying5 _ _ _ _ _ _ _ _ _ h
  exact ⟨n, h1, by simpa [IntKind.min, IntKind.max, IntKind.signed, IntKind.bits] using h2, by simpa [IntKind.min, IntKind.max, IntKind.signed, IntKind.bits] using h3⟩
set_option maxRecDepth 100000 in
theorem rd_id : Rd Tryz.prog 33 (fun _ cs (x : Int × Int) => cs = [I x.1, I x.2]) := by
  intro H enc w base spare held fuel cs x h
  obtain ⟨hl, _⟩ := rd_fields Tryz.underlying33 h
  have hl : cs.length = 2 := hl.trans (by kernel_rfl)
  match cs, hl with
  | [c0, c1], _ =>
    obtain ⟨k0, e0, _⟩ := rd_fieldN Tryz.underlying33 h 0 rfl rd_i (o := 0) rfl (z := 1) (by kernel_rfl) (vs := [c0]) rfl
    obtain ⟨k1, e1, _⟩ := rd_fieldN Tryz.underlying33 h 1 rfl rd_i (o := 1) rfl (z := 1) (by kernel_rfl) (vs := [c1]) rfl
    injection e0 with e0; injection e1 with e1
    subst e0; subst e1
    exact ⟨(k0, k1), rfl⟩
set_option maxRecDepth 100000 in
theorem rd_op : Rd Tryz.prog 52 (fun _ cs (x : OpR) => cs = x.cells ∧ ((0 ≤ x.kd ∧ x.kd ≤ 255) ∧ x.sp ≤ 9223372036854775807) ∧ x.tx.length ≤ 9223372036854775807) := by
  intro H enc w base spare held fuel cs x h
  obtain ⟨hl, _⟩ := rd_fields Tryz.underlying52 h
  have hl : cs.length = 7 := hl.trans (by kernel_rfl)
  match cs, hl with
  | [c0, c1, c2, c3, c4, c5, c6], _ =>
    obtain ⟨k0, e0, f0⟩ := rd_fieldN Tryz.underlying52 h 0 rfl rd_u8 (o := 0) rfl (z := 1) (by kernel_rfl) (vs := [c0]) rfl
    obtain ⟨k1, e1⟩ := rd_fieldN Tryz.underlying52 h 1 rfl rd_id (o := 1) rfl (z := 2) (by kernel_rfl) (vs := [c1, c2]) rfl
    obtain ⟨k3, e3, _⟩ := rd_fieldN Tryz.underlying52 h 2 rfl rd_i (o := 3) rfl (z := 1) (by kernel_rfl) (vs := [c3]) rfl
    obtain ⟨k4, e4, _, f4⟩ := rd_fieldN Tryz.underlying52 h 3 rfl rd_i (o := 4) rfl (z := 1) (by kernel_rfl) (vs := [c4]) rfl
    obtain ⟨k5, e5, _⟩ := rd_fieldN Tryz.underlying52 h 4 rfl rd_i (o := 5) rfl (z := 1) (by kernel_rfl) (vs := [c5]) rfl
    obtain ⟨k6, e6, f6⟩ := rd_fieldN Tryz.underlying52 h 5 rfl rd_s (o := 6) rfl (z := 1) (by kernel_rfl) (vs := [c6]) rfl
    injection e0 with e0; injection e1 with e1 e2; injection e2 with e2; injection e3 with e3; injection e4 with e4; injection e5 with e5; injection e6 with e6
    subst e0; subst e1; subst e2; subst e3; subst e4; subst e5; subst e6
    exact ⟨⟨k0, k1.1, k1.2, k3, k4, k5, k6⟩, rfl, ⟨f0, f4⟩, f6⟩
set_option maxRecDepth 100000 in
theorem rd_ops : Rd Tryz.prog 43 (fun w cs (l : List OpR) => ∃ v, cs = [v] ∧ SlAt w v 7 (l.map OpR.cells) ∧ l.length ≤ 9223372036854775807 ∧ (∀ x ∈ l, (0 ≤ x.kd ∧ x.kd ≤ 255) ∧ x.sp ≤ 9223372036854775807) ∧ (∀ x ∈ l, x.tx.length ≤ 9223372036854775807)) := by
  intro H enc w base spare held fuel cs x h
  obtain ⟨l, v, e, hs, hm⟩ := rd_slice (z := 7) Tryz.underlying43 (by kernel_rfl) (by decide) rd_op _ _ _ _ _ _ _ _ _ h
  have hall : ∀ x ∈ l, ((0 ≤ x.kd ∧ x.kd ≤ 255) ∧ x.sp ≤ 9223372036854775807) ∧ x.tx.length ≤ 9223372036854775807 := by
    intro x hx
    obtain ⟨i, hi⟩ := List.mem_iff_getElem?.1 hx
    obtain ⟨y, hy⟩ := hs.each hi
    exact hy.2
  exact ⟨l, v, e, hs.at (fun x a hx => hx.1), hm, fun x hx => (hall x hx).1, fun x hx => (hall x hx).2⟩
set_option maxRecDepth 100000 in
theorem rd_setup : Rd Tryz.prog 45 (fun w cs (x : Int × Int × Int × List OpR) => ∃ v, cs = [I x.1, I x.2.1, I x.2.2.1, v] ∧ SlAt w v 7 (x.2.2.2.map OpR.cells) ∧ x.2.2.2.length ≤ 9223372036854775807 ∧ (∀ y ∈ x.2.2.2, (0 ≤ y.kd ∧ y.kd ≤ 255) ∧ y.sp ≤ 9223372036854775807) ∧ (∀ y ∈ x.2.2.2, y.tx.length ≤ 9223372036854775807)) := by
  intro H enc w base spare held fuel cs x h
  obtain ⟨hl, _⟩ := rd_fields Tryz.underlying45 h
  have hl : cs.length = 4 := hl.trans (by kernel_rfl)
  match cs, hl with
  | [c0, c1, c2, c3], _ =>
    obtain ⟨k0, e0, _⟩ := rd_fieldN Tryz.underlying45 h 0 rfl rd_i (o := 0) rfl (z := 1) (by kernel_rfl) (vs := [c0]) rfl
    obtain ⟨k1, e1, _⟩ := rd_fieldN Tryz.underlying45 h 1 rfl rd_i (o := 1) rfl (z := 1) (by kernel_rfl) (vs := [c1]) rfl
    obtain ⟨k2, e2, _⟩ := rd_fieldN Tryz.underlying45 h 2 rfl rd_i (o := 2) rfl (z := 1) (by kernel_rfl) (vs := [c2]) rfl
    obtain ⟨l, v, e3, f1, f2, f3, f4⟩ := rd_fieldN Tryz.underlying45 h 3 rfl rd_ops (o := 3) rfl (z := 1) (by kernel_rfl) (vs := [c3]) rfl
    injection e0 with e0; injection e1 with e1; injection e2 with e2; injection e3 with e3
    subst e0; subst e1; subst e2; subst e3
    exact ⟨(k0, k1, k2, l), c3, rfl, f1, f2, f3, f4⟩
section
variable {H : Type} {enc : TypeId × Value → H} {W : World} {b0 base : Nat} {r : Reach} {sp : Nat → Bool} {held : Bool} {v : Value} {d : DataW H} {p : List MemPlace}
set_option maxRecDepth 100000 in
theorem setup_of (hv : Value.okWide Tryz.prog W r b0 45 v) (k : DataW.Trod enc Tryz.prog W base sp held 45 v d p) : ∃ (pol lim size : Int) (sv : Value) (ops : List OpR), v = .agg ⟨[I pol, I lim, I size, sv]⟩ ∧ SlAt W sv 7 (ops.map OpR.cells) ∧ ops.length ≤ 9223372036854775807 ∧ (∀ y ∈ ops, (0 ≤ y.kd ∧ y.kd ≤ 255) ∧ y.sp ≤ 9223372036854775807) ∧ (∀ y ∈ ops, y.tx.length ≤ 9223372036854775807) := by
  obtain ⟨cs, rfl, _⟩ := okWide_struct Tryz.underlying45 hv
  obtain ⟨⟨a, b, c, l⟩, w, h, h1, h2, h3, h4⟩ := rd_setup.of_trod k
  obtain ⟨cl⟩ := cs
  have e2 : cl = [I a, I b, I c, w] := h
  subst e2
  exact ⟨a, b, c, w, l, rfl, h1, h2, h3, h4⟩
end
end Go.Proofs.YtndkifkaejmibaaGreatDoor
