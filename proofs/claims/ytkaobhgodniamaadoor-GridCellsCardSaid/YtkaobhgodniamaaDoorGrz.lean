/- Grids: the arguments as they are read. No conditions. -/
import Derived.Test.YtkaobhgodniamaaDoorGrq
namespace Go.Proofs.YtkaobhgodniamaaDoor
open Go.RowKit Go.ChangeShapes Go.WideShapes Go.Deep
set_option linter.unusedVariables false
set_option linter.unusedSimpArgs false

theorem rd_point : Rd Tryd.prog 35 (fun _ cs (x : Int × Int) => cs = pc x ∧ (-9223372036854775808 ≤ x.1 ∧ x.1 ≤ 9223372036854775807) ∧ (-9223372036854775808 ≤ x.2 ∧ x.2 ≤ 9223372036854775807)) := by
  intro H enc w base spare held fuel cs x h
  obtain ⟨hl, _⟩ := rd_fields Tryd.underlying35 h
  have hl : cs.length = 2 := hl.trans (by kernel_rfl)
  match cs, hl with
  | [c0, c1], _ =>
    obtain ⟨k0, e0, r0⟩ := rd_field1 Tryd.underlying35 (by kernel_rfl) h 0 rfl (rd_int Tryd.underlying3) rfl
    obtain ⟨k1, e1, r1⟩ := rd_field1 Tryd.underlying35 (by kernel_rfl) h 1 rfl (rd_int Tryd.underlying3) rfl
    injection e0 with e0; injection e1 with e1
    subst e0; subst e1
    exact ⟨(k0, k1), rfl, rg_i64 r0, rg_i64 r1⟩
theorem rd_u8s : Rd Tryd.prog 22 (fun w cs (l : List Int) => ∃ v, cs = [v] ∧ Sls 1 (fun _ cs (n : Int) => cs = [.int .u8 n] ∧ IntKind.u8.min ≤ n ∧ n ≤ IntKind.u8.max) w v l ∧ l.length ≤ maxLen) :=
  rd_slice Tryd.underlying22 (by kernel_rfl) (by decide) (rd_int Tryd.underlying5)
theorem rd_grid : Rd Tryd.prog 24 (fun w cs (g : Int × Int × List Int) => ∃ v, cs = [I g.1, I g.2.1, v] ∧ Byt g.2.2 ∧ SlAt w v 1 (g.2.2.map u8c) ∧ g.2.2.length ≤ maxLen) := by
  intro H enc w base spare held fuel cs x h
  obtain ⟨hl, _⟩ := rd_fields Tryd.underlying24 h
  have hl : cs.length = 3 := hl.trans (by kernel_rfl)
  match cs, hl with
  | [c0, c1, c2], _ =>
    obtain ⟨k0, e0, r0⟩ := rd_field1 Tryd.underlying24 (by kernel_rfl) h 0 rfl (rd_int Tryd.underlying3) rfl
    obtain ⟨k1, e1, r1⟩ := rd_field1 Tryd.underlying24 (by kernel_rfl) h 1 rfl (rd_int Tryd.underlying3) rfl
    obtain ⟨l, v, e2, hs, hm⟩ := rd_field1 Tryd.underlying24 (by kernel_rfl) h 2 rfl rd_u8s rfl
    injection e0 with e0; injection e1 with e1; injection e2 with e2
    subst e0; subst e1; subst e2
    refine ⟨(k0, k1, l), _, rfl, ?_, hs.at (fun x a hx => hx.1), hm⟩
    intro c hc
    obtain ⟨i, hi⟩ := List.getElem?_of_mem hc
    obtain ⟨_, hx⟩ := hs.each hi
    exact rg_u8 hx.2
section
variable {H : Type} {enc : TypeId × Value → H} {W : World} {b0 base : Nat} {r : Reach} {sp : Nat → Bool} {held : Bool} {v : Value} {d : DataW H} {p : List MemPlace}
theorem point_of (hv : Value.okWide Tryd.prog W r b0 35 v) (k : DataW.Trod enc Tryd.prog W base sp held 35 v d p) :
    ∃ x y, v = pV x y ∧ (-9223372036854775808 ≤ x ∧ x ≤ 9223372036854775807) ∧ (-9223372036854775808 ≤ y ∧ y ≤ 9223372036854775807) := by
  obtain ⟨cs, rfl, _⟩ := okWide_struct Tryd.underlying35 hv
  obtain ⟨⟨x, y⟩, e, h1, h2⟩ := rd_point.of_trod k
  obtain ⟨l⟩ := cs
  have e2 : l = [I x, I y] := e
  subst e2
  exact ⟨x, y, rfl, h1, h2⟩
theorem grid_of (hv : Value.okWide Tryd.prog W r b0 24 v) (k : DataW.Trod enc Tryd.prog W base sp held 24 v d p) :
    ∃ gw gh u cs, v = gV gw gh u ∧ Byt cs ∧ SlAt W u 1 (cs.map u8c) ∧ cs.length ≤ maxLen := by
  obtain ⟨cs, rfl, _⟩ := okWide_struct Tryd.underlying24 hv
  obtain ⟨⟨x, y, l0⟩, u, e, h1, h2, h3⟩ := rd_grid.of_trod k
  obtain ⟨l⟩ := cs
  have e2 : l = [I x, I y, u] := e
  subst e2
  exact ⟨x, y, u, l0, rfl, h1, h2, h3⟩
end
end Go.Proofs.YtkaobhgodniamaaDoor
