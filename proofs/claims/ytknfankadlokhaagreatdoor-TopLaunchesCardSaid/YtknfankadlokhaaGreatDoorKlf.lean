/- The start of TopLaunches: the listed variables, and what they tell of the lifecycle's table. No conditions. -/
import Derived.Test.YtknfankadlokhaaGreatDoorKlb
import Derived.Test.YtknfankadlokhaaGreatDoorLhv
import Derived.Test.YtknfankadlokhaaGreatDoorChecked
import Derived.Lib.LaidU8

namespace Go.Proofs.YtknfankadlokhaaGreatDoor
open Go.RowKit Go.ChangeShapes Go.WideShapes Go.Deep
set_option linter.unusedVariables false
set_option linter.unusedSimpArgs false
set_option maxRecDepth 100000

def laid3 : List (String × DataW Unit) := [("robotics/lifecycle.rules", Rows.laid_robotics_lifecycle_rules), ("unicode/utf8.acceptRanges", Rows.laid_unicode_utf8_acceptRanges), ("unicode/utf8.first", Rows.laid_unicode_utf8_first)]
theorem witness_laid (os : Os) (args : Array Value) : laidMetH Tryz.prog laid3 ((World.laidAll Tryz.prog os laid3).forCall (fun _ _ => 0) ⟨#[], args, []⟩).memory := by
  rw [MakeChecks.laidMetH_plain _ _ _ (by kernel_rfl)]; exact laidMet_laidAll _ (by kernel_rfl) (by kernel_rfl)
theorem bool_lit {H : Type} {enc : TypeId × Value → H} {w : World} {base : Nat} {sp : Nat → Bool} {held : Bool} {fuel : Nat} {v : List Value} {b : Bool} {p : List MemPlace} (h : DataW.trod enc Tryz.prog w base sp held fuel 4 v = some (.lit (.bool b), p)) : v = [B b] := by
  obtain ⟨c, rfl, e⟩ := DataW.trod_bool Tryz.underlying4 h
  injection e with e _
  injection e with e
  injection e with e
  subst e; rfl
theorem int_lit {H : Type} {enc : TypeId × Value → H} {w : World} {base : Nat} {sp : Nat → Bool} {held : Bool} {fuel : Nat} {v : List Value} {b : Int} {p : List MemPlace} (h : DataW.trod enc Tryz.prog w base sp held fuel 3 v = some (.lit (.int .i64 b), p)) : v = [I b] := by
  obtain ⟨c, rfl, e, _⟩ := DataW.trod_int Tryz.underlying3 h
  injection e with e _
  injection e with e
  injection e with _ e
  subst e; rfl
theorem rule_cells {H : Type} {enc : TypeId × Value → H} {w : World} {base : Nat} {sp : Nat → Bool} {held : Bool} {fuel : Nat} {cs : List Value} {a b c d : Bool} {g f : Int} {p : List MemPlace} (h : DataW.trod enc Tryz.prog w base sp held fuel 131 cs = some (.agg [.agg [.lit (.bool a), .lit (.bool b), .lit (.bool c), .lit (.bool d)], .lit (.int .i64 g), .lit (.int .i64 f)], p)) : cs = [B a, B b, B c, B d, I g, I f] := by
  obtain ⟨xs, n, hfn, hx, hl, hxl, hg⟩ := DataW.trod_struct Tryz.underlying131 h
  have hl : cs.length = 6 := hl.trans (by kernel_rfl)
  have hxl : xs.length = 3 := hxl
  match cs, hl, xs, hxl, hg, hx with
  | [c0, c1, c2, c3, c4, c5], _, [x0, x1, x2], _, hg, hx =>
    have g0 := trod_field hg 0 rfl (o := 0) rfl (z := 4) (by kernel_rfl) (vs := [c0, c1, c2, c3]) rfl (xi := x0) rfl
    have g1 := trod_field hg 1 rfl (o := 4) rfl (z := 1) (by kernel_rfl) (vs := [c4]) rfl (xi := x1) rfl
    have g2 := trod_field hg 2 rfl (o := 5) rfl (z := 1) (by kernel_rfl) (vs := [c5]) rfl (xi := x2) rfl
    obtain ⟨d0, q0⟩ := x0
    obtain ⟨d1, q1⟩ := x1
    obtain ⟨d2, q2⟩ := x2
    injection hx with hx _
    simp only [List.map_cons, List.map_nil, DataW.agg.injEq, List.cons.injEq, and_true] at hx
    obtain ⟨rfl, rfl, rfl⟩ := hx
    have e4 := int_lit g1
    have e5 := int_lit g2
    have key : ∀ i, i < 4 → ∃ fuel' dd q, [(DataW.lit (.bool a) : DataW H), .lit (.bool b), .lit (.bool c), .lit (.bool d)][i]? = some dd ∧ DataW.trod enc Tryz.prog w base sp held fuel' 4 (([c0, c1, c2, c3].drop (i * 1)).take 1) = some (dd, q) := fun i hi => Go.Lib.array_elem (e := 4) Tryz.underlying129 g0 i hi
    obtain ⟨_, _, _, r0, s0⟩ := key 0 (by decide)
    obtain ⟨_, _, _, r1, s1⟩ := key 1 (by decide)
    obtain ⟨_, _, _, r2, s2⟩ := key 2 (by decide)
    obtain ⟨_, _, _, r3, s3⟩ := key 3 (by decide)
    injection r0 with r0; injection r1 with r1; injection r2 with r2; injection r3 with r3
    subst r0 r1 r2 r3
    have t0 := bool_lit s0
    have t1 := bool_lit s1
    have t2 := bool_lit s2
    have t3 := bool_lit s3
    injection t0 with t0; injection t1 with t1; injection t2 with t2; injection t3 with t3
    injection e4 with e4; injection e5 with e5
    subst t0 t1 t2 t3 e4 e5
    rfl
theorem rules_of {W : World} (h : laidMetH Tryz.prog laid3 W) : Ru W := by
  rw [MakeChecks.laidMetH_plain _ _ _ (by kernel_rfl)] at h
  obtain ⟨g, t, cs, fuel, p, hg, hty, hvar, hd⟩ := Go.Lib.laidMet.reads h (n := "robotics/lifecycle.rules") (d := Rows.laid_robotics_lifecycle_rules) (List.mem_cons_self ..)
  obtain rfl := Option.some.inj ((show Tryz.prog.globalNamed "robotics/lifecycle.rules" = some 0 by kernel_rfl).symm.trans hg)
  obtain rfl := Option.some.inj ((show (Tryz.prog.globals[0]?).map (·.type) = some 132 by kernel_rfl).symm.trans hty)
  have hh : ∃ E fz, W.heap[0]? = some (.cells cs E fz) := by
    simp only [World.var?, hg, Option.bind_some] at hvar
    split at hvar
    · rename_i cs' T fz hc
      injection hvar with hvar
      subst hvar
      exact ⟨_, _, hc⟩
    · cases hvar
  obtain ⟨E, fz, hc⟩ := hh
  obtain ⟨_, _, _, r0, s0⟩ := Go.Lib.array_elem Tryz.underlying132 hd 0 (by decide)
  obtain ⟨_, _, _, r1, s1⟩ := Go.Lib.array_elem Tryz.underlying132 hd 1 (by decide)
  injection r0 with r0; injection r1 with r1
  subst r0 r1
  rw [show Tryz.prog.cellsOf 131 = 6 by kernel_rfl] at s0 s1
  exact ⟨cs.toList, E, fz, hc, rule_cells s0, rule_cells s1⟩
end Go.Proofs.YtknfankadlokhaaGreatDoor
