/- Frames, as the specification reads them. No conditions. -/
import Derived.Test.YthkimkgphaiagaaGreatDoorME
import Derived.Test.YthkimkgphaiagaaGreatDoorMC

namespace Go.Proofs.YthkimkgphaiagaaGreatDoor
open Go.RowKit
set_option maxRecDepth 4000
set_option linter.unusedVariables false
set_option linter.unusedSimpArgs false
set_option maxHeartbeats 4000000

abbrev rdV (s : List UInt8) (a : Nat) (e : Int) : Value := .agg ⟨[S s, I (a : Int), I e]⟩
end Go.Proofs.YthkimkgphaiagaaGreatDoor

namespace Go.Proofs.YthkimkgphaiagaaGreatDoor
open Go.RowKit
set_option maxRecDepth 4000
set_option linter.unusedVariables false
set_option linter.unusedSimpArgs false
set_option maxHeartbeats 4000000

/-! ## Lists of texts -/
abbrev tc (s : List UInt8) : List Value := [S s]
theorem strs_flat (l : List (List UInt8)) : strs l = l.flatMap tc := by
  induction l with
  | nil => rfl
  | cons x l ih => rw [strs, List.map_cons, List.flatMap_cons, ← ih]; rfl
theorem own_tc {l : List (List UInt8)} {v : Value} {e : TypeId} {H1 : List (Nat × Obj)} {w : World} (h : OwnSl v e 1 (strs l) l.length H1) (hh : Has w H1) : SlAt w v 1 (l.map tc) :=
  OwnSl.slAt (f := tc) (fun _ => rfl) (by rw [strs_flat] at h; exact h) hh
theorem fl_tc (l : List (List UInt8)) : (l.map tc).flatten = strs l := by
  induction l with
  | nil => rfl
  | cons x l ih => rw [List.map_cons, List.flatten_cons, ih]; rfl
theorem one_tc (l : List (List UInt8)) : (l.map tc).flatten.all oneV = true := by
  rw [fl_tc]
  induction l with
  | nil => rfl
  | cons x l ih => exact ih
theorem sclone_any {w0 : World} {v0 : Value} {l : List (List UInt8)} (hs : SlAt w0 v0 1 (l.map tc)) (hlen : l.length ≤ 1000000000) : Cl Tryz.prog 57 [v0] w0 (fun v w' => ∃ H1, OwnSl v 9 1 (strs l) l.length H1 ∧ St w0 NoneS H1 w') := by
  have hSt := St.refl w0 NoneS
  have hs' := hs
  obtain ⟨a, cap, rfl, hcs⟩ := hs'.map
  refine enter Tryz.func57 rfl Tryz.ntmps57 rfl ?_
  cases a with
  | none =>
    have h0 : l = [] := by
      cases l with
      | nil => rfl
      | cons c cs => obtain ⟨b, off, _, _, _, h, _⟩ := hcs 0 c rfl; cases h
    subst h0
    repeat' (first | refine stepA ?_ | (refine stepS ?_; clear hSt; intro w hSt; dsimp only [spl, List.set] at hSt) | (refine stepB ?_; clear hSt; intro w nb hnb hSt; dsimp only [zcells, List.nil_append, List.cons_append] at hSt) | (refine stepG ?_ ?_ <;> intro hc <;> (try exact absA) <;> (fail_if_success (change true = true at hc)) <;> (fail_if_success (change false = false at hc))) | fail)
    exact ret1 rfl rfl ⟨[], OwnSl.nil _ _, hSt⟩
  | some a =>
    repeat' (first | (refine WL_buildSlice0 hT rfl rfl rfl hSt ?_; clear hSt; intro w zb hzb hSt; dsimp only [List.nil_append, List.cons_append] at hSt) | refine stepA ?_ | (refine stepS ?_; clear hSt; intro w hSt; dsimp only [spl, List.set] at hSt) | (refine stepB ?_; clear hSt; intro w nb hnb hSt; dsimp only [zcells, List.nil_append, List.cons_append] at hSt) | (refine stepG ?_ ?_ <;> intro hc <;> (try exact absA) <;> (fail_if_success (change true = true at hc)) <;> (fail_if_success (change false = false at hc))) | fail)
    refine WL_appendS (H0 := []) (H2 := []) hT rfl rfl rfl rfl rfl rfl rfl (by simpa using hSt) (OwnSl.zero zb _ _) (hs.later hSt (fun _ e => e)) (one_tc l) (by simp; omega) (by simp; omega) ?_
    intro v' w' H1' ho hSt'
    repeat' (first | refine stepA ?_ | (refine stepS ?_; clear hSt; intro w hSt; dsimp only [spl, List.set] at hSt) | (refine stepB ?_; clear hSt; intro w nb hnb hSt; dsimp only [zcells, List.nil_append, List.cons_append] at hSt) | (refine stepG ?_ ?_ <;> intro hc <;> (try exact absA) <;> (fail_if_success (change true = true at hc)) <;> (fail_if_success (change false = false at hc))) | fail)
    refine ret1 rfl rfl ⟨H1', ?_, by simpa using hSt'⟩
    rw [fl_tc] at ho
    simpa using ho

/-! ## The valid prefix -/
end Go.Proofs.YthkimkgphaiagaaGreatDoor
