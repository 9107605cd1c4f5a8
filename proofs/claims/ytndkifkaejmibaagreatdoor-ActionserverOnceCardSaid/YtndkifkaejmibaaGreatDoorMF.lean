/- Frames, as the specification reads them. No conditions. -/
import Derived.Test.YtndkifkaejmibaaGreatDoorME
import Derived.Test.YtndkifkaejmibaaGreatDoorMC

namespace Go.Proofs.YtndkifkaejmibaaGreatDoor
open Go.RowKit
set_option maxRecDepth 4000
set_option linter.unusedVariables false
set_option linter.unusedSimpArgs false
set_option maxHeartbeats 4000000

abbrev rdV (s : List UInt8) (a : Nat) (e : Int) : Value := .agg ⟨[S s, I (a : Int), I e]⟩
end Go.Proofs.YtndkifkaejmibaaGreatDoor

namespace Go.Proofs.YtndkifkaejmibaaGreatDoor
open Go.RowKit
set_option maxRecDepth 4000
set_option linter.unusedVariables false
set_option linter.unusedSimpArgs false
set_option maxHeartbeats 4000000

/-! ## Lists of texts -/
abbrev tc (s : List UInt8) : List Value := [S s]
theorem strs_flat (l : List (List UInt8)) : strs l = l.flatMap tc := by
  induction l with
  | nil => rfl
  | cons x l ih => rw [strs, List.map_cons, List.flatMap_cons, ← ih]; rfl
theorem own_tc {l : List (List UInt8)} {v : Value} {e : TypeId} {H1 : List (Nat × Obj)} {w : World} (h : OwnSl v e 1 (strs l) l.length H1) (hh : Has w H1) : SlAt w v 1 (l.map tc) :=
  OwnSl.slAt (f := tc) (fun _ => rfl) (by rw [strs_flat] at h; exact h) hh
theorem fl_tc (l : List (List UInt8)) : (l.map tc).flatten = strs l := by
  induction l with
  | nil => rfl
  | cons x l ih => rw [List.map_cons, List.flatten_cons, ih]; rfl
theorem one_tc (l : List (List UInt8)) : (l.map tc).flatten.all oneV = true := by
  rw [fl_tc]
  induction l with
  | nil => rfl
  | cons x l ih => exact ih
theorem sclone_any {w0 : World} {v0 : Value} {l : List (List UInt8)} (hs : SlAt w0 v0 1 (l.map tc)) (hlen : l.length ≤ 1000000000) : Cl Tryz.prog 65 [v0] w0 (fun v w' => ∃ H1, OwnSl v 9 1 (strs l) l.length H1 ∧ St w0 NoneS H1 w') := by
  have hSt := St.refl w0 NoneS
  have hs' := hs
  obtain ⟨a, cap, rfl, hcs⟩ := hs'.map
  refine enter Tryz.func65 rfl Tryz.ntmps65 rfl ?_
  cases a with
  | none =>
    have h0 : l = [] := by
      cases l with
      | nil => rfl
      | cons c cs => obtain ⟨b, off, _, _, _, h, _⟩ := hcs 0 c rfl; cases h
    subst h0
    repeat' (first | refine W_seq ?_ | refine W_block ?_ | refine W_region ?_ | refine WL_nil ?_ | refine W_true rfl ?_ | refine W_false rfl ?_ | refine W_skip ?_ | refine W_exit ?_ | refine W_ret ?_ | refine W_goto ?_ | refine W_label ?_ | refine At_calm ?_ | refine At_then_normal ?_ | refine At_then ?_ | refine At_then_ret ?_ | refine At_in_normal ?_ | refine At_in_ret ?_ | refine At_in_hit ?_ | refine At_in_miss rfl ?_ | refine At_jump_normal ?_ | refine At_jump_ret ?_ | refine At_jump_exit ?_ | refine At_then_goto ?_ | refine At_in_goto ?_ | (apply WL_ev rfl rfl; (first | exact Ev_auto)) | refine WL_pass rfl rfl ?_ | refine WL_pass0 rfl ?_ | (refine WL_store1 hT rfl rfl 0 rfl rfl hSt rfl rfl rfl ?_; clear hSt; intro w hSt; dsimp only [List.set] at hSt) | (refine WL_storeN hT rfl rfl 0 rfl rfl hSt rfl rfl rfl rfl ?_; clear hSt; intro w hSt; dsimp only [spl, List.set] at hSt) | (refine WL_box rfl rfl rfl hSt ?_; clear hSt; intro w nb hnb hSt; dsimp only [zcells, List.nil_append, List.cons_append] at hSt) | (refine WL_alloc hT rfl rfl rfl hSt ?_; clear hSt; intro w nb hnb hSt; dsimp only [zcells, List.nil_append, List.cons_append] at hSt) | (refine WL_guardP rfl rfl (fun hc => ?_) (fun hc => ?_) <;> try exact absA) | (refine WL_guard rfl rfl (fun hc => ?_) (fun hc => ?_) <;> (try exact absA) <;> (fail_if_success (change true = true at hc)) <;> (fail_if_success (change false = false at hc))) | refine ret0' rfl ?_ | (refine W_if rfl (fun hc => ?_) (fun hc => ?_) <;> try exact absA) | (refine W_cond rfl (fun hc => ?_) (fun hc => ?_) <;> try exact absA))
    exact ret1 rfl rfl ⟨[], OwnSl.nil _ _, hSt⟩
  | some a =>
    repeat' (first | (refine WL_buildSlice0 hT rfl rfl rfl hSt ?_; clear hSt; intro w zb hzb hSt; dsimp only [List.nil_append, List.cons_append] at hSt) | refine W_seq ?_ | refine W_block ?_ | refine W_region ?_ | refine WL_nil ?_ | refine W_true rfl ?_ | refine W_false rfl ?_ | refine W_skip ?_ | refine W_exit ?_ | refine W_ret ?_ | refine W_goto ?_ | refine W_label ?_ | refine At_calm ?_ | refine At_then_normal ?_ | refine At_then ?_ | refine At_then_ret ?_ | refine At_in_normal ?_ | refine At_in_ret ?_ | refine At_in_hit ?_ | refine At_in_miss rfl ?_ | refine At_jump_normal ?_ | refine At_jump_ret ?_ | refine At_jump_exit ?_ | refine At_then_goto ?_ | refine At_in_goto ?_ | (apply WL_ev rfl rfl; (first | exact Ev_auto)) | refine WL_pass rfl rfl ?_ | refine WL_pass0 rfl ?_ | (refine WL_store1 hT rfl rfl 0 rfl rfl hSt rfl rfl rfl ?_; clear hSt; intro w hSt; dsimp only [List.set] at hSt) | (refine WL_storeN hT rfl rfl 0 rfl rfl hSt rfl rfl rfl rfl ?_; clear hSt; intro w hSt; dsimp only [spl, List.set] at hSt) | (refine WL_box rfl rfl rfl hSt ?_; clear hSt; intro w nb hnb hSt; dsimp only [zcells, List.nil_append, List.cons_append] at hSt) | (refine WL_alloc hT rfl rfl rfl hSt ?_; clear hSt; intro w nb hnb hSt; dsimp only [zcells, List.nil_append, List.cons_append] at hSt) | (refine WL_guardP rfl rfl (fun hc => ?_) (fun hc => ?_) <;> try exact absA) | (refine WL_guard rfl rfl (fun hc => ?_) (fun hc => ?_) <;> (try exact absA) <;> (fail_if_success (change true = true at hc)) <;> (fail_if_success (change false = false at hc))) | refine ret0' rfl ?_ | (refine W_if rfl (fun hc => ?_) (fun hc => ?_) <;> try exact absA) | (refine W_cond rfl (fun hc => ?_) (fun hc => ?_) <;> try exact absA))
    refine WL_appendS (H0 := []) (H2 := []) hT rfl rfl rfl rfl rfl rfl rfl (by simpa using hSt) (OwnSl.zero zb _ _) (hs.later hSt (fun _ e => e)) (one_tc l) (by simp; omega) (by simp; omega) ?_
    intro v' w' H1' ho hSt'
    repeat' (first | refine W_seq ?_ | refine W_block ?_ | refine W_region ?_ | refine WL_nil ?_ | refine W_true rfl ?_ | refine W_false rfl ?_ | refine W_skip ?_ | refine W_exit ?_ | refine W_ret ?_ | refine W_goto ?_ | refine W_label ?_ | refine At_calm ?_ | refine At_then_normal ?_ | refine At_then ?_ | refine At_then_ret ?_ | refine At_in_normal ?_ | refine At_in_ret ?_ | refine At_in_hit ?_ | refine At_in_miss rfl ?_ | refine At_jump_normal ?_ | refine At_jump_ret ?_ | refine At_jump_exit ?_ | refine At_then_goto ?_ | refine At_in_goto ?_ | (apply WL_ev rfl rfl; (first | exact Ev_auto)) | refine WL_pass rfl rfl ?_ | refine WL_pass0 rfl ?_ | (refine WL_store1 hT rfl rfl 0 rfl rfl hSt rfl rfl rfl ?_; clear hSt; intro w hSt; dsimp only [List.set] at hSt) | (refine WL_storeN hT rfl rfl 0 rfl rfl hSt rfl rfl rfl rfl ?_; clear hSt; intro w hSt; dsimp only [spl, List.set] at hSt) | (refine WL_box rfl rfl rfl hSt ?_; clear hSt; intro w nb hnb hSt; dsimp only [zcells, List.nil_append, List.cons_append] at hSt) | (refine WL_alloc hT rfl rfl rfl hSt ?_; clear hSt; intro w nb hnb hSt; dsimp only [zcells, List.nil_append, List.cons_append] at hSt) | (refine WL_guardP rfl rfl (fun hc => ?_) (fun hc => ?_) <;> try exact absA) | (refine WL_guard rfl rfl (fun hc => ?_) (fun hc => ?_) <;> (try exact absA) <;> (fail_if_success (change true = true at hc)) <;> (fail_if_success (change false = false at hc))) | refine ret0' rfl ?_ | (refine W_if rfl (fun hc => ?_) (fun hc => ?_) <;> try exact absA) | (refine W_cond rfl (fun hc => ?_) (fun hc => ?_) <;> try exact absA))
    refine ret1 rfl rfl ⟨H1', ?_, by simpa using hSt'⟩
    rw [fl_tc] at ho
    simpa using ho

/-! ## The valid prefix -/
end Go.Proofs.YtndkifkaejmibaaGreatDoor
