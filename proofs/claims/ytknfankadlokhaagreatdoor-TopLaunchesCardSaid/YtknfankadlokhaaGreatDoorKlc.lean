/- The lifecycle's machine: made, moved, asked. No conditions. -/
import Derived.Test.YtknfankadlokhaaGreatDoorKlb

namespace Go.Proofs.YtknfankadlokhaaGreatDoor
open Go.RowKit
set_option maxRecDepth 4000
set_option linter.unusedVariables false
set_option linter.unusedSimpArgs false
set_option maxHeartbeats 16000000

theorem new_any {w0 : World} : Cl Tryz.prog 15 [] w0 (fun v w' => ∃ b hv H1, v = Ptr b ∧ OwnSl hv 3 1 [I 1] 1 H1 ∧ St w0 NoneS ((b, blk [I 1, hv, I 0] 82) :: H1) w') := by
  have hSt := St.refl w0 NoneS
  refine enter Tryz.func15 rfl Tryz.ntmps15 rfl ?_
  repeat' (first | (refine WL_buildSlice hT rfl rfl rfl rfl rfl rfl rfl rfl hSt ?_; clear hSt; intro w nb2 hnb2 hSt; replace hSt := hSt.front) | (refine WL_box rfl rfl rfl hSt ?_; clear hSt; intro w nb hnb hSt; replace hSt := hSt.front; dsimp only [zcells, List.nil_append, List.cons_append] at hSt) | refine stepA ?_ | (refine stepS ?_; clear hSt; intro w hSt; dsimp only [spl, List.set] at hSt) | (refine stepB ?_; clear hSt; intro w nb hnb hSt; dsimp only [zcells, List.nil_append, List.cons_append] at hSt) | (refine W_quiet hT (by decide +kernel) hSt ?_; clear hSt; (repeat' (first | (apply QL_ev rfl rfl; (intro w hSt; (first | exact Ev_auto))) | refine QL_pass rfl rfl ?_ | (refine QL_guardP rfl rfl (fun hc => ?_) (fun hc => ?_) <;> try exact absA) | (refine QL_guard rfl rfl (fun hc => ?_) (fun hc => ?_) <;> (try exact absA) <;> (fail_if_success (change true = true at hc)) <;> (fail_if_success (change false = false at hc))))); all_goals (refine QL_nil (fun w hSt => ?_))) | (refine stepG ?_ ?_ <;> intro hc <;> (try exact absA) <;> (fail_if_success (change true = true at hc)) <;> (fail_if_success (change false = false at hc))) | fail)
  all_goals exact ret1 rfl rfl ⟨_, _, [_], rfl, ⟨rfl, .inr ⟨_, 1, [], rfl, Nat.le_refl _, rfl, rfl⟩⟩, hSt⟩
theorem state_any {w0 : World} {b : Nat} {s f : Int} {hv : Value} (hb : w0.heap[b]? = some (blk [I s, hv, I f] 82)) : Cl Tryz.prog 17 [Ptr b] w0 (fun v w' => v = I s ∧ St w0 NoneS [] w') := by
  have hSt := St.refl w0 NoneS
  refine enter Tryz.func17 rfl Tryz.ntmps17 rfl ?_
  repeat' (first | (apply WL_ev rfl rfl; exact Ev_load1 hT rfl rfl (hSt.base hb (fun e => e)) rfl) | refine stepA ?_ | (refine stepS ?_; clear hSt; intro w hSt; dsimp only [spl, List.set] at hSt) | (refine stepB ?_; clear hSt; intro w nb hnb hSt; dsimp only [zcells, List.nil_append, List.cons_append] at hSt) | (refine W_quiet hT (by decide +kernel) hSt ?_; clear hSt; (repeat' (first | (apply QL_ev rfl rfl; (intro w hSt; (first | (exact Ev_load1 hT rfl rfl (hSt.base hb (fun e => e)) rfl) | exact Ev_auto))) | refine QL_pass rfl rfl ?_ | (refine QL_guardP rfl rfl (fun hc => ?_) (fun hc => ?_) <;> try exact absA) | (refine QL_guard rfl rfl (fun hc => ?_) (fun hc => ?_) <;> (try exact absA) <;> (fail_if_success (change true = true at hc)) <;> (fail_if_success (change false = false at hc))))); all_goals (refine QL_nil (fun w hSt => ?_))) | (refine stepG ?_ ?_ <;> intro hc <;> (try exact absA) <;> (fail_if_success (change true = true at hc)) <;> (fail_if_success (change false = false at hc))) | fail)
  all_goals try (exfalso; first | omega | (simp at hc; done) | (exact hc rfl) | contradiction)
  all_goals exact ret1 rfl rfl ⟨rfl, hSt.nil⟩
theorem do_any {w0 : World} {b : Nat} {s t r : Int} {hv : Value} {xs : List Value} {H1 : List (Nat × Obj)} (hnx : Cl Tryz.prog 48 [I s, I t, B true] w0 (fun v w' => v = .tuple ⟨[I r, I 0]⟩ ∧ St w0 NoneS [] w')) (hh : Has w0 ((b, blk [I s, hv, I 0] 82) :: H1)) (ho : OwnSl hv 3 1 xs xs.length H1) (hl : xs.length ≤ 4) :
    Cl Tryz.prog 16 [Ptr b, I t, B true] w0 (fun v w' => v = I 0 ∧ ∃ hv2 H2, OwnSl hv2 3 1 (xs ++ [I r]) (xs.length + 1) H2 ∧ St w0 (InH ((b, blk [I s, hv, I 0] 82) :: H1)) ((b, blk [I r, hv2, I 0] 82) :: H2) w') := by
  have hSt := hh.st
  obtain ⟨ha, hc, rfl, hle⟩ := ho.cap
  refine enter Tryz.func16 rfl Tryz.ntmps16 rfl ?_
  repeat' (first | (apply WL_ev rfl rfl; exact Ev_load1 hT rfl rfl (hSt.at 0 rfl) rfl) | (refine WL_isCall (f := 48) ?_; refine WL_call (ok_call hT rfl) rfl rfl rfl (hnx) ?_; rintro v w2 ⟨rfl, hc2⟩; replace hSt := hSt.call0 hc2; clear hc2) | refine stepA ?_ | (refine stepS ?_; clear hSt; intro w hSt; dsimp only [spl, List.set] at hSt) | (refine stepB ?_; clear hSt; intro w nb hnb hSt; dsimp only [zcells, List.nil_append, List.cons_append] at hSt) | (refine W_quiet hT (by decide +kernel) hSt ?_; clear hSt; (repeat' (first | (apply QL_ev rfl rfl; (intro w hSt; (first | (exact Ev_load1 hT rfl rfl (hSt.at 0 rfl) rfl) | exact Ev_auto))) | refine QL_pass rfl rfl ?_ | (refine QL_guardP rfl rfl (fun hc => ?_) (fun hc => ?_) <;> try exact absA) | (refine QL_guard rfl rfl (fun hc => ?_) (fun hc => ?_) <;> (try exact absA) <;> (fail_if_success (change true = true at hc)) <;> (fail_if_success (change false = false at hc))))); all_goals (refine QL_nil (fun w hSt => ?_))) | (refine stepG ?_ ?_ <;> intro hc <;> (try exact absA) <;> (fail_if_success (change true = true at hc)) <;> (fail_if_success (change false = false at hc))) | fail)
  refine WL_buildSlice hT rfl rfl rfl rfl rfl rfl rfl rfl hSt ?_
  clear hSt
  intro w nb2 hnb2 hSt
  refine WL_appendL (H0 := [_]) (H1 := H1) hT rfl rfl rfl rfl rfl rfl rfl hSt ho rfl rfl (by omega) (by omega) ?_
  clear hSt ho
  intro v2 w H2 ho hSt
  obtain ⟨a2, k2, rfl, _⟩ := ho.cap
  try dsimp only [List.cons_append, List.nil_append] at hSt
  repeat' (first | (apply WL_ev rfl rfl; exact Ev_load1 hT rfl rfl (hSt.at 0 rfl) rfl) | refine stepA ?_ | (refine stepS ?_; clear hSt; intro w hSt; dsimp only [spl, List.set] at hSt) | (refine stepB ?_; clear hSt; intro w nb hnb hSt; dsimp only [zcells, List.nil_append, List.cons_append] at hSt) | (refine W_quiet hT (by decide +kernel) hSt ?_; clear hSt; (repeat' (first | (apply QL_ev rfl rfl; (intro w hSt; (first | (exact Ev_load1 hT rfl rfl (hSt.at 0 rfl) rfl) | exact Ev_auto))) | refine QL_pass rfl rfl ?_ | (refine QL_guardP rfl rfl (fun hc => ?_) (fun hc => ?_) <;> try exact absA) | (refine QL_guard rfl rfl (fun hc => ?_) (fun hc => ?_) <;> (try exact absA) <;> (fail_if_success (change true = true at hc)) <;> (fail_if_success (change false = false at hc))))); all_goals (refine QL_nil (fun w hSt => ?_))) | (refine stepG ?_ ?_ <;> intro hc <;> (try exact absA) <;> (fail_if_success (change true = true at hc)) <;> (fail_if_success (change false = false at hc))) | fail)
  all_goals try (exfalso; first | omega | (simp at hc; done) | (exact hc rfl) | contradiction)
  all_goals exact ret1 rfl rfl ⟨rfl, _, _, ho, hSt⟩
end Go.Proofs.YtknfankadlokhaaGreatDoor
