/- The lifecycle's table, and a step. No conditions. -/
import Derived.Test.YtknfankadlokhaaGreatDoorKla

namespace Go.Proofs.YtknfankadlokhaaGreatDoor
open Go.RowKit
set_option maxRecDepth 4000
set_option linter.unusedVariables false
set_option linter.unusedSimpArgs false
set_option maxHeartbeats 16000000

/-- the first two rules of the table -/
def Ru (w : World) : Prop := ∃ m E fz, w.heap[0]? = some (.cells ⟨m⟩ E fz) ∧ (m.drop 0).take 6 = [B true, B false, B false, B false, I 2, I 1] ∧ (m.drop 6).take 6 = [B false, B true, B false, B false, I 3, I 2]
theorem Ru.kept {w w' : World} (h : Ru w) (k : Keeps w w') : Ru w' := by
  obtain ⟨m, E, fz, hm, h0, h1⟩ := h
  exact ⟨m, E, fz, k _ _ hm, h0, h1⟩
theorem in_any {w0 : World} {a lo hi : Int} (h1 : lo ≤ a) (h2 : a ≤ hi) : Cl Tryz.prog 90 [I a, I lo, I hi] w0 (fun v w' => v = B true ∧ St w0 NoneS [] w') := by
  have hSt := St.refl w0 NoneS
  refine enter Tryz.func90 rfl Tryz.ntmps90 rfl ?_
  repeat' (first | refine stepA ?_ | (refine stepS ?_; clear hSt; intro w hSt; dsimp only [spl, List.set] at hSt) | (refine stepB ?_; clear hSt; intro w nb hnb hSt; dsimp only [zcells, List.nil_append, List.cons_append] at hSt) | (refine W_quiet hT (by decide +kernel) hSt ?_; clear hSt; (repeat' (first | (apply QL_ev rfl rfl; (intro w hSt; (first | exact Ev_auto))) | refine QL_pass rfl rfl ?_ | (refine QL_guardP rfl rfl (fun hc => ?_) (fun hc => ?_) <;> try exact absA) | (refine QL_guard rfl rfl (fun hc => ?_) (fun hc => ?_) <;> (try exact absA) <;> (fail_if_success (change true = true at hc)) <;> (fail_if_success (change false = false at hc))))); all_goals (refine QL_nil (fun w hSt => ?_))) | (refine stepG ?_ ?_ <;> intro hc <;> (try exact absA) <;> (fail_if_success (change true = true at hc)) <;> (fail_if_success (change false = false at hc))) | fail)
  all_goals try (exfalso; first | omega | (simp at hc; done) | (exact hc rfl) | contradiction)
  all_goals first | exact ret1 rfl rfl ⟨rfl, hSt.nil⟩ | exact ret1 rfl rfl ⟨congrArg B (decide_eq_true (by omega)), hSt.nil⟩
theorem next0_any {w0 : World} (hR : Ru w0) : Cl Tryz.prog 48 [I 1, I 1, B true] w0 (fun v w' => v = .tuple ⟨[I 2, I 0]⟩ ∧ St w0 NoneS [] w') := by
  obtain ⟨m, E, fz, hG, p0, p1⟩ := hR
  have hSt := St.refl w0 NoneS
  refine enter Tryz.func48 rfl Tryz.ntmps48 rfl ?_
  repeat' (first | (refine WL_isCall (f := 90) ?_; refine WL_call (ok_call hT rfl) rfl rfl rfl (in_any (by decide) (by decide)) ?_; rintro v w2 ⟨rfl, hc2⟩; replace hSt := hSt.call0 hc2; clear hc2) | (refine WL_alloc hT rfl rfl rfl hSt ?_; clear hSt; intro w nb hnb hSt; replace hSt := hSt.front; dsimp only [zcells] at hSt) | (apply WL_ev rfl rfl; exact Ev_indexAddrArr hT rfl rfl rfl (by omega) (by omega)) | (apply WL_ev rfl rfl; exact Ev_loadN hT rfl rfl (hSt.base hG (fun e => e)) p0 rfl) | refine stepA ?_ | (refine stepS ?_; clear hSt; intro w hSt; dsimp only [spl, List.set] at hSt) | (refine stepB ?_; clear hSt; intro w nb hnb hSt; dsimp only [zcells, List.nil_append, List.cons_append] at hSt) | (refine W_quiet hT (by decide +kernel) hSt ?_; clear hSt; (repeat' (first | (apply QL_ev rfl rfl; (intro w hSt; (first | (exact Ev_indexAddrArr hT rfl rfl rfl (by omega) (by omega)) | (exact Ev_loadN hT rfl rfl (hSt.base hG (fun e => e)) p0 rfl) | exact Ev_auto))) | refine QL_pass rfl rfl ?_ | (refine QL_guardP rfl rfl (fun hc => ?_) (fun hc => ?_) <;> try exact absA) | (refine QL_guard rfl rfl (fun hc => ?_) (fun hc => ?_) <;> (try exact absA) <;> (fail_if_success (change true = true at hc)) <;> (fail_if_success (change false = false at hc))))); all_goals (refine QL_nil (fun w hSt => ?_))) | (refine stepG ?_ ?_ <;> intro hc <;> (try exact absA) <;> (fail_if_success (change true = true at hc)) <;> (fail_if_success (change false = false at hc))) | fail)
  all_goals try (exfalso; first | omega | (simp at hc; done) | (exact hc rfl) | contradiction)
  all_goals exact ret2 rfl rfl rfl ⟨rfl, hSt.nil⟩
theorem next1_any {w0 : World} (hR : Ru w0) : Cl Tryz.prog 48 [I 2, I 2, B true] w0 (fun v w' => v = .tuple ⟨[I 3, I 0]⟩ ∧ St w0 NoneS [] w') := by
  obtain ⟨m, E, fz, hG, p0, p1⟩ := hR
  have hSt := St.refl w0 NoneS
  refine enter Tryz.func48 rfl Tryz.ntmps48 rfl ?_
  repeat' (first | (refine WL_isCall (f := 90) ?_; refine WL_call (ok_call hT rfl) rfl rfl rfl (in_any (by decide) (by decide)) ?_; rintro v w2 ⟨rfl, hc2⟩; replace hSt := hSt.call0 hc2; clear hc2) | (refine WL_alloc hT rfl rfl rfl hSt ?_; clear hSt; intro w nb hnb hSt; replace hSt := hSt.front; dsimp only [zcells] at hSt) | (apply WL_ev rfl rfl; exact Ev_indexAddrArr hT rfl rfl rfl (by omega) (by omega)) | (apply WL_ev rfl rfl; exact Ev_loadN hT rfl rfl (hSt.base hG (fun e => e)) p1 rfl) | refine stepA ?_ | (refine stepS ?_; clear hSt; intro w hSt; dsimp only [spl, List.set] at hSt) | (refine stepB ?_; clear hSt; intro w nb hnb hSt; dsimp only [zcells, List.nil_append, List.cons_append] at hSt) | (refine W_quiet hT (by decide +kernel) hSt ?_; clear hSt; (repeat' (first | (apply QL_ev rfl rfl; (intro w hSt; (first | (exact Ev_indexAddrArr hT rfl rfl rfl (by omega) (by omega)) | (exact Ev_loadN hT rfl rfl (hSt.base hG (fun e => e)) p1 rfl) | exact Ev_auto))) | refine QL_pass rfl rfl ?_ | (refine QL_guardP rfl rfl (fun hc => ?_) (fun hc => ?_) <;> try exact absA) | (refine QL_guard rfl rfl (fun hc => ?_) (fun hc => ?_) <;> (try exact absA) <;> (fail_if_success (change true = true at hc)) <;> (fail_if_success (change false = false at hc))))); all_goals (refine QL_nil (fun w hSt => ?_))) | (refine stepG ?_ ?_ <;> intro hc <;> (try exact absA) <;> (fail_if_success (change true = true at hc)) <;> (fail_if_success (change false = false at hc))) | fail)
  all_goals try (exfalso; first | omega | (simp at hc; done) | (exact hc rfl) | contradiction)
  all_goals exact ret2 rfl rfl rfl ⟨rfl, hSt.nil⟩
end Go.Proofs.YtknfankadlokhaaGreatDoor
