/- The specification's comparison of what is the same. No conditions. -/
import Derived.Test.YtknfankadlokhaaDoorLra
import Derived.Test.YtknfankadlokhaaDoorMD

namespace Go.Proofs.YtknfankadlokhaaDoor
open Go.RowKit
set_option maxRecDepth 4000
set_option linter.unusedVariables false
set_option linter.unusedSimpArgs false
set_option maxHeartbeats 4000000

theorem rsc_any : ∀ (c : Cn) {w0 : World} {cs ds : List Value} (h : CondAt w0 c cs) (h2 : CondAt w0 c ds), Cl Tryd.prog 10 [.agg ⟨cs⟩, .agg ⟨ds⟩] w0 (fun v w' => v = B true ∧ St w0 NoneS [] w') := by
  intro c
  induction c using Cn.ind with
  | h op n t ar ih =>
  intro w0 cs ds h h2
  obtain ⟨v0, xs, rfl, hs, hcs, htl, hal⟩ := h.cells
  obtain ⟨v1, ys, rfl, hs2, hds, _, _⟩ := h2.cells
  dsimp only [Cn.op, Cn.name, Cn.text, Cn.args] at *
  have hSt := St.refl w0 NoneS
  obtain ⟨a1, p1, rfl, hc1⟩ := hs.some_ hcs.len
  obtain ⟨a2, p2, rfl, hc2⟩ := hs2.some_ hds.len
  refine enter Tryd.func10 rfl Tryd.ntmps10 rfl ?_
  repeat' (first | (refine WL_box (d := 2) rfl rfl rfl hSt ?_; clear hSt; intro w b2 hb2 hSt; dsimp only [zcells, List.nil_append, List.cons_append] at hSt) | (refine WL_box (d := 3) rfl rfl rfl hSt ?_; clear hSt; intro w b3 hb3 hSt; dsimp only [zcells, List.nil_append, List.cons_append] at hSt) | refine stepA ?_ | (refine stepS ?_; clear hSt; intro w hSt; dsimp only [spl, List.set] at hSt) | (refine stepB ?_; clear hSt; intro w nb hnb hSt; dsimp only [zcells, List.nil_append, List.cons_append] at hSt) | (refine W_quiet hT (by decide +kernel) hSt ?_; clear hSt; (repeat' (first | (apply QL_ev rfl rfl; (intro w hSt; (first | exact Ev_auto))) | refine QL_pass rfl rfl ?_ | (refine QL_guardP rfl rfl (fun hc => ?_) (fun hc => ?_) <;> try exact absA) | (refine QL_guard rfl rfl (fun hc => ?_) (fun hc => ?_) <;> (try exact absA) <;> (fail_if_success (change true = true at hc)) <;> (fail_if_success (change false = false at hc))))); all_goals (refine QL_nil (fun w hSt => ?_))) | (refine stepG ?_ ?_ <;> intro hc <;> (try exact absA) <;> (fail_if_success (change true = true at hc)) <;> (fail_if_success (change false = false at hc))) | fail)
  all_goals try (exfalso; first | omega | contradiction)
  refine W_loop1 (fun k (i : Nat) w => k = ar.length - i ∧ i ≤ ar.length ∧ St w0 NoneS [(b2, blk [I op, S n, S t, .slice a1 ar.length p1] 24), (b3, blk [I op, S n, S t, .slice a2 ar.length p2] 24)] w) (fun i => [(5, I (i : Int))]) ar.length 0 rfl (by (repeat (first | exact Str.nil _ | apply Str.drop rfl | apply Str.keepU rfl | apply Str.keep rfl))) ⟨rfl, by omega, hSt⟩ (by (repeat (first | exact Sub.nil _ | refine Sub.cons rfl ?_))) ?_
  clear hSt
  rintro k i w ⟨hk, hi, hSt⟩ K hK
  by_cases hil : i < ar.length
  · obtain ⟨a, ha⟩ : ∃ a, ar[i]? = some a := ⟨_, List.getElem?_eq_getElem hil⟩
    obtain ⟨x, hx, hca⟩ := hcs.at ha
    obtain ⟨y, hy, hda⟩ := hds.at ha
    obtain ⟨b4, o4, m4, E4, z4, rfl, hb4, q4, _⟩ := hc1 i x hx
    obtain ⟨b5, o5, m5, E5, z5, rfl, hb5, q5, _⟩ := hc2 i y hy
    have hcx := hca
    have hdx := hda
    obtain ⟨va, xa, rfl, _⟩ := hca.cells
    obtain ⟨vb, xb, rfl, _⟩ := hda.cells
    rw [← Int.toNat_natCast i] at q4 q5
    repeat' (first | (apply WL_ev rfl rfl; exact Ev_loadN hT rfl rfl (hSt.base hb4 (fun e => e)) q4 rfl) | (apply WL_ev rfl rfl; exact Ev_loadN hT rfl rfl (hSt.base hb5 (fun e => e)) q5 rfl) | refine stepA ?_ | (refine stepS ?_; clear hSt; intro w hSt; dsimp only [spl, List.set] at hSt) | (refine stepB ?_; clear hSt; intro w nb hnb hSt; dsimp only [zcells, List.nil_append, List.cons_append] at hSt) | (refine W_quiet hT (by decide +kernel) hSt ?_; clear hSt; (repeat' (first | (refine QL_isCall (f := 10) ?_; refine QL_call (ok_call hT rfl) rfl rfl rfl (fun w hSt => (ih a (List.mem_of_getElem? ha) (hcx.kept hSt.nil.keeps) (hdx.kept hSt.nil.keeps)).mono (fun v w2 h => ⟨h.1, hSt.call0 h.2⟩)) ?_) | (apply QL_ev rfl rfl; (intro w hSt; (first | (exact Ev_loadN hT rfl rfl (hSt.base hb4 (fun e => e)) q4 rfl) | (exact Ev_loadN hT rfl rfl (hSt.base hb5 (fun e => e)) q5 rfl) | exact Ev_auto))) | refine QL_pass rfl rfl ?_ | (refine QL_guardP rfl rfl (fun hc => ?_) (fun hc => ?_) <;> try exact absA) | (refine QL_guard rfl rfl (fun hc => ?_) (fun hc => ?_) <;> (try exact absA) <;> (fail_if_success (change true = true at hc)) <;> (fail_if_success (change false = false at hc))))); all_goals (refine QL_nil (fun w hSt => ?_))) | (refine stepG ?_ ?_ <;> intro hc <;> (try exact absA) <;> (fail_if_success (change true = true at hc)) <;> (fail_if_success (change false = false at hc))) | fail)
    all_goals first
      | exact At_loop1 hK (k' := ar.length - (i + 1)) (i + 1) (by omega) ⟨rfl, by omega, hSt⟩ (by (repeat (first | exact Sub.nil _ | refine Sub.cons rfl ?_)))
      | (exfalso; first | omega | contradiction)
  · repeat' (first | refine stepA ?_ | (refine stepS ?_; clear hSt; intro w hSt; dsimp only [spl, List.set] at hSt) | (refine stepB ?_; clear hSt; intro w nb hnb hSt; dsimp only [zcells, List.nil_append, List.cons_append] at hSt) | (refine W_quiet hT (by decide +kernel) hSt ?_; clear hSt; (repeat' (first | (apply QL_ev rfl rfl; (intro w hSt; (first | exact Ev_auto))) | refine QL_pass rfl rfl ?_ | (refine QL_guardP rfl rfl (fun hc => ?_) (fun hc => ?_) <;> try exact absA) | (refine QL_guard rfl rfl (fun hc => ?_) (fun hc => ?_) <;> (try exact absA) <;> (fail_if_success (change true = true at hc)) <;> (fail_if_success (change false = false at hc))))); all_goals (refine QL_nil (fun w hSt => ?_))) | (refine stepG ?_ ?_ <;> intro hc <;> (try exact absA) <;> (fail_if_success (change true = true at hc)) <;> (fail_if_success (change false = false at hc))) | fail)
    exact ret1 rfl rfl ⟨rfl, hSt.nil⟩
end Go.Proofs.YtknfankadlokhaaDoor
