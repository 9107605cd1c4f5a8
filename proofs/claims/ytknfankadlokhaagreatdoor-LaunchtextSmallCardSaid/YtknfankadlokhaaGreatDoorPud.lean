/- The law Small. No conditions. -/
import Derived.Test.YtknfankadlokhaaGreatDoorPuc

namespace Go.Proofs.YtknfankadlokhaaGreatDoor
open Go.RowKit
set_option maxRecDepth 4000
set_option linter.unusedVariables false
set_option linter.unusedSimpArgs false
set_option maxHeartbeats 16000000

theorem sl_nil2 (w : World) : SlAt w (.slice none 0 0) 2 (([] : List Sg).map sgC) := SlAt.nil w 2
theorem launchtextSmall_any {w0 : World} (x : Tx) (hx : x.length ≤ maxLen) : Cl Tryz.prog 5 [S x] w0 (fun v w' => v = B true ∧ St w0 NoneS [] w') := by
  have hSt := St.refl w0 NoneS
  unfold maxLen at hx
  refine enter Tryz.func5 rfl Tryz.ntmps5 rfl ?_
  by_cases h4 : 4100 < x.length
  · repeat' (first | (refine WL_isCall (f := 19) ?_; refine WL_call (ok_call hT rfl) rfl rfl rfl (awake_any) ?_; rintro v w2 ⟨rfl, hc2⟩; replace hSt := hSt.call0 hc2; clear hc2) | refine stepA ?_ | (refine stepS ?_; clear hSt; intro w hSt; dsimp only [spl, List.set] at hSt) | (refine stepB ?_; clear hSt; intro w nb hnb hSt; dsimp only [zcells, List.nil_append, List.cons_append] at hSt) | (refine W_quiet hT (by decide +kernel) hSt ?_; clear hSt; (repeat' (first | (apply QL_ev rfl rfl; (intro w hSt; (first | exact Ev_auto))) | refine QL_pass rfl rfl ?_ | (refine QL_guardP rfl rfl (fun hc => ?_) (fun hc => ?_) <;> try exact absA) | (refine QL_guard rfl rfl (fun hc => ?_) (fun hc => ?_) <;> (try exact absA) <;> (fail_if_success (change true = true at hc)) <;> (fail_if_success (change false = false at hc))))); all_goals (refine QL_nil (fun w hSt => ?_))) | (refine stepG ?_ ?_ <;> intro hc <;> (try exact absA) <;> (fail_if_success (change true = true at hc)) <;> (fail_if_success (change false = false at hc))) | fail)
    all_goals try (exfalso; first | omega | (simp at hc; done) | (exact hc rfl) | contradiction)
    all_goals exact ret1 rfl rfl ⟨rfl, hSt⟩
  obtain ⟨r, hr⟩ := cond_tot (scan_ok x)
  obtain ⟨q, hq⟩ := args_tot (scan_ok x)
  have hp1 := fun w : World => parsecond_any (w0 := w) (scan_any x) (scan_ok x) hr
  have hp2 := fun w : World => rparsecond_any (w0 := w) (fun w => rscan_any x w) (scan_ok x) (rCond_eq hr) (fun ts c y hs hx => by
    have hok := scan_ok x
    rw [hs] at hok
    have h1 := (qpar_lev hok.1 fuelN).2.2.2.1 (0, false) c y hok.1.pos hx
    have h2 := (qpar_lt hok.1 fuelN).2.2.2.1 (0, false) c y hok.1.pos hx
    have h3 := hok.2.1
    omega)
  have ha1 := fun w : World => args_any (w0 := w) (scan_any x) (scan_ok x) hq
  have ha2 := fun w : World => rargs_any (w0 := w) (fun w => rscan_any x w) (scan_ok x) (rArgs_eq hq)
  cases r with
  | bad e a =>
      have he : e ≠ 0 := condP_bad hr
      unfold CondR at hp1 hp2
      dsimp only at hp1 hp2
      repeat' (first | (refine W_midAtL 7 (fun L' w' => St w0 NoneS [] w' ∧ L' = [(0, S x)]) (fun K2 hK2 => ?_) (fun L' w' hm => ?_); rotate_left 1; (clear hSt; obtain ⟨hSt, rfl⟩ := hm)) | (refine WL_alloc hT rfl rfl rfl hSt ?_; clear hSt; intro w nb hnb hSt; replace hSt := hSt.front; dsimp only [zcells] at hSt) | (refine WL_isCall (f := 23) ?_; refine WL_call (ok_call hT rfl) rfl rfl rfl (hp1 _) ?_; rintro v w2 ⟨rfl, hc2⟩; replace hSt := hSt.call0 hc2; clear hc2) | (refine WL_isCall (f := 24) ?_; refine WL_call (ok_call hT rfl) rfl rfl rfl (hp2 _) ?_; rintro v w2 ⟨rfl, hc2⟩; replace hSt := hSt.call0 hc2; clear hc2) | refine stepA ?_ | (refine stepS ?_; clear hSt; intro w hSt; dsimp only [spl, List.set] at hSt) | (refine stepB ?_; clear hSt; intro w nb hnb hSt; dsimp only [zcells, List.nil_append, List.cons_append] at hSt) | (refine W_quiet hT (by decide +kernel) hSt ?_; clear hSt; (repeat' (first | (apply QL_ev rfl rfl; (intro w hSt; (first | exact Ev_auto))) | refine QL_pass rfl rfl ?_ | (refine QL_guardP rfl rfl (fun hc => ?_) (fun hc => ?_) <;> try exact absA) | (refine QL_guard rfl rfl (fun hc => ?_) (fun hc => ?_) <;> (try exact absA) <;> (fail_if_success (change true = true at hc)) <;> (fail_if_success (change false = false at hc))))); all_goals (refine QL_nil (fun w hSt => ?_))) | (refine stepG ?_ ?_ <;> intro hc <;> (try exact absA) <;> (fail_if_success (change true = true at hc)) <;> (fail_if_success (change false = false at hc))) | fail)
      all_goals try (exfalso; first | omega | (simp at hc; done) | (exact hc rfl) | contradiction)
      all_goals first | exact At_K hK2 ⟨hSt.nil, rfl⟩ (by (repeat (first | exact Sub.nil _ | refine Sub.cons rfl ?_))) | skip
      cases q with
      | bad e9 a9 =>
        have he9 : e9 ≠ 0 := argsP_bad hq
        unfold ArgsR at ha1 ha2
        dsimp only at ha1 ha2
        repeat' (first | (refine WL_isCall (f := 9) ?_; refine WL_call (ok_call hT rfl) rfl rfl rfl (ha1 _) ?_; rintro v w2 ⟨rfl, hc2⟩; replace hSt := hSt.call0 hc2; clear hc2) | (refine WL_isCall (f := 26) ?_; refine WL_call (ok_call hT rfl) rfl rfl rfl (ha2 _) ?_; rintro v w2 ⟨rfl, hc2⟩; replace hSt := hSt.call0 hc2; clear hc2) | (refine WL_isCall (f := 27) ?_; refine WL_call (ok_call hT rfl) rfl rfl rfl (setsame_any (sl_nil2 _) (sl_nil2 _) (by decide)) ?_; rintro v w2 ⟨rfl, hc2⟩; replace hSt := hSt.call0 hc2; clear hc2) | (refine WL_isCall (f := 19) ?_; refine WL_call (ok_call hT rfl) rfl rfl rfl (awake_any) ?_; rintro v w2 ⟨rfl, hc2⟩; replace hSt := hSt.call0 hc2; clear hc2) | refine stepA ?_ | (refine stepS ?_; clear hSt; intro w hSt; dsimp only [spl, List.set] at hSt) | (refine stepB ?_; clear hSt; intro w nb hnb hSt; dsimp only [zcells, List.nil_append, List.cons_append] at hSt) | (refine W_quiet hT (by decide +kernel) hSt ?_; clear hSt; (repeat' (first | (apply QL_ev rfl rfl; (intro w hSt; (first | exact Ev_auto))) | refine QL_pass rfl rfl ?_ | (refine QL_guardP rfl rfl (fun hc => ?_) (fun hc => ?_) <;> try exact absA) | (refine QL_guard rfl rfl (fun hc => ?_) (fun hc => ?_) <;> (try exact absA) <;> (fail_if_success (change true = true at hc)) <;> (fail_if_success (change false = false at hc))))); all_goals (refine QL_nil (fun w hSt => ?_))) | (refine stepG ?_ ?_ <;> intro hc <;> (try exact absA) <;> (fail_if_success (change true = true at hc)) <;> (fail_if_success (change false = false at hc))) | fail)
        all_goals try (exfalso; first | omega | (simp at hc; done) | (exact hc rfl) | contradiction)
        all_goals exact ret1 rfl rfl ⟨rfl, hSt⟩
      | ok l =>
        unfold ArgsR at ha1 ha2
        dsimp only at ha1 ha2
        repeat' (first | (refine WL_isCall (f := 9) ?_; refine WL_call (ok_call hT rfl) rfl rfl rfl (ha1 _) ?_; rintro v w2 ⟨sv1, J1, rfl, ho1, hl1, hc2⟩; replace hSt := hSt.newN hc2; clear hc2; try dsimp only [List.nil_append] at hSt) | (refine WL_isCall (f := 26) ?_; refine WL_call (ok_call hT rfl) rfl rfl rfl (ha2 _) ?_; rintro v w2 ⟨sv2, J2, rfl, ho2, hl2, hc2⟩; replace hSt := hSt.newN hc2; clear hc2) | (refine WL_isCall (f := 27) ?_; refine WL_call (ok_call hT rfl) rfl rfl rfl (setsame_any (OwnSl.slAt (f := sgC) (fun _ => rfl) ho1 hSt.left.has) (OwnSl.slAt (f := sgC) (fun _ => rfl) ho2 hSt.right.has) (argsP_len (scan_ok x) hq)) ?_; rintro v w2 ⟨rfl, hc2⟩; replace hSt := hSt.call0 hc2; clear hc2) | (refine WL_isCall (f := 19) ?_; refine WL_call (ok_call hT rfl) rfl rfl rfl (awake_any) ?_; rintro v w2 ⟨rfl, hc2⟩; replace hSt := hSt.call0 hc2; clear hc2) | refine stepA ?_ | (refine stepS ?_; clear hSt; intro w hSt; dsimp only [spl, List.set] at hSt) | (refine stepB ?_; clear hSt; intro w nb hnb hSt; dsimp only [zcells, List.nil_append, List.cons_append] at hSt) | (refine W_quiet hT (by decide +kernel) hSt ?_; clear hSt; (repeat' (first | (apply QL_ev rfl rfl; (intro w hSt; (first | exact Ev_auto))) | refine QL_pass rfl rfl ?_ | (refine QL_guardP rfl rfl (fun hc => ?_) (fun hc => ?_) <;> try exact absA) | (refine QL_guard rfl rfl (fun hc => ?_) (fun hc => ?_) <;> (try exact absA) <;> (fail_if_success (change true = true at hc)) <;> (fail_if_success (change false = false at hc))))); all_goals (refine QL_nil (fun w hSt => ?_))) | (refine stepG ?_ ?_ <;> intro hc <;> (try exact absA) <;> (fail_if_success (change true = true at hc)) <;> (fail_if_success (change false = false at hc))) | fail)
        all_goals try (exfalso; first | omega | (simp at hc; done) | (exact hc rfl) | contradiction)
        all_goals exact ret1 rfl rfl ⟨rfl, hSt.nil⟩
  | ok c =>
      unfold CondR at hp1 hp2
      dsimp only at hp1 hp2
      repeat' (first | (refine W_midAtL 7 (fun L' w' => St w0 NoneS [] w' ∧ L' = [(0, S x)]) (fun K2 hK2 => ?_) (fun L' w' hm => ?_); rotate_left 1; (clear hSt; obtain ⟨hSt, rfl⟩ := hm)) | (refine WL_alloc hT rfl rfl rfl hSt ?_; clear hSt; intro w nb hnb hSt; replace hSt := hSt.front; dsimp only [zcells] at hSt) | (refine WL_isCall (f := 23) ?_; refine WL_call (ok_call hT rfl) rfl rfl rfl (hp1 _) ?_; rintro v w2 ⟨a1, n1, k1, H1, rfl, hC1, hc2⟩; replace hSt := hSt.newN hc2; clear hc2; try dsimp only [List.nil_append] at hSt) | (refine WL_isCall (f := 24) ?_; refine WL_call (ok_call hT rfl) rfl rfl rfl (hp2 _) ?_; rintro v w2 ⟨a2, n2, k2, H2, rfl, hC2, hc2⟩; replace hSt := hSt.newN hc2; clear hc2; try dsimp only [List.cons_append] at hSt) | (refine WL_isCall (f := 25) ?_; refine WL_call (ok_call hT rfl) rfl rfl rfl (rsc_any c (hC1 _ (hSt.right (Ha := [_, _])).left.has) (hC2 _ (hSt.right (Ha := [_, _])).right.has)) ?_; rintro v w2 ⟨rfl, hc2⟩; replace hSt := hSt.call0 hc2; clear hc2) | refine stepA ?_ | (refine stepS ?_; clear hSt; intro w hSt; dsimp only [spl, List.set] at hSt) | (refine stepB ?_; clear hSt; intro w nb hnb hSt; dsimp only [zcells, List.nil_append, List.cons_append] at hSt) | (refine W_quiet hT (by decide +kernel) hSt ?_; clear hSt; (repeat' (first | (apply QL_ev rfl rfl; (intro w hSt; (first | exact Ev_auto))) | refine QL_pass rfl rfl ?_ | (refine QL_guardP rfl rfl (fun hc => ?_) (fun hc => ?_) <;> try exact absA) | (refine QL_guard rfl rfl (fun hc => ?_) (fun hc => ?_) <;> (try exact absA) <;> (fail_if_success (change true = true at hc)) <;> (fail_if_success (change false = false at hc))))); all_goals (refine QL_nil (fun w hSt => ?_))) | (refine stepG ?_ ?_ <;> intro hc <;> (try exact absA) <;> (fail_if_success (change true = true at hc)) <;> (fail_if_success (change false = false at hc))) | fail)
      all_goals try (exfalso; first | omega | (simp at hc; done) | (exact hc rfl) | contradiction)
      all_goals first | exact At_K hK2 ⟨hSt.nil, rfl⟩ (by (repeat (first | exact Sub.nil _ | refine Sub.cons rfl ?_))) | skip
      cases q with
      | bad e9 a9 =>
        have he9 : e9 ≠ 0 := argsP_bad hq
        unfold ArgsR at ha1 ha2
        dsimp only at ha1 ha2
        repeat' (first | (refine WL_isCall (f := 9) ?_; refine WL_call (ok_call hT rfl) rfl rfl rfl (ha1 _) ?_; rintro v w2 ⟨rfl, hc2⟩; replace hSt := hSt.call0 hc2; clear hc2) | (refine WL_isCall (f := 26) ?_; refine WL_call (ok_call hT rfl) rfl rfl rfl (ha2 _) ?_; rintro v w2 ⟨rfl, hc2⟩; replace hSt := hSt.call0 hc2; clear hc2) | (refine WL_isCall (f := 27) ?_; refine WL_call (ok_call hT rfl) rfl rfl rfl (setsame_any (sl_nil2 _) (sl_nil2 _) (by decide)) ?_; rintro v w2 ⟨rfl, hc2⟩; replace hSt := hSt.call0 hc2; clear hc2) | (refine WL_isCall (f := 19) ?_; refine WL_call (ok_call hT rfl) rfl rfl rfl (awake_any) ?_; rintro v w2 ⟨rfl, hc2⟩; replace hSt := hSt.call0 hc2; clear hc2) | refine stepA ?_ | (refine stepS ?_; clear hSt; intro w hSt; dsimp only [spl, List.set] at hSt) | (refine stepB ?_; clear hSt; intro w nb hnb hSt; dsimp only [zcells, List.nil_append, List.cons_append] at hSt) | (refine W_quiet hT (by decide +kernel) hSt ?_; clear hSt; (repeat' (first | (apply QL_ev rfl rfl; (intro w hSt; (first | exact Ev_auto))) | refine QL_pass rfl rfl ?_ | (refine QL_guardP rfl rfl (fun hc => ?_) (fun hc => ?_) <;> try exact absA) | (refine QL_guard rfl rfl (fun hc => ?_) (fun hc => ?_) <;> (try exact absA) <;> (fail_if_success (change true = true at hc)) <;> (fail_if_success (change false = false at hc))))); all_goals (refine QL_nil (fun w hSt => ?_))) | (refine stepG ?_ ?_ <;> intro hc <;> (try exact absA) <;> (fail_if_success (change true = true at hc)) <;> (fail_if_success (change false = false at hc))) | fail)
        all_goals try (exfalso; first | omega | (simp at hc; done) | (exact hc rfl) | contradiction)
        all_goals exact ret1 rfl rfl ⟨rfl, hSt⟩
      | ok l =>
        unfold ArgsR at ha1 ha2
        dsimp only at ha1 ha2
        repeat' (first | (refine WL_isCall (f := 9) ?_; refine WL_call (ok_call hT rfl) rfl rfl rfl (ha1 _) ?_; rintro v w2 ⟨sv1, J1, rfl, ho1, hl1, hc2⟩; replace hSt := hSt.newN hc2; clear hc2; try dsimp only [List.nil_append] at hSt) | (refine WL_isCall (f := 26) ?_; refine WL_call (ok_call hT rfl) rfl rfl rfl (ha2 _) ?_; rintro v w2 ⟨sv2, J2, rfl, ho2, hl2, hc2⟩; replace hSt := hSt.newN hc2; clear hc2) | (refine WL_isCall (f := 27) ?_; refine WL_call (ok_call hT rfl) rfl rfl rfl (setsame_any (OwnSl.slAt (f := sgC) (fun _ => rfl) ho1 hSt.left.has) (OwnSl.slAt (f := sgC) (fun _ => rfl) ho2 hSt.right.has) (argsP_len (scan_ok x) hq)) ?_; rintro v w2 ⟨rfl, hc2⟩; replace hSt := hSt.call0 hc2; clear hc2) | (refine WL_isCall (f := 19) ?_; refine WL_call (ok_call hT rfl) rfl rfl rfl (awake_any) ?_; rintro v w2 ⟨rfl, hc2⟩; replace hSt := hSt.call0 hc2; clear hc2) | refine stepA ?_ | (refine stepS ?_; clear hSt; intro w hSt; dsimp only [spl, List.set] at hSt) | (refine stepB ?_; clear hSt; intro w nb hnb hSt; dsimp only [zcells, List.nil_append, List.cons_append] at hSt) | (refine W_quiet hT (by decide +kernel) hSt ?_; clear hSt; (repeat' (first | (apply QL_ev rfl rfl; (intro w hSt; (first | exact Ev_auto))) | refine QL_pass rfl rfl ?_ | (refine QL_guardP rfl rfl (fun hc => ?_) (fun hc => ?_) <;> try exact absA) | (refine QL_guard rfl rfl (fun hc => ?_) (fun hc => ?_) <;> (try exact absA) <;> (fail_if_success (change true = true at hc)) <;> (fail_if_success (change false = false at hc))))); all_goals (refine QL_nil (fun w hSt => ?_))) | (refine stepG ?_ ?_ <;> intro hc <;> (try exact absA) <;> (fail_if_success (change true = true at hc)) <;> (fail_if_success (change false = false at hc))) | fail)
        all_goals try (exfalso; first | omega | (simp at hc; done) | (exact hc rfl) | contradiction)
        all_goals exact ret1 rfl rfl ⟨rfl, hSt.nil⟩
end Go.Proofs.YtknfankadlokhaaGreatDoor
