/- The law TopLaunches. No conditions. -/
import Derived.Test.YtknfankadlokhaaGreatDoorKlc
import Derived.Test.YtknfankadlokhaaGreatDoorKle
import Derived.Test.YtknfankadlokhaaGreatDoorKlh
import Derived.Test.YtknfankadlokhaaGreatDoorLrd
import Derived.Test.YtknfankadlokhaaGreatDoorPxb
import Derived.Test.YtknfankadlokhaaGreatDoorPve

namespace Go.Proofs.YtknfankadlokhaaGreatDoor
open Go.RowKit
set_option maxRecDepth 4000
set_option linter.unusedVariables false
set_option linter.unusedSimpArgs false
set_option maxHeartbeats 16000000

/-- a text is too long -/
theorem top_long {w0 : World} {x y : Tx} (hV : Mx w0) (h : 800 < x.length ∨ 400 < y.length) : Cl Tryz.prog 3 [S x, S y] w0 (fun v w' => v = B true ∧ St w0 NoneS [] w') := by
  have hSt := St.refl w0 NoneS
  refine enter Tryz.func3 rfl Tryz.ntmps3 rfl ?_
  repeat' (first | (refine WL_isCall (f := 7) ?_; refine WL_call (ok_call hT rfl) rfl rfl rfl (lawake_any (hV.kept hSt.nil.keeps)) ?_; rintro v w2 ⟨rfl, hc2⟩; replace hSt := hSt.call0 hc2; clear hc2) | refine stepA ?_ | (refine stepS ?_; clear hSt; intro w hSt; dsimp only [spl, List.set] at hSt) | (refine stepB ?_; clear hSt; intro w nb hnb hSt; dsimp only [zcells, List.nil_append, List.cons_append] at hSt) | (refine W_quiet hT (by decide +kernel) hSt ?_; clear hSt; (repeat' (first | (apply QL_ev rfl rfl; (intro w hSt; (first | exact Ev_auto))) | refine QL_pass rfl rfl ?_ | (refine QL_guardP rfl rfl (fun hc => ?_) (fun hc => ?_) <;> try exact absA) | (refine QL_guard rfl rfl (fun hc => ?_) (fun hc => ?_) <;> (try exact absA) <;> (fail_if_success (change true = true at hc)) <;> (fail_if_success (change false = false at hc))))); all_goals (refine QL_nil (fun w hSt => ?_))) | (refine stepG ?_ ?_ <;> intro hc <;> (try exact absA) <;> (fail_if_success (change true = true at hc)) <;> (fail_if_success (change false = false at hc))) | fail)
  all_goals try (exfalso; first | omega | (simp at hc; done) | (exact hc rfl) | contradiction)
  all_goals exact ret1 rfl rfl ⟨rfl, hSt.nil⟩
/-- the description is refused -/
theorem top_bad1 {w0 : World} {x y : Tx} {e a : Int} {f f2 : Nat} {r : Rt (List Sg)} (hV : Mx w0) (h : ¬ (800 < x.length ∨ 400 < y.length)) (hp : listP f (scanF x) = some (.bad e a)) (he : e ≠ 0) (hq : argsP f2 (scanF y) = some r) (hr : ∀ e2 a2, r = .bad e2 a2 → e2 ≠ 0) : Cl Tryz.prog 3 [S x, S y] w0 (fun v w' => v = B true ∧ St w0 NoneS [] w') := by
  have hSt := St.refl w0 NoneS
  have hpa := parse_any (w0 := w0) (scan_any x) (scan_ok x) hp
  have hqa := args_any (w0 := w0) (scan_any y) (scan_ok y) hq
  cases r with
  | bad e2 a2 =>
    have he2 := hr e2 a2 rfl
    refine enter Tryz.func3 rfl Tryz.ntmps3 rfl ?_
    repeat' (first | (refine WL_isCall (f := 8) ?_; refine WL_call (ok_call hT rfl) rfl rfl rfl (parse_any (scan_any x) (scan_ok x) hp) ?_; rintro v w2 ⟨rfl, hc2⟩; replace hSt := hSt.call0 hc2; clear hc2) | (refine WL_isCall (f := 9) ?_; refine WL_call (ok_call hT rfl) rfl rfl rfl (args_any (scan_any y) (scan_ok y) hq) ?_; rintro v w2 ⟨rfl, hc2⟩; replace hSt := hSt.call0 hc2; clear hc2) | (refine WL_isCall (f := 7) ?_; refine WL_call (ok_call hT rfl) rfl rfl rfl (lawake_any (hV.kept hSt.nil.keeps)) ?_; rintro v w2 ⟨rfl, hc2⟩; replace hSt := hSt.call0 hc2; clear hc2) | refine stepA ?_ | (refine stepS ?_; clear hSt; intro w hSt; dsimp only [spl, List.set] at hSt) | (refine stepB ?_; clear hSt; intro w nb hnb hSt; dsimp only [zcells, List.nil_append, List.cons_append] at hSt) | (refine W_quiet hT (by decide +kernel) hSt ?_; clear hSt; (repeat' (first | (apply QL_ev rfl rfl; (intro w hSt; (first | exact Ev_auto))) | refine QL_pass rfl rfl ?_ | (refine QL_guardP rfl rfl (fun hc => ?_) (fun hc => ?_) <;> try exact absA) | (refine QL_guard rfl rfl (fun hc => ?_) (fun hc => ?_) <;> (try exact absA) <;> (fail_if_success (change true = true at hc)) <;> (fail_if_success (change false = false at hc))))); all_goals (refine QL_nil (fun w hSt => ?_))) | (refine stepG ?_ ?_ <;> intro hc <;> (try exact absA) <;> (fail_if_success (change true = true at hc)) <;> (fail_if_success (change false = false at hc))) | fail)
    all_goals try (exfalso; first | omega | (simp at hc; done) | (exact hc rfl) | contradiction)
    all_goals exact ret1 rfl rfl ⟨rfl, hSt.nil⟩
  | ok g =>
    refine enter Tryz.func3 rfl Tryz.ntmps3 rfl ?_
    repeat' (first | (refine WL_isCall (f := 8) ?_; refine WL_call (ok_call hT rfl) rfl rfl rfl (parse_any (scan_any x) (scan_ok x) hp) ?_; rintro v w2 ⟨rfl, hc2⟩; replace hSt := hSt.call0 hc2; clear hc2) | (refine WL_isCall (f := 9) ?_; refine WL_call (ok_call hT rfl) rfl rfl rfl (args_any (scan_any y) (scan_ok y) hq) ?_; rintro v w2 ⟨sv, H2, rfl, hO, _, hc2⟩; replace hSt := hSt.newN hc2; clear hc2) | (refine WL_isCall (f := 7) ?_; refine WL_call (ok_call hT rfl) rfl rfl rfl (lawake_any (hV.kept hSt.nil.keeps)) ?_; rintro v w2 ⟨rfl, hc2⟩; replace hSt := hSt.call0 hc2; clear hc2) | refine stepA ?_ | (refine stepS ?_; clear hSt; intro w hSt; dsimp only [spl, List.set] at hSt) | (refine stepB ?_; clear hSt; intro w nb hnb hSt; dsimp only [zcells, List.nil_append, List.cons_append] at hSt) | (refine W_quiet hT (by decide +kernel) hSt ?_; clear hSt; (repeat' (first | (apply QL_ev rfl rfl; (intro w hSt; (first | exact Ev_auto))) | refine QL_pass rfl rfl ?_ | (refine QL_guardP rfl rfl (fun hc => ?_) (fun hc => ?_) <;> try exact absA) | (refine QL_guard rfl rfl (fun hc => ?_) (fun hc => ?_) <;> (try exact absA) <;> (fail_if_success (change true = true at hc)) <;> (fail_if_success (change false = false at hc))))); all_goals (refine QL_nil (fun w hSt => ?_))) | (refine stepG ?_ ?_ <;> intro hc <;> (try exact absA) <;> (fail_if_success (change true = true at hc)) <;> (fail_if_success (change false = false at hc))) | fail)
    all_goals try (exfalso; first | omega | (simp at hc; done) | (exact hc rfl) | contradiction)
    all_goals exact ret1 rfl rfl ⟨rfl, hSt.nil⟩
/-- the arguments are refused -/
theorem top_bad2 {w0 : World} {x y : Tx} {e a : Int} {f f2 : Nat} {l : List Ln} (hV : Mx w0) (h : ¬ (800 < x.length ∨ 400 < y.length)) (hp : listP f (scanF x) = some (.ok l)) (hq : argsP f2 (scanF y) = some (.bad e a)) (he : e ≠ 0) : Cl Tryz.prog 3 [S x, S y] w0 (fun v w' => v = B true ∧ St w0 NoneS [] w') := by
  have hSt := St.refl w0 NoneS
  refine enter Tryz.func3 rfl Tryz.ntmps3 rfl ?_
  repeat' (first | (refine WL_isCall (f := 8) ?_; refine WL_call (ok_call hT rfl) rfl rfl rfl (parse_any (scan_any x) (scan_ok x) hp) ?_; rintro v w2 ⟨lv, H1, rfl, hL, hc2⟩; replace hSt := hSt.newN hc2; clear hc2; try dsimp only [List.nil_append] at hSt) | (refine WL_isCall (f := 9) ?_; refine WL_call (ok_call hT rfl) rfl rfl rfl (args_any (scan_any y) (scan_ok y) hq) ?_; rintro v w2 ⟨rfl, hc2⟩; replace hSt := hSt.call0 hc2; clear hc2) | (refine WL_isCall (f := 7) ?_; refine WL_call (ok_call hT rfl) rfl rfl rfl (lawake_any (hV.kept hSt.nil.keeps)) ?_; rintro v w2 ⟨rfl, hc2⟩; replace hSt := hSt.call0 hc2; clear hc2) | refine stepA ?_ | (refine stepS ?_; clear hSt; intro w hSt; dsimp only [spl, List.set] at hSt) | (refine stepB ?_; clear hSt; intro w nb hnb hSt; dsimp only [zcells, List.nil_append, List.cons_append] at hSt) | (refine W_quiet hT (by decide +kernel) hSt ?_; clear hSt; (repeat' (first | (apply QL_ev rfl rfl; (intro w hSt; (first | exact Ev_auto))) | refine QL_pass rfl rfl ?_ | (refine QL_guardP rfl rfl (fun hc => ?_) (fun hc => ?_) <;> try exact absA) | (refine QL_guard rfl rfl (fun hc => ?_) (fun hc => ?_) <;> (try exact absA) <;> (fail_if_success (change true = true at hc)) <;> (fail_if_success (change false = false at hc))))); all_goals (refine QL_nil (fun w hSt => ?_))) | (refine stepG ?_ ?_ <;> intro hc <;> (try exact absA) <;> (fail_if_success (change true = true at hc)) <;> (fail_if_success (change false = false at hc))) | fail)
  all_goals try (exfalso; first | omega | (simp at hc; done) | (exact hc rfl) | contradiction)
  all_goals exact ret1 rfl rfl ⟨rfl, hSt.nil⟩
/-- Select refuses -/
theorem top_sel {w0 : World} {x y : Tx} {f f2 : Nat} {l : List Ln} {g : List Sg} (hV : Mx w0) (h : ¬ (800 < x.length ∨ 400 < y.length)) (hp : listP f (scanF x) = some (.ok l)) (hq : argsP f2 (scanF y) = some (.ok g)) (hs : (selectF l g).2 ≠ 0) : Cl Tryz.prog 3 [S x, S y] w0 (fun v w' => v = B true ∧ St w0 NoneS [] w') := by
  have hSt := St.refl w0 NoneS
  obtain ⟨h0, hn⟩ := list_num (scan_ok x) hp
  obtain ⟨hg1, hg2⟩ := args_tx hq
  have h1 : (selectF l g).1 = [] := by
    unfold selectF at hs ⊢
    split
    · rfl
    · rename_i hc
      rw [if_neg hc] at hs
      dsimp only at hs ⊢
      split
      · rfl
      · rename_i hd; rw [if_neg hd] at hs; exact absurd rfl hs
  have hl0 : (selectF l g).1.length = 0 := by rw [h1]; rfl
  refine enter Tryz.func3 rfl Tryz.ntmps3 rfl ?_
  repeat' (first | (refine WL_isCall (f := 8) ?_; refine WL_call (ok_call hT rfl) rfl rfl rfl (parse_any (scan_any x) (scan_ok x) hp) ?_; rintro v w2 ⟨lv, H1, rfl, hL, hc2⟩; replace hSt := hSt.newN hc2; clear hc2; try dsimp only [List.nil_append] at hSt) | (refine WL_isCall (f := 9) ?_; refine WL_call (ok_call hT rfl) rfl rfl rfl (args_any (scan_any y) (scan_ok y) hq) ?_; rintro v w2 ⟨sv, H2, rfl, hO, _, hc2⟩; replace hSt := hSt.newN hc2; clear hc2) | (refine WL_isCall (f := 10) ?_; refine WL_call (ok_call hT rfl) rfl rfl rfl (select_any (hV.kept hSt.nil.keeps) (hL _ hSt.left.has) (OwnSl.slAt (f := sgC) (fun _ => rfl) hO hSt.right.has) hg1 hg2 (fun x hx => by have := (hn x hx).2; omega)) ?_; rintro v w2 ⟨nv, H3, rfl, ⟨na, nc, rfl⟩, hN, hc2⟩; replace hSt := hSt.newN hc2; clear hc2) | (refine WL_isCall (f := 7) ?_; refine WL_call (ok_call hT rfl) rfl rfl rfl (lawake_any (hV.kept hSt.nil.keeps)) ?_; rintro v w2 ⟨rfl, hc2⟩; replace hSt := hSt.call0 hc2; clear hc2) | refine stepA ?_ | (refine stepS ?_; clear hSt; intro w hSt; dsimp only [spl, List.set] at hSt) | (refine stepB ?_; clear hSt; intro w nb hnb hSt; dsimp only [zcells, List.nil_append, List.cons_append] at hSt) | (refine W_quiet hT (by decide +kernel) hSt ?_; clear hSt; (repeat' (first | (apply QL_ev rfl rfl; (intro w hSt; (first | exact Ev_auto))) | refine QL_pass rfl rfl ?_ | (refine QL_guardP rfl rfl (fun hc => ?_) (fun hc => ?_) <;> try exact absA) | (refine QL_guard rfl rfl (fun hc => ?_) (fun hc => ?_) <;> (try exact absA) <;> (fail_if_success (change true = true at hc)) <;> (fail_if_success (change false = false at hc))))); all_goals (refine QL_nil (fun w hSt => ?_))) | (refine stepG ?_ ?_ <;> intro hc <;> (try exact absA) <;> (fail_if_success (change true = true at hc)) <;> (fail_if_success (change false = false at hc))) | fail)
  all_goals try (exfalso; first | omega | (simp at hc; done) | (exact hc rfl) | contradiction)
  all_goals exact ret1 rfl rfl ⟨rfl, hSt.nil⟩
end Go.Proofs.YtknfankadlokhaaGreatDoor
