/- What the client does with a message, and with a cancellation. No conditions. -/
import Derived.Test.YthkimkgphaiagaaGreatDoorNA

namespace Go.Proofs.YthkimkgphaiagaaGreatDoor
open Go.RowKit
set_option maxRecDepth 4000
set_option linter.unusedVariables false
set_option linter.unusedSimpArgs false
set_option maxHeartbeats 1000000

abbrev H3 (cb mb b : Nat) (num retry last : Int) (bs : List Nat) (g : Ce) : List (Nat × Obj) := [(cb, cliO num retry last mb), (mb, mapO bs), (b, g.obj)]

theorem receive_in {w0 : World} {cb mb b i : Nat} {num retry last number : Int} {bs : List Nat} {g : Ce} (hh : Has w0 (H3 cb mb b num retry last bs g)) (hbi : bs[i]? = some b) (hn : number = (i : Int) + 1) (kind told : Int) (text : List UInt8) (hk : 3 ≤ kind ∧ kind ≤ 9) :
    Cl Tryz.prog 17 [Ptr cb, .agg ⟨[I kind, I num, I number, I told, S text]⟩] w0 (fun v w' => v = I (g.recv kind told text).1 ∧ St w0 (InH (H3 cb mb b num retry last bs g)) (H3 cb mb b num retry last bs (g.recv kind told text).2) w') := by
  obtain ⟨q, r, st, fb, nx, cn, nc⟩ := g
  have hSt := hh.st
  dsimp only [H3, Ce.obj, Ce.cells] at hSt
  have leaf : ∀ {e : Int} {g' : Ce} {w : World} {H : List (Nat × Obj)}, St w0 (InH (H3 cb mb b num retry last bs ⟨q, r, st, fb, nx, cn, nc⟩)) (H3 cb mb b num retry last bs g' ++ H) w → (Ce.mk q r st fb nx cn nc).recv kind told text = (e, g') →
      (I e = I ((Ce.mk q r st fb nx cn nc).recv kind told text).1 ∧ St w0 (InH (H3 cb mb b num retry last bs ⟨q, r, st, fb, nx, cn, nc⟩)) (H3 cb mb b num retry last bs ((Ce.mk q r st fb nx cn nc).recv kind told text).2) w) := by
    intro e g' w H h he
    rw [he]; exact ⟨rfl, h.left⟩
  refine enter Tryz.func17 rfl Tryz.ntmps17 rfl ?_
  rcases (by omega : kind = 3 ∨ kind = 4 ∨ kind = 5 ∨ kind = 6 ∨ kind = 7 ∨ kind = 8 ∨ kind = 9) with rfl | rfl | rfl | rfl | rfl | rfl | rfl
  · repeat' (first | (refine WL_isCall (f := 42) ?_; refine WL_call (ok_call hT rfl) rfl rfl rfl (find_in (hSt.at 0 rfl) (hSt.at 1 rfl) hbi hn) ?_; rintro v w' ⟨rfl, hc2⟩; replace hSt := hSt.call0 hc2; clear hc2) | (refine WL_call (ok_call hT rfl) rfl rfl rfl (reject_any (hSt.at 2 rfl)) ?_; rintro v w' ⟨rfl, hc2⟩; replace hSt := hSt.call1 (i := 2) rfl hc2; dsimp only [List.set] at hSt; clear hc2) | (refine WL_call (ok_call hT rfl) rfl rfl rfl (cend_any (hSt.at 2 rfl) _ _) ?_; rintro v w' ⟨rfl, hc2⟩; replace hSt := hSt.call1 (i := 2) rfl hc2; dsimp only [List.set] at hSt; clear hc2) | refine stepA ?_ | (refine stepS ?_; clear hSt; intro w hSt; dsimp only [spl, List.set] at hSt) | (refine stepB ?_; clear hSt; intro w nb hnb hSt; dsimp only [zcells, List.nil_append, List.cons_append] at hSt) | (refine W_quiet hT (by decide +kernel) hSt ?_; clear hSt; (repeat' (first | (refine QL_isCall (f := 43) ?_; refine QL_call (ok_call hT rfl) rfl rfl rfl (fun w hSt => (ended_any (hSt.at 2 rfl)).mono (fun v w2 h => ⟨h.1, hSt.call0 h.2⟩)) ?_) | (apply QL_ev rfl rfl; (intro w hSt; (first | exact Ev_auto))) | refine QL_pass rfl rfl ?_ | (refine QL_guardP rfl rfl (fun hc => ?_) (fun hc => ?_) <;> try exact absA) | (refine QL_guard rfl rfl (fun hc => ?_) (fun hc => ?_) <;> (try exact absA) <;> (fail_if_success (change true = true at hc)) <;> (fail_if_success (change false = false at hc))))); all_goals (refine QL_nil (fun w hSt => ?_))) | (refine stepG ?_ ?_ <;> intro hc <;> (try exact absA) <;> (fail_if_success (change true = true at hc)) <;> (fail_if_success (change false = false at hc))) | fail)
    all_goals (refine ret1 rfl rfl (leaf (g' := ⟨_, _, _, _, _, _, _⟩) (H := [_]) hSt ?_))
    all_goals
      clear leaf hSt
      first
      | rfl
      | (simp only [Ce.recv]; (repeat' split) <;> first | rfl | (exfalso; omega) | (exfalso; simp_all; done) | (simp_all; done))
  · repeat' (first | (refine WL_isCall (f := 42) ?_; refine WL_call (ok_call hT rfl) rfl rfl rfl (find_in (hSt.at 0 rfl) (hSt.at 1 rfl) hbi hn) ?_; rintro v w' ⟨rfl, hc2⟩; replace hSt := hSt.call0 hc2; clear hc2) | (refine WL_call (ok_call hT rfl) rfl rfl rfl (reject_any (hSt.at 2 rfl)) ?_; rintro v w' ⟨rfl, hc2⟩; replace hSt := hSt.call1 (i := 2) rfl hc2; dsimp only [List.set] at hSt; clear hc2) | (refine WL_call (ok_call hT rfl) rfl rfl rfl (cend_any (hSt.at 2 rfl) _ _) ?_; rintro v w' ⟨rfl, hc2⟩; replace hSt := hSt.call1 (i := 2) rfl hc2; dsimp only [List.set] at hSt; clear hc2) | refine stepA ?_ | (refine stepS ?_; clear hSt; intro w hSt; dsimp only [spl, List.set] at hSt) | (refine stepB ?_; clear hSt; intro w nb hnb hSt; dsimp only [zcells, List.nil_append, List.cons_append] at hSt) | (refine W_quiet hT (by decide +kernel) hSt ?_; clear hSt; (repeat' (first | (refine QL_isCall (f := 43) ?_; refine QL_call (ok_call hT rfl) rfl rfl rfl (fun w hSt => (ended_any (hSt.at 2 rfl)).mono (fun v w2 h => ⟨h.1, hSt.call0 h.2⟩)) ?_) | (apply QL_ev rfl rfl; (intro w hSt; (first | exact Ev_auto))) | refine QL_pass rfl rfl ?_ | (refine QL_guardP rfl rfl (fun hc => ?_) (fun hc => ?_) <;> try exact absA) | (refine QL_guard rfl rfl (fun hc => ?_) (fun hc => ?_) <;> (try exact absA) <;> (fail_if_success (change true = true at hc)) <;> (fail_if_success (change false = false at hc))))); all_goals (refine QL_nil (fun w hSt => ?_))) | (refine stepG ?_ ?_ <;> intro hc <;> (try exact absA) <;> (fail_if_success (change true = true at hc)) <;> (fail_if_success (change false = false at hc))) | fail)
    all_goals (refine ret1 rfl rfl (leaf (g' := _) (H := [_]) hSt ?_))
    all_goals
      clear leaf hSt
      first
      | rfl
      | (simp only [Ce.recv]; (repeat' split) <;> first | rfl | (exfalso; omega) | (exfalso; simp_all; done) | (simp_all; done))
  · repeat' (first | (refine WL_isCall (f := 42) ?_; refine WL_call (ok_call hT rfl) rfl rfl rfl (find_in (hSt.at 0 rfl) (hSt.at 1 rfl) hbi hn) ?_; rintro v w' ⟨rfl, hc2⟩; replace hSt := hSt.call0 hc2; clear hc2) | (refine WL_call (ok_call hT rfl) rfl rfl rfl (reject_any (hSt.at 2 rfl)) ?_; rintro v w' ⟨rfl, hc2⟩; replace hSt := hSt.call1 (i := 2) rfl hc2; dsimp only [List.set] at hSt; clear hc2) | (refine WL_call (ok_call hT rfl) rfl rfl rfl (cend_any (hSt.at 2 rfl) _ _) ?_; rintro v w' ⟨rfl, hc2⟩; replace hSt := hSt.call1 (i := 2) rfl hc2; dsimp only [List.set] at hSt; clear hc2) | refine stepA ?_ | (refine stepS ?_; clear hSt; intro w hSt; dsimp only [spl, List.set] at hSt) | (refine stepB ?_; clear hSt; intro w nb hnb hSt; dsimp only [zcells, List.nil_append, List.cons_append] at hSt) | (refine W_quiet hT (by decide +kernel) hSt ?_; clear hSt; (repeat' (first | (refine QL_isCall (f := 43) ?_; refine QL_call (ok_call hT rfl) rfl rfl rfl (fun w hSt => (ended_any (hSt.at 2 rfl)).mono (fun v w2 h => ⟨h.1, hSt.call0 h.2⟩)) ?_) | (apply QL_ev rfl rfl; (intro w hSt; (first | exact Ev_auto))) | refine QL_pass rfl rfl ?_ | (refine QL_guardP rfl rfl (fun hc => ?_) (fun hc => ?_) <;> try exact absA) | (refine QL_guard rfl rfl (fun hc => ?_) (fun hc => ?_) <;> (try exact absA) <;> (fail_if_success (change true = true at hc)) <;> (fail_if_success (change false = false at hc))))); all_goals (refine QL_nil (fun w hSt => ?_))) | (refine stepG ?_ ?_ <;> intro hc <;> (try exact absA) <;> (fail_if_success (change true = true at hc)) <;> (fail_if_success (change false = false at hc))) | fail)
    all_goals (refine ret1 rfl rfl (leaf (g' := ⟨_, _, _, _, _, _, _⟩) (H := [_]) hSt ?_))
    all_goals
      clear leaf hSt
      first
      | rfl
      | (simp only [Ce.recv]; (repeat' split) <;> first | rfl | (exfalso; omega) | (exfalso; simp_all; done) | (simp_all; done))
  · repeat' (first | (refine WL_isCall (f := 42) ?_; refine WL_call (ok_call hT rfl) rfl rfl rfl (find_in (hSt.at 0 rfl) (hSt.at 1 rfl) hbi hn) ?_; rintro v w' ⟨rfl, hc2⟩; replace hSt := hSt.call0 hc2; clear hc2) | (refine WL_call (ok_call hT rfl) rfl rfl rfl (reject_any (hSt.at 2 rfl)) ?_; rintro v w' ⟨rfl, hc2⟩; replace hSt := hSt.call1 (i := 2) rfl hc2; dsimp only [List.set] at hSt; clear hc2) | (refine WL_call (ok_call hT rfl) rfl rfl rfl (cend_any (hSt.at 2 rfl) _ _) ?_; rintro v w' ⟨rfl, hc2⟩; replace hSt := hSt.call1 (i := 2) rfl hc2; dsimp only [List.set] at hSt; clear hc2) | refine stepA ?_ | (refine stepS ?_; clear hSt; intro w hSt; dsimp only [spl, List.set] at hSt) | (refine stepB ?_; clear hSt; intro w nb hnb hSt; dsimp only [zcells, List.nil_append, List.cons_append] at hSt) | (refine W_quiet hT (by decide +kernel) hSt ?_; clear hSt; (repeat' (first | (refine QL_isCall (f := 43) ?_; refine QL_call (ok_call hT rfl) rfl rfl rfl (fun w hSt => (ended_any (hSt.at 2 rfl)).mono (fun v w2 h => ⟨h.1, hSt.call0 h.2⟩)) ?_) | (apply QL_ev rfl rfl; (intro w hSt; (first | exact Ev_auto))) | refine QL_pass rfl rfl ?_ | (refine QL_guardP rfl rfl (fun hc => ?_) (fun hc => ?_) <;> try exact absA) | (refine QL_guard rfl rfl (fun hc => ?_) (fun hc => ?_) <;> (try exact absA) <;> (fail_if_success (change true = true at hc)) <;> (fail_if_success (change false = false at hc))))); all_goals (refine QL_nil (fun w hSt => ?_))) | (refine stepG ?_ ?_ <;> intro hc <;> (try exact absA) <;> (fail_if_success (change true = true at hc)) <;> (fail_if_success (change false = false at hc))) | fail)
    all_goals (refine ret1 rfl rfl (leaf (g' := _) (H := [_]) hSt ?_))
    all_goals
      clear leaf hSt
      first
      | rfl
      | (simp only [Ce.recv]; (repeat' split) <;> first | rfl | (exfalso; omega) | (exfalso; simp_all; done) | (simp_all; done))
  · repeat' (first | (refine WL_isCall (f := 42) ?_; refine WL_call (ok_call hT rfl) rfl rfl rfl (find_in (hSt.at 0 rfl) (hSt.at 1 rfl) hbi hn) ?_; rintro v w' ⟨rfl, hc2⟩; replace hSt := hSt.call0 hc2; clear hc2) | (refine WL_call (ok_call hT rfl) rfl rfl rfl (reject_any (hSt.at 2 rfl)) ?_; rintro v w' ⟨rfl, hc2⟩; replace hSt := hSt.call1 (i := 2) rfl hc2; dsimp only [List.set] at hSt; clear hc2) | (refine WL_call (ok_call hT rfl) rfl rfl rfl (cend_any (hSt.at 2 rfl) _ _) ?_; rintro v w' ⟨rfl, hc2⟩; replace hSt := hSt.call1 (i := 2) rfl hc2; dsimp only [List.set] at hSt; clear hc2) | refine stepA ?_ | (refine stepS ?_; clear hSt; intro w hSt; dsimp only [spl, List.set] at hSt) | (refine stepB ?_; clear hSt; intro w nb hnb hSt; dsimp only [zcells, List.nil_append, List.cons_append] at hSt) | (refine W_quiet hT (by decide +kernel) hSt ?_; clear hSt; (repeat' (first | (refine QL_isCall (f := 43) ?_; refine QL_call (ok_call hT rfl) rfl rfl rfl (fun w hSt => (ended_any (hSt.at 2 rfl)).mono (fun v w2 h => ⟨h.1, hSt.call0 h.2⟩)) ?_) | (apply QL_ev rfl rfl; (intro w hSt; (first | exact Ev_auto))) | refine QL_pass rfl rfl ?_ | (refine QL_guardP rfl rfl (fun hc => ?_) (fun hc => ?_) <;> try exact absA) | (refine QL_guard rfl rfl (fun hc => ?_) (fun hc => ?_) <;> (try exact absA) <;> (fail_if_success (change true = true at hc)) <;> (fail_if_success (change false = false at hc))))); all_goals (refine QL_nil (fun w hSt => ?_))) | (refine stepG ?_ ?_ <;> intro hc <;> (try exact absA) <;> (fail_if_success (change true = true at hc)) <;> (fail_if_success (change false = false at hc))) | fail)
    all_goals (refine ret1 rfl rfl (leaf (g' := _) (H := [_]) hSt ?_))
    all_goals
      clear leaf hSt
      first
      | rfl
      | (simp only [Ce.recv]; (repeat' split) <;> first | rfl | (exfalso; omega) | (exfalso; simp_all; done) | (simp_all; done))
  · repeat' (first | (refine WL_isCall (f := 42) ?_; refine WL_call (ok_call hT rfl) rfl rfl rfl (find_in (hSt.at 0 rfl) (hSt.at 1 rfl) hbi hn) ?_; rintro v w' ⟨rfl, hc2⟩; replace hSt := hSt.call0 hc2; clear hc2) | (refine WL_call (ok_call hT rfl) rfl rfl rfl (reject_any (hSt.at 2 rfl)) ?_; rintro v w' ⟨rfl, hc2⟩; replace hSt := hSt.call1 (i := 2) rfl hc2; dsimp only [List.set] at hSt; clear hc2) | (refine WL_call (ok_call hT rfl) rfl rfl rfl (cend_any (hSt.at 2 rfl) _ _) ?_; rintro v w' ⟨rfl, hc2⟩; replace hSt := hSt.call1 (i := 2) rfl hc2; dsimp only [List.set] at hSt; clear hc2) | refine stepA ?_ | (refine stepS ?_; clear hSt; intro w hSt; dsimp only [spl, List.set] at hSt) | (refine stepB ?_; clear hSt; intro w nb hnb hSt; dsimp only [zcells, List.nil_append, List.cons_append] at hSt) | (refine W_quiet hT (by decide +kernel) hSt ?_; clear hSt; (repeat' (first | (refine QL_isCall (f := 43) ?_; refine QL_call (ok_call hT rfl) rfl rfl rfl (fun w hSt => (ended_any (hSt.at 2 rfl)).mono (fun v w2 h => ⟨h.1, hSt.call0 h.2⟩)) ?_) | (apply QL_ev rfl rfl; (intro w hSt; (first | exact Ev_auto))) | refine QL_pass rfl rfl ?_ | (refine QL_guardP rfl rfl (fun hc => ?_) (fun hc => ?_) <;> try exact absA) | (refine QL_guard rfl rfl (fun hc => ?_) (fun hc => ?_) <;> (try exact absA) <;> (fail_if_success (change true = true at hc)) <;> (fail_if_success (change false = false at hc))))); all_goals (refine QL_nil (fun w hSt => ?_))) | (refine stepG ?_ ?_ <;> intro hc <;> (try exact absA) <;> (fail_if_success (change true = true at hc)) <;> (fail_if_success (change false = false at hc))) | fail)
    all_goals (refine ret1 rfl rfl (leaf (g' := _) (H := [_]) hSt ?_))
    all_goals
      clear leaf hSt
      first
      | rfl
      | (simp only [Ce.recv]; (repeat' split) <;> first | rfl | (exfalso; omega) | (exfalso; simp_all; done) | (simp_all; done))
  · repeat' (first | (refine WL_isCall (f := 42) ?_; refine WL_call (ok_call hT rfl) rfl rfl rfl (find_in (hSt.at 0 rfl) (hSt.at 1 rfl) hbi hn) ?_; rintro v w' ⟨rfl, hc2⟩; replace hSt := hSt.call0 hc2; clear hc2) | (refine WL_call (ok_call hT rfl) rfl rfl rfl (reject_any (hSt.at 2 rfl)) ?_; rintro v w' ⟨rfl, hc2⟩; replace hSt := hSt.call1 (i := 2) rfl hc2; dsimp only [List.set] at hSt; clear hc2) | (refine WL_call (ok_call hT rfl) rfl rfl rfl (cend_any (hSt.at 2 rfl) _ _) ?_; rintro v w' ⟨rfl, hc2⟩; replace hSt := hSt.call1 (i := 2) rfl hc2; dsimp only [List.set] at hSt; clear hc2) | refine stepA ?_ | (refine stepS ?_; clear hSt; intro w hSt; dsimp only [spl, List.set] at hSt) | (refine stepB ?_; clear hSt; intro w nb hnb hSt; dsimp only [zcells, List.nil_append, List.cons_append] at hSt) | (refine W_quiet hT (by decide +kernel) hSt ?_; clear hSt; (repeat' (first | (refine QL_isCall (f := 43) ?_; refine QL_call (ok_call hT rfl) rfl rfl rfl (fun w hSt => (ended_any (hSt.at 2 rfl)).mono (fun v w2 h => ⟨h.1, hSt.call0 h.2⟩)) ?_) | (apply QL_ev rfl rfl; (intro w hSt; (first | exact Ev_auto))) | refine QL_pass rfl rfl ?_ | (refine QL_guardP rfl rfl (fun hc => ?_) (fun hc => ?_) <;> try exact absA) | (refine QL_guard rfl rfl (fun hc => ?_) (fun hc => ?_) <;> (try exact absA) <;> (fail_if_success (change true = true at hc)) <;> (fail_if_success (change false = false at hc))))); all_goals (refine QL_nil (fun w hSt => ?_))) | (refine stepG ?_ ?_ <;> intro hc <;> (try exact absA) <;> (fail_if_success (change true = true at hc)) <;> (fail_if_success (change false = false at hc))) | fail)
    all_goals (refine ret1 rfl rfl (leaf (g' := ⟨_, _, _, _, _, _, _⟩) (H := [_]) hSt ?_))
    all_goals
      clear leaf hSt
      first
      | rfl
      | (simp only [Ce.recv]; (repeat' split) <;> first | rfl | (exfalso; omega) | (exfalso; simp_all; done) | (simp_all; done))

theorem cancel_in {w0 : World} {cb mb b i : Nat} {num retry last number : Int} {bs : List Nat} {g : Ce} (hh : Has w0 (H3 cb mb b num retry last bs g)) (hbi : bs[i]? = some b) (hn : number = (i : Int) + 1) (at_ : Int) (hat : 0 ≤ at_ ∧ at_ ≤ 1099511627776) :
    Cl Tryz.prog 12 [Ptr cb, I number, I at_] w0 (fun v w' => v = I (g.cancel at_).1 ∧ St w0 (InH (H3 cb mb b num retry last bs g)) (H3 cb mb b num retry last bs (g.cancel at_).2) w') := by
  obtain ⟨q, r, st, fb, nx, cn, nc⟩ := g
  have hSt := hh.st
  dsimp only [H3, Ce.obj, Ce.cells] at hSt
  have leaf : ∀ {e : Int} {g' : Ce} {w : World}, St w0 (InH (H3 cb mb b num retry last bs ⟨q, r, st, fb, nx, cn, nc⟩)) (H3 cb mb b num retry last bs g') w → (Ce.mk q r st fb nx cn nc).cancel at_ = (e, g') →
      (I e = I ((Ce.mk q r st fb nx cn nc).cancel at_).1 ∧ St w0 (InH (H3 cb mb b num retry last bs ⟨q, r, st, fb, nx, cn, nc⟩)) (H3 cb mb b num retry last bs ((Ce.mk q r st fb nx cn nc).cancel at_).2) w) := by
    intro e g' w h he
    rw [he]; exact ⟨rfl, h⟩
  cases cn
  all_goals
    refine enter Tryz.func12 rfl Tryz.ntmps12 rfl ?_
    repeat' (first | (refine WL_isCall (f := 42) ?_; refine WL_call (ok_call hT rfl) rfl rfl rfl (find_in (hSt.at 0 rfl) (hSt.at 1 rfl) hbi hn) ?_; rintro v w' ⟨rfl, hc2⟩; replace hSt := hSt.call0 hc2; clear hc2) | (refine WL_isCall (f := 43) ?_; refine WL_call (ok_call hT rfl) rfl rfl rfl (ended_any (hSt.at 2 rfl)) ?_; rintro v w' ⟨rfl, hc2⟩; replace hSt := hSt.call0 hc2; clear hc2) | (refine WL_isCall (f := 41) ?_; refine WL_call (ok_call hT rfl) rfl rfl rfl (valid_any _) ?_; rintro v w' ⟨rfl, hc2⟩; replace hSt := hSt.call0 hc2; clear hc2) | refine stepA ?_ | (refine stepS ?_; clear hSt; intro w hSt; dsimp only [spl, List.set] at hSt) | (refine stepB ?_; clear hSt; intro w nb hnb hSt; dsimp only [zcells, List.nil_append, List.cons_append] at hSt) | (refine W_quiet hT (by decide +kernel) hSt ?_; clear hSt; (repeat' (first | (apply QL_ev rfl rfl; (intro w hSt; (first | exact Ev_auto))) | refine QL_pass rfl rfl ?_ | (refine QL_guardP rfl rfl (fun hc => ?_) (fun hc => ?_) <;> try exact absA) | (refine QL_guard rfl rfl (fun hc => ?_) (fun hc => ?_) <;> (try exact absA) <;> (fail_if_success (change true = true at hc)) <;> (fail_if_success (change false = false at hc))))); all_goals (refine QL_nil (fun w hSt => ?_))) | (refine stepG ?_ ?_ <;> intro hc <;> (try exact absA) <;> (fail_if_success (change true = true at hc)) <;> (fail_if_success (change false = false at hc))) | fail)
  all_goals (refine ret1 rfl rfl (leaf (g' := ⟨_, _, _, _, _, _, _⟩) hSt ?_))
  all_goals
    clear leaf hSt
    first
    | rfl
    | (simp only [Ce.cancel]; (repeat' split) <;> first | rfl | (exfalso; omega) | (exfalso; simp_all; done) | (simp_all; done))
end Go.Proofs.YthkimkgphaiagaaGreatDoor

namespace Go.Proofs.YthkimkgphaiagaaGreatDoor
open Go.RowKit
set_option maxRecDepth 4000
set_option linter.unusedVariables false
set_option linter.unusedSimpArgs false
set_option maxHeartbeats 1000000

theorem copen_any {w0 : World} {cb mb : Nat} {bs : List Nat} {num retry : Int} {gs : List Ce} (hh : Has w0 (CH cb mb bs num retry gs)) (hl : bs.length = gs.length) (hb : gs.length ≤ 1000) :
    Cl Tryz.prog 24 [Ptr cb] w0 (fun v w' => ∃ H1, OwnSl v 3 1 ((copL 1 gs).map I) (copL 1 gs).length H1 ∧ St w0 NoneS H1 w') := by
  have hSt := St.refl w0 NoneS
  have hcb := hh.own 0 _ _ rfl
  have hmb := hh.own 1 _ _ rfl
  refine enter Tryz.func24 rfl Tryz.ntmps24 rfl ?_
  repeat' (first | refine stepA ?_ | (refine stepS ?_; clear hSt; intro w hSt; dsimp only [spl, List.set] at hSt) | (refine stepB ?_; clear hSt; intro w nb hnb hSt; dsimp only [zcells, List.nil_append, List.cons_append] at hSt) | (refine W_quiet hT (by decide +kernel) hSt ?_; clear hSt; (repeat' (first | (apply QL_ev rfl rfl; (intro w hSt; (first | exact Ev_auto))) | refine QL_pass rfl rfl ?_ | (refine QL_guardP rfl rfl (fun hc => ?_) (fun hc => ?_) <;> try exact absA) | (refine QL_guard rfl rfl (fun hc => ?_) (fun hc => ?_) <;> (try exact absA) <;> (fail_if_success (change true = true at hc)) <;> (fail_if_success (change false = false at hc))))); all_goals (refine QL_nil (fun w hSt => ?_))) | (refine stepG ?_ ?_ <;> intro hc <;> (try exact absA) <;> (fail_if_success (change true = true at hc)) <;> (fail_if_success (change false = false at hc))) | fail)
  refine W_loop2 (fun k (i : Nat) (v : Value) w => k = gs.length - i ∧ i ≤ gs.length ∧ ∃ H1, OwnSl v 3 1 ((copL 1 (gs.take i)).map I) (copL 1 (gs.take i)).length H1 ∧ St w0 NoneS H1 w)
    (fun i v => [(3, v), (4, I ((i : Int) + 1))]) gs.length 0 (.slice none 0 0) rfl (by (repeat (first | exact Str.nil _ | apply Str.drop rfl | apply Str.keepU rfl | apply Str.keep rfl))) ⟨rfl, by omega, [], OwnSl.nil _ _, hSt⟩ (by (repeat (first | exact Sub.nil _ | refine Sub.cons rfl ?_))) ?_
  rintro k i v w ⟨hk, hi, H1, ho, hSt⟩ K hK
  by_cases hil : i < gs.length
  · obtain ⟨g, hgi⟩ : ∃ g, gs[i]? = some g := ⟨_, List.getElem?_eq_getElem hil⟩
    obtain ⟨b, hbi⟩ : ∃ b, bs[i]? = some b := ⟨_, List.getElem?_eq_getElem (by omega)⟩
    have hgb := hh.own _ _ _ (CH_at hbi hgi)
    have hos := copL_snoc g (gs.take i) 1
    rw [← take_succ_of hgi, List.length_take, Nat.min_eq_left (by omega)] at hos
    have hol := copL_len (gs.take i) 1
    rw [List.length_take] at hol
    repeat' (first | (apply WL_ev rfl rfl; exact Ev_load1 hT rfl rfl (hSt.base hcb (fun e => e)) rfl) | (apply WL_ev rfl rfl; exact Ev_lookup Tryz.underlying87 Tryz.underlying3 (by simp [MapKept.IsKey]) rfl rfl (hSt.base hmb (fun e => e)) (findNow_in _ bs 0 0 i b hbi (by omega))) | (refine WL_isCall (f := 43) ?_; refine WL_call (ok_call hT rfl) rfl rfl rfl (ended_any (hSt.base hgb (fun e => e))) ?_; rintro v w' ⟨rfl, hc2⟩; replace hSt := hSt.call0 hc2; clear hc2) | refine stepA ?_ | (refine stepS ?_; clear hSt; intro w hSt; dsimp only [spl, List.set] at hSt) | (refine stepB ?_; clear hSt; intro w nb hnb hSt; dsimp only [zcells, List.nil_append, List.cons_append] at hSt) | (refine W_quiet hT (by decide +kernel) hSt ?_; clear hSt; (repeat' (first | (apply QL_ev rfl rfl; (intro w hSt; (first | (exact Ev_load1 hT rfl rfl (hSt.base hcb (fun e => e)) rfl) | (exact Ev_lookup Tryz.underlying87 Tryz.underlying3 (by simp [MapKept.IsKey]) rfl rfl (hSt.base hmb (fun e => e)) (findNow_in _ bs 0 0 i b hbi (by omega))) | exact Ev_auto))) | refine QL_pass rfl rfl ?_ | (refine QL_guardP rfl rfl (fun hc => ?_) (fun hc => ?_) <;> try exact absA) | (refine QL_guard rfl rfl (fun hc => ?_) (fun hc => ?_) <;> (try exact absA) <;> (fail_if_success (change true = true at hc)) <;> (fail_if_success (change false = false at hc))))); all_goals (refine QL_nil (fun w hSt => ?_))) | (refine stepG ?_ ?_ <;> intro hc <;> (try exact absA) <;> (fail_if_success (change true = true at hc)) <;> (fail_if_success (change false = false at hc))) | fail)
    · rw [if_pos (by omega)] at hos
      refine WL_push1 hT rfl rfl rfl rfl rfl rfl rfl rfl rfl rfl rfl rfl (fun _ => rfl) rfl hSt (H0 := []) ho (by omega) (by omega) ?_
      intro v' w H1' u ho hSt
      repeat' (first | refine stepA ?_ | (refine stepS ?_; clear hSt; intro w hSt; dsimp only [spl, List.set] at hSt) | (refine stepB ?_; clear hSt; intro w nb hnb hSt; dsimp only [zcells, List.nil_append, List.cons_append] at hSt) | (refine W_quiet hT (by decide +kernel) hSt ?_; clear hSt; (repeat' (first | (apply QL_ev rfl rfl; (intro w hSt; (first | exact Ev_auto))) | refine QL_pass rfl rfl ?_ | (refine QL_guardP rfl rfl (fun hc => ?_) (fun hc => ?_) <;> try exact absA) | (refine QL_guard rfl rfl (fun hc => ?_) (fun hc => ?_) <;> (try exact absA) <;> (fail_if_success (change true = true at hc)) <;> (fail_if_success (change false = false at hc))))); all_goals (refine QL_nil (fun w hSt => ?_))) | (refine stepG ?_ ?_ <;> intro hc <;> (try exact absA) <;> (fail_if_success (change true = true at hc)) <;> (fail_if_success (change false = false at hc))) | fail)
      refine At_loop2 hK (k' := gs.length - (i + 1)) (i + 1) v' (by omega) ⟨rfl, by omega, H1', ?_, hSt⟩ (by (repeat (first | exact Sub.nil _ | refine Sub.cons rfl ?_)))
      rw [hos, show (1 : Int) + (i : Int) = (i : Int) + 1 by omega]
      simpa [zcells] using ho
    · rw [if_neg (by omega)] at hos
      refine At_loop2 hK (k' := gs.length - (i + 1)) (i + 1) v (by omega) ⟨rfl, by omega, H1, ?_, hSt⟩ (by (repeat (first | exact Sub.nil _ | refine Sub.cons rfl ?_)))
      rw [hos]
      simpa using ho
  · have hi' : i = gs.length := by omega
    subst hi'
    repeat' (first | (apply WL_ev rfl rfl; exact Ev_load1 hT rfl rfl (hSt.base hcb (fun e => e)) rfl) | refine stepA ?_ | (refine stepS ?_; clear hSt; intro w hSt; dsimp only [spl, List.set] at hSt) | (refine stepB ?_; clear hSt; intro w nb hnb hSt; dsimp only [zcells, List.nil_append, List.cons_append] at hSt) | (refine W_quiet hT (by decide +kernel) hSt ?_; clear hSt; (repeat' (first | (apply QL_ev rfl rfl; (intro w hSt; (first | (exact Ev_load1 hT rfl rfl (hSt.base hcb (fun e => e)) rfl) | exact Ev_auto))) | refine QL_pass rfl rfl ?_ | (refine QL_guardP rfl rfl (fun hc => ?_) (fun hc => ?_) <;> try exact absA) | (refine QL_guard rfl rfl (fun hc => ?_) (fun hc => ?_) <;> (try exact absA) <;> (fail_if_success (change true = true at hc)) <;> (fail_if_success (change false = false at hc))))); all_goals (refine QL_nil (fun w hSt => ?_))) | (refine stepG ?_ ?_ <;> intro hc <;> (try exact absA) <;> (fail_if_success (change true = true at hc)) <;> (fail_if_success (change false = false at hc))) | fail)
    rw [List.take_length] at ho
    exact ret1 rfl rfl ⟨H1, ho, hSt⟩
theorem copen_nil {w0 : World} : Cl Tryz.prog 24 [.pointer none] w0 (fun v w' => v = .slice none 0 0 ∧ St w0 NoneS [] w') := by
  have hSt := St.refl w0 NoneS
  refine enter Tryz.func24 rfl Tryz.ntmps24 rfl ?_
  repeat' (first | refine stepA ?_ | (refine stepS ?_; clear hSt; intro w hSt; dsimp only [spl, List.set] at hSt) | (refine stepB ?_; clear hSt; intro w nb hnb hSt; dsimp only [zcells, List.nil_append, List.cons_append] at hSt) | (refine W_quiet hT (by decide +kernel) hSt ?_; clear hSt; (repeat' (first | (apply QL_ev rfl rfl; (intro w hSt; (first | exact Ev_auto))) | refine QL_pass rfl rfl ?_ | (refine QL_guardP rfl rfl (fun hc => ?_) (fun hc => ?_) <;> try exact absA) | (refine QL_guard rfl rfl (fun hc => ?_) (fun hc => ?_) <;> (try exact absA) <;> (fail_if_success (change true = true at hc)) <;> (fail_if_success (change false = false at hc))))); all_goals (refine QL_nil (fun w hSt => ?_))) | (refine stepG ?_ ?_ <;> intro hc <;> (try exact absA) <;> (fail_if_success (change true = true at hc)) <;> (fail_if_success (change false = false at hc))) | fail)
  exact ret1 rfl rfl ⟨rfl, hSt⟩
theorem cnew_bad {w0 : World} {c r : Int} (h : c < 1 ∨ 1073741824 < c ∨ r < 1 ∨ 1099511627776 < r) :
    Cl Tryz.prog 8 [I c, I r] w0 (fun v w' => v = .tuple ⟨[.pointer none, I 4]⟩ ∧ St w0 NoneS [] w') := by
  have hSt := St.refl w0 NoneS
  refine enter Tryz.func8 rfl Tryz.ntmps8 rfl ?_
  repeat' (first | refine stepA ?_ | (refine stepS ?_; clear hSt; intro w hSt; dsimp only [spl, List.set] at hSt) | (refine stepB ?_; clear hSt; intro w nb hnb hSt; dsimp only [zcells, List.nil_append, List.cons_append] at hSt) | (refine W_quiet hT (by decide +kernel) hSt ?_; clear hSt; (repeat' (first | (apply QL_ev rfl rfl; (intro w hSt; (first | exact Ev_auto))) | refine QL_pass rfl rfl ?_ | (refine QL_guardP rfl rfl (fun hc => ?_) (fun hc => ?_) <;> try exact absA) | (refine QL_guard rfl rfl (fun hc => ?_) (fun hc => ?_) <;> (try exact absA) <;> (fail_if_success (change true = true at hc)) <;> (fail_if_success (change false = false at hc))))); all_goals (refine QL_nil (fun w hSt => ?_))) | (refine stepG ?_ ?_ <;> intro hc <;> (try exact absA) <;> (fail_if_success (change true = true at hc)) <;> (fail_if_success (change false = false at hc))) | fail)
  all_goals exact ret2 rfl rfl rfl ⟨rfl, hSt⟩
theorem cnew_good {w0 : World} {c r : Int} (h : ¬ (c < 1 ∨ 1073741824 < c ∨ r < 1 ∨ 1099511627776 < r)) :
    Cl Tryz.prog 8 [I c, I r] w0 (fun v w' => ∃ cb mb, v = .tuple ⟨[Ptr cb, I 0]⟩ ∧ St w0 NoneS (CH cb mb [] c r []) w') := by
  have hSt := St.refl w0 NoneS
  refine enter Tryz.func8 rfl Tryz.ntmps8 rfl ?_
  repeat' (first | (refine WL_makeMap rfl rfl hSt ?_; clear hSt; intro w mb hmb hSt; dsimp only [List.nil_append, List.cons_append] at hSt) | refine stepA ?_ | (refine stepS ?_; clear hSt; intro w hSt; dsimp only [spl, List.set] at hSt) | (refine stepB ?_; clear hSt; intro w nb hnb hSt; dsimp only [zcells, List.nil_append, List.cons_append] at hSt) | (refine W_quiet hT (by decide +kernel) hSt ?_; clear hSt; (repeat' (first | (apply QL_ev rfl rfl; (intro w hSt; (first | exact Ev_auto))) | refine QL_pass rfl rfl ?_ | (refine QL_guardP rfl rfl (fun hc => ?_) (fun hc => ?_) <;> try exact absA) | (refine QL_guard rfl rfl (fun hc => ?_) (fun hc => ?_) <;> (try exact absA) <;> (fail_if_success (change true = true at hc)) <;> (fail_if_success (change false = false at hc))))); all_goals (refine QL_nil (fun w hSt => ?_))) | (refine stepG ?_ ?_ <;> intro hc <;> (try exact absA) <;> (fail_if_success (change true = true at hc)) <;> (fail_if_success (change false = false at hc))) | fail)
  exact ret2 rfl rfl rfl ⟨_, _, rfl, hSt.perm (List.Perm.swap _ _ _)⟩
end Go.Proofs.YthkimkgphaiagaaGreatDoor

namespace Go.Proofs.YthkimkgphaiagaaGreatDoor
open Go.RowKit
set_option maxRecDepth 4000
set_option linter.unusedVariables false
set_option linter.unusedSimpArgs false
set_option maxHeartbeats 1000000

theorem CH_keys {cb mb : Nat} {bs : List Nat} {num retry : Int} {gs : List Ce} (hl : bs.length = gs.length) : (CH cb mb bs num retry gs).map Prod.fst = cb :: mb :: bs := by
  have : ∀ (bs : List Nat) (gs : List Ce), bs.length = gs.length → (List.zipWith (fun b (g : Ce) => (b, g.obj)) bs gs).map Prod.fst = bs := by
    intro bs
    induction bs with
    | nil => intro gs _; rfl
    | cons b bs ih =>
      intro gs h
      cases gs with
      | nil => cases h
      | cons g gs => simp only [List.zipWith_cons_cons, List.map_cons, ih gs (by simpa using h)]
  simp only [List.map_cons, this bs gs hl]
theorem CH_mem_goal {cb mb : Nat} {bs : List Nat} {num retry : Int} {gs : List Ce} {x : Nat × Obj} (h : x ∈ List.zipWith (fun b (g : Ce) => (b, g.obj)) bs gs) : x ∈ CH cb mb bs num retry gs := List.mem_cons_of_mem _ (List.mem_cons_of_mem _ h)

theorem send_any {w0 : World} {cb mb : Nat} {bs : List Nat} {num retry : Int} {gs : List Ce} (hh : Has w0 (CH cb mb bs num retry gs)) (hl : bs.length = gs.length) (hb : gs.length ≤ 1000) (at_ : Int) (text : List UInt8) :
    Cl Tryz.prog 11 [Ptr cb, I at_, S text] w0 (fun v w' => v = sendV num at_ text gs ∧ ∃ bs', bs'.length = (sendG at_ text gs).length ∧ St w0 (InH (CH cb mb bs num retry gs)) (CH cb mb bs' num retry (sendG at_ text gs)) w') := by
  have hSt := St.refl w0 NoneS
  have hcb := hh.own 0 _ _ rfl
  have hmb := hh.own 1 _ _ rfl
  have hcl : cb < w0.heap.size := (Array.getElem?_eq_some_iff.1 hcb).1
  have hml : mb < w0.heap.size := (Array.getElem?_eq_some_iff.1 hmb).1
  have hnd := hh.nodup
  rw [CH_keys hl] at hnd
  have hres : ∀ {e : Int} {w : World} {H : List (Nat × Obj)}, St w0 NoneS H w → sendE at_ text gs = e → e ≠ 0 → (Value.tuple ⟨[.agg ⟨[I 0, I 0]⟩, I e]⟩ = sendV num at_ text gs ∧ ∃ bs', bs'.length = (sendG at_ text gs).length ∧ St w0 (InH (CH cb mb bs num retry gs)) (CH cb mb bs' num retry (sendG at_ text gs)) w) := by
    intro e w H h he h0
    refine ⟨by rw [sendV, he, if_neg h0], bs, by rw [sendG, he, if_neg h0, hl], ?_⟩
    rw [sendG, he, if_neg h0]
    exact h.regroup (fun _ e => e.elim) (fun x hx => .inr ⟨hh.mem hx, fun e => e, InH_of hx⟩) hh.nodup
  refine enter Tryz.func11 rfl Tryz.ntmps11 rfl ?_
  repeat' (first | (apply WL_ev rfl rfl; exact Ev_load1 hT rfl rfl (hSt.base hcb (fun e => e)) rfl) | (refine WL_isCall (f := 41) ?_; refine WL_call (ok_call hT rfl) rfl rfl rfl (valid_any _) ?_; rintro v w' ⟨rfl, hc2⟩; replace hSt := hSt.call0 hc2; clear hc2) | (refine WL_isCall (f := 24) ?_; refine WL_call (ok_call hT rfl) rfl rfl rfl (copen_any (hh.later hSt) hl hb) ?_; rintro v w' ⟨H1, ho, hc2⟩; obtain ⟨oa, oc, rfl⟩ := ho.len; clear ho; replace hSt := hSt.call0 hc2.nil) | refine stepA ?_ | (refine stepS ?_; clear hSt; intro w hSt; dsimp only [spl, List.set] at hSt) | (refine stepB ?_; clear hSt; intro w nb hnb hSt; dsimp only [zcells, List.nil_append, List.cons_append] at hSt) | (refine W_quiet hT (by decide +kernel) hSt ?_; clear hSt; (repeat' (first | (apply QL_ev rfl rfl; (intro w hSt; (first | (exact Ev_load1 hT rfl rfl (hSt.base hcb (fun e => e)) rfl) | exact Ev_auto))) | refine QL_pass rfl rfl ?_ | (refine QL_guardP rfl rfl (fun hc => ?_) (fun hc => ?_) <;> try exact absA) | (refine QL_guard rfl rfl (fun hc => ?_) (fun hc => ?_) <;> (try exact absA) <;> (fail_if_success (change true = true at hc)) <;> (fail_if_success (change false = false at hc))))); all_goals (refine QL_nil (fun w hSt => ?_))) | (refine stepG ?_ ?_ <;> intro hc <;> (try exact absA) <;> (fail_if_success (change true = true at hc)) <;> (fail_if_success (change false = false at hc))) | fail)
  · exact end_of (resc2 rfl hT rfl rfl rfl (hSt.at 0 rfl) rfl rfl) (hres hSt (by simp only [sendE]; rw [if_pos (by omega)]) (by decide))
  · exact end_of (resc2 rfl hT rfl rfl rfl (hSt.at 0 rfl) rfl rfl) (hres hSt (by simp only [sendE]; rw [if_neg (by omega), if_pos (by omega)]) (by decide))
  · exact end_of (resc2 rfl hT rfl rfl rfl (hSt.at 0 rfl) rfl rfl) (hres hSt (by simp only [sendE]; rw [if_neg (by omega), if_neg (by omega), if_pos (by omega)]) (by decide))
  · have he : sendE at_ text gs = 0 := by simp only [sendE]; rw [if_neg (by omega), if_neg (by omega), if_neg (by omega)]
    have hv : sendV num at_ text gs = .tuple ⟨[.agg ⟨[I num, I ((gs.length : Int) + 1)]⟩, I 0]⟩ := by simp [sendV, he]
    have hcw := hSt.base hcb (fun e => e)
    have hmw := hSt.base hmb (fun e => e)
    have hcm : cb ≠ mb := by rintro rfl; simp at hnd
    replace hSt := ((hSt.wider (S' := fun b => b = cb ∨ b = mb) (fun _ e => e.elim)).know hcw (Or.inl (Or.inl rfl)) (by
      intro i u hi
      rcases i with _ | i
      · simp at hi; omega
      · simp at hi)).know hmw (Or.inl (Or.inr rfl)) (by
      intro i u hi
      rcases i with _ | _ | i
      · simp at hi; omega
      · simp at hi; exact hcm hi.1
      · simp at hi)
    dsimp only [List.nil_append, List.cons_append] at hSt
    repeat' (first | (refine W_grow [false, false, false, false, false, false, false, false, false, false, false, true] hT (by decide +kernel) hSt ?_; clear hSt; intro w hSt hG; simp only [List.take_succ_cons, List.take_zero, List.length_cons, List.length_nil]; (repeat' (first | (apply GL_ev rfl rfl hG; (intro w hG1; have hSt := hSt.call0 hG1; (first | exact Ev_auto))) | refine GL_pass rfl rfl hG ?_ | (refine GL_one ?_; (first | (refine WL_box rfl rfl rfl hG ?_; clear hG; intro w nb hnb hG) | (refine WL_alloc hT rfl rfl rfl hG ?_; clear hG; intro w nb hnb hG) | (refine WL_buildSlice hT rfl rfl rfl rfl rfl rfl rfl rfl hG ?_; clear hG; intro w nb hnb hG) | (refine WL_makeMap rfl rfl hG ?_; clear hG; intro w nb hnb hG)); (try dsimp only [zcells, List.nil_append, List.cons_append] at hG); replace hnb := Nat.le_trans hSt.size hnb; refine WL_nil (At_one hG ?_)) | (refine GL_guardP rfl rfl (fun hc => ?_) (fun hc => ?_) <;> try exact absA) | (refine GL_guard rfl rfl (fun hc => ?_) (fun hc => ?_) <;> (try exact absA) <;> (fail_if_success (change true = true at hc)) <;> (fail_if_success (change false = false at hc))))); all_goals (refine GL_end ?_; replace hSt := hSt.newN hG; clear hG; simp only [List.drop_succ_cons, List.drop_zero]; dsimp only [List.nil_append, List.cons_append] at hSt)) | (refine W_tail 9 hT (by decide +kernel) hSt ?_; clear hSt; intro w hSt; simp only [List.take_succ_cons, List.take_zero]; (repeat' (first | (apply SL_ev rfl rfl; (first | exact Ev_auto)) | refine SL_pass rfl rfl ?_ | (refine SL_guardP rfl rfl (fun hc => ?_) (fun hc => ?_) <;> try exact absA) | (refine SL_guard rfl rfl (fun hc => ?_) (fun hc => ?_) <;> (try exact absA) <;> (fail_if_success (change true = true at hc)) <;> (fail_if_success (change false = false at hc))))); all_goals (refine SL_nil ?_; simp only [List.drop_succ_cons, List.drop_zero])) | (refine WL_mapUpdate_new 2 Tryz.underlying87 Tryz.underlying3 (by simp [MapKept.IsKey]) rfl rfl rfl rfl hSt rfl (findNow_out _ bs 0 0 (by omega)) ?_; clear hSt; intro w hSt; dsimp only [List.set] at hSt) | refine stepA ?_ | (refine stepS ?_; clear hSt; intro w hSt; dsimp only [spl, List.set] at hSt) | (refine stepB ?_; clear hSt; intro w nb hnb hSt; dsimp only [zcells, List.nil_append, List.cons_append] at hSt) | (refine W_quiet hT (by decide +kernel) hSt ?_; clear hSt; (repeat' (first | (apply QL_ev rfl rfl; (intro w hSt; (first | exact Ev_auto))) | refine QL_pass rfl rfl ?_ | (refine QL_guardP rfl rfl (fun hc => ?_) (fun hc => ?_) <;> try exact absA) | (refine QL_guard rfl rfl (fun hc => ?_) (fun hc => ?_) <;> (try exact absA) <;> (fail_if_success (change true = true at hc)) <;> (fail_if_success (change false = false at hc))))); all_goals (refine QL_nil (fun w hSt => ?_))) | (refine stepG ?_ ?_ <;> intro hc <;> (try exact absA) <;> (fail_if_success (change true = true at hc)) <;> (fail_if_success (change false = false at hc))) | fail)
    refine end_of (resc2 rfl hT rfl rfl rfl (hSt.at 0 rfl) rfl rfl) ⟨?_, bs ++ [nb], ?_, ?_⟩
    · rw [hv]; rfl
    · rw [sendG, he]; simp [hl]
    · rw [sendG, he, if_pos rfl]
      refine hSt.regroup (fun b hb => by rcases hb with rfl | rfl <;> exact InH_of (x := (_, _)) (by simp; first | exact .inl rfl | exact .inr (.inl rfl))) ?_ ?_
      · intro x hx
        simp only [List.mem_cons, List.zipWith_append (by simpa using hl : bs.length = gs.length)] at hx
        rcases hx with rfl | rfl | hx
        · left
          simp
        · left
          have := ents_push nb bs 0
          simp only [Nat.zero_add] at this
          simp [← this, hl]
        · rw [List.mem_append] at hx
          rcases hx with hx | hx
          · right
            refine ⟨hh.mem (CH_mem_goal hx), ?_, InH_of (CH_mem_goal hx)⟩
            have hxb : x.1 ∈ bs := by
              have : x.1 ∈ (List.zipWith (fun b (g : Ce) => (b, g.obj)) bs gs).map Prod.fst := List.mem_map_of_mem hx
              have hk := CH_keys (cb := cb) (mb := mb) (num := num) (retry := retry) hl
              simp only [List.map_cons, List.cons.injEq, true_and] at hk
              rwa [hk] at this
            rintro (e | e)
            · rw [e] at hxb; simp [hxb] at hnd
            · rw [e] at hxb; simp [hxb] at hnd
          · left
            simp only [List.zipWith_cons_cons, List.zipWith_nil_left, List.mem_singleton] at hx
            subst hx
            simp [goal0]
      · rw [CH_keys (by simp [hl])]
        have hlt : ∀ b ∈ cb :: mb :: bs, b < w0.heap.size := by
          intro b hb
          have hk := CH_keys (cb := cb) (mb := mb) (num := num) (retry := retry) hl
          rw [← hk] at hb
          obtain ⟨x, hx, rfl⟩ := List.mem_map.1 hb
          exact (Array.getElem?_eq_some_iff.1 (hh.mem hx)).1
        rw [show cb :: mb :: (bs ++ [nb]) = (cb :: mb :: bs) ++ [nb] from rfl, List.nodup_append]
        refine ⟨hnd, by simp, ?_⟩
        intro a ha b hb
        have := hlt a ha
        simp at hb
        omega
end Go.Proofs.YthkimkgphaiagaaGreatDoor

namespace Go.Proofs.YthkimkgphaiagaaGreatDoor
open Go.RowKit
set_option maxRecDepth 4000
set_option linter.unusedVariables false
set_option linter.unusedSimpArgs false
set_option maxHeartbeats 2000000

theorem CH_perm {cb mb i b : Nat} {bs : List Nat} {num retry : Int} {gs : List Ce} (hl : bs.length = gs.length) (hbi : bs[i]? = some b) : ∃ R : List (Nat × Obj), (cb, cliO num retry gs.length mb) ∈ R ∧ (mb, mapO bs) ∈ R ∧
    ∀ g' : Ce, List.Perm (CH cb mb bs num retry (gs.set i g')) (R ++ [(b, g'.obj)]) := by
  have hi := (List.getElem?_eq_some_iff.1 hbi).1
  let zw := List.zipWith (fun b (g : Ce) => (b, g.obj)) bs gs
  refine ⟨(cb, cliO num retry gs.length mb) :: (mb, mapO bs) :: (zw.take i ++ zw.drop (i + 1)), by simp, by simp, fun g' => ?_⟩
  have e : List.zipWith (fun b (g : Ce) => (b, g.obj)) bs (gs.set i g') = zw.set i (b, g'.obj) := by
    apply List.ext_getElem?
    intro j
    rw [List.getElem?_set, List.getElem?_zipWith, List.getElem?_set]
    by_cases hij : i = j
    · subst hij
      simp [hbi, zw, hl.symm.symm, hi, show i < gs.length by omega]
      simpa using (List.getElem?_eq_some_iff.1 hbi).2
    · simp [hij, zw, List.getElem?_zipWith]
  show List.Perm ((cb, cliO num retry (gs.set i g').length mb) :: (mb, mapO bs) :: List.zipWith (fun b (g : Ce) => (b, g.obj)) bs (gs.set i g')) _
  rw [e, List.length_set]
  exact (set_perm _ (by simp [zw]; omega)).cons _ |>.cons _

theorem pollG_eq (g : Ce) (h : g.st < 4) (retry at_ : Int) : g.pg retry at_ = ⟨g.req, g.res, g.st, g.fb, if g.next ≤ at_ then at_ + retry else g.next, g.canc, if g.canc = true ∧ g.ncanc ≤ at_ then at_ + retry else g.ncanc⟩ := by rw [Ce.pg, if_pos h]
end Go.Proofs.YthkimkgphaiagaaGreatDoor
