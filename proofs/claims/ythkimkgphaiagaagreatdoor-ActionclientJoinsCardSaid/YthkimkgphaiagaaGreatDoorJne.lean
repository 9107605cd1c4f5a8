/- What a server answers to a request, and how a goal is brought to its end. No conditions. -/
import Derived.Test.YthkimkgphaiagaaGreatDoorJnd
import Derived.Test.YthkimkgphaiagaaGreatDoorMQ

namespace Go.Proofs.YthkimkgphaiagaaGreatDoor
open Go.RowKit
set_option maxRecDepth 4000
set_option linter.unusedVariables false
set_option linter.unusedSimpArgs false
set_option maxHeartbeats 4000000

def wStopped : List UInt8 := [115, 116, 111, 112, 112, 101, 100]
def wDone : List UInt8 := [100, 111, 110, 101]
theorem rended_any {w : World} (n : Int) : Cl Tryz.prog 23 [I n] w (fun v w' => v = B (decide (n = 4 ∨ n = 5 ∨ n = 6 ∨ n = 7)) ∧ St w NoneS [] w') := by
  have hSt := St.refl w NoneS
  refine enter Tryz.func23 rfl Tryz.ntmps23 rfl ?_
  repeat' (first | refine stepA ?_ | (refine stepS ?_; clear hSt; intro w hSt; dsimp only [spl, List.set] at hSt) | (refine stepB ?_; clear hSt; intro w nb hnb hSt; dsimp only [zcells, List.nil_append, List.cons_append] at hSt) | (refine stepG ?_ ?_ <;> intro hc <;> (try exact absA) <;> (fail_if_success (change true = true at hc)) <;> (fail_if_success (change false = false at hc))) | fail)
  all_goals exact ret1 rfl rfl ⟨congrArg Value.bool (by first | rw [decide_eq_true (by omega)] | (rw [Bool.eq_iff_iff]; simp only [decide_eq_true_eq]; omega)), hSt⟩
section
variable {w0 : World} {bs bj bm : Nat} {s : Sv} {H : List (Nat × Obj)}
theorem reply_any (hW : SW bs bj bm s H) (hl : s.l.length ≤ 64) (hh : Has w0 H) {c n : Int} {k : Nat} (hf : findG s.l c n = some k) (hst : 1 ≤ (gAt s.l k).st ∧ (gAt s.l k).st ≤ 7) :
    Cl Tryz.prog 18 [Ptr bs, idV c n] w0 (fun v w' => v = .agg ⟨[I (repK (gAt s.l k).st), I c, I n, I 0, S (repT (gAt s.l k))]⟩ ∧ St w0 NoneS [] w') := by
  have hSt := St.refl w0 NoneS
  have hgo := fun {w : World} (hh : Has w H) => goal_any (w0 := w) hW hl hh c n
  have e : goalS s c n = (gAt s.l k, true) := by unfold goalS; rw [hf]
  rw [e] at hgo
  clear e hf
  generalize gAt s.l k = g at hgo hst ⊢
  obtain ⟨gc, gn, gs, ga, ge, gq, gr⟩ := g
  dsimp only at hgo hst ⊢
  have h7 : gs = 1 ∨ gs = 2 ∨ gs = 3 ∨ gs = 4 ∨ gs = 5 ∨ gs = 6 ∨ gs = 7 := by omega
  clear hst
  rcases h7 with rfl | rfl | rfl | rfl | rfl | rfl | rfl
  all_goals
    refine enter Tryz.func18 rfl Tryz.ntmps18 rfl ?_
    repeat' (first | (refine WL_box rfl rfl rfl hSt ?_; clear hSt; intro w nb hnb hSt; replace hSt := hSt.front; dsimp only [zcells] at hSt) | (refine WL_alloc hT rfl rfl rfl hSt ?_; clear hSt; intro w nb hnb hSt; replace hSt := hSt.front; dsimp only [zcells] at hSt) | (refine WL_isCall (f := 20) ?_; refine WL_call (ok_call hT rfl) rfl rfl rfl (hgo (hh.later hSt)) ?_; rintro v w2 ⟨rfl, hc2⟩; replace hSt := hSt.call0 hc2; clear hc2) | refine stepA ?_ | (refine stepS ?_; clear hSt; intro w hSt; dsimp only [spl, List.set] at hSt) | (refine stepB ?_; clear hSt; intro w nb hnb hSt; dsimp only [zcells, List.nil_append, List.cons_append] at hSt) | (refine stepG ?_ ?_ <;> intro hc <;> (try exact absA) <;> (fail_if_success (change true = true at hc)) <;> (fail_if_success (change false = false at hc))) | fail)
    all_goals try (exfalso; first | omega | (simp at hc; done) | (exact hc rfl))
    all_goals exact end_of (resc1 rfl hT rfl rfl (hSt.at 2 rfl) rfl rfl) ⟨rfl, hSt.nil⟩
theorem progress_any (hG : Gb w0) {N : Nat} {now : Int} (hj : JS N now s) (hW : SW bs bj bm s H) (hh : Has w0 H) (hn : NoG (InH H)) :
    Cl Tryz.prog 19 [Ptr bs, I now] w0 (fun v w' => v = B true ∧ ∃ t H', ((t = s ∧ openL s.l = []) ∨ (JS N now t ∧ Up s.l t.l ∧ (openL t.l).length + 1 = (openL s.l).length)) ∧ SW bs bj bm t H' ∧ St w0 (InH H) H' w') := by
  have hSt := hh.st
  have hcu := fun {w : World} (hh : Has w H) => current_any (w0 := w) hW hj.inv.toInv0 hh
  have hnow := hj.now
  generalize InH _ = SS at hSt hn ⊢
  clear hh
  by_cases hc0 : s.cur < 0
  · have e : curS s = (Gl.zero, false) := by unfold curS; rw [if_pos hc0]
    rw [e] at hcu
    have ho : openL s.l = [] := by
      rcases hq : openL s.l with _ | ⟨a, r⟩
      · rfl
      · have := hj.inv.busy (by rw [hq]; simp)
        omega
    refine enter Tryz.func19 rfl Tryz.ntmps19 rfl ?_
    repeat' (first | (refine WL_alloc hT rfl rfl rfl hSt ?_; clear hSt; intro w nb hnb hSt; replace hSt := hSt.front; dsimp only [zcells] at hSt) | (refine WL_isCall (f := 52) ?_; refine WL_call (ok_call hT rfl) rfl rfl rfl (hcu hSt.has) ?_; rintro v w2 ⟨rfl, hc2⟩; replace hSt := hSt.call0 hc2; clear hc2) | refine stepA ?_ | (refine stepS ?_; clear hSt; intro w hSt; dsimp only [spl, List.set] at hSt) | (refine stepB ?_; clear hSt; intro w nb hnb hSt; dsimp only [zcells, List.nil_append, List.cons_append] at hSt) | (refine stepG ?_ ?_ <;> intro hc <;> (try exact absA) <;> (fail_if_success (change true = true at hc)) <;> (fail_if_success (change false = false at hc))) | fail)
    all_goals try (exfalso; first | omega | (simp at hc; done) | (exact hc rfl))
    all_goals exact ret1 rfl rfl ⟨rfl, s, _, .inl ⟨rfl, ho⟩, hW, hSt.right (Ha := [_])⟩
  · have e : curS s = (gAt s.l s.cur.toNat, true) := by unfold curS; rw [if_neg hc0]
    rw [e] at hcu
    generalize gAt s.l s.cur.toNat = g at hcu
    obtain ⟨gc, gn, gs, ga, ge, gq, gr⟩ := g
    dsimp only at hcu
    by_cases h3 : gs = 3
    · subst h3
      obtain ⟨f1, f2, f3, f4, _⟩ := hj.finish (by omega) (st := 5) (.inr rfl) (rs := wStopped) (by decide)
      have hfi := fun {w : World} (hG : Gb w) hh hn => abort_any (n := 0) (w0 := w) hG hW (hj.svk (by omega)) hj.inv.toInv0 hh hn now wStopped
      rw [f1] at hfi
      refine enter Tryz.func19 rfl Tryz.ntmps19 rfl ?_
      repeat' (first | (refine WL_alloc hT rfl rfl rfl hSt ?_; clear hSt; intro w nb hnb hSt; replace hSt := hSt.front; dsimp only [zcells] at hSt) | (refine WL_isCall (f := 52) ?_; refine WL_call (ok_call hT rfl) rfl rfl rfl (hcu hSt.has) ?_; rintro v w2 ⟨rfl, hc2⟩; replace hSt := hSt.call0 hc2; clear hc2) | (refine WL_isCall (f := 35) ?_; refine WL_call (ok_call hT rfl) rfl rfl rfl (hfi (hG.later hSt hn) (St.hasE (Ha := [_]) hSt) (NoG.r (Ha := [_]) (hG.no hSt hn))) ?_; rintro v w2 ⟨rfl, H2, hW2, hc2⟩; replace hSt := St.callE (Ha := [_]) hSt hc2; clear hc2) | refine stepA ?_ | (refine stepS ?_; clear hSt; intro w hSt; dsimp only [spl, List.set] at hSt) | (refine stepB ?_; clear hSt; intro w nb hnb hSt; dsimp only [zcells, List.nil_append, List.cons_append] at hSt) | (refine stepG ?_ ?_ <;> intro hc <;> (try exact absA) <;> (fail_if_success (change true = true at hc)) <;> (fail_if_success (change false = false at hc))) | fail)
      all_goals try (exfalso; first | omega | (simp at hc; done) | (exact hc rfl))
      all_goals exact ret1 rfl rfl ⟨by simp, _, _, .inr ⟨f2, f4, f3⟩, hW2, hSt.right (Ha := [_])⟩
    · obtain ⟨f1, f2, f3, f4, _⟩ := hj.finish (by omega) (st := 4) (.inl rfl) (rs := wDone) (by decide)
      have hfi := fun {w : World} (hG : Gb w) hh hn => succeed_any (n := 0) (w0 := w) hG hW (hj.svk (by omega)) hj.inv.toInv0 hh hn now wDone
      rw [f1] at hfi
      refine enter Tryz.func19 rfl Tryz.ntmps19 rfl ?_
      repeat' (first | (refine WL_alloc hT rfl rfl rfl hSt ?_; clear hSt; intro w nb hnb hSt; replace hSt := hSt.front; dsimp only [zcells] at hSt) | (refine WL_isCall (f := 52) ?_; refine WL_call (ok_call hT rfl) rfl rfl rfl (hcu hSt.has) ?_; rintro v w2 ⟨rfl, hc2⟩; replace hSt := hSt.call0 hc2; clear hc2) | (refine WL_isCall (f := 34) ?_; refine WL_call (ok_call hT rfl) rfl rfl rfl (hfi (hG.later hSt hn) (St.hasE (Ha := [_]) hSt) (NoG.r (Ha := [_]) (hG.no hSt hn))) ?_; rintro v w2 ⟨rfl, H2, hW2, hc2⟩; replace hSt := St.callE (Ha := [_]) hSt hc2; clear hc2) | refine stepA ?_ | (refine stepS ?_; clear hSt; intro w hSt; dsimp only [spl, List.set] at hSt) | (refine stepB ?_; clear hSt; intro w nb hnb hSt; dsimp only [zcells, List.nil_append, List.cons_append] at hSt) | (refine stepG ?_ ?_ <;> intro hc <;> (try exact absA) <;> (fail_if_success (change true = true at hc)) <;> (fail_if_success (change false = false at hc))) | fail)
      all_goals try (exfalso; first | omega | (simp at hc; done) | (exact hc rfl))
      all_goals exact ret1 rfl rfl ⟨by simp, _, _, .inr ⟨f2, f4, f3⟩, hW2, hSt.right (Ha := [_])⟩
end
end Go.Proofs.YthkimkgphaiagaaGreatDoor
