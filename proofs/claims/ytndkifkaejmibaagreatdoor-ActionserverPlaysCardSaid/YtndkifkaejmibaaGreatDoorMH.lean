/- The methods of the specification's medium: what each returns, and what it leaves in the block that holds it, told of the same abstract medium. No conditions. -/
import Derived.Test.YtndkifkaejmibaaGreatDoorMG
import Derived.Test.YtndkifkaejmibaaGreatDoorMC

namespace Go.Proofs.YtndkifkaejmibaaGreatDoor
open Go.RowKit
set_option maxRecDepth 4000
set_option linter.unusedVariables false
set_option linter.unusedSimpArgs false
set_option maxHeartbeats 1000000

abbrev refO (size : Int) (s : List UInt8) (dur : Int) (down ar : Bool) (st kp cr : Int) : Obj := blk [I size, S s, I dur, B down, B ar, I st, I kp, I cr] 61
/-- the object holds the abstract medium -/
def RefO (o : Obj) (m : Med) : Prop := ∃ ar st kp cr, o = refO m.size m.s m.dur m.down ar st kp cr ∧ ar = decide (0 < m.steps) ∧ (0 < m.steps → st = m.steps ∧ kp = m.keep)

theorem fall_any {w : World} {b : Nat} {m : Med} {dn ar : Bool} {st kp cr : Int} (hb : w.heap[b]? = some (refO m.size m.s m.dur dn ar st kp cr)) (hm : m.Ok) (k : Int) :
    Cl Tryz.prog 75 [Ptr b, I k] w (fun v w' => v = .tuple #[] ∧ ∃ o, RefO o (m.crash k) ∧ St w (· = b) [(b, o)] w') := by
  have hSt := (St.refl w (· = b)).know hb (Or.inl rfl) (by simp)
  dsimp only [List.nil_append, List.cons_append] at hSt
  have h0 := hm.d0; have h1 := hm.d; have h2 := hm.s; have h3 := hm.z
  obtain ⟨size, dur, s, down, steps, keep⟩ := m
  dsimp only [refO] at h0 h1 h2 h3 hSt
  have e1 : k < s.length - dur → 0 < k → (⟨size, dur, s, down, steps, keep⟩ : Med).cut k = dur + k := by intro _ _; unfold Med.cut; dsimp only; omega
  have e2 : k < s.length - dur → ¬ 0 < k → (⟨size, dur, s, down, steps, keep⟩ : Med).cut k = dur := by intro _ _; unfold Med.cut; dsimp only; omega
  have e3 : ¬ k < s.length - dur → (⟨size, dur, s, down, steps, keep⟩ : Med).cut k = s.length := by intro _; unfold Med.cut; dsimp only; omega
  clear hb hm
  by_cases c1 : k < s.length - dur
  · by_cases c2 : 0 < k
    · have e := e1 c1 c2
      clear e1 e2 e3
      refine enter Tryz.func75 rfl Tryz.ntmps75 rfl ?_
      repeat' (first | refine stepA ?_ | (refine stepS ?_; clear hSt; intro w hSt; dsimp only [spl, List.set] at hSt) | (refine stepB ?_; clear hSt; intro w nb hnb hSt; dsimp only [zcells, List.nil_append, List.cons_append] at hSt) | (refine stepG ?_ ?_ <;> intro hc <;> (try exact absA) <;> (fail_if_success (change true = true at hc)) <;> (fail_if_success (change false = false at hc))) | fail)
      refine ⟨rfl, _, ⟨false, st, kp, IntKind.i64.wrap (cr + 1), ?_, by simp [Med.crash], by simp [Med.crash]⟩, hSt⟩
      simp only [refO, Med.crash, e]; rfl
    · have e := e2 c1 c2
      clear e1 e2 e3
      refine enter Tryz.func75 rfl Tryz.ntmps75 rfl ?_
      repeat' (first | refine stepA ?_ | (refine stepS ?_; clear hSt; intro w hSt; dsimp only [spl, List.set] at hSt) | (refine stepB ?_; clear hSt; intro w nb hnb hSt; dsimp only [zcells, List.nil_append, List.cons_append] at hSt) | (refine stepG ?_ ?_ <;> intro hc <;> (try exact absA) <;> (fail_if_success (change true = true at hc)) <;> (fail_if_success (change false = false at hc))) | fail)
      refine ⟨rfl, _, ⟨false, st, kp, IntKind.i64.wrap (cr + 1), ?_, by simp [Med.crash], by simp [Med.crash]⟩, hSt⟩
      simp only [refO, Med.crash, e]; rfl
  · have e := e3 c1
    clear e1 e2 e3
    refine enter Tryz.func75 rfl Tryz.ntmps75 rfl ?_
    repeat' (first | refine stepA ?_ | (refine stepS ?_; clear hSt; intro w hSt; dsimp only [spl, List.set] at hSt) | (refine stepB ?_; clear hSt; intro w nb hnb hSt; dsimp only [zcells, List.nil_append, List.cons_append] at hSt) | (refine stepG ?_ ?_ <;> intro hc <;> (try exact absA) <;> (fail_if_success (change true = true at hc)) <;> (fail_if_success (change false = false at hc))) | fail)
    refine ⟨rfl, _, ⟨false, st, kp, IntKind.i64.wrap (cr + 1), ?_, by simp [Med.crash], by simp [Med.crash]⟩, hSt⟩
    simp only [refO, Med.crash, e]; rfl

theorem counts_0 {w : World} {b : Nat} {m : Med} {st kp cr : Int} {dn : Bool} (hb : w.heap[b]? = some (refO m.size m.s m.dur dn false st kp cr)) :
    Cl Tryz.prog 119 [Ptr b] w (fun v w' => v = B false ∧ St w (· = b) [(b, refO m.size m.s m.dur dn false st kp cr)] w') := by
  have hSt := (St.refl w (· = b)).know hb (Or.inl rfl) (by simp)
  dsimp only [List.nil_append, List.cons_append] at hSt
  refine enter Tryz.func119 rfl Tryz.ntmps119 rfl ?_
  repeat' (first | refine stepA ?_ | (refine stepS ?_; clear hSt; intro w hSt; dsimp only [spl, List.set] at hSt) | (refine stepB ?_; clear hSt; intro w nb hnb hSt; dsimp only [zcells, List.nil_append, List.cons_append] at hSt) | (refine stepG ?_ ?_ <;> intro hc <;> (try exact absA) <;> (fail_if_success (change true = true at hc)) <;> (fail_if_success (change false = false at hc))) | fail)
  exact ret1 rfl rfl ⟨rfl, hSt⟩
theorem counts_1 {w : World} {b : Nat} {m : Med} {st kp cr : Int} {dn : Bool} (hb : w.heap[b]? = some (refO m.size m.s m.dur dn true st kp cr)) (h0 : 1 ≤ st) (h1 : st ≤ 9223372036854775807) :
    Cl Tryz.prog 119 [Ptr b] w (fun v w' => v = B (decide (st = 1)) ∧ St w (· = b) [(b, refO m.size m.s m.dur dn true (st - 1) kp cr)] w') := by
  have hSt := (St.refl w (· = b)).know hb (Or.inl rfl) (by simp)
  dsimp only [List.nil_append, List.cons_append] at hSt
  refine enter Tryz.func119 rfl Tryz.ntmps119 rfl ?_
  repeat' (first | refine stepA ?_ | (refine stepS ?_; clear hSt; intro w hSt; dsimp only [spl, List.set] at hSt) | (refine stepB ?_; clear hSt; intro w nb hnb hSt; dsimp only [zcells, List.nil_append, List.cons_append] at hSt) | (refine stepG ?_ ?_ <;> intro hc <;> (try exact absA) <;> (fail_if_success (change true = true at hc)) <;> (fail_if_success (change false = false at hc))) | fail)
  refine ret1 rfl rfl ⟨?_, hSt⟩
  have : (st - 1 = 0) ↔ st = 1 := by omega
  simp [this]

theorem rappend_any {w : World} {b : Nat} {m : Med} {o : Obj} (hb : w.heap[b]? = some o) (ho : RefO o m) (hm : m.Ok) (x : List UInt8) :
    Cl Tryz.prog 122 [Ptr b, S x] w (fun v w' => v = I (m.append x).1 ∧ ∃ o', RefO o' (m.append x).2 ∧ St w (· = b) [(b, o')] w') := by
  obtain ⟨ar, st, kp, cr, rfl, ha, hs⟩ := ho
  have hSt := (St.refl w (· = b)).know hb (Or.inl rfl) (by simp)
  dsimp only [List.nil_append, List.cons_append] at hSt
  have h0 := hm.d0; have h1 := hm.d; have h2 := hm.s; have h3 := hm.z; have h4 := hm.st0; have h5 := hm.st1
  obtain ⟨size, dur, s, down, steps, keep⟩ := m
  dsimp only [refO] at h0 h1 h2 h3 h4 h5 hSt ha hs
  cases down
  case true =>
    refine enter Tryz.func122 rfl Tryz.ntmps122 rfl ?_
    repeat' (first | (refine W_tail 12 hT (by decide +kernel) hSt ?_; clear hSt; intro w hSt; simp only [List.take_succ_cons, List.take_zero]; (repeat' (first | (apply SL_ev rfl rfl; (first | exact Ev_auto)) | refine SL_pass rfl rfl ?_ | (refine SL_guardP rfl rfl (fun hc => ?_) (fun hc => ?_) <;> try exact absA) | (refine SL_guard rfl rfl (fun hc => ?_) (fun hc => ?_) <;> (try exact absA) <;> (fail_if_success (change true = true at hc)) <;> (fail_if_success (change false = false at hc))))); all_goals (refine SL_nil ?_; simp only [List.drop_succ_cons, List.drop_zero])) | refine stepA ?_ | (refine stepS ?_; clear hSt; intro w hSt; dsimp only [spl, List.set] at hSt) | (refine stepB ?_; clear hSt; intro w nb hnb hSt; dsimp only [zcells, List.nil_append, List.cons_append] at hSt) | (refine stepG ?_ ?_ <;> intro hc <;> (try exact absA) <;> (fail_if_success (change true = true at hc)) <;> (fail_if_success (change false = false at hc))) | fail)
    exact ret1 rfl rfl ⟨rfl, ⟨_, ⟨ar, st, kp, cr, rfl, ha, hs⟩, hSt⟩⟩
  by_cases hf : size - s.length < x.length
  · rw [show Med.append _ x = (15, ⟨size, dur, s, false, steps, keep⟩) by simp [Med.append, hf]]
    refine enter Tryz.func122 rfl Tryz.ntmps122 rfl ?_
    repeat' (first | (refine W_tail 12 hT (by decide +kernel) hSt ?_; clear hSt; intro w hSt; simp only [List.take_succ_cons, List.take_zero]; (repeat' (first | (apply SL_ev rfl rfl; (first | exact Ev_auto)) | refine SL_pass rfl rfl ?_ | (refine SL_guardP rfl rfl (fun hc => ?_) (fun hc => ?_) <;> try exact absA) | (refine SL_guard rfl rfl (fun hc => ?_) (fun hc => ?_) <;> (try exact absA) <;> (fail_if_success (change true = true at hc)) <;> (fail_if_success (change false = false at hc))))); all_goals (refine SL_nil ?_; simp only [List.drop_succ_cons, List.drop_zero])) | refine stepA ?_ | (refine stepS ?_; clear hSt; intro w hSt; dsimp only [spl, List.set] at hSt) | (refine stepB ?_; clear hSt; intro w nb hnb hSt; dsimp only [zcells, List.nil_append, List.cons_append] at hSt) | (refine stepG ?_ ?_ <;> intro hc <;> (try exact absA) <;> (fail_if_success (change true = true at hc)) <;> (fail_if_success (change false = false at hc))) | fail)
    exact ret1 rfl rfl ⟨rfl, ⟨_, ⟨ar, st, kp, cr, rfl, ha, hs⟩, hSt⟩⟩
  have hm2 := hm.app hf
  dsimp only at hm2
  by_cases hz : steps = 0
  · subst hz
    rw [show ar = false by rw [ha]; rfl] at hSt
    rw [show Med.append ⟨size, dur, s, false, 0, keep⟩ x = (0, ⟨size, dur, s ++ x, false, 0, keep⟩) by simp [Med.append, Med.due, hf]]
    refine enter Tryz.func122 rfl Tryz.ntmps122 rfl ?_
    repeat' (first | (refine W_tail 12 hT (by decide +kernel) hSt ?_; clear hSt; intro w hSt; simp only [List.take_succ_cons, List.take_zero]; (repeat' (first | (apply SL_ev rfl rfl; (first | exact Ev_auto)) | refine SL_pass rfl rfl ?_ | (refine SL_guardP rfl rfl (fun hc => ?_) (fun hc => ?_) <;> try exact absA) | (refine SL_guard rfl rfl (fun hc => ?_) (fun hc => ?_) <;> (try exact absA) <;> (fail_if_success (change true = true at hc)) <;> (fail_if_success (change false = false at hc))))); all_goals (refine SL_nil ?_; simp only [List.drop_succ_cons, List.drop_zero])) | refine stepA ?_ | (refine stepS ?_; clear hSt; intro w hSt; dsimp only [spl, List.set] at hSt) | (refine stepB ?_; clear hSt; intro w nb hnb hSt; dsimp only [zcells, List.nil_append, List.cons_append] at hSt) | (refine stepG ?_ ?_ <;> intro hc <;> (try exact absA) <;> (fail_if_success (change true = true at hc)) <;> (fail_if_success (change false = false at hc))) | fail)
    refine WL_call (by kernel_rfl) rfl rfl rfl (counts_0 (m := ⟨size, dur, s ++ x, false, 0, keep⟩) (hSt.at 0 rfl)) ?_
    rintro v w' ⟨rfl, hc2⟩
    replace hSt := hSt.call1 (i := 0) rfl hc2
    dsimp only [List.set] at hSt
    repeat' (first | refine stepA ?_ | (refine stepS ?_; clear hSt; intro w hSt; dsimp only [spl, List.set] at hSt) | (refine stepB ?_; clear hSt; intro w nb hnb hSt; dsimp only [zcells, List.nil_append, List.cons_append] at hSt) | (refine stepG ?_ ?_ <;> intro hc <;> (try exact absA) <;> (fail_if_success (change true = true at hc)) <;> (fail_if_success (change false = false at hc))) | fail)
    exact ret1 rfl rfl ⟨rfl, _, ⟨false, st, kp, cr, rfl, rfl, by simp⟩, hSt⟩
  have hp : 0 < steps := by omega
  obtain ⟨rfl, rfl⟩ := hs hp
  rw [show ar = true by rw [ha]; simpa using hp] at hSt
  by_cases hs1 : st = 1
  · rw [show Med.append ⟨size, dur, s, false, st, kp⟩ x = (16, (⟨size, dur, s ++ x, false, st, kp⟩ : Med).crash kp) by simp [Med.append, hs1, hf]]
    refine enter Tryz.func122 rfl Tryz.ntmps122 rfl ?_
    repeat' (first | (refine W_tail 12 hT (by decide +kernel) hSt ?_; clear hSt; intro w hSt; simp only [List.take_succ_cons, List.take_zero]; (repeat' (first | (apply SL_ev rfl rfl; (first | exact Ev_auto)) | refine SL_pass rfl rfl ?_ | (refine SL_guardP rfl rfl (fun hc => ?_) (fun hc => ?_) <;> try exact absA) | (refine SL_guard rfl rfl (fun hc => ?_) (fun hc => ?_) <;> (try exact absA) <;> (fail_if_success (change true = true at hc)) <;> (fail_if_success (change false = false at hc))))); all_goals (refine SL_nil ?_; simp only [List.drop_succ_cons, List.drop_zero])) | refine stepA ?_ | (refine stepS ?_; clear hSt; intro w hSt; dsimp only [spl, List.set] at hSt) | (refine stepB ?_; clear hSt; intro w nb hnb hSt; dsimp only [zcells, List.nil_append, List.cons_append] at hSt) | (refine stepG ?_ ?_ <;> intro hc <;> (try exact absA) <;> (fail_if_success (change true = true at hc)) <;> (fail_if_success (change false = false at hc))) | fail)
    refine WL_call (by kernel_rfl) rfl rfl rfl (counts_1 (m := ⟨size, dur, s ++ x, false, st, kp⟩) (hSt.at 0 rfl) (by omega) (by omega)) ?_
    rintro v w' ⟨rfl, hc2⟩
    replace hSt := hSt.call1 (i := 0) rfl hc2
    dsimp only [List.set, refO] at hSt
    repeat' (first | refine stepA ?_ | (refine stepS ?_; clear hSt; intro w hSt; dsimp only [spl, List.set] at hSt) | (refine stepB ?_; clear hSt; intro w nb hnb hSt; dsimp only [zcells, List.nil_append, List.cons_append] at hSt) | (refine stepG ?_ ?_ <;> intro hc <;> (try exact absA) <;> (fail_if_success (change true = true at hc)) <;> (fail_if_success (change false = false at hc))) | fail)
    refine WL_call (by kernel_rfl) rfl rfl rfl (fall_any (m := ⟨size, dur, s ++ x, false, st, kp⟩) (hSt.at 0 rfl) hm2 _) ?_
    rintro v w' ⟨rfl, o', ho', hc2⟩
    replace hSt := hSt.call1 (i := 0) rfl hc2
    dsimp only [List.set] at hSt
    repeat' (first | refine stepA ?_ | (refine stepS ?_; clear hSt; intro w hSt; dsimp only [spl, List.set] at hSt) | (refine stepB ?_; clear hSt; intro w nb hnb hSt; dsimp only [zcells, List.nil_append, List.cons_append] at hSt) | (refine stepG ?_ ?_ <;> intro hc <;> (try exact absA) <;> (fail_if_success (change true = true at hc)) <;> (fail_if_success (change false = false at hc))) | fail)
    exact ret1 rfl rfl ⟨rfl, _, ho', hSt⟩
  · rw [show Med.append ⟨size, dur, s, false, st, kp⟩ x = (0, ⟨size, dur, s ++ x, false, (st - 1), kp⟩) by simp [Med.append, Med.due, hs1, show ¬ st = 0 by omega, hf]]
    refine enter Tryz.func122 rfl Tryz.ntmps122 rfl ?_
    repeat' (first | (refine W_tail 12 hT (by decide +kernel) hSt ?_; clear hSt; intro w hSt; simp only [List.take_succ_cons, List.take_zero]; (repeat' (first | (apply SL_ev rfl rfl; (first | exact Ev_auto)) | refine SL_pass rfl rfl ?_ | (refine SL_guardP rfl rfl (fun hc => ?_) (fun hc => ?_) <;> try exact absA) | (refine SL_guard rfl rfl (fun hc => ?_) (fun hc => ?_) <;> (try exact absA) <;> (fail_if_success (change true = true at hc)) <;> (fail_if_success (change false = false at hc))))); all_goals (refine SL_nil ?_; simp only [List.drop_succ_cons, List.drop_zero])) | refine stepA ?_ | (refine stepS ?_; clear hSt; intro w hSt; dsimp only [spl, List.set] at hSt) | (refine stepB ?_; clear hSt; intro w nb hnb hSt; dsimp only [zcells, List.nil_append, List.cons_append] at hSt) | (refine stepG ?_ ?_ <;> intro hc <;> (try exact absA) <;> (fail_if_success (change true = true at hc)) <;> (fail_if_success (change false = false at hc))) | fail)
    refine WL_call (by kernel_rfl) rfl rfl rfl (counts_1 (m := ⟨size, dur, s ++ x, false, st, kp⟩) (hSt.at 0 rfl) (by omega) (by omega)) ?_
    rintro v w' ⟨rfl, hc2⟩
    replace hSt := hSt.call1 (i := 0) rfl hc2
    dsimp only [List.set, refO] at hSt
    repeat' (first | refine stepA ?_ | (refine stepS ?_; clear hSt; intro w hSt; dsimp only [spl, List.set] at hSt) | (refine stepB ?_; clear hSt; intro w nb hnb hSt; dsimp only [zcells, List.nil_append, List.cons_append] at hSt) | (refine stepG ?_ ?_ <;> intro hc <;> (try exact absA) <;> (fail_if_success (change true = true at hc)) <;> (fail_if_success (change false = false at hc))) | fail)
    exact ret1 rfl rfl ⟨rfl, _, ⟨true, _, _, _, rfl, by simp; omega, fun _ => ⟨rfl, rfl⟩⟩, hSt⟩

theorem rsync_any {w : World} {b : Nat} {m : Med} {o : Obj} (hb : w.heap[b]? = some o) (ho : RefO o m) (hm : m.Ok) :
    Cl Tryz.prog 96 [Ptr b] w (fun v w' => v = I m.sync.1 ∧ ∃ o', RefO o' m.sync.2 ∧ St w (· = b) [(b, o')] w') := by
  obtain ⟨ar, st, kp, cr, rfl, ha, hs⟩ := ho
  have hSt := (St.refl w (· = b)).know hb (Or.inl rfl) (by simp)
  dsimp only [List.nil_append, List.cons_append] at hSt
  have h0 := hm.d0; have h1 := hm.d; have h2 := hm.s; have h3 := hm.z; have h4 := hm.st0; have h5 := hm.st1
  obtain ⟨size, dur, s, down, steps, keep⟩ := m
  dsimp only [refO] at h0 h1 h2 h3 h4 h5 hSt ha hs
  cases down
  case true =>
    refine enter Tryz.func96 rfl Tryz.ntmps96 rfl ?_
    repeat' (first | refine stepA ?_ | (refine stepS ?_; clear hSt; intro w hSt; dsimp only [spl, List.set] at hSt) | (refine stepB ?_; clear hSt; intro w nb hnb hSt; dsimp only [zcells, List.nil_append, List.cons_append] at hSt) | (refine stepG ?_ ?_ <;> intro hc <;> (try exact absA) <;> (fail_if_success (change true = true at hc)) <;> (fail_if_success (change false = false at hc))) | fail)
    exact ret1 rfl rfl ⟨rfl, ⟨_, ⟨ar, st, kp, cr, rfl, ha, hs⟩, hSt⟩⟩
  by_cases hz : steps = 0
  · subst hz
    rw [show ar = false by rw [ha]; rfl] at hSt
    rw [show Med.sync ⟨size, dur, s, false, 0, keep⟩ = (0, ⟨size, s.length, s, false, 0, keep⟩) by simp [Med.sync, Med.due]]
    refine enter Tryz.func96 rfl Tryz.ntmps96 rfl ?_
    repeat' (first | refine stepA ?_ | (refine stepS ?_; clear hSt; intro w hSt; dsimp only [spl, List.set] at hSt) | (refine stepB ?_; clear hSt; intro w nb hnb hSt; dsimp only [zcells, List.nil_append, List.cons_append] at hSt) | (refine stepG ?_ ?_ <;> intro hc <;> (try exact absA) <;> (fail_if_success (change true = true at hc)) <;> (fail_if_success (change false = false at hc))) | fail)
    refine WL_call (by kernel_rfl) rfl rfl rfl (counts_0 (m := ⟨size, dur, s, false, 0, keep⟩) (hSt.at 0 rfl)) ?_
    rintro v w' ⟨rfl, hc2⟩
    replace hSt := hSt.call1 (i := 0) rfl hc2
    dsimp only [List.set] at hSt
    repeat' (first | refine stepA ?_ | (refine stepS ?_; clear hSt; intro w hSt; dsimp only [spl, List.set] at hSt) | (refine stepB ?_; clear hSt; intro w nb hnb hSt; dsimp only [zcells, List.nil_append, List.cons_append] at hSt) | (refine stepG ?_ ?_ <;> intro hc <;> (try exact absA) <;> (fail_if_success (change true = true at hc)) <;> (fail_if_success (change false = false at hc))) | fail)
    exact ret1 rfl rfl ⟨rfl, _, ⟨false, st, kp, cr, rfl, rfl, by simp⟩, hSt⟩
  have hp : 0 < steps := by omega
  obtain ⟨rfl, rfl⟩ := hs hp
  rw [show ar = true by rw [ha]; simpa using hp] at hSt
  by_cases hs1 : st = 1
  · rw [show Med.sync ⟨size, dur, s, false, st, kp⟩ = (16, (⟨size, dur, s, false, st, kp⟩ : Med).crash kp) by simp [Med.sync, hs1]]
    refine enter Tryz.func96 rfl Tryz.ntmps96 rfl ?_
    repeat' (first | refine stepA ?_ | (refine stepS ?_; clear hSt; intro w hSt; dsimp only [spl, List.set] at hSt) | (refine stepB ?_; clear hSt; intro w nb hnb hSt; dsimp only [zcells, List.nil_append, List.cons_append] at hSt) | (refine stepG ?_ ?_ <;> intro hc <;> (try exact absA) <;> (fail_if_success (change true = true at hc)) <;> (fail_if_success (change false = false at hc))) | fail)
    refine WL_call (by kernel_rfl) rfl rfl rfl (counts_1 (m := ⟨size, dur, s, false, st, kp⟩) (hSt.at 0 rfl) (by omega) (by omega)) ?_
    rintro v w' ⟨rfl, hc2⟩
    replace hSt := hSt.call1 (i := 0) rfl hc2
    dsimp only [List.set, refO] at hSt
    repeat' (first | refine stepA ?_ | (refine stepS ?_; clear hSt; intro w hSt; dsimp only [spl, List.set] at hSt) | (refine stepB ?_; clear hSt; intro w nb hnb hSt; dsimp only [zcells, List.nil_append, List.cons_append] at hSt) | (refine stepG ?_ ?_ <;> intro hc <;> (try exact absA) <;> (fail_if_success (change true = true at hc)) <;> (fail_if_success (change false = false at hc))) | fail)
    refine WL_call (by kernel_rfl) rfl rfl rfl (fall_any (m := ⟨size, dur, s, false, st, kp⟩) (hSt.at 0 rfl) hm _) ?_
    rintro v w' ⟨rfl, o', ho', hc2⟩
    replace hSt := hSt.call1 (i := 0) rfl hc2
    dsimp only [List.set] at hSt
    repeat' (first | refine stepA ?_ | (refine stepS ?_; clear hSt; intro w hSt; dsimp only [spl, List.set] at hSt) | (refine stepB ?_; clear hSt; intro w nb hnb hSt; dsimp only [zcells, List.nil_append, List.cons_append] at hSt) | (refine stepG ?_ ?_ <;> intro hc <;> (try exact absA) <;> (fail_if_success (change true = true at hc)) <;> (fail_if_success (change false = false at hc))) | fail)
    exact ret1 rfl rfl ⟨rfl, _, ho', hSt⟩
  · rw [show Med.sync ⟨size, dur, s, false, st, kp⟩ = (0, ⟨size, s.length, s, false, (st - 1), kp⟩) by simp [Med.sync, Med.due, hs1, show ¬ st = 0 by omega]]
    refine enter Tryz.func96 rfl Tryz.ntmps96 rfl ?_
    repeat' (first | refine stepA ?_ | (refine stepS ?_; clear hSt; intro w hSt; dsimp only [spl, List.set] at hSt) | (refine stepB ?_; clear hSt; intro w nb hnb hSt; dsimp only [zcells, List.nil_append, List.cons_append] at hSt) | (refine stepG ?_ ?_ <;> intro hc <;> (try exact absA) <;> (fail_if_success (change true = true at hc)) <;> (fail_if_success (change false = false at hc))) | fail)
    refine WL_call (by kernel_rfl) rfl rfl rfl (counts_1 (m := ⟨size, dur, s, false, st, kp⟩) (hSt.at 0 rfl) (by omega) (by omega)) ?_
    rintro v w' ⟨rfl, hc2⟩
    replace hSt := hSt.call1 (i := 0) rfl hc2
    dsimp only [List.set, refO] at hSt
    repeat' (first | refine stepA ?_ | (refine stepS ?_; clear hSt; intro w hSt; dsimp only [spl, List.set] at hSt) | (refine stepB ?_; clear hSt; intro w nb hnb hSt; dsimp only [zcells, List.nil_append, List.cons_append] at hSt) | (refine stepG ?_ ?_ <;> intro hc <;> (try exact absA) <;> (fail_if_success (change true = true at hc)) <;> (fail_if_success (change false = false at hc))) | fail)
    exact ret1 rfl rfl ⟨rfl, _, ⟨true, _, _, _, rfl, by simp; omega, fun _ => ⟨rfl, rfl⟩⟩, hSt⟩

theorem rread_any {w : World} {b : Nat} {m : Med} {o : Obj} (hb : w.heap[b]? = some o) (ho : RefO o m) (hm : m.Ok) :
    Cl Tryz.prog 93 [Ptr b] w (fun v w' => v = .tuple ⟨[S m.read.1, I m.read.2]⟩ ∧ ∃ o', RefO o' m ∧ St w (· = b) [(b, o')] w') := by
  obtain ⟨ar, st, kp, cr, rfl, ha, hs⟩ := ho
  have hSt := (St.refl w (· = b)).know hb (Or.inl rfl) (by simp)
  dsimp only [List.nil_append, List.cons_append] at hSt
  have h0 := hm.d0; have h1 := hm.d; have h2 := hm.s; have h3 := hm.z; have h4 := hm.st0; have h5 := hm.st1
  obtain ⟨size, dur, s, down, steps, keep⟩ := m
  dsimp only [refO] at h0 h1 h2 h3 h4 h5 hSt ha hs
  cases down
  case true =>
    refine enter Tryz.func93 rfl Tryz.ntmps93 rfl ?_
    repeat' (first | refine stepA ?_ | (refine stepS ?_; clear hSt; intro w hSt; dsimp only [spl, List.set] at hSt) | (refine stepB ?_; clear hSt; intro w nb hnb hSt; dsimp only [zcells, List.nil_append, List.cons_append] at hSt) | (refine stepG ?_ ?_ <;> intro hc <;> (try exact absA) <;> (fail_if_success (change true = true at hc)) <;> (fail_if_success (change false = false at hc))) | fail)
    exact ret2 rfl rfl rfl ⟨rfl, ⟨_, ⟨ar, st, kp, cr, rfl, ha, hs⟩, hSt⟩⟩
  case false =>
    refine enter Tryz.func93 rfl Tryz.ntmps93 rfl ?_
    repeat' (first | refine stepA ?_ | (refine stepS ?_; clear hSt; intro w hSt; dsimp only [spl, List.set] at hSt) | (refine stepB ?_; clear hSt; intro w nb hnb hSt; dsimp only [zcells, List.nil_append, List.cons_append] at hSt) | (refine stepG ?_ ?_ <;> intro hc <;> (try exact absA) <;> (fail_if_success (change true = true at hc)) <;> (fail_if_success (change false = false at hc))) | fail)
    exact ret2 rfl rfl rfl ⟨rfl, ⟨_, ⟨ar, st, kp, cr, rfl, ha, hs⟩, hSt⟩⟩

end Go.Proofs.YtndkifkaejmibaaGreatDoor

namespace Go.Proofs.YtndkifkaejmibaaGreatDoor
open Go.RowKit
set_option maxRecDepth 4000
set_option linter.unusedVariables false
set_option linter.unusedSimpArgs false
set_option maxHeartbeats 1000000

theorem rtruncate_any {w : World} {b : Nat} {m : Med} {o : Obj} (hb : w.heap[b]? = some o) (ho : RefO o m) (hm : m.Ok) (n : Int) :
    Cl Tryz.prog 95 [Ptr b, I n] w (fun v w' => v = I (m.truncate n).1 ∧ ∃ o', RefO o' (m.truncate n).2 ∧ St w (· = b) [(b, o')] w') := by
  obtain ⟨ar, st, kp, cr, rfl, ha, hs⟩ := ho
  have hSt := (St.refl w (· = b)).know hb (Or.inl rfl) (by simp)
  dsimp only [List.nil_append, List.cons_append] at hSt
  have h0 := hm.d0; have h1 := hm.d; have h2 := hm.s; have h3 := hm.z; have h4 := hm.st0; have h5 := hm.st1
  obtain ⟨size, dur, s, down, steps, keep⟩ := m
  dsimp only [refO] at h0 h1 h2 h3 h4 h5 hSt ha hs
  cases down
  case true =>
    refine enter Tryz.func95 rfl Tryz.ntmps95 rfl ?_
    repeat' (first | refine stepA ?_ | (refine stepS ?_; clear hSt; intro w hSt; dsimp only [spl, List.set] at hSt) | (refine stepB ?_; clear hSt; intro w nb hnb hSt; dsimp only [zcells, List.nil_append, List.cons_append] at hSt) | (refine stepG ?_ ?_ <;> intro hc <;> (try exact absA) <;> (fail_if_success (change true = true at hc)) <;> (fail_if_success (change false = false at hc))) | fail)
    exact ret1 rfl rfl ⟨rfl, ⟨_, ⟨ar, st, kp, cr, rfl, ha, hs⟩, hSt⟩⟩
  by_cases hn : n < 0 ∨ s.length < n
  · rw [show Med.truncate _ n = (4, ⟨size, dur, s, false, steps, keep⟩) by simp [Med.truncate, hn]]
    refine enter Tryz.func95 rfl Tryz.ntmps95 rfl ?_
    repeat' (first | refine stepA ?_ | (refine stepS ?_; clear hSt; intro w hSt; dsimp only [spl, List.set] at hSt) | (refine stepB ?_; clear hSt; intro w nb hnb hSt; dsimp only [zcells, List.nil_append, List.cons_append] at hSt) | (refine stepG ?_ ?_ <;> intro hc <;> (try exact absA) <;> (fail_if_success (change true = true at hc)) <;> (fail_if_success (change false = false at hc))) | fail)
    all_goals exact ret1 rfl rfl ⟨rfl, ⟨_, ⟨ar, st, kp, cr, rfl, ha, hs⟩, hSt⟩⟩
  by_cases hd : n < dur
  · have hmin : min dur n = n := by omega
    by_cases hz : steps = 0
    · subst hz
      rw [show ar = false by rw [ha]; rfl] at hSt
      rw [show Med.truncate ⟨size, dur, s, false, 0, keep⟩ n = (0, ⟨size, n, s.take n.toNat, false, 0, keep⟩) by simp [Med.truncate, Med.due, hn, hmin]]
      refine enter Tryz.func95 rfl Tryz.ntmps95 rfl ?_
      repeat' (first | refine stepA ?_ | (refine stepS ?_; clear hSt; intro w hSt; dsimp only [spl, List.set] at hSt) | (refine stepB ?_; clear hSt; intro w nb hnb hSt; dsimp only [zcells, List.nil_append, List.cons_append] at hSt) | (refine stepG ?_ ?_ <;> intro hc <;> (try exact absA) <;> (fail_if_success (change true = true at hc)) <;> (fail_if_success (change false = false at hc))) | fail)
      refine WL_call (by kernel_rfl) rfl rfl rfl (counts_0 (m := ⟨size, dur, s, false, 0, keep⟩) (hSt.at 0 rfl)) ?_
      rintro v w' ⟨rfl, hc2⟩
      replace hSt := hSt.call1 (i := 0) rfl hc2
      dsimp only [List.set] at hSt
      repeat' (first | refine stepA ?_ | (refine stepS ?_; clear hSt; intro w hSt; dsimp only [spl, List.set] at hSt) | (refine stepB ?_; clear hSt; intro w nb hnb hSt; dsimp only [zcells, List.nil_append, List.cons_append] at hSt) | (refine stepG ?_ ?_ <;> intro hc <;> (try exact absA) <;> (fail_if_success (change true = true at hc)) <;> (fail_if_success (change false = false at hc))) | fail)
      exact ret1 rfl rfl ⟨rfl, _, ⟨false, st, kp, cr, rfl, rfl, by simp⟩, hSt⟩
    have hp : 0 < steps := by omega
    obtain ⟨rfl, rfl⟩ := hs hp
    rw [show ar = true by rw [ha]; simpa using hp] at hSt
    by_cases hs1 : st = 1
    · rw [show Med.truncate ⟨size, dur, s, false, st, kp⟩ n = (16, (⟨size, dur, s, false, st, kp⟩ : Med).crash kp) by simp [Med.truncate, hs1, hn, hmin]]
      refine enter Tryz.func95 rfl Tryz.ntmps95 rfl ?_
      repeat' (first | refine stepA ?_ | (refine stepS ?_; clear hSt; intro w hSt; dsimp only [spl, List.set] at hSt) | (refine stepB ?_; clear hSt; intro w nb hnb hSt; dsimp only [zcells, List.nil_append, List.cons_append] at hSt) | (refine stepG ?_ ?_ <;> intro hc <;> (try exact absA) <;> (fail_if_success (change true = true at hc)) <;> (fail_if_success (change false = false at hc))) | fail)
      refine WL_call (by kernel_rfl) rfl rfl rfl (counts_1 (m := ⟨size, dur, s, false, st, kp⟩) (hSt.at 0 rfl) (by omega) (by omega)) ?_
      rintro v w' ⟨rfl, hc2⟩
      replace hSt := hSt.call1 (i := 0) rfl hc2
      dsimp only [List.set, refO] at hSt
      repeat' (first | refine stepA ?_ | (refine stepS ?_; clear hSt; intro w hSt; dsimp only [spl, List.set] at hSt) | (refine stepB ?_; clear hSt; intro w nb hnb hSt; dsimp only [zcells, List.nil_append, List.cons_append] at hSt) | (refine stepG ?_ ?_ <;> intro hc <;> (try exact absA) <;> (fail_if_success (change true = true at hc)) <;> (fail_if_success (change false = false at hc))) | fail)
      refine WL_call (by kernel_rfl) rfl rfl rfl (fall_any (m := ⟨size, dur, s, false, st, kp⟩) (hSt.at 0 rfl) hm _) ?_
      rintro v w' ⟨rfl, o', ho', hc2⟩
      replace hSt := hSt.call1 (i := 0) rfl hc2
      dsimp only [List.set] at hSt
      repeat' (first | refine stepA ?_ | (refine stepS ?_; clear hSt; intro w hSt; dsimp only [spl, List.set] at hSt) | (refine stepB ?_; clear hSt; intro w nb hnb hSt; dsimp only [zcells, List.nil_append, List.cons_append] at hSt) | (refine stepG ?_ ?_ <;> intro hc <;> (try exact absA) <;> (fail_if_success (change true = true at hc)) <;> (fail_if_success (change false = false at hc))) | fail)
      exact ret1 rfl rfl ⟨rfl, _, ho', hSt⟩
    · rw [show Med.truncate ⟨size, dur, s, false, st, kp⟩ n = (0, ⟨size, n, s.take n.toNat, false, (st - 1), kp⟩) by simp [Med.truncate, Med.due, hs1, show ¬ st = 0 by omega, hn, hmin]]
      refine enter Tryz.func95 rfl Tryz.ntmps95 rfl ?_
      repeat' (first | refine stepA ?_ | (refine stepS ?_; clear hSt; intro w hSt; dsimp only [spl, List.set] at hSt) | (refine stepB ?_; clear hSt; intro w nb hnb hSt; dsimp only [zcells, List.nil_append, List.cons_append] at hSt) | (refine stepG ?_ ?_ <;> intro hc <;> (try exact absA) <;> (fail_if_success (change true = true at hc)) <;> (fail_if_success (change false = false at hc))) | fail)
      refine WL_call (by kernel_rfl) rfl rfl rfl (counts_1 (m := ⟨size, dur, s, false, st, kp⟩) (hSt.at 0 rfl) (by omega) (by omega)) ?_
      rintro v w' ⟨rfl, hc2⟩
      replace hSt := hSt.call1 (i := 0) rfl hc2
      dsimp only [List.set, refO] at hSt
      repeat' (first | refine stepA ?_ | (refine stepS ?_; clear hSt; intro w hSt; dsimp only [spl, List.set] at hSt) | (refine stepB ?_; clear hSt; intro w nb hnb hSt; dsimp only [zcells, List.nil_append, List.cons_append] at hSt) | (refine stepG ?_ ?_ <;> intro hc <;> (try exact absA) <;> (fail_if_success (change true = true at hc)) <;> (fail_if_success (change false = false at hc))) | fail)
      exact ret1 rfl rfl ⟨rfl, _, ⟨true, _, _, _, rfl, by simp; omega, fun _ => ⟨rfl, rfl⟩⟩, hSt⟩

  · have hmin : min dur n = dur := by omega
    by_cases hz : steps = 0
    · subst hz
      rw [show ar = false by rw [ha]; rfl] at hSt
      rw [show Med.truncate ⟨size, dur, s, false, 0, keep⟩ n = (0, ⟨size, dur, s.take n.toNat, false, 0, keep⟩) by simp [Med.truncate, Med.due, hn, hmin]]
      refine enter Tryz.func95 rfl Tryz.ntmps95 rfl ?_
      repeat' (first | refine stepA ?_ | (refine stepS ?_; clear hSt; intro w hSt; dsimp only [spl, List.set] at hSt) | (refine stepB ?_; clear hSt; intro w nb hnb hSt; dsimp only [zcells, List.nil_append, List.cons_append] at hSt) | (refine stepG ?_ ?_ <;> intro hc <;> (try exact absA) <;> (fail_if_success (change true = true at hc)) <;> (fail_if_success (change false = false at hc))) | fail)
      refine WL_call (by kernel_rfl) rfl rfl rfl (counts_0 (m := ⟨size, dur, s, false, 0, keep⟩) (hSt.at 0 rfl)) ?_
      rintro v w' ⟨rfl, hc2⟩
      replace hSt := hSt.call1 (i := 0) rfl hc2
      dsimp only [List.set] at hSt
      repeat' (first | refine stepA ?_ | (refine stepS ?_; clear hSt; intro w hSt; dsimp only [spl, List.set] at hSt) | (refine stepB ?_; clear hSt; intro w nb hnb hSt; dsimp only [zcells, List.nil_append, List.cons_append] at hSt) | (refine stepG ?_ ?_ <;> intro hc <;> (try exact absA) <;> (fail_if_success (change true = true at hc)) <;> (fail_if_success (change false = false at hc))) | fail)
      exact ret1 rfl rfl ⟨rfl, _, ⟨false, st, kp, cr, rfl, rfl, by simp⟩, hSt⟩
    have hp : 0 < steps := by omega
    obtain ⟨rfl, rfl⟩ := hs hp
    rw [show ar = true by rw [ha]; simpa using hp] at hSt
    by_cases hs1 : st = 1
    · rw [show Med.truncate ⟨size, dur, s, false, st, kp⟩ n = (16, (⟨size, dur, s, false, st, kp⟩ : Med).crash kp) by simp [Med.truncate, hs1, hn, hmin]]
      refine enter Tryz.func95 rfl Tryz.ntmps95 rfl ?_
      repeat' (first | refine stepA ?_ | (refine stepS ?_; clear hSt; intro w hSt; dsimp only [spl, List.set] at hSt) | (refine stepB ?_; clear hSt; intro w nb hnb hSt; dsimp only [zcells, List.nil_append, List.cons_append] at hSt) | (refine stepG ?_ ?_ <;> intro hc <;> (try exact absA) <;> (fail_if_success (change true = true at hc)) <;> (fail_if_success (change false = false at hc))) | fail)
      refine WL_call (by kernel_rfl) rfl rfl rfl (counts_1 (m := ⟨size, dur, s, false, st, kp⟩) (hSt.at 0 rfl) (by omega) (by omega)) ?_
      rintro v w' ⟨rfl, hc2⟩
      replace hSt := hSt.call1 (i := 0) rfl hc2
      dsimp only [List.set, refO] at hSt
      repeat' (first | refine stepA ?_ | (refine stepS ?_; clear hSt; intro w hSt; dsimp only [spl, List.set] at hSt) | (refine stepB ?_; clear hSt; intro w nb hnb hSt; dsimp only [zcells, List.nil_append, List.cons_append] at hSt) | (refine stepG ?_ ?_ <;> intro hc <;> (try exact absA) <;> (fail_if_success (change true = true at hc)) <;> (fail_if_success (change false = false at hc))) | fail)
      refine WL_call (by kernel_rfl) rfl rfl rfl (fall_any (m := ⟨size, dur, s, false, st, kp⟩) (hSt.at 0 rfl) hm _) ?_
      rintro v w' ⟨rfl, o', ho', hc2⟩
      replace hSt := hSt.call1 (i := 0) rfl hc2
      dsimp only [List.set] at hSt
      repeat' (first | refine stepA ?_ | (refine stepS ?_; clear hSt; intro w hSt; dsimp only [spl, List.set] at hSt) | (refine stepB ?_; clear hSt; intro w nb hnb hSt; dsimp only [zcells, List.nil_append, List.cons_append] at hSt) | (refine stepG ?_ ?_ <;> intro hc <;> (try exact absA) <;> (fail_if_success (change true = true at hc)) <;> (fail_if_success (change false = false at hc))) | fail)
      exact ret1 rfl rfl ⟨rfl, _, ho', hSt⟩
    · rw [show Med.truncate ⟨size, dur, s, false, st, kp⟩ n = (0, ⟨size, dur, s.take n.toNat, false, (st - 1), kp⟩) by simp [Med.truncate, Med.due, hs1, show ¬ st = 0 by omega, hn, hmin]]
      refine enter Tryz.func95 rfl Tryz.ntmps95 rfl ?_
      repeat' (first | refine stepA ?_ | (refine stepS ?_; clear hSt; intro w hSt; dsimp only [spl, List.set] at hSt) | (refine stepB ?_; clear hSt; intro w nb hnb hSt; dsimp only [zcells, List.nil_append, List.cons_append] at hSt) | (refine stepG ?_ ?_ <;> intro hc <;> (try exact absA) <;> (fail_if_success (change true = true at hc)) <;> (fail_if_success (change false = false at hc))) | fail)
      refine WL_call (by kernel_rfl) rfl rfl rfl (counts_1 (m := ⟨size, dur, s, false, st, kp⟩) (hSt.at 0 rfl) (by omega) (by omega)) ?_
      rintro v w' ⟨rfl, hc2⟩
      replace hSt := hSt.call1 (i := 0) rfl hc2
      dsimp only [List.set, refO] at hSt
      repeat' (first | refine stepA ?_ | (refine stepS ?_; clear hSt; intro w hSt; dsimp only [spl, List.set] at hSt) | (refine stepB ?_; clear hSt; intro w nb hnb hSt; dsimp only [zcells, List.nil_append, List.cons_append] at hSt) | (refine stepG ?_ ?_ <;> intro hc <;> (try exact absA) <;> (fail_if_success (change true = true at hc)) <;> (fail_if_success (change false = false at hc))) | fail)
      exact ret1 rfl rfl ⟨rfl, _, ⟨true, _, _, _, rfl, by simp; omega, fun _ => ⟨rfl, rfl⟩⟩, hSt⟩

theorem rarm_any {w : World} {b : Nat} {m : Med} {o : Obj} (hb : w.heap[b]? = some o) (ho : RefO o m) (hm : m.Ok) (a k : Int) :
    Cl Tryz.prog 48 [Ptr b, I a, I k] w (fun v w' => v = I (m.arm a k).1 ∧ ∃ o', RefO o' (m.arm a k).2 ∧ St w (· = b) [(b, o')] w') := by
  obtain ⟨ar, st, kp, cr, rfl, ha, hs⟩ := ho
  have hSt := (St.refl w (· = b)).know hb (Or.inl rfl) (by simp)
  dsimp only [List.nil_append, List.cons_append] at hSt
  have h0 := hm.d0; have h1 := hm.d; have h2 := hm.s; have h3 := hm.z; have h4 := hm.st0; have h5 := hm.st1
  obtain ⟨size, dur, s, down, steps, keep⟩ := m
  dsimp only [refO] at h0 h1 h2 h3 h4 h5 hSt ha hs
  cases down
  case true =>
    refine enter Tryz.func48 rfl Tryz.ntmps48 rfl ?_
    repeat' (first | refine stepA ?_ | (refine stepS ?_; clear hSt; intro w hSt; dsimp only [spl, List.set] at hSt) | (refine stepB ?_; clear hSt; intro w nb hnb hSt; dsimp only [zcells, List.nil_append, List.cons_append] at hSt) | (refine stepG ?_ ?_ <;> intro hc <;> (try exact absA) <;> (fail_if_success (change true = true at hc)) <;> (fail_if_success (change false = false at hc))) | fail)
    exact ret1 rfl rfl ⟨rfl, ⟨_, ⟨ar, st, kp, cr, rfl, ha, hs⟩, hSt⟩⟩
  by_cases hn : a < 0 ∨ k < 0
  · rw [show Med.arm _ a k = (4, ⟨size, dur, s, false, steps, keep⟩) by simp [Med.arm, hn]]
    refine enter Tryz.func48 rfl Tryz.ntmps48 rfl ?_
    repeat' (first | refine stepA ?_ | (refine stepS ?_; clear hSt; intro w hSt; dsimp only [spl, List.set] at hSt) | (refine stepB ?_; clear hSt; intro w nb hnb hSt; dsimp only [zcells, List.nil_append, List.cons_append] at hSt) | (refine stepG ?_ ?_ <;> intro hc <;> (try exact absA) <;> (fail_if_success (change true = true at hc)) <;> (fail_if_success (change false = false at hc))) | fail)
    all_goals exact ret1 rfl rfl ⟨rfl, ⟨_, ⟨ar, st, kp, cr, rfl, ha, hs⟩, hSt⟩⟩
  · rw [show Med.arm _ a k = (0, ⟨size, dur, s, false, a, k⟩) by simp [Med.arm, hn]]
    refine enter Tryz.func48 rfl Tryz.ntmps48 rfl ?_
    repeat' (first | refine stepA ?_ | (refine stepS ?_; clear hSt; intro w hSt; dsimp only [spl, List.set] at hSt) | (refine stepB ?_; clear hSt; intro w nb hnb hSt; dsimp only [zcells, List.nil_append, List.cons_append] at hSt) | (refine stepG ?_ ?_ <;> intro hc <;> (try exact absA) <;> (fail_if_success (change true = true at hc)) <;> (fail_if_success (change false = false at hc))) | fail)
    exact ret1 rfl rfl ⟨rfl, _, ⟨_, _, _, _, rfl, rfl, fun _ => ⟨rfl, rfl⟩⟩, hSt⟩

theorem rcrashOp_any {w : World} {b : Nat} {m : Med} {o : Obj} (hb : w.heap[b]? = some o) (ho : RefO o m) (hm : m.Ok) (k : Int) :
    Cl Tryz.prog 46 [Ptr b, I k] w (fun v w' => v = I (m.crashOp k).1 ∧ ∃ o', RefO o' (m.crashOp k).2 ∧ St w (· = b) [(b, o')] w') := by
  obtain ⟨ar, st, kp, cr, rfl, ha, hs⟩ := ho
  have hSt := (St.refl w (· = b)).know hb (Or.inl rfl) (by simp)
  dsimp only [List.nil_append, List.cons_append] at hSt
  have h0 := hm.d0; have h1 := hm.d; have h2 := hm.s; have h3 := hm.z; have h4 := hm.st0; have h5 := hm.st1
  obtain ⟨size, dur, s, down, steps, keep⟩ := m
  dsimp only [refO] at h0 h1 h2 h3 h4 h5 hSt ha hs
  cases down
  case true =>
    refine enter Tryz.func46 rfl Tryz.ntmps46 rfl ?_
    repeat' (first | refine stepA ?_ | (refine stepS ?_; clear hSt; intro w hSt; dsimp only [spl, List.set] at hSt) | (refine stepB ?_; clear hSt; intro w nb hnb hSt; dsimp only [zcells, List.nil_append, List.cons_append] at hSt) | (refine stepG ?_ ?_ <;> intro hc <;> (try exact absA) <;> (fail_if_success (change true = true at hc)) <;> (fail_if_success (change false = false at hc))) | fail)
    exact ret1 rfl rfl ⟨rfl, ⟨_, ⟨ar, st, kp, cr, rfl, ha, hs⟩, hSt⟩⟩
  case false =>
    refine enter Tryz.func46 rfl Tryz.ntmps46 rfl ?_
    repeat' (first | refine stepA ?_ | (refine stepS ?_; clear hSt; intro w hSt; dsimp only [spl, List.set] at hSt) | (refine stepB ?_; clear hSt; intro w nb hnb hSt; dsimp only [zcells, List.nil_append, List.cons_append] at hSt) | (refine stepG ?_ ?_ <;> intro hc <;> (try exact absA) <;> (fail_if_success (change true = true at hc)) <;> (fail_if_success (change false = false at hc))) | fail)
    refine WL_call (by kernel_rfl) rfl rfl rfl (fall_any (m := ⟨size, dur, s, false, steps, keep⟩) (hSt.at 0 rfl) hm _) ?_
    rintro v w' ⟨rfl, o', ho', hc2⟩
    replace hSt := hSt.call1 (i := 0) rfl hc2
    dsimp only [List.set] at hSt
    repeat' (first | refine stepA ?_ | (refine stepS ?_; clear hSt; intro w hSt; dsimp only [spl, List.set] at hSt) | (refine stepB ?_; clear hSt; intro w nb hnb hSt; dsimp only [zcells, List.nil_append, List.cons_append] at hSt) | (refine stepG ?_ ?_ <;> intro hc <;> (try exact absA) <;> (fail_if_success (change true = true at hc)) <;> (fail_if_success (change false = false at hc))) | fail)
    exact ret1 rfl rfl ⟨rfl, _, ho', hSt⟩

theorem rrecover_any {w : World} {b : Nat} {m : Med} {o : Obj} (hb : w.heap[b]? = some o) (ho : RefO o m) (hm : m.Ok) :
    Cl Tryz.prog 47 [Ptr b] w (fun v w' => v = I m.recover.1 ∧ ∃ o', RefO o' m.recover.2 ∧ St w (· = b) [(b, o')] w') := by
  obtain ⟨ar, st, kp, cr, rfl, ha, hs⟩ := ho
  have hSt := (St.refl w (· = b)).know hb (Or.inl rfl) (by simp)
  dsimp only [List.nil_append, List.cons_append] at hSt
  have h0 := hm.d0; have h1 := hm.d; have h2 := hm.s; have h3 := hm.z; have h4 := hm.st0; have h5 := hm.st1
  obtain ⟨size, dur, s, down, steps, keep⟩ := m
  dsimp only [refO] at h0 h1 h2 h3 h4 h5 hSt ha hs
  cases down
  case true =>
    refine enter Tryz.func47 rfl Tryz.ntmps47 rfl ?_
    repeat' (first | refine stepA ?_ | (refine stepS ?_; clear hSt; intro w hSt; dsimp only [spl, List.set] at hSt) | (refine stepB ?_; clear hSt; intro w nb hnb hSt; dsimp only [zcells, List.nil_append, List.cons_append] at hSt) | (refine stepG ?_ ?_ <;> intro hc <;> (try exact absA) <;> (fail_if_success (change true = true at hc)) <;> (fail_if_success (change false = false at hc))) | fail)
    exact ret1 rfl rfl ⟨rfl, ⟨_, ⟨ar, st, kp, cr, rfl, ha, hs⟩, hSt⟩⟩
  case false =>
    refine enter Tryz.func47 rfl Tryz.ntmps47 rfl ?_
    repeat' (first | refine stepA ?_ | (refine stepS ?_; clear hSt; intro w hSt; dsimp only [spl, List.set] at hSt) | (refine stepB ?_; clear hSt; intro w nb hnb hSt; dsimp only [zcells, List.nil_append, List.cons_append] at hSt) | (refine stepG ?_ ?_ <;> intro hc <;> (try exact absA) <;> (fail_if_success (change true = true at hc)) <;> (fail_if_success (change false = false at hc))) | fail)
    exact ret1 rfl rfl ⟨rfl, ⟨_, ⟨ar, st, kp, cr, rfl, ha, hs⟩, hSt⟩⟩

theorem rlen_any {w : World} {b : Nat} {m : Med} {o : Obj} (hb : w.heap[b]? = some o) (ho : RefO o m) (hm : m.Ok) :
    Cl Tryz.prog 55 [Ptr b] w (fun v w' => v = I m.s.length ∧ ∃ o', RefO o' m ∧ St w (· = b) [(b, o')] w') := by
  obtain ⟨ar, st, kp, cr, rfl, ha, hs⟩ := ho
  have hSt := (St.refl w (· = b)).know hb (Or.inl rfl) (by simp)
  dsimp only [List.nil_append, List.cons_append] at hSt
  have h0 := hm.d0; have h1 := hm.d; have h2 := hm.s; have h3 := hm.z; have h4 := hm.st0; have h5 := hm.st1
  obtain ⟨size, dur, s, down, steps, keep⟩ := m
  dsimp only [refO] at h0 h1 h2 h3 h4 h5 hSt ha hs
  refine enter Tryz.func55 rfl Tryz.ntmps55 rfl ?_
  repeat' (first | refine stepA ?_ | (refine stepS ?_; clear hSt; intro w hSt; dsimp only [spl, List.set] at hSt) | (refine stepB ?_; clear hSt; intro w nb hnb hSt; dsimp only [zcells, List.nil_append, List.cons_append] at hSt) | (refine stepG ?_ ?_ <;> intro hc <;> (try exact absA) <;> (fail_if_success (change true = true at hc)) <;> (fail_if_success (change false = false at hc))) | fail)
  exact ret1 rfl rfl ⟨rfl, ⟨_, ⟨ar, st, kp, cr, rfl, ha, hs⟩, hSt⟩⟩

theorem rnew_bad {w : World} (size : Int) (h : size < 1 ∨ 262144 < size) : Cl Tryz.prog 23 [I size] w (fun v w' => v = .tuple ⟨[.agg ⟨[I 0, S [], I 0, B false, B false, I 0, I 0, I 0]⟩, I 4]⟩ ∧ St w NoneS [] w') := by
  have hSt := St.refl w NoneS
  refine enter Tryz.func23 rfl Tryz.ntmps23 rfl ?_
  repeat' (first | refine stepA ?_ | (refine stepS ?_; clear hSt; intro w hSt; dsimp only [spl, List.set] at hSt) | (refine stepB ?_; clear hSt; intro w nb hnb hSt; dsimp only [zcells, List.nil_append, List.cons_append] at hSt) | (refine stepG ?_ ?_ <;> intro hc <;> (try exact absA) <;> (fail_if_success (change true = true at hc)) <;> (fail_if_success (change false = false at hc))) | fail)
  all_goals exact end_of (resc2 rfl hT rfl rfl rfl (hSt.at 0 rfl) rfl rfl) ⟨rfl, hSt.nil⟩
theorem rnew_good {w : World} (size : Int) (h1 : 1 ≤ size) (h2 : size ≤ 262144) : Cl Tryz.prog 23 [I size] w (fun v w' => v = .tuple ⟨[.agg ⟨[I size, S [], I 0, B false, B false, I 0, I 0, I 0]⟩, I 0]⟩ ∧ St w NoneS [] w') := by
  have hSt := St.refl w NoneS
  refine enter Tryz.func23 rfl Tryz.ntmps23 rfl ?_
  repeat' (first | refine stepA ?_ | (refine stepS ?_; clear hSt; intro w hSt; dsimp only [spl, List.set] at hSt) | (refine stepB ?_; clear hSt; intro w nb hnb hSt; dsimp only [zcells, List.nil_append, List.cons_append] at hSt) | (refine stepG ?_ ?_ <;> intro hc <;> (try exact absA) <;> (fail_if_success (change true = true at hc)) <;> (fail_if_success (change false = false at hc))) | fail)
  exact end_of (resc2 rfl hT rfl rfl rfl (hSt.at 0 rfl) rfl rfl) ⟨rfl, hSt.nil⟩
end Go.Proofs.YtndkifkaejmibaaGreatDoor
