/- The medium's functions: what each does to the block that holds a medium. No conditions. -/
import Derived.Test.YthkimkgphaiagaaGreatDoorTys
import Derived.Test.YthkimkgphaiagaaGreatDoorMC
import Derived.Test.YthkimkgphaiagaaGreatDoorMA

namespace Go.Proofs.YthkimkgphaiagaaGreatDoor
open Go.RowKit
set_option maxRecDepth 4000
set_option linter.unusedVariables false
set_option linter.unusedSimpArgs false

structure Med where
  size : Int
  dur : Int
  s : List UInt8
  down : Bool
  steps : Int
  keep : Int
abbrev Med.cells (m : Med) : List Value := [I m.size, I m.dur, S m.s, B m.down, I m.steps, I m.keep]
abbrev Med.obj (m : Med) : Obj := blk m.cells 75
structure Med.Ok (m : Med) : Prop where
  d0 : 0 ≤ m.dur
  d : m.dur ≤ m.s.length
  s : (m.s.length : Int) ≤ m.size
  z : m.size ≤ 262144
  st0 : 0 ≤ m.steps
  st1 : m.steps ≤ 9223372036854775807

def Med.due (m : Med) : Med := { m with steps := if m.steps = 0 then 0 else m.steps - 1 }
def Med.cut (m : Med) (keep : Int) : Int := m.dur + max 0 (min keep (m.s.length - m.dur))
def Med.crash (m : Med) (keep : Int) : Med := { m with s := m.s.take (m.cut keep).toNat, dur := m.cut keep, down := true, steps := 0 }
def Med.append (m : Med) (x : List UInt8) : Int × Med :=
  if m.down then (16, m) else if m.size - m.s.length < x.length then (15, m) else
  if m.steps = 1 then (16, { m with s := m.s ++ x }.crash m.keep) else (0, { m with s := m.s ++ x }.due)
def Med.sync (m : Med) : Int × Med :=
  if m.down then (16, m) else if m.steps = 1 then (16, m.crash m.keep) else (0, { m.due with dur := m.s.length })
def Med.read (m : Med) : List UInt8 × Int := if m.down then ([], 16) else (m.s, 0)
def Med.truncate (m : Med) (n : Int) : Int × Med :=
  if m.down then (16, m) else if n < 0 ∨ m.s.length < n then (4, m) else if m.steps = 1 then (16, m.crash m.keep) else (0, { m.due with s := m.s.take n.toNat, dur := min m.dur n })
def Med.arm (m : Med) (steps keep : Int) : Int × Med :=
  if m.down then (16, m) else if steps < 0 ∨ keep < 0 then (4, m) else (0, { m with steps := steps, keep := keep })
def Med.crashOp (m : Med) (keep : Int) : Int × Med := if m.down then (16, m) else (0, m.crash keep)
def Med.recover (m : Med) : Int × Med := if m.down then (0, { m with down := false }) else (10, m)

theorem Med.cut_bd {m : Med} (hm : m.Ok) (k : Int) : m.dur ≤ m.cut k ∧ m.cut k ≤ m.s.length := by
  have := hm.d; unfold Med.cut; omega
theorem Med.Ok.due {m : Med} (hm : m.Ok) : m.due.Ok := ⟨hm.d0, hm.d, hm.s, hm.z, by have := hm.st0; simp only [Med.due]; split <;> omega, by have := hm.st1; simp only [Med.due]; split <;> omega⟩
theorem Med.Ok.crash {m : Med} (hm : m.Ok) (k : Int) : (m.crash k).Ok := by
  have h := Med.cut_bd hm k
  have h0 := hm.d0; have h1 := hm.s; have h2 := hm.z
  refine ⟨?_, ?_, ?_, hm.z, ?_, ?_⟩ <;> simp only [Med.crash, List.length_take] <;> omega
theorem Med.Ok.app {m : Med} (hm : m.Ok) {x : List UInt8} (h : ¬ m.size - m.s.length < x.length) : ({ m with s := m.s ++ x } : Med).Ok :=
  ⟨hm.d0, by have := hm.d; simp only [List.length_append]; omega, by simp only [List.length_append]; omega, hm.z, hm.st0, hm.st1⟩
theorem Med.Ok.append {m : Med} (hm : m.Ok) (x : List UInt8) : (m.append x).2.Ok := by
  unfold Med.append
  split
  · exact hm
  · split
    · exact hm
    · rename_i h
      split
      · exact (hm.app h).crash _
      · exact (hm.app h).due
theorem Med.Ok.sync {m : Med} (hm : m.Ok) : m.sync.2.Ok := by
  unfold Med.sync
  split
  · exact hm
  · split
    · exact hm.crash _
    · exact ⟨by simp [Med.due], by simp [Med.due], hm.due.s, hm.z, hm.due.st0, hm.due.st1⟩
theorem Med.Ok.truncate {m : Med} (hm : m.Ok) (n : Int) : (m.truncate n).2.Ok := by
  have h0 := hm.d0; have h1 := hm.d; have h2 := hm.s
  unfold Med.truncate
  split
  · exact hm
  · split
    · exact hm
    · split
      · exact hm.crash _
      · refine ⟨?_, ?_, ?_, hm.z, hm.due.st0, hm.due.st1⟩ <;> simp only [Med.due, List.length_take] <;> omega
theorem Med.Ok.arm {m : Med} (hm : m.Ok) {s : Int} (k : Int) (h : s ≤ 9223372036854775807) : (m.arm s k).2.Ok := by
  unfold Med.arm
  split
  · exact hm
  · split
    · exact hm
    · exact ⟨hm.d0, hm.d, hm.s, hm.z, by simp only; omega, h⟩
theorem Med.Ok.crashOp {m : Med} (hm : m.Ok) (k : Int) : (m.crashOp k).2.Ok := by
  unfold Med.crashOp
  split
  · exact hm
  · exact hm.crash k
theorem Med.Ok.recover {m : Med} (hm : m.Ok) : m.recover.2.Ok := by
  unfold Med.recover
  split
  · exact ⟨hm.d0, hm.d, hm.s, hm.z, hm.st0, hm.st1⟩
  · exact hm

set_option maxHeartbeats 400000
theorem due_any {w : World} {b : Nat} {m : Med} (hb : w.heap[b]? = some m.obj) (hm : m.Ok) :
    Cl Tryz.prog 69 [Ptr b] w (fun v w' => v = B (decide (m.steps = 1)) ∧ St w (· = b) [(b, m.due.obj)] w') := by
  have hSt := (St.refl w (· = b)).know hb (Or.inl rfl) (by simp)
  dsimp only [List.nil_append] at hSt
  have h0 := hm.st0
  have h1 := hm.st1
  by_cases hz : m.steps = 0
  · have e : m.due = m := by unfold Med.due; rw [if_pos hz, ← hz]
    rw [e]
    refine enter Tryz.func69 rfl Tryz.ntmps69 rfl ?_
    repeat (first | refine stepA ?_ | (refine stepS ?_; clear hSt; intro w hSt; dsimp only [spl, List.set] at hSt) | fail)
    refine W_scope 0 (fun L' w' => St w (· = b) [(b, m.obj)] w' ∧ L' = []) rfl (fun K hK => ?_) (fun L' w hJ => ?_)
    · repeat' (first | refine stepA ?_ | (refine stepS ?_; clear hSt; intro w hSt; dsimp only [spl, List.set] at hSt) | (refine stepB ?_; clear hSt; intro w nb hnb hSt; dsimp only [zcells, List.nil_append, List.cons_append] at hSt) | (refine stepG ?_ ?_ <;> intro hc <;> (try exact absA) <;> (fail_if_success (change true = true at hc)) <;> (fail_if_success (change false = false at hc))) | fail)
      refine At_jump hK ⟨hSt, rfl⟩ (Sub.nil _)
    · obtain ⟨hSt, rfl⟩ := hJ
      repeat' (first | refine stepA ?_ | (refine stepS ?_; clear hSt; intro w hSt; dsimp only [spl, List.set] at hSt) | (refine stepB ?_; clear hSt; intro w nb hnb hSt; dsimp only [zcells, List.nil_append, List.cons_append] at hSt) | (refine stepG ?_ ?_ <;> intro hc <;> (try exact absA) <;> (fail_if_success (change true = true at hc)) <;> (fail_if_success (change false = false at hc))) | fail)
      refine ret1 rfl rfl ⟨by simp [hz], hSt⟩
  · have e : m.due.obj = blk [I m.size, I m.dur, S m.s, B m.down, I (m.steps - 1), I m.keep] 75 := by unfold Med.due; simp [hz]
    rw [e]
    refine enter Tryz.func69 rfl Tryz.ntmps69 rfl ?_
    repeat (first | refine stepA ?_ | (refine stepS ?_; clear hSt; intro w hSt; dsimp only [spl, List.set] at hSt) | fail)
    refine W_scope 0 (fun L' w' => m.steps ≠ 1 ∧ St w (· = b) [(b, m.due.obj)] w' ∧ L' = []) rfl (fun K hK => ?_) (fun L' w hJ => ?_)
    · repeat' (first | refine stepA ?_ | (refine stepS ?_; clear hSt; intro w hSt; dsimp only [spl, List.set] at hSt) | (refine stepB ?_; clear hSt; intro w nb hnb hSt; dsimp only [zcells, List.nil_append, List.cons_append] at hSt) | (refine stepG ?_ ?_ <;> intro hc <;> (try exact absA) <;> (fail_if_success (change true = true at hc)) <;> (fail_if_success (change false = false at hc))) | fail)
      · refine At_jump hK ⟨by omega, e ▸ hSt, rfl⟩ (Sub.nil _)
      · refine ret1 rfl rfl ⟨?_, hSt⟩
        have : m.steps = 1 := by omega
        simp [this]
    · obtain ⟨h2, hSt, rfl⟩ := hJ
      repeat' (first | refine stepA ?_ | (refine stepS ?_; clear hSt; intro w hSt; dsimp only [spl, List.set] at hSt) | (refine stepB ?_; clear hSt; intro w nb hnb hSt; dsimp only [zcells, List.nil_append, List.cons_append] at hSt) | (refine stepG ?_ ?_ <;> intro hc <;> (try exact absA) <;> (fail_if_success (change true = true at hc)) <;> (fail_if_success (change false = false at hc))) | fail)
      refine ret1 rfl rfl ⟨by simp [h2], e ▸ hSt⟩

theorem crash_any {w : World} {b : Nat} {m : Med} (hb : w.heap[b]? = some m.obj) (hm : m.Ok) (keep : Int) :
    Cl Tryz.prog 65 [Ptr b, I keep] w (fun v w' => v = .tuple #[] ∧ St w (· = b) [(b, (m.crash keep).obj)] w') := by
  have hSt := (St.refl w (· = b)).know hb (Or.inl rfl) (by simp)
  dsimp only [List.nil_append, List.cons_append] at hSt
  have h0 := hm.d0; have h1 := hm.d; have h2 := hm.s; have h3 := hm.z
  have h4 := Med.cut_bd hm keep
  have e : (m.crash keep).obj = blk [I m.size, I (m.s.take (m.cut keep).toNat).length, S (m.s.take (m.cut keep).toNat), B true, I 0, I m.keep] 75 := by
    have : (((m.s.take (m.cut keep).toNat).length : Nat) : Int) = m.cut keep := by simp only [List.length_take]; omega
    rw [this]; rfl
  rw [e]
  clear e hm hb
  unfold Med.cut at *
  refine enter Tryz.func65 rfl Tryz.ntmps65 rfl ?_
  repeat (first | refine stepA ?_ | (refine stepS ?_; clear hSt; intro w hSt; dsimp only [spl, List.set] at hSt) | fail)
  (refine W_quiet hT (by decide +kernel) hSt ?_; clear hSt; (repeat' (first | (apply QL_ev rfl rfl; (intro w hSt; (first | exact Ev_auto))) | refine QL_pass rfl rfl ?_ | (refine QL_guardP rfl rfl (fun hc => ?_) (fun hc => ?_) <;> try exact absA) | (refine QL_guard rfl rfl (fun hc => ?_) (fun hc => ?_) <;> (try exact absA) <;> (fail_if_success (change true = true at hc)) <;> (fail_if_success (change false = false at hc))))); all_goals (refine QL_nil (fun w hSt => ?_)))
  repeat (first | refine stepA ?_ | (refine stepS ?_; clear hSt; intro w hSt; dsimp only [spl, List.set] at hSt) | fail)
  (refine W_tail 15 hT (by decide +kernel) hSt ?_; clear hSt; intro w hSt; simp only [List.take_succ_cons, List.take_zero]; (repeat' (first | (apply SL_ev rfl rfl; (first | exact Ev_auto)) | refine SL_pass rfl rfl ?_ | (refine SL_guardP rfl rfl (fun hc => ?_) (fun hc => ?_) <;> try exact absA) | (refine SL_guard rfl rfl (fun hc => ?_) (fun hc => ?_) <;> (try exact absA) <;> (fail_if_success (change true = true at hc)) <;> (fail_if_success (change false = false at hc))))); all_goals (refine SL_nil ?_; simp only [List.drop_succ_cons, List.drop_zero]))
  repeat' (first | refine stepA ?_ | (refine stepS ?_; clear hSt; intro w hSt; dsimp only [spl, List.set] at hSt) | (refine stepB ?_; clear hSt; intro w nb hnb hSt; dsimp only [zcells, List.nil_append, List.cons_append] at hSt) | (refine stepG ?_ ?_ <;> intro hc <;> (try exact absA) <;> (fail_if_success (change true = true at hc)) <;> (fail_if_success (change false = false at hc))) | fail)
  exact ⟨rfl, hSt⟩

theorem append_any {w : World} {b : Nat} {m : Med} (hb : w.heap[b]? = some m.obj) (hm : m.Ok) (x : List UInt8) :
    Cl Tryz.prog 87 [Ptr b, S x] w (fun v w' => v = I (m.append x).1 ∧ St w (· = b) [(b, (m.append x).2.obj)] w') := by
  have hSt := (St.refl w (· = b)).know hb (Or.inl rfl) (by simp)
  dsimp only [List.nil_append, List.cons_append] at hSt
  have h0 := hm.d0; have h1 := hm.d; have h2 := hm.s; have h3 := hm.z
  obtain ⟨size, dur, s, down, steps, keep⟩ := m
  dsimp only [Med.obj, Med.cells] at h0 h1 h2 h3 hSt
  cases down
  case true =>
    refine enter Tryz.func87 rfl Tryz.ntmps87 rfl ?_
    repeat' (first | (refine W_tail 12 hT (by decide +kernel) hSt ?_; clear hSt; intro w hSt; simp only [List.take_succ_cons, List.take_zero]; (repeat' (first | (apply SL_ev rfl rfl; (first | exact Ev_auto)) | refine SL_pass rfl rfl ?_ | (refine SL_guardP rfl rfl (fun hc => ?_) (fun hc => ?_) <;> try exact absA) | (refine SL_guard rfl rfl (fun hc => ?_) (fun hc => ?_) <;> (try exact absA) <;> (fail_if_success (change true = true at hc)) <;> (fail_if_success (change false = false at hc))))); all_goals (refine SL_nil ?_; simp only [List.drop_succ_cons, List.drop_zero])) | refine stepA ?_ | (refine stepS ?_; clear hSt; intro w hSt; dsimp only [spl, List.set] at hSt) | (refine stepB ?_; clear hSt; intro w nb hnb hSt; dsimp only [zcells, List.nil_append, List.cons_append] at hSt) | (refine stepG ?_ ?_ <;> intro hc <;> (try exact absA) <;> (fail_if_success (change true = true at hc)) <;> (fail_if_success (change false = false at hc))) | fail)
    exact ret1 rfl rfl ⟨rfl, hSt⟩
  by_cases hf : size - s.length < x.length
  · rw [show Med.append _ x = (15, ⟨size, dur, s, false, steps, keep⟩) by simp [Med.append, hf]]
    refine enter Tryz.func87 rfl Tryz.ntmps87 rfl ?_
    repeat' (first | (refine W_tail 12 hT (by decide +kernel) hSt ?_; clear hSt; intro w hSt; simp only [List.take_succ_cons, List.take_zero]; (repeat' (first | (apply SL_ev rfl rfl; (first | exact Ev_auto)) | refine SL_pass rfl rfl ?_ | (refine SL_guardP rfl rfl (fun hc => ?_) (fun hc => ?_) <;> try exact absA) | (refine SL_guard rfl rfl (fun hc => ?_) (fun hc => ?_) <;> (try exact absA) <;> (fail_if_success (change true = true at hc)) <;> (fail_if_success (change false = false at hc))))); all_goals (refine SL_nil ?_; simp only [List.drop_succ_cons, List.drop_zero])) | refine stepA ?_ | (refine stepS ?_; clear hSt; intro w hSt; dsimp only [spl, List.set] at hSt) | (refine stepB ?_; clear hSt; intro w nb hnb hSt; dsimp only [zcells, List.nil_append, List.cons_append] at hSt) | (refine stepG ?_ ?_ <;> intro hc <;> (try exact absA) <;> (fail_if_success (change true = true at hc)) <;> (fail_if_success (change false = false at hc))) | fail)
    exact ret1 rfl rfl ⟨rfl, hSt⟩
  have hm2 := hm.app hf
  dsimp only at hm2
  have hdue := fun w b h => due_any (w := w) (b := b) h hm2
  have hcr := fun w b h k => crash_any (w := w) (b := b) h hm2.due k
  dsimp only at hdue
  by_cases hs : steps = 1
  · rw [show Med.append _ x = (16, (⟨size, dur, s ++ x, false, steps, keep⟩ : Med).crash keep) by simp [Med.append, hf, hs]]
    refine enter Tryz.func87 rfl Tryz.ntmps87 rfl ?_
    repeat' (first | (refine W_tail 12 hT (by decide +kernel) hSt ?_; clear hSt; intro w hSt; simp only [List.take_succ_cons, List.take_zero]; (repeat' (first | (apply SL_ev rfl rfl; (first | exact Ev_auto)) | refine SL_pass rfl rfl ?_ | (refine SL_guardP rfl rfl (fun hc => ?_) (fun hc => ?_) <;> try exact absA) | (refine SL_guard rfl rfl (fun hc => ?_) (fun hc => ?_) <;> (try exact absA) <;> (fail_if_success (change true = true at hc)) <;> (fail_if_success (change false = false at hc))))); all_goals (refine SL_nil ?_; simp only [List.drop_succ_cons, List.drop_zero])) | refine stepA ?_ | (refine stepS ?_; clear hSt; intro w hSt; dsimp only [spl, List.set] at hSt) | (refine stepB ?_; clear hSt; intro w nb hnb hSt; dsimp only [zcells, List.nil_append, List.cons_append] at hSt) | (refine stepG ?_ ?_ <;> intro hc <;> (try exact absA) <;> (fail_if_success (change true = true at hc)) <;> (fail_if_success (change false = false at hc))) | fail)
    refine WL_call (by kernel_rfl) rfl rfl rfl (hdue _ _ (hSt.at 0 rfl)) ?_
    rintro v w' ⟨rfl, hc2⟩
    replace hSt := hSt.call1 (i := 0) rfl hc2
    dsimp only [List.set] at hSt
    repeat' (first | refine stepA ?_ | (refine stepS ?_; clear hSt; intro w hSt; dsimp only [spl, List.set] at hSt) | (refine stepB ?_; clear hSt; intro w nb hnb hSt; dsimp only [zcells, List.nil_append, List.cons_append] at hSt) | (refine stepG ?_ ?_ <;> intro hc <;> (try exact absA) <;> (fail_if_success (change true = true at hc)) <;> (fail_if_success (change false = false at hc))) | fail)
    refine WL_call (by kernel_rfl) rfl rfl rfl (hcr _ _ (hSt.at 0 rfl) _) ?_
    rintro v w' ⟨rfl, hc2⟩
    replace hSt := hSt.call1 (i := 0) rfl hc2
    dsimp only [List.set] at hSt
    repeat' (first | refine stepA ?_ | (refine stepS ?_; clear hSt; intro w hSt; dsimp only [spl, List.set] at hSt) | (refine stepB ?_; clear hSt; intro w nb hnb hSt; dsimp only [zcells, List.nil_append, List.cons_append] at hSt) | (refine stepG ?_ ?_ <;> intro hc <;> (try exact absA) <;> (fail_if_success (change true = true at hc)) <;> (fail_if_success (change false = false at hc))) | fail)
    exact ret1 rfl rfl ⟨rfl, hSt⟩
  · rw [show Med.append _ x = (0, (⟨size, dur, s ++ x, false, steps, keep⟩ : Med).due) by simp [Med.append, hf, hs]]
    refine enter Tryz.func87 rfl Tryz.ntmps87 rfl ?_
    repeat' (first | (refine W_tail 12 hT (by decide +kernel) hSt ?_; clear hSt; intro w hSt; simp only [List.take_succ_cons, List.take_zero]; (repeat' (first | (apply SL_ev rfl rfl; (first | exact Ev_auto)) | refine SL_pass rfl rfl ?_ | (refine SL_guardP rfl rfl (fun hc => ?_) (fun hc => ?_) <;> try exact absA) | (refine SL_guard rfl rfl (fun hc => ?_) (fun hc => ?_) <;> (try exact absA) <;> (fail_if_success (change true = true at hc)) <;> (fail_if_success (change false = false at hc))))); all_goals (refine SL_nil ?_; simp only [List.drop_succ_cons, List.drop_zero])) | refine stepA ?_ | (refine stepS ?_; clear hSt; intro w hSt; dsimp only [spl, List.set] at hSt) | (refine stepB ?_; clear hSt; intro w nb hnb hSt; dsimp only [zcells, List.nil_append, List.cons_append] at hSt) | (refine stepG ?_ ?_ <;> intro hc <;> (try exact absA) <;> (fail_if_success (change true = true at hc)) <;> (fail_if_success (change false = false at hc))) | fail)
    refine WL_call (by kernel_rfl) rfl rfl rfl (hdue _ _ (hSt.at 0 rfl)) ?_
    rintro v w' ⟨rfl, hc2⟩
    replace hSt := hSt.call1 (i := 0) rfl hc2
    dsimp only [List.set] at hSt
    repeat' (first | refine stepA ?_ | (refine stepS ?_; clear hSt; intro w hSt; dsimp only [spl, List.set] at hSt) | (refine stepB ?_; clear hSt; intro w nb hnb hSt; dsimp only [zcells, List.nil_append, List.cons_append] at hSt) | (refine stepG ?_ ?_ <;> intro hc <;> (try exact absA) <;> (fail_if_success (change true = true at hc)) <;> (fail_if_success (change false = false at hc))) | fail)
    exact ret1 rfl rfl ⟨rfl, hSt⟩
end Go.Proofs.YthkimkgphaiagaaGreatDoor

namespace Go.Proofs.YthkimkgphaiagaaGreatDoor
open Go.RowKit
set_option maxRecDepth 4000
set_option linter.unusedVariables false
set_option linter.unusedSimpArgs false
set_option maxHeartbeats 1000000

theorem sync_any {w : World} {b : Nat} {m : Med} (hb : w.heap[b]? = some m.obj) (hm : m.Ok) :
    Cl Tryz.prog 56 [Ptr b] w (fun v w' => v = I m.sync.1 ∧ St w (· = b) [(b, m.sync.2.obj)] w') := by
  have hSt := (St.refl w (· = b)).know hb (Or.inl rfl) (by simp)
  dsimp only [List.nil_append, List.cons_append] at hSt
  have h0 := hm.d0; have h1 := hm.d; have h2 := hm.s; have h3 := hm.z
  obtain ⟨size, dur, s, down, steps, keep⟩ := m
  dsimp only [Med.obj, Med.cells] at h0 h1 h2 h3 hSt
  cases down
  case true =>
    refine enter Tryz.func56 rfl Tryz.ntmps56 rfl ?_
    repeat' (first | refine stepA ?_ | (refine stepS ?_; clear hSt; intro w hSt; dsimp only [spl, List.set] at hSt) | (refine stepB ?_; clear hSt; intro w nb hnb hSt; dsimp only [zcells, List.nil_append, List.cons_append] at hSt) | (refine stepG ?_ ?_ <;> intro hc <;> (try exact absA) <;> (fail_if_success (change true = true at hc)) <;> (fail_if_success (change false = false at hc))) | fail)
    exact ret1 rfl rfl ⟨rfl, hSt⟩
  have hdue := fun w b h => due_any (w := w) (b := b) h hm
  have hcr := fun w b h k => crash_any (w := w) (b := b) h hm.due k
  dsimp only at hdue
  by_cases hs : steps = 1
  · rw [show Med.sync _ = (16, (⟨size, dur, s, false, steps, keep⟩ : Med).crash keep) by simp [Med.sync, hs]]
    refine enter Tryz.func56 rfl Tryz.ntmps56 rfl ?_
    repeat' (first | refine stepA ?_ | (refine stepS ?_; clear hSt; intro w hSt; dsimp only [spl, List.set] at hSt) | (refine stepB ?_; clear hSt; intro w nb hnb hSt; dsimp only [zcells, List.nil_append, List.cons_append] at hSt) | (refine stepG ?_ ?_ <;> intro hc <;> (try exact absA) <;> (fail_if_success (change true = true at hc)) <;> (fail_if_success (change false = false at hc))) | fail)
    refine WL_call (by kernel_rfl) rfl rfl rfl (hdue _ _ (hSt.at 0 rfl)) ?_
    rintro v w' ⟨rfl, hc2⟩
    replace hSt := hSt.call1 (i := 0) rfl hc2
    dsimp only [List.set, Med.obj, Med.cells, Med.due] at hSt
    repeat' (first | refine stepA ?_ | (refine stepS ?_; clear hSt; intro w hSt; dsimp only [spl, List.set] at hSt) | (refine stepB ?_; clear hSt; intro w nb hnb hSt; dsimp only [zcells, List.nil_append, List.cons_append] at hSt) | (refine stepG ?_ ?_ <;> intro hc <;> (try exact absA) <;> (fail_if_success (change true = true at hc)) <;> (fail_if_success (change false = false at hc))) | fail)
    refine WL_call (by kernel_rfl) rfl rfl rfl (hcr _ _ (hSt.at 0 rfl) _) ?_
    rintro v w' ⟨rfl, hc2⟩
    replace hSt := hSt.call1 (i := 0) rfl hc2
    dsimp only [List.set, Med.obj, Med.cells, Med.due] at hSt
    repeat' (first | refine stepA ?_ | (refine stepS ?_; clear hSt; intro w hSt; dsimp only [spl, List.set] at hSt) | (refine stepB ?_; clear hSt; intro w nb hnb hSt; dsimp only [zcells, List.nil_append, List.cons_append] at hSt) | (refine stepG ?_ ?_ <;> intro hc <;> (try exact absA) <;> (fail_if_success (change true = true at hc)) <;> (fail_if_success (change false = false at hc))) | fail)
    exact ret1 rfl rfl ⟨rfl, hSt⟩
  · rw [show Med.sync _ = (0, { (⟨size, dur, s, false, steps, keep⟩ : Med).due with dur := s.length }) by simp [Med.sync, hs]]
    refine enter Tryz.func56 rfl Tryz.ntmps56 rfl ?_
    repeat' (first | refine stepA ?_ | (refine stepS ?_; clear hSt; intro w hSt; dsimp only [spl, List.set] at hSt) | (refine stepB ?_; clear hSt; intro w nb hnb hSt; dsimp only [zcells, List.nil_append, List.cons_append] at hSt) | (refine stepG ?_ ?_ <;> intro hc <;> (try exact absA) <;> (fail_if_success (change true = true at hc)) <;> (fail_if_success (change false = false at hc))) | fail)
    refine WL_call (by kernel_rfl) rfl rfl rfl (hdue _ _ (hSt.at 0 rfl)) ?_
    rintro v w' ⟨rfl, hc2⟩
    replace hSt := hSt.call1 (i := 0) rfl hc2
    dsimp only [List.set, Med.obj, Med.cells, Med.due] at hSt
    repeat' (first | refine stepA ?_ | (refine stepS ?_; clear hSt; intro w hSt; dsimp only [spl, List.set] at hSt) | (refine stepB ?_; clear hSt; intro w nb hnb hSt; dsimp only [zcells, List.nil_append, List.cons_append] at hSt) | (refine stepG ?_ ?_ <;> intro hc <;> (try exact absA) <;> (fail_if_success (change true = true at hc)) <;> (fail_if_success (change false = false at hc))) | fail)
    exact ret1 rfl rfl ⟨rfl, hSt⟩

theorem read_any {w : World} {b : Nat} {m : Med} (hb : w.heap[b]? = some m.obj) (hm : m.Ok) :
    Cl Tryz.prog 53 [Ptr b] w (fun v w' => v = .tuple ⟨[S m.read.1, I m.read.2]⟩ ∧ St w (· = b) [(b, m.obj)] w') := by
  have hSt := (St.refl w (· = b)).know hb (Or.inl rfl) (by simp)
  dsimp only [List.nil_append, List.cons_append] at hSt
  have h0 := hm.d0; have h1 := hm.d; have h2 := hm.s; have h3 := hm.z
  obtain ⟨size, dur, s, down, steps, keep⟩ := m
  dsimp only [Med.obj, Med.cells] at h0 h1 h2 h3 hSt
  cases down
  case true =>
    refine enter Tryz.func53 rfl Tryz.ntmps53 rfl ?_
    repeat' (first | refine stepA ?_ | (refine stepS ?_; clear hSt; intro w hSt; dsimp only [spl, List.set] at hSt) | (refine stepB ?_; clear hSt; intro w nb hnb hSt; dsimp only [zcells, List.nil_append, List.cons_append] at hSt) | (refine stepG ?_ ?_ <;> intro hc <;> (try exact absA) <;> (fail_if_success (change true = true at hc)) <;> (fail_if_success (change false = false at hc))) | fail)
    exact ret2 rfl rfl rfl ⟨rfl, hSt⟩
  case false =>
    refine enter Tryz.func53 rfl Tryz.ntmps53 rfl ?_
    repeat' (first | refine stepA ?_ | (refine stepS ?_; clear hSt; intro w hSt; dsimp only [spl, List.set] at hSt) | (refine stepB ?_; clear hSt; intro w nb hnb hSt; dsimp only [zcells, List.nil_append, List.cons_append] at hSt) | (refine stepG ?_ ?_ <;> intro hc <;> (try exact absA) <;> (fail_if_success (change true = true at hc)) <;> (fail_if_success (change false = false at hc))) | fail)
    exact ret2 rfl rfl rfl ⟨rfl, hSt⟩

theorem truncate_any {w : World} {b : Nat} {m : Med} (hb : w.heap[b]? = some m.obj) (hm : m.Ok) (n : Int) :
    Cl Tryz.prog 55 [Ptr b, I n] w (fun v w' => v = I (m.truncate n).1 ∧ St w (· = b) [(b, (m.truncate n).2.obj)] w') := by
  have hSt := (St.refl w (· = b)).know hb (Or.inl rfl) (by simp)
  dsimp only [List.nil_append, List.cons_append] at hSt
  have h0 := hm.d0; have h1 := hm.d; have h2 := hm.s; have h3 := hm.z
  obtain ⟨size, dur, s, down, steps, keep⟩ := m
  dsimp only [Med.obj, Med.cells] at h0 h1 h2 h3 hSt
  cases down
  case true =>
    refine enter Tryz.func55 rfl Tryz.ntmps55 rfl ?_
    repeat' (first | refine stepA ?_ | (refine stepS ?_; clear hSt; intro w hSt; dsimp only [spl, List.set] at hSt) | (refine stepB ?_; clear hSt; intro w nb hnb hSt; dsimp only [zcells, List.nil_append, List.cons_append] at hSt) | (refine stepG ?_ ?_ <;> intro hc <;> (try exact absA) <;> (fail_if_success (change true = true at hc)) <;> (fail_if_success (change false = false at hc))) | fail)
    exact ret1 rfl rfl ⟨rfl, hSt⟩
  by_cases hn : n < 0 ∨ s.length < n
  · rw [show Med.truncate _ n = (4, ⟨size, dur, s, false, steps, keep⟩) by simp [Med.truncate, hn]]
    refine enter Tryz.func55 rfl Tryz.ntmps55 rfl ?_
    repeat' (first | refine stepA ?_ | (refine stepS ?_; clear hSt; intro w hSt; dsimp only [spl, List.set] at hSt) | (refine stepB ?_; clear hSt; intro w nb hnb hSt; dsimp only [zcells, List.nil_append, List.cons_append] at hSt) | (refine stepG ?_ ?_ <;> intro hc <;> (try exact absA) <;> (fail_if_success (change true = true at hc)) <;> (fail_if_success (change false = false at hc))) | fail)
    all_goals exact ret1 rfl rfl ⟨rfl, hSt⟩
  have hdue := fun w b h => due_any (w := w) (b := b) h hm
  have hcr := fun w b h k => crash_any (w := w) (b := b) h hm.due k
  dsimp only at hdue
  by_cases hs : steps = 1
  · rw [show Med.truncate _ n = (16, (⟨size, dur, s, false, steps, keep⟩ : Med).crash keep) by simp [Med.truncate, hn, hs]]
    refine enter Tryz.func55 rfl Tryz.ntmps55 rfl ?_
    repeat' (first | refine stepA ?_ | (refine stepS ?_; clear hSt; intro w hSt; dsimp only [spl, List.set] at hSt) | (refine stepB ?_; clear hSt; intro w nb hnb hSt; dsimp only [zcells, List.nil_append, List.cons_append] at hSt) | (refine stepG ?_ ?_ <;> intro hc <;> (try exact absA) <;> (fail_if_success (change true = true at hc)) <;> (fail_if_success (change false = false at hc))) | fail)
    refine WL_call (by kernel_rfl) rfl rfl rfl (hdue _ _ (hSt.at 0 rfl)) ?_
    rintro v w' ⟨rfl, hc2⟩
    replace hSt := hSt.call1 (i := 0) rfl hc2
    dsimp only [List.set, Med.obj, Med.cells, Med.due] at hSt
    repeat' (first | refine stepA ?_ | (refine stepS ?_; clear hSt; intro w hSt; dsimp only [spl, List.set] at hSt) | (refine stepB ?_; clear hSt; intro w nb hnb hSt; dsimp only [zcells, List.nil_append, List.cons_append] at hSt) | (refine stepG ?_ ?_ <;> intro hc <;> (try exact absA) <;> (fail_if_success (change true = true at hc)) <;> (fail_if_success (change false = false at hc))) | fail)
    refine WL_call (by kernel_rfl) rfl rfl rfl (hcr _ _ (hSt.at 0 rfl) _) ?_
    rintro v w' ⟨rfl, hc2⟩
    replace hSt := hSt.call1 (i := 0) rfl hc2
    dsimp only [List.set, Med.obj, Med.cells, Med.due] at hSt
    repeat' (first | refine stepA ?_ | (refine stepS ?_; clear hSt; intro w hSt; dsimp only [spl, List.set] at hSt) | (refine stepB ?_; clear hSt; intro w nb hnb hSt; dsimp only [zcells, List.nil_append, List.cons_append] at hSt) | (refine stepG ?_ ?_ <;> intro hc <;> (try exact absA) <;> (fail_if_success (change true = true at hc)) <;> (fail_if_success (change false = false at hc))) | fail)
    exact ret1 rfl rfl ⟨rfl, hSt⟩
  · rw [show Med.truncate _ n = (0, { (⟨size, dur, s, false, steps, keep⟩ : Med).due with s := s.take n.toNat, dur := min dur n }) by simp [Med.truncate, hn, hs]]
    refine enter Tryz.func55 rfl Tryz.ntmps55 rfl ?_
    repeat' (first | refine stepA ?_ | (refine stepS ?_; clear hSt; intro w hSt; dsimp only [spl, List.set] at hSt) | (refine stepB ?_; clear hSt; intro w nb hnb hSt; dsimp only [zcells, List.nil_append, List.cons_append] at hSt) | (refine stepG ?_ ?_ <;> intro hc <;> (try exact absA) <;> (fail_if_success (change true = true at hc)) <;> (fail_if_success (change false = false at hc))) | fail)
    refine WL_call (by kernel_rfl) rfl rfl rfl (hdue _ _ (hSt.at 0 rfl)) ?_
    rintro v w' ⟨rfl, hc2⟩
    replace hSt := hSt.call1 (i := 0) rfl hc2
    dsimp only [List.set, Med.obj, Med.cells, Med.due] at hSt
    repeat' (first | refine stepA ?_ | (refine stepS ?_; clear hSt; intro w hSt; dsimp only [spl, List.set] at hSt) | (refine stepB ?_; clear hSt; intro w nb hnb hSt; dsimp only [zcells, List.nil_append, List.cons_append] at hSt) | (refine stepG ?_ ?_ <;> intro hc <;> (try exact absA) <;> (fail_if_success (change true = true at hc)) <;> (fail_if_success (change false = false at hc))) | fail)
    exact ret1 rfl rfl ⟨rfl, hSt⟩

theorem arm_any {w : World} {b : Nat} {m : Med} (hb : w.heap[b]? = some m.obj) (hm : m.Ok) (a k : Int) :
    Cl Tryz.prog 38 [Ptr b, I a, I k] w (fun v w' => v = I (m.arm a k).1 ∧ St w (· = b) [(b, (m.arm a k).2.obj)] w') := by
  have hSt := (St.refl w (· = b)).know hb (Or.inl rfl) (by simp)
  dsimp only [List.nil_append, List.cons_append] at hSt
  have h0 := hm.d0; have h1 := hm.d; have h2 := hm.s; have h3 := hm.z
  obtain ⟨size, dur, s, down, steps, keep⟩ := m
  dsimp only [Med.obj, Med.cells] at h0 h1 h2 h3 hSt
  cases down
  case true =>
    refine enter Tryz.func38 rfl Tryz.ntmps38 rfl ?_
    repeat' (first | refine stepA ?_ | (refine stepS ?_; clear hSt; intro w hSt; dsimp only [spl, List.set] at hSt) | (refine stepB ?_; clear hSt; intro w nb hnb hSt; dsimp only [zcells, List.nil_append, List.cons_append] at hSt) | (refine stepG ?_ ?_ <;> intro hc <;> (try exact absA) <;> (fail_if_success (change true = true at hc)) <;> (fail_if_success (change false = false at hc))) | fail)
    exact ret1 rfl rfl ⟨rfl, hSt⟩
  by_cases hn : a < 0 ∨ k < 0
  · rw [show Med.arm _ a k = (4, ⟨size, dur, s, false, steps, keep⟩) by simp [Med.arm, hn]]
    refine enter Tryz.func38 rfl Tryz.ntmps38 rfl ?_
    repeat' (first | refine stepA ?_ | (refine stepS ?_; clear hSt; intro w hSt; dsimp only [spl, List.set] at hSt) | (refine stepB ?_; clear hSt; intro w nb hnb hSt; dsimp only [zcells, List.nil_append, List.cons_append] at hSt) | (refine stepG ?_ ?_ <;> intro hc <;> (try exact absA) <;> (fail_if_success (change true = true at hc)) <;> (fail_if_success (change false = false at hc))) | fail)
    all_goals exact ret1 rfl rfl ⟨rfl, hSt⟩
  · rw [show Med.arm _ a k = (0, ⟨size, dur, s, false, a, k⟩) by simp [Med.arm, hn]]
    refine enter Tryz.func38 rfl Tryz.ntmps38 rfl ?_
    repeat' (first | refine stepA ?_ | (refine stepS ?_; clear hSt; intro w hSt; dsimp only [spl, List.set] at hSt) | (refine stepB ?_; clear hSt; intro w nb hnb hSt; dsimp only [zcells, List.nil_append, List.cons_append] at hSt) | (refine stepG ?_ ?_ <;> intro hc <;> (try exact absA) <;> (fail_if_success (change true = true at hc)) <;> (fail_if_success (change false = false at hc))) | fail)
    exact ret1 rfl rfl ⟨rfl, hSt⟩

theorem crashOp_any {w : World} {b : Nat} {m : Med} (hb : w.heap[b]? = some m.obj) (hm : m.Ok) (k : Int) :
    Cl Tryz.prog 37 [Ptr b, I k] w (fun v w' => v = I (m.crashOp k).1 ∧ St w (· = b) [(b, (m.crashOp k).2.obj)] w') := by
  have hSt := (St.refl w (· = b)).know hb (Or.inl rfl) (by simp)
  dsimp only [List.nil_append, List.cons_append] at hSt
  have h0 := hm.d0; have h1 := hm.d; have h2 := hm.s; have h3 := hm.z
  obtain ⟨size, dur, s, down, steps, keep⟩ := m
  dsimp only [Med.obj, Med.cells] at h0 h1 h2 h3 hSt
  cases down
  case true =>
    refine enter Tryz.func37 rfl Tryz.ntmps37 rfl ?_
    repeat' (first | refine stepA ?_ | (refine stepS ?_; clear hSt; intro w hSt; dsimp only [spl, List.set] at hSt) | (refine stepB ?_; clear hSt; intro w nb hnb hSt; dsimp only [zcells, List.nil_append, List.cons_append] at hSt) | (refine stepG ?_ ?_ <;> intro hc <;> (try exact absA) <;> (fail_if_success (change true = true at hc)) <;> (fail_if_success (change false = false at hc))) | fail)
    exact ret1 rfl rfl ⟨rfl, hSt⟩
  have hcr := fun w b h k => crash_any (w := w) (b := b) h hm k
  refine enter Tryz.func37 rfl Tryz.ntmps37 rfl ?_
  repeat' (first | refine stepA ?_ | (refine stepS ?_; clear hSt; intro w hSt; dsimp only [spl, List.set] at hSt) | (refine stepB ?_; clear hSt; intro w nb hnb hSt; dsimp only [zcells, List.nil_append, List.cons_append] at hSt) | (refine stepG ?_ ?_ <;> intro hc <;> (try exact absA) <;> (fail_if_success (change true = true at hc)) <;> (fail_if_success (change false = false at hc))) | fail)
  refine WL_call (by kernel_rfl) rfl rfl rfl (hcr _ _ (hSt.at 0 rfl) _) ?_
  rintro v w' ⟨rfl, hc2⟩
  replace hSt := hSt.call1 (i := 0) rfl hc2
  dsimp only [List.set, Med.obj, Med.cells, Med.due] at hSt
  repeat' (first | refine stepA ?_ | (refine stepS ?_; clear hSt; intro w hSt; dsimp only [spl, List.set] at hSt) | (refine stepB ?_; clear hSt; intro w nb hnb hSt; dsimp only [zcells, List.nil_append, List.cons_append] at hSt) | (refine stepG ?_ ?_ <;> intro hc <;> (try exact absA) <;> (fail_if_success (change true = true at hc)) <;> (fail_if_success (change false = false at hc))) | fail)
  exact ret1 rfl rfl ⟨rfl, hSt⟩

theorem recover_any {w : World} {b : Nat} {m : Med} (hb : w.heap[b]? = some m.obj) (hm : m.Ok) :
    Cl Tryz.prog 66 [Ptr b] w (fun v w' => v = I m.recover.1 ∧ St w (· = b) [(b, m.recover.2.obj)] w') := by
  have hSt := (St.refl w (· = b)).know hb (Or.inl rfl) (by simp)
  dsimp only [List.nil_append, List.cons_append] at hSt
  have h0 := hm.d0; have h1 := hm.d; have h2 := hm.s; have h3 := hm.z
  obtain ⟨size, dur, s, down, steps, keep⟩ := m
  dsimp only [Med.obj, Med.cells] at h0 h1 h2 h3 hSt
  cases down
  case true =>
    refine enter Tryz.func66 rfl Tryz.ntmps66 rfl ?_
    repeat' (first | refine stepA ?_ | (refine stepS ?_; clear hSt; intro w hSt; dsimp only [spl, List.set] at hSt) | (refine stepB ?_; clear hSt; intro w nb hnb hSt; dsimp only [zcells, List.nil_append, List.cons_append] at hSt) | (refine stepG ?_ ?_ <;> intro hc <;> (try exact absA) <;> (fail_if_success (change true = true at hc)) <;> (fail_if_success (change false = false at hc))) | fail)
    exact ret1 rfl rfl ⟨rfl, hSt⟩
  case false =>
    refine enter Tryz.func66 rfl Tryz.ntmps66 rfl ?_
    repeat' (first | refine stepA ?_ | (refine stepS ?_; clear hSt; intro w hSt; dsimp only [spl, List.set] at hSt) | (refine stepB ?_; clear hSt; intro w nb hnb hSt; dsimp only [zcells, List.nil_append, List.cons_append] at hSt) | (refine stepG ?_ ?_ <;> intro hc <;> (try exact absA) <;> (fail_if_success (change true = true at hc)) <;> (fail_if_success (change false = false at hc))) | fail)
    exact ret1 rfl rfl ⟨rfl, hSt⟩

theorem new_bad {w : World} (size : Int) (h : size < 1 ∨ 262144 < size) : Cl Tryz.prog 6 [I size] w (fun v w' => v = .tuple ⟨[.pointer none, I 4]⟩ ∧ St w NoneS [] w') := by
  have hSt := St.refl w NoneS
  refine enter Tryz.func6 rfl Tryz.ntmps6 rfl ?_
  repeat' (first | refine stepA ?_ | (refine stepS ?_; clear hSt; intro w hSt; dsimp only [spl, List.set] at hSt) | (refine stepB ?_; clear hSt; intro w nb hnb hSt; dsimp only [zcells, List.nil_append, List.cons_append] at hSt) | (refine stepG ?_ ?_ <;> intro hc <;> (try exact absA) <;> (fail_if_success (change true = true at hc)) <;> (fail_if_success (change false = false at hc))) | fail)
  all_goals exact ret2 rfl rfl rfl ⟨rfl, hSt⟩
theorem new_good {w : World} (size : Int) (h1 : 1 ≤ size) (h2 : size ≤ 262144) : Cl Tryz.prog 6 [I size] w (fun v w' => ∃ b, v = .tuple ⟨[Ptr b, I 0]⟩ ∧ St w NoneS [(b, Med.obj ⟨size, 0, [], false, 0, 0⟩)] w') := by
  have hSt := St.refl w NoneS
  refine enter Tryz.func6 rfl Tryz.ntmps6 rfl ?_
  repeat' (first | refine stepA ?_ | (refine stepS ?_; clear hSt; intro w hSt; dsimp only [spl, List.set] at hSt) | (refine stepB ?_; clear hSt; intro w nb hnb hSt; dsimp only [zcells, List.nil_append, List.cons_append] at hSt) | (refine stepG ?_ ?_ <;> intro hc <;> (try exact absA) <;> (fail_if_success (change true = true at hc)) <;> (fail_if_success (change false = false at hc))) | fail)
  exact ret2 rfl rfl rfl ⟨_, rfl, hSt⟩

/-! A nil medium. -/
theorem nil_append {w : World} (x : List UInt8) : Cl Tryz.prog 87 [.pointer none, S x] w (fun v w' => v = I 6 ∧ St w NoneS [] w') := by
  have hSt := St.refl w NoneS
  refine enter Tryz.func87 rfl Tryz.ntmps87 rfl ?_
  repeat' (first | (refine W_tail 12 hT (by decide +kernel) hSt ?_; clear hSt; intro w hSt; simp only [List.take_succ_cons, List.take_zero]; (repeat' (first | (apply SL_ev rfl rfl; (first | exact Ev_auto)) | refine SL_pass rfl rfl ?_ | (refine SL_guardP rfl rfl (fun hc => ?_) (fun hc => ?_) <;> try exact absA) | (refine SL_guard rfl rfl (fun hc => ?_) (fun hc => ?_) <;> (try exact absA) <;> (fail_if_success (change true = true at hc)) <;> (fail_if_success (change false = false at hc))))); all_goals (refine SL_nil ?_; simp only [List.drop_succ_cons, List.drop_zero])) | refine stepA ?_ | (refine stepS ?_; clear hSt; intro w hSt; dsimp only [spl, List.set] at hSt) | (refine stepB ?_; clear hSt; intro w nb hnb hSt; dsimp only [zcells, List.nil_append, List.cons_append] at hSt) | (refine stepG ?_ ?_ <;> intro hc <;> (try exact absA) <;> (fail_if_success (change true = true at hc)) <;> (fail_if_success (change false = false at hc))) | fail)
  exact ret1 rfl rfl ⟨rfl, hSt⟩
theorem nil_sync {w : World} : Cl Tryz.prog 56 [.pointer none] w (fun v w' => v = I 6 ∧ St w NoneS [] w') := by
  have hSt := St.refl w NoneS
  refine enter Tryz.func56 rfl Tryz.ntmps56 rfl ?_
  repeat' (first | refine stepA ?_ | (refine stepS ?_; clear hSt; intro w hSt; dsimp only [spl, List.set] at hSt) | (refine stepB ?_; clear hSt; intro w nb hnb hSt; dsimp only [zcells, List.nil_append, List.cons_append] at hSt) | (refine stepG ?_ ?_ <;> intro hc <;> (try exact absA) <;> (fail_if_success (change true = true at hc)) <;> (fail_if_success (change false = false at hc))) | fail)
  exact ret1 rfl rfl ⟨rfl, hSt⟩
theorem nil_recover {w : World} : Cl Tryz.prog 66 [.pointer none] w (fun v w' => v = I 6 ∧ St w NoneS [] w') := by
  have hSt := St.refl w NoneS
  refine enter Tryz.func66 rfl Tryz.ntmps66 rfl ?_
  repeat' (first | refine stepA ?_ | (refine stepS ?_; clear hSt; intro w hSt; dsimp only [spl, List.set] at hSt) | (refine stepB ?_; clear hSt; intro w nb hnb hSt; dsimp only [zcells, List.nil_append, List.cons_append] at hSt) | (refine stepG ?_ ?_ <;> intro hc <;> (try exact absA) <;> (fail_if_success (change true = true at hc)) <;> (fail_if_success (change false = false at hc))) | fail)
  exact ret1 rfl rfl ⟨rfl, hSt⟩
end Go.Proofs.YthkimkgphaiagaaGreatDoor
