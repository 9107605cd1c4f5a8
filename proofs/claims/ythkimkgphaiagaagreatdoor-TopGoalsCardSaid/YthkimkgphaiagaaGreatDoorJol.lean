/- Journals, in plain words: what stays true of a journal, its medium, and what was appended, whatever is done. No conditions. -/
import Derived.Test.YthkimkgphaiagaaGreatDoorMI

namespace Go.Proofs.YthkimkgphaiagaaGreatDoor
open Go.RowKit
set_option linter.unusedVariables false
set_option linter.unusedSimpArgs false
set_option maxHeartbeats 1000000

theorem framesF_mono (l : List (List UInt8)) (p : Nat) {a b : Nat} (h : a ≤ b) : (framesF p (l.take a)).length ≤ (framesF p (l.take b)).length := by
  have e : l.take b = l.take a ++ (l.take b).drop a := by
    have h1 := (List.take_append_drop a (l.take b)).symm
    rw [List.take_take, Nat.min_eq_left h] at h1
    exact h1
  rw [e, framesF_append, List.length_append]; omega
/-- L was appended, of which safe records are durable; at most i records -/
structure Pre (m : Med) (j : Jr) (L : List (List UInt8)) (safe i : Nat) : Prop where
  ok : m.Ok
  pre : ∃ n, m.s = (framesF 0 L).take n
  up : m.down = false → j.stop = false ∧ m.s = framesF 0 L ∧ j.l = L
  sl : safe ≤ L.length
  dur : ((framesF 0 (L.take safe)).length : Int) ≤ m.dur
  small : ∀ x ∈ L, x.length ≤ 4000
  ll : L.length ≤ i
  jl : j.l.length ≤ i

section
variable {m m2 : Med} {j j2 : Jr} {L : List (List UInt8)} {safe i : Nat} {x : List UInt8} {e : Int}
theorem Pre.later (h : Pre m j L safe i) {i2 : Nat} (hi : i ≤ i2) : Pre m j L safe i2 := ⟨h.ok, h.pre, h.up, h.sl, h.dur, h.small, Nat.le_trans h.ll hi, Nat.le_trans h.jl hi⟩
/-- a journal whose medium is down may be any -/
theorem Pre.downJ (h : Pre m j L safe i) (hd : m.down = true) (hj : j2.l.length ≤ i) : Pre m j2 L safe i := ⟨h.ok, h.pre, fun h0 => (by rw [hd] at h0; cases h0), h.sl, h.dur, h.small, h.ll, hj⟩
theorem Pre.crash (h : Pre m j L safe i) (k : Int) : Pre (m.crash k) j L safe i := by
  have hb := Med.cut_bd h.ok k
  refine ⟨h.ok.crash k, ?_, fun h0 => (by cases h0), h.sl, ?_, h.small, h.ll, h.jl⟩
  · obtain ⟨n, hn⟩ := h.pre
    exact ⟨min (m.cut k).toNat n, by show m.s.take _ = _; rw [hn, List.take_take]⟩
  · have := h.dur
    show _ ≤ m.cut k
    omega
theorem Pre.stop_down (h : Pre m j L safe i) (hs : j.stop = true) : m.down = true := by
  cases hd : m.down with
  | true => rfl
  | false => have := (h.up hd).1; rw [hs] at this; cases this
theorem Pre.app (h : Pre m j L safe i) (hx : x.length ≤ 4000) (hr : jAppend m j x = (e, m2, j2)) :
    ((e = 0 ∨ (e = 16 ∧ m.down = false ∧ m2.down = true)) → Pre m2 j2 (L ++ [x]) safe (i + 1)) ∧ (¬ (e = 0 ∨ (e = 16 ∧ m.down = false ∧ m2.down = true)) → Pre m2 j2 L safe (i + 1)) := by
  unfold jAppend at hr
  by_cases hs : j.stop = true
  · have hd := h.stop_down hs
    rw [if_pos hs] at hr
    simp only [Prod.mk.injEq] at hr
    obtain ⟨rfl, rfl, rfl⟩ := hr
    refine ⟨?_, fun _ => h.later (Nat.le_succ _)⟩
    rintro (h0 | ⟨_, h0, _⟩)
    · cases h0
    · rw [hd] at h0; cases h0
  · rw [if_neg hs, if_neg (by omega)] at hr
    by_cases hd : m.down = true
    · have ha : ∀ F, m.append F = (16, m) := fun F => by unfold Med.append; rw [if_pos hd]
      rw [ha, if_neg (by simp), if_neg (by simp)] at hr
      simp only [Prod.mk.injEq] at hr
      obtain ⟨rfl, rfl, rfl⟩ := hr
      refine ⟨?_, fun _ => (h.downJ (j2 := { j with stop := true }) hd h.jl).later (Nat.le_succ _)⟩
      rintro (h0 | ⟨_, h0, _⟩)
      · cases h0
      · rw [hd] at h0; cases h0
    · have hdf : m.down = false := by cases hq : m.down <;> simp_all
      obtain ⟨u1, u2, u3⟩ := h.up hdf
      have hF : framesF 0 (L ++ [x]) = framesF 0 L ++ frameF (headF 0 j.l) x := by
        rw [framesF_append, u3, framesF, framesF, List.append_nil]
      have htk : (L ++ [x]).take safe = L.take safe := List.take_append_of_le_length h.sl
      have hsm : ∀ y ∈ L ++ [x], y.length ≤ 4000 := by
        intro y hy
        rcases List.mem_append.1 hy with hy | hy
        · exact h.small y hy
        · rw [List.mem_singleton.1 hy]; exact hx
      generalize frameF (headF 0 j.l) x = F at hr hF
      have hok := h.ok.append F
      unfold Med.append at hr hok
      rw [if_neg hd] at hr hok
      by_cases hf : m.size - (m.s.length : Int) < (F.length : Int)
      · rw [if_pos hf] at hr
        rw [if_neg (by simp), if_pos rfl] at hr
        simp only [Prod.mk.injEq] at hr
        obtain ⟨rfl, rfl, rfl⟩ := hr
        refine ⟨?_, fun _ => h.later (Nat.le_succ _)⟩
        rintro (h0 | ⟨h0, _⟩) <;> cases h0
      · rw [if_neg hf] at hr hok
        have hb : Pre ({ m with s := m.s ++ F } : Med) { j with l := j.l ++ [x] } (L ++ [x]) safe (i + 1) := by
          refine ⟨h.ok.app hf, ⟨(m.s ++ F).length, ?_⟩, fun _ => ⟨u1, ?_, ?_⟩, ?_, ?_, hsm, ?_, ?_⟩
          · rw [hF, ← u2, List.take_length]
          · rw [hF, ← u2]
          · rw [u3]
          · rw [List.length_append]; have := h.sl; omega
          · rw [htk]; exact h.dur
          · rw [List.length_append, List.length_singleton]; have := h.ll; omega
          · show (j.l ++ [x]).length ≤ i + 1
            rw [List.length_append, List.length_singleton]; have := h.jl; omega
        by_cases hst : m.steps = 1
        · rw [if_pos hst] at hr
          rw [if_neg (by simp), if_neg (by simp)] at hr
          simp only [Prod.mk.injEq] at hr
          obtain ⟨rfl, rfl, rfl⟩ := hr
          refine ⟨fun _ => (hb.crash m.keep).downJ rfl (Nat.le_succ_of_le h.jl), fun hn => absurd (.inr ⟨rfl, hdf, rfl⟩) hn⟩
        · rw [if_neg hst] at hr
          rw [if_pos rfl] at hr
          simp only [Prod.mk.injEq] at hr
          obtain ⟨rfl, rfl, rfl⟩ := hr
          exact ⟨fun _ => ⟨hb.ok.due, hb.pre, hb.up, hb.sl, hb.dur, hb.small, hb.ll, hb.jl⟩, fun hn => absurd (.inl rfl) hn⟩
/-- what is too long is refused -/
theorem Pre.long (h : Pre m j L safe i) (hx : 4000 < x.length) (hr : jAppend m j x = (e, m2, j2)) : ¬ (e = 0 ∨ (e = 16 ∧ m.down = false ∧ m2.down = true)) ∧ Pre m2 j2 L safe (i + 1) := by
  unfold jAppend at hr
  by_cases hs : j.stop = true
  · have hd := h.stop_down hs
    rw [if_pos hs] at hr
    simp only [Prod.mk.injEq] at hr
    obtain ⟨rfl, rfl, rfl⟩ := hr
    refine ⟨?_, h.later (Nat.le_succ _)⟩
    rintro (h0 | ⟨_, h0, _⟩)
    · cases h0
    · rw [hd] at h0; cases h0
  · rw [if_neg hs, if_pos hx] at hr
    simp only [Prod.mk.injEq] at hr
    obtain ⟨rfl, rfl, rfl⟩ := hr
    refine ⟨?_, h.later (Nat.le_succ _)⟩
    rintro (h0 | ⟨h0, _⟩) <;> cases h0
theorem Pre.appAll (h : Pre m j L safe i) (hr : jAppend m j x = (e, m2, j2)) :
    ((e = 0 ∨ (e = 16 ∧ m.down = false ∧ m2.down = true)) → Pre m2 j2 (L ++ [x]) safe (i + 1)) ∧ (¬ (e = 0 ∨ (e = 16 ∧ m.down = false ∧ m2.down = true)) → Pre m2 j2 L safe (i + 1)) := by
  by_cases hx : 4000 < x.length
  · have := h.long hx hr
    exact ⟨fun h0 => absurd h0 this.1, fun _ => this.2⟩
  · exact h.app (by omega) hr
theorem Pre.sync (h : Pre m j L safe i) (hr : jSync m j = (e, m2, j2)) : (e = 0 → Pre m2 j2 L L.length (i + 1)) ∧ (e ≠ 0 → Pre m2 j2 L safe (i + 1)) := by
  unfold jSync at hr
  by_cases hs : j.stop = true
  · rw [if_pos hs] at hr
    simp only [Prod.mk.injEq] at hr
    obtain ⟨rfl, rfl, rfl⟩ := hr
    exact ⟨fun h0 => (by cases h0), fun _ => h.later (Nat.le_succ _)⟩
  · rw [if_neg hs] at hr
    unfold Med.sync at hr
    by_cases hd : m.down = true
    · rw [if_pos hd, if_neg (by simp)] at hr
      simp only [Prod.mk.injEq] at hr
      obtain ⟨rfl, rfl, rfl⟩ := hr
      exact ⟨fun h0 => (by cases h0), fun _ => (h.downJ (j2 := { j with stop := true }) hd h.jl).later (Nat.le_succ _)⟩
    · rw [if_neg hd] at hr
      have hdf : m.down = false := by cases hq : m.down <;> simp_all
      obtain ⟨u1, u2, u3⟩ := h.up hdf
      by_cases hst : m.steps = 1
      · rw [if_pos hst, if_neg (by simp)] at hr
        simp only [Prod.mk.injEq] at hr
        obtain ⟨rfl, rfl, rfl⟩ := hr
        exact ⟨fun h0 => (by cases h0), fun _ => ((h.crash m.keep).downJ (j2 := { j with stop := true }) rfl h.jl).later (Nat.le_succ _)⟩
      · rw [if_neg hst, if_pos rfl] at hr
        simp only [Prod.mk.injEq] at hr
        obtain ⟨rfl, rfl, rfl⟩ := hr
        have hok := h.ok.sync
        unfold Med.sync at hok
        rw [if_neg hd, if_neg hst] at hok
        refine ⟨fun _ => ⟨hok, h.pre, fun _ => ⟨u1, u2, u3⟩, Nat.le_refl _, ?_, h.small, Nat.le_succ_of_le h.ll, Nat.le_succ_of_le h.jl⟩, fun h0 => absurd rfl h0⟩
        rw [List.take_length, ← u2]; exact Int.le_refl _
theorem Pre.crashOp (h : Pre m j L safe i) (k : Int) : Pre (m.crashOp k).2 j L safe (i + 1) := by
  unfold Med.crashOp
  split
  · exact h.later (Nat.le_succ _)
  · exact (h.crash k).later (Nat.le_succ _)
theorem Pre.arm (h : Pre m j L safe i) (a k : Int) (ha : a ≤ 9223372036854775807) : Pre (m.arm a k).2 j L safe (i + 1) := by
  have hok := h.ok.arm k ha
  unfold Med.arm at hok ⊢
  split
  · exact h.later (Nat.le_succ _)
  · split
    · exact h.later (Nat.le_succ _)
    · rename_i h1 h2
      rw [if_neg h1, if_neg h2] at hok
      exact ⟨hok, h.pre, h.up, h.sl, h.dur, h.small, Nat.le_succ_of_le h.ll, Nat.le_succ_of_le h.jl⟩
/-- the medium is brought back, and the journal opened again -/
theorem Pre.reopen (h : Pre m j L safe i) (hr : jOpen m.recover.2 = (e, m2, j2)) :
    (e ≠ 0 → Pre m2 j L safe (i + 1)) ∧ (e = 0 → ∃ k, safe ≤ k ∧ k ≤ L.length ∧ j2 = ⟨L.take k, k, false⟩ ∧ Pre m2 j2 (L.take k) k (i + 1)) := by
  obtain ⟨m1, hm1⟩ : ∃ m1, m1 = m.recover.2 := ⟨_, rfl⟩
  have hok1 : m1.Ok := hm1 ▸ h.ok.recover
  have hd1 : m1.down = false := by
    rw [hm1]; unfold Med.recover; split
    · rfl
    · rename_i hq; cases hq2 : m.down <;> simp_all
  have hs1 : m1.s = m.s := by rw [hm1]; unfold Med.recover; split <;> rfl
  have hu1 : m1.dur = m.dur := by rw [hm1]; unfold Med.recover; split <;> rfl
  rw [← hm1] at hr
  obtain ⟨n, hn⟩ := h.pre
  obtain ⟨k, c1, c2, c3, c4, c5⟩ := cut_frames L 0 n h.small
  have hv : verF m1.s = (L.take k, (framesF 0 (L.take k)).length, headF 0 (L.take k)) := by
    rw [hs1, hn, c4]
    exact verF_frames _ _ (fun x hx => h.small x (List.mem_of_mem_take hx)) c5
  have hwl : (framesF 0 (L.take k)).length ≤ m1.s.length := by
    rw [hs1, hn, c4, List.length_append]; omega
  have htw : m1.s.take (framesF 0 (L.take k)).length = framesF 0 (L.take k) := by
    rw [hs1, hn, c4, List.take_left' rfl]
  have hsl : m.s.length ≤ n := by rw [hn, List.length_take]; omega
  have hsk : safe ≤ k := by
    rcases Nat.lt_or_ge k safe with hlt | hge
    · have h1 := c3 (Nat.lt_of_lt_of_le hlt h.sl)
      have h2 := framesF_mono L 0 (show k + 1 ≤ safe by omega)
      have h3 := h.dur
      have h4 := h.ok.d
      omega
    · exact hge
  have hfs := framesF_mono L 0 hsk
  have hsmk : ∀ x ∈ L.take k, x.length ≤ 4000 := fun x hx => h.small x (List.mem_of_mem_take hx)
  have hkl : (L.take k).length = k := by rw [List.length_take, Nat.min_eq_left c1]
  have hpre1 : ∀ c : Nat, ∃ n2, m1.s.take c = (framesF 0 L).take n2 := fun c => ⟨min c n, by rw [hs1, hn, List.take_take]⟩
  -- what lies behind the trim
  have htrim : (jTrim m1).1 ≠ 0 ∧ Pre (jTrim m1).2 j L safe (i + 1) ∨ (jTrim m1).1 = 0 ∧ (jTrim m1).2.Ok ∧ (jTrim m1).2.down = false ∧ (jTrim m1).2.s = framesF 0 (L.take k) ∧ ((framesF 0 (L.take safe)).length : Int) ≤ (jTrim m1).2.dur := by
    have hok2 := hok1.trim
    unfold jTrim at hok2 ⊢
    rw [hv] at hok2 ⊢
    dsimp only at hok2 ⊢
    by_cases hw : (framesF 0 (L.take k)).length < m1.s.length
    · rw [if_pos hw] at hok2 ⊢
      have hb := Med.cut_bd hok1 m1.keep
      have hdd := h.dur
      unfold Med.truncate at hok2 ⊢
      rw [if_neg (by rw [hd1]; simp), if_neg (by omega)] at hok2 ⊢
      by_cases hst : m1.steps = 1
      · rw [if_pos hst] at hok2 ⊢
        left
        refine ⟨by simp, hok2, hpre1 _, fun h0 => (by cases h0), h.sl, ?_, h.small, Nat.le_succ_of_le h.ll, Nat.le_succ_of_le h.jl⟩
        show _ ≤ m1.cut m1.keep
        omega
      · rw [if_neg hst] at hok2 ⊢
        right
        refine ⟨rfl, hok2, hd1, ?_, ?_⟩
        · show m1.s.take ((framesF 0 (L.take k)).length : Int).toNat = _
          rw [Int.toNat_natCast, htw]
        · show _ ≤ min m1.dur ((framesF 0 (L.take k)).length : Int)
          omega
    · rw [if_neg hw] at hok2 ⊢
      right
      refine ⟨rfl, hok1, hd1, ?_, by have := h.dur; show _ ≤ m1.dur; omega⟩
      have he : (framesF 0 (L.take k)).length = m1.s.length := by omega
      rw [he, List.take_length] at htw
      exact htw
  unfold jOpen at hr
  rw [if_neg (by rw [hd1]; simp)] at hr
  rcases htrim with ⟨t1, t2⟩ | ⟨t1, t2, t3, t4, t5⟩
  · rw [if_pos t1] at hr
    simp only [Prod.mk.injEq] at hr
    obtain ⟨rfl, rfl, rfl⟩ := hr
    exact ⟨fun _ => t2, fun h0 => absurd h0 t1⟩
  · rw [if_neg (by rw [t1]; simp), hv] at hr
    dsimp only at hr
    generalize (jTrim m1).2 = m3 at hr t2 t3 t4 t5
    have hb := Med.cut_bd t2 m3.keep
    have hok3 := t2.sync
    unfold Med.sync at hr hok3
    rw [if_neg (by rw [t3]; simp)] at hr hok3
    by_cases hst : m3.steps = 1
    · rw [if_pos hst] at hr hok3
      simp only [Prod.mk.injEq] at hr
      obtain ⟨rfl, rfl, rfl⟩ := hr
      refine ⟨fun _ => ⟨hok3, ?_, fun h0 => (by cases h0), h.sl, ?_, h.small, Nat.le_succ_of_le h.ll, Nat.le_succ_of_le h.jl⟩, fun h0 => (by cases h0)⟩
      · show ∃ n2, m3.s.take _ = _
        rw [t4]
        have hpf : framesF 0 (L.take k) = (framesF 0 L).take (framesF 0 (L.take k)).length := by
          have e := (List.take_append_drop k L).symm
          have e2 : framesF 0 L = framesF 0 (L.take k) ++ framesF (headF 0 (L.take k)) (L.drop k) := by rw [← framesF_append, List.take_append_drop]
          rw [e2, List.take_left' rfl]
        exact ⟨min (m3.cut m3.keep).toNat (framesF 0 (L.take k)).length, by rw [← List.take_take, ← hpf]⟩
      · show _ ≤ m3.cut m3.keep
        omega
    · rw [if_neg hst] at hr hok3
      simp only [Prod.mk.injEq] at hr
      obtain ⟨rfl, rfl, rfl⟩ := hr
      refine ⟨fun h0 => absurd rfl h0, fun _ => ⟨k, hsk, c1, by rw [hkl], hok3, ⟨(framesF 0 (L.take k)).length, ?_⟩, fun _ => ⟨rfl, t4, rfl⟩, by rw [hkl]; exact Nat.le_refl _, ?_, hsmk, ?_, ?_⟩⟩
      · rw [List.take_length]; exact t4
      · rw [List.take_take, Nat.min_self, ← t4]; exact Int.le_refl _
      · rw [hkl]; have := h.ll; omega
      · show (L.take k).length ≤ i + 1
        rw [hkl]; have := h.ll; omega
end
end Go.Proofs.YthkimkgphaiagaaGreatDoor
