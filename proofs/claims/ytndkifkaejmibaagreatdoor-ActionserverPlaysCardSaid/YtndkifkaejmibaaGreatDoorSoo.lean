/- Action servers, in plain words: the feedback's number; what is final stays known. No conditions. -/
import Derived.Test.YtndkifkaejmibaaGreatDoorSwd

namespace Go.Proofs.YtndkifkaejmibaaGreatDoor
open Go.RowKit
set_option linter.unusedVariables false
set_option linter.unusedSimpArgs false

theorem endS_fb (s : Sv) (i : Nat) (st at_ : Int) (rs : List UInt8) : (endS s i st at_ rs).2.fb = s.fb := by
  unfold endS
  split
  · exact (recS_4 _ _).fb
  · exact (recS_4 _ _).fb
theorem endAll_fb : ∀ (l : List Nat) (s : Sv) (st at_ : Int) (rs : List UInt8), (endAll s l st at_ rs).2.fb = s.fb
  | [], s, st, at_, rs => rfl
  | k :: l, s, st, at_, rs => by
    unfold endAll
    split
    · exact endS_fb ..
    · rw [endAll_fb l]; exact endS_fb ..
theorem decideS_fb (s : Sv) (g : Gl) (ok : Bool) : (decideS s g ok).2.fb = s.fb := by
  unfold decideS
  split
  · exact (recS_4 _ _).fb
  · exact (recS_4 _ _).fb
theorem nextS_fb (s : Sv) : (nextS s).fb = s.fb ∨ (nextS s).fb = 0 := by
  unfold nextS
  split
  · exact .inl rfl
  split
  · exact .inl rfl
  · exact .inr rfl
theorem preemptS_fb (s : Sv) : (preemptS s).fb = s.fb := by unfold preemptS; split <;> rfl
theorem requestS_fb (s : Sv) (c n at_ : Int) (rq : List UInt8) : (requestS s c n at_ rq).2.2.fb = s.fb ∨ (requestS s c n at_ rq).2.2.fb = 0 := by
  unfold requestS
  split
  · exact .inl rfl
  split
  · exact .inl rfl
  split
  · exact .inl rfl
  split
  · exact .inl rfl
  split
  · exact .inl rfl
  split
  · exact .inl rfl
  have hk : (if s.pol = 2 then clearS s at_ else (0, s)).2.fb = s.fb := by
    split
    · exact endAll_fb ..
    · rfl
  generalize (if s.pol = 2 then clearS s at_ else (0, s)) = k at hk ⊢
  dsimp only
  split
  · exact .inl hk
  split
  · exact .inl ((decideS_fb ..).trans hk)
  · rcases nextS_fb (preemptS (decideS k.2 ⟨c, n, 0, at_, 0, rq, []⟩ (acceptsB s)).2) with h | h
    · exact .inl (h.trans ((preemptS_fb _).trans ((decideS_fb ..).trans hk)))
    · exact .inr h
theorem cancelS_fb (s : Sv) (c n at_ : Int) : (cancelS s c n at_).2.fb = s.fb := by
  unfold cancelS
  split
  · rfl
  split
  · rfl
  split
  · rfl
  split
  · rfl
  split
  · rfl
  split
  · rfl
  · exact endS_fb ..
theorem finishS_fb (s : Sv) (st at_ : Int) (rs : List UInt8) : (finishS s st at_ rs).2.fb = s.fb ∨ (finishS s st at_ rs).2.fb = 0 := by
  unfold finishS
  split
  · exact .inl rfl
  split
  · exact .inl rfl
  split
  · exact .inl rfl
  split
  · exact .inl rfl
  split
  · exact .inl rfl
  dsimp only
  generalize (if st = 5 ∧ (gAt s.l s.cur.toNat).st = 3 then (6 : Int) else st) = st'
  split
  · exact .inl (endS_fb ..)
  · rcases nextS_fb (endS s s.cur.toNat st' at_ rs).2 with h | h
    · exact .inl (h.trans (endS_fb ..))
    · exact .inr h
theorem perfS_fb {s : Sv} (h : 0 ≤ s.fb) (kd c d at_ : Int) (tx : List UInt8) : 0 ≤ (perfS s kd c d at_ tx).fb ∧ (perfS s kd c d at_ tx).fb ≤ s.fb + 1 := by
  unfold perfS
  split
  · rw [cancelS_fb]; omega
  split
  · unfold feedbackS
    split
    · exact ⟨h, Int.le_add_one (Int.le_refl _)⟩
    split
    · exact ⟨h, Int.le_add_one (Int.le_refl _)⟩
    split
    · exact ⟨h, Int.le_add_one (Int.le_refl _)⟩
    · exact ⟨by show 0 ≤ s.fb + 1; omega, Int.le_refl _⟩
  split
  · rcases finishS_fb s 4 at_ tx with e | e <;> rw [e] <;> omega
  split
  · rcases finishS_fb s 5 at_ tx with e | e <;> rw [e] <;> omega
  · rcases requestS_fb s c d at_ tx with e | e <;> rw [e] <;> omega
theorem replayAll_fb : ∀ (l : List (List UInt8)) (s t : Sv), replayAll s l = some t → t.fb = s.fb
  | [], s, t, h => by injection h with h; rw [← h]
  | x :: l, s, t, h => by
    rw [replayAll] at h
    cases hq : replayS s x with
    | none => rw [hq] at h; cases h
    | some u =>
      rw [hq] at h
      exact (replayAll_fb l u t h).trans (replayS_some hq).2.2.2.2.2.2.2.1
theorem openS_fb (pol lim : Int) (m : Med) : (openS pol lim m).2.fb = 0 := by
  unfold openS
  split
  · rfl
  split
  · rfl
  split
  · rfl
  · rename_i s hs
    rw [endAll_fb]
    exact replayAll_fb _ _ _ hs
theorem openS_mok {pol lim : Int} {m : Med} (hm : m.Ok) : (openS pol lim m).2.m.Ok := by
  have key : ∀ (l : List Nat) (s : Sv) (st at_ : Int) (rs : List UInt8), s.m.Ok → (endAll s l st at_ rs).2.m.Ok := by
    have one : ∀ (s : Sv) (x : List UInt8), s.m.Ok → (recS s x).2.m.Ok := by
      intro s x h
      have h1 := h.jApp s.j x
      have h2 := h1.jSyn (jAppend s.m s.j x).2.2
      unfold recS
      split
      · split
        · exact h2
        · exact h2
      · exact h1
    have two : ∀ (s : Sv) (i : Nat) (st at_ : Int) (rs : List UInt8), s.m.Ok → (endS s i st at_ rs).2.m.Ok := by
      intro s i st at_ rs h
      unfold endS
      split
      · exact one _ _ h
      · exact one _ _ h
    intro l
    induction l with
    | nil => intro s st at_ rs h; exact h
    | cons k l ih =>
      intro s st at_ rs h
      unfold endAll
      split
      · exact two _ _ _ _ _ h
      · exact ih _ _ _ _ (two _ _ _ _ _ h)
  have hall : ∀ (l : List (List UInt8)) (s t : Sv), replayAll s l = some t → t.m = s.m := by
    intro l
    induction l with
    | nil => intro s t h; injection h with h; rw [← h]
    | cons x l ih =>
      intro s t h
      rw [replayAll] at h
      cases hq : replayS s x with
      | none => rw [hq] at h; cases h
      | some u => rw [hq] at h; exact (ih u t h).trans (replayS_some hq).1
  have ho := jOpen_ok hm
  unfold openS
  split
  · exact hm
  split
  · exact ho
  split
  · exact ho
  · rename_i s hs
    refine key _ _ _ _ _ ?_
    rw [hall _ _ _ hs]; exact ho
theorem on_new {pol lim size : Int} (h : 1 ≤ size ∧ size ≤ 262144) : On ⟨pol, lim, [], [], -1, 0, false, newM size, ⟨[], 0, false⟩⟩ [] 0 0 :=
  ⟨⟨newM_ok h, ⟨0, rfl⟩, fun _ => ⟨rfl, rfl, rfl⟩, Nat.le_refl _, by show ((0 : Nat) : Int) ≤ 0; decide, fun x hx => by simp at hx, Nat.le_refl _, Nat.le_refl _⟩, ⟨_, rfl⟩, rfl, fun _ => rfl, GI.nil⟩
theorem On.svk {s : Sv} {L : List (List UInt8)} {safe i n : Nat} (h : On s L safe i) (hi : i + n ≤ 900000) : Svk s n := by
  have hl := h.gi.len
  have he := ends_count h.gi
  have hc := (cnt_le s.l s.l.length).2.2
  have hj := h.pre.jl
  dsimp only at hl he
  exact ⟨h.pre.ok, by omega, hl, by omega⟩
end Go.Proofs.YtndkifkaejmibaaGreatDoor
