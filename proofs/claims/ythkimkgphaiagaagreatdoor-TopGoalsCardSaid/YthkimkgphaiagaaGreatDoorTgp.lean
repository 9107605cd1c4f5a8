/- The stage, in plain words: a step keeps what is known. No conditions. -/
import Derived.Test.YthkimkgphaiagaaGreatDoorNE

namespace Go.Proofs.YthkimkgphaiagaaGreatDoor
open Go.RowKit
set_option linter.unusedVariables false
set_option linter.unusedSimpArgs false

/-- nothing crashes while messages are delivered, or in a step -/
def calmAll (pol nu pB at_ : Int) : Nat → List Ms → Sv × List Ce → Prop
  | _, [], x => True
  | q, m :: ms, x => if hitB pB q = true then ((delS1 x.1 x.2 nu m.1 m.2.2.1 m.2.2.2 at_).1.m.down = false ∧ ∀ y, delS pol x.1 x.2 nu m.1 m.2.2.1 m.2.2.2 at_ = some y → calmAll pol nu pB at_ (q + 1) ms y) else calmAll pol nu pB at_ (q + 1) ms x
def calmP1 (pol at_ nu retry : Int) (s : Sv) (gs : List Ce) (kd pB : Int) : Prop := kd = 2 → calmAll pol nu pB at_ 0 (pollL nu at_ 1 gs) (s, pollA retry at_ gs.length gs)
def calmP (pol at_ nu retry : Int) (s : Sv) (gs : List Ce) (kd pA pB : Int) : Prop := calmP1 pol at_ nu retry s gs kd pB ∧ ∀ x, playS1 pol at_ nu retry s gs kd pA pB = some x → x.1.m.down = false
section
variable {s t s1 : Sv} {nu : Int} {gs hs gs1 : List Ce} {told : List Gl} {pol n kd at_ pA pB retry : Int} {tx : List UInt8}
theorem playS_some (h : playS1 pol at_ nu retry s gs kd pA pB = some (s1, gs1)) (hr : reviveS pol s1 = some t) : playS pol at_ nu retry s gs kd pA pB = some (t, gs1) := by
  unfold playS; rw [h]; dsimp only; rw [hr]; rfl
theorem playS_over (h : playS1 pol at_ nu retry s gs kd pA pB = some (s1, gs1)) (hr : reviveS pol s1 = none) : playS pol at_ nu retry s gs kd pA pB = none := by
  unfold playS; rw [h]; dsimp only; rw [hr]; rfl
theorem playS_none (h : playS1 pol at_ nu retry s gs kd pA pB = none) : playS pol at_ nu retry s gs kd pA pB = none := by
  unfold playS; rw [h]
theorem delAll_hit {q : Nat} {m : Ms} {ms : List Ms} {x : Sv × List Ce} (h : hitB pB q = true) : delAll pol nu pB at_ q (m :: ms) x = (match delS pol x.1 x.2 nu m.1 m.2.2.1 m.2.2.2 at_ with | none => none | some y => delAll pol nu pB at_ (q + 1) ms y) := by
  rw [delAll, if_pos h]; rfl
theorem delAll_miss {q : Nat} {m : Ms} {ms : List Ms} {x : Sv × List Ce} (h : ¬ hitB pB q = true) : delAll pol nu pB at_ q (m :: ms) x = delAll pol nu pB at_ (q + 1) ms x := by
  rw [delAll, if_neg h]
theorem calmAll_hit {q : Nat} {m : Ms} {ms : List Ms} {x : Sv × List Ce} (h : hitB pB q = true) : calmAll pol nu pB at_ q (m :: ms) x = ((delS1 x.1 x.2 nu m.1 m.2.2.1 m.2.2.2 at_).1.m.down = false ∧ ∀ y, delS pol x.1 x.2 nu m.1 m.2.2.1 m.2.2.2 at_ = some y → calmAll pol nu pB at_ (q + 1) ms y) := by
  rw [calmAll, if_pos h]
theorem calmAll_miss {q : Nat} {m : Ms} {ms : List Ms} {x : Sv × List Ce} (h : ¬ hitB pB q = true) : calmAll pol nu pB at_ q (m :: ms) x = calmAll pol nu pB at_ (q + 1) ms x := by
  rw [calmAll, if_neg h]
theorem TG.delAll (hp : 1 ≤ pol ∧ pol ≤ 3) : ∀ (ms : List Ms) (q : Nat) (s : Sv) (gs : List Ce), TG s nu gs told → s.m.down = false → (∀ m ∈ ms, 1 ≤ m.2.2.1 ∧ m.2.2.1 ≤ (gs.length : Int)) → Go.Proofs.YthkimkgphaiagaaGreatDoor.delAll pol nu pB at_ q ms (s, gs) = some (t, hs) → TG t nu hs told ∧ Nx s t ∧ t.m.down = false ∧ hs.length = gs.length
  | [], q, s, gs, h, hd, hm, e => by
    rw [Go.Proofs.YthkimkgphaiagaaGreatDoor.delAll] at e
    injection e with e
    injection e with e1 e2
    subst e1 e2
    exact ⟨h, Nx.refl _, hd, rfl⟩
  | m :: ms, q, s, gs, h, hd, hm, e => by
    by_cases hh : hitB pB q = true
    · rw [delAll_hit hh] at e
      dsimp only at e
      cases hx : delS pol s gs nu m.1 m.2.2.1 m.2.2.2 at_ with
      | none => rw [hx] at e; cases e
      | some y =>
        obtain ⟨s2, gs2⟩ := y
        rw [hx] at e
        obtain ⟨a1, a2, a3, a4⟩ := h.del hd hp (hm m (List.mem_cons_self ..)) hx
        obtain ⟨b1, b2, b3, b4⟩ := TG.delAll hp ms (q + 1) s2 gs2 a1 a3 (fun x hx => by rw [a4]; exact hm x (List.mem_cons_of_mem _ hx)) e
        exact ⟨b1, a2.trans b2, b3, b4.trans a4⟩
    · rw [delAll_miss hh] at e
      exact TG.delAll hp ms (q + 1) s gs h hd (fun x hx => hm x (List.mem_cons_of_mem _ hx)) e
theorem pollL_in {m : Ms} (h : m ∈ pollL nu at_ 1 gs) : m.2.1 = nu ∧ 1 ≤ m.2.2.1 ∧ m.2.2.1 ≤ (gs.length : Int) := by
  obtain ⟨i, g, hg, _, hm⟩ := pollL_mem h
  have := (List.getElem?_eq_some_iff.1 hg).1
  rcases hm with rfl | rfl
  · exact ⟨rfl, by dsimp only; omega, by dsimp only; omega⟩
  · exact ⟨rfl, by dsimp only; omega, by dsimp only; omega⟩
theorem pollA_length : (pollA retry at_ gs.length gs).length = gs.length := by rw [pollA_all, List.length_map]
theorem sendG_length : gs.length ≤ (sendG at_ tx gs).length ∧ (sendG at_ tx gs).length ≤ gs.length + 1 := by
  unfold sendG
  split
  · rw [List.length_append, List.length_singleton]; omega
  · omega
theorem TG.play1 (h : TG s nu gs told) (hd : s.m.down = false) (hp : 1 ≤ pol ∧ pol ≤ 3) (hA : pA ≤ 9223372036854775807) (e : playS1 pol at_ nu retry s gs kd pA pB = some (t, hs)) : TGn s gs t hs nu told := by
  unfold playS1 at e
  split at e
  · injection e with e; injection e with e1 e2; subst e1 e2
    exact ⟨h.other (h.kl.send at_ wGo), Up.refl _, fun h0 => by omega, sendG_length⟩
  split at e
  · injection e with e; injection e with e1 e2; subst e1 e2
    obtain ⟨a, b⟩ := h.kl.cancel pB at_
    exact TGn.of (h.other a) (Nx.refl _) b
  split at e
  · obtain ⟨a1, a2, a3, a4⟩ := TG.delAll hp _ 0 s _ (h.other (h.kl.poll retry at_)) hd (fun m hm => by rw [pollA_length]; exact (pollL_in hm).2) e
    exact TGn.of a1 a2 (a4.trans pollA_length)
  split at e
  · injection e with e; injection e with e1 e2; subst e1 e2
    obtain ⟨a, b⟩ := h.finish hd (st := 4) (.inl rfl) at_ wDone_
    exact TGn.of a b rfl
  split at e
  · injection e with e; injection e with e1 e2; subst e1 e2
    obtain ⟨a, b⟩ := h.finish hd (st := 5) (.inr rfl) at_ wNo
    exact TGn.of a b rfl
  split at e
  · injection e with e; injection e with e1 e2; subst e1 e2
    obtain ⟨a, b, c⟩ := h.feedback wOn
    exact ⟨a, b, c, by omega⟩
  split at e
  · injection e with e; injection e with e1 e2; subst e1 e2
    exact TGn.of (h.crash hd pA) ⟨Up.refl _, fun h0 => ⟨h0, Int.le_refl _⟩⟩ rfl
  split at e
  · injection e with e; injection e with e1 e2; subst e1 e2
    exact TGn.of (h.arm hd pA pB hA) ⟨Up.refl _, fun h0 => ⟨h0, Int.le_refl _⟩⟩ rfl
  · injection e with e; injection e with e1 e2; subst e1 e2
    exact TGn.of h (Nx.refl _) rfl
/-- a step as a whole -/
theorem TG.play (h : TG s nu gs told) (hd : s.m.down = false) (hp : 1 ≤ pol ∧ pol ≤ 3) (hA : pA ≤ 9223372036854775807) (e : playS pol at_ nu retry s gs kd pA pB = some (t, hs)) : TGn s gs t hs nu told ∧ t.m.down = false := by
  unfold playS at e
  split at e
  · cases e
  · rename_i x hx
    obtain ⟨s1, gs1⟩ := x
    cases hr : reviveS pol s1 with
    | none => dsimp only at e; rw [hr] at e; cases e
    | some u =>
      dsimp only at e
      rw [hr] at e
      injection e with e
      injection e with e1 e2
      subst e1 e2
      exact (h.play1 hd hp hA hx).revive hp hr
end
end Go.Proofs.YthkimkgphaiagaaGreatDoor
