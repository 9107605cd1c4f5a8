/- The goals of ActionclientEnds: what polling and answering make of them. No conditions. -/
import Derived.Test.YtbpebpkepflliaaPla
namespace Go.Proofs.Ytbpebpkepflliaa
open Go.RowKit
set_option linter.unusedVariables false
set_option linter.unusedSimpArgs false
set_option maxHeartbeats 1000000

abbrev GO : List UInt8 := [103, 111]
/-- the state that an outcome leads to -/
def ocs (o : Int) : Int := if o % 4 = 0 then 7 else o % 4 + 3
/-- a goal that waits: due between lo and hi -/
structure Waits (lo hi : Int) (g : Gl) : Prop where
  st : g.st = 0
  req : g.req = GO
  canc : g.canc = false
  lo_ : lo ≤ g.next
  hi_ : g.next ≤ hi
structure EOk (outs : List Int) (lo hi : Int) (gs : List Gl) : Prop where
  len : gs.length = outs.length
  each : ∀ (i : Nat) (g : Gl) (o : Int), gs[i]? = some g → outs[i]? = some o → g.st = ocs o ∨ Waits lo hi g
theorem ocs_in (o : Int) : 4 ≤ ocs o ∧ ocs o ≤ 7 := by unfold ocs; split <;> omega
section
variable {outs : List Int} {lo hi : Int} {gs : List Gl}
theorem EOk.out (h : EOk outs lo hi gs) {i : Nat} {g : Gl} (hg : gs[i]? = some g) : ∃ o, outs[i]? = some o :=
  ⟨_, List.getElem?_eq_getElem (by have := (List.getElem?_eq_some_iff.1 hg).1; have := h.len; omega)⟩
theorem EOk.waits (h : EOk outs lo hi gs) {i : Nat} {g : Gl} (hg : gs[i]? = some g) (h4 : g.st < 4) : Waits lo hi g := by
  obtain ⟨o, ho⟩ := h.out hg
  rcases h.each i g o hg ho with h1 | h1
  · have := ocs_in o; omega
  · exact h1
theorem EOk.mem (h : EOk outs lo hi gs) {g : Gl} (hg : g ∈ gs) (h4 : g.st < 4) : Waits lo hi g := by
  obtain ⟨i, hi, rfl⟩ := List.mem_iff_getElem.1 hg
  exact h.waits (List.getElem?_eq_getElem hi) h4
end
theorem poll_due {lo hi num at_ : Int} (hat : hi ≤ at_) : ∀ (gs : List Gl) (k : Int), (∀ g ∈ gs, g.st < 4 → Waits lo hi g) → pollM num at_ k gs = (openL k gs).flatMap (fun n => msg 1 num n GO) ∧ pollC at_ gs = (openL k gs).length
  | [], k, _ => ⟨rfl, rfl⟩
  | g :: gs, k, h => by
    obtain ⟨e1, e2⟩ := poll_due (num := num) hat gs (k + 1) (fun g hg => h g (List.mem_cons_of_mem _ hg))
    simp only [pollM, pollC, openL, Gl.pm, Gl.pc]
    by_cases h4 : g.st < 4
    · obtain ⟨_, hr, hc, _, hh⟩ := h g (by simp) h4
      rw [if_pos h4, if_pos h4, if_pos h4, if_pos (by omega), if_neg (by simp [hc]), if_pos (by omega), if_neg (by simp [hc]), e1, e2, hr]
      refine ⟨by simp, by simp; omega⟩
    · rw [if_neg h4, if_neg h4, if_neg h4, e1, e2]
      simp
theorem poll_early {lo hi num at_ : Int} (hat : at_ < lo) : ∀ (gs : List Gl) (k : Int), (∀ g ∈ gs, g.st < 4 → Waits lo hi g) → pollM num at_ k gs = [] ∧ pollC at_ gs = 0
  | [], k, _ => ⟨rfl, rfl⟩
  | g :: gs, k, h => by
    obtain ⟨e1, e2⟩ := poll_early (num := num) hat gs (k + 1) (fun g hg => h g (List.mem_cons_of_mem _ hg))
    simp only [pollM, pollC, Gl.pm, Gl.pc]
    by_cases h4 : g.st < 4
    · obtain ⟨_, hr, hc, hl, hh⟩ := h g (by simp) h4
      rw [if_pos h4, if_pos h4, if_neg (by omega), if_neg (by simp [hc]), if_neg (by omega), if_neg (by simp [hc]), e1, e2]
      simp
    · rw [if_neg h4, if_neg h4, e1, e2]
      simp
theorem pollA_all {retry at_ : Int} {gs : List Gl} : pollA retry at_ gs.length gs = gs.map (·.pg retry at_) := by
  simp [pollA]
theorem pg_st (g : Gl) (retry at_ : Int) : (g.pg retry at_).st = g.st := by unfold Gl.pg; split <;> rfl
theorem openL_map {retry at_ : Int} : ∀ (gs : List Gl) (k : Int), openL k (gs.map (·.pg retry at_)) = openL k gs
  | [], _ => rfl
  | g :: gs, k => by simp only [List.map_cons, openL, pg_st, openL_map gs (k + 1)]
theorem EOk.polled {outs : List Int} {lo hi retry at_ : Int} {gs : List Gl} (h : EOk outs lo hi gs) (hat : hi ≤ at_) : EOk outs (at_ + retry) (at_ + retry) (gs.map (·.pg retry at_)) := by
  refine ⟨by simpa using h.len, fun i g o hg ho => ?_⟩
  rw [List.getElem?_map] at hg
  obtain ⟨g0, hg0, rfl⟩ := Option.map_eq_some_iff.1 hg
  rcases h.each i g0 o hg0 ho with h1 | ⟨h1, h2, h3, h4, h5⟩
  · left; rw [pg_st, h1]
  · right
    have : g0.st < 4 := by omega
    rw [Gl.pg, if_pos this]
    exact ⟨h1, h2, h3, by simp only [if_pos (show g0.next ≤ at_ by omega)]; omega, by simp only [if_pos (show g0.next ≤ at_ by omega)]; omega⟩
theorem EOk.same {outs : List Int} {lo hi retry at_ : Int} {gs : List Gl} (h : EOk outs lo hi gs) (hat : at_ < lo) : gs.map (·.pg retry at_) = gs := by
  have : ∀ g ∈ gs, g.pg retry at_ = g := by
    intro g hg
    unfold Gl.pg
    split
    · rename_i h4
      obtain ⟨_, hr, hc, hl, hh⟩ := h.mem hg h4
      rw [if_neg (by omega), hc]
      obtain ⟨q, r, st, fb, nx, cn, nc⟩ := g
      simp only at hc
      subst hc
      simp
    · rfl
  rw [List.map_congr_left this]
  simp
theorem openL_mem {n : Int} : ∀ (gs : List Gl) (k : Int), n ∈ openL k gs ↔ ∃ (i : Nat) (g : Gl), gs[i]? = some g ∧ g.st < 4 ∧ n = k + i
  | [], k => by simp [openL]
  | g :: gs, k => by
    have ih := openL_mem (n := n) gs (k + 1)
    simp only [openL]
    constructor
    · intro h
      split at h
      · rcases List.mem_cons.1 h with h | h
        · exact ⟨0, g, rfl, by assumption, by omega⟩
        · obtain ⟨i, g', h1, h2, h3⟩ := ih.1 h
          exact ⟨i + 1, g', by simpa using h1, h2, by omega⟩
      · obtain ⟨i, g', h1, h2, h3⟩ := ih.1 h
        exact ⟨i + 1, g', by simpa using h1, h2, by omega⟩
    · rintro ⟨i, g', h1, h2, h3⟩
      rcases i with _ | i
      · simp at h1; subst h1
        rw [if_pos h2]
        simp; omega
      · have := ih.2 ⟨i, g', by simpa using h1, h2, by omega⟩
        split
        · exact List.mem_cons_of_mem _ this
        · exact this
theorem openL_lt : ∀ (gs : List Gl) (k : Int), (openL k gs).Pairwise (· < ·)
  | [], k => by simp [openL]
  | g :: gs, k => by
    simp only [openL]
    split
    · rw [List.pairwise_cons]
      refine ⟨fun n hn => ?_, openL_lt gs _⟩
      obtain ⟨i, _, _, _, h⟩ := (openL_mem gs (k + 1)).1 hn
      omega
    · exact openL_lt gs _
theorem openL_nil_of {gs : List Gl} {k : Int} (h : ∀ (i : Nat) (g : Gl), gs[i]? = some g → ¬ g.st < 4) : openL k gs = [] := by
  rw [List.eq_nil_iff_forall_not_mem]
  intro n hn
  obtain ⟨i, g, h1, h2, _⟩ := (openL_mem gs k).1 hn
  exact h i g h1 h2
/-- how the outcome's message is called, and its text -/
def okn (o : Int) : Int := if o % 4 = 0 then 4 else o % 4 + 5
def otx (o : Int) : List UInt8 := if o % 4 = 0 then [] else [114]
/-- an answer to a goal that waits ends it -/
theorem answer {outs : List Int} {lo hi num : Int} {gs : List Gl} (h : EOk outs lo hi gs) {i : Nat} {g : Gl} {o : Int} (hg : gs[i]? = some g) (h4 : g.st < 4) (ho : outs[i]? = some o) :
    ∃ g', recvF num gs (okn o) num ((i : Int) + 1) 0 (otx o) = (0, gs.set i g') ∧ EOk outs lo hi (gs.set i g') ∧ ¬ g'.st < 4 := by
  obtain ⟨h1, h2, h3, _, _⟩ := h.waits hg h4
  have hga : gAt gs ((i : Int) + 1) = some g := by
    unfold gAt
    rw [if_neg (by omega), show ((i : Int) + 1 - 1).toNat = i by omega]
    exact hg
  have hoc := ocs_in o
  have fin : ∀ g' : Gl, g'.st = ocs o → EOk outs lo hi (gs.set i g') ∧ ¬ g'.st < 4 := fun g' hs => by
    refine ⟨⟨by simpa using h.len, fun j x p hx hp => ?_⟩, by omega⟩
    rw [List.getElem?_set] at hx
    split at hx
    · rename_i e; subst e
      split at hx
      · injection hx with hx; subst hx
        rw [ho] at hp; injection hp with hp; subst hp
        exact .inl hs
      · cases hx
    · exact h.each j x p hx hp
  have hk : ¬ (okn o < 3 ∨ 9 < okn o) := by unfold okn; split <;> omega
  have hr : recvF num gs (okn o) num ((i : Int) + 1) 0 (otx o) = ((g.recv (okn o) 0 (otx o)).1, gs.set i (g.recv (okn o) 0 (otx o)).2) := by
    unfold recvF
    rw [if_neg hk, hga]
    simp
  have hv : (g.recv (okn o) 0 (otx o)).1 = 0 ∧ (g.recv (okn o) 0 (otx o)).2.st = ocs o := by
    unfold okn otx ocs
    split
    · simp [Gl.recv, Gl.reject, h1]
    · have : ¬ o % 4 + 5 = 4 := by omega
      have h7 : o % 4 + 5 = 6 ∨ o % 4 + 5 = 7 ∨ o % 4 + 5 = 8 := by omega
      simp only [Gl.recv, if_neg this, if_pos h7, Gl.end_, if_pos h4]
      exact ⟨trivial, by omega⟩
  exact ⟨_, by rw [hr, hv.1], fin _ hv.2⟩
theorem EOk.first (outs : List Int) : EOk outs 0 100 [] → outs = [] := fun h => List.eq_nil_of_length_eq_zero h.len.symm
end Go.Proofs.Ytbpebpkepflliaa
