/- The stage, in plain words: the example. No conditions. -/
import Derived.Test.YthkimkgphaiagaaGreatDoorTgp
import Derived.Test.YthkimkgphaiagaaGreatDoorMP

namespace Go.Proofs.YthkimkgphaiagaaGreatDoor
open Go.RowKit
set_option linter.unusedVariables false
set_option linter.unusedSimpArgs false

def exT : Sv := ⟨1, 3, [], [], -1, 0, false, newM 9000, ⟨[], 0, false⟩⟩
theorem aw_srv : ∃ A1 A2, requestS exT 1 1 220 wGo = (true, 0, A1) ∧ A1.l = [⟨1, 1, 2, 220, 0, wGo, []⟩] ∧ A1.m.down = false ∧ finishS A1 4 330 wDone_ = (0, A2) ∧ A2.l = [⟨1, 1, 4, 220, 330, wGo, wDone_⟩] ∧ A2.ends = [0] ∧ A2.m.down = false ∧ requestS A2 1 1 440 wGo = (true, 0, A2) := by
  have c0 : Calm exT (460 + 120) := calm_new (pol := 1) (lim := 3) (size := 9000) (by omega) (by omega)
  obtain ⟨t1, r1, l1, e1, u1, x1⟩ := reqQ c0 (by decide) (c := 1) (n := 1) (at_ := 220) (rq := wGo) (by omega) (by decide) rfl (by decide) (by decide)
  have a0 : acceptsB exT = true := by decide
  rw [a0] at r1 l1
  have l1' : t1.l = [⟨1, 1, 1, 220, 0, wGo, []⟩] := l1
  have n1 := nextS_head (s := t1) (k := 0) (r := []) (by rw [u1]; decide) (by rw [l1']; rfl)
  obtain ⟨A1, hA1⟩ : ∃ A1, A1 = nextS t1 := ⟨_, rfl⟩
  rw [← hA1] at r1 n1
  have x1 := x1.next
  rw [← hA1] at x1
  have ll1 : A1.l = [⟨1, 1, 2, 220, 0, wGo, []⟩] := by rw [n1]; show t1.l.set 0 _ = _; rw [l1']; rfl
  have lu1 : A1.cur = 0 := by rw [n1]; rfl
  have le1 : A1.ends = [] := by rw [n1]; exact e1
  have k1 := x1.calm
  obtain ⟨t2, r2, l2, e2, u2, x2⟩ := finQ (u := 340) k1 (by rw [lu1]; decide) (st := 4) (at_ := 330) (rs := wDone_) (by omega) (by rw [ll1]; decide) (by decide) (st' := 4) (if_neg (fun h => absurd h.1 (by decide)))
  rw [ll1, lu1] at l2
  rw [le1, lu1] at e2
  have ll2 : t2.l = [⟨1, 1, 4, 220, 330, wGo, wDone_⟩] := l2
  have n2 : nextS t2 = t2 := nextS_nil (by rw [ll2]; rfl)
  rw [n2] at r2
  refine ⟨A1, t2, r1, ll1, k1.up, r2, ll2, e2, x2.calm.up, ?_⟩
  unfold requestS
  rw [if_neg (by omega), if_neg (by decide), x2.calm.sv, if_neg (by simp), show findG t2.l 1 1 = some 0 by rw [ll2]; rfl]
  dsimp only
  rw [ll2]; rfl
theorem exT_inv : Inv exT := inv_new 1 3 (newM 9000) ⟨[], 0, false⟩
def tg1 : List Ce := [⟨wGo, [], 0, 0, 110, false, 0⟩]
def tg2 : List Ce := [⟨wGo, [], 1, 0, 270, false, 0⟩]
def tg4 : List Ce := [⟨wGo, wDone_, 4, 0, 490, false, 0⟩]
theorem tg_p2 : pollL 1 220 1 tg1 = [(1, 1, 1, wGo)] ∧ pollA 50 220 1 tg1 = [⟨wGo, [], 0, 0, 270, false, 0⟩] := by
  constructor
  · simp [pollL, tg1, Ce.pl]
  · simp [pollA, tg1, Ce.pg]
theorem tg_p4 : pollL 1 440 1 tg2 = [(1, 1, 1, wGo)] ∧ pollA 50 440 1 tg2 = [⟨wGo, [], 1, 0, 490, false, 0⟩] := by
  constructor
  · simp [pollL, tg2, Ce.pl]
  · simp [pollA, tg2, Ce.pg]
theorem hit0 : hitB 0 0 = true := by decide
theorem aw_run : ∃ A1 A2, (playS 1 110 1 50 exT [] 0 0 0 = some (exT, tg1) ∧ calmP 1 110 1 50 exT [] 0 0 0) ∧ (playS 1 220 1 50 exT tg1 2 0 0 = some (A1, tg2) ∧ calmP 1 220 1 50 exT tg1 2 0 0) ∧
    (playS 1 330 1 50 A1 tg2 3 0 0 = some (A2, tg2) ∧ calmP 1 330 1 50 A1 tg2 3 0 0) ∧ (playS 1 440 1 50 A2 tg2 2 0 0 = some (A2, tg4) ∧ calmP 1 440 1 50 A2 tg2 2 0 0) ∧ (outsS A2).length = 1 := by
  obtain ⟨A1, A2, r1, l1, m1, f2, l2, e2, m2, r2⟩ := aw_srv
  have f1 : findG A1.l 1 1 = some 0 := by rw [l1]; rfl
  have f2' : findG A2.l 1 1 = some 0 := by rw [l2]; rfl
  have hD : delS1 exT [⟨wGo, [], 0, 0, 270, false, 0⟩] 1 1 1 wGo 220 = (A1, tg2) := by
    unfold delS1
    rw [if_neg (by decide), r1]
    simp [recvF, cAt, Ce.recv, tg2]
  have hS : delS 1 exT [⟨wGo, [], 0, 0, 270, false, 0⟩] 1 1 1 wGo 220 = some (A1, tg2) := by
    rw [delS_some hD (reviveS_up m1)]
    have e : delS2 A1 tg2 1 1 = tg2 := by
      unfold delS2
      rw [f1]
      dsimp only
      rw [l1, if_neg (by decide)]
    rw [e]
  have hP : playS1 1 220 1 50 exT tg1 2 0 0 = some (A1, tg2) := by
    have e : playS1 1 220 1 50 exT tg1 2 0 0 = delAll 1 1 0 220 0 (pollL 1 220 1 tg1) (exT, pollA 50 220 1 tg1) := by simp [playS1, tg1]
    rw [e, tg_p2.1, tg_p2.2, delAll_hit hit0]
    dsimp only
    rw [hS]; rfl
  have hD4 : delS1 A2 [⟨wGo, [], 1, 0, 490, false, 0⟩] 1 1 1 wGo 440 = (A2, [⟨wGo, [], 1, 0, 490, false, 0⟩]) := by
    unfold delS1
    rw [if_neg (by decide), r2]
    simp [recvF, cAt, Ce.recv]
  have hS4 : delS 1 A2 [⟨wGo, [], 1, 0, 490, false, 0⟩] 1 1 1 wGo 440 = some (A2, tg4) := by
    rw [delS_some hD4 (reviveS_up m2)]
    have e : delS2 A2 [⟨wGo, [], 1, 0, 490, false, 0⟩] 1 1 = tg4 := by
      unfold delS2
      rw [f2']
      dsimp only
      rw [l2, if_pos (by decide)]
      simp [recvF, cAt, Ce.recv, Ce.end_, tg4]
    rw [e]
  have hP4 : playS1 1 440 1 50 A2 tg2 2 0 0 = some (A2, tg4) := by
    have e : playS1 1 440 1 50 A2 tg2 2 0 0 = delAll 1 1 0 440 0 (pollL 1 440 1 tg2) (A2, pollA 50 440 1 tg2) := by simp [playS1, tg2]
    rw [e, tg_p4.1, tg_p4.2, delAll_hit hit0]
    dsimp only
    rw [hS4]; rfl
  have hP3 : playS1 1 330 1 50 A1 tg2 3 0 0 = some (A2, tg2) := by simp [playS1, f2]
  refine ⟨A1, A2, ⟨?_, ?_⟩, ⟨playS_some hP (reviveS_up m1), ?_⟩, ⟨playS_some hP3 (reviveS_up m2), ?_⟩, ⟨playS_some hP4 (reviveS_up m2), ?_⟩, by unfold outsS; rw [e2]; rfl⟩
  · have h1 : playS1 1 110 1 50 exT [] 0 0 0 = some (exT, tg1) := by simp [playS1, sendG, sendE, copL, goal0, tg1, wGo]
    exact playS_some h1 (reviveS_up rfl)
  · refine ⟨fun h => absurd h (by decide), fun x hx => ?_⟩
    simp only [playS1, if_pos] at hx
    injection hx with hx
    subst hx; rfl
  · refine ⟨fun _ => ?_, fun x hx => ?_⟩
    · show calmAll 1 1 0 220 0 (pollL 1 220 1 tg1) (exT, pollA 50 220 1 tg1)
      rw [tg_p2.1, tg_p2.2, calmAll_hit hit0]
      exact ⟨by dsimp only; rw [hD]; exact m1, fun y _ => trivial⟩
    · rw [hP] at hx
      injection hx with hx
      subst hx; exact m1
  · refine ⟨fun h => absurd h (by decide), fun x hx => ?_⟩
    rw [hP3] at hx
    injection hx with hx
    subst hx; exact m2
  · refine ⟨fun _ => ?_, fun x hx => ?_⟩
    · show calmAll 1 1 0 440 0 (pollL 1 440 1 tg2) (A2, pollA 50 440 1 tg2)
      rw [tg_p4.1, tg_p4.2, calmAll_hit hit0]
      exact ⟨by dsimp only; rw [hD4]; exact m2, fun y _ => trivial⟩
    · rw [hP4] at hx
      injection hx with hx
      subst hx; exact m2
end Go.Proofs.YthkimkgphaiagaaGreatDoor
