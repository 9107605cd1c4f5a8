/- The walk of ActionclientPlays. No conditions. -/
import Derived.Test.YtbpebpkepflliaaLab
namespace Go.Proofs.Ytbpebpkepflliaa
open Go.RowKit
set_option linter.unusedVariables false
set_option linter.unusedSimpArgs false
set_option maxHeartbeats 4000000

theorem sendG_ok {at_ : Int} {text : List UInt8} {gs : List Gl} (h : GsOk gs) : GsOk (sendG at_ text gs) ∧ (sendG at_ text gs).length ≤ gs.length + 1 := by
  unfold sendG
  split
  · refine ⟨⟨fun g hg => ?_⟩, by simp⟩
    rcases List.mem_append.1 hg with hg | hg
    · exact h.st g hg
    · simp at hg; subst hg; simp [goal0]
  · exact ⟨h, by omega⟩
theorem set_ok {gs : List Gl} {i : Nat} {g : Gl} (h : GsOk gs) (hg : 0 ≤ g.st ∧ g.st ≤ 7) : GsOk (gs.set i g) := by
  refine ⟨fun x hx => ?_⟩
  rcases List.mem_or_eq_of_mem_set hx with hx | rfl
  · exact h.st x hx
  · exact hg
theorem recvF_ok {num kind client n told : Int} {text : List UInt8} {gs : List Gl} (h : GsOk gs) : GsOk (recvF num gs kind client n told text).2 ∧ (recvF num gs kind client n told text).2.length = gs.length := by
  unfold recvF
  split
  · exact ⟨h, rfl⟩
  · split
    · exact ⟨h, rfl⟩
    · split
      · rename_i hk _ g hg
        have hs := h.st g (by
          unfold gAt at hg
          split at hg
          · cases hg
          · exact List.mem_of_getElem? hg)
        refine ⟨set_ok h ?_, by simp⟩
        unfold Gl.recv Gl.reject Gl.end_
        repeat' split
        all_goals (try dsimp only)
        all_goals omega
      · exact ⟨h, rfl⟩
theorem cancF_ok {n at_ : Int} {gs : List Gl} (h : GsOk gs) : GsOk (cancF gs n at_).2 ∧ (cancF gs n at_).2.length = gs.length := by
  unfold cancF
  split
  · rename_i g hg
    have hs := h.st g (by
      unfold gAt at hg
      split at hg
      · cases hg
      · exact List.mem_of_getElem? hg)
    split
    · refine ⟨set_ok h ?_, by simp⟩
      unfold Gl.cancel
      repeat' split
      all_goals (try dsimp only)
      all_goals omega
    · exact ⟨h, rfl⟩
  · exact ⟨h, rfl⟩

/-- the two clients side by side -/
def Two (cb xb : Nat) (num retry : Int) (gs : List Gl) (Hc Hr : List (Nat × Obj)) : Prop := (∃ mb bs, bs.length = gs.length ∧ Hc = CH cb mb bs num retry gs) ∧ RH xb num retry gs Hr ∧ GsOk gs

section
variable {w0 : World} {cb xb : Nat} {num retry : Int} {gs : List Gl} {Hc Hr : List (Nat × Obj)}
theorem stOf_in {gs : List Gl} {n : Int} : (match gAt gs n with | some g => (Value.tuple ⟨[I g.st, I 0]⟩) | none => .tuple ⟨[I 0, I 6]⟩) = .tuple ⟨[I (stOf (gAt gs n)).1, I (stOf (gAt gs n)).2]⟩ := by
  cases gAt gs n <;> rfl
theorem fbOf_in {gs : List Gl} {n : Int} : (match gAt gs n with | some g => I g.fb | none => I 0) = I (fbOf (gAt gs n)) := by
  cases gAt gs n <;> rfl
end
theorem state_f {w0 : World} {cb mb : Nat} {bs : List Nat} {num retry : Int} {gs : List Gl} (hh : Has w0 (CH cb mb bs num retry gs)) (hl : bs.length = gs.length) (n : Int) :
    Cl Try.prog 14 [Ptr cb, I n] w0 (fun v w' => v = .tuple ⟨[I (stOf (gAt gs n)).1, I (stOf (gAt gs n)).2]⟩ ∧ St w0 NoneS [] w') := (state_any hh hl n).mono (fun v w' h => ⟨h.1.trans stOf_in, h.2⟩)
theorem feedback_f {w0 : World} {cb mb : Nat} {bs : List Nat} {num retry : Int} {gs : List Gl} (hh : Has w0 (CH cb mb bs num retry gs)) (hl : bs.length = gs.length) (n : Int) :
    Cl Try.prog 28 [Ptr cb, I n] w0 (fun v w' => v = I (fbOf (gAt gs n)) ∧ St w0 NoneS [] w') := (feedback_any hh hl n).mono (fun v w' h => ⟨h.1.trans fbOf_in, h.2⟩)
theorem rstate_f {w0 : World} {xb : Nat} {num retry : Int} {gs : List Gl} {H : List (Nat × Obj)} (hr : RH xb num retry gs H) (hh : Has w0 H) (n : Int) (hn : -9223372036854775808 < n ∧ n ≤ 9223372036854775807) :
    Cl Try.prog 25 [Ptr xb, I n] w0 (fun v w' => v = .tuple ⟨[I (stOf (gAt gs n)).1, I (stOf (gAt gs n)).2]⟩ ∧ St w0 NoneS [] w') := (rstate_any hr hh n hn).mono (fun v w' h => ⟨h.1.trans stOf_in, h.2⟩)
theorem rfeedback_f {w0 : World} {xb : Nat} {num retry : Int} {gs : List Gl} {H : List (Nat × Obj)} (hr : RH xb num retry gs H) (hh : Has w0 H) (n : Int) (hn : -9223372036854775808 < n ∧ n ≤ 9223372036854775807) :
    Cl Try.prog 29 [Ptr xb, I n] w0 (fun v w' => v = I (fbOf (gAt gs n)) ∧ St w0 NoneS [] w') := (rfeedback_any hr hh n hn).mono (fun v w' h => ⟨h.1.trans fbOf_in, h.2⟩)
theorem sendV_in {num at_ : Int} {text : List UInt8} {gs : List Gl} : sendV num at_ text gs = .tuple ⟨[.agg ⟨[I (if sendE at_ text gs = 0 then num else 0), I (if sendE at_ text gs = 0 then (gs.length : Int) + 1 else 0)]⟩, I (sendE at_ text gs)]⟩ := by
  unfold sendV
  split <;> rfl
end Go.Proofs.Ytbpebpkepflliaa
