/- The law Once: an operation is performed. No conditions. -/
import Derived.Test.YtndkifkaejmibaaGreatDoorSwc

namespace Go.Proofs.YtndkifkaejmibaaGreatDoor
open Go.RowKit
set_option maxRecDepth 4000
set_option linter.unusedVariables false
set_option linter.unusedSimpArgs false
set_option maxHeartbeats 16000000

/-- what an operation does to a running server -/
noncomputable def perfS (s : Sv) (kd c d at_ : Int) (tx : List UInt8) : Sv :=
  if kd % 16 = 1 then (cancelS s c d at_).2 else if kd % 16 = 2 then (feedbackS s tx).2.2 else if kd % 16 = 3 then (finishS s 4 at_ tx).2 else if kd % 16 = 4 then (finishS s 5 at_ tx).2 else (requestS s c d at_ tx).2.2
theorem perfS_on {s : Sv} {L : List (List UInt8)} {safe i : Nat} (h : On s L safe i) (hI : Inv s) (kd c d at_ : Int) (tx : List UInt8) : (∃ L' safe', On (perfS s kd c d at_ tx) L' safe' (i + 200)) ∧ Up s.l (perfS s kd c d at_ tx).l ∧ Inv (perfS s kd c d at_ tx) := by
  unfold perfS
  split
  · obtain ⟨a, b⟩ := h.cancelS hI c d at_
    exact ⟨a, b, hI.cancelS c d at_⟩
  split
  · obtain ⟨a, b⟩ := h.feedbackS tx
    exact ⟨⟨_, _, a.later (by omega)⟩, b, hI.feedbackS tx⟩
  split
  · obtain ⟨a, b⟩ := h.finishS hI (st := 4) (by omega) at_ tx
    exact ⟨a, b, hI.finishS (by omega) at_ tx⟩
  split
  · obtain ⟨a, b⟩ := h.finishS hI (st := 5) (by omega) at_ tx
    exact ⟨a, b, hI.finishS (by omega) at_ tx⟩
  · obtain ⟨a, b, _⟩ := h.requestS hI c d at_ tx
    exact ⟨a, b, hI.requestS c d at_ tx⟩
abbrev opC (kd c d at_ sp kp : Int) (tx : List UInt8) : List Value := [.int .u8 kd, I c, I d, I at_, I sp, I kp, S tx]
theorem Kn.add {ids : List (Int × Int)} {acc : List Bool} {fin l : List Gl} (h : Kn ids acc fin l) {c d : Int} {b : Bool} (hx : ∃ k, k < l.length ∧ (gAt l k).c = c ∧ (gAt l k).n = d ∧ (b = true ↔ (gAt l k).st ≠ 7)) : Kn (ids ++ [(c, d)]) (acc ++ [b]) fin l := by
  refine ⟨by rw [List.length_append, List.length_append, h.len]; rfl, fun j x e h1 h2 => ?_, h.fin⟩
  rcases Nat.lt_or_ge j ids.length with hj | hj
  · rw [List.getElem?_append_left hj] at h1
    rw [List.getElem?_append_left (by rw [← h.len]; exact hj)] at h2
    exact h.dec j x e h1 h2
  · rw [List.getElem?_append_right hj] at h1
    rw [List.getElem?_append_right (by rw [← h.len]; exact hj), ← h.len] at h2
    have hz : j - ids.length = 0 := by
      have := (List.getElem?_eq_some_iff.1 h1).1
      simpa using this
    rw [hz] at h1 h2
    simp only [List.getElem?_cons_zero, Option.some.injEq] at h1 h2
    subst h1 h2
    exact hx
section
variable {w0 : World} {kb bs bj bm : Nat} {s : Sv} {ids : List (Int × Int)} {acc : List Bool} {fin : List Gl} {HK H : List (Nat × Obj)}
end
end Go.Proofs.YtndkifkaejmibaaGreatDoor
