/- The specification's checks and its order of starting. No conditions. -/
import Derived.Test.YtknfankadlokhaaDoorND
import Derived.Test.YtknfankadlokhaaDoorNA
import Derived.Test.YtknfankadlokhaaDoorMD

namespace Go.Proofs.YtknfankadlokhaaDoor
open Go.RowKit
set_option maxRecDepth 4000
set_option linter.unusedVariables false
set_option linter.unusedSimpArgs false
set_option maxHeartbeats 4000000

theorem any_take_hit {α : Type} {l : List α} {p : α → Bool} {i j : Nat} {x : α} (hj : j < i) (hx : l[j]? = some x) (hp : p x = true) : (l.take i).any p = true := by
  rw [List.any_eq_true]
  exact ⟨x, List.mem_of_getElem? (i := j) (by rw [List.getElem?_take, if_pos hj]; exact hx), hp⟩
theorem any_take_no {α : Type} {l : List α} {p : α → Bool} {i : Nat} (hno : ∀ (j : Nat) (x : α), j < i → l[j]? = some x → p x = false) : (l.take i).any p = false := by
  rw [List.any_eq_false]
  intro x hx
  obtain ⟨j, hj⟩ := List.getElem?_of_mem hx
  rw [List.getElem?_take] at hj
  split at hj
  · rename_i hji; rw [hno j x hji hj]; simp
  · cases hj
theorem idx_take {l : List Ln} {i : Nat} {n : Tx} : idxF l n < (i : Int) ∧ 0 ≤ idxF l n ↔ 0 ≤ idxF (l.take i) n := by
  constructor
  · rintro ⟨h1, h2⟩
    obtain ⟨j, x, hj, hx, hn⟩ := idxF_at h2
    rw [idxF_mem]
    unfold nodesF
    exact List.mem_map.2 ⟨x, List.mem_of_getElem? (i := j) (by rw [List.getElem?_take, if_pos (by omega)]; exact hx), hn⟩
  · intro h
    obtain ⟨j, x, hj, hx, hn⟩ := idxF_at h
    rw [List.getElem?_take] at hx
    split at hx
    · rename_i hji
      have h0 : 0 ≤ idxF l n := idxF_mem.2 (by unfold nodesF; exact List.mem_map.2 ⟨x, List.mem_of_getElem? hx, hn⟩)
      refine ⟨?_, h0⟩
      rcases idxP_spec (fun x : Ln => decide (x.node = n)) l with ⟨h1, _⟩ | ⟨k, y, h1, h2, h3, h4⟩
      · unfold idxF at h0; omega
      · unfold idxF
        rw [h1]
        rcases Nat.lt_or_ge j k with h5 | h5
        · have := h4 j x h5 hx
          rw [hn] at this; simp at this
        · omega
    · cases hx
end Go.Proofs.YtknfankadlokhaaDoor
