/- What Select leaves is a right description; its order of starting. No conditions. -/
import Derived.Test.YtknfankadlokhaaGreatDoorLid

namespace Go.Proofs.YtknfankadlokhaaGreatDoor
open Go.RowKit
set_option linter.unusedVariables false
set_option linter.unusedSimpArgs false

theorem select_zero {l : List Ln} {g : List Sg} (h : (selectF l g).2 = 0) : checkF l = 0 ∧ (∀ j, j < (chosenF l g).length → selE (chosenF l g) g j = 0) ∧ (selectF l g).1 = (chosenF l g).map (selX g) := by
  unfold selectF at h ⊢
  by_cases h0 : checkF l = 0
  · rw [if_neg (by simpa using h0)] at h ⊢
    dsimp only at h ⊢
    by_cases h1 : firstE (selE (chosenF l g) g) (chosenF l g).length = 0
    · rw [if_neg (by simpa using h1)]
      exact ⟨h0, firstE_zero h1, rfl⟩
    · rw [if_pos h1] at h
      exact absurd h h1
  · rw [if_pos h0] at h
    exact absurd h h0
/-- what Select leaves is right, and its lists are not longer -/
theorem sel_right {l : List Ln} {g : List Sg} {m : Nat} (h : (selectF l g).2 = 0) (hr : ∀ x ∈ l, x.after.length ≤ m ∧ x.sets.length ≤ m) : checkF (selectF l g).1 = 0 ∧ ∀ x ∈ (selectF l g).1, x.after.length ≤ m ∧ x.sets.length ≤ m := by
  obtain ⟨h0, hse, hr1⟩ := select_zero h
  have hok := select_ok h0 hse
  rw [hr1]
  refine ⟨hok, fun x hx => ?_⟩
  obtain ⟨y, hy, rfl⟩ := List.mem_map.1 hx
  have hyl : y ∈ l := (List.mem_filter.1 hy).1
  have := hr y hyl
  refine ⟨this.1, ?_⟩
  show (setsO g y.sets).length ≤ m
  unfold setsO
  rw [List.length_map]
  exact this.2
/-- a node does not stand ahead of its own place -/
theorem own_before {l : List Ln} {k : Nat} {n : Tx} (hk : (startF l)[k]? = some n) : hasF ((startF l).take k) n = false := by
  cases hh : hasF ((startF l).take k) n with
  | false => rfl
  | true =>
    obtain ⟨j, hj⟩ := List.getElem?_of_mem (hasF_mem.1 hh)
    rw [List.getElem?_take] at hj
    split at hj
    · rename_i hjk
      have hd := start_nodup l
      rw [List.nodup_iff_pairwise_ne, List.pairwise_iff_getElem] at hd
      have h1 := List.getElem?_eq_some_iff.1 hk
      have h2 := List.getElem?_eq_some_iff.1 hj
      exact absurd (by rw [h1.2, h2.2]) (hd j k h2.1 h1.1 hjk)
    · cases hj
/-- what an entry comes after stands ahead of its place -/
theorem after_before {l : List Ln} (h : checkF l = 0) {i k : Nat} {x : Ln} (hx : l[i]? = some x) (hk : (startF l)[k]? = some x.node) {n : Tx} (hn : n ∈ x.after) : hasF ((startF l).take k) n = true := by
  obtain ⟨k', hk', _, hb⟩ := order_before h hx
  obtain ⟨m, _, hmk, hm⟩ := hb n hn
  have hkk : k' = k := by
    have e1 := place_at (start_nodup l) hk'
    have e2 := place_at (start_nodup l) hk
    omega
  subst hkk
  exact hasF_mem.2 (List.mem_of_getElem? (i := m) (by rw [List.getElem?_take, if_pos hmk]; exact hm))
theorem aft_mem {l : List Ln} (h : checkF l = 0) {i : Nat} {x : Ln} (hx : l[i]? = some x) {n : Tx} (hn : n ∈ x.after) : n ∈ aftOf l x.node := by
  obtain ⟨k, y, e1, hy, e2⟩ := idxF_at (idxF_mem.2 (List.mem_map.2 ⟨x, List.mem_of_getElem? hx, rfl⟩) : 0 ≤ idxF l x.node)
  have := entry_one h hy hx e2
  subst this
  unfold aftOf
  rw [e1, Int.toNat_natCast, hy]
  exact hn
/-- an entry depends on what it comes after -/
theorem after_depends {l : List Ln} (h : checkF l = 0) {i : Nat} {x : Ln} (hx : l[i]? = some x) {n : Tx} (hn : n ∈ x.after) : dependsF l x.node n = true :=
  depends_iff.2 ⟨h, idxF_mem.2 (List.mem_map.2 ⟨x, List.mem_of_getElem? hx, rfl⟩), idxF_mem.2 (aft_nodes h _ _ (aft_mem h hx hn)), .one (aft_mem h hx hn)⟩
end Go.Proofs.YtknfankadlokhaaGreatDoor
