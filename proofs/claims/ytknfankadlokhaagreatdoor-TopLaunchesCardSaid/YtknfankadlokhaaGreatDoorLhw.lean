/- The order of starting is the first of all. No conditions. -/
import Derived.Test.YtknfankadlokhaaGreatDoorNA

namespace Go.Proofs.YtknfankadlokhaaGreatDoor
open Go.RowKit
set_option linter.unusedVariables false
set_option linter.unusedSimpArgs false

/-- every node of the order is that of the first entry that may start -/
theorem start_stage (l : List Ln) : ∀ (i : Nat) (n : Tx), (startF l)[i]? = some n → ∃ x, l.find? (readyF ((startF l).take i)) = some x ∧ n = x.node := by
  have : ∀ (i : Nat) (n : Tx), (startF l)[i]? = some n → ∃ x, l.find? (readyF ((startF l).take i)) = some x ∧ n = x.node :=
    going_ind (p := fun ns => ∀ (i : Nat) (n : Tx), ns[i]? = some n → ∃ x, l.find? (readyF (ns.take i)) = some x ∧ n = x.node) (fun i n h => by simp at h) (fun ns x hp hx i n hn => by
      rw [List.getElem?_append] at hn
      split at hn
      · rename_i hi
        obtain ⟨y, hy, e⟩ := hp i n hn
        exact ⟨y, by rw [List.take_append_of_le_length (by omega)]; exact hy, e⟩
      · rename_i hi
        have h0 : i - ns.length = 0 := by
          rcases Nat.eq_zero_or_pos (i - ns.length) with h | h
          · exact h
          · rw [List.getElem?_eq_none (by simp; omega)] at hn; cases hn
        rw [h0] at hn
        injection hn with hn
        have : i = ns.length := by omega
        subst this
        refine ⟨x, by rw [List.take_left]; exact hx, hn.symm⟩)
  exact this
theorem find_first {α : Type} {p : α → Bool} {l : List α} {x y : α} {k : Nat} (h : l.find? p = some x) (hy : l[k]? = some y) (hp : p y = true) : ∃ i, i ≤ k ∧ l[i]? = some x := by
  obtain ⟨_, i, hi, hxi, hno⟩ := List.find?_eq_some_iff_getElem.1 h
  refine ⟨i, ?_, by rw [List.getElem?_eq_getElem hi, hxi]⟩
  rcases Nat.lt_or_ge k i with hk | hk
  · have := hno k hk
    rw [List.getElem?_eq_getElem (by omega)] at hy
    injection hy with hy
    rw [hy, hp] at this; cases this
  · exact hk
/-- at the first place where another order differs, an earlier entry has the order's node -/
theorem first_less {l : List Ln} {ns : List Tx} {i k : Nat} {x : Ln} {n : Tx} (hpre : ns.take i = (startF l).take i) (hx : l[k]? = some x) (hr : readyF (ns.take i) x = true) (hn : (startF l)[i]? = some n) (hne : x.node ≠ n) : ∃ j y, j < k ∧ l[j]? = some y ∧ y.node = n := by
  obtain ⟨y, hy, e⟩ := start_stage l i n hn
  rw [← hpre] at hy
  obtain ⟨j, hj, hyj⟩ := find_first hy hx hr
  refine ⟨j, y, ?_, hyj, e.symm⟩
  rcases Nat.lt_or_ge j k with h | h
  · exact h
  · have : j = k := by omega
    subst this
    rw [hx] at hyj; injection hyj with hyj; subst hyj
    exact absurd e.symm hne
theorem place_has (ns : List Tx) (n : Tx) : decide (0 ≤ idxP (fun y => decide (y = n)) ns) = hasF ns n := by
  rw [idxP_pos]
  unfold hasF
  congr 1
  funext y
  exact decide_eq_decide.2 ⟨fun h => h.symm, fun h => h.symm⟩
theorem place_ge {ns : List Tx} {n : Tx} : 0 ≤ idxP (fun y => decide (y = n)) ns ↔ hasF ns n = true := by
  rw [← place_has]; simp
end Go.Proofs.YtknfankadlokhaaGreatDoor
