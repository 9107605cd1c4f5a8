/- Rows of equal parts. No conditions. -/
import Derived.Test.YtmlbgdhkacajaaaDoorEnq
namespace Go.Proofs.YtmlbgdhkacajaaaDoor
open Go.RowKit
set_option linter.unusedVariables false
set_option linter.unusedSimpArgs false
section
variable {α : Type} {f : α → List Value} {z : Nat}
theorem flat_len (hz : ∀ a, (f a).length = z) : ∀ (l : List α), (l.flatMap f).length = l.length * z
  | [] => by simp
  | x :: l => by rw [List.flatMap_cons, List.length_append, hz, flat_len hz l, List.length_cons, Nat.add_mul]; omega
theorem flat_drop (hz : ∀ a, (f a).length = z) : ∀ (l : List α) (i : Nat), i ≤ l.length → (l.flatMap f).drop (i * z) = (l.drop i).flatMap f
  | l, 0, _ => by simp
  | [], i + 1, h => by simp at h
  | x :: l, i + 1, h => by
    rw [List.flatMap_cons, Nat.add_mul, Nat.one_mul, Nat.add_comm, List.drop_append, hz, List.drop_eq_nil_of_le (by rw [hz]; omega)]
    have : z + i * z - z = i * z := by omega
    rw [this, List.nil_append, List.drop_succ_cons]
    exact flat_drop hz l i (by simpa using h)
theorem flat_take (hz : ∀ a, (f a).length = z) {l : List α} {i : Nat} {x : α} (h : l[i]? = some x) (rs : List Value) : ((l.flatMap f ++ rs).drop (i * z)).take z = f x := by
  have hi := (List.getElem?_eq_some_iff.1 h).1
  have h2 : i * z + z ≤ l.length * z := by
    have := Nat.mul_le_mul_right z (show i + 1 ≤ l.length by omega)
    rw [Nat.add_mul, Nat.one_mul] at this; exact this
  rw [List.drop_append_of_le_length (by rw [flat_len hz]; omega), flat_drop hz l i (by omega), List.drop_eq_getElem_cons hi, (List.getElem?_eq_some_iff.1 h).2, List.flatMap_cons, List.append_assoc]
  have := hz x
  rw [← this, List.take_left]
theorem flat_cell (hz : ∀ a, (f a).length = z) {l : List α} {i : Nat} {x : α} (h : l[i]? = some x) (rs : List Value) {j : Nat} {c : Value} (hj : (f x)[j]? = some c) : (l.flatMap f ++ rs)[i * z + j]? = some c := SlAt.cell (flat_take hz h rs) hj
theorem flat_set (hz : ∀ a, (f a).length = z) {l : List α} {i : Nat} (y : α) (hi : i < l.length) (rs : List Value) : spl (l.flatMap f ++ rs) (i * z) (f y) = (l.set i y).flatMap f ++ rs := by
  have h2 : i * z + z ≤ l.length * z := by
    have := Nat.mul_le_mul_right z (show i + 1 ≤ l.length by omega)
    rw [Nat.add_mul, Nat.one_mul] at this; exact this
  have hl := flat_len hz l
  rw [spl_eq _ _ _ (by rw [List.length_append, hl, hz]; omega), hz]
  have e1 : (l.flatMap f ++ rs).take (i * z) = (l.take i).flatMap f := by
    have hlt : (List.take i l).length = i := by rw [List.length_take]; omega
    have h3 := flat_len hz (l.take i)
    rw [hlt] at h3
    conv => lhs; rw [← List.take_append_drop i l, List.flatMap_append, List.append_assoc]
    rw [← h3, List.take_left]
  have e2 : (l.flatMap f ++ rs).drop (i * z + z) = (l.drop (i + 1)).flatMap f ++ rs := by
    have : i * z + z = (i + 1) * z := by rw [Nat.add_mul, Nat.one_mul]
    rw [this, List.drop_append_of_le_length (by rw [hl]; exact Nat.mul_le_mul_right z (by omega)), flat_drop hz l (i + 1) (by omega)]
  rw [e1, e2, List.set_eq_take_append_cons_drop, if_pos hi, List.flatMap_append, List.flatMap_cons]
  simp only [List.append_assoc]
theorem flat_room (hz : ∀ a, (f a).length = z) {l : List α} {i : Nat} (hi : i < l.length) (rs : List Value) : Nat.ble (i * z + z) (l.flatMap f ++ rs).length = true := by
  have h2 : i * z + z ≤ l.length * z := by
    have := Nat.mul_le_mul_right z (show i + 1 ≤ l.length by omega)
    rw [Nat.add_mul, Nat.one_mul] at this; exact this
  apply Nat.ble_eq_true_of_le
  rw [List.length_append, flat_len hz]; omega
end
end Go.Proofs.YtmlbgdhkacajaaaDoor
