/- What holds of several blocks at once, and calls that take them. No conditions. -/
import Derived.Test.YtmlbgdhkacajaaaDoorEnl
namespace Go.Proofs.YtmlbgdhkacajaaaDoor
open Go.RowKit
set_option linter.unusedVariables false
set_option linter.unusedSimpArgs false

section
variable {w w' w0 : World} {Sx : Nat → Prop} {H H' Ha Hc : List (Nat × Obj)}

/-- the blocks of H hold what is listed, and are not the same -/
structure Has (w : World) (H : List (Nat × Obj)) : Prop where
  own : ∀ (i b : Nat) (o : Obj), H[i]? = some (b, o) → w.heap[b]? = some o
  apart : ∀ (i j b c : Nat) (o u : Obj), H[i]? = some (b, o) → H[j]? = some (c, u) → b = c → i = j
def InH (H : List (Nat × Obj)) : Nat → Prop := fun b => ∃ (i : Nat) (o : Obj), H[i]? = some (b, o)

theorem St.has (h : St w0 Sx H w) : Has w H := ⟨fun i b o hi => (h.own i b o hi).1, h.apart⟩
theorem Has.st (h : Has w H) : St w (InH H) H w := ⟨rfl, rfl, rfl, Nat.le_refl _, fun _ _ _ => rfl, fun i b o hi => ⟨h.own i b o hi, Or.inl ⟨i, o, hi⟩⟩, h.apart⟩
theorem Has.mid (h : Has w (Ha ++ H ++ Hc)) : Has w H := by
  have at_ : ∀ (i : Nat) (x : Nat × Obj), H[i]? = some x → (Ha ++ H ++ Hc)[Ha.length + i]? = some x := by
    intro i x hi
    have hlt := (List.getElem?_eq_some_iff.1 hi).1
    rw [List.append_assoc, List.getElem?_append_right (by omega), Nat.add_sub_cancel_left, List.getElem?_append_left hlt]
    exact hi
  exact ⟨fun i b o hi => h.own _ b o (at_ i _ hi), fun i j b c o u hi hj e => by have := h.apart _ _ b c o u (at_ i _ hi) (at_ j _ hj) e; omega⟩

/-- a call that takes the blocks of H, and leaves H' of them -/
theorem St.callM (h : St w0 Sx (Ha ++ H ++ Hc) w) (k : St w (InH H) H' w') : St w0 Sx (Ha ++ H' ++ Hc) w' := by
  have at_ : ∀ (i : Nat) (x : Nat × Obj), H[i]? = some x → (Ha ++ H ++ Hc)[Ha.length + i]? = some x := by
    intro i x hi
    have hlt := (List.getElem?_eq_some_iff.1 hi).1
    rw [List.append_assoc, List.getElem?_append_right (by omega), Nat.add_sub_cancel_left, List.getElem?_append_left hlt]
    exact hi
  have key : ∀ (i : Nat) (x : Nat × Obj), (Ha ++ H' ++ Hc)[i]? = some x → (∃ j, i = Ha.length + j ∧ H'[j]? = some x) ∨
      (∃ j, (Ha ++ H ++ Hc)[j]? = some x ∧ (∀ (i' : Nat) (o' : Obj), H[i']? ≠ some (x.1, o')) ∧ (i < Ha.length ∧ j = i ∨ Ha.length + H'.length ≤ i ∧ j + H'.length = i + H.length)) := by
    intro i x hi
    have hlt := (List.getElem?_eq_some_iff.1 hi).1
    simp only [List.length_append] at hlt
    rcases Nat.lt_or_ge i Ha.length with h1 | h1
    · have e : (Ha ++ H ++ Hc)[i]? = some x := by
        rw [List.append_assoc, List.getElem?_append_left h1] at hi ⊢; exact hi
      refine .inr ⟨i, e, fun i' o' hi' => ?_, .inl ⟨h1, rfl⟩⟩
      have := h.apart i (Ha.length + i') x.1 x.1 x.2 o' e (at_ i' _ hi') rfl
      omega
    · rcases Nat.lt_or_ge i (Ha.length + H'.length) with h2 | h2
      · refine .inl ⟨i - Ha.length, by omega, ?_⟩
        rw [List.append_assoc, List.getElem?_append_right h1, List.getElem?_append_left (by omega)] at hi
        exact hi
      · have e : (Ha ++ H ++ Hc)[i - H'.length + H.length]? = some x := by
          rw [List.getElem?_append_right (by simp; omega)] at hi ⊢
          rw [← hi]
          congr 1
          simp only [List.length_append]
          omega
        refine .inr ⟨i - H'.length + H.length, e, fun i' o' hi' => ?_, .inr ⟨h2, by omega⟩⟩
        have h3 := (List.getElem?_eq_some_iff.1 hi').1
        have := h.apart (i - H'.length + H.length) (Ha.length + i') x.1 x.1 x.2 o' e (at_ i' _ hi') rfl
        omega
  have far : ∀ (j : Nat) (x y : Nat × Obj), H'[j]? = some x → ∀ (m : Nat), (Ha ++ H ++ Hc)[m]? = some y → (∀ (i' : Nat) (o' : Obj), H[i']? ≠ some (y.1, o')) → x.1 ≠ y.1 := by
    intro j x y hj m hm hn e
    rcases (k.own j x.1 x.2 hj).2 with ⟨i', o', hi'⟩ | hge
    · exact hn i' o' (e ▸ hi')
    · have := h.lt (b := y.1) (o := y.2) hm; omega
  refine h.trans k ?_ ?_ ?_
  · rintro b ⟨i, o, hi⟩; exact (h.own _ b o (at_ i _ hi)).2
  · intro i b o hi
    rcases key i _ hi with ⟨j, _, hj⟩ | ⟨j, hj, hn, _⟩
    · exact .inl ⟨j, hj⟩
    · exact .inr ⟨j, hj, fun ⟨i', o', h'⟩ => hn i' o' h'⟩
  · intro i j b c o u hi hj hbc
    rcases key i _ hi with ⟨i1, e1, h1⟩ | ⟨i1, h1, n1, e1⟩ <;> rcases key j _ hj with ⟨j1, e2, h2⟩ | ⟨j1, h2, n2, e2⟩
    · have := k.apart i1 j1 b c o u h1 h2 hbc; omega
    · exact absurd hbc (far i1 _ _ h1 j1 h2 n2)
    · exact absurd hbc.symm (far j1 _ _ h2 i1 h1 n1)
    · have := h.apart i1 j1 b c o u h1 h2 hbc; omega
end
end Go.Proofs.YtmlbgdhkacajaaaDoor
