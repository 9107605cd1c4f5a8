/- Slices that are given: what their cells hold, told of a list. No conditions. -/
import Derived.Test.YtmlbgdhkacajaaaDoorEnj
import Derived.Deep.Slices
namespace Go.Proofs.YtmlbgdhkacajaaaDoor
open Go.RowKit
set_option linter.unusedVariables false
set_option linter.unusedSimpArgs false
set_option linter.unusedSectionVars false

/-- the value is a slice, and its elements' cells are the lists xs, z cells each -/
def SlAt (w : World) (v : Value) (z : Nat) (xs : List (List Value)) : Prop :=
  ∃ a cap, v = .slice a xs.length cap ∧ ∀ (i : Nat) (x : List Value), xs[i]? = some x → ∃ b off l E fz, a = some ⟨b, off, none⟩ ∧ w.heap[b]? = some (.cells ⟨l⟩ E fz) ∧ (l.drop (off + i * z)).take z = x ∧ x.length = z

theorem SlAt.nil (w : World) (z : Nat) : SlAt w (.slice none 0 0) z [] := ⟨none, 0, rfl, fun i x h => by simp at h⟩

theorem cell_add {w : World} {a : Addr} {v0 : Value} (h : w.cell? a = some v0) : ∃ b off l E fz, a = ⟨b, off, none⟩ ∧ w.heap[b]? = some (.cells ⟨l⟩ E fz) ∧ ∀ k, w.cell? (a.add k) = l[off + k]? := by
  obtain ⟨b, off, spot⟩ := a
  unfold World.cell? at h
  dsimp only at h
  split at h
  · rename_i c E fz hb
    cases spot with
    | some s => simp at h
    | none =>
      obtain ⟨l⟩ := c
      refine ⟨b, off, l, E, fz, rfl, hb, fun k => ?_⟩
      have e : (Addr.add ⟨b, off, none⟩ k) = ⟨b, off + k, none⟩ := by
        simp only [Addr.add]; split
        · rename_i h; rw [h]; rfl
        · rfl
      rw [e, cell_of hb]
  · cases h

theorem slAt_of {w : World} {a : Addr} {len cap z : Nat} {xs : List (List Value)} (hz : 0 < z) (hlen : xs.length = len)
    (h : ∀ (i : Nat) (x : List Value), xs[i]? = some x → x.length = z ∧ ∀ (j : Nat) (c : Value), x[j]? = some c → w.cell? (a.add (i * z + j)) = some c) : SlAt w (.slice (some a) len cap) z xs := by
  subst hlen
  refine ⟨some a, cap, rfl, fun i x hi => ?_⟩
  have hlt : i < xs.length := (List.getElem?_eq_some_iff.1 hi).1
  have h0 : xs[0]? = some (xs[0]'(by omega)) := List.getElem?_eq_getElem (by omega)
  obtain ⟨hl0, hc0⟩ := h 0 _ h0
  have hf : (xs[0]'(by omega))[0]? = some ((xs[0]'(by omega))[0]'(by omega)) := List.getElem?_eq_getElem (by omega)
  have hcell := hc0 0 _ hf
  simp only [Nat.zero_mul, Nat.zero_add, Addr.add, if_true] at hcell
  obtain ⟨b, off, l, E, fz, rfl, hb, hk⟩ := cell_add hcell
  obtain ⟨hl, hc⟩ := h i x hi
  refine ⟨b, off, l, E, fz, rfl, hb, ?_, hl⟩
  apply List.ext_getElem?
  intro j
  rw [List.getElem?_take, List.getElem?_drop]
  split
  · rename_i hj
    have hx : x[j]? = some (x[j]'(by omega)) := List.getElem?_eq_getElem (by omega)
    have := hc j _ hx
    rw [hk] at this
    rw [hx, ← this, Nat.add_assoc]
  · rw [List.getElem?_eq_none (by omega)]

theorem SlAt.cell {l x : List Value} {o z j : Nat} (h : (l.drop o).take z = x) {c : Value} (hj : x[j]? = some c) : l[o + j]? = some c := by
  subst h
  rw [List.getElem?_take] at hj
  split at hj
  · rwa [List.getElem?_drop] at hj
  · cases hj

theorem SlAt.map {α : Type} {w : World} {v : Value} {z : Nat} {f : α → List Value} {l : List α} (h : SlAt w v z (l.map f)) : ∃ a cap, v = .slice a l.length cap ∧
    ∀ (i : Nat) (x : α), l[i]? = some x → ∃ b off c E fz, a = some ⟨b, off, none⟩ ∧ w.heap[b]? = some (.cells ⟨c⟩ E fz) ∧ (c.drop (off + i * z)).take z = f x ∧ ∀ (j : Nat) (d : Value), (f x)[j]? = some d → c[off + i * z + j]? = some d := by
  obtain ⟨a, cap, hv, h⟩ := h
  rw [List.length_map] at hv
  refine ⟨a, cap, hv, fun i x hi => ?_⟩
  obtain ⟨b, off, c, E, fz, ha, hb, hc, hz⟩ := h i (f x) (by rw [List.getElem?_map, hi]; rfl)
  exact ⟨b, off, c, E, fz, ha, hb, hc, fun j d hj => SlAt.cell hc hj⟩

theorem SlAt.later {w0 w : World} {v : Value} {z : Nat} {xs : List (List Value)} {Sx : Nat → Prop} {H : List (Nat × Obj)} (h : SlAt w0 v z xs) (k : St w0 Sx H w) (hS : ∀ b, ¬ Sx b) : SlAt w v z xs := by
  obtain ⟨a, cap, hv, h⟩ := h
  refine ⟨a, cap, hv, fun i x hi => ?_⟩
  obtain ⟨b, off, l, E, fz, ha, hb, hc⟩ := h i x hi
  exact ⟨b, off, l, E, fz, ha, k.base hb (hS b), hc⟩

theorem At_loop {n : Nat} {Q : Exit → Act → World → Prop} {K : Act → World → Prop} {R : Nat → Fr → World → Prop} {k k' : Nat} {L0 L : Fr} {w : World} (hK : ∀ k' L' w' a, k' < k → R k' L' w' → Fits n L' a → K a w')
    (hlt : k' < k) (hm : R k' L0 w) (hs : Sub L0 L) : At n (Exit.then K Q) .normal L w := ⟨fun a ha => hK k' L0 w a hlt hm (ha.sub hs)⟩

theorem list_of {α : Type} {p : Nat → α → Prop} : ∀ (n : Nat), (∀ i, i < n → ∃ s, p i s) → ∃ l : List α, l.length = n ∧ ∀ (i : Nat) (s : α), l[i]? = some s → p i s
  | 0, _ => ⟨[], rfl, fun i s h => by simp at h⟩
  | n + 1, h => by
    obtain ⟨l, hl, hp⟩ := list_of n (fun i hi => h i (by omega))
    obtain ⟨s, hs⟩ := h n (by omega)
    refine ⟨l ++ [s], by simp [hl], fun i t hi => ?_⟩
    rw [List.getElem?_append] at hi
    split at hi
    · exact hp i t hi
    · rename_i hlt
      have : i - l.length = 0 := by
        rcases Nat.eq_zero_or_pos (i - l.length) with h | h
        · exact h
        · rw [List.getElem?_eq_none (by simp; omega)] at hi; cases hi
      rw [this] at hi; simp at hi; subst hi
      have : i = n := by omega
      exact this ▸ hs
end Go.Proofs.YtmlbgdhkacajaaaDoor
