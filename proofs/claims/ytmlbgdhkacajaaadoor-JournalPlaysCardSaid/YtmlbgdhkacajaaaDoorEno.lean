/- The list of known blocks: its order does not matter. No conditions. -/
import Derived.Test.YtmlbgdhkacajaaaDoorEnn
namespace Go.Proofs.YtmlbgdhkacajaaaDoor
open Go.RowKit
set_option linter.unusedVariables false
set_option linter.unusedSimpArgs false

theorem nodup_of_apart : ∀ {H : List (Nat × Obj)}, (∀ (i j b c : Nat) (o u : Obj), H[i]? = some (b, o) → H[j]? = some (c, u) → b = c → i = j) → (H.map Prod.fst).Nodup
  | [], _ => List.nodup_nil
  | x :: H, h => by
    rw [List.map_cons, List.nodup_cons]
    refine ⟨fun hm => ?_, nodup_of_apart (H := H) (fun i j b c o u hi hj e => by have := h (i + 1) (j + 1) b c o u (by simpa using hi) (by simpa using hj) e; omega)⟩
    obtain ⟨y, hy, e⟩ := List.mem_map.1 hm
    obtain ⟨i, hi, rfl⟩ := List.mem_iff_getElem.1 hy
    have := h 0 (i + 1) x.1 H[i].1 x.2 H[i].2 rfl (by simp [List.getElem?_eq_getElem hi]) e.symm
    omega
theorem apart_of_nodup {H : List (Nat × Obj)} (h : (H.map Prod.fst).Nodup) (i j b c : Nat) (o u : Obj) (hi : H[i]? = some (b, o)) (hj : H[j]? = some (c, u)) (e : b = c) : i = j := by
  obtain ⟨h1, h2⟩ := List.getElem?_eq_some_iff.1 hi
  obtain ⟨h3, h4⟩ := List.getElem?_eq_some_iff.1 hj
  have hp := List.pairwise_iff_getElem.1 h
  rcases Nat.lt_trichotomy i j with hlt | heq | hlt
  · have := hp i j (by simpa using h1) (by simpa using h3) hlt
    simp [h2, h4, e] at this
  · exact heq
  · have := hp j i (by simpa using h3) (by simpa using h1) hlt
    simp [h2, h4, e] at this

section
variable {w w' w0 : World} {Sx S2 : Nat → Prop} {H H' H2 Ha Hc Hn : List (Nat × Obj)}
theorem St.nodup (h : St w0 Sx H w) : (H.map Prod.fst).Nodup := nodup_of_apart h.apart
theorem Has.nodup (h : Has w H) : (H.map Prod.fst).Nodup := nodup_of_apart h.apart
theorem St.mem (h : St w0 Sx H w) {x : Nat × Obj} (hx : x ∈ H) : w.heap[x.1]? = some x.2 ∧ (Sx x.1 ∨ w0.heap.size ≤ x.1) := by
  obtain ⟨i, hi, rfl⟩ := List.mem_iff_getElem.1 hx
  exact h.own i _ _ (List.getElem?_eq_getElem hi)
theorem Has.mem (h : Has w H) {x : Nat × Obj} (hx : x ∈ H) : w.heap[x.1]? = some x.2 := by
  obtain ⟨i, hi, rfl⟩ := List.mem_iff_getElem.1 hx
  exact h.own i _ _ (List.getElem?_eq_getElem hi)
theorem Has.of (h : ∀ x ∈ H, w.heap[x.1]? = some x.2) (hn : (H.map Prod.fst).Nodup) : Has w H :=
  ⟨fun i b o hi => h (b, o) (List.mem_of_getElem? hi), apart_of_nodup hn⟩
theorem InH_of {x : Nat × Obj} (hx : x ∈ H) : InH H x.1 := by
  obtain ⟨i, hi, rfl⟩ := List.mem_iff_getElem.1 hx
  exact ⟨i, _, List.getElem?_eq_getElem hi⟩
theorem InH.out {b : Nat} (h : InH H b) : ∃ x ∈ H, x.1 = b := by
  obtain ⟨i, o, hi⟩ := h
  exact ⟨_, List.mem_of_getElem? hi, rfl⟩
/-- what is listed may be listed anew: of what is known, or of what lay in the base and was not touched -/
theorem St.regroup (h : St w0 S2 H w) (hS : ∀ b, S2 b → Sx b) (hm : ∀ x ∈ Hn, x ∈ H ∨ (w0.heap[x.1]? = some x.2 ∧ ¬ S2 x.1 ∧ Sx x.1)) (hn : (Hn.map Prod.fst).Nodup) : St w0 Sx Hn w := by
  refine ⟨h.os, h.tape, h.output, h.size, fun k hk hs => h.old k hk (fun e => hs (hS k e)), fun i b o hi => ?_, apart_of_nodup hn⟩
  rcases hm (b, o) (List.mem_of_getElem? hi) with hx | ⟨h1, h2, h3⟩
  · have := h.mem hx
    exact ⟨this.1, this.2.imp (hS b) id⟩
  · exact ⟨h.base h1 h2, Or.inl h3⟩
theorem St.perm (h : St w0 Sx H w) (p : List.Perm Hn H) : St w0 Sx Hn w :=
  h.regroup (fun _ e => e) (fun x hx => .inl (p.mem_iff.1 hx)) ((p.map Prod.fst).nodup_iff.2 h.nodup)
theorem St.sublist (h : St w0 Sx H w) (p : List.Sublist Hn H) : St w0 Sx Hn w :=
  h.regroup (fun _ e => e) (fun x hx => .inl (p.mem hx)) ((p.map Prod.fst).nodup h.nodup)
theorem St.right (h : St w0 Sx (Ha ++ H) w) : St w0 Sx H w := h.sublist (List.sublist_append_right _ _)
theorem Has.sublist (h : Has w H) (p : List.Sublist Hn H) : Has w Hn :=
  Has.of (fun x hx => h.mem (p.mem hx)) ((p.map Prod.fst).nodup h.nodup)
theorem Has.perm (h : Has w H) (p : List.Perm Hn H) : Has w Hn :=
  Has.of (fun x hx => h.mem (p.mem_iff.1 hx)) ((p.map Prod.fst).nodup_iff.2 h.nodup)
theorem Has.later (h : Has w0 H) (k : St w0 NoneS H2 w) : Has w H :=
  Has.of (fun x hx => k.base (h.mem hx) (fun e => e)) h.nodup
/-- a call that touches nothing, and leaves new blocks -/
theorem St.newN (h : St w0 Sx H w) (k : St w NoneS H2 w') : St w0 Sx (H ++ H2) w' := by
  refine h.trans k (fun _ e => e.elim) (fun i b o hi => ?_) (apart_of_nodup ?_)
  · rw [List.getElem?_append] at hi
    split at hi
    · exact .inr ⟨i, hi, fun e => e⟩
    · exact .inl ⟨_, hi⟩
  · rw [List.map_append, List.nodup_append]
    refine ⟨h.nodup, k.nodup, ?_⟩
    intro a ha b hb e
    obtain ⟨x, hx, rfl⟩ := List.mem_map.1 ha
    obtain ⟨y, hy, rfl⟩ := List.mem_map.1 hb
    have h1 := (k.mem hy).2
    obtain ⟨i, hi, rfl⟩ := List.mem_iff_getElem.1 hx
    have h2 := h.lt (i := i) (b := H[i].1) (o := H[i].2) (List.getElem?_eq_getElem hi)
    rcases h1 with h1 | h1
    · exact h1.elim
    · omega
/-- a call that takes the blocks of H, which stand at the list's end, and leaves H' of them -/
theorem St.callE (h : St w0 Sx (Ha ++ H) w) (k : St w (InH H) H' w') : St w0 Sx (Ha ++ H') w' := by
  have := St.callM (Ha := Ha) (Hc := []) (by simpa using h) k
  simpa using this
theorem St.notin (h : St w0 Sx (Ha ++ H) w) {x : Nat × Obj} (hx : x ∈ Ha) : ¬ InH H x.1 := by
  rintro ⟨i, o, hi⟩
  have hn := h.nodup
  rw [List.map_append, List.nodup_append] at hn
  exact hn.2.2 _ (List.mem_map_of_mem hx) _ (List.mem_map_of_mem (List.mem_of_getElem? hi)) rfl
theorem set_perm {α : Type} {l : List α} {i : Nat} (x : α) (h : i < l.length) : List.Perm (l.set i x) ((l.take i ++ l.drop (i + 1)) ++ [x]) := by
  rw [List.set_eq_take_append_cons_drop, if_pos h]
  rw [List.append_assoc]
  exact List.Perm.append_left _ ((List.perm_append_singleton x _).symm)
theorem St.rot {x y : Nat × Obj} (h : St w0 Sx (x :: (H ++ [y])) w) : St w0 Sx (x :: y :: H) w :=
  h.perm (List.Perm.cons _ (List.perm_append_singleton y H).symm)
theorem St.rot2 {x y z : Nat × Obj} (h : St w0 Sx (x :: y :: (H ++ [z])) w) : St w0 Sx (x :: y :: z :: H) w :=
  h.perm (List.Perm.cons _ (List.Perm.cons _ (List.perm_append_singleton z H).symm))
theorem St.rot3 {x y z u : Nat × Obj} (h : St w0 Sx (x :: y :: z :: (H ++ [u])) w) : St w0 Sx (x :: y :: z :: u :: H) w :=
  h.perm (List.Perm.cons _ (List.Perm.cons _ (List.Perm.cons _ (List.perm_append_singleton u H).symm)))
theorem St.front {y : Nat × Obj} (h : St w0 Sx (H ++ [y]) w) : St w0 Sx (y :: H) w := h.perm (List.perm_append_singleton y H).symm
theorem St.cC {X Hr : List (Nat × Obj)} (h : St w0 Sx (X ++ (H ++ Hr)) w) (k : St w (InH H) H' w') : St w0 Sx (X ++ (H' ++ Hr)) w' := by
  have := St.callM (Ha := X) (Hc := Hr) (by simpa using h) k
  simpa using this
theorem St.cR {X Hr Hr' : List (Nat × Obj)} (h : St w0 Sx (X ++ (H ++ Hr)) w) (k : St w (InH Hr) Hr' w') : St w0 Sx (X ++ (H ++ Hr')) w' := by
  have := St.callM (Ha := X ++ H) (Hc := []) (by simpa using h) k
  simpa using this
theorem St.hC {X Hr : List (Nat × Obj)} (h : St w0 Sx (X ++ (H ++ Hr)) w) : Has w H :=
  h.has.sublist ((List.sublist_append_left H Hr).trans (List.sublist_append_right X _))
theorem St.hR {X Hr : List (Nat × Obj)} (h : St w0 Sx (X ++ (H ++ Hr)) w) : Has w Hr :=
  h.has.sublist ((List.sublist_append_right H Hr).trans (List.sublist_append_right X _))
theorem St.hasE (h : St w0 Sx (Ha ++ H) w) : Has w H := h.right.has
end
end Go.Proofs.YtmlbgdhkacajaaaDoor
