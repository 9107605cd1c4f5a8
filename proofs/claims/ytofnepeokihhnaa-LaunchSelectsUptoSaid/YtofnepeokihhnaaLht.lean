/- What a description without an error is like: its lists, its nodes; what a node depends on. No conditions. -/
import Derived.Test.YtofnepeokihhnaaLhr
namespace Go.Proofs.Ytofnepeokihhnaa
open Go.RowKit
set_option linter.unusedVariables false
set_option linter.unusedSimpArgs false

theorem check_parts {l : List Ln} (h : checkF l = 0) : l.length ≤ 24 ∧ (∀ j, j < l.length → entryF l j = 0) ∧ l.length ≤ (startF l).length := by
  unfold checkF at h
  split at h
  · cases h
  · dsimp only at h
    split at h
    · rename_i h1; exact absurd h h1
    · rename_i h1 h2
      refine ⟨by omega, firstE_zero (Decidable.not_not.1 h2), ?_⟩
      split at h
      · cases h
      · omega
theorem entry_parts {l : List Ln} {i : Nat} {x : Ln} (hx : l[i]? = some x) (h : entryF l i = 0) : nameF x.node = true ∧ nameF x.prog = true ∧ idxF (l.take i) x.node < 0 ∧ condF x.cond = 0 ∧ listsF l x = 0 := by
  unfold entryF at h
  rw [hx] at h
  dsimp only at h
  split at h
  · cases h
  · rename_i h1
    split at h
    · cases h
    · rename_i h2
      split at h
      · rename_i h3; exact absurd h h3
      · rename_i h3
        simp only [not_or, Bool.not_eq_false] at h1
        exact ⟨h1.1, h1.2, by omega, Decidable.not_not.1 h3, h⟩
theorem lists_parts {l : List Ln} {x : Ln} (h : listsF l x = 0) : (∀ j, j < x.sets.length → setE x.sets j = 0) ∧ (∀ j, j < x.after.length → aftE l x.after j = 0) := by
  unfold listsF at h
  dsimp only at h
  split at h
  · rename_i h1; exact absurd h h1
  · rename_i h1
    exact ⟨firstE_zero (Decidable.not_not.1 h1), firstE_zero h⟩
theorem after_parts {l : List Ln} {a : List Tx} (h : ∀ j, j < a.length → aftE l a j = 0) {i : Nat} {n : Tx} (hn : a[i]? = some n) : 0 ≤ idxF l n ∧ hasF (a.take i) n = false := by
  have h1 := h i (List.getElem?_eq_some_iff.1 hn).1
  unfold aftE at h1
  rw [hn] at h1
  dsimp only at h1
  split at h1
  · cases h1
  · split at h1
    · cases h1
    · rename_i h2 h3
      exact ⟨by omega, by unfold hasF; exact Bool.eq_false_iff.2 h3⟩
theorem sets_parts {s : List Sg} (h : ∀ j, j < s.length → setE s j = 0) {i : Nat} {x : Sg} (hx : s[i]? = some x) : nameF x.1 = true ∧ plainF x.2 = true ∧ (s.take i).any (fun y => decide (y.1 = x.1)) = false := by
  have h1 := h i (List.getElem?_eq_some_iff.1 hx).1
  unfold setE at h1
  rw [hx] at h1
  dsimp only at h1
  split at h1
  · cases h1
  · split at h1
    · cases h1
    · split at h1
      · cases h1
      · rename_i h2 h3 h4
        exact ⟨by simpa using h2, by simpa using h4, Bool.eq_false_iff.2 h3⟩
theorem plainF_size {s : Tx} (h : plainF s = true) : s.length ≤ 200 := by
  unfold plainF at h
  rw [Bool.and_eq_true] at h
  exact of_decide_eq_true h.1
/-- the nodes of a description -/
def nodesF (l : List Ln) : List Tx := l.map (·.node)
theorem idxF_mem {l : List Ln} {n : Tx} : 0 ≤ idxF l n ↔ n ∈ nodesF l := by
  have h := idxP_pos (fun x : Ln => decide (x.node = n)) l
  unfold idxF nodesF
  rw [← decide_eq_true_iff (p := 0 ≤ _), h, List.any_eq_true, List.mem_map]
  simp
theorem idxF_at {l : List Ln} {n : Tx} (h : 0 ≤ idxF l n) : ∃ (i : Nat) (x : Ln), idxF l n = i ∧ l[i]? = some x ∧ x.node = n := by
  rcases idxP_spec (fun x : Ln => decide (x.node = n)) l with ⟨h1, _⟩ | ⟨i, x, h1, h2, h3, _⟩
  · unfold idxF at h; omega
  · exact ⟨i, x, h1, h2, of_decide_eq_true h3⟩
theorem nodup_of_has {a : List Tx} (h : ∀ (i : Nat) (n : Tx), a[i]? = some n → hasF (a.take i) n = false) : a.Nodup := by
  rw [List.nodup_iff_pairwise_ne, List.pairwise_iff_getElem]
  intro i j hi hj hij e
  have := h j _ (List.getElem?_eq_getElem hj)
  have hm : a[j] ∈ a.take j := by
    rw [← e]
    exact List.mem_take_iff_getElem.2 ⟨i, by omega, rfl⟩
  rw [hasF_mem.2 hm] at this; cases this
theorem nodup_len : ∀ {m a : List Tx}, a.Nodup → (∀ n ∈ a, n ∈ m) → a.length ≤ m.length
  | [], a, _, hs => by
    cases a with
    | nil => simp
    | cons x _ => exact absurd (hs x List.mem_cons_self) (by simp)
  | x :: m, a, hn, hs => by
    by_cases hx : x ∈ a
    · have h1 := nodup_len (m := m) (hn.erase x) (fun n hna => by
        have := (hn.mem_erase_iff).1 hna
        rcases List.mem_cons.1 (hs n this.2) with e | h
        · exact absurd e this.1
        · exact h)
      have h2 := List.length_erase_of_mem hx
      have h3 : 0 < a.length := List.length_pos_of_mem hx
      rw [List.length_cons]; omega
    · have h1 := nodup_len (m := m) hn (fun n hna => by
        rcases List.mem_cons.1 (hs n hna) with e | h
        · subst e; exact absurd hna hx
        · exact h)
      rw [List.length_cons]; omega
theorem nodup_snoc {a : List Tx} {n : Tx} (h : a.Nodup) (hn : hasF a n = false) : (a ++ [n]).Nodup := by
  rw [List.nodup_append]
  refine ⟨h, by simp, fun x hx y hy e => ?_⟩
  rw [List.mem_singleton] at hy
  subst hy; subst e
  rw [hasF_mem.2 hx] at hn; cases hn
/-- what an entry with this node has in its After -/
def aftOf (l : List Ln) (n : Tx) : List Tx := match l[(idxF l n).toNat]? with | some x => x.after | none => []
def addF (t : List Tx) (a : List Tx) : List Tx := a.foldl (fun t n => if hasF t n = true then t else t ++ [n]) t
def depR (l : List Ln) (b : Tx) : Nat → Nat → List Tx → Bool
  | 0, _, _ => false
  | k + 1, i, t => match t[i]? with
    | none => false
    | some x => if x = b then true else depR l b k (i + 1) (addF t (aftOf l x))
def depF (l : List Ln) (a b : Tx) : Bool := depR l b (l.length + 1) 0 (aftOf l a)
def dependsF (l : List Ln) (a b : Tx) : Bool := decide (checkF l = 0) && (decide (0 ≤ idxF l a) && (decide (0 ≤ idxF l b) && depF l a b))
/-- a list of nodes without doubles -/
structure Todo (l : List Ln) (t : List Tx) : Prop where
  nodup : t.Nodup
  nodes : ∀ n ∈ t, n ∈ nodesF l
theorem Todo.len {l : List Ln} {t : List Tx} (h : Todo l t) : t.length ≤ l.length := by
  have := nodup_len h.nodup h.nodes
  unfold nodesF at this
  rwa [List.length_map] at this
theorem after_todo {l : List Ln} {x : Ln} (h : checkF l = 0) (hx : x ∈ l) : Todo l x.after := by
  obtain ⟨i, hi⟩ := List.getElem?_of_mem hx
  obtain ⟨_, he, _⟩ := check_parts h
  obtain ⟨_, _, _, _, hl⟩ := entry_parts hi (he i (List.getElem?_eq_some_iff.1 hi).1)
  obtain ⟨_, ha⟩ := lists_parts hl
  refine ⟨nodup_of_has fun i n hn => (after_parts ha hn).2, fun n hn => ?_⟩
  obtain ⟨j, hj⟩ := List.getElem?_of_mem hn
  exact idxF_mem.1 (after_parts ha hj).1
theorem Todo.add {l : List Ln} {t : List Tx} (h : Todo l t) {n : Tx} (hn : n ∈ nodesF l) : Todo l (if hasF t n = true then t else t ++ [n]) := by
  split
  · exact h
  · rename_i hh
    refine ⟨nodup_snoc h.nodup (by simpa using hh), fun m hm => ?_⟩
    rcases List.mem_append.1 hm with hm | hm
    · exact h.nodes m hm
    · rw [List.mem_singleton] at hm; subst hm; exact hn
theorem Todo.adds {l : List Ln} : ∀ {a t : List Tx}, Todo l t → (∀ n ∈ a, n ∈ nodesF l) → Todo l (addF t a)
  | [], t, h, _ => h
  | n :: a, t, h, ha => by
    have : addF t (n :: a) = addF (if hasF t n = true then t else t ++ [n]) a := rfl
    rw [this]
    exact Todo.adds (h.add (ha n List.mem_cons_self)) (fun m hm => ha m (List.mem_cons_of_mem _ hm))
theorem addF_take {a t : List Tx} {j : Nat} {n : Tx} (hn : a[j]? = some n) : addF t (a.take (j + 1)) = if hasF (addF t (a.take j)) n = true then addF t (a.take j) else addF t (a.take j) ++ [n] := by
  unfold addF
  rw [List.take_add_one, hn, List.foldl_append]; rfl
theorem addF_len : ∀ (a t : List Tx), t.length ≤ (addF t a).length
  | [], t => Nat.le_refl _
  | n :: a, t => by
    have : addF t (n :: a) = addF (if hasF t n = true then t else t ++ [n]) a := rfl
    rw [this]
    refine Nat.le_trans ?_ (addF_len a _)
    split <;> simp
theorem addF_get : ∀ (a t : List Tx) (i : Nat) (x : Tx), t[i]? = some x → (addF t a)[i]? = some x
  | [], t, i, x, h => h
  | n :: a, t, i, x, h => by
    have : addF t (n :: a) = addF (if hasF t n = true then t else t ++ [n]) a := rfl
    rw [this]
    refine addF_get a _ i x ?_
    split
    · exact h
    · rw [List.getElem?_append_left (List.getElem?_eq_some_iff.1 h).1]; exact h
end Go.Proofs.Ytofnepeokihhnaa
