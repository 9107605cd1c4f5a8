/- The order of starting: it ends, and its length. No conditions. -/
import Derived.Test.YtofnepeokihhnaaLhq
namespace Go.Proofs.Ytofnepeokihhnaa
open Go.RowKit
set_option linter.unusedVariables false
set_option linter.unusedSimpArgs false

theorem idxP_find {α : Type} (p : α → Bool) (l : List α) : (idxP p l = -1 ∧ l.find? p = none) ∨ ∃ (i : Nat) (x : α), idxP p l = i ∧ l[i]? = some x ∧ p x = true ∧ l.find? p = some x := by
  rcases idxP_spec p l with ⟨h, hno⟩ | ⟨i, x, h, hx, hp, hno⟩
  · left
    refine ⟨h, ?_⟩
    rw [List.find?_eq_none]
    intro x hx
    obtain ⟨j, hj⟩ := List.getElem?_of_mem hx
    rw [hno j x hj]; simp
  · right
    refine ⟨i, x, h, hx, hp, ?_⟩
    rw [List.find?_eq_some_iff_getElem]
    have hl := List.getElem?_eq_some_iff.1 hx
    refine ⟨hp, i, hl.1, hl.2, fun j hj => ?_⟩
    rw [hno j _ hj (List.getElem?_eq_getElem (by have := hl.1; omega))]; rfl
/-- how many entries' nodes are not listed yet -/
def leftF (l : List Ln) (ns : List Tx) : Nat := l.countP (fun x => !hasF ns x.node)
theorem hasF_snoc (ns : List Tx) (m n : Tx) : hasF (ns ++ [m]) n = (hasF ns n || decide (n = m)) := by simp [hasF]
theorem hasF_mem {ns : List Tx} {n : Tx} : hasF ns n = true ↔ n ∈ ns := by
  unfold hasF
  rw [List.any_eq_true]
  constructor
  · rintro ⟨x, hx, h⟩
    rw [of_decide_eq_true h]; exact hx
  · intro h
    exact ⟨n, h, decide_eq_true rfl⟩
theorem countP_lt {α : Type} {p q : α → Bool} : ∀ {l : List α} {x : α}, x ∈ l → (∀ y, q y = true → p y = true) → p x = true → q x = false → l.countP q < l.countP p
  | [], x, h, _, _, _ => by simp at h
  | y :: l, x, h, hqp, hp, hq => by
    have hle : l.countP q ≤ l.countP p := List.countP_mono_left (fun z _ hz => hqp z hz)
    rcases List.mem_cons.1 h with rfl | h
    · rw [List.countP_cons, List.countP_cons, hp, hq]; simp; omega
    · have := countP_lt h hqp hp hq
      rw [List.countP_cons, List.countP_cons]
      by_cases h1 : q y = true
      · simp only [h1, hqp y h1, if_true]; omega
      · simp only [h1]
        split <;> simp_all <;> omega
theorem leftF_snoc {l : List Ln} {ns : List Tx} {x : Ln} (hx : x ∈ l) (hn : hasF ns x.node = false) : leftF l (ns ++ [x.node]) < leftF l ns := by
  unfold leftF
  refine countP_lt hx (fun y hy => ?_) (by rw [hn]; rfl) (by rw [hasF_snoc]; simp)
  rw [hasF_snoc] at hy
  cases h : hasF ns y.node
  · rfl
  · rw [h] at hy; simp at hy
theorem leftF_nil (l : List Ln) : leftF l [] = l.length := by
  unfold leftF
  rw [List.countP_eq_length]
  intro x _; rfl
theorem runF_stop {l : List Ln} {ns : List Tx} (h : l.find? (readyF ns) = none) (k : Nat) : runF l k ns = ns := by
  cases k with
  | zero => rfl
  | succ k => rw [runF, h]
theorem ready_has {ns : List Tx} {x : Ln} (h : readyF ns x = true) : hasF ns x.node = false ∧ ∀ n ∈ x.after, hasF ns n = true := by
  unfold readyF at h
  rw [Bool.and_eq_true, List.all_eq_true] at h
  refine ⟨?_, h.2⟩
  cases hh : hasF ns x.node
  · rfl
  · rw [hh] at h; simp at h
/-- one step of the run: there is enough fuel -/
theorem runF_step {l : List Ln} {ns : List Tx} {x : Ln} {f : Nat} (hf : leftF l ns ≤ f) (h : l.find? (readyF ns) = some x) : ∃ f', leftF l (ns ++ [x.node]) ≤ f' ∧ runF l f ns = runF l f' (ns ++ [x.node]) := by
  have hx := List.mem_of_find?_eq_some h
  have hr := ready_has (List.find?_some h)
  have := leftF_snoc hx hr.1
  cases f with
  | zero => omega
  | succ f => exact ⟨f, by omega, by rw [runF, h]⟩
/-- what a list of nodes that is being made looks like -/
structure Going (l : List Ln) (ns : List Tx) : Prop where
  run : ∃ f, leftF l ns ≤ f ∧ runF l f ns = startF l
  room : ns.length + leftF l ns ≤ l.length
theorem Going.nil (l : List Ln) : Going l [] := ⟨⟨l.length, by rw [leftF_nil]; exact Nat.le_refl _, rfl⟩, by rw [leftF_nil]; simp⟩
theorem Going.step {l : List Ln} {ns : List Tx} {x : Ln} (h : Going l ns) (hx : l.find? (readyF ns) = some x) : Going l (ns ++ [x.node]) := by
  obtain ⟨f, hf, hr⟩ := h.run
  obtain ⟨f', hf', he⟩ := runF_step hf hx
  have := leftF_snoc (List.mem_of_find?_eq_some hx) (ready_has (List.find?_some hx)).1
  refine ⟨⟨f', hf', he.symm.trans hr⟩, ?_⟩
  have := h.room
  rw [List.length_append]; simp; omega
theorem Going.stop {l : List Ln} {ns : List Tx} (h : Going l ns) (hx : l.find? (readyF ns) = none) : ns = startF l := by
  obtain ⟨f, _, hr⟩ := h.run
  rw [← hr, runF_stop hx]
/-- by steps: whatever holds of every stage holds of the order -/
theorem going_ind {l : List Ln} {p : List Tx → Prop} (h0 : p []) (hs : ∀ ns x, p ns → l.find? (readyF ns) = some x → p (ns ++ [x.node])) : p (startF l) := by
  have : ∀ (k : Nat) (ns : List Tx), p ns → p (runF l k ns) := by
    intro k
    induction k with
    | zero => intro ns h; exact h
    | succ k ih =>
      intro ns h
      rw [runF]
      split
      · exact h
      · rename_i x hx; exact ih _ (hs ns x h hx)
  exact this _ _ h0
theorem start_len (l : List Ln) : (startF l).length ≤ l.length := by
  have : Going l (startF l) := going_ind (Going.nil l) (fun ns x h hx => h.step hx)
  have := this.room
  omega
end Go.Proofs.Ytofnepeokihhnaa
