/- The law Once: what is known of goals holds. No conditions. -/
import Derived.Test.YtndkifkaejmibaaGreatDoorSwb

namespace Go.Proofs.YtndkifkaejmibaaGreatDoor
open Go.RowKit
set_option maxRecDepth 4000
set_option linter.unusedVariables false
set_option linter.unusedSimpArgs false
set_option maxHeartbeats 16000000

def cntA (l : List Gl) (i : Nat) : Nat := (l.take i).countP fun g => g.st == 2 || g.st == 3
def cntW (l : List Gl) (i : Nat) : Nat := (l.take i).countP fun g => g.st == 1
def cntE (l : List Gl) (i : Nat) : Nat := (l.take i).countP fun g => decide (4 ≤ g.st) && decide (g.st ≤ 6)
def tms (l : List Gl) (i : Nat) : List Gl := (l.take i).filter fun g => termF g.st
theorem cnt_le (l : List Gl) (i : Nat) : cntA l i ≤ i ∧ cntW l i ≤ i ∧ cntE l i ≤ i := by
  have h : (l.take i).length ≤ i := by rw [List.length_take]; omega
  exact ⟨Nat.le_trans List.countP_le_length h, Nat.le_trans List.countP_le_length h, Nat.le_trans List.countP_le_length h⟩
theorem take_snoc {l : List Gl} {i : Nat} {x : Gl} (hx : l[i]? = some x) : l.take (i + 1) = l.take i ++ [x] := by rw [List.take_add_one, hx]; rfl
theorem cntA_step {l : List Gl} {i : Nat} {x : Gl} (hx : l[i]? = some x) : ((cntA l (i + 1) : Nat) : Int) = if x.st = 2 ∨ x.st = 3 then (cntA l i : Int) + 1 else (cntA l i : Int) := by
  unfold cntA
  rw [take_snoc hx, List.countP_append, List.countP_singleton]
  by_cases h : x.st = 2 ∨ x.st = 3
  · rw [if_pos h, if_pos (by simpa using h)]; rfl
  · rw [if_neg h, if_neg (by simpa using h)]; rfl
theorem cntE_step {l : List Gl} {i : Nat} {x : Gl} (hx : l[i]? = some x) : ((cntE l (i + 1) : Nat) : Int) = if 4 ≤ x.st ∧ x.st ≤ 6 then (cntE l i : Int) + 1 else (cntE l i : Int) := by
  unfold cntE
  rw [take_snoc hx, List.countP_append, List.countP_singleton]
  by_cases h : 4 ≤ x.st ∧ x.st ≤ 6
  · rw [if_pos h, if_pos (by simpa using h)]; rfl
  · rw [if_neg h, if_neg (by simpa using h)]; rfl
theorem count_one {l : List Gl} (h : ∀ i j : Nat, ∀ x y : Gl, l[i]? = some x → l[j]? = some y → (x.st = 2 ∨ x.st = 3) → (y.st = 2 ∨ y.st = 3) → i = j) : ∀ i, cntA l i ≤ 1 ∧ (∀ (k : Nat) (x : Gl), l[k]? = some x → (x.st = 2 ∨ x.st = 3) → cntA l i = if k < i then 1 else 0)
  | 0 => ⟨by simp [cntA], fun k x _ _ => by simp [cntA]⟩
  | i + 1 => by
    obtain ⟨h1, h2⟩ := count_one h i
    rcases hx : l[i]? with _ | x
    · have e : cntA l (i + 1) = cntA l i := by unfold cntA; rw [List.take_add_one, hx]; simp
      rw [e]
      refine ⟨h1, fun k y hk hy => ?_⟩
      have hki : k < i := by
        have a := (List.getElem?_eq_some_iff.1 hk).1
        have b := List.getElem?_eq_none_iff.1 hx
        omega
      rw [h2 k y hk hy, if_pos hki, if_pos (by omega)]
    · have hs := cntA_step hx
      by_cases hst : x.st = 2 ∨ x.st = 3
      · rw [if_pos hst] at hs
        have h0 : cntA l i = 0 := by rw [h2 i x hx hst, if_neg (by omega)]
        refine ⟨by omega, fun k y hk hy => ?_⟩
        have := h i k x y hx hk hst hy
        subst this
        rw [if_pos (by omega)]; omega
      · rw [if_neg hst] at hs
        refine ⟨by omega, fun k y hk hy => ?_⟩
        have hki : k ≠ i := by rintro rfl; rw [hx] at hk; injection hk with hk; subst hk; exact hst hy
        have := h2 k y hk hy
        by_cases hlt : k < i
        · rw [if_pos hlt] at this; rw [if_pos (by omega)]; omega
        · rw [if_neg hlt] at this; rw [if_neg (by omega)]; omega
theorem cntW_zero {l : List Gl} (h : ∀ i, i < l.length → (gAt l i).st ≠ 1) : cntW l l.length = 0 := by
  unfold cntW
  rw [List.take_length, List.countP_eq_zero]
  intro g hg
  obtain ⟨k, hk, rfl⟩ := List.getElem_of_mem hg
  have := h k hk
  have e : gAt l k = l[k] := by unfold gAt; rw [List.getD_eq_getElem?_getD, List.getElem?_eq_getElem hk]; rfl
  rw [e] at this
  simpa using this
theorem Inv.counts {s : Sv} (h : Inv s) : (cntA s.l s.l.length : Int) ≤ 1 ∧ ((cntA s.l s.l.length : Int) = 1 ∨ (cntW s.l s.l.length : Int) = 0) := by
  have hone : ∀ i j : Nat, ∀ x y : Gl, s.l[i]? = some x → s.l[j]? = some y → (x.st = 2 ∨ x.st = 3) → (y.st = 2 ∨ y.st = 3) → i = j := by
    intro i j x y hx hy h1 h2
    have hi := (List.getElem?_eq_some_iff.1 hx).1
    have hj := (List.getElem?_eq_some_iff.1 hy).1
    rw [gAt_some hi] at hx
    rw [gAt_some hj] at hy
    injection hx with hx
    injection hy with hy
    subst hx hy
    have a := h.c1 i hi h1
    have b := h.c1 j hj h2
    omega
  obtain ⟨a, b⟩ := count_one hone s.l.length
  refine ⟨by omega, ?_⟩
  by_cases hc : 0 ≤ s.cur
  · obtain ⟨c1, c2⟩ := h.c2 hc
    have := b _ _ (gAt_some c1) c2
    rw [if_pos c1] at this
    omega
  · have := cntW_zero (h.idle (by omega))
    omega
theorem ends_count {p : GE} (h : GI p) : p.2.length = cntE p.1 p.1.length := by
  have key : ∀ n, n ≤ p.1.length → cntE p.1 n = ((List.range n).filter fun i => decide (4 ≤ (gAt p.1 i).st) && decide ((gAt p.1 i).st ≤ 6)).length := by
    intro n
    induction n with
    | zero => intro _; simp [cntE]
    | succ n ih =>
      intro hn
      have hx := gAt_some (l := p.1) (i := n) (by omega)
      have hs := cntE_step hx
      rw [List.range_succ, List.filter_append, List.length_append, ← ih (by omega)]
      by_cases hst : 4 ≤ (gAt p.1 n).st ∧ (gAt p.1 n).st ≤ 6
      · rw [if_pos hst] at hs
        rw [List.filter_cons, if_pos (by simpa using hst)]
        simp only [List.filter_nil, List.length_cons, List.length_nil]; omega
      · rw [if_neg hst] at hs
        rw [List.filter_cons, if_neg (by simpa using hst)]
        simp only [List.filter_nil, List.length_nil]; omega
  rw [key _ (Nat.le_refl _)]
  apply List.Perm.length_eq
  rw [List.perm_iff_count]
  intro a
  rw [List.Nodup.count h.nodup, List.Nodup.count (List.Pairwise.filter _ List.nodup_range)]
  have e : a ∈ p.2 ↔ a ∈ (List.range p.1.length).filter fun i => decide (4 ≤ (gAt p.1 i).st) && decide ((gAt p.1 i).st ≤ 6) := by
    rw [h.ends a, List.mem_filter, List.mem_range]; simp
  simp only [e]
section
variable {w0 : World} {kb bs bj bm : Nat} {s : Sv} {ids : List (Int × Int)} {acc : List Bool} {fin : List Gl} {HK H : List (Nat × Obj)}
end
end Go.Proofs.YtndkifkaejmibaaGreatDoor
