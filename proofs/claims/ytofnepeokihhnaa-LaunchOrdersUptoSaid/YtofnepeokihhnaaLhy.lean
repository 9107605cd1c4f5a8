/- The order of starting of a description without an error: every node once, behind those it depends on. No conditions. -/
import Derived.Test.YtofnepeokihhnaaLhw
namespace Go.Proofs.Ytofnepeokihhnaa
open Go.RowKit
set_option linter.unusedVariables false
set_option linter.unusedSimpArgs false

theorem start_nodup (l : List Ln) : (startF l).Nodup := going_ind (p := fun ns => ns.Nodup) (by simp) (fun ns x h hx => nodup_snoc h (ready_has (List.find?_some hx)).1)
theorem start_sub (l : List Ln) : ∀ n ∈ startF l, n ∈ nodesF l := going_ind (p := fun ns => ∀ n ∈ ns, n ∈ nodesF l) (by simp) (fun ns x h hx n hn => by
  rcases List.mem_append.1 hn with hn | hn
  · exact h n hn
  · rw [List.mem_singleton] at hn; subst hn
    exact List.mem_map.2 ⟨x, List.mem_of_find?_eq_some hx, rfl⟩)
theorem start_full {l : List Ln} (h : checkF l = 0) : (startF l).length = l.length := by
  have := start_len l
  have := (check_parts h).2.2
  omega
theorem start_all {l : List Ln} (h : checkF l = 0) {n : Tx} (hn : n ∈ nodesF l) : n ∈ startF l := by
  by_cases hm : n ∈ startF l
  · exact hm
  · exfalso
    have h1 : (n :: startF l).Nodup := List.nodup_cons.2 ⟨hm, start_nodup l⟩
    have h2 := nodup_len h1 (m := nodesF l) (fun m hm => by
      rcases List.mem_cons.1 hm with rfl | hm
      · exact hn
      · exact start_sub l m hm)
    have := start_full h
    unfold nodesF at h2
    rw [List.length_map, List.length_cons] at h2
    omega
/-- two entries with one node are one entry -/
theorem entry_one {l : List Ln} (h : checkF l = 0) {i j : Nat} {x y : Ln} (hx : l[i]? = some x) (hy : l[j]? = some y) (he : x.node = y.node) : x = y := by
  have key : ∀ {i j : Nat} {x y : Ln}, l[i]? = some x → l[j]? = some y → x.node = y.node → ¬ i < j := by
    intro i j x y hx hy he hij
    obtain ⟨_, hall, _⟩ := check_parts h
    obtain ⟨_, _, hn, _⟩ := entry_parts hy (hall j (List.getElem?_eq_some_iff.1 hy).1)
    have : 0 ≤ idxF (l.take j) y.node := idxF_mem.2 (List.mem_map.2 ⟨x, List.mem_of_getElem? (i := i) (by rw [List.getElem?_take, if_pos hij]; exact hx), he⟩)
    omega
  have h1 := key hx hy he
  have h2 := key hy hx he.symm
  have : i = j := by omega
  subst this
  rw [hx] at hy; injection hy
/-- where a string stands in a list without doubles -/
theorem place_at {ns : List Tx} (hd : ns.Nodup) {k : Nat} {n : Tx} (hk : ns[k]? = some n) : idxP (fun y => decide (y = n)) ns = k := by
  refine idxP_hit hk (decide_eq_true rfl) (fun j y hj hy => decide_eq_false (fun e => ?_))
  subst e
  have h1 := (List.getElem?_eq_some_iff.1 hk)
  have h2 := (List.getElem?_eq_some_iff.1 hy)
  rw [List.nodup_iff_pairwise_ne, List.pairwise_iff_getElem] at hd
  exact hd j k h2.1 h1.1 hj (by rw [h1.2, h2.2])
/-- an entry's place in the order, and the places of what it comes after -/
theorem order_before {l : List Ln} (h : checkF l = 0) {i : Nat} {x : Ln} (hx : l[i]? = some x) : ∃ k : Nat, (startF l)[k]? = some x.node ∧ idxP (fun y => decide (y = x.node)) (startF l) = k ∧
    ∀ n ∈ x.after, ∃ m : Nat, idxP (fun y => decide (y = n)) (startF l) = m ∧ m < k ∧ (startF l)[m]? = some n := by
  have hm : x.node ∈ startF l := start_all h (List.mem_map.2 ⟨x, List.mem_of_getElem? hx, rfl⟩)
  obtain ⟨k, hk⟩ := List.getElem?_of_mem hm
  refine ⟨k, hk, place_at (start_nodup l) hk, fun n hn => ?_⟩
  obtain ⟨y, hy, e⟩ := start_stage l k _ hk
  obtain ⟨j, hj⟩ := List.getElem?_of_mem (List.mem_of_find?_eq_some hy)
  have hxy := entry_one h hx hj e
  subst hxy
  have hin := (ready_has (List.find?_some hy)).2 n hn
  obtain ⟨m, hm⟩ := List.getElem?_of_mem (hasF_mem.1 hin)
  rw [List.getElem?_take] at hm
  split at hm
  · rename_i hmk
    exact ⟨m, place_at (start_nodup l) hm, hmk, hm⟩
  · cases hm
theorem rev_at {α : Type} {l : List α} {k : Nat} {x : α} (hk : l[k]? = some x) : l.reverse[l.length - 1 - k]? = some x := by
  have hl := (List.getElem?_eq_some_iff.1 hk).1
  rw [List.getElem?_reverse (by omega), show l.length - 1 - (l.length - 1 - k) = k by omega]; exact hk
end Go.Proofs.Ytofnepeokihhnaa
