/- The texts of parsed arguments have bounded sizes. No conditions. -/
import Derived.Test.YtknfankadlokhaaGreatDoorKld

namespace Go.Proofs.YtknfankadlokhaaGreatDoor
open Go.RowKit
set_option linter.unusedVariables false
set_option linter.unusedSimpArgs false

theorem scanF_tx {s : Tx} {ts : List Tk} (h : scanF s = .ok ts) : ∀ p, (tkAt ts p).tx.length ≤ 100000 := by
  unfold scanF at h
  split at h
  · cases h
  rename_i hs
  obtain ⟨h1, h2, h3⟩ := scanL_ok (by omega) _ _ _ _ h (fun t ht => (by cases ht))
  intro p
  rw [tkAt, List.getD_eq_getElem?_getD]
  cases hp : ts[p]? with
  | none => exact Nat.zero_le _
  | some t => have := h3 t (List.mem_of_getElem? hp); show List.length _ ≤ _; simp only [Option.getD_some]; omega
section
variable {ts : List Tk}
theorem setR_tx' {p q : Nat} {s : Sg} {m : Nat} (htl : ∀ p, (tkAt ts p).tx.length ≤ m) (h : setR ts p = .ok s q) : s.2.length ≤ m := by
  unfold setR at h
  split at h
  · cases h
  split at h
  · cases h
  split at h
  · cases h
  rename_i h3
  injection h with e1 e2
  subst e1
  unfold takeR at h3
  split at h3
  · injection h3 with h3 _; subst h3; exact htl _
  · cases h3
theorem setsL_tx {m : Nat} (htl : ∀ p, (tkAt ts p).tx.length ≤ m) : ∀ (f : Nat) (l : List Sg) (p : Nat) {l' : List Sg} {q : Nat}, (∀ s ∈ l, s.2.length ≤ m) → setsL ts f l p = some (.ok l' q) → ∀ s ∈ l', s.2.length ≤ m
  | 0, l, p, l', q, _, h => by rw [setsL] at h; cases h
  | f + 1, l, p, l', q, hl, h => by
    rw [setsL] at h
    split at h
    · cases h
    rename_i s q1 hs
    have hl2 : ∀ x ∈ l ++ [s], x.2.length ≤ m := fun x hx => by
      rcases List.mem_append.1 hx with hx | hx
      · exact hl x hx
      · rw [List.mem_singleton.1 hx]; exact setR_tx' htl hs
    split at h
    · exact setsL_tx htl f _ _ hl2 h
    · injection h with h; injection h with e1 e2; subst e1; exact hl2
end
theorem args_tx {x : Tx} {f : Nat} {g : List Sg} (h : argsP f (scanF x) = some (.ok g)) : g.length ≤ 9223372036854775807 ∧ ∀ a ∈ g, a.2.length ≤ 100000 := by
  have hok := scan_ok x
  unfold argsP at h
  cases hx : scanF x with
  | bad e a => rw [hx] at h; dsimp only at h; injection h with h; cases h
  | ok ts =>
    rw [hx] at h hok
    obtain ⟨hk, hl, htl⟩ := hok
    dsimp only at h
    split at h
    · cases h
    · injection h with h; cases h
    rename_i l1 q1 h1
    split at h
    · injection h with h
      injection h with h
      subst h
      unfold setsR at h1
      split at h1
      · injection h1 with h1; injection h1 with e1 _; subst e1; exact ⟨Nat.zero_le _, fun a ha => (by cases ha)⟩
      · have := setsL_num hk f [] 0 hk.pos (Nat.zero_le _) h1
        exact ⟨by omega, setsL_tx (scanF_tx hx) f [] 0 (fun a ha => (by cases ha)) h1⟩
    · injection h with h; cases h
end Go.Proofs.YtknfankadlokhaaGreatDoor
