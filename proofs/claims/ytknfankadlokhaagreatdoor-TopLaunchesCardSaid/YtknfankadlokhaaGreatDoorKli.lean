/- A refused text's error is not 0. No conditions. -/
import Derived.Test.YtknfankadlokhaaGreatDoorKle

namespace Go.Proofs.YtknfankadlokhaaGreatDoor
open Go.RowKit
set_option linter.unusedVariables false
set_option linter.unusedSimpArgs false

theorem scanL_bad {s : Tx} : ∀ (f p : Nat) (l : List Tk) {e a : Int}, p ≤ s.length → s.length + 1 ≤ f + p → scanL s f p l = .bad e a → e ≠ 0
  | 0, p, l, e, a, hp, hf, h => by omega
  | f + 1, p, l, e, a, hp, hf, h => by
    rw [scanL] at h
    have hs := skF_le hp
    split at h
    · rename_i e9 w9 ht
      injection h with h1 h2
      rw [← h1]; exact tok_err ht
    · rename_i t q ht
      split at h
      · cases h
      · rename_i hk
        have := tok_adv hs.2 ht hk
        exact scanL_bad f q _ this.2 (by omega) h
theorem scanF_bad {s : Tx} {e a : Int} (h : scanF s = .bad e a) : e ≠ 0 := by
  unfold scanF at h
  split at h
  · injection h with h _; subst h; decide
  · exact scanL_bad _ _ _ (Nat.zero_le _) (by omega) h
theorem args_bad {x : Tx} {f : Nat} {e a : Int} (h : argsP f (scanF x) = some (.bad e a)) : e ≠ 0 := by
  unfold argsP at h
  cases hx : scanF x with
  | bad e2 a2 => rw [hx] at h; injection h with h; injection h with h1 _; subst h1; exact scanF_bad hx
  | ok ts =>
    rw [hx] at h
    dsimp only at h
    split at h
    · cases h
    · injection h with h; injection h with h _; subst h; decide
    · split at h
      · injection h with h; cases h
      · injection h with h; injection h with h _; subst h; decide
theorem list_bad {x : Tx} {f : Nat} {e a : Int} (h : listP f (scanF x) = some (.bad e a)) : e ≠ 0 := by
  unfold listP at h
  cases hx : scanF x with
  | bad e2 a2 => rw [hx] at h; injection h with h; injection h with h1 _; subst h1; exact scanF_bad hx
  | ok ts =>
    rw [hx] at h
    dsimp only at h
    split at h
    · cases h
    · injection h with h; injection h with h _; subst h; decide
    · split at h
      · rename_i hc; injection h with h; injection h with h _; subst h; exact hc
      · injection h with h; cases h
end Go.Proofs.YtknfankadlokhaaGreatDoor
