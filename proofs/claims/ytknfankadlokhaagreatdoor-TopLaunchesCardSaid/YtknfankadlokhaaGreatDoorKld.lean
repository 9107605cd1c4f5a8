/- How many nodes and settings a parsed entry can have. No conditions. -/
import Derived.Test.YtknfankadlokhaaGreatDoorNI

namespace Go.Proofs.YtknfankadlokhaaGreatDoor
open Go.RowKit
set_option linter.unusedVariables false
set_option linter.unusedSimpArgs false

section
variable {ts : List Tk}
theorem aftL_num (hk : TkOk ts) : ∀ (f : Nat) (l : List Tx) (p : Nat) {l' : List Tx} {q : Nat}, p < ts.length → l.length ≤ p → aftL ts f l p = some (.ok l' q) → l'.length ≤ ts.length
  | 0, l, p, l', q, _, _, h => by rw [aftL] at h; cases h
  | f + 1, l, p, l', q, hp, hl, h => by
    rw [aftL] at h
    split at h
    · cases h
    rename_i s q1 hs
    obtain ⟨_, _, rfl, h1⟩ := takeR_ok hk hp (by decide) hs
    split at h
    · rename_i hm
      exact aftL_num hk f _ _ (hk.mk1 h1 hm) (by simp; omega) h
    · injection h with h; injection h with e1 e2; subst e1; simp; omega
theorem setsL_num (hk : TkOk ts) : ∀ (f : Nat) (l : List Sg) (p : Nat) {l' : List Sg} {q : Nat}, p < ts.length → l.length ≤ p → setsL ts f l p = some (.ok l' q) → l'.length ≤ ts.length
  | 0, l, p, l', q, _, _, h => by rw [setsL] at h; cases h
  | f + 1, l, p, l', q, hp, hl, h => by
    rw [setsL] at h
    split at h
    · cases h
    rename_i s q1 hs
    obtain ⟨h0, h1⟩ := setR_ok hk hp hs
    split at h
    · rename_i hm
      exact setsL_num hk f _ _ (hk.mk1 h1 hm) (by simp; omega) h
    · injection h with h; injection h with e1 e2; subst e1; simp; omega
theorem entR_num (hk : TkOk ts) {f p q : Nat} {e : Ln} (hp : p < ts.length) (h : entR ts f p = some (.ok e q)) : e.after.length ≤ ts.length ∧ e.sets.length ≤ ts.length := by
  unfold entR at h
  split at h
  · rename_i hm
    have hp1 := hk.wd1 hp hm
    split at h
    · cases h
    rename_i nd q1 h1
    obtain ⟨_, _, rfl, l1⟩ := takeR_ok hk hp1 (by decide) h1
    split at h
    · cases h
    rename_i u q2 h2
    obtain ⟨_, rfl, l2⟩ := markR_ok hk l1 h2
    split at h
    · cases h
    rename_i pg q3 h3
    obtain ⟨_, _, rfl, l3⟩ := takeR_ok hk l2 (by decide) h3
    split at h
    · cases h
    · cases h
    rename_i c q4 h4
    obtain ⟨g4, l4⟩ := ifR_le hk l3 h4
    split at h
    · cases h
    · cases h
    rename_i a q5 h5
    obtain ⟨g5, l5⟩ := aftR_le hk l4 h5
    split at h
    · cases h
    · cases h
    rename_i s q6 h6
    injection h with h
    injection h with e1 _
    subst e1
    refine ⟨?_, ?_⟩
    · unfold aftR at h5
      split at h5
      · rename_i hm5
        exact aftL_num hk f [] _ (hk.wd1 l4 hm5) (Nat.zero_le _) h5
      · injection h5 with h5; injection h5 with e1 _; subst e1; exact Nat.zero_le _
    · unfold bracR at h6
      split at h6
      · rename_i hm6
        have hp6 := hk.mk1 l5 hm6
        split at h6
        · cases h6
        · cases h6
        rename_i s1 q7 h7
        have hle : s1.length ≤ ts.length := by
          unfold setsR at h7
          split at h7
          · injection h7 with h7; injection h7 with e1 _; subst e1; exact Nat.zero_le _
          · exact setsL_num hk f [] _ hp6 (Nat.zero_le _) h7
        split at h6
        · injection h6 with h6; injection h6 with e1 _; subst e1; exact hle
        · cases h6
      · injection h6 with h6; injection h6 with e1 _; subst e1; exact Nat.zero_le _
  · injection h with h; cases h
theorem lstL_num (hk : TkOk ts) {m : Nat} (htl : ∀ p, (tkAt ts p).tx.length ≤ m) : ∀ (f : Nat) (l : List Ln) (p : Nat) {l' : List Ln} {q : Nat}, p < ts.length → (∀ e ∈ l, e.after.length ≤ ts.length ∧ e.sets.length ≤ ts.length) → lstL ts f l p = some (.ok l' q) → ∀ e ∈ l', e.after.length ≤ ts.length ∧ e.sets.length ≤ ts.length
  | 0, l, p, l', q, _, _, h => by rw [lstL] at h; cases h
  | f + 1, l, p, l', q, hp, hl, h => by
    rw [lstL] at h
    split at h
    · split at h
      · cases h
      · cases h
      rename_i e q1 he
      have h2 := qEnt_lt hk htl (x := (p, false)) hp (rel_ent he)
      refine lstL_num hk htl f _ _ h2.2 (fun x hx => ?_) h
      rcases List.mem_append.1 hx with hx | hx
      · exact hl x hx
      · rw [List.mem_singleton.1 hx]; exact entR_num hk hp he
    · injection h with h; injection h with e1 _; subst e1; exact hl
end
/-- a parsed description is right, and its entries have bounded lists -/
theorem list_num {s : Sc} {f : Nat} {l : List Ln} (hok : ScOk s) (h : listP f s = some (.ok l)) : checkF l = 0 ∧ ∀ x ∈ l, x.after.length ≤ 100000 ∧ x.sets.length ≤ 100000 := by
  unfold listP at h
  cases s with
  | bad e a => dsimp only at h; injection h with h; cases h
  | ok ts =>
    obtain ⟨hk, hl, htl⟩ := hok
    dsimp only at h
    split at h
    · cases h
    · injection h with h; cases h
    rename_i l1 q1 h1
    split at h
    · injection h with h; cases h
    · rename_i hc
      injection h with h
      injection h with h
      subst h
      have := lstL_num hk htl f [] 0 hk.pos (fun e he => (by cases he)) h1
      exact ⟨by omega, fun x hx => by have := this x hx; omega⟩
end Go.Proofs.YtknfankadlokhaaGreatDoor
