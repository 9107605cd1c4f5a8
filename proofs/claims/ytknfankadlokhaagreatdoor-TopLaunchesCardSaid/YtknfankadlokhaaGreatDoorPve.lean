/- A printed condition, and a printed description, parsed again. No conditions. -/
import Derived.Test.YtknfankadlokhaaGreatDoorPvd
import Derived.Test.YtknfankadlokhaaGreatDoorNH

namespace Go.Proofs.YtknfankadlokhaaGreatDoor
open Go.RowKit
set_option linter.unusedVariables false
set_option linter.unusedSimpArgs false

theorem cond_again {c : Cn} (hf : formC c = true) (h6 : levC c ≤ 6) (hl : (prtF c).length ≤ 4000) : ∃ f, condP f (scanF (prtF c)) = some (.ok c) := by
  have hx := prt_lxs c hf [] [] (fun c hc => by cases hc) Lxs.nil
  rw [List.append_nil, List.append_nil] at hx
  obtain ⟨ts, hs, hk⟩ := hx.scan hl
  have ht : Tat ts 0 (lexF c ++ [(0, [])]) := hk
  obtain ⟨N, hN⟩ := con_again hf ht (by decide) (by decide) (by decide)
  obtain ⟨h0, _⟩ := (ht.skip).tk
  refine ⟨N, ?_⟩
  rw [hs]
  unfold condP
  dsimp only
  rw [hN N (Nat.le_refl _)]
  dsimp only
  rw [if_pos h0, if_neg (by omega)]
theorem list_again {l : List Ln} (h : checkF l = 0) (hl : (fmtF l).length ≤ 4000) : ∃ f, listP f (scanF (fmtF l)) = some (.ok l) := by
  have hg : ∀ x ∈ l, GoodE x := fun x hx => (good_of_check h hx).1
  obtain ⟨ts, hs, hk⟩ := (fmt_lxs l hg).scan hl
  have ht : Tat ts 0 (l.flatMap lexE ++ [(0, [])]) := hk
  obtain ⟨q, N, hN⟩ := lst_again l [] 0 hg ht
  refine ⟨N, ?_⟩
  rw [hs]
  unfold listP
  dsimp only
  rw [hN N (Nat.le_refl _)]
  dsimp only
  rw [List.nil_append, if_neg (fun e => e h)]
end Go.Proofs.YtknfankadlokhaaGreatDoor
