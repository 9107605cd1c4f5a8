/- The law TopLaunches: for every two texts. No conditions. -/
import Derived.Test.YtknfankadlokhaaGreatDoorKlj

namespace Go.Proofs.YtknfankadlokhaaGreatDoor
open Go.RowKit
set_option linter.unusedVariables false
set_option linter.unusedSimpArgs false

theorem topLaunches_any {w0 : World} (hV : Mx w0) (hR : Ru w0) (x y : Tx) : Cl Tryz.prog 3 [S x, S y] w0 (fun v w' => v = B true ∧ St w0 NoneS [] w') := by
  by_cases h : 800 < x.length ∨ 400 < y.length
  · exact top_long hV h
  obtain ⟨r, hr⟩ := list_tot (scan_ok x)
  obtain ⟨q, hq⟩ := args_tot (scan_ok y)
  cases r with
  | bad e a => exact top_bad1 hV h hr (list_bad hr) hq (fun e2 a2 he => args_bad (he ▸ hq))
  | ok l =>
    cases q with
    | bad e a => exact top_bad2 hV h hr hq (args_bad hq)
    | ok g =>
      by_cases hs : (selectF l g).2 = 0
      · exact top_main hV hR h hr hq hs
      · exact top_sel hV h hr hq hs
end Go.Proofs.YtknfankadlokhaaGreatDoor
