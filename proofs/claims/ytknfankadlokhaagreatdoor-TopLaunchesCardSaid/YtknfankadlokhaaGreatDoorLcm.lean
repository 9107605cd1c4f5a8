/- The cell of a number that the library reads. No conditions. -/
import Derived.Test.YtknfankadlokhaaGreatDoorNB

namespace Go.Proofs.YtknfankadlokhaaGreatDoor
open Go.RowKit
set_option linter.unusedVariables false
set_option linter.unusedSimpArgs false

/-- the cell of a number that the library's search reads -/
def Mx (w : World) : Prop := ∃ m E fz, w.heap[1]? = some (.cells ⟨[.int .i64 m]⟩ E fz)
theorem Mx.kept {w0 w : World} (h : Mx w0) (k : Keeps w0 w) : Mx w := by
  obtain ⟨m, E, fz, hm⟩ := h
  exact ⟨m, E, fz, k _ _ hm⟩
end Go.Proofs.YtknfankadlokhaaGreatDoor
