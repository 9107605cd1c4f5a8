/- The client's messages. No conditions. -/
import Derived.Test.YtbpebpkepflliaaCls
namespace Go.Proofs.Ytbpebpkepflliaa
open Go.RowKit
set_option linter.unusedVariables false
set_option linter.unusedSimpArgs false
set_option maxHeartbeats 2000000

theorem CH_perm {cb mb i b : Nat} {bs : List Nat} {num retry : Int} {gs : List Gl} (hl : bs.length = gs.length) (hbi : bs[i]? = some b) : ∃ R : List (Nat × Obj), (cb, cliO num retry gs.length mb) ∈ R ∧ (mb, mapO bs) ∈ R ∧
    ∀ g' : Gl, List.Perm (CH cb mb bs num retry (gs.set i g')) (R ++ [(b, g'.obj)]) := by
  have hi := (List.getElem?_eq_some_iff.1 hbi).1
  let zw := List.zipWith (fun b (g : Gl) => (b, g.obj)) bs gs
  refine ⟨(cb, cliO num retry gs.length mb) :: (mb, mapO bs) :: (zw.take i ++ zw.drop (i + 1)), by simp, by simp, fun g' => ?_⟩
  have e : List.zipWith (fun b (g : Gl) => (b, g.obj)) bs (gs.set i g') = zw.set i (b, g'.obj) := by
    apply List.ext_getElem?
    intro j
    rw [List.getElem?_set, List.getElem?_zipWith, List.getElem?_set]
    by_cases hij : i = j
    · subst hij
      simp [hbi, zw, hl.symm.symm, hi, show i < gs.length by omega]
      simpa using (List.getElem?_eq_some_iff.1 hbi).2
    · simp [hij, zw, List.getElem?_zipWith]
  show List.Perm ((cb, cliO num retry (gs.set i g').length mb) :: (mb, mapO bs) :: List.zipWith (fun b (g : Gl) => (b, g.obj)) bs (gs.set i g')) _
  rw [e, List.length_set]
  exact (set_perm _ (by simp [zw]; omega)).cons _ |>.cons _

theorem pollG_eq (g : Gl) (h : g.st < 4) (retry at_ : Int) : g.pg retry at_ = ⟨g.req, g.res, g.st, g.fb, if g.next ≤ at_ then at_ + retry else g.next, g.canc, if g.canc = true ∧ g.ncanc ≤ at_ then at_ + retry else g.ncanc⟩ := by rw [Gl.pg, if_pos h]
end Go.Proofs.Ytbpebpkepflliaa
