/- Grids: what may be handed over has a bound. No conditions. -/
import Derived.Test.YtkaobhgodniamaaDoorGrz
namespace Go.Proofs.YtkaobhgodniamaaDoor
open Go.RowKit Go.ChangeShapes Go.WideShapes Go.Deep
set_option linter.unusedVariables false
set_option linter.unusedSimpArgs false

theorem grid_room {H : Type} {enc : TypeId × Value → H} {W : World} {base : Nat} {sp : Nat → Bool} {held : Bool} {gw gh : Int} {u : Value} {d : DataW H} {p : List MemPlace} {ts : List TypeId} {ds : List (DataW H)} {cs : List Int}
    (k : DataW.Trod enc Tryd.prog W base sp held 24 (gV gw gh u) d p) (hw : (DataW.weightsEach Tryd.prog (24 :: ts) (d :: ds)).all (· ≤ reachBytes) = true) (hs : SlAt W u 1 (cs.map u8c)) : cs.length ≤ 140737488355328 := by
  obtain ⟨a, cap, rfl, _⟩ := hs.map
  obtain ⟨fuel, hf⟩ := k
  obtain ⟨xs, m, _, hx, hl, hxl, hg⟩ := DataW.trod_struct Tryd.underlying24 hf
  simp only [Prod.mk.injEq] at hx
  obtain ⟨rfl, _⟩ := hx
  have hxl3 : xs.length = 3 := hxl
  match xs, hxl3 with
  | [x0, x1, x2], _ =>
    have hc : Tryd.prog.cellsOf 22 = 1 := by kernel_rfl
    have hb : Tryd.prog.bytesOf 5 = 1 := by kernel_rfl
    have h2 := hg 2 _ rfl
    have h3 : DataW.trod enc Tryd.prog W base sp held m 22 ([Value.slice a cs.length cap].take (Tryd.prog.cellsOf 22)) = some x2 := h2
    rw [hc] at h3
    replace h3 : DataW.trod enc Tryd.prog W base sp held m 22 [.slice a cs.length cap] = some x2 := h3
    rcases DataW.trod_slice Tryd.underlying22 h3 with ⟨hcs, _⟩ | ⟨a', len, cap', elems, rest, m2, _, hcs, hx2, _, _, _, hel, _⟩
    · injection hcs with hcs
      injection hcs with _ h0 _
      omega
    · injection hcs with hcs
      injection hcs with _ hn _
      subst hx2
      have hm : (elems.length + rest.length) * 1 ∈ DataW.weightsEach Tryd.prog (24 :: ts) (DataW.agg (List.map (fun x => x.1) [x0, x1, (DataW.slice (elems.map (·.1)) (rest.map (·.1)), MemPlace.row a' ((elems.length + rest.length) * Tryd.prog.cellsOf 5) ++ (elems ++ rest).flatMap (·.2))]) :: ds) := by
        simp only [DataW.weightsEach, DataW.weights, Tryd.underlying24, Tryd.underlying22, List.map_cons, List.map_nil, hb, List.length_map]
        simp
      have := List.all_eq_true.1 hw _ hm
      have h4 : (elems.length + rest.length) * 1 ≤ reachBytes := of_decide_eq_true this
      have h5 : reachBytes = 140737488351232 := rfl
      omega
end Go.Proofs.YtkaobhgodniamaaDoor
