/- The server in memory: contracts for results that are known; the example of the law. No conditions. -/
import Derived.Test.YtndkifkaejmibaaGreatDoorMP
import Derived.Test.YtndkifkaejmibaaGreatDoorSvh
import Derived.Test.YtndkifkaejmibaaGreatDoorMO

namespace Go.Proofs.YtndkifkaejmibaaGreatDoor
open Go.RowKit
set_option maxRecDepth 4000
set_option linter.unusedVariables false
set_option linter.unusedSimpArgs false
set_option maxHeartbeats 8000000

section
variable {w0 : World} {bs bj bm : Nat} {s t : Sv} {H : List (Nat × Obj)} {n : Nat} {e e2 : Int} {b : Bool} {g : Gl}
theorem NoG.atb {H : List (Nat × Obj)} (h : NoG (InH H)) {i b : Nat} {o : Obj} (hi : H[i]? = some (b, o)) : NoG (· = b) := h.mono fun c e => e ▸ ⟨i, o, hi⟩
theorem request_to (hG : Gb w0) (hW : SW bs bj bm s H) (hk : Svk s 66) (hI : Inv s) (hh : Has w0 H) (hn : NoG (InH H)) {c d at_ : Int} {rq : List UInt8} (h : requestS s c d at_ rq = (b, e, t)) :
    Cl Tryz.prog 10 [Ptr bs, idV c d, I at_, S rq] w0 (fun v w' => v = .tuple ⟨[B b, I e]⟩ ∧ ∃ H', SW bs bj bm t H' ∧ St w0 (InH H) H' w') := by
  have := request_any (n := 0) hG hW hk hI hh hn c d at_ rq
  rw [h] at this; exact this
theorem succeed_to (hG : Gb w0) (hW : SW bs bj bm s H) (hk : Svk s 1) (hI : Inv s) (hh : Has w0 H) (hn : NoG (InH H)) {at_ : Int} {rs : List UInt8} (h : finishS s 4 at_ rs = (e, t)) :
    Cl Tryz.prog 12 [Ptr bs, I at_, S rs] w0 (fun v w' => v = I e ∧ ∃ H', SW bs bj bm t H' ∧ St w0 (InH H) H' w') := by
  have := succeed_any (n := 0) hG hW hk hI.toInv0 hh hn at_ rs
  rw [h] at this; exact this
theorem current_to (hW : SW bs bj bm s H) (hI : Inv s) (hh : Has w0 H) (h : curS s = (g, b)) :
    Cl Tryz.prog 11 [Ptr bs] w0 (fun v w' => v = .tuple ⟨[.agg ⟨gC g⟩, B b]⟩ ∧ St w0 NoneS [] w') := by
  have := current_any hW hI.toInv0 hh
  rw [h] at this; exact this
theorem outcomes_to (hW : SW bs bj bm s H) (hI : Inv s) (he : s.ends.length ≤ 1000000) (hh : Has w0 H) {l : List Gl} (h : outsS s = l) :
    Cl Tryz.prog 13 [Ptr bs] w0 (fun v w' => ∃ H1, OwnSl v 35 7 (l.flatMap gC) l.length H1 ∧ St w0 NoneS H1 w') := h ▸ outcomes_any hW hI.len he hI.ends hh
end
theorem sopen_new {w0 : World} (hG : Gb w0) {bm : Nat} {size pol lim : Int} (hb : w0.heap[bm]? = some (newM size).obj) (hn : NoG (· = bm)) (h : 1 ≤ size ∧ size ≤ 262144) (hp : 1 ≤ pol ∧ pol ≤ 3 ∧ 0 ≤ lim ∧ lim ≤ 64) :
    Cl Tryz.prog 8 [I pol, I lim, Ptr bm] w0 (fun v w' => ∃ bs bj H', v = .tuple ⟨[Ptr bs, I 0]⟩ ∧ SW bs bj bm ⟨pol, lim, [], [], -1, 0, false, newM size, ⟨[], 0, false⟩⟩ H' ∧ St w0 (· = bm) H' w') := by
  refine (sopen_any hG hb (newM_ok h) hn pol lim).mono ?_
  rintro v w' (⟨h1, _⟩ | ⟨_, h2⟩)
  · rw [openS_new h hp] at h1; exact absurd rfl h1
  · rw [openS_new h hp] at h2; exact h2
theorem awake_any {w0 : World} (hG : Gb w0) : Cl Tryz.prog 9 [] w0 (fun v w' => v = B true ∧ St w0 NoneS [] w') := by
  have hSt := St.refl w0 NoneS
  obtain ⟨A1, A2, A3, A4, r1, r2, r3, r4, k1, k2, k3, k4, hl4, he4, hc4⟩ := ex_run
  have k0 : Okay exA := ⟨exA_inv, calm_new (by omega) (by omega), by decide⟩
  have hcur : curS A4 = (⟨1, 2, 2, 1, 0, [], []⟩, true) := by unfold curS; rw [hc4, if_neg (by omega), hl4]; rfl
  have hout : outsS A4 = [⟨1, 1, 4, 0, 5, [103, 111], [111, 107]⟩] := by unfold outsS; rw [he4, hl4]; rfl
  have he4' : A4.ends.length ≤ 1000000 := by rw [he4]; decide
  clear hl4 he4 hc4
  refine enter Tryz.func9 rfl Tryz.ntmps9 rfl ?_
  repeat' (first | (refine WL_isCall (f := 7) ?_; refine WL_call (ok_call hT rfl) rfl rfl rfl (new_good 1000 (by omega) (by omega)) ?_; rintro v w2 ⟨bm, rfl, hc2⟩; replace hSt := hSt.new1 hc2; clear hc2; replace hSt : St w0 NoneS [(bm, (newM 1000).obj)] w2 := hSt; have hnb := (hG.no hSt NoG.none).atb (i := 0) rfl; have hbm := hSt.at 0 rfl) | (refine WL_isCall (f := 8) ?_; refine WL_call (ok_call hT rfl) rfl rfl rfl (sopen_new (hG.later hSt NoG.none) hbm hnb (by omega) (by omega)) ?_; rintro v w2 ⟨bs, bj, H, rfl, hW, hc2⟩; replace hSt := St.open1 hSt hc2; clear hc2 hbm hnb; replace hW : SW bs bj bm exA H := hW) | (refine WL_alloc hT rfl rfl rfl hSt ?_; clear hSt; intro w nb hnb hSt; replace hSt := hSt.front; dsimp only [zcells] at hSt) | (refine WL_isCall (f := 10) ?_; refine WL_call (ok_call hT rfl) rfl rfl rfl (request_to (hG.later hSt NoG.none) hW (k0.svk (by omega)) k0.inv (St.hasE (Ha := [_, _, _]) hSt) (NoG.r (Ha := [_, _, _]) (hG.no hSt NoG.none)) r1) ?_; rintro v w2 ⟨rfl, H2, hW2, hc2⟩; replace hSt := St.callE (Ha := [_, _, _]) hSt hc2; clear hc2) | (refine WL_isCall (f := 10) ?_; refine WL_call (ok_call hT rfl) rfl rfl rfl (request_to (hG.later hSt NoG.none) hW2 (k1.svk (by omega)) k1.inv (St.hasE (Ha := [_, _, _]) hSt) (NoG.r (Ha := [_, _, _]) (hG.no hSt NoG.none)) r2) ?_; rintro v w2 ⟨rfl, H3, hW3, hc2⟩; replace hSt := St.callE (Ha := [_, _, _]) hSt hc2; clear hc2) | (refine WL_isCall (f := 10) ?_; refine WL_call (ok_call hT rfl) rfl rfl rfl (request_to (hG.later hSt NoG.none) hW3 (k2.svk (by omega)) k2.inv (St.hasE (Ha := [_, _, _]) hSt) (NoG.r (Ha := [_, _, _]) (hG.no hSt NoG.none)) r3) ?_; rintro v w2 ⟨rfl, H4, hW4, hc2⟩; replace hSt := St.callE (Ha := [_, _, _]) hSt hc2; clear hc2) | (refine WL_isCall (f := 12) ?_; refine WL_call (ok_call hT rfl) rfl rfl rfl (succeed_to (hG.later hSt NoG.none) hW4 (k3.svk (by omega)) k3.inv (St.hasE (Ha := [_, _, _]) hSt) (NoG.r (Ha := [_, _, _]) (hG.no hSt NoG.none)) r4) ?_; rintro v w2 ⟨rfl, H5, hW5, hc2⟩; replace hSt := St.callE (Ha := [_, _, _]) hSt hc2; clear hc2) | (refine WL_isCall (f := 11) ?_; refine WL_call (ok_call hT rfl) rfl rfl rfl (current_to hW5 k4.inv (St.hasE (Ha := [_, _, _]) hSt) hcur) ?_; rintro v w2 ⟨rfl, hc2⟩; replace hSt := hSt.call0 hc2; clear hc2) | (refine WL_isCall (f := 13) ?_; refine WL_call (ok_call hT rfl) rfl rfl rfl (outcomes_to hW5 k4.inv he4' (St.hasE (Ha := [_, _, _, _]) hSt) hout) ?_; rintro v w2 ⟨H6, ho, hc2⟩; replace hSt := hSt.newN hc2; clear hc2; replace hSt := hSt.sublist (List.Sublist.append (List.sublist_append_left [_, _, _, _] _) (List.Sublist.refl _)); replace ho : OwnSl _ 35 7 (gC ⟨1, 1, 4, 0, 5, [103, 111], [111, 107]⟩) 1 _ := ho; obtain ⟨ob, oc, ors, rfl, hoc, hors, rfl⟩ := ho.some_ (by decide); dsimp only [List.cons_append, List.nil_append] at hSt) | (refine WL_storeN hT rfl rfl 1 rfl rfl hSt rfl rfl rfl rfl ?_; clear hSt; intro w hSt; dsimp only [List.set] at hSt) | (refine WL_storeN hT rfl rfl 2 rfl rfl hSt rfl rfl rfl rfl ?_; clear hSt; intro w hSt; dsimp only [List.set] at hSt) | (apply WL_ev rfl rfl; exact Ev_struct_yes (ok_eq rfl) rfl rfl rfl) | (apply WL_ev rfl rfl; exact Ev_loadN hT rfl rfl (hSt.at 3 rfl) rfl rfl) | (apply WL_ev rfl rfl; exact Ev_loadN hT rfl rfl (hSt.at 4 rfl) rfl rfl) | refine stepA ?_ | (refine stepS ?_; clear hSt; intro w hSt; dsimp only [spl, List.set] at hSt) | (refine stepB ?_; clear hSt; intro w nb hnb hSt; dsimp only [zcells, List.nil_append, List.cons_append] at hSt) | (refine W_quiet hT (by decide +kernel) hSt ?_; clear hSt; (repeat' (first | (apply QL_ev rfl rfl; (intro w hSt; (first | (exact Ev_struct_yes (ok_eq rfl) rfl rfl rfl) | (exact Ev_loadN hT rfl rfl (hSt.at 3 rfl) rfl rfl) | (exact Ev_loadN hT rfl rfl (hSt.at 4 rfl) rfl rfl) | exact Ev_auto))) | refine QL_pass rfl rfl ?_ | (refine QL_guardP rfl rfl (fun hc => ?_) (fun hc => ?_) <;> try exact absA) | (refine QL_guard rfl rfl (fun hc => ?_) (fun hc => ?_) <;> (try exact absA) <;> (fail_if_success (change true = true at hc)) <;> (fail_if_success (change false = false at hc))))); all_goals (refine QL_nil (fun w hSt => ?_))) | (refine stepG ?_ ?_ <;> intro hc <;> (try exact absA) <;> (fail_if_success (change true = true at hc)) <;> (fail_if_success (change false = false at hc))) | fail)
  all_goals exact ret1 rfl rfl ⟨rfl, hSt.nil⟩
end Go.Proofs.YtndkifkaejmibaaGreatDoor
