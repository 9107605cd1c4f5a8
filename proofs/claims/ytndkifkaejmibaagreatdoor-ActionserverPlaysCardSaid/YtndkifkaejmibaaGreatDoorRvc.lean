/- The specification's server in memory: the current goal ends; cancellation; feedback; what is asked. No conditions. -/
import Derived.Test.YtndkifkaejmibaaGreatDoorRvb
import Derived.Test.YtndkifkaejmibaaGreatDoorMO

namespace Go.Proofs.YtndkifkaejmibaaGreatDoor
open Go.RowKit
set_option maxRecDepth 4000
set_option linter.unusedVariables false
set_option linter.unusedSimpArgs false
set_option maxHeartbeats 8000000

theorem sub_g2 {y g : Nat × Obj} {X : List (Nat × Obj)} : List.Sublist [g] (y :: g :: X) := (List.sublist_append_left [_] _).trans (List.sublist_cons_self _ _)
theorem rlat_l {w0 : World} {br bw : Nat} {gv ev : Value} {s : Sv} {l : List Gl} (hs : s.l = l) (hb : w0.heap[br]? = some (rsO bw gv ev s)) (hg : SlAt w0 gv 7 (s.l.map gC)) (hl : s.l.length ≤ 1000000) : Cl Tryz.prog 73 [Ptr br] w0 (fun v w' => v = I (latF l) ∧ St w0 NoneS [] w') := hs ▸ rlatest_any hb hg hl
section
variable {w0 : World} {br bw : Nat} {gv ev : Value} {s : Sv}
theorem rfind_no (hb : w0.heap[br]? = some (rsO bw gv ev s)) (hg : SlAt w0 gv 7 (s.l.map gC)) (hl : s.l.length ≤ 1000000) {c n : Int} (hf : findG s.l c n = none) : Cl Tryz.prog 76 [Ptr br, idV c n] w0 (fun v w' => v = I (-1) ∧ St w0 NoneS [] w') := by
  have h := rfind_any hb hg hl c n; rw [hf] at h; exact h
theorem rfind_yes (hb : w0.heap[br]? = some (rsO bw gv ev s)) (hg : SlAt w0 gv 7 (s.l.map gC)) (hl : s.l.length ≤ 1000000) {c n : Int} {i : Nat} (hf : findG s.l c n = some i) : Cl Tryz.prog 76 [Ptr br, idV c n] w0 (fun v w' => v = I (i : Int) ∧ St w0 NoneS [] w') := by
  have h := rfind_any hb hg hl c n; rw [hf] at h; exact h
end
section
variable {w0 : World} {br bw bv : Nat} {s : Sv} {H : List (Nat × Obj)} {n : Nat}
theorem rfinish_any (hW : RW br bw bv s H) (hk : Svk s (n + 1)) (h4 : R4 s) (hI : Inv0 s) (hh : Has w0 H) {st : Int} (hst0 : st = 4 ∨ st = 5) (at_ : Int) (rs : List UInt8) :
    Cl Tryz.prog 78 [Ptr br, I st, I at_, S rs] w0 (fun v w' => v = I (finishS s st at_ rs).1 ∧ ∃ H', RW br bw bv (finishS s st at_ rs).2 H' ∧ St w0 (InH H) H' w') := by
  obtain ⟨gv, Hg, ev, He, Hj, hog, hoe, hJ, rfl⟩ := id hW
  have hSt := hh.st
  generalize InH _ = SS at hSt ⊢
  clear hh
  have hl := hk.l
  have hcu0 := hI.cu
  have hcc := hI.c2
  have hc3 := hI.c3
  have hIe := fun (i : Nat) (hi : i < s.l.length) (st' : Int) (h : 4 ≤ st' ∧ st' ≤ 6) => hI.endS hi h at_ rs
  clear hI
  obtain ⟨pol, lim, l, ends, cur, fb, stop, m, j⟩ := s
  dsimp only at hog hoe hJ hSt hl hcc hcu0 hc3 hIe ⊢
  unfold finishS; dsimp only
  rcases stop with _ | _
  · rw [if_neg (by simp)]
    by_cases hcu : cur < 0
    · rw [if_pos hcu]
      refine enter Tryz.func78 rfl Tryz.ntmps78 rfl ?_
      repeat' (first | (refine WL_isCall (f := 77) ?_; refine WL_call (ok_call hT rfl) rfl rfl rfl (rcur_l (s := ⟨_, _, l, _, _, _, _, _, _⟩) (l := l) rfl hcu0 (hSt.own 0 _ _ rfl).1 (OwnSl.slAt gC_len hog (hSt.has.sublist sub_g)) (by dsimp only; omega)) ?_; rintro v w2 ⟨rfl, hc2⟩; replace hSt := hSt.call0 hc2; clear hc2) | refine stepA ?_ | (refine stepS ?_; clear hSt; intro w hSt; dsimp only [spl, List.set] at hSt) | (refine stepB ?_; clear hSt; intro w nb hnb hSt; dsimp only [zcells, List.nil_append, List.cons_append] at hSt) | (refine W_quiet hT (by decide +kernel) hSt ?_; clear hSt; (repeat' (first | (apply QL_ev rfl rfl; (intro w hSt; (first | exact Ev_auto))) | refine QL_pass rfl rfl ?_ | (refine QL_guardP rfl rfl (fun hc => ?_) (fun hc => ?_) <;> try exact absA) | (refine QL_guard rfl rfl (fun hc => ?_) (fun hc => ?_) <;> (try exact absA) <;> (fail_if_success (change true = true at hc)) <;> (fail_if_success (change false = false at hc))))); all_goals (refine QL_nil (fun w hSt => ?_))) | (refine stepG ?_ ?_ <;> intro hc <;> (try exact absA) <;> (fail_if_success (change true = true at hc)) <;> (fail_if_success (change false = false at hc))) | fail)
      all_goals first | exact ret1 rfl rfl ⟨rfl, _, hW, hSt⟩ | (exfalso; omega)
    rw [if_neg hcu]
    by_cases ha : ¬ (0 ≤ at_ ∧ at_ ≤ 1099511627776)
    · rw [if_pos ha]
      refine enter Tryz.func78 rfl Tryz.ntmps78 rfl ?_
      repeat' (first | (refine WL_isCall (f := 77) ?_; refine WL_call (ok_call hT rfl) rfl rfl rfl (rcur_l (s := ⟨_, _, l, _, _, _, _, _, _⟩) (l := l) rfl hcu0 (hSt.own 0 _ _ rfl).1 (OwnSl.slAt gC_len hog (hSt.has.sublist sub_g)) (by dsimp only; omega)) ?_; rintro v w2 ⟨rfl, hc2⟩; replace hSt := hSt.call0 hc2; clear hc2) | refine stepA ?_ | (refine stepS ?_; clear hSt; intro w hSt; dsimp only [spl, List.set] at hSt) | (refine stepB ?_; clear hSt; intro w nb hnb hSt; dsimp only [zcells, List.nil_append, List.cons_append] at hSt) | (refine W_quiet hT (by decide +kernel) hSt ?_; clear hSt; (repeat' (first | (apply QL_ev rfl rfl; (intro w hSt; (first | exact Ev_auto))) | refine QL_pass rfl rfl ?_ | (refine QL_guardP rfl rfl (fun hc => ?_) (fun hc => ?_) <;> try exact absA) | (refine QL_guard rfl rfl (fun hc => ?_) (fun hc => ?_) <;> (try exact absA) <;> (fail_if_success (change true = true at hc)) <;> (fail_if_success (change false = false at hc))))); all_goals (refine QL_nil (fun w hSt => ?_))) | (refine stepG ?_ ?_ <;> intro hc <;> (try exact absA) <;> (fail_if_success (change true = true at hc)) <;> (fail_if_success (change false = false at hc))) | fail)
      all_goals first | exact ret1 rfl rfl ⟨rfl, _, hW, hSt⟩ | (exfalso; omega)
    rw [if_neg ha]
    by_cases hla : at_ < latF l
    · rw [if_pos hla]
      refine enter Tryz.func78 rfl Tryz.ntmps78 rfl ?_
      repeat' (first | (refine WL_isCall (f := 77) ?_; refine WL_call (ok_call hT rfl) rfl rfl rfl (rcur_l (s := ⟨_, _, l, _, _, _, _, _, _⟩) (l := l) rfl hcu0 (hSt.own 0 _ _ rfl).1 (OwnSl.slAt gC_len hog (hSt.has.sublist sub_g)) (by dsimp only; omega)) ?_; rintro v w2 ⟨rfl, hc2⟩; replace hSt := hSt.call0 hc2; clear hc2) | (refine WL_isCall (f := 73) ?_; refine WL_call (ok_call hT rfl) rfl rfl rfl (rlat_l (s := ⟨_, _, l, _, _, _, _, _, _⟩) (l := l) rfl (hSt.own 0 _ _ rfl).1 (OwnSl.slAt gC_len hog (hSt.has.sublist sub_g)) (by dsimp only; omega)) ?_; rintro v w2 ⟨rfl, hc2⟩; replace hSt := hSt.call0 hc2; clear hc2) | refine stepA ?_ | (refine stepS ?_; clear hSt; intro w hSt; dsimp only [spl, List.set] at hSt) | (refine stepB ?_; clear hSt; intro w nb hnb hSt; dsimp only [zcells, List.nil_append, List.cons_append] at hSt) | (refine W_quiet hT (by decide +kernel) hSt ?_; clear hSt; (repeat' (first | (apply QL_ev rfl rfl; (intro w hSt; (first | exact Ev_auto))) | refine QL_pass rfl rfl ?_ | (refine QL_guardP rfl rfl (fun hc => ?_) (fun hc => ?_) <;> try exact absA) | (refine QL_guard rfl rfl (fun hc => ?_) (fun hc => ?_) <;> (try exact absA) <;> (fail_if_success (change true = true at hc)) <;> (fail_if_success (change false = false at hc))))); all_goals (refine QL_nil (fun w hSt => ?_))) | (refine stepG ?_ ?_ <;> intro hc <;> (try exact absA) <;> (fail_if_success (change true = true at hc)) <;> (fail_if_success (change false = false at hc))) | fail)
      all_goals first | exact ret1 rfl rfl ⟨rfl, _, hW, hSt⟩ | (exfalso; omega)
    rw [if_neg hla]
    by_cases hrl : 2000 < rs.length
    · rw [if_pos hrl]
      refine enter Tryz.func78 rfl Tryz.ntmps78 rfl ?_
      repeat' (first | (refine WL_isCall (f := 77) ?_; refine WL_call (ok_call hT rfl) rfl rfl rfl (rcur_l (s := ⟨_, _, l, _, _, _, _, _, _⟩) (l := l) rfl hcu0 (hSt.own 0 _ _ rfl).1 (OwnSl.slAt gC_len hog (hSt.has.sublist sub_g)) (by dsimp only; omega)) ?_; rintro v w2 ⟨rfl, hc2⟩; replace hSt := hSt.call0 hc2; clear hc2) | (refine WL_isCall (f := 73) ?_; refine WL_call (ok_call hT rfl) rfl rfl rfl (rlat_l (s := ⟨_, _, l, _, _, _, _, _, _⟩) (l := l) rfl (hSt.own 0 _ _ rfl).1 (OwnSl.slAt gC_len hog (hSt.has.sublist sub_g)) (by dsimp only; omega)) ?_; rintro v w2 ⟨rfl, hc2⟩; replace hSt := hSt.call0 hc2; clear hc2) | refine stepA ?_ | (refine stepS ?_; clear hSt; intro w hSt; dsimp only [spl, List.set] at hSt) | (refine stepB ?_; clear hSt; intro w nb hnb hSt; dsimp only [zcells, List.nil_append, List.cons_append] at hSt) | (refine W_quiet hT (by decide +kernel) hSt ?_; clear hSt; (repeat' (first | (apply QL_ev rfl rfl; (intro w hSt; (first | exact Ev_auto))) | refine QL_pass rfl rfl ?_ | (refine QL_guardP rfl rfl (fun hc => ?_) (fun hc => ?_) <;> try exact absA) | (refine QL_guard rfl rfl (fun hc => ?_) (fun hc => ?_) <;> (try exact absA) <;> (fail_if_success (change true = true at hc)) <;> (fail_if_success (change false = false at hc))))); all_goals (refine QL_nil (fun w hSt => ?_))) | (refine stepG ?_ ?_ <;> intro hc <;> (try exact absA) <;> (fail_if_success (change true = true at hc)) <;> (fail_if_success (change false = false at hc))) | fail)
      all_goals first | exact ret1 rfl rfl ⟨rfl, _, hW, hSt⟩ | (exfalso; omega)
    rw [if_neg hrl]
    obtain ⟨hil, hst⟩ := hcc (by omega)
    obtain ⟨ci, rfl⟩ : ∃ ci : Nat, cur = (ci : Int) := ⟨cur.toNat, by omega⟩
    rw [Int.toNat_natCast] at hil hst ⊢
    have hx := gAt_some hil
    obtain ⟨gb, gc, rs1, rfl, hgc, hrs, rfl⟩ := hog.some_ (by omega)
    dsimp only [List.cons_append, List.nil_append] at hSt
    generalize hg0 : gAt l ci = g0 at hx hst ⊢
    obtain ⟨c0, n0, s0, a0, e0, q0, y0⟩ := g0
    dsimp only at hst ⊢
    obtain ⟨st', hst'⟩ : ∃ st', st' = (if st = 5 ∧ s0 = 3 then 6 else st) := ⟨_, rfl⟩
    rw [← hst']
    have hend := fun {w : World} hh => rend_any (w0 := w) hW (hk.le (k := 1) (by omega)) h4 hh hil st' at_ rs
    have hI2 := hIe ci hil st' (by rw [hst']; split <;> omega)
    generalize endS _ ci st' at_ rs = r at hend hI2 ⊢
    obtain ⟨e, s2⟩ := r
    dsimp only at hend hI2 ⊢
    by_cases he : e = 0
    · subst he
      rw [if_neg (by simp)]
      by_cases h53 : st = 5 ∧ s0 = 3
      · rw [if_pos h53] at hst'
        subst hst'
        refine enter Tryz.func78 rfl Tryz.ntmps78 rfl ?_
        repeat' (first | (refine WL_isCall (f := 77) ?_; refine WL_call (ok_call hT rfl) rfl rfl rfl (rcur_l (s := ⟨_, _, l, _, _, _, _, _, _⟩) (l := l) rfl hcu0 (hSt.own 0 _ _ rfl).1 (OwnSl.slAt gC_len hog (hSt.has.sublist sub_g2)) (by dsimp only; omega)) ?_; rintro v w2 ⟨rfl, hc2⟩; replace hSt := hSt.call0 hc2; clear hc2) | (refine WL_isCall (f := 73) ?_; refine WL_call (ok_call hT rfl) rfl rfl rfl (rlat_l (s := ⟨_, _, l, _, _, _, _, _, _⟩) (l := l) rfl (hSt.own 0 _ _ rfl).1 (OwnSl.slAt gC_len hog (hSt.has.sublist sub_g2)) (by dsimp only; omega)) ?_; rintro v w2 ⟨rfl, hc2⟩; replace hSt := hSt.call0 hc2; clear hc2) | (apply WL_ev rfl rfl; exact Ev_load1 hT rfl rfl (hSt.at 1 rfl) (cell_get (c := I s0) hx (j := 2) rfl rs1)) | (refine WL_isCall (f := 74) ?_; refine WL_call (ok_call hT rfl) rfl rfl rfl (hend (St.hasE (Ha := []) hSt)) ?_; rintro v w2 ⟨rfl, H2, hW2, hc2⟩; replace hSt := St.callE (Ha := []) hSt hc2; clear hc2) | (refine WL_isCall (f := 83) ?_; refine WL_call (ok_call hT rfl) rfl rfl rfl (rnext_any hW2 hI2 (St.hasE (Ha := []) hSt)) ?_; rintro v w2 ⟨rfl, H3, hW3, hc2⟩; replace hSt := St.callE (Ha := []) hSt hc2; clear hc2) | refine stepA ?_ | (refine stepS ?_; clear hSt; intro w hSt; dsimp only [spl, List.set] at hSt) | (refine stepB ?_; clear hSt; intro w nb hnb hSt; dsimp only [zcells, List.nil_append, List.cons_append] at hSt) | (refine W_quiet hT (by decide +kernel) hSt ?_; clear hSt; (repeat' (first | (apply QL_ev rfl rfl; (intro w hSt; (first | (exact Ev_load1 hT rfl rfl (hSt.at 1 rfl) (cell_get (c := I s0) hx (j := 2) rfl rs1)) | exact Ev_auto))) | refine QL_pass rfl rfl ?_ | (refine QL_guardP rfl rfl (fun hc => ?_) (fun hc => ?_) <;> try exact absA) | (refine QL_guard rfl rfl (fun hc => ?_) (fun hc => ?_) <;> (try exact absA) <;> (fail_if_success (change true = true at hc)) <;> (fail_if_success (change false = false at hc))))); all_goals (refine QL_nil (fun w hSt => ?_))) | (refine stepG ?_ ?_ <;> intro hc <;> (try exact absA) <;> (fail_if_success (change true = true at hc)) <;> (fail_if_success (change false = false at hc))) | fail)
        all_goals first | exact ret1 rfl rfl ⟨rfl, _, hW3, hSt⟩ | (exfalso; omega)
      · rw [if_neg h53] at hst'
        subst hst'
        refine enter Tryz.func78 rfl Tryz.ntmps78 rfl ?_
        repeat' (first | (refine WL_isCall (f := 77) ?_; refine WL_call (ok_call hT rfl) rfl rfl rfl (rcur_l (s := ⟨_, _, l, _, _, _, _, _, _⟩) (l := l) rfl hcu0 (hSt.own 0 _ _ rfl).1 (OwnSl.slAt gC_len hog (hSt.has.sublist sub_g2)) (by dsimp only; omega)) ?_; rintro v w2 ⟨rfl, hc2⟩; replace hSt := hSt.call0 hc2; clear hc2) | (refine WL_isCall (f := 73) ?_; refine WL_call (ok_call hT rfl) rfl rfl rfl (rlat_l (s := ⟨_, _, l, _, _, _, _, _, _⟩) (l := l) rfl (hSt.own 0 _ _ rfl).1 (OwnSl.slAt gC_len hog (hSt.has.sublist sub_g2)) (by dsimp only; omega)) ?_; rintro v w2 ⟨rfl, hc2⟩; replace hSt := hSt.call0 hc2; clear hc2) | (apply WL_ev rfl rfl; exact Ev_load1 hT rfl rfl (hSt.at 1 rfl) (cell_get (c := I s0) hx (j := 2) rfl rs1)) | (refine WL_isCall (f := 74) ?_; refine WL_call (ok_call hT rfl) rfl rfl rfl (hend (St.hasE (Ha := []) hSt)) ?_; rintro v w2 ⟨rfl, H2, hW2, hc2⟩; replace hSt := St.callE (Ha := []) hSt hc2; clear hc2) | (refine WL_isCall (f := 83) ?_; refine WL_call (ok_call hT rfl) rfl rfl rfl (rnext_any hW2 hI2 (St.hasE (Ha := []) hSt)) ?_; rintro v w2 ⟨rfl, H3, hW3, hc2⟩; replace hSt := St.callE (Ha := []) hSt hc2; clear hc2) | refine stepA ?_ | (refine stepS ?_; clear hSt; intro w hSt; dsimp only [spl, List.set] at hSt) | (refine stepB ?_; clear hSt; intro w nb hnb hSt; dsimp only [zcells, List.nil_append, List.cons_append] at hSt) | (refine W_quiet hT (by decide +kernel) hSt ?_; clear hSt; (repeat' (first | (apply QL_ev rfl rfl; (intro w hSt; (first | (exact Ev_load1 hT rfl rfl (hSt.at 1 rfl) (cell_get (c := I s0) hx (j := 2) rfl rs1)) | exact Ev_auto))) | refine QL_pass rfl rfl ?_ | (refine QL_guardP rfl rfl (fun hc => ?_) (fun hc => ?_) <;> try exact absA) | (refine QL_guard rfl rfl (fun hc => ?_) (fun hc => ?_) <;> (try exact absA) <;> (fail_if_success (change true = true at hc)) <;> (fail_if_success (change false = false at hc))))); all_goals (refine QL_nil (fun w hSt => ?_))) | (refine stepG ?_ ?_ <;> intro hc <;> (try exact absA) <;> (fail_if_success (change true = true at hc)) <;> (fail_if_success (change false = false at hc))) | fail)
        all_goals first | exact ret1 rfl rfl ⟨rfl, _, hW3, hSt⟩ | (exfalso; omega)
    · rw [if_pos he]
      by_cases h53 : st = 5 ∧ s0 = 3
      · rw [if_pos h53] at hst'
        subst hst'
        refine enter Tryz.func78 rfl Tryz.ntmps78 rfl ?_
        repeat' (first | (refine WL_isCall (f := 77) ?_; refine WL_call (ok_call hT rfl) rfl rfl rfl (rcur_l (s := ⟨_, _, l, _, _, _, _, _, _⟩) (l := l) rfl hcu0 (hSt.own 0 _ _ rfl).1 (OwnSl.slAt gC_len hog (hSt.has.sublist sub_g2)) (by dsimp only; omega)) ?_; rintro v w2 ⟨rfl, hc2⟩; replace hSt := hSt.call0 hc2; clear hc2) | (refine WL_isCall (f := 73) ?_; refine WL_call (ok_call hT rfl) rfl rfl rfl (rlat_l (s := ⟨_, _, l, _, _, _, _, _, _⟩) (l := l) rfl (hSt.own 0 _ _ rfl).1 (OwnSl.slAt gC_len hog (hSt.has.sublist sub_g2)) (by dsimp only; omega)) ?_; rintro v w2 ⟨rfl, hc2⟩; replace hSt := hSt.call0 hc2; clear hc2) | (apply WL_ev rfl rfl; exact Ev_load1 hT rfl rfl (hSt.at 1 rfl) (cell_get (c := I s0) hx (j := 2) rfl rs1)) | (refine WL_isCall (f := 74) ?_; refine WL_call (ok_call hT rfl) rfl rfl rfl (hend (St.hasE (Ha := []) hSt)) ?_; rintro v w2 ⟨rfl, H2, hW2, hc2⟩; replace hSt := St.callE (Ha := []) hSt hc2; clear hc2) | refine stepA ?_ | (refine stepS ?_; clear hSt; intro w hSt; dsimp only [spl, List.set] at hSt) | (refine stepB ?_; clear hSt; intro w nb hnb hSt; dsimp only [zcells, List.nil_append, List.cons_append] at hSt) | (refine W_quiet hT (by decide +kernel) hSt ?_; clear hSt; (repeat' (first | (apply QL_ev rfl rfl; (intro w hSt; (first | (exact Ev_load1 hT rfl rfl (hSt.at 1 rfl) (cell_get (c := I s0) hx (j := 2) rfl rs1)) | exact Ev_auto))) | refine QL_pass rfl rfl ?_ | (refine QL_guardP rfl rfl (fun hc => ?_) (fun hc => ?_) <;> try exact absA) | (refine QL_guard rfl rfl (fun hc => ?_) (fun hc => ?_) <;> (try exact absA) <;> (fail_if_success (change true = true at hc)) <;> (fail_if_success (change false = false at hc))))); all_goals (refine QL_nil (fun w hSt => ?_))) | (refine stepG ?_ ?_ <;> intro hc <;> (try exact absA) <;> (fail_if_success (change true = true at hc)) <;> (fail_if_success (change false = false at hc))) | fail)
        all_goals first | exact ret1 rfl rfl ⟨rfl, _, hW2, hSt⟩ | (exfalso; omega)
      · rw [if_neg h53] at hst'
        subst hst'
        refine enter Tryz.func78 rfl Tryz.ntmps78 rfl ?_
        repeat' (first | (refine WL_isCall (f := 77) ?_; refine WL_call (ok_call hT rfl) rfl rfl rfl (rcur_l (s := ⟨_, _, l, _, _, _, _, _, _⟩) (l := l) rfl hcu0 (hSt.own 0 _ _ rfl).1 (OwnSl.slAt gC_len hog (hSt.has.sublist sub_g2)) (by dsimp only; omega)) ?_; rintro v w2 ⟨rfl, hc2⟩; replace hSt := hSt.call0 hc2; clear hc2) | (refine WL_isCall (f := 73) ?_; refine WL_call (ok_call hT rfl) rfl rfl rfl (rlat_l (s := ⟨_, _, l, _, _, _, _, _, _⟩) (l := l) rfl (hSt.own 0 _ _ rfl).1 (OwnSl.slAt gC_len hog (hSt.has.sublist sub_g2)) (by dsimp only; omega)) ?_; rintro v w2 ⟨rfl, hc2⟩; replace hSt := hSt.call0 hc2; clear hc2) | (apply WL_ev rfl rfl; exact Ev_load1 hT rfl rfl (hSt.at 1 rfl) (cell_get (c := I s0) hx (j := 2) rfl rs1)) | (refine WL_isCall (f := 74) ?_; refine WL_call (ok_call hT rfl) rfl rfl rfl (hend (St.hasE (Ha := []) hSt)) ?_; rintro v w2 ⟨rfl, H2, hW2, hc2⟩; replace hSt := St.callE (Ha := []) hSt hc2; clear hc2) | refine stepA ?_ | (refine stepS ?_; clear hSt; intro w hSt; dsimp only [spl, List.set] at hSt) | (refine stepB ?_; clear hSt; intro w nb hnb hSt; dsimp only [zcells, List.nil_append, List.cons_append] at hSt) | (refine W_quiet hT (by decide +kernel) hSt ?_; clear hSt; (repeat' (first | (apply QL_ev rfl rfl; (intro w hSt; (first | (exact Ev_load1 hT rfl rfl (hSt.at 1 rfl) (cell_get (c := I s0) hx (j := 2) rfl rs1)) | exact Ev_auto))) | refine QL_pass rfl rfl ?_ | (refine QL_guardP rfl rfl (fun hc => ?_) (fun hc => ?_) <;> try exact absA) | (refine QL_guard rfl rfl (fun hc => ?_) (fun hc => ?_) <;> (try exact absA) <;> (fail_if_success (change true = true at hc)) <;> (fail_if_success (change false = false at hc))))); all_goals (refine QL_nil (fun w hSt => ?_))) | (refine stepG ?_ ?_ <;> intro hc <;> (try exact absA) <;> (fail_if_success (change true = true at hc)) <;> (fail_if_success (change false = false at hc))) | fail)
        all_goals first | exact ret1 rfl rfl ⟨rfl, _, hW2, hSt⟩ | (exfalso; omega)
  · rw [if_pos rfl]
    refine enter Tryz.func78 rfl Tryz.ntmps78 rfl ?_
    repeat' (first | refine stepA ?_ | (refine stepS ?_; clear hSt; intro w hSt; dsimp only [spl, List.set] at hSt) | (refine stepB ?_; clear hSt; intro w nb hnb hSt; dsimp only [zcells, List.nil_append, List.cons_append] at hSt) | (refine W_quiet hT (by decide +kernel) hSt ?_; clear hSt; (repeat' (first | (apply QL_ev rfl rfl; (intro w hSt; (first | exact Ev_auto))) | refine QL_pass rfl rfl ?_ | (refine QL_guardP rfl rfl (fun hc => ?_) (fun hc => ?_) <;> try exact absA) | (refine QL_guard rfl rfl (fun hc => ?_) (fun hc => ?_) <;> (try exact absA) <;> (fail_if_success (change true = true at hc)) <;> (fail_if_success (change false = false at hc))))); all_goals (refine QL_nil (fun w hSt => ?_))) | (refine stepG ?_ ?_ <;> intro hc <;> (try exact absA) <;> (fail_if_success (change true = true at hc)) <;> (fail_if_success (change false = false at hc))) | fail)
    exact ret1 rfl rfl ⟨rfl, _, hW, hSt⟩
theorem rsucceed_any (hW : RW br bw bv s H) (hk : Svk s (n + 1)) (h4 : R4 s) (hI : Inv0 s) (hh : Has w0 H) (at_ : Int) (rs : List UInt8) :
    Cl Tryz.prog 51 [Ptr br, I at_, S rs] w0 (fun v w' => v = I (finishS s 4 at_ rs).1 ∧ ∃ H', RW br bw bv (finishS s 4 at_ rs).2 H' ∧ St w0 (InH H) H' w') := by
  have hSt := hh.st
  have hf := fun {w : World} hh => rfinish_any (w0 := w) hW hk h4 hI hh (.inl rfl) at_ rs
  generalize InH _ = SS at hSt ⊢
  refine enter Tryz.func51 rfl Tryz.ntmps51 rfl ?_
  repeat' (first | (refine WL_isCall (f := 78) ?_; refine WL_call (ok_call hT rfl) rfl rfl rfl (hf (St.hasE (Ha := []) hSt)) ?_; rintro v w2 ⟨rfl, H2, hW2, hc2⟩; replace hSt := St.callE (Ha := []) hSt hc2; clear hc2) | refine stepA ?_ | (refine stepS ?_; clear hSt; intro w hSt; dsimp only [spl, List.set] at hSt) | (refine stepB ?_; clear hSt; intro w nb hnb hSt; dsimp only [zcells, List.nil_append, List.cons_append] at hSt) | (refine W_quiet hT (by decide +kernel) hSt ?_; clear hSt; (repeat' (first | (apply QL_ev rfl rfl; (intro w hSt; (first | exact Ev_auto))) | refine QL_pass rfl rfl ?_ | (refine QL_guardP rfl rfl (fun hc => ?_) (fun hc => ?_) <;> try exact absA) | (refine QL_guard rfl rfl (fun hc => ?_) (fun hc => ?_) <;> (try exact absA) <;> (fail_if_success (change true = true at hc)) <;> (fail_if_success (change false = false at hc))))); all_goals (refine QL_nil (fun w hSt => ?_))) | (refine stepG ?_ ?_ <;> intro hc <;> (try exact absA) <;> (fail_if_success (change true = true at hc)) <;> (fail_if_success (change false = false at hc))) | fail)
  exact ret1 rfl rfl ⟨rfl, _, hW2, hSt⟩
theorem rabort_any (hW : RW br bw bv s H) (hk : Svk s (n + 1)) (h4 : R4 s) (hI : Inv0 s) (hh : Has w0 H) (at_ : Int) (rs : List UInt8) :
    Cl Tryz.prog 52 [Ptr br, I at_, S rs] w0 (fun v w' => v = I (finishS s 5 at_ rs).1 ∧ ∃ H', RW br bw bv (finishS s 5 at_ rs).2 H' ∧ St w0 (InH H) H' w') := by
  have hSt := hh.st
  have hf := fun {w : World} hh => rfinish_any (w0 := w) hW hk h4 hI hh (.inr rfl) at_ rs
  generalize InH _ = SS at hSt ⊢
  refine enter Tryz.func52 rfl Tryz.ntmps52 rfl ?_
  repeat' (first | (refine WL_isCall (f := 78) ?_; refine WL_call (ok_call hT rfl) rfl rfl rfl (hf (St.hasE (Ha := []) hSt)) ?_; rintro v w2 ⟨rfl, H2, hW2, hc2⟩; replace hSt := St.callE (Ha := []) hSt hc2; clear hc2) | refine stepA ?_ | (refine stepS ?_; clear hSt; intro w hSt; dsimp only [spl, List.set] at hSt) | (refine stepB ?_; clear hSt; intro w nb hnb hSt; dsimp only [zcells, List.nil_append, List.cons_append] at hSt) | (refine W_quiet hT (by decide +kernel) hSt ?_; clear hSt; (repeat' (first | (apply QL_ev rfl rfl; (intro w hSt; (first | exact Ev_auto))) | refine QL_pass rfl rfl ?_ | (refine QL_guardP rfl rfl (fun hc => ?_) (fun hc => ?_) <;> try exact absA) | (refine QL_guard rfl rfl (fun hc => ?_) (fun hc => ?_) <;> (try exact absA) <;> (fail_if_success (change true = true at hc)) <;> (fail_if_success (change false = false at hc))))); all_goals (refine QL_nil (fun w hSt => ?_))) | (refine stepG ?_ ?_ <;> intro hc <;> (try exact absA) <;> (fail_if_success (change true = true at hc)) <;> (fail_if_success (change false = false at hc))) | fail)
  exact ret1 rfl rfl ⟨rfl, _, hW2, hSt⟩
theorem rfeedback_any (hW : RW br bw bv s H) (hI : Inv0 s) (hh : Has w0 H) (hfb : s.fb ≤ 1000000 ∧ 0 ≤ s.fb) (x : List UInt8) :
    Cl Tryz.prog 50 [Ptr br, S x] w0 (fun v w' => v = .tuple ⟨[I (feedbackS s x).1, I (feedbackS s x).2.1]⟩ ∧ ∃ H', RW br bw bv (feedbackS s x).2.2 H' ∧ St w0 (InH H) H' w') := by
  obtain ⟨gv, Hg, ev, He, Hj, hog, hoe, hJ, rfl⟩ := id hW
  have hSt := hh.st
  generalize InH _ = SS at hSt ⊢
  clear hh
  have hl := hI.len
  have hcu0 := hI.cu
  have hc3 := hI.c3
  clear hI
  obtain ⟨pol, lim, l, ends, cur, fb, stop, m, j⟩ := s
  dsimp only at hog hoe hJ hSt hfb hl hcu0 hc3 ⊢
  unfold feedbackS; dsimp only
  rcases stop with _ | _
  · rw [if_neg (by simp)]
    by_cases hcu : cur < 0
    · rw [if_pos hcu]
      refine enter Tryz.func50 rfl Tryz.ntmps50 rfl ?_
      repeat' (first | (refine WL_isCall (f := 77) ?_; refine WL_call (ok_call hT rfl) rfl rfl rfl (rcur_l (s := ⟨_, _, l, _, _, _, _, _, _⟩) (l := l) rfl hcu0 (hSt.own 0 _ _ rfl).1 (OwnSl.slAt gC_len hog (hSt.has.sublist sub_g)) (by dsimp only; omega)) ?_; rintro v w2 ⟨rfl, hc2⟩; replace hSt := hSt.call0 hc2; clear hc2) | refine stepA ?_ | (refine stepS ?_; clear hSt; intro w hSt; dsimp only [spl, List.set] at hSt) | (refine stepB ?_; clear hSt; intro w nb hnb hSt; dsimp only [zcells, List.nil_append, List.cons_append] at hSt) | (refine W_quiet hT (by decide +kernel) hSt ?_; clear hSt; (repeat' (first | (apply QL_ev rfl rfl; (intro w hSt; (first | exact Ev_auto))) | refine QL_pass rfl rfl ?_ | (refine QL_guardP rfl rfl (fun hc => ?_) (fun hc => ?_) <;> try exact absA) | (refine QL_guard rfl rfl (fun hc => ?_) (fun hc => ?_) <;> (try exact absA) <;> (fail_if_success (change true = true at hc)) <;> (fail_if_success (change false = false at hc))))); all_goals (refine QL_nil (fun w hSt => ?_))) | (refine stepG ?_ ?_ <;> intro hc <;> (try exact absA) <;> (fail_if_success (change true = true at hc)) <;> (fail_if_success (change false = false at hc))) | fail)
      all_goals first | exact ret2 rfl rfl rfl ⟨rfl, _, hW, hSt⟩ | (exfalso; omega)
    rw [if_neg hcu]
    by_cases hrl : 2000 < x.length
    · rw [if_pos hrl]
      refine enter Tryz.func50 rfl Tryz.ntmps50 rfl ?_
      repeat' (first | (refine WL_isCall (f := 77) ?_; refine WL_call (ok_call hT rfl) rfl rfl rfl (rcur_l (s := ⟨_, _, l, _, _, _, _, _, _⟩) (l := l) rfl hcu0 (hSt.own 0 _ _ rfl).1 (OwnSl.slAt gC_len hog (hSt.has.sublist sub_g)) (by dsimp only; omega)) ?_; rintro v w2 ⟨rfl, hc2⟩; replace hSt := hSt.call0 hc2; clear hc2) | refine stepA ?_ | (refine stepS ?_; clear hSt; intro w hSt; dsimp only [spl, List.set] at hSt) | (refine stepB ?_; clear hSt; intro w nb hnb hSt; dsimp only [zcells, List.nil_append, List.cons_append] at hSt) | (refine W_quiet hT (by decide +kernel) hSt ?_; clear hSt; (repeat' (first | (apply QL_ev rfl rfl; (intro w hSt; (first | exact Ev_auto))) | refine QL_pass rfl rfl ?_ | (refine QL_guardP rfl rfl (fun hc => ?_) (fun hc => ?_) <;> try exact absA) | (refine QL_guard rfl rfl (fun hc => ?_) (fun hc => ?_) <;> (try exact absA) <;> (fail_if_success (change true = true at hc)) <;> (fail_if_success (change false = false at hc))))); all_goals (refine QL_nil (fun w hSt => ?_))) | (refine stepG ?_ ?_ <;> intro hc <;> (try exact absA) <;> (fail_if_success (change true = true at hc)) <;> (fail_if_success (change false = false at hc))) | fail)
      all_goals first | exact ret2 rfl rfl rfl ⟨rfl, _, hW, hSt⟩ | (exfalso; omega)
    rw [if_neg hrl]
    refine enter Tryz.func50 rfl Tryz.ntmps50 rfl ?_
    repeat' (first | (refine WL_isCall (f := 77) ?_; refine WL_call (ok_call hT rfl) rfl rfl rfl (rcur_l (s := ⟨_, _, l, _, _, _, _, _, _⟩) (l := l) rfl hcu0 (hSt.own 0 _ _ rfl).1 (OwnSl.slAt gC_len hog (hSt.has.sublist sub_g)) (by dsimp only; omega)) ?_; rintro v w2 ⟨rfl, hc2⟩; replace hSt := hSt.call0 hc2; clear hc2) | (apply WL_ev rfl rfl; exact Ev_load1 hT rfl rfl (hSt.at 0 rfl) (show _ = some (I fb) from rfl)) | (refine WL_store1 hT rfl rfl 0 rfl rfl hSt rfl rfl rfl ?_; clear hSt; intro w hSt; dsimp only [List.set] at hSt) | refine stepA ?_ | (refine stepS ?_; clear hSt; intro w hSt; dsimp only [spl, List.set] at hSt) | (refine stepB ?_; clear hSt; intro w nb hnb hSt; dsimp only [zcells, List.nil_append, List.cons_append] at hSt) | (refine W_quiet hT (by decide +kernel) hSt ?_; clear hSt; (repeat' (first | (apply QL_ev rfl rfl; (intro w hSt; (first | (exact Ev_load1 hT rfl rfl (hSt.at 0 rfl) (show _ = some (I fb) from rfl)) | exact Ev_auto))) | refine QL_pass rfl rfl ?_ | (refine QL_guardP rfl rfl (fun hc => ?_) (fun hc => ?_) <;> try exact absA) | (refine QL_guard rfl rfl (fun hc => ?_) (fun hc => ?_) <;> (try exact absA) <;> (fail_if_success (change true = true at hc)) <;> (fail_if_success (change false = false at hc))))); all_goals (refine QL_nil (fun w hSt => ?_))) | (refine stepG ?_ ?_ <;> intro hc <;> (try exact absA) <;> (fail_if_success (change true = true at hc)) <;> (fail_if_success (change false = false at hc))) | fail)
    all_goals first | exact ret2 rfl rfl rfl ⟨rfl, _, ⟨_, _, _, _, _, hog, hoe, hJ, rfl⟩, hSt⟩ | (exfalso; omega)
  · rw [if_pos rfl]
    refine enter Tryz.func50 rfl Tryz.ntmps50 rfl ?_
    repeat' (first | refine stepA ?_ | (refine stepS ?_; clear hSt; intro w hSt; dsimp only [spl, List.set] at hSt) | (refine stepB ?_; clear hSt; intro w nb hnb hSt; dsimp only [zcells, List.nil_append, List.cons_append] at hSt) | (refine W_quiet hT (by decide +kernel) hSt ?_; clear hSt; (repeat' (first | (apply QL_ev rfl rfl; (intro w hSt; (first | exact Ev_auto))) | refine QL_pass rfl rfl ?_ | (refine QL_guardP rfl rfl (fun hc => ?_) (fun hc => ?_) <;> try exact absA) | (refine QL_guard rfl rfl (fun hc => ?_) (fun hc => ?_) <;> (try exact absA) <;> (fail_if_success (change true = true at hc)) <;> (fail_if_success (change false = false at hc))))); all_goals (refine QL_nil (fun w hSt => ?_))) | (refine stepG ?_ ?_ <;> intro hc <;> (try exact absA) <;> (fail_if_success (change true = true at hc)) <;> (fail_if_success (change false = false at hc))) | fail)
    exact ret2 rfl rfl rfl ⟨rfl, _, hW, hSt⟩
theorem rcancel_any (hW : RW br bw bv s H) (hk : Svk s (n + 1)) (h4 : R4 s) (hI : Inv s) (hh : Has w0 H) (c d at_ : Int) :
    Cl Tryz.prog 49 [Ptr br, idV c d, I at_] w0 (fun v w' => v = I (cancelS s c d at_).1 ∧ ∃ H', RW br bw bv (cancelS s c d at_).2 H' ∧ St w0 (InH H) H' w') := by
  obtain ⟨gv, Hg, ev, He, Hj, hog, hoe, hJ, rfl⟩ := id hW
  have hSt := hh.st
  generalize InH _ = SS at hSt ⊢
  clear hh
  have hl := hk.l
  have hc1 := hI.c1
  have hc2x := hI.c2
  have hc3 := hI.c3
  have hst7 := hI.st
  clear hI
  obtain ⟨pol, lim, l, ends, cur, fb, stop, m, j⟩ := s
  dsimp only at hog hoe hJ hSt hl hc1 hc2x hc3 hst7 ⊢
  unfold cancelS; dsimp only
  rcases stop with _ | _
  · rw [if_neg (by simp)]
    rcases hf : findG l c d with _ | i
    · refine enter Tryz.func49 rfl Tryz.ntmps49 rfl ?_
      repeat' (first | (refine WL_box rfl rfl rfl hSt ?_; clear hSt; intro w nb hnb hSt; replace hSt := hSt.front; dsimp only [zcells] at hSt) | (refine WL_isCall (f := 76) ?_; refine WL_call (ok_call hT rfl) rfl rfl rfl (rfind_no (s := ⟨_, _, l, _, _, _, _, _, _⟩) (hSt.own 1 _ _ rfl).1 (OwnSl.slAt gC_len hog (hSt.has.sublist (sub_g.trans (List.sublist_cons_self _ _)))) (by dsimp only; omega) hf) ?_; rintro v w2 ⟨rfl, hc2⟩; replace hSt := hSt.call0 hc2; clear hc2) | refine stepA ?_ | (refine stepS ?_; clear hSt; intro w hSt; dsimp only [spl, List.set] at hSt) | (refine stepB ?_; clear hSt; intro w nb hnb hSt; dsimp only [zcells, List.nil_append, List.cons_append] at hSt) | (refine W_quiet hT (by decide +kernel) hSt ?_; clear hSt; (repeat' (first | (apply QL_ev rfl rfl; (intro w hSt; (first | exact Ev_auto))) | refine QL_pass rfl rfl ?_ | (refine QL_guardP rfl rfl (fun hc => ?_) (fun hc => ?_) <;> try exact absA) | (refine QL_guard rfl rfl (fun hc => ?_) (fun hc => ?_) <;> (try exact absA) <;> (fail_if_success (change true = true at hc)) <;> (fail_if_success (change false = false at hc))))); all_goals (refine QL_nil (fun w hSt => ?_))) | (refine stepG ?_ ?_ <;> intro hc <;> (try exact absA) <;> (fail_if_success (change true = true at hc)) <;> (fail_if_success (change false = false at hc))) | fail)
      all_goals first | exact ret1 rfl rfl ⟨rfl, _, hW, hSt.right (Ha := [_])⟩ | (exfalso; omega)
    dsimp only
    have hil := findG_lt hf
    have hx := gAt_some hil
    by_cases ha : ¬ (0 ≤ at_ ∧ at_ ≤ 1099511627776)
    · rw [if_pos ha]
      refine enter Tryz.func49 rfl Tryz.ntmps49 rfl ?_
      repeat' (first | (refine WL_box rfl rfl rfl hSt ?_; clear hSt; intro w nb hnb hSt; replace hSt := hSt.front; dsimp only [zcells] at hSt) | (refine WL_isCall (f := 76) ?_; refine WL_call (ok_call hT rfl) rfl rfl rfl (rfind_yes (s := ⟨_, _, l, _, _, _, _, _, _⟩) (hSt.own 1 _ _ rfl).1 (OwnSl.slAt gC_len hog (hSt.has.sublist (sub_g.trans (List.sublist_cons_self _ _)))) (by dsimp only; omega) hf) ?_; rintro v w2 ⟨rfl, hc2⟩; replace hSt := hSt.call0 hc2; clear hc2) | refine stepA ?_ | (refine stepS ?_; clear hSt; intro w hSt; dsimp only [spl, List.set] at hSt) | (refine stepB ?_; clear hSt; intro w nb hnb hSt; dsimp only [zcells, List.nil_append, List.cons_append] at hSt) | (refine W_quiet hT (by decide +kernel) hSt ?_; clear hSt; (repeat' (first | (apply QL_ev rfl rfl; (intro w hSt; (first | exact Ev_auto))) | refine QL_pass rfl rfl ?_ | (refine QL_guardP rfl rfl (fun hc => ?_) (fun hc => ?_) <;> try exact absA) | (refine QL_guard rfl rfl (fun hc => ?_) (fun hc => ?_) <;> (try exact absA) <;> (fail_if_success (change true = true at hc)) <;> (fail_if_success (change false = false at hc))))); all_goals (refine QL_nil (fun w hSt => ?_))) | (refine stepG ?_ ?_ <;> intro hc <;> (try exact absA) <;> (fail_if_success (change true = true at hc)) <;> (fail_if_success (change false = false at hc))) | fail)
      all_goals first | exact ret1 rfl rfl ⟨rfl, _, hW, hSt.right (Ha := [_])⟩ | (exfalso; omega)
    rw [if_neg ha]
    by_cases hla : at_ < latF l
    · rw [if_pos hla]
      refine enter Tryz.func49 rfl Tryz.ntmps49 rfl ?_
      repeat' (first | (refine WL_box rfl rfl rfl hSt ?_; clear hSt; intro w nb hnb hSt; replace hSt := hSt.front; dsimp only [zcells] at hSt) | (refine WL_isCall (f := 76) ?_; refine WL_call (ok_call hT rfl) rfl rfl rfl (rfind_yes (s := ⟨_, _, l, _, _, _, _, _, _⟩) (hSt.own 1 _ _ rfl).1 (OwnSl.slAt gC_len hog (hSt.has.sublist (sub_g.trans (List.sublist_cons_self _ _)))) (by dsimp only; omega) hf) ?_; rintro v w2 ⟨rfl, hc2⟩; replace hSt := hSt.call0 hc2; clear hc2) | (refine WL_isCall (f := 73) ?_; refine WL_call (ok_call hT rfl) rfl rfl rfl (rlat_l (s := ⟨_, _, l, _, _, _, _, _, _⟩) (l := l) rfl (hSt.own 1 _ _ rfl).1 (OwnSl.slAt gC_len hog (hSt.has.sublist (sub_g.trans (List.sublist_cons_self _ _)))) (by dsimp only; omega)) ?_; rintro v w2 ⟨rfl, hc2⟩; replace hSt := hSt.call0 hc2; clear hc2) | refine stepA ?_ | (refine stepS ?_; clear hSt; intro w hSt; dsimp only [spl, List.set] at hSt) | (refine stepB ?_; clear hSt; intro w nb hnb hSt; dsimp only [zcells, List.nil_append, List.cons_append] at hSt) | (refine W_quiet hT (by decide +kernel) hSt ?_; clear hSt; (repeat' (first | (apply QL_ev rfl rfl; (intro w hSt; (first | exact Ev_auto))) | refine QL_pass rfl rfl ?_ | (refine QL_guardP rfl rfl (fun hc => ?_) (fun hc => ?_) <;> try exact absA) | (refine QL_guard rfl rfl (fun hc => ?_) (fun hc => ?_) <;> (try exact absA) <;> (fail_if_success (change true = true at hc)) <;> (fail_if_success (change false = false at hc))))); all_goals (refine QL_nil (fun w hSt => ?_))) | (refine stepG ?_ ?_ <;> intro hc <;> (try exact absA) <;> (fail_if_success (change true = true at hc)) <;> (fail_if_success (change false = false at hc))) | fail)
      all_goals first | exact ret1 rfl rfl ⟨rfl, _, hW, hSt.right (Ha := [_])⟩ | (exfalso; omega)
    rw [if_neg hla]
    obtain ⟨gb, gc, rs1, rfl, hgc, hrs, rfl⟩ := hog.some_ (by omega)
    dsimp only [List.cons_append, List.nil_append] at hSt
    have hend := fun {w : World} hh => rend_any (w0 := w) hW (hk.le (k := 1) (by omega)) h4 hh hil 6 at_ wCanceled
    generalize endS _ i 6 at_ wCanceled = r at hend ⊢
    have h1i := hc1 i hil
    have h7i := hst7 i hil
    have h2i : (i : Int) = cur → (gAt l i).st = 2 ∨ (gAt l i).st = 3 := fun e => by
      have := (hc2x (by omega)).2
      rw [show cur.toNat = i by omega] at this
      exact this
    clear hc1 hc2x hst7
    generalize hg0 : gAt l i = g0 at hx h1i h7i h2i ⊢
    obtain ⟨c0, n0, s0, a0, e0, q0, y0⟩ := g0
    dsimp only at h1i h7i h2i ⊢
    have hT4 : (termF s0 = true ∨ s0 = 3) ↔ ((4 ≤ s0 ∧ s0 ≤ 7) ∨ s0 = 3) := by rw [termF_iff]
    by_cases hT3 : (4 ≤ s0 ∧ s0 ≤ 7) ∨ s0 = 3
    · rw [if_pos (hT4.2 hT3)]
      refine enter Tryz.func49 rfl Tryz.ntmps49 rfl ?_
      repeat' (first | (refine WL_box rfl rfl rfl hSt ?_; clear hSt; intro w nb hnb hSt; replace hSt := hSt.front; dsimp only [zcells] at hSt) | (refine WL_isCall (f := 76) ?_; refine WL_call (ok_call hT rfl) rfl rfl rfl (rfind_yes (s := ⟨_, _, l, _, _, _, _, _, _⟩) (hSt.own 1 _ _ rfl).1 (OwnSl.slAt gC_len hog (hSt.has.sublist ((List.sublist_append_left [_] _).trans ((List.sublist_cons_self _ _).trans (List.sublist_cons_self _ _))))) (by dsimp only; omega) hf) ?_; rintro v w2 ⟨rfl, hc2⟩; replace hSt := hSt.call0 hc2; clear hc2) | (refine WL_isCall (f := 73) ?_; refine WL_call (ok_call hT rfl) rfl rfl rfl (rlat_l (s := ⟨_, _, l, _, _, _, _, _, _⟩) (l := l) rfl (hSt.own 1 _ _ rfl).1 (OwnSl.slAt gC_len hog (hSt.has.sublist ((List.sublist_append_left [_] _).trans ((List.sublist_cons_self _ _).trans (List.sublist_cons_self _ _))))) (by dsimp only; omega)) ?_; rintro v w2 ⟨rfl, hc2⟩; replace hSt := hSt.call0 hc2; clear hc2) | (apply WL_ev rfl rfl; exact Ev_load1 hT rfl rfl (hSt.at 2 rfl) (cell_get (c := I s0) hx (j := 2) rfl rs1)) | refine stepA ?_ | (refine stepS ?_; clear hSt; intro w hSt; dsimp only [spl, List.set] at hSt) | (refine stepB ?_; clear hSt; intro w nb hnb hSt; dsimp only [zcells, List.nil_append, List.cons_append] at hSt) | (refine W_quiet hT (by decide +kernel) hSt ?_; clear hSt; (repeat' (first | (apply QL_ev rfl rfl; (intro w hSt; (first | (exact Ev_load1 hT rfl rfl (hSt.at 2 rfl) (cell_get (c := I s0) hx (j := 2) rfl rs1)) | exact Ev_auto))) | refine QL_pass rfl rfl ?_ | (refine QL_guardP rfl rfl (fun hc => ?_) (fun hc => ?_) <;> try exact absA) | (refine QL_guard rfl rfl (fun hc => ?_) (fun hc => ?_) <;> (try exact absA) <;> (fail_if_success (change true = true at hc)) <;> (fail_if_success (change false = false at hc))))); all_goals (refine QL_nil (fun w hSt => ?_))) | (refine stepG ?_ ?_ <;> intro hc <;> (try exact absA) <;> (fail_if_success (change true = true at hc)) <;> (fail_if_success (change false = false at hc))) | fail)
      all_goals first | exact ret1 rfl rfl ⟨rfl, _, hW, hSt.right (Ha := [_])⟩ | (exfalso; omega)
    rw [if_neg (fun h => hT3 (hT4.1 h))]
    by_cases hic : (i : Int) = cur
    · rw [if_pos hic]
      have h2 : s0 = 2 := by have := h2i hic; omega
      refine enter Tryz.func49 rfl Tryz.ntmps49 rfl ?_
      repeat' (first | (refine WL_box rfl rfl rfl hSt ?_; clear hSt; intro w nb hnb hSt; replace hSt := hSt.front; dsimp only [zcells] at hSt) | (refine WL_isCall (f := 76) ?_; refine WL_call (ok_call hT rfl) rfl rfl rfl (rfind_yes (s := ⟨_, _, l, _, _, _, _, _, _⟩) (hSt.own 1 _ _ rfl).1 (OwnSl.slAt gC_len hog (hSt.has.sublist ((List.sublist_append_left [_] _).trans ((List.sublist_cons_self _ _).trans (List.sublist_cons_self _ _))))) (by dsimp only; omega) hf) ?_; rintro v w2 ⟨rfl, hc2⟩; replace hSt := hSt.call0 hc2; clear hc2) | (refine WL_isCall (f := 73) ?_; refine WL_call (ok_call hT rfl) rfl rfl rfl (rlat_l (s := ⟨_, _, l, _, _, _, _, _, _⟩) (l := l) rfl (hSt.own 1 _ _ rfl).1 (OwnSl.slAt gC_len hog (hSt.has.sublist ((List.sublist_append_left [_] _).trans ((List.sublist_cons_self _ _).trans (List.sublist_cons_self _ _))))) (by dsimp only; omega)) ?_; rintro v w2 ⟨rfl, hc2⟩; replace hSt := hSt.call0 hc2; clear hc2) | (apply WL_ev rfl rfl; exact Ev_load1 hT rfl rfl (hSt.at 2 rfl) (cell_get (c := I s0) hx (j := 2) rfl rs1)) | (refine WL_store1 hT rfl rfl 2 rfl rfl hSt rfl rfl (cell_lt hil (j := 2) (by decide) rs1) ?_; clear hSt; intro w hSt; dsimp only [List.cons_append, List.nil_append, List.set] at hSt; replace hSt := St.row3 (cell_put (y := ⟨c0, n0, 3, a0, e0, q0, y0⟩) hx (j := 2) (by decide) rfl rs1) hSt) | refine stepA ?_ | (refine stepS ?_; clear hSt; intro w hSt; dsimp only [spl, List.set] at hSt) | (refine stepB ?_; clear hSt; intro w nb hnb hSt; dsimp only [zcells, List.nil_append, List.cons_append] at hSt) | (refine W_quiet hT (by decide +kernel) hSt ?_; clear hSt; (repeat' (first | (apply QL_ev rfl rfl; (intro w hSt; (first | (exact Ev_load1 hT rfl rfl (hSt.at 2 rfl) (cell_get (c := I s0) hx (j := 2) rfl rs1)) | exact Ev_auto))) | refine QL_pass rfl rfl ?_ | (refine QL_guardP rfl rfl (fun hc => ?_) (fun hc => ?_) <;> try exact absA) | (refine QL_guard rfl rfl (fun hc => ?_) (fun hc => ?_) <;> (try exact absA) <;> (fail_if_success (change true = true at hc)) <;> (fail_if_success (change false = false at hc))))); all_goals (refine QL_nil (fun w hSt => ?_))) | (refine stepG ?_ ?_ <;> intro hc <;> (try exact absA) <;> (fail_if_success (change true = true at hc)) <;> (fail_if_success (change false = false at hc))) | fail)
      all_goals first | exact ret1 rfl rfl ⟨rfl, _, ⟨_, _, _, _, _, own_set hgc hrs, hoe, hJ, rfl⟩, hSt.right (Ha := [_])⟩ | (exfalso; omega)
    rw [if_neg hic]
    have h1 : s0 = 1 := by
      have : ¬ (s0 = 2 ∨ s0 = 3) := fun h => hic (h1i h)
      omega
    obtain ⟨e, s2⟩ := r
    dsimp only at hend ⊢
    refine enter Tryz.func49 rfl Tryz.ntmps49 rfl ?_
    repeat' (first | (refine WL_box rfl rfl rfl hSt ?_; clear hSt; intro w nb hnb hSt; replace hSt := hSt.front; dsimp only [zcells] at hSt) | (refine WL_isCall (f := 76) ?_; refine WL_call (ok_call hT rfl) rfl rfl rfl (rfind_yes (s := ⟨_, _, l, _, _, _, _, _, _⟩) (hSt.own 1 _ _ rfl).1 (OwnSl.slAt gC_len hog (hSt.has.sublist ((List.sublist_append_left [_] _).trans ((List.sublist_cons_self _ _).trans (List.sublist_cons_self _ _))))) (by dsimp only; omega) hf) ?_; rintro v w2 ⟨rfl, hc2⟩; replace hSt := hSt.call0 hc2; clear hc2) | (refine WL_isCall (f := 73) ?_; refine WL_call (ok_call hT rfl) rfl rfl rfl (rlat_l (s := ⟨_, _, l, _, _, _, _, _, _⟩) (l := l) rfl (hSt.own 1 _ _ rfl).1 (OwnSl.slAt gC_len hog (hSt.has.sublist ((List.sublist_append_left [_] _).trans ((List.sublist_cons_self _ _).trans (List.sublist_cons_self _ _))))) (by dsimp only; omega)) ?_; rintro v w2 ⟨rfl, hc2⟩; replace hSt := hSt.call0 hc2; clear hc2) | (apply WL_ev rfl rfl; exact Ev_load1 hT rfl rfl (hSt.at 2 rfl) (cell_get (c := I s0) hx (j := 2) rfl rs1)) | (refine WL_isCall (f := 74) ?_; refine WL_call (ok_call hT rfl) rfl rfl rfl (hend (St.hasE (Ha := [_]) hSt)) ?_; rintro v w2 ⟨rfl, H2, hW2, hc2⟩; replace hSt := St.callE (Ha := [_]) hSt hc2; clear hc2) | refine stepA ?_ | (refine stepS ?_; clear hSt; intro w hSt; dsimp only [spl, List.set] at hSt) | (refine stepB ?_; clear hSt; intro w nb hnb hSt; dsimp only [zcells, List.nil_append, List.cons_append] at hSt) | (refine W_quiet hT (by decide +kernel) hSt ?_; clear hSt; (repeat' (first | (apply QL_ev rfl rfl; (intro w hSt; (first | (exact Ev_load1 hT rfl rfl (hSt.at 2 rfl) (cell_get (c := I s0) hx (j := 2) rfl rs1)) | exact Ev_auto))) | refine QL_pass rfl rfl ?_ | (refine QL_guardP rfl rfl (fun hc => ?_) (fun hc => ?_) <;> try exact absA) | (refine QL_guard rfl rfl (fun hc => ?_) (fun hc => ?_) <;> (try exact absA) <;> (fail_if_success (change true = true at hc)) <;> (fail_if_success (change false = false at hc))))); all_goals (refine QL_nil (fun w hSt => ?_))) | (refine stepG ?_ ?_ <;> intro hc <;> (try exact absA) <;> (fail_if_success (change true = true at hc)) <;> (fail_if_success (change false = false at hc))) | fail)
    all_goals first | exact ret1 rfl rfl ⟨rfl, _, hW2, hSt.right (Ha := [_])⟩ | (exfalso; omega)
  · rw [if_pos rfl]
    refine enter Tryz.func49 rfl Tryz.ntmps49 rfl ?_
    repeat' (first | (refine WL_box rfl rfl rfl hSt ?_; clear hSt; intro w nb hnb hSt; replace hSt := hSt.front; dsimp only [zcells] at hSt) | refine stepA ?_ | (refine stepS ?_; clear hSt; intro w hSt; dsimp only [spl, List.set] at hSt) | (refine stepB ?_; clear hSt; intro w nb hnb hSt; dsimp only [zcells, List.nil_append, List.cons_append] at hSt) | (refine W_quiet hT (by decide +kernel) hSt ?_; clear hSt; (repeat' (first | (apply QL_ev rfl rfl; (intro w hSt; (first | exact Ev_auto))) | refine QL_pass rfl rfl ?_ | (refine QL_guardP rfl rfl (fun hc => ?_) (fun hc => ?_) <;> try exact absA) | (refine QL_guard rfl rfl (fun hc => ?_) (fun hc => ?_) <;> (try exact absA) <;> (fail_if_success (change true = true at hc)) <;> (fail_if_success (change false = false at hc))))); all_goals (refine QL_nil (fun w hSt => ?_))) | (refine stepG ?_ ?_ <;> intro hc <;> (try exact absA) <;> (fail_if_success (change true = true at hc)) <;> (fail_if_success (change false = false at hc))) | fail)
    all_goals exact ret1 rfl rfl ⟨rfl, _, hW, hSt.right (Ha := [_])⟩
end
end Go.Proofs.YtndkifkaejmibaaGreatDoor
