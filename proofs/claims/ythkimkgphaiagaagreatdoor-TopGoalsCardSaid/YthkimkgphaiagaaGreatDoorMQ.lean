/- The server in memory: the current goal ends; cancellation; feedback; what is asked. No conditions. -/
import Derived.Test.YthkimkgphaiagaaGreatDoorSvf

namespace Go.Proofs.YthkimkgphaiagaaGreatDoor
open Go.RowKit
set_option maxRecDepth 4000
set_option linter.unusedVariables false
set_option linter.unusedSimpArgs false
set_option maxHeartbeats 8000000

theorem St.row2 {w0 w : World} {SS : Nat → Prop} {a : Nat × Obj} {d : List (Nat × Obj)} {g : Nat} {X Y : List Value} {E : TypeId} (e : X = Y) (h : St w0 SS (a :: (g, blk X E) :: d) w) : St w0 SS (a :: (g, blk Y E) :: d) w := e ▸ h
theorem latest_l {w0 : World} {bs bj : Nat} {gv ev : Value} {s : Sv} {l : List Gl} (hs : s.l = l) (hb : w0.heap[bs]? = some (svO bj gv ev s)) (hg : SlAt w0 gv 7 (s.l.map gC)) (hl : s.l.length ≤ 1000000) : Cl Tryz.prog 30 [Ptr bs] w0 (fun v w' => v = I (latF l) ∧ St w0 NoneS [] w') := hs ▸ latest_any hb hg hl
theorem endS_len2 {s : Sv} {i : Nat} {st at_ : Int} {rs : List UInt8} (h : s.l.length ≤ 64) : (endS s i st at_ rs).2.l.length ≤ 64 := by rw [endS_len]; exact h
section
variable {w0 : World} {bs bj bm : Nat} {s : Sv} {H : List (Nat × Obj)} {n : Nat}
theorem finish_any (hG : Gb w0) (hW : SW bs bj bm s H) (hk : Svk s (n + 1)) (hI : Inv0 s) (hh : Has w0 H) (hn : NoG (InH H)) (st at_ : Int) (rs : List UInt8) :
    Cl Tryz.prog 64 [Ptr bs, I st, I at_, S rs] w0 (fun v w' => v = I (finishS s st at_ rs).1 ∧ ∃ H', SW bs bj bm (finishS s st at_ rs).2 H' ∧ St w0 (InH H) H' w') := by
  obtain ⟨gv, Hg, ev, He, Hj, hog, hoe, hJ, rfl⟩ := id hW
  have hSt := hh.st
  generalize InH _ = SS at hSt hn ⊢
  clear hh
  have hl := hk.l
  have hcc := hI.c2
  clear hI
  obtain ⟨pol, lim, l, ends, cur, fb, stop, m, j⟩ := s
  dsimp only at hog hoe hJ hSt hl hcc ⊢
  unfold finishS; dsimp only
  rcases stop with _ | _
  · rw [if_neg (by simp)]
    by_cases hcu : cur < 0
    · rw [if_pos hcu]
      refine enter Tryz.func64 rfl Tryz.ntmps64 rfl ?_
      repeat' (first | refine stepA ?_ | (refine stepS ?_; clear hSt; intro w hSt; dsimp only [spl, List.set] at hSt) | (refine stepB ?_; clear hSt; intro w nb hnb hSt; dsimp only [zcells, List.nil_append, List.cons_append] at hSt) | (refine W_quiet hT (by decide +kernel) hSt ?_; clear hSt; (repeat' (first | (apply QL_ev rfl rfl; (intro w hSt; (first | exact Ev_auto))) | refine QL_pass rfl rfl ?_ | (refine QL_guardP rfl rfl (fun hc => ?_) (fun hc => ?_) <;> try exact absA) | (refine QL_guard rfl rfl (fun hc => ?_) (fun hc => ?_) <;> (try exact absA) <;> (fail_if_success (change true = true at hc)) <;> (fail_if_success (change false = false at hc))))); all_goals (refine QL_nil (fun w hSt => ?_))) | (refine stepG ?_ ?_ <;> intro hc <;> (try exact absA) <;> (fail_if_success (change true = true at hc)) <;> (fail_if_success (change false = false at hc))) | fail)
      exact ret1 rfl rfl ⟨rfl, _, hW, hSt⟩
    rw [if_neg hcu]
    by_cases ha : ¬ (0 ≤ at_ ∧ at_ ≤ 1099511627776)
    · rw [if_pos ha]
      refine enter Tryz.func64 rfl Tryz.ntmps64 rfl ?_
      repeat' (first | (refine WL_isCall (f := 26) ?_; refine WL_call (ok_call hT rfl) rfl rfl rfl (in_any _ _ _) ?_; rintro v w' ⟨rfl, hc2⟩; replace hSt := hSt.call0 hc2; clear hc2) | refine stepA ?_ | (refine stepS ?_; clear hSt; intro w hSt; dsimp only [spl, List.set] at hSt) | (refine stepB ?_; clear hSt; intro w nb hnb hSt; dsimp only [zcells, List.nil_append, List.cons_append] at hSt) | (refine W_quiet hT (by decide +kernel) hSt ?_; clear hSt; (repeat' (first | (apply QL_ev rfl rfl; (intro w hSt; (first | exact Ev_auto))) | refine QL_pass rfl rfl ?_ | (refine QL_guardP rfl rfl (fun hc => ?_) (fun hc => ?_) <;> try exact absA) | (refine QL_guard rfl rfl (fun hc => ?_) (fun hc => ?_) <;> (try exact absA) <;> (fail_if_success (change true = true at hc)) <;> (fail_if_success (change false = false at hc))))); all_goals (refine QL_nil (fun w hSt => ?_))) | (refine stepG ?_ ?_ <;> intro hc <;> (try exact absA) <;> (fail_if_success (change true = true at hc)) <;> (fail_if_success (change false = false at hc))) | fail)
      exact ret1 rfl rfl ⟨rfl, _, hW, hSt⟩
    rw [if_neg ha]
    by_cases hla : at_ < latF l
    · rw [if_pos hla]
      refine enter Tryz.func64 rfl Tryz.ntmps64 rfl ?_
      repeat' (first | (refine WL_isCall (f := 26) ?_; refine WL_call (ok_call hT rfl) rfl rfl rfl (in_any _ _ _) ?_; rintro v w' ⟨rfl, hc2⟩; replace hSt := hSt.call0 hc2; clear hc2) | (refine WL_isCall (f := 30) ?_; refine WL_call (ok_call hT rfl) rfl rfl rfl (latest_l (s := ⟨_, _, l, _, _, _, _, _, _⟩) (l := l) rfl (hSt.own 0 _ _ rfl).1 (OwnSl.slAt gC_len hog (hSt.has.sublist sub_g)) (by dsimp only; omega)) ?_; rintro v w2 ⟨rfl, hc2⟩; replace hSt := hSt.call0 hc2; clear hc2) | refine stepA ?_ | (refine stepS ?_; clear hSt; intro w hSt; dsimp only [spl, List.set] at hSt) | (refine stepB ?_; clear hSt; intro w nb hnb hSt; dsimp only [zcells, List.nil_append, List.cons_append] at hSt) | (refine W_quiet hT (by decide +kernel) hSt ?_; clear hSt; (repeat' (first | (apply QL_ev rfl rfl; (intro w hSt; (first | exact Ev_auto))) | refine QL_pass rfl rfl ?_ | (refine QL_guardP rfl rfl (fun hc => ?_) (fun hc => ?_) <;> try exact absA) | (refine QL_guard rfl rfl (fun hc => ?_) (fun hc => ?_) <;> (try exact absA) <;> (fail_if_success (change true = true at hc)) <;> (fail_if_success (change false = false at hc))))); all_goals (refine QL_nil (fun w hSt => ?_))) | (refine stepG ?_ ?_ <;> intro hc <;> (try exact absA) <;> (fail_if_success (change true = true at hc)) <;> (fail_if_success (change false = false at hc))) | fail)
      exact ret1 rfl rfl ⟨rfl, _, hW, hSt⟩
    rw [if_neg hla]
    by_cases hrl : 2000 < rs.length
    · rw [if_pos hrl]
      refine enter Tryz.func64 rfl Tryz.ntmps64 rfl ?_
      repeat' (first | (refine WL_isCall (f := 26) ?_; refine WL_call (ok_call hT rfl) rfl rfl rfl (in_any _ _ _) ?_; rintro v w' ⟨rfl, hc2⟩; replace hSt := hSt.call0 hc2; clear hc2) | (refine WL_isCall (f := 30) ?_; refine WL_call (ok_call hT rfl) rfl rfl rfl (latest_l (s := ⟨_, _, l, _, _, _, _, _, _⟩) (l := l) rfl (hSt.own 0 _ _ rfl).1 (OwnSl.slAt gC_len hog (hSt.has.sublist sub_g)) (by dsimp only; omega)) ?_; rintro v w2 ⟨rfl, hc2⟩; replace hSt := hSt.call0 hc2; clear hc2) | refine stepA ?_ | (refine stepS ?_; clear hSt; intro w hSt; dsimp only [spl, List.set] at hSt) | (refine stepB ?_; clear hSt; intro w nb hnb hSt; dsimp only [zcells, List.nil_append, List.cons_append] at hSt) | (refine W_quiet hT (by decide +kernel) hSt ?_; clear hSt; (repeat' (first | (apply QL_ev rfl rfl; (intro w hSt; (first | exact Ev_auto))) | refine QL_pass rfl rfl ?_ | (refine QL_guardP rfl rfl (fun hc => ?_) (fun hc => ?_) <;> try exact absA) | (refine QL_guard rfl rfl (fun hc => ?_) (fun hc => ?_) <;> (try exact absA) <;> (fail_if_success (change true = true at hc)) <;> (fail_if_success (change false = false at hc))))); all_goals (refine QL_nil (fun w hSt => ?_))) | (refine stepG ?_ ?_ <;> intro hc <;> (try exact absA) <;> (fail_if_success (change true = true at hc)) <;> (fail_if_success (change false = false at hc))) | fail)
      exact ret1 rfl rfl ⟨rfl, _, hW, hSt⟩
    rw [if_neg hrl]
    obtain ⟨hil, hst⟩ := hcc (by omega)
    obtain ⟨ci, rfl⟩ : ∃ ci : Nat, cur = (ci : Int) := ⟨cur.toNat, by omega⟩
    rw [Int.toNat_natCast] at hil hst ⊢
    have hx := gAt_some hil
    obtain ⟨gb, gc, rs1, rfl, hgc, hrs, rfl⟩ := hog.some_ (by omega)
    dsimp only [List.cons_append, List.nil_append] at hSt
    generalize hg0 : gAt l ci = g0 at hx hst ⊢
    obtain ⟨c0, n0, s0, a0, e0, q0, y0⟩ := g0
    dsimp only at hst ⊢
    obtain ⟨st', hst'⟩ : ∃ st', st' = (if st = 5 ∧ s0 = 3 then 6 else st) := ⟨_, rfl⟩
    rw [← hst']
    have hend := fun {w : World} (hG : Gb w) hh hn => end_any (w0 := w) hG hW (hk.le (k := 1) (by omega)) hh hn hil st' at_ rs
    have hl2 := endS_len2 (i := ci) (st := st') (at_ := at_) (rs := rs) hk.l
    generalize endS _ ci st' at_ rs = r at hend hl2 ⊢
    obtain ⟨e, s2⟩ := r
    dsimp only at hend hl2 ⊢
    by_cases he : e = 0
    · subst he
      rw [if_neg (by simp)]
      by_cases h53 : st = 5 ∧ s0 = 3
      · rw [if_pos h53] at hst'
        subst hst'
        refine enter Tryz.func64 rfl Tryz.ntmps64 rfl ?_
        repeat' (first | (refine WL_isCall (f := 26) ?_; refine WL_call (ok_call hT rfl) rfl rfl rfl (in_any _ _ _) ?_; rintro v w' ⟨rfl, hc2⟩; replace hSt := hSt.call0 hc2; clear hc2) | (refine WL_isCall (f := 30) ?_; refine WL_call (ok_call hT rfl) rfl rfl rfl (latest_l (s := ⟨_, _, l, _, _, _, _, _, _⟩) (l := l) rfl (hSt.own 0 _ _ rfl).1 (OwnSl.slAt gC_len hog (hSt.has.sublist sub_g)) (by dsimp only; omega)) ?_; rintro v w2 ⟨rfl, hc2⟩; replace hSt := hSt.call0 hc2; clear hc2) | (apply WL_ev rfl rfl; exact Ev_load1 hT rfl rfl (hSt.at 0 rfl) (show _ = some (I (ci : Int)) from rfl)) | (apply WL_ev rfl rfl; exact Ev_load1 hT rfl rfl (hSt.at 1 rfl) (cell_get (c := I s0) hx (j := 2) rfl rs1)) | (refine WL_isCall (f := 32) ?_; refine WL_call (ok_call hT rfl) rfl rfl rfl (hend (hG.later hSt hn) (St.hasE (Ha := []) hSt) (NoG.r (Ha := []) (hG.no hSt hn))) ?_; rintro v w2 ⟨rfl, H2, hW2, hc2⟩; replace hSt := St.callE (Ha := []) hSt hc2; clear hc2) | (refine WL_isCall (f := 49) ?_; refine WL_call (ok_call hT rfl) rfl rfl rfl (next_any hW2 hl2 (St.hasE (Ha := []) hSt)) ?_; rintro v w2 ⟨rfl, H3, hW3, hc2⟩; replace hSt := St.callE (Ha := []) hSt hc2; clear hc2) | refine stepA ?_ | (refine stepS ?_; clear hSt; intro w hSt; dsimp only [spl, List.set] at hSt) | (refine stepB ?_; clear hSt; intro w nb hnb hSt; dsimp only [zcells, List.nil_append, List.cons_append] at hSt) | (refine W_quiet hT (by decide +kernel) hSt ?_; clear hSt; (repeat' (first | (apply QL_ev rfl rfl; (intro w hSt; (first | (exact Ev_load1 hT rfl rfl (hSt.at 0 rfl) (show _ = some (I (ci : Int)) from rfl)) | (exact Ev_load1 hT rfl rfl (hSt.at 1 rfl) (cell_get (c := I s0) hx (j := 2) rfl rs1)) | exact Ev_auto))) | refine QL_pass rfl rfl ?_ | (refine QL_guardP rfl rfl (fun hc => ?_) (fun hc => ?_) <;> try exact absA) | (refine QL_guard rfl rfl (fun hc => ?_) (fun hc => ?_) <;> (try exact absA) <;> (fail_if_success (change true = true at hc)) <;> (fail_if_success (change false = false at hc))))); all_goals (refine QL_nil (fun w hSt => ?_))) | (refine stepG ?_ ?_ <;> intro hc <;> (try exact absA) <;> (fail_if_success (change true = true at hc)) <;> (fail_if_success (change false = false at hc))) | fail)
        exact ret1 rfl rfl ⟨rfl, _, hW3, hSt⟩
      · rw [if_neg h53] at hst'
        subst hst'
        refine enter Tryz.func64 rfl Tryz.ntmps64 rfl ?_
        repeat' (first | (refine WL_isCall (f := 26) ?_; refine WL_call (ok_call hT rfl) rfl rfl rfl (in_any _ _ _) ?_; rintro v w' ⟨rfl, hc2⟩; replace hSt := hSt.call0 hc2; clear hc2) | (refine WL_isCall (f := 30) ?_; refine WL_call (ok_call hT rfl) rfl rfl rfl (latest_l (s := ⟨_, _, l, _, _, _, _, _, _⟩) (l := l) rfl (hSt.own 0 _ _ rfl).1 (OwnSl.slAt gC_len hog (hSt.has.sublist sub_g)) (by dsimp only; omega)) ?_; rintro v w2 ⟨rfl, hc2⟩; replace hSt := hSt.call0 hc2; clear hc2) | (apply WL_ev rfl rfl; exact Ev_load1 hT rfl rfl (hSt.at 0 rfl) (show _ = some (I (ci : Int)) from rfl)) | (apply WL_ev rfl rfl; exact Ev_load1 hT rfl rfl (hSt.at 1 rfl) (cell_get (c := I s0) hx (j := 2) rfl rs1)) | (refine WL_isCall (f := 32) ?_; refine WL_call (ok_call hT rfl) rfl rfl rfl (hend (hG.later hSt hn) (St.hasE (Ha := []) hSt) (NoG.r (Ha := []) (hG.no hSt hn))) ?_; rintro v w2 ⟨rfl, H2, hW2, hc2⟩; replace hSt := St.callE (Ha := []) hSt hc2; clear hc2) | (refine WL_isCall (f := 49) ?_; refine WL_call (ok_call hT rfl) rfl rfl rfl (next_any hW2 hl2 (St.hasE (Ha := []) hSt)) ?_; rintro v w2 ⟨rfl, H3, hW3, hc2⟩; replace hSt := St.callE (Ha := []) hSt hc2; clear hc2) | refine stepA ?_ | (refine stepS ?_; clear hSt; intro w hSt; dsimp only [spl, List.set] at hSt) | (refine stepB ?_; clear hSt; intro w nb hnb hSt; dsimp only [zcells, List.nil_append, List.cons_append] at hSt) | (refine W_quiet hT (by decide +kernel) hSt ?_; clear hSt; (repeat' (first | (apply QL_ev rfl rfl; (intro w hSt; (first | (exact Ev_load1 hT rfl rfl (hSt.at 0 rfl) (show _ = some (I (ci : Int)) from rfl)) | (exact Ev_load1 hT rfl rfl (hSt.at 1 rfl) (cell_get (c := I s0) hx (j := 2) rfl rs1)) | exact Ev_auto))) | refine QL_pass rfl rfl ?_ | (refine QL_guardP rfl rfl (fun hc => ?_) (fun hc => ?_) <;> try exact absA) | (refine QL_guard rfl rfl (fun hc => ?_) (fun hc => ?_) <;> (try exact absA) <;> (fail_if_success (change true = true at hc)) <;> (fail_if_success (change false = false at hc))))); all_goals (refine QL_nil (fun w hSt => ?_))) | (refine stepG ?_ ?_ <;> intro hc <;> (try exact absA) <;> (fail_if_success (change true = true at hc)) <;> (fail_if_success (change false = false at hc))) | fail)
        all_goals first | exact ret1 rfl rfl ⟨rfl, _, hW3, hSt⟩ | (exfalso; omega)
    · rw [if_pos he]
      by_cases h53 : st = 5 ∧ s0 = 3
      · rw [if_pos h53] at hst'
        subst hst'
        refine enter Tryz.func64 rfl Tryz.ntmps64 rfl ?_
        repeat' (first | (refine WL_isCall (f := 26) ?_; refine WL_call (ok_call hT rfl) rfl rfl rfl (in_any _ _ _) ?_; rintro v w' ⟨rfl, hc2⟩; replace hSt := hSt.call0 hc2; clear hc2) | (refine WL_isCall (f := 30) ?_; refine WL_call (ok_call hT rfl) rfl rfl rfl (latest_l (s := ⟨_, _, l, _, _, _, _, _, _⟩) (l := l) rfl (hSt.own 0 _ _ rfl).1 (OwnSl.slAt gC_len hog (hSt.has.sublist sub_g)) (by dsimp only; omega)) ?_; rintro v w2 ⟨rfl, hc2⟩; replace hSt := hSt.call0 hc2; clear hc2) | (apply WL_ev rfl rfl; exact Ev_load1 hT rfl rfl (hSt.at 0 rfl) (show _ = some (I (ci : Int)) from rfl)) | (apply WL_ev rfl rfl; exact Ev_load1 hT rfl rfl (hSt.at 1 rfl) (cell_get (c := I s0) hx (j := 2) rfl rs1)) | (refine WL_isCall (f := 32) ?_; refine WL_call (ok_call hT rfl) rfl rfl rfl (hend (hG.later hSt hn) (St.hasE (Ha := []) hSt) (NoG.r (Ha := []) (hG.no hSt hn))) ?_; rintro v w2 ⟨rfl, H2, hW2, hc2⟩; replace hSt := St.callE (Ha := []) hSt hc2; clear hc2) | refine stepA ?_ | (refine stepS ?_; clear hSt; intro w hSt; dsimp only [spl, List.set] at hSt) | (refine stepB ?_; clear hSt; intro w nb hnb hSt; dsimp only [zcells, List.nil_append, List.cons_append] at hSt) | (refine W_quiet hT (by decide +kernel) hSt ?_; clear hSt; (repeat' (first | (apply QL_ev rfl rfl; (intro w hSt; (first | (exact Ev_load1 hT rfl rfl (hSt.at 0 rfl) (show _ = some (I (ci : Int)) from rfl)) | (exact Ev_load1 hT rfl rfl (hSt.at 1 rfl) (cell_get (c := I s0) hx (j := 2) rfl rs1)) | exact Ev_auto))) | refine QL_pass rfl rfl ?_ | (refine QL_guardP rfl rfl (fun hc => ?_) (fun hc => ?_) <;> try exact absA) | (refine QL_guard rfl rfl (fun hc => ?_) (fun hc => ?_) <;> (try exact absA) <;> (fail_if_success (change true = true at hc)) <;> (fail_if_success (change false = false at hc))))); all_goals (refine QL_nil (fun w hSt => ?_))) | (refine stepG ?_ ?_ <;> intro hc <;> (try exact absA) <;> (fail_if_success (change true = true at hc)) <;> (fail_if_success (change false = false at hc))) | fail)
        exact ret1 rfl rfl ⟨rfl, _, hW2, hSt⟩
      · rw [if_neg h53] at hst'
        subst hst'
        refine enter Tryz.func64 rfl Tryz.ntmps64 rfl ?_
        repeat' (first | (refine WL_isCall (f := 26) ?_; refine WL_call (ok_call hT rfl) rfl rfl rfl (in_any _ _ _) ?_; rintro v w' ⟨rfl, hc2⟩; replace hSt := hSt.call0 hc2; clear hc2) | (refine WL_isCall (f := 30) ?_; refine WL_call (ok_call hT rfl) rfl rfl rfl (latest_l (s := ⟨_, _, l, _, _, _, _, _, _⟩) (l := l) rfl (hSt.own 0 _ _ rfl).1 (OwnSl.slAt gC_len hog (hSt.has.sublist sub_g)) (by dsimp only; omega)) ?_; rintro v w2 ⟨rfl, hc2⟩; replace hSt := hSt.call0 hc2; clear hc2) | (apply WL_ev rfl rfl; exact Ev_load1 hT rfl rfl (hSt.at 0 rfl) (show _ = some (I (ci : Int)) from rfl)) | (apply WL_ev rfl rfl; exact Ev_load1 hT rfl rfl (hSt.at 1 rfl) (cell_get (c := I s0) hx (j := 2) rfl rs1)) | (refine WL_isCall (f := 32) ?_; refine WL_call (ok_call hT rfl) rfl rfl rfl (hend (hG.later hSt hn) (St.hasE (Ha := []) hSt) (NoG.r (Ha := []) (hG.no hSt hn))) ?_; rintro v w2 ⟨rfl, H2, hW2, hc2⟩; replace hSt := St.callE (Ha := []) hSt hc2; clear hc2) | refine stepA ?_ | (refine stepS ?_; clear hSt; intro w hSt; dsimp only [spl, List.set] at hSt) | (refine stepB ?_; clear hSt; intro w nb hnb hSt; dsimp only [zcells, List.nil_append, List.cons_append] at hSt) | (refine W_quiet hT (by decide +kernel) hSt ?_; clear hSt; (repeat' (first | (apply QL_ev rfl rfl; (intro w hSt; (first | (exact Ev_load1 hT rfl rfl (hSt.at 0 rfl) (show _ = some (I (ci : Int)) from rfl)) | (exact Ev_load1 hT rfl rfl (hSt.at 1 rfl) (cell_get (c := I s0) hx (j := 2) rfl rs1)) | exact Ev_auto))) | refine QL_pass rfl rfl ?_ | (refine QL_guardP rfl rfl (fun hc => ?_) (fun hc => ?_) <;> try exact absA) | (refine QL_guard rfl rfl (fun hc => ?_) (fun hc => ?_) <;> (try exact absA) <;> (fail_if_success (change true = true at hc)) <;> (fail_if_success (change false = false at hc))))); all_goals (refine QL_nil (fun w hSt => ?_))) | (refine stepG ?_ ?_ <;> intro hc <;> (try exact absA) <;> (fail_if_success (change true = true at hc)) <;> (fail_if_success (change false = false at hc))) | fail)
        all_goals first | exact ret1 rfl rfl ⟨rfl, _, hW2, hSt⟩ | (exfalso; omega)
  · rw [if_pos rfl]
    refine enter Tryz.func64 rfl Tryz.ntmps64 rfl ?_
    repeat' (first | refine stepA ?_ | (refine stepS ?_; clear hSt; intro w hSt; dsimp only [spl, List.set] at hSt) | (refine stepB ?_; clear hSt; intro w nb hnb hSt; dsimp only [zcells, List.nil_append, List.cons_append] at hSt) | (refine W_quiet hT (by decide +kernel) hSt ?_; clear hSt; (repeat' (first | (apply QL_ev rfl rfl; (intro w hSt; (first | exact Ev_auto))) | refine QL_pass rfl rfl ?_ | (refine QL_guardP rfl rfl (fun hc => ?_) (fun hc => ?_) <;> try exact absA) | (refine QL_guard rfl rfl (fun hc => ?_) (fun hc => ?_) <;> (try exact absA) <;> (fail_if_success (change true = true at hc)) <;> (fail_if_success (change false = false at hc))))); all_goals (refine QL_nil (fun w hSt => ?_))) | (refine stepG ?_ ?_ <;> intro hc <;> (try exact absA) <;> (fail_if_success (change true = true at hc)) <;> (fail_if_success (change false = false at hc))) | fail)
    exact ret1 rfl rfl ⟨rfl, _, hW, hSt⟩
end
end Go.Proofs.YthkimkgphaiagaaGreatDoor

namespace Go.Proofs.YthkimkgphaiagaaGreatDoor
open Go.RowKit
set_option maxRecDepth 4000
set_option linter.unusedVariables false
set_option linter.unusedSimpArgs false
set_option maxHeartbeats 8000000

section
variable {w0 : World} {bs bj bm : Nat} {s : Sv} {H : List (Nat × Obj)} {n : Nat}
theorem succeed_any (hG : Gb w0) (hW : SW bs bj bm s H) (hk : Svk s (n + 1)) (hI : Inv0 s) (hh : Has w0 H) (hn : NoG (InH H)) (at_ : Int) (rs : List UInt8) :
    Cl Tryz.prog 34 [Ptr bs, I at_, S rs] w0 (fun v w' => v = I (finishS s 4 at_ rs).1 ∧ ∃ H', SW bs bj bm (finishS s 4 at_ rs).2 H' ∧ St w0 (InH H) H' w') := by
  have hSt := hh.st
  have hf := fun {w : World} (hG : Gb w) hh hn => finish_any (w0 := w) hG hW hk hI hh hn 4 at_ rs
  generalize InH _ = SS at hSt hn ⊢
  refine enter Tryz.func34 rfl Tryz.ntmps34 rfl ?_
  repeat' (first | (refine WL_isCall (f := 64) ?_; refine WL_call (ok_call hT rfl) rfl rfl rfl (hf (hG.later hSt hn) (St.hasE (Ha := []) hSt) (NoG.r (Ha := []) (hG.no hSt hn))) ?_; rintro v w2 ⟨rfl, H2, hW2, hc2⟩; replace hSt := St.callE (Ha := []) hSt hc2; clear hc2) | refine stepA ?_ | (refine stepS ?_; clear hSt; intro w hSt; dsimp only [spl, List.set] at hSt) | (refine stepB ?_; clear hSt; intro w nb hnb hSt; dsimp only [zcells, List.nil_append, List.cons_append] at hSt) | (refine stepG ?_ ?_ <;> intro hc <;> (try exact absA) <;> (fail_if_success (change true = true at hc)) <;> (fail_if_success (change false = false at hc))) | fail)
  exact ret1 rfl rfl ⟨rfl, _, hW2, hSt⟩
theorem abort_any (hG : Gb w0) (hW : SW bs bj bm s H) (hk : Svk s (n + 1)) (hI : Inv0 s) (hh : Has w0 H) (hn : NoG (InH H)) (at_ : Int) (rs : List UInt8) :
    Cl Tryz.prog 35 [Ptr bs, I at_, S rs] w0 (fun v w' => v = I (finishS s 5 at_ rs).1 ∧ ∃ H', SW bs bj bm (finishS s 5 at_ rs).2 H' ∧ St w0 (InH H) H' w') := by
  have hSt := hh.st
  have hf := fun {w : World} (hG : Gb w) hh hn => finish_any (w0 := w) hG hW hk hI hh hn 5 at_ rs
  generalize InH _ = SS at hSt hn ⊢
  refine enter Tryz.func35 rfl Tryz.ntmps35 rfl ?_
  repeat' (first | (refine WL_isCall (f := 64) ?_; refine WL_call (ok_call hT rfl) rfl rfl rfl (hf (hG.later hSt hn) (St.hasE (Ha := []) hSt) (NoG.r (Ha := []) (hG.no hSt hn))) ?_; rintro v w2 ⟨rfl, H2, hW2, hc2⟩; replace hSt := St.callE (Ha := []) hSt hc2; clear hc2) | refine stepA ?_ | (refine stepS ?_; clear hSt; intro w hSt; dsimp only [spl, List.set] at hSt) | (refine stepB ?_; clear hSt; intro w nb hnb hSt; dsimp only [zcells, List.nil_append, List.cons_append] at hSt) | (refine stepG ?_ ?_ <;> intro hc <;> (try exact absA) <;> (fail_if_success (change true = true at hc)) <;> (fail_if_success (change false = false at hc))) | fail)
  exact ret1 rfl rfl ⟨rfl, _, hW2, hSt⟩
theorem feedback_any (hW : SW bs bj bm s H) (hh : Has w0 H) (hfb : s.fb ≤ 1000000 ∧ 0 ≤ s.fb) (x : List UInt8) :
    Cl Tryz.prog 36 [Ptr bs, S x] w0 (fun v w' => v = .tuple ⟨[I (feedbackS s x).1, I (feedbackS s x).2.1]⟩ ∧ ∃ H', SW bs bj bm (feedbackS s x).2.2 H' ∧ St w0 (InH H) H' w') := by
  obtain ⟨gv, Hg, ev, He, Hj, hog, hoe, hJ, rfl⟩ := id hW
  have hSt := hh.st
  generalize InH _ = SS at hSt ⊢
  clear hh
  obtain ⟨pol, lim, l, ends, cur, fb, stop, m, j⟩ := s
  dsimp only at hog hoe hJ hSt hfb ⊢
  unfold feedbackS; dsimp only
  rcases stop with _ | _
  · rw [if_neg (by simp)]
    by_cases hcu : cur < 0
    · rw [if_pos hcu]
      refine enter Tryz.func36 rfl Tryz.ntmps36 rfl ?_
      repeat' (first | refine stepA ?_ | (refine stepS ?_; clear hSt; intro w hSt; dsimp only [spl, List.set] at hSt) | (refine stepB ?_; clear hSt; intro w nb hnb hSt; dsimp only [zcells, List.nil_append, List.cons_append] at hSt) | (refine stepG ?_ ?_ <;> intro hc <;> (try exact absA) <;> (fail_if_success (change true = true at hc)) <;> (fail_if_success (change false = false at hc))) | fail)
      exact ret2 rfl rfl rfl ⟨rfl, _, hW, hSt⟩
    rw [if_neg hcu]
    by_cases hrl : 2000 < x.length
    · rw [if_pos hrl]
      refine enter Tryz.func36 rfl Tryz.ntmps36 rfl ?_
      repeat' (first | refine stepA ?_ | (refine stepS ?_; clear hSt; intro w hSt; dsimp only [spl, List.set] at hSt) | (refine stepB ?_; clear hSt; intro w nb hnb hSt; dsimp only [zcells, List.nil_append, List.cons_append] at hSt) | (refine stepG ?_ ?_ <;> intro hc <;> (try exact absA) <;> (fail_if_success (change true = true at hc)) <;> (fail_if_success (change false = false at hc))) | fail)
      exact ret2 rfl rfl rfl ⟨rfl, _, hW, hSt⟩
    rw [if_neg hrl]
    refine enter Tryz.func36 rfl Tryz.ntmps36 rfl ?_
    repeat' (first | (apply WL_ev rfl rfl; exact Ev_load1 hT rfl rfl (hSt.at 0 rfl) (show _ = some (I fb) from rfl)) | (refine WL_store1 hT rfl rfl 0 rfl rfl hSt rfl rfl rfl ?_; clear hSt; intro w hSt; dsimp only [List.set] at hSt) | refine stepA ?_ | (refine stepS ?_; clear hSt; intro w hSt; dsimp only [spl, List.set] at hSt) | (refine stepB ?_; clear hSt; intro w nb hnb hSt; dsimp only [zcells, List.nil_append, List.cons_append] at hSt) | (refine stepG ?_ ?_ <;> intro hc <;> (try exact absA) <;> (fail_if_success (change true = true at hc)) <;> (fail_if_success (change false = false at hc))) | fail)
    exact ret2 rfl rfl rfl ⟨rfl, _, ⟨_, _, _, _, _, hog, hoe, hJ, rfl⟩, hSt⟩
  · rw [if_pos rfl]
    refine enter Tryz.func36 rfl Tryz.ntmps36 rfl ?_
    repeat' (first | refine stepA ?_ | (refine stepS ?_; clear hSt; intro w hSt; dsimp only [spl, List.set] at hSt) | (refine stepB ?_; clear hSt; intro w nb hnb hSt; dsimp only [zcells, List.nil_append, List.cons_append] at hSt) | (refine stepG ?_ ?_ <;> intro hc <;> (try exact absA) <;> (fail_if_success (change true = true at hc)) <;> (fail_if_success (change false = false at hc))) | fail)
    exact ret2 rfl rfl rfl ⟨rfl, _, hW, hSt⟩
theorem cancel_any (hG : Gb w0) (hW : SW bs bj bm s H) (hk : Svk s (n + 1)) (hh : Has w0 H) (hn : NoG (InH H)) (c d at_ : Int) :
    Cl Tryz.prog 15 [Ptr bs, idV c d, I at_] w0 (fun v w' => v = I (cancelS s c d at_).1 ∧ ∃ H', SW bs bj bm (cancelS s c d at_).2 H' ∧ St w0 (InH H) H' w') := by
  obtain ⟨gv, Hg, ev, He, Hj, hog, hoe, hJ, rfl⟩ := id hW
  have hSt := hh.st
  generalize InH _ = SS at hSt hn ⊢
  clear hh
  have hl := hk.l
  obtain ⟨pol, lim, l, ends, cur, fb, stop, m, j⟩ := s
  dsimp only at hog hoe hJ hSt hl ⊢
  unfold cancelS; dsimp only
  rcases stop with _ | _
  · rw [if_neg (by simp)]
    rcases hf : findG l c d with _ | i
    · refine enter Tryz.func15 rfl Tryz.ntmps15 rfl ?_
      repeat' (first | (refine WL_box rfl rfl rfl hSt ?_; clear hSt; intro w nb hnb hSt; replace hSt := hSt.front; dsimp only [zcells] at hSt) | (refine WL_isCall (f := 44) ?_; refine WL_call (ok_call hT rfl) rfl rfl rfl (index_no (s := ⟨_, _, l, _, _, _, _, _, _⟩) (hSt.own 1 _ _ rfl).1 (OwnSl.slAt gC_len hog (hSt.has.sublist (sub_g.trans (List.sublist_cons_self _ _)))) (by dsimp only; omega) hf) ?_; rintro v w2 ⟨rfl, hc2⟩; replace hSt := hSt.call0 hc2; clear hc2) | refine stepA ?_ | (refine stepS ?_; clear hSt; intro w hSt; dsimp only [spl, List.set] at hSt) | (refine stepB ?_; clear hSt; intro w nb hnb hSt; dsimp only [zcells, List.nil_append, List.cons_append] at hSt) | (refine stepG ?_ ?_ <;> intro hc <;> (try exact absA) <;> (fail_if_success (change true = true at hc)) <;> (fail_if_success (change false = false at hc))) | fail)
      exact ret1 rfl rfl ⟨rfl, _, hW, hSt.right (Ha := [_])⟩
    dsimp only
    have hil := findG_lt hf
    have hx := gAt_some hil
    by_cases ha : ¬ (0 ≤ at_ ∧ at_ ≤ 1099511627776)
    · rw [if_pos ha]
      refine enter Tryz.func15 rfl Tryz.ntmps15 rfl ?_
      repeat' (first | (refine WL_box rfl rfl rfl hSt ?_; clear hSt; intro w nb hnb hSt; replace hSt := hSt.front; dsimp only [zcells] at hSt) | (refine WL_isCall (f := 44) ?_; refine WL_call (ok_call hT rfl) rfl rfl rfl (index_yes (s := ⟨_, _, l, _, _, _, _, _, _⟩) (hSt.own 1 _ _ rfl).1 (OwnSl.slAt gC_len hog (hSt.has.sublist (sub_g.trans (List.sublist_cons_self _ _)))) (by dsimp only; omega) hf) ?_; rintro v w2 ⟨rfl, hc2⟩; replace hSt := hSt.call0 hc2; clear hc2) | (refine WL_isCall (f := 26) ?_; refine WL_call (ok_call hT rfl) rfl rfl rfl (in_any _ _ _) ?_; rintro v w' ⟨rfl, hc2⟩; replace hSt := hSt.call0 hc2; clear hc2) | refine stepA ?_ | (refine stepS ?_; clear hSt; intro w hSt; dsimp only [spl, List.set] at hSt) | (refine stepB ?_; clear hSt; intro w nb hnb hSt; dsimp only [zcells, List.nil_append, List.cons_append] at hSt) | (refine stepG ?_ ?_ <;> intro hc <;> (try exact absA) <;> (fail_if_success (change true = true at hc)) <;> (fail_if_success (change false = false at hc))) | fail)
      exact ret1 rfl rfl ⟨rfl, _, hW, hSt.right (Ha := [_])⟩
    rw [if_neg ha]
    by_cases hla : at_ < latF l
    · rw [if_pos hla]
      refine enter Tryz.func15 rfl Tryz.ntmps15 rfl ?_
      repeat' (first | (refine WL_box rfl rfl rfl hSt ?_; clear hSt; intro w nb hnb hSt; replace hSt := hSt.front; dsimp only [zcells] at hSt) | (refine WL_isCall (f := 44) ?_; refine WL_call (ok_call hT rfl) rfl rfl rfl (index_yes (s := ⟨_, _, l, _, _, _, _, _, _⟩) (hSt.own 1 _ _ rfl).1 (OwnSl.slAt gC_len hog (hSt.has.sublist (sub_g.trans (List.sublist_cons_self _ _)))) (by dsimp only; omega) hf) ?_; rintro v w2 ⟨rfl, hc2⟩; replace hSt := hSt.call0 hc2; clear hc2) | (refine WL_isCall (f := 26) ?_; refine WL_call (ok_call hT rfl) rfl rfl rfl (in_any _ _ _) ?_; rintro v w' ⟨rfl, hc2⟩; replace hSt := hSt.call0 hc2; clear hc2) | (refine WL_isCall (f := 30) ?_; refine WL_call (ok_call hT rfl) rfl rfl rfl (latest_l (s := ⟨_, _, l, _, _, _, _, _, _⟩) (l := l) rfl (hSt.own 1 _ _ rfl).1 (OwnSl.slAt gC_len hog (hSt.has.sublist (sub_g.trans (List.sublist_cons_self _ _)))) (by dsimp only; omega)) ?_; rintro v w2 ⟨rfl, hc2⟩; replace hSt := hSt.call0 hc2; clear hc2) | refine stepA ?_ | (refine stepS ?_; clear hSt; intro w hSt; dsimp only [spl, List.set] at hSt) | (refine stepB ?_; clear hSt; intro w nb hnb hSt; dsimp only [zcells, List.nil_append, List.cons_append] at hSt) | (refine stepG ?_ ?_ <;> intro hc <;> (try exact absA) <;> (fail_if_success (change true = true at hc)) <;> (fail_if_success (change false = false at hc))) | fail)
      exact ret1 rfl rfl ⟨rfl, _, hW, hSt.right (Ha := [_])⟩
    rw [if_neg hla]
    obtain ⟨gb, gc, rs1, rfl, hgc, hrs, rfl⟩ := hog.some_ (by omega)
    dsimp only [List.cons_append, List.nil_append] at hSt
    have hend := fun {w : World} (hG : Gb w) hh hn => end_any (w0 := w) hG hW (hk.le (k := 1) (by omega)) hh hn hil 6 at_ wCanceled
    generalize endS _ i 6 at_ wCanceled = r at hend ⊢
    generalize hg0 : gAt l i = g0 at hx ⊢
    obtain ⟨c0, n0, s0, a0, e0, q0, y0⟩ := g0
    dsimp only
    have hT4 : (termF s0 = true ∨ s0 = 3) ↔ ((4 ≤ s0 ∧ s0 ≤ 7) ∨ s0 = 3) := by rw [termF_iff]
    by_cases hT3 : (4 ≤ s0 ∧ s0 ≤ 7) ∨ s0 = 3
    · rw [if_pos (hT4.2 hT3)]
      refine enter Tryz.func15 rfl Tryz.ntmps15 rfl ?_
      repeat' (first | (refine WL_box rfl rfl rfl hSt ?_; clear hSt; intro w nb hnb hSt; replace hSt := hSt.front; dsimp only [zcells] at hSt) | (refine WL_isCall (f := 44) ?_; refine WL_call (ok_call hT rfl) rfl rfl rfl (index_yes (s := ⟨_, _, l, _, _, _, _, _, _⟩) (hSt.own 1 _ _ rfl).1 (OwnSl.slAt gC_len hog (hSt.has.sublist ((List.sublist_append_left [_] _).trans ((List.sublist_cons_self _ _).trans (List.sublist_cons_self _ _))))) (by dsimp only; omega) hf) ?_; rintro v w2 ⟨rfl, hc2⟩; replace hSt := hSt.call0 hc2; clear hc2) | (refine WL_isCall (f := 26) ?_; refine WL_call (ok_call hT rfl) rfl rfl rfl (in_any _ _ _) ?_; rintro v w' ⟨rfl, hc2⟩; replace hSt := hSt.call0 hc2; clear hc2) | (refine WL_isCall (f := 30) ?_; refine WL_call (ok_call hT rfl) rfl rfl rfl (latest_l (s := ⟨_, _, l, _, _, _, _, _, _⟩) (l := l) rfl (hSt.own 1 _ _ rfl).1 (OwnSl.slAt gC_len hog (hSt.has.sublist ((List.sublist_append_left [_] _).trans ((List.sublist_cons_self _ _).trans (List.sublist_cons_self _ _))))) (by dsimp only; omega)) ?_; rintro v w2 ⟨rfl, hc2⟩; replace hSt := hSt.call0 hc2; clear hc2) | (apply WL_ev rfl rfl; exact Ev_load1 hT rfl rfl (hSt.at 2 rfl) (cell_get (c := I s0) hx (j := 2) rfl rs1)) | (refine WL_isCall (f := 45) ?_; refine WL_call (ok_call hT rfl) rfl rfl rfl (term_dec _) ?_; rintro v w' ⟨rfl, hc2⟩; replace hSt := hSt.call0 hc2; clear hc2) | refine stepA ?_ | (refine stepS ?_; clear hSt; intro w hSt; dsimp only [spl, List.set] at hSt) | (refine stepB ?_; clear hSt; intro w nb hnb hSt; dsimp only [zcells, List.nil_append, List.cons_append] at hSt) | (refine stepG ?_ ?_ <;> intro hc <;> (try exact absA) <;> (fail_if_success (change true = true at hc)) <;> (fail_if_success (change false = false at hc))) | fail)
      all_goals first | exact ret1 rfl rfl ⟨rfl, _, hW, hSt.right (Ha := [_])⟩ | (exfalso; omega)
    rw [if_neg (fun h => hT3 (hT4.1 h))]
    by_cases hic : (i : Int) = cur
    · rw [if_pos hic]
      refine enter Tryz.func15 rfl Tryz.ntmps15 rfl ?_
      repeat' (first | (refine WL_box rfl rfl rfl hSt ?_; clear hSt; intro w nb hnb hSt; replace hSt := hSt.front; dsimp only [zcells] at hSt) | (refine WL_isCall (f := 44) ?_; refine WL_call (ok_call hT rfl) rfl rfl rfl (index_yes (s := ⟨_, _, l, _, _, _, _, _, _⟩) (hSt.own 1 _ _ rfl).1 (OwnSl.slAt gC_len hog (hSt.has.sublist ((List.sublist_append_left [_] _).trans ((List.sublist_cons_self _ _).trans (List.sublist_cons_self _ _))))) (by dsimp only; omega) hf) ?_; rintro v w2 ⟨rfl, hc2⟩; replace hSt := hSt.call0 hc2; clear hc2) | (refine WL_isCall (f := 26) ?_; refine WL_call (ok_call hT rfl) rfl rfl rfl (in_any _ _ _) ?_; rintro v w' ⟨rfl, hc2⟩; replace hSt := hSt.call0 hc2; clear hc2) | (refine WL_isCall (f := 30) ?_; refine WL_call (ok_call hT rfl) rfl rfl rfl (latest_l (s := ⟨_, _, l, _, _, _, _, _, _⟩) (l := l) rfl (hSt.own 1 _ _ rfl).1 (OwnSl.slAt gC_len hog (hSt.has.sublist ((List.sublist_append_left [_] _).trans ((List.sublist_cons_self _ _).trans (List.sublist_cons_self _ _))))) (by dsimp only; omega)) ?_; rintro v w2 ⟨rfl, hc2⟩; replace hSt := hSt.call0 hc2; clear hc2) | (apply WL_ev rfl rfl; exact Ev_load1 hT rfl rfl (hSt.at 2 rfl) (cell_get (c := I s0) hx (j := 2) rfl rs1)) | (refine WL_isCall (f := 45) ?_; refine WL_call (ok_call hT rfl) rfl rfl rfl (term_dec _) ?_; rintro v w' ⟨rfl, hc2⟩; replace hSt := hSt.call0 hc2; clear hc2) | (refine WL_store1 hT rfl rfl 2 rfl rfl hSt rfl rfl (cell_lt hil (j := 2) (by decide) rs1) ?_; clear hSt; intro w hSt; dsimp only [List.cons_append, List.nil_append, List.set] at hSt; replace hSt := St.row3 (cell_put (y := ⟨c0, n0, 3, a0, e0, q0, y0⟩) hx (j := 2) (by decide) rfl rs1) hSt) | refine stepA ?_ | (refine stepS ?_; clear hSt; intro w hSt; dsimp only [spl, List.set] at hSt) | (refine stepB ?_; clear hSt; intro w nb hnb hSt; dsimp only [zcells, List.nil_append, List.cons_append] at hSt) | (refine stepG ?_ ?_ <;> intro hc <;> (try exact absA) <;> (fail_if_success (change true = true at hc)) <;> (fail_if_success (change false = false at hc))) | fail)
      all_goals first | exact ret1 rfl rfl ⟨rfl, _, ⟨_, _, _, _, _, own_set hgc hrs, hoe, hJ, rfl⟩, hSt.right (Ha := [_])⟩ | (exfalso; omega)
    rw [if_neg hic]
    obtain ⟨e, s2⟩ := r
    dsimp only at hend ⊢
    refine enter Tryz.func15 rfl Tryz.ntmps15 rfl ?_
    repeat' (first | (refine WL_box rfl rfl rfl hSt ?_; clear hSt; intro w nb hnb hSt; replace hSt := hSt.front; dsimp only [zcells] at hSt) | (refine WL_isCall (f := 44) ?_; refine WL_call (ok_call hT rfl) rfl rfl rfl (index_yes (s := ⟨_, _, l, _, _, _, _, _, _⟩) (hSt.own 1 _ _ rfl).1 (OwnSl.slAt gC_len hog (hSt.has.sublist ((List.sublist_append_left [_] _).trans ((List.sublist_cons_self _ _).trans (List.sublist_cons_self _ _))))) (by dsimp only; omega) hf) ?_; rintro v w2 ⟨rfl, hc2⟩; replace hSt := hSt.call0 hc2; clear hc2) | (refine WL_isCall (f := 26) ?_; refine WL_call (ok_call hT rfl) rfl rfl rfl (in_any _ _ _) ?_; rintro v w' ⟨rfl, hc2⟩; replace hSt := hSt.call0 hc2; clear hc2) | (refine WL_isCall (f := 30) ?_; refine WL_call (ok_call hT rfl) rfl rfl rfl (latest_l (s := ⟨_, _, l, _, _, _, _, _, _⟩) (l := l) rfl (hSt.own 1 _ _ rfl).1 (OwnSl.slAt gC_len hog (hSt.has.sublist ((List.sublist_append_left [_] _).trans ((List.sublist_cons_self _ _).trans (List.sublist_cons_self _ _))))) (by dsimp only; omega)) ?_; rintro v w2 ⟨rfl, hc2⟩; replace hSt := hSt.call0 hc2; clear hc2) | (apply WL_ev rfl rfl; exact Ev_load1 hT rfl rfl (hSt.at 2 rfl) (cell_get (c := I s0) hx (j := 2) rfl rs1)) | (refine WL_isCall (f := 45) ?_; refine WL_call (ok_call hT rfl) rfl rfl rfl (term_dec _) ?_; rintro v w' ⟨rfl, hc2⟩; replace hSt := hSt.call0 hc2; clear hc2) | (refine WL_isCall (f := 32) ?_; refine WL_call (ok_call hT rfl) rfl rfl rfl (hend (hG.later hSt hn) (St.hasE (Ha := [_]) hSt) (NoG.r (Ha := [_]) (hG.no hSt hn))) ?_; rintro v w2 ⟨rfl, H2, hW2, hc2⟩; replace hSt := St.callE (Ha := [_]) hSt hc2; clear hc2) | refine stepA ?_ | (refine stepS ?_; clear hSt; intro w hSt; dsimp only [spl, List.set] at hSt) | (refine stepB ?_; clear hSt; intro w nb hnb hSt; dsimp only [zcells, List.nil_append, List.cons_append] at hSt) | (refine stepG ?_ ?_ <;> intro hc <;> (try exact absA) <;> (fail_if_success (change true = true at hc)) <;> (fail_if_success (change false = false at hc))) | fail)
    all_goals first | exact ret1 rfl rfl ⟨rfl, _, hW2, hSt.right (Ha := [_])⟩ | (exfalso; omega)
  · rw [if_pos rfl]
    rcases hf : findG l c d with _ | i
    · refine enter Tryz.func15 rfl Tryz.ntmps15 rfl ?_
      repeat' (first | (refine WL_box rfl rfl rfl hSt ?_; clear hSt; intro w nb hnb hSt; replace hSt := hSt.front; dsimp only [zcells] at hSt) | (refine WL_isCall (f := 44) ?_; refine WL_call (ok_call hT rfl) rfl rfl rfl (index_no (s := ⟨_, _, l, _, _, _, _, _, _⟩) (hSt.own 1 _ _ rfl).1 (OwnSl.slAt gC_len hog (hSt.has.sublist (sub_g.trans (List.sublist_cons_self _ _)))) (by dsimp only; omega) hf) ?_; rintro v w2 ⟨rfl, hc2⟩; replace hSt := hSt.call0 hc2; clear hc2) | refine stepA ?_ | (refine stepS ?_; clear hSt; intro w hSt; dsimp only [spl, List.set] at hSt) | (refine stepB ?_; clear hSt; intro w nb hnb hSt; dsimp only [zcells, List.nil_append, List.cons_append] at hSt) | (refine stepG ?_ ?_ <;> intro hc <;> (try exact absA) <;> (fail_if_success (change true = true at hc)) <;> (fail_if_success (change false = false at hc))) | fail)
      exact ret1 rfl rfl ⟨rfl, _, hW, hSt.right (Ha := [_])⟩
    · refine enter Tryz.func15 rfl Tryz.ntmps15 rfl ?_
      repeat' (first | (refine WL_box rfl rfl rfl hSt ?_; clear hSt; intro w nb hnb hSt; replace hSt := hSt.front; dsimp only [zcells] at hSt) | (refine WL_isCall (f := 44) ?_; refine WL_call (ok_call hT rfl) rfl rfl rfl (index_yes (s := ⟨_, _, l, _, _, _, _, _, _⟩) (hSt.own 1 _ _ rfl).1 (OwnSl.slAt gC_len hog (hSt.has.sublist (sub_g.trans (List.sublist_cons_self _ _)))) (by dsimp only; omega) hf) ?_; rintro v w2 ⟨rfl, hc2⟩; replace hSt := hSt.call0 hc2; clear hc2) | refine stepA ?_ | (refine stepS ?_; clear hSt; intro w hSt; dsimp only [spl, List.set] at hSt) | (refine stepB ?_; clear hSt; intro w nb hnb hSt; dsimp only [zcells, List.nil_append, List.cons_append] at hSt) | (refine stepG ?_ ?_ <;> intro hc <;> (try exact absA) <;> (fail_if_success (change true = true at hc)) <;> (fail_if_success (change false = false at hc))) | fail)
      exact ret1 rfl rfl ⟨rfl, _, hW, hSt.right (Ha := [_])⟩
/-- the current goal, or the zero goal -/
def curS (s : Sv) : Gl × Bool := if s.cur < 0 then (.zero, false) else (gAt s.l s.cur.toNat, true)
def goalS (s : Sv) (c d : Int) : Gl × Bool := match findG s.l c d with | none => (.zero, false) | some i => (gAt s.l i, true)
theorem current_any (hW : SW bs bj bm s H) (hI : Inv0 s) (hh : Has w0 H) :
    Cl Tryz.prog 52 [Ptr bs] w0 (fun v w' => v = .tuple ⟨[.agg ⟨gC (curS s).1⟩, B (curS s).2]⟩ ∧ St w0 NoneS [] w') := by
  obtain ⟨gv, Hg, ev, He, Hj, hog, hoe, hJ, rfl⟩ := id hW
  have hb := hh.own 0 _ _ rfl
  have hSt := St.refl w0 NoneS
  have hcc := hI.c2
  clear hI
  obtain ⟨pol, lim, l, ends, cur, fb, stop, m, j⟩ := s
  dsimp only at hog hoe hJ hb hcc ⊢
  unfold curS; dsimp only
  by_cases hcu : cur < 0
  · rw [if_pos hcu]
    refine enter Tryz.func52 rfl Tryz.ntmps52 rfl ?_
    repeat' (first | (refine WL_alloc hT rfl rfl rfl hSt ?_; clear hSt; intro w nb hnb hSt; replace hSt := hSt.front; dsimp only [zcells] at hSt) | (apply WL_ev rfl rfl; exact Ev_load1 hT rfl rfl (hSt.base hb (fun e => e)) rfl) | refine stepA ?_ | (refine stepS ?_; clear hSt; intro w hSt; dsimp only [spl, List.set] at hSt) | (refine stepB ?_; clear hSt; intro w nb hnb hSt; dsimp only [zcells, List.nil_append, List.cons_append] at hSt) | (refine stepG ?_ ?_ <;> intro hc <;> (try exact absA) <;> (fail_if_success (change true = true at hc)) <;> (fail_if_success (change false = false at hc))) | fail)
    all_goals exact end_of (resc2 rfl hT rfl rfl rfl (hSt.at 0 rfl) rfl rfl) ⟨rfl, hSt.nil⟩
  rw [if_neg hcu]
  obtain ⟨hil, hst⟩ := hcc (by omega)
  obtain ⟨ci, rfl⟩ : ∃ ci : Nat, cur = (ci : Int) := ⟨cur.toNat, by omega⟩
  rw [Int.toNat_natCast] at hil ⊢
  have hx := gAt_some hil
  obtain ⟨gb, gc, rs1, rfl, hgc, hrs, rfl⟩ := hog.some_ (by omega)
  have hbg := hh.own 1 _ _ rfl
  have hcs := cell_take hx rs1
  generalize gAt l ci = g0 at hx hcs ⊢
  obtain ⟨c0, n0, s0, a0, e0, q0, y0⟩ := g0
  dsimp only
  refine enter Tryz.func52 rfl Tryz.ntmps52 rfl ?_
  repeat' (first | (refine WL_alloc hT rfl rfl rfl hSt ?_; clear hSt; intro w nb hnb hSt; replace hSt := hSt.front; dsimp only [zcells] at hSt) | (refine W_tail 10 hT (by decide +kernel) hSt ?_; clear hSt; intro w hSt; simp only [List.take_succ_cons, List.take_zero]; (repeat' (first | (apply SL_ev rfl rfl; (first | (exact Ev_load1 hT rfl rfl (hSt.base hb (fun e => e)) (show _ = some (I (ci : Int)) from rfl)) | (exact Ev_load1 hT rfl rfl (hSt.base hb (fun e => e)) rfl) | (exact Ev_loadN hT rfl rfl (hSt.base hbg (fun e => e)) hcs rfl) | exact Ev_auto)) | refine SL_pass rfl rfl ?_ | (refine SL_guardP rfl rfl (fun hc => ?_) (fun hc => ?_) <;> try exact absA) | (refine SL_guard rfl rfl (fun hc => ?_) (fun hc => ?_) <;> (try exact absA) <;> (fail_if_success (change true = true at hc)) <;> (fail_if_success (change false = false at hc))))); all_goals (refine SL_nil ?_; simp only [List.drop_succ_cons, List.drop_zero])) | (apply WL_ev rfl rfl; exact Ev_load1 hT rfl rfl (hSt.base hb (fun e => e)) (show _ = some (I (ci : Int)) from rfl)) | (apply WL_ev rfl rfl; exact Ev_load1 hT rfl rfl (hSt.base hb (fun e => e)) rfl) | (apply WL_ev rfl rfl; exact Ev_loadN hT rfl rfl (hSt.base hbg (fun e => e)) hcs rfl) | refine stepA ?_ | (refine stepS ?_; clear hSt; intro w hSt; dsimp only [spl, List.set] at hSt) | (refine stepB ?_; clear hSt; intro w nb hnb hSt; dsimp only [zcells, List.nil_append, List.cons_append] at hSt) | (refine stepG ?_ ?_ <;> intro hc <;> (try exact absA) <;> (fail_if_success (change true = true at hc)) <;> (fail_if_success (change false = false at hc))) | fail)
  all_goals exact end_of (resc2 rfl hT rfl rfl rfl (hSt.at 0 rfl) rfl rfl) ⟨rfl, hSt.nil⟩
theorem goal_any (hW : SW bs bj bm s H) (hl : s.l.length ≤ 64) (hh : Has w0 H) (c d : Int) :
    Cl Tryz.prog 20 [Ptr bs, idV c d] w0 (fun v w' => v = .tuple ⟨[.agg ⟨gC (goalS s c d).1⟩, B (goalS s c d).2]⟩ ∧ St w0 NoneS [] w') := by
  obtain ⟨gv, Hg, ev, He, Hj, hog, hoe, hJ, rfl⟩ := id hW
  have hb := hh.own 0 _ _ rfl
  have hSt := St.refl w0 NoneS
  obtain ⟨pol, lim, l, ends, cur, fb, stop, m, j⟩ := s
  dsimp only at hog hoe hJ hb hl ⊢
  have hg := OwnSl.slAt gC_len hog (hh.sublist sub_g)
  unfold goalS; dsimp only
  rcases hf : findG l c d with _ | i
  · refine enter Tryz.func20 rfl Tryz.ntmps20 rfl ?_
    repeat' (first | (refine WL_box rfl rfl rfl hSt ?_; clear hSt; intro w nb hnb hSt; replace hSt := hSt.front; dsimp only [zcells] at hSt) | (refine WL_alloc hT rfl rfl rfl hSt ?_; clear hSt; intro w nb hnb hSt; replace hSt := hSt.front; dsimp only [zcells] at hSt) | (refine WL_isCall (f := 44) ?_; refine WL_call (ok_call hT rfl) rfl rfl rfl (index_no (s := ⟨_, _, l, _, _, _, _, _, _⟩) (hSt.base hb (fun e => e)) (hg.later hSt (fun _ e => e)) (by dsimp only; omega) hf) ?_; rintro v w2 ⟨rfl, hc2⟩; replace hSt := hSt.call0 hc2; clear hc2) | refine stepA ?_ | (refine stepS ?_; clear hSt; intro w hSt; dsimp only [spl, List.set] at hSt) | (refine stepB ?_; clear hSt; intro w nb hnb hSt; dsimp only [zcells, List.nil_append, List.cons_append] at hSt) | (refine stepG ?_ ?_ <;> intro hc <;> (try exact absA) <;> (fail_if_success (change true = true at hc)) <;> (fail_if_success (change false = false at hc))) | fail)
    all_goals exact end_of (resc2 rfl hT rfl rfl rfl (hSt.at 0 rfl) rfl rfl) ⟨rfl, hSt.nil⟩
  · try dsimp only
    have hil := findG_lt hf
    have hx := gAt_some hil
    obtain ⟨gb, gc, rs1, rfl, hgc, hrs, rfl⟩ := hog.some_ (by omega)
    have hbg := hh.own 1 _ _ rfl
    have hcs := cell_take hx rs1
    generalize gAt l i = g0 at hx hcs ⊢
    obtain ⟨c0, n0, s0, a0, e0, q0, y0⟩ := g0
    try dsimp only
    refine enter Tryz.func20 rfl Tryz.ntmps20 rfl ?_
    repeat' (first | (refine WL_box rfl rfl rfl hSt ?_; clear hSt; intro w nb hnb hSt; replace hSt := hSt.front; dsimp only [zcells] at hSt) | (refine WL_alloc hT rfl rfl rfl hSt ?_; clear hSt; intro w nb hnb hSt; replace hSt := hSt.front; dsimp only [zcells] at hSt) | (refine WL_isCall (f := 44) ?_; refine WL_call (ok_call hT rfl) rfl rfl rfl (index_yes (s := ⟨_, _, l, _, _, _, _, _, _⟩) (hSt.base hb (fun e => e)) (hg.later hSt (fun _ e => e)) (by dsimp only; omega) hf) ?_; rintro v w2 ⟨rfl, hc2⟩; replace hSt := hSt.call0 hc2; clear hc2) | (apply WL_ev rfl rfl; exact Ev_load1 hT rfl rfl (hSt.base hb (fun e => e)) rfl) | (apply WL_ev rfl rfl; exact Ev_loadN hT rfl rfl (hSt.base hbg (fun e => e)) hcs rfl) | refine stepA ?_ | (refine stepS ?_; clear hSt; intro w hSt; dsimp only [spl, List.set] at hSt) | (refine stepB ?_; clear hSt; intro w nb hnb hSt; dsimp only [zcells, List.nil_append, List.cons_append] at hSt) | (refine stepG ?_ ?_ <;> intro hc <;> (try exact absA) <;> (fail_if_success (change true = true at hc)) <;> (fail_if_success (change false = false at hc))) | fail)
    all_goals exact end_of (resc2 rfl hT rfl rfl rfl (hSt.at 0 rfl) rfl rfl) ⟨rfl, hSt.nil⟩
end
end Go.Proofs.YthkimkgphaiagaaGreatDoor
