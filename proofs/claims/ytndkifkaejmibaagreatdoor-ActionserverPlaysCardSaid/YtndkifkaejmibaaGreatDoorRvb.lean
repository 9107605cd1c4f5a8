/- The specification's server in memory: record, next, end. No conditions. -/
import Derived.Test.YtndkifkaejmibaaGreatDoorRva
import Derived.Test.YtndkifkaejmibaaGreatDoorMN
import Derived.Test.YtndkifkaejmibaaGreatDoorSom

namespace Go.Proofs.YtndkifkaejmibaaGreatDoor
open Go.RowKit
set_option maxRecDepth 4000
set_option linter.unusedVariables false
set_option linter.unusedSimpArgs false
set_option maxHeartbeats 8000000

/-- the specification's server in memory -/
def RW (br bw bv : Nat) (s : Sv) (H : List (Nat × Obj)) : Prop :=
  ∃ gv Hg ev He Hj, OwnSl gv 35 7 (s.l.flatMap gC) s.l.length Hg ∧ OwnSl ev 3 1 (ints s.ends) s.ends.length He ∧ JR bv bw s.m s.j Hj ∧ H = (br, rsO bw gv ev s) :: ((Hg ++ He) ++ Hj)
def R4 (s : Sv) : Prop := ∀ x ∈ s.j.l, x.length ≤ 4000
theorem R4.recS {s : Sv} (h : R4 s) (y : List UInt8) : R4 (recS s y).2 := by
  have ha : ∀ x ∈ (jAppend s.m s.j y).2.2.l, x.length ≤ 4000 := by
    unfold jAppend
    split
    · exact h
    split
    · exact h
    rename_i hy
    split
    · intro x hx
      rcases List.mem_append.1 hx with hx | hx
      · exact h x hx
      · rw [List.mem_singleton.1 hx]; omega
    split
    · exact h
    · exact h
  have hs := jSyn_len (jAppend s.m s.j y).2.1 (jAppend s.m s.j y).2.2
  unfold Go.Proofs.YtndkifkaejmibaaGreatDoor.recS
  split
  · split
    · intro x hx; exact ha x (hs ▸ hx)
    · intro x hx; exact ha x (hs ▸ hx)
  · exact ha
theorem rcur_l {w0 : World} {br bw : Nat} {gv ev : Value} {s : Sv} {l : List Gl} {c : Int} (hs : s.l = l) (hc : curF l = c) (hb : w0.heap[br]? = some (rsO bw gv ev s)) (hg : SlAt w0 gv 7 (s.l.map gC)) (hl : s.l.length ≤ 1000000) : Cl Tryz.prog 77 [Ptr br] w0 (fun v w' => v = I c ∧ St w0 NoneS [] w') := hc ▸ hs ▸ rcurrent_any hb hg hl
section
variable {w0 : World} {br bw bv : Nat} {gv ev : Value} {s : Sv} {H X Hj : List (Nat × Obj)}
theorem rrecord_any (hJ : JR bv bw s.m s.j Hj) (hk : Svk s 1) (h4 : R4 s) (hh : Has w0 ((br, rsO bw gv ev s) :: (X ++ Hj))) (x : List UInt8) (hx : x.length ≤ 140737488355328) :
    Cl Tryz.prog 81 [Ptr br, S x] w0 (fun v w' => v = I (recS s x).1 ∧ ∃ Hj', JR bv bw (recS s x).2.m (recS s x).2.j Hj' ∧ St w0 (InH ((br, rsO bw gv ev s) :: (X ++ Hj))) ((br, rsO bw gv ev (recS s x).2) :: (X ++ Hj')) w') := by
  have hSt := hh.st
  have hm2 := hk.m.jApp s.j x
  generalize InH _ = SS at hSt ⊢
  have hap := fun {w : World} hh => rjappend_any (w0 := w) hJ hk.m (by have := hk.j; omega) h4 hh x hx
  have hn15 := fun m j => jSync_n15 m j
  clear hk hh
  unfold recS
  generalize jAppend s.m s.j x = r at hap hm2 ⊢
  obtain ⟨e, m2, j2⟩ := r
  obtain ⟨pol, lim, l, ends, cur, fb, stop, m, j⟩ := s
  dsimp only at hap hm2 hSt ⊢
  by_cases he : e = 0
  · subst he
    rw [if_pos rfl]
    have hsy := fun {w : World} {H : List (Nat × Obj)} (hJ : JR bv bw m2 j2 H) hh => rjsync_any (w0 := w) hJ hm2 hh
    have h15 := hn15 m2 j2
    generalize jSync m2 j2 = r2 at hsy h15 ⊢
    obtain ⟨e2, m3, j3⟩ := r2
    dsimp only at hsy h15 ⊢
    by_cases he2 : e2 = 0
    · subst he2
      rw [if_pos rfl]
      refine enter Tryz.func81 rfl Tryz.ntmps81 rfl ?_
      repeat' (first | (refine WL_isCall (f := 98) ?_; refine WL_call (ok_call hT rfl) rfl rfl rfl (hap (St.hasE (Ha := _ :: X) hSt)) ?_; rintro v w2 ⟨rfl, Hj2, hJ2, hc2⟩; replace hSt := St.callE (Ha := _ :: X) hSt hc2; clear hc2; dsimp only [List.cons_append] at hSt) | (refine WL_isCall (f := 99) ?_; refine WL_call (ok_call hT rfl) rfl rfl rfl (hsy hJ2 (St.hasE (Ha := _ :: X) hSt)) ?_; rintro v w2 ⟨rfl, Hj3, hJ3, hc2⟩; replace hSt := St.callE (Ha := _ :: X) hSt hc2; clear hc2; dsimp only [List.cons_append] at hSt) | refine stepA ?_ | (refine stepS ?_; clear hSt; intro w hSt; dsimp only [spl, List.set] at hSt) | (refine stepB ?_; clear hSt; intro w nb hnb hSt; dsimp only [zcells, List.nil_append, List.cons_append] at hSt) | (refine W_quiet hT (by decide +kernel) hSt ?_; clear hSt; (repeat' (first | (apply QL_ev rfl rfl; (intro w hSt; (first | exact Ev_auto))) | refine QL_pass rfl rfl ?_ | (refine QL_guardP rfl rfl (fun hc => ?_) (fun hc => ?_) <;> try exact absA) | (refine QL_guard rfl rfl (fun hc => ?_) (fun hc => ?_) <;> (try exact absA) <;> (fail_if_success (change true = true at hc)) <;> (fail_if_success (change false = false at hc))))); all_goals (refine QL_nil (fun w hSt => ?_))) | (refine stepG ?_ ?_ <;> intro hc <;> (try exact absA) <;> (fail_if_success (change true = true at hc)) <;> (fail_if_success (change false = false at hc))) | fail)
      all_goals exact ret1 rfl rfl ⟨rfl, _, hJ3, hSt⟩
    · rw [if_neg he2]
      have hst : (stop || decide (e2 ≠ 15)) = true := by rw [decide_eq_true h15, Bool.or_true]
      rw [hst]
      refine enter Tryz.func81 rfl Tryz.ntmps81 rfl ?_
      repeat' (first | (refine WL_isCall (f := 98) ?_; refine WL_call (ok_call hT rfl) rfl rfl rfl (hap (St.hasE (Ha := _ :: X) hSt)) ?_; rintro v w2 ⟨rfl, Hj2, hJ2, hc2⟩; replace hSt := St.callE (Ha := _ :: X) hSt hc2; clear hc2; dsimp only [List.cons_append] at hSt) | (refine WL_isCall (f := 99) ?_; refine WL_call (ok_call hT rfl) rfl rfl rfl (hsy hJ2 (St.hasE (Ha := _ :: X) hSt)) ?_; rintro v w2 ⟨rfl, Hj3, hJ3, hc2⟩; replace hSt := St.callE (Ha := _ :: X) hSt hc2; clear hc2; dsimp only [List.cons_append] at hSt) | (refine WL_store1 hT rfl rfl 0 rfl rfl hSt rfl rfl rfl ?_; clear hSt; intro w hSt; dsimp only [List.set] at hSt) | refine stepA ?_ | (refine stepS ?_; clear hSt; intro w hSt; dsimp only [spl, List.set] at hSt) | (refine stepB ?_; clear hSt; intro w nb hnb hSt; dsimp only [zcells, List.nil_append, List.cons_append] at hSt) | (refine W_quiet hT (by decide +kernel) hSt ?_; clear hSt; (repeat' (first | (apply QL_ev rfl rfl; (intro w hSt; (first | exact Ev_auto))) | refine QL_pass rfl rfl ?_ | (refine QL_guardP rfl rfl (fun hc => ?_) (fun hc => ?_) <;> try exact absA) | (refine QL_guard rfl rfl (fun hc => ?_) (fun hc => ?_) <;> (try exact absA) <;> (fail_if_success (change true = true at hc)) <;> (fail_if_success (change false = false at hc))))); all_goals (refine QL_nil (fun w hSt => ?_))) | (refine stepG ?_ ?_ <;> intro hc <;> (try exact absA) <;> (fail_if_success (change true = true at hc)) <;> (fail_if_success (change false = false at hc))) | fail)
      all_goals exact ret1 rfl rfl ⟨rfl, _, hJ3, hSt⟩
  · rw [if_neg he]
    by_cases h15 : e = 15
    · subst h15
      have hst : (stop || decide ((15 : Int) ≠ 15)) = stop := by simp
      dsimp only
      rw [hst]
      refine enter Tryz.func81 rfl Tryz.ntmps81 rfl ?_
      repeat' (first | (refine WL_isCall (f := 98) ?_; refine WL_call (ok_call hT rfl) rfl rfl rfl (hap (St.hasE (Ha := _ :: X) hSt)) ?_; rintro v w2 ⟨rfl, Hj2, hJ2, hc2⟩; replace hSt := St.callE (Ha := _ :: X) hSt hc2; clear hc2; dsimp only [List.cons_append] at hSt) | refine stepA ?_ | (refine stepS ?_; clear hSt; intro w hSt; dsimp only [spl, List.set] at hSt) | (refine stepB ?_; clear hSt; intro w nb hnb hSt; dsimp only [zcells, List.nil_append, List.cons_append] at hSt) | (refine W_quiet hT (by decide +kernel) hSt ?_; clear hSt; (repeat' (first | (apply QL_ev rfl rfl; (intro w hSt; (first | exact Ev_auto))) | refine QL_pass rfl rfl ?_ | (refine QL_guardP rfl rfl (fun hc => ?_) (fun hc => ?_) <;> try exact absA) | (refine QL_guard rfl rfl (fun hc => ?_) (fun hc => ?_) <;> (try exact absA) <;> (fail_if_success (change true = true at hc)) <;> (fail_if_success (change false = false at hc))))); all_goals (refine QL_nil (fun w hSt => ?_))) | (refine stepG ?_ ?_ <;> intro hc <;> (try exact absA) <;> (fail_if_success (change true = true at hc)) <;> (fail_if_success (change false = false at hc))) | fail)
      all_goals exact ret1 rfl rfl ⟨rfl, _, hJ2, hSt⟩
    · have hst : (stop || decide (e ≠ 15)) = true := by rw [decide_eq_true h15, Bool.or_true]
      rw [hst]
      refine enter Tryz.func81 rfl Tryz.ntmps81 rfl ?_
      repeat' (first | (refine WL_isCall (f := 98) ?_; refine WL_call (ok_call hT rfl) rfl rfl rfl (hap (St.hasE (Ha := _ :: X) hSt)) ?_; rintro v w2 ⟨rfl, Hj2, hJ2, hc2⟩; replace hSt := St.callE (Ha := _ :: X) hSt hc2; clear hc2; dsimp only [List.cons_append] at hSt) | (refine WL_store1 hT rfl rfl 0 rfl rfl hSt rfl rfl rfl ?_; clear hSt; intro w hSt; dsimp only [List.set] at hSt) | refine stepA ?_ | (refine stepS ?_; clear hSt; intro w hSt; dsimp only [spl, List.set] at hSt) | (refine stepB ?_; clear hSt; intro w nb hnb hSt; dsimp only [zcells, List.nil_append, List.cons_append] at hSt) | (refine W_quiet hT (by decide +kernel) hSt ?_; clear hSt; (repeat' (first | (apply QL_ev rfl rfl; (intro w hSt; (first | exact Ev_auto))) | refine QL_pass rfl rfl ?_ | (refine QL_guardP rfl rfl (fun hc => ?_) (fun hc => ?_) <;> try exact absA) | (refine QL_guard rfl rfl (fun hc => ?_) (fun hc => ?_) <;> (try exact absA) <;> (fail_if_success (change true = true at hc)) <;> (fail_if_success (change false = false at hc))))); all_goals (refine QL_nil (fun w hSt => ?_))) | (refine stepG ?_ ?_ <;> intro hc <;> (try exact absA) <;> (fail_if_success (change true = true at hc)) <;> (fail_if_success (change false = false at hc))) | fail)
      all_goals exact ret1 rfl rfl ⟨rfl, _, hJ2, hSt⟩
theorem rnext_any (hW : RW br bw bv s H) (hI : Inv0 s) (hh : Has w0 H) :
    Cl Tryz.prog 83 [Ptr br] w0 (fun v w' => v = .tuple ⟨[]⟩ ∧ ∃ H', RW br bw bv (nextS s) H' ∧ St w0 (InH H) H' w') := by
  obtain ⟨gv, Hg, ev, He, Hj, hog, hoe, hJ, rfl⟩ := hW
  have hSt := hh.st
  generalize InH _ = SS at hSt ⊢
  clear hh
  have hl := hI.len
  have hcu0 := hI.cu
  have hoi := hI.open_idle
  clear hI
  obtain ⟨pol, lim, l, ends, cur, fb, stop, m, j⟩ := s
  dsimp only at hog hoe hJ hSt hl hcu0 hoi ⊢
  unfold nextS; dsimp only
  by_cases hc0 : 0 ≤ cur
  · rw [if_pos hc0]
    obtain ⟨wl, hq⟩ : ∃ wl, waitL l = wl := ⟨_, rfl⟩
    obtain ⟨ga, gc, rfl⟩ := hog.len
    refine enter Tryz.func83 rfl Tryz.ntmps83 rfl ?_
    repeat' (first | (refine WL_isCall (f := 80) ?_; refine WL_call (ok_call hT rfl) rfl rfl rfl (rwaiting_any (s := ⟨_, _, l, _, _, _, _, _, _⟩) (hSt.own 0 _ _ rfl).1 (OwnSl.slAt gC_len hog (hSt.has.sublist sub_g)) (by dsimp only; omega)) ?_; rintro v w2 ⟨H1, ho1, hc2⟩; replace hSt := hSt.newN hc2; clear hc2; dsimp only at ho1; rw [hq] at ho1; obtain ⟨a1, c1, rfl⟩ := ho1.len; replace hSt := hSt.left) | (refine WL_isCall (f := 77) ?_; refine WL_call (ok_call hT rfl) rfl rfl rfl (rcur_l (s := ⟨_, _, l, _, _, _, _, _, _⟩) (l := l) rfl hcu0 (hSt.own 0 _ _ rfl).1 (OwnSl.slAt gC_len hog (hSt.has.sublist sub_g)) (by dsimp only; omega)) ?_; rintro v w2 ⟨rfl, hc2⟩; replace hSt := hSt.call0 hc2; clear hc2) | refine stepA ?_ | (refine stepS ?_; clear hSt; intro w hSt; dsimp only [spl, List.set] at hSt) | (refine stepB ?_; clear hSt; intro w nb hnb hSt; dsimp only [zcells, List.nil_append, List.cons_append] at hSt) | (refine W_quiet hT (by decide +kernel) hSt ?_; clear hSt; (repeat' (first | (apply QL_ev rfl rfl; (intro w hSt; (first | exact Ev_auto))) | refine QL_pass rfl rfl ?_ | (refine QL_guardP rfl rfl (fun hc => ?_) (fun hc => ?_) <;> try exact absA) | (refine QL_guard rfl rfl (fun hc => ?_) (fun hc => ?_) <;> (try exact absA) <;> (fail_if_success (change true = true at hc)) <;> (fail_if_success (change false = false at hc))))); all_goals (refine QL_nil (fun w hSt => ?_))) | (refine stepG ?_ ?_ <;> intro hc <;> (try exact absA) <;> (fail_if_success (change true = true at hc)) <;> (fail_if_success (change false = false at hc))) | fail)
    all_goals exact ⟨rfl, _, ⟨_, _, _, _, _, hog, hoe, hJ, rfl⟩, hSt⟩
  · rw [if_neg hc0, hoi (by omega)]
    rcases hq : waitL l with _ | ⟨i, r⟩
    · obtain ⟨ga, gc, rfl⟩ := hog.len
      refine enter Tryz.func83 rfl Tryz.ntmps83 rfl ?_
      repeat' (first | (refine WL_isCall (f := 80) ?_; refine WL_call (ok_call hT rfl) rfl rfl rfl (rwaiting_any (s := ⟨_, _, l, _, _, _, _, _, _⟩) (hSt.own 0 _ _ rfl).1 (OwnSl.slAt gC_len hog (hSt.has.sublist sub_g)) (by dsimp only; omega)) ?_; rintro v w2 ⟨H1, ho1, hc2⟩; replace hSt := hSt.newN hc2; clear hc2; dsimp only at ho1; rw [hq] at ho1; obtain ⟨a1, c1, rfl⟩ := ho1.len; replace hSt := hSt.left) | (refine WL_isCall (f := 77) ?_; refine WL_call (ok_call hT rfl) rfl rfl rfl (rcur_l (s := ⟨_, _, l, _, _, _, _, _, _⟩) (l := l) rfl hcu0 (hSt.own 0 _ _ rfl).1 (OwnSl.slAt gC_len hog (hSt.has.sublist sub_g)) (by dsimp only; omega)) ?_; rintro v w2 ⟨rfl, hc2⟩; replace hSt := hSt.call0 hc2; clear hc2) | refine stepA ?_ | (refine stepS ?_; clear hSt; intro w hSt; dsimp only [spl, List.set] at hSt) | (refine stepB ?_; clear hSt; intro w nb hnb hSt; dsimp only [zcells, List.nil_append, List.cons_append] at hSt) | (refine W_quiet hT (by decide +kernel) hSt ?_; clear hSt; (repeat' (first | (apply QL_ev rfl rfl; (intro w hSt; (first | exact Ev_auto))) | refine QL_pass rfl rfl ?_ | (refine QL_guardP rfl rfl (fun hc => ?_) (fun hc => ?_) <;> try exact absA) | (refine QL_guard rfl rfl (fun hc => ?_) (fun hc => ?_) <;> (try exact absA) <;> (fail_if_success (change true = true at hc)) <;> (fail_if_success (change false = false at hc))))); all_goals (refine QL_nil (fun w hSt => ?_))) | (refine stepG ?_ ?_ <;> intro hc <;> (try exact absA) <;> (fail_if_success (change true = true at hc)) <;> (fail_if_success (change false = false at hc))) | fail)
      all_goals exact ⟨rfl, _, ⟨_, _, _, _, _, hog, hoe, hJ, rfl⟩, hSt⟩
    · have hrl : (i :: r).length = r.length + 1 := rfl
      have hil := (waitL_mem (l := l) (i := i)).1 (by rw [hq]; exact List.mem_cons_self ..) |>.1
      have hx := gAt_some hil
      obtain ⟨gb, gc, rs, rfl, hgc, hrs, rfl⟩ := hog.some_ (by omega)
      dsimp only [List.cons_append, List.nil_append] at hSt
      refine enter Tryz.func83 rfl Tryz.ntmps83 rfl ?_
      repeat' (first | (refine WL_isCall (f := 80) ?_; refine WL_call (ok_call hT rfl) rfl rfl rfl (rwaiting_any (s := ⟨_, _, l, _, _, _, _, _, _⟩) (hSt.own 0 _ _ rfl).1 (OwnSl.slAt gC_len hog (hSt.has.sublist sub_g)) (by dsimp only; omega)) ?_; rintro v w2 ⟨H1, ho1, hc2⟩; replace hSt := hSt.newN hc2; clear hc2; dsimp only at ho1; rw [hq] at ho1; rw [hrl] at ho1; obtain ⟨ob, oc, rs2, rfl, hoc, hrs2, rfl⟩ := ho1.some_ (by omega); replace hSt := hSt.front) | (refine WL_isCall (f := 77) ?_; refine WL_call (ok_call hT rfl) rfl rfl rfl (rcur_l (s := ⟨_, _, l, _, _, _, _, _, _⟩) (l := l) rfl hcu0 (hSt.own 1 _ _ rfl).1 (OwnSl.slAt gC_len hog (hSt.has.sublist ((List.sublist_append_left [_] _).trans ((List.sublist_cons_self _ _).trans (List.sublist_cons_self _ _))))) (by dsimp only; omega)) ?_; rintro v w2 ⟨rfl, hc2⟩; replace hSt := hSt.call0 hc2; clear hc2) | (refine W_tail 7 hT (by decide +kernel) hSt ?_; clear hSt; intro w hSt; simp only [List.take_succ_cons, List.take_zero]; (repeat' (first | (apply SL_ev rfl rfl; (first | exact Ev_auto)) | refine SL_pass rfl rfl ?_ | (refine SL_guardP rfl rfl (fun hc => ?_) (fun hc => ?_) <;> try exact absA) | (refine SL_guard rfl rfl (fun hc => ?_) (fun hc => ?_) <;> (try exact absA) <;> (fail_if_success (change true = true at hc)) <;> (fail_if_success (change false = false at hc))))); all_goals (refine SL_nil ?_; simp only [List.drop_succ_cons, List.drop_zero])) | (refine WL_store1 hT rfl rfl 2 rfl rfl hSt rfl rfl (cell_lt hil (j := 2) (by decide) rs) ?_; clear hSt; intro w hSt; dsimp only [List.set] at hSt; rw [cell_put (y := { gAt l i with st := 2 }) hx (j := 2) (by decide) rfl rs] at hSt) | (refine WL_store1 hT rfl rfl 1 rfl rfl hSt rfl rfl rfl ?_; clear hSt; intro w hSt; dsimp only [List.set] at hSt) | refine stepA ?_ | (refine stepS ?_; clear hSt; intro w hSt; dsimp only [spl, List.set] at hSt) | (refine stepB ?_; clear hSt; intro w nb hnb hSt; dsimp only [zcells, List.nil_append, List.cons_append] at hSt) | (refine W_quiet hT (by decide +kernel) hSt ?_; clear hSt; (repeat' (first | (apply QL_ev rfl rfl; (intro w hSt; (first | exact Ev_auto))) | refine QL_pass rfl rfl ?_ | (refine QL_guardP rfl rfl (fun hc => ?_) (fun hc => ?_) <;> try exact absA) | (refine QL_guard rfl rfl (fun hc => ?_) (fun hc => ?_) <;> (try exact absA) <;> (fail_if_success (change true = true at hc)) <;> (fail_if_success (change false = false at hc))))); all_goals (refine QL_nil (fun w hSt => ?_))) | (refine stepG ?_ ?_ <;> intro hc <;> (try exact absA) <;> (fail_if_success (change true = true at hc)) <;> (fail_if_success (change false = false at hc))) | fail)
      all_goals exact ⟨rfl, _, ⟨_, _, _, _, _, own_set hgc hrs, hoe, hJ, rfl⟩, hSt.right (Ha := [_])⟩
theorem rend_any (hW : RW br bw bv s H) (hk : Svk s 1) (h4 : R4 s) (hh : Has w0 H) {i : Nat} (hi : i < s.l.length) (st at_ : Int) (rs : List UInt8) :
    Cl Tryz.prog 74 [Ptr br, I (i : Int), I st, I at_, S rs] w0 (fun v w' => v = I (endS s i st at_ rs).1 ∧ ∃ H', RW br bw bv (endS s i st at_ rs).2 H' ∧ St w0 (InH H) H' w') := by
  obtain ⟨gv, Hg, ev, He, Hj, hog, hoe, hJ, rfl⟩ := hW
  have hSt := hh.st
  generalize InH _ = SS at hSt ⊢
  have hel := enc_len { endG (gAt s.l i) st at_ rs with rq := [] }
  have hrc := fun {w : World} {gv ev : Value} {X : List (Nat × Obj)} hh => rrecord_any (w0 := w) (br := br) (gv := gv) (ev := ev) (X := X) hJ hk h4 hh (endR (endG (gAt s.l i) st at_ rs)) (by have := endR_len (endG (gAt s.l i) st at_ rs); omega)
  have hl := hk.l
  have hle := hk.e
  have hsm := recS_same s (endR (endG (gAt s.l i) st at_ rs))
  unfold endS
  generalize hR : endR (endG (gAt s.l i) st at_ rs) = R at hrc hsm ⊢
  generalize recS s R = r at hrc hsm ⊢
  clear hk hh h4
  obtain ⟨e, s2⟩ := r
  obtain ⟨pol, lim, l, ends, cur, fb, stop, m, j⟩ := s
  obtain ⟨pol2, lim2, l2, ends2, cur2, fb2, stop2, m2, j2⟩ := s2
  obtain ⟨h1, h2, h3, h4, h5, h6⟩ := hsm
  dsimp only at h1 h2 h3 h4 h5 h6 hrc hog hoe hJ hSt hl hi hR hel hle ⊢
  subst h1 h2 h3 h4 h5 h6
  have hx := gAt_some hi
  have hil := hi
  generalize gAt l2 i = g at hx hel hR ⊢
  obtain ⟨c, n, st0, at0, en0, rq0, rs0⟩ := g
  obtain ⟨gb, gc, rs1, rfl, hgc, hrs, rfl⟩ := hog.some_ (by omega)
  obtain ⟨ea, ec, rfl⟩ := hoe.len
  dsimp only [endG] at hel hR
  unfold endR at hR
  subst hR
  have hcs := cell_take hx rs1
  dsimp only [List.cons_append, List.nil_append] at hSt
  by_cases he : e = 0
  · subst he
    rw [if_neg (by simp)]
    refine enter Tryz.func74 rfl Tryz.ntmps74 rfl ?_
    repeat' (first | (apply WL_ev rfl rfl; exact Ev_loadN hT rfl rfl (hSt.at 1 rfl) hcs rfl) | (refine WL_alloc hT rfl rfl rfl hSt ?_; clear hSt; intro w nb hnb hSt; replace hSt := hSt.front; dsimp only [zcells] at hSt) | (refine WL_isCall (f := 82) ?_; refine WL_call (ok_call hT rfl) rfl rfl rfl (rencode_any _ _ _ _ _ _ _) ?_; rintro v w2 ⟨rfl, hc2⟩; replace hSt := hSt.call0 hc2; clear hc2) | (apply WL_ev rfl rfl; exact Ev_str_add rfl rfl (by simp only [List.length_append, List.length_cons, List.length_nil]; omega)) | (refine WL_isCall (f := 81) ?_; refine WL_call (ok_call hT rfl) rfl rfl rfl (hrc (X := _ :: He) (St.hasE (Ha := [_, _]) hSt)) ?_; rintro v w2 ⟨rfl, Hj2, hJ2, hc2⟩; replace hSt := St.callE (Ha := [_, _]) hSt hc2; clear hc2; replace hSt := hSt.perm (List.Perm.cons _ (List.Perm.cons _ (List.Perm.cons _ (List.Perm.cons _ (List.perm_append_comm)))))) | (refine W_tail 6 hT (by decide +kernel) hSt ?_; clear hSt; intro w hSt; simp only [List.take_succ_cons, List.take_zero]; (repeat' (first | (apply SL_ev rfl rfl; (first | (exact Ev_loadN hT rfl rfl (hSt.at 1 rfl) hcs rfl) | (exact Ev_str_add rfl rfl (by simp only [List.length_append, List.length_cons, List.length_nil]; omega)) | exact Ev_auto)) | refine SL_pass rfl rfl ?_ | (refine SL_guardP rfl rfl (fun hc => ?_) (fun hc => ?_) <;> try exact absA) | (refine SL_guard rfl rfl (fun hc => ?_) (fun hc => ?_) <;> (try exact absA) <;> (fail_if_success (change true = true at hc)) <;> (fail_if_success (change false = false at hc))))); all_goals (refine SL_nil ?_; simp only [List.drop_succ_cons, List.drop_zero])) | (refine WL_storeN hT rfl rfl 3 rfl rfl hSt rfl rfl rfl (cell_room hil rs1) ?_; clear hSt; intro w hSt; dsimp only [List.set] at hSt; replace hSt := St.row4 (cell_row (y := ⟨c, n, st, at0, at_, rq0, rs⟩) hil rs1) hSt) | (refine WL_push1 hT rfl rfl rfl rfl rfl rfl rfl rfl rfl rfl rfl rfl (fun _ => rfl) rfl (H0 := _ :: _ :: _ :: _ :: Hj2) hSt hoe (by omega) (by omega) ?_; clear hSt; intro ev2 w He2 u hoe2 hSt; obtain ⟨ea2, ec2, rfl⟩ := hoe2.len; dsimp only [List.cons_append] at hSt) | (refine WL_store1 hT rfl rfl 2 rfl rfl hSt rfl rfl rfl ?_; clear hSt; intro w hSt; dsimp only [List.set] at hSt) | refine stepA ?_ | (refine stepS ?_; clear hSt; intro w hSt; dsimp only [spl, List.set] at hSt) | (refine stepB ?_; clear hSt; intro w nb hnb hSt; dsimp only [zcells, List.nil_append, List.cons_append] at hSt) | (refine W_quiet hT (by decide +kernel) hSt ?_; clear hSt; (repeat' (first | (apply QL_ev rfl rfl; (intro w hSt; (first | (exact Ev_loadN hT rfl rfl (hSt.at 1 rfl) hcs rfl) | (exact Ev_str_add rfl rfl (by simp only [List.length_append, List.length_cons, List.length_nil]; omega)) | exact Ev_auto))) | refine QL_pass rfl rfl ?_ | (refine QL_guardP rfl rfl (fun hc => ?_) (fun hc => ?_) <;> try exact absA) | (refine QL_guard rfl rfl (fun hc => ?_) (fun hc => ?_) <;> (try exact absA) <;> (fail_if_success (change true = true at hc)) <;> (fail_if_success (change false = false at hc))))); all_goals (refine QL_nil (fun w hSt => ?_))) | (refine stepG ?_ ?_ <;> intro hc <;> (try exact absA) <;> (fail_if_success (change true = true at hc)) <;> (fail_if_success (change false = false at hc))) | fail)
    all_goals exact ret1 rfl rfl ⟨rfl, _, ⟨_, _, _, _, _, own_set hgc hrs, own_int hoe2, hJ2, rfl⟩, St.right (Ha := [_, _]) (hSt.perm (List.Perm.cons _ (List.Perm.cons _ (List.Perm.cons _ (List.Perm.cons _ List.perm_append_comm)))))⟩
  · rw [if_pos he]
    refine enter Tryz.func74 rfl Tryz.ntmps74 rfl ?_
    repeat' (first | (apply WL_ev rfl rfl; exact Ev_loadN hT rfl rfl (hSt.at 1 rfl) hcs rfl) | (refine WL_alloc hT rfl rfl rfl hSt ?_; clear hSt; intro w nb hnb hSt; replace hSt := hSt.front; dsimp only [zcells] at hSt) | (refine WL_isCall (f := 82) ?_; refine WL_call (ok_call hT rfl) rfl rfl rfl (rencode_any _ _ _ _ _ _ _) ?_; rintro v w2 ⟨rfl, hc2⟩; replace hSt := hSt.call0 hc2; clear hc2) | (apply WL_ev rfl rfl; exact Ev_str_add rfl rfl (by simp only [List.length_append, List.length_cons, List.length_nil]; omega)) | (refine WL_isCall (f := 81) ?_; refine WL_call (ok_call hT rfl) rfl rfl rfl (hrc (X := _ :: He) (St.hasE (Ha := [_, _]) hSt)) ?_; rintro v w2 ⟨rfl, Hj2, hJ2, hc2⟩; replace hSt := St.callE (Ha := [_, _]) hSt hc2; clear hc2; replace hSt := hSt.perm (List.Perm.cons _ (List.Perm.cons _ (List.Perm.cons _ (List.Perm.cons _ (List.perm_append_comm)))))) | refine stepA ?_ | (refine stepS ?_; clear hSt; intro w hSt; dsimp only [spl, List.set] at hSt) | (refine stepB ?_; clear hSt; intro w nb hnb hSt; dsimp only [zcells, List.nil_append, List.cons_append] at hSt) | (refine W_quiet hT (by decide +kernel) hSt ?_; clear hSt; (repeat' (first | (apply QL_ev rfl rfl; (intro w hSt; (first | (exact Ev_loadN hT rfl rfl (hSt.at 1 rfl) hcs rfl) | (exact Ev_str_add rfl rfl (by simp only [List.length_append, List.length_cons, List.length_nil]; omega)) | exact Ev_auto))) | refine QL_pass rfl rfl ?_ | (refine QL_guardP rfl rfl (fun hc => ?_) (fun hc => ?_) <;> try exact absA) | (refine QL_guard rfl rfl (fun hc => ?_) (fun hc => ?_) <;> (try exact absA) <;> (fail_if_success (change true = true at hc)) <;> (fail_if_success (change false = false at hc))))); all_goals (refine QL_nil (fun w hSt => ?_))) | (refine stepG ?_ ?_ <;> intro hc <;> (try exact absA) <;> (fail_if_success (change true = true at hc)) <;> (fail_if_success (change false = false at hc))) | fail)
    all_goals exact ret1 rfl rfl ⟨rfl, _, ⟨_, _, _, _, _, hog, hoe, hJ2, rfl⟩, St.right (Ha := [_, _]) (hSt.perm (List.Perm.cons _ (List.Perm.cons _ (List.Perm.cons _ (List.Perm.cons _ List.perm_append_comm)))))⟩
end
end Go.Proofs.YtndkifkaejmibaaGreatDoor
