/- The specification's server in memory: it is opened on a medium. No conditions. -/
import Derived.Test.YtndkifkaejmibaaGreatDoorRvd
import Derived.Test.YtndkifkaejmibaaGreatDoorMO
import Derived.Test.YtndkifkaejmibaaGreatDoorSol

namespace Go.Proofs.YtndkifkaejmibaaGreatDoor
open Go.RowKit
set_option maxRecDepth 4000
set_option linter.unusedVariables false
set_option linter.unusedSimpArgs false
set_option maxHeartbeats 8000000

theorem jOpen_r4 {m : Med} : ∀ x ∈ (jOpen m).2.2.l, x.length ≤ 4000 := by
  have hv := (verG_canon (m.s.length + 1) 0 m.s).2.2.2
  have he : verG (m.s.length + 1) 0 m.s = verF m.s := rfl
  rw [he] at hv
  unfold jOpen
  (repeat' split) <;> first | exact hv | (intro x hx; cases hx)
theorem r4_endS {s : Sv} (h : R4 s) (i : Nat) (st at_ : Int) (rs : List UInt8) : R4 (endS s i st at_ rs).2 := by
  have := h.recS (endR (endG (gAt s.l i) st at_ rs))
  unfold endS
  split <;> exact this
theorem RW.med {br bw bv : Nat} {s : Sv} {H : List (Nat × Obj)} (hW : RW br bw bv s H) : ∃ o, RefO o s.m ∧ List.Sublist [(bv, o)] H := by
  obtain ⟨gv, Hg, ev, He, Hj, hog, hoe, hJ, rfl⟩ := hW
  obtain ⟨o, rv, H1, hro, ho, rfl⟩ := hJ
  exact ⟨o, hro, List.Sublist.cons _ ((List.Sublist.cons _ (List.Sublist.cons_cons _ (List.nil_sublist _))).trans (List.sublist_append_right _ _))⟩
/-- the open goals from an index on -/
def opF (l : List Gl) (i : Nat) : List Nat := (List.range' i (l.length - i)).filter fun k => !termF (gAt l k).st
theorem opF_zero (l : List Gl) : opF l 0 = openL l := by unfold opF openL; rw [Nat.sub_zero, List.range_eq_range']
theorem opF_end (l : List Gl) {i : Nat} (h : l.length ≤ i) : opF l i = [] := by unfold opF; rw [Nat.sub_eq_zero_of_le h]; rfl
theorem opF_step {l : List Gl} {i : Nat} (h : i < l.length) : opF l i = if termF (gAt l i).st = true then opF l (i + 1) else i :: opF l (i + 1) := by
  unfold opF
  rw [show l.length - i = (l.length - (i + 1)) + 1 by omega, List.range'_succ, List.filter_cons]
  cases termF (gAt l i).st <;> rfl
theorem opF_set {l : List Gl} {i : Nat} (h : i < l.length) (y : Gl) : opF (l.set i y) (i + 1) = opF l (i + 1) := by
  unfold opF
  rw [List.length_set]
  apply List.filter_congr
  intro k hk
  rw [List.mem_range'_1] at hk
  rw [gAt_set h, if_neg (by omega)]
theorem Calmd.set {l : List Gl} (h : Calmd l) {i : Nat} (hi : i < l.length) {y : Gl} (hy : 4 ≤ y.st ∧ y.st ≤ 7) : Calmd (l.set i y) := by
  intro k hk
  rw [List.length_set] at hk
  rw [gAt_set hi]
  split
  · exact .inr hy
  · exact h k hk
theorem Calmd.rAll {s t : Sv} {x : List UInt8} (h : Calmd s.l) (hr : replayS s x = some t) : Calmd t.l := by
  have h1 := replayAll_rep [x] s
  rw [replayAll, hr] at h1
  dsimp only [replayAll] at h1
  cases hq : Go.Proofs.YtndkifkaejmibaaGreatDoor.repA (s.l, s.ends) [x] with
  | none => rw [hq] at h1; cases h1
  | some p =>
    rw [hq] at h1
    injection h1 with h1
    rw [h1]
    exact Calmd.repA (p := (s.l, s.ends)) h hq
theorem endS_st {s : Sv} {i : Nat} {st at_ : Int} {rs : List UInt8} (h : (endS s i st at_ rs).1 = 0) : (endS s i st at_ rs).2.l = s.l.set i (endG (gAt s.l i) st at_ rs) := (endS_ok h).1
/-- the specification's server that is opened on a medium -/
theorem ropen_any {w0 : World} {bv : Nat} {m : Med} {o : Obj} (hb : w0.heap[bv]? = some o) (hro : RefO o m) (hm : m.Ok) (pol lim : Int) :
    Cl Tryz.prog 45 [I pol, I lim, Ptr bv] w0 (fun v w' => ((openS pol lim m).1 ≠ 0 ∧ v = .tuple ⟨[.pointer none, I (openS pol lim m).1]⟩ ∧ ∃ o', RefO o' (openS pol lim m).2.m ∧ St w0 (· = bv) [(bv, o')] w') ∨
      ((openS pol lim m).1 = 0 ∧ ∃ br bw H', v = .tuple ⟨[Ptr br, I 0]⟩ ∧ RW br bw bv (openS pol lim m).2 H' ∧ St w0 (· = bv) H' w')) := by
  have hSt := (St.refl w0 (· = bv)).know hb (Or.inl rfl) (by simp)
  dsimp only [List.nil_append, List.cons_append] at hSt
  have hjo := fun {w : World} (hb : w.heap[bv]? = some o) => rjopen_any hb hro hm
  have hmo := jOpen_ok hm
  have hjl := jOpen_len hm
  have hj4 := @jOpen_r4 m
  clear hb
  unfold openS
  generalize jOpen m = r at hjo hjl hmo hj4 ⊢
  obtain ⟨e0, m2, j2⟩ := r
  dsimp only at hjo hjl hmo hj4 ⊢
  by_cases hpl : ¬ (1 ≤ pol ∧ pol ≤ 3 ∧ 0 ≤ lim ∧ lim ≤ 64)
  · rw [if_pos hpl]
    refine enter Tryz.func45 rfl Tryz.ntmps45 rfl ?_
    repeat' (first | refine stepA ?_ | (refine stepS ?_; clear hSt; intro w hSt; dsimp only [spl, List.set] at hSt) | (refine stepB ?_; clear hSt; intro w nb hnb hSt; dsimp only [zcells, List.nil_append, List.cons_append] at hSt) | (refine stepG ?_ ?_ <;> intro hc <;> (try exact absA) <;> (fail_if_success (change true = true at hc)) <;> (fail_if_success (change false = false at hc))) | fail)
    all_goals first | exact ret2 rfl rfl rfl (.inl ⟨by simp, rfl, _, hro, hSt⟩) | (exfalso; omega)
  rw [if_neg hpl]
  by_cases he0 : e0 ≠ 0
  · rw [if_pos he0]
    have hjn : ∀ {w : World} (hb : w.heap[bv]? = some o), Cl Tryz.prog 70 [Ptr bv] w (fun v w' => v = .tuple ⟨[.pointer none, I e0]⟩ ∧ ∃ o', RefO o' m2 ∧ St w (· = bv) [(bv, o')] w') := fun hb => (hjo hb).mono (by
      rintro v w' (⟨_, h, k⟩ | ⟨h, _⟩)
      · exact ⟨h, k⟩
      · exact absurd h he0)
    clear hjo
    refine enter Tryz.func45 rfl Tryz.ntmps45 rfl ?_
    repeat' (first | (refine WL_isCall (f := 70) ?_; refine WL_call (ok_call hT rfl) rfl rfl rfl (hjn (hSt.own 0 _ _ rfl).1) ?_; rintro v w2 ⟨rfl, o1, ho1, hc2⟩; replace hSt := hSt.call1 (i := 0) rfl hc2; clear hc2; dsimp only [List.set] at hSt) | refine stepA ?_ | (refine stepS ?_; clear hSt; intro w hSt; dsimp only [spl, List.set] at hSt) | (refine stepB ?_; clear hSt; intro w nb hnb hSt; dsimp only [zcells, List.nil_append, List.cons_append] at hSt) | (refine stepG ?_ ?_ <;> intro hc <;> (try exact absA) <;> (fail_if_success (change true = true at hc)) <;> (fail_if_success (change false = false at hc))) | fail)
    all_goals first | exact ret2 rfl rfl rfl (.inl ⟨he0, rfl, _, ho1, hSt⟩) | (exfalso; omega)
  obtain rfl : e0 = 0 := by omega
  rw [if_neg he0]
  have hjy : ∀ {w : World} (hb : w.heap[bv]? = some o), Cl Tryz.prog 70 [Ptr bv] w (fun v w' => ∃ bw H', v = .tuple ⟨[Ptr bw, I 0]⟩ ∧ JR bv bw m2 j2 H' ∧ St w (· = bv) H' w') := fun hb => (hjo hb).mono (by
    rintro v w' (⟨h, _⟩ | ⟨_, h⟩)
    · exact absurd rfl h
    · exact h)
  clear hjo he0
  obtain ⟨jl, jd, js⟩ := j2
  dsimp only at hjl hj4 ⊢
  refine enter Tryz.func45 rfl Tryz.ntmps45 rfl ?_
  repeat' (first | (refine WL_isCall (f := 70) ?_; refine WL_call (ok_call hT rfl) rfl rfl rfl (hjy (hSt.own 0 _ _ rfl).1) ?_; rintro v w2 ⟨bw, Hj, rfl, hJ, hc2⟩; replace hSt := St.open1 hSt hc2; clear hc2) | (refine WL_box rfl rfl rfl hSt ?_; clear hSt; intro w nb hnb hSt; replace hSt := hSt.front; dsimp only [zcells] at hSt) | (refine WL_isCall (f := 71) ?_; refine WL_call (ok_call hT rfl) rfl rfl rfl (rjrecords_any hJ (by dsimp only; omega) (St.hasE (Ha := [_]) hSt)) ?_; rintro v w2 ⟨H1, ho1, hc2⟩; replace hSt := hSt.newN hc2; clear hc2; dsimp only at ho1; obtain ⟨a1, c1, rfl⟩ := ho1.len) | refine stepA ?_ | (refine stepS ?_; clear hSt; intro w hSt; dsimp only [spl, List.set] at hSt) | (refine stepB ?_; clear hSt; intro w nb hnb hSt; dsimp only [zcells, List.nil_append, List.cons_append] at hSt) | (refine stepG ?_ ?_ <;> intro hc <;> (try exact absA) <;> (fail_if_success (change true = true at hc)) <;> (fail_if_success (change false = false at hc))) | fail)
  all_goals try (exfalso; omega)
  replace hSt := hSt.perm List.perm_append_comm
  replace hSt : St w0 (· = bv) (H1 ++ ((nb, rsO bw (.slice none 0 0) (.slice none 0 0) ⟨pol, lim, [], [], -1, 0, false, m2, ⟨jl, jd, js⟩⟩) :: (([] ++ []) ++ Hj))) _ := hSt
  have hW : RW nb bw bv ⟨pol, lim, [], [], -1, 0, false, m2, ⟨jl, jd, js⟩⟩ ((nb, rsO bw (.slice none 0 0) (.slice none 0 0) ⟨pol, lim, [], [], -1, 0, false, m2, ⟨jl, jd, js⟩⟩) :: (([] ++ []) ++ Hj)) := ⟨_, [], _, [], Hj, OwnSl.nil _ _, OwnSl.nil _ _, hJ, rfl⟩
  have hkv : Svk ⟨pol, lim, [], [], -1, 0, false, m2, ⟨jl, jd, js⟩⟩ (jl.length + 100) := ⟨hmo, by dsimp only; omega, by simp, by simp; omega⟩
  have hca : Calmd (Sv.l ⟨pol, lim, [], [], -1, 0, false, m2, ⟨jl, jd, js⟩⟩) := fun i hi => by simp at hi
  have h4v : R4 ⟨pol, lim, [], [], -1, 0, false, m2, ⟨jl, jd, js⟩⟩ := hj4
  obtain ⟨s0, hs0⟩ : ∃ s0 : Sv, s0 = ⟨pol, lim, [], [], -1, 0, false, m2, ⟨jl, jd, js⟩⟩ := ⟨_, rfl⟩
  have hm0 : s0.m = m2 := by rw [hs0]
  rw [← hs0] at hSt hW hkv hca h4v ⊢
  clear hs0 hJ hjy hj4
  refine W_sub (L' := [(12, I ((0 : Nat) : Int)), (10, Ptr nb), (11, .slice a1 jl.length c1)]) (by (repeat (first | exact Sub.nil _ | refine Sub.cons rfl ?_))) ?_
  refine W_loop1 (fun k (i : Nat) w => k = jl.length - i ∧ i ≤ jl.length ∧ ∃ s' Hs, RW nb bw bv s' Hs ∧ Svk s' (jl.length - i + 100) ∧ s'.m = m2 ∧ Calmd s'.l ∧ R4 s' ∧ replayAll s0 jl = replayAll s' (jl.drop i) ∧ St w0 (· = bv) (H1 ++ Hs) w) (fun i => [(12, I (i : Int))]) jl.length 0 rfl (by (repeat (first | exact Str.nil _ | apply Str.drop rfl | apply Str.keepU rfl | apply Str.keep rfl))) ⟨rfl, by omega, _, _, hW, hkv, hm0, hca, h4v, rfl, hSt⟩ (by (repeat (first | exact Sub.nil _ | refine Sub.cons rfl ?_))) ?_
  clear hSt hW hkv hca h4v
  rintro k i w ⟨hk, hi, s', Hs, hW, hkv, hsm, hca, h4v, heq, hSt⟩ K hK
  rw [heq]
  by_cases hil : i < jl.length
  · obtain ⟨x, hx⟩ : ∃ x, jl[i]? = some x := ⟨_, List.getElem?_eq_getElem hil⟩
    have hlt9 : jl.length - (i + 1) < k := by omega
    obtain ⟨ob, oc, rs2, hsv, hoc, hrs2, rfl⟩ := ho1.some_ (by omega)
    injection hsv with e1 e2 e3
    subst e1 e3
    have hcell := strs_at hx rs2
    have hdr : jl.drop i = x :: jl.drop (i + 1) := by
      obtain ⟨h, rfl⟩ := List.getElem?_eq_some_iff.1 hx
      exact List.drop_eq_getElem_cons h
    rw [hdr] at heq ⊢
    have hrp := fun {w : World} hh => rsread_any (w0 := w) hW (hkv.le (k := 1) (by omega)) hh x
    rcases hq : replayS s' x with _ | s2
    · rw [hq] at hrp
      rw [rall_none hq]
      dsimp only [Option.isSome, Option.getD] at hrp ⊢
      rw [hm0.trans hsm.symm]
      repeat' (first | (apply WL_ev rfl rfl; exact Ev_load1 hT rfl rfl (hSt.at 0 rfl) hcell) | (refine WL_isCall (f := 72) ?_; refine WL_call (ok_call hT rfl) rfl rfl rfl (hrp (St.hasE (Ha := [_]) hSt)) ?_; rintro v w2 ⟨rfl, H2, hW2, hc2⟩; replace hSt := St.callE (Ha := [_]) hSt hc2; clear hc2) | refine stepA ?_ | (refine stepS ?_; clear hSt; intro w hSt; dsimp only [spl, List.set] at hSt) | (refine stepB ?_; clear hSt; intro w nb hnb hSt; dsimp only [zcells, List.nil_append, List.cons_append] at hSt) | (refine stepG ?_ ?_ <;> intro hc <;> (try exact absA) <;> (fail_if_success (change true = true at hc)) <;> (fail_if_success (change false = false at hc))) | fail)
      all_goals try (exfalso; omega)
      all_goals
        obtain ⟨o3, ho3, hsb⟩ := RW.med hW2
        exact ret2 rfl rfl rfl (.inl ⟨by simp, rfl, _, ho3, hSt.sublist (hsb.trans (List.sublist_append_right _ _))⟩)
    · rw [hq] at hrp
      rw [rall_some hq] at heq ⊢
      have hk2 := (hkv.le (k := jl.length - (i + 1) + 100 + 1) (by omega)).replay hq
      have hm2 := (replayS_some hq).1.trans hsm
      have hca2 := hca.rAll hq
      have h42 : R4 s2 := by unfold R4; rw [(replayS_some hq).2.1]; exact h4v
      dsimp only [Option.isSome, Option.getD] at hrp ⊢
      repeat' (first | (apply WL_ev rfl rfl; exact Ev_load1 hT rfl rfl (hSt.at 0 rfl) hcell) | (refine WL_isCall (f := 72) ?_; refine WL_call (ok_call hT rfl) rfl rfl rfl (hrp (St.hasE (Ha := [_]) hSt)) ?_; rintro v w2 ⟨rfl, H2, hW2, hc2⟩; replace hSt := St.callE (Ha := [_]) hSt hc2; clear hc2) | refine stepA ?_ | (refine stepS ?_; clear hSt; intro w hSt; dsimp only [spl, List.set] at hSt) | (refine stepB ?_; clear hSt; intro w nb hnb hSt; dsimp only [zcells, List.nil_append, List.cons_append] at hSt) | (refine stepG ?_ ?_ <;> intro hc <;> (try exact absA) <;> (fail_if_success (change true = true at hc)) <;> (fail_if_success (change false = false at hc))) | fail)
      all_goals first | exact At_loop1 hK (k' := jl.length - (i + 1)) (i + 1) hlt9 ⟨rfl, hil, s2, _, hW2, hk2, hm2, hca2, h42, heq, hSt⟩ (by (repeat (first | exact Sub.nil _ | refine Sub.cons rfl ?_))) | (exfalso; omega)
  · obtain rfl : i = jl.length := by omega
    rw [List.drop_length, replayAll]
    dsimp only
    clear heq ho1
    replace hSt := hSt.right (Ha := H1)
    replace hkv := hkv.le (k := 100) (by omega)
    have hl := hkv.l
    obtain ⟨t, ht⟩ : ∃ t, t = latF s'.l := ⟨_, rfl⟩
    rw [← ht, ← opF_zero]
    obtain ⟨gv, Hg, ev, He, Hj, hog, hoe, hJ, rfl⟩ := id hW
    obtain ⟨pol1, lim1, l, ends, cur, fb, stop, m1, j1⟩ := s'
    dsimp only at hl hog hoe hJ ht hsm hca ⊢
    repeat' (first | (refine WL_isCall (f := 73) ?_; refine WL_call (ok_call hT rfl) rfl rfl rfl (rlat_l (s := ⟨_, _, l, _, _, _, _, _, _⟩) (l := l) rfl (hSt.own 0 _ _ rfl).1 (OwnSl.slAt gC_len hog (hSt.has.sublist sub_g)) (by dsimp only; omega)) ?_; rintro v w2 ⟨rfl, hc2⟩; replace hSt := hSt.call0 hc2; clear hc2) | refine stepA ?_ | (refine stepS ?_; clear hSt; intro w hSt; dsimp only [spl, List.set] at hSt) | (refine stepB ?_; clear hSt; intro w nb hnb hSt; dsimp only [zcells, List.nil_append, List.cons_append] at hSt) | (refine stepG ?_ ?_ <;> intro hc <;> (try exact absA) <;> (fail_if_success (change true = true at hc)) <;> (fail_if_success (change false = false at hc))) | fail)
    rw [← ht]
    refine W_sub (L' := [(14, I ((0 : Nat) : Int)), (10, Ptr nb), (13, I t)]) (by (repeat (first | exact Sub.nil _ | refine Sub.cons rfl ?_))) ?_
    refine W_loop1 (fun k (i : Nat) w => k = l.length - i ∧ i ≤ l.length ∧ ∃ s' Hs, RW nb bw bv s' Hs ∧ Svk s' (100 - i) ∧ s'.l.length = l.length ∧ Calmd s'.l ∧ R4 s' ∧ endAll ⟨pol1, lim1, l, ends, cur, fb, stop, m1, j1⟩ (opF l 0) 5 t wRestart = endAll s' (opF s'.l i) 5 t wRestart ∧ St w0 (· = bv) Hs w) (fun i => [(14, I (i : Int))]) l.length 0 rfl (by (repeat (first | exact Str.nil _ | apply Str.drop rfl | apply Str.keepU rfl | apply Str.keep rfl))) ⟨rfl, by omega, _, _, hW, hkv.le (by omega), rfl, hca, h4v, rfl, hSt⟩ (by (repeat (first | exact Sub.nil _ | refine Sub.cons rfl ?_))) ?_
    clear hSt hW hkv hog hoe hJ hk hca h4v
    rintro k i w ⟨hk, hi, s', Hs, hW, hkv, hsl, hca, h4v, heq, hSt⟩ K hK
    rw [heq]
    obtain ⟨gv, Hg, ev, He, Hj, hog, hoe, hJ, rfl⟩ := id hW
    by_cases hil : i < l.length
    · have hlt9 : l.length - (i + 1) < k := by omega
      have hil2 : i < s'.l.length := by omega
      have hx := gAt_some hil2
      have hc1 := hca i hil2
      rw [opF_step hil2] at heq ⊢
      have hend := fun {w : World} hh => rend_any (w0 := w) hW (hkv.le (k := 1) (by omega)) h4v hh hil2 5 t wRestart
      have hkE := fun h => ((hkv.le (k := 100 - (i + 1) + 1) h).endS i 5 t wRestart)
      have h4E := r4_endS h4v i 5 t wRestart
      have hlE := endS_len s' i 5 t wRestart
      have hlS := @endS_st s' i 5 t wRestart
      have hok := @endAll_ok s' i (opF s'.l (i + 1)) 5 t wRestart
      have hno := @endAll_no s' i (opF s'.l (i + 1)) 5 t wRestart
      have hcS := hca.set hil2 (y := endG (gAt s'.l i) 5 t wRestart) ⟨show (4 : Int) ≤ 5 by decide, show (5 : Int) ≤ 7 by decide⟩
      have hoS := opF_set hil2 (endG (gAt s'.l i) 5 t wRestart)
      obtain ⟨gb, gc, rs1, rfl, hgc, hrs, rfl⟩ := hog.some_ (by omega)
      dsimp only [List.cons_append, List.nil_append] at hSt
      have htm := termF_iff (gAt s'.l i).st
      obtain ⟨g0, hg0⟩ : ∃ g0, g0 = gAt s'.l i := ⟨_, rfl⟩
      rw [← hg0] at hx hc1 htm heq ⊢
      obtain ⟨c0, n0, s0', a0, e0, q0, y0⟩ := g0
      dsimp only at hc1 htm heq ⊢
      by_cases h1 : s0' = 1
      · have hf : termF s0' ≠ true := fun h => by have := htm.1 h; omega
        rw [if_neg hf] at heq ⊢
        by_cases he : (endS s' i 5 t wRestart).1 = 0
        · rw [hok he] at heq ⊢
          have hls := hlS he
          generalize endS s' i 5 t wRestart = r at hend he hkE h4E hlE hls heq ⊢
          obtain ⟨e, s2⟩ := r
          dsimp only at hend he hkE h4E hlE hls heq ⊢
          subst he
          rw [← hls] at hcS hoS
          rw [← hoS] at heq ⊢
          repeat' (first | (apply WL_ev rfl rfl; exact Ev_load1 hT rfl rfl (hSt.at 0 rfl) rfl) | (apply WL_ev rfl rfl; exact Ev_load1 hT rfl rfl (hSt.at 1 rfl) (cell_get (c := I s0') hx (j := 2) rfl rs1)) | (refine WL_isCall (f := 74) ?_; refine WL_call (ok_call hT rfl) rfl rfl rfl (hend (St.hasE (Ha := []) hSt)) ?_; rintro v w2 ⟨rfl, H2, hW2, hc2⟩; replace hSt := St.callE (Ha := []) hSt hc2; clear hc2) | refine stepA ?_ | (refine stepS ?_; clear hSt; intro w hSt; dsimp only [spl, List.set] at hSt) | (refine stepB ?_; clear hSt; intro w nb hnb hSt; dsimp only [zcells, List.nil_append, List.cons_append] at hSt) | (refine stepG ?_ ?_ <;> intro hc <;> (try exact absA) <;> (fail_if_success (change true = true at hc)) <;> (fail_if_success (change false = false at hc))) | fail)
          all_goals first | exact At_loop1 hK (k' := l.length - (i + 1)) (i + 1) hlt9 ⟨rfl, hil, s2, _, hW2, hkE (by omega), hlE.trans hsl, hcS, h4E, heq, hSt⟩ (by (repeat (first | exact Sub.nil _ | refine Sub.cons rfl ?_))) | (exfalso; omega)
        · rw [hno he]
          generalize endS s' i 5 t wRestart = r at hend he ⊢
          obtain ⟨e, s2⟩ := r
          dsimp only at hend he ⊢
          repeat' (first | (apply WL_ev rfl rfl; exact Ev_load1 hT rfl rfl (hSt.at 0 rfl) rfl) | (apply WL_ev rfl rfl; exact Ev_load1 hT rfl rfl (hSt.at 1 rfl) (cell_get (c := I s0') hx (j := 2) rfl rs1)) | (refine WL_isCall (f := 74) ?_; refine WL_call (ok_call hT rfl) rfl rfl rfl (hend (St.hasE (Ha := []) hSt)) ?_; rintro v w2 ⟨rfl, H2, hW2, hc2⟩; replace hSt := St.callE (Ha := []) hSt hc2; clear hc2) | refine stepA ?_ | (refine stepS ?_; clear hSt; intro w hSt; dsimp only [spl, List.set] at hSt) | (refine stepB ?_; clear hSt; intro w nb hnb hSt; dsimp only [zcells, List.nil_append, List.cons_append] at hSt) | (refine stepG ?_ ?_ <;> intro hc <;> (try exact absA) <;> (fail_if_success (change true = true at hc)) <;> (fail_if_success (change false = false at hc))) | fail)
          all_goals try (exfalso; omega)
          all_goals
            obtain ⟨o3, ho3, hsb⟩ := RW.med hW2
            exact ret2 rfl rfl rfl (.inl ⟨he, rfl, _, ho3, hSt.sublist hsb⟩)
      · have hf : termF s0' = true := htm.2 (by omega)
        rw [if_pos hf] at heq ⊢
        repeat' (first | (apply WL_ev rfl rfl; exact Ev_load1 hT rfl rfl (hSt.at 0 rfl) rfl) | (apply WL_ev rfl rfl; exact Ev_load1 hT rfl rfl (hSt.at 1 rfl) (cell_get (c := I s0') hx (j := 2) rfl rs1)) | refine stepA ?_ | (refine stepS ?_; clear hSt; intro w hSt; dsimp only [spl, List.set] at hSt) | (refine stepB ?_; clear hSt; intro w nb hnb hSt; dsimp only [zcells, List.nil_append, List.cons_append] at hSt) | (refine stepG ?_ ?_ <;> intro hc <;> (try exact absA) <;> (fail_if_success (change true = true at hc)) <;> (fail_if_success (change false = false at hc))) | fail)
        all_goals first | exact At_loop1 hK (k' := l.length - (i + 1)) (i + 1) hlt9 ⟨rfl, hil, s', _, hW, hkv.le (by omega), hsl, hca, h4v, heq, hSt⟩ (by (repeat (first | exact Sub.nil _ | refine Sub.cons rfl ?_))) | (exfalso; omega)
    · obtain rfl : i = l.length := by omega
      rw [opF_end _ (by omega), endAll]
      obtain ⟨ga, gcc, rfl⟩ := hog.len

      repeat' (first | (apply WL_ev rfl rfl; exact Ev_load1 hT rfl rfl (hSt.at 0 rfl) rfl) | refine stepA ?_ | (refine stepS ?_; clear hSt; intro w hSt; dsimp only [spl, List.set] at hSt) | (refine stepB ?_; clear hSt; intro w nb hnb hSt; dsimp only [zcells, List.nil_append, List.cons_append] at hSt) | (refine stepG ?_ ?_ <;> intro hc <;> (try exact absA) <;> (fail_if_success (change true = true at hc)) <;> (fail_if_success (change false = false at hc))) | fail)
      all_goals first | exact ret2 rfl rfl rfl (.inr ⟨rfl, _, _, _, rfl, hW, hSt⟩) | (exfalso; omega)
end Go.Proofs.YtndkifkaejmibaaGreatDoor
