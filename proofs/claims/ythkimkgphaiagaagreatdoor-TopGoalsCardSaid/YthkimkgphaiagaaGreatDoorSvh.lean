/- The server in memory: a goal is requested. No conditions. -/
import Derived.Test.YthkimkgphaiagaaGreatDoorMQ

namespace Go.Proofs.YthkimkgphaiagaaGreatDoor
open Go.RowKit
set_option maxRecDepth 4000
set_option linter.unusedVariables false
set_option linter.unusedSimpArgs false
set_option maxHeartbeats 8000000

theorem recS_pol (s : Sv) (x : List UInt8) : (recS s x).2.pol = s.pol := (recS_same s x).pol
theorem endS_pol (s : Sv) (i : Nat) (st at_ : Int) (rs : List UInt8) : (endS s i st at_ rs).2.pol = s.pol := by
  unfold endS
  split
  · exact recS_pol ..
  · exact recS_pol ..
theorem endAll_pol : ∀ (l : List Nat) (s : Sv) (st at_ : Int) (rs : List UInt8), (endAll s l st at_ rs).2.pol = s.pol
  | [], s, st, at_, rs => rfl
  | i :: l, s, st, at_, rs => by
    unfold endAll
    split
    · exact endS_pol ..
    · rw [endAll_pol l]; exact endS_pol ..
theorem decideS_pol (s : Sv) (g : Gl) (ok : Bool) : (decideS s g ok).2.pol = s.pol := by
  unfold decideS
  split
  · exact recS_pol ..
  · exact recS_pol ..
theorem decideS_l64 {s : Sv} (hl : s.l.length < 64) (g : Gl) (ok : Bool) : (decideS s g ok).2.l.length ≤ 64 := by
  by_cases h : (decideS s g ok).1 = 0
  · rw [(decideS_ok h).1, List.length_append, List.length_singleton]; omega
  · rw [(decideS_no h).l]; omega
theorem accepts_l {w0 : World} {bs bj : Nat} {gv ev : Value} {s : Sv} {ok : Bool} (hok : acceptsB s = ok) (hl : s.l.length ≤ 64) (hb : w0.heap[bs]? = some (svO bj gv ev s)) (hg : SlAt w0 gv 7 (s.l.map gC)) :
    Cl Tryz.prog 46 [Ptr bs] w0 (fun v w' => v = B ok ∧ St w0 NoneS [] w') := hok ▸ accepts_any hb hg (by omega)
section
variable {w0 : World} {bs bj bm : Nat} {s : Sv} {H : List (Nat × Obj)} {n : Nat}
theorem request_any (hG : Gb w0) (hW : SW bs bj bm s H) (hk : Svk s (n + 66)) (hI : Inv s) (hh : Has w0 H) (hn : NoG (InH H)) (c d at_ : Int) (rq : List UInt8) :
    Cl Tryz.prog 16 [Ptr bs, idV c d, I at_, S rq] w0 (fun v w' => v = .tuple ⟨[B (requestS s c d at_ rq).1, I (requestS s c d at_ rq).2.1]⟩ ∧ ∃ H', SW bs bj bm (requestS s c d at_ rq).2.2 H' ∧ St w0 (InH H) H' w') := by
  obtain ⟨gv, Hg, ev, He, Hj, hog, hoe, hJ, rfl⟩ := id hW
  have hSt := hh.st
  generalize InH _ = SS at hSt hn ⊢
  clear hh
  have hl := hk.l
  obtain ⟨ok, hok⟩ : ∃ ok, acceptsB s = ok := ⟨_, rfl⟩
  have hac := fun {w : World} {gv ev : Value} => accepts_l (w0 := w) (bs := bs) (bj := bj) (gv := gv) (ev := ev) hok hl
  unfold requestS
  rw [hok]
  have hclr := fun {w : World} (hG : Gb w) hh hn => clear_any (w0 := w) (n := n + 2) hG hW (hk.le (by omega)) hh hn at_
  have hkc : Svk (clearS s at_).2 (n + 2) := hk.endAll (by have := List.length_filter_le (fun i : Nat => decide ((i : Int) ≠ s.cur)) (openL s.l); have := openL_len s.l; omega) _ _ _
  have hIc := (hI.clearS at_).toInv0
  have hlc : (clearS s at_).2.l.length = s.l.length := endAll_len ..
  have hpc : (clearS s at_).2.pol = s.pol := endAll_pol ..
  have hdec0 := fun {w : World} (hG : Gb w) hh hn => decide_any (w0 := w) hG hW (hk.le (k := 1) (by omega)) hh hn ⟨c, d, 0, at_, 0, rq, []⟩ ok
  have hpd := decideS_pol s ⟨c, d, 0, at_, 0, rq, []⟩ ok
  have hld := fun h => decideS_l64 (s := s) h ⟨c, d, 0, at_, 0, rq, []⟩ ok
  generalize clearS s at_ = k1 at hclr hkc hIc hlc hpc ⊢
  generalize hr0 : decideS s ⟨c, d, 0, at_, 0, rq, []⟩ ok = r0 at hdec0 hpd hld
  obtain ⟨pol, lim, l, ends, cur, fb, stop, m, j⟩ := s
  obtain ⟨e1, s1⟩ := k1
  dsimp only at hog hoe hJ hSt hl hclr hkc hIc hlc hpc hpd hld ⊢
  by_cases hbd : ¬ ((1 ≤ c ∧ c ≤ 2147483647) ∧ (1 ≤ d ∧ d ≤ 2147483647) ∧ (0 ≤ at_ ∧ at_ ≤ 1099511627776))
  · rw [if_pos hbd]
    refine enter Tryz.func16 rfl Tryz.ntmps16 rfl ?_
    repeat' (first | (refine WL_box rfl rfl rfl hSt ?_; clear hSt; intro w nb hnb hSt; replace hSt := hSt.front; dsimp only [zcells] at hSt) | (refine WL_isCall (f := 26) ?_; refine WL_call (ok_call hT rfl) rfl rfl rfl (in_any _ _ _) ?_; rintro v w' ⟨rfl, hc2⟩; replace hSt := hSt.call0 hc2; clear hc2) | refine stepA ?_ | (refine stepS ?_; clear hSt; intro w hSt; dsimp only [spl, List.set] at hSt) | (refine stepB ?_; clear hSt; intro w nb hnb hSt; dsimp only [zcells, List.nil_append, List.cons_append] at hSt) | (refine stepG ?_ ?_ <;> intro hc <;> (try exact absA) <;> (fail_if_success (change true = true at hc)) <;> (fail_if_success (change false = false at hc))) | fail)
    all_goals first | exact ret2 rfl rfl rfl ⟨rfl, _, hW, hSt.right (Ha := [_])⟩ | (exfalso; omega)
  rw [if_neg hbd]
  by_cases hrl : 2000 < rq.length
  · rw [if_pos hrl]
    refine enter Tryz.func16 rfl Tryz.ntmps16 rfl ?_
    repeat' (first | (refine WL_box rfl rfl rfl hSt ?_; clear hSt; intro w nb hnb hSt; replace hSt := hSt.front; dsimp only [zcells] at hSt) | (refine WL_isCall (f := 26) ?_; refine WL_call (ok_call hT rfl) rfl rfl rfl (in_any _ _ _) ?_; rintro v w' ⟨rfl, hc2⟩; replace hSt := hSt.call0 hc2; clear hc2) | refine stepA ?_ | (refine stepS ?_; clear hSt; intro w hSt; dsimp only [spl, List.set] at hSt) | (refine stepB ?_; clear hSt; intro w nb hnb hSt; dsimp only [zcells, List.nil_append, List.cons_append] at hSt) | (refine stepG ?_ ?_ <;> intro hc <;> (try exact absA) <;> (fail_if_success (change true = true at hc)) <;> (fail_if_success (change false = false at hc))) | fail)
    all_goals first | exact ret2 rfl rfl rfl ⟨rfl, _, hW, hSt.right (Ha := [_])⟩ | (exfalso; omega)
  rw [if_neg hrl]
  rcases stop with _ | _
  · rw [if_neg (by simp)]
    rcases hf : findG l c d with _ | i
    · dsimp only
      by_cases hla : at_ < latF l
      · rw [if_pos hla]
        refine enter Tryz.func16 rfl Tryz.ntmps16 rfl ?_
        repeat' (first | (refine WL_box rfl rfl rfl hSt ?_; clear hSt; intro w nb hnb hSt; replace hSt := hSt.front; dsimp only [zcells] at hSt) | (refine WL_isCall (f := 26) ?_; refine WL_call (ok_call hT rfl) rfl rfl rfl (in_any _ _ _) ?_; rintro v w' ⟨rfl, hc2⟩; replace hSt := hSt.call0 hc2; clear hc2) | (refine WL_isCall (f := 30) ?_; refine WL_call (ok_call hT rfl) rfl rfl rfl (latest_l (s := ⟨_, _, l, _, _, _, _, _, _⟩) (l := l) rfl (hSt.own 1 _ _ rfl).1 (OwnSl.slAt gC_len hog (hSt.has.sublist (sub_g.trans (List.sublist_cons_self _ _)))) (by dsimp only; omega)) ?_; rintro v w2 ⟨rfl, hc2⟩; replace hSt := hSt.call0 hc2; clear hc2) | (refine WL_isCall (f := 44) ?_; refine WL_call (ok_call hT rfl) rfl rfl rfl (index_no (s := ⟨_, _, l, _, _, _, _, _, _⟩) (hSt.own 1 _ _ rfl).1 (OwnSl.slAt gC_len hog (hSt.has.sublist (sub_g.trans (List.sublist_cons_self _ _)))) (by dsimp only; omega) hf) ?_; rintro v w2 ⟨rfl, hc2⟩; replace hSt := hSt.call0 hc2; clear hc2) | refine stepA ?_ | (refine stepS ?_; clear hSt; intro w hSt; dsimp only [spl, List.set] at hSt) | (refine stepB ?_; clear hSt; intro w nb hnb hSt; dsimp only [zcells, List.nil_append, List.cons_append] at hSt) | (refine stepG ?_ ?_ <;> intro hc <;> (try exact absA) <;> (fail_if_success (change true = true at hc)) <;> (fail_if_success (change false = false at hc))) | fail)
        all_goals first | exact ret2 rfl rfl rfl ⟨rfl, _, hW, hSt.right (Ha := [_])⟩ | (exfalso; omega)
      rw [if_neg hla]
      by_cases h64 : 64 ≤ l.length
      · rw [if_pos h64]
        obtain ⟨ga, gcc, rfl⟩ := hog.len
        refine enter Tryz.func16 rfl Tryz.ntmps16 rfl ?_
        repeat' (first | (refine WL_box rfl rfl rfl hSt ?_; clear hSt; intro w nb hnb hSt; replace hSt := hSt.front; dsimp only [zcells] at hSt) | (refine WL_isCall (f := 26) ?_; refine WL_call (ok_call hT rfl) rfl rfl rfl (in_any _ _ _) ?_; rintro v w' ⟨rfl, hc2⟩; replace hSt := hSt.call0 hc2; clear hc2) | (refine WL_isCall (f := 30) ?_; refine WL_call (ok_call hT rfl) rfl rfl rfl (latest_l (s := ⟨_, _, l, _, _, _, _, _, _⟩) (l := l) rfl (hSt.own 1 _ _ rfl).1 (OwnSl.slAt gC_len hog (hSt.has.sublist (sub_g.trans (List.sublist_cons_self _ _)))) (by dsimp only; omega)) ?_; rintro v w2 ⟨rfl, hc2⟩; replace hSt := hSt.call0 hc2; clear hc2) | (refine WL_isCall (f := 44) ?_; refine WL_call (ok_call hT rfl) rfl rfl rfl (index_no (s := ⟨_, _, l, _, _, _, _, _, _⟩) (hSt.own 1 _ _ rfl).1 (OwnSl.slAt gC_len hog (hSt.has.sublist (sub_g.trans (List.sublist_cons_self _ _)))) (by dsimp only; omega) hf) ?_; rintro v w2 ⟨rfl, hc2⟩; replace hSt := hSt.call0 hc2; clear hc2) | refine stepA ?_ | (refine stepS ?_; clear hSt; intro w hSt; dsimp only [spl, List.set] at hSt) | (refine stepB ?_; clear hSt; intro w nb hnb hSt; dsimp only [zcells, List.nil_append, List.cons_append] at hSt) | (refine stepG ?_ ?_ <;> intro hc <;> (try exact absA) <;> (fail_if_success (change true = true at hc)) <;> (fail_if_success (change false = false at hc))) | fail)
        all_goals first | exact ret2 rfl rfl rfl ⟨rfl, _, hW, hSt.right (Ha := [_])⟩ | (exfalso; omega)
      rw [if_neg h64]
      obtain ⟨ga, gcc, rfl⟩ := hog.len
      by_cases hp : pol = 2
      · rw [if_pos hp]
        dsimp only
        clear hdec0 hpd hld hr0
        by_cases he1 : e1 = 0
        · subst he1
          rw [if_neg (by simp)]
          have hdec := fun {w : World} {H1 : List (Nat × Obj)} (hW1 : SW bs bj bm s1 H1) (hG : Gb w) hh hn => decide_any (w0 := w) hG hW1 (hkc.le (k := 1) (by omega)) hh hn ⟨c, d, 0, at_, 0, rq, []⟩ ok
          have hpd := decideS_pol s1 ⟨c, d, 0, at_, 0, rq, []⟩ ok
          have hId := hIc.decideS (by omega) ⟨c, d, 0, at_, 0, rq, []⟩ ok
          generalize decideS s1 ⟨c, d, 0, at_, 0, rq, []⟩ ok = r at hdec hpd hId ⊢
          obtain ⟨e, s3⟩ := r
          dsimp only at hdec hpd hId ⊢
          rw [hpc, hp] at hpd
          by_cases he : e = 0
          · subst he
            rw [if_neg (by simp)]
            have hl2 := hId.len
            have hc2 := hId.c2
            unfold preemptS
            by_cases hcu : 0 ≤ s3.cur
            · rw [if_pos ⟨hpd, hcu⟩]
              obtain ⟨hil, _⟩ := hc2 hcu
              clear hc2 hId
              obtain ⟨pol3, lim3, l3, ends3, cur3, fb3, stop3, m3, j3⟩ := s3
              dsimp only at hdec hpd hl2 hcu hil ⊢
              obtain ⟨ci, rfl⟩ : ∃ ci : Nat, cur3 = (ci : Int) := ⟨cur3.toNat, by omega⟩
              rw [Int.toNat_natCast] at hil ⊢
              have hx := gAt_some hil
              generalize gAt l3 ci = g3 at hx ⊢
              obtain ⟨c0, n0, s0, a0, e0, q0, y0⟩ := g3
              have hl3 : (l3.set ci ⟨c0, n0, 3, a0, e0, q0, y0⟩).length ≤ 64 := by rw [List.length_set]; exact hl2
              subst hpd
              refine enter Tryz.func16 rfl Tryz.ntmps16 rfl ?_
              repeat' (first | (refine WL_box rfl rfl rfl hSt ?_; clear hSt; intro w nb hnb hSt; replace hSt := hSt.front; dsimp only [zcells] at hSt) | (refine WL_isCall (f := 26) ?_; refine WL_call (ok_call hT rfl) rfl rfl rfl (in_any _ _ _) ?_; rintro v w' ⟨rfl, hc2⟩; replace hSt := hSt.call0 hc2; clear hc2) | (refine WL_isCall (f := 30) ?_; refine WL_call (ok_call hT rfl) rfl rfl rfl (latest_l (s := ⟨_, _, l, _, _, _, _, _, _⟩) (l := l) rfl (hSt.own 1 _ _ rfl).1 (OwnSl.slAt gC_len hog (hSt.has.sublist (sub_g.trans (List.sublist_cons_self _ _)))) (by dsimp only; omega)) ?_; rintro v w2 ⟨rfl, hc2⟩; replace hSt := hSt.call0 hc2; clear hc2) | (refine WL_isCall (f := 44) ?_; refine WL_call (ok_call hT rfl) rfl rfl rfl (index_no (s := ⟨_, _, l, _, _, _, _, _, _⟩) (hSt.own 1 _ _ rfl).1 (OwnSl.slAt gC_len hog (hSt.has.sublist (sub_g.trans (List.sublist_cons_self _ _)))) (by dsimp only; omega) hf) ?_; rintro v w2 ⟨rfl, hc2⟩; replace hSt := hSt.call0 hc2; clear hc2) | (refine WL_isCall (f := 46) ?_; refine WL_call (ok_call hT rfl) rfl rfl rfl (hac (hSt.own 1 _ _ rfl).1 (OwnSl.slAt gC_len hog (hSt.has.sublist (sub_g.trans (List.sublist_cons_self _ _))))) ?_; rintro v w2 ⟨rfl, hc2⟩; replace hSt := hSt.call0 hc2; clear hc2) | (refine WL_isCall (f := 47) ?_; refine WL_call (ok_call hT rfl) rfl rfl rfl (hclr (hG.later hSt hn) (St.hasE (Ha := [_]) hSt) (NoG.r (Ha := [_]) (hG.no hSt hn))) ?_; rintro v w2 ⟨rfl, H2, hW2, hc2⟩; replace hSt := St.callE (Ha := [_]) hSt hc2; clear hc2) | (refine WL_isCall (f := 48) ?_; refine WL_call (ok_call hT rfl) rfl rfl rfl (hdec hW2 (hG.later hSt hn) (St.hasE (Ha := [_]) hSt) (NoG.r (Ha := [_]) (hG.no hSt hn))) ?_; rintro v w2 ⟨rfl, H3, hW3, hc2⟩; replace hSt := St.callE (Ha := [_]) hSt hc2; clear hc2; obtain ⟨gv3, Hg3, ev3, He3, Hj3, hog3, hoe3, hJ3, rfl⟩ := hW3; dsimp only at hog3 hoe3 hJ3; obtain ⟨gb, gc, rs1, rfl, hgc, hrs, rfl⟩ := hog3.some_ (by omega); dsimp only [List.cons_append, List.nil_append] at hSt) | (refine W_tail 8 hT (by decide +kernel) hSt ?_; clear hSt; intro w hSt; simp only [List.take_succ_cons, List.take_zero]; (repeat' (first | (apply SL_ev rfl rfl; (first | (exact Ev_load1 hT rfl rfl (hSt.at 1 rfl) (show _ = some (I (ci : Int)) from rfl)) | exact Ev_auto)) | refine SL_pass rfl rfl ?_ | (refine SL_guardP rfl rfl (fun hc => ?_) (fun hc => ?_) <;> try exact absA) | (refine SL_guard rfl rfl (fun hc => ?_) (fun hc => ?_) <;> (try exact absA) <;> (fail_if_success (change true = true at hc)) <;> (fail_if_success (change false = false at hc))))); all_goals (refine SL_nil ?_; simp only [List.drop_succ_cons, List.drop_zero])) | (apply WL_ev rfl rfl; exact Ev_load1 hT rfl rfl (hSt.at 1 rfl) (show _ = some (I (ci : Int)) from rfl)) | (refine WL_store1 hT rfl rfl 2 rfl rfl hSt rfl rfl (cell_lt hil (j := 2) (by decide) rs1) ?_; clear hSt; intro w hSt; dsimp only [List.cons_append, List.nil_append, List.set] at hSt; replace hSt := St.row3 (cell_put (y := ⟨c0, n0, 3, a0, e0, q0, y0⟩) hx (j := 2) (by decide) rfl rs1) hSt) | (refine WL_isCall (f := 49) ?_; refine WL_call (ok_call hT rfl) rfl rfl rfl (next_any (s := ⟨_, lim3, l3.set ci ⟨c0, n0, 3, a0, e0, q0, y0⟩, ends3, (ci : Int), fb3, stop3, m3, j3⟩) ⟨_, _, _, _, _, own_set hgc hrs, hoe3, hJ3, rfl⟩ hl3 (St.hasE (Ha := [_]) hSt)) ?_; rintro v w2 ⟨rfl, H4, hW4, hc2⟩; replace hSt := St.callE (Ha := [_]) hSt hc2; clear hc2) | refine stepA ?_ | (refine stepS ?_; clear hSt; intro w hSt; dsimp only [spl, List.set] at hSt) | (refine stepB ?_; clear hSt; intro w nb hnb hSt; dsimp only [zcells, List.nil_append, List.cons_append] at hSt) | (refine stepG ?_ ?_ <;> intro hc <;> (try exact absA) <;> (fail_if_success (change true = true at hc)) <;> (fail_if_success (change false = false at hc))) | fail)
              all_goals first | exact ret2 rfl rfl rfl ⟨rfl, _, hW4, hSt.right (Ha := [_])⟩ | (exfalso; omega)
            · rw [if_neg (fun h => hcu h.2)]
              refine enter Tryz.func16 rfl Tryz.ntmps16 rfl ?_
              repeat' (first | (refine WL_box rfl rfl rfl hSt ?_; clear hSt; intro w nb hnb hSt; replace hSt := hSt.front; dsimp only [zcells] at hSt) | (refine WL_isCall (f := 26) ?_; refine WL_call (ok_call hT rfl) rfl rfl rfl (in_any _ _ _) ?_; rintro v w' ⟨rfl, hc2⟩; replace hSt := hSt.call0 hc2; clear hc2) | (refine WL_isCall (f := 30) ?_; refine WL_call (ok_call hT rfl) rfl rfl rfl (latest_l (s := ⟨_, _, l, _, _, _, _, _, _⟩) (l := l) rfl (hSt.own 1 _ _ rfl).1 (OwnSl.slAt gC_len hog (hSt.has.sublist (sub_g.trans (List.sublist_cons_self _ _)))) (by dsimp only; omega)) ?_; rintro v w2 ⟨rfl, hc2⟩; replace hSt := hSt.call0 hc2; clear hc2) | (refine WL_isCall (f := 44) ?_; refine WL_call (ok_call hT rfl) rfl rfl rfl (index_no (s := ⟨_, _, l, _, _, _, _, _, _⟩) (hSt.own 1 _ _ rfl).1 (OwnSl.slAt gC_len hog (hSt.has.sublist (sub_g.trans (List.sublist_cons_self _ _)))) (by dsimp only; omega) hf) ?_; rintro v w2 ⟨rfl, hc2⟩; replace hSt := hSt.call0 hc2; clear hc2) | (refine WL_isCall (f := 46) ?_; refine WL_call (ok_call hT rfl) rfl rfl rfl (hac (hSt.own 1 _ _ rfl).1 (OwnSl.slAt gC_len hog (hSt.has.sublist (sub_g.trans (List.sublist_cons_self _ _))))) ?_; rintro v w2 ⟨rfl, hc2⟩; replace hSt := hSt.call0 hc2; clear hc2) | (refine WL_isCall (f := 47) ?_; refine WL_call (ok_call hT rfl) rfl rfl rfl (hclr (hG.later hSt hn) (St.hasE (Ha := [_]) hSt) (NoG.r (Ha := [_]) (hG.no hSt hn))) ?_; rintro v w2 ⟨rfl, H2, hW2, hc2⟩; replace hSt := St.callE (Ha := [_]) hSt hc2; clear hc2) | (refine WL_isCall (f := 48) ?_; refine WL_call (ok_call hT rfl) rfl rfl rfl (hdec hW2 (hG.later hSt hn) (St.hasE (Ha := [_]) hSt) (NoG.r (Ha := [_]) (hG.no hSt hn))) ?_; rintro v w2 ⟨rfl, H3, hW3, hc2⟩; replace hSt := St.callE (Ha := [_]) hSt hc2; clear hc2; obtain ⟨gv3, Hg3, ev3, He3, Hj3, hog3, hoe3, hJ3, rfl⟩ := id hW3) | (refine WL_isCall (f := 49) ?_; refine WL_call (ok_call hT rfl) rfl rfl rfl (next_any hW3 hl2 (St.hasE (Ha := [_]) hSt)) ?_; rintro v w2 ⟨rfl, H4, hW4, hc2⟩; replace hSt := St.callE (Ha := [_]) hSt hc2; clear hc2) | refine stepA ?_ | (refine stepS ?_; clear hSt; intro w hSt; dsimp only [spl, List.set] at hSt) | (refine stepB ?_; clear hSt; intro w nb hnb hSt; dsimp only [zcells, List.nil_append, List.cons_append] at hSt) | (refine stepG ?_ ?_ <;> intro hc <;> (try exact absA) <;> (fail_if_success (change true = true at hc)) <;> (fail_if_success (change false = false at hc))) | fail)
              all_goals first | exact ret2 rfl rfl rfl ⟨rfl, _, hW4, hSt.right (Ha := [_])⟩ | (exfalso; omega)
          · rw [if_pos he]
            refine enter Tryz.func16 rfl Tryz.ntmps16 rfl ?_
            repeat' (first | (refine WL_box rfl rfl rfl hSt ?_; clear hSt; intro w nb hnb hSt; replace hSt := hSt.front; dsimp only [zcells] at hSt) | (refine WL_isCall (f := 26) ?_; refine WL_call (ok_call hT rfl) rfl rfl rfl (in_any _ _ _) ?_; rintro v w' ⟨rfl, hc2⟩; replace hSt := hSt.call0 hc2; clear hc2) | (refine WL_isCall (f := 30) ?_; refine WL_call (ok_call hT rfl) rfl rfl rfl (latest_l (s := ⟨_, _, l, _, _, _, _, _, _⟩) (l := l) rfl (hSt.own 1 _ _ rfl).1 (OwnSl.slAt gC_len hog (hSt.has.sublist (sub_g.trans (List.sublist_cons_self _ _)))) (by dsimp only; omega)) ?_; rintro v w2 ⟨rfl, hc2⟩; replace hSt := hSt.call0 hc2; clear hc2) | (refine WL_isCall (f := 44) ?_; refine WL_call (ok_call hT rfl) rfl rfl rfl (index_no (s := ⟨_, _, l, _, _, _, _, _, _⟩) (hSt.own 1 _ _ rfl).1 (OwnSl.slAt gC_len hog (hSt.has.sublist (sub_g.trans (List.sublist_cons_self _ _)))) (by dsimp only; omega) hf) ?_; rintro v w2 ⟨rfl, hc2⟩; replace hSt := hSt.call0 hc2; clear hc2) | (refine WL_isCall (f := 46) ?_; refine WL_call (ok_call hT rfl) rfl rfl rfl (hac (hSt.own 1 _ _ rfl).1 (OwnSl.slAt gC_len hog (hSt.has.sublist (sub_g.trans (List.sublist_cons_self _ _))))) ?_; rintro v w2 ⟨rfl, hc2⟩; replace hSt := hSt.call0 hc2; clear hc2) | (refine WL_isCall (f := 47) ?_; refine WL_call (ok_call hT rfl) rfl rfl rfl (hclr (hG.later hSt hn) (St.hasE (Ha := [_]) hSt) (NoG.r (Ha := [_]) (hG.no hSt hn))) ?_; rintro v w2 ⟨rfl, H2, hW2, hc2⟩; replace hSt := St.callE (Ha := [_]) hSt hc2; clear hc2) | (refine WL_isCall (f := 48) ?_; refine WL_call (ok_call hT rfl) rfl rfl rfl (hdec hW2 (hG.later hSt hn) (St.hasE (Ha := [_]) hSt) (NoG.r (Ha := [_]) (hG.no hSt hn))) ?_; rintro v w2 ⟨rfl, H3, hW3, hc2⟩; replace hSt := St.callE (Ha := [_]) hSt hc2; clear hc2; obtain ⟨gv3, Hg3, ev3, He3, Hj3, hog3, hoe3, hJ3, rfl⟩ := id hW3) | refine stepA ?_ | (refine stepS ?_; clear hSt; intro w hSt; dsimp only [spl, List.set] at hSt) | (refine stepB ?_; clear hSt; intro w nb hnb hSt; dsimp only [zcells, List.nil_append, List.cons_append] at hSt) | (refine stepG ?_ ?_ <;> intro hc <;> (try exact absA) <;> (fail_if_success (change true = true at hc)) <;> (fail_if_success (change false = false at hc))) | fail)
            all_goals first | exact ret2 rfl rfl rfl ⟨rfl, _, hW3, hSt.right (Ha := [_])⟩ | (exfalso; omega)
        · rw [if_pos he1]
          refine enter Tryz.func16 rfl Tryz.ntmps16 rfl ?_
          repeat' (first | (refine WL_box rfl rfl rfl hSt ?_; clear hSt; intro w nb hnb hSt; replace hSt := hSt.front; dsimp only [zcells] at hSt) | (refine WL_isCall (f := 26) ?_; refine WL_call (ok_call hT rfl) rfl rfl rfl (in_any _ _ _) ?_; rintro v w' ⟨rfl, hc2⟩; replace hSt := hSt.call0 hc2; clear hc2) | (refine WL_isCall (f := 30) ?_; refine WL_call (ok_call hT rfl) rfl rfl rfl (latest_l (s := ⟨_, _, l, _, _, _, _, _, _⟩) (l := l) rfl (hSt.own 1 _ _ rfl).1 (OwnSl.slAt gC_len hog (hSt.has.sublist (sub_g.trans (List.sublist_cons_self _ _)))) (by dsimp only; omega)) ?_; rintro v w2 ⟨rfl, hc2⟩; replace hSt := hSt.call0 hc2; clear hc2) | (refine WL_isCall (f := 44) ?_; refine WL_call (ok_call hT rfl) rfl rfl rfl (index_no (s := ⟨_, _, l, _, _, _, _, _, _⟩) (hSt.own 1 _ _ rfl).1 (OwnSl.slAt gC_len hog (hSt.has.sublist (sub_g.trans (List.sublist_cons_self _ _)))) (by dsimp only; omega) hf) ?_; rintro v w2 ⟨rfl, hc2⟩; replace hSt := hSt.call0 hc2; clear hc2) | (refine WL_isCall (f := 46) ?_; refine WL_call (ok_call hT rfl) rfl rfl rfl (hac (hSt.own 1 _ _ rfl).1 (OwnSl.slAt gC_len hog (hSt.has.sublist (sub_g.trans (List.sublist_cons_self _ _))))) ?_; rintro v w2 ⟨rfl, hc2⟩; replace hSt := hSt.call0 hc2; clear hc2) | (refine WL_isCall (f := 47) ?_; refine WL_call (ok_call hT rfl) rfl rfl rfl (hclr (hG.later hSt hn) (St.hasE (Ha := [_]) hSt) (NoG.r (Ha := [_]) (hG.no hSt hn))) ?_; rintro v w2 ⟨rfl, H2, hW2, hc2⟩; replace hSt := St.callE (Ha := [_]) hSt hc2; clear hc2) | refine stepA ?_ | (refine stepS ?_; clear hSt; intro w hSt; dsimp only [spl, List.set] at hSt) | (refine stepB ?_; clear hSt; intro w nb hnb hSt; dsimp only [zcells, List.nil_append, List.cons_append] at hSt) | (refine stepG ?_ ?_ <;> intro hc <;> (try exact absA) <;> (fail_if_success (change true = true at hc)) <;> (fail_if_success (change false = false at hc))) | fail)
          all_goals first | exact ret2 rfl rfl rfl ⟨rfl, _, hW2, hSt.right (Ha := [_])⟩ | (exfalso; omega)
      · rw [if_neg hp]
        dsimp only
        rw [if_neg (by simp)]
        rw [hr0]
        have hl2 := hld (by omega)
        clear hclr hkc hIc hlc hpc hld hr0
        obtain ⟨e, s3⟩ := r0
        dsimp only at hdec0 hpd hl2 ⊢
        have hp3 : ¬ s3.pol = 2 := by rw [hpd]; exact hp
        have hdec := fun {w : World} (hG : Gb w) hh hn => hdec0 (w := w) hG hh hn
        by_cases he : e = 0
        · subst he
          rw [if_neg (by simp)]
          unfold preemptS
          rw [if_neg (fun h => hp3 h.1)]
          refine enter Tryz.func16 rfl Tryz.ntmps16 rfl ?_
          repeat' (first | (refine WL_box rfl rfl rfl hSt ?_; clear hSt; intro w nb hnb hSt; replace hSt := hSt.front; dsimp only [zcells] at hSt) | (refine WL_isCall (f := 26) ?_; refine WL_call (ok_call hT rfl) rfl rfl rfl (in_any _ _ _) ?_; rintro v w' ⟨rfl, hc2⟩; replace hSt := hSt.call0 hc2; clear hc2) | (refine WL_isCall (f := 30) ?_; refine WL_call (ok_call hT rfl) rfl rfl rfl (latest_l (s := ⟨_, _, l, _, _, _, _, _, _⟩) (l := l) rfl (hSt.own 1 _ _ rfl).1 (OwnSl.slAt gC_len hog (hSt.has.sublist (sub_g.trans (List.sublist_cons_self _ _)))) (by dsimp only; omega)) ?_; rintro v w2 ⟨rfl, hc2⟩; replace hSt := hSt.call0 hc2; clear hc2) | (refine WL_isCall (f := 44) ?_; refine WL_call (ok_call hT rfl) rfl rfl rfl (index_no (s := ⟨_, _, l, _, _, _, _, _, _⟩) (hSt.own 1 _ _ rfl).1 (OwnSl.slAt gC_len hog (hSt.has.sublist (sub_g.trans (List.sublist_cons_self _ _)))) (by dsimp only; omega) hf) ?_; rintro v w2 ⟨rfl, hc2⟩; replace hSt := hSt.call0 hc2; clear hc2) | (refine WL_isCall (f := 46) ?_; refine WL_call (ok_call hT rfl) rfl rfl rfl (hac (hSt.own 1 _ _ rfl).1 (OwnSl.slAt gC_len hog (hSt.has.sublist (sub_g.trans (List.sublist_cons_self _ _))))) ?_; rintro v w2 ⟨rfl, hc2⟩; replace hSt := hSt.call0 hc2; clear hc2) | (refine WL_isCall (f := 48) ?_; refine WL_call (ok_call hT rfl) rfl rfl rfl (hdec (hG.later hSt hn) (St.hasE (Ha := [_]) hSt) (NoG.r (Ha := [_]) (hG.no hSt hn))) ?_; rintro v w2 ⟨rfl, H2, hW2, hc2⟩; replace hSt := St.callE (Ha := [_]) hSt hc2; clear hc2; obtain ⟨gv3, Hg3, ev3, He3, Hj3, hog3, hoe3, hJ3, rfl⟩ := id hW2) | (refine WL_isCall (f := 49) ?_; refine WL_call (ok_call hT rfl) rfl rfl rfl (next_any hW2 hl2 (St.hasE (Ha := [_]) hSt)) ?_; rintro v w2 ⟨rfl, H3, hW3, hc2⟩; replace hSt := St.callE (Ha := [_]) hSt hc2; clear hc2) | refine stepA ?_ | (refine stepS ?_; clear hSt; intro w hSt; dsimp only [spl, List.set] at hSt) | (refine stepB ?_; clear hSt; intro w nb hnb hSt; dsimp only [zcells, List.nil_append, List.cons_append] at hSt) | (refine stepG ?_ ?_ <;> intro hc <;> (try exact absA) <;> (fail_if_success (change true = true at hc)) <;> (fail_if_success (change false = false at hc))) | fail)
          all_goals first | exact ret2 rfl rfl rfl ⟨rfl, _, hW3, hSt.right (Ha := [_])⟩ | (exfalso; omega)
        · rw [if_pos he]
          refine enter Tryz.func16 rfl Tryz.ntmps16 rfl ?_
          repeat' (first | (refine WL_box rfl rfl rfl hSt ?_; clear hSt; intro w nb hnb hSt; replace hSt := hSt.front; dsimp only [zcells] at hSt) | (refine WL_isCall (f := 26) ?_; refine WL_call (ok_call hT rfl) rfl rfl rfl (in_any _ _ _) ?_; rintro v w' ⟨rfl, hc2⟩; replace hSt := hSt.call0 hc2; clear hc2) | (refine WL_isCall (f := 30) ?_; refine WL_call (ok_call hT rfl) rfl rfl rfl (latest_l (s := ⟨_, _, l, _, _, _, _, _, _⟩) (l := l) rfl (hSt.own 1 _ _ rfl).1 (OwnSl.slAt gC_len hog (hSt.has.sublist (sub_g.trans (List.sublist_cons_self _ _)))) (by dsimp only; omega)) ?_; rintro v w2 ⟨rfl, hc2⟩; replace hSt := hSt.call0 hc2; clear hc2) | (refine WL_isCall (f := 44) ?_; refine WL_call (ok_call hT rfl) rfl rfl rfl (index_no (s := ⟨_, _, l, _, _, _, _, _, _⟩) (hSt.own 1 _ _ rfl).1 (OwnSl.slAt gC_len hog (hSt.has.sublist (sub_g.trans (List.sublist_cons_self _ _)))) (by dsimp only; omega) hf) ?_; rintro v w2 ⟨rfl, hc2⟩; replace hSt := hSt.call0 hc2; clear hc2) | (refine WL_isCall (f := 46) ?_; refine WL_call (ok_call hT rfl) rfl rfl rfl (hac (hSt.own 1 _ _ rfl).1 (OwnSl.slAt gC_len hog (hSt.has.sublist (sub_g.trans (List.sublist_cons_self _ _))))) ?_; rintro v w2 ⟨rfl, hc2⟩; replace hSt := hSt.call0 hc2; clear hc2) | (refine WL_isCall (f := 48) ?_; refine WL_call (ok_call hT rfl) rfl rfl rfl (hdec (hG.later hSt hn) (St.hasE (Ha := [_]) hSt) (NoG.r (Ha := [_]) (hG.no hSt hn))) ?_; rintro v w2 ⟨rfl, H2, hW2, hc2⟩; replace hSt := St.callE (Ha := [_]) hSt hc2; clear hc2; obtain ⟨gv3, Hg3, ev3, He3, Hj3, hog3, hoe3, hJ3, rfl⟩ := id hW2) | refine stepA ?_ | (refine stepS ?_; clear hSt; intro w hSt; dsimp only [spl, List.set] at hSt) | (refine stepB ?_; clear hSt; intro w nb hnb hSt; dsimp only [zcells, List.nil_append, List.cons_append] at hSt) | (refine stepG ?_ ?_ <;> intro hc <;> (try exact absA) <;> (fail_if_success (change true = true at hc)) <;> (fail_if_success (change false = false at hc))) | fail)
          all_goals first | exact ret2 rfl rfl rfl ⟨rfl, _, hW2, hSt.right (Ha := [_])⟩ | (exfalso; omega)
    · dsimp only
      have hil := findG_lt hf
      have hx := gAt_some hil
      obtain ⟨gb, gc, rs1, rfl, hgc, hrs, rfl⟩ := hog.some_ (by omega)
      dsimp only [List.cons_append, List.nil_append] at hSt
      generalize gAt l i = g0 at hx ⊢
      obtain ⟨c0, n0, s0, a0, e0, q0, y0⟩ := g0
      dsimp only
      refine enter Tryz.func16 rfl Tryz.ntmps16 rfl ?_
      repeat' (first | (refine WL_box rfl rfl rfl hSt ?_; clear hSt; intro w nb hnb hSt; replace hSt := hSt.front; dsimp only [zcells] at hSt) | (refine WL_isCall (f := 26) ?_; refine WL_call (ok_call hT rfl) rfl rfl rfl (in_any _ _ _) ?_; rintro v w' ⟨rfl, hc2⟩; replace hSt := hSt.call0 hc2; clear hc2) | (refine WL_isCall (f := 44) ?_; refine WL_call (ok_call hT rfl) rfl rfl rfl (index_yes (s := ⟨_, _, l, _, _, _, _, _, _⟩) (hSt.own 1 _ _ rfl).1 (OwnSl.slAt gC_len hog (hSt.has.sublist ((List.sublist_append_left [_] _).trans ((List.sublist_cons_self _ _).trans (List.sublist_cons_self _ _))))) (by dsimp only; omega) hf) ?_; rintro v w2 ⟨rfl, hc2⟩; replace hSt := hSt.call0 hc2; clear hc2) | (apply WL_ev rfl rfl; exact Ev_load1 hT rfl rfl (hSt.at 2 rfl) (cell_get (c := I s0) hx (j := 2) rfl rs1)) | refine stepA ?_ | (refine stepS ?_; clear hSt; intro w hSt; dsimp only [spl, List.set] at hSt) | (refine stepB ?_; clear hSt; intro w nb hnb hSt; dsimp only [zcells, List.nil_append, List.cons_append] at hSt) | (refine stepG ?_ ?_ <;> intro hc <;> (try exact absA) <;> (fail_if_success (change true = true at hc)) <;> (fail_if_success (change false = false at hc))) | fail)
      all_goals first | exact ret2 rfl rfl rfl ⟨rfl, _, hW, hSt.right (Ha := [_])⟩ | (exfalso; omega)
  · rw [if_pos rfl]
    refine enter Tryz.func16 rfl Tryz.ntmps16 rfl ?_
    repeat' (first | (refine WL_box rfl rfl rfl hSt ?_; clear hSt; intro w nb hnb hSt; replace hSt := hSt.front; dsimp only [zcells] at hSt) | (refine WL_isCall (f := 26) ?_; refine WL_call (ok_call hT rfl) rfl rfl rfl (in_any _ _ _) ?_; rintro v w' ⟨rfl, hc2⟩; replace hSt := hSt.call0 hc2; clear hc2) | refine stepA ?_ | (refine stepS ?_; clear hSt; intro w hSt; dsimp only [spl, List.set] at hSt) | (refine stepB ?_; clear hSt; intro w nb hnb hSt; dsimp only [zcells, List.nil_append, List.cons_append] at hSt) | (refine stepG ?_ ?_ <;> intro hc <;> (try exact absA) <;> (fail_if_success (change true = true at hc)) <;> (fail_if_success (change false = false at hc))) | fail)
    all_goals first | exact ret2 rfl rfl rfl ⟨rfl, _, hW, hSt.right (Ha := [_])⟩ | (exfalso; omega)
end
end Go.Proofs.YthkimkgphaiagaaGreatDoor
