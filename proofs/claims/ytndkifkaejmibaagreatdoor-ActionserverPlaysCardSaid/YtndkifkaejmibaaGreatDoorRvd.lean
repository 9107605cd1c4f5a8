/- The specification's server in memory: what is asked; a record is read. No conditions. -/
import Derived.Test.YtndkifkaejmibaaGreatDoorRvc
import Derived.Test.YtndkifkaejmibaaGreatDoorGoe

namespace Go.Proofs.YtndkifkaejmibaaGreatDoor
open Go.RowKit
set_option maxRecDepth 4000
set_option linter.unusedVariables false
set_option linter.unusedSimpArgs false
set_option maxHeartbeats 8000000

theorem rdecode_at {w0 : World} {s : List UInt8} {c n st a e : Int} {q x : List UInt8} {er : Int} (hd : decG s = (⟨c, n, st, a, e, q, x⟩, er)) : Cl Tryz.prog 97 [S s] w0 (fun v w' => v = .tuple ⟨[goV c n st a e q x, I er]⟩ ∧ St w0 NoneS [] w') := by
  refine (rdecode_any s).mono ?_
  rintro v w' ⟨c', n', st', a', e', q', x', er', h1, rfl, h2⟩
  rw [hd] at h1
  injection h1 with h1 h3
  injection h1 with g1 g2 g3 g4 g5 g6 g7
  subst g1 g2 g3 g4 g5 g6 g7 h3
  exact ⟨rfl, h2⟩
section
variable {w0 : World} {br bw bv : Nat} {s : Sv} {H : List (Nat × Obj)} {n : Nat}
theorem rCurrent_any (hW : RW br bw bv s H) (hI : Inv0 s) (hh : Has w0 H) :
    Cl Tryz.prog 56 [Ptr br] w0 (fun v w' => v = .tuple ⟨[.agg ⟨gC (curS s).1⟩, B (curS s).2]⟩ ∧ St w0 NoneS [] w') := by
  obtain ⟨gv, Hg, ev, He, Hj, hog, hoe, hJ, rfl⟩ := id hW
  have hb := hh.own 0 _ _ rfl
  have hSt := St.refl w0 NoneS
  have hg := OwnSl.slAt gC_len hog (hh.sublist sub_g)
  have hcc := hI.c2
  have hcu0 := hI.cu
  have hl := hI.len
  clear hI
  obtain ⟨pol, lim, l, ends, cur, fb, stop, m, j⟩ := s
  dsimp only at hog hoe hJ hb hcc hg hcu0 hl ⊢
  unfold curS; dsimp only
  by_cases hcu : cur < 0
  · rw [if_pos hcu]
    refine enter Tryz.func56 rfl Tryz.ntmps56 rfl ?_
    repeat' (first | (refine WL_alloc hT rfl rfl rfl hSt ?_; clear hSt; intro w nb hnb hSt; replace hSt := hSt.front; dsimp only [zcells] at hSt) | (refine WL_isCall (f := 77) ?_; refine WL_call (ok_call hT rfl) rfl rfl rfl (rcur_l (s := ⟨_, _, l, _, _, _, _, _, _⟩) (l := l) rfl hcu0 (hSt.base hb (fun e => e)) (hg.later hSt (fun _ e => e)) (by dsimp only; omega)) ?_; rintro v w2 ⟨rfl, hc2⟩; replace hSt := hSt.call0 hc2; clear hc2) | refine stepA ?_ | (refine stepS ?_; clear hSt; intro w hSt; dsimp only [spl, List.set] at hSt) | (refine stepB ?_; clear hSt; intro w nb hnb hSt; dsimp only [zcells, List.nil_append, List.cons_append] at hSt) | (refine W_quiet hT (by decide +kernel) hSt ?_; clear hSt; (repeat' (first | (apply QL_ev rfl rfl; (intro w hSt; (first | exact Ev_auto))) | refine QL_pass rfl rfl ?_ | (refine QL_guardP rfl rfl (fun hc => ?_) (fun hc => ?_) <;> try exact absA) | (refine QL_guard rfl rfl (fun hc => ?_) (fun hc => ?_) <;> (try exact absA) <;> (fail_if_success (change true = true at hc)) <;> (fail_if_success (change false = false at hc))))); all_goals (refine QL_nil (fun w hSt => ?_))) | (refine stepG ?_ ?_ <;> intro hc <;> (try exact absA) <;> (fail_if_success (change true = true at hc)) <;> (fail_if_success (change false = false at hc))) | fail)
    all_goals first | exact end_of (resc2 rfl hT rfl rfl rfl (hSt.at 0 rfl) rfl rfl) ⟨rfl, hSt.nil⟩ | (exfalso; omega)
  rw [if_neg hcu]
  obtain ⟨hil, hst⟩ := hcc (by omega)
  obtain ⟨ci, rfl⟩ : ∃ ci : Nat, cur = (ci : Int) := ⟨cur.toNat, by omega⟩
  rw [Int.toNat_natCast] at hil ⊢
  have hx := gAt_some hil
  obtain ⟨gb, gc, rs1, rfl, hgc, hrs, rfl⟩ := hog.some_ (by omega)
  have hbg := hh.own 1 _ _ rfl
  have hcs := cell_take hx rs1
  generalize gAt l ci = g0 at hx hcs ⊢
  obtain ⟨c0, n0, s0, a0, e0, q0, y0⟩ := g0
  dsimp only
  refine enter Tryz.func56 rfl Tryz.ntmps56 rfl ?_
  repeat' (first | (refine WL_alloc hT rfl rfl rfl hSt ?_; clear hSt; intro w nb hnb hSt; replace hSt := hSt.front; dsimp only [zcells] at hSt) | (refine WL_isCall (f := 77) ?_; refine WL_call (ok_call hT rfl) rfl rfl rfl (rcur_l (s := ⟨_, _, l, _, _, _, _, _, _⟩) (l := l) rfl hcu0 (hSt.base hb (fun e => e)) (hg.later hSt (fun _ e => e)) (by dsimp only; omega)) ?_; rintro v w2 ⟨rfl, hc2⟩; replace hSt := hSt.call0 hc2; clear hc2) | (apply WL_ev rfl rfl; exact Ev_load1 hT rfl rfl (hSt.base hb (fun e => e)) rfl) | (apply WL_ev rfl rfl; exact Ev_loadN hT rfl rfl (hSt.base hbg (fun e => e)) hcs rfl) | refine stepA ?_ | (refine stepS ?_; clear hSt; intro w hSt; dsimp only [spl, List.set] at hSt) | (refine stepB ?_; clear hSt; intro w nb hnb hSt; dsimp only [zcells, List.nil_append, List.cons_append] at hSt) | (refine W_quiet hT (by decide +kernel) hSt ?_; clear hSt; (repeat' (first | (apply QL_ev rfl rfl; (intro w hSt; (first | (exact Ev_load1 hT rfl rfl (hSt.base hb (fun e => e)) rfl) | (exact Ev_loadN hT rfl rfl (hSt.base hbg (fun e => e)) hcs rfl) | exact Ev_auto))) | refine QL_pass rfl rfl ?_ | (refine QL_guardP rfl rfl (fun hc => ?_) (fun hc => ?_) <;> try exact absA) | (refine QL_guard rfl rfl (fun hc => ?_) (fun hc => ?_) <;> (try exact absA) <;> (fail_if_success (change true = true at hc)) <;> (fail_if_success (change false = false at hc))))); all_goals (refine QL_nil (fun w hSt => ?_))) | (refine stepG ?_ ?_ <;> intro hc <;> (try exact absA) <;> (fail_if_success (change true = true at hc)) <;> (fail_if_success (change false = false at hc))) | fail)
  all_goals first | exact end_of (resc2 rfl hT rfl rfl rfl (hSt.at 0 rfl) rfl rfl) ⟨rfl, hSt.nil⟩ | (exfalso; omega)
theorem rGoal_any (hW : RW br bw bv s H) (hl : s.l.length ≤ 64) (hh : Has w0 H) (c d : Int) :
    Cl Tryz.prog 57 [Ptr br, idV c d] w0 (fun v w' => v = .tuple ⟨[.agg ⟨gC (goalS s c d).1⟩, B (goalS s c d).2]⟩ ∧ St w0 NoneS [] w') := by
  obtain ⟨gv, Hg, ev, He, Hj, hog, hoe, hJ, rfl⟩ := id hW
  have hb := hh.own 0 _ _ rfl
  have hSt := St.refl w0 NoneS
  have hg := OwnSl.slAt gC_len hog (hh.sublist sub_g)
  obtain ⟨pol, lim, l, ends, cur, fb, stop, m, j⟩ := s
  dsimp only at hog hoe hJ hb hl hg ⊢
  unfold goalS; dsimp only
  rcases hf : findG l c d with _ | i
  · refine enter Tryz.func57 rfl Tryz.ntmps57 rfl ?_
    repeat' (first | (refine WL_box rfl rfl rfl hSt ?_; clear hSt; intro w nb hnb hSt; replace hSt := hSt.front; dsimp only [zcells] at hSt) | (refine WL_alloc hT rfl rfl rfl hSt ?_; clear hSt; intro w nb hnb hSt; replace hSt := hSt.front; dsimp only [zcells] at hSt) | (refine WL_isCall (f := 76) ?_; refine WL_call (ok_call hT rfl) rfl rfl rfl (rfind_no (s := ⟨_, _, l, _, _, _, _, _, _⟩) (hSt.base hb (fun e => e)) (hg.later hSt (fun _ e => e)) (by dsimp only; omega) hf) ?_; rintro v w2 ⟨rfl, hc2⟩; replace hSt := hSt.call0 hc2; clear hc2) | refine stepA ?_ | (refine stepS ?_; clear hSt; intro w hSt; dsimp only [spl, List.set] at hSt) | (refine stepB ?_; clear hSt; intro w nb hnb hSt; dsimp only [zcells, List.nil_append, List.cons_append] at hSt) | (refine W_quiet hT (by decide +kernel) hSt ?_; clear hSt; (repeat' (first | (apply QL_ev rfl rfl; (intro w hSt; (first | exact Ev_auto))) | refine QL_pass rfl rfl ?_ | (refine QL_guardP rfl rfl (fun hc => ?_) (fun hc => ?_) <;> try exact absA) | (refine QL_guard rfl rfl (fun hc => ?_) (fun hc => ?_) <;> (try exact absA) <;> (fail_if_success (change true = true at hc)) <;> (fail_if_success (change false = false at hc))))); all_goals (refine QL_nil (fun w hSt => ?_))) | (refine stepG ?_ ?_ <;> intro hc <;> (try exact absA) <;> (fail_if_success (change true = true at hc)) <;> (fail_if_success (change false = false at hc))) | fail)
    all_goals first | exact end_of (resc2 rfl hT rfl rfl rfl (hSt.at 0 rfl) rfl rfl) ⟨rfl, hSt.nil⟩ | (exfalso; omega)
  · try dsimp only
    have hil := findG_lt hf
    have hx := gAt_some hil
    obtain ⟨gb, gc, rs1, rfl, hgc, hrs, rfl⟩ := hog.some_ (by omega)
    have hbg := hh.own 1 _ _ rfl
    have hcs := cell_take hx rs1
    generalize gAt l i = g0 at hx hcs ⊢
    obtain ⟨c0, n0, s0, a0, e0, q0, y0⟩ := g0
    try dsimp only
    refine enter Tryz.func57 rfl Tryz.ntmps57 rfl ?_
    repeat' (first | (refine WL_box rfl rfl rfl hSt ?_; clear hSt; intro w nb hnb hSt; replace hSt := hSt.front; dsimp only [zcells] at hSt) | (refine WL_alloc hT rfl rfl rfl hSt ?_; clear hSt; intro w nb hnb hSt; replace hSt := hSt.front; dsimp only [zcells] at hSt) | (refine WL_isCall (f := 76) ?_; refine WL_call (ok_call hT rfl) rfl rfl rfl (rfind_yes (s := ⟨_, _, l, _, _, _, _, _, _⟩) (hSt.base hb (fun e => e)) (hg.later hSt (fun _ e => e)) (by dsimp only; omega) hf) ?_; rintro v w2 ⟨rfl, hc2⟩; replace hSt := hSt.call0 hc2; clear hc2) | (apply WL_ev rfl rfl; exact Ev_load1 hT rfl rfl (hSt.base hb (fun e => e)) rfl) | (apply WL_ev rfl rfl; exact Ev_loadN hT rfl rfl (hSt.base hbg (fun e => e)) hcs rfl) | refine stepA ?_ | (refine stepS ?_; clear hSt; intro w hSt; dsimp only [spl, List.set] at hSt) | (refine stepB ?_; clear hSt; intro w nb hnb hSt; dsimp only [zcells, List.nil_append, List.cons_append] at hSt) | (refine W_quiet hT (by decide +kernel) hSt ?_; clear hSt; (repeat' (first | (apply QL_ev rfl rfl; (intro w hSt; (first | (exact Ev_load1 hT rfl rfl (hSt.base hb (fun e => e)) rfl) | (exact Ev_loadN hT rfl rfl (hSt.base hbg (fun e => e)) hcs rfl) | exact Ev_auto))) | refine QL_pass rfl rfl ?_ | (refine QL_guardP rfl rfl (fun hc => ?_) (fun hc => ?_) <;> try exact absA) | (refine QL_guard rfl rfl (fun hc => ?_) (fun hc => ?_) <;> (try exact absA) <;> (fail_if_success (change true = true at hc)) <;> (fail_if_success (change false = false at hc))))); all_goals (refine QL_nil (fun w hSt => ?_))) | (refine stepG ?_ ?_ <;> intro hc <;> (try exact absA) <;> (fail_if_success (change true = true at hc)) <;> (fail_if_success (change false = false at hc))) | fail)
    all_goals first | exact end_of (resc2 rfl hT rfl rfl rfl (hSt.at 0 rfl) rfl rfl) ⟨rfl, hSt.nil⟩ | (exfalso; omega)
theorem rGoals_any (hW : RW br bw bv s H) (hl : s.l.length ≤ 64) (hh : Has w0 H) :
    Cl Tryz.prog 59 [Ptr br] w0 (fun v w' => ∃ H1, OwnSl v 35 7 (s.l.flatMap gC) s.l.length H1 ∧ St w0 NoneS H1 w') := by
  obtain ⟨gv, Hg, ev, He, Hj, hog, hoe, hJ, rfl⟩ := id hW
  have hb := hh.own 0 _ _ rfl
  have hSt := St.refl w0 NoneS
  have hg := OwnSl.slAt gC_len hog (hh.sublist sub_g)
  obtain ⟨ga, gc, rfl⟩ := hog.len
  refine enter Tryz.func59 rfl Tryz.ntmps59 rfl ?_
  repeat' (first | (apply WL_ev rfl rfl; exact Ev_load1 hT rfl rfl (hSt.base hb (fun e => e)) rfl) | refine stepA ?_ | (refine stepS ?_; clear hSt; intro w hSt; dsimp only [spl, List.set] at hSt) | (refine stepB ?_; clear hSt; intro w nb hnb hSt; dsimp only [zcells, List.nil_append, List.cons_append] at hSt) | (refine W_quiet hT (by decide +kernel) hSt ?_; clear hSt; (repeat' (first | (apply QL_ev rfl rfl; (intro w hSt; (first | (exact Ev_load1 hT rfl rfl (hSt.base hb (fun e => e)) rfl) | exact Ev_auto))) | refine QL_pass rfl rfl ?_ | (refine QL_guardP rfl rfl (fun hc => ?_) (fun hc => ?_) <;> try exact absA) | (refine QL_guard rfl rfl (fun hc => ?_) (fun hc => ?_) <;> (try exact absA) <;> (fail_if_success (change true = true at hc)) <;> (fail_if_success (change false = false at hc))))); all_goals (refine QL_nil (fun w hSt => ?_))) | (refine stepG ?_ ?_ <;> intro hc <;> (try exact absA) <;> (fail_if_success (change true = true at hc)) <;> (fail_if_success (change false = false at hc))) | fail)
  refine WL_appendS (H0 := []) (H1 := []) (H2 := []) hT rfl rfl rfl rfl rfl rfl rfl (by simpa using hSt) (OwnSl.nil _ _) (hg.later hSt (fun _ e => e)) (one_gC s.l) (by rw [List.length_map]; omega) (by rw [List.length_map]; omega) ?_
  intro v' w' H1' ho hSt'
  repeat' (first | refine stepA ?_ | (refine stepS ?_; clear hSt; intro w hSt; dsimp only [spl, List.set] at hSt) | (refine stepB ?_; clear hSt; intro w nb hnb hSt; dsimp only [zcells, List.nil_append, List.cons_append] at hSt) | (refine W_quiet hT (by decide +kernel) hSt ?_; clear hSt; (repeat' (first | (apply QL_ev rfl rfl; (intro w hSt; (first | exact Ev_auto))) | refine QL_pass rfl rfl ?_ | (refine QL_guardP rfl rfl (fun hc => ?_) (fun hc => ?_) <;> try exact absA) | (refine QL_guard rfl rfl (fun hc => ?_) (fun hc => ?_) <;> (try exact absA) <;> (fail_if_success (change true = true at hc)) <;> (fail_if_success (change false = false at hc))))); all_goals (refine QL_nil (fun w hSt => ?_))) | (refine stepG ?_ ?_ <;> intro hc <;> (try exact absA) <;> (fail_if_success (change true = true at hc)) <;> (fail_if_success (change false = false at hc))) | fail)
  refine ret1 rfl rfl ⟨H1', ?_, by simpa using hSt'⟩
  rw [List.flatMap_def]
  simpa using ho
theorem rsread_any (hW : RW br bw bv s H) (hk : Svk s 1) (hh : Has w0 H) (x : List UInt8) :
    Cl Tryz.prog 72 [Ptr br, S x] w0 (fun v w' => v = B (replayS s x).isSome ∧ ∃ H', RW br bw bv ((replayS s x).getD s) H' ∧ St w0 (InH H) H' w') := by
  obtain ⟨gv, Hg, ev, He, Hj, hog, hoe, hJ, rfl⟩ := hW
  have hSt := hh.st
  generalize InH _ = SS at hSt ⊢
  have hl := hk.l
  have hle := hk.e
  clear hh hk
  obtain ⟨pol, lim, l, ends, cur, fb, stop, m, j⟩ := s
  dsimp only at hog hoe hJ hSt hl hle ⊢
  rcases x with _ | ⟨k, r⟩
  · refine enter Tryz.func72 rfl Tryz.ntmps72 rfl ?_
    repeat' (first | refine stepA ?_ | (refine stepS ?_; clear hSt; intro w hSt; dsimp only [spl, List.set] at hSt) | (refine stepB ?_; clear hSt; intro w nb hnb hSt; dsimp only [zcells, List.nil_append, List.cons_append] at hSt) | (refine W_quiet hT (by decide +kernel) hSt ?_; clear hSt; (repeat' (first | (apply QL_ev rfl rfl; (intro w hSt; (first | exact Ev_auto))) | refine QL_pass rfl rfl ?_ | (refine QL_guardP rfl rfl (fun hc => ?_) (fun hc => ?_) <;> try exact absA) | (refine QL_guard rfl rfl (fun hc => ?_) (fun hc => ?_) <;> (try exact absA) <;> (fail_if_success (change true = true at hc)) <;> (fail_if_success (change false = false at hc))))); all_goals (refine QL_nil (fun w hSt => ?_))) | (refine stepG ?_ ?_ <;> intro hc <;> (try exact absA) <;> (fail_if_success (change true = true at hc)) <;> (fail_if_success (change false = false at hc))) | fail)
    all_goals first | exact ret1 rfl rfl ⟨rfl, _, ⟨_, _, _, _, _, hog, hoe, hJ, rfl⟩, hSt⟩ | (exfalso; simp at hc; done)
  obtain ⟨⟨⟨c, n, st, a, e, q, y⟩, er⟩, hd⟩ : ∃ p, decG r = p := ⟨_, rfl⟩
  have hdc := fun {w : World} => rdecode_at (w0 := w) hd
  have hsl : Value.string ⟨(((k :: r).drop (1 : Int).toNat).take (((k :: r).length : Int).toNat - (1 : Int).toNat)).toArray⟩ = S r := by
    simp
  have hkl : (k :: r).length = r.length + 1 := rfl
  by_cases her : er ≠ 0
  · rw [rep_err hd her]
    refine enter Tryz.func72 rfl Tryz.ntmps72 rfl ?_
    repeat' (first | (apply WL_ev rfl rfl; exact Ev_as (v2 := S r) (Ev_str_slice hT rfl rfl rfl rfl (by omega) (by simp only [List.length_cons]; omega) (by omega)) hsl) | (refine WL_isCall (f := 97) ?_; refine WL_call (ok_call hT rfl) rfl rfl rfl (hdc) ?_; rintro v w2 ⟨rfl, hc2⟩; replace hSt := hSt.call0 hc2; clear hc2) | (refine WL_alloc hT rfl rfl rfl hSt ?_; clear hSt; intro w nb hnb hSt; replace hSt := hSt.front; dsimp only [zcells] at hSt) | refine stepA ?_ | (refine stepS ?_; clear hSt; intro w hSt; dsimp only [spl, List.set] at hSt) | (refine stepB ?_; clear hSt; intro w nb hnb hSt; dsimp only [zcells, List.nil_append, List.cons_append] at hSt) | (refine W_quiet hT (by decide +kernel) hSt ?_; clear hSt; (repeat' (first | (apply QL_ev rfl rfl; (intro w hSt; (first | (exact Ev_as (v2 := S r) (Ev_str_slice hT rfl rfl rfl rfl (by omega) (by simp only [List.length_cons]; omega) (by omega)) hsl) | exact Ev_auto))) | refine QL_pass rfl rfl ?_ | (refine QL_guardP rfl rfl (fun hc => ?_) (fun hc => ?_) <;> try exact absA) | (refine QL_guard rfl rfl (fun hc => ?_) (fun hc => ?_) <;> (try exact absA) <;> (fail_if_success (change true = true at hc)) <;> (fail_if_success (change false = false at hc))))); all_goals (refine QL_nil (fun w hSt => ?_))) | (refine stepG ?_ ?_ <;> intro hc <;> (try exact absA) <;> (fail_if_success (change true = true at hc)) <;> (fail_if_success (change false = false at hc))) | fail)
    all_goals first | exact ret1 rfl rfl ⟨rfl, _, ⟨_, _, _, _, _, hog, hoe, hJ, rfl⟩, hSt.right (Ha := [_])⟩ | (exfalso; omega)
  obtain rfl : er = 0 := by omega
  have hkn := k.toNat_lt
  rcases hf : findG l c n with _ | i
  · replace hSt := hSt.perm (List.Perm.cons _ perm_gE)
    by_cases hA : k = 114 ∧ l.length < 64 ∧ y = [] ∧ (st = 1 ∨ (st = 7 ∧ e = a))
    · rw [rep_new (s := ⟨pol, lim, l, ends, cur, fb, stop, m, j⟩) hd hf hA]
      obtain ⟨rfl, h64, rfl, h17⟩ := hA
      obtain ⟨ga, gc, rfl⟩ := hog.len
      refine enter Tryz.func72 rfl Tryz.ntmps72 rfl ?_
      repeat' (first | (apply WL_ev rfl rfl; exact Ev_as (v2 := S r) (Ev_str_slice hT rfl rfl rfl rfl (by omega) (by simp only [List.length_cons]; omega) (by omega)) hsl) | (apply WL_ev rfl rfl; exact Ev_strIndex hT rfl rfl rfl (by omega) (by rfl)) | (refine WL_isCall (f := 97) ?_; refine WL_call (ok_call hT rfl) rfl rfl rfl (hdc) ?_; rintro v w2 ⟨rfl, hc2⟩; replace hSt := hSt.call0 hc2; clear hc2) | (refine WL_alloc hT rfl rfl rfl hSt ?_; clear hSt; intro w nb hnb hSt; replace hSt := hSt.front; dsimp only [zcells] at hSt) | (refine WL_isCall (f := 76) ?_; refine WL_call (ok_call hT rfl) rfl rfl rfl (rfind_no (s := ⟨_, _, l, _, _, _, _, _, _⟩) (hSt.own 1 _ _ rfl).1 (OwnSl.slAt gC_len hog (hSt.has.sublist (((List.sublist_append_right _ _).trans (List.sublist_cons_self _ _)).trans (List.sublist_cons_self _ _)))) (by dsimp only; omega) hf) ?_; rintro v w2 ⟨rfl, hc2⟩; replace hSt := hSt.call0 hc2; clear hc2) | (refine W_ownS (Hs := [_, _]) [(0, false), (1, false), (2, false), (3, false), (4, false), (5, false), (6, true), (7, true)] hT (by decide +kernel) rfl hSt ?_; clear hSt; intro w hSt; (repeat' (first | (apply HL_ev rfl rfl (St.left (H0 := [_, _]) hSt); (intro w hSt; (first | exact Ev_auto))) | (refine HL_one ?_; refine WL_buildSlice hT rfl rfl rfl rfl rfl rfl rfl rfl hSt ?_; clear hSt; intro w nb hnb hSt; refine WL_nil (At_oneH (St.left (H0 := [_, _]) hSt) ?_)) | (refine HL_one ?_; refine WL_appendL (H0 := _ :: _ :: (He ++ Hj)) (H1 := Hg) hT rfl rfl rfl rfl rfl rfl rfl hSt hog rfl rfl (by omega) (by omega) ?_; clear hSt; intro gv2 w Hg2 hog2 hSt; obtain ⟨ga2, gc2, rfl⟩ := hog2.len; dsimp only [List.cons_append] at hSt; refine WL_nil (At_oneH (St.left (H0 := [_, _]) hSt) ?_)))); refine HL_end ?_; simp only [List.length_cons, List.length_nil, List.drop_succ_cons, List.drop_zero]) | (refine WL_store1 hT rfl rfl 1 rfl rfl hSt rfl rfl rfl ?_; clear hSt; intro w hSt; dsimp only [List.set] at hSt) | refine stepA ?_ | (refine stepS ?_; clear hSt; intro w hSt; dsimp only [spl, List.set] at hSt) | (refine stepB ?_; clear hSt; intro w nb hnb hSt; dsimp only [zcells, List.nil_append, List.cons_append] at hSt) | (refine W_quiet hT (by decide +kernel) hSt ?_; clear hSt; (repeat' (first | (apply QL_ev rfl rfl; (intro w hSt; (first | (exact Ev_as (v2 := S r) (Ev_str_slice hT rfl rfl rfl rfl (by omega) (by simp only [List.length_cons]; omega) (by omega)) hsl) | (exact Ev_strIndex hT rfl rfl rfl (by omega) (by rfl)) | exact Ev_auto))) | refine QL_pass rfl rfl ?_ | (refine QL_guardP rfl rfl (fun hc => ?_) (fun hc => ?_) <;> try exact absA) | (refine QL_guard rfl rfl (fun hc => ?_) (fun hc => ?_) <;> (try exact absA) <;> (fail_if_success (change true = true at hc)) <;> (fail_if_success (change false = false at hc))))); all_goals (refine QL_nil (fun w hSt => ?_))) | (refine stepG ?_ ?_ <;> intro hc <;> (try exact absA) <;> (fail_if_success (change true = true at hc)) <;> (fail_if_success (change false = false at hc))) | fail)
      all_goals first | exact ret1 rfl rfl ⟨rfl, _, ⟨_, _, _, _, _, own_snoc hog2, hoe, hJ, rfl⟩, St.right (Ha := [_]) (hSt.perm (List.Perm.cons _ (List.Perm.cons _ perm_gE.symm)))⟩ | (exfalso; omega)
    · rw [rep_new_no (s := ⟨pol, lim, l, ends, cur, fb, stop, m, j⟩) hd hf hA]
      rw [u8_iff] at hA
      obtain ⟨ga, gc, rfl⟩ := hog.len
      rcases y with _ | ⟨y0, ys⟩
      all_goals
        simp only [reduceCtorEq, true_and, false_and, and_false, not_false_eq_true, show (114 : UInt8).toNat = 114 from rfl] at hA
        refine enter Tryz.func72 rfl Tryz.ntmps72 rfl ?_
        repeat' (first | (apply WL_ev rfl rfl; exact Ev_as (v2 := S r) (Ev_str_slice hT rfl rfl rfl rfl (by omega) (by simp only [List.length_cons]; omega) (by omega)) hsl) | (apply WL_ev rfl rfl; exact Ev_strIndex hT rfl rfl rfl (by omega) (by rfl)) | (refine WL_isCall (f := 97) ?_; refine WL_call (ok_call hT rfl) rfl rfl rfl (hdc) ?_; rintro v w2 ⟨rfl, hc2⟩; replace hSt := hSt.call0 hc2; clear hc2) | (refine WL_alloc hT rfl rfl rfl hSt ?_; clear hSt; intro w nb hnb hSt; replace hSt := hSt.front; dsimp only [zcells] at hSt) | (refine WL_isCall (f := 76) ?_; refine WL_call (ok_call hT rfl) rfl rfl rfl (rfind_no (s := ⟨_, _, l, _, _, _, _, _, _⟩) (hSt.own 1 _ _ rfl).1 (OwnSl.slAt gC_len hog (hSt.has.sublist (((List.sublist_append_right _ _).trans (List.sublist_cons_self _ _)).trans (List.sublist_cons_self _ _)))) (by dsimp only; omega) hf) ?_; rintro v w2 ⟨rfl, hc2⟩; replace hSt := hSt.call0 hc2; clear hc2) | refine stepA ?_ | (refine stepS ?_; clear hSt; intro w hSt; dsimp only [spl, List.set] at hSt) | (refine stepB ?_; clear hSt; intro w nb hnb hSt; dsimp only [zcells, List.nil_append, List.cons_append] at hSt) | (refine W_quiet hT (by decide +kernel) hSt ?_; clear hSt; (repeat' (first | (apply QL_ev rfl rfl; (intro w hSt; (first | (exact Ev_as (v2 := S r) (Ev_str_slice hT rfl rfl rfl rfl (by omega) (by simp only [List.length_cons]; omega) (by omega)) hsl) | (exact Ev_strIndex hT rfl rfl rfl (by omega) (by rfl)) | exact Ev_auto))) | refine QL_pass rfl rfl ?_ | (refine QL_guardP rfl rfl (fun hc => ?_) (fun hc => ?_) <;> try exact absA) | (refine QL_guard rfl rfl (fun hc => ?_) (fun hc => ?_) <;> (try exact absA) <;> (fail_if_success (change true = true at hc)) <;> (fail_if_success (change false = false at hc))))); all_goals (refine QL_nil (fun w hSt => ?_))) | (refine stepG ?_ ?_ <;> intro hc <;> (try exact absA) <;> (fail_if_success (change true = true at hc)) <;> (fail_if_success (change false = false at hc))) | fail)
        all_goals first | exact ret1 rfl rfl ⟨rfl, _, ⟨_, _, _, _, _, hog, hoe, hJ, rfl⟩, St.right (Ha := [_]) (hSt.perm (List.Perm.cons _ (List.Perm.cons _ perm_gE.symm)))⟩ | (exfalso; omega)
  · have hil := findG_lt hf
    have hx := gAt_some hil
    obtain ⟨gb, gc, rs, rfl, hgc, hrs, rfl⟩ := hog.some_ (by omega)
    dsimp only [List.cons_append, List.nil_append] at hSt
    replace hSt := hSt.perm (List.Perm.cons _ (List.Perm.cons _ List.perm_append_comm))
    have hfe := findG_eq hf
    obtain ⟨g0, hg0⟩ : ∃ g0, g0 = gAt l i := ⟨_, rfl⟩
    by_cases hA : k = 101 ∧ q = [] ∧ (4 ≤ st ∧ st ≤ 6) ∧ (gAt l i).st = 1 ∧ (gAt l i).at_ = a
    · rw [rep_end (s := ⟨pol, lim, l, ends, cur, fb, stop, m, j⟩) hd hf hA]
      rw [← hg0] at hA hx hfe ⊢
      obtain ⟨c0, n0, s0, a0, e0, q0, y0⟩ := g0
      dsimp only at hA hfe
      obtain ⟨rfl, rfl, h46, rfl, rfl⟩ := hA
      obtain ⟨rfl, rfl⟩ := hfe
      obtain ⟨ea, ec, rfl⟩ := hoe.len
      refine enter Tryz.func72 rfl Tryz.ntmps72 rfl ?_
      repeat' (first | (apply WL_ev rfl rfl; exact Ev_as (v2 := S r) (Ev_str_slice hT rfl rfl rfl rfl (by omega) (by simp only [List.length_cons]; omega) (by omega)) hsl) | (apply WL_ev rfl rfl; exact Ev_strIndex hT rfl rfl rfl (by omega) (by rfl)) | (refine WL_isCall (f := 97) ?_; refine WL_call (ok_call hT rfl) rfl rfl rfl (hdc) ?_; rintro v w2 ⟨rfl, hc2⟩; replace hSt := hSt.call0 hc2; clear hc2) | (refine WL_alloc hT rfl rfl rfl hSt ?_; clear hSt; intro w nb hnb hSt; replace hSt := hSt.front; dsimp only [zcells] at hSt) | (refine WL_isCall (f := 76) ?_; refine WL_call (ok_call hT rfl) rfl rfl rfl (rfind_yes (s := ⟨_, _, l, _, _, _, _, _, _⟩) (hSt.own 1 _ _ rfl).1 (OwnSl.slAt gC_len hog (hSt.has.sublist ((List.sublist_append_left [_] _).trans ((List.sublist_cons_self _ _).trans (List.sublist_cons_self _ _))))) (by dsimp only; omega) hf) ?_; rintro v w2 ⟨rfl, hc2⟩; replace hSt := hSt.call0 hc2; clear hc2) | (apply WL_ev rfl rfl; exact Ev_load1 hT rfl rfl (hSt.at 2 rfl) (cell_get (c := I 1) hx (j := 2) rfl rs)) | (apply WL_ev rfl rfl; exact Ev_load1 hT rfl rfl (hSt.at 2 rfl) (cell_get (c := I a0) hx (j := 3) rfl rs)) | (apply WL_ev rfl rfl; exact Ev_load1 hT rfl rfl (hSt.at 2 rfl) (cell_get (c := S q0) hx (j := 5) rfl rs)) | (refine W_tail 6 hT (by decide +kernel) hSt ?_; clear hSt; intro w hSt; simp only [List.take_succ_cons, List.take_zero]; (repeat' (first | (apply SL_ev rfl rfl; (first | (exact Ev_as (v2 := S r) (Ev_str_slice hT rfl rfl rfl rfl (by omega) (by simp only [List.length_cons]; omega) (by omega)) hsl) | (exact Ev_strIndex hT rfl rfl rfl (by omega) (by rfl)) | (exact Ev_load1 hT rfl rfl (hSt.at 2 rfl) (cell_get (c := I 1) hx (j := 2) rfl rs)) | (exact Ev_load1 hT rfl rfl (hSt.at 2 rfl) (cell_get (c := I a0) hx (j := 3) rfl rs)) | (exact Ev_load1 hT rfl rfl (hSt.at 2 rfl) (cell_get (c := S q0) hx (j := 5) rfl rs)) | exact Ev_auto)) | refine SL_pass rfl rfl ?_ | (refine SL_guardP rfl rfl (fun hc => ?_) (fun hc => ?_) <;> try exact absA) | (refine SL_guard rfl rfl (fun hc => ?_) (fun hc => ?_) <;> (try exact absA) <;> (fail_if_success (change true = true at hc)) <;> (fail_if_success (change false = false at hc))))); all_goals (refine SL_nil ?_; simp only [List.drop_succ_cons, List.drop_zero])) | (refine WL_storeN hT rfl rfl 2 rfl rfl hSt rfl rfl rfl (cell_room hil rs) ?_; clear hSt; intro w hSt; dsimp only [List.set] at hSt; replace hSt := St.row3 (cell_row (y := ⟨c0, n0, st, a0, e, q0, y⟩) hil rs) hSt) | (refine WL_push1 hT rfl rfl rfl rfl rfl rfl rfl rfl rfl rfl rfl rfl (fun _ => rfl) rfl (H0 := _ :: _ :: _ :: Hj) hSt hoe (by omega) (by omega) ?_; clear hSt; intro ev2 w He2 u hoe2 hSt; obtain ⟨ea2, ec2, rfl⟩ := hoe2.len; dsimp only [List.cons_append] at hSt) | (refine WL_store1 hT rfl rfl 1 rfl rfl hSt rfl rfl rfl ?_; clear hSt; intro w hSt; dsimp only [List.set] at hSt) | refine stepA ?_ | (refine stepS ?_; clear hSt; intro w hSt; dsimp only [spl, List.set] at hSt) | (refine stepB ?_; clear hSt; intro w nb hnb hSt; dsimp only [zcells, List.nil_append, List.cons_append] at hSt) | (refine W_quiet hT (by decide +kernel) hSt ?_; clear hSt; (repeat' (first | (apply QL_ev rfl rfl; (intro w hSt; (first | (exact Ev_as (v2 := S r) (Ev_str_slice hT rfl rfl rfl rfl (by omega) (by simp only [List.length_cons]; omega) (by omega)) hsl) | (exact Ev_strIndex hT rfl rfl rfl (by omega) (by rfl)) | (exact Ev_load1 hT rfl rfl (hSt.at 2 rfl) (cell_get (c := I 1) hx (j := 2) rfl rs)) | (exact Ev_load1 hT rfl rfl (hSt.at 2 rfl) (cell_get (c := I a0) hx (j := 3) rfl rs)) | (exact Ev_load1 hT rfl rfl (hSt.at 2 rfl) (cell_get (c := S q0) hx (j := 5) rfl rs)) | exact Ev_auto))) | refine QL_pass rfl rfl ?_ | (refine QL_guardP rfl rfl (fun hc => ?_) (fun hc => ?_) <;> try exact absA) | (refine QL_guard rfl rfl (fun hc => ?_) (fun hc => ?_) <;> (try exact absA) <;> (fail_if_success (change true = true at hc)) <;> (fail_if_success (change false = false at hc))))); all_goals (refine QL_nil (fun w hSt => ?_))) | (refine stepG ?_ ?_ <;> intro hc <;> (try exact absA) <;> (fail_if_success (change true = true at hc)) <;> (fail_if_success (change false = false at hc))) | fail)
      all_goals first | exact ret1 rfl rfl ⟨rfl, _, ⟨_, _, _, _, _, own_set hgc hrs, own_int hoe2, hJ, rfl⟩, St.right (Ha := [_]) (hSt.perm (List.Perm.cons _ (List.Perm.cons _ (List.Perm.cons _ List.perm_append_comm))))⟩ | (exfalso; omega)
    · rw [rep_end_no (s := ⟨pol, lim, l, ends, cur, fb, stop, m, j⟩) hd hf hA]
      rw [u8_iff] at hA
      rw [← hg0] at hA hx hfe
      obtain ⟨c0, n0, s0, a0, e0, q0, y0⟩ := g0
      dsimp only at hA hfe
      rcases q with _ | ⟨q1, qs⟩
      all_goals
        simp only [reduceCtorEq, true_and, false_and, and_false, not_false_eq_true, show (101 : UInt8).toNat = 101 from rfl] at hA
        refine enter Tryz.func72 rfl Tryz.ntmps72 rfl ?_
        repeat' (first | (apply WL_ev rfl rfl; exact Ev_as (v2 := S r) (Ev_str_slice hT rfl rfl rfl rfl (by omega) (by simp only [List.length_cons]; omega) (by omega)) hsl) | (apply WL_ev rfl rfl; exact Ev_strIndex hT rfl rfl rfl (by omega) (by rfl)) | (refine WL_isCall (f := 97) ?_; refine WL_call (ok_call hT rfl) rfl rfl rfl (hdc) ?_; rintro v w2 ⟨rfl, hc2⟩; replace hSt := hSt.call0 hc2; clear hc2) | (refine WL_alloc hT rfl rfl rfl hSt ?_; clear hSt; intro w nb hnb hSt; replace hSt := hSt.front; dsimp only [zcells] at hSt) | (refine WL_isCall (f := 76) ?_; refine WL_call (ok_call hT rfl) rfl rfl rfl (rfind_yes (s := ⟨_, _, l, _, _, _, _, _, _⟩) (hSt.own 1 _ _ rfl).1 (OwnSl.slAt gC_len hog (hSt.has.sublist ((List.sublist_append_left [_] _).trans ((List.sublist_cons_self _ _).trans (List.sublist_cons_self _ _))))) (by dsimp only; omega) hf) ?_; rintro v w2 ⟨rfl, hc2⟩; replace hSt := hSt.call0 hc2; clear hc2) | (apply WL_ev rfl rfl; exact Ev_load1 hT rfl rfl (hSt.at 2 rfl) (cell_get (c := I s0) hx (j := 2) rfl rs)) | (apply WL_ev rfl rfl; exact Ev_load1 hT rfl rfl (hSt.at 2 rfl) (cell_get (c := I a0) hx (j := 3) rfl rs)) | refine stepA ?_ | (refine stepS ?_; clear hSt; intro w hSt; dsimp only [spl, List.set] at hSt) | (refine stepB ?_; clear hSt; intro w nb hnb hSt; dsimp only [zcells, List.nil_append, List.cons_append] at hSt) | (refine W_quiet hT (by decide +kernel) hSt ?_; clear hSt; (repeat' (first | (apply QL_ev rfl rfl; (intro w hSt; (first | (exact Ev_as (v2 := S r) (Ev_str_slice hT rfl rfl rfl rfl (by omega) (by simp only [List.length_cons]; omega) (by omega)) hsl) | (exact Ev_strIndex hT rfl rfl rfl (by omega) (by rfl)) | (exact Ev_load1 hT rfl rfl (hSt.at 2 rfl) (cell_get (c := I s0) hx (j := 2) rfl rs)) | (exact Ev_load1 hT rfl rfl (hSt.at 2 rfl) (cell_get (c := I a0) hx (j := 3) rfl rs)) | exact Ev_auto))) | refine QL_pass rfl rfl ?_ | (refine QL_guardP rfl rfl (fun hc => ?_) (fun hc => ?_) <;> try exact absA) | (refine QL_guard rfl rfl (fun hc => ?_) (fun hc => ?_) <;> (try exact absA) <;> (fail_if_success (change true = true at hc)) <;> (fail_if_success (change false = false at hc))))); all_goals (refine QL_nil (fun w hSt => ?_))) | (refine stepG ?_ ?_ <;> intro hc <;> (try exact absA) <;> (fail_if_success (change true = true at hc)) <;> (fail_if_success (change false = false at hc))) | fail)
        all_goals first | exact ret1 rfl rfl ⟨rfl, _, ⟨_, _, _, _, _, hog, hoe, hJ, rfl⟩, St.right (Ha := [_]) (hSt.perm (List.Perm.cons _ (List.Perm.cons _ (List.Perm.cons _ List.perm_append_comm))))⟩ | (exfalso; omega)
end
end Go.Proofs.YtndkifkaejmibaaGreatDoor
