/- The server in memory: a record of the journal is applied. No conditions. -/
import Derived.Test.YthkimkgphaiagaaGreatDoorMN
import Derived.Test.YthkimkgphaiagaaGreatDoorMK

namespace Go.Proofs.YthkimkgphaiagaaGreatDoor
open Go.RowKit
set_option maxRecDepth 4000
set_option linter.unusedVariables false
set_option linter.unusedSimpArgs false
set_option maxHeartbeats 8000000

theorem decode_at {w0 : World} (hV : Vars w0) {s : List UInt8} {c n st a e : Int} {q x : List UInt8} {er : Int} (hd : decG s = (⟨c, n, st, a, e, q, x⟩, er)) : Cl Tryz.prog 58 [S s] w0 (fun v w' => v = .tuple ⟨[goV c n st a e q x, I er]⟩ ∧ St w0 NoneS [] w') := by
  refine (decode_any hV s).mono ?_
  rintro v w' ⟨c', n', st', a', e', q', x', er', h1, rfl, h2⟩
  rw [hd] at h1
  injection h1 with h1 h3
  injection h1 with g1 g2 g3 g4 g5 g6 g7
  subst g1 g2 g3 g4 g5 g6 g7 h3
  exact ⟨rfl, h2⟩
section
variable {w0 : World} {bs bj : Nat} {gv ev : Value} {s : Sv}
theorem index_no (hb : w0.heap[bs]? = some (svO bj gv ev s)) (hg : SlAt w0 gv 7 (s.l.map gC)) (hl : s.l.length ≤ 1000000) {c n : Int} (hf : findG s.l c n = none) : Cl Tryz.prog 44 [Ptr bs, idV c n] w0 (fun v w' => v = I (-1) ∧ St w0 NoneS [] w') := by
  have h := index_any hb hg hl c n; rw [hf] at h; exact h
theorem index_yes (hb : w0.heap[bs]? = some (svO bj gv ev s)) (hg : SlAt w0 gv 7 (s.l.map gC)) (hl : s.l.length ≤ 1000000) {c n : Int} {i : Nat} (hf : findG s.l c n = some i) : Cl Tryz.prog 44 [Ptr bs, idV c n] w0 (fun v w' => v = I (i : Int) ∧ St w0 NoneS [] w') := by
  have h := index_any hb hg hl c n; rw [hf] at h; exact h
end
theorem St.row3 {w0 w : World} {SS : Nat → Prop} {a b : Nat × Obj} {d : List (Nat × Obj)} {g : Nat} {X Y : List Value} {E : TypeId} (e : X = Y) (h : St w0 SS (a :: b :: (g, blk X E) :: d) w) : St w0 SS (a :: b :: (g, blk Y E) :: d) w := e ▸ h
section
variable {s : Sv} {k : UInt8} {r : List UInt8} {g : Gl} {er : Int} {i : Nat}
theorem rep_err (hd : decG r = (g, er)) (h : er ≠ 0) : replayS s (k :: r) = none := by
  unfold replayS; dsimp only; rw [hd]; dsimp only; rw [if_pos h]
theorem rep_new (hd : decG r = (g, 0)) (hf : findG s.l g.c g.n = none) (h : k = 114 ∧ s.l.length < 64 ∧ g.rs = [] ∧ (g.st = 1 ∨ (g.st = 7 ∧ g.en = g.at_))) : replayS s (k :: r) = some { s with l := s.l ++ [g] } := by
  unfold replayS; dsimp only; rw [hd]; dsimp only; rw [if_neg (by decide), hf]; dsimp only; rw [if_pos h]
theorem rep_new_no (hd : decG r = (g, 0)) (hf : findG s.l g.c g.n = none) (h : ¬ (k = 114 ∧ s.l.length < 64 ∧ g.rs = [] ∧ (g.st = 1 ∨ (g.st = 7 ∧ g.en = g.at_)))) : replayS s (k :: r) = none := by
  unfold replayS; dsimp only; rw [hd]; dsimp only; rw [if_neg (by decide), hf]; dsimp only; rw [if_neg h]
theorem rep_end (hd : decG r = (g, 0)) (hf : findG s.l g.c g.n = some i) (h : k = 101 ∧ g.rq = [] ∧ (4 ≤ g.st ∧ g.st ≤ 6) ∧ (gAt s.l i).st = 1 ∧ (gAt s.l i).at_ = g.at_) : replayS s (k :: r) = some { s with l := s.l.set i (endG (gAt s.l i) g.st g.en g.rs), ends := s.ends ++ [i] } := by
  unfold replayS; dsimp only; rw [hd]; dsimp only; rw [if_neg (by decide), hf]; dsimp only; rw [if_pos h]
theorem rep_end_no (hd : decG r = (g, 0)) (hf : findG s.l g.c g.n = some i) (h : ¬ (k = 101 ∧ g.rq = [] ∧ (4 ≤ g.st ∧ g.st ≤ 6) ∧ (gAt s.l i).st = 1 ∧ (gAt s.l i).at_ = g.at_)) : replayS s (k :: r) = none := by
  unfold replayS; dsimp only; rw [hd]; dsimp only; rw [if_neg (by decide), hf]; dsimp only; rw [if_neg h]
end
theorem u8_iff {k b : UInt8} : k = b ↔ k.toNat = b.toNat := UInt8.toNat_inj.symm
theorem replay_any {w0 : World} (hG : Gb w0) {bs bj bm : Nat} {s : Sv} {H : List (Nat × Obj)} (hW : SW bs bj bm s H) (hk : Svk s 1) (hh : Has w0 H) (hn : NoG (InH H)) (x : List UInt8) :
    Cl Tryz.prog 29 [Ptr bs, S x] w0 (fun v w' => v = B (replayS s x).isSome ∧ ∃ H', SW bs bj bm ((replayS s x).getD s) H' ∧ St w0 (InH H) H' w') := by
  obtain ⟨gv, Hg, ev, He, Hj, hog, hoe, hJ, rfl⟩ := hW
  have hSt := hh.st
  generalize InH _ = SS at hSt hn ⊢
  have hl := hk.l
  have hle := hk.e
  clear hh hk
  obtain ⟨pol, lim, l, ends, cur, fb, stop, m, j⟩ := s
  dsimp only at hog hoe hJ hSt hl hle ⊢
  rcases x with _ | ⟨k, r⟩
  · refine enter Tryz.func29 rfl Tryz.ntmps29 rfl ?_
    repeat' (first | refine stepA ?_ | (refine stepS ?_; clear hSt; intro w hSt; dsimp only [spl, List.set] at hSt) | (refine stepB ?_; clear hSt; intro w nb hnb hSt; dsimp only [zcells, List.nil_append, List.cons_append] at hSt) | (refine W_quiet hT (by decide +kernel) hSt ?_; clear hSt; (repeat' (first | (apply QL_ev rfl rfl; (intro w hSt; (first | exact Ev_auto))) | refine QL_pass rfl rfl ?_ | (refine QL_guardP rfl rfl (fun hc => ?_) (fun hc => ?_) <;> try exact absA) | (refine QL_guard rfl rfl (fun hc => ?_) (fun hc => ?_) <;> (try exact absA) <;> (fail_if_success (change true = true at hc)) <;> (fail_if_success (change false = false at hc))))); all_goals (refine QL_nil (fun w hSt => ?_))) | (refine stepG ?_ ?_ <;> intro hc <;> (try exact absA) <;> (fail_if_success (change true = true at hc)) <;> (fail_if_success (change false = false at hc))) | fail)
    exact ret1 rfl rfl ⟨rfl, _, ⟨_, _, _, _, _, hog, hoe, hJ, rfl⟩, hSt⟩
  obtain ⟨⟨⟨c, n, st, a, e, q, y⟩, er⟩, hd⟩ : ∃ p, decG r = p := ⟨_, rfl⟩
  have hdc := fun {w : World} (hV : Vars w) => decode_at (w0 := w) hV hd
  have hsl : Value.string ⟨(((k :: r).drop (1 : Int).toNat).take (((k :: r).length : Int).toNat - (1 : Int).toNat)).toArray⟩ = S r := by
    simp
  by_cases her : er ≠ 0
  · rw [rep_err hd her]
    refine enter Tryz.func29 rfl Tryz.ntmps29 rfl ?_
    repeat' (first | (apply WL_ev rfl rfl; exact Ev_as (v2 := S r) (Ev_str_slice hT rfl rfl rfl rfl (by omega) (by simp only [List.length_cons]; omega) (by omega)) hsl) | (refine WL_isCall (f := 58) ?_; refine WL_call (ok_call hT rfl) rfl rfl rfl (hdc (hG.later hSt hn).v) ?_; rintro v w2 ⟨rfl, hc2⟩; replace hSt := hSt.call0 hc2; clear hc2) | (refine WL_alloc hT rfl rfl rfl hSt ?_; clear hSt; intro w nb hnb hSt; replace hSt := hSt.front; dsimp only [zcells] at hSt) | refine stepA ?_ | (refine stepS ?_; clear hSt; intro w hSt; dsimp only [spl, List.set] at hSt) | (refine stepB ?_; clear hSt; intro w nb hnb hSt; dsimp only [zcells, List.nil_append, List.cons_append] at hSt) | (refine W_quiet hT (by decide +kernel) hSt ?_; clear hSt; (repeat' (first | (apply QL_ev rfl rfl; (intro w hSt; (first | (exact Ev_as (v2 := S r) (Ev_str_slice hT rfl rfl rfl rfl (by omega) (by simp only [List.length_cons]; omega) (by omega)) hsl) | exact Ev_auto))) | refine QL_pass rfl rfl ?_ | (refine QL_guardP rfl rfl (fun hc => ?_) (fun hc => ?_) <;> try exact absA) | (refine QL_guard rfl rfl (fun hc => ?_) (fun hc => ?_) <;> (try exact absA) <;> (fail_if_success (change true = true at hc)) <;> (fail_if_success (change false = false at hc))))); all_goals (refine QL_nil (fun w hSt => ?_))) | (refine stepG ?_ ?_ <;> intro hc <;> (try exact absA) <;> (fail_if_success (change true = true at hc)) <;> (fail_if_success (change false = false at hc))) | fail)
    all_goals exact ret1 rfl rfl ⟨rfl, _, ⟨_, _, _, _, _, hog, hoe, hJ, rfl⟩, hSt.right (Ha := [_])⟩
  obtain rfl : er = 0 := by omega
  have hkn := k.toNat_lt
  rcases hf : findG l c n with _ | i
  · replace hSt := hSt.perm (List.Perm.cons _ perm_gE)
    by_cases hA : k = 114 ∧ l.length < 64 ∧ y = [] ∧ (st = 1 ∨ (st = 7 ∧ e = a))
    · rw [rep_new (s := ⟨pol, lim, l, ends, cur, fb, stop, m, j⟩) hd hf hA]
      obtain ⟨rfl, h64, rfl, h17⟩ := hA
      obtain ⟨ga, gc, rfl⟩ := hog.len
      refine enter Tryz.func29 rfl Tryz.ntmps29 rfl ?_
      repeat' (first | (apply WL_ev rfl rfl; exact Ev_as (v2 := S r) (Ev_str_slice hT rfl rfl rfl rfl (by omega) (by simp only [List.length_cons]; omega) (by omega)) hsl) | (apply WL_ev rfl rfl; exact Ev_strIndex hT rfl rfl rfl (by omega) (by rfl)) | (refine WL_isCall (f := 58) ?_; refine WL_call (ok_call hT rfl) rfl rfl rfl (hdc (hG.later hSt hn).v) ?_; rintro v w2 ⟨rfl, hc2⟩; replace hSt := hSt.call0 hc2; clear hc2) | (refine WL_alloc hT rfl rfl rfl hSt ?_; clear hSt; intro w nb hnb hSt; replace hSt := hSt.front; dsimp only [zcells] at hSt) | (refine WL_isCall (f := 44) ?_; refine WL_call (ok_call hT rfl) rfl rfl rfl (index_no (s := ⟨pol, lim, l, ends, cur, fb, stop, m, j⟩) (hSt.own 1 _ _ rfl).1 (OwnSl.slAt gC_len hog (hSt.has.sublist (((List.sublist_append_right _ _).trans (List.sublist_cons_self _ _)).trans (List.sublist_cons_self _ _)))) (by dsimp only; omega) hf) ?_; rintro v w2 ⟨rfl, hc2⟩; replace hSt := hSt.call0 hc2; clear hc2) | (refine W_ownS (Hs := [_, _]) [(0, false), (1, false), (2, false), (3, false), (4, false), (5, false), (6, true), (7, true)] hT (by decide +kernel) rfl hSt ?_; clear hSt; intro w hSt; (repeat' (first | (apply HL_ev rfl rfl (St.left (H0 := [_, _]) hSt); (intro w hSt; (first | exact Ev_auto))) | (refine HL_one ?_; refine WL_buildSlice hT rfl rfl rfl rfl rfl rfl rfl rfl hSt ?_; clear hSt; intro w nb hnb hSt; refine WL_nil (At_oneH (St.left (H0 := [_, _]) hSt) ?_)) | (refine HL_one ?_; refine WL_appendL (H0 := _ :: _ :: (He ++ Hj)) (H1 := Hg) hT rfl rfl rfl rfl rfl rfl rfl hSt hog rfl rfl (by omega) (by omega) ?_; clear hSt; intro gv2 w Hg2 hog2 hSt; obtain ⟨ga2, gc2, rfl⟩ := hog2.len; dsimp only [List.cons_append] at hSt; refine WL_nil (At_oneH (St.left (H0 := [_, _]) hSt) ?_)))); refine HL_end ?_; simp only [List.length_cons, List.length_nil, List.drop_succ_cons, List.drop_zero]) | (refine WL_store1 hT rfl rfl 1 rfl rfl hSt rfl rfl rfl ?_; clear hSt; intro w hSt; dsimp only [List.set] at hSt) | refine stepA ?_ | (refine stepS ?_; clear hSt; intro w hSt; dsimp only [spl, List.set] at hSt) | (refine stepB ?_; clear hSt; intro w nb hnb hSt; dsimp only [zcells, List.nil_append, List.cons_append] at hSt) | (refine W_quiet hT (by decide +kernel) hSt ?_; clear hSt; (repeat' (first | (apply QL_ev rfl rfl; (intro w hSt; (first | (exact Ev_as (v2 := S r) (Ev_str_slice hT rfl rfl rfl rfl (by omega) (by simp only [List.length_cons]; omega) (by omega)) hsl) | (exact Ev_strIndex hT rfl rfl rfl (by omega) (by rfl)) | exact Ev_auto))) | refine QL_pass rfl rfl ?_ | (refine QL_guardP rfl rfl (fun hc => ?_) (fun hc => ?_) <;> try exact absA) | (refine QL_guard rfl rfl (fun hc => ?_) (fun hc => ?_) <;> (try exact absA) <;> (fail_if_success (change true = true at hc)) <;> (fail_if_success (change false = false at hc))))); all_goals (refine QL_nil (fun w hSt => ?_))) | (refine stepG ?_ ?_ <;> intro hc <;> (try exact absA) <;> (fail_if_success (change true = true at hc)) <;> (fail_if_success (change false = false at hc))) | fail)
      all_goals exact ret1 rfl rfl ⟨rfl, _, ⟨_, _, _, _, _, own_snoc hog2, hoe, hJ, rfl⟩, St.right (Ha := [_]) (hSt.perm (List.Perm.cons _ (List.Perm.cons _ perm_gE.symm)))⟩
    · rw [rep_new_no (s := ⟨pol, lim, l, ends, cur, fb, stop, m, j⟩) hd hf hA]
      rw [u8_iff] at hA
      obtain ⟨ga, gc, rfl⟩ := hog.len
      rcases y with _ | ⟨y0, ys⟩
      all_goals
        simp only [reduceCtorEq, true_and, false_and, and_false, not_false_eq_true, show (114 : UInt8).toNat = 114 from rfl] at hA
        refine enter Tryz.func29 rfl Tryz.ntmps29 rfl ?_
        repeat' (first | (apply WL_ev rfl rfl; exact Ev_as (v2 := S r) (Ev_str_slice hT rfl rfl rfl rfl (by omega) (by simp only [List.length_cons]; omega) (by omega)) hsl) | (apply WL_ev rfl rfl; exact Ev_strIndex hT rfl rfl rfl (by omega) (by rfl)) | (refine WL_isCall (f := 58) ?_; refine WL_call (ok_call hT rfl) rfl rfl rfl (hdc (hG.later hSt hn).v) ?_; rintro v w2 ⟨rfl, hc2⟩; replace hSt := hSt.call0 hc2; clear hc2) | (refine WL_alloc hT rfl rfl rfl hSt ?_; clear hSt; intro w nb hnb hSt; replace hSt := hSt.front; dsimp only [zcells] at hSt) | (refine WL_isCall (f := 44) ?_; refine WL_call (ok_call hT rfl) rfl rfl rfl (index_no (s := ⟨pol, lim, l, ends, cur, fb, stop, m, j⟩) (hSt.own 1 _ _ rfl).1 (OwnSl.slAt gC_len hog (hSt.has.sublist (((List.sublist_append_right _ _).trans (List.sublist_cons_self _ _)).trans (List.sublist_cons_self _ _)))) (by dsimp only; omega) hf) ?_; rintro v w2 ⟨rfl, hc2⟩; replace hSt := hSt.call0 hc2; clear hc2) | refine stepA ?_ | (refine stepS ?_; clear hSt; intro w hSt; dsimp only [spl, List.set] at hSt) | (refine stepB ?_; clear hSt; intro w nb hnb hSt; dsimp only [zcells, List.nil_append, List.cons_append] at hSt) | (refine W_quiet hT (by decide +kernel) hSt ?_; clear hSt; (repeat' (first | (refine QL_isCall (f := 26) ?_; refine QL_call (ok_call hT rfl) rfl rfl rfl (fun w hSt => (in_any _ _ _).mono (fun v w2 h => ⟨h.1, hSt.call0 h.2⟩)) ?_) | (apply QL_ev rfl rfl; (intro w hSt; (first | (exact Ev_as (v2 := S r) (Ev_str_slice hT rfl rfl rfl rfl (by omega) (by simp only [List.length_cons]; omega) (by omega)) hsl) | (exact Ev_strIndex hT rfl rfl rfl (by omega) (by rfl)) | exact Ev_auto))) | refine QL_pass rfl rfl ?_ | (refine QL_guardP rfl rfl (fun hc => ?_) (fun hc => ?_) <;> try exact absA) | (refine QL_guard rfl rfl (fun hc => ?_) (fun hc => ?_) <;> (try exact absA) <;> (fail_if_success (change true = true at hc)) <;> (fail_if_success (change false = false at hc))))); all_goals (refine QL_nil (fun w hSt => ?_))) | (refine stepG ?_ ?_ <;> intro hc <;> (try exact absA) <;> (fail_if_success (change true = true at hc)) <;> (fail_if_success (change false = false at hc))) | fail)
        all_goals first | exact ret1 rfl rfl ⟨rfl, _, ⟨_, _, _, _, _, hog, hoe, hJ, rfl⟩, St.right (Ha := [_]) (hSt.perm (List.Perm.cons _ (List.Perm.cons _ perm_gE.symm)))⟩ | (exfalso; omega)
  · have hil := findG_lt hf
    have hx := gAt_some hil
    obtain ⟨gb, gc, rs, rfl, hgc, hrs, rfl⟩ := hog.some_ (by omega)
    dsimp only [List.cons_append, List.nil_append] at hSt
    replace hSt := hSt.perm (List.Perm.cons _ (List.Perm.cons _ List.perm_append_comm))
    have hfe := findG_eq hf
    obtain ⟨g0, hg0⟩ : ∃ g0, g0 = gAt l i := ⟨_, rfl⟩
    by_cases hA : k = 101 ∧ q = [] ∧ (4 ≤ st ∧ st ≤ 6) ∧ (gAt l i).st = 1 ∧ (gAt l i).at_ = a
    · rw [rep_end (s := ⟨pol, lim, l, ends, cur, fb, stop, m, j⟩) hd hf hA]
      rw [← hg0] at hA hx hfe ⊢
      obtain ⟨c0, n0, s0, a0, e0, q0, y0⟩ := g0
      dsimp only at hA hfe
      obtain ⟨rfl, rfl, h46, rfl, rfl⟩ := hA
      obtain ⟨rfl, rfl⟩ := hfe
      have hil1 : i < (l.set i ⟨c0, n0, st, a0, e0, q0, y0⟩).length := by rw [List.length_set]; exact hil
      have hx1 : (l.set i ⟨c0, n0, st, a0, e0, q0, y0⟩)[i]? = some ⟨c0, n0, st, a0, e0, q0, y0⟩ := List.getElem?_set_self hil
      have hil2 : i < ((l.set i ⟨c0, n0, st, a0, e0, q0, y0⟩).set i ⟨c0, n0, st, a0, e, q0, y0⟩).length := by rw [List.length_set]; exact hil1
      have hx2 : ((l.set i ⟨c0, n0, st, a0, e0, q0, y0⟩).set i ⟨c0, n0, st, a0, e, q0, y0⟩)[i]? = some ⟨c0, n0, st, a0, e, q0, y0⟩ := List.getElem?_set_self hil1
      have hss : ((l.set i ⟨c0, n0, st, a0, e0, q0, y0⟩).set i ⟨c0, n0, st, a0, e, q0, y0⟩).set i ⟨c0, n0, st, a0, e, q0, y⟩ = l.set i ⟨c0, n0, st, a0, e, q0, y⟩ := by rw [List.set_set, List.set_set]
      obtain ⟨ea, ec, rfl⟩ := hoe.len
      refine enter Tryz.func29 rfl Tryz.ntmps29 rfl ?_
      repeat' (first | (apply WL_ev rfl rfl; exact Ev_as (v2 := S r) (Ev_str_slice hT rfl rfl rfl rfl (by omega) (by simp only [List.length_cons]; omega) (by omega)) hsl) | (apply WL_ev rfl rfl; exact Ev_strIndex hT rfl rfl rfl (by omega) (by rfl)) | (refine WL_isCall (f := 58) ?_; refine WL_call (ok_call hT rfl) rfl rfl rfl (hdc (hG.later hSt hn).v) ?_; rintro v w2 ⟨rfl, hc2⟩; replace hSt := hSt.call0 hc2; clear hc2) | (refine WL_alloc hT rfl rfl rfl hSt ?_; clear hSt; intro w nb hnb hSt; replace hSt := hSt.front; dsimp only [zcells] at hSt) | (refine WL_isCall (f := 44) ?_; refine WL_call (ok_call hT rfl) rfl rfl rfl (index_yes (s := ⟨pol, lim, l, ends, cur, fb, stop, m, j⟩) (hSt.own 1 _ _ rfl).1 (OwnSl.slAt gC_len hog (hSt.has.sublist ((List.sublist_append_left [_] _).trans ((List.sublist_cons_self _ _).trans (List.sublist_cons_self _ _))))) (by dsimp only; omega) hf) ?_; rintro v w2 ⟨rfl, hc2⟩; replace hSt := hSt.call0 hc2; clear hc2) | (apply WL_ev rfl rfl; exact Ev_load1 hT rfl rfl (hSt.at 2 rfl) (cell_get (c := I 1) hx (j := 2) rfl rs)) | (apply WL_ev rfl rfl; exact Ev_load1 hT rfl rfl (hSt.at 2 rfl) (cell_get (c := I a0) hx (j := 3) rfl rs)) | refine stepA ?_ | (refine stepS ?_; clear hSt; intro w hSt; dsimp only [spl, List.set] at hSt) | (refine stepB ?_; clear hSt; intro w nb hnb hSt; dsimp only [zcells, List.nil_append, List.cons_append] at hSt) | (refine W_quiet hT (by decide +kernel) hSt ?_; clear hSt; (repeat' (first | (refine QL_isCall (f := 26) ?_; refine QL_call (ok_call hT rfl) rfl rfl rfl (fun w hSt => (in_any _ _ _).mono (fun v w2 h => ⟨h.1, hSt.call0 h.2⟩)) ?_) | (apply QL_ev rfl rfl; (intro w hSt; (first | (exact Ev_as (v2 := S r) (Ev_str_slice hT rfl rfl rfl rfl (by omega) (by simp only [List.length_cons]; omega) (by omega)) hsl) | (exact Ev_strIndex hT rfl rfl rfl (by omega) (by rfl)) | (exact Ev_load1 hT rfl rfl (hSt.at 2 rfl) (cell_get (c := I 1) hx (j := 2) rfl rs)) | (exact Ev_load1 hT rfl rfl (hSt.at 2 rfl) (cell_get (c := I a0) hx (j := 3) rfl rs)) | exact Ev_auto))) | refine QL_pass rfl rfl ?_ | (refine QL_guardP rfl rfl (fun hc => ?_) (fun hc => ?_) <;> try exact absA) | (refine QL_guard rfl rfl (fun hc => ?_) (fun hc => ?_) <;> (try exact absA) <;> (fail_if_success (change true = true at hc)) <;> (fail_if_success (change false = false at hc))))); all_goals (refine QL_nil (fun w hSt => ?_))) | (refine stepG ?_ ?_ <;> intro hc <;> (try exact absA) <;> (fail_if_success (change true = true at hc)) <;> (fail_if_success (change false = false at hc))) | fail)
      refine W_ownS (Hs := [_, _]) [(0, false), (1, false), (2, false), (3, false), (4, false), (5, false), (6, false), (7, false), (8, false), (9, false), (10, false), (11, false), (12, false), (13, false), (14, false), (15, false), (16, false), (17, false), (18, false), (19, false), (20, false), (21, false), (22, false), (23, true), (24, false), (25, false), (26, true)] hT (by decide +kernel) rfl hSt ?_
      clear hSt; intro w hSt; (repeat' (first | (apply HL_ev rfl rfl (St.left (H0 := [_, _]) hSt); (intro w hSt; (first | exact Ev_auto))) | (refine HL_one ?_; refine WL_store1 hT rfl rfl 2 rfl rfl hSt rfl rfl (cell_lt hil (j := 2) (by decide) rs) ?_; clear hSt; intro w hSt; dsimp only [List.cons_append, List.nil_append, List.set] at hSt; replace hSt := St.row3 (cell_put (y := ⟨c0, n0, st, a0, e0, q0, y0⟩) hx (j := 2) (by decide) rfl rs) hSt; refine WL_nil (At_oneH (St.left (H0 := [_, _]) hSt) ?_)) | (refine HL_one ?_; refine WL_store1 hT rfl rfl 2 rfl rfl hSt rfl rfl (cell_lt hil1 (j := 4) (by decide) rs) ?_; clear hSt; intro w hSt; dsimp only [List.cons_append, List.nil_append, List.set] at hSt; replace hSt := St.row3 (cell_put (y := ⟨c0, n0, st, a0, e, q0, y0⟩) hx1 (j := 4) (by decide) rfl rs) hSt; refine WL_nil (At_oneH (St.left (H0 := [_, _]) hSt) ?_)))); refine HL_end ?_; simp only [List.length_cons, List.length_nil, List.drop_succ_cons, List.drop_zero]
      repeat' (first | (refine WL_store1 hT rfl rfl 2 rfl rfl hSt rfl rfl (cell_lt hil2 (j := 6) (by decide) rs) ?_; clear hSt; intro w hSt; dsimp only [List.cons_append, List.nil_append, List.set] at hSt; replace hSt := St.row3 (cell_put (y := ⟨c0, n0, st, a0, e, q0, y⟩) hx2 (j := 6) (by decide) rfl rs) hSt) | (refine WL_push1 hT rfl rfl rfl rfl rfl rfl rfl rfl rfl rfl rfl rfl (fun _ => rfl) rfl (H0 := _ :: _ :: _ :: Hj) hSt hoe (by omega) (by omega) ?_; clear hSt; intro ev2 w He2 u hoe2 hSt; obtain ⟨ea2, ec2, rfl⟩ := hoe2.len; dsimp only [List.cons_append] at hSt) | (refine WL_store1 hT rfl rfl 1 rfl rfl hSt rfl rfl rfl ?_; clear hSt; intro w hSt; dsimp only [List.set] at hSt) | refine stepA ?_ | (refine stepS ?_; clear hSt; intro w hSt; dsimp only [spl, List.set] at hSt) | (refine stepB ?_; clear hSt; intro w nb hnb hSt; dsimp only [zcells, List.nil_append, List.cons_append] at hSt) | (refine W_quiet hT (by decide +kernel) hSt ?_; clear hSt; (repeat' (first | (apply QL_ev rfl rfl; (intro w hSt; (first | exact Ev_auto))) | refine QL_pass rfl rfl ?_ | (refine QL_guardP rfl rfl (fun hc => ?_) (fun hc => ?_) <;> try exact absA) | (refine QL_guard rfl rfl (fun hc => ?_) (fun hc => ?_) <;> (try exact absA) <;> (fail_if_success (change true = true at hc)) <;> (fail_if_success (change false = false at hc))))); all_goals (refine QL_nil (fun w hSt => ?_))) | (refine stepG ?_ ?_ <;> intro hc <;> (try exact absA) <;> (fail_if_success (change true = true at hc)) <;> (fail_if_success (change false = false at hc))) | fail)
      all_goals
        rw [hss] at hSt
        exact ret1 rfl rfl ⟨rfl, _, ⟨_, _, _, _, _, own_set hgc hrs, own_int hoe2, hJ, rfl⟩, St.right (Ha := [_]) (hSt.perm (List.Perm.cons _ (List.Perm.cons _ (List.Perm.cons _ List.perm_append_comm))))⟩
    · rw [rep_end_no (s := ⟨pol, lim, l, ends, cur, fb, stop, m, j⟩) hd hf hA]
      rw [u8_iff] at hA
      rw [← hg0] at hA hx hfe
      obtain ⟨c0, n0, s0, a0, e0, q0, y0⟩ := g0
      dsimp only at hA hfe
      rcases q with _ | ⟨q1, qs⟩
      all_goals
        simp only [reduceCtorEq, true_and, false_and, and_false, not_false_eq_true, show (101 : UInt8).toNat = 101 from rfl] at hA
        refine enter Tryz.func29 rfl Tryz.ntmps29 rfl ?_
        repeat' (first | (apply WL_ev rfl rfl; exact Ev_as (v2 := S r) (Ev_str_slice hT rfl rfl rfl rfl (by omega) (by simp only [List.length_cons]; omega) (by omega)) hsl) | (apply WL_ev rfl rfl; exact Ev_strIndex hT rfl rfl rfl (by omega) (by rfl)) | (refine WL_isCall (f := 58) ?_; refine WL_call (ok_call hT rfl) rfl rfl rfl (hdc (hG.later hSt hn).v) ?_; rintro v w2 ⟨rfl, hc2⟩; replace hSt := hSt.call0 hc2; clear hc2) | (refine WL_alloc hT rfl rfl rfl hSt ?_; clear hSt; intro w nb hnb hSt; replace hSt := hSt.front; dsimp only [zcells] at hSt) | (refine WL_isCall (f := 44) ?_; refine WL_call (ok_call hT rfl) rfl rfl rfl (index_yes (s := ⟨pol, lim, l, ends, cur, fb, stop, m, j⟩) (hSt.own 1 _ _ rfl).1 (OwnSl.slAt gC_len hog (hSt.has.sublist ((List.sublist_append_left [_] _).trans ((List.sublist_cons_self _ _).trans (List.sublist_cons_self _ _))))) (by dsimp only; omega) hf) ?_; rintro v w2 ⟨rfl, hc2⟩; replace hSt := hSt.call0 hc2; clear hc2) | (apply WL_ev rfl rfl; exact Ev_load1 hT rfl rfl (hSt.at 2 rfl) (cell_get (c := I s0) hx (j := 2) rfl rs)) | (apply WL_ev rfl rfl; exact Ev_load1 hT rfl rfl (hSt.at 2 rfl) (cell_get (c := I a0) hx (j := 3) rfl rs)) | refine stepA ?_ | (refine stepS ?_; clear hSt; intro w hSt; dsimp only [spl, List.set] at hSt) | (refine stepB ?_; clear hSt; intro w nb hnb hSt; dsimp only [zcells, List.nil_append, List.cons_append] at hSt) | (refine W_quiet hT (by decide +kernel) hSt ?_; clear hSt; (repeat' (first | (refine QL_isCall (f := 26) ?_; refine QL_call (ok_call hT rfl) rfl rfl rfl (fun w hSt => (in_any _ _ _).mono (fun v w2 h => ⟨h.1, hSt.call0 h.2⟩)) ?_) | (apply QL_ev rfl rfl; (intro w hSt; (first | (exact Ev_as (v2 := S r) (Ev_str_slice hT rfl rfl rfl rfl (by omega) (by simp only [List.length_cons]; omega) (by omega)) hsl) | (exact Ev_strIndex hT rfl rfl rfl (by omega) (by rfl)) | (exact Ev_load1 hT rfl rfl (hSt.at 2 rfl) (cell_get (c := I s0) hx (j := 2) rfl rs)) | (exact Ev_load1 hT rfl rfl (hSt.at 2 rfl) (cell_get (c := I a0) hx (j := 3) rfl rs)) | exact Ev_auto))) | refine QL_pass rfl rfl ?_ | (refine QL_guardP rfl rfl (fun hc => ?_) (fun hc => ?_) <;> try exact absA) | (refine QL_guard rfl rfl (fun hc => ?_) (fun hc => ?_) <;> (try exact absA) <;> (fail_if_success (change true = true at hc)) <;> (fail_if_success (change false = false at hc))))); all_goals (refine QL_nil (fun w hSt => ?_))) | (refine stepG ?_ ?_ <;> intro hc <;> (try exact absA) <;> (fail_if_success (change true = true at hc)) <;> (fail_if_success (change false = false at hc))) | fail)
        all_goals first | exact ret1 rfl rfl ⟨rfl, _, ⟨_, _, _, _, _, hog, hoe, hJ, rfl⟩, St.right (Ha := [_]) (hSt.perm (List.Perm.cons _ (List.Perm.cons _ (List.Perm.cons _ List.perm_append_comm))))⟩ | (exfalso; omega)
end Go.Proofs.YthkimkgphaiagaaGreatDoor
