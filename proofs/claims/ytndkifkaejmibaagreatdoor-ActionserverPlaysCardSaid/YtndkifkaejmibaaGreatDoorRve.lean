/- The specification's server in memory: the outcomes; whether a goal is accepted; a goal is requested. No conditions. -/
import Derived.Test.YtndkifkaejmibaaGreatDoorRvd
import Derived.Test.YtndkifkaejmibaaGreatDoorSvh

namespace Go.Proofs.YtndkifkaejmibaaGreatDoor
open Go.RowKit
set_option maxRecDepth 4000
set_option linter.unusedVariables false
set_option linter.unusedSimpArgs false
set_option maxHeartbeats 16000000

theorem own_snocE {gv : Value} {l l3 : List Gl} {y : Gl} {Hg : List (Nat × Obj)} (e : l3 = l ++ [y]) (h : OwnSl gv 35 7 (l.flatMap gC ++ gC y) (l.length + 1) Hg) : OwnSl gv 35 7 (l3.flatMap gC) l3.length Hg := e ▸ own_snoc h
theorem own_all {l : List Gl} {b cap : Nat} {rs : List Value} (h1 : l.length ≤ cap) (h2 : rs.length = (cap - l.length) * 7) : OwnSl (.slice (some ⟨b, 0, none⟩) l.length cap) 35 7 (l.flatMap gC) l.length [(b, blk (l.flatMap gC ++ rs) 35)] :=
  ⟨flat_len gC_len _, .inr ⟨b, cap, rs, rfl, h1, h2, rfl⟩⟩
theorem dec_rec (s : Sv) (g0 : Gl) (ok : Bool) : ∃ e m2 j2 st2, recS s (114 :: enc (decG1 g0 ok)) = (e, ⟨s.pol, s.lim, s.l, s.ends, s.cur, s.fb, st2, m2, j2⟩) ∧ decideS s g0 ok = if e ≠ 0 then (e, ⟨s.pol, s.lim, s.l, s.ends, s.cur, s.fb, st2, m2, j2⟩) else (0, ⟨s.pol, s.lim, s.l ++ [decG1 g0 ok], s.ends, s.cur, s.fb, st2, m2, j2⟩) := by
  have hs := recS_same s (114 :: enc (decG1 g0 ok))
  unfold decideS
  generalize recS s (114 :: enc (decG1 g0 ok)) = r at hs
  obtain ⟨e, s2⟩ := r
  obtain ⟨pol, lim, l, ends, cur, fb, stop, m, j⟩ := s
  obtain ⟨pol2, lim2, l2, ends2, cur2, fb2, stop2, m2, j2⟩ := s2
  obtain ⟨h1, h2, h3, h4, h5, h6⟩ := hs
  dsimp only at h1 h2 h3 h4 h5 h6
  subst h1 h2 h3 h4 h5 h6
  exact ⟨e, m2, j2, stop2, rfl, rfl⟩
theorem R4.endS {s : Sv} (h : R4 s) (i : Nat) (st at_ : Int) (rs : List UInt8) : R4 (endS s i st at_ rs).2 := by
  have := h.recS (endR (endG (gAt s.l i) st at_ rs))
  unfold Go.Proofs.YtndkifkaejmibaaGreatDoor.endS
  split <;> exact this
theorem waitL_len (l : List Gl) : (waitL l).length ≤ l.length := by
  have := List.length_filter_le (fun k => (gAt l k).st == 1) (List.range l.length)
  rw [List.length_range] at this; exact this
section
variable {w0 : World} {br bw bv : Nat} {s : Sv} {H : List (Nat × Obj)} {n : Nat}
theorem routcomes_any (hW : RW br bw bv s H) (hl : s.l.length ≤ 64) (he : s.ends.length ≤ 1000000) (hel : ∀ i ∈ s.ends, i < s.l.length) (hh : Has w0 H) :
    Cl Tryz.prog 60 [Ptr br] w0 (fun v w' => ∃ H1, OwnSl v 35 7 ((outsS s).flatMap gC) (outsS s).length H1 ∧ St w0 NoneS H1 w') := by
  obtain ⟨gv, Hg, ev, He, Hj, hog, hoe, hJ, rfl⟩ := id hW
  have hb := hh.own 0 _ _ rfl
  have hSt := St.refl w0 NoneS
  have hg := OwnSl.slAt gC_len hog (hh.sublist sub_g)
  rw [ints_flat] at hoe
  have hes := OwnSl.slAt (f := fun k : Nat => [I (k : Int)]) (fun _ => rfl) hoe (hh.sublist (List.Sublist.trans (List.sublist_append_right Hg He) (List.Sublist.trans (List.sublist_append_left _ Hj) (List.sublist_cons_self _ _))))
  obtain ⟨ga, gcc, rfl, hcs⟩ := hg.map
  obtain ⟨ea, ecc, rfl, hce⟩ := hes.map
  clear hh hW hog hoe
  obtain ⟨pol, lim, l, ends, cur, fb, stop, m, j⟩ := s
  dsimp only at hl he hel hcs hce hb ⊢
  unfold outsS; dsimp only
  refine enter Tryz.func60 rfl Tryz.ntmps60 rfl ?_
  repeat' (first | (apply WL_ev rfl rfl; exact Ev_load1 hT rfl rfl (hSt.base hb (fun e => e)) rfl) | refine stepA ?_ | (refine stepS ?_; clear hSt; intro w hSt; dsimp only [spl, List.set] at hSt) | (refine stepB ?_; clear hSt; intro w nb hnb hSt; dsimp only [zcells, List.nil_append, List.cons_append] at hSt) | (refine stepG ?_ ?_ <;> intro hc <;> (try exact absA) <;> (fail_if_success (change true = true at hc)) <;> (fail_if_success (change false = false at hc))) | fail)
  refine W_sub (L' := [(4, I ((0 : Nat) : Int)), (3, .slice none 0 0), (0, Ptr br)]) (by (repeat (first | exact Sub.nil _ | refine Sub.cons rfl ?_))) ?_
  refine W_loop2 (fun k (i : Nat) (v : Value) w => k = ends.length - i ∧ i ≤ ends.length ∧ ∃ H1, OwnSl v 35 7 (((ends.take i).map fun i => gAt l i).flatMap gC) i H1 ∧ St w0 NoneS ([] ++ H1) w) (fun i v => [(4, I (i : Int)), (3, v)]) ends.length 0 (.slice none 0 0) rfl (by (repeat (first | exact Str.nil _ | apply Str.drop rfl | apply Str.keepU rfl | apply Str.keep rfl))) ⟨rfl, by omega, [], OwnSl.nil _ _, hSt⟩ (by (repeat (first | exact Sub.nil _ | refine Sub.cons rfl ?_))) ?_
  clear hSt
  rintro k i v w ⟨hk, hi, H1, ho, hSt⟩ K hK
  by_cases hil : i < ends.length
  · obtain ⟨x, hx⟩ : ∃ x, ends[i]? = some x := ⟨_, List.getElem?_eq_getElem hil⟩
    have hxl := hel x (List.mem_of_getElem? hx)
    have hgx := gAt_some hxl
    obtain ⟨b1, o1, m1, E1, z1, rfl, hb1, hc1, _⟩ := hce i _ hx
    obtain ⟨b2, o2, m2, E2, z2, rfl, hb2, hc2, _⟩ := hcs x _ hgx
    have hq1 := SlAt.cell (j := 0) hc1 rfl
    rw [← Int.toNat_natCast i] at hq1
    rw [← Int.toNat_natCast x] at hc2
    have hlt9 : ends.length - (i + 1) < k := by omega
    have hst : ((ends.take (i + 1)).map fun i => gAt l i).flatMap gC = ((ends.take i).map fun i => gAt l i).flatMap gC ++ gC (gAt l x) := by
      rw [List.take_add_one, hx, List.map_append, List.flatMap_append]; simp
    obtain ⟨va, vc, rfl⟩ := ho.len
    repeat' (first | (apply WL_ev rfl rfl; exact Ev_load1 hT rfl rfl (hSt.base hb (fun e => e)) rfl) | (refine W_ownS (Hs := []) [(0, false), (1, false), (2, false), (3, false), (4, false), (5, false), (6, false), (7, false), (8, false), (9, false), (10, false), (11, false), (12, false), (13, false), (14, true), (15, true)] hT (by decide +kernel) rfl hSt ?_; clear hSt; intro w hSt; (repeat' (first | (apply HL_ev rfl rfl (St.left (H0 := []) hSt); (intro w hSt; first | exact Ev_load1 hT rfl rfl (hSt.base hb1 (fun e => e)) hq1 | exact Ev_load1 hT rfl rfl (hSt.base hb (fun e => e)) rfl | exact Ev_loadN hT rfl rfl (hSt.base hb2 (fun e => e)) hc2 rfl | (first | exact Ev_auto))) | (refine HL_one ?_; refine WL_buildSlice hT rfl rfl rfl rfl rfl rfl rfl rfl hSt ?_; clear hSt; intro w nb hnb hSt; refine WL_nil (At_oneH (St.left (H0 := []) hSt) ?_)) | (refine HL_one ?_; refine WL_appendL (H0 := []) (H1 := H1) hT rfl rfl rfl rfl rfl rfl rfl hSt ho rfl rfl (by omega) (by omega) ?_; clear hSt; intro v2 w H2 ho2 hSt; refine WL_nil (At_oneH (St.left (H0 := []) hSt) ?_)))); refine HL_end ?_; simp only [List.length_cons, List.length_nil, List.drop_succ_cons, List.drop_zero]) | refine stepA ?_ | (refine stepS ?_; clear hSt; intro w hSt; dsimp only [spl, List.set] at hSt) | (refine stepB ?_; clear hSt; intro w nb hnb hSt; dsimp only [zcells, List.nil_append, List.cons_append] at hSt) | (refine stepG ?_ ?_ <;> intro hc <;> (try exact absA) <;> (fail_if_success (change true = true at hc)) <;> (fail_if_success (change false = false at hc))) | fail)
    all_goals first | exact At_loop2 hK (k' := ends.length - (i + 1)) (i + 1) _ hlt9 ⟨rfl, by omega, H2, by rw [hst]; exact ho2, hSt⟩ (by (repeat (first | exact Sub.nil _ | refine Sub.cons rfl ?_))) | (exfalso; omega)
  · obtain rfl : i = ends.length := by omega
    rw [List.take_length] at ho
    repeat' (first | (apply WL_ev rfl rfl; exact Ev_load1 hT rfl rfl (hSt.base hb (fun e => e)) rfl) | refine stepA ?_ | (refine stepS ?_; clear hSt; intro w hSt; dsimp only [spl, List.set] at hSt) | (refine stepB ?_; clear hSt; intro w nb hnb hSt; dsimp only [zcells, List.nil_append, List.cons_append] at hSt) | (refine stepG ?_ ?_ <;> intro hc <;> (try exact absA) <;> (fail_if_success (change true = true at hc)) <;> (fail_if_success (change false = false at hc))) | fail)
    all_goals first | exact ret1 rfl rfl ⟨H1, by rw [List.length_map]; exact ho, hSt⟩ | (exfalso; omega)
theorem raccepts_any {gv ev : Value} (hb : w0.heap[br]? = some (rsO bw gv ev s)) (hg : SlAt w0 gv 7 (s.l.map gC)) (hl : s.l.length ≤ 1000000) (hcu0 : curF s.l = s.cur) :
    Cl Tryz.prog 79 [Ptr br] w0 (fun v w' => v = B (acceptsR s) ∧ St w0 NoneS [] w') := by
  have hSt := St.refl w0 NoneS
  obtain ⟨pol, lim, l, ends, cur, fb, stop, m, j⟩ := s
  dsimp only at hb hg hl hcu0 ⊢
  unfold acceptsR; dsimp only
  rw [hcu0]
  have hwl := waitL_len l
  by_cases h1 : pol = 1
  · rw [if_pos h1]
    refine enter Tryz.func79 rfl Tryz.ntmps79 rfl ?_
    repeat' (first | (refine WL_isCall (f := 77) ?_; refine WL_call (ok_call hT rfl) rfl rfl rfl (rcur_l (s := ⟨_, _, l, _, _, _, _, _, _⟩) (l := l) rfl hcu0 (hSt.base hb (fun e => e)) (hg.later hSt (fun _ e => e)) (by dsimp only; omega)) ?_; rintro v w2 ⟨rfl, hc2⟩; replace hSt := hSt.call0 hc2; clear hc2) | (apply WL_ev rfl rfl; exact Ev_load1 hT rfl rfl (hSt.base hb (fun e => e)) rfl) | refine stepA ?_ | (refine stepS ?_; clear hSt; intro w hSt; dsimp only [spl, List.set] at hSt) | (refine stepB ?_; clear hSt; intro w nb hnb hSt; dsimp only [zcells, List.nil_append, List.cons_append] at hSt) | (refine stepG ?_ ?_ <;> intro hc <;> (try exact absA) <;> (fail_if_success (change true = true at hc)) <;> (fail_if_success (change false = false at hc))) | fail)
    all_goals first | exact ret1 rfl rfl ⟨rfl, hSt.nil⟩ | (exfalso; omega)
  · rw [if_neg h1]
    by_cases h3 : pol = 3
    · rw [if_pos h3]
      by_cases hcu : cur < 0
      · refine enter Tryz.func79 rfl Tryz.ntmps79 rfl ?_
        repeat' (first | (apply WL_ev rfl rfl; exact Ev_load1 hT rfl rfl (hSt.base hb (fun e => e)) rfl) | (refine W_ownS (Hs := []) [(0, false), (1, true), (2, false), (3, false), (4, false), (7, false), (8, false), (9, false), (10, false), (5, true), (6, false), (11, false), (12, false)] hT (by decide +kernel) rfl hSt ?_; clear hSt; intro w hSt; (repeat' (first | (apply HL_ev rfl rfl (St.left (H0 := []) hSt); (intro w hSt; first | exact Ev_load1 hT rfl rfl (hSt.base hb (fun e => e)) rfl | exact Ev_as (v2 := B true) (Ev_lss rfl rfl) (by rw [decide_eq_true hcu]) | exact Ev_as (v2 := B false) (Ev_lss rfl rfl) (by rw [decide_eq_false hcu]) | (first | exact Ev_auto))) | (refine HL_pass rfl rfl (St.left (H0 := []) hSt) ?_) | (refine HL_one ?_; refine WL_pass rfl rfl ?_; refine WL_nil (At_oneH (St.left (H0 := []) hSt) ?_)) | (refine HL_one ?_; refine WL_isCall (f := 77) ?_; refine WL_call (ok_call hT rfl) rfl rfl rfl (rcur_l (s := ⟨_, _, l, _, _, _, _, _, _⟩) (l := l) rfl hcu0 (hSt.base hb (fun e => e)) (hg.later hSt (fun _ e => e)) (by dsimp only; omega)) ?_; rintro v w2 ⟨rfl, hc2⟩; replace hSt := hSt.call0 hc2; clear hc2; refine WL_nil (At_oneH (St.left (H0 := []) hSt) ?_)) | (refine HL_one ?_; refine WL_isCall (f := 80) ?_; refine WL_call (ok_call hT rfl) rfl rfl rfl (rwaiting_any (s := ⟨_, _, l, _, _, _, _, _, _⟩) (hSt.base hb (fun e => e)) (hg.later hSt (fun _ e => e)) (by dsimp only; omega)) ?_; rintro v w2 ⟨H1, ho1, hc2⟩; replace hSt := hSt.newN hc2; clear hc2; dsimp only at ho1; obtain ⟨a1, c1, rfl⟩ := ho1.len; refine WL_nil (At_oneH (St.left (H0 := []) hSt) ?_)))); refine HL_end ?_; simp only [List.length_cons, List.length_nil, List.drop_succ_cons, List.drop_zero]) | refine stepA ?_ | (refine stepS ?_; clear hSt; intro w hSt; dsimp only [spl, List.set] at hSt) | (refine stepB ?_; clear hSt; intro w nb hnb hSt; dsimp only [zcells, List.nil_append, List.cons_append] at hSt) | (refine stepG ?_ ?_ <;> intro hc <;> (try exact absA) <;> (fail_if_success (change true = true at hc)) <;> (fail_if_success (change false = false at hc))) | fail)
        all_goals first | exact ret1 rfl rfl ⟨by congr 1; simp [hcu], hSt.nil⟩ | (exfalso; omega)
      · refine enter Tryz.func79 rfl Tryz.ntmps79 rfl ?_
        repeat' (first | (apply WL_ev rfl rfl; exact Ev_load1 hT rfl rfl (hSt.base hb (fun e => e)) rfl) | (refine W_ownS (Hs := []) [(0, false), (1, true), (2, false), (3, false), (4, false), (7, false), (8, false), (9, false), (10, false), (5, true), (6, false), (11, false), (12, false)] hT (by decide +kernel) rfl hSt ?_; clear hSt; intro w hSt; (repeat' (first | (apply HL_ev rfl rfl (St.left (H0 := []) hSt); (intro w hSt; first | exact Ev_load1 hT rfl rfl (hSt.base hb (fun e => e)) rfl | exact Ev_as (v2 := B true) (Ev_lss rfl rfl) (by rw [decide_eq_true hcu]) | exact Ev_as (v2 := B false) (Ev_lss rfl rfl) (by rw [decide_eq_false hcu]) | (first | exact Ev_auto))) | (refine HL_pass rfl rfl (St.left (H0 := []) hSt) ?_) | (refine HL_one ?_; refine WL_pass rfl rfl ?_; refine WL_nil (At_oneH (St.left (H0 := []) hSt) ?_)) | (refine HL_one ?_; refine WL_isCall (f := 77) ?_; refine WL_call (ok_call hT rfl) rfl rfl rfl (rcur_l (s := ⟨_, _, l, _, _, _, _, _, _⟩) (l := l) rfl hcu0 (hSt.base hb (fun e => e)) (hg.later hSt (fun _ e => e)) (by dsimp only; omega)) ?_; rintro v w2 ⟨rfl, hc2⟩; replace hSt := hSt.call0 hc2; clear hc2; refine WL_nil (At_oneH (St.left (H0 := []) hSt) ?_)) | (refine HL_one ?_; refine WL_isCall (f := 80) ?_; refine WL_call (ok_call hT rfl) rfl rfl rfl (rwaiting_any (s := ⟨_, _, l, _, _, _, _, _, _⟩) (hSt.base hb (fun e => e)) (hg.later hSt (fun _ e => e)) (by dsimp only; omega)) ?_; rintro v w2 ⟨H1, ho1, hc2⟩; replace hSt := hSt.newN hc2; clear hc2; dsimp only at ho1; obtain ⟨a1, c1, rfl⟩ := ho1.len; refine WL_nil (At_oneH (St.left (H0 := []) hSt) ?_)))); refine HL_end ?_; simp only [List.length_cons, List.length_nil, List.drop_succ_cons, List.drop_zero]) | refine stepA ?_ | (refine stepS ?_; clear hSt; intro w hSt; dsimp only [spl, List.set] at hSt) | (refine stepB ?_; clear hSt; intro w nb hnb hSt; dsimp only [zcells, List.nil_append, List.cons_append] at hSt) | (refine stepG ?_ ?_ <;> intro hc <;> (try exact absA) <;> (fail_if_success (change true = true at hc)) <;> (fail_if_success (change false = false at hc))) | fail)
        all_goals first | exact ret1 rfl rfl ⟨by congr 1; simp [hcu], hSt.nil⟩ | (exfalso; omega)
    · rw [if_neg h3]
      refine enter Tryz.func79 rfl Tryz.ntmps79 rfl ?_
      repeat' (first | (apply WL_ev rfl rfl; exact Ev_load1 hT rfl rfl (hSt.base hb (fun e => e)) rfl) | refine stepA ?_ | (refine stepS ?_; clear hSt; intro w hSt; dsimp only [spl, List.set] at hSt) | (refine stepB ?_; clear hSt; intro w nb hnb hSt; dsimp only [zcells, List.nil_append, List.cons_append] at hSt) | (refine stepG ?_ ?_ <;> intro hc <;> (try exact absA) <;> (fail_if_success (change true = true at hc)) <;> (fail_if_success (change false = false at hc))) | fail)
      all_goals first | exact ret1 rfl rfl ⟨rfl, hSt.nil⟩ | (exfalso; omega)
theorem raccepts_l {gv ev : Value} {ok : Bool} (hok : acceptsR s = ok) (hcu0 : curF s.l = s.cur) (hl : s.l.length ≤ 64) (hb : w0.heap[br]? = some (rsO bw gv ev s)) (hg : SlAt w0 gv 7 (s.l.map gC)) :
    Cl Tryz.prog 79 [Ptr br] w0 (fun v w' => v = B ok ∧ St w0 NoneS [] w') := hok ▸ raccepts_any hb hg (by omega) hcu0
theorem rrequest_any (hW : RW br bw bv s H) (hk : Svk s (n + 66)) (h4 : R4 s) (hI : Inv s) (hh : Has w0 H) (c d at_ : Int) (rq : List UInt8) :
    Cl Tryz.prog 53 [Ptr br, idV c d, I at_, S rq] w0 (fun v w' => v = .tuple ⟨[B (requestS s c d at_ rq).1, I (requestS s c d at_ rq).2.1]⟩ ∧ ∃ H', RW br bw bv (requestS s c d at_ rq).2.2 H' ∧ St w0 (InH H) H' w') := by
  obtain ⟨gv, Hg, ev, He, Hj, hog, hoe, hJ, rfl⟩ := id hW
  have hSt := hh.st
  generalize InH _ = SS at hSt ⊢
  clear hh
  have hl := hk.l
  have hcu0 := hI.cu
  have hcl0 := hI.toInv0.clear
  obtain ⟨ok, hok⟩ : ∃ ok, acceptsB s = ok := ⟨_, rfl⟩
  have hac := fun {w : World} {gv ev : Value} => raccepts_l (w0 := w) (br := br) (bw := bw) (gv := gv) (ev := ev) (hI.accepts.symm.trans hok) hcu0 hl
  unfold requestS
  rw [hok]
  obtain ⟨pol, lim, l, ends, cur, fb, stop, m, j⟩ := s
  dsimp only at hog hoe hJ hSt hl hcu0 hcl0 ⊢
  by_cases hbd : ¬ ((1 ≤ c ∧ c ≤ 2147483647) ∧ (1 ≤ d ∧ d ≤ 2147483647) ∧ (0 ≤ at_ ∧ at_ ≤ 1099511627776))
  · rw [if_pos hbd]
    refine enter Tryz.func53 rfl Tryz.ntmps53 rfl ?_
    repeat' (first | (refine WL_box rfl rfl rfl hSt ?_; clear hSt; intro w nb hnb hSt; replace hSt := hSt.front; dsimp only [zcells] at hSt; obtain ⟨kb, rfl⟩ : ∃ kb, kb = nb := ⟨nb, rfl⟩) | refine stepA ?_ | (refine stepS ?_; clear hSt; intro w hSt; dsimp only [spl, List.set] at hSt) | (refine stepB ?_; clear hSt; intro w nb hnb hSt; dsimp only [zcells, List.nil_append, List.cons_append] at hSt) | (refine stepG ?_ ?_ <;> intro hc <;> (try exact absA) <;> (fail_if_success (change true = true at hc)) <;> (fail_if_success (change false = false at hc))) | fail)
    all_goals first | exact ret2 rfl rfl rfl ⟨rfl, _, hW, hSt.right (Ha := [_])⟩ | (exfalso; omega)
  rw [if_neg hbd]
  by_cases hrl : 2000 < rq.length
  · rw [if_pos hrl]
    refine enter Tryz.func53 rfl Tryz.ntmps53 rfl ?_
    repeat' (first | (refine WL_box rfl rfl rfl hSt ?_; clear hSt; intro w nb hnb hSt; replace hSt := hSt.front; dsimp only [zcells] at hSt; obtain ⟨kb, rfl⟩ : ∃ kb, kb = nb := ⟨nb, rfl⟩) | refine stepA ?_ | (refine stepS ?_; clear hSt; intro w hSt; dsimp only [spl, List.set] at hSt) | (refine stepB ?_; clear hSt; intro w nb hnb hSt; dsimp only [zcells, List.nil_append, List.cons_append] at hSt) | (refine stepG ?_ ?_ <;> intro hc <;> (try exact absA) <;> (fail_if_success (change true = true at hc)) <;> (fail_if_success (change false = false at hc))) | fail)
    all_goals first | exact ret2 rfl rfl rfl ⟨rfl, _, hW, hSt.right (Ha := [_])⟩ | (exfalso; omega)
  rw [if_neg hrl]
  rcases stop with _ | _
  · rw [if_neg (by simp)]
    rcases hf : findG l c d with _ | i
    · dsimp only
      by_cases hla : at_ < latF l
      · rw [if_pos hla]
        refine enter Tryz.func53 rfl Tryz.ntmps53 rfl ?_
        repeat' (first | (refine WL_box rfl rfl rfl hSt ?_; clear hSt; intro w nb hnb hSt; replace hSt := hSt.front; dsimp only [zcells] at hSt; obtain ⟨kb, rfl⟩ : ∃ kb, kb = nb := ⟨nb, rfl⟩) | (refine WL_isCall (f := 73) ?_; refine WL_call (ok_call hT rfl) rfl rfl rfl (rlat_l (s := ⟨_, _, l, _, _, _, _, _, _⟩) (l := l) rfl (hSt.own 1 _ _ rfl).1 (OwnSl.slAt gC_len hog (hSt.has.sublist (sub_g.trans (List.sublist_cons_self _ _)))) (by dsimp only; omega)) ?_; rintro v w2 ⟨rfl, hc2⟩; replace hSt := hSt.call0 hc2; clear hc2) | (refine WL_isCall (f := 76) ?_; refine WL_call (ok_call hT rfl) rfl rfl rfl (rfind_no (s := ⟨_, _, l, _, _, _, _, _, _⟩) (hSt.own 1 _ _ rfl).1 (OwnSl.slAt gC_len hog (hSt.has.sublist (sub_g.trans (List.sublist_cons_self _ _)))) (by dsimp only; omega) hf) ?_; rintro v w2 ⟨rfl, hc2⟩; replace hSt := hSt.call0 hc2; clear hc2) | refine stepA ?_ | (refine stepS ?_; clear hSt; intro w hSt; dsimp only [spl, List.set] at hSt) | (refine stepB ?_; clear hSt; intro w nb hnb hSt; dsimp only [zcells, List.nil_append, List.cons_append] at hSt) | (refine stepG ?_ ?_ <;> intro hc <;> (try exact absA) <;> (fail_if_success (change true = true at hc)) <;> (fail_if_success (change false = false at hc))) | fail)
        all_goals first | exact ret2 rfl rfl rfl ⟨rfl, _, hW, hSt.right (Ha := [_])⟩ | (exfalso; omega)
      rw [if_neg hla]
      by_cases h64 : 64 ≤ l.length
      · rw [if_pos h64]
        obtain ⟨ga, gcc, rfl⟩ := hog.len
        refine enter Tryz.func53 rfl Tryz.ntmps53 rfl ?_
        repeat' (first | (refine WL_box rfl rfl rfl hSt ?_; clear hSt; intro w nb hnb hSt; replace hSt := hSt.front; dsimp only [zcells] at hSt; obtain ⟨kb, rfl⟩ : ∃ kb, kb = nb := ⟨nb, rfl⟩) | (refine WL_isCall (f := 73) ?_; refine WL_call (ok_call hT rfl) rfl rfl rfl (rlat_l (s := ⟨_, _, l, _, _, _, _, _, _⟩) (l := l) rfl (hSt.own 1 _ _ rfl).1 (OwnSl.slAt gC_len hog (hSt.has.sublist (sub_g.trans (List.sublist_cons_self _ _)))) (by dsimp only; omega)) ?_; rintro v w2 ⟨rfl, hc2⟩; replace hSt := hSt.call0 hc2; clear hc2) | (refine WL_isCall (f := 76) ?_; refine WL_call (ok_call hT rfl) rfl rfl rfl (rfind_no (s := ⟨_, _, l, _, _, _, _, _, _⟩) (hSt.own 1 _ _ rfl).1 (OwnSl.slAt gC_len hog (hSt.has.sublist (sub_g.trans (List.sublist_cons_self _ _)))) (by dsimp only; omega) hf) ?_; rintro v w2 ⟨rfl, hc2⟩; replace hSt := hSt.call0 hc2; clear hc2) | refine stepA ?_ | (refine stepS ?_; clear hSt; intro w hSt; dsimp only [spl, List.set] at hSt) | (refine stepB ?_; clear hSt; intro w nb hnb hSt; dsimp only [zcells, List.nil_append, List.cons_append] at hSt) | (refine stepG ?_ ?_ <;> intro hc <;> (try exact absA) <;> (fail_if_success (change true = true at hc)) <;> (fail_if_success (change false = false at hc))) | fail)
        all_goals first | exact ret2 rfl rfl rfl ⟨rfl, _, hW, hSt.right (Ha := [_])⟩ | (exfalso; omega)
      rw [if_neg h64]
      obtain ⟨ga, gcc, rfl⟩ := hog.len
      by_cases hp : pol = 2
      · subst hp
        obtain rfl : ok = true := by rw [← hok]; unfold acceptsB; simp
        rw [if_pos rfl]
        unfold clearS
        dsimp only
        have hlo : ∀ i ∈ waitL l, i < l.length ∧ (i : Int) ≠ cur := fun i hi => clearL_lt (s := ⟨2, lim, l, ends, cur, fb, false, m, j⟩) (by dsimp only; rw [hcl0]; exact hi)
        rw [hcl0]
        have hol := waitL_len l
        obtain ⟨L, hL⟩ : ∃ L, L = waitL l := ⟨_, rfl⟩
        rw [← hL] at hol hlo ⊢
        refine enter Tryz.func53 rfl Tryz.ntmps53 rfl ?_
        repeat' (first | (refine WL_box rfl rfl rfl hSt ?_; clear hSt; intro w nb hnb hSt; replace hSt := hSt.front; dsimp only [zcells] at hSt; obtain ⟨kb, rfl⟩ : ∃ kb, kb = nb := ⟨nb, rfl⟩) | (refine WL_isCall (f := 73) ?_; refine WL_call (ok_call hT rfl) rfl rfl rfl (rlat_l (s := ⟨_, _, l, _, _, _, _, _, _⟩) (l := l) rfl (hSt.own 1 _ _ rfl).1 (OwnSl.slAt gC_len hog (hSt.has.sublist (sub_g.trans (List.sublist_cons_self _ _)))) (by dsimp only; omega)) ?_; rintro v w2 ⟨rfl, hc2⟩; replace hSt := hSt.call0 hc2; clear hc2) | (refine WL_isCall (f := 76) ?_; refine WL_call (ok_call hT rfl) rfl rfl rfl (rfind_no (s := ⟨_, _, l, _, _, _, _, _, _⟩) (hSt.own 1 _ _ rfl).1 (OwnSl.slAt gC_len hog (hSt.has.sublist (sub_g.trans (List.sublist_cons_self _ _)))) (by dsimp only; omega) hf) ?_; rintro v w2 ⟨rfl, hc2⟩; replace hSt := hSt.call0 hc2; clear hc2) | (refine WL_alloc hT rfl rfl rfl hSt ?_; clear hSt; intro w nb hnb hSt; replace hSt := hSt.front; dsimp only [zcells] at hSt) | (refine WL_isCall (f := 79) ?_; refine WL_call (ok_call hT rfl) rfl rfl rfl (hac (hSt.own 2 _ _ rfl).1 (OwnSl.slAt gC_len hog (hSt.has.sublist ((sub_g.trans (List.sublist_cons_self _ _)).trans (List.sublist_cons_self _ _))))) ?_; rintro v w2 ⟨rfl, hc2⟩; replace hSt := hSt.call0 hc2; clear hc2) | (refine WL_isCall (f := 80) ?_; refine WL_call (ok_call hT rfl) rfl rfl rfl (rwaiting_any (s := ⟨_, _, l, _, _, _, _, _, _⟩) (hSt.own 2 _ _ rfl).1 (OwnSl.slAt gC_len hog (hSt.has.sublist ((sub_g.trans (List.sublist_cons_self _ _)).trans (List.sublist_cons_self _ _)))) (by dsimp only; omega)) ?_; rintro v w2 ⟨H1, ho1, hc2⟩; replace hSt := hSt.newN hc2; clear hc2; dsimp only at ho1; rw [← hL] at ho1; obtain ⟨a1, c1, rfl⟩ := ho1.len) | refine stepA ?_ | (refine stepS ?_; clear hSt; intro w hSt; dsimp only [spl, List.set] at hSt) | (refine stepB ?_; clear hSt; intro w nb hnb hSt; dsimp only [zcells, List.nil_append, List.cons_append] at hSt) | (refine stepG ?_ ?_ <;> intro hc <;> (try exact absA) <;> (fail_if_success (change true = true at hc)) <;> (fail_if_success (change false = false at hc))) | fail)
        all_goals try (exfalso; omega)
        replace hSt := hSt.perm List.perm_append_comm
        refine W_sub (L' := [(13, I ((0 : Nat) : Int)), (0, Ptr br), (2, I at_), (12, .slice a1 L.length c1), (11, Ptr nb)]) (by (repeat (first | exact Sub.nil _ | refine Sub.cons rfl ?_))) ?_
        refine W_loop1 (fun k (i : Nat) w => k = L.length - i ∧ i ≤ L.length ∧ ∃ s' Hs, RW br bw bv s' Hs ∧ Svk s' (n + 66 - i) ∧ R4 s' ∧ Inv s' ∧ s'.pol = 2 ∧ s'.cur = cur ∧ s'.l.length = l.length ∧ endAll ⟨2, lim, l, ends, cur, fb, false, m, j⟩ L 6 at_ wCanceled = endAll s' (L.drop i) 6 at_ wCanceled ∧ St w0 SS (H1 ++ (_ :: _ :: Hs)) w) (fun i => [(13, I (i : Int))]) L.length 0 rfl (by (repeat (first | exact Str.nil _ | apply Str.drop rfl | apply Str.keepU rfl | apply Str.keep rfl))) ⟨rfl, by omega, _, _, hW, hk.le (by omega), h4, hI, rfl, rfl, rfl, rfl, hSt⟩ (by (repeat (first | exact Sub.nil _ | refine Sub.cons rfl ?_))) ?_
        clear hSt hW hk h4 hI hog hoe hJ hac hok hcl0 hcu0
        rintro k i w ⟨hk, hi, s', Hs, hW, hkv, h4v, hIv, hpv, hcv, hsl, heq, hSt⟩ K hK
        rw [heq]
        by_cases hil : i < L.length
        · obtain ⟨x, hx⟩ : ∃ x, L[i]? = some x := ⟨_, List.getElem?_eq_getElem hil⟩
          have hxl := hlo x (List.mem_of_getElem? hx)
          have hlt9 : L.length - (i + 1) < k := by omega
          obtain ⟨ob, oc, rs2, hsv, hoc, hrs2, rfl⟩ := ho1.some_ (by omega)
          injection hsv with e1 e2 e3
          subst e1 e3
          have hend := fun {w : World} hh => rend_any (w0 := w) hW (hkv.le (k := 1) (by omega)) h4v hh (by rw [hsl]; exact hxl.1) 6 at_ wCanceled
          have hcell := ints_at hx rs2
          have hdr : L.drop i = x :: L.drop (i + 1) := by
            obtain ⟨h, rfl⟩ := List.getElem?_eq_some_iff.1 hx
            exact List.drop_eq_getElem_cons h
          rw [hdr] at heq ⊢
          have hk2 := (hkv.le (k := n + 66 - (i + 1) + 1) (by omega)).endS x 6 at_ wCanceled
          have h42 := h4v.endS x 6 at_ wCanceled
          have hI2 := hIv.endS (i := x) (by rw [hsl]; exact hxl.1) (by rw [hcv]; exact hxl.2) (st := 6) ⟨by decide, by decide⟩ at_ wCanceled
          have hl2 := endS_len s' x 6 at_ wCanceled
          have hp2 := endS_pol s' x 6 at_ wCanceled
          have hcc := endS_cur (s := s') (i := x) (by rw [hcv]; exact hxl.2) 6 at_ wCanceled
          by_cases he : (endS s' x 6 at_ wCanceled).1 = 0
          · rw [endAll_ok he] at heq ⊢
            generalize endS s' x 6 at_ wCanceled = r at hend he hk2 h42 hI2 hl2 hp2 hcc heq ⊢
            obtain ⟨e, s2⟩ := r
            dsimp only at hend he hk2 h42 hI2 hl2 hp2 hcc heq ⊢
            subst he
            repeat' (first | (apply WL_ev rfl rfl; exact Ev_load1 hT rfl rfl (hSt.at 0 rfl) hcell) | (refine WL_isCall (f := 74) ?_; refine WL_call (ok_call hT rfl) rfl rfl rfl (hend (St.hasE (Ha := [_, _, _]) hSt)) ?_; rintro v w2 ⟨rfl, H2, hW2, hc2⟩; replace hSt := St.callE (Ha := [_, _, _]) hSt hc2; clear hc2) | refine stepA ?_ | (refine stepS ?_; clear hSt; intro w hSt; dsimp only [spl, List.set] at hSt) | (refine stepB ?_; clear hSt; intro w nb hnb hSt; dsimp only [zcells, List.nil_append, List.cons_append] at hSt) | (refine stepG ?_ ?_ <;> intro hc <;> (try exact absA) <;> (fail_if_success (change true = true at hc)) <;> (fail_if_success (change false = false at hc))) | fail)
            exact At_loop1 hK (k' := L.length - (i + 1)) (i + 1) hlt9 ⟨rfl, hil, s2, _, hW2, hk2, h42, hI2, hp2.trans hpv, hcc.trans hcv, hl2.trans hsl, heq, hSt⟩ (by (repeat (first | exact Sub.nil _ | refine Sub.cons rfl ?_)))
          · rw [endAll_no he]
            generalize endS s' x 6 at_ wCanceled = r at hend he hk2 h42 hI2 hl2 hp2 hcc ⊢
            obtain ⟨e, s2⟩ := r
            dsimp only at hend he ⊢
            rw [if_pos he]
            repeat' (first | (apply WL_ev rfl rfl; exact Ev_load1 hT rfl rfl (hSt.at 0 rfl) hcell) | (refine WL_isCall (f := 74) ?_; refine WL_call (ok_call hT rfl) rfl rfl rfl (hend (St.hasE (Ha := [_, _, _]) hSt)) ?_; rintro v w2 ⟨rfl, H2, hW2, hc2⟩; replace hSt := St.callE (Ha := [_, _, _]) hSt hc2; clear hc2) | refine stepA ?_ | (refine stepS ?_; clear hSt; intro w hSt; dsimp only [spl, List.set] at hSt) | (refine stepB ?_; clear hSt; intro w nb hnb hSt; dsimp only [zcells, List.nil_append, List.cons_append] at hSt) | (refine stepG ?_ ?_ <;> intro hc <;> (try exact absA) <;> (fail_if_success (change true = true at hc)) <;> (fail_if_success (change false = false at hc))) | fail)
            exact ret2 rfl rfl rfl ⟨rfl, _, hW2, hSt.right (Ha := [_, _, _])⟩
        · obtain rfl : i = L.length := by omega
          rw [List.drop_length, endAll]
          dsimp only
          rw [if_neg (show ¬ ((0 : Int) ≠ 0) by decide)]
          clear heq hlo
          replace hSt := hSt.right (Ha := H1)
          replace hkv := hkv.le (k := 1) (by omega)
          replace hIv := hIv.toInv0
          obtain ⟨pol1, lim1, l1, ends1, cur1, fb1, stop1, m1, j1⟩ := s'
          dsimp only at hpv hcv hsl
          subst hpv
          obtain ⟨gv, Hg, ev, He, Hj, hog, hoe, hJ, rfl⟩ := hW
          dsimp only at hog hoe hJ hSt
          obtain ⟨ga1, gcc1, rfl⟩ := hog.len
          have hrc := fun {w : World} {gv ev : Value} {X Hj : List (Nat × Obj)} hJ hh => rrecord_any (w0 := w) (br := br) (bw := bw) (bv := bv) (gv := gv) (ev := ev) (X := X) (Hj := Hj) (s := ⟨2, lim1, l1, ends1, cur1, fb1, stop1, m1, j1⟩) hJ hkv h4v hh (114 :: enc ⟨c, d, 1, at_, 0, rq, []⟩) (by have := enc_len ⟨c, d, 1, at_, 0, rq, []⟩; rw [List.length_cons]; omega)
          have hId := hIv.decideS (by dsimp only; omega) ⟨c, d, 0, at_, 0, rq, []⟩ true
          obtain ⟨e, m2, j2, st2, hr, hd⟩ := dec_rec ⟨2, lim1, l1, ends1, cur1, fb1, stop1, m1, j1⟩ ⟨c, d, 0, at_, 0, rq, []⟩ true
          rw [decG1_t] at hr hd
          rw [hr] at hrc
          rw [hd] at hId ⊢
          clear hr hd hkv h4v hIv
          have hel := enc_len ⟨c, d, 1, at_, 0, rq, []⟩
          dsimp only at hrc hId ⊢
          by_cases he : e = 0
          · subst he
            rw [if_neg (show ¬ ((0 : Int) ≠ 0) by decide)] at hId ⊢
            obtain ⟨l3, hl3e⟩ : ∃ l3, l3 = l1 ++ [⟨c, d, 1, at_, 0, rq, []⟩] := ⟨_, rfl⟩
            rw [← hl3e] at hId ⊢
            have hl3 := hId.len
            have hcu3 := hId.cu
            have hcc3 := hId.c2
            have hI3 := hId.preemptS
            dsimp only at hl3 hcu3 hcc3 ⊢
            rw [if_neg (show ¬ ((0 : Int) ≠ 0) by decide)]
            unfold preemptS at hI3 ⊢
            dsimp only at hI3 ⊢
            by_cases hcu : 0 ≤ cur1
            · rw [if_pos ⟨rfl, hcu⟩] at hI3 ⊢
              obtain ⟨hil, _⟩ := hcc3 hcu
              clear hcc3 hId
              obtain ⟨ci, rfl⟩ : ∃ ci : Nat, cur1 = (ci : Int) := ⟨cur1.toNat, by omega⟩
              rw [Int.toNat_natCast] at hil hI3 ⊢
              have hx := gAt_some hil
              generalize gAt l3 ci = g3 at hx hI3 ⊢
              obtain ⟨c0, n0, s0, a0, e0, q0, y0⟩ := g3
              dsimp only at hI3 ⊢
              repeat' (first | (refine WL_isCall (f := 82) ?_; refine WL_call (ok_call hT rfl) rfl rfl rfl (rencode_any _ _ _ _ _ _ _) ?_; rintro v w2 ⟨rfl, hc2⟩; replace hSt := hSt.call0 hc2; clear hc2) | (apply WL_ev rfl rfl; exact Ev_str_add rfl rfl (by simp only [List.length_append, List.length_cons, List.length_nil]; omega)) | (refine WL_isCall (f := 81) ?_; refine WL_call (ok_call hT rfl) rfl rfl rfl (hrc hJ (St.hasE (Ha := [_, _]) hSt)) ?_; rintro v w2 ⟨rfl, Hj2, hJ2, hc2⟩; replace hSt := St.callE (Ha := [_, _]) hSt hc2; clear hc2; replace hSt := hSt.perm (List.Perm.cons _ (List.Perm.cons _ (List.Perm.cons _ perm_gE)))) | (refine W_ownS (Hs := [_, _, _]) [(0, false), (1, false), (2, false), (3, false), (4, false), (5, false), (6, true), (7, true)] hT (by decide +kernel) rfl hSt ?_; clear hSt; intro w hSt; (repeat' (first | (apply HL_ev rfl rfl (St.left (H0 := [_, _, _]) hSt); (intro w hSt; (first | exact Ev_auto))) | (refine HL_one ?_; refine WL_buildSlice hT rfl rfl rfl rfl rfl rfl rfl rfl hSt ?_; clear hSt; intro w nb hnb hSt; refine WL_nil (At_oneH (St.left (H0 := [_, _, _]) hSt) ?_)) | (refine HL_one ?_; refine WL_appendL (H0 := _ :: _ :: _ :: (He ++ Hj2)) (H1 := Hg) hT rfl rfl rfl rfl rfl rfl rfl hSt hog rfl rfl (by omega) (by omega) ?_; clear hSt; intro gv2 w Hg2 hog2 hSt; replace hog2 := own_snocE hl3e hog2; dsimp only [List.cons_append] at hSt; replace hSt := hSt.perm (List.Perm.cons _ (List.Perm.cons _ (List.Perm.cons _ perm_gE.symm))); obtain ⟨gb, gc2, rs1, rfl, hgc, hrs, rfl⟩ := hog2.some_ (by omega); dsimp only [List.cons_append, List.nil_append] at hSt; refine WL_nil (At_oneH (St.left (H0 := [_, _, _]) hSt) ?_)))); refine HL_end ?_; simp only [List.length_cons, List.length_nil, List.drop_succ_cons, List.drop_zero]) | (refine WL_store1 hT rfl rfl 2 rfl rfl hSt rfl rfl rfl ?_; clear hSt; intro w hSt; dsimp only [List.set] at hSt) | (refine WL_isCall (f := 77) ?_; refine WL_call (ok_call hT rfl) rfl rfl rfl (rcur_l (s := ⟨_, _, l3, [], 0, _, _, m2, j2⟩) (l := l3) rfl hcu3 (hSt.own 2 _ _ rfl).1 (OwnSl.slAt gC_len (own_all hgc hrs) (hSt.has.sublist ((List.sublist_append_left [_] _).trans ((List.sublist_cons_self _ _).trans ((List.sublist_cons_self _ _).trans (List.sublist_cons_self _ _)))))) (by dsimp only; omega)) ?_; rintro v w2 ⟨rfl, hc2⟩; replace hSt := hSt.call0 hc2; clear hc2) | (refine WL_store1 hT rfl rfl 3 rfl rfl hSt rfl rfl (cell_lt hil (j := 2) (by decide) rs1) ?_; clear hSt; intro w hSt; dsimp only [List.cons_append, List.nil_append, List.set] at hSt; replace hSt := St.row4 (cell_put (y := ⟨c0, n0, 3, a0, e0, q0, y0⟩) hx (j := 2) (by decide) rfl rs1) hSt) | (refine WL_isCall (f := 83) ?_; refine WL_call (ok_call hT rfl) rfl rfl rfl (rnext_any (s := ⟨2, lim1, l3.set ci ⟨c0, n0, 3, a0, e0, q0, y0⟩, ends1, (ci : Int), fb1, st2, m2, j2⟩) ⟨_, _, _, _, _, own_set hgc hrs, hoe, hJ2, rfl⟩ hI3 (St.hasE (Ha := [_, _]) hSt)) ?_; rintro v w2 ⟨rfl, H4, hW4, hc2⟩; replace hSt := St.callE (Ha := [_, _]) hSt hc2; clear hc2) | refine stepA ?_ | (refine stepS ?_; clear hSt; intro w hSt; dsimp only [spl, List.set] at hSt) | (refine stepB ?_; clear hSt; intro w nb hnb hSt; dsimp only [zcells, List.nil_append, List.cons_append] at hSt) | (refine stepG ?_ ?_ <;> intro hc <;> (try exact absA) <;> (fail_if_success (change true = true at hc)) <;> (fail_if_success (change false = false at hc))) | fail)
              all_goals first | exact ret2 rfl rfl rfl ⟨rfl, _, hW4, hSt.right (Ha := [_, _])⟩ | (exfalso; omega)
            · rw [if_neg (fun h => hcu h.2)] at hI3 ⊢
              repeat' (first | (refine WL_isCall (f := 82) ?_; refine WL_call (ok_call hT rfl) rfl rfl rfl (rencode_any _ _ _ _ _ _ _) ?_; rintro v w2 ⟨rfl, hc2⟩; replace hSt := hSt.call0 hc2; clear hc2) | (apply WL_ev rfl rfl; exact Ev_str_add rfl rfl (by simp only [List.length_append, List.length_cons, List.length_nil]; omega)) | (refine WL_isCall (f := 81) ?_; refine WL_call (ok_call hT rfl) rfl rfl rfl (hrc hJ (St.hasE (Ha := [_, _]) hSt)) ?_; rintro v w2 ⟨rfl, Hj2, hJ2, hc2⟩; replace hSt := St.callE (Ha := [_, _]) hSt hc2; clear hc2; replace hSt := hSt.perm (List.Perm.cons _ (List.Perm.cons _ (List.Perm.cons _ perm_gE)))) | (refine W_ownS (Hs := [_, _, _]) [(0, false), (1, false), (2, false), (3, false), (4, false), (5, false), (6, true), (7, true)] hT (by decide +kernel) rfl hSt ?_; clear hSt; intro w hSt; (repeat' (first | (apply HL_ev rfl rfl (St.left (H0 := [_, _, _]) hSt); (intro w hSt; (first | exact Ev_auto))) | (refine HL_one ?_; refine WL_buildSlice hT rfl rfl rfl rfl rfl rfl rfl rfl hSt ?_; clear hSt; intro w nb hnb hSt; refine WL_nil (At_oneH (St.left (H0 := [_, _, _]) hSt) ?_)) | (refine HL_one ?_; refine WL_appendL (H0 := _ :: _ :: _ :: (He ++ Hj2)) (H1 := Hg) hT rfl rfl rfl rfl rfl rfl rfl hSt hog rfl rfl (by omega) (by omega) ?_; clear hSt; intro gv2 w Hg2 hog2 hSt; replace hog2 := own_snocE hl3e hog2; dsimp only [List.cons_append] at hSt; replace hSt := hSt.perm (List.Perm.cons _ (List.Perm.cons _ (List.Perm.cons _ perm_gE.symm))); obtain ⟨ga2, gc2, rfl⟩ := hog2.len; refine WL_nil (At_oneH (St.left (H0 := [_, _, _]) hSt) ?_)))); refine HL_end ?_; simp only [List.length_cons, List.length_nil, List.drop_succ_cons, List.drop_zero]) | (refine WL_store1 hT rfl rfl 2 rfl rfl hSt rfl rfl rfl ?_; clear hSt; intro w hSt; dsimp only [List.set] at hSt) | (refine WL_isCall (f := 77) ?_; refine WL_call (ok_call hT rfl) rfl rfl rfl (rcur_l (s := ⟨_, _, l3, [], 0, _, _, m2, j2⟩) (l := l3) rfl hcu3 (hSt.own 2 _ _ rfl).1 (OwnSl.slAt gC_len hog2 (hSt.has.sublist ((sub_g.trans (List.sublist_cons_self _ _)).trans (List.sublist_cons_self _ _)))) (by dsimp only; omega)) ?_; rintro v w2 ⟨rfl, hc2⟩; replace hSt := hSt.call0 hc2; clear hc2) | (refine WL_isCall (f := 83) ?_; refine WL_call (ok_call hT rfl) rfl rfl rfl (rnext_any (s := ⟨2, lim1, l3, ends1, cur1, fb1, st2, m2, j2⟩) ⟨_, _, _, _, _, hog2, hoe, hJ2, rfl⟩ hI3 (St.hasE (Ha := [_, _]) hSt)) ?_; rintro v w2 ⟨rfl, H4, hW4, hc2⟩; replace hSt := St.callE (Ha := [_, _]) hSt hc2; clear hc2) | refine stepA ?_ | (refine stepS ?_; clear hSt; intro w hSt; dsimp only [spl, List.set] at hSt) | (refine stepB ?_; clear hSt; intro w nb hnb hSt; dsimp only [zcells, List.nil_append, List.cons_append] at hSt) | (refine stepG ?_ ?_ <;> intro hc <;> (try exact absA) <;> (fail_if_success (change true = true at hc)) <;> (fail_if_success (change false = false at hc))) | fail)
              all_goals first | exact ret2 rfl rfl rfl ⟨rfl, _, hW4, hSt.right (Ha := [_, _])⟩ | (exfalso; omega)
          · rw [if_pos he]
            dsimp only
            rw [if_pos he]
            repeat' (first | (refine WL_isCall (f := 82) ?_; refine WL_call (ok_call hT rfl) rfl rfl rfl (rencode_any _ _ _ _ _ _ _) ?_; rintro v w2 ⟨rfl, hc2⟩; replace hSt := hSt.call0 hc2; clear hc2) | (apply WL_ev rfl rfl; exact Ev_str_add rfl rfl (by simp only [List.length_append, List.length_cons, List.length_nil]; omega)) | (refine WL_isCall (f := 81) ?_; refine WL_call (ok_call hT rfl) rfl rfl rfl (hrc hJ (St.hasE (Ha := [_, _]) hSt)) ?_; rintro v w2 ⟨rfl, Hj2, hJ2, hc2⟩; replace hSt := St.callE (Ha := [_, _]) hSt hc2; clear hc2; replace hSt := hSt.perm (List.Perm.cons _ (List.Perm.cons _ (List.Perm.cons _ perm_gE)))) | refine stepA ?_ | (refine stepS ?_; clear hSt; intro w hSt; dsimp only [spl, List.set] at hSt) | (refine stepB ?_; clear hSt; intro w nb hnb hSt; dsimp only [zcells, List.nil_append, List.cons_append] at hSt) | (refine stepG ?_ ?_ <;> intro hc <;> (try exact absA) <;> (fail_if_success (change true = true at hc)) <;> (fail_if_success (change false = false at hc))) | fail)
            all_goals first | exact ret2 rfl rfl rfl ⟨rfl, _, ⟨_, _, _, _, _, hog, hoe, hJ2, rfl⟩, (hSt.perm (List.Perm.cons _ (List.Perm.cons _ (List.Perm.cons _ perm_gE.symm)))).right (Ha := [_, _])⟩ | (exfalso; omega)
      · rw [if_neg hp]
        dsimp only
        rw [if_neg (show ¬ ((0 : Int) ≠ 0) by decide)]
        have hkv := hk.le (k := 1) (by omega)
        have h4v := h4
        have hIv := hI.toInv0
        clear hcl0
        cases ok
        · have hrc := fun {w : World} {gv ev : Value} {X Hj : List (Nat × Obj)} hJ hh => rrecord_any (w0 := w) (br := br) (bw := bw) (bv := bv) (gv := gv) (ev := ev) (X := X) (Hj := Hj) (s := ⟨pol, lim, l, ends, cur, fb, false, m, j⟩) hJ hkv h4v hh (114 :: enc ⟨c, d, 7, at_, at_, rq, []⟩) (by have := enc_len ⟨c, d, 7, at_, at_, rq, []⟩; rw [List.length_cons]; omega)
          have hId := hIv.decideS (by dsimp only; omega) ⟨c, d, 0, at_, 0, rq, []⟩ false
          obtain ⟨e, m2, j2, st2, hr, hd⟩ := dec_rec ⟨pol, lim, l, ends, cur, fb, false, m, j⟩ ⟨c, d, 0, at_, 0, rq, []⟩ false
          rw [decG1_f] at hr hd
          rw [hr] at hrc
          rw [hd] at hId ⊢
          clear hr hd hkv h4v hIv
          have hel := enc_len ⟨c, d, 7, at_, at_, rq, []⟩
          dsimp only at hrc hId ⊢
          by_cases he : e = 0
          · subst he
            rw [if_neg (show ¬ ((0 : Int) ≠ 0) by decide)] at hId ⊢
            obtain ⟨l3, hl3e⟩ : ∃ l3, l3 = l ++ [⟨c, d, 7, at_, at_, rq, []⟩] := ⟨_, rfl⟩
            rw [← hl3e] at hId ⊢
            have hl3 := hId.len
            have hcu3 := hId.cu
            have hcc3 := hId.c2
            have hI3 := hId.preemptS
            dsimp only at hl3 hcu3 hcc3 ⊢
            rw [if_neg (show ¬ ((0 : Int) ≠ 0) by decide)]
            unfold preemptS at hI3 ⊢
            dsimp only at hI3 ⊢
            rw [if_neg (fun h => hp h.1)] at hI3 ⊢
            refine enter Tryz.func53 rfl Tryz.ntmps53 rfl ?_
            repeat' (first | (refine WL_box rfl rfl rfl hSt ?_; clear hSt; intro w nb hnb hSt; replace hSt := hSt.front; dsimp only [zcells] at hSt; obtain ⟨kb, rfl⟩ : ∃ kb, kb = nb := ⟨nb, rfl⟩) | (refine WL_isCall (f := 73) ?_; refine WL_call (ok_call hT rfl) rfl rfl rfl (rlat_l (s := ⟨_, _, l, _, _, _, _, _, _⟩) (l := l) rfl (hSt.own 1 _ _ rfl).1 (OwnSl.slAt gC_len hog (hSt.has.sublist (sub_g.trans (List.sublist_cons_self _ _)))) (by dsimp only; omega)) ?_; rintro v w2 ⟨rfl, hc2⟩; replace hSt := hSt.call0 hc2; clear hc2) | (refine WL_isCall (f := 76) ?_; refine WL_call (ok_call hT rfl) rfl rfl rfl (rfind_no (s := ⟨_, _, l, _, _, _, _, _, _⟩) (hSt.own 1 _ _ rfl).1 (OwnSl.slAt gC_len hog (hSt.has.sublist (sub_g.trans (List.sublist_cons_self _ _)))) (by dsimp only; omega) hf) ?_; rintro v w2 ⟨rfl, hc2⟩; replace hSt := hSt.call0 hc2; clear hc2) | (refine WL_alloc hT rfl rfl rfl hSt ?_; clear hSt; intro w nb hnb hSt; replace hSt := hSt.front; dsimp only [zcells] at hSt) | (refine WL_isCall (f := 79) ?_; refine WL_call (ok_call hT rfl) rfl rfl rfl (hac (hSt.own 2 _ _ rfl).1 (OwnSl.slAt gC_len hog (hSt.has.sublist ((sub_g.trans (List.sublist_cons_self _ _)).trans (List.sublist_cons_self _ _))))) ?_; rintro v w2 ⟨rfl, hc2⟩; replace hSt := hSt.call0 hc2; clear hc2) | (refine WL_isCall (f := 82) ?_; refine WL_call (ok_call hT rfl) rfl rfl rfl (rencode_any _ _ _ _ _ _ _) ?_; rintro v w2 ⟨rfl, hc2⟩; replace hSt := hSt.call0 hc2; clear hc2) | (apply WL_ev rfl rfl; exact Ev_str_add rfl rfl (by simp only [List.length_append, List.length_cons, List.length_nil]; omega)) | (refine WL_isCall (f := 81) ?_; refine WL_call (ok_call hT rfl) rfl rfl rfl (hrc hJ (St.hasE (Ha := [_, _]) hSt)) ?_; rintro v w2 ⟨rfl, Hj2, hJ2, hc2⟩; replace hSt := St.callE (Ha := [_, _]) hSt hc2; clear hc2; replace hSt := hSt.perm (List.Perm.cons _ (List.Perm.cons _ (List.Perm.cons _ perm_gE)))) | (refine W_ownS (Hs := [_, _, _]) [(0, false), (1, false), (2, false), (3, false), (4, false), (5, false), (6, true), (7, true)] hT (by decide +kernel) rfl hSt ?_; clear hSt; intro w hSt; (repeat' (first | (apply HL_ev rfl rfl (St.left (H0 := [_, _, _]) hSt); (intro w hSt; (first | exact Ev_auto))) | (refine HL_one ?_; refine WL_buildSlice hT rfl rfl rfl rfl rfl rfl rfl rfl hSt ?_; clear hSt; intro w nb hnb hSt; refine WL_nil (At_oneH (St.left (H0 := [_, _, _]) hSt) ?_)) | (refine HL_one ?_; refine WL_appendL (H0 := _ :: _ :: _ :: (He ++ Hj2)) (H1 := Hg) hT rfl rfl rfl rfl rfl rfl rfl hSt hog rfl rfl (by omega) (by omega) ?_; clear hSt; intro gv2 w Hg2 hog2 hSt; replace hog2 := own_snocE hl3e hog2; dsimp only [List.cons_append] at hSt; replace hSt := hSt.perm (List.Perm.cons _ (List.Perm.cons _ (List.Perm.cons _ perm_gE.symm))); obtain ⟨ga2, gc2, rfl⟩ := hog2.len; refine WL_nil (At_oneH (St.left (H0 := [_, _, _]) hSt) ?_)))); refine HL_end ?_; simp only [List.length_cons, List.length_nil, List.drop_succ_cons, List.drop_zero]) | (refine WL_store1 hT rfl rfl 2 rfl rfl hSt rfl rfl rfl ?_; clear hSt; intro w hSt; dsimp only [List.set] at hSt) | (refine WL_isCall (f := 77) ?_; refine WL_call (ok_call hT rfl) rfl rfl rfl (rcur_l (s := ⟨_, _, l3, [], 0, _, _, m2, j2⟩) (l := l3) rfl hcu3 (hSt.own 2 _ _ rfl).1 (OwnSl.slAt gC_len hog2 (hSt.has.sublist ((sub_g.trans (List.sublist_cons_self _ _)).trans (List.sublist_cons_self _ _)))) (by dsimp only; omega)) ?_; rintro v w2 ⟨rfl, hc2⟩; replace hSt := hSt.call0 hc2; clear hc2) | (refine WL_isCall (f := 83) ?_; refine WL_call (ok_call hT rfl) rfl rfl rfl (rnext_any (s := ⟨pol, lim, l3, ends, cur, fb, st2, m2, j2⟩) ⟨_, _, _, _, _, hog2, hoe, hJ2, rfl⟩ hI3 (St.hasE (Ha := [_, _]) hSt)) ?_; rintro v w2 ⟨rfl, H4, hW4, hc2⟩; replace hSt := St.callE (Ha := [_, _]) hSt hc2; clear hc2) | refine stepA ?_ | (refine stepS ?_; clear hSt; intro w hSt; dsimp only [spl, List.set] at hSt) | (refine stepB ?_; clear hSt; intro w nb hnb hSt; dsimp only [zcells, List.nil_append, List.cons_append] at hSt) | (refine stepG ?_ ?_ <;> intro hc <;> (try exact absA) <;> (fail_if_success (change true = true at hc)) <;> (fail_if_success (change false = false at hc))) | fail)
            all_goals first | exact ret2 rfl rfl rfl ⟨rfl, _, hW4, hSt.right (Ha := [_, _])⟩ | (exfalso; omega)
          · rw [if_pos he]
            dsimp only
            rw [if_pos he]
            refine enter Tryz.func53 rfl Tryz.ntmps53 rfl ?_
            repeat' (first | (refine WL_box rfl rfl rfl hSt ?_; clear hSt; intro w nb hnb hSt; replace hSt := hSt.front; dsimp only [zcells] at hSt; obtain ⟨kb, rfl⟩ : ∃ kb, kb = nb := ⟨nb, rfl⟩) | (refine WL_isCall (f := 73) ?_; refine WL_call (ok_call hT rfl) rfl rfl rfl (rlat_l (s := ⟨_, _, l, _, _, _, _, _, _⟩) (l := l) rfl (hSt.own 1 _ _ rfl).1 (OwnSl.slAt gC_len hog (hSt.has.sublist (sub_g.trans (List.sublist_cons_self _ _)))) (by dsimp only; omega)) ?_; rintro v w2 ⟨rfl, hc2⟩; replace hSt := hSt.call0 hc2; clear hc2) | (refine WL_isCall (f := 76) ?_; refine WL_call (ok_call hT rfl) rfl rfl rfl (rfind_no (s := ⟨_, _, l, _, _, _, _, _, _⟩) (hSt.own 1 _ _ rfl).1 (OwnSl.slAt gC_len hog (hSt.has.sublist (sub_g.trans (List.sublist_cons_self _ _)))) (by dsimp only; omega) hf) ?_; rintro v w2 ⟨rfl, hc2⟩; replace hSt := hSt.call0 hc2; clear hc2) | (refine WL_alloc hT rfl rfl rfl hSt ?_; clear hSt; intro w nb hnb hSt; replace hSt := hSt.front; dsimp only [zcells] at hSt) | (refine WL_isCall (f := 79) ?_; refine WL_call (ok_call hT rfl) rfl rfl rfl (hac (hSt.own 2 _ _ rfl).1 (OwnSl.slAt gC_len hog (hSt.has.sublist ((sub_g.trans (List.sublist_cons_self _ _)).trans (List.sublist_cons_self _ _))))) ?_; rintro v w2 ⟨rfl, hc2⟩; replace hSt := hSt.call0 hc2; clear hc2) | (refine WL_isCall (f := 82) ?_; refine WL_call (ok_call hT rfl) rfl rfl rfl (rencode_any _ _ _ _ _ _ _) ?_; rintro v w2 ⟨rfl, hc2⟩; replace hSt := hSt.call0 hc2; clear hc2) | (apply WL_ev rfl rfl; exact Ev_str_add rfl rfl (by simp only [List.length_append, List.length_cons, List.length_nil]; omega)) | (refine WL_isCall (f := 81) ?_; refine WL_call (ok_call hT rfl) rfl rfl rfl (hrc hJ (St.hasE (Ha := [_, _]) hSt)) ?_; rintro v w2 ⟨rfl, Hj2, hJ2, hc2⟩; replace hSt := St.callE (Ha := [_, _]) hSt hc2; clear hc2; replace hSt := hSt.perm (List.Perm.cons _ (List.Perm.cons _ (List.Perm.cons _ perm_gE)))) | refine stepA ?_ | (refine stepS ?_; clear hSt; intro w hSt; dsimp only [spl, List.set] at hSt) | (refine stepB ?_; clear hSt; intro w nb hnb hSt; dsimp only [zcells, List.nil_append, List.cons_append] at hSt) | (refine stepG ?_ ?_ <;> intro hc <;> (try exact absA) <;> (fail_if_success (change true = true at hc)) <;> (fail_if_success (change false = false at hc))) | fail)
            all_goals first | exact ret2 rfl rfl rfl ⟨rfl, _, ⟨_, _, _, _, _, hog, hoe, hJ2, rfl⟩, (hSt.perm (List.Perm.cons _ (List.Perm.cons _ (List.Perm.cons _ perm_gE.symm)))).right (Ha := [_, _])⟩ | (exfalso; omega)
        · have hrc := fun {w : World} {gv ev : Value} {X Hj : List (Nat × Obj)} hJ hh => rrecord_any (w0 := w) (br := br) (bw := bw) (bv := bv) (gv := gv) (ev := ev) (X := X) (Hj := Hj) (s := ⟨pol, lim, l, ends, cur, fb, false, m, j⟩) hJ hkv h4v hh (114 :: enc ⟨c, d, 1, at_, 0, rq, []⟩) (by have := enc_len ⟨c, d, 1, at_, 0, rq, []⟩; rw [List.length_cons]; omega)
          have hId := hIv.decideS (by dsimp only; omega) ⟨c, d, 0, at_, 0, rq, []⟩ true
          obtain ⟨e, m2, j2, st2, hr, hd⟩ := dec_rec ⟨pol, lim, l, ends, cur, fb, false, m, j⟩ ⟨c, d, 0, at_, 0, rq, []⟩ true
          rw [decG1_t] at hr hd
          rw [hr] at hrc
          rw [hd] at hId ⊢
          clear hr hd hkv h4v hIv
          have hel := enc_len ⟨c, d, 1, at_, 0, rq, []⟩
          dsimp only at hrc hId ⊢
          by_cases he : e = 0
          · subst he
            rw [if_neg (show ¬ ((0 : Int) ≠ 0) by decide)] at hId ⊢
            obtain ⟨l3, hl3e⟩ : ∃ l3, l3 = l ++ [⟨c, d, 1, at_, 0, rq, []⟩] := ⟨_, rfl⟩
            rw [← hl3e] at hId ⊢
            have hl3 := hId.len
            have hcu3 := hId.cu
            have hcc3 := hId.c2
            have hI3 := hId.preemptS
            dsimp only at hl3 hcu3 hcc3 ⊢
            rw [if_neg (show ¬ ((0 : Int) ≠ 0) by decide)]
            unfold preemptS at hI3 ⊢
            dsimp only at hI3 ⊢
            rw [if_neg (fun h => hp h.1)] at hI3 ⊢
            refine enter Tryz.func53 rfl Tryz.ntmps53 rfl ?_
            repeat' (first | (refine WL_box rfl rfl rfl hSt ?_; clear hSt; intro w nb hnb hSt; replace hSt := hSt.front; dsimp only [zcells] at hSt; obtain ⟨kb, rfl⟩ : ∃ kb, kb = nb := ⟨nb, rfl⟩) | (refine WL_isCall (f := 73) ?_; refine WL_call (ok_call hT rfl) rfl rfl rfl (rlat_l (s := ⟨_, _, l, _, _, _, _, _, _⟩) (l := l) rfl (hSt.own 1 _ _ rfl).1 (OwnSl.slAt gC_len hog (hSt.has.sublist (sub_g.trans (List.sublist_cons_self _ _)))) (by dsimp only; omega)) ?_; rintro v w2 ⟨rfl, hc2⟩; replace hSt := hSt.call0 hc2; clear hc2) | (refine WL_isCall (f := 76) ?_; refine WL_call (ok_call hT rfl) rfl rfl rfl (rfind_no (s := ⟨_, _, l, _, _, _, _, _, _⟩) (hSt.own 1 _ _ rfl).1 (OwnSl.slAt gC_len hog (hSt.has.sublist (sub_g.trans (List.sublist_cons_self _ _)))) (by dsimp only; omega) hf) ?_; rintro v w2 ⟨rfl, hc2⟩; replace hSt := hSt.call0 hc2; clear hc2) | (refine WL_alloc hT rfl rfl rfl hSt ?_; clear hSt; intro w nb hnb hSt; replace hSt := hSt.front; dsimp only [zcells] at hSt) | (refine WL_isCall (f := 79) ?_; refine WL_call (ok_call hT rfl) rfl rfl rfl (hac (hSt.own 2 _ _ rfl).1 (OwnSl.slAt gC_len hog (hSt.has.sublist ((sub_g.trans (List.sublist_cons_self _ _)).trans (List.sublist_cons_self _ _))))) ?_; rintro v w2 ⟨rfl, hc2⟩; replace hSt := hSt.call0 hc2; clear hc2) | (refine WL_isCall (f := 82) ?_; refine WL_call (ok_call hT rfl) rfl rfl rfl (rencode_any _ _ _ _ _ _ _) ?_; rintro v w2 ⟨rfl, hc2⟩; replace hSt := hSt.call0 hc2; clear hc2) | (apply WL_ev rfl rfl; exact Ev_str_add rfl rfl (by simp only [List.length_append, List.length_cons, List.length_nil]; omega)) | (refine WL_isCall (f := 81) ?_; refine WL_call (ok_call hT rfl) rfl rfl rfl (hrc hJ (St.hasE (Ha := [_, _]) hSt)) ?_; rintro v w2 ⟨rfl, Hj2, hJ2, hc2⟩; replace hSt := St.callE (Ha := [_, _]) hSt hc2; clear hc2; replace hSt := hSt.perm (List.Perm.cons _ (List.Perm.cons _ (List.Perm.cons _ perm_gE)))) | (refine W_ownS (Hs := [_, _, _]) [(0, false), (1, false), (2, false), (3, false), (4, false), (5, false), (6, true), (7, true)] hT (by decide +kernel) rfl hSt ?_; clear hSt; intro w hSt; (repeat' (first | (apply HL_ev rfl rfl (St.left (H0 := [_, _, _]) hSt); (intro w hSt; (first | exact Ev_auto))) | (refine HL_one ?_; refine WL_buildSlice hT rfl rfl rfl rfl rfl rfl rfl rfl hSt ?_; clear hSt; intro w nb hnb hSt; refine WL_nil (At_oneH (St.left (H0 := [_, _, _]) hSt) ?_)) | (refine HL_one ?_; refine WL_appendL (H0 := _ :: _ :: _ :: (He ++ Hj2)) (H1 := Hg) hT rfl rfl rfl rfl rfl rfl rfl hSt hog rfl rfl (by omega) (by omega) ?_; clear hSt; intro gv2 w Hg2 hog2 hSt; replace hog2 := own_snocE hl3e hog2; dsimp only [List.cons_append] at hSt; replace hSt := hSt.perm (List.Perm.cons _ (List.Perm.cons _ (List.Perm.cons _ perm_gE.symm))); obtain ⟨ga2, gc2, rfl⟩ := hog2.len; refine WL_nil (At_oneH (St.left (H0 := [_, _, _]) hSt) ?_)))); refine HL_end ?_; simp only [List.length_cons, List.length_nil, List.drop_succ_cons, List.drop_zero]) | (refine WL_store1 hT rfl rfl 2 rfl rfl hSt rfl rfl rfl ?_; clear hSt; intro w hSt; dsimp only [List.set] at hSt) | (refine WL_isCall (f := 77) ?_; refine WL_call (ok_call hT rfl) rfl rfl rfl (rcur_l (s := ⟨_, _, l3, [], 0, _, _, m2, j2⟩) (l := l3) rfl hcu3 (hSt.own 2 _ _ rfl).1 (OwnSl.slAt gC_len hog2 (hSt.has.sublist ((sub_g.trans (List.sublist_cons_self _ _)).trans (List.sublist_cons_self _ _)))) (by dsimp only; omega)) ?_; rintro v w2 ⟨rfl, hc2⟩; replace hSt := hSt.call0 hc2; clear hc2) | (refine WL_isCall (f := 83) ?_; refine WL_call (ok_call hT rfl) rfl rfl rfl (rnext_any (s := ⟨pol, lim, l3, ends, cur, fb, st2, m2, j2⟩) ⟨_, _, _, _, _, hog2, hoe, hJ2, rfl⟩ hI3 (St.hasE (Ha := [_, _]) hSt)) ?_; rintro v w2 ⟨rfl, H4, hW4, hc2⟩; replace hSt := St.callE (Ha := [_, _]) hSt hc2; clear hc2) | refine stepA ?_ | (refine stepS ?_; clear hSt; intro w hSt; dsimp only [spl, List.set] at hSt) | (refine stepB ?_; clear hSt; intro w nb hnb hSt; dsimp only [zcells, List.nil_append, List.cons_append] at hSt) | (refine stepG ?_ ?_ <;> intro hc <;> (try exact absA) <;> (fail_if_success (change true = true at hc)) <;> (fail_if_success (change false = false at hc))) | fail)
            all_goals first | exact ret2 rfl rfl rfl ⟨rfl, _, hW4, hSt.right (Ha := [_, _])⟩ | (exfalso; omega)
          · rw [if_pos he]
            dsimp only
            rw [if_pos he]
            refine enter Tryz.func53 rfl Tryz.ntmps53 rfl ?_
            repeat' (first | (refine WL_box rfl rfl rfl hSt ?_; clear hSt; intro w nb hnb hSt; replace hSt := hSt.front; dsimp only [zcells] at hSt; obtain ⟨kb, rfl⟩ : ∃ kb, kb = nb := ⟨nb, rfl⟩) | (refine WL_isCall (f := 73) ?_; refine WL_call (ok_call hT rfl) rfl rfl rfl (rlat_l (s := ⟨_, _, l, _, _, _, _, _, _⟩) (l := l) rfl (hSt.own 1 _ _ rfl).1 (OwnSl.slAt gC_len hog (hSt.has.sublist (sub_g.trans (List.sublist_cons_self _ _)))) (by dsimp only; omega)) ?_; rintro v w2 ⟨rfl, hc2⟩; replace hSt := hSt.call0 hc2; clear hc2) | (refine WL_isCall (f := 76) ?_; refine WL_call (ok_call hT rfl) rfl rfl rfl (rfind_no (s := ⟨_, _, l, _, _, _, _, _, _⟩) (hSt.own 1 _ _ rfl).1 (OwnSl.slAt gC_len hog (hSt.has.sublist (sub_g.trans (List.sublist_cons_self _ _)))) (by dsimp only; omega) hf) ?_; rintro v w2 ⟨rfl, hc2⟩; replace hSt := hSt.call0 hc2; clear hc2) | (refine WL_alloc hT rfl rfl rfl hSt ?_; clear hSt; intro w nb hnb hSt; replace hSt := hSt.front; dsimp only [zcells] at hSt) | (refine WL_isCall (f := 79) ?_; refine WL_call (ok_call hT rfl) rfl rfl rfl (hac (hSt.own 2 _ _ rfl).1 (OwnSl.slAt gC_len hog (hSt.has.sublist ((sub_g.trans (List.sublist_cons_self _ _)).trans (List.sublist_cons_self _ _))))) ?_; rintro v w2 ⟨rfl, hc2⟩; replace hSt := hSt.call0 hc2; clear hc2) | (refine WL_isCall (f := 82) ?_; refine WL_call (ok_call hT rfl) rfl rfl rfl (rencode_any _ _ _ _ _ _ _) ?_; rintro v w2 ⟨rfl, hc2⟩; replace hSt := hSt.call0 hc2; clear hc2) | (apply WL_ev rfl rfl; exact Ev_str_add rfl rfl (by simp only [List.length_append, List.length_cons, List.length_nil]; omega)) | (refine WL_isCall (f := 81) ?_; refine WL_call (ok_call hT rfl) rfl rfl rfl (hrc hJ (St.hasE (Ha := [_, _]) hSt)) ?_; rintro v w2 ⟨rfl, Hj2, hJ2, hc2⟩; replace hSt := St.callE (Ha := [_, _]) hSt hc2; clear hc2; replace hSt := hSt.perm (List.Perm.cons _ (List.Perm.cons _ (List.Perm.cons _ perm_gE)))) | refine stepA ?_ | (refine stepS ?_; clear hSt; intro w hSt; dsimp only [spl, List.set] at hSt) | (refine stepB ?_; clear hSt; intro w nb hnb hSt; dsimp only [zcells, List.nil_append, List.cons_append] at hSt) | (refine stepG ?_ ?_ <;> intro hc <;> (try exact absA) <;> (fail_if_success (change true = true at hc)) <;> (fail_if_success (change false = false at hc))) | fail)
            all_goals first | exact ret2 rfl rfl rfl ⟨rfl, _, ⟨_, _, _, _, _, hog, hoe, hJ2, rfl⟩, (hSt.perm (List.Perm.cons _ (List.Perm.cons _ (List.Perm.cons _ perm_gE.symm)))).right (Ha := [_, _])⟩ | (exfalso; omega)
    · dsimp only
      have hil := findG_lt hf
      have hx := gAt_some hil
      obtain ⟨gb, gc, rs1, rfl, hgc, hrs, rfl⟩ := hog.some_ (by omega)
      dsimp only [List.cons_append, List.nil_append] at hSt
      generalize gAt l i = g0 at hx ⊢
      obtain ⟨c0, n0, s0, a0, e0, q0, y0⟩ := g0
      dsimp only
      refine enter Tryz.func53 rfl Tryz.ntmps53 rfl ?_
      repeat' (first | (refine WL_box rfl rfl rfl hSt ?_; clear hSt; intro w nb hnb hSt; replace hSt := hSt.front; dsimp only [zcells] at hSt; obtain ⟨kb, rfl⟩ : ∃ kb, kb = nb := ⟨nb, rfl⟩) | (refine WL_isCall (f := 76) ?_; refine WL_call (ok_call hT rfl) rfl rfl rfl (rfind_yes (s := ⟨_, _, l, _, _, _, _, _, _⟩) (hSt.own 1 _ _ rfl).1 (OwnSl.slAt gC_len hog (hSt.has.sublist ((List.sublist_append_left [_] _).trans ((List.sublist_cons_self _ _).trans (List.sublist_cons_self _ _))))) (by dsimp only; omega) hf) ?_; rintro v w2 ⟨rfl, hc2⟩; replace hSt := hSt.call0 hc2; clear hc2) | (apply WL_ev rfl rfl; exact Ev_load1 hT rfl rfl (hSt.at 2 rfl) (cell_get (c := I s0) hx (j := 2) rfl rs1)) | refine stepA ?_ | (refine stepS ?_; clear hSt; intro w hSt; dsimp only [spl, List.set] at hSt) | (refine stepB ?_; clear hSt; intro w nb hnb hSt; dsimp only [zcells, List.nil_append, List.cons_append] at hSt) | (refine stepG ?_ ?_ <;> intro hc <;> (try exact absA) <;> (fail_if_success (change true = true at hc)) <;> (fail_if_success (change false = false at hc))) | fail)
      all_goals first | exact ret2 rfl rfl rfl ⟨rfl, _, hW, hSt.right (Ha := [_])⟩ | (exfalso; omega)
  · rw [if_pos rfl]
    refine enter Tryz.func53 rfl Tryz.ntmps53 rfl ?_
    repeat' (first | (refine WL_box rfl rfl rfl hSt ?_; clear hSt; intro w nb hnb hSt; replace hSt := hSt.front; dsimp only [zcells] at hSt; obtain ⟨kb, rfl⟩ : ∃ kb, kb = nb := ⟨nb, rfl⟩) | refine stepA ?_ | (refine stepS ?_; clear hSt; intro w hSt; dsimp only [spl, List.set] at hSt) | (refine stepB ?_; clear hSt; intro w nb hnb hSt; dsimp only [zcells, List.nil_append, List.cons_append] at hSt) | (refine stepG ?_ ?_ <;> intro hc <;> (try exact absA) <;> (fail_if_success (change true = true at hc)) <;> (fail_if_success (change false = false at hc))) | fail)
    all_goals first | exact ret2 rfl rfl rfl ⟨rfl, _, hW, hSt.right (Ha := [_])⟩ | (exfalso; omega)
end
end Go.Proofs.YtndkifkaejmibaaGreatDoor
