/- The journal's methods: what each does to the blocks of a journal and of its medium. No conditions. -/
import Derived.Test.YthkimkgphaiagaaGreatDoorMF
import Derived.Test.YthkimkgphaiagaaGreatDoorMC
import Derived.Test.YthkimkgphaiagaaGreatDoorMG

namespace Go.Proofs.YthkimkgphaiagaaGreatDoor
open Go.RowKit
set_option maxRecDepth 4000
set_option linter.unusedVariables false
set_option linter.unusedSimpArgs false
set_option maxHeartbeats 4000000

/-! ## Journals -/
structure Jr where
  l : List (List UInt8)
  dur : Int
  stop : Bool
def jAppend (m : Med) (j : Jr) (x : List UInt8) : Int × Med × Jr :=
  if j.stop = true then (16, m, j) else if 4000 < x.length then (3, m, j) else
  if (m.append (frameF (headF 0 j.l) x)).1 = 0 then (0, (m.append (frameF (headF 0 j.l) x)).2, { j with l := j.l ++ [x] }) else
  if (m.append (frameF (headF 0 j.l) x)).1 = 15 then (15, (m.append (frameF (headF 0 j.l) x)).2, j) else
  ((m.append (frameF (headF 0 j.l) x)).1, (m.append (frameF (headF 0 j.l) x)).2, { j with stop := true })
def jSync (m : Med) (j : Jr) : Int × Med × Jr :=
  if j.stop = true then (16, m, j) else
  if m.sync.1 = 0 then (0, m.sync.2, { j with dur := j.l.length }) else (m.sync.1, m.sync.2, { j with stop := true })
/-- the medium is cut to its valid prefix -/
def jTrim (m : Med) : Int × Med := if (verF m.s).2.1 < m.s.length then m.truncate (verF m.s).2.1 else (0, m)
def jOpen (m : Med) : Int × Med × Jr :=
  if m.down = true then (16, m, ⟨[], 0, false⟩) else
  if (jTrim m).1 ≠ 0 then ((jTrim m).1, (jTrim m).2, ⟨[], 0, false⟩) else
  ((jTrim m).2.sync.1, (jTrim m).2.sync.2, ⟨(verF m.s).1, (verF m.s).1.length, false⟩)

abbrev jO (bm : Nat) (rv : Value) (l : List (List UInt8)) (dur : Int) (stop : Bool) : Obj := blk [Ptr bm, rv, U (headF 0 l), I dur, B stop] 107
/-- a journal and its medium in memory -/
def JW (bm bj : Nat) (m : Med) (j : Jr) (H : List (Nat × Obj)) : Prop :=
  ∃ rv H1, OwnSl rv 9 1 (strs j.l) j.l.length H1 ∧ H = (bj, jO bm rv j.l j.dur j.stop) :: (bm, m.obj) :: H1

theorem running_any {w0 : World} {bm bj : Nat} {rv : Value} {l : List (List UInt8)} {dur : Int} {stop : Bool} (hb : w0.heap[bj]? = some (jO bm rv l dur stop)) : Cl Tryz.prog 86 [Ptr bj] w0 (fun v w' => v = I (bif stop then 16 else 0) ∧ St w0 NoneS [] w') := by
  have hSt := St.refl w0 NoneS
  have hq : ([Ptr bm, rv, U (headF 0 l), I dur, B stop] : List Value)[4]? = some (B stop) := rfl
  refine enter Tryz.func86 rfl Tryz.ntmps86 rfl ?_
  cases stop
  · repeat' (first | (apply WL_ev rfl rfl; exact Ev_some_nil_eql (ok_ptr hT rfl) rfl rfl) | (apply WL_ev rfl rfl; exact Ev_load1 hT rfl rfl (hSt.base hb (fun e => e)) hq) | refine stepA ?_ | (refine stepS ?_; clear hSt; intro w hSt; dsimp only [spl, List.set] at hSt) | (refine stepB ?_; clear hSt; intro w nb hnb hSt; dsimp only [zcells, List.nil_append, List.cons_append] at hSt) | (refine stepG ?_ ?_ <;> intro hc <;> (try exact absA) <;> (fail_if_success (change true = true at hc)) <;> (fail_if_success (change false = false at hc))) | fail)
    all_goals exact ret1 rfl rfl ⟨rfl, hSt⟩
  · repeat' (first | (apply WL_ev rfl rfl; exact Ev_some_nil_eql (ok_ptr hT rfl) rfl rfl) | (apply WL_ev rfl rfl; exact Ev_load1 hT rfl rfl (hSt.base hb (fun e => e)) hq) | refine stepA ?_ | (refine stepS ?_; clear hSt; intro w hSt; dsimp only [spl, List.set] at hSt) | (refine stepB ?_; clear hSt; intro w nb hnb hSt; dsimp only [zcells, List.nil_append, List.cons_append] at hSt) | (refine stepG ?_ ?_ <;> intro hc <;> (try exact absA) <;> (fail_if_success (change true = true at hc)) <;> (fail_if_success (change false = false at hc))) | fail)
    all_goals exact ret1 rfl rfl ⟨rfl, hSt⟩
theorem jappend_any {w0 : World} (hD : Deb w0) {bm bj : Nat} {m : Med} {j : Jr} {H : List (Nat × Obj)} (hJ : JW bm bj m j H) (hm : m.Ok) (hl : j.l.length ≤ 1000000) (hh : Has w0 H) (h2 : ¬ InH H 5) (x : List UInt8) (hx : x.length ≤ 140737488355328) :
    Cl Tryz.prog 72 [Ptr bj, S x] w0 (fun v w' => v = I (jAppend m j x).1 ∧ ∃ H', JW bm bj (jAppend m j x).2.1 (jAppend m j x).2.2 H' ∧ St w0 (InH H) H' w') := by
  have hSt := hh.st
  generalize InH H = SS at hSt h2 ⊢
  obtain ⟨rv, H1, ho, rfl⟩ := hJ
  obtain ⟨l, dur, stop⟩ := j
  dsimp only at ho hSt hl
  unfold jAppend
  dsimp only
  obtain ⟨a0, c0, rfl⟩ := ho.len
  cases stop with
  | true =>
    rw [if_pos rfl]
    refine enter Tryz.func72 rfl Tryz.ntmps72 rfl ?_
    repeat' (first | (refine WL_isCall (f := 86) ?_; refine WL_call (ok_call hT rfl) rfl rfl rfl (running_any (hSt.own 0 _ _ rfl).1) ?_; rintro v w2 ⟨rfl, hc2⟩; replace hSt := hSt.call0 hc2; clear hc2) | refine stepA ?_ | (refine stepS ?_; clear hSt; intro w hSt; dsimp only [spl, List.set] at hSt) | (refine stepB ?_; clear hSt; intro w nb hnb hSt; dsimp only [zcells, List.nil_append, List.cons_append] at hSt) | (refine stepG ?_ ?_ <;> intro hc <;> (try exact absA) <;> (fail_if_success (change true = true at hc)) <;> (fail_if_success (change false = false at hc))) | fail)
    all_goals exact ret1 rfl rfl ⟨rfl, _, ⟨_, _, ho, rfl⟩, hSt⟩
  | false =>
    rw [if_neg (by simp)]
    have hp := headF_lt l 0 (by omega)
    by_cases h4 : 4000 < x.length
    · rw [if_pos h4]
      refine enter Tryz.func72 rfl Tryz.ntmps72 rfl ?_
      repeat' (first | (refine WL_isCall (f := 86) ?_; refine WL_call (ok_call hT rfl) rfl rfl rfl (running_any (hSt.own 0 _ _ rfl).1) ?_; rintro v w2 ⟨rfl, hc2⟩; replace hSt := hSt.call0 hc2; clear hc2) | refine stepA ?_ | (refine stepS ?_; clear hSt; intro w hSt; dsimp only [spl, List.set] at hSt) | (refine stepB ?_; clear hSt; intro w nb hnb hSt; dsimp only [zcells, List.nil_append, List.cons_append] at hSt) | (refine stepG ?_ ?_ <;> intro hc <;> (try exact absA) <;> (fail_if_success (change true = true at hc)) <;> (fail_if_success (change false = false at hc))) | fail)
      all_goals exact ret1 rfl rfl ⟨rfl, _, ⟨_, _, ho, rfl⟩, hSt⟩
    · rw [if_neg h4]
      have hfr := fun {w : World} (hD : Deb w) => frame_any hD (headF 0 l) hp x hx
      have hap := fun {w : World} (hb : w.heap[bm]? = some m.obj) => append_any hb hm (frameF (headF 0 l) x)
      have hhd : headF 0 (l ++ [x]) = chainF (headF 0 l) x := by rw [headF_append]; rfl
      generalize frameF (headF 0 l) x = F at hfr hap ⊢
      generalize m.append F = r at hap ⊢
      obtain ⟨e, m2⟩ := r
      dsimp only at hap ⊢
      by_cases he : e = 0
      · subst he
        rw [if_pos rfl]
        refine enter Tryz.func72 rfl Tryz.ntmps72 rfl ?_
        repeat' (first | (refine WL_isCall (f := 86) ?_; refine WL_call (ok_call hT rfl) rfl rfl rfl (running_any (hSt.own 0 _ _ rfl).1) ?_; rintro v w2 ⟨rfl, hc2⟩; replace hSt := hSt.call0 hc2; clear hc2) | (refine W_ownS (Hs := [_]) [(0, false), (1, false), (2, false), (3, false), (4, false), (5, false), (6, false), (7, false), (8, false), (9, true), (10, true)] hT (by decide +kernel) rfl hSt ?_; clear hSt; intro w hSt; (repeat' (first | (apply HL_ev rfl rfl (St.left (H0 := [_]) hSt); (intro w hSt; (first | exact Ev_auto))) | (refine HL_one ?_; refine WL_isCall (f := 88) ?_; refine WL_call (ok_call hT rfl) rfl rfl rfl (hfr (hD.later hSt h2)) ?_; rintro v w2 ⟨rfl, hc2⟩; replace hSt := hSt.call0 hc2; clear hc2; refine WL_nil (At_oneH (St.left (H0 := [_]) hSt) ?_)) | (refine HL_one ?_; refine WL_isCall (f := 87) ?_; refine WL_call (ok_call hT rfl) rfl rfl rfl (hap (hSt.own 1 _ _ rfl).1) ?_; rintro v w2 ⟨rfl, hc2⟩; replace hSt := hSt.call1 (i := 1) rfl hc2; clear hc2; dsimp only [List.set, List.cons_append, List.nil_append] at hSt; refine WL_nil (At_oneH (St.left (H0 := [_]) hSt) ?_)))); refine HL_end ?_; simp only [List.length_cons, List.length_nil, List.drop_succ_cons, List.drop_zero]) | (refine WL_push1 hT rfl rfl rfl rfl rfl rfl rfl rfl rfl rfl rfl rfl (fun _ => rfl) rfl (H0 := [_, _]) hSt ho (by omega) (by omega) ?_; clear hSt ho; intro v' w H2 u ho hSt; obtain ⟨a1, c1, rfl⟩ := ho.len; dsimp only [List.cons_append, List.nil_append] at hSt) | (refine WL_isCall (f := 68) ?_; refine WL_call (ok_call hT rfl) rfl rfl rfl (chain_any _ hp _ hx) ?_; rintro v w' ⟨rfl, hc2⟩; replace hSt := hSt.call0 hc2; clear hc2) | (refine WL_store1 hT rfl rfl 0 rfl rfl hSt rfl rfl rfl ?_; clear hSt; intro w hSt; dsimp only [List.set] at hSt) | refine stepA ?_ | (refine stepS ?_; clear hSt; intro w hSt; dsimp only [spl, List.set] at hSt) | (refine stepB ?_; clear hSt; intro w nb hnb hSt; dsimp only [zcells, List.nil_append, List.cons_append] at hSt) | (refine stepG ?_ ?_ <;> intro hc <;> (try exact absA) <;> (fail_if_success (change true = true at hc)) <;> (fail_if_success (change false = false at hc))) | fail)
        have ho2 : OwnSl (.slice a1 (l.length + 1) c1) 9 1 (strs (l ++ [x])) (l ++ [x]).length H2 := by
          rw [strs_snoc, List.length_append, List.length_singleton]; exact ho
        rw [← hhd] at hSt
        exact ret1 rfl rfl ⟨rfl, _, ⟨_, _, ho2, rfl⟩, hSt⟩
      · rw [if_neg he]
        by_cases h15 : e = 15
        · subst h15
          rw [if_pos rfl]
          refine enter Tryz.func72 rfl Tryz.ntmps72 rfl ?_
          repeat' (first | (refine WL_isCall (f := 86) ?_; refine WL_call (ok_call hT rfl) rfl rfl rfl (running_any (hSt.own 0 _ _ rfl).1) ?_; rintro v w2 ⟨rfl, hc2⟩; replace hSt := hSt.call0 hc2; clear hc2) | (refine W_ownS (Hs := [_]) [(0, false), (1, false), (2, false), (3, false), (4, false), (5, false), (6, false), (7, false), (8, false), (9, true), (10, true)] hT (by decide +kernel) rfl hSt ?_; clear hSt; intro w hSt; (repeat' (first | (apply HL_ev rfl rfl (St.left (H0 := [_]) hSt); (intro w hSt; (first | exact Ev_auto))) | (refine HL_one ?_; refine WL_isCall (f := 88) ?_; refine WL_call (ok_call hT rfl) rfl rfl rfl (hfr (hD.later hSt h2)) ?_; rintro v w2 ⟨rfl, hc2⟩; replace hSt := hSt.call0 hc2; clear hc2; refine WL_nil (At_oneH (St.left (H0 := [_]) hSt) ?_)) | (refine HL_one ?_; refine WL_isCall (f := 87) ?_; refine WL_call (ok_call hT rfl) rfl rfl rfl (hap (hSt.own 1 _ _ rfl).1) ?_; rintro v w2 ⟨rfl, hc2⟩; replace hSt := hSt.call1 (i := 1) rfl hc2; clear hc2; dsimp only [List.set, List.cons_append, List.nil_append] at hSt; refine WL_nil (At_oneH (St.left (H0 := [_]) hSt) ?_)))); refine HL_end ?_; simp only [List.length_cons, List.length_nil, List.drop_succ_cons, List.drop_zero]) | (refine WL_store1 hT rfl rfl 0 rfl rfl hSt rfl rfl rfl ?_; clear hSt; intro w hSt; dsimp only [List.set] at hSt) | refine stepA ?_ | (refine stepS ?_; clear hSt; intro w hSt; dsimp only [spl, List.set] at hSt) | (refine stepB ?_; clear hSt; intro w nb hnb hSt; dsimp only [zcells, List.nil_append, List.cons_append] at hSt) | (refine stepG ?_ ?_ <;> intro hc <;> (try exact absA) <;> (fail_if_success (change true = true at hc)) <;> (fail_if_success (change false = false at hc))) | fail)
          all_goals exact ret1 rfl rfl ⟨rfl, _, ⟨_, _, ho, rfl⟩, hSt⟩
        · rw [if_neg h15]
          refine enter Tryz.func72 rfl Tryz.ntmps72 rfl ?_
          repeat' (first | (refine WL_isCall (f := 86) ?_; refine WL_call (ok_call hT rfl) rfl rfl rfl (running_any (hSt.own 0 _ _ rfl).1) ?_; rintro v w2 ⟨rfl, hc2⟩; replace hSt := hSt.call0 hc2; clear hc2) | (refine W_ownS (Hs := [_]) [(0, false), (1, false), (2, false), (3, false), (4, false), (5, false), (6, false), (7, false), (8, false), (9, true), (10, true)] hT (by decide +kernel) rfl hSt ?_; clear hSt; intro w hSt; (repeat' (first | (apply HL_ev rfl rfl (St.left (H0 := [_]) hSt); (intro w hSt; (first | exact Ev_auto))) | (refine HL_one ?_; refine WL_isCall (f := 88) ?_; refine WL_call (ok_call hT rfl) rfl rfl rfl (hfr (hD.later hSt h2)) ?_; rintro v w2 ⟨rfl, hc2⟩; replace hSt := hSt.call0 hc2; clear hc2; refine WL_nil (At_oneH (St.left (H0 := [_]) hSt) ?_)) | (refine HL_one ?_; refine WL_isCall (f := 87) ?_; refine WL_call (ok_call hT rfl) rfl rfl rfl (hap (hSt.own 1 _ _ rfl).1) ?_; rintro v w2 ⟨rfl, hc2⟩; replace hSt := hSt.call1 (i := 1) rfl hc2; clear hc2; dsimp only [List.set, List.cons_append, List.nil_append] at hSt; refine WL_nil (At_oneH (St.left (H0 := [_]) hSt) ?_)))); refine HL_end ?_; simp only [List.length_cons, List.length_nil, List.drop_succ_cons, List.drop_zero]) | (refine WL_store1 hT rfl rfl 0 rfl rfl hSt rfl rfl rfl ?_; clear hSt; intro w hSt; dsimp only [List.set] at hSt) | refine stepA ?_ | (refine stepS ?_; clear hSt; intro w hSt; dsimp only [spl, List.set] at hSt) | (refine stepB ?_; clear hSt; intro w nb hnb hSt; dsimp only [zcells, List.nil_append, List.cons_append] at hSt) | (refine stepG ?_ ?_ <;> intro hc <;> (try exact absA) <;> (fail_if_success (change true = true at hc)) <;> (fail_if_success (change false = false at hc))) | fail)
          all_goals exact ret1 rfl rfl ⟨rfl, _, ⟨_, _, ho, rfl⟩, hSt⟩
theorem jsync_any {w0 : World} {bm bj : Nat} {m : Med} {j : Jr} {H : List (Nat × Obj)} (hJ : JW bm bj m j H) (hm : m.Ok) (hh : Has w0 H) :
    Cl Tryz.prog 73 [Ptr bj] w0 (fun v w' => v = I (jSync m j).1 ∧ ∃ H', JW bm bj (jSync m j).2.1 (jSync m j).2.2 H' ∧ St w0 (InH H) H' w') := by
  have hSt := hh.st
  generalize InH H = SS at hSt ⊢
  obtain ⟨rv, H1, ho, rfl⟩ := hJ
  obtain ⟨l, dur, stop⟩ := j
  dsimp only at ho hSt
  unfold jSync
  dsimp only
  obtain ⟨a0, c0, rfl⟩ := ho.len
  cases stop with
  | true =>
    rw [if_pos rfl]
    refine enter Tryz.func73 rfl Tryz.ntmps73 rfl ?_
    repeat' (first | (refine WL_isCall (f := 86) ?_; refine WL_call (ok_call hT rfl) rfl rfl rfl (running_any (hSt.own 0 _ _ rfl).1) ?_; rintro v w2 ⟨rfl, hc2⟩; replace hSt := hSt.call0 hc2; clear hc2) | refine stepA ?_ | (refine stepS ?_; clear hSt; intro w hSt; dsimp only [spl, List.set] at hSt) | (refine stepB ?_; clear hSt; intro w nb hnb hSt; dsimp only [zcells, List.nil_append, List.cons_append] at hSt) | (refine stepG ?_ ?_ <;> intro hc <;> (try exact absA) <;> (fail_if_success (change true = true at hc)) <;> (fail_if_success (change false = false at hc))) | fail)
    all_goals exact ret1 rfl rfl ⟨rfl, _, ⟨_, _, ho, rfl⟩, hSt⟩
  | false =>
    rw [if_neg (by simp)]
    have hsy := fun {w : World} (hb : w.heap[bm]? = some m.obj) => sync_any hb hm
    generalize m.sync = r at hsy ⊢
    obtain ⟨e, m2⟩ := r
    dsimp only at hsy ⊢
    by_cases he : e = 0
    · subst he
      rw [if_pos rfl]
      refine enter Tryz.func73 rfl Tryz.ntmps73 rfl ?_
      repeat' (first | (refine WL_isCall (f := 86) ?_; refine WL_call (ok_call hT rfl) rfl rfl rfl (running_any (hSt.own 0 _ _ rfl).1) ?_; rintro v w2 ⟨rfl, hc2⟩; replace hSt := hSt.call0 hc2; clear hc2) | (refine WL_isCall (f := 56) ?_; refine WL_call (ok_call hT rfl) rfl rfl rfl (hsy (hSt.own 1 _ _ rfl).1) ?_; rintro v w2 ⟨rfl, hc2⟩; replace hSt := hSt.call1 (i := 1) rfl hc2; clear hc2; dsimp only [List.set, List.cons_append, List.nil_append] at hSt) | (refine WL_store1 hT rfl rfl 0 rfl rfl hSt rfl rfl rfl ?_; clear hSt; intro w hSt; dsimp only [List.set] at hSt) | refine stepA ?_ | (refine stepS ?_; clear hSt; intro w hSt; dsimp only [spl, List.set] at hSt) | (refine stepB ?_; clear hSt; intro w nb hnb hSt; dsimp only [zcells, List.nil_append, List.cons_append] at hSt) | (refine stepG ?_ ?_ <;> intro hc <;> (try exact absA) <;> (fail_if_success (change true = true at hc)) <;> (fail_if_success (change false = false at hc))) | fail)
      all_goals exact ret1 rfl rfl ⟨rfl, _, ⟨_, _, ho, rfl⟩, hSt⟩
    · rw [if_neg he]
      refine enter Tryz.func73 rfl Tryz.ntmps73 rfl ?_
      repeat' (first | (refine WL_isCall (f := 86) ?_; refine WL_call (ok_call hT rfl) rfl rfl rfl (running_any (hSt.own 0 _ _ rfl).1) ?_; rintro v w2 ⟨rfl, hc2⟩; replace hSt := hSt.call0 hc2; clear hc2) | (refine WL_isCall (f := 56) ?_; refine WL_call (ok_call hT rfl) rfl rfl rfl (hsy (hSt.own 1 _ _ rfl).1) ?_; rintro v w2 ⟨rfl, hc2⟩; replace hSt := hSt.call1 (i := 1) rfl hc2; clear hc2; dsimp only [List.set, List.cons_append, List.nil_append] at hSt) | (refine WL_store1 hT rfl rfl 0 rfl rfl hSt rfl rfl rfl ?_; clear hSt; intro w hSt; dsimp only [List.set] at hSt) | refine stepA ?_ | (refine stepS ?_; clear hSt; intro w hSt; dsimp only [spl, List.set] at hSt) | (refine stepB ?_; clear hSt; intro w nb hnb hSt; dsimp only [zcells, List.nil_append, List.cons_append] at hSt) | (refine stepG ?_ ?_ <;> intro hc <;> (try exact absA) <;> (fail_if_success (change true = true at hc)) <;> (fail_if_success (change false = false at hc))) | fail)
      all_goals exact ret1 rfl rfl ⟨rfl, _, ⟨_, _, ho, rfl⟩, hSt⟩
theorem jrecords_any {w0 : World} {bm bj : Nat} {m : Med} {j : Jr} {H : List (Nat × Obj)} (hJ : JW bm bj m j H) (hl : j.l.length ≤ 1000000) (hh : Has w0 H) :
    Cl Tryz.prog 28 [Ptr bj] w0 (fun v w' => ∃ H1, OwnSl v 9 1 (strs j.l) j.l.length H1 ∧ St w0 NoneS H1 w') := by
  have hSt := St.refl w0 NoneS
  obtain ⟨rv, H1, ho, rfl⟩ := hJ
  have hb := hh.mem (List.mem_cons_self ..)
  have hs := own_tc ho (hh.sublist (List.sublist_append_right [_, _] H1))
  obtain ⟨l, dur, stop⟩ := j
  dsimp only at ho hs hb hl
  obtain ⟨a0, c0, rfl⟩ := ho.len
  have hq : ([Ptr bm, .slice a0 l.length c0, U (headF 0 l), I dur, B stop] : List Value)[1]? = some (.slice a0 l.length c0) := rfl
  refine enter Tryz.func28 rfl Tryz.ntmps28 rfl ?_
  repeat' (first | (apply WL_ev rfl rfl; exact Ev_some_nil_eql (ok_ptr hT rfl) rfl rfl) | (apply WL_ev rfl rfl; exact Ev_load1 hT rfl rfl (hSt.base hb (fun e => e)) hq) | (refine WL_isCall (f := 57) ?_; refine WL_call (ok_call hT rfl) rfl rfl rfl (sclone_any (hs.later hSt (fun _ e => e)) (by omega)) ?_; rintro v w2 ⟨H2, ho2, hc2⟩; replace hSt := hSt.newN hc2; clear hc2; dsimp only [List.nil_append] at hSt) | refine stepA ?_ | (refine stepS ?_; clear hSt; intro w hSt; dsimp only [spl, List.set] at hSt) | (refine stepB ?_; clear hSt; intro w nb hnb hSt; dsimp only [zcells, List.nil_append, List.cons_append] at hSt) | (refine stepG ?_ ?_ <;> intro hc <;> (try exact absA) <;> (fail_if_success (change true = true at hc)) <;> (fail_if_success (change false = false at hc))) | fail)
  exact ret1 rfl rfl ⟨_, ho2, hSt⟩
/-! ## Open -/
theorem Med.Ok.trim {m : Med} (hm : m.Ok) : (jTrim m).2.Ok := by
  unfold jTrim
  split
  · exact hm.truncate _
  · exact hm
theorem jopen_any {w0 : World} (hD : Deb w0) {bm : Nat} {m : Med} (hb : w0.heap[bm]? = some m.obj) (hm : m.Ok) (h2 : ¬ bm = 5) :
    Cl Tryz.prog 27 [Ptr bm] w0 (fun v w' => ((jOpen m).1 ≠ 0 ∧ v = .tuple ⟨[.pointer none, I (jOpen m).1]⟩ ∧ St w0 (· = bm) [(bm, (jOpen m).2.1.obj)] w') ∨
      ((jOpen m).1 = 0 ∧ ∃ bj H', v = .tuple ⟨[Ptr bj, I 0]⟩ ∧ JW bm bj (jOpen m).2.1 (jOpen m).2.2 H' ∧ St w0 (· = bm) H' w')) := by
  have hSt := (St.refl w0 (· = bm)).know hb (Or.inl rfl) (by simp)
  dsimp only [List.nil_append, List.cons_append] at hSt
  have hrd := fun {w : World} (hb : w.heap[bm]? = some m.obj) => read_any hb hm
  have hs1 := hm.s; have hs2 := hm.z
  have hv := fun {w : World} (hD : Deb w) => verified_any hD m.s (by omega)
  have htr := fun {w : World} (hb : w.heap[bm]? = some m.obj) => truncate_any hb hm (verF m.s).2.1
  have hsy := fun {w : World} (hb : w.heap[bm]? = some (jTrim m).2.obj) => sync_any hb hm.trim
  have hhd : (verF m.s).2.2 = headF 0 (verF m.s).1 := (verG_canon _ 0 m.s).2.2.1
  unfold jOpen
  unfold Med.read at hrd
  by_cases hdn : m.down = true
  · rw [if_pos hdn] at hrd ⊢
    refine enter Tryz.func27 rfl Tryz.ntmps27 rfl ?_
    repeat' (first | (refine WL_isCall (f := 53) ?_; refine WL_call (ok_call hT rfl) rfl rfl rfl (hrd (hSt.own 0 _ _ rfl).1) ?_; rintro v w2 ⟨rfl, hc2⟩; replace hSt := hSt.call1 (i := 0) rfl hc2; clear hc2; dsimp only [List.set, List.cons_append, List.nil_append] at hSt) | refine stepA ?_ | (refine stepS ?_; clear hSt; intro w hSt; dsimp only [spl, List.set] at hSt) | (refine stepB ?_; clear hSt; intro w nb hnb hSt; dsimp only [zcells, List.nil_append, List.cons_append] at hSt) | (refine stepG ?_ ?_ <;> intro hc <;> (try exact absA) <;> (fail_if_success (change true = true at hc)) <;> (fail_if_success (change false = false at hc))) | fail)
    all_goals exact ret2 rfl rfl rfl (.inl ⟨by simp, rfl, hSt⟩)
  · rw [if_neg hdn] at hrd ⊢
    dsimp only at hrd
    unfold jTrim at hsy ⊢
    rw [hhd] at hv
    generalize verF m.s = V at hv htr hsy ⊢
    obtain ⟨rs, wh, hd⟩ := V
    dsimp only at hv htr hsy ⊢
    by_cases hw : wh < m.s.length
    · rw [if_pos hw] at hsy ⊢
      generalize m.truncate wh = tr at htr hsy ⊢
      obtain ⟨te, m1⟩ := tr
      dsimp only at htr hsy ⊢
      by_cases ht : te = 0
      · subst ht
        rw [if_neg (by simp)]
        generalize m1.sync = sy at hsy ⊢
        obtain ⟨se, m2⟩ := sy
        dsimp only at hsy ⊢
        by_cases hs : se = 0
        · subst hs
          refine enter Tryz.func27 rfl Tryz.ntmps27 rfl ?_
          repeat' (first | (refine WL_isCall (f := 53) ?_; refine WL_call (ok_call hT rfl) rfl rfl rfl (hrd (hSt.own 0 _ _ rfl).1) ?_; rintro v w2 ⟨rfl, hc2⟩; replace hSt := hSt.call1 (i := 0) rfl hc2; clear hc2; dsimp only [List.set, List.cons_append, List.nil_append] at hSt) | (refine WL_isCall (f := 54) ?_; refine WL_call (ok_call hT rfl) rfl rfl rfl (hv (hD.later hSt (fun e => h2 e.symm))) ?_; rintro v w2 ⟨rv, H1, rfl, ho, hc2⟩; replace hSt := hSt.newN hc2; clear hc2; obtain ⟨a0, c0, rfl⟩ := ho.len; dsimp only [List.cons_append, List.nil_append] at hSt) | (refine WL_isCall (f := 55) ?_; refine WL_call (ok_call hT rfl) rfl rfl rfl (htr (hSt.own 0 _ _ rfl).1) ?_; rintro v w2 ⟨rfl, hc2⟩; replace hSt := hSt.call1 (i := 0) rfl hc2; clear hc2; dsimp only [List.set, List.cons_append, List.nil_append] at hSt) | (refine WL_isCall (f := 56) ?_; refine WL_call (ok_call hT rfl) rfl rfl rfl (hsy (hSt.own 0 _ _ rfl).1) ?_; rintro v w2 ⟨rfl, hc2⟩; replace hSt := hSt.call1 (i := 0) rfl hc2; clear hc2; dsimp only [List.set, List.cons_append, List.nil_append] at hSt) | refine stepA ?_ | (refine stepS ?_; clear hSt; intro w hSt; dsimp only [spl, List.set] at hSt) | (refine stepB ?_; clear hSt; intro w nb hnb hSt; dsimp only [zcells, List.nil_append, List.cons_append] at hSt) | (refine stepG ?_ ?_ <;> intro hc <;> (try exact absA) <;> (fail_if_success (change true = true at hc)) <;> (fail_if_success (change false = false at hc))) | fail)
          exact ret2 rfl rfl rfl (.inr ⟨rfl, _, _, rfl, ⟨_, _, ho, rfl⟩, St.front (H := (bm, m2.obj) :: H1) hSt⟩)
        · refine enter Tryz.func27 rfl Tryz.ntmps27 rfl ?_
          repeat' (first | (refine WL_isCall (f := 53) ?_; refine WL_call (ok_call hT rfl) rfl rfl rfl (hrd (hSt.own 0 _ _ rfl).1) ?_; rintro v w2 ⟨rfl, hc2⟩; replace hSt := hSt.call1 (i := 0) rfl hc2; clear hc2; dsimp only [List.set, List.cons_append, List.nil_append] at hSt) | (refine WL_isCall (f := 54) ?_; refine WL_call (ok_call hT rfl) rfl rfl rfl (hv (hD.later hSt (fun e => h2 e.symm))) ?_; rintro v w2 ⟨rv, H1, rfl, ho, hc2⟩; replace hSt := hSt.newN hc2; clear hc2; obtain ⟨a0, c0, rfl⟩ := ho.len; dsimp only [List.cons_append, List.nil_append] at hSt) | (refine WL_isCall (f := 55) ?_; refine WL_call (ok_call hT rfl) rfl rfl rfl (htr (hSt.own 0 _ _ rfl).1) ?_; rintro v w2 ⟨rfl, hc2⟩; replace hSt := hSt.call1 (i := 0) rfl hc2; clear hc2; dsimp only [List.set, List.cons_append, List.nil_append] at hSt) | (refine WL_isCall (f := 56) ?_; refine WL_call (ok_call hT rfl) rfl rfl rfl (hsy (hSt.own 0 _ _ rfl).1) ?_; rintro v w2 ⟨rfl, hc2⟩; replace hSt := hSt.call1 (i := 0) rfl hc2; clear hc2; dsimp only [List.set, List.cons_append, List.nil_append] at hSt) | refine stepA ?_ | (refine stepS ?_; clear hSt; intro w hSt; dsimp only [spl, List.set] at hSt) | (refine stepB ?_; clear hSt; intro w nb hnb hSt; dsimp only [zcells, List.nil_append, List.cons_append] at hSt) | (refine stepG ?_ ?_ <;> intro hc <;> (try exact absA) <;> (fail_if_success (change true = true at hc)) <;> (fail_if_success (change false = false at hc))) | fail)
          all_goals exact ret2 rfl rfl rfl (.inl ⟨hs, rfl, hSt.one (i := 0) rfl⟩)
      · rw [if_pos ht]
        refine enter Tryz.func27 rfl Tryz.ntmps27 rfl ?_
        repeat' (first | (refine WL_isCall (f := 53) ?_; refine WL_call (ok_call hT rfl) rfl rfl rfl (hrd (hSt.own 0 _ _ rfl).1) ?_; rintro v w2 ⟨rfl, hc2⟩; replace hSt := hSt.call1 (i := 0) rfl hc2; clear hc2; dsimp only [List.set, List.cons_append, List.nil_append] at hSt) | (refine WL_isCall (f := 54) ?_; refine WL_call (ok_call hT rfl) rfl rfl rfl (hv (hD.later hSt (fun e => h2 e.symm))) ?_; rintro v w2 ⟨rv, H1, rfl, ho, hc2⟩; replace hSt := hSt.newN hc2; clear hc2; obtain ⟨a0, c0, rfl⟩ := ho.len; dsimp only [List.cons_append, List.nil_append] at hSt) | (refine WL_isCall (f := 55) ?_; refine WL_call (ok_call hT rfl) rfl rfl rfl (htr (hSt.own 0 _ _ rfl).1) ?_; rintro v w2 ⟨rfl, hc2⟩; replace hSt := hSt.call1 (i := 0) rfl hc2; clear hc2; dsimp only [List.set, List.cons_append, List.nil_append] at hSt) | refine stepA ?_ | (refine stepS ?_; clear hSt; intro w hSt; dsimp only [spl, List.set] at hSt) | (refine stepB ?_; clear hSt; intro w nb hnb hSt; dsimp only [zcells, List.nil_append, List.cons_append] at hSt) | (refine stepG ?_ ?_ <;> intro hc <;> (try exact absA) <;> (fail_if_success (change true = true at hc)) <;> (fail_if_success (change false = false at hc))) | fail)
        all_goals exact ret2 rfl rfl rfl (.inl ⟨ht, rfl, hSt.one (i := 0) rfl⟩)
    · rw [if_neg hw] at hsy ⊢
      dsimp only at hsy ⊢
      rw [if_neg (by simp)]
      generalize m.sync = sy at hsy ⊢
      obtain ⟨se, m2⟩ := sy
      dsimp only at hsy ⊢
      by_cases hs : se = 0
      · subst hs
        refine enter Tryz.func27 rfl Tryz.ntmps27 rfl ?_
        repeat' (first | (refine WL_isCall (f := 53) ?_; refine WL_call (ok_call hT rfl) rfl rfl rfl (hrd (hSt.own 0 _ _ rfl).1) ?_; rintro v w2 ⟨rfl, hc2⟩; replace hSt := hSt.call1 (i := 0) rfl hc2; clear hc2; dsimp only [List.set, List.cons_append, List.nil_append] at hSt) | (refine WL_isCall (f := 54) ?_; refine WL_call (ok_call hT rfl) rfl rfl rfl (hv (hD.later hSt (fun e => h2 e.symm))) ?_; rintro v w2 ⟨rv, H1, rfl, ho, hc2⟩; replace hSt := hSt.newN hc2; clear hc2; obtain ⟨a0, c0, rfl⟩ := ho.len; dsimp only [List.cons_append, List.nil_append] at hSt) | (refine WL_isCall (f := 56) ?_; refine WL_call (ok_call hT rfl) rfl rfl rfl (hsy (hSt.own 0 _ _ rfl).1) ?_; rintro v w2 ⟨rfl, hc2⟩; replace hSt := hSt.call1 (i := 0) rfl hc2; clear hc2; dsimp only [List.set, List.cons_append, List.nil_append] at hSt) | refine stepA ?_ | (refine stepS ?_; clear hSt; intro w hSt; dsimp only [spl, List.set] at hSt) | (refine stepB ?_; clear hSt; intro w nb hnb hSt; dsimp only [zcells, List.nil_append, List.cons_append] at hSt) | (refine stepG ?_ ?_ <;> intro hc <;> (try exact absA) <;> (fail_if_success (change true = true at hc)) <;> (fail_if_success (change false = false at hc))) | fail)
        exact ret2 rfl rfl rfl (.inr ⟨rfl, _, _, rfl, ⟨_, _, ho, rfl⟩, St.front (H := (bm, m2.obj) :: H1) hSt⟩)
      · refine enter Tryz.func27 rfl Tryz.ntmps27 rfl ?_
        repeat' (first | (refine WL_isCall (f := 53) ?_; refine WL_call (ok_call hT rfl) rfl rfl rfl (hrd (hSt.own 0 _ _ rfl).1) ?_; rintro v w2 ⟨rfl, hc2⟩; replace hSt := hSt.call1 (i := 0) rfl hc2; clear hc2; dsimp only [List.set, List.cons_append, List.nil_append] at hSt) | (refine WL_isCall (f := 54) ?_; refine WL_call (ok_call hT rfl) rfl rfl rfl (hv (hD.later hSt (fun e => h2 e.symm))) ?_; rintro v w2 ⟨rv, H1, rfl, ho, hc2⟩; replace hSt := hSt.newN hc2; clear hc2; obtain ⟨a0, c0, rfl⟩ := ho.len; dsimp only [List.cons_append, List.nil_append] at hSt) | (refine WL_isCall (f := 56) ?_; refine WL_call (ok_call hT rfl) rfl rfl rfl (hsy (hSt.own 0 _ _ rfl).1) ?_; rintro v w2 ⟨rfl, hc2⟩; replace hSt := hSt.call1 (i := 0) rfl hc2; clear hc2; dsimp only [List.set, List.cons_append, List.nil_append] at hSt) | refine stepA ?_ | (refine stepS ?_; clear hSt; intro w hSt; dsimp only [spl, List.set] at hSt) | (refine stepB ?_; clear hSt; intro w nb hnb hSt; dsimp only [zcells, List.nil_append, List.cons_append] at hSt) | (refine stepG ?_ ?_ <;> intro hc <;> (try exact absA) <;> (fail_if_success (change true = true at hc)) <;> (fail_if_success (change false = false at hc))) | fail)
        all_goals exact ret2 rfl rfl rfl (.inl ⟨hs, rfl, hSt.one (i := 0) rfl⟩)
end Go.Proofs.YthkimkgphaiagaaGreatDoor

namespace Go.Proofs.YthkimkgphaiagaaGreatDoor
open Go.RowKit
set_option maxRecDepth 4000
set_option linter.unusedVariables false
set_option linter.unusedSimpArgs false
set_option maxHeartbeats 4000000

/-! ## What the methods return where it is known -/
theorem Deb.out2 {w0 w : World} {H : List (Nat × Obj)} (hD : Deb w0) (h : St w0 NoneS H w) : ¬ InH H 5 := by
  intro hI
  obtain ⟨x, hx, e⟩ := hI.out
  have h1 := (h.mem hx).2
  obtain ⟨l, E, fz, h2, _⟩ := hD
  have h3 := (Array.getElem?_eq_some_iff.1 h2).1
  rw [e] at h1
  rcases h1 with h1 | h1
  · exact h1
  · omega
theorem Deb.ne2 {w0 w : World} {H : List (Nat × Obj)} {i b : Nat} {o : Obj} (hD : Deb w0) (h : St w0 NoneS H w) (hi : H[i]? = some (b, o)) : ¬ b = 5 := fun e => hD.out2 h ⟨i, o, by rw [← e]; exact hi⟩
theorem JW.at {bm bj : Nat} {m : Med} {j : Jr} {H : List (Nat × Obj)} (h : JW bm bj m j H) : H[1]? = some (bm, m.obj) := by
  obtain ⟨rv, H1, ho, rfl⟩ := h; rfl
theorem JW.put {bm bj : Nat} {m : Med} {j : Jr} {H : List (Nat × Obj)} (h : JW bm bj m j H) (m' : Med) : JW bm bj m' j (H.set 1 (bm, m'.obj)) := by
  obtain ⟨rv, H1, ho, rfl⟩ := h; exact ⟨rv, H1, ho, rfl⟩
theorem St.callA {w0 w w' : World} {Sx : Nat → Prop} {H H' : List (Nat × Obj)} (h : St w0 Sx H w) (k : St w (InH H) H' w') : St w0 Sx H' w' := St.callE (Ha := []) h k
theorem St.open1 {w0 w w' : World} {Sx : Nat → Prop} {b : Nat} {o : Obj} {H' : List (Nat × Obj)} (h : St w0 Sx [(b, o)] w) (k : St w (· = b) H' w') : St w0 Sx H' w' :=
  h.trans k (fun c e => by subst e; exact (h.own 0 _ o rfl).2) (fun i c u hi => .inl ⟨i, hi⟩) k.apart
theorem jappend_to {w0 : World} (hD : Deb w0) {bm bj : Nat} {m m2 : Med} {j j2 : Jr} {e : Int} {H : List (Nat × Obj)} {x : List UInt8} (hJ : JW bm bj m j H) (h : jAppend m j x = (e, m2, j2) ∧ m.Ok ∧ j.l.length ≤ 1000000) (hx : x.length ≤ 140737488355328) (hh : Has w0 H) (h2 : ¬ InH H 5) :
    Cl Tryz.prog 72 [Ptr bj, S x] w0 (fun v w' => v = I e ∧ ∃ H', JW bm bj m2 j2 H' ∧ St w0 (InH H) H' w') := by
  have := jappend_any hD hJ h.2.1 h.2.2 hh h2 x hx
  rw [h.1] at this; exact this
theorem jsync_to {w0 : World} {bm bj : Nat} {m m2 : Med} {j j2 : Jr} {e : Int} {H : List (Nat × Obj)} (hJ : JW bm bj m j H) (h : jSync m j = (e, m2, j2) ∧ m.Ok) (hh : Has w0 H) :
    Cl Tryz.prog 73 [Ptr bj] w0 (fun v w' => v = I e ∧ ∃ H', JW bm bj m2 j2 H' ∧ St w0 (InH H) H' w') := by
  have := jsync_any hJ h.2 hh
  rw [h.1] at this; exact this
theorem jopen_to {w0 : World} (hD : Deb w0) {bm : Nat} {m m2 : Med} {j2 : Jr} (hb : w0.heap[bm]? = some m.obj) (h : jOpen m = (0, m2, j2) ∧ m.Ok) (h2 : ¬ bm = 5) :
    Cl Tryz.prog 27 [Ptr bm] w0 (fun v w' => ∃ bj H', v = .tuple ⟨[Ptr bj, I 0]⟩ ∧ JW bm bj m2 j2 H' ∧ St w0 (· = bm) H' w') := by
  have := jopen_any hD hb h.2 h2
  rw [h.1] at this
  refine this.mono ?_
  rintro v w' (⟨h1, _⟩ | ⟨_, h1⟩)
  · exact absurd rfl h1
  · exact h1
theorem crash_to {w0 : World} {bm : Nat} {m m2 : Med} {e k : Int} (hb : w0.heap[bm]? = some m.obj) (h : m.crashOp k = (e, m2) ∧ m.Ok) : Cl Tryz.prog 37 [Ptr bm, I k] w0 (fun v w' => v = I e ∧ St w0 (· = bm) [(bm, m2.obj)] w') := by
  have := crashOp_any hb h.2 k
  rw [h.1] at this; exact this
theorem recover_to {w0 : World} {bm : Nat} {m m2 : Med} {e : Int} (hb : w0.heap[bm]? = some m.obj) (h : m.recover = (e, m2) ∧ m.Ok) : Cl Tryz.prog 66 [Ptr bm] w0 (fun v w' => v = I e ∧ St w0 (· = bm) [(bm, m2.obj)] w') := by
  have := recover_any hb h.2
  rw [h.1] at this; exact this
theorem lit1 {w0 w : World} {Sx : Nat → Prop} {H : List (Nat × Obj)} {b : Nat} {x : List UInt8} {e : TypeId} (h : St w0 Sx (H ++ [(b, blk [S x] e)]) w) : SlAt w (.slice (some ⟨b, 0, none⟩) 1 1) 1 ([x].map tc) :=
  OwnSl.slAt (f := tc) (l := [x]) (fun _ => rfl) (OwnSl.whole b e [S x]) h.right.has

/-! ## The example -/
theorem verF_nil : verF [] = ([], 0, 0) := by
  have := verF_frames [] [] (fun x h => by cases h) (firstF_nil _)
  exact this
theorem verF_one (x : List UInt8) (hx : x.length ≤ 4000) : verF (frameF 0 x) = ([x], (frameF 0 x).length, chainF 0 x) := by
  have := verF_frames [x] [] (fun y h => by rcases List.mem_singleton.1 h with rfl; exact hx) (firstF_nil _)
  rw [List.append_nil, framesF, framesF, List.append_nil] at this
  exact this
theorem one_len (p : Nat) (c : UInt8) : (frameF p [c]).length = 10 := by rw [frameF_len]; rfl
def exM (dur : Int) (s : List UInt8) (dn : Bool) : Med := ⟨100, dur, s, dn, 0, 0⟩
theorem exM_ok {dur : Int} {s : List UInt8} {dn : Bool} (h : 0 ≤ dur ∧ dur ≤ s.length ∧ (s.length : Int) ≤ 100) : (exM dur s dn).Ok := ⟨h.1, h.2.1, h.2.2, by simp [exM], by simp [exM], by simp [exM]⟩
theorem exOpen {s : List UInt8} {l : List (List UInt8)} {hd : Nat} {dur : Int} (hv : verF s = (l, s.length, hd)) : jOpen (exM dur s false) = (0, exM s.length s false, ⟨l, l.length, false⟩) := by
  have ht : jTrim (exM dur s false) = (0, exM dur s false) := by
    unfold jTrim
    have : (exM dur s false).s = s := rfl
    rw [this, hv, if_neg (by simp)]
  unfold jOpen
  rw [if_neg (by simp [exM]), ht, if_neg (by simp)]
  have : (exM dur s false).s = s := rfl
  rw [this, hv]
  simp [exM, Med.sync, Med.due]
theorem exAppend {dur : Int} {s x : List UInt8} {l : List (List UInt8)} {d : Int} (hx : ¬ 4000 < x.length) (hr : s.length + (frameF (headF 0 l) x).length ≤ 100) : jAppend (exM dur s false) ⟨l, d, false⟩ x = (0, exM dur (s ++ frameF (headF 0 l) x) false, ⟨l ++ [x], d, false⟩) := by
  have ha : (exM dur s false).append (frameF (headF 0 l) x) = (0, exM dur (s ++ frameF (headF 0 l) x) false) := by
    generalize frameF (headF 0 l) x = F at hr ⊢
    unfold Med.append
    have h1 : (exM dur s false).down = false := rfl
    have h2 : ¬ (exM dur s false).size - ((exM dur s false).s.length : Int) < (F.length : Int) := by show ¬ (100 : Int) - (s.length : Int) < _; omega
    have h3 : ¬ (exM dur s false).steps = 1 := by show ¬ (0 : Int) = 1; omega
    rw [h1, if_neg (by simp), if_neg h2, if_neg h3]; rfl
  unfold jAppend
  rw [if_neg (by simp), if_neg hx]
  dsimp only
  rw [ha, if_pos rfl]
end Go.Proofs.YthkimkgphaiagaaGreatDoor

namespace Go.Proofs.YthkimkgphaiagaaGreatDoor
open Go.RowKit
set_option maxRecDepth 4000
set_option linter.unusedVariables false
set_option linter.unusedSimpArgs false
set_option maxHeartbeats 4000000

structure Jp where
  k : Int
  a : Int
  b : Int
  s : List UInt8
abbrev Jp.cells (x : Jp) : List Value := [I x.k, I x.a, I x.b, S x.s]
/-! ## Calls that change the medium of a journal -/
section
variable {w0 w w' : World} {bm bj : Nat} {m m2 : Med} {j j2 : Jr} {H HA X H3 : List (Nat × Obj)} {Sx : Nat → Prop}
theorem jw_of {f : FuncId} {args : List Value} {V : Value} (hJ : JW bm bj m j H) (hh : Has w H) (hc : Cl Tryz.prog f args w (fun v w' => v = V ∧ St w (· = bm) [(bm, m2.obj)] w')) : Cl Tryz.prog f args w (fun v w' => v = V ∧ ∃ H', JW bm bj m2 j H' ∧ St w (InH H) H' w') :=
  hc.mono fun v w' h => ⟨h.1, _, hJ.put m2, hh.st.call1 hJ.at h.2⟩
theorem JW.hb (hJ : JW bm bj m j H) (hh : Has w H) : w.heap[bm]? = some m.obj := hh.own 1 _ _ hJ.at
theorem Deb.out3 (hD : Deb w0) (h : St w0 NoneS (X ++ (H ++ HA)) w) : ¬ InH H 5 := by
  intro hI
  obtain ⟨x, hx, e⟩ := hI.out
  exact hD.out2 h (e ▸ InH_of (List.mem_append_right X (List.mem_append_left HA hx)))
theorem jreopen_any (hD : Deb w) (hJ : JW bm bj m j H) (hm : m.Ok) (hh : Has w H) (h2 : ¬ InH H 5) {e : Int} (ho : jOpen m = (e, m2, j2)) :
    Cl Tryz.prog 27 [Ptr bm] w (fun v w' => (e ≠ 0 ∧ v = .tuple ⟨[.pointer none, I e]⟩ ∧ ∃ H', JW bm bj m2 j H' ∧ St w (InH H) H' w') ∨ (e = 0 ∧ ∃ bk H', v = .tuple ⟨[Ptr bk, I 0]⟩ ∧ JW bm bk m2 j2 H' ∧ St w (InH H) H' w')) := by
  have h := jopen_any hD (hJ.hb hh) hm (fun e => h2 (by rw [← e]; exact ⟨1, _, hJ.at⟩))
  rw [ho] at h
  refine h.mono ?_
  rintro v w' (⟨h1, rfl, h3⟩ | ⟨h1, bk, H', rfl, h3, h4⟩)
  · exact .inl ⟨h1, rfl, _, hJ.put m2, hh.st.call1 hJ.at h3⟩
  · exact .inr ⟨h1, bk, H', rfl, h3, (hh.st.one hJ.at).open1 h4⟩
theorem jreopen_no (hD : Deb w) (hJ : JW bm bj m j H) (hm : m.Ok) (hh : Has w H) (h2 : ¬ InH H 5) {e : Int} (ho : jOpen m = (e, m2, j2)) (he : e ≠ 0) :
    Cl Tryz.prog 27 [Ptr bm] w (fun v w' => v = .tuple ⟨[.pointer none, I e]⟩ ∧ ∃ H', JW bm bj m2 j H' ∧ St w (InH H) H' w') := by
  refine (jreopen_any hD hJ hm hh h2 ho).mono ?_
  rintro v w' (⟨_, h⟩ | ⟨h1, _⟩)
  · exact h
  · exact absurd h1 he
theorem jreopen_yes (hD : Deb w) (hJ : JW bm bj m j H) (hm : m.Ok) (hh : Has w H) (h2 : ¬ InH H 5) (ho : jOpen m = (0, m2, j2)) :
    Cl Tryz.prog 27 [Ptr bm] w (fun v w' => ∃ bk H', v = .tuple ⟨[Ptr bk, I 0]⟩ ∧ JW bm bk m2 j2 H' ∧ St w (InH H) H' w') := by
  refine (jreopen_any hD hJ hm hh h2 ho).mono ?_
  rintro v w' (⟨h1, _⟩ | ⟨_, h⟩)
  · exact absurd rfl h1
  · exact h
theorem slice_take (a : Option Addr) (c k : Nat) : Value.slice (if c = (0 : Int).toNat then a else a.map (·.add ((0 : Int).toNat * 1))) (((k : Nat) : Int).toNat - (0 : Int).toNat) (c - (0 : Int).toNat) = .slice a k c := by
  have e : (if c = (0 : Int).toNat then a else a.map (·.add ((0 : Int).toNat * 1))) = a := by
    split
    · rfl
    · cases a with
      | none => rfl
      | some p => show some (p.add 0) = some p; rw [Addr.add_zero']
  rw [e]; congr 1
theorem St.asc (h : St w0 Sx (X ++ (H ++ HA)) w) : St w0 Sx ((X ++ H) ++ HA) w := by rw [List.append_assoc]; exact h
theorem St.csa (h : St w0 Sx ((X ++ H) ++ HA) w) : St w0 Sx (X ++ (H ++ HA)) w := by rw [← List.append_assoc]; exact h
theorem St.swapA (h : St w0 Sx ((X ++ (H ++ HA)) ++ H3) w) : St w0 Sx (H ++ H3) w :=
  h.sublist (List.Sublist.append (List.Sublist.trans (List.sublist_append_left H HA) (List.sublist_append_right X _)) (List.Sublist.refl H3))
end
/-- a new medium -/
def newM (size : Int) : Med := ⟨size, 0, [], false, 0, 0⟩
theorem newM_ok {size : Int} (h : 1 ≤ size ∧ size ≤ 262144) : (newM size).Ok := ⟨by simp [newM], by simp [newM], by show ((0 : Nat) : Int) ≤ size; omega, h.2, by simp [newM], by simp [newM]⟩
theorem newOpen (size : Int) : jOpen (newM size) = (0, newM size, ⟨[], 0, false⟩) := by
  have hs : (newM size).s = [] := rfl
  have ht : jTrim (newM size) = (0, newM size) := by
    unfold jTrim
    rw [hs, verF_nil, if_neg (by simp)]
  unfold jOpen
  rw [if_neg (by simp [newM]), ht, if_neg (by simp), hs, verF_nil]
  simp [newM, Med.sync, Med.due]
end Go.Proofs.YthkimkgphaiagaaGreatDoor
