/- The specification's journal: what its methods do to the blocks of a journal and of its medium, told of the same abstract journal. No conditions. -/
import Derived.Test.YtndkifkaejmibaaGreatDoorMI
import Derived.Test.YtndkifkaejmibaaGreatDoorMC
import Derived.Test.YtndkifkaejmibaaGreatDoorMH

namespace Go.Proofs.YtndkifkaejmibaaGreatDoor
open Go.RowKit
set_option maxRecDepth 4000
set_option linter.unusedVariables false
set_option linter.unusedSimpArgs false
set_option maxHeartbeats 4000000

abbrev rjO (bv : Nat) (rv : Value) (dur : Int) (stop : Bool) : Obj := blk [Ptr bv, rv, I dur, B stop] 128
/-- the specification's journal and its medium in memory -/
def JR (bv bw : Nat) (m : Med) (j : Jr) (H : List (Nat × Obj)) : Prop :=
  ∃ o rv H1, RefO o m ∧ OwnSl rv 9 1 (strs j.l) j.l.length H1 ∧ H = (bw, rjO bv rv j.dur j.stop) :: (bv, o) :: H1
section
variable {w : World} {bv bw : Nat} {m m2 : Med} {j : Jr} {H : List (Nat × Obj)}
theorem JR.at (h : JR bv bw m j H) : ∃ o, RefO o m ∧ H[1]? = some (bv, o) := by
  obtain ⟨o, rv, H1, h1, _, rfl⟩ := h; exact ⟨o, h1, rfl⟩
theorem JR.put (h : JR bv bw m j H) {o' : Obj} (ho : RefO o' m2) : JR bv bw m2 j (H.set 1 (bv, o')) := by
  obtain ⟨o, rv, H1, _, h2, rfl⟩ := h; exact ⟨o', rv, H1, ho, h2, rfl⟩
theorem jr_of {f : FuncId} {args : List Value} {V : Value} (hJ : JR bv bw m j H) (hh : Has w H) (hc : ∀ o, w.heap[bv]? = some o → RefO o m → Cl Tryz.prog f args w (fun v w' => v = V ∧ ∃ o', RefO o' m2 ∧ St w (· = bv) [(bv, o')] w')) :
    Cl Tryz.prog f args w (fun v w' => v = V ∧ ∃ H', JR bv bw m2 j H' ∧ St w (InH H) H' w') := by
  obtain ⟨o, h1, h2⟩ := hJ.at
  refine (hc o (hh.own 1 _ _ h2) h1).mono ?_
  rintro v w' ⟨rfl, o', h3, h4⟩
  exact ⟨rfl, _, hJ.put h3, hh.st.call1 h2 h4⟩
end
theorem rhead_any {w0 : World} {bv bw : Nat} {a : Option Addr} {c : Nat} {l : List (List UInt8)} {dur : Int} {stop : Bool} (hb : w0.heap[bw]? = some (rjO bv (.slice a l.length c) dur stop)) (hs : SlAt w0 (.slice a l.length c) 1 (l.map tc)) (hl : l.length ≤ 1000000) (hx : ∀ x ∈ l, x.length ≤ 4000) :
    Cl Tryz.prog 123 [Ptr bw] w0 (fun v w' => v = U (headF 0 l) ∧ St w0 NoneS [] w') := by
  have hSt := St.refl w0 NoneS
  have hq : ([Ptr bv, .slice a l.length c, I dur, B stop] : List Value)[1]? = some (.slice a l.length c) := rfl
  obtain ⟨a', c', e, hcs⟩ := hs.map
  injection e with e1 _ e3
  subst e1; subst e3
  refine enter Tryz.func123 rfl Tryz.ntmps123 rfl ?_
  repeat' (first | refine stepA ?_ | (refine stepS ?_; clear hSt; intro w hSt; dsimp only [spl, List.set] at hSt) | (refine stepB ?_; clear hSt; intro w nb hnb hSt; dsimp only [zcells, List.nil_append, List.cons_append] at hSt) | (refine stepG ?_ ?_ <;> intro hc <;> (try exact absA) <;> (fail_if_success (change true = true at hc)) <;> (fail_if_success (change false = false at hc))) | fail)
  refine W_sub (L' := [(4, I ((0 : Nat) : Int)), (3, U 0), (0, Ptr bw)]) (by (repeat (first | exact Sub.nil _ | refine Sub.cons rfl ?_))) ?_
  refine W_loop2 (fun k (i p : Nat) w => k = l.length - i ∧ i ≤ l.length ∧ p = headF 0 (l.take i) ∧ St w0 NoneS [] w) (fun i p => [(4, I (i : Int)), (3, U p)]) l.length 0 0 rfl (by (repeat (first | exact Str.nil _ | apply Str.drop rfl | apply Str.keepU rfl | apply Str.keep rfl))) ⟨rfl, by omega, rfl, hSt⟩ (by (repeat (first | exact Sub.nil _ | refine Sub.cons rfl ?_))) ?_
  clear hSt
  rintro k i p w ⟨hk, hi, hp, hSt⟩ K hK
  have hpl : p < 18446744073709551616 := hp ▸ headF_lt _ 0 (by omega)
  by_cases hil : i < l.length
  · obtain ⟨x, hxi⟩ : ∃ x, l[i]? = some x := ⟨_, List.getElem?_eq_getElem hil⟩
    obtain ⟨b1, o1, m1, E1, z1, rfl, hb1, _, q1⟩ := hcs i _ hxi
    replace q1 := q1 0 _ rfl
    rw [← Int.toNat_natCast i] at q1
    have hx2 : x.length ≤ 140737488355328 := by have := hx x (List.mem_of_getElem? hxi); omega
    have hst : headF 0 (l.take (i + 1)) = chainF p x := by
      rw [List.take_add_one, hxi, hp]
      show headF 0 (l.take i ++ [x]) = _
      rw [headF_append]; rfl
    repeat' (first | (apply WL_ev rfl rfl; exact Ev_load1 hT rfl rfl (hSt.base hb (fun e => e)) hq) | (apply WL_ev rfl rfl; exact Ev_load1 hT rfl rfl (hSt.base hb1 (fun e => e)) q1) | (refine WL_isCall (f := 118) ?_; refine WL_call (ok_call hT rfl) rfl rfl rfl (rchain_any _ hpl _ hx2) ?_; rintro v w' ⟨rfl, hc2⟩; replace hSt := hSt.call0 hc2; clear hc2) | refine stepA ?_ | (refine stepS ?_; clear hSt; intro w hSt; dsimp only [spl, List.set] at hSt) | (refine stepB ?_; clear hSt; intro w nb hnb hSt; dsimp only [zcells, List.nil_append, List.cons_append] at hSt) | (refine stepG ?_ ?_ <;> intro hc <;> (try exact absA) <;> (fail_if_success (change true = true at hc)) <;> (fail_if_success (change false = false at hc))) | fail)
    exact At_loop2 hK (k' := l.length - (i + 1)) (i + 1) _ (by omega) ⟨rfl, by omega, hst.symm, hSt⟩ (by (repeat (first | exact Sub.nil _ | refine Sub.cons rfl ?_)))
  · obtain rfl : i = l.length := by omega
    rw [List.take_length] at hp
    repeat' (first | (apply WL_ev rfl rfl; exact Ev_load1 hT rfl rfl (hSt.base hb (fun e => e)) hq) | refine stepA ?_ | (refine stepS ?_; clear hSt; intro w hSt; dsimp only [spl, List.set] at hSt) | (refine stepB ?_; clear hSt; intro w nb hnb hSt; dsimp only [zcells, List.nil_append, List.cons_append] at hSt) | (refine stepG ?_ ?_ <;> intro hc <;> (try exact absA) <;> (fail_if_success (change true = true at hc)) <;> (fail_if_success (change false = false at hc))) | fail)
    exact ret1 rfl rfl ⟨by rw [hp], hSt⟩
theorem rjappend_any {w0 : World} {bv bw : Nat} {m : Med} {j : Jr} {H : List (Nat × Obj)} (hJ : JR bv bw m j H) (hm : m.Ok) (hl : j.l.length ≤ 1000000) (h4k : ∀ x ∈ j.l, x.length ≤ 4000) (hh : Has w0 H) (x : List UInt8) (hx : x.length ≤ 140737488355328) :
    Cl Tryz.prog 98 [Ptr bw, S x] w0 (fun v w' => v = I (jAppend m j x).1 ∧ ∃ H', JR bv bw (jAppend m j x).2.1 (jAppend m j x).2.2 H' ∧ St w0 (InH H) H' w') := by
  have hSt := hh.st
  generalize InH H = SS at hSt ⊢
  obtain ⟨o, rv, H1, hro, ho, rfl⟩ := hJ
  obtain ⟨l, dur, stop⟩ := j
  dsimp only at ho hSt hl h4k
  unfold jAppend
  dsimp only
  obtain ⟨a0, c0, rfl⟩ := ho.len
  cases stop with
  | true =>
    rw [if_pos rfl]
    refine enter Tryz.func98 rfl Tryz.ntmps98 rfl ?_
    repeat' (first | refine stepA ?_ | (refine stepS ?_; clear hSt; intro w hSt; dsimp only [spl, List.set] at hSt) | (refine stepB ?_; clear hSt; intro w nb hnb hSt; dsimp only [zcells, List.nil_append, List.cons_append] at hSt) | (refine stepG ?_ ?_ <;> intro hc <;> (try exact absA) <;> (fail_if_success (change true = true at hc)) <;> (fail_if_success (change false = false at hc))) | fail)
    all_goals exact ret1 rfl rfl ⟨rfl, _, ⟨_, _, _, hro, ho, rfl⟩, hSt⟩
  | false =>
    rw [if_neg (by simp)]
    have hp := headF_lt l 0 (by omega)
    by_cases h4 : 4000 < x.length
    · rw [if_pos h4]
      refine enter Tryz.func98 rfl Tryz.ntmps98 rfl ?_
      repeat' (first | refine stepA ?_ | (refine stepS ?_; clear hSt; intro w hSt; dsimp only [spl, List.set] at hSt) | (refine stepB ?_; clear hSt; intro w nb hnb hSt; dsimp only [zcells, List.nil_append, List.cons_append] at hSt) | (refine stepG ?_ ?_ <;> intro hc <;> (try exact absA) <;> (fail_if_success (change true = true at hc)) <;> (fail_if_success (change false = false at hc))) | fail)
      all_goals exact ret1 rfl rfl ⟨rfl, _, ⟨_, _, _, hro, ho, rfl⟩, hSt⟩
    · rw [if_neg h4]
      have hhd := fun {w : World} (hb : w.heap[bw]? = some (rjO bv (.slice a0 l.length c0) dur false)) (hh : Has w H1) => rhead_any hb (own_tc ho hh) hl h4k
      have hfr := fun {w : World} => rframe_any (w0 := w) (headF 0 l) hp x hx
      have hap := fun {w : World} (hb : w.heap[bv]? = some o) => rappend_any hb hro hm (frameF (headF 0 l) x)
      generalize frameF (headF 0 l) x = F at hfr hap ⊢
      generalize headF 0 l = P at hhd hfr
      generalize m.append F = r at hap ⊢
      obtain ⟨e, m2⟩ := r
      dsimp only at hap ⊢
      by_cases he : e = 0
      · subst he
        rw [if_pos rfl]
        refine enter Tryz.func98 rfl Tryz.ntmps98 rfl ?_
        repeat' (first | (refine W_ownS (Hs := [_]) [(0, false), (1, false), (2, false), (3, false), (4, false), (6, false), (5, true), (7, true), (8, true)] hT (by decide +kernel) rfl hSt ?_; clear hSt; intro w hSt; (repeat' (first | (apply HL_ev rfl rfl (St.left (H0 := [_]) hSt); (intro w hSt; (first | exact Ev_auto))) | (refine HL_one ?_; refine WL_isCall (f := 123) ?_; refine WL_call (ok_call hT rfl) rfl rfl rfl (hhd (hSt.own 0 _ _ rfl).1 (hSt.has.sublist (List.sublist_append_right [_, _] H1))) ?_; rintro v w2 ⟨rfl, hc2⟩; replace hSt := hSt.call0 hc2; clear hc2; refine WL_nil (At_oneH (St.left (H0 := [_]) hSt) ?_)) | (refine HL_one ?_; refine WL_isCall (f := 117) ?_; refine WL_call (ok_call hT rfl) rfl rfl rfl hfr ?_; rintro v w2 ⟨rfl, hc2⟩; replace hSt := hSt.call0 hc2; clear hc2; refine WL_nil (At_oneH (St.left (H0 := [_]) hSt) ?_)) | (refine HL_one ?_; refine WL_isCall (f := 122) ?_; refine WL_call (ok_call hT rfl) rfl rfl rfl (hap (hSt.own 1 _ _ rfl).1) ?_; rintro v w2 ⟨rfl, o2, ho2, hc2⟩; replace hSt := hSt.call1 (i := 1) rfl hc2; clear hc2; dsimp only [List.set, List.cons_append, List.nil_append] at hSt; refine WL_nil (At_oneH (St.left (H0 := [_]) hSt) ?_)))); refine HL_end ?_; simp only [List.length_cons, List.length_nil, List.drop_succ_cons, List.drop_zero]) | (refine WL_push1 hT rfl rfl rfl rfl rfl rfl rfl rfl rfl rfl rfl rfl (fun _ => rfl) rfl (H0 := [_, _]) hSt ho (by omega) (by omega) ?_; clear hSt ho; intro v' w H2 u ho hSt; obtain ⟨a1, c1, rfl⟩ := ho.len; dsimp only [List.cons_append, List.nil_append] at hSt) | (refine WL_store1 hT rfl rfl 0 rfl rfl hSt rfl rfl rfl ?_; clear hSt; intro w hSt; dsimp only [List.set] at hSt) | refine stepA ?_ | (refine stepS ?_; clear hSt; intro w hSt; dsimp only [spl, List.set] at hSt) | (refine stepB ?_; clear hSt; intro w nb hnb hSt; dsimp only [zcells, List.nil_append, List.cons_append] at hSt) | (refine stepG ?_ ?_ <;> intro hc <;> (try exact absA) <;> (fail_if_success (change true = true at hc)) <;> (fail_if_success (change false = false at hc))) | fail)
        have hos : OwnSl (.slice a1 (l.length + 1) c1) 9 1 (strs (l ++ [x])) (l ++ [x]).length H2 := by
          rw [strs_snoc, List.length_append, List.length_singleton]; exact ho
        exact ret1 rfl rfl ⟨rfl, _, ⟨_, _, _, ho2, hos, rfl⟩, hSt⟩
      · rw [if_neg he]
        by_cases h15 : e = 15
        · subst h15
          rw [if_pos rfl]
          refine enter Tryz.func98 rfl Tryz.ntmps98 rfl ?_
          repeat' (first | (refine W_ownS (Hs := [_]) [(0, false), (1, false), (2, false), (3, false), (4, false), (6, false), (5, true), (7, true), (8, true)] hT (by decide +kernel) rfl hSt ?_; clear hSt; intro w hSt; (repeat' (first | (apply HL_ev rfl rfl (St.left (H0 := [_]) hSt); (intro w hSt; (first | exact Ev_auto))) | (refine HL_one ?_; refine WL_isCall (f := 123) ?_; refine WL_call (ok_call hT rfl) rfl rfl rfl (hhd (hSt.own 0 _ _ rfl).1 (hSt.has.sublist (List.sublist_append_right [_, _] H1))) ?_; rintro v w2 ⟨rfl, hc2⟩; replace hSt := hSt.call0 hc2; clear hc2; refine WL_nil (At_oneH (St.left (H0 := [_]) hSt) ?_)) | (refine HL_one ?_; refine WL_isCall (f := 117) ?_; refine WL_call (ok_call hT rfl) rfl rfl rfl hfr ?_; rintro v w2 ⟨rfl, hc2⟩; replace hSt := hSt.call0 hc2; clear hc2; refine WL_nil (At_oneH (St.left (H0 := [_]) hSt) ?_)) | (refine HL_one ?_; refine WL_isCall (f := 122) ?_; refine WL_call (ok_call hT rfl) rfl rfl rfl (hap (hSt.own 1 _ _ rfl).1) ?_; rintro v w2 ⟨rfl, o2, ho2, hc2⟩; replace hSt := hSt.call1 (i := 1) rfl hc2; clear hc2; dsimp only [List.set, List.cons_append, List.nil_append] at hSt; refine WL_nil (At_oneH (St.left (H0 := [_]) hSt) ?_)))); refine HL_end ?_; simp only [List.length_cons, List.length_nil, List.drop_succ_cons, List.drop_zero]) | (refine WL_store1 hT rfl rfl 0 rfl rfl hSt rfl rfl rfl ?_; clear hSt; intro w hSt; dsimp only [List.set] at hSt) | refine stepA ?_ | (refine stepS ?_; clear hSt; intro w hSt; dsimp only [spl, List.set] at hSt) | (refine stepB ?_; clear hSt; intro w nb hnb hSt; dsimp only [zcells, List.nil_append, List.cons_append] at hSt) | (refine stepG ?_ ?_ <;> intro hc <;> (try exact absA) <;> (fail_if_success (change true = true at hc)) <;> (fail_if_success (change false = false at hc))) | fail)
          all_goals exact ret1 rfl rfl ⟨rfl, _, ⟨_, _, _, ho2, ho, rfl⟩, hSt⟩
        · rw [if_neg h15]
          refine enter Tryz.func98 rfl Tryz.ntmps98 rfl ?_
          repeat' (first | (refine W_ownS (Hs := [_]) [(0, false), (1, false), (2, false), (3, false), (4, false), (6, false), (5, true), (7, true), (8, true)] hT (by decide +kernel) rfl hSt ?_; clear hSt; intro w hSt; (repeat' (first | (apply HL_ev rfl rfl (St.left (H0 := [_]) hSt); (intro w hSt; (first | exact Ev_auto))) | (refine HL_one ?_; refine WL_isCall (f := 123) ?_; refine WL_call (ok_call hT rfl) rfl rfl rfl (hhd (hSt.own 0 _ _ rfl).1 (hSt.has.sublist (List.sublist_append_right [_, _] H1))) ?_; rintro v w2 ⟨rfl, hc2⟩; replace hSt := hSt.call0 hc2; clear hc2; refine WL_nil (At_oneH (St.left (H0 := [_]) hSt) ?_)) | (refine HL_one ?_; refine WL_isCall (f := 117) ?_; refine WL_call (ok_call hT rfl) rfl rfl rfl hfr ?_; rintro v w2 ⟨rfl, hc2⟩; replace hSt := hSt.call0 hc2; clear hc2; refine WL_nil (At_oneH (St.left (H0 := [_]) hSt) ?_)) | (refine HL_one ?_; refine WL_isCall (f := 122) ?_; refine WL_call (ok_call hT rfl) rfl rfl rfl (hap (hSt.own 1 _ _ rfl).1) ?_; rintro v w2 ⟨rfl, o2, ho2, hc2⟩; replace hSt := hSt.call1 (i := 1) rfl hc2; clear hc2; dsimp only [List.set, List.cons_append, List.nil_append] at hSt; refine WL_nil (At_oneH (St.left (H0 := [_]) hSt) ?_)))); refine HL_end ?_; simp only [List.length_cons, List.length_nil, List.drop_succ_cons, List.drop_zero]) | (refine WL_store1 hT rfl rfl 0 rfl rfl hSt rfl rfl rfl ?_; clear hSt; intro w hSt; dsimp only [List.set] at hSt) | refine stepA ?_ | (refine stepS ?_; clear hSt; intro w hSt; dsimp only [spl, List.set] at hSt) | (refine stepB ?_; clear hSt; intro w nb hnb hSt; dsimp only [zcells, List.nil_append, List.cons_append] at hSt) | (refine stepG ?_ ?_ <;> intro hc <;> (try exact absA) <;> (fail_if_success (change true = true at hc)) <;> (fail_if_success (change false = false at hc))) | fail)
          all_goals exact ret1 rfl rfl ⟨rfl, _, ⟨_, _, _, ho2, ho, rfl⟩, hSt⟩
theorem rjsync_any {w0 : World} {bv bw : Nat} {m : Med} {j : Jr} {H : List (Nat × Obj)} (hJ : JR bv bw m j H) (hm : m.Ok) (hh : Has w0 H) :
    Cl Tryz.prog 99 [Ptr bw] w0 (fun v w' => v = I (jSync m j).1 ∧ ∃ H', JR bv bw (jSync m j).2.1 (jSync m j).2.2 H' ∧ St w0 (InH H) H' w') := by
  have hSt := hh.st
  generalize InH H = SS at hSt ⊢
  obtain ⟨o, rv, H1, hro, ho, rfl⟩ := hJ
  obtain ⟨l, dur, stop⟩ := j
  dsimp only at ho hSt
  unfold jSync
  dsimp only
  obtain ⟨a0, c0, rfl⟩ := ho.len
  cases stop with
  | true =>
    rw [if_pos rfl]
    refine enter Tryz.func99 rfl Tryz.ntmps99 rfl ?_
    repeat' (first | refine stepA ?_ | (refine stepS ?_; clear hSt; intro w hSt; dsimp only [spl, List.set] at hSt) | (refine stepB ?_; clear hSt; intro w nb hnb hSt; dsimp only [zcells, List.nil_append, List.cons_append] at hSt) | (refine stepG ?_ ?_ <;> intro hc <;> (try exact absA) <;> (fail_if_success (change true = true at hc)) <;> (fail_if_success (change false = false at hc))) | fail)
    all_goals exact ret1 rfl rfl ⟨rfl, _, ⟨_, _, _, hro, ho, rfl⟩, hSt⟩
  | false =>
    rw [if_neg (by simp)]
    have hsy := fun {w : World} (hb : w.heap[bv]? = some o) => rsync_any hb hro hm
    generalize m.sync = r at hsy ⊢
    obtain ⟨e, m2⟩ := r
    dsimp only at hsy ⊢
    by_cases he : e = 0
    · subst he
      rw [if_pos rfl]
      refine enter Tryz.func99 rfl Tryz.ntmps99 rfl ?_
      repeat' (first | (refine WL_isCall (f := 96) ?_; refine WL_call (ok_call hT rfl) rfl rfl rfl (hsy (hSt.own 1 _ _ rfl).1) ?_; rintro v w2 ⟨rfl, o2, ho2, hc2⟩; replace hSt := hSt.call1 (i := 1) rfl hc2; clear hc2; dsimp only [List.set, List.cons_append, List.nil_append] at hSt) | (refine WL_store1 hT rfl rfl 0 rfl rfl hSt rfl rfl rfl ?_; clear hSt; intro w hSt; dsimp only [List.set] at hSt) | refine stepA ?_ | (refine stepS ?_; clear hSt; intro w hSt; dsimp only [spl, List.set] at hSt) | (refine stepB ?_; clear hSt; intro w nb hnb hSt; dsimp only [zcells, List.nil_append, List.cons_append] at hSt) | (refine stepG ?_ ?_ <;> intro hc <;> (try exact absA) <;> (fail_if_success (change true = true at hc)) <;> (fail_if_success (change false = false at hc))) | fail)
      all_goals exact ret1 rfl rfl ⟨rfl, _, ⟨_, _, _, ho2, ho, rfl⟩, hSt⟩
    · rw [if_neg he]
      refine enter Tryz.func99 rfl Tryz.ntmps99 rfl ?_
      repeat' (first | (refine WL_isCall (f := 96) ?_; refine WL_call (ok_call hT rfl) rfl rfl rfl (hsy (hSt.own 1 _ _ rfl).1) ?_; rintro v w2 ⟨rfl, o2, ho2, hc2⟩; replace hSt := hSt.call1 (i := 1) rfl hc2; clear hc2; dsimp only [List.set, List.cons_append, List.nil_append] at hSt) | (refine WL_store1 hT rfl rfl 0 rfl rfl hSt rfl rfl rfl ?_; clear hSt; intro w hSt; dsimp only [List.set] at hSt) | refine stepA ?_ | (refine stepS ?_; clear hSt; intro w hSt; dsimp only [spl, List.set] at hSt) | (refine stepB ?_; clear hSt; intro w nb hnb hSt; dsimp only [zcells, List.nil_append, List.cons_append] at hSt) | (refine stepG ?_ ?_ <;> intro hc <;> (try exact absA) <;> (fail_if_success (change true = true at hc)) <;> (fail_if_success (change false = false at hc))) | fail)
      all_goals exact ret1 rfl rfl ⟨rfl, _, ⟨_, _, _, ho2, ho, rfl⟩, hSt⟩
theorem rjrecords_any {w0 : World} {bv bw : Nat} {m : Med} {j : Jr} {H : List (Nat × Obj)} (hJ : JR bv bw m j H) (hl : j.l.length ≤ 1000000) (hh : Has w0 H) :
    Cl Tryz.prog 71 [Ptr bw] w0 (fun v w' => ∃ H1, OwnSl v 9 1 (strs j.l) j.l.length H1 ∧ St w0 NoneS H1 w') := by
  have hSt := St.refl w0 NoneS
  obtain ⟨o, rv, H1, hro, ho, rfl⟩ := hJ
  have hb := hh.mem (List.mem_cons_self ..)
  have hs := own_tc ho (hh.sublist (List.sublist_append_right [_, _] H1))
  obtain ⟨l, dur, stop⟩ := j
  dsimp only at ho hs hb hl
  obtain ⟨a0, c0, rfl⟩ := ho.len
  have hq : ([Ptr bv, .slice a0 l.length c0, I dur, B stop] : List Value)[1]? = some (.slice a0 l.length c0) := rfl
  refine enter Tryz.func71 rfl Tryz.ntmps71 rfl ?_
  repeat' (first | (apply WL_ev rfl rfl; exact Ev_load1 hT rfl rfl (hSt.base hb (fun e => e)) hq) | refine stepA ?_ | (refine stepS ?_; clear hSt; intro w hSt; dsimp only [spl, List.set] at hSt) | (refine stepB ?_; clear hSt; intro w nb hnb hSt; dsimp only [zcells, List.nil_append, List.cons_append] at hSt) | (refine stepG ?_ ?_ <;> intro hc <;> (try exact absA) <;> (fail_if_success (change true = true at hc)) <;> (fail_if_success (change false = false at hc))) | fail)
  refine WL_appendS (H0 := []) (H1 := []) (H2 := []) hT rfl rfl rfl rfl rfl rfl rfl (by simpa using hSt) (OwnSl.nil _ _) (hs.later hSt (fun _ e => e)) (one_tc l) (by rw [List.length_map]; omega) (by rw [List.length_map]; omega) ?_
  intro v' w' H1' ho9 hSt'
  repeat' (first | refine stepA ?_ | (refine stepS ?_; clear hSt; intro w hSt; dsimp only [spl, List.set] at hSt) | (refine stepB ?_; clear hSt; intro w nb hnb hSt; dsimp only [zcells, List.nil_append, List.cons_append] at hSt) | (refine stepG ?_ ?_ <;> intro hc <;> (try exact absA) <;> (fail_if_success (change true = true at hc)) <;> (fail_if_success (change false = false at hc))) | fail)
  refine ret1 rfl rfl ⟨H1', ?_, by simpa using hSt'⟩
  rw [fl_tc] at ho9
  simpa using ho9
theorem rjopen_any {w0 : World} {bv : Nat} {m : Med} {o : Obj} (hb : w0.heap[bv]? = some o) (hro : RefO o m) (hm : m.Ok) :
    Cl Tryz.prog 70 [Ptr bv] w0 (fun v w' => ((jOpen m).1 ≠ 0 ∧ v = .tuple ⟨[.pointer none, I (jOpen m).1]⟩ ∧ ∃ o', RefO o' (jOpen m).2.1 ∧ St w0 (· = bv) [(bv, o')] w') ∨
      ((jOpen m).1 = 0 ∧ ∃ bw H', v = .tuple ⟨[Ptr bw, I 0]⟩ ∧ JR bv bw (jOpen m).2.1 (jOpen m).2.2 H' ∧ St w0 (· = bv) H' w')) := by
  have hSt := (St.refl w0 (· = bv)).know hb (Or.inl rfl) (by simp)
  dsimp only [List.nil_append, List.cons_append] at hSt
  have hrd := fun {w : World} (hb : w.heap[bv]? = some o) => rread_any hb hro hm
  have hs1 := hm.s; have hs2 := hm.z
  have hv := fun {w : World} => rverify_any (w0 := w) m.s (by omega)
  have htr := fun {w : World} {o : Obj} (hb : w.heap[bv]? = some o) (hro : RefO o m) => rtruncate_any hb hro hm (verF m.s).2.1
  have hsy := fun {w : World} {o : Obj} (hb : w.heap[bv]? = some o) (hro : RefO o (jTrim m).2) => rsync_any hb hro hm.trim
  unfold jOpen
  unfold Med.read at hrd
  by_cases hdn : m.down = true
  · rw [if_pos hdn] at hrd ⊢
    refine enter Tryz.func70 rfl Tryz.ntmps70 rfl ?_
    repeat' (first | (refine WL_isCall (f := 93) ?_; refine WL_call (ok_call hT rfl) rfl rfl rfl (hrd (hSt.own 0 _ _ rfl).1) ?_; rintro v w2 ⟨rfl, o1, ho1, hc2⟩; replace hSt := hSt.call1 (i := 0) rfl hc2; clear hc2; dsimp only [List.set, List.cons_append, List.nil_append] at hSt) | refine stepA ?_ | (refine stepS ?_; clear hSt; intro w hSt; dsimp only [spl, List.set] at hSt) | (refine stepB ?_; clear hSt; intro w nb hnb hSt; dsimp only [zcells, List.nil_append, List.cons_append] at hSt) | (refine stepG ?_ ?_ <;> intro hc <;> (try exact absA) <;> (fail_if_success (change true = true at hc)) <;> (fail_if_success (change false = false at hc))) | fail)
    all_goals exact ret2 rfl rfl rfl (.inl ⟨by simp, rfl, _, ho1, hSt⟩)
  · rw [if_neg hdn] at hrd ⊢
    dsimp only at hrd
    unfold jTrim at hsy ⊢
    generalize verF m.s = V at hv htr hsy ⊢
    obtain ⟨rs, wh, hd⟩ := V
    dsimp only at hv htr hsy ⊢
    by_cases hw : wh < m.s.length
    · rw [if_pos hw] at hsy ⊢
      generalize m.truncate wh = tr at htr hsy ⊢
      obtain ⟨te, m1⟩ := tr
      dsimp only at htr hsy ⊢
      by_cases ht : te = 0
      · subst ht
        rw [if_neg (by simp)]
        generalize m1.sync = sy at hsy ⊢
        obtain ⟨se, m2⟩ := sy
        dsimp only at hsy ⊢
        by_cases hs : se = 0
        · subst hs
          refine enter Tryz.func70 rfl Tryz.ntmps70 rfl ?_
          repeat' (first | (refine WL_isCall (f := 93) ?_; refine WL_call (ok_call hT rfl) rfl rfl rfl (hrd (hSt.own 0 _ _ rfl).1) ?_; rintro v w2 ⟨rfl, o1, ho1, hc2⟩; replace hSt := hSt.call1 (i := 0) rfl hc2; clear hc2; dsimp only [List.set, List.cons_append, List.nil_append] at hSt) | (refine WL_isCall (f := 94) ?_; refine WL_call (ok_call hT rfl) rfl rfl rfl (hv) ?_; rintro v w2 ⟨rv, H1, rfl, ho, hc2⟩; replace hSt := hSt.newN hc2; clear hc2; obtain ⟨a0, c0, rfl⟩ := ho.len; dsimp only [List.cons_append, List.nil_append] at hSt) | (refine WL_isCall (f := 95) ?_; refine WL_call (ok_call hT rfl) rfl rfl rfl (htr (hSt.own 0 _ _ rfl).1 ho1) ?_; rintro v w2 ⟨rfl, o2, ho2, hc2⟩; replace hSt := hSt.call1 (i := 0) rfl hc2; clear hc2; dsimp only [List.set, List.cons_append, List.nil_append] at hSt) | (refine WL_isCall (f := 96) ?_; refine WL_call (ok_call hT rfl) rfl rfl rfl (hsy (hSt.own 0 _ _ rfl).1 ho2) ?_; rintro v w2 ⟨rfl, o3, ho3, hc2⟩; replace hSt := hSt.call1 (i := 0) rfl hc2; clear hc2; dsimp only [List.set, List.cons_append, List.nil_append] at hSt) | refine stepA ?_ | (refine stepS ?_; clear hSt; intro w hSt; dsimp only [spl, List.set] at hSt) | (refine stepB ?_; clear hSt; intro w nb hnb hSt; dsimp only [zcells, List.nil_append, List.cons_append] at hSt) | (refine stepG ?_ ?_ <;> intro hc <;> (try exact absA) <;> (fail_if_success (change true = true at hc)) <;> (fail_if_success (change false = false at hc))) | fail)
          exact ret2 rfl rfl rfl (.inr ⟨rfl, _, _, rfl, ⟨_, _, _, ho3, ho, rfl⟩, St.front (H := (bv, o3) :: H1) hSt⟩)
        · refine enter Tryz.func70 rfl Tryz.ntmps70 rfl ?_
          repeat' (first | (refine WL_isCall (f := 93) ?_; refine WL_call (ok_call hT rfl) rfl rfl rfl (hrd (hSt.own 0 _ _ rfl).1) ?_; rintro v w2 ⟨rfl, o1, ho1, hc2⟩; replace hSt := hSt.call1 (i := 0) rfl hc2; clear hc2; dsimp only [List.set, List.cons_append, List.nil_append] at hSt) | (refine WL_isCall (f := 94) ?_; refine WL_call (ok_call hT rfl) rfl rfl rfl (hv) ?_; rintro v w2 ⟨rv, H1, rfl, ho, hc2⟩; replace hSt := hSt.newN hc2; clear hc2; obtain ⟨a0, c0, rfl⟩ := ho.len; dsimp only [List.cons_append, List.nil_append] at hSt) | (refine WL_isCall (f := 95) ?_; refine WL_call (ok_call hT rfl) rfl rfl rfl (htr (hSt.own 0 _ _ rfl).1 ho1) ?_; rintro v w2 ⟨rfl, o2, ho2, hc2⟩; replace hSt := hSt.call1 (i := 0) rfl hc2; clear hc2; dsimp only [List.set, List.cons_append, List.nil_append] at hSt) | (refine WL_isCall (f := 96) ?_; refine WL_call (ok_call hT rfl) rfl rfl rfl (hsy (hSt.own 0 _ _ rfl).1 ho2) ?_; rintro v w2 ⟨rfl, o3, ho3, hc2⟩; replace hSt := hSt.call1 (i := 0) rfl hc2; clear hc2; dsimp only [List.set, List.cons_append, List.nil_append] at hSt) | refine stepA ?_ | (refine stepS ?_; clear hSt; intro w hSt; dsimp only [spl, List.set] at hSt) | (refine stepB ?_; clear hSt; intro w nb hnb hSt; dsimp only [zcells, List.nil_append, List.cons_append] at hSt) | (refine stepG ?_ ?_ <;> intro hc <;> (try exact absA) <;> (fail_if_success (change true = true at hc)) <;> (fail_if_success (change false = false at hc))) | fail)
          all_goals exact ret2 rfl rfl rfl (.inl ⟨hs, rfl, _, ho3, hSt.one (i := 0) rfl⟩)
      · rw [if_pos ht]
        refine enter Tryz.func70 rfl Tryz.ntmps70 rfl ?_
        repeat' (first | (refine WL_isCall (f := 93) ?_; refine WL_call (ok_call hT rfl) rfl rfl rfl (hrd (hSt.own 0 _ _ rfl).1) ?_; rintro v w2 ⟨rfl, o1, ho1, hc2⟩; replace hSt := hSt.call1 (i := 0) rfl hc2; clear hc2; dsimp only [List.set, List.cons_append, List.nil_append] at hSt) | (refine WL_isCall (f := 94) ?_; refine WL_call (ok_call hT rfl) rfl rfl rfl (hv) ?_; rintro v w2 ⟨rv, H1, rfl, ho, hc2⟩; replace hSt := hSt.newN hc2; clear hc2; obtain ⟨a0, c0, rfl⟩ := ho.len; dsimp only [List.cons_append, List.nil_append] at hSt) | (refine WL_isCall (f := 95) ?_; refine WL_call (ok_call hT rfl) rfl rfl rfl (htr (hSt.own 0 _ _ rfl).1 ho1) ?_; rintro v w2 ⟨rfl, o2, ho2, hc2⟩; replace hSt := hSt.call1 (i := 0) rfl hc2; clear hc2; dsimp only [List.set, List.cons_append, List.nil_append] at hSt) | refine stepA ?_ | (refine stepS ?_; clear hSt; intro w hSt; dsimp only [spl, List.set] at hSt) | (refine stepB ?_; clear hSt; intro w nb hnb hSt; dsimp only [zcells, List.nil_append, List.cons_append] at hSt) | (refine stepG ?_ ?_ <;> intro hc <;> (try exact absA) <;> (fail_if_success (change true = true at hc)) <;> (fail_if_success (change false = false at hc))) | fail)
        all_goals exact ret2 rfl rfl rfl (.inl ⟨ht, rfl, _, ho2, hSt.one (i := 0) rfl⟩)
    · rw [if_neg hw] at hsy ⊢
      dsimp only at hsy ⊢
      rw [if_neg (by simp)]
      generalize m.sync = sy at hsy ⊢
      obtain ⟨se, m2⟩ := sy
      dsimp only at hsy ⊢
      by_cases hs : se = 0
      · subst hs
        refine enter Tryz.func70 rfl Tryz.ntmps70 rfl ?_
        repeat' (first | (refine WL_isCall (f := 93) ?_; refine WL_call (ok_call hT rfl) rfl rfl rfl (hrd (hSt.own 0 _ _ rfl).1) ?_; rintro v w2 ⟨rfl, o1, ho1, hc2⟩; replace hSt := hSt.call1 (i := 0) rfl hc2; clear hc2; dsimp only [List.set, List.cons_append, List.nil_append] at hSt) | (refine WL_isCall (f := 94) ?_; refine WL_call (ok_call hT rfl) rfl rfl rfl (hv) ?_; rintro v w2 ⟨rv, H1, rfl, ho, hc2⟩; replace hSt := hSt.newN hc2; clear hc2; obtain ⟨a0, c0, rfl⟩ := ho.len; dsimp only [List.cons_append, List.nil_append] at hSt) | (refine WL_isCall (f := 96) ?_; refine WL_call (ok_call hT rfl) rfl rfl rfl (hsy (hSt.own 0 _ _ rfl).1 ho1) ?_; rintro v w2 ⟨rfl, o3, ho3, hc2⟩; replace hSt := hSt.call1 (i := 0) rfl hc2; clear hc2; dsimp only [List.set, List.cons_append, List.nil_append] at hSt) | refine stepA ?_ | (refine stepS ?_; clear hSt; intro w hSt; dsimp only [spl, List.set] at hSt) | (refine stepB ?_; clear hSt; intro w nb hnb hSt; dsimp only [zcells, List.nil_append, List.cons_append] at hSt) | (refine stepG ?_ ?_ <;> intro hc <;> (try exact absA) <;> (fail_if_success (change true = true at hc)) <;> (fail_if_success (change false = false at hc))) | fail)
        exact ret2 rfl rfl rfl (.inr ⟨rfl, _, _, rfl, ⟨_, _, _, ho3, ho, rfl⟩, St.front (H := (bv, o3) :: H1) hSt⟩)
      · refine enter Tryz.func70 rfl Tryz.ntmps70 rfl ?_
        repeat' (first | (refine WL_isCall (f := 93) ?_; refine WL_call (ok_call hT rfl) rfl rfl rfl (hrd (hSt.own 0 _ _ rfl).1) ?_; rintro v w2 ⟨rfl, o1, ho1, hc2⟩; replace hSt := hSt.call1 (i := 0) rfl hc2; clear hc2; dsimp only [List.set, List.cons_append, List.nil_append] at hSt) | (refine WL_isCall (f := 94) ?_; refine WL_call (ok_call hT rfl) rfl rfl rfl (hv) ?_; rintro v w2 ⟨rv, H1, rfl, ho, hc2⟩; replace hSt := hSt.newN hc2; clear hc2; obtain ⟨a0, c0, rfl⟩ := ho.len; dsimp only [List.cons_append, List.nil_append] at hSt) | (refine WL_isCall (f := 96) ?_; refine WL_call (ok_call hT rfl) rfl rfl rfl (hsy (hSt.own 0 _ _ rfl).1 ho1) ?_; rintro v w2 ⟨rfl, o3, ho3, hc2⟩; replace hSt := hSt.call1 (i := 0) rfl hc2; clear hc2; dsimp only [List.set, List.cons_append, List.nil_append] at hSt) | refine stepA ?_ | (refine stepS ?_; clear hSt; intro w hSt; dsimp only [spl, List.set] at hSt) | (refine stepB ?_; clear hSt; intro w nb hnb hSt; dsimp only [zcells, List.nil_append, List.cons_append] at hSt) | (refine stepG ?_ ?_ <;> intro hc <;> (try exact absA) <;> (fail_if_success (change true = true at hc)) <;> (fail_if_success (change false = false at hc))) | fail)
        all_goals exact ret2 rfl rfl rfl (.inl ⟨hs, rfl, _, ho3, hSt.one (i := 0) rfl⟩)
end Go.Proofs.YtndkifkaejmibaaGreatDoor
