/- The stage: whether all outcomes are still there. No conditions. -/
import Derived.Test.YthkimkgphaiagaaGreatDoorTgc
import Derived.Test.YthkimkgphaiagaaGreatDoorMO

namespace Go.Proofs.YthkimkgphaiagaaGreatDoor
open Go.RowKit
set_option maxRecDepth 4000
set_option linter.unusedVariables false
set_option linter.unusedSimpArgs false
set_option maxHeartbeats 8000000

theorem id_cells {m : List Value} {o : Nat} {x : Gl} (h : (m.drop o).take 7 = gC x) : (m.drop (o + 0)).take 2 = [I x.c, I x.n] := by
  have h2 := congrArg (List.take 2) h
  rw [List.take_take] at h2
  exact h2
theorem Has.cell {w : World} {b : Nat} {o : Obj} {H : List (Nat × Obj)} (h : Has w ((b, o) :: H)) : w.heap[b]? = some o := h.own 0 _ _ rfl
section
variable {w0 : World} {sg ar bs bj bm : Nat} {s : Sv} {HS HT : List (Nat × Obj)} {vt : Value} {pol at_ nu : Int} {gs : List Ce} {told : List Gl}
theorem settled_any (hTG : TG s nu gs told) (hW : SW bs bj bm s HS) (ho : OwnSl vt 62 7 (told.flatMap gC) told.length HT) (htl : told.length ≤ 1000000) (hh : Has w0 ((sg, stO ar (Ptr bs) bm pol at_ vt false) :: (HT ++ HS))) :
    Cl Tryz.prog 40 [Ptr sg] w0 (fun v w' => v = B true ∧ ∃ vt' HT', OwnSl vt' 62 7 ((outsS s).flatMap gC) (outsS s).length HT' ∧ St w0 (InH ((sg, stO ar (Ptr bs) bm pol at_ vt false) :: (HT ++ HS))) ((sg, stO ar (Ptr bs) bm pol at_ vt' false) :: (HT' ++ HS)) w') := by
  have hs := hh.cell
  have hSt := St.refl w0 NoneS
  obtain ⟨q1, q2, q3⟩ := hTG.outs
  have hk := hTG.svk (n := 0) (by omega)
  have hel : ∀ i ∈ s.ends, i < s.l.length := fun i hi => by
    obtain ⟨L, safe, hon⟩ := hTG.on
    exact ((hon.gi.ends i).1 hi).1
  have hnl : (outsS s).length ≤ 1000000 := by unfold outsS; rw [List.length_map]; exact hk.e
  have htS := OwnSl.slAt gC_len ho (hh.sublist ((List.sublist_append_left _ _).trans (List.sublist_cons_self _ _)))
  have hhS : Has w0 HS := hh.sublist ((List.sublist_append_right _ _).trans (List.sublist_cons_self _ _))
  have hh0 := hh.st
  generalize InH _ = SS at hh0 ⊢
  obtain ⟨ta, tc, rfl, hct⟩ := htS.map
  refine enter Tryz.func40 rfl Tryz.ntmps40 rfl ?_
  repeat' (first | (apply WL_ev rfl rfl; exact Ev_load1 hT rfl rfl (hSt.base hs (fun e => e)) rfl) | (refine WL_isCall (f := 25) ?_; refine WL_call (ok_call hT rfl) rfl rfl rfl (outcomes_any hW hk.l hk.e hel (hhS.later hSt)) ?_; rintro v w1 ⟨HT1, ho1, hc2⟩) | refine stepA ?_ | (refine stepS ?_; clear hSt; intro w hSt; dsimp only [spl, List.set] at hSt) | (refine stepB ?_; clear hSt; intro w nb hnb hSt; dsimp only [zcells, List.nil_append, List.cons_append] at hSt) | (refine W_quiet hT (by decide +kernel) hSt ?_; clear hSt; (repeat' (first | (apply QL_ev rfl rfl; (intro w hSt; (first | (exact Ev_load1 hT rfl rfl (hSt.base hs (fun e => e)) rfl) | exact Ev_auto))) | refine QL_pass rfl rfl ?_ | (refine QL_guardP rfl rfl (fun hc => ?_) (fun hc => ?_) <;> try exact absA) | (refine QL_guard rfl rfl (fun hc => ?_) (fun hc => ?_) <;> (try exact absA) <;> (fail_if_success (change true = true at hc)) <;> (fail_if_success (change false = false at hc))))); all_goals (refine QL_nil (fun w hSt => ?_))) | (refine stepG ?_ ?_ <;> intro hc <;> (try exact absA) <;> (fail_if_success (change true = true at hc)) <;> (fail_if_success (change false = false at hc))) | fail)
  replace hSt := hSt.newN hc2
  rw [List.nil_append] at hSt
  clear hc2
  obtain ⟨now, hnow⟩ : ∃ now, now = outsS s := ⟨_, rfl⟩
  rw [← hnow] at ho1 hnl q2 q3
  have hnS := OwnSl.slAt gC_len ho1 hSt.has
  obtain ⟨na, nc, rfl, hcn⟩ := hnS.map
  have hS1 := hSt
  have hs1 := hS1.base hs (fun e => e)
  clear hSt
  have hSt := St.refl w1 NoneS
  repeat' (first | refine stepA ?_ | (refine stepS ?_; clear hSt; intro w hSt; dsimp only [spl, List.set] at hSt) | (refine stepB ?_; clear hSt; intro w nb hnb hSt; dsimp only [zcells, List.nil_append, List.cons_append] at hSt) | (refine W_quiet hT (by decide +kernel) hSt ?_; clear hSt; (repeat' (first | (apply QL_ev rfl rfl; (intro w hSt; (first | exact Ev_auto))) | refine QL_pass rfl rfl ?_ | (refine QL_guardP rfl rfl (fun hc => ?_) (fun hc => ?_) <;> try exact absA) | (refine QL_guard rfl rfl (fun hc => ?_) (fun hc => ?_) <;> (try exact absA) <;> (fail_if_success (change true = true at hc)) <;> (fail_if_success (change false = false at hc))))); all_goals (refine QL_nil (fun w hSt => ?_))) | (refine stepG ?_ ?_ <;> intro hc <;> (try exact absA) <;> (fail_if_success (change true = true at hc)) <;> (fail_if_success (change false = false at hc))) | fail)
  refine W_sub (L' := [(4, I ((0 : Nat) : Int)), (0, Ptr sg), (3, .slice na now.length nc)]) (by (repeat (first | exact Sub.nil _ | refine Sub.cons rfl ?_))) ?_
  refine W_loop1 (fun k (i : Nat) w => k = now.length - i ∧ i ≤ now.length ∧ St w1 NoneS [] w) (fun i => [(4, I (i : Int))]) now.length 0 rfl (by (repeat (first | exact Str.nil _ | apply Str.drop rfl | apply Str.keepU rfl | apply Str.keep rfl))) ⟨rfl, by omega, hSt⟩ (by (repeat (first | exact Sub.nil _ | refine Sub.cons rfl ?_))) ?_
  clear hSt
  rintro k i w ⟨hk1, hi, hSt⟩ K hK
  by_cases hil : i < now.length
  · obtain ⟨x, hx⟩ : ∃ x, now[i]? = some x := ⟨_, List.getElem?_eq_getElem hil⟩
    have hlt9 : now.length - (i + 1) < k := by omega
    obtain ⟨b1, o1, m1, E1, z1, rfl, hb1, hc1, hd1⟩ := hcn i _ hx
    rw [← Int.toNat_natCast i] at hc1 hd1
    have h46 := (q1 x (hnow ▸ List.mem_of_getElem? hx)).1
    repeat' (first | refine stepA ?_ | (refine stepS ?_; clear hSt; intro w hSt; dsimp only [spl, List.set] at hSt) | (refine stepB ?_; clear hSt; intro w nb hnb hSt; dsimp only [zcells, List.nil_append, List.cons_append] at hSt) | (refine W_quiet hT (by decide +kernel) hSt ?_; clear hSt; (repeat' (first | (apply QL_ev rfl rfl; (intro w hSt; (first | exact Ev_auto))) | refine QL_pass rfl rfl ?_ | (refine QL_guardP rfl rfl (fun hc => ?_) (fun hc => ?_) <;> try exact absA) | (refine QL_guard rfl rfl (fun hc => ?_) (fun hc => ?_) <;> (try exact absA) <;> (fail_if_success (change true = true at hc)) <;> (fail_if_success (change false = false at hc))))); all_goals (refine QL_nil (fun w hSt => ?_))) | (refine stepG ?_ ?_ <;> intro hc <;> (try exact absA) <;> (fail_if_success (change true = true at hc)) <;> (fail_if_success (change false = false at hc))) | fail)
    refine W_sub (L' := [(5, I ((0 : Nat) : Int)), (4, I (i : Int)), (0, Ptr sg), (3, .slice (some ⟨b1, o1, none⟩) now.length nc)]) (by (repeat (first | exact Sub.nil _ | refine Sub.cons rfl ?_))) ?_
    refine W_loop1 (fun k (j : Nat) w => k = i - j ∧ j ≤ i ∧ St w1 NoneS [] w) (fun j => [(5, I (j : Int))]) i 0 rfl (by (repeat (first | exact Str.nil _ | apply Str.drop rfl | apply Str.keepU rfl | apply Str.keep rfl))) ⟨rfl, by omega, hSt⟩ (by (repeat (first | exact Sub.nil _ | refine Sub.cons rfl ?_))) ?_
    clear hSt
    rintro k2 j w ⟨hk2, hj, hSt⟩ K2 hK2
    by_cases hji : j < i
    · obtain ⟨y, hy⟩ : ∃ y, now[j]? = some y := ⟨_, List.getElem?_eq_getElem (by omega)⟩
      obtain ⟨b2, o2, m2, E2, z2, e2, hb2, hc2, hd2⟩ := hcn j _ hy
      injection e2 with e2
      injection e2 with e2 e3 _
      subst e2 e3
      rw [← Int.toNat_natCast j] at hc2 hd2
      have hne := q3 i j x y hx hy hji
      have hne2 : ([I y.c, I y.n] : List Value) ≠ [I x.c, I x.n] := by
        intro e
        injection e with e1 e2
        injection e2 with e2 _
        injection e1 with _ e1
        injection e2 with _ e2
        exact hne ⟨e1, e2⟩
      have hlt8 : i - (j + 1) < k2 := by omega
      repeat' (first | (apply WL_ev rfl rfl; exact Ev_loadN hT rfl rfl (hSt.base hb1 (fun e => e)) (id_cells hc1) rfl) | (apply WL_ev rfl rfl; exact Ev_loadN hT rfl rfl (hSt.base hb2 (fun e => e)) (id_cells hc2) rfl) | (apply WL_ev rfl rfl; exact Ev_struct_no (ok_eq rfl) rfl rfl rfl rfl hne2) | refine stepA ?_ | (refine stepS ?_; clear hSt; intro w hSt; dsimp only [spl, List.set] at hSt) | (refine stepB ?_; clear hSt; intro w nb hnb hSt; dsimp only [zcells, List.nil_append, List.cons_append] at hSt) | (refine W_quiet hT (by decide +kernel) hSt ?_; clear hSt; (repeat' (first | (apply QL_ev rfl rfl; (intro w hSt; (first | (exact Ev_loadN hT rfl rfl (hSt.base hb1 (fun e => e)) (id_cells hc1) rfl) | (exact Ev_loadN hT rfl rfl (hSt.base hb2 (fun e => e)) (id_cells hc2) rfl) | (exact Ev_struct_no (ok_eq rfl) rfl rfl rfl rfl hne2) | exact Ev_auto))) | refine QL_pass rfl rfl ?_ | (refine QL_guardP rfl rfl (fun hc => ?_) (fun hc => ?_) <;> try exact absA) | (refine QL_guard rfl rfl (fun hc => ?_) (fun hc => ?_) <;> (try exact absA) <;> (fail_if_success (change true = true at hc)) <;> (fail_if_success (change false = false at hc))))); all_goals (refine QL_nil (fun w hSt => ?_))) | (refine stepG ?_ ?_ <;> intro hc <;> (try exact absA) <;> (fail_if_success (change true = true at hc)) <;> (fail_if_success (change false = false at hc))) | fail)
      all_goals try (exfalso; first | omega | (simp at hc; done) | (exact hc rfl))
      all_goals exact At_loop1 hK2 (k' := i - (j + 1)) (j + 1) hlt8 ⟨rfl, hji, hSt⟩ (by (repeat (first | exact Sub.nil _ | refine Sub.cons rfl ?_)))
    · obtain rfl : j = i := by omega
      have hres := fun {w : World} => tresult_any (w := w) x
      rw [resK_in h46] at hres
      repeat' (first | (apply WL_ev rfl rfl; exact Ev_loadN hT rfl rfl (hSt.base hb1 (fun e => e)) hc1 rfl) | (apply WL_ev rfl rfl; exact Ev_load1 hT rfl rfl (hSt.base hb1 (fun e => e)) (hd1 2 _ rfl)) | (apply WL_ev rfl rfl; exact Ev_field1 hT rfl rfl rfl (by intro fs x h1 h2; rw [Tryz.underlying54] at h1; injection h1 with h1; injection h1 with h1; subst h1; injection h2 with h2; subst h2; decide +kernel)) | (refine WL_isCall (f := 63) ?_; refine WL_call (ok_call hT rfl) rfl rfl rfl (hres) ?_; rintro v w2 ⟨rfl, hc2⟩; replace hSt := hSt.call0 hc2; clear hc2) | refine stepA ?_ | (refine stepS ?_; clear hSt; intro w hSt; dsimp only [spl, List.set] at hSt) | (refine stepB ?_; clear hSt; intro w nb hnb hSt; dsimp only [zcells, List.nil_append, List.cons_append] at hSt) | (refine W_quiet hT (by decide +kernel) hSt ?_; clear hSt; (repeat' (first | (apply QL_ev rfl rfl; (intro w hSt; (first | (exact Ev_loadN hT rfl rfl (hSt.base hb1 (fun e => e)) hc1 rfl) | (exact Ev_load1 hT rfl rfl (hSt.base hb1 (fun e => e)) (hd1 2 _ rfl)) | (exact Ev_field1 hT rfl rfl rfl (by intro fs x h1 h2; rw [Tryz.underlying54] at h1; injection h1 with h1; injection h1 with h1; subst h1; injection h2 with h2; subst h2; decide +kernel)) | exact Ev_auto))) | refine QL_pass rfl rfl ?_ | (refine QL_guardP rfl rfl (fun hc => ?_) (fun hc => ?_) <;> try exact absA) | (refine QL_guard rfl rfl (fun hc => ?_) (fun hc => ?_) <;> (try exact absA) <;> (fail_if_success (change true = true at hc)) <;> (fail_if_success (change false = false at hc))))); all_goals (refine QL_nil (fun w hSt => ?_))) | (refine stepG ?_ ?_ <;> intro hc <;> (try exact absA) <;> (fail_if_success (change true = true at hc)) <;> (fail_if_success (change false = false at hc))) | fail)
      all_goals try (exfalso; first | omega | (simp at hc; done) | (exact hc rfl))
      all_goals exact At_loop1 hK (k' := now.length - (j + 1)) (j + 1) hlt9 ⟨rfl, by omega, hSt⟩ (by (repeat (first | exact Sub.nil _ | refine Sub.cons rfl ?_)))
  obtain rfl : i = now.length := by omega
  repeat' (first | refine stepA ?_ | (refine stepS ?_; clear hSt; intro w hSt; dsimp only [spl, List.set] at hSt) | (refine stepB ?_; clear hSt; intro w nb hnb hSt; dsimp only [zcells, List.nil_append, List.cons_append] at hSt) | (refine W_quiet hT (by decide +kernel) hSt ?_; clear hSt; (repeat' (first | (apply QL_ev rfl rfl; (intro w hSt; (first | exact Ev_auto))) | refine QL_pass rfl rfl ?_ | (refine QL_guardP rfl rfl (fun hc => ?_) (fun hc => ?_) <;> try exact absA) | (refine QL_guard rfl rfl (fun hc => ?_) (fun hc => ?_) <;> (try exact absA) <;> (fail_if_success (change true = true at hc)) <;> (fail_if_success (change false = false at hc))))); all_goals (refine QL_nil (fun w hSt => ?_))) | (refine stepG ?_ ?_ <;> intro hc <;> (try exact absA) <;> (fail_if_success (change true = true at hc)) <;> (fail_if_success (change false = false at hc))) | fail)
  refine W_sub (L' := [(6, I ((0 : Nat) : Int)), (0, Ptr sg), (3, .slice na now.length nc)]) (by (repeat (first | exact Sub.nil _ | refine Sub.cons rfl ?_))) ?_
  refine W_loop1 (fun k (i : Nat) w => k = told.length - i ∧ i ≤ told.length ∧ St w1 NoneS [] w) (fun i => [(6, I (i : Int))]) told.length 0 rfl (by (repeat (first | exact Str.nil _ | apply Str.drop rfl | apply Str.keepU rfl | apply Str.keep rfl))) ⟨rfl, by omega, hSt⟩ (by (repeat (first | exact Sub.nil _ | refine Sub.cons rfl ?_))) ?_
  clear hSt hK hk1 hi hil
  clear K k
  rintro k i w ⟨hk1, hi, hSt⟩ K hK
  by_cases hil : i < told.length
  · obtain ⟨x, hx⟩ : ∃ x, told[i]? = some x := ⟨_, List.getElem?_eq_getElem hil⟩
    have hlt9 : told.length - (i + 1) < k := by omega
    have hin := q2 x (List.mem_of_getElem? hx)
    obtain ⟨b3, o3, m3, E3, z3, rfl, hb3, hc3, hd3⟩ := hct i _ hx
    replace hb3 := hS1.base hb3 (fun e => e)
    rw [← Int.toNat_natCast i] at hc3 hd3
    repeat' (first | (apply WL_ev rfl rfl; exact Ev_load1 hT rfl rfl (hSt.base hs1 (fun e => e)) rfl) | refine stepA ?_ | (refine stepS ?_; clear hSt; intro w hSt; dsimp only [spl, List.set] at hSt) | (refine stepB ?_; clear hSt; intro w nb hnb hSt; dsimp only [zcells, List.nil_append, List.cons_append] at hSt) | (refine W_quiet hT (by decide +kernel) hSt ?_; clear hSt; (repeat' (first | (apply QL_ev rfl rfl; (intro w hSt; (first | (exact Ev_load1 hT rfl rfl (hSt.base hs1 (fun e => e)) rfl) | exact Ev_auto))) | refine QL_pass rfl rfl ?_ | (refine QL_guardP rfl rfl (fun hc => ?_) (fun hc => ?_) <;> try exact absA) | (refine QL_guard rfl rfl (fun hc => ?_) (fun hc => ?_) <;> (try exact absA) <;> (fail_if_success (change true = true at hc)) <;> (fail_if_success (change false = false at hc))))); all_goals (refine QL_nil (fun w hSt => ?_))) | (refine stepG ?_ ?_ <;> intro hc <;> (try exact absA) <;> (fail_if_success (change true = true at hc)) <;> (fail_if_success (change false = false at hc))) | fail)
    refine W_sub (L' := [(8, I ((0 : Nat) : Int)), (7, B false), (6, I (i : Int)), (0, Ptr sg), (3, .slice na now.length nc)]) (by (repeat (first | exact Sub.nil _ | refine Sub.cons rfl ?_))) ?_
    refine W_loop2 (fun k (j : Nat) (b : Bool) w => k = now.length - j ∧ j ≤ now.length ∧ ((∃ q, q < j ∧ now[q]? = some x) → b = true) ∧ St w1 NoneS [] w) (fun j b => [(8, I (j : Int)), (7, B b)]) now.length 0 false rfl (by (repeat (first | exact Str.nil _ | apply Str.drop rfl | apply Str.keepU rfl | apply Str.keep rfl))) ⟨rfl, by omega, fun ⟨q, h, _⟩ => absurd h (Nat.not_lt_zero q), hSt⟩ (by (repeat (first | exact Sub.nil _ | refine Sub.cons rfl ?_))) ?_
    clear hSt
    rintro k2 j b w ⟨hk2, hj, hb, hSt⟩ K2 hK2
    by_cases hjl : j < now.length
    · obtain ⟨y, hy⟩ : ∃ y, now[j]? = some y := ⟨_, List.getElem?_eq_getElem hjl⟩
      obtain ⟨b1, o1, m1, E1, z1, rfl, hb1, hc1, hd1⟩ := hcn j _ hy
      rw [← Int.toNat_natCast j] at hc1 hd1
      have hlt8 : now.length - (j + 1) < k2 := by omega
      cases b with
      | true =>
        repeat' (first | refine stepA ?_ | (refine stepS ?_; clear hSt; intro w hSt; dsimp only [spl, List.set] at hSt) | (refine stepB ?_; clear hSt; intro w nb hnb hSt; dsimp only [zcells, List.nil_append, List.cons_append] at hSt) | (refine W_quiet hT (by decide +kernel) hSt ?_; clear hSt; (repeat' (first | (apply QL_ev rfl rfl; (intro w hSt; (first | exact Ev_auto))) | refine QL_pass rfl rfl ?_ | (refine QL_guardP rfl rfl (fun hc => ?_) (fun hc => ?_) <;> try exact absA) | (refine QL_guard rfl rfl (fun hc => ?_) (fun hc => ?_) <;> (try exact absA) <;> (fail_if_success (change true = true at hc)) <;> (fail_if_success (change false = false at hc))))); all_goals (refine QL_nil (fun w hSt => ?_))) | (refine stepG ?_ ?_ <;> intro hc <;> (try exact absA) <;> (fail_if_success (change true = true at hc)) <;> (fail_if_success (change false = false at hc))) | fail)
        all_goals try (exfalso; first | omega | (simp at hc; done) | (exact hc rfl))
        all_goals exact At_loop2 hK2 (k' := now.length - (j + 1)) (j + 1) true hlt8 ⟨rfl, hjl, fun _ => rfl, hSt⟩ (by (repeat (first | exact Sub.nil _ | refine Sub.cons rfl ?_)))
      | false =>
        by_cases hxy : y = x
        · subst hxy
          repeat' (first | (apply WL_ev rfl rfl; exact Ev_load1 hT rfl rfl (hSt.base hs1 (fun e => e)) rfl) | (apply WL_ev rfl rfl; exact Ev_loadN hT rfl rfl (hSt.base hb1 (fun e => e)) (id_cells hc1) rfl) | (apply WL_ev rfl rfl; exact Ev_loadN hT rfl rfl (hSt.base hb3 (fun e => e)) (id_cells hc3) rfl) | (apply WL_ev rfl rfl; exact Ev_load1 hT rfl rfl (hSt.base hb1 (fun e => e)) (hd1 2 _ rfl)) | (apply WL_ev rfl rfl; exact Ev_load1 hT rfl rfl (hSt.base hb3 (fun e => e)) (hd3 2 _ rfl)) | (apply WL_ev rfl rfl; exact Ev_load1 hT rfl rfl (hSt.base hb1 (fun e => e)) (hd1 6 _ rfl)) | (apply WL_ev rfl rfl; exact Ev_load1 hT rfl rfl (hSt.base hb3 (fun e => e)) (hd3 6 _ rfl)) | (apply WL_ev rfl rfl; exact Ev_struct_yes (ok_eq rfl) rfl rfl rfl) | refine stepA ?_ | (refine stepS ?_; clear hSt; intro w hSt; dsimp only [spl, List.set] at hSt) | (refine stepB ?_; clear hSt; intro w nb hnb hSt; dsimp only [zcells, List.nil_append, List.cons_append] at hSt) | (refine W_quiet hT (by decide +kernel) hSt ?_; clear hSt; (repeat' (first | (apply QL_ev rfl rfl; (intro w hSt; (first | (exact Ev_load1 hT rfl rfl (hSt.base hs1 (fun e => e)) rfl) | (exact Ev_loadN hT rfl rfl (hSt.base hb1 (fun e => e)) (id_cells hc1) rfl) | (exact Ev_loadN hT rfl rfl (hSt.base hb3 (fun e => e)) (id_cells hc3) rfl) | (exact Ev_load1 hT rfl rfl (hSt.base hb1 (fun e => e)) (hd1 2 _ rfl)) | (exact Ev_load1 hT rfl rfl (hSt.base hb3 (fun e => e)) (hd3 2 _ rfl)) | (exact Ev_load1 hT rfl rfl (hSt.base hb1 (fun e => e)) (hd1 6 _ rfl)) | (exact Ev_load1 hT rfl rfl (hSt.base hb3 (fun e => e)) (hd3 6 _ rfl)) | (exact Ev_struct_yes (ok_eq rfl) rfl rfl rfl) | exact Ev_auto))) | refine QL_pass rfl rfl ?_ | (refine QL_guardP rfl rfl (fun hc => ?_) (fun hc => ?_) <;> try exact absA) | (refine QL_guard rfl rfl (fun hc => ?_) (fun hc => ?_) <;> (try exact absA) <;> (fail_if_success (change true = true at hc)) <;> (fail_if_success (change false = false at hc))))); all_goals (refine QL_nil (fun w hSt => ?_))) | (refine stepG ?_ ?_ <;> intro hc <;> (try exact absA) <;> (fail_if_success (change true = true at hc)) <;> (fail_if_success (change false = false at hc))) | fail)
          all_goals try (exfalso; first | omega | (simp at hc; done) | (exact hc rfl))
          all_goals (refine At_loop2 hK2 (k' := now.length - (j + 1)) (j + 1) _ hlt8 ⟨rfl, hjl, fun _ => ?_, hSt⟩ (by (repeat (first | exact Sub.nil _ | refine Sub.cons rfl ?_))); first | rfl | simp)
        · have hno : ∀ b' : Bool, (∃ q, q < j + 1 ∧ now[q]? = some x) → b' = true := by
            rintro b' ⟨q, h1, h2⟩
            by_cases hqj : q = j
            · subst hqj; rw [hy] at h2; injection h2 with h2; exact absurd h2 hxy
            · exact absurd (hb ⟨q, by omega, h2⟩) (by simp)
          repeat' (first | (apply WL_ev rfl rfl; exact Ev_load1 hT rfl rfl (hSt.base hs1 (fun e => e)) rfl) | (apply WL_ev rfl rfl; exact Ev_loadN hT rfl rfl (hSt.base hb1 (fun e => e)) (id_cells hc1) rfl) | (apply WL_ev rfl rfl; exact Ev_loadN hT rfl rfl (hSt.base hb3 (fun e => e)) (id_cells hc3) rfl) | (apply WL_ev rfl rfl; exact Ev_load1 hT rfl rfl (hSt.base hb1 (fun e => e)) (hd1 2 _ rfl)) | (apply WL_ev rfl rfl; exact Ev_load1 hT rfl rfl (hSt.base hb3 (fun e => e)) (hd3 2 _ rfl)) | (apply WL_ev rfl rfl; exact Ev_load1 hT rfl rfl (hSt.base hb1 (fun e => e)) (hd1 6 _ rfl)) | (apply WL_ev rfl rfl; exact Ev_load1 hT rfl rfl (hSt.base hb3 (fun e => e)) (hd3 6 _ rfl)) | refine stepA ?_ | (refine stepS ?_; clear hSt; intro w hSt; dsimp only [spl, List.set] at hSt) | (refine stepB ?_; clear hSt; intro w nb hnb hSt; dsimp only [zcells, List.nil_append, List.cons_append] at hSt) | (refine W_quiet hT (by decide +kernel) hSt ?_; clear hSt; (repeat' (first | (apply QL_ev rfl rfl; (intro w hSt; (first | (exact Ev_load1 hT rfl rfl (hSt.base hs1 (fun e => e)) rfl) | (exact Ev_loadN hT rfl rfl (hSt.base hb1 (fun e => e)) (id_cells hc1) rfl) | (exact Ev_loadN hT rfl rfl (hSt.base hb3 (fun e => e)) (id_cells hc3) rfl) | (exact Ev_load1 hT rfl rfl (hSt.base hb1 (fun e => e)) (hd1 2 _ rfl)) | (exact Ev_load1 hT rfl rfl (hSt.base hb3 (fun e => e)) (hd3 2 _ rfl)) | (exact Ev_load1 hT rfl rfl (hSt.base hb1 (fun e => e)) (hd1 6 _ rfl)) | (exact Ev_load1 hT rfl rfl (hSt.base hb3 (fun e => e)) (hd3 6 _ rfl)) | exact Ev_auto))) | refine QL_pass rfl rfl ?_ | (refine QL_guardP rfl rfl (fun hc => ?_) (fun hc => ?_) <;> try exact absA) | (refine QL_guard rfl rfl (fun hc => ?_) (fun hc => ?_) <;> (try exact absA) <;> (fail_if_success (change true = true at hc)) <;> (fail_if_success (change false = false at hc))))); all_goals (refine QL_nil (fun w hSt => ?_))) | (refine stepG ?_ ?_ <;> intro hc <;> (try exact absA) <;> (fail_if_success (change true = true at hc)) <;> (fail_if_success (change false = false at hc))) | fail)
          all_goals try (exfalso; first | omega | (simp at hc; done) | (exact hc rfl))
          all_goals exact At_loop2 hK2 (k' := now.length - (j + 1)) (j + 1) _ hlt8 ⟨rfl, hjl, hno _, hSt⟩ (by (repeat (first | exact Sub.nil _ | refine Sub.cons rfl ?_)))
    · obtain rfl : j = now.length := by omega
      obtain ⟨q, hq⟩ := List.mem_iff_getElem?.1 hin
      have hbt := hb ⟨q, (List.getElem?_eq_some_iff.1 hq).1, hq⟩
      subst hbt
      repeat' (first | refine stepA ?_ | (refine stepS ?_; clear hSt; intro w hSt; dsimp only [spl, List.set] at hSt) | (refine stepB ?_; clear hSt; intro w nb hnb hSt; dsimp only [zcells, List.nil_append, List.cons_append] at hSt) | (refine W_quiet hT (by decide +kernel) hSt ?_; clear hSt; (repeat' (first | (apply QL_ev rfl rfl; (intro w hSt; (first | exact Ev_auto))) | refine QL_pass rfl rfl ?_ | (refine QL_guardP rfl rfl (fun hc => ?_) (fun hc => ?_) <;> try exact absA) | (refine QL_guard rfl rfl (fun hc => ?_) (fun hc => ?_) <;> (try exact absA) <;> (fail_if_success (change true = true at hc)) <;> (fail_if_success (change false = false at hc))))); all_goals (refine QL_nil (fun w hSt => ?_))) | (refine stepG ?_ ?_ <;> intro hc <;> (try exact absA) <;> (fail_if_success (change true = true at hc)) <;> (fail_if_success (change false = false at hc))) | fail)
      all_goals try (exfalso; first | omega | (simp at hc; done) | (exact hc rfl))
      all_goals exact At_loop1 hK (k' := told.length - (i + 1)) (i + 1) hlt9 ⟨rfl, by omega, hSt⟩ (by (repeat (first | exact Sub.nil _ | refine Sub.cons rfl ?_)))
  obtain rfl : i = told.length := by omega
  repeat' (first | (apply WL_ev rfl rfl; exact Ev_load1 hT rfl rfl (hSt.base hs1 (fun e => e)) rfl) | refine stepA ?_ | (refine stepS ?_; clear hSt; intro w hSt; dsimp only [spl, List.set] at hSt) | (refine stepB ?_; clear hSt; intro w nb hnb hSt; dsimp only [zcells, List.nil_append, List.cons_append] at hSt) | (refine W_quiet hT (by decide +kernel) hSt ?_; clear hSt; (repeat' (first | (apply QL_ev rfl rfl; (intro w hSt; (first | (exact Ev_load1 hT rfl rfl (hSt.base hs1 (fun e => e)) rfl) | exact Ev_auto))) | refine QL_pass rfl rfl ?_ | (refine QL_guardP rfl rfl (fun hc => ?_) (fun hc => ?_) <;> try exact absA) | (refine QL_guard rfl rfl (fun hc => ?_) (fun hc => ?_) <;> (try exact absA) <;> (fail_if_success (change true = true at hc)) <;> (fail_if_success (change false = false at hc))))); all_goals (refine QL_nil (fun w hSt => ?_))) | (refine stepG ?_ ?_ <;> intro hc <;> (try exact absA) <;> (fail_if_success (change true = true at hc)) <;> (fail_if_success (change false = false at hc))) | fail)
  have hF : St w0 SS ((sg, stO ar (Ptr bs) bm pol at_ (.slice ta told.length tc) false) :: (HT1 ++ HS)) w := ((hh0.newN (hS1.call0 hSt)).sublist ((List.Sublist.cons_cons _ (List.sublist_append_right HT HS)).append (List.Sublist.refl HT1))).perm (List.Perm.cons _ List.perm_append_comm)
  clear hSt
  have hSt := hF
  repeat' (first | refine stepA ?_ | (refine stepS ?_; clear hSt; intro w hSt; dsimp only [spl, List.set] at hSt) | (refine stepB ?_; clear hSt; intro w nb hnb hSt; dsimp only [zcells, List.nil_append, List.cons_append] at hSt) | (refine W_quiet hT (by decide +kernel) hSt ?_; clear hSt; (repeat' (first | (apply QL_ev rfl rfl; (intro w hSt; (first | exact Ev_auto))) | refine QL_pass rfl rfl ?_ | (refine QL_guardP rfl rfl (fun hc => ?_) (fun hc => ?_) <;> try exact absA) | (refine QL_guard rfl rfl (fun hc => ?_) (fun hc => ?_) <;> (try exact absA) <;> (fail_if_success (change true = true at hc)) <;> (fail_if_success (change false = false at hc))))); all_goals (refine QL_nil (fun w hSt => ?_))) | (refine stepG ?_ ?_ <;> intro hc <;> (try exact absA) <;> (fail_if_success (change true = true at hc)) <;> (fail_if_success (change false = false at hc))) | fail)
  exact ret1 rfl rfl ⟨rfl, _, HT1, hnow ▸ ho1, hSt⟩
end
end Go.Proofs.YthkimkgphaiagaaGreatDoor
