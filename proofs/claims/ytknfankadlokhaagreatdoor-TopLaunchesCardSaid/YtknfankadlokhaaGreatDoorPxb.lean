/- Format, in memory. No conditions. -/
import Derived.Test.YtknfankadlokhaaGreatDoorPxa

namespace Go.Proofs.YtknfankadlokhaaGreatDoor
open Go.RowKit
set_option maxRecDepth 4000
set_option linter.unusedVariables false
set_option linter.unusedSimpArgs false
set_option maxHeartbeats 16000000

/-- lists that a printed description may hold -/
def RoomE (x : Ln) : Prop := x.after.length ≤ 100000 ∧ x.sets.length ≤ 100000
theorem good_sets {x : Ln} (h : GoodE x) : ∀ s ∈ x.sets, s.1.length ≤ 1000 ∧ s.2.length ≤ 1000 := fun s hs => by
  have h1 := (nameF_word (h.sets s hs).1).2.1
  have h2 := plainF_size (h.sets s hs).2
  omega
theorem setsT_len {x : Ln} (h : GoodE x) (hr : RoomE x) : (joinF (x.sets.map setT)).length ≤ 400000000 := by
  have hjl := joinF_len (m := 3005) (x.sets.map setT) (fun t ht => by
    obtain ⟨s, hs, rfl⟩ := List.mem_map.1 ht
    have h1 := good_sets h s hs
    have := setT_len h1.1 h1.2
    omega)
  rw [List.length_map] at hjl
  have := hr.2
  omega
theorem aftT_len {x : Ln} (h : GoodE x) (hr : RoomE x) : (joinF x.after).length ≤ 400000000 := by
  have hjl := joinF_len (m := 16) x.after (fun t ht => (nameF_word (h.after t ht)).2.1)
  have := hr.1
  omega
theorem fmtE_len {x : Ln} (h : GoodE x) (h6 : levC x.cond ≤ 6) (hr : RoomE x) : (fmtE x).length ≤ 2000000000 := by
  have h1 := (nameF_word h.node).2.1
  have h2 := (nameF_word h.prog).2.1
  have h3 := prt_small h.cond (by omega)
  have h4 := setsT_len h hr
  have h5 := aftT_len h hr
  have g1 : (condT x).length ≤ 600000004 := by unfold condT; split <;> simp only [sIf, List.length_append, List.length_cons, List.length_nil] <;> omega
  have g2 : (aftT x).length ≤ 400000007 := by unfold aftT; split <;> simp only [sAft, List.length_append, List.length_cons, List.length_nil] <;> omega
  have g3 : (setsT x).length ≤ 400000005 := by unfold setsT; split <;> simp only [sOpen, sClose, List.length_append, List.length_cons, List.length_nil] <;> omega
  unfold fmtE sNode sCol
  simp only [List.length_append, List.length_cons, List.length_nil]; omega
theorem fmtF_len : ∀ l : List Ln, (∀ x ∈ l, (fmtE x).length ≤ 2000000000) → (fmtF l).length ≤ l.length * 2000000000
  | [], _ => Nat.zero_le _
  | x :: l, h => by
    have h1 := h x (List.mem_cons_self ..)
    have h2 := fmtF_len l (fun y hy => h y (List.mem_cons_of_mem _ hy))
    unfold fmtF at h2 ⊢
    rw [List.flatMap_cons, List.length_append, List.length_cons, Nat.add_mul]; omega
/-- the text that Format returns -/
def fmtS (l : List Ln) : Tx := if checkF l = 0 ∧ (fmtF l).length ≤ 4000 then fmtF l else []
theorem format_any {w0 : World} {v0 : Value} {l : List Ln} (hV : Mx w0) (h : Lns w0 v0 l) (hr : ∀ x ∈ l, RoomE x) : Cl Tryz.prog 18 [v0] w0 (fun v w' => v = S (fmtS l) ∧ St w0 NoneS [] w') := by
  have hSt := St.refl w0 NoneS
  have hL := h
  obtain ⟨a1, p1, xs, rfl, hcap, hlen, hxl, hs, h3, hc1⟩ := h.out
  have hck := fun (w : World) (k : Keeps w0 w) => check_any (hL.kept k)
  unfold fmtS
  refine enter Tryz.func18 rfl Tryz.ntmps18 rfl ?_
  by_cases h0 : checkF l = 0
  rotate_left 1
  · rw [if_neg (fun e => h0 e.1)]
    repeat' (first | (refine WL_isCall (f := 22) ?_; refine WL_call (ok_call hT rfl) rfl rfl rfl (hck _ hSt.keeps) ?_; rintro v w2 ⟨rfl, hc2⟩; replace hSt := hSt.call0 hc2; clear hc2) | refine stepA ?_ | (refine stepS ?_; clear hSt; intro w hSt; dsimp only [spl, List.set] at hSt) | (refine stepB ?_; clear hSt; intro w nb hnb hSt; dsimp only [zcells, List.nil_append, List.cons_append] at hSt) | (refine W_quiet hT (by decide +kernel) hSt ?_; clear hSt; (repeat' (first | (apply QL_ev rfl rfl; (intro w hSt; (first | exact Ev_auto))) | refine QL_pass rfl rfl ?_ | (refine QL_guardP rfl rfl (fun hc => ?_) (fun hc => ?_) <;> try exact absA) | (refine QL_guard rfl rfl (fun hc => ?_) (fun hc => ?_) <;> (try exact absA) <;> (fail_if_success (change true = true at hc)) <;> (fail_if_success (change false = false at hc))))); all_goals (refine QL_nil (fun w hSt => ?_))) | (refine stepG ?_ ?_ <;> intro hc <;> (try exact absA) <;> (fail_if_success (change true = true at hc)) <;> (fail_if_success (change false = false at hc))) | fail)
    all_goals try (exfalso; first | omega | (simp at hc; done) | (exact hc rfl) | contradiction)
    all_goals exact ret1 rfl rfl ⟨rfl, hSt⟩
  rw [h0] at hck
  have hgd := fun (x : Ln) (hx : x ∈ l) => good_of_check h0 hx
  have hl24 := (check_parts h0).1
  have hfl := fun (m : List Ln) (hm : ∀ x ∈ m, x ∈ l) => fmtF_len m (fun x hx => fmtE_len (hgd x (hm x hx)).1 (hgd x (hm x hx)).2 (hr x (hm x hx)))
  repeat' (first | (refine WL_isCall (f := 22) ?_; refine WL_call (ok_call hT rfl) rfl rfl rfl (hck _ hSt.keeps) ?_; rintro v w2 ⟨rfl, hc2⟩; replace hSt := hSt.call0 hc2; clear hc2) | (refine WL_alloc (d := 3) hT rfl rfl rfl hSt ?_; clear hSt; intro w bb hbb hSt; dsimp only [zcells, List.nil_append, List.cons_append] at hSt) | refine stepA ?_ | (refine stepS ?_; clear hSt; intro w hSt; dsimp only [spl, List.set] at hSt) | (refine stepB ?_; clear hSt; intro w nb hnb hSt; dsimp only [zcells, List.nil_append, List.cons_append] at hSt) | (refine W_quiet hT (by decide +kernel) hSt ?_; clear hSt; (repeat' (first | (apply QL_ev rfl rfl; (intro w hSt; (first | exact Ev_auto))) | refine QL_pass rfl rfl ?_ | (refine QL_guardP rfl rfl (fun hc => ?_) (fun hc => ?_) <;> try exact absA) | (refine QL_guard rfl rfl (fun hc => ?_) (fun hc => ?_) <;> (try exact absA) <;> (fail_if_success (change true = true at hc)) <;> (fail_if_success (change false = false at hc))))); all_goals (refine QL_nil (fun w hSt => ?_))) | (refine stepG ?_ ?_ <;> intro hc <;> (try exact absA) <;> (fail_if_success (change true = true at hc)) <;> (fail_if_success (change false = false at hc))) | fail)
  all_goals try (exfalso; first | omega | (simp at hc; done) | (exact hc rfl) | contradiction)
  refine W_loop1 (fun k (i : Nat) w => k = l.length - i ∧ i ≤ l.length ∧ ∃ HB, Bld bb (fmtF (l.take i)) HB ∧ St w0 NoneS HB w) (fun i => [(11, I (i : Int))]) l.length 0 rfl (by (repeat (first | exact Str.nil _ | apply Str.drop rfl | apply Str.keepU rfl | apply Str.keep rfl))) ⟨rfl, Nat.zero_le _, _, Bld.fresh bb, hSt⟩ (by (repeat (first | exact Sub.nil _ | refine Sub.cons rfl ?_))) ?_
  clear hSt
  rintro k i w ⟨hk, hi, HB, hB, hSt⟩ K hK
  have hfi := hfl (l.take i) (fun x hx => List.mem_of_mem_take hx)
  have hti : (l.take i).length = i := by rw [List.length_take]; omega
  rw [hti] at hfi
  by_cases hil : i < l.length
  · obtain ⟨e, he⟩ : ∃ e, l[i]? = some e := ⟨_, List.getElem?_eq_getElem hil⟩
    have hem := List.mem_of_getElem? he
    obtain ⟨hge, hg6⟩ := hgd e hem
    have hre := hr e hem
    have hel := fmtE_len hge hg6 hre
    have n1 := (nameF_word hge.node).2.1
    have n2 := (nameF_word hge.prog).2.1
    have n3 := prt_small hge.cond (by omega)
    have n4 := setsT_len hge hre
    have n5 := aftT_len hge hre
    obtain ⟨x, b1, o1, c1, E1, z1, hx, hle, rfl, hb1, q1, hq8⟩ := hc1 i e he
    obtain ⟨v1, va, vs, rfl, hcnd, hsa, hss, hca, hcs, _, _, hst⟩ := hle
    obtain ⟨ca, cn, ck, rfl⟩ := cond_slice hcnd
    obtain ⟨aa, ak, rfl, _⟩ := hsa.map
    obtain ⟨sa, sk, rfl, _⟩ := hss.map
    have hnx : fmtF (l.take (i + 1)) = fmtF (l.take i) ++ fmtE e := by
      unfold fmtF
      rw [List.take_add_one, he, List.flatMap_append]
      simp
    generalize fmtF (l.take i) = o at hB hfi hnx
    have hpr := fun (w : World) (k : Keeps w0 w) => printed_any e.cond hge.cond (by omega) w _ (hV.kept k) (hcnd.kept k)
    have hja := fun (w : World) (k : Keeps w0 w) => join_any (hsa.kept k) hca (by have := hre.1; omega) (by omega)
    have hse := fun (w : World) (k : Keeps w0 w) => settled_any (hV.kept k) (hss.kept k) hre.2 (good_sets hge)
    have g1 : (condT e).length ≤ 600000004 := by unfold condT; split <;> simp only [sIf, List.length_append, List.length_cons, List.length_nil] <;> omega
    have g2 : (aftT e).length ≤ 400000007 := by unfold aftT; split <;> simp only [sAft, List.length_append, List.length_cons, List.length_nil] <;> omega
    have g3 : (setsT e).length ≤ 400000005 := by unfold setsT; split <;> simp only [sOpen, sClose, List.length_append, List.length_cons, List.length_nil] <;> omega
    have s1 : sNode.length = 5 := rfl
    have s2 : sCol.length = 2 := rfl
    repeat' (first | (refine WL_alloc (d := 5) hT rfl rfl rfl hSt ?_; clear hSt; intro w nb hnb hSt; replace hSt := hSt.front; dsimp only [zcells] at hSt) | (apply WL_ev rfl rfl; exact Ev_loadN hT rfl rfl (hSt.base hb1 (fun e => e)) q1 rfl) | (refine WL_isCall (f := 49) ?_; refine WL_call (ok_call hT rfl) rfl rfl rfl (write_any hB (hSt.right (Ha := [_])).has _ (by simp only [List.length_append, List.length_cons, List.length_nil]; omega)) ?_; rintro r w' ⟨rfl, HB2, hB2, hc2⟩; replace hSt := hSt.callE (Ha := [_]) hc2; clear hc2; replace hB := hB2; clear hB2; dsimp only [List.nil_append, List.cons_append] at hSt) | (apply WL_ev rfl rfl; exact Ev_str_add rfl rfl (by simp only [List.length_append, List.length_cons, List.length_nil]; omega)) | (refine WL_isCall (f := 50) ?_; refine WL_call (ok_call hT rfl) rfl rfl rfl (hpr _ hSt.nil.keeps) ?_; rintro v w2 ⟨rfl, hc2⟩; replace hSt := hSt.call0 hc2; clear hc2) | (refine WL_isCall (f := 51) ?_; refine WL_call (ok_call hT rfl) rfl rfl rfl (hja _ hSt.nil.keeps) ?_; rintro v w2 ⟨rfl, hc2⟩; replace hSt := hSt.call0 hc2; clear hc2) | (refine WL_isCall (f := 52) ?_; refine WL_call (ok_call hT rfl) rfl rfl rfl (hse _ hSt.nil.keeps) ?_; rintro v w2 ⟨rfl, hc2⟩; replace hSt := hSt.call0 hc2; clear hc2) | refine stepA ?_ | (refine stepS ?_; clear hSt; intro w hSt; dsimp only [spl, List.set] at hSt) | (refine stepB ?_; clear hSt; intro w nb hnb hSt; dsimp only [zcells, List.nil_append, List.cons_append] at hSt) | (refine W_quiet hT (by decide +kernel) hSt ?_; clear hSt; (repeat' (first | (apply QL_ev rfl rfl; (intro w hSt; (first | (exact Ev_loadN hT rfl rfl (hSt.base hb1 (fun e => e)) q1 rfl) | (exact Ev_str_add rfl rfl (by simp only [List.length_append, List.length_cons, List.length_nil]; omega)) | exact Ev_auto))) | refine QL_pass rfl rfl ?_ | (refine QL_guardP rfl rfl (fun hc => ?_) (fun hc => ?_) <;> try exact absA) | (refine QL_guard rfl rfl (fun hc => ?_) (fun hc => ?_) <;> (try exact absA) <;> (fail_if_success (change true = true at hc)) <;> (fail_if_success (change false = false at hc))))); all_goals (refine QL_nil (fun w hSt => ?_))) | (refine stepG ?_ ?_ <;> intro hc <;> (try exact absA) <;> (fail_if_success (change true = true at hc)) <;> (fail_if_success (change false = false at hc))) | fail)
    all_goals try (exfalso; first | omega | (simp at hc; done) | (exact hc rfl) | contradiction)
    all_goals first
      | exact At_loop1 hK (k' := l.length - (i + 1)) (i + 1) (by omega) ⟨rfl, hil, _, (by rw [hnx]; unfold fmtE; rw [show condT e = sIf ++ prtF e.cond from if_pos (by assumption), show aftT e = sAft ++ joinF e.after from if_pos (by omega), show setsT e = sOpen ++ (joinF (e.sets.map setT) ++ sClose) from if_pos (by omega)]; simp only [sNode, sCol, sIf, sAft, sOpen, sClose, List.append_assoc, List.cons_append, List.nil_append] at hB ⊢; exact hB), hSt.right (Ha := [_])⟩ (by (repeat (first | exact Sub.nil _ | refine Sub.cons rfl ?_)))
      | exact At_loop1 hK (k' := l.length - (i + 1)) (i + 1) (by omega) ⟨rfl, hil, _, (by rw [hnx]; unfold fmtE; rw [show condT e = sIf ++ prtF e.cond from if_pos (by assumption), show aftT e = sAft ++ joinF e.after from if_pos (by omega), show setsT e = [] from if_neg (by omega)]; simp only [sNode, sCol, sIf, sAft, sOpen, sClose, List.append_assoc, List.cons_append, List.nil_append] at hB ⊢; exact hB), hSt.right (Ha := [_])⟩ (by (repeat (first | exact Sub.nil _ | refine Sub.cons rfl ?_)))
      | exact At_loop1 hK (k' := l.length - (i + 1)) (i + 1) (by omega) ⟨rfl, hil, _, (by rw [hnx]; unfold fmtE; rw [show condT e = sIf ++ prtF e.cond from if_pos (by assumption), show aftT e = [] from if_neg (by omega), show setsT e = sOpen ++ (joinF (e.sets.map setT) ++ sClose) from if_pos (by omega)]; simp only [sNode, sCol, sIf, sAft, sOpen, sClose, List.append_assoc, List.cons_append, List.nil_append] at hB ⊢; exact hB), hSt.right (Ha := [_])⟩ (by (repeat (first | exact Sub.nil _ | refine Sub.cons rfl ?_)))
      | exact At_loop1 hK (k' := l.length - (i + 1)) (i + 1) (by omega) ⟨rfl, hil, _, (by rw [hnx]; unfold fmtE; rw [show condT e = sIf ++ prtF e.cond from if_pos (by assumption), show aftT e = [] from if_neg (by omega), show setsT e = [] from if_neg (by omega)]; simp only [sNode, sCol, sIf, sAft, sOpen, sClose, List.append_assoc, List.cons_append, List.nil_append] at hB ⊢; exact hB), hSt.right (Ha := [_])⟩ (by (repeat (first | exact Sub.nil _ | refine Sub.cons rfl ?_)))
      | exact At_loop1 hK (k' := l.length - (i + 1)) (i + 1) (by omega) ⟨rfl, hil, _, (by rw [hnx]; unfold fmtE; rw [show condT e = [] from if_neg (by assumption), show aftT e = sAft ++ joinF e.after from if_pos (by omega), show setsT e = sOpen ++ (joinF (e.sets.map setT) ++ sClose) from if_pos (by omega)]; simp only [sNode, sCol, sIf, sAft, sOpen, sClose, List.append_assoc, List.cons_append, List.nil_append] at hB ⊢; exact hB), hSt.right (Ha := [_])⟩ (by (repeat (first | exact Sub.nil _ | refine Sub.cons rfl ?_)))
      | exact At_loop1 hK (k' := l.length - (i + 1)) (i + 1) (by omega) ⟨rfl, hil, _, (by rw [hnx]; unfold fmtE; rw [show condT e = [] from if_neg (by assumption), show aftT e = sAft ++ joinF e.after from if_pos (by omega), show setsT e = [] from if_neg (by omega)]; simp only [sNode, sCol, sIf, sAft, sOpen, sClose, List.append_assoc, List.cons_append, List.nil_append] at hB ⊢; exact hB), hSt.right (Ha := [_])⟩ (by (repeat (first | exact Sub.nil _ | refine Sub.cons rfl ?_)))
      | exact At_loop1 hK (k' := l.length - (i + 1)) (i + 1) (by omega) ⟨rfl, hil, _, (by rw [hnx]; unfold fmtE; rw [show condT e = [] from if_neg (by assumption), show aftT e = [] from if_neg (by omega), show setsT e = sOpen ++ (joinF (e.sets.map setT) ++ sClose) from if_pos (by omega)]; simp only [sNode, sCol, sIf, sAft, sOpen, sClose, List.append_assoc, List.cons_append, List.nil_append] at hB ⊢; exact hB), hSt.right (Ha := [_])⟩ (by (repeat (first | exact Sub.nil _ | refine Sub.cons rfl ?_)))
      | exact At_loop1 hK (k' := l.length - (i + 1)) (i + 1) (by omega) ⟨rfl, hil, _, (by rw [hnx]; unfold fmtE; rw [show condT e = [] from if_neg (by assumption), show aftT e = [] from if_neg (by omega), show setsT e = [] from if_neg (by omega)]; simp only [sNode, sCol, sIf, sAft, sOpen, sClose, List.append_assoc, List.cons_append, List.nil_append] at hB ⊢; exact hB), hSt.right (Ha := [_])⟩ (by (repeat (first | exact Sub.nil _ | refine Sub.cons rfl ?_)))
  · rw [List.take_of_length_le (by omega)] at hB hfi
    by_cases h4 : (fmtF l).length ≤ 4000
    · rw [if_pos ⟨h0, h4⟩]
      repeat' (first | (refine WL_isCall (f := 53) ?_; refine WL_call (ok_call hT rfl) rfl rfl rfl (len_any hB hSt.has) ?_; rintro v w2 ⟨rfl, hc2⟩; replace hSt := hSt.call0 hc2; clear hc2) | (refine WL_isCall (f := 54) ?_; refine WL_call (ok_call hT rfl) rfl rfl rfl (string_any hB (H0 := []) hSt) ?_; rintro v w2 ⟨rfl, hc2⟩; have hSt := hc2) | refine stepA ?_ | (refine stepS ?_; clear hSt; intro w hSt; dsimp only [spl, List.set] at hSt) | (refine stepB ?_; clear hSt; intro w nb hnb hSt; dsimp only [zcells, List.nil_append, List.cons_append] at hSt) | (refine W_quiet hT (by decide +kernel) hSt ?_; clear hSt; (repeat' (first | (apply QL_ev rfl rfl; (intro w hSt; (first | exact Ev_auto))) | refine QL_pass rfl rfl ?_ | (refine QL_guardP rfl rfl (fun hc => ?_) (fun hc => ?_) <;> try exact absA) | (refine QL_guard rfl rfl (fun hc => ?_) (fun hc => ?_) <;> (try exact absA) <;> (fail_if_success (change true = true at hc)) <;> (fail_if_success (change false = false at hc))))); all_goals (refine QL_nil (fun w hSt => ?_))) | (refine stepG ?_ ?_ <;> intro hc <;> (try exact absA) <;> (fail_if_success (change true = true at hc)) <;> (fail_if_success (change false = false at hc))) | fail)
      all_goals try (exfalso; first | omega | (simp at hc; done) | (exact hc rfl) | contradiction)
      all_goals exact ret1 rfl rfl ⟨rfl, hSt⟩
    · rw [if_neg (fun e => h4 e.2)]
      repeat' (first | (refine WL_isCall (f := 53) ?_; refine WL_call (ok_call hT rfl) rfl rfl rfl (len_any hB hSt.has) ?_; rintro v w2 ⟨rfl, hc2⟩; replace hSt := hSt.call0 hc2; clear hc2) | refine stepA ?_ | (refine stepS ?_; clear hSt; intro w hSt; dsimp only [spl, List.set] at hSt) | (refine stepB ?_; clear hSt; intro w nb hnb hSt; dsimp only [zcells, List.nil_append, List.cons_append] at hSt) | (refine W_quiet hT (by decide +kernel) hSt ?_; clear hSt; (repeat' (first | (apply QL_ev rfl rfl; (intro w hSt; (first | exact Ev_auto))) | refine QL_pass rfl rfl ?_ | (refine QL_guardP rfl rfl (fun hc => ?_) (fun hc => ?_) <;> try exact absA) | (refine QL_guard rfl rfl (fun hc => ?_) (fun hc => ?_) <;> (try exact absA) <;> (fail_if_success (change true = true at hc)) <;> (fail_if_success (change false = false at hc))))); all_goals (refine QL_nil (fun w hSt => ?_))) | (refine stepG ?_ ?_ <;> intro hc <;> (try exact absA) <;> (fail_if_success (change true = true at hc)) <;> (fail_if_success (change false = false at hc))) | fail)
      all_goals try (exfalso; first | omega | (simp at hc; done) | (exact hc rfl) | contradiction)
      all_goals exact ret1 rfl rfl ⟨rfl, hSt.nil⟩
end Go.Proofs.YtknfankadlokhaaGreatDoor
