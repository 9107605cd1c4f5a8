/- The specification's Format, in memory. No conditions. -/
import Derived.Test.YtknfankadlokhaaGreatDoorPxb
import Derived.Test.YtknfankadlokhaaGreatDoorPwb
import Derived.Test.YtknfankadlokhaaGreatDoorLrb

namespace Go.Proofs.YtknfankadlokhaaGreatDoor
open Go.RowKit
set_option maxRecDepth 4000
set_option linter.unusedVariables false
set_option linter.unusedSimpArgs false
set_option maxHeartbeats 16000000

theorem joinF_snoc {l : List Tx} {a : Tx} (h : l ≠ []) : joinF (l ++ [a]) = joinF l ++ (sSep ++ a) := by
  cases l with
  | nil => exact absurd rfl h
  | cons b l =>
    rw [List.cons_append, joinF, joinF, List.flatMap_append, List.append_assoc]
    simp
/-- the nodes, and the settings, that are printed so far -/
def aftJ (x : Ln) (j : Nat) : Tx := if j = 0 then [] else sAft ++ joinF (x.after.take j)
def setJ (x : Ln) (j : Nat) : Tx := if j = 0 then [] else sOpen ++ joinF ((x.sets.take j).map setT)
theorem aftJ_step {x : Ln} {j : Nat} {a : Tx} (h : x.after[j]? = some a) : aftJ x (j + 1) = if j = 0 then sAft ++ a else aftJ x j ++ sSep ++ a := by
  unfold aftJ
  rw [if_neg (by omega), List.take_add_one, h]
  by_cases hj : j = 0
  · subst hj
    rw [if_pos rfl]; simp [joinF]
  · rw [if_neg hj, if_neg hj]
    have hne : x.after.take j ≠ [] := by
      have := (List.getElem?_eq_some_iff.1 h).1
      intro e
      have := congrArg List.length e
      rw [List.length_take, List.length_nil] at this
      omega
    show sAft ++ joinF (x.after.take j ++ [a]) = _
    rw [joinF_snoc hne]; simp only [List.append_assoc]
theorem setJ_step {x : Ln} {j : Nat} {a : Sg} (h : x.sets[j]? = some a) : setJ x (j + 1) = (if j = 0 then sOpen else setJ x j ++ sSep) ++ setT a := by
  unfold setJ
  rw [if_neg (by omega), List.take_add_one, h]
  by_cases hj : j = 0
  · subst hj
    rw [if_pos rfl]; simp [joinF]
  · rw [if_neg hj, if_neg hj]
    have hne : (x.sets.take j).map setT ≠ [] := by
      have := (List.getElem?_eq_some_iff.1 h).1
      intro e
      have := congrArg List.length e
      rw [List.length_map, List.length_take, List.length_nil] at this
      omega
    rw [List.map_append]
    show sOpen ++ joinF ((x.sets.take j).map setT ++ [setT a]) = _
    rw [joinF_snoc hne]; simp only [List.append_assoc]
theorem aftJ_len {x : Ln} (h : GoodE x) (hr : RoomE x) (j : Nat) : (aftJ x j).length ≤ 400000007 := by
  have hjl := joinF_len (m := 16) (x.after.take j) (fun t ht => (nameF_word (h.after t (List.mem_of_mem_take ht))).2.1)
  have h1 := hr.1
  have h2 : (x.after.take j).length ≤ 100000 := by rw [List.length_take]; omega
  unfold aftJ
  split
  · exact Nat.zero_le _
  · have : sAft.length = 7 := rfl
    rw [List.length_append]; omega
theorem setJ_len {x : Ln} (h : GoodE x) (hr : RoomE x) (j : Nat) : (setJ x j).length ≤ 400000007 := by
  have hjl := joinF_len (m := 3005) ((x.sets.take j).map setT) (fun t ht => by
    obtain ⟨s, hs, rfl⟩ := List.mem_map.1 ht
    have h1 := good_sets h s (List.mem_of_mem_take hs)
    have := setT_len h1.1 h1.2
    omega)
  have h1 := hr.2
  have h2 : ((x.sets.take j).map setT).length ≤ 100000 := by rw [List.length_map, List.length_take]; omega
  unfold setJ
  split
  · exact Nat.zero_le _
  · have : sOpen.length = 3 := rfl
    rw [List.length_append]; omega
theorem aftJ_all (x : Ln) : aftJ x x.after.length = aftT x := by
  unfold aftJ aftT
  rw [List.take_length]
  by_cases h : x.after.length = 0
  · rw [if_pos h, if_neg (by omega)]
  · rw [if_neg h, if_pos (by omega)]
theorem setJ_all {x : Ln} (h : 0 < x.sets.length) : setJ x x.sets.length ++ [32, 125] = setsT x := by
  unfold setJ setsT
  rw [List.take_length, if_neg (by omega), if_pos h, List.append_assoc]; rfl
theorem setJ_none {x : Ln} (h : ¬ 0 < x.sets.length) : setJ x x.sets.length = [] ∧ setsT x = [] := by
  unfold setJ setsT
  exact ⟨if_pos (by omega), if_neg h⟩
theorem rformat_any {w0 : World} {v0 : Value} {l : List Ln} (h : Lns w0 v0 l) (hlv : ∀ x ∈ l, levC x.cond ≤ 9223372036854775807) (hr : ∀ x ∈ l, RoomE x) : Cl Tryz.prog 29 [v0] w0 (fun v w' => v = S (fmtS l) ∧ St w0 NoneS [] w') := by
  have hSt := St.refl w0 NoneS
  have hL := h
  obtain ⟨a1, p1, xs, rfl, hcap, hlen, hxl, hs, h3, hc1⟩ := h.out
  have hck := fun (w : World) (k : Keeps w0 w) => rcheck_any (hL.kept k) hlv
  unfold fmtS
  refine enter Tryz.func29 rfl Tryz.ntmps29 rfl ?_
  by_cases h0 : checkF l = 0
  rotate_left 1
  · rw [if_neg (fun e => h0 e.1)]
    repeat' (first | (refine WL_isCall (f := 60) ?_; refine WL_call (ok_call hT rfl) rfl rfl rfl (hck _ hSt.keeps) ?_; rintro v w2 ⟨rfl, hc2⟩; replace hSt := hSt.call0 hc2; clear hc2) | refine stepA ?_ | (refine stepS ?_; clear hSt; intro w hSt; dsimp only [spl, List.set] at hSt) | (refine stepB ?_; clear hSt; intro w nb hnb hSt; dsimp only [zcells, List.nil_append, List.cons_append] at hSt) | (refine W_quiet hT (by decide +kernel) hSt ?_; clear hSt; (repeat' (first | (apply QL_ev rfl rfl; (intro w hSt; (first | exact Ev_auto))) | refine QL_pass rfl rfl ?_ | (refine QL_guardP rfl rfl (fun hc => ?_) (fun hc => ?_) <;> try exact absA) | (refine QL_guard rfl rfl (fun hc => ?_) (fun hc => ?_) <;> (try exact absA) <;> (fail_if_success (change true = true at hc)) <;> (fail_if_success (change false = false at hc))))); all_goals (refine QL_nil (fun w hSt => ?_))) | (refine stepG ?_ ?_ <;> intro hc <;> (try exact absA) <;> (fail_if_success (change true = true at hc)) <;> (fail_if_success (change false = false at hc))) | fail)
    all_goals try (exfalso; first | omega | (simp at hc; done) | (exact hc rfl) | contradiction)
    all_goals exact ret1 rfl rfl ⟨rfl, hSt⟩
  rw [h0] at hck
  have hgd := fun (x : Ln) (hx : x ∈ l) => good_of_check h0 hx
  have hl24 := (check_parts h0).1
  have hfl := fun (m : List Ln) (hm : ∀ x ∈ m, x ∈ l) => fmtF_len m (fun x hx => fmtE_len (hgd x (hm x hx)).1 (hgd x (hm x hx)).2 (hr x (hm x hx)))
  repeat' (first | (refine WL_isCall (f := 60) ?_; refine WL_call (ok_call hT rfl) rfl rfl rfl (hck _ hSt.keeps) ?_; rintro v w2 ⟨rfl, hc2⟩; replace hSt := hSt.call0 hc2; clear hc2) | refine stepA ?_ | (refine stepS ?_; clear hSt; intro w hSt; dsimp only [spl, List.set] at hSt) | (refine stepB ?_; clear hSt; intro w nb hnb hSt; dsimp only [zcells, List.nil_append, List.cons_append] at hSt) | (refine W_quiet hT (by decide +kernel) hSt ?_; clear hSt; (repeat' (first | (apply QL_ev rfl rfl; (intro w hSt; (first | exact Ev_auto))) | refine QL_pass rfl rfl ?_ | (refine QL_guardP rfl rfl (fun hc => ?_) (fun hc => ?_) <;> try exact absA) | (refine QL_guard rfl rfl (fun hc => ?_) (fun hc => ?_) <;> (try exact absA) <;> (fail_if_success (change true = true at hc)) <;> (fail_if_success (change false = false at hc))))); all_goals (refine QL_nil (fun w hSt => ?_))) | (refine stepG ?_ ?_ <;> intro hc <;> (try exact absA) <;> (fail_if_success (change true = true at hc)) <;> (fail_if_success (change false = false at hc))) | fail)
  all_goals try (exfalso; first | omega | (simp at hc; done) | (exact hc rfl) | contradiction)
  refine W_sub (L' := [(0, .slice a1 l.length p1), (4, I 0), (3, S [])]) (by (repeat (first | exact Sub.nil _ | refine Sub.cons rfl ?_))) ?_
  refine W_loop2 (fun k (i : Nat) (o : Tx) w => k = l.length - i ∧ i ≤ l.length ∧ o = fmtF (l.take i) ∧ St w0 NoneS [] w) (fun i o => [(4, I (i : Int)), (3, S o)]) l.length 0 [] rfl (by (repeat (first | exact Str.nil _ | apply Str.drop rfl | apply Str.keepU rfl | apply Str.keep rfl))) ⟨rfl, Nat.zero_le _, rfl, hSt⟩ (by (repeat (first | exact Sub.nil _ | refine Sub.cons rfl ?_))) ?_
  clear hSt
  rintro k i o w ⟨hk, hi, ho, hSt⟩ K hK
  have hfi := hfl (l.take i) (fun x hx => List.mem_of_mem_take hx)
  have hti : (l.take i).length = i := by rw [List.length_take]; omega
  rw [hti, ← ho] at hfi
  by_cases hil : i < l.length
  · obtain ⟨e, he⟩ : ∃ e, l[i]? = some e := ⟨_, List.getElem?_eq_getElem hil⟩
    have hem := List.mem_of_getElem? he
    obtain ⟨hge, hg6⟩ := hgd e hem
    have hre := hr e hem
    have n1 := (nameF_word hge.node).2.1
    have n2 := (nameF_word hge.prog).2.1
    have n3 := prt_small hge.cond (by omega)
    obtain ⟨x, b1, o1, c1, E1, z1, hx, hle, rfl, hb1, q1, hq8⟩ := hc1 i e he
    obtain ⟨v1, va, vs, rfl, hcnd, hsa, hss, hca, hcs, _, _, hst⟩ := hle
    obtain ⟨ca, cn, ck, rfl⟩ := cond_slice hcnd
    obtain ⟨aa, ak, rfl, hc3⟩ := hsa.map
    obtain ⟨sa, sk, rfl, hc4⟩ := hss.map
    have hnx : fmtF (l.take (i + 1)) = o ++ fmtE e := by
      rw [ho]
      unfold fmtF
      rw [List.take_add_one, he, List.flatMap_append]
      simp
    have hkc := fun (w : World) (k : Keeps w0 w) => rkond_any (hcnd.kept k) (by omega)
    have hgc : goodC e.cond = true := by unfold goodC; rw [decide_eq_true hg6, hge.cond]; rfl
    unfold condS at hkc
    rw [if_pos hgc] at hkc
    have s1 : sNode.length = 5 := rfl
    have s2 : sCol.length = 2 := rfl
    have s3 : sSep.length = 2 := rfl
    have s4 : sOpen.length = 3 := rfl
    have s5 : sAft.length = 7 := rfl
    have g1 : (condT e).length ≤ 600000004 := by unfold condT; split <;> simp only [sIf, List.length_append, List.length_cons, List.length_nil] <;> omega
    have hp0 : o ++ [110, 111, 100, 101, 32] ++ e.node ++ [58, 32] ++ e.prog = o ++ (sNode ++ e.node ++ sCol ++ e.prog) := by simp only [sNode, sCol, List.append_assoc]
    repeat' (first | (refine W_midAtC 11 (fun L' w' => St w0 NoneS [(nb, blk [S e.node, S e.prog, I e.cond.op, S e.cond.name, S e.cond.text, .slice ca cn ck, .slice aa e.after.length ak, .slice sa e.sets.length sk] 40)] w' ∧ L' = [(0, .slice (some ⟨b1, o1, none⟩) l.length p1), (3, S (o ++ (sNode ++ e.node ++ sCol ++ e.prog) ++ condT e)), (4, I (i : Int)), (5, Ptr nb)]) (fun K2 hK2 => ?_) (fun L' w' hm => ?_); rotate_left 1; (clear hSt; obtain ⟨hSt, rfl⟩ := hm)) | (refine W_midAtL 11 (fun L' w' => St w0 NoneS [(nb, blk [S e.node, S e.prog, I e.cond.op, S e.cond.name, S e.cond.text, .slice ca cn ck, .slice aa e.after.length ak, .slice sa e.sets.length sk] 40)] w' ∧ L' = [(0, .slice (some ⟨b1, o1, none⟩) l.length p1), (3, S (o ++ (sNode ++ e.node ++ sCol ++ e.prog) ++ condT e)), (4, I (i : Int)), (5, Ptr nb)]) (fun K2 hK2 => ?_) (fun L' w' hm => ?_); rotate_left 1; (clear hSt; obtain ⟨hSt, rfl⟩ := hm)) | (refine WL_alloc (d := 5) hT rfl rfl rfl hSt ?_; clear hSt; intro w nb hnb hSt; replace hSt := hSt.front; dsimp only [zcells] at hSt) | (apply WL_ev rfl rfl; exact Ev_loadN hT rfl rfl (hSt.base hb1 (fun e => e)) q1 rfl) | (apply WL_ev rfl rfl; exact Ev_str_add rfl rfl (by simp only [List.length_append, List.length_cons, List.length_nil]; omega)) | (refine WL_isCall (f := 71) ?_; refine WL_call (ok_call hT rfl) rfl rfl rfl (hkc _ hSt.nil.keeps) ?_; rintro v w2 ⟨rfl, hc2⟩; replace hSt := hSt.call0 hc2; clear hc2) | refine stepA ?_ | (refine stepS ?_; clear hSt; intro w hSt; dsimp only [spl, List.set] at hSt) | (refine stepB ?_; clear hSt; intro w nb hnb hSt; dsimp only [zcells, List.nil_append, List.cons_append] at hSt) | (refine W_quiet hT (by decide +kernel) hSt ?_; clear hSt; (repeat' (first | (apply QL_ev rfl rfl; (intro w hSt; (first | (exact Ev_loadN hT rfl rfl (hSt.base hb1 (fun e => e)) q1 rfl) | (exact Ev_str_add rfl rfl (by simp only [List.length_append, List.length_cons, List.length_nil]; omega)) | exact Ev_auto))) | refine QL_pass rfl rfl ?_ | (refine QL_guardP rfl rfl (fun hc => ?_) (fun hc => ?_) <;> try exact absA) | (refine QL_guard rfl rfl (fun hc => ?_) (fun hc => ?_) <;> (try exact absA) <;> (fail_if_success (change true = true at hc)) <;> (fail_if_success (change false = false at hc))))); all_goals (refine QL_nil (fun w hSt => ?_))) | (refine stepG ?_ ?_ <;> intro hc <;> (try exact absA) <;> (fail_if_success (change true = true at hc)) <;> (fail_if_success (change false = false at hc))) | fail)
    all_goals try (exfalso; first | omega | (simp at hc; done) | (exact hc rfl) | contradiction)
    rotate_left 1
    · rw [hp0, show o ++ (sNode ++ e.node ++ sCol ++ e.prog) ++ [32, 105, 102, 32] ++ prtF e.cond = o ++ (sNode ++ e.node ++ sCol ++ e.prog) ++ condT e from by rw [show condT e = sIf ++ prtF e.cond from if_pos (by assumption)]; simp only [sIf, List.append_assoc]]
      exact At_K hK2 ⟨hSt, rfl⟩ (by (repeat (first | exact Sub.nil _ | refine Sub.cons rfl ?_)))
    · rw [hp0]
      rw [show condT e = [] from if_neg (by assumption), List.append_nil] at hK2
      exact At_K hK2 ⟨hSt, rfl⟩ (by (repeat (first | exact Sub.nil _ | refine Sub.cons rfl ?_)))
    obtain ⟨P1, hP1⟩ : ∃ P1, P1 = o ++ (sNode ++ e.node ++ sCol ++ e.prog) ++ condT e := ⟨_, rfl⟩
    rw [← hP1]
    have hp1l : P1.length ≤ o.length + 700000000 := by rw [hP1]; simp only [List.length_append]; omega
    repeat' (first | refine stepA ?_ | (refine stepS ?_; clear hSt; intro w hSt; dsimp only [spl, List.set] at hSt) | (refine stepB ?_; clear hSt; intro w nb hnb hSt; dsimp only [zcells, List.nil_append, List.cons_append] at hSt) | (refine W_quiet hT (by decide +kernel) hSt ?_; clear hSt; (repeat' (first | (apply QL_ev rfl rfl; (intro w hSt; (first | exact Ev_auto))) | refine QL_pass rfl rfl ?_ | (refine QL_guardP rfl rfl (fun hc => ?_) (fun hc => ?_) <;> try exact absA) | (refine QL_guard rfl rfl (fun hc => ?_) (fun hc => ?_) <;> (try exact absA) <;> (fail_if_success (change true = true at hc)) <;> (fail_if_success (change false = false at hc))))); all_goals (refine QL_nil (fun w hSt => ?_))) | (refine stepG ?_ ?_ <;> intro hc <;> (try exact absA) <;> (fail_if_success (change true = true at hc)) <;> (fail_if_success (change false = false at hc))) | fail)
    refine W_loop2 (fun k2 (j : Nat) (s : Tx) w => k2 = e.after.length - j ∧ j ≤ e.after.length ∧ s = P1 ++ aftJ e j ∧ St w0 NoneS [(nb, blk [S e.node, S e.prog, I e.cond.op, S e.cond.name, S e.cond.text, .slice ca cn ck, .slice aa e.after.length ak, .slice sa e.sets.length sk] 40)] w) (fun j s => [(6, I (j : Int)), (3, S s)]) e.after.length 0 P1 rfl (by (repeat (first | exact Str.nil _ | apply Str.drop rfl | apply Str.keepU rfl | apply Str.keep rfl))) ⟨rfl, Nat.zero_le _, by simp [aftJ], hSt⟩ (by (repeat (first | exact Sub.nil _ | refine Sub.cons rfl ?_))) ?_
    clear hSt
    rintro k2 j s w ⟨hk2, hj, hsj, hSt⟩ K3 hK3
    have la := aftJ_len hge hre j
    have hsl3 : s.length ≤ P1.length + 400000007 := by rw [hsj, List.length_append]; omega
    by_cases hjl : j < e.after.length
    · obtain ⟨n, hn⟩ : ∃ n, e.after[j]? = some n := ⟨_, List.getElem?_eq_getElem hjl⟩
      have hnl := (nameF_word (hge.after n (List.mem_of_getElem? hn))).2.1
      obtain ⟨b8, o8, m8, E8, z8, rfl, hb8, _, q8⟩ := hc3 j n hn
      replace q8 := q8 0 _ rfl
      rw [← Int.toNat_natCast j] at q8
      have hst2 := aftJ_step hn
      by_cases hj0 : j = 0
      · rw [if_pos hj0] at hst2
        have h00 : aftJ e j = [] := if_pos hj0
        repeat' (first | (apply WL_ev rfl rfl; exact Ev_load1 hT rfl rfl (hSt.base hb8 (fun e => e)) q8) | (apply WL_ev rfl rfl; exact Ev_str_add rfl rfl (by simp only [List.length_append, List.length_cons, List.length_nil]; omega)) | refine stepA ?_ | (refine stepS ?_; clear hSt; intro w hSt; dsimp only [spl, List.set] at hSt) | (refine stepB ?_; clear hSt; intro w nb hnb hSt; dsimp only [zcells, List.nil_append, List.cons_append] at hSt) | (refine W_quiet hT (by decide +kernel) hSt ?_; clear hSt; (repeat' (first | (apply QL_ev rfl rfl; (intro w hSt; (first | (exact Ev_load1 hT rfl rfl (hSt.base hb8 (fun e => e)) q8) | (exact Ev_str_add rfl rfl (by simp only [List.length_append, List.length_cons, List.length_nil]; omega)) | exact Ev_auto))) | refine QL_pass rfl rfl ?_ | (refine QL_guardP rfl rfl (fun hc => ?_) (fun hc => ?_) <;> try exact absA) | (refine QL_guard rfl rfl (fun hc => ?_) (fun hc => ?_) <;> (try exact absA) <;> (fail_if_success (change true = true at hc)) <;> (fail_if_success (change false = false at hc))))); all_goals (refine QL_nil (fun w hSt => ?_))) | (refine stepG ?_ ?_ <;> intro hc <;> (try exact absA) <;> (fail_if_success (change true = true at hc)) <;> (fail_if_success (change false = false at hc))) | fail)
        all_goals try (exfalso; first | omega | (simp at hc; done) | (exact hc rfl) | contradiction)
        all_goals exact At_loop2 hK3 (k' := e.after.length - (j + 1)) (j + 1) (s ++ [32, 97, 102, 116, 101, 114, 32] ++ n) (by omega) ⟨rfl, hjl, by rw [hst2, hsj, h00]; simp [sAft], hSt⟩ (by (repeat (first | exact Sub.nil _ | refine Sub.cons rfl ?_)))
      · rw [if_neg hj0] at hst2
        repeat' (first | (apply WL_ev rfl rfl; exact Ev_load1 hT rfl rfl (hSt.base hb8 (fun e => e)) q8) | (apply WL_ev rfl rfl; exact Ev_str_add rfl rfl (by simp only [List.length_append, List.length_cons, List.length_nil]; omega)) | refine stepA ?_ | (refine stepS ?_; clear hSt; intro w hSt; dsimp only [spl, List.set] at hSt) | (refine stepB ?_; clear hSt; intro w nb hnb hSt; dsimp only [zcells, List.nil_append, List.cons_append] at hSt) | (refine W_quiet hT (by decide +kernel) hSt ?_; clear hSt; (repeat' (first | (apply QL_ev rfl rfl; (intro w hSt; (first | (exact Ev_load1 hT rfl rfl (hSt.base hb8 (fun e => e)) q8) | (exact Ev_str_add rfl rfl (by simp only [List.length_append, List.length_cons, List.length_nil]; omega)) | exact Ev_auto))) | refine QL_pass rfl rfl ?_ | (refine QL_guardP rfl rfl (fun hc => ?_) (fun hc => ?_) <;> try exact absA) | (refine QL_guard rfl rfl (fun hc => ?_) (fun hc => ?_) <;> (try exact absA) <;> (fail_if_success (change true = true at hc)) <;> (fail_if_success (change false = false at hc))))); all_goals (refine QL_nil (fun w hSt => ?_))) | (refine stepG ?_ ?_ <;> intro hc <;> (try exact absA) <;> (fail_if_success (change true = true at hc)) <;> (fail_if_success (change false = false at hc))) | fail)
        all_goals try (exfalso; first | omega | (simp at hc; done) | (exact hc rfl) | contradiction)
        all_goals exact At_loop2 hK3 (k' := e.after.length - (j + 1)) (j + 1) (s ++ [44, 32] ++ n) (by omega) ⟨rfl, hjl, by rw [hst2, hsj]; simp [sSep], hSt⟩ (by (repeat (first | exact Sub.nil _ | refine Sub.cons rfl ?_)))
    · obtain rfl : j = e.after.length := by omega
      rw [aftJ_all] at hsj
      repeat' (first | refine stepA ?_ | (refine stepS ?_; clear hSt; intro w hSt; dsimp only [spl, List.set] at hSt) | (refine stepB ?_; clear hSt; intro w nb hnb hSt; dsimp only [zcells, List.nil_append, List.cons_append] at hSt) | (refine W_quiet hT (by decide +kernel) hSt ?_; clear hSt; (repeat' (first | (apply QL_ev rfl rfl; (intro w hSt; (first | exact Ev_auto))) | refine QL_pass rfl rfl ?_ | (refine QL_guardP rfl rfl (fun hc => ?_) (fun hc => ?_) <;> try exact absA) | (refine QL_guard rfl rfl (fun hc => ?_) (fun hc => ?_) <;> (try exact absA) <;> (fail_if_success (change true = true at hc)) <;> (fail_if_success (change false = false at hc))))); all_goals (refine QL_nil (fun w hSt => ?_))) | (refine stepG ?_ ?_ <;> intro hc <;> (try exact absA) <;> (fail_if_success (change true = true at hc)) <;> (fail_if_success (change false = false at hc))) | fail)
      refine W_loop2 (fun k3 (j3 : Nat) (s3 : Tx) w => k3 = e.sets.length - j3 ∧ j3 ≤ e.sets.length ∧ s3 = s ++ setJ e j3 ∧ St w0 NoneS [(nb, blk [S e.node, S e.prog, I e.cond.op, S e.cond.name, S e.cond.text, .slice ca cn ck, .slice aa e.after.length ak, .slice sa e.sets.length sk] 40)] w) (fun j s => [(7, I (j : Int)), (3, S s)]) e.sets.length 0 s rfl (by (repeat (first | exact Str.nil _ | apply Str.drop rfl | apply Str.keepU rfl | apply Str.keep rfl))) ⟨rfl, Nat.zero_le _, by simp [setJ], hSt⟩ (by (repeat (first | exact Sub.nil _ | refine Sub.cons rfl ?_))) ?_
      clear hSt
      rintro k3 j3 s3 w ⟨hk3, hj3, hs3, hSt⟩ K4 hK4
      have lb := setJ_len hge hre j3
      have hsl4 : s3.length ≤ s.length + 400000007 := by rw [hs3, List.length_append]; omega
      by_cases hjl : j3 < e.sets.length
      · obtain ⟨⟨n, t⟩, hn⟩ : ∃ n, e.sets[j3]? = some n := ⟨_, List.getElem?_eq_getElem hjl⟩
        have hgs := good_sets hge _ (List.mem_of_getElem? hn)
        dsimp only at hgs
        have hql := quotF_len t
        obtain ⟨b8, o8, m8, E8, z8, rfl, hb8, _, q8⟩ := hc4 j3 (n, t) hn
        have k0 := q8 0 _ rfl
        have k1 := q8 1 _ rfl
        rw [← Int.toNat_natCast j3] at k0 k1
        have hst2 := setJ_step hn
        by_cases hj0 : j3 = 0
        · rw [if_pos hj0] at hst2
          have h00 : setJ e j3 = [] := if_pos hj0
          repeat' (first | (apply WL_ev rfl rfl; exact Ev_load1 hT rfl rfl (hSt.base hb8 (fun e => e)) k0) | (apply WL_ev rfl rfl; exact Ev_load1 hT rfl rfl (hSt.base hb8 (fun e => e)) k1) | (apply WL_ev rfl rfl; exact Ev_str_add rfl rfl (by simp only [List.length_append, List.length_cons, List.length_nil]; omega)) | refine stepA ?_ | (refine stepS ?_; clear hSt; intro w hSt; dsimp only [spl, List.set] at hSt) | (refine stepB ?_; clear hSt; intro w nb hnb hSt; dsimp only [zcells, List.nil_append, List.cons_append] at hSt) | (refine W_quiet hT (by decide +kernel) hSt ?_; clear hSt; (repeat' (first | (refine QL_isCall (f := 72) ?_; refine QL_call (ok_call hT rfl) rfl rfl rfl (fun w hSt => (rquot_any t (by omega)).mono (fun v w2 h => ⟨h.1, hSt.call0 h.2⟩)) ?_) | (apply QL_ev rfl rfl; (intro w hSt; (first | (exact Ev_load1 hT rfl rfl (hSt.base hb8 (fun e => e)) k0) | (exact Ev_load1 hT rfl rfl (hSt.base hb8 (fun e => e)) k1) | (exact Ev_str_add rfl rfl (by simp only [List.length_append, List.length_cons, List.length_nil]; omega)) | exact Ev_auto))) | refine QL_pass rfl rfl ?_ | (refine QL_guardP rfl rfl (fun hc => ?_) (fun hc => ?_) <;> try exact absA) | (refine QL_guard rfl rfl (fun hc => ?_) (fun hc => ?_) <;> (try exact absA) <;> (fail_if_success (change true = true at hc)) <;> (fail_if_success (change false = false at hc))))); all_goals (refine QL_nil (fun w hSt => ?_))) | (refine stepG ?_ ?_ <;> intro hc <;> (try exact absA) <;> (fail_if_success (change true = true at hc)) <;> (fail_if_success (change false = false at hc))) | fail)
          all_goals try (exfalso; first | omega | (simp at hc; done) | (exact hc rfl) | contradiction)
          all_goals exact At_loop2 hK4 (k' := e.sets.length - (j3 + 1)) (j3 + 1) (s3 ++ [32, 123, 32] ++ n ++ [32, 61, 32] ++ quotF t) (by omega) ⟨rfl, hjl, by rw [hst2, hs3, h00]; simp [sOpen, setT, sEq], hSt⟩ (by (repeat (first | exact Sub.nil _ | refine Sub.cons rfl ?_)))
        · rw [if_neg hj0] at hst2
          repeat' (first | (apply WL_ev rfl rfl; exact Ev_load1 hT rfl rfl (hSt.base hb8 (fun e => e)) k0) | (apply WL_ev rfl rfl; exact Ev_load1 hT rfl rfl (hSt.base hb8 (fun e => e)) k1) | (apply WL_ev rfl rfl; exact Ev_str_add rfl rfl (by simp only [List.length_append, List.length_cons, List.length_nil]; omega)) | refine stepA ?_ | (refine stepS ?_; clear hSt; intro w hSt; dsimp only [spl, List.set] at hSt) | (refine stepB ?_; clear hSt; intro w nb hnb hSt; dsimp only [zcells, List.nil_append, List.cons_append] at hSt) | (refine W_quiet hT (by decide +kernel) hSt ?_; clear hSt; (repeat' (first | (refine QL_isCall (f := 72) ?_; refine QL_call (ok_call hT rfl) rfl rfl rfl (fun w hSt => (rquot_any t (by omega)).mono (fun v w2 h => ⟨h.1, hSt.call0 h.2⟩)) ?_) | (apply QL_ev rfl rfl; (intro w hSt; (first | (exact Ev_load1 hT rfl rfl (hSt.base hb8 (fun e => e)) k0) | (exact Ev_load1 hT rfl rfl (hSt.base hb8 (fun e => e)) k1) | (exact Ev_str_add rfl rfl (by simp only [List.length_append, List.length_cons, List.length_nil]; omega)) | exact Ev_auto))) | refine QL_pass rfl rfl ?_ | (refine QL_guardP rfl rfl (fun hc => ?_) (fun hc => ?_) <;> try exact absA) | (refine QL_guard rfl rfl (fun hc => ?_) (fun hc => ?_) <;> (try exact absA) <;> (fail_if_success (change true = true at hc)) <;> (fail_if_success (change false = false at hc))))); all_goals (refine QL_nil (fun w hSt => ?_))) | (refine stepG ?_ ?_ <;> intro hc <;> (try exact absA) <;> (fail_if_success (change true = true at hc)) <;> (fail_if_success (change false = false at hc))) | fail)
          all_goals try (exfalso; first | omega | (simp at hc; done) | (exact hc rfl) | contradiction)
          all_goals exact At_loop2 hK4 (k' := e.sets.length - (j3 + 1)) (j3 + 1) (s3 ++ [44, 32] ++ n ++ [32, 61, 32] ++ quotF t) (by omega) ⟨rfl, hjl, by rw [hst2, hs3]; simp [sSep, setT, sEq], hSt⟩ (by (repeat (first | exact Sub.nil _ | refine Sub.cons rfl ?_)))
      · obtain rfl : j3 = e.sets.length := by omega
        have hfe : fmtF (l.take (i + 1)) = s ++ setsT e ++ [10] := by
          rw [hnx, hsj, hP1]; unfold fmtE; simp only [List.append_assoc]
        by_cases hz : 0 < e.sets.length
        · have hall := setJ_all hz
          repeat' (first | (apply WL_ev rfl rfl; exact Ev_str_add rfl rfl (by simp only [List.length_append, List.length_cons, List.length_nil]; omega)) | refine stepA ?_ | (refine stepS ?_; clear hSt; intro w hSt; dsimp only [spl, List.set] at hSt) | (refine stepB ?_; clear hSt; intro w nb hnb hSt; dsimp only [zcells, List.nil_append, List.cons_append] at hSt) | (refine W_quiet hT (by decide +kernel) hSt ?_; clear hSt; (repeat' (first | (apply QL_ev rfl rfl; (intro w hSt; (first | (exact Ev_str_add rfl rfl (by simp only [List.length_append, List.length_cons, List.length_nil]; omega)) | exact Ev_auto))) | refine QL_pass rfl rfl ?_ | (refine QL_guardP rfl rfl (fun hc => ?_) (fun hc => ?_) <;> try exact absA) | (refine QL_guard rfl rfl (fun hc => ?_) (fun hc => ?_) <;> (try exact absA) <;> (fail_if_success (change true = true at hc)) <;> (fail_if_success (change false = false at hc))))); all_goals (refine QL_nil (fun w hSt => ?_))) | (refine stepG ?_ ?_ <;> intro hc <;> (try exact absA) <;> (fail_if_success (change true = true at hc)) <;> (fail_if_success (change false = false at hc))) | fail)
          all_goals try (exfalso; first | omega | (simp at hc; done) | (exact hc rfl) | contradiction)
          all_goals exact At_loop2 hK (k' := l.length - (i + 1)) (i + 1) (s3 ++ [32, 125] ++ [10]) (by omega) ⟨rfl, hil, by rw [hfe, hs3, ← hall]; simp only [List.append_assoc], hSt.nil⟩ (by (repeat (first | exact Sub.nil _ | refine Sub.cons rfl ?_)))
        · obtain ⟨z1, z2⟩ := setJ_none hz
          repeat' (first | (apply WL_ev rfl rfl; exact Ev_str_add rfl rfl (by simp only [List.length_append, List.length_cons, List.length_nil]; omega)) | refine stepA ?_ | (refine stepS ?_; clear hSt; intro w hSt; dsimp only [spl, List.set] at hSt) | (refine stepB ?_; clear hSt; intro w nb hnb hSt; dsimp only [zcells, List.nil_append, List.cons_append] at hSt) | (refine W_quiet hT (by decide +kernel) hSt ?_; clear hSt; (repeat' (first | (apply QL_ev rfl rfl; (intro w hSt; (first | (exact Ev_str_add rfl rfl (by simp only [List.length_append, List.length_cons, List.length_nil]; omega)) | exact Ev_auto))) | refine QL_pass rfl rfl ?_ | (refine QL_guardP rfl rfl (fun hc => ?_) (fun hc => ?_) <;> try exact absA) | (refine QL_guard rfl rfl (fun hc => ?_) (fun hc => ?_) <;> (try exact absA) <;> (fail_if_success (change true = true at hc)) <;> (fail_if_success (change false = false at hc))))); all_goals (refine QL_nil (fun w hSt => ?_))) | (refine stepG ?_ ?_ <;> intro hc <;> (try exact absA) <;> (fail_if_success (change true = true at hc)) <;> (fail_if_success (change false = false at hc))) | fail)
          all_goals try (exfalso; first | omega | (simp at hc; done) | (exact hc rfl) | contradiction)
          all_goals exact At_loop2 hK (k' := l.length - (i + 1)) (i + 1) (s3 ++ [10]) (by omega) ⟨rfl, hil, by rw [hfe, hs3, z1, z2], hSt.nil⟩ (by (repeat (first | exact Sub.nil _ | refine Sub.cons rfl ?_)))
  · rw [List.take_of_length_le (by omega)] at ho
    subst ho
    by_cases h4 : (fmtF l).length ≤ 4000
    · rw [if_pos ⟨h0, h4⟩]
      repeat' (first | refine stepA ?_ | (refine stepS ?_; clear hSt; intro w hSt; dsimp only [spl, List.set] at hSt) | (refine stepB ?_; clear hSt; intro w nb hnb hSt; dsimp only [zcells, List.nil_append, List.cons_append] at hSt) | (refine W_quiet hT (by decide +kernel) hSt ?_; clear hSt; (repeat' (first | (apply QL_ev rfl rfl; (intro w hSt; (first | exact Ev_auto))) | refine QL_pass rfl rfl ?_ | (refine QL_guardP rfl rfl (fun hc => ?_) (fun hc => ?_) <;> try exact absA) | (refine QL_guard rfl rfl (fun hc => ?_) (fun hc => ?_) <;> (try exact absA) <;> (fail_if_success (change true = true at hc)) <;> (fail_if_success (change false = false at hc))))); all_goals (refine QL_nil (fun w hSt => ?_))) | (refine stepG ?_ ?_ <;> intro hc <;> (try exact absA) <;> (fail_if_success (change true = true at hc)) <;> (fail_if_success (change false = false at hc))) | fail)
      all_goals try (exfalso; first | omega | (simp at hc; done) | (exact hc rfl) | contradiction)
      all_goals exact ret1 rfl rfl ⟨rfl, hSt⟩
    · rw [if_neg (fun e => h4 e.2)]
      repeat' (first | refine stepA ?_ | (refine stepS ?_; clear hSt; intro w hSt; dsimp only [spl, List.set] at hSt) | (refine stepB ?_; clear hSt; intro w nb hnb hSt; dsimp only [zcells, List.nil_append, List.cons_append] at hSt) | (refine W_quiet hT (by decide +kernel) hSt ?_; clear hSt; (repeat' (first | (apply QL_ev rfl rfl; (intro w hSt; (first | exact Ev_auto))) | refine QL_pass rfl rfl ?_ | (refine QL_guardP rfl rfl (fun hc => ?_) (fun hc => ?_) <;> try exact absA) | (refine QL_guard rfl rfl (fun hc => ?_) (fun hc => ?_) <;> (try exact absA) <;> (fail_if_success (change true = true at hc)) <;> (fail_if_success (change false = false at hc))))); all_goals (refine QL_nil (fun w hSt => ?_))) | (refine stepG ?_ ?_ <;> intro hc <;> (try exact absA) <;> (fail_if_success (change true = true at hc)) <;> (fail_if_success (change false = false at hc))) | fail)
      all_goals try (exfalso; first | omega | (simp at hc; done) | (exact hc rfl) | contradiction)
      all_goals exact ret1 rfl rfl ⟨rfl, hSt⟩
end Go.Proofs.YtknfankadlokhaaGreatDoor
