/- Reverse, Stop, and the law LaunchOrders. No conditions. -/
import Derived.Test.YtknfankadlokhaaGreatDoorND
import Derived.Test.YtknfankadlokhaaGreatDoorMD
import Derived.Test.YtknfankadlokhaaGreatDoorLhy

namespace Go.Proofs.YtknfankadlokhaaGreatDoor
open Go.RowKit
set_option maxRecDepth 4000
set_option linter.unusedVariables false
set_option linter.unusedSimpArgs false
set_option maxHeartbeats 4000000

theorem map_set {ys : List Tx} {rs : List Value} {i : Nat} (a : Tx) (hi : i < ys.length) : (ys.map S ++ rs).set (0 + (i : Int).toNat * 1) (S a) = (ys.set i a).map S ++ rs := by
  rw [Int.toNat_natCast, Nat.zero_add, Nat.mul_one, List.set_append_left _ _ (by simpa using hi), List.map_set]
/-- the list with its first i and last i elements exchanged -/
structure Half (xs ys : List Tx) (i : Nat) : Prop where
  len : ys.length = xs.length
  at_ : ∀ (t : Nat), t < xs.length → ys[t]? = if t < i ∨ xs.length ≤ t + i then xs[xs.length - 1 - t]? else xs[t]?
theorem Half.start (xs : List Tx) : Half xs xs 0 := ⟨rfl, fun t ht => by rw [if_neg (by omega)]⟩
theorem Half.step {xs ys : List Tx} {i : Nat} {a b : Tx} (h : Half xs ys i) (hi : 2 * i + 1 < xs.length) (ha : ys[i]? = some a) (hb : ys[xs.length - 1 - i]? = some b) : Half xs ((ys.set i b).set (xs.length - 1 - i) a) (i + 1) := by
  have hai := h.at_ i (by omega)
  have hbi := h.at_ (xs.length - 1 - i) (by omega)
  rw [if_neg (by omega), ha] at hai
  rw [if_neg (by omega), hb] at hbi
  refine ⟨by simp [h.len], fun t ht => ?_⟩
  rw [List.getElem?_set, List.getElem?_set]
  by_cases h1 : xs.length - 1 - i = t
  · rw [if_pos h1, if_pos (by rw [List.length_set, h.len]; omega), if_pos (by omega), hai]
    congr 1; omega
  · rw [if_neg h1]
    by_cases h2 : i = t
    · rw [if_pos h2, if_pos (by rw [h.len]; omega), if_pos (by omega), hbi]
      congr 1; omega
    · rw [if_neg h2, h.at_ t ht]
      by_cases h3 : t < i ∨ xs.length ≤ t + i
      · rw [if_pos h3, if_pos (by omega)]
      · rw [if_neg h3, if_neg (by omega)]
theorem Half.done {xs ys : List Tx} {i : Nat} (h : Half xs ys i) (hi : xs.length ≤ 2 * i + 1) : ys = xs.reverse := by
  apply List.ext_getElem?
  intro t
  by_cases ht : t < xs.length
  · rw [List.getElem?_reverse ht, h.at_ t ht]
    split
    · rfl
    · congr 1; omega
  · rw [List.getElem?_eq_none (by rw [h.len]; omega), List.getElem?_eq_none (by simp; omega)]
theorem str_at {l : List Tx} {i : Nat} {x : Tx} (h : l[i]? = some x) (rs : List Value) : (l.map S ++ rs)[0 + ((i : Int)).toNat * 1]? = some (S x) := by
  have hl := (List.getElem?_eq_some_iff.1 h).1
  rw [Int.toNat_natCast, Nat.zero_add, Nat.mul_one, List.getElem?_append_left (by simpa using hl), List.getElem?_map, h]; rfl
theorem rev0_any {w0 : World} {a : Option Addr} {c : Nat} : Cl Tryz.prog 46 [.slice a 0 c] w0 (fun v w' => v = .tuple ⟨[]⟩ ∧ St w0 NoneS [] w') := by
  have hSt := St.refl w0 NoneS
  refine enter Tryz.func46 rfl Tryz.ntmps46 rfl ?_
  repeat' (first | refine stepA ?_ | (refine stepS ?_; clear hSt; intro w hSt; dsimp only [spl, List.set] at hSt) | (refine stepB ?_; clear hSt; intro w nb hnb hSt; dsimp only [zcells, List.nil_append, List.cons_append] at hSt) | (refine W_quiet hT (by decide +kernel) hSt ?_; clear hSt; (repeat' (first | (apply QL_ev rfl rfl; (intro w hSt; (first | exact Ev_auto))) | refine QL_pass rfl rfl ?_ | (refine QL_guardP rfl rfl (fun hc => ?_) (fun hc => ?_) <;> try exact absA) | (refine QL_guard rfl rfl (fun hc => ?_) (fun hc => ?_) <;> (try exact absA) <;> (fail_if_success (change true = true at hc)) <;> (fail_if_success (change false = false at hc))))); all_goals (refine QL_nil (fun w hSt => ?_))) | (refine stepG ?_ ?_ <;> intro hc <;> (try exact absA) <;> (fail_if_success (change true = true at hc)) <;> (fail_if_success (change false = false at hc))) | fail)
  refine W_loop1 (fun k (i : Nat) w => St w0 NoneS [] w) (fun _ => [(2, I 0), (3, I (((0 : Nat) : Int) - 1))]) 0 0 rfl (by (repeat (first | exact Str.nil _ | apply Str.drop rfl | apply Str.keepU rfl | apply Str.keep rfl))) hSt (by (repeat (first | exact Sub.nil _ | refine Sub.cons rfl ?_))) ?_
  clear hSt
  rintro k i w hSt K hK
  repeat' (first | refine stepA ?_ | (refine stepS ?_; clear hSt; intro w hSt; dsimp only [spl, List.set] at hSt) | (refine stepB ?_; clear hSt; intro w nb hnb hSt; dsimp only [zcells, List.nil_append, List.cons_append] at hSt) | (refine W_quiet hT (by decide +kernel) hSt ?_; clear hSt; (repeat' (first | (apply QL_ev rfl rfl; (intro w hSt; (first | exact Ev_auto))) | refine QL_pass rfl rfl ?_ | (refine QL_guardP rfl rfl (fun hc => ?_) (fun hc => ?_) <;> try exact absA) | (refine QL_guard rfl rfl (fun hc => ?_) (fun hc => ?_) <;> (try exact absA) <;> (fail_if_success (change true = true at hc)) <;> (fail_if_success (change false = false at hc))))); all_goals (refine QL_nil (fun w hSt => ?_))) | (refine stepG ?_ ?_ <;> intro hc <;> (try exact absA) <;> (fail_if_success (change true = true at hc)) <;> (fail_if_success (change false = false at hc))) | fail)
  all_goals first | exact ⟨rfl, hSt⟩ | (exfalso; omega)
theorem rev_any {w0 : World} {b cap : Nat} {xs : List Tx} {rs : List Value} {e : TypeId} (hb : w0.heap[b]? = some (blk (xs.map S ++ rs) e)) (hl : xs.length ≤ 1000000000) : Cl Tryz.prog 46 [.slice (some ⟨b, 0, none⟩) xs.length cap] w0 (fun v w' => v = .tuple ⟨[]⟩ ∧ St w0 (· = b) [(b, blk (xs.reverse.map S ++ rs) e)] w') := by
  have hSt := (St.refl w0 (· = b)).know hb (Or.inl rfl) (by simp)
  dsimp only [List.nil_append, List.cons_append] at hSt
  refine enter Tryz.func46 rfl Tryz.ntmps46 rfl ?_
  repeat' (first | refine stepA ?_ | (refine stepS ?_; clear hSt; intro w hSt; dsimp only [spl, List.set] at hSt) | (refine stepB ?_; clear hSt; intro w nb hnb hSt; dsimp only [zcells, List.nil_append, List.cons_append] at hSt) | (refine W_quiet hT (by decide +kernel) hSt ?_; clear hSt; (repeat' (first | (apply QL_ev rfl rfl; (intro w hSt; (first | exact Ev_auto))) | refine QL_pass rfl rfl ?_ | (refine QL_guardP rfl rfl (fun hc => ?_) (fun hc => ?_) <;> try exact absA) | (refine QL_guard rfl rfl (fun hc => ?_) (fun hc => ?_) <;> (try exact absA) <;> (fail_if_success (change true = true at hc)) <;> (fail_if_success (change false = false at hc))))); all_goals (refine QL_nil (fun w hSt => ?_))) | (refine stepG ?_ ?_ <;> intro hc <;> (try exact absA) <;> (fail_if_success (change true = true at hc)) <;> (fail_if_success (change false = false at hc))) | fail)
  refine W_loop2 (fun k (i : Nat) (j : Int) w => k = xs.length - i ∧ i ≤ xs.length ∧ j = (xs.length : Int) - 1 - i ∧ ∃ ys, Half xs ys i ∧ St w0 (· = b) [(b, blk (ys.map S ++ rs) e)] w) (fun i j => [(2, I (i : Int)), (3, I j)]) xs.length 0 ((xs.length : Int) - 1) rfl (by (repeat (first | exact Str.nil _ | apply Str.drop rfl | apply Str.keepU rfl | apply Str.keep rfl))) ⟨rfl, by omega, by omega, xs, Half.start xs, hSt⟩ (by (repeat (first | exact Sub.nil _ | refine Sub.cons rfl ?_))) ?_
  clear hSt
  rintro k i j w ⟨hk, hi, hj, ys, hh, hSt⟩ K hK
  have hyl := hh.len
  by_cases hij : 2 * i + 1 < xs.length
  · obtain ⟨j, rfl⟩ : ∃ m : Nat, j = (m : Int) := ⟨xs.length - 1 - i, by omega⟩
    have hjn : j = xs.length - 1 - i := by omega
    obtain ⟨x, hx⟩ : ∃ x, ys[i]? = some x := ⟨_, List.getElem?_eq_getElem (by omega)⟩
    obtain ⟨y, hy⟩ : ∃ y, ys[j]? = some y := ⟨_, List.getElem?_eq_getElem (by omega)⟩
    have hqx := str_at hx rs
    have hqy := str_at hy rs
    have hset1 := map_set (rs := rs) (ys := ys) y (show i < ys.length by omega)
    have hset2 := map_set (rs := rs) (ys := ys.set i y) x (show j < (ys.set i y).length by rw [List.length_set]; omega)
    have hst := hh.step hij hx (by rw [← hjn]; exact hy)
    rw [← hjn] at hst
    have hbl1 : Nat.blt (0 + (i : Int).toNat * 1) (ys.map S ++ rs).length = true := by
      rw [Nat.blt_eq, Int.toNat_natCast]; simp; omega
    have hbl2 : Nat.blt (0 + (j : Int).toNat * 1) ((ys.set i y).map S ++ rs).length = true := by
      rw [Nat.blt_eq, Int.toNat_natCast]; simp; omega
    repeat' (first | (refine W_mixT (.op 0 (some false) (.op 1 (some false) (.op 2 (some false) (.op 3 (some false) (.op 4 (some false) (.op 5 (some false) (.op 6 (some false) (.op 8 (some false) (.op 9 (some false) (.op 10 (some false) (.fork 7 (.op 11 (some true) (.op 12 (some false) (.op 13 (some true) .done))) 11 (.op 7 (some true) (.op 12 (some false) (.op 13 (some true) .done)))))))))))))) hT (by decide +kernel) hSt ?_; clear hSt; intro w hSt) | (refine MT_fork ?_ ?_) | (refine MT_ev rfl rfl rfl (fun w => by first | exact Ev_move rfl | exact Ev_indexAddr hT rfl rfl rfl (by omega) (by omega)) ?_) | (refine MT_one rfl ?_) | (refine At_oneT ?_) | (refine MT_end ?_; simp only [OTree.depth, List.drop_succ_cons, List.drop_zero]) | (apply WL_ev rfl rfl; exact Ev_load1 hT rfl rfl (hSt.at 0 rfl) hqx) | (apply WL_ev rfl rfl; exact Ev_load1 hT rfl rfl (hSt.at 0 rfl) hqy) | (refine WL_store1 hT rfl rfl 0 rfl rfl hSt rfl rfl hbl1 ?_; clear hSt; intro w hSt; dsimp only [List.set] at hSt; rw [hset1] at hSt) | (refine WL_store1 hT rfl rfl 0 rfl rfl hSt rfl rfl hbl2 ?_; clear hSt; intro w hSt; dsimp only [List.set] at hSt; rw [hset2] at hSt) | refine stepA ?_ | (refine stepS ?_; clear hSt; intro w hSt; dsimp only [spl, List.set] at hSt) | (refine stepB ?_; clear hSt; intro w nb hnb hSt; dsimp only [zcells, List.nil_append, List.cons_append] at hSt) | (refine W_quiet hT (by decide +kernel) hSt ?_; clear hSt; (repeat' (first | (apply QL_ev rfl rfl; (intro w hSt; (first | (exact Ev_load1 hT rfl rfl (hSt.at 0 rfl) hqx) | (exact Ev_load1 hT rfl rfl (hSt.at 0 rfl) hqy) | exact Ev_auto))) | refine QL_pass rfl rfl ?_ | (refine QL_guardP rfl rfl (fun hc => ?_) (fun hc => ?_) <;> try exact absA) | (refine QL_guard rfl rfl (fun hc => ?_) (fun hc => ?_) <;> (try exact absA) <;> (fail_if_success (change true = true at hc)) <;> (fail_if_success (change false = false at hc))))); all_goals (refine QL_nil (fun w hSt => ?_))) | (refine stepG ?_ ?_ <;> intro hc <;> (try exact absA) <;> (fail_if_success (change true = true at hc)) <;> (fail_if_success (change false = false at hc))) | fail)
    all_goals exact At_loop2 hK (k' := xs.length - (i + 1)) (i + 1) ((j : Int) - 1) (by omega) ⟨rfl, by omega, by omega, _, hst, hSt⟩ (by (repeat (first | exact Sub.nil _ | refine Sub.cons rfl ?_)))
  · have hdn := hh.done (by omega)
    subst hdn
    repeat' (first | refine stepA ?_ | (refine stepS ?_; clear hSt; intro w hSt; dsimp only [spl, List.set] at hSt) | (refine stepB ?_; clear hSt; intro w nb hnb hSt; dsimp only [zcells, List.nil_append, List.cons_append] at hSt) | (refine W_quiet hT (by decide +kernel) hSt ?_; clear hSt; (repeat' (first | (apply QL_ev rfl rfl; (intro w hSt; (first | exact Ev_auto))) | refine QL_pass rfl rfl ?_ | (refine QL_guardP rfl rfl (fun hc => ?_) (fun hc => ?_) <;> try exact absA) | (refine QL_guard rfl rfl (fun hc => ?_) (fun hc => ?_) <;> (try exact absA) <;> (fail_if_success (change true = true at hc)) <;> (fail_if_success (change false = false at hc))))); all_goals (refine QL_nil (fun w hSt => ?_))) | (refine stepG ?_ ?_ <;> intro hc <;> (try exact absA) <;> (fail_if_success (change true = true at hc)) <;> (fail_if_success (change false = false at hc))) | fail)
    all_goals first | exact ⟨rfl, hSt⟩ | (exfalso; omega)
theorem stop_good {w0 : World} {v0 : Value} {l : List Ln} (h : Lns w0 v0 l) (h0 : checkF l = 0) : Cl Tryz.prog 12 [v0] w0 (fun v w' => ∃ nv H1, v = .tuple ⟨[nv, I 0]⟩ ∧ OwnSl nv 9 1 ((startF l).reverse.map S) (startF l).reverse.length H1 ∧ St w0 NoneS H1 w') := by
  have hL := h
  have hof : orderF l = startF l := by unfold orderF; rw [if_pos h0]
  have h24 := (check_parts h0).1
  have hsf := start_full h0
  obtain ⟨a1, p1, xs, rfl, _⟩ := h.out
  have hSt := St.refl w0 NoneS
  refine enter Tryz.func12 rfl Tryz.ntmps12 rfl ?_
  repeat' (first | (refine WL_isCall (f := 11) ?_; refine WL_call (ok_call hT rfl) rfl rfl rfl (order_any (hL.kept hSt.keeps)) ?_; rintro v w' ⟨nv, H1, rfl, ho, hc2⟩; replace hSt := hSt.newN hc2; clear hc2; rw [hof] at ho; (obtain ⟨oa, oc, rfl⟩ := ho.len)) | refine stepA ?_ | (refine stepS ?_; clear hSt; intro w hSt; dsimp only [spl, List.set] at hSt) | (refine stepB ?_; clear hSt; intro w nb hnb hSt; dsimp only [zcells, List.nil_append, List.cons_append] at hSt) | (refine W_quiet hT (by decide +kernel) hSt ?_; clear hSt; (repeat' (first | (apply QL_ev rfl rfl; (intro w hSt; (first | exact Ev_auto))) | refine QL_pass rfl rfl ?_ | (refine QL_guardP rfl rfl (fun hc => ?_) (fun hc => ?_) <;> try exact absA) | (refine QL_guard rfl rfl (fun hc => ?_) (fun hc => ?_) <;> (try exact absA) <;> (fail_if_success (change true = true at hc)) <;> (fail_if_success (change false = false at hc))))); all_goals (refine QL_nil (fun w hSt => ?_))) | (refine stepG ?_ ?_ <;> intro hc <;> (try exact absA) <;> (fail_if_success (change true = true at hc)) <;> (fail_if_success (change false = false at hc))) | fail)
  by_cases hl0 : (startF l).length = 0
  · have hs0 : startF l = [] := List.length_eq_zero_iff.1 hl0
    rw [hs0] at ho ⊢
    repeat' (first | (refine WL_isCall (f := 46) ?_; refine WL_call (ok_call hT rfl) rfl rfl rfl (rev0_any) ?_; rintro v w' ⟨rfl, hc2⟩; replace hSt := (hSt.call0 hc2); clear hc2) | refine stepA ?_ | (refine stepS ?_; clear hSt; intro w hSt; dsimp only [spl, List.set] at hSt) | (refine stepB ?_; clear hSt; intro w nb hnb hSt; dsimp only [zcells, List.nil_append, List.cons_append] at hSt) | (refine W_quiet hT (by decide +kernel) hSt ?_; clear hSt; (repeat' (first | (apply QL_ev rfl rfl; (intro w hSt; (first | exact Ev_auto))) | refine QL_pass rfl rfl ?_ | (refine QL_guardP rfl rfl (fun hc => ?_) (fun hc => ?_) <;> try exact absA) | (refine QL_guard rfl rfl (fun hc => ?_) (fun hc => ?_) <;> (try exact absA) <;> (fail_if_success (change true = true at hc)) <;> (fail_if_success (change false = false at hc))))); all_goals (refine QL_nil (fun w hSt => ?_))) | (refine stepG ?_ ?_ <;> intro hc <;> (try exact absA) <;> (fail_if_success (change true = true at hc)) <;> (fail_if_success (change false = false at hc))) | fail)
    refine ret2 rfl rfl rfl ⟨_, H1, by rw [h0], ?_, hSt⟩
    exact ho
  · obtain ⟨b, cap, rs, e1, hle, hrs, rfl⟩ := ho.some_ (by omega)
    injection e1 with e11 _ e13
    subst e11; subst e13
    dsimp only [List.nil_append] at hSt
    repeat' (first | (refine WL_isCall (f := 46) ?_; refine WL_call (ok_call hT rfl) rfl rfl rfl (rev_any (hSt.at 0 rfl) (by omega)) ?_; rintro v w' ⟨rfl, hc2⟩; replace hSt := hSt.call1 (i := 0) rfl hc2; clear hc2; dsimp only [List.set] at hSt) | refine stepA ?_ | (refine stepS ?_; clear hSt; intro w hSt; dsimp only [spl, List.set] at hSt) | (refine stepB ?_; clear hSt; intro w nb hnb hSt; dsimp only [zcells, List.nil_append, List.cons_append] at hSt) | (refine W_quiet hT (by decide +kernel) hSt ?_; clear hSt; (repeat' (first | (apply QL_ev rfl rfl; (intro w hSt; (first | exact Ev_auto))) | refine QL_pass rfl rfl ?_ | (refine QL_guardP rfl rfl (fun hc => ?_) (fun hc => ?_) <;> try exact absA) | (refine QL_guard rfl rfl (fun hc => ?_) (fun hc => ?_) <;> (try exact absA) <;> (fail_if_success (change true = true at hc)) <;> (fail_if_success (change false = false at hc))))); all_goals (refine QL_nil (fun w hSt => ?_))) | (refine stepG ?_ ?_ <;> intro hc <;> (try exact absA) <;> (fail_if_success (change true = true at hc)) <;> (fail_if_success (change false = false at hc))) | fail)
    refine ret2 rfl rfl rfl ⟨_, _, by rw [h0], ?_, hSt⟩
    rw [List.length_reverse]
    exact ⟨by simp, .inr ⟨b, _, rs, rfl, hle, hrs, rfl⟩⟩
end Go.Proofs.YtknfankadlokhaaGreatDoor
