/- The specification's lexer: Number. No conditions. -/
import Derived.Test.YtknfankadlokhaaGreatDoorPrb

namespace Go.Proofs.YtknfankadlokhaaGreatDoor
open Go.RowKit
set_option maxRecDepth 4000
set_option linter.unusedVariables false
set_option linter.unusedSimpArgs false
set_option maxHeartbeats 8000000

/-- what the text of a number answers: its value, and what is wrong -/
def numB (neg : Bool) (ds : Tx) : List Value := if ds = [] ∨ (ds.head? = some 48 ∧ (1 < ds.length ∨ neg = true)) then [I 0, I 2] else match numV neg ds with
  | none => [I 0, I 1]
  | some n => [I n, I 0]
theorem rNumberP_any {w0 : World} (ds : Tx) (hd : ∀ c ∈ ds, 48 ≤ c.toNat ∧ c.toNat ≤ 57) (hl : ds.length ≤ 100000) : Cl Tryz.prog 124 [S ds] w0 (fun v w' => v = .tuple ⟨numB false ds⟩ ∧ St w0 NoneS [] w') := by
  have hSt := St.refl w0 NoneS
  unfold numB
  refine enter Tryz.func124 rfl Tryz.ntmps124 rfl ?_
  skip
  cases ds with
  | nil =>
    rw [if_pos (.inl rfl)]
    have hlen : ([] : Tx).length = 0 := rfl
    repeat' (first | refine stepA ?_ | (refine stepS ?_; clear hSt; intro w hSt; dsimp only [spl, List.set] at hSt) | (refine stepB ?_; clear hSt; intro w nb hnb hSt; dsimp only [zcells, List.nil_append, List.cons_append] at hSt) | (refine W_quiet hT (by decide +kernel) hSt ?_; clear hSt; (repeat' (first | (apply QL_ev rfl rfl; (intro w hSt; (first | exact Ev_auto))) | refine QL_pass rfl rfl ?_ | (refine QL_guardP rfl rfl (fun hc => ?_) (fun hc => ?_) <;> try exact absA) | (refine QL_guard rfl rfl (fun hc => ?_) (fun hc => ?_) <;> (try exact absA) <;> (fail_if_success (change true = true at hc)) <;> (fail_if_success (change false = false at hc))))); all_goals (refine QL_nil (fun w hSt => ?_))) | (refine stepG ?_ ?_ <;> intro hc <;> (try exact absA) <;> (fail_if_success (change true = true at hc)) <;> (fail_if_success (change false = false at hc))) | fail)
    all_goals try (exfalso; first | omega | (simp at hc; done) | (exact hc rfl) | contradiction)
    all_goals exact ret2 rfl rfl rfl ⟨rfl, hSt⟩
  | cons c r =>
    have hlen : (c :: r).length = r.length + 1 := rfl
    have hlen0 : (c :: r).length = r.length + 1 := rfl
    obtain ⟨c1, c2⟩ := hd c (List.mem_cons_self ..)
    skip
    have hq1 : (c :: r)[(0 : Int).toNat]? = some c := rfl
    skip
    by_cases hb : c.toNat = 48 ∧ (0 < r.length ∨ false = true)
    · rw [if_pos (.inr ⟨by rw [List.head?_cons, show c = 48 from UInt8.toNat_inj.1 hb.1], hb.2.imp (fun h => by omega) id⟩)]
      have hb1 : 0 < r.length := hb.2.resolve_right (by decide)
      repeat' (first | (apply WL_ev rfl rfl; exact Ev_strIndex hT rfl rfl rfl (by omega) hq1) | refine stepA ?_ | (refine stepS ?_; clear hSt; intro w hSt; dsimp only [spl, List.set] at hSt) | (refine stepB ?_; clear hSt; intro w nb hnb hSt; dsimp only [zcells, List.nil_append, List.cons_append] at hSt) | (refine W_quiet hT (by decide +kernel) hSt ?_; clear hSt; (repeat' (first | (apply QL_ev rfl rfl; (intro w hSt; (first | (exact Ev_strIndex hT rfl rfl rfl (by omega) hq1) | exact Ev_auto))) | refine QL_pass rfl rfl ?_ | (refine QL_guardP rfl rfl (fun hc => ?_) (fun hc => ?_) <;> try exact absA) | (refine QL_guard rfl rfl (fun hc => ?_) (fun hc => ?_) <;> (try exact absA) <;> (fail_if_success (change true = true at hc)) <;> (fail_if_success (change false = false at hc))))); all_goals (refine QL_nil (fun w hSt => ?_))) | (refine stepG ?_ ?_ <;> intro hc <;> (try exact absA) <;> (fail_if_success (change true = true at hc)) <;> (fail_if_success (change false = false at hc))) | fail)
      all_goals try (exfalso; first | omega | (simp at hc; done) | (exact hc rfl) | contradiction)
      all_goals exact ret2 rfl rfl rfl ⟨rfl, hSt⟩
    · rw [if_neg (by
        rintro (h | ⟨h1, h2⟩)
        · cases h
        · rw [List.head?_cons] at h1
          injection h1 with h1
          subst h1
          exact hb ⟨rfl, h2.imp (fun h => by omega) id⟩)]
      have hb1 : c.toNat = 48 → r.length = 0 := fun e => Nat.eq_zero_of_not_pos (fun h => hb ⟨e, .inl h⟩)
      repeat' (first | (refine W_midAtL 6 (fun L' w' => St w0 NoneS [] w' ∧ L' = [(0, S (c :: r)), (4, I 0)]) (fun K2 hK2 => ?_) (fun L' w' hm => ?_); rotate_left 1; (clear hSt; obtain ⟨hSt, rfl⟩ := hm)) | (apply WL_ev rfl rfl; exact Ev_strIndex hT rfl rfl rfl (by omega) hq1) | refine stepA ?_ | (refine stepS ?_; clear hSt; intro w hSt; dsimp only [spl, List.set] at hSt) | (refine stepB ?_; clear hSt; intro w nb hnb hSt; dsimp only [zcells, List.nil_append, List.cons_append] at hSt) | (refine W_quiet hT (by decide +kernel) hSt ?_; clear hSt; (repeat' (first | (apply QL_ev rfl rfl; (intro w hSt; (first | (exact Ev_strIndex hT rfl rfl rfl (by omega) hq1) | exact Ev_auto))) | refine QL_pass rfl rfl ?_ | (refine QL_guardP rfl rfl (fun hc => ?_) (fun hc => ?_) <;> try exact absA) | (refine QL_guard rfl rfl (fun hc => ?_) (fun hc => ?_) <;> (try exact absA) <;> (fail_if_success (change true = true at hc)) <;> (fail_if_success (change false = false at hc))))); all_goals (refine QL_nil (fun w hSt => ?_))) | (refine stepG ?_ ?_ <;> intro hc <;> (try exact absA) <;> (fail_if_success (change true = true at hc)) <;> (fail_if_success (change false = false at hc))) | fail)
      all_goals try (exfalso; first | omega | (simp at hc; done) | (exact hc rfl) | contradiction)
      all_goals first | exact At_K hK2 ⟨hSt, rfl⟩ (by (repeat (first | exact Sub.nil _ | refine Sub.cons rfl ?_))) | skip
      refine W_loop2 (fun k (j : Nat) (n : Nat) w => k = (c :: r).length - j ∧ j ≤ (c :: r).length ∧ digV 0 (c :: r) = digV n ((c :: r).drop j) ∧ n ≤ 10000000000000000009 ∧ St w0 NoneS [] w) (fun j n => [(6, I ((0 + j : Nat) : Int)), (5, .int .u64 (n : Int))]) (c :: r).length 0 0 rfl (by (repeat (first | exact Str.nil _ | apply Str.drop rfl | apply Str.keepU rfl | apply Str.keep rfl))) ⟨rfl, Nat.zero_le _, by rw [List.drop_zero], Nat.zero_le _, hSt⟩ (by (repeat (first | exact Sub.nil _ | refine Sub.cons rfl ?_))) ?_
      clear hSt
      rintro k j n w ⟨hk, hj, hdv, hn, hSt⟩ K hK
      by_cases hjl : j < (c :: r).length
      · obtain ⟨d, hd1⟩ : ∃ d, (c :: r)[j]? = some d := ⟨_, List.getElem?_eq_getElem hjl⟩
        obtain ⟨d1, d2⟩ := hd d (List.mem_of_getElem? hd1)
        have hqd : (c :: r)[((0 + j : Nat) : Int).toNat]? = some d := by rw [Int.toNat_natCast, Nat.zero_add]; exact hd1
        have hdg := fun w : World => rdigit_any (w0 := w) d
        rw [show digC d = true from decide_eq_true (cls4 ⟨d1, d2⟩)] at hdg
        rw [digV_drop hd1] at hdv
        have hge := digV_ge ((c :: r).drop (j + 1)) (10 * n + (d.toNat - 48))
        by_cases hov : 1000000000000000000 < n
        · have hns : numV false (c :: r) = if digV 0 (c :: r) ≤ 9223372036854775807 then some ((digV 0 (c :: r) : Int)) else none := rfl
          rw [if_neg (by omega)] at hns
          rw [hns]
          repeat' (first | (apply WL_ev rfl rfl; exact Ev_strIndex hT rfl rfl rfl (by omega) hqd) | (refine WL_isCall (f := 98) ?_; refine WL_call (ok_call hT rfl) rfl rfl rfl (hdg _) ?_; rintro v w2 ⟨rfl, hc2⟩; replace hSt := hSt.call0 hc2; clear hc2) | refine stepA ?_ | (refine stepS ?_; clear hSt; intro w hSt; dsimp only [spl, List.set] at hSt) | (refine stepB ?_; clear hSt; intro w nb hnb hSt; dsimp only [zcells, List.nil_append, List.cons_append] at hSt) | (refine W_quiet hT (by decide +kernel) hSt ?_; clear hSt; (repeat' (first | (apply QL_ev rfl rfl; (intro w hSt; (first | (exact Ev_strIndex hT rfl rfl rfl (by omega) hqd) | exact Ev_auto))) | refine QL_pass rfl rfl ?_ | (refine QL_guardP rfl rfl (fun hc => ?_) (fun hc => ?_) <;> try exact absA) | (refine QL_guard rfl rfl (fun hc => ?_) (fun hc => ?_) <;> (try exact absA) <;> (fail_if_success (change true = true at hc)) <;> (fail_if_success (change false = false at hc))))); all_goals (refine QL_nil (fun w hSt => ?_))) | (refine stepG ?_ ?_ <;> intro hc <;> (try exact absA) <;> (fail_if_success (change true = true at hc)) <;> (fail_if_success (change false = false at hc))) | fail)
          all_goals try (exfalso; first | omega | (simp at hc; done) | (exact hc rfl) | contradiction)
          all_goals exact ret2 rfl rfl rfl ⟨rfl, hSt⟩
        · have i1 : inK .u8 ((d.toNat : Int) - 48) := inU8 (by omega) (by omega)
          have i2 : inK .u64 ((d.toNat : Int) - 48) := inU64 (by omega) (by omega)
          have e5 : (10 : Int) * (n : Int) % 18446744073709551616 = ((10 * n : Nat) : Int) := by omega
          have e6 : ((10 * n : Nat) : Int) + ((d.toNat : Int) - 48) = ((10 * n + (d.toNat - 48) : Nat) : Int) := by omega
          have i5 : inK .u64 (((10 * n : Nat) : Int) + ((d.toNat : Int) - 48)) := inU64 (by omega) (by omega)
          repeat' (first | (apply WL_ev rfl rfl; exact Ev_strIndex hT rfl rfl rfl (by omega) hqd) | (refine WL_isCall (f := 98) ?_; refine WL_call (ok_call hT rfl) rfl rfl rfl (hdg _) ?_; rintro v w2 ⟨rfl, hc2⟩; replace hSt := hSt.call0 hc2; clear hc2) | (apply WL_ev rfl rfl; exact Ev_subP rfl rfl i1) | (apply WL_ev rfl rfl; exact Ev_conv_in hT rfl rfl rfl i2) | (apply WL_ev rfl rfl; exact Ev_as (v2 := .int .u64 (((10 * n : Nat) : Int))) (Ev_mulU2 rfl rfl) (congrArg (Value.int .u64) e5)) | (apply WL_ev rfl rfl; exact Ev_as (v2 := .int .u64 (((10 * n + (d.toNat - 48) : Nat) : Int))) (Ev_addP rfl rfl i5) (congrArg (Value.int .u64) e6)) | refine stepA ?_ | (refine stepS ?_; clear hSt; intro w hSt; dsimp only [spl, List.set] at hSt) | (refine stepB ?_; clear hSt; intro w nb hnb hSt; dsimp only [zcells, List.nil_append, List.cons_append] at hSt) | (refine W_quiet hT (by decide +kernel) hSt ?_; clear hSt; (repeat' (first | (apply QL_ev rfl rfl; (intro w hSt; (first | (exact Ev_strIndex hT rfl rfl rfl (by omega) hqd) | (exact Ev_subP rfl rfl i1) | (exact Ev_conv_in hT rfl rfl rfl i2) | (exact Ev_as (v2 := .int .u64 (((10 * n : Nat) : Int))) (Ev_mulU2 rfl rfl) (congrArg (Value.int .u64) e5)) | (exact Ev_as (v2 := .int .u64 (((10 * n + (d.toNat - 48) : Nat) : Int))) (Ev_addP rfl rfl i5) (congrArg (Value.int .u64) e6)) | exact Ev_auto))) | refine QL_pass rfl rfl ?_ | (refine QL_guardP rfl rfl (fun hc => ?_) (fun hc => ?_) <;> try exact absA) | (refine QL_guard rfl rfl (fun hc => ?_) (fun hc => ?_) <;> (try exact absA) <;> (fail_if_success (change true = true at hc)) <;> (fail_if_success (change false = false at hc))))); all_goals (refine QL_nil (fun w hSt => ?_))) | (refine stepG ?_ ?_ <;> intro hc <;> (try exact absA) <;> (fail_if_success (change true = true at hc)) <;> (fail_if_success (change false = false at hc))) | fail)
          all_goals try (exfalso; first | omega | (simp at hc; done) | (exact hc rfl) | contradiction)
          all_goals exact At_loop2 hK (k' := (c :: r).length - (j + 1)) (j + 1) (10 * n + (d.toNat - 48)) (by omega) ⟨rfl, hjl, hdv, by omega, hSt⟩ (by (repeat (first | exact Sub.nil _ | refine Sub.cons rfl ?_)))
      · have hdn : digV 0 (c :: r) = n := by rw [hdv, List.drop_of_length_le (by omega), digV_nil]
        have hn1 : false = true → 1 ≤ n := by
          intro _
          have := digV_ge r (10 * 0 + (c.toNat - 48))
          rw [digV_cons] at hdn
          rename_i h0; cases h0
          done
        clear hn1
        · have hns : numV false (c :: r) = if digV 0 (c :: r) ≤ 9223372036854775807 then some ((digV 0 (c :: r) : Int)) else none := rfl
          rw [hdn] at hns
          by_cases hov : n ≤ 9223372036854775807
          · rw [if_pos hov] at hns
            rw [hns]
            skip
            have i3 : inK .i64 (n : Int) := inI (by omega) (by omega)
            repeat' (first | (apply WL_ev rfl rfl; exact Ev_conv_in hT rfl rfl rfl i3) | refine stepA ?_ | (refine stepS ?_; clear hSt; intro w hSt; dsimp only [spl, List.set] at hSt) | (refine stepB ?_; clear hSt; intro w nb hnb hSt; dsimp only [zcells, List.nil_append, List.cons_append] at hSt) | (refine W_quiet hT (by decide +kernel) hSt ?_; clear hSt; (repeat' (first | (apply QL_ev rfl rfl; (intro w hSt; (first | (exact Ev_conv_in hT rfl rfl rfl i3) | exact Ev_auto))) | refine QL_pass rfl rfl ?_ | (refine QL_guardP rfl rfl (fun hc => ?_) (fun hc => ?_) <;> try exact absA) | (refine QL_guard rfl rfl (fun hc => ?_) (fun hc => ?_) <;> (try exact absA) <;> (fail_if_success (change true = true at hc)) <;> (fail_if_success (change false = false at hc))))); all_goals (refine QL_nil (fun w hSt => ?_))) | (refine stepG ?_ ?_ <;> intro hc <;> (try exact absA) <;> (fail_if_success (change true = true at hc)) <;> (fail_if_success (change false = false at hc))) | fail)
            all_goals try (exfalso; first | omega | (simp at hc; done) | (exact hc rfl) | contradiction)
            all_goals exact ret2 rfl rfl rfl ⟨rfl, hSt⟩
          · rw [if_neg hov] at hns
            rw [hns]
            repeat' (first | refine stepA ?_ | (refine stepS ?_; clear hSt; intro w hSt; dsimp only [spl, List.set] at hSt) | (refine stepB ?_; clear hSt; intro w nb hnb hSt; dsimp only [zcells, List.nil_append, List.cons_append] at hSt) | (refine W_quiet hT (by decide +kernel) hSt ?_; clear hSt; (repeat' (first | (apply QL_ev rfl rfl; (intro w hSt; (first | exact Ev_auto))) | refine QL_pass rfl rfl ?_ | (refine QL_guardP rfl rfl (fun hc => ?_) (fun hc => ?_) <;> try exact absA) | (refine QL_guard rfl rfl (fun hc => ?_) (fun hc => ?_) <;> (try exact absA) <;> (fail_if_success (change true = true at hc)) <;> (fail_if_success (change false = false at hc))))); all_goals (refine QL_nil (fun w hSt => ?_))) | (refine stepG ?_ ?_ <;> intro hc <;> (try exact absA) <;> (fail_if_success (change true = true at hc)) <;> (fail_if_success (change false = false at hc))) | fail)
            all_goals try (exfalso; first | omega | (simp at hc; done) | (exact hc rfl) | contradiction)
            all_goals exact ret2 rfl rfl rfl ⟨rfl, hSt⟩
theorem rNumberN_any {w0 : World} (ds : Tx) (hd : ∀ c ∈ ds, 48 ≤ c.toNat ∧ c.toNat ≤ 57) (hl : ds.length ≤ 100000) : Cl Tryz.prog 124 [S (45 :: ds)] w0 (fun v w' => v = .tuple ⟨numB true ds⟩ ∧ St w0 NoneS [] w') := by
  have hSt := St.refl w0 NoneS
  unfold numB
  refine enter Tryz.func124 rfl Tryz.ntmps124 rfl ?_
  have hq0 : ([45] : Tx)[(0 : Int).toNat]? = some 45 := rfl
  cases ds with
  | nil =>
    rw [if_pos (.inl rfl)]
    have hlen : [(45 : UInt8)].length = 1 := rfl
    repeat' (first | (apply WL_ev rfl rfl; exact Ev_strIndex hT rfl rfl rfl (by omega) hq0) | refine stepA ?_ | (refine stepS ?_; clear hSt; intro w hSt; dsimp only [spl, List.set] at hSt) | (refine stepB ?_; clear hSt; intro w nb hnb hSt; dsimp only [zcells, List.nil_append, List.cons_append] at hSt) | (refine W_quiet hT (by decide +kernel) hSt ?_; clear hSt; (repeat' (first | (apply QL_ev rfl rfl; (intro w hSt; (first | (exact Ev_strIndex hT rfl rfl rfl (by omega) hq0) | exact Ev_auto))) | refine QL_pass rfl rfl ?_ | (refine QL_guardP rfl rfl (fun hc => ?_) (fun hc => ?_) <;> try exact absA) | (refine QL_guard rfl rfl (fun hc => ?_) (fun hc => ?_) <;> (try exact absA) <;> (fail_if_success (change true = true at hc)) <;> (fail_if_success (change false = false at hc))))); all_goals (refine QL_nil (fun w hSt => ?_))) | (refine stepG ?_ ?_ <;> intro hc <;> (try exact absA) <;> (fail_if_success (change true = true at hc)) <;> (fail_if_success (change false = false at hc))) | fail)
    all_goals try (exfalso; first | omega | (simp at hc; done) | (exact hc rfl) | contradiction)
    all_goals exact ret2 rfl rfl rfl ⟨rfl, hSt⟩
  | cons c r =>
    have hlen : (45 :: c :: r).length = r.length + 2 := rfl
    have hlen0 : (c :: r).length = r.length + 1 := rfl
    obtain ⟨c1, c2⟩ := hd c (List.mem_cons_self ..)
    have hq0 : (45 :: c :: r)[(0 : Int).toNat]? = some 45 := rfl
    have hq1 : (45 :: c :: r)[(1 : Int).toNat]? = some c := rfl
    have hq2 := hq1
    by_cases hb : c.toNat = 48 ∧ (0 < r.length ∨ true = true)
    · rw [if_pos (.inr ⟨by rw [List.head?_cons, show c = 48 from UInt8.toNat_inj.1 hb.1], hb.2.imp (fun h => by omega) id⟩)]
      have hb1 := hb.1
      repeat' (first | (apply WL_ev rfl rfl; exact Ev_strIndex hT rfl rfl rfl (by omega) hq0) | (apply WL_ev rfl rfl; exact Ev_strIndex hT rfl rfl rfl (by omega) hq1) | (apply WL_ev rfl rfl; exact Ev_strIndex hT rfl rfl rfl (by omega) hq2) | refine stepA ?_ | (refine stepS ?_; clear hSt; intro w hSt; dsimp only [spl, List.set] at hSt) | (refine stepB ?_; clear hSt; intro w nb hnb hSt; dsimp only [zcells, List.nil_append, List.cons_append] at hSt) | (refine W_quiet hT (by decide +kernel) hSt ?_; clear hSt; (repeat' (first | (apply QL_ev rfl rfl; (intro w hSt; (first | (exact Ev_strIndex hT rfl rfl rfl (by omega) hq0) | (exact Ev_strIndex hT rfl rfl rfl (by omega) hq1) | (exact Ev_strIndex hT rfl rfl rfl (by omega) hq2) | exact Ev_auto))) | refine QL_pass rfl rfl ?_ | (refine QL_guardP rfl rfl (fun hc => ?_) (fun hc => ?_) <;> try exact absA) | (refine QL_guard rfl rfl (fun hc => ?_) (fun hc => ?_) <;> (try exact absA) <;> (fail_if_success (change true = true at hc)) <;> (fail_if_success (change false = false at hc))))); all_goals (refine QL_nil (fun w hSt => ?_))) | (refine stepG ?_ ?_ <;> intro hc <;> (try exact absA) <;> (fail_if_success (change true = true at hc)) <;> (fail_if_success (change false = false at hc))) | fail)
      all_goals try (exfalso; first | omega | (simp at hc; done) | (exact hc rfl) | contradiction)
      all_goals exact ret2 rfl rfl rfl ⟨rfl, hSt⟩
    · rw [if_neg (by
        rintro (h | ⟨h1, h2⟩)
        · cases h
        · rw [List.head?_cons] at h1
          injection h1 with h1
          subst h1
          exact hb ⟨rfl, h2.imp (fun h => by omega) id⟩)]
      have hb1 : ¬ c.toNat = 48 := fun e => hb ⟨e, .inr rfl⟩
      repeat' (first | (refine W_midAtL 6 (fun L' w' => St w0 NoneS [] w' ∧ L' = [(0, S (45 :: c :: r)), (4, I 1)]) (fun K2 hK2 => ?_) (fun L' w' hm => ?_); rotate_left 1; (clear hSt; obtain ⟨hSt, rfl⟩ := hm)) | (apply WL_ev rfl rfl; exact Ev_strIndex hT rfl rfl rfl (by omega) hq0) | (apply WL_ev rfl rfl; exact Ev_strIndex hT rfl rfl rfl (by omega) hq1) | (apply WL_ev rfl rfl; exact Ev_strIndex hT rfl rfl rfl (by omega) hq2) | refine stepA ?_ | (refine stepS ?_; clear hSt; intro w hSt; dsimp only [spl, List.set] at hSt) | (refine stepB ?_; clear hSt; intro w nb hnb hSt; dsimp only [zcells, List.nil_append, List.cons_append] at hSt) | (refine W_quiet hT (by decide +kernel) hSt ?_; clear hSt; (repeat' (first | (apply QL_ev rfl rfl; (intro w hSt; (first | (exact Ev_strIndex hT rfl rfl rfl (by omega) hq0) | (exact Ev_strIndex hT rfl rfl rfl (by omega) hq1) | (exact Ev_strIndex hT rfl rfl rfl (by omega) hq2) | exact Ev_auto))) | refine QL_pass rfl rfl ?_ | (refine QL_guardP rfl rfl (fun hc => ?_) (fun hc => ?_) <;> try exact absA) | (refine QL_guard rfl rfl (fun hc => ?_) (fun hc => ?_) <;> (try exact absA) <;> (fail_if_success (change true = true at hc)) <;> (fail_if_success (change false = false at hc))))); all_goals (refine QL_nil (fun w hSt => ?_))) | (refine stepG ?_ ?_ <;> intro hc <;> (try exact absA) <;> (fail_if_success (change true = true at hc)) <;> (fail_if_success (change false = false at hc))) | fail)
      all_goals try (exfalso; first | omega | (simp at hc; done) | (exact hc rfl) | contradiction)
      all_goals first | exact At_K hK2 ⟨hSt, rfl⟩ (by (repeat (first | exact Sub.nil _ | refine Sub.cons rfl ?_))) | skip
      refine W_loop2 (fun k (j : Nat) (n : Nat) w => k = (c :: r).length - j ∧ j ≤ (c :: r).length ∧ digV 0 (c :: r) = digV n ((c :: r).drop j) ∧ n ≤ 10000000000000000009 ∧ St w0 NoneS [] w) (fun j n => [(6, I ((1 + j : Nat) : Int)), (5, .int .u64 (n : Int))]) (c :: r).length 0 0 rfl (by (repeat (first | exact Str.nil _ | apply Str.drop rfl | apply Str.keepU rfl | apply Str.keep rfl))) ⟨rfl, Nat.zero_le _, by rw [List.drop_zero], Nat.zero_le _, hSt⟩ (by (repeat (first | exact Sub.nil _ | refine Sub.cons rfl ?_))) ?_
      clear hSt
      rintro k j n w ⟨hk, hj, hdv, hn, hSt⟩ K hK
      by_cases hjl : j < (c :: r).length
      · obtain ⟨d, hd1⟩ : ∃ d, (c :: r)[j]? = some d := ⟨_, List.getElem?_eq_getElem hjl⟩
        obtain ⟨d1, d2⟩ := hd d (List.mem_of_getElem? hd1)
        have hqd : (45 :: c :: r)[((1 + j : Nat) : Int).toNat]? = some d := by rw [Int.toNat_natCast, Nat.add_comm, List.getElem?_cons_succ]; exact hd1
        have hdg := fun w : World => rdigit_any (w0 := w) d
        rw [show digC d = true from decide_eq_true (cls4 ⟨d1, d2⟩)] at hdg
        rw [digV_drop hd1] at hdv
        have hge := digV_ge ((c :: r).drop (j + 1)) (10 * n + (d.toNat - 48))
        by_cases hov : 1000000000000000000 < n
        · have hns : numV true (c :: r) = if digV 0 (c :: r) ≤ 9223372036854775808 then some (-(digV 0 (c :: r) : Int)) else none := rfl
          rw [if_neg (by omega)] at hns
          rw [hns]
          repeat' (first | (apply WL_ev rfl rfl; exact Ev_strIndex hT rfl rfl rfl (by omega) hqd) | (refine WL_isCall (f := 98) ?_; refine WL_call (ok_call hT rfl) rfl rfl rfl (hdg _) ?_; rintro v w2 ⟨rfl, hc2⟩; replace hSt := hSt.call0 hc2; clear hc2) | refine stepA ?_ | (refine stepS ?_; clear hSt; intro w hSt; dsimp only [spl, List.set] at hSt) | (refine stepB ?_; clear hSt; intro w nb hnb hSt; dsimp only [zcells, List.nil_append, List.cons_append] at hSt) | (refine W_quiet hT (by decide +kernel) hSt ?_; clear hSt; (repeat' (first | (apply QL_ev rfl rfl; (intro w hSt; (first | (exact Ev_strIndex hT rfl rfl rfl (by omega) hqd) | exact Ev_auto))) | refine QL_pass rfl rfl ?_ | (refine QL_guardP rfl rfl (fun hc => ?_) (fun hc => ?_) <;> try exact absA) | (refine QL_guard rfl rfl (fun hc => ?_) (fun hc => ?_) <;> (try exact absA) <;> (fail_if_success (change true = true at hc)) <;> (fail_if_success (change false = false at hc))))); all_goals (refine QL_nil (fun w hSt => ?_))) | (refine stepG ?_ ?_ <;> intro hc <;> (try exact absA) <;> (fail_if_success (change true = true at hc)) <;> (fail_if_success (change false = false at hc))) | fail)
          all_goals try (exfalso; first | omega | (simp at hc; done) | (exact hc rfl) | contradiction)
          all_goals exact ret2 rfl rfl rfl ⟨rfl, hSt⟩
        · have i1 : inK .u8 ((d.toNat : Int) - 48) := inU8 (by omega) (by omega)
          have i2 : inK .u64 ((d.toNat : Int) - 48) := inU64 (by omega) (by omega)
          have e5 : (10 : Int) * (n : Int) % 18446744073709551616 = ((10 * n : Nat) : Int) := by omega
          have e6 : ((10 * n : Nat) : Int) + ((d.toNat : Int) - 48) = ((10 * n + (d.toNat - 48) : Nat) : Int) := by omega
          have i5 : inK .u64 (((10 * n : Nat) : Int) + ((d.toNat : Int) - 48)) := inU64 (by omega) (by omega)
          repeat' (first | (apply WL_ev rfl rfl; exact Ev_strIndex hT rfl rfl rfl (by omega) hqd) | (refine WL_isCall (f := 98) ?_; refine WL_call (ok_call hT rfl) rfl rfl rfl (hdg _) ?_; rintro v w2 ⟨rfl, hc2⟩; replace hSt := hSt.call0 hc2; clear hc2) | (apply WL_ev rfl rfl; exact Ev_subP rfl rfl i1) | (apply WL_ev rfl rfl; exact Ev_conv_in hT rfl rfl rfl i2) | (apply WL_ev rfl rfl; exact Ev_as (v2 := .int .u64 (((10 * n : Nat) : Int))) (Ev_mulU2 rfl rfl) (congrArg (Value.int .u64) e5)) | (apply WL_ev rfl rfl; exact Ev_as (v2 := .int .u64 (((10 * n + (d.toNat - 48) : Nat) : Int))) (Ev_addP rfl rfl i5) (congrArg (Value.int .u64) e6)) | refine stepA ?_ | (refine stepS ?_; clear hSt; intro w hSt; dsimp only [spl, List.set] at hSt) | (refine stepB ?_; clear hSt; intro w nb hnb hSt; dsimp only [zcells, List.nil_append, List.cons_append] at hSt) | (refine W_quiet hT (by decide +kernel) hSt ?_; clear hSt; (repeat' (first | (apply QL_ev rfl rfl; (intro w hSt; (first | (exact Ev_strIndex hT rfl rfl rfl (by omega) hqd) | (exact Ev_subP rfl rfl i1) | (exact Ev_conv_in hT rfl rfl rfl i2) | (exact Ev_as (v2 := .int .u64 (((10 * n : Nat) : Int))) (Ev_mulU2 rfl rfl) (congrArg (Value.int .u64) e5)) | (exact Ev_as (v2 := .int .u64 (((10 * n + (d.toNat - 48) : Nat) : Int))) (Ev_addP rfl rfl i5) (congrArg (Value.int .u64) e6)) | exact Ev_auto))) | refine QL_pass rfl rfl ?_ | (refine QL_guardP rfl rfl (fun hc => ?_) (fun hc => ?_) <;> try exact absA) | (refine QL_guard rfl rfl (fun hc => ?_) (fun hc => ?_) <;> (try exact absA) <;> (fail_if_success (change true = true at hc)) <;> (fail_if_success (change false = false at hc))))); all_goals (refine QL_nil (fun w hSt => ?_))) | (refine stepG ?_ ?_ <;> intro hc <;> (try exact absA) <;> (fail_if_success (change true = true at hc)) <;> (fail_if_success (change false = false at hc))) | fail)
          all_goals try (exfalso; first | omega | (simp at hc; done) | (exact hc rfl) | contradiction)
          all_goals exact At_loop2 hK (k' := (c :: r).length - (j + 1)) (j + 1) (10 * n + (d.toNat - 48)) (by omega) ⟨rfl, hjl, hdv, by omega, hSt⟩ (by (repeat (first | exact Sub.nil _ | refine Sub.cons rfl ?_)))
      · have hdn : digV 0 (c :: r) = n := by rw [hdv, List.drop_of_length_le (by omega), digV_nil]
        have hn1 : true = true → 1 ≤ n := by
          intro _
          have := digV_ge r (10 * 0 + (c.toNat - 48))
          rw [digV_cons] at hdn
          have h49 : ¬ c.toNat = 48 := fun e => hb ⟨e, .inr rfl⟩
          omega
        have hn1 := hn1 rfl
        · have hns : numV true (c :: r) = if digV 0 (c :: r) ≤ 9223372036854775808 then some (-(digV 0 (c :: r) : Int)) else none := rfl
          rw [hdn] at hns
          by_cases hov : n ≤ 9223372036854775808
          · rw [if_pos hov] at hns
            rw [hns]
            have i1 : inK .u64 ((n : Int) - 1) := inU64 (by omega) (by omega)
            have i2 : inK .i64 ((n : Int) - 1) := inI (by omega) (by omega)
            repeat' (first | (apply WL_ev rfl rfl; exact Ev_subP rfl rfl i1) | (apply WL_ev rfl rfl; exact Ev_conv_in hT rfl rfl rfl i2) | refine stepA ?_ | (refine stepS ?_; clear hSt; intro w hSt; dsimp only [spl, List.set] at hSt) | (refine stepB ?_; clear hSt; intro w nb hnb hSt; dsimp only [zcells, List.nil_append, List.cons_append] at hSt) | (refine W_quiet hT (by decide +kernel) hSt ?_; clear hSt; (repeat' (first | (apply QL_ev rfl rfl; (intro w hSt; (first | (exact Ev_subP rfl rfl i1) | (exact Ev_conv_in hT rfl rfl rfl i2) | exact Ev_auto))) | refine QL_pass rfl rfl ?_ | (refine QL_guardP rfl rfl (fun hc => ?_) (fun hc => ?_) <;> try exact absA) | (refine QL_guard rfl rfl (fun hc => ?_) (fun hc => ?_) <;> (try exact absA) <;> (fail_if_success (change true = true at hc)) <;> (fail_if_success (change false = false at hc))))); all_goals (refine QL_nil (fun w hSt => ?_))) | (refine stepG ?_ ?_ <;> intro hc <;> (try exact absA) <;> (fail_if_success (change true = true at hc)) <;> (fail_if_success (change false = false at hc))) | fail)
            all_goals try (exfalso; first | omega | (simp at hc; done) | (exact hc rfl) | contradiction)
            all_goals exact ret2 rfl rfl rfl ⟨by rw [show (0 : Int) - ((n : Int) - 1) - 1 = -(n : Int) by omega], hSt⟩
          · rw [if_neg hov] at hns
            rw [hns]
            repeat' (first | refine stepA ?_ | (refine stepS ?_; clear hSt; intro w hSt; dsimp only [spl, List.set] at hSt) | (refine stepB ?_; clear hSt; intro w nb hnb hSt; dsimp only [zcells, List.nil_append, List.cons_append] at hSt) | (refine W_quiet hT (by decide +kernel) hSt ?_; clear hSt; (repeat' (first | (apply QL_ev rfl rfl; (intro w hSt; (first | exact Ev_auto))) | refine QL_pass rfl rfl ?_ | (refine QL_guardP rfl rfl (fun hc => ?_) (fun hc => ?_) <;> try exact absA) | (refine QL_guard rfl rfl (fun hc => ?_) (fun hc => ?_) <;> (try exact absA) <;> (fail_if_success (change true = true at hc)) <;> (fail_if_success (change false = false at hc))))); all_goals (refine QL_nil (fun w hSt => ?_))) | (refine stepG ?_ ?_ <;> intro hc <;> (try exact absA) <;> (fail_if_success (change true = true at hc)) <;> (fail_if_success (change false = false at hc))) | fail)
            all_goals try (exfalso; first | omega | (simp at hc; done) | (exact hc rfl) | contradiction)
            all_goals exact ret2 rfl rfl rfl ⟨rfl, hSt⟩
end Go.Proofs.YtknfankadlokhaaGreatDoor
