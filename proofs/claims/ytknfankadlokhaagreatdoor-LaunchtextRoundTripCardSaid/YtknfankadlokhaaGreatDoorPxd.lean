/- The law RoundTrip. No conditions. -/
import Derived.Test.YtknfankadlokhaaGreatDoorPxc
import Derived.Test.YtknfankadlokhaaGreatDoorPve
import Derived.Test.YtknfankadlokhaaGreatDoorLie
import Derived.Test.YtknfankadlokhaaGreatDoorPwd

namespace Go.Proofs.YtknfankadlokhaaGreatDoor
open Go.RowKit
set_option maxRecDepth 4000
set_option linter.unusedVariables false
set_option linter.unusedSimpArgs false
set_option maxHeartbeats 16000000

theorem drop_part {l x : List Value} {o z n a : Nat} (h : (l.drop o).take z = x) (hn : a + n ≤ z) : (l.drop (o + a)).take n = (x.drop a).take n := by
  subst h
  rw [List.drop_take, List.take_take, List.drop_drop, Nat.min_eq_left (by omega)]
def bigS (s : Sg) : Bool := decide (300 < s.2.length ∨ 40 < s.1.length)
def bigE (x : Ln) : Bool := deepF 9 x.cond || (decide (30 < x.after.length ∨ 30 < x.sets.length ∨ 40 < x.node.length ∨ 40 < x.prog.length) || x.sets.any bigS)
def largeF (l : List Ln) : Bool := decide (30 < l.length) || l.any bigE
theorem large_any {w0 : World} {v0 : Value} {l : List Ln} (h : Lns w0 v0 l) : Cl Tryz.prog 28 [v0] w0 (fun v w' => v = B (largeF l) ∧ St w0 NoneS [] w') := by
  have hSt := St.refl w0 NoneS
  obtain ⟨a1, p1, xs, rfl, hcap, hlen, hxl, hs, h3, hc1⟩ := h.out
  unfold largeF
  refine enter Tryz.func28 rfl Tryz.ntmps28 rfl ?_
  by_cases h30 : 30 < l.length
  · rw [decide_eq_true h30, Bool.true_or]
    repeat' (first | refine stepA ?_ | (refine stepS ?_; clear hSt; intro w hSt; dsimp only [spl, List.set] at hSt) | (refine stepB ?_; clear hSt; intro w nb hnb hSt; dsimp only [zcells, List.nil_append, List.cons_append] at hSt) | (refine W_quiet hT (by decide +kernel) hSt ?_; clear hSt; (repeat' (first | (apply QL_ev rfl rfl; (intro w hSt; (first | exact Ev_auto))) | refine QL_pass rfl rfl ?_ | (refine QL_guardP rfl rfl (fun hc => ?_) (fun hc => ?_) <;> try exact absA) | (refine QL_guard rfl rfl (fun hc => ?_) (fun hc => ?_) <;> (try exact absA) <;> (fail_if_success (change true = true at hc)) <;> (fail_if_success (change false = false at hc))))); all_goals (refine QL_nil (fun w hSt => ?_))) | (refine stepG ?_ ?_ <;> intro hc <;> (try exact absA) <;> (fail_if_success (change true = true at hc)) <;> (fail_if_success (change false = false at hc))) | fail)
    all_goals try (exfalso; first | omega | (simp at hc; done) | (exact hc rfl) | contradiction)
    all_goals exact ret1 rfl rfl ⟨rfl, hSt⟩
  rw [decide_eq_false h30, Bool.false_or]
  repeat' (first | refine stepA ?_ | (refine stepS ?_; clear hSt; intro w hSt; dsimp only [spl, List.set] at hSt) | (refine stepB ?_; clear hSt; intro w nb hnb hSt; dsimp only [zcells, List.nil_append, List.cons_append] at hSt) | (refine W_quiet hT (by decide +kernel) hSt ?_; clear hSt; (repeat' (first | (apply QL_ev rfl rfl; (intro w hSt; (first | exact Ev_auto))) | refine QL_pass rfl rfl ?_ | (refine QL_guardP rfl rfl (fun hc => ?_) (fun hc => ?_) <;> try exact absA) | (refine QL_guard rfl rfl (fun hc => ?_) (fun hc => ?_) <;> (try exact absA) <;> (fail_if_success (change true = true at hc)) <;> (fail_if_success (change false = false at hc))))); all_goals (refine QL_nil (fun w hSt => ?_))) | (refine stepG ?_ ?_ <;> intro hc <;> (try exact absA) <;> (fail_if_success (change true = true at hc)) <;> (fail_if_success (change false = false at hc))) | fail)
  all_goals try (exfalso; first | omega | (simp at hc; done) | (exact hc rfl) | contradiction)
  refine W_loop1 (fun k (i : Nat) w => k = l.length - i ∧ i ≤ l.length ∧ (∀ (j : Nat) (a : Ln), j < i → l[j]? = some a → bigE a = false) ∧ St w0 NoneS [] w) (fun i => [(3, I (i : Int))]) l.length 0 rfl (by (repeat (first | exact Str.nil _ | apply Str.drop rfl | apply Str.keepU rfl | apply Str.keep rfl))) ⟨rfl, Nat.zero_le _, fun j a hj => absurd hj (Nat.not_lt_zero j), hSt⟩ (by (repeat (first | exact Sub.nil _ | refine Sub.cons rfl ?_))) ?_
  clear hSt
  rintro k i w ⟨hk, hi, hno, hSt⟩ K hK
  by_cases hil : i < l.length
  · obtain ⟨e, he⟩ : ∃ e, l[i]? = some e := ⟨_, List.getElem?_eq_getElem hil⟩
    obtain ⟨x, b1, o1, c1, E1, z1, hx, hle, rfl, hb1, q1, hq8⟩ := hc1 i e he
    obtain ⟨v1, va, vs, rfl, hcnd, hsa, hss, hca, hcs, _, _, hst⟩ := hle
    obtain ⟨ca, cn, ck, rfl⟩ := cond_slice hcnd
    obtain ⟨aa, ak, rfl, hc3⟩ := hsa.map
    obtain ⟨sa, sk, rfl, hc4⟩ := hss.map
    have e0 := SlAt.cell q1 (j := 0) rfl
    have e1 := SlAt.cell q1 (j := 1) rfl
    have e6 := SlAt.cell q1 (j := 6) rfl
    have e7 := SlAt.cell q1 (j := 7) rfl
    have e2 := drop_part (n := 4) (a := 2) q1 (by decide)
    have hde := fun (w : World) (k : Keeps w0 w) => deep_any 9 e.cond (by decide) (hcnd.kept k)
    have yes : bigE e = true → l.any bigE = true := fun hb => List.any_eq_true.2 ⟨e, List.mem_of_getElem? he, hb⟩
    cases hd : deepF 9 e.cond with
    | true =>
      rw [hd] at hde
      rw [yes (by unfold bigE; rw [hd]; rfl)]
      repeat' (first | (apply WL_ev rfl rfl; exact Ev_load1 hT rfl rfl (hSt.base hb1 (fun e => e)) e0) | (apply WL_ev rfl rfl; exact Ev_load1 hT rfl rfl (hSt.base hb1 (fun e => e)) e1) | (apply WL_ev rfl rfl; exact Ev_load1 hT rfl rfl (hSt.base hb1 (fun e => e)) e6) | (apply WL_ev rfl rfl; exact Ev_load1 hT rfl rfl (hSt.base hb1 (fun e => e)) e7) | (apply WL_ev rfl rfl; exact Ev_loadN hT rfl rfl (hSt.base hb1 (fun e => e)) e2 rfl) | (refine WL_isCall (f := 70) ?_; refine WL_call (ok_call hT rfl) rfl rfl rfl (hde _ hSt.keeps) ?_; rintro v w2 ⟨rfl, hc2⟩; replace hSt := hSt.call0 hc2; clear hc2) | refine stepA ?_ | (refine stepS ?_; clear hSt; intro w hSt; dsimp only [spl, List.set] at hSt) | (refine stepB ?_; clear hSt; intro w nb hnb hSt; dsimp only [zcells, List.nil_append, List.cons_append] at hSt) | (refine W_quiet hT (by decide +kernel) hSt ?_; clear hSt; (repeat' (first | (apply QL_ev rfl rfl; (intro w hSt; (first | (exact Ev_load1 hT rfl rfl (hSt.base hb1 (fun e => e)) e0) | (exact Ev_load1 hT rfl rfl (hSt.base hb1 (fun e => e)) e1) | (exact Ev_load1 hT rfl rfl (hSt.base hb1 (fun e => e)) e6) | (exact Ev_load1 hT rfl rfl (hSt.base hb1 (fun e => e)) e7) | (exact Ev_loadN hT rfl rfl (hSt.base hb1 (fun e => e)) e2 rfl) | exact Ev_auto))) | refine QL_pass rfl rfl ?_ | (refine QL_guardP rfl rfl (fun hc => ?_) (fun hc => ?_) <;> try exact absA) | (refine QL_guard rfl rfl (fun hc => ?_) (fun hc => ?_) <;> (try exact absA) <;> (fail_if_success (change true = true at hc)) <;> (fail_if_success (change false = false at hc))))); all_goals (refine QL_nil (fun w hSt => ?_))) | (refine stepG ?_ ?_ <;> intro hc <;> (try exact absA) <;> (fail_if_success (change true = true at hc)) <;> (fail_if_success (change false = false at hc))) | fail)
      all_goals try (exfalso; first | omega | (simp at hc; done) | (exact hc rfl) | contradiction)
      all_goals exact ret1 rfl rfl ⟨rfl, hSt⟩
    | false =>
    rw [hd] at hde
    by_cases hq : 30 < e.after.length ∨ 30 < e.sets.length ∨ 40 < e.node.length ∨ 40 < e.prog.length
    · rw [yes (by unfold bigE; rw [hd, decide_eq_true hq]; rfl)]
      repeat' (first | (apply WL_ev rfl rfl; exact Ev_load1 hT rfl rfl (hSt.base hb1 (fun e => e)) e0) | (apply WL_ev rfl rfl; exact Ev_load1 hT rfl rfl (hSt.base hb1 (fun e => e)) e1) | (apply WL_ev rfl rfl; exact Ev_load1 hT rfl rfl (hSt.base hb1 (fun e => e)) e6) | (apply WL_ev rfl rfl; exact Ev_load1 hT rfl rfl (hSt.base hb1 (fun e => e)) e7) | (apply WL_ev rfl rfl; exact Ev_loadN hT rfl rfl (hSt.base hb1 (fun e => e)) e2 rfl) | (refine WL_isCall (f := 70) ?_; refine WL_call (ok_call hT rfl) rfl rfl rfl (hde _ hSt.keeps) ?_; rintro v w2 ⟨rfl, hc2⟩; replace hSt := hSt.call0 hc2; clear hc2) | refine stepA ?_ | (refine stepS ?_; clear hSt; intro w hSt; dsimp only [spl, List.set] at hSt) | (refine stepB ?_; clear hSt; intro w nb hnb hSt; dsimp only [zcells, List.nil_append, List.cons_append] at hSt) | (refine W_quiet hT (by decide +kernel) hSt ?_; clear hSt; (repeat' (first | (apply QL_ev rfl rfl; (intro w hSt; (first | (exact Ev_load1 hT rfl rfl (hSt.base hb1 (fun e => e)) e0) | (exact Ev_load1 hT rfl rfl (hSt.base hb1 (fun e => e)) e1) | (exact Ev_load1 hT rfl rfl (hSt.base hb1 (fun e => e)) e6) | (exact Ev_load1 hT rfl rfl (hSt.base hb1 (fun e => e)) e7) | (exact Ev_loadN hT rfl rfl (hSt.base hb1 (fun e => e)) e2 rfl) | exact Ev_auto))) | refine QL_pass rfl rfl ?_ | (refine QL_guardP rfl rfl (fun hc => ?_) (fun hc => ?_) <;> try exact absA) | (refine QL_guard rfl rfl (fun hc => ?_) (fun hc => ?_) <;> (try exact absA) <;> (fail_if_success (change true = true at hc)) <;> (fail_if_success (change false = false at hc))))); all_goals (refine QL_nil (fun w hSt => ?_))) | (refine stepG ?_ ?_ <;> intro hc <;> (try exact absA) <;> (fail_if_success (change true = true at hc)) <;> (fail_if_success (change false = false at hc))) | fail)
      all_goals try (exfalso; first | omega | (simp at hc; done) | (exact hc rfl) | contradiction)
      all_goals exact ret1 rfl rfl ⟨rfl, hSt⟩
    repeat' (first | (apply WL_ev rfl rfl; exact Ev_load1 hT rfl rfl (hSt.base hb1 (fun e => e)) e0) | (apply WL_ev rfl rfl; exact Ev_load1 hT rfl rfl (hSt.base hb1 (fun e => e)) e1) | (apply WL_ev rfl rfl; exact Ev_load1 hT rfl rfl (hSt.base hb1 (fun e => e)) e6) | (apply WL_ev rfl rfl; exact Ev_load1 hT rfl rfl (hSt.base hb1 (fun e => e)) e7) | (apply WL_ev rfl rfl; exact Ev_loadN hT rfl rfl (hSt.base hb1 (fun e => e)) e2 rfl) | (refine WL_isCall (f := 70) ?_; refine WL_call (ok_call hT rfl) rfl rfl rfl (hde _ hSt.keeps) ?_; rintro v w2 ⟨rfl, hc2⟩; replace hSt := hSt.call0 hc2; clear hc2) | refine stepA ?_ | (refine stepS ?_; clear hSt; intro w hSt; dsimp only [spl, List.set] at hSt) | (refine stepB ?_; clear hSt; intro w nb hnb hSt; dsimp only [zcells, List.nil_append, List.cons_append] at hSt) | (refine W_quiet hT (by decide +kernel) hSt ?_; clear hSt; (repeat' (first | (apply QL_ev rfl rfl; (intro w hSt; (first | (exact Ev_load1 hT rfl rfl (hSt.base hb1 (fun e => e)) e0) | (exact Ev_load1 hT rfl rfl (hSt.base hb1 (fun e => e)) e1) | (exact Ev_load1 hT rfl rfl (hSt.base hb1 (fun e => e)) e6) | (exact Ev_load1 hT rfl rfl (hSt.base hb1 (fun e => e)) e7) | (exact Ev_loadN hT rfl rfl (hSt.base hb1 (fun e => e)) e2 rfl) | exact Ev_auto))) | refine QL_pass rfl rfl ?_ | (refine QL_guardP rfl rfl (fun hc => ?_) (fun hc => ?_) <;> try exact absA) | (refine QL_guard rfl rfl (fun hc => ?_) (fun hc => ?_) <;> (try exact absA) <;> (fail_if_success (change true = true at hc)) <;> (fail_if_success (change false = false at hc))))); all_goals (refine QL_nil (fun w hSt => ?_))) | (refine stepG ?_ ?_ <;> intro hc <;> (try exact absA) <;> (fail_if_success (change true = true at hc)) <;> (fail_if_success (change false = false at hc))) | fail)
    all_goals try (exfalso; first | omega | (simp at hc; done) | (exact hc rfl) | contradiction)
    refine W_loop1 (fun k2 (j : Nat) w => k2 = e.sets.length - j ∧ j ≤ e.sets.length ∧ (∀ (m : Nat) (s : Sg), m < j → e.sets[m]? = some s → bigS s = false) ∧ St w0 NoneS [] w) (fun j => [(4, I (j : Int))]) e.sets.length 0 rfl (by (repeat (first | exact Str.nil _ | apply Str.drop rfl | apply Str.keepU rfl | apply Str.keep rfl))) ⟨rfl, Nat.zero_le _, fun m s hm => absurd hm (Nat.not_lt_zero m), hSt⟩ (by (repeat (first | exact Sub.nil _ | refine Sub.cons rfl ?_))) ?_
    clear hSt
    rintro k2 j w ⟨hk2, hj, hno2, hSt⟩ K2 hK2
    by_cases hjl : j < e.sets.length
    · obtain ⟨⟨n, t⟩, hn⟩ : ∃ s, e.sets[j]? = some s := ⟨_, List.getElem?_eq_getElem hjl⟩
      obtain ⟨b8, o8, m8, E8, z8, rfl, hb8, _, q8⟩ := hc4 j (n, t) hn
      have k0 : m8[o8 + j * 2 + 0]? = some (S n) := q8 0 _ rfl
      have k1 : m8[o8 + j * 2 + 1]? = some (S t) := q8 1 _ rfl
      rw [← Int.toNat_natCast j] at k0 k1
      by_cases hbs : 300 < t.length ∨ 40 < n.length
      · rw [yes (by
          unfold bigE
          rw [List.any_eq_true.2 ⟨(n, t), List.mem_of_getElem? hn, decide_eq_true hbs⟩, Bool.or_true, Bool.or_true])]
        repeat' (first | (apply WL_ev rfl rfl; exact Ev_load1 hT rfl rfl (hSt.base hb1 (fun e => e)) e0) | (apply WL_ev rfl rfl; exact Ev_load1 hT rfl rfl (hSt.base hb1 (fun e => e)) e1) | (apply WL_ev rfl rfl; exact Ev_load1 hT rfl rfl (hSt.base hb1 (fun e => e)) e6) | (apply WL_ev rfl rfl; exact Ev_load1 hT rfl rfl (hSt.base hb1 (fun e => e)) e7) | (apply WL_ev rfl rfl; exact Ev_loadN hT rfl rfl (hSt.base hb1 (fun e => e)) e2 rfl) | (apply WL_ev rfl rfl; exact Ev_load1 hT rfl rfl (hSt.base hb8 (fun e => e)) k0) | (apply WL_ev rfl rfl; exact Ev_load1 hT rfl rfl (hSt.base hb8 (fun e => e)) k1) | refine stepA ?_ | (refine stepS ?_; clear hSt; intro w hSt; dsimp only [spl, List.set] at hSt) | (refine stepB ?_; clear hSt; intro w nb hnb hSt; dsimp only [zcells, List.nil_append, List.cons_append] at hSt) | (refine W_quiet hT (by decide +kernel) hSt ?_; clear hSt; (repeat' (first | (apply QL_ev rfl rfl; (intro w hSt; (first | (exact Ev_load1 hT rfl rfl (hSt.base hb1 (fun e => e)) e0) | (exact Ev_load1 hT rfl rfl (hSt.base hb1 (fun e => e)) e1) | (exact Ev_load1 hT rfl rfl (hSt.base hb1 (fun e => e)) e6) | (exact Ev_load1 hT rfl rfl (hSt.base hb1 (fun e => e)) e7) | (exact Ev_loadN hT rfl rfl (hSt.base hb1 (fun e => e)) e2 rfl) | (exact Ev_load1 hT rfl rfl (hSt.base hb8 (fun e => e)) k0) | (exact Ev_load1 hT rfl rfl (hSt.base hb8 (fun e => e)) k1) | exact Ev_auto))) | refine QL_pass rfl rfl ?_ | (refine QL_guardP rfl rfl (fun hc => ?_) (fun hc => ?_) <;> try exact absA) | (refine QL_guard rfl rfl (fun hc => ?_) (fun hc => ?_) <;> (try exact absA) <;> (fail_if_success (change true = true at hc)) <;> (fail_if_success (change false = false at hc))))); all_goals (refine QL_nil (fun w hSt => ?_))) | (refine stepG ?_ ?_ <;> intro hc <;> (try exact absA) <;> (fail_if_success (change true = true at hc)) <;> (fail_if_success (change false = false at hc))) | fail)
        all_goals try (exfalso; first | omega | (simp at hc; done) | (exact hc rfl) | contradiction)
        all_goals exact ret1 rfl rfl ⟨rfl, hSt⟩
      · repeat' (first | (apply WL_ev rfl rfl; exact Ev_load1 hT rfl rfl (hSt.base hb1 (fun e => e)) e0) | (apply WL_ev rfl rfl; exact Ev_load1 hT rfl rfl (hSt.base hb1 (fun e => e)) e1) | (apply WL_ev rfl rfl; exact Ev_load1 hT rfl rfl (hSt.base hb1 (fun e => e)) e6) | (apply WL_ev rfl rfl; exact Ev_load1 hT rfl rfl (hSt.base hb1 (fun e => e)) e7) | (apply WL_ev rfl rfl; exact Ev_loadN hT rfl rfl (hSt.base hb1 (fun e => e)) e2 rfl) | (apply WL_ev rfl rfl; exact Ev_load1 hT rfl rfl (hSt.base hb8 (fun e => e)) k0) | (apply WL_ev rfl rfl; exact Ev_load1 hT rfl rfl (hSt.base hb8 (fun e => e)) k1) | refine stepA ?_ | (refine stepS ?_; clear hSt; intro w hSt; dsimp only [spl, List.set] at hSt) | (refine stepB ?_; clear hSt; intro w nb hnb hSt; dsimp only [zcells, List.nil_append, List.cons_append] at hSt) | (refine W_quiet hT (by decide +kernel) hSt ?_; clear hSt; (repeat' (first | (apply QL_ev rfl rfl; (intro w hSt; (first | (exact Ev_load1 hT rfl rfl (hSt.base hb1 (fun e => e)) e0) | (exact Ev_load1 hT rfl rfl (hSt.base hb1 (fun e => e)) e1) | (exact Ev_load1 hT rfl rfl (hSt.base hb1 (fun e => e)) e6) | (exact Ev_load1 hT rfl rfl (hSt.base hb1 (fun e => e)) e7) | (exact Ev_loadN hT rfl rfl (hSt.base hb1 (fun e => e)) e2 rfl) | (exact Ev_load1 hT rfl rfl (hSt.base hb8 (fun e => e)) k0) | (exact Ev_load1 hT rfl rfl (hSt.base hb8 (fun e => e)) k1) | exact Ev_auto))) | refine QL_pass rfl rfl ?_ | (refine QL_guardP rfl rfl (fun hc => ?_) (fun hc => ?_) <;> try exact absA) | (refine QL_guard rfl rfl (fun hc => ?_) (fun hc => ?_) <;> (try exact absA) <;> (fail_if_success (change true = true at hc)) <;> (fail_if_success (change false = false at hc))))); all_goals (refine QL_nil (fun w hSt => ?_))) | (refine stepG ?_ ?_ <;> intro hc <;> (try exact absA) <;> (fail_if_success (change true = true at hc)) <;> (fail_if_success (change false = false at hc))) | fail)
        all_goals try (exfalso; first | omega | (simp at hc; done) | (exact hc rfl) | contradiction)
        all_goals exact At_loop1 hK2 (k' := e.sets.length - (j + 1)) (j + 1) (by omega) ⟨rfl, hjl, fun m s hm hs => by
          rcases Nat.lt_or_ge m j with h1 | h1
          · exact hno2 m s h1 hs
          · obtain rfl : m = j := by omega
            rw [hn] at hs; injection hs with hs; subst hs; exact decide_eq_false hbs, hSt⟩ (by (repeat (first | exact Sub.nil _ | refine Sub.cons rfl ?_)))
    · repeat' (first | (apply WL_ev rfl rfl; exact Ev_load1 hT rfl rfl (hSt.base hb1 (fun e => e)) e0) | (apply WL_ev rfl rfl; exact Ev_load1 hT rfl rfl (hSt.base hb1 (fun e => e)) e1) | (apply WL_ev rfl rfl; exact Ev_load1 hT rfl rfl (hSt.base hb1 (fun e => e)) e6) | (apply WL_ev rfl rfl; exact Ev_load1 hT rfl rfl (hSt.base hb1 (fun e => e)) e7) | (apply WL_ev rfl rfl; exact Ev_loadN hT rfl rfl (hSt.base hb1 (fun e => e)) e2 rfl) | refine stepA ?_ | (refine stepS ?_; clear hSt; intro w hSt; dsimp only [spl, List.set] at hSt) | (refine stepB ?_; clear hSt; intro w nb hnb hSt; dsimp only [zcells, List.nil_append, List.cons_append] at hSt) | (refine W_quiet hT (by decide +kernel) hSt ?_; clear hSt; (repeat' (first | (apply QL_ev rfl rfl; (intro w hSt; (first | (exact Ev_load1 hT rfl rfl (hSt.base hb1 (fun e => e)) e0) | (exact Ev_load1 hT rfl rfl (hSt.base hb1 (fun e => e)) e1) | (exact Ev_load1 hT rfl rfl (hSt.base hb1 (fun e => e)) e6) | (exact Ev_load1 hT rfl rfl (hSt.base hb1 (fun e => e)) e7) | (exact Ev_loadN hT rfl rfl (hSt.base hb1 (fun e => e)) e2 rfl) | exact Ev_auto))) | refine QL_pass rfl rfl ?_ | (refine QL_guardP rfl rfl (fun hc => ?_) (fun hc => ?_) <;> try exact absA) | (refine QL_guard rfl rfl (fun hc => ?_) (fun hc => ?_) <;> (try exact absA) <;> (fail_if_success (change true = true at hc)) <;> (fail_if_success (change false = false at hc))))); all_goals (refine QL_nil (fun w hSt => ?_))) | (refine stepG ?_ ?_ <;> intro hc <;> (try exact absA) <;> (fail_if_success (change true = true at hc)) <;> (fail_if_success (change false = false at hc))) | fail)
      all_goals try (exfalso; first | omega | (simp at hc; done) | (exact hc rfl) | contradiction)
      all_goals exact At_loop1 hK (k' := l.length - (i + 1)) (i + 1) (by omega) ⟨rfl, hil, fun j2 a hj2 ha => by
        rcases Nat.lt_or_ge j2 i with h1 | h1
        · exact hno j2 a h1 ha
        · obtain rfl : j2 = i := by omega
          rw [he] at ha; injection ha with ha; subst ha
          unfold bigE
          rw [hd, decide_eq_false hq, List.any_eq_false.2 (fun s hs => by
            obtain ⟨m, hm⟩ := List.getElem?_of_mem hs
            rw [hno2 m s (by have := (List.getElem?_eq_some_iff.1 hm).1; omega) hm]; decide)]
          rfl, hSt⟩ (by (repeat (first | exact Sub.nil _ | refine Sub.cons rfl ?_)))
  · rw [show l.any bigE = false from List.any_eq_false.2 (fun a ha => by
      obtain ⟨j, hj⟩ := List.getElem?_of_mem ha
      rw [hno j a (by have := (List.getElem?_eq_some_iff.1 hj).1; omega) hj]; decide)]
    repeat' (first | refine stepA ?_ | (refine stepS ?_; clear hSt; intro w hSt; dsimp only [spl, List.set] at hSt) | (refine stepB ?_; clear hSt; intro w nb hnb hSt; dsimp only [zcells, List.nil_append, List.cons_append] at hSt) | (refine W_quiet hT (by decide +kernel) hSt ?_; clear hSt; (repeat' (first | (apply QL_ev rfl rfl; (intro w hSt; (first | exact Ev_auto))) | refine QL_pass rfl rfl ?_ | (refine QL_guardP rfl rfl (fun hc => ?_) (fun hc => ?_) <;> try exact absA) | (refine QL_guard rfl rfl (fun hc => ?_) (fun hc => ?_) <;> (try exact absA) <;> (fail_if_success (change true = true at hc)) <;> (fail_if_success (change false = false at hc))))); all_goals (refine QL_nil (fun w hSt => ?_))) | (refine stepG ?_ ?_ <;> intro hc <;> (try exact absA) <;> (fail_if_success (change true = true at hc)) <;> (fail_if_success (change false = false at hc))) | fail)
    all_goals try (exfalso; first | omega | (simp at hc; done) | (exact hc rfl) | contradiction)
    all_goals exact ret1 rfl rfl ⟨rfl, hSt⟩
theorem large_no {l : List Ln} (h : largeF l = false) : ∀ x ∈ l, RoomE x ∧ levC x.cond ≤ 9 := by
  intro x hx
  unfold largeF at h
  rw [Bool.or_eq_false_iff] at h
  have hb : bigE x = false := by
    have := List.any_eq_false.1 h.2 x hx
    simpa using this
  unfold bigE at hb
  rw [Bool.or_eq_false_iff, Bool.or_eq_false_iff] at hb
  have h2 := of_decide_eq_false hb.2.1
  exact ⟨⟨by omega, by omega⟩, deep_lev 9 x.cond hb.1⟩
theorem launchtextRoundTrip_any {w0 : World} {v0 : Value} {l : List Ln} (hV : Mx w0) (h : Lns w0 v0 l) : Cl Tryz.prog 6 [v0] w0 (fun v w' => v = B true ∧ St w0 NoneS [] w') := by
  have hSt := St.refl w0 NoneS
  have hla := fun (w : World) (k : Keeps w0 w) => large_any (h.kept k)
  refine enter Tryz.func6 rfl Tryz.ntmps6 rfl ?_
  cases hg : largeF l with
  | true =>
    rw [hg] at hla
    repeat' (first | (refine WL_isCall (f := 28) ?_; refine WL_call (ok_call hT rfl) rfl rfl rfl (hla _ hSt.keeps) ?_; rintro v w2 ⟨rfl, hc2⟩; replace hSt := hSt.call0 hc2; clear hc2) | (refine WL_isCall (f := 19) ?_; refine WL_call (ok_call hT rfl) rfl rfl rfl (awake_any) ?_; rintro v w2 ⟨rfl, hc2⟩; replace hSt := hSt.call0 hc2; clear hc2) | refine stepA ?_ | (refine stepS ?_; clear hSt; intro w hSt; dsimp only [spl, List.set] at hSt) | (refine stepB ?_; clear hSt; intro w nb hnb hSt; dsimp only [zcells, List.nil_append, List.cons_append] at hSt) | (refine W_quiet hT (by decide +kernel) hSt ?_; clear hSt; (repeat' (first | (apply QL_ev rfl rfl; (intro w hSt; (first | exact Ev_auto))) | refine QL_pass rfl rfl ?_ | (refine QL_guardP rfl rfl (fun hc => ?_) (fun hc => ?_) <;> try exact absA) | (refine QL_guard rfl rfl (fun hc => ?_) (fun hc => ?_) <;> (try exact absA) <;> (fail_if_success (change true = true at hc)) <;> (fail_if_success (change false = false at hc))))); all_goals (refine QL_nil (fun w hSt => ?_))) | (refine stepG ?_ ?_ <;> intro hc <;> (try exact absA) <;> (fail_if_success (change true = true at hc)) <;> (fail_if_success (change false = false at hc))) | fail)
    all_goals try (exfalso; first | omega | (simp at hc; done) | (exact hc rfl) | contradiction)
    all_goals exact ret1 rfl rfl ⟨rfl, hSt⟩
  | false =>
    rw [hg] at hla
    have hno := large_no hg
    have hf := fun (w : World) (k : Keeps w0 w) => format_any (hV.kept k) (h.kept k) (fun x hx => (hno x hx).1)
    have hrf := fun (w : World) (k : Keeps w0 w) => rformat_any (h.kept k) (fun x hx => Nat.le_trans (hno x hx).2 (by decide)) (fun x hx => (hno x hx).1)
    by_cases hz : fmtS l = []
    · rw [hz] at hf hrf
      repeat' (first | (refine WL_isCall (f := 28) ?_; refine WL_call (ok_call hT rfl) rfl rfl rfl (hla _ hSt.keeps) ?_; rintro v w2 ⟨rfl, hc2⟩; replace hSt := hSt.call0 hc2; clear hc2) | (refine WL_isCall (f := 18) ?_; refine WL_call (ok_call hT rfl) rfl rfl rfl (hf _ hSt.keeps) ?_; rintro v w2 ⟨rfl, hc2⟩; replace hSt := hSt.call0 hc2; clear hc2) | (refine WL_isCall (f := 29) ?_; refine WL_call (ok_call hT rfl) rfl rfl rfl (hrf _ hSt.keeps) ?_; rintro v w2 ⟨rfl, hc2⟩; replace hSt := hSt.call0 hc2; clear hc2) | (refine WL_isCall (f := 19) ?_; refine WL_call (ok_call hT rfl) rfl rfl rfl (awake_any) ?_; rintro v w2 ⟨rfl, hc2⟩; replace hSt := hSt.call0 hc2; clear hc2) | refine stepA ?_ | (refine stepS ?_; clear hSt; intro w hSt; dsimp only [spl, List.set] at hSt) | (refine stepB ?_; clear hSt; intro w nb hnb hSt; dsimp only [zcells, List.nil_append, List.cons_append] at hSt) | (refine W_quiet hT (by decide +kernel) hSt ?_; clear hSt; (repeat' (first | (apply QL_ev rfl rfl; (intro w hSt; (first | exact Ev_auto))) | refine QL_pass rfl rfl ?_ | (refine QL_guardP rfl rfl (fun hc => ?_) (fun hc => ?_) <;> try exact absA) | (refine QL_guard rfl rfl (fun hc => ?_) (fun hc => ?_) <;> (try exact absA) <;> (fail_if_success (change true = true at hc)) <;> (fail_if_success (change false = false at hc))))); all_goals (refine QL_nil (fun w hSt => ?_))) | (refine stepG ?_ ?_ <;> intro hc <;> (try exact absA) <;> (fail_if_success (change true = true at hc)) <;> (fail_if_success (change false = false at hc))) | fail)
      all_goals try (exfalso; first | omega | (simp at hc; done) | (exact hc rfl) | contradiction)
      all_goals exact ret1 rfl rfl ⟨rfl, hSt⟩
    · have hck : checkF l = 0 ∧ (fmtF l).length ≤ 4000 := by
        by_cases hh : checkF l = 0 ∧ (fmtF l).length ≤ 4000
        · exact hh
        · exact absurd (if_neg hh) hz
      have he : fmtS l = fmtF l := if_pos hck
      rw [he] at hz hf hrf
      obtain ⟨f, hp⟩ := list_again hck.1 hck.2
      have hpa := fun w : World => parse_any (w0 := w) (scan_any (fmtF l)) (scan_ok (fmtF l)) hp
      unfold ParseR at hpa
      dsimp only at hpa
      repeat' (first | (refine WL_isCall (f := 28) ?_; refine WL_call (ok_call hT rfl) rfl rfl rfl (hla _ hSt.keeps) ?_; rintro v w2 ⟨rfl, hc2⟩; replace hSt := hSt.call0 hc2; clear hc2) | (refine WL_isCall (f := 18) ?_; refine WL_call (ok_call hT rfl) rfl rfl rfl (hf _ hSt.keeps) ?_; rintro v w2 ⟨rfl, hc2⟩; replace hSt := hSt.call0 hc2; clear hc2) | (refine WL_isCall (f := 29) ?_; refine WL_call (ok_call hT rfl) rfl rfl rfl (hrf _ hSt.keeps) ?_; rintro v w2 ⟨rfl, hc2⟩; replace hSt := hSt.call0 hc2; clear hc2) | (refine WL_isCall (f := 8) ?_; refine WL_call (ok_call hT rfl) rfl rfl rfl (hpa _) ?_; rintro v w2 ⟨lv, H1, rfl, hL1, hc2⟩; replace hSt := hSt.newN hc2; clear hc2; try dsimp only [List.nil_append] at hSt) | (refine WL_isCall (f := 21) ?_; refine WL_call (ok_call hT rfl) rfl rfl rfl (rsame_any (h.kept hSt.nil.keeps) (hL1 _ hSt.has)) ?_; rintro v w2 ⟨rfl, hc2⟩; replace hSt := hSt.call0 hc2; clear hc2) | (refine WL_isCall (f := 19) ?_; refine WL_call (ok_call hT rfl) rfl rfl rfl (awake_any) ?_; rintro v w2 ⟨rfl, hc2⟩; replace hSt := hSt.call0 hc2; clear hc2) | refine stepA ?_ | (refine stepS ?_; clear hSt; intro w hSt; dsimp only [spl, List.set] at hSt) | (refine stepB ?_; clear hSt; intro w nb hnb hSt; dsimp only [zcells, List.nil_append, List.cons_append] at hSt) | (refine W_quiet hT (by decide +kernel) hSt ?_; clear hSt; (repeat' (first | (apply QL_ev rfl rfl; (intro w hSt; (first | exact Ev_auto))) | refine QL_pass rfl rfl ?_ | (refine QL_guardP rfl rfl (fun hc => ?_) (fun hc => ?_) <;> try exact absA) | (refine QL_guard rfl rfl (fun hc => ?_) (fun hc => ?_) <;> (try exact absA) <;> (fail_if_success (change true = true at hc)) <;> (fail_if_success (change false = false at hc))))); all_goals (refine QL_nil (fun w hSt => ?_))) | (refine stepG ?_ ?_ <;> intro hc <;> (try exact absA) <;> (fail_if_success (change true = true at hc)) <;> (fail_if_success (change false = false at hc))) | fail)
      all_goals try (exfalso; first | omega | (simp at hc; done) | (exact hc rfl) | contradiction)
      all_goals exact ret1 rfl rfl ⟨rfl, hSt.nil⟩
end Go.Proofs.YtknfankadlokhaaGreatDoor
