/- Does a string stand ahead of an index; the example of the chapter. No conditions. -/
import Derived.Test.YtknfankadlokhaaGreatDoorPua
import Derived.Test.YtknfankadlokhaaGreatDoorLhk

namespace Go.Proofs.YtknfankadlokhaaGreatDoor
open Go.RowKit
set_option maxRecDepth 4000
set_option linter.unusedVariables false
set_option linter.unusedSimpArgs false
set_option maxHeartbeats 16000000

theorem before_any {w0 : World} {v0 : Value} {l : List Tx} (n : Tx) (k : Nat) (hs : SlAt w0 v0 1 (l.map tc)) (hk : k ≤ l.length) (hlen : l.length ≤ 9223372036854775807) : Cl Tryz.prog 13 [v0, S n, I (k : Int)] w0 (fun r w' => r = B (hasF (l.take k) n) ∧ St w0 NoneS [] w') := by
  have hSt := St.refl w0 NoneS
  obtain ⟨a1, p1, rfl, hc1⟩ := hs.map
  refine enter Tryz.func13 rfl Tryz.ntmps13 rfl ?_
  repeat' (first | refine stepA ?_ | (refine stepS ?_; clear hSt; intro w hSt; dsimp only [spl, List.set] at hSt) | (refine stepB ?_; clear hSt; intro w nb hnb hSt; dsimp only [zcells, List.nil_append, List.cons_append] at hSt) | (refine W_quiet hT (by decide +kernel) hSt ?_; clear hSt; (repeat' (first | (apply QL_ev rfl rfl; (intro w hSt; (first | exact Ev_auto))) | refine QL_pass rfl rfl ?_ | (refine QL_guardP rfl rfl (fun hc => ?_) (fun hc => ?_) <;> try exact absA) | (refine QL_guard rfl rfl (fun hc => ?_) (fun hc => ?_) <;> (try exact absA) <;> (fail_if_success (change true = true at hc)) <;> (fail_if_success (change false = false at hc))))); all_goals (refine QL_nil (fun w hSt => ?_))) | (refine stepG ?_ ?_ <;> intro hc <;> (try exact absA) <;> (fail_if_success (change true = true at hc)) <;> (fail_if_success (change false = false at hc))) | fail)
  refine W_loop1 (fun m (i : Nat) w => m = k - i ∧ i ≤ k ∧ (∀ (j : Nat) (y : Tx), j < i → l[j]? = some y → n ≠ y) ∧ St w0 NoneS [] w) (fun i => [(7, I (i : Int))]) k 0 rfl (by (repeat (first | exact Str.nil _ | apply Str.drop rfl | apply Str.keepU rfl | apply Str.keep rfl))) ⟨rfl, by omega, by intro j y hj; omega, hSt⟩ (by (repeat (first | exact Sub.nil _ | refine Sub.cons rfl ?_))) ?_
  clear hSt
  rintro m i w ⟨hm, hi, hno, hSt⟩ K hK
  by_cases hil : i < k
  · obtain ⟨x, hx⟩ : ∃ x, l[i]? = some x := ⟨_, List.getElem?_eq_getElem (by omega)⟩
    obtain ⟨b1, o1, m1, E1, z1, rfl, hb1, _, q1⟩ := hc1 i _ hx
    replace q1 := q1 0 _ rfl
    rw [← Int.toNat_natCast i] at q1
    by_cases hxn : x = n
    · have hyes : hasF (l.take k) n = true := hasF_mem.2 (hxn ▸ List.mem_of_getElem? (i := i) (by rw [List.getElem?_take, if_pos hil]; exact hx))
      rw [hyes]
      repeat' (first | (apply WL_ev rfl rfl; exact Ev_load1 hT rfl rfl (hSt.base hb1 (fun e => e)) q1) | refine stepA ?_ | (refine stepS ?_; clear hSt; intro w hSt; dsimp only [spl, List.set] at hSt) | (refine stepB ?_; clear hSt; intro w nb hnb hSt; dsimp only [zcells, List.nil_append, List.cons_append] at hSt) | (refine W_quiet hT (by decide +kernel) hSt ?_; clear hSt; (repeat' (first | (apply QL_ev rfl rfl; (intro w hSt; (first | (exact Ev_load1 hT rfl rfl (hSt.base hb1 (fun e => e)) q1) | exact Ev_auto))) | refine QL_pass rfl rfl ?_ | (refine QL_guardP rfl rfl (fun hc => ?_) (fun hc => ?_) <;> try exact absA) | (refine QL_guard rfl rfl (fun hc => ?_) (fun hc => ?_) <;> (try exact absA) <;> (fail_if_success (change true = true at hc)) <;> (fail_if_success (change false = false at hc))))); all_goals (refine QL_nil (fun w hSt => ?_))) | (refine stepG ?_ ?_ <;> intro hc <;> (try exact absA) <;> (fail_if_success (change true = true at hc)) <;> (fail_if_success (change false = false at hc))) | fail)
      all_goals try (exfalso; first | omega | (simp at hc; done) | (exact hc rfl) | contradiction)
      all_goals exact ret1 rfl rfl ⟨rfl, hSt⟩
    · repeat' (first | (apply WL_ev rfl rfl; exact Ev_load1 hT rfl rfl (hSt.base hb1 (fun e => e)) q1) | refine stepA ?_ | (refine stepS ?_; clear hSt; intro w hSt; dsimp only [spl, List.set] at hSt) | (refine stepB ?_; clear hSt; intro w nb hnb hSt; dsimp only [zcells, List.nil_append, List.cons_append] at hSt) | (refine W_quiet hT (by decide +kernel) hSt ?_; clear hSt; (repeat' (first | (apply QL_ev rfl rfl; (intro w hSt; (first | (exact Ev_load1 hT rfl rfl (hSt.base hb1 (fun e => e)) q1) | exact Ev_auto))) | refine QL_pass rfl rfl ?_ | (refine QL_guardP rfl rfl (fun hc => ?_) (fun hc => ?_) <;> try exact absA) | (refine QL_guard rfl rfl (fun hc => ?_) (fun hc => ?_) <;> (try exact absA) <;> (fail_if_success (change true = true at hc)) <;> (fail_if_success (change false = false at hc))))); all_goals (refine QL_nil (fun w hSt => ?_))) | (refine stepG ?_ ?_ <;> intro hc <;> (try exact absA) <;> (fail_if_success (change true = true at hc)) <;> (fail_if_success (change false = false at hc))) | fail)
      all_goals try (exfalso; first | omega | (simp at hc; done) | (exact hc rfl) | contradiction)
      all_goals exact At_loop1 hK (k' := k - (i + 1)) (i + 1) (by omega) ⟨rfl, by omega, fun j y hj hy => by
        rcases Nat.lt_or_ge j i with h1 | h1
        · exact hno j y h1 hy
        · obtain rfl : j = i := by omega
          rw [hx] at hy; injection hy with hy; subst hy; exact fun e => hxn e.symm, hSt⟩ (by (repeat (first | exact Sub.nil _ | refine Sub.cons rfl ?_)))
  · have hnone : hasF (l.take k) n = false := by
      cases hh : hasF (l.take k) n with
      | false => rfl
      | true =>
        obtain ⟨j, hj⟩ := List.getElem?_of_mem (hasF_mem.1 hh)
        rw [List.getElem?_take] at hj
        split at hj
        · rename_i hjk; exact absurd rfl (hno j n (by omega) hj)
        · cases hj
    rw [hnone]
    repeat' (first | refine stepA ?_ | (refine stepS ?_; clear hSt; intro w hSt; dsimp only [spl, List.set] at hSt) | (refine stepB ?_; clear hSt; intro w nb hnb hSt; dsimp only [zcells, List.nil_append, List.cons_append] at hSt) | (refine W_quiet hT (by decide +kernel) hSt ?_; clear hSt; (repeat' (first | (apply QL_ev rfl rfl; (intro w hSt; (first | exact Ev_auto))) | refine QL_pass rfl rfl ?_ | (refine QL_guardP rfl rfl (fun hc => ?_) (fun hc => ?_) <;> try exact absA) | (refine QL_guard rfl rfl (fun hc => ?_) (fun hc => ?_) <;> (try exact absA) <;> (fail_if_success (change true = true at hc)) <;> (fail_if_success (change false = false at hc))))); all_goals (refine QL_nil (fun w hSt => ?_))) | (refine stepG ?_ ?_ <;> intro hc <;> (try exact absA) <;> (fail_if_success (change true = true at hc)) <;> (fail_if_success (change false = false at hc))) | fail)
    all_goals try (exfalso; first | omega | (simp at hc; done) | (exact hc rfl) | contradiction)
    all_goals exact ret1 rfl rfl ⟨rfl, hSt⟩
def exT : Tx := [110, 111, 100, 101, 32, 112, 108, 97, 110, 110, 101, 114, 58, 32, 110, 97, 118, 32, 105, 102, 32, 109, 111, 100, 101, 32, 61, 32, 34, 97, 117, 116, 111, 34, 32, 97, 102, 116, 101, 114, 32, 109, 97, 112, 44, 32, 111, 100, 111, 109, 32, 110, 111, 100, 101, 32, 111, 100, 111, 109, 58, 32, 98, 97, 115, 101, 32, 110, 111, 100, 101, 32, 109, 97, 112, 58, 32, 103, 114, 105, 100, 32, 105, 102, 32, 109, 111, 100, 101, 32, 61, 32, 34, 97, 117, 116, 111, 34, 32, 97, 102, 116, 101, 114, 32, 111, 100, 111, 109, 32, 123, 32, 114, 97, 116, 101, 32, 61, 32, 34, 36, 40, 104, 122, 41, 34, 32, 125]
def exG : Tx := [109, 111, 100, 101, 32, 61, 32, 34, 97, 117, 116, 111, 34, 44, 32, 104, 122, 32, 61, 32, 34, 49, 48, 34]
def exC : Cn := .mk 2 [109, 111, 100, 101] [97, 117, 116, 111] []
def exL : List Ln := [⟨[112, 108, 97, 110, 110, 101, 114], [110, 97, 118], exC, [[109, 97, 112], [111, 100, 111, 109]], []⟩, ⟨[111, 100, 111, 109], [98, 97, 115, 101], .mk 1 [] [] [], [], []⟩, ⟨[109, 97, 112], [103, 114, 105, 100], exC, [[111, 100, 111, 109]], [([114, 97, 116, 101], [36, 40, 104, 122, 41])]⟩]
def exA : List Sg := [([109, 111, 100, 101], [97, 117, 116, 111]), ([104, 122], [49, 48])]
def exM : Ln := ⟨[109, 97, 112], [103, 114, 105, 100], exC, [[111, 100, 111, 109]], [([114, 97, 116, 101], [49, 48])]⟩
def exS : List Ln := [⟨[112, 108, 97, 110, 110, 101, 114], [110, 97, 118], exC, [[109, 97, 112], [111, 100, 111, 109]], []⟩, ⟨[111, 100, 111, 109], [98, 97, 115, 101], .mk 1 [] [] [], [], []⟩, exM]
theorem ex_list : listP 200 (scanF exT) = some (.ok exL) := by kernel_rfl
theorem ex_args : argsP 200 (scanF exG) = some (.ok exA) := by kernel_rfl
theorem ex_sel : selectF exL exA = (exS, 0) := by kernel_rfl
theorem ex_check : checkF exS = 0 := by kernel_rfl
theorem ex_order : orderF exS = [[111, 100, 111, 109], [109, 97, 112], [112, 108, 97, 110, 110, 101, 114]] := by kernel_rfl
theorem lawake_any {w0 : World} (hV : Mx w0) : Cl Tryz.prog 7 [] w0 (fun v w' => v = B true ∧ St w0 NoneS [] w') := by
  have hSt := St.refl w0 NoneS
  have hpa := parse_any (w0 := w0) (scan_any exT) (scan_ok exT) ex_list
  refine enter Tryz.func7 rfl Tryz.ntmps7 rfl ?_
  repeat' (first | refine stepA ?_ | (refine stepS ?_; clear hSt; intro w hSt; dsimp only [spl, List.set] at hSt) | (refine stepB ?_; clear hSt; intro w nb hnb hSt; dsimp only [zcells, List.nil_append, List.cons_append] at hSt) | (refine W_quiet hT (by decide +kernel) hSt ?_; clear hSt; (repeat' (first | (apply QL_ev rfl rfl; (intro w hSt; (first | exact Ev_auto))) | refine QL_pass rfl rfl ?_ | (refine QL_guardP rfl rfl (fun hc => ?_) (fun hc => ?_) <;> try exact absA) | (refine QL_guard rfl rfl (fun hc => ?_) (fun hc => ?_) <;> (try exact absA) <;> (fail_if_success (change true = true at hc)) <;> (fail_if_success (change false = false at hc))))); all_goals (refine QL_nil (fun w hSt => ?_))) | (refine stepG ?_ ?_ <;> intro hc <;> (try exact absA) <;> (fail_if_success (change true = true at hc)) <;> (fail_if_success (change false = false at hc))) | fail)
  refine WL_call (ok_call hT rfl) rfl rfl rfl hpa ?_
  rintro v w2 ⟨lv, H, rfl, hL, hc2⟩
  replace hSt := hSt.newN hc2
  clear hc2
  dsimp only [List.nil_append] at hSt
  repeat' (first | refine stepA ?_ | (refine stepS ?_; clear hSt; intro w hSt; dsimp only [spl, List.set] at hSt) | (refine stepB ?_; clear hSt; intro w nb hnb hSt; dsimp only [zcells, List.nil_append, List.cons_append] at hSt) | (refine W_quiet hT (by decide +kernel) hSt ?_; clear hSt; (repeat' (first | (apply QL_ev rfl rfl; (intro w hSt; (first | exact Ev_auto))) | refine QL_pass rfl rfl ?_ | (refine QL_guardP rfl rfl (fun hc => ?_) (fun hc => ?_) <;> try exact absA) | (refine QL_guard rfl rfl (fun hc => ?_) (fun hc => ?_) <;> (try exact absA) <;> (fail_if_success (change true = true at hc)) <;> (fail_if_success (change false = false at hc))))); all_goals (refine QL_nil (fun w hSt => ?_))) | (refine stepG ?_ ?_ <;> intro hc <;> (try exact absA) <;> (fail_if_success (change true = true at hc)) <;> (fail_if_success (change false = false at hc))) | fail)
  refine WL_call (ok_call hT rfl) rfl rfl rfl (args_any (scan_any exG) (scan_ok exG) ex_args) ?_
  rintro v w2 ⟨sv, H2, rfl, hO, _, hc2⟩
  replace hSt := hSt.newN hc2
  clear hc2
  repeat' (first | refine stepA ?_ | (refine stepS ?_; clear hSt; intro w hSt; dsimp only [spl, List.set] at hSt) | (refine stepB ?_; clear hSt; intro w nb hnb hSt; dsimp only [zcells, List.nil_append, List.cons_append] at hSt) | (refine W_quiet hT (by decide +kernel) hSt ?_; clear hSt; (repeat' (first | (apply QL_ev rfl rfl; (intro w hSt; (first | exact Ev_auto))) | refine QL_pass rfl rfl ?_ | (refine QL_guardP rfl rfl (fun hc => ?_) (fun hc => ?_) <;> try exact absA) | (refine QL_guard rfl rfl (fun hc => ?_) (fun hc => ?_) <;> (try exact absA) <;> (fail_if_success (change true = true at hc)) <;> (fail_if_success (change false = false at hc))))); all_goals (refine QL_nil (fun w hSt => ?_))) | (refine stepG ?_ ?_ <;> intro hc <;> (try exact absA) <;> (fail_if_success (change true = true at hc)) <;> (fail_if_success (change false = false at hc))) | fail)
  have hse := select_any (hV.kept hSt.nil.keeps) (hL _ hSt.left.has) (OwnSl.slAt (f := sgC) (fun _ => rfl) hO hSt.right.has) (by decide) (by decide) (by decide)
  rw [ex_sel] at hse
  refine WL_call (ok_call hT rfl) rfl rfl rfl hse ?_
  rintro v w2 ⟨nv, H3, rfl, ⟨na, nc, rfl⟩, hN, hc2⟩
  replace hSt := hSt.newN hc2
  clear hc2
  repeat' (first | refine stepA ?_ | (refine stepS ?_; clear hSt; intro w hSt; dsimp only [spl, List.set] at hSt) | (refine stepB ?_; clear hSt; intro w nb hnb hSt; dsimp only [zcells, List.nil_append, List.cons_append] at hSt) | (refine W_quiet hT (by decide +kernel) hSt ?_; clear hSt; (repeat' (first | (apply QL_ev rfl rfl; (intro w hSt; (first | exact Ev_auto))) | refine QL_pass rfl rfl ?_ | (refine QL_guardP rfl rfl (fun hc => ?_) (fun hc => ?_) <;> try exact absA) | (refine QL_guard rfl rfl (fun hc => ?_) (fun hc => ?_) <;> (try exact absA) <;> (fail_if_success (change true = true at hc)) <;> (fail_if_success (change false = false at hc))))); all_goals (refine QL_nil (fun w hSt => ?_))) | (refine stepG ?_ ?_ <;> intro hc <;> (try exact absA) <;> (fail_if_success (change true = true at hc)) <;> (fail_if_success (change false = false at hc))) | fail)
  have hor := order_any (hN _ hSt.right.has)
  rw [ex_check, ex_order] at hor
  refine WL_call (ok_call hT rfl) rfl rfl rfl hor ?_
  rintro v w2 ⟨ov, H4, rfl, hO4, hc2⟩
  replace hSt := hSt.newN hc2
  clear hc2
  obtain ⟨oa, ok, rfl, hc4⟩ := (own_tc hO4 hSt.right.has).map
  obtain ⟨b0, o0, m0, E0, z0, rfl, hb0, _, r0⟩ := hc4 0 _ rfl
  obtain ⟨b1, o1, m1, E1, z1, e1, hb1, _, r1⟩ := hc4 1 _ rfl
  obtain ⟨b2, o2, m2, E2, z2, e2, hb2, _, r2⟩ := hc4 2 _ rfl
  injection e1 with e1; injection e1 with e3 e4 _; subst e3 e4
  injection e2 with e2; injection e2 with e3 e4 _; subst e3 e4
  rw [hb0] at hb1 hb2
  injection hb1 with hb1; injection hb1 with e3 _ _; injection e3 with e3; subst e3
  injection hb2 with hb2; injection hb2 with e3 _ _; injection e3 with e3; subst e3
  have k0 : m0[o0 + ((0 : Nat) : Int).toNat * 1 + 0]? = some (S [111, 100, 111, 109]) := r0 0 _ rfl
  have k1 : m0[o0 + ((1 : Nat) : Int).toNat * 1 + 0]? = some (S [109, 97, 112]) := r1 0 _ rfl
  have k2 : m0[o0 + ((2 : Nat) : Int).toNat * 1 + 0]? = some (S [112, 108, 97, 110, 110, 101, 114]) := r2 0 _ rfl
  obtain ⟨a5, p5, xs, e5, _, _, _, _, _, hcc⟩ := (hN _ hSt.left.right.has).out
  obtain ⟨y0, b5, o5, c5, E5, z5, _, hle, e6, hb5, q5, _⟩ := hcc 2 exM rfl
  injection e5 with e5 e7 _
  subst e5 e6
  obtain ⟨v1, va, vs, rfl, _, _, hss, _⟩ := hle
  obtain ⟨sa, sk, rfl, hc6⟩ := hss.map
  obtain ⟨b6, o6, m6, E6, z6, rfl, hb6, _, q6⟩ := hc6 0 _ rfl
  have k7 : c5[o5 + ((2 : Nat) : Int).toNat * 8 + 7]? = some (.slice (some ⟨b6, o6, none⟩) 1 sk) := SlAt.cell q5 (j := 7) rfl
  have k8 : m6[o6 + ((0 : Nat) : Int).toNat * 2 + 1]? = some (S [49, 48]) := q6 1 _ rfl
  have hl3 : exS.length = 3 := rfl
  have hl4 : (exS, (0 : Int)).1.length = 3 := rfl
  clear hL hpa hcc hse hor
  repeat' (first | (apply WL_ev rfl rfl; exact Ev_load1 hT rfl rfl hb0 k0) | (apply WL_ev rfl rfl; exact Ev_load1 hT rfl rfl hb0 k1) | (apply WL_ev rfl rfl; exact Ev_load1 hT rfl rfl hb0 k2) | (apply WL_ev rfl rfl; exact Ev_load1 hT rfl rfl hb5 k7) | (apply WL_ev rfl rfl; exact Ev_load1 hT rfl rfl hb6 k8) | refine stepA ?_ | (refine stepS ?_; clear hSt; intro w hSt; dsimp only [spl, List.set] at hSt) | (refine stepB ?_; clear hSt; intro w nb hnb hSt; dsimp only [zcells, List.nil_append, List.cons_append] at hSt) | (refine W_quiet hT (by decide +kernel) hSt ?_; clear hSt; (repeat' (first | (apply QL_ev rfl rfl; (intro w hSt; (first | (exact Ev_load1 hT rfl rfl hb0 k0) | (exact Ev_load1 hT rfl rfl hb0 k1) | (exact Ev_load1 hT rfl rfl hb0 k2) | (exact Ev_load1 hT rfl rfl hb5 k7) | (exact Ev_load1 hT rfl rfl hb6 k8) | exact Ev_auto))) | refine QL_pass rfl rfl ?_ | (refine QL_guardP rfl rfl (fun hc => ?_) (fun hc => ?_) <;> try exact absA) | (refine QL_guard rfl rfl (fun hc => ?_) (fun hc => ?_) <;> (try exact absA) <;> (fail_if_success (change true = true at hc)) <;> (fail_if_success (change false = false at hc))))); all_goals (refine QL_nil (fun w hSt => ?_))) | (refine stepG ?_ ?_ <;> intro hc <;> (try exact absA) <;> (fail_if_success (change true = true at hc)) <;> (fail_if_success (change false = false at hc))) | fail)
  all_goals try (exfalso; first | omega | (simp at hc; done) | (exact hc rfl) | contradiction)
  all_goals first | exact ret1 rfl rfl ⟨rfl, hSt.nil⟩ | exact ret1 rfl rfl ⟨congrArg B (decide_eq_true rfl), hSt.nil⟩
end Go.Proofs.YtknfankadlokhaaGreatDoor
