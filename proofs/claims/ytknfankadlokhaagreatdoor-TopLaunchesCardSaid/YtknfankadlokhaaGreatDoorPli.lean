/- The value of some digits, in memory. No conditions. -/
import Derived.Test.YtknfankadlokhaaGreatDoorNG

namespace Go.Proofs.YtknfankadlokhaaGreatDoor
open Go.RowKit
set_option maxRecDepth 4000
set_option linter.unusedVariables false
set_option linter.unusedSimpArgs false
set_option maxHeartbeats 8000000

theorem digV_cons (n : Nat) (c : UInt8) (r : Tx) : digV n (c :: r) = digV (10 * n + (c.toNat - 48)) r := by
  unfold digV
  rw [List.foldl_cons, digS]
theorem digV_nil (n : Nat) : digV n [] = n := by
  unfold digV
  rw [List.foldl_nil]
theorem digV_ge : ∀ (r : Tx) (n : Nat), n ≤ digV n r
  | [], n => by rw [digV_nil]; exact Nat.le_refl _
  | c :: r, n => by
    have := digV_ge r (10 * n + (c.toNat - 48))
    rw [digV_cons]; omega
theorem digV_drop {ds : Tx} {i n : Nat} {c : UInt8} (h : ds[i]? = some c) : digV n (ds.drop i) = digV (10 * n + (c.toNat - 48)) (ds.drop (i + 1)) := by rw [drop_at h, digV_cons]
theorem inU64 {x : Int} (h1 : 0 ≤ x) (h2 : x ≤ 18446744073709551615) : inK .u64 x := by
  simp [inK, IntKind.min, IntKind.max, IntKind.signed, IntKind.bits]; omega
theorem Ev_mulU2 {P : Program} {L : Fr} {w : World} {ty t t' : TypeId} {xo yo : Operand} {x y : Int} (hx : opd L xo = some (.int .u64 x)) (hy : opd L yo = some (.int .u64 y)) : Ev P L (.binOp .mul t xo yo t') ty w (.int .u64 (x * y % 18446744073709551616)) w := by
  have := Ev_mulw (P := P) (t := t) (t' := t') (ty := ty) (w := w) hx hy
  rwa [IntKind.wrap_u64] at this
theorem wrap_neg {n : Nat} (h : n ≤ 9223372036854775808) : IntKind.i64.wrap (IntKind.u64.wrap (0 - (n : Int))) = -(n : Int) := by
  rw [IntKind.wrap_u64]
  simp only [IntKind.wrap, IntKind.signed, IntKind.bits]
  simp
  omega
theorem wrap_pos {n : Nat} (h : n ≤ 9223372036854775807) : IntKind.i64.wrap (n : Int) = (n : Int) := wrap_in (inI (by omega) (by omega))
theorem lval_any {w0 : World} (neg : Bool) (ds : Tx) (hd : ∀ c ∈ ds, 48 ≤ c.toNat ∧ c.toNat ≤ 57) (hl : ds.length ≤ 100000) : Cl Tryz.prog 155 [.bool neg, S ds] w0 (fun v w' => v = .tuple ⟨[I ((numV neg ds).getD 0), .bool (numV neg ds).isSome]⟩ ∧ St w0 NoneS [] w') := by
  have hSt := St.refl w0 NoneS
  refine enter Tryz.func155 rfl Tryz.ntmps155 rfl ?_
  cases neg
  · have hnv : numV false ds = if digV 0 ds ≤ 9223372036854775807 then some ((digV 0 ds : Int)) else none := rfl
    repeat' (first | refine stepA ?_ | (refine stepS ?_; clear hSt; intro w hSt; dsimp only [spl, List.set] at hSt) | (refine stepB ?_; clear hSt; intro w nb hnb hSt; dsimp only [zcells, List.nil_append, List.cons_append] at hSt) | (refine W_quiet hT (by decide +kernel) hSt ?_; clear hSt; (repeat' (first | (apply QL_ev rfl rfl; (intro w hSt; (first | exact Ev_auto))) | refine QL_pass rfl rfl ?_ | (refine QL_guardP rfl rfl (fun hc => ?_) (fun hc => ?_) <;> try exact absA) | (refine QL_guard rfl rfl (fun hc => ?_) (fun hc => ?_) <;> (try exact absA) <;> (fail_if_success (change true = true at hc)) <;> (fail_if_success (change false = false at hc))))); all_goals (refine QL_nil (fun w hSt => ?_))) | (refine stepG ?_ ?_ <;> intro hc <;> (try exact absA) <;> (fail_if_success (change true = true at hc)) <;> (fail_if_success (change false = false at hc))) | fail)
    refine W_loop2 (fun k (i : Nat) (n : Nat) w => k = ds.length - i ∧ i ≤ ds.length ∧ digV 0 ds = digV n (ds.drop i) ∧ n ≤ 9223372036854775807 ∧ St w0 NoneS [] w) (fun i n => [(13, I (i : Int)), (7, .int .u64 (n : Int))]) ds.length 0 0 rfl (by (repeat (first | exact Str.nil _ | apply Str.drop rfl | apply Str.keepU rfl | apply Str.keep rfl))) ⟨rfl, Nat.zero_le _, by rw [List.drop_zero], Nat.zero_le _, hSt⟩ (by (repeat (first | exact Sub.nil _ | refine Sub.cons rfl ?_))) ?_
    clear hSt
    rintro k i n w ⟨hk, hi, hdv, hn, hSt⟩ K hK
    by_cases hil : i < ds.length
    · obtain ⟨c, hc1⟩ : ∃ c, ds[i]? = some c := ⟨_, List.getElem?_eq_getElem hil⟩
      obtain ⟨c1, c2⟩ := hd c (List.mem_of_getElem? hc1)
      have hq : ds[(i : Int).toNat]? = some c := by rw [Int.toNat_natCast]; exact hc1
      rw [digV_drop hc1] at hdv
      have hge := digV_ge (ds.drop (i + 1)) (10 * n + (c.toNat - 48))
      have i1 : inK .u8 ((c.toNat : Int) - 48) := inU8 (by omega) (by omega)
      have i2 : inK .u64 ((c.toNat : Int) - 48) := inU64 (by omega) (by omega)
      have i3 : inK .u64 ((9223372036854775807 : Int) - ((c.toNat : Int) - 48)) := inU64 (by omega) (by omega)
      by_cases hov : 10 * n + (c.toNat - 48) ≤ 9223372036854775807
      · have e5 : (10 : Int) * (n : Int) % 18446744073709551616 = ((10 * n : Nat) : Int) := by omega
        have e6 : ((10 * n : Nat) : Int) + ((c.toNat : Int) - 48) = ((10 * n + (c.toNat - 48) : Nat) : Int) := by omega
        have i5 : inK .u64 (((10 * n : Nat) : Int) + ((c.toNat : Int) - 48)) := inU64 (by omega) (by omega)
        repeat' (first | (apply WL_ev rfl rfl; exact Ev_strIndex hT rfl rfl rfl (by omega) hq) | (apply WL_ev rfl rfl; exact Ev_subP rfl rfl i1) | (apply WL_ev rfl rfl; exact Ev_conv_in hT rfl rfl rfl i2) | (apply WL_ev rfl rfl; exact Ev_subP rfl rfl i3) | (apply WL_ev rfl rfl; exact Ev_quoP rfl rfl i3.1 i3 (by decide)) | (apply WL_ev rfl rfl; exact Ev_as (v2 := .int .u64 (((10 * n : Nat) : Int))) (Ev_mulU2 rfl rfl) (congrArg (Value.int .u64) e5)) | (apply WL_ev rfl rfl; exact Ev_as (v2 := .int .u64 (((10 * n + (c.toNat - 48) : Nat) : Int))) (Ev_addP rfl rfl i5) (congrArg (Value.int .u64) e6)) | refine stepA ?_ | (refine stepS ?_; clear hSt; intro w hSt; dsimp only [spl, List.set] at hSt) | (refine stepB ?_; clear hSt; intro w nb hnb hSt; dsimp only [zcells, List.nil_append, List.cons_append] at hSt) | (refine W_quiet hT (by decide +kernel) hSt ?_; clear hSt; (repeat' (first | (apply QL_ev rfl rfl; (intro w hSt; (first | (exact Ev_strIndex hT rfl rfl rfl (by omega) hq) | (exact Ev_subP rfl rfl i1) | (exact Ev_conv_in hT rfl rfl rfl i2) | (exact Ev_subP rfl rfl i3) | (exact Ev_quoP rfl rfl i3.1 i3 (by decide)) | (exact Ev_as (v2 := .int .u64 (((10 * n : Nat) : Int))) (Ev_mulU2 rfl rfl) (congrArg (Value.int .u64) e5)) | (exact Ev_as (v2 := .int .u64 (((10 * n + (c.toNat - 48) : Nat) : Int))) (Ev_addP rfl rfl i5) (congrArg (Value.int .u64) e6)) | exact Ev_auto))) | refine QL_pass rfl rfl ?_ | (refine QL_guardP rfl rfl (fun hc => ?_) (fun hc => ?_) <;> try exact absA) | (refine QL_guard rfl rfl (fun hc => ?_) (fun hc => ?_) <;> (try exact absA) <;> (fail_if_success (change true = true at hc)) <;> (fail_if_success (change false = false at hc))))); all_goals (refine QL_nil (fun w hSt => ?_))) | (refine stepG ?_ ?_ <;> intro hc <;> (try exact absA) <;> (fail_if_success (change true = true at hc)) <;> (fail_if_success (change false = false at hc))) | fail)
        all_goals try (exfalso; first | omega | (simp at hc; done) | (exact hc rfl) | contradiction)
        all_goals exact At_loop2 hK (k' := ds.length - (i + 1)) (i + 1) (10 * n + (c.toNat - 48)) (by omega) ⟨rfl, hil, hdv, hov, hSt⟩ (by (repeat (first | exact Sub.nil _ | refine Sub.cons rfl ?_)))
      · have hnn : numV false ds = none := by rw [hnv, if_neg (by omega)]
        repeat' (first | (apply WL_ev rfl rfl; exact Ev_strIndex hT rfl rfl rfl (by omega) hq) | (apply WL_ev rfl rfl; exact Ev_subP rfl rfl i1) | (apply WL_ev rfl rfl; exact Ev_conv_in hT rfl rfl rfl i2) | (apply WL_ev rfl rfl; exact Ev_subP rfl rfl i3) | (apply WL_ev rfl rfl; exact Ev_quoP rfl rfl i3.1 i3 (by decide)) | refine stepA ?_ | (refine stepS ?_; clear hSt; intro w hSt; dsimp only [spl, List.set] at hSt) | (refine stepB ?_; clear hSt; intro w nb hnb hSt; dsimp only [zcells, List.nil_append, List.cons_append] at hSt) | (refine W_quiet hT (by decide +kernel) hSt ?_; clear hSt; (repeat' (first | (apply QL_ev rfl rfl; (intro w hSt; (first | (exact Ev_strIndex hT rfl rfl rfl (by omega) hq) | (exact Ev_subP rfl rfl i1) | (exact Ev_conv_in hT rfl rfl rfl i2) | (exact Ev_subP rfl rfl i3) | (exact Ev_quoP rfl rfl i3.1 i3 (by decide)) | exact Ev_auto))) | refine QL_pass rfl rfl ?_ | (refine QL_guardP rfl rfl (fun hc => ?_) (fun hc => ?_) <;> try exact absA) | (refine QL_guard rfl rfl (fun hc => ?_) (fun hc => ?_) <;> (try exact absA) <;> (fail_if_success (change true = true at hc)) <;> (fail_if_success (change false = false at hc))))); all_goals (refine QL_nil (fun w hSt => ?_))) | (refine stepG ?_ ?_ <;> intro hc <;> (try exact absA) <;> (fail_if_success (change true = true at hc)) <;> (fail_if_success (change false = false at hc))) | fail)
        all_goals try (exfalso; first | omega | (simp at hc; done) | (exact hc rfl) | contradiction)
        all_goals exact ret2 rfl rfl rfl ⟨by rw [hnn]; rfl, hSt⟩
    · have hdn : digV 0 ds = n := by rw [hdv, List.drop_of_length_le (by omega), digV_nil]
      have hns : numV false ds = some ((digV 0 ds : Int)) := by rw [hnv, if_pos (by omega)]
      rw [hdn] at hns
      repeat' (first | (apply WL_ev rfl rfl; exact Ev_neg rfl) | (apply WL_ev rfl rfl; exact Ev_conv_int hT rfl rfl rfl) | refine stepA ?_ | (refine stepS ?_; clear hSt; intro w hSt; dsimp only [spl, List.set] at hSt) | (refine stepB ?_; clear hSt; intro w nb hnb hSt; dsimp only [zcells, List.nil_append, List.cons_append] at hSt) | (refine W_quiet hT (by decide +kernel) hSt ?_; clear hSt; (repeat' (first | (apply QL_ev rfl rfl; (intro w hSt; (first | (exact Ev_neg rfl) | (exact Ev_conv_int hT rfl rfl rfl) | exact Ev_auto))) | refine QL_pass rfl rfl ?_ | (refine QL_guardP rfl rfl (fun hc => ?_) (fun hc => ?_) <;> try exact absA) | (refine QL_guard rfl rfl (fun hc => ?_) (fun hc => ?_) <;> (try exact absA) <;> (fail_if_success (change true = true at hc)) <;> (fail_if_success (change false = false at hc))))); all_goals (refine QL_nil (fun w hSt => ?_))) | (refine stepG ?_ ?_ <;> intro hc <;> (try exact absA) <;> (fail_if_success (change true = true at hc)) <;> (fail_if_success (change false = false at hc))) | fail)
      all_goals try (exfalso; first | omega | (simp at hc; done) | (exact hc rfl) | contradiction)
      all_goals exact ret2 rfl rfl rfl ⟨by rw [hns]; rw [wrap_pos hn]; rfl, hSt⟩
  · have hnv : numV true ds = if digV 0 ds ≤ 9223372036854775808 then some (-(digV 0 ds : Int)) else none := rfl
    repeat' (first | refine stepA ?_ | (refine stepS ?_; clear hSt; intro w hSt; dsimp only [spl, List.set] at hSt) | (refine stepB ?_; clear hSt; intro w nb hnb hSt; dsimp only [zcells, List.nil_append, List.cons_append] at hSt) | (refine W_quiet hT (by decide +kernel) hSt ?_; clear hSt; (repeat' (first | (apply QL_ev rfl rfl; (intro w hSt; (first | exact Ev_auto))) | refine QL_pass rfl rfl ?_ | (refine QL_guardP rfl rfl (fun hc => ?_) (fun hc => ?_) <;> try exact absA) | (refine QL_guard rfl rfl (fun hc => ?_) (fun hc => ?_) <;> (try exact absA) <;> (fail_if_success (change true = true at hc)) <;> (fail_if_success (change false = false at hc))))); all_goals (refine QL_nil (fun w hSt => ?_))) | (refine stepG ?_ ?_ <;> intro hc <;> (try exact absA) <;> (fail_if_success (change true = true at hc)) <;> (fail_if_success (change false = false at hc))) | fail)
    refine W_loop2 (fun k (i : Nat) (n : Nat) w => k = ds.length - i ∧ i ≤ ds.length ∧ digV 0 ds = digV n (ds.drop i) ∧ n ≤ 9223372036854775808 ∧ St w0 NoneS [] w) (fun i n => [(13, I (i : Int)), (7, .int .u64 (n : Int))]) ds.length 0 0 rfl (by (repeat (first | exact Str.nil _ | apply Str.drop rfl | apply Str.keepU rfl | apply Str.keep rfl))) ⟨rfl, Nat.zero_le _, by rw [List.drop_zero], Nat.zero_le _, hSt⟩ (by (repeat (first | exact Sub.nil _ | refine Sub.cons rfl ?_))) ?_
    clear hSt
    rintro k i n w ⟨hk, hi, hdv, hn, hSt⟩ K hK
    by_cases hil : i < ds.length
    · obtain ⟨c, hc1⟩ : ∃ c, ds[i]? = some c := ⟨_, List.getElem?_eq_getElem hil⟩
      obtain ⟨c1, c2⟩ := hd c (List.mem_of_getElem? hc1)
      have hq : ds[(i : Int).toNat]? = some c := by rw [Int.toNat_natCast]; exact hc1
      rw [digV_drop hc1] at hdv
      have hge := digV_ge (ds.drop (i + 1)) (10 * n + (c.toNat - 48))
      have i1 : inK .u8 ((c.toNat : Int) - 48) := inU8 (by omega) (by omega)
      have i2 : inK .u64 ((c.toNat : Int) - 48) := inU64 (by omega) (by omega)
      have i3 : inK .u64 ((9223372036854775808 : Int) - ((c.toNat : Int) - 48)) := inU64 (by omega) (by omega)
      by_cases hov : 10 * n + (c.toNat - 48) ≤ 9223372036854775808
      · have e5 : (10 : Int) * (n : Int) % 18446744073709551616 = ((10 * n : Nat) : Int) := by omega
        have e6 : ((10 * n : Nat) : Int) + ((c.toNat : Int) - 48) = ((10 * n + (c.toNat - 48) : Nat) : Int) := by omega
        have i5 : inK .u64 (((10 * n : Nat) : Int) + ((c.toNat : Int) - 48)) := inU64 (by omega) (by omega)
        repeat' (first | (apply WL_ev rfl rfl; exact Ev_strIndex hT rfl rfl rfl (by omega) hq) | (apply WL_ev rfl rfl; exact Ev_subP rfl rfl i1) | (apply WL_ev rfl rfl; exact Ev_conv_in hT rfl rfl rfl i2) | (apply WL_ev rfl rfl; exact Ev_subP rfl rfl i3) | (apply WL_ev rfl rfl; exact Ev_quoP rfl rfl i3.1 i3 (by decide)) | (apply WL_ev rfl rfl; exact Ev_as (v2 := .int .u64 (((10 * n : Nat) : Int))) (Ev_mulU2 rfl rfl) (congrArg (Value.int .u64) e5)) | (apply WL_ev rfl rfl; exact Ev_as (v2 := .int .u64 (((10 * n + (c.toNat - 48) : Nat) : Int))) (Ev_addP rfl rfl i5) (congrArg (Value.int .u64) e6)) | refine stepA ?_ | (refine stepS ?_; clear hSt; intro w hSt; dsimp only [spl, List.set] at hSt) | (refine stepB ?_; clear hSt; intro w nb hnb hSt; dsimp only [zcells, List.nil_append, List.cons_append] at hSt) | (refine W_quiet hT (by decide +kernel) hSt ?_; clear hSt; (repeat' (first | (apply QL_ev rfl rfl; (intro w hSt; (first | (exact Ev_strIndex hT rfl rfl rfl (by omega) hq) | (exact Ev_subP rfl rfl i1) | (exact Ev_conv_in hT rfl rfl rfl i2) | (exact Ev_subP rfl rfl i3) | (exact Ev_quoP rfl rfl i3.1 i3 (by decide)) | (exact Ev_as (v2 := .int .u64 (((10 * n : Nat) : Int))) (Ev_mulU2 rfl rfl) (congrArg (Value.int .u64) e5)) | (exact Ev_as (v2 := .int .u64 (((10 * n + (c.toNat - 48) : Nat) : Int))) (Ev_addP rfl rfl i5) (congrArg (Value.int .u64) e6)) | exact Ev_auto))) | refine QL_pass rfl rfl ?_ | (refine QL_guardP rfl rfl (fun hc => ?_) (fun hc => ?_) <;> try exact absA) | (refine QL_guard rfl rfl (fun hc => ?_) (fun hc => ?_) <;> (try exact absA) <;> (fail_if_success (change true = true at hc)) <;> (fail_if_success (change false = false at hc))))); all_goals (refine QL_nil (fun w hSt => ?_))) | (refine stepG ?_ ?_ <;> intro hc <;> (try exact absA) <;> (fail_if_success (change true = true at hc)) <;> (fail_if_success (change false = false at hc))) | fail)
        all_goals try (exfalso; first | omega | (simp at hc; done) | (exact hc rfl) | contradiction)
        all_goals exact At_loop2 hK (k' := ds.length - (i + 1)) (i + 1) (10 * n + (c.toNat - 48)) (by omega) ⟨rfl, hil, hdv, hov, hSt⟩ (by (repeat (first | exact Sub.nil _ | refine Sub.cons rfl ?_)))
      · have hnn : numV true ds = none := by rw [hnv, if_neg (by omega)]
        repeat' (first | (apply WL_ev rfl rfl; exact Ev_strIndex hT rfl rfl rfl (by omega) hq) | (apply WL_ev rfl rfl; exact Ev_subP rfl rfl i1) | (apply WL_ev rfl rfl; exact Ev_conv_in hT rfl rfl rfl i2) | (apply WL_ev rfl rfl; exact Ev_subP rfl rfl i3) | (apply WL_ev rfl rfl; exact Ev_quoP rfl rfl i3.1 i3 (by decide)) | refine stepA ?_ | (refine stepS ?_; clear hSt; intro w hSt; dsimp only [spl, List.set] at hSt) | (refine stepB ?_; clear hSt; intro w nb hnb hSt; dsimp only [zcells, List.nil_append, List.cons_append] at hSt) | (refine W_quiet hT (by decide +kernel) hSt ?_; clear hSt; (repeat' (first | (apply QL_ev rfl rfl; (intro w hSt; (first | (exact Ev_strIndex hT rfl rfl rfl (by omega) hq) | (exact Ev_subP rfl rfl i1) | (exact Ev_conv_in hT rfl rfl rfl i2) | (exact Ev_subP rfl rfl i3) | (exact Ev_quoP rfl rfl i3.1 i3 (by decide)) | exact Ev_auto))) | refine QL_pass rfl rfl ?_ | (refine QL_guardP rfl rfl (fun hc => ?_) (fun hc => ?_) <;> try exact absA) | (refine QL_guard rfl rfl (fun hc => ?_) (fun hc => ?_) <;> (try exact absA) <;> (fail_if_success (change true = true at hc)) <;> (fail_if_success (change false = false at hc))))); all_goals (refine QL_nil (fun w hSt => ?_))) | (refine stepG ?_ ?_ <;> intro hc <;> (try exact absA) <;> (fail_if_success (change true = true at hc)) <;> (fail_if_success (change false = false at hc))) | fail)
        all_goals try (exfalso; first | omega | (simp at hc; done) | (exact hc rfl) | contradiction)
        all_goals exact ret2 rfl rfl rfl ⟨by rw [hnn]; rfl, hSt⟩
    · have hdn : digV 0 ds = n := by rw [hdv, List.drop_of_length_le (by omega), digV_nil]
      have hns : numV true ds = some (-(digV 0 ds : Int)) := by rw [hnv, if_pos (by omega)]
      rw [hdn] at hns
      repeat' (first | (apply WL_ev rfl rfl; exact Ev_neg rfl) | (apply WL_ev rfl rfl; exact Ev_conv_int hT rfl rfl rfl) | refine stepA ?_ | (refine stepS ?_; clear hSt; intro w hSt; dsimp only [spl, List.set] at hSt) | (refine stepB ?_; clear hSt; intro w nb hnb hSt; dsimp only [zcells, List.nil_append, List.cons_append] at hSt) | (refine W_quiet hT (by decide +kernel) hSt ?_; clear hSt; (repeat' (first | (apply QL_ev rfl rfl; (intro w hSt; (first | (exact Ev_neg rfl) | (exact Ev_conv_int hT rfl rfl rfl) | exact Ev_auto))) | refine QL_pass rfl rfl ?_ | (refine QL_guardP rfl rfl (fun hc => ?_) (fun hc => ?_) <;> try exact absA) | (refine QL_guard rfl rfl (fun hc => ?_) (fun hc => ?_) <;> (try exact absA) <;> (fail_if_success (change true = true at hc)) <;> (fail_if_success (change false = false at hc))))); all_goals (refine QL_nil (fun w hSt => ?_))) | (refine stepG ?_ ?_ <;> intro hc <;> (try exact absA) <;> (fail_if_success (change true = true at hc)) <;> (fail_if_success (change false = false at hc))) | fail)
      all_goals try (exfalso; first | omega | (simp at hc; done) | (exact hc rfl) | contradiction)
      all_goals exact ret2 rfl rfl rfl ⟨by rw [hns]; rw [wrap_neg hn]; rfl, hSt⟩
end Go.Proofs.YtknfankadlokhaaGreatDoor
