/- Goals: the specification's reading of a text. No conditions. -/
import Derived.Test.YtndkifkaejmibaaGreatDoorMK
import Derived.Test.YtndkifkaejmibaaGreatDoorMC

namespace Go.Proofs.YtndkifkaejmibaaGreatDoor
open Go.RowKit Go.Sort
set_option maxRecDepth 4000
set_option linter.unusedVariables false
set_option linter.unusedSimpArgs false
set_option maxHeartbeats 4000000

abbrev Ub (n : Int) : Value := .int .u8 n
theorem digs_at (s : List UInt8) : (∀ (j : Nat) (b : UInt8), j < (digs s).length → s[j]? = some b → (48 ≤ b.toNat ∧ b.toNat ≤ 57) ∧ (digs s)[j]? = some b) ∧ (∀ b, s[(digs s).length]? = some b → ¬ (48 ≤ b.toNat ∧ b.toNat ≤ 57)) := by
  constructor
  · intro j b hj hb
    have hp : digs s <+: s := List.takeWhile_prefix _
    have h1 : (digs s)[j]? = some b := by
      rw [List.getElem?_eq_getElem hj, hp.getElem hj, ← hb, List.getElem?_eq_getElem (Nat.lt_of_lt_of_le hj hp.length_le)]
    exact ⟨of_decide_eq_true (List.all_eq_true.1 (List.all_takeWhile (l := s) (p := isDig)) b (List.mem_of_getElem? h1)), h1⟩
  · intro b hb
    have hd : s = digs s ++ s.dropWhile isDig := (List.takeWhile_append_dropWhile ..).symm
    rw [congrArg (fun l => l[(digs s).length]?) hd, List.getElem?_append_right (Nat.le_refl _), Nat.sub_self] at hb
    cases hq : s.dropWhile isDig with
    | nil => rw [hq] at hb; cases hb
    | cons c r =>
      rw [hq] at hb
      simp only [List.getElem?_cons_zero, Option.some.injEq] at hb
      subst hb
      have := List.head?_dropWhile_not isDig s
      rw [hq] at this
      simp only [List.head?_cons] at this
      have hn : isDig c = false := by simpa using this
      exact of_decide_eq_false hn
theorem digs_len (s : List UInt8) : (digs s).length ≤ s.length := (List.takeWhile_sublist _).length_le
theorem digs_val {s : List UInt8} : ∃ f : Nat → Nat, f 0 = 0 ∧ (∀ (j : Nat) (b : UInt8), (digs s)[j]? = some b → f (j + 1) = f j * 10 + (b.toNat - 48)) ∧ (∀ j, f j < 10 ^ j) ∧ f (digs s).length = (Lib.decFrom 0 (digs s)).getD 0 := by
  have hall : ∀ l : List UInt8, (∀ b ∈ l, 48 ≤ b.toNat ∧ b.toNat ≤ 57) → ∀ acc, ∃ n, Lib.decFrom acc l = some n := by
    intro l
    induction l with
    | nil => intro _ acc; exact ⟨acc, rfl⟩
    | cons b l ih =>
      intro h acc
      have hb := h b List.mem_cons_self
      simp only [Lib.decFrom, Lib.digitVal, if_pos hb]
      exact ih (fun x hx => h x (List.mem_cons_of_mem _ hx)) _
  have hd : ∀ b ∈ digs s, 48 ≤ b.toNat ∧ b.toNat ≤ 57 := fun b hb => of_decide_eq_true (List.all_eq_true.1 (List.all_takeWhile (l := s) (p := isDig)) b hb)
  refine ⟨fun j => (Lib.decFrom 0 ((digs s).take j)).getD 0, rfl, ?_, ?_, ?_⟩
  · intro j b hb
    obtain ⟨n, hn⟩ := hall ((digs s).take j) (fun x hx => hd x (List.mem_of_mem_take hx)) 0
    have hbd := hd b (List.mem_of_getElem? hb)
    have := Lib.decFrom_take (digs s) j 0 n b (b.toNat - 48) hn hb (by simp [Lib.digitVal, hbd])
    simp only [this, hn, Option.getD_some]
  · intro j
    obtain ⟨n, hn⟩ := hall ((digs s).take j) (fun x hx => hd x (List.mem_of_mem_take hx)) 0
    have h1 := Lib.decFrom_lt _ _ _ hn
    simp only [hn, Option.getD_some]
    refine Nat.lt_of_lt_of_le h1 ?_
    rw [Nat.zero_add, Nat.one_mul]
    exact Nat.pow_le_pow_right (by decide) (by rw [List.length_take]; omega)
  · simp only [List.take_length]
def rnumV (s : List UInt8) (a : Nat) (m : UInt8) : Value := match numR (s.drop a) m with
  | none => .tuple ⟨[I 0, I 0, B false]⟩
  | some (n, _) => .tuple ⟨[I n, I (((a + (digs (s.drop a)).length + 1 : Nat)) : Int), B true]⟩
theorem rnumber_any {w0 : World} (s : List UInt8) (a : Nat) (m : UInt8) (hm : isDig m = false) (hl : s.length ≤ 8100) (ha : a ≤ s.length) : Cl Tryz.prog 120 [S s, I (a : Int), Ub m.toNat] w0 (fun v w' => v = rnumV s a m ∧ St w0 NoneS [] w') := by
  have hSt := St.refl w0 NoneS
  obtain ⟨hd1, hd2⟩ := digs_at (s.drop a)
  have hdl := digs_len (s.drop a)
  rw [List.length_drop] at hdl
  obtain ⟨f, hf0, hf1, hf2, hf3⟩ := digs_val (s := s.drop a)
  have hmn : ¬ (48 ≤ m.toNat ∧ m.toNat ≤ 57) := of_decide_eq_false hm
  have hgen : numR (s.drop a) m = if digs (s.drop a) ≠ [] ∧ (digs (s.drop a)).length ≤ 14 ∧ (s.drop a)[(digs (s.drop a)).length]? = some m then some (((f (digs (s.drop a)).length : Nat) : Int), (s.drop a).drop ((digs (s.drop a)).length + 1)) else none := by
    rw [hf3]; rfl
  have hne : digs (s.drop a) ≠ [] ↔ 0 < (digs (s.drop a)).length := by rw [← List.length_pos_iff]
  refine enter Tryz.func120 rfl Tryz.ntmps120 rfl ?_
  unfold rnumV
  rw [hgen]
  clear hgen
  have hp : ∀ j, j ≤ 15 → f j < 1000000000000000 := fun j hj => Nat.lt_of_lt_of_le (hf2 j) (Nat.pow_le_pow_right (by decide) hj)
  generalize hL : (digs (s.drop a)).length = L at *
  repeat' (first | refine stepA ?_ | (refine stepS ?_; clear hSt; intro w hSt; dsimp only [spl, List.set] at hSt) | (refine stepB ?_; clear hSt; intro w nb hnb hSt; dsimp only [zcells, List.nil_append, List.cons_append] at hSt) | (refine W_quiet hT (by decide +kernel) hSt ?_; clear hSt; (repeat' (first | (apply QL_ev rfl rfl; (intro w hSt; (first | exact Ev_auto))) | refine QL_pass rfl rfl ?_ | (refine QL_guardP rfl rfl (fun hc => ?_) (fun hc => ?_) <;> try exact absA) | (refine QL_guard rfl rfl (fun hc => ?_) (fun hc => ?_) <;> (try exact absA) <;> (fail_if_success (change true = true at hc)) <;> (fail_if_success (change false = false at hc))))); all_goals (refine QL_nil (fun w hSt => ?_))) | (refine stepG ?_ ?_ <;> intro hc <;> (try exact absA) <;> (fail_if_success (change true = true at hc)) <;> (fail_if_success (change false = false at hc))) | fail)
  refine W_loop1 (fun k (j : Nat) w => k = L + 16 - j ∧ j ≤ L ∧ j ≤ 15 ∧ St w0 NoneS [] w) (fun j => [(10, I ((a + j : Nat) : Int)), (9, I ((f j : Nat) : Int))]) (L + 16) 0 rfl (by (repeat (first | exact Str.nil _ | apply Str.drop rfl | apply Str.keepU rfl | apply Str.keep rfl))) ⟨rfl, by omega, by omega, hSt⟩ (by rw [hf0]; (repeat (first | exact Sub.nil _ | refine Sub.cons rfl ?_))) ?_
  clear hSt
  rintro k j w ⟨hk, hj, hj15, hSt⟩ K hK
  have hpj := hp j hj15
  by_cases hjl : j < L
  · obtain ⟨b, hb⟩ : ∃ b, (s.drop a)[j]? = some b := ⟨_, List.getElem?_eq_getElem (by rw [List.length_drop]; omega)⟩
    obtain ⟨hbd, hbg⟩ := hd1 j b hjl hb
    have hbl := b.toNat_lt
    have hfj := hf1 j b hbg
    rw [List.getElem?_drop] at hb
    have hq : s[((a + j : Nat) : Int).toNat]? = some b := by rw [Int.toNat_natCast]; exact hb
    by_cases h15 : j < 15
    · repeat' (first | (apply WL_ev rfl rfl; exact Ev_strIndex hT rfl rfl rfl (by omega) hq) | (apply WL_ev rfl rfl; exact Ev_subP rfl rfl (inU8 (by omega) (by omega))) | (apply WL_ev rfl rfl; exact Ev_conv_in hT rfl rfl rfl (inI (by omega) (by omega))) | (apply WL_ev rfl rfl; exact Ev_mul rfl rfl (by omega)) | refine stepA ?_ | (refine stepS ?_; clear hSt; intro w hSt; dsimp only [spl, List.set] at hSt) | (refine stepB ?_; clear hSt; intro w nb hnb hSt; dsimp only [zcells, List.nil_append, List.cons_append] at hSt) | (refine W_quiet hT (by decide +kernel) hSt ?_; clear hSt; (repeat' (first | (apply QL_ev rfl rfl; (intro w hSt; (first | (exact Ev_strIndex hT rfl rfl rfl (by omega) hq) | (exact Ev_subP rfl rfl (inU8 (by omega) (by omega))) | (exact Ev_conv_in hT rfl rfl rfl (inI (by omega) (by omega))) | (exact Ev_mul rfl rfl (by omega)) | exact Ev_auto))) | refine QL_pass rfl rfl ?_ | (refine QL_guardP rfl rfl (fun hc => ?_) (fun hc => ?_) <;> try exact absA) | (refine QL_guard rfl rfl (fun hc => ?_) (fun hc => ?_) <;> (try exact absA) <;> (fail_if_success (change true = true at hc)) <;> (fail_if_success (change false = false at hc))))); all_goals (refine QL_nil (fun w hSt => ?_))) | (refine stepG ?_ ?_ <;> intro hc <;> (try exact absA) <;> (fail_if_success (change true = true at hc)) <;> (fail_if_success (change false = false at hc))) | fail)
      all_goals try (exfalso; omega)
      refine At_loop1 hK (k' := L + 16 - (j + 1)) (j + 1) (by omega) ⟨rfl, by omega, by omega, hSt⟩ ?_
      have e1 : ((f (j + 1) : Nat) : Int) = 10 * (f j : Int) + ((b.toNat : Int) - 48) := by rw [hfj]; omega
      have e2 : ((a + (j + 1) : Nat) : Int) = ((a + j : Nat) : Int) + 1 := by omega
      rw [e1, e2]
      (repeat (first | exact Sub.nil _ | refine Sub.cons rfl ?_))
    · rw [if_neg (by omega)]
      repeat' (first | refine stepA ?_ | (refine stepS ?_; clear hSt; intro w hSt; dsimp only [spl, List.set] at hSt) | (refine stepB ?_; clear hSt; intro w nb hnb hSt; dsimp only [zcells, List.nil_append, List.cons_append] at hSt) | (refine W_quiet hT (by decide +kernel) hSt ?_; clear hSt; (repeat' (first | (apply QL_ev rfl rfl; (intro w hSt; (first | exact Ev_auto))) | refine QL_pass rfl rfl ?_ | (refine QL_guardP rfl rfl (fun hc => ?_) (fun hc => ?_) <;> try exact absA) | (refine QL_guard rfl rfl (fun hc => ?_) (fun hc => ?_) <;> (try exact absA) <;> (fail_if_success (change true = true at hc)) <;> (fail_if_success (change false = false at hc))))); all_goals (refine QL_nil (fun w hSt => ?_))) | (refine stepG ?_ ?_ <;> intro hc <;> (try exact absA) <;> (fail_if_success (change true = true at hc)) <;> (fail_if_success (change false = false at hc))) | fail)
      all_goals try (exfalso; omega)
      exact ret3 rfl rfl rfl rfl ⟨rfl, hSt⟩
  · have hjL : j = L := by omega
    subst hjL
    by_cases hend : a + j < s.length
    · obtain ⟨b, hb⟩ : ∃ b, (s.drop a)[j]? = some b := ⟨_, List.getElem?_eq_getElem (by rw [List.length_drop]; omega)⟩
      have hbd := hd2 b hb
      have hbl := b.toNat_lt
      have hq : s[((a + j : Nat) : Int).toNat]? = some b := by rw [Int.toNat_natCast, ← List.getElem?_drop]; exact hb
      by_cases h15 : j < 15
      · by_cases hbm : b = m ∧ 0 < j
        · obtain ⟨rfl, h0⟩ := hbm
          rw [if_pos ⟨hne.2 h0, by omega, hb⟩]
          repeat' (first | (apply WL_ev rfl rfl; exact Ev_strIndex hT rfl rfl rfl (by omega) hq) | refine stepA ?_ | (refine stepS ?_; clear hSt; intro w hSt; dsimp only [spl, List.set] at hSt) | (refine stepB ?_; clear hSt; intro w nb hnb hSt; dsimp only [zcells, List.nil_append, List.cons_append] at hSt) | (refine W_quiet hT (by decide +kernel) hSt ?_; clear hSt; (repeat' (first | (apply QL_ev rfl rfl; (intro w hSt; (first | (exact Ev_strIndex hT rfl rfl rfl (by omega) hq) | exact Ev_auto))) | refine QL_pass rfl rfl ?_ | (refine QL_guardP rfl rfl (fun hc => ?_) (fun hc => ?_) <;> try exact absA) | (refine QL_guard rfl rfl (fun hc => ?_) (fun hc => ?_) <;> (try exact absA) <;> (fail_if_success (change true = true at hc)) <;> (fail_if_success (change false = false at hc))))); all_goals (refine QL_nil (fun w hSt => ?_))) | (refine stepG ?_ ?_ <;> intro hc <;> (try exact absA) <;> (fail_if_success (change true = true at hc)) <;> (fail_if_success (change false = false at hc))) | fail)
          all_goals try (exfalso; omega)
          all_goals refine ret3 rfl rfl rfl rfl ⟨?_, hSt⟩
          all_goals rw [show ((a + j + 1 : Nat) : Int) = ((a + j : Nat) : Int) + 1 by omega]
        · rw [if_neg (by rw [hb]; rintro ⟨h1, h2, h3⟩; injection h3 with h3; exact hbm ⟨h3, hne.1 h1⟩)]
          have hbm' : ¬ ((b.toNat : Int) = m.toNat ∧ 0 < j) := fun e => hbm ⟨UInt8.toNat_inj.1 (by omega), e.2⟩
          repeat' (first | (apply WL_ev rfl rfl; exact Ev_strIndex hT rfl rfl rfl (by omega) hq) | refine stepA ?_ | (refine stepS ?_; clear hSt; intro w hSt; dsimp only [spl, List.set] at hSt) | (refine stepB ?_; clear hSt; intro w nb hnb hSt; dsimp only [zcells, List.nil_append, List.cons_append] at hSt) | (refine W_quiet hT (by decide +kernel) hSt ?_; clear hSt; (repeat' (first | (apply QL_ev rfl rfl; (intro w hSt; (first | (exact Ev_strIndex hT rfl rfl rfl (by omega) hq) | exact Ev_auto))) | refine QL_pass rfl rfl ?_ | (refine QL_guardP rfl rfl (fun hc => ?_) (fun hc => ?_) <;> try exact absA) | (refine QL_guard rfl rfl (fun hc => ?_) (fun hc => ?_) <;> (try exact absA) <;> (fail_if_success (change true = true at hc)) <;> (fail_if_success (change false = false at hc))))); all_goals (refine QL_nil (fun w hSt => ?_))) | (refine stepG ?_ ?_ <;> intro hc <;> (try exact absA) <;> (fail_if_success (change true = true at hc)) <;> (fail_if_success (change false = false at hc))) | fail)
          all_goals first | exact ret3 rfl rfl rfl rfl ⟨rfl, hSt⟩ | (exfalso; omega)
      · rw [if_neg (by omega)]
        repeat' (first | refine stepA ?_ | (refine stepS ?_; clear hSt; intro w hSt; dsimp only [spl, List.set] at hSt) | (refine stepB ?_; clear hSt; intro w nb hnb hSt; dsimp only [zcells, List.nil_append, List.cons_append] at hSt) | (refine W_quiet hT (by decide +kernel) hSt ?_; clear hSt; (repeat' (first | (apply QL_ev rfl rfl; (intro w hSt; (first | exact Ev_auto))) | refine QL_pass rfl rfl ?_ | (refine QL_guardP rfl rfl (fun hc => ?_) (fun hc => ?_) <;> try exact absA) | (refine QL_guard rfl rfl (fun hc => ?_) (fun hc => ?_) <;> (try exact absA) <;> (fail_if_success (change true = true at hc)) <;> (fail_if_success (change false = false at hc))))); all_goals (refine QL_nil (fun w hSt => ?_))) | (refine stepG ?_ ?_ <;> intro hc <;> (try exact absA) <;> (fail_if_success (change true = true at hc)) <;> (fail_if_success (change false = false at hc))) | fail)
        all_goals try (exfalso; omega)
        exact ret3 rfl rfl rfl rfl ⟨rfl, hSt⟩
    · rw [if_neg (by rw [List.getElem?_eq_none (by rw [List.length_drop]; omega)]; rintro ⟨_, _, h⟩; cases h)]
      repeat' (first | refine stepA ?_ | (refine stepS ?_; clear hSt; intro w hSt; dsimp only [spl, List.set] at hSt) | (refine stepB ?_; clear hSt; intro w nb hnb hSt; dsimp only [zcells, List.nil_append, List.cons_append] at hSt) | (refine W_quiet hT (by decide +kernel) hSt ?_; clear hSt; (repeat' (first | (apply QL_ev rfl rfl; (intro w hSt; (first | exact Ev_auto))) | refine QL_pass rfl rfl ?_ | (refine QL_guardP rfl rfl (fun hc => ?_) (fun hc => ?_) <;> try exact absA) | (refine QL_guard rfl rfl (fun hc => ?_) (fun hc => ?_) <;> (try exact absA) <;> (fail_if_success (change true = true at hc)) <;> (fail_if_success (change false = false at hc))))); all_goals (refine QL_nil (fun w hSt => ?_))) | (refine stepG ?_ ?_ <;> intro hc <;> (try exact absA) <;> (fail_if_success (change true = true at hc)) <;> (fail_if_success (change false = false at hc))) | fail)
      all_goals try (exfalso; omega)
      exact ret3 rfl rfl rfl rfl ⟨rfl, hSt⟩
theorem numR_some {s r : List UInt8} {m : UInt8} {n : Int} (h : numR s m = some (n, r)) : r = s.drop ((digs s).length + 1) ∧ (digs s).length + 1 ≤ s.length ∧ 0 ≤ n ∧ n < 1000000000000000 := by
  unfold numR at h
  split at h
  · rename_i h1
    simp only [Option.some.injEq, Prod.mk.injEq] at h
    obtain ⟨f, _, _, hf2, hf3⟩ := digs_val (s := s)
    have := hf2 (digs s).length
    have h4 : (10 : Nat) ^ (digs s).length ≤ 10 ^ 14 := Nat.pow_le_pow_right (by decide) h1.2.1
    rw [hf3] at this
    have h3 := (List.getElem?_eq_some_iff.1 h1.2.2).1
    exact ⟨h.2.symm, h3, by omega, by omega⟩
  · cases h
theorem rnumber_none {w0 : World} {s : List UInt8} {a : Nat} {m : UInt8} (hm : isDig m = false) (hl : s.length ≤ 8100) (ha : a ≤ s.length) (h : numR (s.drop a) m = none) : Cl Tryz.prog 120 [S s, I (a : Int), Ub m.toNat] w0 (fun v w' => v = .tuple ⟨[I 0, I 0, B false]⟩ ∧ St w0 NoneS [] w') := by
  have := rnumber_any (w0 := w0) s a m hm hl ha
  unfold rnumV at this
  rw [h] at this
  exact this
theorem rnumber_some {s r : List UInt8} {a : Nat} {m : UInt8} {n : Int} (hm : isDig m = false) (hl : s.length ≤ 8100) (ha : a ≤ s.length) (h : numR (s.drop a) m = some (n, r)) : ∃ a' : Nat, a' ≤ s.length ∧ s.drop a' = r ∧ ∀ {w1 : World}, Cl Tryz.prog 120 [S s, I (a : Int), Ub m.toNat] w1 (fun v w' => v = .tuple ⟨[I n, I (a' : Int), B true]⟩ ∧ St w1 NoneS [] w') := by
  obtain ⟨h1, h2, _⟩ := numR_some h
  rw [List.length_drop] at h2
  refine ⟨a + (digs (s.drop a)).length + 1, by omega, by rw [h1, List.drop_drop, Nat.add_assoc], fun {w1} => ?_⟩
  have := rnumber_any (w0 := w1) s a m hm hl ha
  unfold rnumV at this
  rw [h] at this
  exact this
theorem rtext_none {w0 : World} {s : List UInt8} {a : Nat} (hl : s.length ≤ 8100) (ha : a ≤ s.length) (h : textP numR (s.drop a) = none) : Cl Tryz.prog 121 [S s, I (a : Int)] w0 (fun v w' => v = .tuple ⟨[S [], I 0, B false]⟩ ∧ St w0 NoneS [] w') := by
  have hSt := St.refl w0 NoneS
  refine enter Tryz.func121 rfl Tryz.ntmps121 rfl ?_
  unfold textP at h
  cases hn : numR (s.drop a) 58 with
  | none =>
    repeat' (first | (refine WL_isCall (f := 120) ?_; refine WL_call (ok_call hT rfl) rfl rfl rfl (rnumber_none (m := 58) rfl hl ha hn) ?_; rintro v w' ⟨rfl, hc2⟩; replace hSt := hSt.call0 hc2; clear hc2) | refine stepA ?_ | (refine stepS ?_; clear hSt; intro w hSt; dsimp only [spl, List.set] at hSt) | (refine stepB ?_; clear hSt; intro w nb hnb hSt; dsimp only [zcells, List.nil_append, List.cons_append] at hSt) | (refine W_quiet hT (by decide +kernel) hSt ?_; clear hSt; (repeat' (first | (apply QL_ev rfl rfl; (intro w hSt; (first | exact Ev_auto))) | refine QL_pass rfl rfl ?_ | (refine QL_guardP rfl rfl (fun hc => ?_) (fun hc => ?_) <;> try exact absA) | (refine QL_guard rfl rfl (fun hc => ?_) (fun hc => ?_) <;> (try exact absA) <;> (fail_if_success (change true = true at hc)) <;> (fail_if_success (change false = false at hc))))); all_goals (refine QL_nil (fun w hSt => ?_))) | (refine stepG ?_ ?_ <;> intro hc <;> (try exact absA) <;> (fail_if_success (change true = true at hc)) <;> (fail_if_success (change false = false at hc))) | fail)
    exact ret3 rfl rfl rfl rfl ⟨rfl, hSt⟩
  | some x =>
    obtain ⟨n, r⟩ := x
    obtain ⟨a', ha', hr, hcon⟩ := rnumber_some (m := 58) rfl hl ha hn
    obtain ⟨_, _, hn0, hn1⟩ := numR_some hn
    rw [hn] at h
    have h0 : ¬ (0 ≤ n ∧ n ≤ r.length) := fun e => by simp only [if_pos e] at h; cases h
    rw [← hr, List.length_drop] at h0
    repeat' (first | (refine WL_isCall (f := 120) ?_; refine WL_call (ok_call hT rfl) rfl rfl rfl (hcon) ?_; rintro v w' ⟨rfl, hc2⟩; replace hSt := hSt.call0 hc2; clear hc2) | refine stepA ?_ | (refine stepS ?_; clear hSt; intro w hSt; dsimp only [spl, List.set] at hSt) | (refine stepB ?_; clear hSt; intro w nb hnb hSt; dsimp only [zcells, List.nil_append, List.cons_append] at hSt) | (refine W_quiet hT (by decide +kernel) hSt ?_; clear hSt; (repeat' (first | (apply QL_ev rfl rfl; (intro w hSt; (first | exact Ev_auto))) | refine QL_pass rfl rfl ?_ | (refine QL_guardP rfl rfl (fun hc => ?_) (fun hc => ?_) <;> try exact absA) | (refine QL_guard rfl rfl (fun hc => ?_) (fun hc => ?_) <;> (try exact absA) <;> (fail_if_success (change true = true at hc)) <;> (fail_if_success (change false = false at hc))))); all_goals (refine QL_nil (fun w hSt => ?_))) | (refine stepG ?_ ?_ <;> intro hc <;> (try exact absA) <;> (fail_if_success (change true = true at hc)) <;> (fail_if_success (change false = false at hc))) | fail)
    all_goals first | exact ret3 rfl rfl rfl rfl ⟨rfl, hSt⟩ | (exfalso; omega)
theorem rtext_some {s q r : List UInt8} {a : Nat} (hl : s.length ≤ 8100) (ha : a ≤ s.length) (h : textP numR (s.drop a) = some (q, r)) : ∃ a' : Nat, a' ≤ s.length ∧ s.drop a' = r ∧ ∀ {w1 : World}, Cl Tryz.prog 121 [S s, I (a : Int)] w1 (fun v w' => v = .tuple ⟨[S q, I (a' : Int), B true]⟩ ∧ St w1 NoneS [] w') := by
  unfold textP at h
  cases hn : numR (s.drop a) 58 with
  | none => rw [hn] at h; cases h
  | some x =>
    obtain ⟨n, r0⟩ := x
    obtain ⟨a', ha', hr, hcon⟩ := rnumber_some (m := 58) rfl hl ha hn
    obtain ⟨_, _, hn0, hn1⟩ := numR_some hn
    rw [hn] at h
    have h0 : 0 ≤ n ∧ n ≤ r0.length := by
      by_cases e : 0 ≤ n ∧ n ≤ r0.length
      · exact e
      · simp only [if_neg e] at h; cases h
    simp only [if_pos h0, Option.some.injEq, Prod.mk.injEq] at h
    obtain ⟨rfl, rfl⟩ := h
    rw [← hr, List.length_drop] at h0
    refine ⟨a' + n.toNat, by omega, by rw [← hr, List.drop_drop], fun {w0} => ?_⟩
    have hSt := St.refl w0 NoneS
    refine enter Tryz.func121 rfl Tryz.ntmps121 rfl ?_
    repeat' (first | (refine WL_isCall (f := 120) ?_; refine WL_call (ok_call hT rfl) rfl rfl rfl (hcon) ?_; rintro v w' ⟨rfl, hc2⟩; replace hSt := hSt.call0 hc2; clear hc2) | refine stepA ?_ | (refine stepS ?_; clear hSt; intro w hSt; dsimp only [spl, List.set] at hSt) | (refine stepB ?_; clear hSt; intro w nb hnb hSt; dsimp only [zcells, List.nil_append, List.cons_append] at hSt) | (refine W_quiet hT (by decide +kernel) hSt ?_; clear hSt; (repeat' (first | (apply QL_ev rfl rfl; (intro w hSt; (first | exact Ev_auto))) | refine QL_pass rfl rfl ?_ | (refine QL_guardP rfl rfl (fun hc => ?_) (fun hc => ?_) <;> try exact absA) | (refine QL_guard rfl rfl (fun hc => ?_) (fun hc => ?_) <;> (try exact absA) <;> (fail_if_success (change true = true at hc)) <;> (fail_if_success (change false = false at hc))))); all_goals (refine QL_nil (fun w hSt => ?_))) | (refine stepG ?_ ?_ <;> intro hc <;> (try exact absA) <;> (fail_if_success (change true = true at hc)) <;> (fail_if_success (change false = false at hc))) | fail)
    all_goals try (exfalso; omega)
    refine ret3 rfl rfl rfl rfl ⟨?_, hSt⟩
    rw [show ((a' + n.toNat : Nat) : Int) = (a' : Int) + n by omega, ← hr, Int.toNat_natCast, show ((a' : Int) + n).toNat - a' = n.toNat by omega]
set_option maxHeartbeats 16000000 in
theorem rdecode_any {w0 : World} (s : List UInt8) : Cl Tryz.prog 97 [S s] w0 (fun v w' => ∃ c n st a e q x er, decG s = (⟨c, n, st, a, e, q, x⟩, er) ∧ v = .tuple ⟨[goV c n st a e q x, I er]⟩ ∧ St w0 NoneS [] w') := by
  have hSt := St.refl w0 NoneS
  refine enter Tryz.func97 rfl Tryz.ntmps97 rfl ?_
  by_cases hl : 8100 < s.length
  · repeat' (first | refine stepA ?_ | (refine stepS ?_; clear hSt; intro w hSt; dsimp only [spl, List.set] at hSt) | (refine stepB ?_; clear hSt; intro w nb hnb hSt; dsimp only [zcells, List.nil_append, List.cons_append] at hSt) | (refine W_quiet hT (by decide +kernel) hSt ?_; clear hSt; (repeat' (first | (apply QL_ev rfl rfl; (intro w hSt; (first | exact Ev_auto))) | refine QL_pass rfl rfl ?_ | (refine QL_guardP rfl rfl (fun hc => ?_) (fun hc => ?_) <;> try exact absA) | (refine QL_guard rfl rfl (fun hc => ?_) (fun hc => ?_) <;> (try exact absA) <;> (fail_if_success (change true = true at hc)) <;> (fail_if_success (change false = false at hc))))); all_goals (refine QL_nil (fun w hSt => ?_))) | (refine stepG ?_ ?_ <;> intro hc <;> (try exact absA) <;> (fail_if_success (change true = true at hc)) <;> (fail_if_success (change false = false at hc))) | fail)
    all_goals try (exfalso; omega)
    exact end_of (resc2 rfl hT rfl rfl rfl (hSt.at 0 rfl) rfl rfl) ⟨_, _, _, _, _, _, _, _, dec_long hl, rfl, hSt.nil⟩
  · replace hl : s.length ≤ 8100 := by omega
    repeat' (first | refine stepA ?_ | (refine stepS ?_; clear hSt; intro w hSt; dsimp only [spl, List.set] at hSt) | (refine stepB ?_; clear hSt; intro w nb hnb hSt; dsimp only [zcells, List.nil_append, List.cons_append] at hSt) | (refine W_quiet hT (by decide +kernel) hSt ?_; clear hSt; (repeat' (first | (apply QL_ev rfl rfl; (intro w hSt; (first | exact Ev_auto))) | refine QL_pass rfl rfl ?_ | (refine QL_guardP rfl rfl (fun hc => ?_) (fun hc => ?_) <;> try exact absA) | (refine QL_guard rfl rfl (fun hc => ?_) (fun hc => ?_) <;> (try exact absA) <;> (fail_if_success (change true = true at hc)) <;> (fail_if_success (change false = false at hc))))); all_goals (refine QL_nil (fun w hSt => ?_))) | (refine stepG ?_ ?_ <;> intro hc <;> (try exact absA) <;> (fail_if_success (change true = true at hc)) <;> (fail_if_success (change false = false at hc))) | fail)
    all_goals try (exfalso; omega)
    refine W_loop3 (fun k (ns : List Int) (v : Value) (at_ : Nat) w => k = 5 - ns.length ∧ ns.length ≤ 5 ∧ at_ ≤ s.length ∧ numsP numR 5 s = (numsP numR (5 - ns.length) (s.drop at_)).map (fun x => (ns ++ x.1, x.2)) ∧ ∃ H1, OwnSl v 3 1 (ns.map I) ns.length H1 ∧ St w0 NoneS ([_] ++ H1) w) (fun ns v at_ => [(4, v), (5, I (at_ : Int))]) 5 [] (.slice none 0 0) 0 rfl (by (repeat (first | exact Str.nil _ | apply Str.drop rfl | apply Str.keepU rfl | apply Str.keep rfl))) ⟨rfl, by simp, by omega, by simp, [], OwnSl.nil _ _, hSt⟩ (by (repeat (first | exact Sub.nil _ | refine Sub.cons rfl ?_))) ?_
    clear hSt
    rintro k ns v at_ w ⟨hk, hi, hat, hpp, H1, ho, hSt⟩ K hK
    have hho := ho
    obtain ⟨oa, oc, rfl⟩ := ho.len
    dsimp only [List.cons_append, List.nil_append] at hSt
    by_cases hil : ns.length < 5
    · rw [show 5 - ns.length = (5 - (ns.length + 1)) + 1 by omega, numsP_step numR (5 - (ns.length + 1)) (s.drop at_)] at hpp
      cases hn : numR (s.drop at_) 32 with
      | none =>
        rw [hn] at hpp
        repeat' (first | (refine WL_isCall (f := 120) ?_; refine WL_call (ok_call hT rfl) rfl rfl rfl (rnumber_none (m := 32) rfl hl hat hn) ?_; rintro v w' ⟨rfl, hc2⟩; replace hSt := hSt.call0 hc2; clear hc2) | refine stepA ?_ | (refine stepS ?_; clear hSt; intro w hSt; dsimp only [spl, List.set] at hSt) | (refine stepB ?_; clear hSt; intro w nb hnb hSt; dsimp only [zcells, List.nil_append, List.cons_append] at hSt) | (refine W_quiet hT (by decide +kernel) hSt ?_; clear hSt; (repeat' (first | (apply QL_ev rfl rfl; (intro w hSt; (first | exact Ev_auto))) | refine QL_pass rfl rfl ?_ | (refine QL_guardP rfl rfl (fun hc => ?_) (fun hc => ?_) <;> try exact absA) | (refine QL_guard rfl rfl (fun hc => ?_) (fun hc => ?_) <;> (try exact absA) <;> (fail_if_success (change true = true at hc)) <;> (fail_if_success (change false = false at hc))))); all_goals (refine QL_nil (fun w hSt => ?_))) | (refine stepG ?_ ?_ <;> intro hc <;> (try exact absA) <;> (fail_if_success (change true = true at hc)) <;> (fail_if_success (change false = false at hc))) | fail)
        all_goals try (exfalso; omega)
        exact end_of (resc2 rfl hT rfl rfl rfl (hSt.at 0 rfl) rfl rfl) ⟨_, _, _, _, _, _, _, _, dec_bad goodR hl (.nums hpp), rfl, hSt.nil⟩
      | some x =>
        obtain ⟨n, r'⟩ := x
        obtain ⟨a', ha', hr', hcon⟩ := rnumber_some (m := 32) rfl hl hat hn
        rw [hn] at hpp
        repeat' (first | (refine WL_isCall (f := 120) ?_; refine WL_call (ok_call hT rfl) rfl rfl rfl (hcon) ?_; rintro v w' ⟨rfl, hc2⟩; replace hSt := hSt.call0 hc2; clear hc2) | (refine WL_push1 hT rfl rfl rfl rfl rfl rfl rfl rfl rfl rfl rfl rfl (fun _ => rfl) rfl (H0 := [_]) hSt ho (by omega) (by omega) ?_; clear hSt ho; intro v' w H2 u ho hSt) | refine stepA ?_ | (refine stepS ?_; clear hSt; intro w hSt; dsimp only [spl, List.set] at hSt) | (refine stepB ?_; clear hSt; intro w nb hnb hSt; dsimp only [zcells, List.nil_append, List.cons_append] at hSt) | (refine W_quiet hT (by decide +kernel) hSt ?_; clear hSt; (repeat' (first | (apply QL_ev rfl rfl; (intro w hSt; (first | exact Ev_auto))) | refine QL_pass rfl rfl ?_ | (refine QL_guardP rfl rfl (fun hc => ?_) (fun hc => ?_) <;> try exact absA) | (refine QL_guard rfl rfl (fun hc => ?_) (fun hc => ?_) <;> (try exact absA) <;> (fail_if_success (change true = true at hc)) <;> (fail_if_success (change false = false at hc))))); all_goals (refine QL_nil (fun w hSt => ?_))) | (refine stepG ?_ ?_ <;> intro hc <;> (try exact absA) <;> (fail_if_success (change true = true at hc)) <;> (fail_if_success (change false = false at hc))) | fail)
        all_goals try (exfalso; omega)
        refine At_loop3 hK (k' := 5 - (ns ++ [n]).length) (ns ++ [n]) _ a' (by simp; omega) ⟨rfl, by simp; omega, ha', ?_, H2, by rw [List.map_append, List.length_append]; exact ho, hSt⟩ (by (repeat (first | exact Sub.nil _ | refine Sub.cons rfl ?_)))
        rw [hpp, hr', List.length_append, List.length_singleton]
        simp only [Option.map_map]
        congr 1
        funext x
        simp
    · have h5 : ns.length = 5 := by omega
      have hp5 : numsP numR 5 s = some (ns, s.drop at_) := by rw [hpp, h5]; simp [numsP]
      obtain ⟨b1, cap1, rs, e1, _, _, rfl⟩ := ho.some_ (by omega)
      injection e1 with e1 _ e2
      subst e1; subst e2
      match ns, h5, hp5, hSt with
      | [c, n, st, a, e], _, hp5, hSt =>
      have hs2 : St w0 NoneS [_, (b1, blk (I c :: I n :: I st :: I a :: I e :: rs) 3)] w := hSt
      replace hSt := hs2
      clear hs2
      repeat' (first | (refine W_mix (.op 0 (some false) (.op 1 (some false) (.op 2 (some false) (.op 3 (some false) (.op 4 (some false) (.op 5 (some false) (.op 6 (some false) (.op 7 (some false) (.op 8 (some false) (.op 9 (some false) (.op 10 (some false) (.op 11 (some false) (.op 12 (some false) (.op 13 (some false) (.op 14 (some false) (.op 15 (some false) (.op 16 (some false) (.op 17 (some true) .done)))))))))))))))))) hT (by decide +kernel) hSt ?_; clear hSt; intro w hSt hG; (repeat' (first | (apply ML_ev rfl rfl rfl hG; (intro w hG1; have hSt := hSt.call0 hG1; (first | exact Ev_auto))) | refine ML_pass rfl rfl rfl hG ?_ | (refine ML_passC rfl rfl rfl hG ?_; clear hG; intro w hG) | refine ML_fork ?_ ?_ | (refine ML_one rfl ?_; (first | (refine WL_box rfl rfl rfl hG ?_; clear hG; intro w nb hnb hG) | (refine WL_alloc hT rfl rfl rfl hG ?_; clear hG; intro w nb hnb hG) | (refine WL_buildSlice hT rfl rfl rfl rfl rfl rfl rfl rfl hG ?_; clear hG; intro w nb hnb hG) | (refine WL_makeMap rfl rfl hG ?_; clear hG; intro w nb hnb hG)); (try dsimp only [zcells, List.nil_append, List.cons_append] at hG); replace hnb := Nat.le_trans hSt.size hnb; refine WL_nil (At_oneM hG ?_)) | (refine ML_guardP rfl rfl (fun hc => ?_) (fun hc => ?_) <;> try exact absA) | (refine ML_guard rfl rfl (fun hc => ?_) (fun hc => ?_) <;> (try exact absA) <;> (fail_if_success (change true = true at hc)) <;> (fail_if_success (change false = false at hc))))); all_goals (refine ML_end ?_; replace hSt := hSt.newN hG; clear hG; simp only [OTree.depth, List.drop_succ_cons, List.drop_zero]; dsimp only [List.nil_append, List.cons_append] at hSt)) | refine stepA ?_ | (refine stepS ?_; clear hSt; intro w hSt; dsimp only [spl, List.set] at hSt) | (refine stepB ?_; clear hSt; intro w nb hnb hSt; dsimp only [zcells, List.nil_append, List.cons_append] at hSt) | (refine W_quiet hT (by decide +kernel) hSt ?_; clear hSt; (repeat' (first | (apply QL_ev rfl rfl; (intro w hSt; (first | exact Ev_auto))) | refine QL_pass rfl rfl ?_ | (refine QL_guardP rfl rfl (fun hc => ?_) (fun hc => ?_) <;> try exact absA) | (refine QL_guard rfl rfl (fun hc => ?_) (fun hc => ?_) <;> (try exact absA) <;> (fail_if_success (change true = true at hc)) <;> (fail_if_success (change false = false at hc))))); all_goals (refine QL_nil (fun w hSt => ?_))) | (refine stepG ?_ ?_ <;> intro hc <;> (try exact absA) <;> (fail_if_success (change true = true at hc)) <;> (fail_if_success (change false = false at hc))) | fail)
      all_goals try (exfalso; simp at hc; done)
      cases h1 : textP numR (s.drop at_) with
      | none =>
        repeat' (first | (refine WL_isCall (f := 121) ?_; refine WL_call (ok_call hT rfl) rfl rfl rfl (rtext_none hl hat h1) ?_; rintro v w' ⟨rfl, hc2⟩; replace hSt := hSt.call0 hc2; clear hc2) | refine stepA ?_ | (refine stepS ?_; clear hSt; intro w hSt; dsimp only [spl, List.set] at hSt) | (refine stepB ?_; clear hSt; intro w nb hnb hSt; dsimp only [zcells, List.nil_append, List.cons_append] at hSt) | (refine W_quiet hT (by decide +kernel) hSt ?_; clear hSt; (repeat' (first | (apply QL_ev rfl rfl; (intro w hSt; (first | exact Ev_auto))) | refine QL_pass rfl rfl ?_ | (refine QL_guardP rfl rfl (fun hc => ?_) (fun hc => ?_) <;> try exact absA) | (refine QL_guard rfl rfl (fun hc => ?_) (fun hc => ?_) <;> (try exact absA) <;> (fail_if_success (change true = true at hc)) <;> (fail_if_success (change false = false at hc))))); all_goals (refine QL_nil (fun w hSt => ?_))) | (refine stepG ?_ ?_ <;> intro hc <;> (try exact absA) <;> (fail_if_success (change true = true at hc)) <;> (fail_if_success (change false = false at hc))) | fail)
        exact end_of (resc2 rfl hT rfl rfl rfl (hSt.at 0 rfl) rfl rfl) ⟨_, _, _, _, _, _, _, _, dec_bad goodR hl (.rq _ _ hp5 h1), rfl, hSt.nil⟩
      | some y =>
        obtain ⟨q, r1⟩ := y
        obtain ⟨a1, ha1, rfl, hcon1⟩ := rtext_some hl hat h1
        cases h2 : textP numR (s.drop a1) with
        | none =>
          repeat' (first | (refine WL_isCall (f := 121) ?_; refine WL_call (ok_call hT rfl) rfl rfl rfl (hcon1) ?_; rintro v w' ⟨rfl, hc2⟩; replace hSt := hSt.call0 hc2; clear hc2) | (refine WL_isCall (f := 121) ?_; refine WL_call (ok_call hT rfl) rfl rfl rfl (rtext_none hl ha1 h2) ?_; rintro v w' ⟨rfl, hc2⟩; replace hSt := hSt.call0 hc2; clear hc2) | refine stepA ?_ | (refine stepS ?_; clear hSt; intro w hSt; dsimp only [spl, List.set] at hSt) | (refine stepB ?_; clear hSt; intro w nb hnb hSt; dsimp only [zcells, List.nil_append, List.cons_append] at hSt) | (refine W_quiet hT (by decide +kernel) hSt ?_; clear hSt; (repeat' (first | (apply QL_ev rfl rfl; (intro w hSt; (first | exact Ev_auto))) | refine QL_pass rfl rfl ?_ | (refine QL_guardP rfl rfl (fun hc => ?_) (fun hc => ?_) <;> try exact absA) | (refine QL_guard rfl rfl (fun hc => ?_) (fun hc => ?_) <;> (try exact absA) <;> (fail_if_success (change true = true at hc)) <;> (fail_if_success (change false = false at hc))))); all_goals (refine QL_nil (fun w hSt => ?_))) | (refine stepG ?_ ?_ <;> intro hc <;> (try exact absA) <;> (fail_if_success (change true = true at hc)) <;> (fail_if_success (change false = false at hc))) | fail)
          all_goals try (exfalso; omega)
          exact end_of (resc2 rfl hT rfl rfl rfl (hSt.at 0 rfl) rfl rfl) ⟨_, _, _, _, _, _, _, _, dec_bad goodR hl (.rs _ _ _ _ hp5 h1 h2), rfl, hSt.nil⟩
        | some z =>
          obtain ⟨x, r2⟩ := z
          obtain ⟨a2, ha2, rfl, hcon2⟩ := rtext_some hl ha1 h2
          have hrd := Rdg.ok c n st a e _ q _ x _ hp5 h1 h2
          repeat' (first | (refine WL_isCall (f := 121) ?_; refine WL_call (ok_call hT rfl) rfl rfl rfl (hcon1) ?_; rintro v w' ⟨rfl, hc2⟩; replace hSt := hSt.call0 hc2; clear hc2) | (refine WL_isCall (f := 121) ?_; refine WL_call (ok_call hT rfl) rfl rfl rfl (hcon2) ?_; rintro v w' ⟨rfl, hc2⟩; replace hSt := hSt.call0 hc2; clear hc2) | (refine WL_isCall (f := 82) ?_; refine WL_call (ok_call hT rfl) rfl rfl rfl (rencode_any c n st a e q x) ?_; rintro v w' ⟨rfl, hc2⟩; replace hSt := hSt.call0 hc2; clear hc2) | refine stepA ?_ | (refine stepS ?_; clear hSt; intro w hSt; dsimp only [spl, List.set] at hSt) | (refine stepB ?_; clear hSt; intro w nb hnb hSt; dsimp only [zcells, List.nil_append, List.cons_append] at hSt) | (refine W_quiet hT (by decide +kernel) hSt ?_; clear hSt; (repeat' (first | (apply QL_ev rfl rfl; (intro w hSt; (first | exact Ev_auto))) | refine QL_pass rfl rfl ?_ | (refine QL_guardP rfl rfl (fun hc => ?_) (fun hc => ?_) <;> try exact absA) | (refine QL_guard rfl rfl (fun hc => ?_) (fun hc => ?_) <;> (try exact absA) <;> (fail_if_success (change true = true at hc)) <;> (fail_if_success (change false = false at hc))))); all_goals (refine QL_nil (fun w hSt => ?_))) | (refine stepG ?_ ?_ <;> intro hc <;> (try exact absA) <;> (fail_if_success (change true = true at hc)) <;> (fail_if_success (change false = false at hc))) | fail)
          · refine end_of (resc2 rfl hT rfl rfl rfl (hSt.at 0 rfl) rfl rfl) ⟨_, _, _, _, _, _, _, _, dec_rest goodR hl hrd ?_, rfl, hSt.nil⟩
            intro e0
            have := congrArg List.length e0
            rw [List.length_drop, List.length_nil] at this
            omega
          · exact end_of (resc2 rfl hT rfl rfl rfl (hSt.at 0 rfl) rfl rfl) ⟨_, _, _, _, _, _, _, _, dec_other goodR hl hrd hc, rfl, hSt.nil⟩
          · exact end_of (resc2 rfl hT rfl rfl rfl (hSt.at 0 rfl) rfl rfl) ⟨_, _, _, _, _, _, _, _, dec_good goodR hrd (by simpa using hc), rfl, hSt.nil⟩
end Go.Proofs.YtndkifkaejmibaaGreatDoor
