/- Frames, as the specification reads them. No conditions. -/
import Derived.Test.YtndkifkaejmibaaGreatDoorME
import Derived.Test.YtndkifkaejmibaaGreatDoorMC

namespace Go.Proofs.YtndkifkaejmibaaGreatDoor
open Go.RowKit
set_option maxRecDepth 4000
set_option linter.unusedVariables false
set_option linter.unusedSimpArgs false
set_option maxHeartbeats 4000000

theorem rvarint_any {w0 : World} (s : List UInt8) (hs : s.length ≤ 140737488355328) (a : Nat) (ha : a ≤ s.length) : Cl Tryz.prog 154 [S s, I (a : Int)] w0 (fun v w' => v = .tuple ⟨[U (rdG 10 0 0 (s.drop a)).2.1, I ((a + (rdG 10 0 0 (s.drop a)).2.2 : Nat) : Int), I (rdG 10 0 0 (s.drop a)).1]⟩ ∧ St w0 NoneS [] w') := by
  have hSt := St.refl w0 NoneS
  refine enter Tryz.func154 rfl Tryz.ntmps154 rfl ?_
  repeat' (first | refine stepA ?_ | (refine stepS ?_; clear hSt; intro w hSt; dsimp only [spl, List.set] at hSt) | (refine stepB ?_; clear hSt; intro w nb hnb hSt; dsimp only [zcells, List.nil_append, List.cons_append] at hSt) | (refine stepG ?_ ?_ <;> intro hc <;> (try exact absA) <;> (fail_if_success (change true = true at hc)) <;> (fail_if_success (change false = false at hc))) | fail)
  refine W_sub (L' := [(9, I ((0 : Nat) : Int)), (7, U 0), (8, U 1), (0, S s), (1, I (a : Int))]) (by (repeat (first | exact Sub.nil _ | refine Sub.cons rfl ?_))) ?_
  refine W_loop3 (fun k (i n sc : Nat) w => k + i = 10 ∧ a + i ≤ s.length ∧ n < 128 ^ i ∧ (i ≤ 9 → sc = 128 ^ i) ∧ sc < 18446744073709551616 ∧ rdG 10 0 0 (s.drop a) = rdG k i n (s.drop (a + i)) ∧ St w0 NoneS [] w) (fun i n sc => [(9, I (i : Int)), (7, U n), (8, U sc)]) 10 0 0 1 rfl (by (repeat (first | exact Str.nil _ | apply Str.drop rfl | apply Str.keepU rfl | apply Str.keep rfl))) ⟨rfl, by omega, by decide, fun _ => rfl, by omega, rfl, hSt⟩ (by (repeat (first | exact Sub.nil _ | refine Sub.cons rfl ?_))) ?_
  clear hSt
  rintro k i n sc w ⟨hk, hi, hn, hsc, hscl, hr, hSt⟩ K hK
  rw [hr]
  by_cases h10 : i < 10
  · obtain ⟨f, rfl⟩ : ∃ f, k = f + 1 := ⟨k - 1, by omega⟩
    have hsc' := hsc (by omega)
    by_cases hl : a + i < s.length
    · obtain ⟨c, hc0⟩ : ∃ c, s[a + i]? = some c := ⟨_, List.getElem?_eq_getElem hl⟩
      have hc1 : s[(((a : Nat) : Int) + ((i : Nat) : Int)).toNat]? = some c := hc0
      have hd : s.drop (a + i) = c :: s.drop (a + (i + 1)) := by
        rw [List.drop_eq_getElem_cons hl]
        congr 1
        exact (List.getElem?_eq_some_iff.1 hc0).2
      rw [hd, rdG_cons]
      have hcl := c.toNat_lt
      by_cases h9 : f = 0 ∧ 1 < c.toNat
      · rw [if_pos h9]
        repeat' (first | (apply WL_ev rfl rfl; exact Ev_strIndex hT rfl rfl rfl (by omega) hc1) | refine stepA ?_ | (refine stepS ?_; clear hSt; intro w hSt; dsimp only [spl, List.set] at hSt) | (refine stepB ?_; clear hSt; intro w nb hnb hSt; dsimp only [zcells, List.nil_append, List.cons_append] at hSt) | (refine stepG ?_ ?_ <;> intro hc <;> (try exact absA) <;> (fail_if_success (change true = true at hc)) <;> (fail_if_success (change false = false at hc))) | fail)
        all_goals exact ret3 rfl rfl rfl rfl ⟨rfl, hSt⟩
      · rw [if_neg h9]
        have ha := acc_lt (i := i) (n := n) (c := c.toNat) (by omega) hn hcl (by omega)
        have hrl : rB c.toNat < 18446744073709551616 := Nat.lt_of_lt_of_le (Nat.mod_lt _ (by omega)) (by omega : 128 ≤ 18446744073709551616)
        have hmv : U (rB c.toNat * sc % 18446744073709551616) = U (rB c.toNat * 128 ^ i) := by
          rw [hsc', Nat.mod_eq_of_lt ha.2.2]
        obtain ⟨x, hx⟩ : ∃ x, x = rB c.toNat := ⟨_, rfl⟩
        have hxv : Y (c.toNat % 128) = Y x := by rw [hx]
        have hax : n + x * 128 ^ i < 18446744073709551616 ∧ n + x * 128 ^ i < 128 ^ (i + 1) := by rw [hx]; exact ⟨ha.1, ha.2.1⟩
        rw [← hx] at hrl hmv
        obtain ⟨sc2, hsc2⟩ : ∃ sc2, sc2 = sc * 128 % 18446744073709551616 := ⟨_, rfl⟩
        have hsv : U (sc * 128 % 18446744073709551616) = U sc2 := by rw [hsc2]
        have hs2 : i + 1 ≤ 9 → sc2 = 128 ^ (i + 1) := by
          intro h
          have := pow128_9 h
          rw [hsc2, hsc', Nat.mod_eq_of_lt (by rw [Nat.pow_succ] at this; omega), Nat.pow_succ]
        have hs3 : sc2 < 18446744073709551616 := hsc2 ▸ Nat.mod_lt _ (by omega)
        by_cases h128 : 128 ≤ c.toNat
        · rw [if_pos h128]
          repeat' (first | (refine W_if rfl (fun hc => ?_) (fun hc => ?_) <;> try (exfalso; omega)) | (refine WL_guardP rfl rfl (fun hc => ?_) (fun hc => ?_) <;> try (exfalso; omega)) | (apply WL_ev rfl rfl; exact Ev_strIndex hT rfl rfl rfl (by omega) hc1) | (apply WL_ev rfl rfl; exact Ev_as (Ev_remY c.toNat 128 rfl rfl rfl rfl (by omega)) hxv) | (apply WL_ev rfl rfl; exact Ev_convU hT x rfl rfl rfl rfl hrl) | (apply WL_ev rfl rfl; exact Ev_as (Ev_mulU x sc rfl rfl rfl rfl) hmv) | (apply WL_ev rfl rfl; exact Ev_as (Ev_mulU sc 128 rfl rfl rfl rfl) hsv) | (apply WL_ev rfl rfl; exact Ev_addU n (x * 128 ^ i) rfl rfl rfl rfl hax.1) | refine stepA ?_ | (refine stepS ?_; clear hSt; intro w hSt; dsimp only [spl, List.set] at hSt) | (refine stepB ?_; clear hSt; intro w nb hnb hSt; dsimp only [zcells, List.nil_append, List.cons_append] at hSt) | (refine stepG ?_ ?_ <;> intro hc <;> (try exact absA) <;> (fail_if_success (change true = true at hc)) <;> (fail_if_success (change false = false at hc))) | fail)
          all_goals exact At_loop3 hK (k' := f) (i + 1) (n + x * 128 ^ i) sc2 (by omega) ⟨by omega, by omega, hax.2, hs2, hs3, by rw [hr, hd, rdG_cons, if_neg h9, if_pos h128, hx], hSt⟩ (by (repeat (first | exact Sub.nil _ | refine Sub.cons rfl ?_)))
        · rw [if_neg h128]
          by_cases h0 : c.toNat = 0 ∧ 0 < i
          · rw [if_pos h0]
            repeat' (first | (refine W_if rfl (fun hc => ?_) (fun hc => ?_) <;> try (exfalso; omega)) | (refine WL_guardP rfl rfl (fun hc => ?_) (fun hc => ?_) <;> try (exfalso; omega)) | (apply WL_ev rfl rfl; exact Ev_strIndex hT rfl rfl rfl (by omega) hc1) | (apply WL_ev rfl rfl; exact Ev_as (Ev_remY c.toNat 128 rfl rfl rfl rfl (by omega)) hxv) | (apply WL_ev rfl rfl; exact Ev_convU hT x rfl rfl rfl rfl hrl) | (apply WL_ev rfl rfl; exact Ev_as (Ev_mulU x sc rfl rfl rfl rfl) hmv) | (apply WL_ev rfl rfl; exact Ev_as (Ev_mulU sc 128 rfl rfl rfl rfl) hsv) | (apply WL_ev rfl rfl; exact Ev_addU n (x * 128 ^ i) rfl rfl rfl rfl hax.1) | refine stepA ?_ | (refine stepS ?_; clear hSt; intro w hSt; dsimp only [spl, List.set] at hSt) | (refine stepB ?_; clear hSt; intro w nb hnb hSt; dsimp only [zcells, List.nil_append, List.cons_append] at hSt) | (refine stepG ?_ ?_ <;> intro hc <;> (try exact absA) <;> (fail_if_success (change true = true at hc)) <;> (fail_if_success (change false = false at hc))) | fail)
            all_goals exact ret3 rfl rfl rfl rfl ⟨rfl, hSt⟩
          · rw [if_neg h0]
            rw [show c.toNat % 128 = x from hx.symm]
            repeat' (first | (refine W_if rfl (fun hc => ?_) (fun hc => ?_) <;> try (exfalso; omega)) | (refine WL_guardP rfl rfl (fun hc => ?_) (fun hc => ?_) <;> try (exfalso; omega)) | (apply WL_ev rfl rfl; exact Ev_strIndex hT rfl rfl rfl (by omega) hc1) | (apply WL_ev rfl rfl; exact Ev_as (Ev_remY c.toNat 128 rfl rfl rfl rfl (by omega)) hxv) | (apply WL_ev rfl rfl; exact Ev_convU hT x rfl rfl rfl rfl hrl) | (apply WL_ev rfl rfl; exact Ev_as (Ev_mulU x sc rfl rfl rfl rfl) hmv) | (apply WL_ev rfl rfl; exact Ev_as (Ev_mulU sc 128 rfl rfl rfl rfl) hsv) | (apply WL_ev rfl rfl; exact Ev_addU n (x * 128 ^ i) rfl rfl rfl rfl hax.1) | refine stepA ?_ | (refine stepS ?_; clear hSt; intro w hSt; dsimp only [spl, List.set] at hSt) | (refine stepB ?_; clear hSt; intro w nb hnb hSt; dsimp only [zcells, List.nil_append, List.cons_append] at hSt) | (refine stepG ?_ ?_ <;> intro hc <;> (try exact absA) <;> (fail_if_success (change true = true at hc)) <;> (fail_if_success (change false = false at hc))) | fail)
            all_goals exact ret3 rfl rfl rfl rfl ⟨rfl, hSt⟩
    · obtain he : a + i = s.length := by omega
      rw [he, List.drop_length, rdG_nil]
      repeat' (first | refine stepA ?_ | (refine stepS ?_; clear hSt; intro w hSt; dsimp only [spl, List.set] at hSt) | (refine stepB ?_; clear hSt; intro w nb hnb hSt; dsimp only [zcells, List.nil_append, List.cons_append] at hSt) | (refine stepG ?_ ?_ <;> intro hc <;> (try exact absA) <;> (fail_if_success (change true = true at hc)) <;> (fail_if_success (change false = false at hc))) | fail)
      all_goals exact ret3 rfl rfl rfl rfl ⟨rfl, hSt⟩
  · obtain rfl : k = 0 := by omega
    rw [rdG_zero]
    repeat' (first | refine stepA ?_ | (refine stepS ?_; clear hSt; intro w hSt; dsimp only [spl, List.set] at hSt) | (refine stepB ?_; clear hSt; intro w nb hnb hSt; dsimp only [zcells, List.nil_append, List.cons_append] at hSt) | (refine stepG ?_ ?_ <;> intro hc <;> (try exact absA) <;> (fail_if_success (change true = true at hc)) <;> (fail_if_success (change false = false at hc))) | fail)
    all_goals exact ret3 rfl rfl rfl rfl ⟨rfl, hSt⟩

abbrev rdV (s : List UInt8) (a : Nat) (e : Int) : Value := .agg ⟨[S s, I (a : Int), I e]⟩
theorem failed_any {w0 : World} (s : List UInt8) (a : Nat) (e e' : Int) : Cl Tryz.prog 137 [rdV s a e, I e'] w0 (fun v w' => v = rdV s a e' ∧ St w0 NoneS [] w') := by
  have hSt := St.refl w0 NoneS
  refine enter Tryz.func137 rfl Tryz.ntmps137 rfl ?_
  repeat' (first | refine stepA ?_ | (refine stepS ?_; clear hSt; intro w hSt; dsimp only [spl, List.set] at hSt) | (refine stepB ?_; clear hSt; intro w nb hnb hSt; dsimp only [zcells, List.nil_append, List.cons_append] at hSt) | (refine stepG ?_ ?_ <;> intro hc <;> (try exact absA) <;> (fail_if_success (change true = true at hc)) <;> (fail_if_success (change false = false at hc))) | fail)
  exact end_of (resc1 rfl hT rfl rfl (hSt.at 1 rfl) rfl rfl) ⟨rfl, hSt.nil⟩
theorem readuint_any {w0 : World} (s : List UInt8) (hs : s.length ≤ 140737488355328) (a : Nat) (ha : a ≤ s.length) : Cl Tryz.prog 136 [rdV s a 0] w0 (fun v w' => v = .tuple ⟨[rdV s (a + (rdG 10 0 0 (s.drop a)).2.2) (rdG 10 0 0 (s.drop a)).1, U (rdG 10 0 0 (s.drop a)).2.1]⟩ ∧ St w0 NoneS [] w') := by
  have hSt := St.refl w0 NoneS
  obtain ⟨e, n, k, hr⟩ : ∃ e n k, rdG 10 0 0 (s.drop a) = (e, n, k) := ⟨_, _, _, rfl⟩
  have hbd := rdG_bd 10 0 0 (s.drop a) rfl (by decide)
  have hv := fun {w : World} => rvarint_any (w0 := w) s hs a ha
  rw [hr] at hbd hv ⊢
  dsimp only at hbd hv ⊢
  by_cases he : e = 0
  · subst he
    obtain ⟨b1, b2, b3, b4⟩ := hbd.2 rfl
    rw [List.length_drop] at b2
    refine enter Tryz.func136 rfl Tryz.ntmps136 rfl ?_
    repeat' (first | (refine WL_call (ok_call hT rfl) rfl rfl rfl (hv) ?_; rintro v w' ⟨rfl, hc2⟩; replace hSt := hSt.call0 hc2; clear hc2) | refine stepA ?_ | (refine stepS ?_; clear hSt; intro w hSt; dsimp only [spl, List.set] at hSt) | (refine stepB ?_; clear hSt; intro w nb hnb hSt; dsimp only [zcells, List.nil_append, List.cons_append] at hSt) | (refine stepG ?_ ?_ <;> intro hc <;> (try exact absA) <;> (fail_if_success (change true = true at hc)) <;> (fail_if_success (change false = false at hc))) | fail)
    all_goals exact end_of (resc2 rfl hT rfl rfl rfl (hSt.at 1 rfl) rfl rfl) ⟨rfl, hSt.nil⟩
  · have h2 := hbd.1 he
    simp only [Prod.mk.injEq] at h2
    obtain ⟨rfl, rfl⟩ := h2
    rw [Nat.add_zero] at hv ⊢
    refine enter Tryz.func136 rfl Tryz.ntmps136 rfl ?_
    repeat' (first | (refine WL_call (ok_call hT rfl) rfl rfl rfl (hv) ?_; rintro v w' ⟨rfl, hc2⟩; replace hSt := hSt.call0 hc2; clear hc2) | (refine WL_isCall (f := 137) ?_; refine WL_call (ok_call hT rfl) rfl rfl rfl (failed_any _ _ _ _) ?_; rintro v w' ⟨rfl, hc2⟩; replace hSt := hSt.call0 hc2; clear hc2) | refine stepA ?_ | (refine stepS ?_; clear hSt; intro w hSt; dsimp only [spl, List.set] at hSt) | (refine stepB ?_; clear hSt; intro w nb hnb hSt; dsimp only [zcells, List.nil_append, List.cons_append] at hSt) | (refine stepG ?_ ?_ <;> intro hc <;> (try exact absA) <;> (fail_if_success (change true = true at hc)) <;> (fail_if_success (change false = false at hc))) | fail)
    all_goals exact end_of (resc2 rfl hT rfl rfl rfl (hSt.at 1 rfl) rfl rfl) ⟨rfl, hSt.nil⟩
theorem readtext_any {w0 : World} (s : List UInt8) (hs : s.length ≤ 140737488355328) (a : Nat) (ha : a ≤ s.length) : Cl Tryz.prog 116 [rdV s a 0, I 4000] w0 (fun v w' => v = .tuple ⟨[rdV s (a + (rdT (s.drop a)).2.2) (rdT (s.drop a)).1, S (rdT (s.drop a)).2.1]⟩ ∧ St w0 NoneS [] w') := by
  have hSt := St.refl w0 NoneS
  obtain ⟨e, n, k, hr⟩ : ∃ e n k, rdG 10 0 0 (s.drop a) = (e, n, k) := ⟨_, _, _, rfl⟩
  have hbd := rdG_bd 10 0 0 (s.drop a) rfl (by decide)
  have hv := fun {w : World} => readuint_any (w0 := w) s hs a ha
  rw [hr] at hbd hv
  dsimp only at hbd hv
  rw [List.length_drop] at hbd
  by_cases he : e = 0
  · subst he
    obtain ⟨b1, b2, b3, b4⟩ := hbd.2 rfl
    have hnl : s.length - (a + k) < 18446744073709551616 := by omega
    by_cases hn : 4000 < n
    · rw [rdT_long hr hn]
      refine enter Tryz.func116 rfl Tryz.ntmps116 rfl ?_
      repeat' (first | (refine WL_call (ok_call hT rfl) rfl rfl rfl (hv) ?_; rintro v w' ⟨rfl, hc2⟩; replace hSt := hSt.call0 hc2; clear hc2) | (refine WL_isCall (f := 137) ?_; refine WL_call (ok_call hT rfl) rfl rfl rfl (failed_any _ _ _ _) ?_; rintro v w' ⟨rfl, hc2⟩; replace hSt := hSt.call0 hc2; clear hc2) | (apply WL_ev rfl rfl; exact Ev_convU hT 4000 rfl rfl rfl rfl (by omega)) | refine stepA ?_ | (refine stepS ?_; clear hSt; intro w hSt; dsimp only [spl, List.set] at hSt) | (refine stepB ?_; clear hSt; intro w nb hnb hSt; dsimp only [zcells, List.nil_append, List.cons_append] at hSt) | (refine stepG ?_ ?_ <;> intro hc <;> (try exact absA) <;> (fail_if_success (change true = true at hc)) <;> (fail_if_success (change false = false at hc))) | fail)
      all_goals exact end_of (resc2 rfl hT rfl rfl rfl (hSt.at 1 rfl) rfl rfl) ⟨rfl, hSt.nil⟩
    · by_cases hl : (s.drop a).length - k < n
      · rw [rdT_short hr hn hl]
        rw [List.length_drop] at hl
        refine enter Tryz.func116 rfl Tryz.ntmps116 rfl ?_
        repeat' (first | (refine WL_call (ok_call hT rfl) rfl rfl rfl (hv) ?_; rintro v w' ⟨rfl, hc2⟩; replace hSt := hSt.call0 hc2; clear hc2) | (refine WL_isCall (f := 137) ?_; refine WL_call (ok_call hT rfl) rfl rfl rfl (failed_any _ _ _ _) ?_; rintro v w' ⟨rfl, hc2⟩; replace hSt := hSt.call0 hc2; clear hc2) | (apply WL_ev rfl rfl; exact Ev_convU hT 4000 rfl rfl rfl rfl (by omega)) | (apply WL_ev rfl rfl; exact Ev_convU hT (s.length - (a + k)) rfl rfl rfl (by omega) hnl) | refine stepA ?_ | (refine stepS ?_; clear hSt; intro w hSt; dsimp only [spl, List.set] at hSt) | (refine stepB ?_; clear hSt; intro w nb hnb hSt; dsimp only [zcells, List.nil_append, List.cons_append] at hSt) | (refine stepG ?_ ?_ <;> intro hc <;> (try exact absA) <;> (fail_if_success (change true = true at hc)) <;> (fail_if_success (change false = false at hc))) | fail)
        all_goals exact end_of (resc2 rfl hT rfl rfl rfl (hSt.at 1 rfl) rfl rfl) ⟨rfl, hSt.nil⟩
      · rw [rdT_ok hr hn hl]
        rw [List.length_drop] at hl
        have esl : Value.string ⟨⟨(s.drop ((a + k : Nat) : Int).toNat).take (((a + (k + n) : Nat) : Int).toNat - ((a + k : Nat) : Int).toNat)⟩⟩ = S (((s.drop a).drop k).take n) := by
          rw [show ((a + (k + n) : Nat) : Int).toNat - ((a + k : Nat) : Int).toNat = n by omega, Int.toNat_natCast, List.drop_drop]
        have e9 : Value.int .i64 (((a + k : Nat) : Int) + ((n : Nat) : Int)) = I ((a + (k + n) : Nat) : Int) := by congr 1; omega
        refine enter Tryz.func116 rfl Tryz.ntmps116 rfl ?_
        repeat' (first | (refine WL_call (ok_call hT rfl) rfl rfl rfl (hv) ?_; rintro v w' ⟨rfl, hc2⟩; replace hSt := hSt.call0 hc2; clear hc2) | (apply WL_ev rfl rfl; exact Ev_convU hT 4000 rfl rfl rfl rfl (by omega)) | (apply WL_ev rfl rfl; exact Ev_convU hT (s.length - (a + k)) rfl rfl rfl (by omega) hnl) | (apply WL_ev rfl rfl; exact Ev_convI hT n rfl rfl rfl rfl (by omega)) | (apply WL_ev rfl rfl; exact Ev_as (Ev_str_slice hT rfl rfl rfl rfl (by omega) (by omega) (by omega)) esl) | (apply WL_ev rfl rfl; exact Ev_as (Ev_add rfl rfl (by omega)) e9) | refine stepA ?_ | (refine stepS ?_; clear hSt; intro w hSt; dsimp only [spl, List.set] at hSt) | (refine stepB ?_; clear hSt; intro w nb hnb hSt; dsimp only [zcells, List.nil_append, List.cons_append] at hSt) | (refine stepG ?_ ?_ <;> intro hc <;> (try exact absA) <;> (fail_if_success (change true = true at hc)) <;> (fail_if_success (change false = false at hc))) | fail)
        all_goals exact end_of (resc2 rfl hT rfl rfl rfl (hSt.at 1 rfl) rfl rfl) ⟨rfl, hSt.nil⟩
  · rw [rdT_err hr he]
    have h2 := hbd.1 he
    simp only [Prod.mk.injEq] at h2
    obtain ⟨rfl, rfl⟩ := h2
    rw [Nat.add_zero] at hv ⊢
    refine enter Tryz.func116 rfl Tryz.ntmps116 rfl ?_
    repeat' (first | (refine WL_call (ok_call hT rfl) rfl rfl rfl (hv) ?_; rintro v w' ⟨rfl, hc2⟩; replace hSt := hSt.call0 hc2; clear hc2) | refine stepA ?_ | (refine stepS ?_; clear hSt; intro w hSt; dsimp only [spl, List.set] at hSt) | (refine stepB ?_; clear hSt; intro w nb hnb hSt; dsimp only [zcells, List.nil_append, List.cons_append] at hSt) | (refine stepG ?_ ?_ <;> intro hc <;> (try exact absA) <;> (fail_if_success (change true = true at hc)) <;> (fail_if_success (change false = false at hc))) | fail)
    all_goals exact end_of (resc2 rfl hT rfl rfl rfl (hSt.at 1 rfl) rfl rfl) ⟨rfl, hSt.nil⟩
end Go.Proofs.YtndkifkaejmibaaGreatDoor

namespace Go.Proofs.YtndkifkaejmibaaGreatDoor
open Go.RowKit
set_option maxRecDepth 4000
set_option linter.unusedVariables false
set_option linter.unusedSimpArgs false
set_option maxHeartbeats 4000000

/-! ## Lists of texts -/
abbrev tc (s : List UInt8) : List Value := [S s]
theorem strs_flat (l : List (List UInt8)) : strs l = l.flatMap tc := by
  induction l with
  | nil => rfl
  | cons x l ih => rw [strs, List.map_cons, List.flatMap_cons, ← ih]; rfl
theorem own_tc {l : List (List UInt8)} {v : Value} {e : TypeId} {H1 : List (Nat × Obj)} {w : World} (h : OwnSl v e 1 (strs l) l.length H1) (hh : Has w H1) : SlAt w v 1 (l.map tc) :=
  OwnSl.slAt (f := tc) (fun _ => rfl) (by rw [strs_flat] at h; exact h) hh
theorem fl_tc (l : List (List UInt8)) : (l.map tc).flatten = strs l := by
  induction l with
  | nil => rfl
  | cons x l ih => rw [List.map_cons, List.flatten_cons, ih]; rfl
theorem one_tc (l : List (List UInt8)) : (l.map tc).flatten.all oneV = true := by
  rw [fl_tc]
  induction l with
  | nil => rfl
  | cons x l ih => exact ih
theorem sclone_any {w0 : World} {v0 : Value} {l : List (List UInt8)} (hs : SlAt w0 v0 1 (l.map tc)) (hlen : l.length ≤ 1000000000) : Cl Tryz.prog 65 [v0] w0 (fun v w' => ∃ H1, OwnSl v 9 1 (strs l) l.length H1 ∧ St w0 NoneS H1 w') := by
  have hSt := St.refl w0 NoneS
  have hs' := hs
  obtain ⟨a, cap, rfl, hcs⟩ := hs'.map
  refine enter Tryz.func65 rfl Tryz.ntmps65 rfl ?_
  cases a with
  | none =>
    have h0 : l = [] := by
      cases l with
      | nil => rfl
      | cons c cs => obtain ⟨b, off, _, _, _, h, _⟩ := hcs 0 c rfl; cases h
    subst h0
    repeat' (first | refine stepA ?_ | (refine stepS ?_; clear hSt; intro w hSt; dsimp only [spl, List.set] at hSt) | (refine stepB ?_; clear hSt; intro w nb hnb hSt; dsimp only [zcells, List.nil_append, List.cons_append] at hSt) | (refine stepG ?_ ?_ <;> intro hc <;> (try exact absA) <;> (fail_if_success (change true = true at hc)) <;> (fail_if_success (change false = false at hc))) | fail)
    exact ret1 rfl rfl ⟨[], OwnSl.nil _ _, hSt⟩
  | some a =>
    repeat' (first | (refine WL_buildSlice0 hT rfl rfl rfl hSt ?_; clear hSt; intro w zb hzb hSt; dsimp only [List.nil_append, List.cons_append] at hSt) | refine stepA ?_ | (refine stepS ?_; clear hSt; intro w hSt; dsimp only [spl, List.set] at hSt) | (refine stepB ?_; clear hSt; intro w nb hnb hSt; dsimp only [zcells, List.nil_append, List.cons_append] at hSt) | (refine stepG ?_ ?_ <;> intro hc <;> (try exact absA) <;> (fail_if_success (change true = true at hc)) <;> (fail_if_success (change false = false at hc))) | fail)
    refine WL_appendS (H0 := []) (H2 := []) hT rfl rfl rfl rfl rfl rfl rfl (by simpa using hSt) (OwnSl.zero zb _ _) (hs.later hSt (fun _ e => e)) (one_tc l) (by simp; omega) (by simp; omega) ?_
    intro v' w' H1' ho hSt'
    repeat' (first | refine stepA ?_ | (refine stepS ?_; clear hSt; intro w hSt; dsimp only [spl, List.set] at hSt) | (refine stepB ?_; clear hSt; intro w nb hnb hSt; dsimp only [zcells, List.nil_append, List.cons_append] at hSt) | (refine stepG ?_ ?_ <;> intro hc <;> (try exact absA) <;> (fail_if_success (change true = true at hc)) <;> (fail_if_success (change false = false at hc))) | fail)
    refine ret1 rfl rfl ⟨H1', ?_, by simpa using hSt'⟩
    rw [fl_tc] at ho
    simpa using ho

/-! ## The valid prefix -/
theorem rverify_any {w0 : World} (s : List UInt8) (hs : s.length ≤ 1000000) : Cl Tryz.prog 94 [S s] w0 (fun v w' => ∃ rv H1, v = .tuple ⟨[rv, I ((verF s).2.1 : Nat)]⟩ ∧ OwnSl rv 9 1 (strs (verF s).1) (verF s).1.length H1 ∧ St w0 NoneS H1 w') := by
  have hSt := St.refl w0 NoneS
  refine enter Tryz.func94 rfl Tryz.ntmps94 rfl ?_
  repeat' (first | refine stepA ?_ | (refine stepS ?_; clear hSt; intro w hSt; dsimp only [spl, List.set] at hSt) | (refine stepB ?_; clear hSt; intro w nb hnb hSt; dsimp only [zcells, List.nil_append, List.cons_append] at hSt) | (refine stepG ?_ ?_ <;> intro hc <;> (try exact absA) <;> (fail_if_success (change true = true at hc)) <;> (fail_if_success (change false = false at hc))) | fail)
  refine W_sub (L' := [(4, .slice none 0 0), (5, I ((0 : Nat) : Int)), (6, U 0), (0, S s)]) (by (repeat (first | exact Sub.nil _ | refine Sub.cons rfl ?_))) ?_
  refine W_loop3 (fun k (rv : Value) (m p : Nat) w => k + m = s.length + 1 ∧ m ≤ s.length ∧ p < 18446744073709551616 ∧ ∃ l H1, verF s = (l ++ (verG k p (s.drop m)).1, m + (verG k p (s.drop m)).2.1, (verG k p (s.drop m)).2.2) ∧ 9 * l.length ≤ m ∧ OwnSl rv 9 1 (strs l) l.length H1 ∧ St w0 NoneS ([] ++ H1) w) (fun rv m p => [(4, rv), (5, I (m : Int)), (6, U p)]) (s.length + 1) (.slice none 0 0) 0 0 rfl (by (repeat (first | exact Str.nil _ | apply Str.drop rfl | apply Str.keepU rfl | apply Str.keep rfl))) ⟨rfl, by omega, by omega, [], [], by simp [verF], by simp, OwnSl.nil _ _, hSt⟩ (by (repeat (first | exact Sub.nil _ | refine Sub.cons rfl ?_))) ?_
  clear hSt
  rintro k rv m p w ⟨hk, hm, hp, l, H1, hv, hl9, ho, hSt⟩ K hK
  obtain ⟨f, rfl⟩ : ∃ f, k = f + 1 := ⟨k - 1, by omega⟩
  unfold verG at hv
  by_cases hml : m < s.length
  · have hrt := fun {w : World} => readtext_any (w0 := w) s (by omega) m hm
    have hbd := rdT_bd (s.drop m)
    have hcan := fun {x : List UInt8} {n : Nat} (h : rdT (s.drop m) = (0, x, n)) => rdT_canon h
    cases hf : firstF p (s.drop m) with
    | none =>
      rw [hf] at hv
      dsimp only at hv
      rw [List.append_nil, Nat.add_zero] at hv
      unfold firstF at hf
      obtain ⟨e, x, n, hr⟩ : ∃ e x n, rdT (s.drop m) = (e, x, n) := ⟨_, _, _, rfl⟩
      rw [hr] at hrt hbd hcan hf
      dsimp only at hrt hbd hf
      rw [List.length_drop] at hbd
      rw [hv]
      by_cases he : e = 0
      · subst he
        obtain ⟨c1, c2, c3⟩ := hcan rfl
        rw [List.length_drop] at c3
        have hx : x.length ≤ 140737488355328 := by omega
        have hfr := fun {w : World} => rframe_any (w0 := w) p hp x hx
        have hFl : (frameF p x).length = n + 8 := by rw [frameF_len, c2]
        have hFd : (frameF p x).drop n = leB (chainF p x) 8 := by rw [frameF, c2, List.drop_left' rfl]
        have hne : m + (n + 8) ≤ s.length → (s.drop m).take (frameF p x).length ≠ frameF p x := by
          intro _ h
          rw [if_neg (by simp)] at hf
          split at hf
          · cases hf
          · rename_i hq
            apply hq
            rw [hFl] at h
            have := congrArg (List.drop n) h
            rw [hFd, List.drop_take, Nat.add_sub_cancel_left] at this
            exact this
        generalize frameF p x = F at hfr hFl hne
        obtain ⟨G, hG⟩ : ∃ G, G = (s.drop m).take F.length := ⟨_, rfl⟩
        rw [← hG] at hne
        have esl : m + (n + 8) ≤ s.length → Value.string ⟨⟨(s.drop ((m : Nat) : Int).toNat).take ((((m : Nat) : Int) + ((F.length : Nat) : Int)).toNat - ((m : Nat) : Int).toNat)⟩⟩ = S G := by
          intro _
          rw [show (((m : Nat) : Int) + ((F.length : Nat) : Int)).toNat - ((m : Nat) : Int).toNat = F.length by omega, Int.toNat_natCast, hG]
        clear hG hFd hcan hf hr c1
        repeat' (first | (refine WL_isCall (f := 116) ?_; refine WL_call (ok_call hT rfl) rfl rfl rfl hrt ?_; rintro v w2 ⟨rfl, hc2⟩; replace hSt := hSt.call0 hc2; clear hc2) | (refine WL_alloc hT rfl rfl rfl (St.take hSt (H' := H1) (fun i x hi => by simpa using hi)) ?_; clear hSt; intro w nb hnb hSt; replace hSt := hSt.front; dsimp only [zcells, List.nil_append, List.cons_append] at hSt) | (refine WL_isCall (f := 117) ?_; refine WL_call (ok_call hT rfl) rfl rfl rfl hfr ?_; rintro v w2 ⟨rfl, hc2⟩; replace hSt := hSt.call0 hc2; clear hc2) | (apply WL_ev rfl rfl; exact Ev_as (Ev_str_slice hT rfl rfl rfl rfl (by omega) (by omega) (by omega)) (esl (by omega))) | refine stepA ?_ | (refine stepS ?_; clear hSt; intro w hSt; dsimp only [spl, List.set] at hSt) | (refine stepB ?_; clear hSt; intro w nb hnb hSt; dsimp only [zcells, List.nil_append, List.cons_append] at hSt) | (refine stepG ?_ ?_ <;> intro hc <;> (try exact absA) <;> (fail_if_success (change true = true at hc)) <;> (fail_if_success (change false = false at hc))) | fail)
        all_goals first | exact ret2 rfl rfl rfl ⟨rv, H1, rfl, ho, hSt.right (Ha := [_])⟩ | exact absurd (hne (by omega)) hc
      · repeat' (first | (refine WL_isCall (f := 116) ?_; refine WL_call (ok_call hT rfl) rfl rfl rfl hrt ?_; rintro v w2 ⟨rfl, hc2⟩; replace hSt := hSt.call0 hc2; clear hc2) | (refine WL_alloc hT rfl rfl rfl (St.take hSt (H' := H1) (fun i x hi => by simpa using hi)) ?_; clear hSt; intro w nb hnb hSt; replace hSt := hSt.front; dsimp only [zcells, List.nil_append, List.cons_append] at hSt) | refine stepA ?_ | (refine stepS ?_; clear hSt; intro w hSt; dsimp only [spl, List.set] at hSt) | (refine stepB ?_; clear hSt; intro w nb hnb hSt; dsimp only [zcells, List.nil_append, List.cons_append] at hSt) | (refine stepG ?_ ?_ <;> intro hc <;> (try exact absA) <;> (fail_if_success (change true = true at hc)) <;> (fail_if_success (change false = false at hc))) | fail)
        all_goals exact ret2 rfl rfl rfl ⟨rv, H1, rfl, ho, hSt.right (Ha := [_])⟩
    | some y =>
      obtain ⟨x', n'⟩ := y
      rw [hf] at hv
      dsimp only at hv
      obtain ⟨d1, d2, d3, d4⟩ := firstF_canon hf
      have h1 := first_bd hf
      obtain ⟨e, x, n, hr⟩ : ∃ e x n, rdT (s.drop m) = (e, x, n) := ⟨_, _, _, rfl⟩
      have hxe : e = 0 ∧ x = x' ∧ n' = n + 8 := by
        unfold firstF at hf
        rw [hr] at hf
        dsimp only at hf
        split at hf
        · cases hf
        · rename_i he
          split at hf
          · injection hf with hf
            injection hf with e1 e2
            exact ⟨Decidable.not_not.1 he, e1, e2.symm⟩
          · cases hf
      obtain ⟨rfl, rfl, rfl⟩ := hxe
      rw [hr] at hrt
      dsimp only at hrt
      rw [List.length_drop] at d3
      have hx : x.length ≤ 140737488355328 := by omega
      have hfr := fun {w : World} => rframe_any (w0 := w) p hp x hx
      generalize frameF p x = F at hfr d1 d2
      have esl : m + (n + 8) ≤ s.length → Value.string ⟨⟨(s.drop ((m : Nat) : Int).toNat).take (((m + (n + 8) : Nat) : Int).toNat - ((m : Nat) : Int).toNat)⟩⟩ = S F := by
        intro _
        rw [show ((m + (n + 8) : Nat) : Int).toNat - ((m : Nat) : Int).toNat = n + 8 by omega, Int.toNat_natCast, d1]
      have ewl : Value.int .i64 (((m : Nat) : Int) + ((F.length : Nat) : Int)) = I ((m + (n + 8) : Nat) : Int) := by rw [d2]; congr 1
      clear hcan hbd hf hr d1
      repeat' (first | (refine WL_isCall (f := 116) ?_; refine WL_call (ok_call hT rfl) rfl rfl rfl hrt ?_; rintro v w2 ⟨rfl, hc2⟩; replace hSt := hSt.call0 hc2; clear hc2) | (refine WL_alloc hT rfl rfl rfl (St.take hSt (H' := H1) (fun i x hi => by simpa using hi)) ?_; clear hSt; intro w nb hnb hSt; replace hSt := hSt.front; dsimp only [zcells, List.nil_append, List.cons_append] at hSt) | (refine WL_isCall (f := 117) ?_; refine WL_call (ok_call hT rfl) rfl rfl rfl hfr ?_; rintro v w2 ⟨rfl, hc2⟩; replace hSt := hSt.call0 hc2; clear hc2) | (apply WL_ev rfl rfl; exact Ev_as (Ev_add rfl rfl (by omega)) ewl) | (apply WL_ev rfl rfl; exact Ev_as (Ev_str_slice hT rfl rfl rfl rfl (by omega) (by omega) (by omega)) (esl (by omega))) | (refine WL_isCall (f := 118) ?_; refine WL_call (ok_call hT rfl) rfl rfl rfl (rchain_any _ hp _ hx) ?_; rintro v w' ⟨rfl, hc2⟩; replace hSt := hSt.call0 hc2; clear hc2) | (refine WL_push1 hT rfl rfl rfl rfl rfl rfl rfl rfl rfl rfl rfl rfl (fun _ => rfl) rfl (H0 := [_]) hSt ho (by omega) (by omega) ?_; clear hSt ho; intro v' w H2 u ho hSt) | refine stepA ?_ | (refine stepS ?_; clear hSt; intro w hSt; dsimp only [spl, List.set] at hSt) | (refine stepB ?_; clear hSt; intro w nb hnb hSt; dsimp only [zcells, List.nil_append, List.cons_append] at hSt) | (refine stepG ?_ ?_ <;> intro hc <;> (try exact absA) <;> (fail_if_success (change true = true at hc)) <;> (fail_if_success (change false = false at hc))) | fail)
      refine At_loop3 hK (k' := f + 1 - (n + 8)) v' (m + (n + 8)) (chainF p x) (by omega) ⟨by omega, by omega, chainF_lt p x, l ++ [x], H2, ?_, ?_, ?_, hSt.right (Ha := [_])⟩ (by (repeat (first | exact Sub.nil _ | refine Sub.cons rfl ?_)))
      · have hd : (s.drop m).drop (n + 8) = s.drop (m + (n + 8)) := by rw [List.drop_drop]
        rw [hd, verG_fuel f (f + 1 - (n + 8)) _ _ (by rw [List.length_drop]; omega) (by rw [List.length_drop]; omega)] at hv
        rw [hv, List.append_assoc]
        refine Prod.ext rfl (Prod.ext ?_ rfl)
        dsimp only
        omega
      · rw [List.length_append, List.length_singleton]; omega
      · rw [strs_snoc, List.length_append, List.length_singleton]; exact ho
  · obtain rfl : m = s.length := by omega
    rw [List.drop_length, firstF_nil] at hv
    dsimp only at hv
    rw [List.append_nil, Nat.add_zero] at hv
    rw [hv]
    repeat' (first | refine stepA ?_ | (refine stepS ?_; clear hSt; intro w hSt; dsimp only [spl, List.set] at hSt) | (refine stepB ?_; clear hSt; intro w nb hnb hSt; dsimp only [zcells, List.nil_append, List.cons_append] at hSt) | (refine stepG ?_ ?_ <;> intro hc <;> (try exact absA) <;> (fail_if_success (change true = true at hc)) <;> (fail_if_success (change false = false at hc))) | fail)
    exact ret2 rfl rfl rfl ⟨rv, H1, rfl, ho, hSt⟩
end Go.Proofs.YtndkifkaejmibaaGreatDoor
