/- Frames, as the program reads them: varints, texts, the first frame, the valid prefix. No conditions. -/
import Derived.Test.YthkimkgphaiagaaGreatDoorMD
import Derived.Test.YthkimkgphaiagaaGreatDoorMC

namespace Go.Proofs.YthkimkgphaiagaaGreatDoor
open Go.RowKit
set_option maxRecDepth 4000
set_option linter.unusedVariables false
set_option linter.unusedSimpArgs false
set_option maxHeartbeats 4000000

/-! ## Varints -/
theorem and127 : ∀ x : Nat, x < 256 → x &&& 127 = x % 128 := by decide +kernel
theorem or_add (n x i : Nat) (h : n < 128 ^ i) : n ||| x * 128 ^ i = n + x * 128 ^ i := by
  have e : (128 : Nat) ^ i = 2 ^ (7 * i) := by rw [Nat.pow_mul]
  rw [e] at h ⊢
  have := Nat.shiftLeft_add_eq_or_of_lt h x
  rw [Nat.shiftLeft_eq] at this
  rw [Nat.or_comm, ← this, Nat.add_comm]
theorem rdG_zero (i n : Nat) (s : List UInt8) : rdG 0 i n s = (2, 0, 0) := rfl
theorem rdG_nil (f i n : Nat) : rdG (f + 1) i n [] = (1, 0, 0) := rfl
theorem rdG_cons (f i n : Nat) (c : UInt8) (r : List UInt8) : rdG (f + 1) i n (c :: r) = if f = 0 ∧ 1 < c.toNat then (2, 0, 0) else
    if 128 ≤ c.toNat then rdG f (i + 1) (n + c.toNat % 128 * 128 ^ i) r else
    if c.toNat = 0 ∧ 0 < i then (2, 0, 0) else (0, n + c.toNat % 128 * 128 ^ i, i + 1) := rfl
theorem pow128_9 {i : Nat} (h : i ≤ 9) : (128 : Nat) ^ i ≤ 9223372036854775808 := Nat.le_trans (Nat.pow_le_pow_right (by omega) h) (by decide)
theorem pow128_8 {i : Nat} (h : i ≤ 8) : (128 : Nat) ^ i ≤ 72057594037927936 := Nat.le_trans (Nat.pow_le_pow_right (by omega) h) (by decide)
/-- what is read so far stays in 64 bits -/
theorem acc_lt {i n c : Nat} (hi : i ≤ 9) (hn : n < 128 ^ i) (hc : c < 256) (h9 : ¬ (i = 9 ∧ 1 < c)) : n + c % 128 * 128 ^ i < 18446744073709551616 ∧ n + c % 128 * 128 ^ i < 128 ^ (i + 1) ∧ c % 128 * 128 ^ i < 18446744073709551616 := by
  rw [Nat.pow_succ]
  by_cases h : i = 9
  · subst h
    have : c ≤ 1 := by omega
    have hp : (128 : Nat) ^ 9 = 9223372036854775808 := by decide
    rw [hp] at hn ⊢
    omega
  · have hp := pow128_8 (i := i) (by omega)
    have hx : c % 128 < 128 := Nat.mod_lt _ (by omega)
    have hm : c % 128 * 128 ^ i ≤ 127 * 128 ^ i := Nat.mul_le_mul_right _ (by omega)
    generalize c % 128 * 128 ^ i = y at hm ⊢
    generalize 128 ^ i = z at *
    omega
theorem rdG_bd : ∀ (f i n : Nat) (s : List UInt8), i + f = 10 → n < 128 ^ i → ((rdG f i n s).1 ≠ 0 → (rdG f i n s).2 = (0, 0)) ∧ ((rdG f i n s).1 = 0 → (rdG f i n s).2.1 < 18446744073709551616 ∧ (rdG f i n s).2.2 ≤ i + s.length ∧ (rdG f i n s).2.2 ≤ 10 ∧ i < (rdG f i n s).2.2)
  | 0, i, n, s, _, _ => ⟨fun _ => rfl, fun h => absurd h (by rw [rdG_zero]; decide)⟩
  | f + 1, i, n, [], _, _ => ⟨fun _ => rfl, fun h => absurd h (by rw [rdG_nil]; decide)⟩
  | f + 1, i, n, c :: r, hf, hn => by
    rw [rdG_cons]
    by_cases h1 : f = 0 ∧ 1 < c.toNat
    · rw [if_pos h1]; exact ⟨fun _ => rfl, fun h => absurd h (by decide)⟩
    · have ha := acc_lt (i := i) (n := n) (c := c.toNat) (by omega) hn c.toNat_lt (by omega)
      rw [if_neg h1]
      by_cases h2 : 128 ≤ c.toNat
      · rw [if_pos h2]
        have := rdG_bd f (i + 1) _ r (by omega) ha.2.1
        refine ⟨this.1, fun h => ?_⟩
        have h3 := this.2 h
        rw [List.length_cons]
        exact ⟨h3.1, by omega, h3.2.2.1, by omega⟩
      · rw [if_neg h2]
        by_cases h3 : c.toNat = 0 ∧ 0 < i
        · rw [if_pos h3]; exact ⟨fun _ => rfl, fun h => absurd h (by decide)⟩
        · rw [if_neg h3]
          refine ⟨fun h => absurd rfl h, fun _ => ⟨ha.1, ?_, ?_, ?_⟩⟩
          · rw [List.length_cons]; show i + 1 ≤ _; omega
          · show i + 1 ≤ 10; omega
          · show i < i + 1; omega

theorem varint_any {w0 : World} (s : List UInt8) (hs : s.length ≤ 140737488355328) : Cl Tryz.prog 92 [S s] w0 (fun v w' => v = .tuple ⟨[U (rdG 10 0 0 s).2.1, I ((rdG 10 0 0 s).2.2 : Nat), I (rdG 10 0 0 s).1]⟩ ∧ St w0 NoneS [] w') := by
  have hSt := St.refl w0 NoneS
  refine enter Tryz.func92 rfl Tryz.ntmps92 rfl ?_
  repeat' (first | refine stepA ?_ | (refine stepS ?_; clear hSt; intro w hSt; dsimp only [spl, List.set] at hSt) | (refine stepB ?_; clear hSt; intro w nb hnb hSt; dsimp only [zcells, List.nil_append, List.cons_append] at hSt) | (refine stepG ?_ ?_ <;> intro hc <;> (try exact absA) <;> (fail_if_success (change true = true at hc)) <;> (fail_if_success (change false = false at hc))) | fail)
  refine W_sub (L' := [(8, I ((0 : Nat) : Int)), (5, U 0), (0, S s)]) (by (repeat (first | exact Sub.nil _ | refine Sub.cons rfl ?_))) ?_
  refine W_loop2 (fun k (i n : Nat) w => k + i = 10 ∧ i ≤ s.length ∧ n < 128 ^ i ∧ rdG 10 0 0 s = rdG k i n (s.drop i) ∧ St w0 NoneS [] w) (fun i n => [(8, I (i : Int)), (5, U n)]) 10 0 0 rfl (by (repeat (first | exact Str.nil _ | apply Str.drop rfl | apply Str.keepU rfl | apply Str.keep rfl))) ⟨rfl, by omega, by decide, rfl, hSt⟩ (by (repeat (first | exact Sub.nil _ | refine Sub.cons rfl ?_))) ?_
  clear hSt
  rintro k i n w ⟨hk, hi, hn, hr, hSt⟩ K hK
  rw [hr]
  by_cases h10 : i < 10
  · obtain ⟨f, rfl⟩ : ∃ f, k = f + 1 := ⟨k - 1, by omega⟩
    by_cases hl : i < s.length
    · obtain ⟨c, hc0⟩ : ∃ c, s[i]? = some c := ⟨_, List.getElem?_eq_getElem hl⟩
      have hc1 : s[((i : Nat) : Int).toNat]? = some c := hc0
      have hd : s.drop i = c :: s.drop (i + 1) := by
        rw [List.drop_eq_getElem_cons hl]
        congr 1
        exact (List.getElem?_eq_some_iff.1 hc0).2
      rw [hd, rdG_cons]
      have hcl := c.toNat_lt
      by_cases h9 : f = 0 ∧ 1 < c.toNat
      · rw [if_pos h9]
        repeat' (first | (apply WL_ev rfl rfl; exact Ev_strIndex hT rfl rfl rfl (by omega) hc1) | refine stepA ?_ | (refine stepS ?_; clear hSt; intro w hSt; dsimp only [spl, List.set] at hSt) | (refine stepB ?_; clear hSt; intro w nb hnb hSt; dsimp only [zcells, List.nil_append, List.cons_append] at hSt) | (refine stepG ?_ ?_ <;> intro hc <;> (try exact absA) <;> (fail_if_success (change true = true at hc)) <;> (fail_if_success (change false = false at hc))) | fail)
        exact ret3 rfl rfl rfl rfl ⟨rfl, hSt⟩
      · rw [if_neg h9]
        have ha := acc_lt (i := i) (n := n) (c := c.toNat) (by omega) hn hcl (by omega)
        have hx : c.toNat &&& 127 = c.toNat % 128 := and127 _ hcl
        have hxv : Y (c.toNat &&& 127) = Y (rB c.toNat) := by rw [hx]
        have h7 : 7 * ((i : Nat) : Int) = ((7 * i : Nat) : Int) := by omega
        have hsv : U (rB c.toNat * 2 ^ (7 * i) % 18446744073709551616) = U (rB c.toNat * 128 ^ i) := by
          rw [show (2 : Nat) ^ (7 * i) = 128 ^ i by rw [Nat.pow_mul], Nat.mod_eq_of_lt ha.2.2]
        have hov : U (n ||| rB c.toNat * 128 ^ i) = U (n + rB c.toNat * 128 ^ i) := by rw [or_add _ _ _ hn]
        have hnl : n < 18446744073709551616 := by omega
        have hxl : rB c.toNat * 128 ^ i < 18446744073709551616 := ha.2.2
        have hrl : rB c.toNat < 18446744073709551616 := Nat.lt_of_lt_of_le (Nat.mod_lt _ (by omega)) (by omega : 128 ≤ 18446744073709551616)
        by_cases h128 : 128 ≤ c.toNat
        · rw [if_pos h128]
          repeat' (first | (apply WL_ev rfl rfl; exact Ev_mul rfl rfl (by omega)) | (apply WL_ev rfl rfl; exact Ev_strIndex hT rfl rfl rfl (by omega) hc1) | (apply WL_ev rfl rfl; exact Ev_as (Ev_andY c.toNat 127 rfl rfl rfl rfl hcl (by omega)) hxv) | (apply WL_ev rfl rfl; exact Ev_convU hT (rB c.toNat) rfl rfl rfl rfl hrl) | (apply WL_ev rfl rfl; exact Ev_as (Ev_shlU (rB c.toNat) (7 * i) rfl rfl rfl h7 (by omega)) hsv) | (apply WL_ev rfl rfl; exact Ev_as (Ev_orU n (rB c.toNat * 128 ^ i) rfl rfl rfl rfl hnl hxl) hov) | refine stepA ?_ | (refine stepS ?_; clear hSt; intro w hSt; dsimp only [spl, List.set] at hSt) | (refine stepB ?_; clear hSt; intro w nb hnb hSt; dsimp only [zcells, List.nil_append, List.cons_append] at hSt) | (refine stepG ?_ ?_ <;> intro hc <;> (try exact absA) <;> (fail_if_success (change true = true at hc)) <;> (fail_if_success (change false = false at hc))) | fail)
          all_goals exact At_loop2 hK (k' := f) (i + 1) (n + rB c.toNat * 128 ^ i) (by omega) ⟨by omega, by omega, ha.2.1, by rw [hr, hd, rdG_cons, if_neg h9, if_pos h128], hSt⟩ (by (repeat (first | exact Sub.nil _ | refine Sub.cons rfl ?_)))
        · rw [if_neg h128]
          by_cases h0 : c.toNat = 0 ∧ 0 < i
          · rw [if_pos h0]
            repeat' (first | (apply WL_ev rfl rfl; exact Ev_mul rfl rfl (by omega)) | (apply WL_ev rfl rfl; exact Ev_strIndex hT rfl rfl rfl (by omega) hc1) | (apply WL_ev rfl rfl; exact Ev_as (Ev_andY c.toNat 127 rfl rfl rfl rfl hcl (by omega)) hxv) | (apply WL_ev rfl rfl; exact Ev_convU hT (rB c.toNat) rfl rfl rfl rfl hrl) | (apply WL_ev rfl rfl; exact Ev_as (Ev_shlU (rB c.toNat) (7 * i) rfl rfl rfl h7 (by omega)) hsv) | (apply WL_ev rfl rfl; exact Ev_as (Ev_orU n (rB c.toNat * 128 ^ i) rfl rfl rfl rfl hnl hxl) hov) | refine stepA ?_ | (refine stepS ?_; clear hSt; intro w hSt; dsimp only [spl, List.set] at hSt) | (refine stepB ?_; clear hSt; intro w nb hnb hSt; dsimp only [zcells, List.nil_append, List.cons_append] at hSt) | (refine stepG ?_ ?_ <;> intro hc <;> (try exact absA) <;> (fail_if_success (change true = true at hc)) <;> (fail_if_success (change false = false at hc))) | fail)
            all_goals exact ret3 rfl rfl rfl rfl ⟨rfl, hSt⟩
          · rw [if_neg h0]
            repeat' (first | (apply WL_ev rfl rfl; exact Ev_mul rfl rfl (by omega)) | (apply WL_ev rfl rfl; exact Ev_strIndex hT rfl rfl rfl (by omega) hc1) | (apply WL_ev rfl rfl; exact Ev_as (Ev_andY c.toNat 127 rfl rfl rfl rfl hcl (by omega)) hxv) | (apply WL_ev rfl rfl; exact Ev_convU hT (rB c.toNat) rfl rfl rfl rfl hrl) | (apply WL_ev rfl rfl; exact Ev_as (Ev_shlU (rB c.toNat) (7 * i) rfl rfl rfl h7 (by omega)) hsv) | (apply WL_ev rfl rfl; exact Ev_as (Ev_orU n (rB c.toNat * 128 ^ i) rfl rfl rfl rfl hnl hxl) hov) | refine stepA ?_ | (refine stepS ?_; clear hSt; intro w hSt; dsimp only [spl, List.set] at hSt) | (refine stepB ?_; clear hSt; intro w nb hnb hSt; dsimp only [zcells, List.nil_append, List.cons_append] at hSt) | (refine stepG ?_ ?_ <;> intro hc <;> (try exact absA) <;> (fail_if_success (change true = true at hc)) <;> (fail_if_success (change false = false at hc))) | fail)
            all_goals exact ret3 rfl rfl rfl rfl ⟨rfl, hSt⟩
    · obtain rfl : i = s.length := by omega
      rw [List.drop_length, rdG_nil]
      repeat' (first | refine stepA ?_ | (refine stepS ?_; clear hSt; intro w hSt; dsimp only [spl, List.set] at hSt) | (refine stepB ?_; clear hSt; intro w nb hnb hSt; dsimp only [zcells, List.nil_append, List.cons_append] at hSt) | (refine stepG ?_ ?_ <;> intro hc <;> (try exact absA) <;> (fail_if_success (change true = true at hc)) <;> (fail_if_success (change false = false at hc))) | fail)
      exact ret3 rfl rfl rfl rfl ⟨rfl, hSt⟩
  · obtain rfl : k = 0 := by omega
    rw [rdG_zero]
    repeat' (first | refine stepA ?_ | (refine stepS ?_; clear hSt; intro w hSt; dsimp only [spl, List.set] at hSt) | (refine stepB ?_; clear hSt; intro w nb hnb hSt; dsimp only [zcells, List.nil_append, List.cons_append] at hSt) | (refine stepG ?_ ?_ <;> intro hc <;> (try exact absA) <;> (fail_if_success (change true = true at hc)) <;> (fail_if_success (change false = false at hc))) | fail)
    exact ret3 rfl rfl rfl rfl ⟨rfl, hSt⟩

/-! ## A text -/
theorem rdT_err {s : List UInt8} {e : Int} {n k : Nat} (h : rdG 10 0 0 s = (e, n, k)) (he : e ≠ 0) : rdT s = (e, [], 0) := by
  unfold rdT; rw [h]; exact if_pos he
theorem rdT_long {s : List UInt8} {n k : Nat} (h : rdG 10 0 0 s = (0, n, k)) (hn : 4000 < n) : rdT s = (3, [], 0) := by
  unfold rdT; rw [h, if_neg (by simp), if_pos hn]
theorem rdT_short {s : List UInt8} {n k : Nat} (h : rdG 10 0 0 s = (0, n, k)) (hn : ¬ 4000 < n) (hl : s.length - k < n) : rdT s = (1, [], 0) := by
  unfold rdT; rw [h, if_neg (by simp), if_neg hn, if_pos hl]
theorem rdT_ok {s : List UInt8} {n k : Nat} (h : rdG 10 0 0 s = (0, n, k)) (hn : ¬ 4000 < n) (hl : ¬ s.length - k < n) : rdT s = (0, (s.drop k).take n, k + n) := by
  unfold rdT; rw [h, if_neg (by simp), if_neg hn, if_neg hl]
theorem rdT_bd (s : List UInt8) : (rdT s).2.2 ≤ s.length ∧ (rdT s).2.1.length ≤ 4000 ∧ ((rdT s).1 = 0 → 1 ≤ (rdT s).2.2 ∧ (rdT s).2.1.length ≤ (rdT s).2.2) := by
  obtain ⟨e, n, k, hr⟩ : ∃ e n k, rdG 10 0 0 s = (e, n, k) := ⟨_, _, _, rfl⟩
  have hbd := rdG_bd 10 0 0 s rfl (by decide)
  rw [hr] at hbd
  dsimp only at hbd
  by_cases he : e = 0
  · subst he
    obtain ⟨b1, b2, b3, b4⟩ := hbd.2 rfl
    by_cases hn : 4000 < n
    · rw [rdT_long hr hn]; exact ⟨Nat.zero_le _, Nat.zero_le _, fun h => absurd h (by decide)⟩
    · by_cases hl : s.length - k < n
      · rw [rdT_short hr hn hl]; exact ⟨Nat.zero_le _, Nat.zero_le _, fun h => absurd h (by decide)⟩
      · rw [rdT_ok hr hn hl]
        have h1 : ((s.drop k).take n).length ≤ n := List.length_take_le _ _
        exact ⟨by show k + n ≤ _; omega, by show ((s.drop k).take n).length ≤ 4000; omega, fun _ => ⟨by show 1 ≤ k + n; omega, by show ((s.drop k).take n).length ≤ k + n; omega⟩⟩
  · rw [rdT_err hr he]; exact ⟨Nat.zero_le _, Nat.zero_le _, fun h => absurd h he⟩
abbrev rO (s : List UInt8) (a : Nat) (e : Int) : Obj := blk [S s, I (a : Int), I e] 140
abbrev iO (n : Int) : Obj := blk [I n] 3
abbrev sO (s : List UInt8) : Obj := blk [S s] 9
theorem clos_any {w0 : World} {bm bo : Nat} (h1 : w0.heap[bm]? = some (iO 4000)) (h2 : w0.heap[bo]? = some (sO [])) (hne : bm ≠ bo) (s : List UInt8) (hs : s.length ≤ 140737488355328) :
    Cl Tryz.prog 91 [S s, Ptr bm, Ptr bo] w0 (fun v w' => v = .tuple ⟨[I ((rdT s).2.2 : Nat), I (rdT s).1]⟩ ∧ St w0 (· = bo) [(bo, sO (rdT s).2.1)] w') := by
  have hSt := (St.refl w0 (· = bo)).know h2 (Or.inl rfl) (by simp)
  dsimp only [List.nil_append, List.cons_append] at hSt
  obtain ⟨e, n, k, hr⟩ : ∃ e n k, rdG 10 0 0 s = (e, n, k) := ⟨_, _, _, rfl⟩
  have hbd := rdG_bd 10 0 0 s rfl (by decide)
  have hv := fun {w : World} => varint_any (w0 := w) s hs
  rw [hr] at hbd hv
  dsimp only at hbd hv
  have hq : ([I 4000] : List Value)[0]? = some (I 4000) := rfl
  by_cases he : e = 0
  · subst he
    obtain ⟨b1, b2, b3, b4⟩ := hbd.2 rfl
    have hnl : s.length - k < 18446744073709551616 := by omega
    by_cases hn : 4000 < n
    · rw [rdT_long hr hn]
      refine enter Tryz.func91 rfl Tryz.ntmps91 rfl ?_
      repeat' (first | (refine WL_call (ok_call hT rfl) rfl rfl rfl (hv) ?_; rintro v w' ⟨rfl, hc2⟩; replace hSt := hSt.call0 hc2; clear hc2) | (apply WL_ev rfl rfl; exact Ev_load1 hT rfl rfl (hSt.base h1 hne) hq) | (apply WL_ev rfl rfl; exact Ev_convU hT 4000 rfl rfl rfl rfl (by omega)) | refine stepA ?_ | (refine stepS ?_; clear hSt; intro w hSt; dsimp only [spl, List.set] at hSt) | (refine stepB ?_; clear hSt; intro w nb hnb hSt; dsimp only [zcells, List.nil_append, List.cons_append] at hSt) | (refine stepG ?_ ?_ <;> intro hc <;> (try exact absA) <;> (fail_if_success (change true = true at hc)) <;> (fail_if_success (change false = false at hc))) | fail)
      all_goals exact ret2 rfl rfl rfl ⟨rfl, hSt⟩
    · by_cases hl : s.length - k < n
      · rw [rdT_short hr hn hl]
        refine enter Tryz.func91 rfl Tryz.ntmps91 rfl ?_
        repeat' (first | (refine WL_call (ok_call hT rfl) rfl rfl rfl (hv) ?_; rintro v w' ⟨rfl, hc2⟩; replace hSt := hSt.call0 hc2; clear hc2) | (apply WL_ev rfl rfl; exact Ev_load1 hT rfl rfl (hSt.base h1 hne) hq) | (apply WL_ev rfl rfl; exact Ev_convU hT 4000 rfl rfl rfl rfl (by omega)) | (apply WL_ev rfl rfl; exact Ev_convU hT (s.length - k) rfl rfl rfl (by omega) hnl) | refine stepA ?_ | (refine stepS ?_; clear hSt; intro w hSt; dsimp only [spl, List.set] at hSt) | (refine stepB ?_; clear hSt; intro w nb hnb hSt; dsimp only [zcells, List.nil_append, List.cons_append] at hSt) | (refine stepG ?_ ?_ <;> intro hc <;> (try exact absA) <;> (fail_if_success (change true = true at hc)) <;> (fail_if_success (change false = false at hc))) | fail)
        all_goals exact ret2 rfl rfl rfl ⟨rfl, hSt⟩
      · rw [rdT_ok hr hn hl]
        have esl : Value.string ⟨⟨(s.drop ((k : Nat) : Int).toNat).take ((((k : Nat) : Int) + ((n : Nat) : Int)).toNat - ((k : Nat) : Int).toNat)⟩⟩ = S ((s.drop k).take n) := by
          rw [show (((k : Nat) : Int) + ((n : Nat) : Int)).toNat - ((k : Nat) : Int).toNat = n by omega, Int.toNat_natCast]
        refine enter Tryz.func91 rfl Tryz.ntmps91 rfl ?_
        repeat' (first | (refine WL_call (ok_call hT rfl) rfl rfl rfl (hv) ?_; rintro v w' ⟨rfl, hc2⟩; replace hSt := hSt.call0 hc2; clear hc2) | (apply WL_ev rfl rfl; exact Ev_load1 hT rfl rfl (hSt.base h1 hne) hq) | (apply WL_ev rfl rfl; exact Ev_convU hT 4000 rfl rfl rfl rfl (by omega)) | (apply WL_ev rfl rfl; exact Ev_convU hT (s.length - k) rfl rfl rfl (by omega) hnl) | (apply WL_ev rfl rfl; exact Ev_convI hT n rfl rfl rfl rfl (by omega)) | (apply WL_ev rfl rfl; exact Ev_as (Ev_str_slice hT rfl rfl rfl rfl (by omega) (by omega) (by omega)) esl) | refine stepA ?_ | (refine stepS ?_; clear hSt; intro w hSt; dsimp only [spl, List.set] at hSt) | (refine stepB ?_; clear hSt; intro w nb hnb hSt; dsimp only [zcells, List.nil_append, List.cons_append] at hSt) | (refine stepG ?_ ?_ <;> intro hc <;> (try exact absA) <;> (fail_if_success (change true = true at hc)) <;> (fail_if_success (change false = false at hc))) | fail)
        all_goals exact ret2 rfl rfl rfl ⟨rfl, hSt⟩
  · rw [rdT_err hr he]
    refine enter Tryz.func91 rfl Tryz.ntmps91 rfl ?_
    repeat' (first | (refine WL_call (ok_call hT rfl) rfl rfl rfl (hv) ?_; rintro v w' ⟨rfl, hc2⟩; replace hSt := hSt.call0 hc2; clear hc2) | refine stepA ?_ | (refine stepS ?_; clear hSt; intro w hSt; dsimp only [spl, List.set] at hSt) | (refine stepB ?_; clear hSt; intro w nb hnb hSt; dsimp only [zcells, List.nil_append, List.cons_append] at hSt) | (refine stepG ?_ ?_ <;> intro hc <;> (try exact absA) <;> (fail_if_success (change true = true at hc)) <;> (fail_if_success (change false = false at hc))) | fail)
    all_goals exact ret2 rfl rfl rfl ⟨rfl, hSt⟩

theorem step_any {w0 : World} {br bm bo : Nat} {s : List UInt8} (hh : Has w0 [(br, rO s 0 0), (bm, iO 4000), (bo, sO [])]) (hs : s.length ≤ 140737488355328) :
    Cl Tryz.prog 90 [Ptr br, .func (.func 91) ⟨[]⟩ ⟨[Ptr bm, Ptr bo]⟩] w0 (fun v w' => v = .tuple #[] ∧ St w0 (InH [(br, rO s 0 0), (bm, iO 4000), (bo, sO [])]) [(br, rO s (rdT s).2.2 (rdT s).1), (bm, iO 4000), (bo, sO (rdT s).2.1)] w') := by
  have hSt := hh.st
  have hne : bm ≠ bo := fun e => by have := hh.apart 1 2 _ _ _ _ rfl rfl e; cases this
  have e0 : Value.string ⟨⟨(s.drop (0 : Int).toNat).take ((s.length : Int).toNat - (0 : Int).toNat)⟩⟩ = S s := by
    rw [show (s.length : Int).toNat - (0 : Int).toNat = s.length by omega, show (0 : Int).toNat = 0 by decide, List.drop_zero, List.take_length]
  have hcon := fun {w : World} (h1 : w.heap[bm]? = some (iO 4000)) (h2 : w.heap[bo]? = some (sO [])) => clos_any h1 h2 hne s hs
  have herr : (rdT s).1 ≠ 0 → (rdT s).2.2 = 0 := by
    unfold rdT
    repeat' split
    all_goals first | (intro _; rfl) | (intro h; exact absurd rfl h)
  have hbd := (rdT_bd s).1
  generalize rdT s = r at hcon herr hbd ⊢
  obtain ⟨e, x, k⟩ := r
  dsimp only at hcon herr hbd ⊢
  refine enter Tryz.func90 rfl Tryz.ntmps90 rfl ?_
  by_cases he : e = 0
  · subst he
    have e9 : Value.int .i64 (((0 : Nat) : Int) + ((k : Nat) : Int)) = I ((k : Nat) : Int) := by congr 1; omega
    repeat' (first | (apply WL_ev rfl rfl; exact Ev_some_nil_eql (ok_ptr hT rfl) rfl rfl) | (refine W_ownS (Hs := [_, _]) [(0, false), (1, false), (2, false), (3, false), (4, false), (5, false), (6, false), (7, false), (8, false), (9, false), (10, true), (11, false), (12, false), (13, false), (14, false)] hT (by decide +kernel) rfl hSt ?_; clear hSt; intro w hSt; (repeat' (first | (apply HL_ev rfl rfl (St.left (H0 := [_, _]) hSt); (intro w hSt; first | exact Ev_as (Ev_str_slice hT rfl rfl rfl rfl (by omega) (by omega) (by omega)) e0 | (first | exact Ev_auto))) | (refine HL_one ?_; refine WL_callV (f := 91) (ok_call hT rfl) rfl rfl rfl rfl (hcon (hSt.own 1 _ _ rfl).1 (hSt.own 2 _ _ rfl).1) ?_; rintro v w' ⟨rfl, hc2⟩; replace hSt := hSt.call1 (i := 2) rfl hc2; clear hc2; dsimp only [List.set, List.cons_append, List.nil_append] at hSt; refine WL_nil (At_oneH (St.left (H0 := [_, _]) hSt) ?_)))); refine HL_end ?_; simp only [List.length_cons, List.length_nil, List.drop_succ_cons, List.drop_zero]) | (apply WL_ev rfl rfl; exact Ev_as (Ev_add rfl rfl (by omega)) e9) | refine stepA ?_ | (refine stepS ?_; clear hSt; intro w hSt; dsimp only [spl, List.set] at hSt) | (refine stepB ?_; clear hSt; intro w nb hnb hSt; dsimp only [zcells, List.nil_append, List.cons_append] at hSt) | (refine stepG ?_ ?_ <;> intro hc <;> (try exact absA) <;> (fail_if_success (change true = true at hc)) <;> (fail_if_success (change false = false at hc))) | fail)
    exact ⟨rfl, hSt⟩
  · have := herr he
    subst this
    repeat' (first | (apply WL_ev rfl rfl; exact Ev_some_nil_eql (ok_ptr hT rfl) rfl rfl) | (refine W_ownS (Hs := [_, _]) [(0, false), (1, false), (2, false), (3, false), (4, false), (5, false), (6, false), (7, false), (8, false), (9, false), (10, true), (11, false), (12, false), (13, false), (14, false)] hT (by decide +kernel) rfl hSt ?_; clear hSt; intro w hSt; (repeat' (first | (apply HL_ev rfl rfl (St.left (H0 := [_, _]) hSt); (intro w hSt; first | exact Ev_as (Ev_str_slice hT rfl rfl rfl rfl (by omega) (by omega) (by omega)) e0 | (first | exact Ev_auto))) | (refine HL_one ?_; refine WL_callV (f := 91) (ok_call hT rfl) rfl rfl rfl rfl (hcon (hSt.own 1 _ _ rfl).1 (hSt.own 2 _ _ rfl).1) ?_; rintro v w' ⟨rfl, hc2⟩; replace hSt := hSt.call1 (i := 2) rfl hc2; clear hc2; dsimp only [List.set, List.cons_append, List.nil_append] at hSt; refine WL_nil (At_oneH (St.left (H0 := [_, _]) hSt) ?_)))); refine HL_end ?_; simp only [List.length_cons, List.length_nil, List.drop_succ_cons, List.drop_zero]) | refine stepA ?_ | (refine stepS ?_; clear hSt; intro w hSt; dsimp only [spl, List.set] at hSt) | (refine stepB ?_; clear hSt; intro w nb hnb hSt; dsimp only [zcells, List.nil_append, List.cons_append] at hSt) | (refine stepG ?_ ?_ <;> intro hc <;> (try exact absA) <;> (fail_if_success (change true = true at hc)) <;> (fail_if_success (change false = false at hc))) | fail)
    exact ret0 rfl ⟨rfl, hSt⟩
theorem rtx_any {w0 : World} {br : Nat} {s : List UInt8} (hb : w0.heap[br]? = some (rO s 0 0)) (hs : s.length ≤ 140737488355328) :
    Cl Tryz.prog 77 [Ptr br, I 4000] w0 (fun v w' => v = S (rdT s).2.1 ∧ St w0 (· = br) [(br, rO s (rdT s).2.2 (rdT s).1)] w') := by
  have hSt := (St.refl w0 (· = br)).know hb (Or.inl rfl) (by simp)
  dsimp only [List.nil_append, List.cons_append] at hSt
  have hcon := fun {w : World} {bm bo : Nat} (hh : Has w [(br, rO s 0 0), (bm, iO 4000), (bo, sO [])]) => step_any hh hs
  generalize rdT s = r at hcon ⊢
  obtain ⟨e, x, k⟩ := r
  dsimp only at hcon ⊢
  refine enter Tryz.func77 rfl Tryz.ntmps77 rfl ?_
  repeat' (first | (apply WL_ev rfl rfl; exact Ev_makeFunc rfl) | (refine WL_isCall (f := 90) ?_; refine WL_call (ok_call hT rfl) rfl rfl rfl (hcon hSt.has) ?_; rintro v w' ⟨rfl, hc2⟩; replace hSt := St.callE (Ha := []) hSt hc2; clear hc2; dsimp only [List.nil_append] at hSt) | refine stepA ?_ | (refine stepS ?_; clear hSt; intro w hSt; dsimp only [spl, List.set] at hSt) | (refine stepB ?_; clear hSt; intro w nb hnb hSt; dsimp only [zcells, List.nil_append, List.cons_append] at hSt) | (refine stepG ?_ ?_ <;> intro hc <;> (try exact absA) <;> (fail_if_success (change true = true at hc)) <;> (fail_if_success (change false = false at hc))) | fail)
  exact ret1 rfl rfl ⟨rfl, hSt.sublist (List.Sublist.cons_cons _ (List.nil_sublist _))⟩
theorem new_any {w0 : World} (s : List UInt8) : Cl Tryz.prog 76 [S s] w0 (fun v w' => ∃ b, v = Ptr b ∧ St w0 NoneS [(b, rO s 0 0)] w') := by
  have hSt := St.refl w0 NoneS
  refine enter Tryz.func76 rfl Tryz.ntmps76 rfl ?_
  repeat' (first | refine stepA ?_ | (refine stepS ?_; clear hSt; intro w hSt; dsimp only [spl, List.set] at hSt) | (refine stepB ?_; clear hSt; intro w nb hnb hSt; dsimp only [zcells, List.nil_append, List.cons_append] at hSt) | (refine stepG ?_ ?_ <;> intro hc <;> (try exact absA) <;> (fail_if_success (change true = true at hc)) <;> (fail_if_success (change false = false at hc))) | fail)
  exact ret1 rfl rfl ⟨_, rfl, hSt⟩
theorem err_any {w0 : World} {br : Nat} {s : List UInt8} {a : Nat} {e : Int} (hb : w0.heap[br]? = some (rO s a e)) : Cl Tryz.prog 78 [Ptr br] w0 (fun v w' => v = I e ∧ St w0 NoneS [] w') := by
  have hSt := St.refl w0 NoneS
  have hq : ([S s, I (a : Int), I e] : List Value)[2]? = some (I e) := rfl
  refine enter Tryz.func78 rfl Tryz.ntmps78 rfl ?_
  repeat' (first | (apply WL_ev rfl rfl; exact Ev_some_nil_eql (ok_ptr hT rfl) rfl rfl) | (apply WL_ev rfl rfl; exact Ev_load1 hT rfl rfl (hSt.base hb (fun e => e)) hq) | refine stepA ?_ | (refine stepS ?_; clear hSt; intro w hSt; dsimp only [spl, List.set] at hSt) | (refine stepB ?_; clear hSt; intro w nb hnb hSt; dsimp only [zcells, List.nil_append, List.cons_append] at hSt) | (refine stepG ?_ ?_ <;> intro hc <;> (try exact absA) <;> (fail_if_success (change true = true at hc)) <;> (fail_if_success (change false = false at hc))) | fail)
  all_goals exact ret1 rfl rfl ⟨rfl, hSt⟩
theorem left_any {w0 : World} {br : Nat} {s : List UInt8} {a : Nat} {e : Int} (hb : w0.heap[br]? = some (rO s a e)) (ha : a ≤ s.length) (hs : s.length ≤ 140737488355328) : Cl Tryz.prog 79 [Ptr br] w0 (fun v w' => v = I ((s.length - a : Nat) : Int) ∧ St w0 NoneS [] w') := by
  have hSt := St.refl w0 NoneS
  have hq : ([S s, I (a : Int), I e] : List Value)[1]? = some (I a) := rfl
  have hq2 : ([S s, I (a : Int), I e] : List Value)[0]? = some (S s) := rfl
  have es : Value.int .i64 ((s.length : Int) - (a : Int)) = I ((s.length - a : Nat) : Int) := by congr 1; omega
  refine enter Tryz.func79 rfl Tryz.ntmps79 rfl ?_
  repeat' (first | (refine W_tail 10 hT (by decide +kernel) hSt ?_; clear hSt; intro w hSt; simp only [List.take_succ_cons, List.take_zero]; (repeat' (first | (apply SL_ev rfl rfl; (first | (exact Ev_some_nil_eql (ok_ptr hT rfl) rfl rfl) | (exact Ev_load1 hT rfl rfl (hSt.base hb (fun e => e)) hq) | (exact Ev_load1 hT rfl rfl (hSt.base hb (fun e => e)) hq2) | (exact Ev_as (Ev_sub rfl rfl (by omega)) es) | exact Ev_auto)) | refine SL_pass rfl rfl ?_ | (refine SL_guardP rfl rfl (fun hc => ?_) (fun hc => ?_) <;> try exact absA) | (refine SL_guard rfl rfl (fun hc => ?_) (fun hc => ?_) <;> (try exact absA) <;> (fail_if_success (change true = true at hc)) <;> (fail_if_success (change false = false at hc))))); all_goals (refine SL_nil ?_; simp only [List.drop_succ_cons, List.drop_zero])) | (apply WL_ev rfl rfl; exact Ev_some_nil_eql (ok_ptr hT rfl) rfl rfl) | (apply WL_ev rfl rfl; exact Ev_load1 hT rfl rfl (hSt.base hb (fun e => e)) hq) | (apply WL_ev rfl rfl; exact Ev_load1 hT rfl rfl (hSt.base hb (fun e => e)) hq2) | (apply WL_ev rfl rfl; exact Ev_as (Ev_sub rfl rfl (by omega)) es) | refine stepA ?_ | (refine stepS ?_; clear hSt; intro w hSt; dsimp only [spl, List.set] at hSt) | (refine stepB ?_; clear hSt; intro w nb hnb hSt; dsimp only [zcells, List.nil_append, List.cons_append] at hSt) | (refine stepG ?_ ?_ <;> intro hc <;> (try exact absA) <;> (fail_if_success (change true = true at hc)) <;> (fail_if_success (change false = false at hc))) | fail)
  all_goals exact ret1 rfl rfl ⟨rfl, hSt⟩

/-! ## The first frame, and the valid prefix -/
theorem prefix_any {w0 : World} (s p : List UInt8) (hs : s.length ≤ 140737488355328) (hp : p.length ≤ 140737488355328) : Cl Tryz.prog 93 [S s, S p] w0 (fun v w' => v = B (decide (s.take p.length = p)) ∧ St w0 NoneS [] w') := by
  have hSt := St.refl w0 NoneS
  have esl : p.length ≤ s.length → Value.string ⟨⟨(s.drop (0 : Int).toNat).take (((p.length : Nat) : Int).toNat - (0 : Int).toNat)⟩⟩ = S (s.take p.length) := by
    intro _
    rw [show ((p.length : Nat) : Int).toNat - (0 : Int).toNat = p.length by omega, show (0 : Int).toNat = 0 by decide, List.drop_zero]
  refine enter Tryz.func93 rfl Tryz.ntmps93 rfl ?_
  repeat' (first | (apply WL_ev rfl rfl; exact Ev_as (Ev_str_slice hT rfl rfl rfl rfl (by omega) (by omega) (by omega)) (esl (by omega))) | refine stepA ?_ | (refine stepS ?_; clear hSt; intro w hSt; dsimp only [spl, List.set] at hSt) | (refine stepB ?_; clear hSt; intro w nb hnb hSt; dsimp only [zcells, List.nil_append, List.cons_append] at hSt) | (refine stepG ?_ ?_ <;> intro hc <;> (try exact absA) <;> (fail_if_success (change true = true at hc)) <;> (fail_if_success (change false = false at hc))) | fail)
  · exact ret1 rfl rfl ⟨rfl, hSt⟩
  · refine ret1 rfl rfl ⟨?_, hSt⟩
    have hne : ¬ s.take p.length = p := by
      intro h
      have := congrArg List.length h
      rw [List.length_take] at this
      omega
    simp [hne]
theorem hasprefix_any {w0 : World} (s p : List UInt8) (hs : s.length ≤ 140737488355328) (hp : p.length ≤ 140737488355328) : Cl Tryz.prog 80 [S s, S p] w0 (fun v w' => v = B (decide (s.take p.length = p)) ∧ St w0 NoneS [] w') := by
  have hSt := St.refl w0 NoneS
  refine enter Tryz.func80 rfl Tryz.ntmps80 rfl ?_
  repeat' (first | (refine WL_isCall (f := 93) ?_; refine WL_call (ok_call hT rfl) rfl rfl rfl (prefix_any _ _ hs hp) ?_; rintro v w' ⟨rfl, hc2⟩; replace hSt := hSt.call0 hc2; clear hc2) | refine stepA ?_ | (refine stepS ?_; clear hSt; intro w hSt; dsimp only [spl, List.set] at hSt) | (refine stepB ?_; clear hSt; intro w nb hnb hSt; dsimp only [zcells, List.nil_append, List.cons_append] at hSt) | (refine stepG ?_ ?_ <;> intro hc <;> (try exact absA) <;> (fail_if_success (change true = true at hc)) <;> (fail_if_success (change false = false at hc))) | fail)
  exact ret1 rfl rfl ⟨rfl, hSt⟩
/-- what first returns -/
def firstV (p : Nat) (s : List UInt8) : Value := match firstF p s with
  | none => .tuple ⟨[S [], I 0, B false]⟩
  | some (x, n) => .tuple ⟨[S x, I (n : Int), B true]⟩
end Go.Proofs.YthkimkgphaiagaaGreatDoor

namespace Go.Proofs.YthkimkgphaiagaaGreatDoor
open Go.RowKit
set_option maxRecDepth 4000
set_option linter.unusedVariables false
set_option linter.unusedSimpArgs false
set_option maxHeartbeats 4000000

theorem first_any {w0 : World} (hD : Deb w0) (p : Nat) (hp : p < 18446744073709551616) (s : List UInt8) (hs : s.length ≤ 1000000) : Cl Tryz.prog 67 [U p, S s] w0 (fun v w' => v = firstV p s ∧ St w0 NoneS [] w') := by
  have hSt := St.refl w0 NoneS
  have hbd := rdT_bd s
  have hn := fun {w : World} => new_any (w0 := w) s
  have ht := fun {w : World} {br : Nat} (hb : w.heap[br]? = some (rO s 0 0)) => rtx_any hb (by omega)
  unfold firstV firstF
  generalize rdT s = r at hbd ht ⊢
  obtain ⟨e, x, n⟩ := r
  dsimp only at hbd ht ⊢
  have hl := leB_length 8 (chainF p x)
  have hcl := chainF_lt p x
  have hx : x.length ≤ 140737488355328 := by omega
  have esl : Value.string ⟨⟨(s.drop ((n : Nat) : Int).toNat).take ((s.length : Int).toNat - ((n : Nat) : Int).toNat)⟩⟩ = S (s.drop n) := by
    rw [show (s.length : Int).toNat - ((n : Nat) : Int).toNat = s.length - n by omega, Int.toNat_natCast, List.take_of_length_le (by rw [List.length_drop]; exact Nat.le_refl _)]
  have en : Value.int .i64 ((s.length : Int) - ((s.length - n : Nat) : Int)) = I ((n : Nat) : Int) := by congr 1; omega
  have hpf := fun {w : World} => hasprefix_any (w0 := w) (s.drop n) (leB (chainF p x) 8) (by rw [List.length_drop]; omega) (by rw [leB_length]; omega)
  rw [hl] at hpf
  by_cases he : e = 0
  · subst he
    rw [if_neg (by simp)]
    by_cases hq : (s.drop n).take 8 = leB (chainF p x) 8
    · rw [if_pos hq]
      refine enter Tryz.func67 rfl Tryz.ntmps67 rfl ?_
      repeat' (first | (refine WL_isCall (f := 76) ?_; refine WL_call (ok_call hT rfl) rfl rfl rfl hn ?_; rintro v w2 ⟨br, rfl, hc2⟩; replace hSt := hSt.new1 hc2; clear hc2; dsimp only [List.nil_append] at hSt) | (refine WL_isCall (f := 77) ?_; refine WL_call (ok_call hT rfl) rfl rfl rfl (ht (hSt.own 0 _ _ rfl).1) ?_; rintro v w2 ⟨rfl, hc2⟩; replace hSt := hSt.call1 (i := 0) rfl hc2; clear hc2; dsimp only [List.set] at hSt) | (refine WL_isCall (f := 78) ?_; refine WL_call (ok_call hT rfl) rfl rfl rfl (err_any (hSt.own 0 _ _ rfl).1) ?_; rintro v w' ⟨rfl, hc2⟩; replace hSt := hSt.call0 hc2; clear hc2) | (refine WL_isCall (f := 79) ?_; refine WL_call (ok_call hT rfl) rfl rfl rfl (left_any (hSt.own 0 _ _ rfl).1 (by omega) (by omega)) ?_; rintro v w' ⟨rfl, hc2⟩; replace hSt := hSt.call0 hc2; clear hc2) | (apply WL_ev rfl rfl; exact Ev_as (Ev_sub rfl rfl (by omega)) en) | (apply WL_ev rfl rfl; exact Ev_as (Ev_str_slice hT rfl rfl rfl rfl (by omega) (by omega) (by omega)) esl) | refine stepA ?_ | (refine stepS ?_; clear hSt; intro w hSt; dsimp only [spl, List.set] at hSt) | (refine stepB ?_; clear hSt; intro w nb hnb hSt; dsimp only [zcells, List.nil_append, List.cons_append] at hSt) | (refine W_quiet hT (by decide +kernel) hSt ?_; clear hSt; (repeat' (first | (refine QL_isCall (f := 68) ?_; refine QL_call (ok_call hT rfl) rfl rfl rfl (fun w hSt => (chain_any _ hp _ hx).mono (fun v w2 h => ⟨h.1, hSt.call0 h.2⟩)) ?_) | (refine QL_isCall (f := 81) ?_; refine QL_call (ok_call hT rfl) rfl rfl rfl (fun w hSt => (little_any (hD.later hSt (fun e => e)) _ hcl).mono (fun v w2 h => ⟨h.1, hSt.call0 h.2⟩)) ?_) | (refine QL_isCall (f := 80) ?_; refine QL_call (ok_call hT rfl) rfl rfl rfl (fun w hSt => hpf.mono (fun v w2 h => ⟨h.1, hSt.call0 h.2⟩)) ?_) | (apply QL_ev rfl rfl; (intro w hSt; (first | (exact Ev_as (Ev_sub rfl rfl (by omega)) en) | (exact Ev_as (Ev_str_slice hT rfl rfl rfl rfl (by omega) (by omega) (by omega)) esl) | exact Ev_auto))) | refine QL_pass rfl rfl ?_ | (refine QL_guardP rfl rfl (fun hc => ?_) (fun hc => ?_) <;> try exact absA) | (refine QL_guard rfl rfl (fun hc => ?_) (fun hc => ?_) <;> (try exact absA) <;> (fail_if_success (change true = true at hc)) <;> (fail_if_success (change false = false at hc))))); all_goals (refine QL_nil (fun w hSt => ?_))) | (refine stepG ?_ ?_ <;> intro hc <;> (try exact absA) <;> (fail_if_success (change true = true at hc)) <;> (fail_if_success (change false = false at hc))) | fail)
      all_goals exact ret3 rfl rfl rfl rfl ⟨rfl, hSt.nil⟩
    · rw [if_neg hq]
      refine enter Tryz.func67 rfl Tryz.ntmps67 rfl ?_
      repeat' (first | (refine WL_isCall (f := 76) ?_; refine WL_call (ok_call hT rfl) rfl rfl rfl hn ?_; rintro v w2 ⟨br, rfl, hc2⟩; replace hSt := hSt.new1 hc2; clear hc2; dsimp only [List.nil_append] at hSt) | (refine WL_isCall (f := 77) ?_; refine WL_call (ok_call hT rfl) rfl rfl rfl (ht (hSt.own 0 _ _ rfl).1) ?_; rintro v w2 ⟨rfl, hc2⟩; replace hSt := hSt.call1 (i := 0) rfl hc2; clear hc2; dsimp only [List.set] at hSt) | (refine WL_isCall (f := 78) ?_; refine WL_call (ok_call hT rfl) rfl rfl rfl (err_any (hSt.own 0 _ _ rfl).1) ?_; rintro v w' ⟨rfl, hc2⟩; replace hSt := hSt.call0 hc2; clear hc2) | (refine WL_isCall (f := 79) ?_; refine WL_call (ok_call hT rfl) rfl rfl rfl (left_any (hSt.own 0 _ _ rfl).1 (by omega) (by omega)) ?_; rintro v w' ⟨rfl, hc2⟩; replace hSt := hSt.call0 hc2; clear hc2) | (apply WL_ev rfl rfl; exact Ev_as (Ev_sub rfl rfl (by omega)) en) | (apply WL_ev rfl rfl; exact Ev_as (Ev_str_slice hT rfl rfl rfl rfl (by omega) (by omega) (by omega)) esl) | refine stepA ?_ | (refine stepS ?_; clear hSt; intro w hSt; dsimp only [spl, List.set] at hSt) | (refine stepB ?_; clear hSt; intro w nb hnb hSt; dsimp only [zcells, List.nil_append, List.cons_append] at hSt) | (refine W_quiet hT (by decide +kernel) hSt ?_; clear hSt; (repeat' (first | (refine QL_isCall (f := 68) ?_; refine QL_call (ok_call hT rfl) rfl rfl rfl (fun w hSt => (chain_any _ hp _ hx).mono (fun v w2 h => ⟨h.1, hSt.call0 h.2⟩)) ?_) | (refine QL_isCall (f := 81) ?_; refine QL_call (ok_call hT rfl) rfl rfl rfl (fun w hSt => (little_any (hD.later hSt (fun e => e)) _ hcl).mono (fun v w2 h => ⟨h.1, hSt.call0 h.2⟩)) ?_) | (refine QL_isCall (f := 80) ?_; refine QL_call (ok_call hT rfl) rfl rfl rfl (fun w hSt => hpf.mono (fun v w2 h => ⟨h.1, hSt.call0 h.2⟩)) ?_) | (apply QL_ev rfl rfl; (intro w hSt; (first | (exact Ev_as (Ev_sub rfl rfl (by omega)) en) | (exact Ev_as (Ev_str_slice hT rfl rfl rfl rfl (by omega) (by omega) (by omega)) esl) | exact Ev_auto))) | refine QL_pass rfl rfl ?_ | (refine QL_guardP rfl rfl (fun hc => ?_) (fun hc => ?_) <;> try exact absA) | (refine QL_guard rfl rfl (fun hc => ?_) (fun hc => ?_) <;> (try exact absA) <;> (fail_if_success (change true = true at hc)) <;> (fail_if_success (change false = false at hc))))); all_goals (refine QL_nil (fun w hSt => ?_))) | (refine stepG ?_ ?_ <;> intro hc <;> (try exact absA) <;> (fail_if_success (change true = true at hc)) <;> (fail_if_success (change false = false at hc))) | fail)
      all_goals exact ret3 rfl rfl rfl rfl ⟨rfl, hSt.nil⟩
  · rw [if_pos he]
    refine enter Tryz.func67 rfl Tryz.ntmps67 rfl ?_
    repeat' (first | (refine WL_isCall (f := 76) ?_; refine WL_call (ok_call hT rfl) rfl rfl rfl hn ?_; rintro v w2 ⟨br, rfl, hc2⟩; replace hSt := hSt.new1 hc2; clear hc2; dsimp only [List.nil_append] at hSt) | (refine WL_isCall (f := 77) ?_; refine WL_call (ok_call hT rfl) rfl rfl rfl (ht (hSt.own 0 _ _ rfl).1) ?_; rintro v w2 ⟨rfl, hc2⟩; replace hSt := hSt.call1 (i := 0) rfl hc2; clear hc2; dsimp only [List.set] at hSt) | (refine WL_isCall (f := 78) ?_; refine WL_call (ok_call hT rfl) rfl rfl rfl (err_any (hSt.own 0 _ _ rfl).1) ?_; rintro v w' ⟨rfl, hc2⟩; replace hSt := hSt.call0 hc2; clear hc2) | (refine WL_isCall (f := 79) ?_; refine WL_call (ok_call hT rfl) rfl rfl rfl (left_any (hSt.own 0 _ _ rfl).1 (by omega) (by omega)) ?_; rintro v w' ⟨rfl, hc2⟩; replace hSt := hSt.call0 hc2; clear hc2) | (apply WL_ev rfl rfl; exact Ev_as (Ev_sub rfl rfl (by omega)) en) | (apply WL_ev rfl rfl; exact Ev_as (Ev_str_slice hT rfl rfl rfl rfl (by omega) (by omega) (by omega)) esl) | refine stepA ?_ | (refine stepS ?_; clear hSt; intro w hSt; dsimp only [spl, List.set] at hSt) | (refine stepB ?_; clear hSt; intro w nb hnb hSt; dsimp only [zcells, List.nil_append, List.cons_append] at hSt) | (refine W_quiet hT (by decide +kernel) hSt ?_; clear hSt; (repeat' (first | (refine QL_isCall (f := 68) ?_; refine QL_call (ok_call hT rfl) rfl rfl rfl (fun w hSt => (chain_any _ hp _ hx).mono (fun v w2 h => ⟨h.1, hSt.call0 h.2⟩)) ?_) | (refine QL_isCall (f := 81) ?_; refine QL_call (ok_call hT rfl) rfl rfl rfl (fun w hSt => (little_any (hD.later hSt (fun e => e)) _ hcl).mono (fun v w2 h => ⟨h.1, hSt.call0 h.2⟩)) ?_) | (refine QL_isCall (f := 80) ?_; refine QL_call (ok_call hT rfl) rfl rfl rfl (fun w hSt => hpf.mono (fun v w2 h => ⟨h.1, hSt.call0 h.2⟩)) ?_) | (apply QL_ev rfl rfl; (intro w hSt; (first | (exact Ev_as (Ev_sub rfl rfl (by omega)) en) | (exact Ev_as (Ev_str_slice hT rfl rfl rfl rfl (by omega) (by omega) (by omega)) esl) | exact Ev_auto))) | refine QL_pass rfl rfl ?_ | (refine QL_guardP rfl rfl (fun hc => ?_) (fun hc => ?_) <;> try exact absA) | (refine QL_guard rfl rfl (fun hc => ?_) (fun hc => ?_) <;> (try exact absA) <;> (fail_if_success (change true = true at hc)) <;> (fail_if_success (change false = false at hc))))); all_goals (refine QL_nil (fun w hSt => ?_))) | (refine stepG ?_ ?_ <;> intro hc <;> (try exact absA) <;> (fail_if_success (change true = true at hc)) <;> (fail_if_success (change false = false at hc))) | fail)
    all_goals exact ret3 rfl rfl rfl rfl ⟨rfl, hSt.nil⟩
end Go.Proofs.YthkimkgphaiagaaGreatDoor

namespace Go.Proofs.YthkimkgphaiagaaGreatDoor
open Go.RowKit
set_option maxRecDepth 4000
set_option linter.unusedVariables false
set_option linter.unusedSimpArgs false
set_option maxHeartbeats 4000000

theorem first_bd {p : Nat} {s x : List UInt8} {n : Nat} (h : firstF p s = some (x, n)) : 9 ≤ n ∧ n ≤ s.length ∧ x.length ≤ 4000 ∧ x.length ≤ n := by
  have hb := rdT_bd s
  unfold firstF at h
  split at h
  · cases h
  · rename_i he
    split at h
    · rename_i hq
      injection h with h
      injection h with h1 h2
      subst h1; subst h2
      have h8 := congrArg List.length hq
      rw [leB_length, List.length_take, List.length_drop] at h8
      have he0 : (rdT s).1 = 0 := by
        by_cases h0 : (rdT s).1 = 0
        · exact h0
        · exact absurd h0 he
      have := hb.2.2 he0
      omega
    · cases h
theorem verG_bd : ∀ (f p : Nat) (s : List UInt8), p < 18446744073709551616 → (verG f p s).2.1 ≤ s.length ∧ 9 * (verG f p s).1.length ≤ (verG f p s).2.1 ∧ (verG f p s).2.2 < 18446744073709551616
  | 0, p, s, hp => ⟨Nat.zero_le _, Nat.zero_le _, hp⟩
  | f + 1, p, s, hp => by
    unfold verG
    cases hf : firstF p s with
    | none => exact ⟨Nat.zero_le _, Nat.zero_le _, hp⟩
    | some y =>
      obtain ⟨x, n⟩ := y
      have h1 := first_bd hf
      have h2 := verG_bd f (chainF p x) (s.drop n) (chainF_lt p x)
      rw [List.length_drop] at h2
      dsimp only
      rw [List.length_cons]
      omega
theorem verG_fuel : ∀ (f g p : Nat) (s : List UInt8), s.length < f → s.length < g → verG f p s = verG g p s
  | 0, _, _, _, h, _ => absurd h (Nat.not_lt_zero _)
  | _ + 1, 0, _, _, _, h => absurd h (Nat.not_lt_zero _)
  | f + 1, g + 1, p, s, h1, h2 => by
    unfold verG
    cases hf : firstF p s with
    | none => rfl
    | some y =>
      obtain ⟨x, n⟩ := y
      have h3 := first_bd hf
      dsimp only
      rw [verG_fuel f g (chainF p x) (s.drop n) (by rw [List.length_drop]; omega) (by rw [List.length_drop]; omega)]
abbrev strs (l : List (List UInt8)) : List Value := l.map fun x => S x
theorem strs_snoc (l : List (List UInt8)) (x : List UInt8) : strs (l ++ [x]) = strs l ++ zcells (S x) := by rw [strs, List.map_append]; rfl
theorem verified_any {w0 : World} (hD : Deb w0) (s : List UInt8) (hs : s.length ≤ 1000000) : Cl Tryz.prog 54 [S s] w0 (fun v w' => ∃ rv H1, v = .tuple ⟨[rv, I ((verF s).2.1 : Nat), U (verF s).2.2]⟩ ∧ OwnSl rv 9 1 (strs (verF s).1) (verF s).1.length H1 ∧ St w0 NoneS H1 w') := by
  have hSt := St.refl w0 NoneS
  have hfi := fun {w : World} (hD : Deb w) (p : Nat) (hp : p < 18446744073709551616) (r : List UInt8) (hr : r.length ≤ 1000000) => first_any hD p hp r hr
  refine enter Tryz.func54 rfl Tryz.ntmps54 rfl ?_
  repeat' (first | refine stepA ?_ | (refine stepS ?_; clear hSt; intro w hSt; dsimp only [spl, List.set] at hSt) | (refine stepB ?_; clear hSt; intro w nb hnb hSt; dsimp only [zcells, List.nil_append, List.cons_append] at hSt) | (refine stepG ?_ ?_ <;> intro hc <;> (try exact absA) <;> (fail_if_success (change true = true at hc)) <;> (fail_if_success (change false = false at hc))) | fail)
  refine W_sub (L' := [(2, .slice none 0 0), (3, I ((0 : Nat) : Int)), (4, U 0), (0, S s)]) (by (repeat (first | exact Sub.nil _ | refine Sub.cons rfl ?_))) ?_
  refine W_loop3 (fun k (rv : Value) (m p : Nat) w => k + m = s.length + 1 ∧ m ≤ s.length ∧ p < 18446744073709551616 ∧ ∃ l H1, verF s = (l ++ (verG k p (s.drop m)).1, m + (verG k p (s.drop m)).2.1, (verG k p (s.drop m)).2.2) ∧ 9 * l.length ≤ m ∧ OwnSl rv 9 1 (strs l) l.length H1 ∧ St w0 NoneS ([] ++ H1) w) (fun rv m p => [(2, rv), (3, I (m : Int)), (4, U p)]) (s.length + 1) (.slice none 0 0) 0 0 rfl (by (repeat (first | exact Str.nil _ | apply Str.drop rfl | apply Str.keepU rfl | apply Str.keep rfl))) ⟨rfl, by omega, by omega, [], [], by simp [verF], by simp, OwnSl.nil _ _, hSt⟩ (by (repeat (first | exact Sub.nil _ | refine Sub.cons rfl ?_))) ?_
  clear hSt
  rintro k rv m p w ⟨hk, hm, hp, l, H1, hv, hl9, ho, hSt⟩ K hK
  obtain ⟨f, rfl⟩ : ∃ f, k = f + 1 := ⟨k - 1, by omega⟩
  have esl : Value.string ⟨⟨(s.drop ((m : Nat) : Int).toNat).take ((s.length : Int).toNat - ((m : Nat) : Int).toNat)⟩⟩ = S (s.drop m) := by
    rw [show (s.length : Int).toNat - ((m : Nat) : Int).toNat = s.length - m by omega, Int.toNat_natCast, List.take_of_length_le (by rw [List.length_drop]; exact Nat.le_refl _)]
  have hdl : (s.drop m).length ≤ 1000000 := by rw [List.length_drop]; omega
  have hcon := fun {w : World} (hD : Deb w) => hfi hD p hp _ hdl
  unfold firstV at hcon
  unfold verG at hv
  cases hf : firstF p (s.drop m) with
  | none =>
    rw [hf] at hcon hv
    dsimp only at hcon hv
    rw [List.append_nil, Nat.add_zero] at hv
    rw [hv]
    repeat' (first | (apply WL_ev rfl rfl; exact Ev_as (Ev_str_slice hT rfl rfl rfl rfl (by omega) (by omega) (by omega)) esl) | (refine WL_call (ok_call hT rfl) rfl rfl rfl (hcon (hD.later hSt (fun e => e))) ?_; rintro v w' ⟨rfl, hc2⟩; replace hSt := hSt.call0 hc2; clear hc2) | refine stepA ?_ | (refine stepS ?_; clear hSt; intro w hSt; dsimp only [spl, List.set] at hSt) | (refine stepB ?_; clear hSt; intro w nb hnb hSt; dsimp only [zcells, List.nil_append, List.cons_append] at hSt) | (refine stepG ?_ ?_ <;> intro hc <;> (try exact absA) <;> (fail_if_success (change true = true at hc)) <;> (fail_if_success (change false = false at hc))) | fail)
    exact ret3 rfl rfl rfl rfl ⟨rv, H1, rfl, ho, hSt⟩
  | some y =>
    obtain ⟨x, n⟩ := y
    rw [hf] at hcon hv
    dsimp only at hcon hv
    have h1 := first_bd hf
    rw [List.length_drop] at h1
    have hx : x.length ≤ 140737488355328 := by omega
    repeat' (first | (apply WL_ev rfl rfl; exact Ev_as (Ev_str_slice hT rfl rfl rfl rfl (by omega) (by omega) (by omega)) esl) | (refine WL_call (ok_call hT rfl) rfl rfl rfl (hcon (hD.later hSt (fun e => e))) ?_; rintro v w' ⟨rfl, hc2⟩; replace hSt := hSt.call0 hc2; clear hc2) | (refine WL_isCall (f := 68) ?_; refine WL_call (ok_call hT rfl) rfl rfl rfl (chain_any _ hp _ hx) ?_; rintro v w' ⟨rfl, hc2⟩; replace hSt := hSt.call0 hc2; clear hc2) | (refine WL_push1 hT rfl rfl rfl rfl rfl rfl rfl rfl rfl rfl rfl rfl (fun _ => rfl) rfl (H0 := []) hSt ho (by omega) (by omega) ?_; clear hSt ho; intro v' w H2 u ho hSt) | refine stepA ?_ | (refine stepS ?_; clear hSt; intro w hSt; dsimp only [spl, List.set] at hSt) | (refine stepB ?_; clear hSt; intro w nb hnb hSt; dsimp only [zcells, List.nil_append, List.cons_append] at hSt) | (refine stepG ?_ ?_ <;> intro hc <;> (try exact absA) <;> (fail_if_success (change true = true at hc)) <;> (fail_if_success (change false = false at hc))) | fail)
    refine At_loop3 hK (k' := f + 1 - n) v' (m + n) (chainF p x) (by omega) ⟨by omega, by omega, chainF_lt p x, l ++ [x], H2, ?_, ?_, ?_, hSt⟩ (by (repeat (first | exact Sub.nil _ | refine Sub.cons rfl ?_)))
    · have hd : (s.drop m).drop n = s.drop (m + n) := by rw [List.drop_drop]
      rw [hd, verG_fuel f (f + 1 - n) _ _ (by rw [List.length_drop]; omega) (by rw [List.length_drop]; omega)] at hv
      rw [hv, List.append_assoc, Nat.add_assoc]; rfl
    · rw [List.length_append, List.length_singleton]; omega
    · rw [strs_snoc, List.length_append, List.length_singleton]; exact ho
end Go.Proofs.YthkimkgphaiagaaGreatDoor

namespace Go.Proofs.YthkimkgphaiagaaGreatDoor
open Go.RowKit
set_option linter.unusedVariables false
set_option linter.unusedSimpArgs false
set_option maxHeartbeats 1000000

theorem ofNat_self {c : UInt8} {n : Nat} (h : c.toNat = n) : UInt8.ofNat n = c := by
  subst h; simp
theorem rdG_canon : ∀ (f i n : Nat) (s : List UInt8) (m k : Nat), i + f = 10 → rdG f i n s = (0, m, k) → ∃ q, m = n + q * 128 ^ i ∧ s.take (k - i) = uvG (f - 1) q ∧ (0 < i → 0 < q) ∧ i < k ∧ k - i ≤ s.length
  | 0, i, n, s, m, k, hf, h => by rw [rdG_zero] at h; simp at h
  | f + 1, i, n, [], m, k, hf, h => by rw [rdG_nil] at h; simp at h
  | f + 1, i, n, c :: r, m, k, hf, h => by
    have hc := c.toNat_lt
    rw [rdG_cons] at h
    by_cases h1 : f = 0 ∧ 1 < c.toNat
    · rw [if_pos h1] at h; simp at h
    · rw [if_neg h1] at h
      by_cases h2 : 128 ≤ c.toNat
      · rw [if_pos h2] at h
        obtain ⟨q, hm, ht, hq, hik, hkl⟩ := rdG_canon f (i + 1) _ r m k (by omega) h
        have hq0 := hq (by omega)
        obtain ⟨g, rfl⟩ : ∃ g, f = g + 1 := by
          cases f with
          | zero => rw [rdG_zero] at h; simp at h
          | succ g => exact ⟨g, rfl⟩
        refine ⟨c.toNat % 128 + q * 128, ?_, ?_, fun _ => by omega, by omega, by rw [List.length_cons]; omega⟩
        · rw [hm, Nat.pow_succ, Nat.add_mul, Nat.mul_assoc, Nat.mul_comm (128 ^ i) 128, Nat.add_assoc]
        · rw [show k - i = (k - (i + 1)) + 1 by omega, List.take_succ_cons, ht]
          simp only [Nat.add_sub_cancel]
          rw [uvG, if_neg (by omega)]
          have e1 : (c.toNat % 128 + q * 128) % 128 = c.toNat % 128 := by omega
          have e2 : (c.toNat % 128 + q * 128) / 128 = q := by omega
          rw [e1, e2, ofNat_self (c := c) (by omega)]
      · rw [if_neg h2] at h
        by_cases h3 : c.toNat = 0 ∧ 0 < i
        · rw [if_pos h3] at h; simp at h
        · rw [if_neg h3] at h
          simp only [Prod.mk.injEq, true_and] at h
          obtain ⟨rfl, rfl⟩ := h
          refine ⟨c.toNat, by rw [Nat.mod_eq_of_lt (by omega)], ?_, fun hi => by omega, by omega, by rw [List.length_cons]; omega⟩
          rw [Nat.add_sub_cancel_left, List.take_succ_cons, List.take_zero, Nat.add_sub_cancel]
          cases f with
          | zero => rw [uvG, ofNat_self rfl]
          | succ g => rw [uvG, if_pos (by omega), ofNat_self rfl]
theorem rdG_uv : ∀ (f i n q : Nat) (r : List UInt8), i + (f + 1) = 10 → q * 128 ^ i < 18446744073709551616 → (0 < i → 0 < q) → rdG (f + 1) i n (uvG f q ++ r) = (0, n + q * 128 ^ i, i + (uvG f q).length)
  | 0, i, n, q, r, hf, hq, h0 => by
    obtain rfl : i = 9 := by omega
    have hp : (128 : Nat) ^ 9 = 9223372036854775808 := by decide
    have hq1 : q ≤ 1 := by rw [hp] at hq; omega
    have hn : (UInt8.ofNat q).toNat = q := low_nat (by omega)
    rw [uvG, List.singleton_append, rdG_cons, hn, if_neg (by omega), if_neg (by omega), if_neg (by have := h0 (by omega); omega), Nat.mod_eq_of_lt (by omega)]
    rfl
  | f + 1, i, n, q, r, hf, hq, h0 => by
    rw [uvG]
    by_cases h : q < 128
    · have hn : (UInt8.ofNat q).toNat = q := low_nat h
      rw [if_pos h, List.singleton_append, rdG_cons, hn, if_neg (by omega), if_neg (by omega), if_neg (by intro hc; have := h0 hc.2; omega), Nat.mod_eq_of_lt h]
      rfl
    · have hn := vByte_nat q
      have e1 : (128 + q % 128) % 128 = q % 128 := by omega
      have hd : q = q / 128 * 128 + q % 128 := by omega
      rw [if_neg h, List.cons_append, rdG_cons, hn, if_neg (by omega), if_pos (by omega), e1]
      rw [rdG_uv f (i + 1) _ (q / 128) r (by omega) ?_ (fun _ => by omega)]
      · congr 2
        · rw [Nat.pow_succ, Nat.mul_comm (128 ^ i) 128, ← Nat.mul_assoc, Nat.add_assoc, ← Nat.add_mul]
          congr 2
          omega
        · rw [List.length_cons]; omega
      · rw [Nat.pow_succ, Nat.mul_comm (128 ^ i) 128, ← Nat.mul_assoc]
        exact Nat.lt_of_le_of_lt (Nat.mul_le_mul_right _ (by omega)) hq
theorem rdG_back (n : Nat) (hn : n < 18446744073709551616) (r : List UInt8) : rdG 10 0 0 (uvF n ++ r) = (0, n, (uvF n).length) := by
  have := rdG_uv 9 0 0 n r rfl (by rw [Nat.pow_zero, Nat.mul_one]; exact hn) (fun h => absurd h (by omega))
  rw [Nat.pow_zero, Nat.mul_one, Nat.zero_add, Nat.zero_add] at this
  exact this
theorem rdT_back {x : List UInt8} (hx : x.length ≤ 4000) (r : List UInt8) : rdT (textF x ++ r) = (0, x, (textF x).length) := by
  have h1 := rdG_back x.length (by omega) (x ++ r)
  have e : textF x ++ r = uvF x.length ++ (x ++ r) := by rw [textF, List.append_assoc]
  rw [e, rdT_ok h1 (by omega) (by rw [List.length_append, List.length_append]; omega)]
  rw [List.drop_left' rfl, List.take_left' rfl, textF, List.length_append]
theorem rdT_canon {s x : List UInt8} {n : Nat} (h : rdT s = (0, x, n)) : s.take n = textF x ∧ n = (textF x).length ∧ n ≤ s.length := by
  obtain ⟨e, m, k, hr⟩ : ∃ e m k, rdG 10 0 0 s = (e, m, k) := ⟨_, _, _, rfl⟩
  by_cases he : e = 0
  · subst he
    by_cases hm : 4000 < m
    · rw [rdT_long hr hm] at h; simp at h
    · by_cases hl : s.length - k < m
      · rw [rdT_short hr hm hl] at h; simp at h
      · rw [rdT_ok hr hm hl] at h
        simp only [Prod.mk.injEq, true_and] at h
        obtain ⟨rfl, rfl⟩ := h
        obtain ⟨q, h1, h2, _, h4, h5⟩ := rdG_canon 10 0 0 s m k rfl hr
        rw [Nat.pow_zero, Nat.mul_one, Nat.zero_add] at h1
        subst h1
        rw [Nat.sub_zero] at h2 h5
        have hlen : ((s.drop k).take m).length = m := by rw [List.length_take, List.length_drop]; omega
        have hk : (uvF m).length = k := by
          have := congrArg List.length h2
          rw [List.length_take, Nat.min_eq_left h5] at this
          exact this.symm
        have ht : s.take (k + m) = textF ((s.drop k).take m) := by
          rw [textF, hlen, List.take_add, h2]; rfl
        refine ⟨ht, ?_, by omega⟩
        rw [textF, List.length_append, hlen, hk]
  · rw [rdT_err hr he] at h
    simp only [Prod.mk.injEq] at h
    exact absurd h.1 he
theorem frameF_len (p : Nat) (x : List UInt8) : (frameF p x).length = (textF x).length + 8 := by rw [frameF, List.length_append, leB_length]
theorem firstF_back {p : Nat} {x : List UInt8} (hx : x.length ≤ 4000) (r : List UInt8) : firstF p (frameF p x ++ r) = some (x, (frameF p x).length) := by
  have h := rdT_back hx (leB (chainF p x) 8 ++ r)
  have e : frameF p x ++ r = textF x ++ (leB (chainF p x) 8 ++ r) := by rw [frameF, List.append_assoc]
  unfold firstF
  rw [e, h, if_neg (by simp), if_pos (by dsimp only; rw [List.drop_left' rfl, List.take_left' (leB_length _ _)]), frameF_len]
theorem firstF_canon {p : Nat} {s x : List UInt8} {n : Nat} (h : firstF p s = some (x, n)) : s.take n = frameF p x ∧ n = (frameF p x).length ∧ n ≤ s.length ∧ x.length ≤ 4000 := by
  have hb := first_bd h
  unfold firstF at h
  split at h
  · cases h
  · rename_i he
    split at h
    · rename_i hq
      injection h with h
      injection h with h1 h2
      have he0 : (rdT s).1 = 0 := by
        by_cases h0 : (rdT s).1 = 0
        · exact h0
        · exact absurd h0 he
      have hr : rdT s = (0, x, (rdT s).2.2) := by rw [← h1, ← he0]
      have hc := rdT_canon hr
      rw [h1] at hq
      refine ⟨?_, ?_, hb.2.1, hb.2.2.1⟩
      · rw [← h2, List.take_add, hc.1, hq, frameF]
      · rw [frameF_len, ← h2]; omega
    · cases h
/-- of less than a frame nothing is read -/
theorem firstF_cut {p : Nat} {x : List UInt8} (hx : x.length ≤ 4000) {j : Nat} (hj : j < (frameF p x).length) : firstF p ((frameF p x).take j) = none := by
  cases hf : firstF p ((frameF p x).take j) with
  | none => rfl
  | some y =>
    obtain ⟨x', n⟩ := y
    exfalso
    have hc := firstF_canon hf
    have hl : ((frameF p x).take j).length = j := by rw [List.length_take]; omega
    rw [hl] at hc
    have h1 : frameF p x = frameF p x' ++ (frameF p x).drop n := by
      rw [← hc.1, List.take_take, Nat.min_eq_left hc.2.2.1, List.take_append_drop]
    have h2 := firstF_back (p := p) (x := x') hc.2.2.2 ((frameF p x).drop n)
    rw [← h1] at h2
    have h3 := firstF_back (p := p) hx []
    rw [List.append_nil] at h3
    rw [h3] at h2
    injection h2 with h2
    injection h2 with _ h2
    omega
theorem firstF_nil (p : Nat) : firstF p [] = none := by
  unfold firstF
  rw [rdT_err (s := []) (e := 1) (n := 0) (k := 0) rfl (by decide)]
  rfl
/-- the frames of some records, one behind the other -/
def framesF : Nat → List (List UInt8) → List UInt8
  | _, [] => []
  | p, x :: l => frameF p x ++ framesF (chainF p x) l
def headF : Nat → List (List UInt8) → Nat
  | p, [] => p
  | p, x :: l => headF (chainF p x) l
theorem framesF_append : ∀ (l r : List (List UInt8)) (p : Nat), framesF p (l ++ r) = framesF p l ++ framesF (headF p l) r
  | [], r, p => rfl
  | x :: l, r, p => by rw [List.cons_append, framesF, framesF, headF, framesF_append l r, List.append_assoc]
theorem headF_append : ∀ (l r : List (List UInt8)) (p : Nat), headF p (l ++ r) = headF (headF p l) r
  | [], r, p => rfl
  | x :: l, r, p => by rw [List.cons_append, headF, headF, headF_append l r]
theorem headF_lt : ∀ (l : List (List UInt8)) (p : Nat), p < 18446744073709551616 → headF p l < 18446744073709551616
  | [], p, h => h
  | x :: l, p, h => headF_lt l _ (chainF_lt p x)
theorem verG_frames : ∀ (l : List (List UInt8)) (f p : Nat) (r : List UInt8), (∀ x ∈ l, x.length ≤ 4000) → l.length < f → firstF (headF p l) r = none → verG f p (framesF p l ++ r) = (l, (framesF p l).length, headF p l)
  | [], 0, p, r, _, h, _ => absurd h (Nat.lt_irrefl _)
  | [], f + 1, p, r, _, _, hr => by
    unfold verG
    rw [framesF, List.nil_append]
    rw [headF] at hr
    rw [hr]; rfl
  | x :: l, 0, p, r, _, h, _ => absurd h (Nat.not_lt_zero _)
  | x :: l, f + 1, p, r, hx, h, hr => by
    unfold verG
    rw [framesF, List.append_assoc, firstF_back (hx x (List.mem_cons_self ..))]
    dsimp only
    rw [List.drop_left' rfl, verG_frames l f (chainF p x) r (fun y hy => hx y (List.mem_cons_of_mem _ hy)) (by rw [List.length_cons] at h; omega) hr, headF, List.length_append]
theorem framesF_len : ∀ (l : List (List UInt8)) (p : Nat), l.length ≤ (framesF p l).length
  | [], p => Nat.le_refl _
  | x :: l, p => by
    have := framesF_len l (chainF p x)
    rw [framesF, List.length_append, frameF_len, List.length_cons]; omega
theorem verF_frames (l : List (List UInt8)) (r : List UInt8) (hx : ∀ x ∈ l, x.length ≤ 4000) (hr : firstF (headF 0 l) r = none) : verF (framesF 0 l ++ r) = (l, (framesF 0 l).length, headF 0 l) := by
  unfold verF
  have := framesF_len l 0
  exact verG_frames l _ 0 r hx (by rw [List.length_append]; omega) hr
/-- what is read is the frames of the records that are told -/
theorem verG_canon : ∀ (f p : Nat) (s : List UInt8), s.take (verG f p s).2.1 = framesF p (verG f p s).1 ∧ (verG f p s).2.1 = (framesF p (verG f p s).1).length ∧ (verG f p s).2.2 = headF p (verG f p s).1 ∧ ∀ x ∈ (verG f p s).1, x.length ≤ 4000
  | 0, p, s => ⟨rfl, rfl, rfl, fun x h => by cases h⟩
  | f + 1, p, s => by
    unfold verG
    cases hf : firstF p s with
    | none => exact ⟨rfl, rfl, rfl, fun x h => by cases h⟩
    | some y =>
      obtain ⟨x, n⟩ := y
      have h1 := firstF_canon hf
      have h2 := verG_canon f (chainF p x) (s.drop n)
      dsimp only
      refine ⟨?_, ?_, ?_, ?_⟩
      · rw [List.take_add, h1.1, h2.1, framesF]
      · rw [framesF, List.length_append, ← h1.2.1, ← h2.2.1]
      · rw [headF]; exact h2.2.2.1
      · intro z hz
        rcases List.mem_cons.1 hz with rfl | hz
        · exact h1.2.2.2
        · exact h2.2.2.2 z hz
/-- frames that are cut off somewhere: those that lie before the cut -/
theorem cut_frames : ∀ (l : List (List UInt8)) (p j : Nat), (∀ x ∈ l, x.length ≤ 4000) → ∃ k, k ≤ l.length ∧ (framesF p (l.take k)).length ≤ j ∧ (k < l.length → j < (framesF p (l.take (k + 1))).length) ∧ (framesF p l).take j = framesF p (l.take k) ++ ((framesF p l).take j).drop (framesF p (l.take k)).length ∧ firstF (headF p (l.take k)) (((framesF p l).take j).drop (framesF p (l.take k)).length) = none
  | [], p, j, _ => ⟨0, Nat.le_refl _, Nat.zero_le _, fun h => absurd h (Nat.lt_irrefl _), by simp [framesF], by simp [framesF, firstF_nil]⟩
  | x :: l, p, j, hx => by
    by_cases hj : j < (frameF p x).length
    · refine ⟨0, Nat.zero_le _, Nat.zero_le _, fun _ => ?_, ?_, ?_⟩
      · rw [List.take_succ_cons, List.take_zero, framesF, framesF, List.append_nil]; exact hj
      · rw [List.take_zero, framesF, List.nil_append, List.length_nil, List.drop_zero]
      · rw [List.take_zero]
        show firstF p (List.drop 0 _) = none
        rw [List.drop_zero, framesF, List.take_append_of_le_length (by omega)]
        exact firstF_cut (hx x (List.mem_cons_self ..)) hj
    · obtain ⟨k, h1, h2, h3, h4, h5⟩ := cut_frames l (chainF p x) (j - (frameF p x).length) (fun y hy => hx y (List.mem_cons_of_mem _ hy))
      have hL : (frameF p x ++ framesF (chainF p x) l).take j = frameF p x ++ (framesF (chainF p x) l).take (j - (frameF p x).length) := by
        rw [List.take_append, List.take_of_length_le (by omega)]
      have hdr : ((framesF p (x :: l)).take j).drop (framesF p ((x :: l).take (k + 1))).length = ((framesF (chainF p x) l).take (j - (frameF p x).length)).drop (framesF (chainF p x) (l.take k)).length := by
        rw [framesF, hL, List.take_succ_cons, framesF, List.length_append, ← List.drop_drop, List.drop_left' rfl]
      refine ⟨k + 1, by rw [List.length_cons]; omega, ?_, ?_, ?_, ?_⟩
      · rw [List.take_succ_cons, framesF, List.length_append]; omega
      · intro hk
        rw [List.length_cons] at hk
        have := h3 (by omega)
        rw [List.take_succ_cons, framesF, List.length_append]; omega
      · rw [hdr]
        rw [framesF, hL, List.take_succ_cons, framesF, List.append_assoc, ← h4]
      · rw [hdr, List.take_succ_cons, headF]; exact h5
end Go.Proofs.YthkimkgphaiagaaGreatDoor
