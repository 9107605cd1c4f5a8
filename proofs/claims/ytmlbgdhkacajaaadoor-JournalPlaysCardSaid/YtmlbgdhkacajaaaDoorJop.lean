/- Journals, in plain words: what is written is read back, and what is read was written. No conditions. -/
import Derived.Test.YtmlbgdhkacajaaaDoorJov
namespace Go.Proofs.YtmlbgdhkacajaaaDoor
open Go.RowKit
set_option linter.unusedVariables false
set_option linter.unusedSimpArgs false
set_option maxHeartbeats 1000000

theorem ofNat_self {c : UInt8} {n : Nat} (h : c.toNat = n) : UInt8.ofNat n = c := by
  subst h; simp
theorem rdG_canon : ∀ (f i n : Nat) (s : List UInt8) (m k : Nat), i + f = 10 → rdG f i n s = (0, m, k) → ∃ q, m = n + q * 128 ^ i ∧ s.take (k - i) = uvG (f - 1) q ∧ (0 < i → 0 < q) ∧ i < k ∧ k - i ≤ s.length
  | 0, i, n, s, m, k, hf, h => by rw [rdG_zero] at h; simp at h
  | f + 1, i, n, [], m, k, hf, h => by rw [rdG_nil] at h; simp at h
  | f + 1, i, n, c :: r, m, k, hf, h => by
    have hc := c.toNat_lt
    rw [rdG_cons] at h
    by_cases h1 : f = 0 ∧ 1 < c.toNat
    · rw [if_pos h1] at h; simp at h
    · rw [if_neg h1] at h
      by_cases h2 : 128 ≤ c.toNat
      · rw [if_pos h2] at h
        obtain ⟨q, hm, ht, hq, hik, hkl⟩ := rdG_canon f (i + 1) _ r m k (by omega) h
        have hq0 := hq (by omega)
        obtain ⟨g, rfl⟩ : ∃ g, f = g + 1 := by
          cases f with
          | zero => rw [rdG_zero] at h; simp at h
          | succ g => exact ⟨g, rfl⟩
        refine ⟨c.toNat % 128 + q * 128, ?_, ?_, fun _ => by omega, by omega, by rw [List.length_cons]; omega⟩
        · rw [hm, Nat.pow_succ, Nat.add_mul, Nat.mul_assoc, Nat.mul_comm (128 ^ i) 128, Nat.add_assoc]
        · rw [show k - i = (k - (i + 1)) + 1 by omega, List.take_succ_cons, ht]
          simp only [Nat.add_sub_cancel]
          rw [uvG, if_neg (by omega)]
          have e1 : (c.toNat % 128 + q * 128) % 128 = c.toNat % 128 := by omega
          have e2 : (c.toNat % 128 + q * 128) / 128 = q := by omega
          rw [e1, e2, ofNat_self (c := c) (by omega)]
      · rw [if_neg h2] at h
        by_cases h3 : c.toNat = 0 ∧ 0 < i
        · rw [if_pos h3] at h; simp at h
        · rw [if_neg h3] at h
          simp only [Prod.mk.injEq, true_and] at h
          obtain ⟨rfl, rfl⟩ := h
          refine ⟨c.toNat, by rw [Nat.mod_eq_of_lt (by omega)], ?_, fun hi => by omega, by omega, by rw [List.length_cons]; omega⟩
          rw [Nat.add_sub_cancel_left, List.take_succ_cons, List.take_zero, Nat.add_sub_cancel]
          cases f with
          | zero => rw [uvG, ofNat_self rfl]
          | succ g => rw [uvG, if_pos (by omega), ofNat_self rfl]
theorem rdG_uv : ∀ (f i n q : Nat) (r : List UInt8), i + (f + 1) = 10 → q * 128 ^ i < 18446744073709551616 → (0 < i → 0 < q) → rdG (f + 1) i n (uvG f q ++ r) = (0, n + q * 128 ^ i, i + (uvG f q).length)
  | 0, i, n, q, r, hf, hq, h0 => by
    obtain rfl : i = 9 := by omega
    have hp : (128 : Nat) ^ 9 = 9223372036854775808 := by decide
    have hq1 : q ≤ 1 := by rw [hp] at hq; omega
    have hn : (UInt8.ofNat q).toNat = q := low_nat (by omega)
    rw [uvG, List.singleton_append, rdG_cons, hn, if_neg (by omega), if_neg (by omega), if_neg (by have := h0 (by omega); omega), Nat.mod_eq_of_lt (by omega)]
    rfl
  | f + 1, i, n, q, r, hf, hq, h0 => by
    rw [uvG]
    by_cases h : q < 128
    · have hn : (UInt8.ofNat q).toNat = q := low_nat h
      rw [if_pos h, List.singleton_append, rdG_cons, hn, if_neg (by omega), if_neg (by omega), if_neg (by intro hc; have := h0 hc.2; omega), Nat.mod_eq_of_lt h]
      rfl
    · have hn := vByte_nat q
      have e1 : (128 + q % 128) % 128 = q % 128 := by omega
      have hd : q = q / 128 * 128 + q % 128 := by omega
      rw [if_neg h, List.cons_append, rdG_cons, hn, if_neg (by omega), if_pos (by omega), e1]
      rw [rdG_uv f (i + 1) _ (q / 128) r (by omega) ?_ (fun _ => by omega)]
      · congr 2
        · rw [Nat.pow_succ, Nat.mul_comm (128 ^ i) 128, ← Nat.mul_assoc, Nat.add_assoc, ← Nat.add_mul]
          congr 2
          omega
        · rw [List.length_cons]; omega
      · rw [Nat.pow_succ, Nat.mul_comm (128 ^ i) 128, ← Nat.mul_assoc]
        exact Nat.lt_of_le_of_lt (Nat.mul_le_mul_right _ (by omega)) hq
theorem rdG_back (n : Nat) (hn : n < 18446744073709551616) (r : List UInt8) : rdG 10 0 0 (uvF n ++ r) = (0, n, (uvF n).length) := by
  have := rdG_uv 9 0 0 n r rfl (by rw [Nat.pow_zero, Nat.mul_one]; exact hn) (fun h => absurd h (by omega))
  rw [Nat.pow_zero, Nat.mul_one, Nat.zero_add, Nat.zero_add] at this
  exact this
theorem rdT_back {x : List UInt8} (hx : x.length ≤ 4000) (r : List UInt8) : rdT (textF x ++ r) = (0, x, (textF x).length) := by
  have h1 := rdG_back x.length (by omega) (x ++ r)
  have e : textF x ++ r = uvF x.length ++ (x ++ r) := by rw [textF, List.append_assoc]
  rw [e, rdT_ok h1 (by omega) (by rw [List.length_append, List.length_append]; omega)]
  rw [List.drop_left' rfl, List.take_left' rfl, textF, List.length_append]
theorem rdT_canon {s x : List UInt8} {n : Nat} (h : rdT s = (0, x, n)) : s.take n = textF x ∧ n = (textF x).length ∧ n ≤ s.length := by
  obtain ⟨e, m, k, hr⟩ : ∃ e m k, rdG 10 0 0 s = (e, m, k) := ⟨_, _, _, rfl⟩
  by_cases he : e = 0
  · subst he
    by_cases hm : 4000 < m
    · rw [rdT_long hr hm] at h; simp at h
    · by_cases hl : s.length - k < m
      · rw [rdT_short hr hm hl] at h; simp at h
      · rw [rdT_ok hr hm hl] at h
        simp only [Prod.mk.injEq, true_and] at h
        obtain ⟨rfl, rfl⟩ := h
        obtain ⟨q, h1, h2, _, h4, h5⟩ := rdG_canon 10 0 0 s m k rfl hr
        rw [Nat.pow_zero, Nat.mul_one, Nat.zero_add] at h1
        subst h1
        rw [Nat.sub_zero] at h2 h5
        have hlen : ((s.drop k).take m).length = m := by rw [List.length_take, List.length_drop]; omega
        have hk : (uvF m).length = k := by
          have := congrArg List.length h2
          rw [List.length_take, Nat.min_eq_left h5] at this
          exact this.symm
        have ht : s.take (k + m) = textF ((s.drop k).take m) := by
          rw [textF, hlen, List.take_add, h2]; rfl
        refine ⟨ht, ?_, by omega⟩
        rw [textF, List.length_append, hlen, hk]
  · rw [rdT_err hr he] at h
    simp only [Prod.mk.injEq] at h
    exact absurd h.1 he
theorem frameF_len (p : Nat) (x : List UInt8) : (frameF p x).length = (textF x).length + 8 := by rw [frameF, List.length_append, leB_length]
theorem firstF_back {p : Nat} {x : List UInt8} (hx : x.length ≤ 4000) (r : List UInt8) : firstF p (frameF p x ++ r) = some (x, (frameF p x).length) := by
  have h := rdT_back hx (leB (chainF p x) 8 ++ r)
  have e : frameF p x ++ r = textF x ++ (leB (chainF p x) 8 ++ r) := by rw [frameF, List.append_assoc]
  unfold firstF
  rw [e, h, if_neg (by simp), if_pos (by dsimp only; rw [List.drop_left' rfl, List.take_left' (leB_length _ _)]), frameF_len]
theorem firstF_canon {p : Nat} {s x : List UInt8} {n : Nat} (h : firstF p s = some (x, n)) : s.take n = frameF p x ∧ n = (frameF p x).length ∧ n ≤ s.length ∧ x.length ≤ 4000 := by
  have hb := first_bd h
  unfold firstF at h
  split at h
  · cases h
  · rename_i he
    split at h
    · rename_i hq
      injection h with h
      injection h with h1 h2
      have he0 : (rdT s).1 = 0 := by
        by_cases h0 : (rdT s).1 = 0
        · exact h0
        · exact absurd h0 he
      have hr : rdT s = (0, x, (rdT s).2.2) := by rw [← h1, ← he0]
      have hc := rdT_canon hr
      rw [h1] at hq
      refine ⟨?_, ?_, hb.2.1, hb.2.2.1⟩
      · rw [← h2, List.take_add, hc.1, hq, frameF]
      · rw [frameF_len, ← h2]; omega
    · cases h
/-- of less than a frame nothing is read -/
theorem firstF_cut {p : Nat} {x : List UInt8} (hx : x.length ≤ 4000) {j : Nat} (hj : j < (frameF p x).length) : firstF p ((frameF p x).take j) = none := by
  cases hf : firstF p ((frameF p x).take j) with
  | none => rfl
  | some y =>
    obtain ⟨x', n⟩ := y
    exfalso
    have hc := firstF_canon hf
    have hl : ((frameF p x).take j).length = j := by rw [List.length_take]; omega
    rw [hl] at hc
    have h1 : frameF p x = frameF p x' ++ (frameF p x).drop n := by
      rw [← hc.1, List.take_take, Nat.min_eq_left hc.2.2.1, List.take_append_drop]
    have h2 := firstF_back (p := p) (x := x') hc.2.2.2 ((frameF p x).drop n)
    rw [← h1] at h2
    have h3 := firstF_back (p := p) hx []
    rw [List.append_nil] at h3
    rw [h3] at h2
    injection h2 with h2
    injection h2 with _ h2
    omega
theorem firstF_nil (p : Nat) : firstF p [] = none := by
  unfold firstF
  rw [rdT_err (s := []) (e := 1) (n := 0) (k := 0) rfl (by decide)]
  rfl
/-- the frames of some records, one behind the other -/
def framesF : Nat → List (List UInt8) → List UInt8
  | _, [] => []
  | p, x :: l => frameF p x ++ framesF (chainF p x) l
def headF : Nat → List (List UInt8) → Nat
  | p, [] => p
  | p, x :: l => headF (chainF p x) l
theorem framesF_append : ∀ (l r : List (List UInt8)) (p : Nat), framesF p (l ++ r) = framesF p l ++ framesF (headF p l) r
  | [], r, p => rfl
  | x :: l, r, p => by rw [List.cons_append, framesF, framesF, headF, framesF_append l r, List.append_assoc]
theorem headF_append : ∀ (l r : List (List UInt8)) (p : Nat), headF p (l ++ r) = headF (headF p l) r
  | [], r, p => rfl
  | x :: l, r, p => by rw [List.cons_append, headF, headF, headF_append l r]
theorem headF_lt : ∀ (l : List (List UInt8)) (p : Nat), p < 18446744073709551616 → headF p l < 18446744073709551616
  | [], p, h => h
  | x :: l, p, h => headF_lt l _ (chainF_lt p x)
theorem verG_frames : ∀ (l : List (List UInt8)) (f p : Nat) (r : List UInt8), (∀ x ∈ l, x.length ≤ 4000) → l.length < f → firstF (headF p l) r = none → verG f p (framesF p l ++ r) = (l, (framesF p l).length, headF p l)
  | [], 0, p, r, _, h, _ => absurd h (Nat.lt_irrefl _)
  | [], f + 1, p, r, _, _, hr => by
    unfold verG
    rw [framesF, List.nil_append]
    rw [headF] at hr
    rw [hr]; rfl
  | x :: l, 0, p, r, _, h, _ => absurd h (Nat.not_lt_zero _)
  | x :: l, f + 1, p, r, hx, h, hr => by
    unfold verG
    rw [framesF, List.append_assoc, firstF_back (hx x (List.mem_cons_self ..))]
    dsimp only
    rw [List.drop_left' rfl, verG_frames l f (chainF p x) r (fun y hy => hx y (List.mem_cons_of_mem _ hy)) (by rw [List.length_cons] at h; omega) hr, headF, List.length_append]
theorem framesF_len : ∀ (l : List (List UInt8)) (p : Nat), l.length ≤ (framesF p l).length
  | [], p => Nat.le_refl _
  | x :: l, p => by
    have := framesF_len l (chainF p x)
    rw [framesF, List.length_append, frameF_len, List.length_cons]; omega
theorem verF_frames (l : List (List UInt8)) (r : List UInt8) (hx : ∀ x ∈ l, x.length ≤ 4000) (hr : firstF (headF 0 l) r = none) : verF (framesF 0 l ++ r) = (l, (framesF 0 l).length, headF 0 l) := by
  unfold verF
  have := framesF_len l 0
  exact verG_frames l _ 0 r hx (by rw [List.length_append]; omega) hr
/-- what is read is the frames of the records that are told -/
theorem verG_canon : ∀ (f p : Nat) (s : List UInt8), s.take (verG f p s).2.1 = framesF p (verG f p s).1 ∧ (verG f p s).2.1 = (framesF p (verG f p s).1).length ∧ (verG f p s).2.2 = headF p (verG f p s).1 ∧ ∀ x ∈ (verG f p s).1, x.length ≤ 4000
  | 0, p, s => ⟨rfl, rfl, rfl, fun x h => by cases h⟩
  | f + 1, p, s => by
    unfold verG
    cases hf : firstF p s with
    | none => exact ⟨rfl, rfl, rfl, fun x h => by cases h⟩
    | some y =>
      obtain ⟨x, n⟩ := y
      have h1 := firstF_canon hf
      have h2 := verG_canon f (chainF p x) (s.drop n)
      dsimp only
      refine ⟨?_, ?_, ?_, ?_⟩
      · rw [List.take_add, h1.1, h2.1, framesF]
      · rw [framesF, List.length_append, ← h1.2.1, ← h2.2.1]
      · rw [headF]; exact h2.2.2.1
      · intro z hz
        rcases List.mem_cons.1 hz with rfl | hz
        · exact h1.2.2.2
        · exact h2.2.2.2 z hz
/-- frames that are cut off somewhere: those that lie before the cut -/
theorem cut_frames : ∀ (l : List (List UInt8)) (p j : Nat), (∀ x ∈ l, x.length ≤ 4000) → ∃ k, k ≤ l.length ∧ (framesF p (l.take k)).length ≤ j ∧ (k < l.length → j < (framesF p (l.take (k + 1))).length) ∧ (framesF p l).take j = framesF p (l.take k) ++ ((framesF p l).take j).drop (framesF p (l.take k)).length ∧ firstF (headF p (l.take k)) (((framesF p l).take j).drop (framesF p (l.take k)).length) = none
  | [], p, j, _ => ⟨0, Nat.le_refl _, Nat.zero_le _, fun h => absurd h (Nat.lt_irrefl _), by simp [framesF], by simp [framesF, firstF_nil]⟩
  | x :: l, p, j, hx => by
    by_cases hj : j < (frameF p x).length
    · refine ⟨0, Nat.zero_le _, Nat.zero_le _, fun _ => ?_, ?_, ?_⟩
      · rw [List.take_succ_cons, List.take_zero, framesF, framesF, List.append_nil]; exact hj
      · rw [List.take_zero, framesF, List.nil_append, List.length_nil, List.drop_zero]
      · rw [List.take_zero]
        show firstF p (List.drop 0 _) = none
        rw [List.drop_zero, framesF, List.take_append_of_le_length (by omega)]
        exact firstF_cut (hx x (List.mem_cons_self ..)) hj
    · obtain ⟨k, h1, h2, h3, h4, h5⟩ := cut_frames l (chainF p x) (j - (frameF p x).length) (fun y hy => hx y (List.mem_cons_of_mem _ hy))
      have hL : (frameF p x ++ framesF (chainF p x) l).take j = frameF p x ++ (framesF (chainF p x) l).take (j - (frameF p x).length) := by
        rw [List.take_append, List.take_of_length_le (by omega)]
      have hdr : ((framesF p (x :: l)).take j).drop (framesF p ((x :: l).take (k + 1))).length = ((framesF (chainF p x) l).take (j - (frameF p x).length)).drop (framesF (chainF p x) (l.take k)).length := by
        rw [framesF, hL, List.take_succ_cons, framesF, List.length_append, ← List.drop_drop, List.drop_left' rfl]
      refine ⟨k + 1, by rw [List.length_cons]; omega, ?_, ?_, ?_, ?_⟩
      · rw [List.take_succ_cons, framesF, List.length_append]; omega
      · intro hk
        rw [List.length_cons] at hk
        have := h3 (by omega)
        rw [List.take_succ_cons, framesF, List.length_append]; omega
      · rw [hdr]
        rw [framesF, hL, List.take_succ_cons, framesF, List.append_assoc, ← h4]
      · rw [hdr, List.take_succ_cons, headF]; exact h5
end Go.Proofs.YtmlbgdhkacajaaaDoor
