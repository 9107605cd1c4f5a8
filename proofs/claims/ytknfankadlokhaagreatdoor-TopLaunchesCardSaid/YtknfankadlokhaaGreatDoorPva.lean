/- Quoting, in plain words. No conditions. -/
import Derived.Test.YtknfankadlokhaaGreatDoorNA
import Derived.Lib.Replace

namespace Go.Proofs.YtknfankadlokhaaGreatDoor
open Go.RowKit
set_option linter.unusedVariables false
set_option linter.unusedSimpArgs false

def repF (c : UInt8) (new : Tx) (s : Tx) : Tx := s.flatMap (fun d => if d = c then new else [d])
def escF (s : Tx) : Tx := s.flatMap (fun d => if d = 34 ∨ d = 92 then [92, d] else [d])
def quotF (s : Tx) : Tx := 34 :: (escF s ++ [34])
theorem replaceK_rep (c : UInt8) (new : Tx) : ∀ s : Tx, Lib.replaceK [c] new (Lib.count s [c]) s = repF c new s
  | [] => by
    have h : Lib.index [] [c] = -1 := rfl
    rw [Lib.count_miss h]; rfl
  | b :: l => by
    have ih := replaceK_rep c new l
    have hge := Lib.index_ge l [c]
    have hi : Lib.index (b :: l) [c] = if c = b then 0 else if Lib.index l [c] = -1 then -1 else Lib.index l [c] + 1 := by
      rw [Lib.index]
      by_cases h : c = b
      · subst h; simp
      · rw [if_neg h, if_neg (by simp [h])]
        by_cases h2 : Lib.index l [c] = -1
        · rw [if_pos h2, if_pos (by simp [h2])]
        · rw [if_neg h2, if_neg (by simp [h2])]
    have hf : repF c new (b :: l) = (if b = c then new else [b]) ++ repF c new l := rfl
    by_cases hb : c = b
    · subst hb
      rw [if_pos rfl] at hi
      rw [Lib.count_hit (i := 0) (by simp) hi, Nat.add_comm, Lib.replaceK_hit _ _ _ _ 0 hi, hf, if_pos rfl]
      simp only [List.take_zero, List.nil_append, Nat.zero_add, List.length_singleton, List.drop_succ_cons, List.drop_zero]
      rw [ih]
    · rw [if_neg hb] at hi
      rw [hf, if_neg (fun e => hb e.symm)]
      by_cases hm : Lib.index l [c] = -1
      · rw [if_pos hm] at hi
        rw [Lib.count_miss hi, ← ih, Lib.count_miss hm]; rfl
      · rw [if_neg hm] at hi
        obtain ⟨i, hii⟩ : ∃ i : Nat, Lib.index l [c] = i := ⟨(Lib.index l [c]).toNat, by omega⟩
        have hi2 : Lib.index (b :: l) [c] = ((i + 1 : Nat) : Int) := by rw [hi, hii]; omega
        rw [Lib.count_hit (by simp) hii, Nat.add_comm, Lib.replaceK_hit _ _ _ _ i hii] at ih
        rw [Lib.count_hit (by simp) hi2, Nat.add_comm, Lib.replaceK_hit _ _ _ _ (i + 1) hi2, ← ih]
        simp only [List.length_singleton, List.drop_succ_cons, List.take_succ_cons, List.cons_append, List.nil_append]
theorem replaceAll_rep {c : UInt8} {new : Tx} (h : [c] ≠ new) (s : Tx) : Lib.replaceAll s [c] new = repF c new s := by
  unfold Lib.replaceAll Lib.replace
  rw [if_neg (by simpa using h)]
  have : Lib.replaceNum s [c] (-1) = Lib.count s [c] := by unfold Lib.replaceNum; rw [if_pos (.inl (by decide))]
  rw [this, replaceK_rep]
theorem esc_two (s : Tx) : repF 34 [92, 34] (repF 92 [92, 92] s) = escF s := by
  unfold repF escF
  induction s with
  | nil => rfl
  | cons d s ih =>
    rw [List.flatMap_cons, List.flatMap_append, ih, List.flatMap_cons]
    congr 1
    by_cases h1 : d = 92
    · subst h1; rfl
    · rw [if_neg h1]
      by_cases h2 : d = 34
      · subst h2; rfl
      · rw [if_neg (by simp [h1, h2])]; simp [h2]
theorem rep_len (c : UInt8) (a b : UInt8) (s : Tx) : (repF c [a, b] s).length ≤ 2 * s.length := by
  unfold repF
  induction s with
  | nil => exact Nat.le_refl _
  | cons d s ih =>
    rw [List.flatMap_cons, List.length_append, List.length_cons]
    split <;> simp only [List.length_cons, List.length_nil] <;> omega
theorem count_len {c : UInt8} (s : Tx) : Lib.count s [c] ≤ s.length + 1 := Lib.count_le s [c]
theorem escF_cons (d : UInt8) (s : Tx) : escF (d :: s) = (if d = 34 ∨ d = 92 then [92, d] else [d]) ++ escF s := rfl
theorem quot_esc_all : ∀ (t r : Tx) (i : Nat) (out : Tx), t.all txF = true → quotL (escF t ++ 34 :: r) i out = .ok (out ++ t) (i + (escF t).length + 1)
  | [], r, i, out, _ => by
    show quotL (34 :: r) i out = _
    rw [quotL.eq_def]
    dsimp only
    rw [if_neg (by decide), if_pos (by decide), List.append_nil]; rfl
  | d :: t, r, i, out, h => by
    rw [List.all_cons, Bool.and_eq_true] at h
    have hd : 32 ≤ d.toNat ∧ d.toNat ≤ 126 := of_decide_eq_true h.1
    have h34 : d = 34 ↔ d.toNat = 34 := ⟨fun e => by rw [e]; rfl, fun e => UInt8.toNat_inj.1 (by rw [e]; rfl)⟩
    have h92 : d = 92 ↔ d.toNat = 92 := ⟨fun e => by rw [e]; rfl, fun e => UInt8.toNat_inj.1 (by rw [e]; rfl)⟩
    rw [escF_cons]
    by_cases hq : d = 34 ∨ d = 92
    · rw [if_pos hq]
      show quotL (92 :: d :: (escF t ++ 34 :: r)) i out = _
      rw [quotL.eq_def]
      dsimp only
      rw [if_neg (by decide), if_neg (by decide), if_pos (by decide), if_pos (hq.imp h34.1 h92.1), quot_esc_all t r _ _ h.2, List.append_assoc]
      congr 1
      simp only [List.length_append, List.length_cons, List.length_nil]; omega
    · rw [if_neg hq]
      rw [not_or, h34, h92] at hq
      show quotL (d :: (escF t ++ 34 :: r)) i out = _
      rw [quotL.eq_def]
      dsimp only
      rw [if_neg (by omega), if_neg hq.1, if_neg hq.2, quot_esc_all t r _ _ h.2, List.append_assoc]
      congr 1
      simp only [List.length_append, List.length_cons, List.length_nil]; omega
end Go.Proofs.YtknfankadlokhaaGreatDoor
