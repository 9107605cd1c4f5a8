/- Texts with references, and what they become. No conditions. -/
import Derived.Test.YtknfankadlokhaaGreatDoorNA
import Derived.Lib.IndexMore

namespace Go.Proofs.YtknfankadlokhaaGreatDoor
open Go.RowKit
set_option linter.unusedVariables false
set_option linter.unusedSimpArgs false

theorem cut_no {s p : Tx} (h : (Lib.cut s p).2.2 = false) : (Lib.cut s p).1 = s := by
  unfold Lib.cut at *
  split
  · rename_i h0; rw [if_pos h0] at h; cases h
  · rfl
theorem cut_len {s p : Tx} (h : (Lib.cut s p).2.2 = true) : (Lib.cut s p).1.length + p.length + (Lib.cut s p).2.1.length = s.length := by
  unfold Lib.cut at *
  split
  · rename_i h0
    have := Lib.index_room s p h0
    simp only [List.length_take, List.length_drop]
    omega
  · rename_i h0; rw [if_neg h0] at h; cases h
def subR (g : List Sg) : Nat → Tx → Tx × Int
  | 0, _ => ([], 0)
  | k + 1, s =>
    let c := Lib.cut s [36, 40]
    if c.2.2 = false then (c.1, 0) else
    let d := Lib.cut c.2.1 [41]
    if d.2.2 = false then ([], 2) else
    match valF g d.1 with
    | none => ([], 6)
    | some x => let r := subR g k d.2.1; if r.2 = 0 then (c.1 ++ x ++ r.1, 0) else ([], r.2)
def subF (g : List Sg) (s : Tx) : Tx × Int :=
  let r := subR g (s.length + 1) s
  if r.2 ≠ 0 then ([], r.2) else if 4000 < r.1.length then ([], 3) else (r.1, 0)
theorem subR_last {g : List Sg} {k : Nat} {s : Tx} (h : (Lib.cut s [36, 40]).2.2 = false) : subR g (k + 1) s = (s, 0) := by
  rw [subR]; dsimp only; rw [if_pos h, cut_no h]
theorem subR_open {g : List Sg} {k : Nat} {s : Tx} (h : (Lib.cut s [36, 40]).2.2 = true) (h2 : (Lib.cut (Lib.cut s [36, 40]).2.1 [41]).2.2 = false) : subR g (k + 1) s = ([], 2) := by
  rw [subR]; dsimp only; rw [if_neg (by rw [h]; simp), if_pos h2]
theorem subR_none {g : List Sg} {k : Nat} {s : Tx} (h : (Lib.cut s [36, 40]).2.2 = true) (h2 : (Lib.cut (Lib.cut s [36, 40]).2.1 [41]).2.2 = true) (hv : valF g (Lib.cut (Lib.cut s [36, 40]).2.1 [41]).1 = none) : subR g (k + 1) s = ([], 6) := by
  rw [subR]; dsimp only; rw [if_neg (by rw [h]; simp), if_neg (by rw [h2]; simp), hv]
theorem subR_some {g : List Sg} {k : Nat} {s x : Tx} (h : (Lib.cut s [36, 40]).2.2 = true) (h2 : (Lib.cut (Lib.cut s [36, 40]).2.1 [41]).2.2 = true) (hv : valF g (Lib.cut (Lib.cut s [36, 40]).2.1 [41]).1 = some x) :
    subR g (k + 1) s = if (subR g k (Lib.cut (Lib.cut s [36, 40]).2.1 [41]).2.1).2 = 0 then ((Lib.cut s [36, 40]).1 ++ x ++ (subR g k (Lib.cut (Lib.cut s [36, 40]).2.1 [41]).2.1).1, 0) else ([], (subR g k (Lib.cut (Lib.cut s [36, 40]).2.1 [41]).2.1).2) := by
  rw [subR]; dsimp only; rw [if_neg (by rw [h]; simp), if_neg (by rw [h2]; simp), hv]
/-- what is left to do of a text, and what has been written -/
structure SubAt (g : List Sg) (s out rest : Tx) (k : Nat) : Prop where
  fuel : rest.length < k
  code : (subR g (s.length + 1) s).2 = (subR g k rest).2
  text : (subR g k rest).2 = 0 → (subR g (s.length + 1) s).1 = out ++ (subR g k rest).1
theorem SubAt.start (g : List Sg) (s : Tx) : SubAt g s [] s (s.length + 1) := ⟨by omega, rfl, fun _ => rfl⟩
theorem SubAt.step {g : List Sg} {s out rest x : Tx} {k : Nat} (h0 : SubAt g s out rest k) (h : (Lib.cut rest [36, 40]).2.2 = true) (h2 : (Lib.cut (Lib.cut rest [36, 40]).2.1 [41]).2.2 = true) (hv : valF g (Lib.cut (Lib.cut rest [36, 40]).2.1 [41]).1 = some x) :
    SubAt g s (out ++ (Lib.cut rest [36, 40]).1 ++ x) (Lib.cut (Lib.cut rest [36, 40]).2.1 [41]).2.1 (k - 1) := by
  have hl := cut_len h
  have hl2 := cut_len h2
  simp only [List.length_cons, List.length_nil] at hl hl2
  obtain ⟨hf, hc, ht⟩ := h0
  obtain ⟨k, rfl⟩ : ∃ j, k = j + 1 := ⟨k - 1, by omega⟩
  rw [subR_some h h2 hv] at hc ht
  rw [Nat.add_sub_cancel]
  refine ⟨by omega, ?_, fun e => ?_⟩
  · rw [hc]; split
    · rename_i e; exact e.symm
    · rfl
  · rw [if_pos e] at ht
    rw [ht rfl]; simp
theorem sub_last {g : List Sg} {s out rest : Tx} {k : Nat} (h0 : SubAt g s out rest k) (h : (Lib.cut rest [36, 40]).2.2 = false) : subF g s = if 4000 < (out ++ rest).length then ([], 3) else (out ++ rest, 0) := by
  obtain ⟨hf, hc, ht⟩ := h0
  obtain ⟨k, rfl⟩ : ∃ j, k = j + 1 := ⟨k - 1, by omega⟩
  rw [subR_last h] at hc ht
  unfold subF
  dsimp only
  rw [if_neg (by rw [hc]; simp), ht rfl]
theorem sub_err {g : List Sg} {s out rest : Tx} {k : Nat} {e : Int} (h0 : SubAt g s out rest k) (h : subR g k rest = ([], e)) (he : e ≠ 0) : subF g s = ([], e) := by
  obtain ⟨hf, hc, ht⟩ := h0
  rw [h] at hc
  unfold subF
  dsimp only
  rw [if_pos (by rw [hc]; exact he), hc]
end Go.Proofs.YtknfankadlokhaaGreatDoor
