/- The first reference of a text, byte by byte. No conditions. -/
import Derived.Test.YtofnepeokihhnaaLhs
import Derived.Lib.IndexLaws
namespace Go.Proofs.Ytofnepeokihhnaa
open Go.RowKit
set_option linter.unusedVariables false
set_option linter.unusedSimpArgs false

def dolAt (r : Tx) (i : Nat) : Prop := r[i]? = some 36 ∧ r[i + 1]? = some 40
theorem occ2 (r : Tx) (i : Nat) : Lib.occAt r [36, 40] i = true ↔ dolAt r i := by
  unfold Lib.occAt dolAt
  constructor
  · intro h
    have h : (r.drop i).take 2 = [36, 40] := (List.prefix_iff_eq_take.1 (List.isPrefixOf_iff_prefix.1 h)).symm
    have h0 : ((r.drop i).take 2)[0]? = some 36 := by rw [h]; rfl
    have h1 : ((r.drop i).take 2)[1]? = some 40 := by rw [h]; rfl
    rw [List.getElem?_take, if_pos (by omega), List.getElem?_drop] at h0 h1
    exact ⟨h0, h1⟩
  · rintro ⟨h0, h1⟩
    have h : (r.drop i).take 2 = [36, 40] := by
      apply List.ext_getElem?
      intro k
      rw [List.getElem?_take]
      match k with
      | 0 => rw [if_pos (by omega), List.getElem?_drop]; exact h0
      | 1 => rw [if_pos (by omega), List.getElem?_drop]; exact h1
      | k + 2 => rw [if_neg (by omega)]; rfl
    exact List.isPrefixOf_iff_prefix.2 (List.prefix_iff_eq_take.2 h.symm)
theorem occ1 (r : Tx) (i : Nat) : Lib.occAt r [41] i = true ↔ r[i]? = some 41 := by
  unfold Lib.occAt
  constructor
  · intro h
    have h : (r.drop i).take 1 = [41] := (List.prefix_iff_eq_take.1 (List.isPrefixOf_iff_prefix.1 h)).symm
    have h0 : ((r.drop i).take 1)[0]? = some 41 := by rw [h]; rfl
    rw [List.getElem?_take, if_pos (by omega), List.getElem?_drop] at h0
    exact h0
  · intro h0
    have h : (r.drop i).take 1 = [41] := by
      apply List.ext_getElem?
      intro k
      rw [List.getElem?_take]
      match k with
      | 0 => rw [if_pos (by omega), List.getElem?_drop]; exact h0
      | k + 1 => rw [if_neg (by omega)]; rfl
    exact List.isPrefixOf_iff_prefix.2 (List.prefix_iff_eq_take.2 h.symm)
theorem cut_found {r p : Tx} {j : Nat} (hj : j ≤ r.length) (h : Lib.occAt r p j = true) (hno : ∀ i, i < j → Lib.occAt r p i = false) : Lib.cut r p = (r.take j, r.drop (j + p.length), true) := by
  have hi := Lib.index_first hj h hno
  unfold Lib.cut
  rw [hi, if_pos (by omega), Int.toNat_natCast]
theorem cut_miss {r p : Tx} (hno : ∀ i, i ≤ r.length → Lib.occAt r p i = false) : Lib.cut r p = (r, [], false) := by
  have hi := Lib.index_none hno
  unfold Lib.cut
  rw [hi, if_neg (by omega)]
theorem cut2_found {r : Tx} {j : Nat} (h : dolAt r j) (hno : ∀ i, i < j → ¬ dolAt r i) : Lib.cut r [36, 40] = (r.take j, r.drop (j + 2), true) :=
  cut_found (Nat.le_of_lt (List.getElem?_eq_some_iff.1 h.1).1) ((occ2 r j).2 h) (fun i hi => Bool.eq_false_iff.2 (fun e => hno i hi ((occ2 r i).1 e)))
theorem cut2_miss {r : Tx} (hno : ∀ i, i ≤ r.length → ¬ dolAt r i) : Lib.cut r [36, 40] = (r, [], false) :=
  cut_miss (fun i hi => Bool.eq_false_iff.2 (fun e => hno i hi ((occ2 r i).1 e)))
theorem cut1_found {r : Tx} {j : Nat} (h : r[j]? = some 41) (hno : ∀ i, i < j → r[i]? ≠ some 41) : Lib.cut r [41] = (r.take j, r.drop (j + 1), true) :=
  cut_found (Nat.le_of_lt (List.getElem?_eq_some_iff.1 h).1) ((occ1 r j).2 h) (fun i hi => Bool.eq_false_iff.2 (fun e => hno i hi ((occ1 r i).1 e)))
theorem cut1_miss {r : Tx} (hno : ∀ i, i ≤ r.length → r[i]? ≠ some 41) : Lib.cut r [41] = (r, [], false) :=
  cut_miss (fun i hi => Bool.eq_false_iff.2 (fun e => hno i hi ((occ1 r i).1 e)))
/-- a reader that stands at a place: what it has written, and what it still knows nothing of -/
structure RefAt (g : List Sg) (s out : Tx) (at_ : Nat) : Prop where
  go : ∃ (out0 : Tx) (a0 k : Nat), SubAt g s out0 (s.drop a0) k ∧ a0 ≤ at_ ∧ at_ ≤ s.length ∧ out = out0 ++ (s.drop a0).take (at_ - a0) ∧ (∀ i, i < at_ - a0 → ¬ dolAt (s.drop a0) i) ∧ out0.length + (s.length - a0) * 100000 ≤ s.length * 100000
theorem RefAt.start (g : List Sg) (s : Tx) : RefAt g s [] 0 := ⟨[], 0, _, SubAt.start g s, by omega, by omega, by simp, fun i hi => by omega, by simp⟩
theorem RefAt.len {g : List Sg} {s out : Tx} {i : Nat} (h : RefAt g s out i) : out.length ≤ s.length * 100000 ∧ i ≤ s.length := by
  obtain ⟨o, a, k, hs, h1, h2, rfl, h3, h4⟩ := h.go
  rw [List.length_append, List.length_take]
  refine ⟨?_, h2⟩
  rw [List.length_drop]
  omega
theorem RefAt.char {g : List Sg} {s out : Tx} {i : Nat} {c : UInt8} (h : RefAt g s out i) (hc : s[i]? = some c) (hn : ¬ dolAt s i) : RefAt g s (out ++ [c]) (i + 1) := by
  obtain ⟨o, a, k, hs, h1, h2, rfl, h3, h4⟩ := h.go
  have hl := (List.getElem?_eq_some_iff.1 hc).1
  refine ⟨o, a, k, hs, by omega, by omega, ?_, fun j hj => ?_, h4⟩
  · rw [show i + 1 - a = (i - a) + 1 by omega, List.take_add_one, List.getElem?_drop, show a + (i - a) = i by omega, hc, List.append_assoc]; rfl
  · by_cases hji : j < i - a
    · exact h3 j hji
    · have : j = i - a := by omega
      subst this
      intro hd
      unfold dolAt at hd
      rw [List.getElem?_drop, List.getElem?_drop, show a + (i - a) = i by omega, show a + (i - a + 1) = i + 1 by omega] at hd
      exact hn hd
theorem RefAt.done {g : List Sg} {s out : Tx} {i : Nat} (h : RefAt g s out i) (hi : s.length ≤ i) : subF g s = if 4000 < out.length then ([], 3) else (out, 0) := by
  obtain ⟨o, a, k, hs, h1, h2, rfl, h3, h4⟩ := h.go
  have hr : (s.drop a).take (i - a) = s.drop a := List.take_of_length_le (by rw [List.length_drop]; omega)
  rw [hr]
  have hc : (Lib.cut (s.drop a) [36, 40]).2.2 = false := by
    rw [cut2_miss]
    intro j hj
    rw [List.length_drop] at hj
    by_cases hji : j < i - a
    · exact h3 j hji
    · rintro ⟨hd, _⟩
      have := (List.getElem?_eq_some_iff.1 hd).1
      rw [List.length_drop] at this
      omega
  exact sub_last hs hc
theorem RefAt.cut {g : List Sg} {s out : Tx} {i : Nat} (h : RefAt g s out i) (hd : dolAt s i) : ∃ (o : Tx) (a k : Nat), SubAt g s o (s.drop a) k ∧ a ≤ i ∧ out = o ++ (s.drop a).take (i - a) ∧ Lib.cut (s.drop a) [36, 40] = ((s.drop a).take (i - a), s.drop (i + 2), true) ∧ o.length + (s.length - a) * 100000 ≤ s.length * 100000 := by
  obtain ⟨o, a, k, hs, h1, h2, rfl, h3, h4⟩ := h.go
  refine ⟨o, a, k, hs, h1, rfl, ?_, h4⟩
  have hd2 : dolAt (s.drop a) (i - a) := by
    unfold dolAt
    rw [List.getElem?_drop, List.getElem?_drop, show a + (i - a) = i by omega, show a + (i - a + 1) = i + 1 by omega]
    exact hd
  rw [cut2_found hd2 h3, List.drop_drop, show a + (i - a + 2) = i + 2 by omega]
theorem RefAt.open_ {g : List Sg} {s out : Tx} {i : Nat} (h : RefAt g s out i) (hd : dolAt s i) (hno : ∀ j, i + 2 ≤ j → s[j]? ≠ some 41) : subF g s = ([], 2) := by
  obtain ⟨o, a, k, hs, h1, rfl, hc, h4⟩ := h.cut hd
  have hk := hs.fuel
  obtain ⟨k, rfl⟩ : ∃ j, k = j + 1 := ⟨k - 1, by omega⟩
  refine sub_err hs (subR_open (by rw [hc]) ?_) (by omega)
  rw [hc]
  show (Lib.cut (s.drop (i + 2)) [41]).2.2 = false
  rw [cut1_miss]
  intro j _
  rw [List.getElem?_drop]
  exact hno _ (by omega)
theorem RefAt.close {g : List Sg} {s out : Tx} {i e : Nat} (h : RefAt g s out i) (hd : dolAt s i) (he : i + 2 ≤ e) (hc : s[e]? = some 41) (hno : ∀ j, i + 2 ≤ j → j < e → s[j]? ≠ some 41) :
    (valF g ((s.drop (i + 2)).take (e - (i + 2))) = none → subF g s = ([], 6)) ∧ ∀ x, valF g ((s.drop (i + 2)).take (e - (i + 2))) = some x → x.length ≤ 100000 → RefAt g s (out ++ x) (e + 1) := by
  obtain ⟨o, a, k, hs, h1, rfl, hcut, h4⟩ := h.cut hd
  have hel := (List.getElem?_eq_some_iff.1 hc).1
  have hk := hs.fuel
  obtain ⟨k, rfl⟩ : ∃ j, k = j + 1 := ⟨k - 1, by omega⟩
  have hcut1 : Lib.cut (s.drop (i + 2)) [41] = ((s.drop (i + 2)).take (e - (i + 2)), s.drop (e + 1), true) := by
    rw [cut1_found (r := s.drop (i + 2)) (j := e - (i + 2)) (by rw [List.getElem?_drop, show i + 2 + (e - (i + 2)) = e by omega]; exact hc) (fun j hj => by rw [List.getElem?_drop]; exact hno _ (by omega) (by omega)), List.drop_drop, show i + 2 + (e - (i + 2) + 1) = e + 1 by omega]
  have e1 : (Lib.cut (s.drop a) [36, 40]).2.2 = true := by rw [hcut]
  have e2 : (Lib.cut (Lib.cut (s.drop a) [36, 40]).2.1 [41]) = ((s.drop (i + 2)).take (e - (i + 2)), s.drop (e + 1), true) := by rw [hcut]; exact hcut1
  refine ⟨fun hv => sub_err hs (subR_none e1 (by rw [e2]) (by rw [e2]; exact hv)) (by omega), fun x hv hx => ?_⟩
  have hst := hs.step e1 (by rw [e2]) (x := x) (by rw [e2]; exact hv)
  rw [e2, hcut] at hst
  dsimp only at hst
  refine ⟨_, e + 1, _, hst, Nat.le_refl _, by omega, by simp, fun j hj => by omega, ?_⟩
  rw [List.length_append, List.length_append, List.length_take, List.length_drop]
  omega
end Go.Proofs.Ytofnepeokihhnaa
