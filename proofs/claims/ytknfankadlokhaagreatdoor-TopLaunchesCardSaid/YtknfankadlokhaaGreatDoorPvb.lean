/- A scan of printed text, in plain words. No conditions. -/
import Derived.Test.YtknfankadlokhaaGreatDoorPva
import Derived.Test.YtknfankadlokhaaGreatDoorNA

namespace Go.Proofs.YtknfankadlokhaaGreatDoor
open Go.RowKit
set_option linter.unusedVariables false
set_option linter.unusedSimpArgs false

/-- a token's kind and text -/
abbrev kt (t : Tk) : Int × Tx := (t.kd, t.tx)
/-- text that a scan reads as these tokens and the end, wherever it stands -/
def Lxs (r : Tx) (L : List (Int × Tx)) : Prop := ∀ (pre : Tx) (f : Nat) (l : List Tk), r.length + 1 ≤ f → ∃ ts', scanL (pre ++ r) f pre.length l = .ok (l ++ ts') ∧ ts'.map kt = L ++ [(0, [])]
section
variable {r : Tx} {L : List (Int × Tx)} {pre : Tx} {c : UInt8}
theorem get_pre : (pre ++ c :: r)[pre.length]? = some c := by
  rw [List.getElem?_append_right (Nat.le_refl _), Nat.sub_self]; rfl
theorem kind_pre : kindAt (pre ++ c :: r) pre.length = clsF c := by unfold kindAt; rw [get_pre]
theorem kind_end : kindAt pre pre.length = -1 := by unfold kindAt; rw [List.getElem?_eq_none (Nat.le_refl _)]
theorem drop_pre (a : Tx) : (pre ++ a).drop pre.length = a := by rw [List.drop_append_of_le_length (Nat.le_refl _), List.drop_length, List.nil_append]
theorem Lxs.nil : Lxs [] [] := by
  intro pre f l hf
  obtain ⟨f, rfl⟩ : ∃ n, f = n + 1 := ⟨f - 1, by simp at hf; omega⟩
  refine ⟨[⟨0, [], 0, pre.length⟩], ?_, rfl⟩
  rw [List.append_nil, scanL, skF_end (Nat.le_refl _)]
  have : tokF pre pre.length = .tok ⟨0, [], 0, pre.length⟩ pre.length := by unfold tokF; dsimp only; rw [kind_end, if_pos rfl]
  rw [this]; rfl
theorem Lxs.blank (hc : c.toNat = 32 ∨ c.toNat = 9 ∨ c.toNat = 10) (h : Lxs r L) : Lxs (c :: r) L := by
  intro pre f l hf
  obtain ⟨f, rfl⟩ : ∃ n, f = n + 1 := ⟨f - 1, by omega⟩
  obtain ⟨ts, e1, e2⟩ := h (pre ++ [c]) (f + 1) l (by simp at hf ⊢; omega)
  refine ⟨ts, ?_, e2⟩
  rw [← e1, show pre ++ c :: r = pre ++ [c] ++ r by simp, scanL, scanL, List.length_append, List.length_singleton]
  rw [skF_blank (s := pre ++ [c] ++ r) (p := pre.length) (c := c) (by rw [List.append_assoc]; exact get_pre) hc]
theorem Lxs.tok {a : Tx} {k : Int} {x : Tx} (ha : a ≠ []) (hk : k ≠ 0) (hs : ∀ pre : Tx, skF (pre ++ (a ++ r)) pre.length = pre.length ∧ tokF (pre ++ (a ++ r)) pre.length = .tok ⟨k, x, 0, pre.length⟩ (pre.length + a.length)) (h : Lxs r L) : Lxs (a ++ r) ((k, x) :: L) := by
  intro pre f l hf
  have hl : 0 < a.length := List.length_pos_iff.2 ha
  obtain ⟨f, rfl⟩ : ∃ n, f = n + 1 := ⟨f - 1, by omega⟩
  obtain ⟨h1, h2⟩ := hs pre
  obtain ⟨ts, e1, e2⟩ := h (pre ++ a) f (l ++ [⟨k, x, 0, pre.length⟩]) (by rw [List.length_append] at hf; omega)
  refine ⟨⟨k, x, 0, pre.length⟩ :: ts, ?_, by rw [List.map_cons, e2]; rfl⟩
  rw [scanL, h1, h2]
  dsimp only
  rw [if_neg hk, show l ++ (⟨k, x, 0, pre.length⟩ : Tk) :: ts = l ++ [⟨k, x, 0, pre.length⟩] ++ ts by simp, ← e1, List.append_assoc, List.length_append]
/-- what does not go on a word -/
def Hd (r : Tx) : Prop := ∀ c, r.head? = some c → wordC c = false ∧ clsF c ≠ 5
theorem span_pre {g : UInt8 → Bool} {a : Tx} (ha : ∀ c ∈ a, g c = true) (hr : ∀ c, r.head? = some c → g c = false) : (a ++ r).takeWhile g = a := by
  induction a with
  | nil =>
    rw [List.nil_append]
    cases r with
    | nil => rfl
    | cons c r => rw [List.takeWhile_cons_of_neg (by simp [hr c rfl])]
  | cons c a ih =>
    rw [List.cons_append, List.takeWhile_cons_of_pos (ha c (List.mem_cons_self ..)), ih (fun d hd => ha d (List.mem_cons_of_mem _ hd))]
theorem chW {c : UInt8} {i : Nat} (h : chF c i = true) : wordC c = true := by
  unfold chF letF digF at h
  simp only [Bool.or_eq_true, Bool.and_eq_true, decide_eq_true_eq] at h
  apply decide_eq_true
  rcases h with h | ⟨_, h | h⟩
  · exact .inl (cls3 h)
  · exact .inr (.inr (cls6 h))
  · exact .inr (.inl (cls4 h))
theorem ch0 {c : UInt8} (h : chF c 0 = true) : clsF c = 3 := by
  unfold chF letF at h
  simp only [Bool.or_eq_true, Bool.and_eq_true, decide_eq_true_eq] at h
  rcases h with h | ⟨h, _⟩
  · exact cls3 h
  · exact absurd h (Nat.lt_irrefl 0)
theorem nameF_word {n : Tx} (h : nameF n = true) : n ≠ [] ∧ n.length ≤ 16 ∧ (∀ c ∈ n, wordC c = true) ∧ ∃ c m, n = c :: m ∧ clsF c = 3 := by
  unfold nameF at h
  rw [Bool.and_eq_true] at h
  have hl := of_decide_eq_true h.1
  have ha := zip_all.1 h.2
  refine ⟨by rintro rfl; simp at hl, hl.2, fun c hc => ?_, ?_⟩
  · obtain ⟨i, hi⟩ := List.getElem?_of_mem hc
    have := ha i c hi
    exact chW this
  · cases n with
    | nil => simp at hl
    | cons c m =>
      have := ha 0 c rfl
      exact ⟨c, m, rfl, ch0 this⟩
theorem Lxs.word {n : Tx} (hn : nameF n = true) (hr : Hd r) (h : Lxs r L) : Lxs (n ++ r) ((1, n) :: L) := by
  obtain ⟨h0, h16, hw, c, m, e, h3⟩ := nameF_word hn
  refine Lxs.tok h0 (by decide) (fun pre => ?_) h
  have hk : kindAt (pre ++ (n ++ r)) pre.length = 3 := by rw [e, List.cons_append, kind_pre, h3]
  have hsp : spanF wordC (pre ++ (n ++ r)) pre.length = pre.length + n.length := by
    unfold spanF
    rw [drop_pre, span_pre hw (fun c hc => (hr c hc).1)]
  have hkq : kindAt (pre ++ (n ++ r)) (pre.length + n.length) ≠ 5 := by
    rw [← List.append_assoc, ← List.length_append]
    cases r with
    | nil => rw [List.append_nil, kind_end]; decide
    | cons d r => rw [kind_pre]; exact (hr d rfl).2
  refine ⟨skF_stop (c := c) (by rw [e, List.cons_append]; exact get_pre) (fun e => by rw [cls1 e] at h3; cases h3) (fun e => by rw [cls2 e] at h3; cases h3), ?_⟩
  unfold tokF
  dsimp only
  rw [hk, if_neg (by decide), if_pos rfl]
  unfold wordF
  dsimp only
  rw [hsp, if_neg (by omega), if_neg hkq]
  congr 2
  unfold cutF
  rw [drop_pre, Nat.add_sub_cancel_left, List.take_left]
theorem Lxs.mark (hc : clsF c = 8) (h : Lxs r L) : Lxs (c :: r) ((4, [c]) :: L) := by
  refine Lxs.tok (a := [c]) (by simp) (by decide) (fun pre => ?_) h
  rw [List.singleton_append]
  refine ⟨skF_stop get_pre (fun e => by rw [cls1 e] at hc; cases hc) (fun e => by rw [cls2 e] at hc; cases hc), ?_⟩
  unfold tokF
  dsimp only
  rw [kind_pre, hc, if_neg (by decide), if_neg (by decide), if_neg (by decide), if_neg (by decide), if_pos rfl]
  congr 2
  unfold cutF
  rw [drop_pre, Nat.add_sub_cancel_left]; rfl
theorem Lxs.text {t : Tx} (ht : plainF t = true) (h : Lxs r L) : Lxs (quotF t ++ r) ((3, t) :: L) := by
  unfold plainF at ht
  rw [Bool.and_eq_true] at ht
  have hl := of_decide_eq_true ht.1
  refine Lxs.tok (by unfold quotF; simp) (by decide) (fun pre => ?_) h
  have e : quotF t ++ r = 34 :: (escF t ++ 34 :: r) := by unfold quotF; simp
  have e2 : (quotF t).length = (escF t).length + 2 := by unfold quotF; simp
  rw [e2, e]
  have hc : clsF 34 = 7 := cls7 (by decide)
  refine ⟨skF_stop get_pre (by decide) (by decide), ?_⟩
  unfold tokF
  dsimp only
  rw [kind_pre, hc, if_neg (by decide), if_neg (by decide), if_neg (by decide), if_pos rfl]
  unfold textF
  have hd : (pre ++ 34 :: (escF t ++ 34 :: r)).drop (pre.length + 1) = escF t ++ 34 :: r := by
    rw [show pre ++ 34 :: (escF t ++ 34 :: r) = (pre ++ [34]) ++ (escF t ++ 34 :: r) by simp, show pre.length + 1 = (pre ++ [34]).length by simp, drop_pre]
  rw [hd, quot_esc_all t r _ _ ht.2]
  dsimp only
  rw [if_neg (by rw [List.nil_append]; omega), List.nil_append]
  congr 1
  omega
end
theorem Lxs.scan {s : Tx} {L : List (Int × Tx)} (hs : s.length ≤ 4000) (h : Lxs s L) : ∃ ts, scanF s = .ok ts ∧ ts.map kt = L ++ [(0, [])] := by
  obtain ⟨ts, e1, e2⟩ := h [] (s.length + 1) [] (Nat.le_refl _)
  refine ⟨ts, ?_, e2⟩
  unfold scanF
  rw [if_neg (by omega)]
  exact e1
end Go.Proofs.YtknfankadlokhaaGreatDoor
