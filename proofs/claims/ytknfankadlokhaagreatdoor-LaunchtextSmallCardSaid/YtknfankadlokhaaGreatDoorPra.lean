/- The specification's lexer: bytes. No conditions. -/
import Derived.Test.YtknfankadlokhaaGreatDoorPlj
import Derived.Test.YtknfankadlokhaaGreatDoorNA

namespace Go.Proofs.YtknfankadlokhaaGreatDoor
open Go.RowKit
set_option maxRecDepth 4000
set_option linter.unusedVariables false
set_option linter.unusedSimpArgs false
set_option maxHeartbeats 8000000

abbrev letP (c : UInt8) : Prop := 97 ≤ c.toNat ∧ c.toNat ≤ 122 ∨ 65 ≤ c.toNat ∧ c.toNat ≤ 90
theorem cls3_iff {c : UInt8} : clsF c = 3 ↔ letP c := by
  refine ⟨fun h => ?_, cls3⟩
  unfold clsF at h
  split at h
  · cases h
  split at h
  · cases h
  split at h
  · assumption
  split at h
  · cases h
  split at h
  · cases h
  split at h
  · cases h
  split at h
  · cases h
  split at h <;> cases h
theorem cls4_iff {c : UInt8} : clsF c = 4 ↔ 48 ≤ c.toNat ∧ c.toNat ≤ 57 := ⟨cls4_inv, cls4⟩
theorem cls5_iff {c : UInt8} : clsF c = 5 ↔ c.toNat = 45 := by
  refine ⟨fun h => ?_, cls5⟩
  unfold clsF at h
  split at h
  · cases h
  split at h
  · cases h
  split at h
  · cases h
  split at h
  · cases h
  split at h
  · assumption
  split at h
  · cases h
  split at h
  · cases h
  split at h <;> cases h
theorem cls6_iff {c : UInt8} : clsF c = 6 ↔ c.toNat = 95 := by
  refine ⟨fun h => ?_, cls6⟩
  unfold clsF at h
  split at h
  · cases h
  split at h
  · cases h
  split at h
  · cases h
  split at h
  · cases h
  split at h
  · cases h
  split at h
  · assumption
  split at h
  · cases h
  split at h <;> cases h
theorem cls7_iff {c : UInt8} : clsF c = 7 ↔ c.toNat = 34 := by
  refine ⟨fun h => ?_, cls7⟩
  unfold clsF at h
  split at h
  · cases h
  split at h
  · cases h
  split at h
  · cases h
  split at h
  · cases h
  split at h
  · cases h
  split at h
  · cases h
  split at h
  · assumption
  split at h <;> cases h
theorem rletter_any {w0 : World} (c : UInt8) : Cl Tryz.prog 96 [.int .u8 (c.toNat : Int)] w0 (fun v w' => v = .bool (decide (clsF c = 3)) ∧ St w0 NoneS [] w') := by
  have hSt := St.refl w0 NoneS
  rw [show decide (clsF c = 3) = decide (letP c) from decide_eq_decide.2 cls3_iff]
  refine enter Tryz.func96 rfl Tryz.ntmps96 rfl ?_
  by_cases h1 : 97 ≤ c.toNat ∧ c.toNat ≤ 122
  · repeat' (first | refine stepA ?_ | (refine stepS ?_; clear hSt; intro w hSt; dsimp only [spl, List.set] at hSt) | (refine stepB ?_; clear hSt; intro w nb hnb hSt; dsimp only [zcells, List.nil_append, List.cons_append] at hSt) | (refine W_quiet hT (by decide +kernel) hSt ?_; clear hSt; (repeat' (first | (apply QL_ev rfl rfl; (intro w hSt; (first | exact Ev_auto))) | refine QL_pass rfl rfl ?_ | (refine QL_guardP rfl rfl (fun hc => ?_) (fun hc => ?_) <;> try exact absA) | (refine QL_guard rfl rfl (fun hc => ?_) (fun hc => ?_) <;> (try exact absA) <;> (fail_if_success (change true = true at hc)) <;> (fail_if_success (change false = false at hc))))); all_goals (refine QL_nil (fun w hSt => ?_))) | (refine stepG ?_ ?_ <;> intro hc <;> (try exact absA) <;> (fail_if_success (change true = true at hc)) <;> (fail_if_success (change false = false at hc))) | fail)
    all_goals try (exfalso; first | omega | (simp at hc; done) | (exact hc rfl) | contradiction)
    all_goals (refine ret1 rfl rfl ⟨congrArg Value.bool (by rw [Bool.eq_iff_iff]; simp only [decide_eq_true_eq, true_iff, false_iff, Bool.false_eq_true, iff_true, iff_false, not_true_eq_false, not_false_eq_true]; omega), hSt⟩)
  by_cases h2 : 65 ≤ c.toNat ∧ c.toNat ≤ 90
  · repeat' (first | refine stepA ?_ | (refine stepS ?_; clear hSt; intro w hSt; dsimp only [spl, List.set] at hSt) | (refine stepB ?_; clear hSt; intro w nb hnb hSt; dsimp only [zcells, List.nil_append, List.cons_append] at hSt) | (refine W_quiet hT (by decide +kernel) hSt ?_; clear hSt; (repeat' (first | (apply QL_ev rfl rfl; (intro w hSt; (first | exact Ev_auto))) | refine QL_pass rfl rfl ?_ | (refine QL_guardP rfl rfl (fun hc => ?_) (fun hc => ?_) <;> try exact absA) | (refine QL_guard rfl rfl (fun hc => ?_) (fun hc => ?_) <;> (try exact absA) <;> (fail_if_success (change true = true at hc)) <;> (fail_if_success (change false = false at hc))))); all_goals (refine QL_nil (fun w hSt => ?_))) | (refine stepG ?_ ?_ <;> intro hc <;> (try exact absA) <;> (fail_if_success (change true = true at hc)) <;> (fail_if_success (change false = false at hc))) | fail)
    all_goals try (exfalso; first | omega | (simp at hc; done) | (exact hc rfl) | contradiction)
    all_goals (refine ret1 rfl rfl ⟨congrArg Value.bool (by rw [Bool.eq_iff_iff]; simp only [decide_eq_true_eq, true_iff, false_iff, Bool.false_eq_true, iff_true, iff_false, not_true_eq_false, not_false_eq_true]; omega), hSt⟩)
  · repeat' (first | refine stepA ?_ | (refine stepS ?_; clear hSt; intro w hSt; dsimp only [spl, List.set] at hSt) | (refine stepB ?_; clear hSt; intro w nb hnb hSt; dsimp only [zcells, List.nil_append, List.cons_append] at hSt) | (refine W_quiet hT (by decide +kernel) hSt ?_; clear hSt; (repeat' (first | (apply QL_ev rfl rfl; (intro w hSt; (first | exact Ev_auto))) | refine QL_pass rfl rfl ?_ | (refine QL_guardP rfl rfl (fun hc => ?_) (fun hc => ?_) <;> try exact absA) | (refine QL_guard rfl rfl (fun hc => ?_) (fun hc => ?_) <;> (try exact absA) <;> (fail_if_success (change true = true at hc)) <;> (fail_if_success (change false = false at hc))))); all_goals (refine QL_nil (fun w hSt => ?_))) | (refine stepG ?_ ?_ <;> intro hc <;> (try exact absA) <;> (fail_if_success (change true = true at hc)) <;> (fail_if_success (change false = false at hc))) | fail)
    all_goals try (exfalso; first | omega | (simp at hc; done) | (exact hc rfl) | contradiction)
    all_goals (refine ret1 rfl rfl ⟨congrArg Value.bool (by rw [Bool.eq_iff_iff]; simp only [decide_eq_true_eq, true_iff, false_iff, Bool.false_eq_true, iff_true, iff_false, not_true_eq_false, not_false_eq_true]; omega), hSt⟩)
theorem rdigit_any {w0 : World} (c : UInt8) : Cl Tryz.prog 98 [.int .u8 (c.toNat : Int)] w0 (fun v w' => v = .bool (digC c) ∧ St w0 NoneS [] w') := by
  have hSt := St.refl w0 NoneS
  rw [show digC c = decide (48 ≤ c.toNat ∧ c.toNat ≤ 57) from decide_eq_decide.2 cls4_iff]
  refine enter Tryz.func98 rfl Tryz.ntmps98 rfl ?_
  repeat' (first | refine stepA ?_ | (refine stepS ?_; clear hSt; intro w hSt; dsimp only [spl, List.set] at hSt) | (refine stepB ?_; clear hSt; intro w nb hnb hSt; dsimp only [zcells, List.nil_append, List.cons_append] at hSt) | (refine W_quiet hT (by decide +kernel) hSt ?_; clear hSt; (repeat' (first | (apply QL_ev rfl rfl; (intro w hSt; (first | exact Ev_auto))) | refine QL_pass rfl rfl ?_ | (refine QL_guardP rfl rfl (fun hc => ?_) (fun hc => ?_) <;> try exact absA) | (refine QL_guard rfl rfl (fun hc => ?_) (fun hc => ?_) <;> (try exact absA) <;> (fail_if_success (change true = true at hc)) <;> (fail_if_success (change false = false at hc))))); all_goals (refine QL_nil (fun w hSt => ?_))) | (refine stepG ?_ ?_ <;> intro hc <;> (try exact absA) <;> (fail_if_success (change true = true at hc)) <;> (fail_if_success (change false = false at hc))) | fail)
  all_goals try (exfalso; first | omega | (simp at hc; done) | (exact hc rfl) | contradiction)
  all_goals (refine ret1 rfl rfl ⟨congrArg Value.bool (by rw [Bool.eq_iff_iff]; simp only [decide_eq_true_eq, true_iff, false_iff, Bool.false_eq_true, iff_true, iff_false, not_true_eq_false, not_false_eq_true]; omega), hSt⟩)
theorem rword_any {w0 : World} (c : UInt8) : Cl Tryz.prog 123 [.int .u8 (c.toNat : Int)] w0 (fun v w' => v = .bool (wordC c) ∧ St w0 NoneS [] w') := by
  have hSt := St.refl w0 NoneS
  have hle := fun w : World => rletter_any (w0 := w) c
  have hdi := fun w : World => rdigit_any (w0 := w) c
  unfold wordC
  unfold digC at hdi
  refine enter Tryz.func123 rfl Tryz.ntmps123 rfl ?_
  by_cases h3 : clsF c = 3
  · rw [decide_eq_true (Or.inl h3)]
    simp only [h3, decide_true] at hle
    repeat' (first | (refine WL_isCall (f := 96) ?_; refine WL_call (ok_call hT rfl) rfl rfl rfl (hle _) ?_; rintro v w2 ⟨rfl, hc2⟩; replace hSt := hSt.call0 hc2; clear hc2) | refine stepA ?_ | (refine stepS ?_; clear hSt; intro w hSt; dsimp only [spl, List.set] at hSt) | (refine stepB ?_; clear hSt; intro w nb hnb hSt; dsimp only [zcells, List.nil_append, List.cons_append] at hSt) | (refine W_quiet hT (by decide +kernel) hSt ?_; clear hSt; (repeat' (first | (apply QL_ev rfl rfl; (intro w hSt; (first | exact Ev_auto))) | refine QL_pass rfl rfl ?_ | (refine QL_guardP rfl rfl (fun hc => ?_) (fun hc => ?_) <;> try exact absA) | (refine QL_guard rfl rfl (fun hc => ?_) (fun hc => ?_) <;> (try exact absA) <;> (fail_if_success (change true = true at hc)) <;> (fail_if_success (change false = false at hc))))); all_goals (refine QL_nil (fun w hSt => ?_))) | (refine stepG ?_ ?_ <;> intro hc <;> (try exact absA) <;> (fail_if_success (change true = true at hc)) <;> (fail_if_success (change false = false at hc))) | fail)
    all_goals try (exfalso; first | omega | (simp at hc; done) | (exact hc rfl) | contradiction)
    all_goals exact ret1 rfl rfl ⟨rfl, hSt⟩
  simp only [h3, decide_false] at hle
  by_cases h4 : clsF c = 4
  · rw [decide_eq_true (Or.inr (Or.inl h4))]
    simp only [h4, decide_true] at hdi
    repeat' (first | (refine WL_isCall (f := 96) ?_; refine WL_call (ok_call hT rfl) rfl rfl rfl (hle _) ?_; rintro v w2 ⟨rfl, hc2⟩; replace hSt := hSt.call0 hc2; clear hc2) | (refine WL_isCall (f := 98) ?_; refine WL_call (ok_call hT rfl) rfl rfl rfl (hdi _) ?_; rintro v w2 ⟨rfl, hc2⟩; replace hSt := hSt.call0 hc2; clear hc2) | refine stepA ?_ | (refine stepS ?_; clear hSt; intro w hSt; dsimp only [spl, List.set] at hSt) | (refine stepB ?_; clear hSt; intro w nb hnb hSt; dsimp only [zcells, List.nil_append, List.cons_append] at hSt) | (refine W_quiet hT (by decide +kernel) hSt ?_; clear hSt; (repeat' (first | (apply QL_ev rfl rfl; (intro w hSt; (first | exact Ev_auto))) | refine QL_pass rfl rfl ?_ | (refine QL_guardP rfl rfl (fun hc => ?_) (fun hc => ?_) <;> try exact absA) | (refine QL_guard rfl rfl (fun hc => ?_) (fun hc => ?_) <;> (try exact absA) <;> (fail_if_success (change true = true at hc)) <;> (fail_if_success (change false = false at hc))))); all_goals (refine QL_nil (fun w hSt => ?_))) | (refine stepG ?_ ?_ <;> intro hc <;> (try exact absA) <;> (fail_if_success (change true = true at hc)) <;> (fail_if_success (change false = false at hc))) | fail)
    all_goals try (exfalso; first | omega | (simp at hc; done) | (exact hc rfl) | contradiction)
    all_goals exact ret1 rfl rfl ⟨rfl, hSt⟩
  simp only [h4, decide_false] at hdi
  have e6 := cls6_iff (c := c)
  by_cases h6 : clsF c = 6
  · rw [decide_eq_true (Or.inr (Or.inr h6))]
    have h7 := e6.1 h6
    repeat' (first | (refine WL_isCall (f := 96) ?_; refine WL_call (ok_call hT rfl) rfl rfl rfl (hle _) ?_; rintro v w2 ⟨rfl, hc2⟩; replace hSt := hSt.call0 hc2; clear hc2) | (refine WL_isCall (f := 98) ?_; refine WL_call (ok_call hT rfl) rfl rfl rfl (hdi _) ?_; rintro v w2 ⟨rfl, hc2⟩; replace hSt := hSt.call0 hc2; clear hc2) | refine stepA ?_ | (refine stepS ?_; clear hSt; intro w hSt; dsimp only [spl, List.set] at hSt) | (refine stepB ?_; clear hSt; intro w nb hnb hSt; dsimp only [zcells, List.nil_append, List.cons_append] at hSt) | (refine W_quiet hT (by decide +kernel) hSt ?_; clear hSt; (repeat' (first | (apply QL_ev rfl rfl; (intro w hSt; (first | exact Ev_auto))) | refine QL_pass rfl rfl ?_ | (refine QL_guardP rfl rfl (fun hc => ?_) (fun hc => ?_) <;> try exact absA) | (refine QL_guard rfl rfl (fun hc => ?_) (fun hc => ?_) <;> (try exact absA) <;> (fail_if_success (change true = true at hc)) <;> (fail_if_success (change false = false at hc))))); all_goals (refine QL_nil (fun w hSt => ?_))) | (refine stepG ?_ ?_ <;> intro hc <;> (try exact absA) <;> (fail_if_success (change true = true at hc)) <;> (fail_if_success (change false = false at hc))) | fail)
    all_goals try (exfalso; first | omega | (simp at hc; done) | (exact hc rfl) | contradiction)
    all_goals (refine ret1 rfl rfl ⟨congrArg Value.bool ?_, hSt⟩; first | rfl | exact decide_eq_true (by omega))
  · rw [decide_eq_false (by rintro (h | h | h) <;> contradiction)]
    have h7 : ¬ c.toNat = 95 := fun e => h6 (e6.2 e)
    repeat' (first | (refine WL_isCall (f := 96) ?_; refine WL_call (ok_call hT rfl) rfl rfl rfl (hle _) ?_; rintro v w2 ⟨rfl, hc2⟩; replace hSt := hSt.call0 hc2; clear hc2) | (refine WL_isCall (f := 98) ?_; refine WL_call (ok_call hT rfl) rfl rfl rfl (hdi _) ?_; rintro v w2 ⟨rfl, hc2⟩; replace hSt := hSt.call0 hc2; clear hc2) | refine stepA ?_ | (refine stepS ?_; clear hSt; intro w hSt; dsimp only [spl, List.set] at hSt) | (refine stepB ?_; clear hSt; intro w nb hnb hSt; dsimp only [zcells, List.nil_append, List.cons_append] at hSt) | (refine W_quiet hT (by decide +kernel) hSt ?_; clear hSt; (repeat' (first | (apply QL_ev rfl rfl; (intro w hSt; (first | exact Ev_auto))) | refine QL_pass rfl rfl ?_ | (refine QL_guardP rfl rfl (fun hc => ?_) (fun hc => ?_) <;> try exact absA) | (refine QL_guard rfl rfl (fun hc => ?_) (fun hc => ?_) <;> (try exact absA) <;> (fail_if_success (change true = true at hc)) <;> (fail_if_success (change false = false at hc))))); all_goals (refine QL_nil (fun w hSt => ?_))) | (refine stepG ?_ ?_ <;> intro hc <;> (try exact absA) <;> (fail_if_success (change true = true at hc)) <;> (fail_if_success (change false = false at hc))) | fail)
    all_goals try (exfalso; first | omega | (simp at hc; done) | (exact hc rfl) | contradiction)
    all_goals (refine ret1 rfl rfl ⟨congrArg Value.bool ?_, hSt⟩; first | rfl | exact decide_eq_false (by omega))
theorem ixb_mem {c : UInt8} : ∀ {l : Tx}, (0 ≤ Lib.indexByte l c ↔ c ∈ l)
  | [] => by rw [Lib.indexByte]; simp
  | d :: l => by
    have ih := ixb_mem (c := c) (l := l)
    have hge := Lib.indexByte_ge l c
    rw [Lib.indexByte]
    by_cases hd : d = c
    · subst hd; simp
    · rw [if_neg (by simpa using hd), List.mem_cons]
      by_cases hm : Lib.indexByte l c = -1
      · rw [if_pos (by simpa using hm)]
        have : ¬ c ∈ l := fun h => by have := ih.2 h; omega
        constructor
        · intro h; omega
        · rintro (h | h)
          · exact absurd h.symm hd
          · exact absurd h this
      · rw [if_neg (by simpa using hm)]
        constructor
        · intro h; exact .inr (ih.1 (by omega))
        · intro _; omega
theorem rmark_any {w0 : World} (c : UInt8) : Cl Tryz.prog 101 [.int .u8 (c.toNat : Int)] w0 (fun v w' => v = .bool (markC c) ∧ St w0 NoneS [] w') := by
  have hSt := St.refl w0 NoneS
  have hmk : markC c = decide (c ∈ marksL) := decide_eq_decide.2 (ixb_mem (c := c) (l := marksL))
  have hl16 : marksL.length = 16 := rfl
  rw [hmk]
  refine enter Tryz.func101 rfl Tryz.ntmps101 rfl ?_
  repeat' (first | refine stepA ?_ | (refine stepS ?_; clear hSt; intro w hSt; dsimp only [spl, List.set] at hSt) | (refine stepB ?_; clear hSt; intro w nb hnb hSt; dsimp only [zcells, List.nil_append, List.cons_append] at hSt) | (refine W_quiet hT (by decide +kernel) hSt ?_; clear hSt; (repeat' (first | (apply QL_ev rfl rfl; (intro w hSt; (first | exact Ev_auto))) | refine QL_pass rfl rfl ?_ | (refine QL_guardP rfl rfl (fun hc => ?_) (fun hc => ?_) <;> try exact absA) | (refine QL_guard rfl rfl (fun hc => ?_) (fun hc => ?_) <;> (try exact absA) <;> (fail_if_success (change true = true at hc)) <;> (fail_if_success (change false = false at hc))))); all_goals (refine QL_nil (fun w hSt => ?_))) | (refine stepG ?_ ?_ <;> intro hc <;> (try exact absA) <;> (fail_if_success (change true = true at hc)) <;> (fail_if_success (change false = false at hc))) | fail)
  refine W_loop1 (fun k (i : Nat) w => k = 16 - i ∧ i ≤ 16 ∧ ¬ c ∈ marksL.take i ∧ St w0 NoneS [] w) (fun i => [(4, I (i : Int)), (3, S marksL)]) 16 0 rfl (by (repeat (first | exact Str.nil _ | apply Str.drop rfl | apply Str.keepU rfl | apply Str.keep rfl))) ⟨rfl, by omega, by simp, hSt⟩ (by (repeat (first | exact Sub.nil _ | refine Sub.cons rfl ?_))) ?_
  clear hSt
  rintro k i w ⟨hk, hi, hno, hSt⟩ K hK
  by_cases hil : i < 16
  · obtain ⟨d, hd⟩ : ∃ d, marksL[i]? = some d := ⟨_, List.getElem?_eq_getElem (by rw [hl16]; exact hil)⟩
    have hq : marksL[(i : Int).toNat]? = some d := by rw [Int.toNat_natCast]; exact hd
    have hdn := d.toNat_lt
    by_cases hdc : d = c
    · subst hdc
      rw [decide_eq_true (List.mem_of_getElem? hd)]
      repeat' (first | (apply WL_ev rfl rfl; exact Ev_strIndex hT rfl rfl rfl (by omega) hq) | refine stepA ?_ | (refine stepS ?_; clear hSt; intro w hSt; dsimp only [spl, List.set] at hSt) | (refine stepB ?_; clear hSt; intro w nb hnb hSt; dsimp only [zcells, List.nil_append, List.cons_append] at hSt) | (refine W_quiet hT (by decide +kernel) hSt ?_; clear hSt; (repeat' (first | (apply QL_ev rfl rfl; (intro w hSt; (first | (exact Ev_strIndex hT rfl rfl rfl (by omega) hq) | exact Ev_auto))) | refine QL_pass rfl rfl ?_ | (refine QL_guardP rfl rfl (fun hc => ?_) (fun hc => ?_) <;> try exact absA) | (refine QL_guard rfl rfl (fun hc => ?_) (fun hc => ?_) <;> (try exact absA) <;> (fail_if_success (change true = true at hc)) <;> (fail_if_success (change false = false at hc))))); all_goals (refine QL_nil (fun w hSt => ?_))) | (refine stepG ?_ ?_ <;> intro hc <;> (try exact absA) <;> (fail_if_success (change true = true at hc)) <;> (fail_if_success (change false = false at hc))) | fail)
      all_goals try (exfalso; first | omega | (simp at hc; done) | (exact hc rfl) | contradiction)
      all_goals exact ret1 rfl rfl ⟨rfl, hSt⟩
    · have hdc2 : ¬ (d.toNat : Int) = (c.toNat : Int) := fun e => hdc (UInt8.toNat_inj.1 (by omega))
      repeat' (first | (apply WL_ev rfl rfl; exact Ev_strIndex hT rfl rfl rfl (by omega) hq) | refine stepA ?_ | (refine stepS ?_; clear hSt; intro w hSt; dsimp only [spl, List.set] at hSt) | (refine stepB ?_; clear hSt; intro w nb hnb hSt; dsimp only [zcells, List.nil_append, List.cons_append] at hSt) | (refine W_quiet hT (by decide +kernel) hSt ?_; clear hSt; (repeat' (first | (apply QL_ev rfl rfl; (intro w hSt; (first | (exact Ev_strIndex hT rfl rfl rfl (by omega) hq) | exact Ev_auto))) | refine QL_pass rfl rfl ?_ | (refine QL_guardP rfl rfl (fun hc => ?_) (fun hc => ?_) <;> try exact absA) | (refine QL_guard rfl rfl (fun hc => ?_) (fun hc => ?_) <;> (try exact absA) <;> (fail_if_success (change true = true at hc)) <;> (fail_if_success (change false = false at hc))))); all_goals (refine QL_nil (fun w hSt => ?_))) | (refine stepG ?_ ?_ <;> intro hc <;> (try exact absA) <;> (fail_if_success (change true = true at hc)) <;> (fail_if_success (change false = false at hc))) | fail)
      all_goals try (exfalso; first | omega | (simp at hc; done) | (exact hc rfl) | contradiction)
      all_goals exact At_loop1 hK (k' := 16 - (i + 1)) (i + 1) (by omega) ⟨rfl, hil, by rw [List.take_add_one, hd]; simp only [Option.toList, List.mem_append, List.mem_singleton, not_or]; exact ⟨hno, fun e => hdc e.symm⟩, hSt⟩ (by (repeat (first | exact Sub.nil _ | refine Sub.cons rfl ?_)))
  · rw [decide_eq_false (by rw [List.take_of_length_le (by rw [hl16]; omega)] at hno; exact hno)]
    repeat' (first | refine stepA ?_ | (refine stepS ?_; clear hSt; intro w hSt; dsimp only [spl, List.set] at hSt) | (refine stepB ?_; clear hSt; intro w nb hnb hSt; dsimp only [zcells, List.nil_append, List.cons_append] at hSt) | (refine W_quiet hT (by decide +kernel) hSt ?_; clear hSt; (repeat' (first | (apply QL_ev rfl rfl; (intro w hSt; (first | exact Ev_auto))) | refine QL_pass rfl rfl ?_ | (refine QL_guardP rfl rfl (fun hc => ?_) (fun hc => ?_) <;> try exact absA) | (refine QL_guard rfl rfl (fun hc => ?_) (fun hc => ?_) <;> (try exact absA) <;> (fail_if_success (change true = true at hc)) <;> (fail_if_success (change false = false at hc))))); all_goals (refine QL_nil (fun w hSt => ?_))) | (refine stepG ?_ ?_ <;> intro hc <;> (try exact absA) <;> (fail_if_success (change true = true at hc)) <;> (fail_if_success (change false = false at hc))) | fail)
    all_goals try (exfalso; first | omega | (simp at hc; done) | (exact hc rfl) | contradiction)
    all_goals exact ret1 rfl rfl ⟨rfl, hSt⟩
end Go.Proofs.YtknfankadlokhaaGreatDoor
