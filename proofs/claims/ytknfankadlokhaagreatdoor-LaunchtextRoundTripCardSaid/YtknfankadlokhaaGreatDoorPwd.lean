/- Is a condition too large to play? No conditions. -/
import Derived.Test.YtknfankadlokhaaGreatDoorPua

namespace Go.Proofs.YtknfankadlokhaaGreatDoor
open Go.RowKit
set_option maxRecDepth 4000
set_option linter.unusedVariables false
set_option linter.unusedSimpArgs false
set_option maxHeartbeats 16000000

/-- is a condition, by hand, too large to play? -/
def deepF : Nat → Cn → Bool
  | 0, _ => true
  | k + 1, c => if 3 < c.args.length ∨ 40 < c.name.length ∨ 300 < c.text.length then true else c.args.any (deepF k)
theorem deep_lev : ∀ (k : Nat) (c : Cn), deepF k c = false → levC c ≤ k
  | 0, c, h => by rw [deepF] at h; cases h
  | k + 1, c, h => by
    rw [deepF] at h
    split at h
    · cases h
    obtain ⟨op, n, t, ars⟩ := c
    have key : ∀ l : List Cn, l.any (deepF k) = false → levCs l ≤ k := by
      intro l
      induction l with
      | nil => intro _; exact Nat.zero_le _
      | cons a l ih =>
        intro h
        rw [List.any_cons, Bool.or_eq_false_iff] at h
        have h1 := deep_lev k a h.1
        have h2 := ih h.2
        simp only [levCs]; omega
    have := key ars h
    simp only [levC]; omega
theorem deep_any : ∀ (k : Nat) (c : Cn) {w0 : World} {cs : List Value}, k ≤ 100 → CondAt w0 c cs → Cl Tryz.prog 70 [.agg ⟨cs⟩, I (k : Int)] w0 (fun v w' => v = B (deepF k c) ∧ St w0 NoneS [] w')
  | 0, c, w0, cs, hk, h => by
    obtain ⟨v0, xs, rfl, hs, hcs, htl, hal⟩ := h.cells
    obtain ⟨a1, p1, rfl, hc1⟩ := hs.some_ hcs.len
    have hSt := St.refl w0 NoneS
    rw [deepF]
    refine enter Tryz.func70 rfl Tryz.ntmps70 rfl ?_
    repeat' (first | (refine WL_box rfl rfl rfl hSt ?_; clear hSt; intro w nb hnb hSt; replace hSt := hSt.front; dsimp only [zcells, List.nil_append, List.cons_append] at hSt) | refine stepA ?_ | (refine stepS ?_; clear hSt; intro w hSt; dsimp only [spl, List.set] at hSt) | (refine stepB ?_; clear hSt; intro w nb hnb hSt; dsimp only [zcells, List.nil_append, List.cons_append] at hSt) | (refine W_quiet hT (by decide +kernel) hSt ?_; clear hSt; (repeat' (first | (apply QL_ev rfl rfl; (intro w hSt; (first | exact Ev_auto))) | refine QL_pass rfl rfl ?_ | (refine QL_guardP rfl rfl (fun hc => ?_) (fun hc => ?_) <;> try exact absA) | (refine QL_guard rfl rfl (fun hc => ?_) (fun hc => ?_) <;> (try exact absA) <;> (fail_if_success (change true = true at hc)) <;> (fail_if_success (change false = false at hc))))); all_goals (refine QL_nil (fun w hSt => ?_))) | (refine stepG ?_ ?_ <;> intro hc <;> (try exact absA) <;> (fail_if_success (change true = true at hc)) <;> (fail_if_success (change false = false at hc))) | fail)
    all_goals try (exfalso; first | omega | (simp at hc; done) | (exact hc rfl) | contradiction)
    all_goals exact ret1 rfl rfl ⟨rfl, hSt.nil⟩
  | k + 1, c, w0, cs, hk, h => by
    obtain ⟨v0, xs, rfl, hs, hcs, htl, hal⟩ := h.cells
    obtain ⟨a1, p1, rfl, hc1⟩ := hs.some_ hcs.len
    have hSt := St.refl w0 NoneS
    rw [deepF]
    refine enter Tryz.func70 rfl Tryz.ntmps70 rfl ?_
    by_cases hb : 3 < c.args.length ∨ 40 < c.name.length ∨ 300 < c.text.length
    · rw [if_pos hb]
      repeat' (first | (refine WL_box rfl rfl rfl hSt ?_; clear hSt; intro w nb hnb hSt; replace hSt := hSt.front; dsimp only [zcells, List.nil_append, List.cons_append] at hSt) | refine stepA ?_ | (refine stepS ?_; clear hSt; intro w hSt; dsimp only [spl, List.set] at hSt) | (refine stepB ?_; clear hSt; intro w nb hnb hSt; dsimp only [zcells, List.nil_append, List.cons_append] at hSt) | (refine W_quiet hT (by decide +kernel) hSt ?_; clear hSt; (repeat' (first | (apply QL_ev rfl rfl; (intro w hSt; (first | exact Ev_auto))) | refine QL_pass rfl rfl ?_ | (refine QL_guardP rfl rfl (fun hc => ?_) (fun hc => ?_) <;> try exact absA) | (refine QL_guard rfl rfl (fun hc => ?_) (fun hc => ?_) <;> (try exact absA) <;> (fail_if_success (change true = true at hc)) <;> (fail_if_success (change false = false at hc))))); all_goals (refine QL_nil (fun w hSt => ?_))) | (refine stepG ?_ ?_ <;> intro hc <;> (try exact absA) <;> (fail_if_success (change true = true at hc)) <;> (fail_if_success (change false = false at hc))) | fail)
      all_goals try (exfalso; first | omega | (simp at hc; done) | (exact hc rfl) | contradiction)
      all_goals exact ret1 rfl rfl ⟨rfl, hSt.nil⟩
    rw [if_neg hb]
    have hk1 : ((k + 1 : Nat) : Int) - 1 = (k : Int) := by omega
    repeat' (first | (refine WL_box rfl rfl rfl hSt ?_; clear hSt; intro w nb hnb hSt; replace hSt := hSt.front; dsimp only [zcells, List.nil_append, List.cons_append] at hSt) | refine stepA ?_ | (refine stepS ?_; clear hSt; intro w hSt; dsimp only [spl, List.set] at hSt) | (refine stepB ?_; clear hSt; intro w nb hnb hSt; dsimp only [zcells, List.nil_append, List.cons_append] at hSt) | (refine W_quiet hT (by decide +kernel) hSt ?_; clear hSt; (repeat' (first | (apply QL_ev rfl rfl; (intro w hSt; (first | exact Ev_auto))) | refine QL_pass rfl rfl ?_ | (refine QL_guardP rfl rfl (fun hc => ?_) (fun hc => ?_) <;> try exact absA) | (refine QL_guard rfl rfl (fun hc => ?_) (fun hc => ?_) <;> (try exact absA) <;> (fail_if_success (change true = true at hc)) <;> (fail_if_success (change false = false at hc))))); all_goals (refine QL_nil (fun w hSt => ?_))) | (refine stepG ?_ ?_ <;> intro hc <;> (try exact absA) <;> (fail_if_success (change true = true at hc)) <;> (fail_if_success (change false = false at hc))) | fail)
    all_goals try (exfalso; first | omega | (simp at hc; done) | (exact hc rfl) | contradiction)
    refine W_loop1 (fun m (i : Nat) w => m = c.args.length - i ∧ i ≤ c.args.length ∧ (∀ (j : Nat) (a : Cn), j < i → c.args[j]? = some a → deepF k a = false) ∧ St w0 NoneS [_] w) (fun i => [(5, I (i : Int))]) c.args.length 0 rfl (by (repeat (first | exact Str.nil _ | apply Str.drop rfl | apply Str.keepU rfl | apply Str.keep rfl))) ⟨rfl, Nat.zero_le _, fun j a hj => absurd hj (Nat.not_lt_zero j), hSt⟩ (by (repeat (first | exact Sub.nil _ | refine Sub.cons rfl ?_))) ?_
    clear hSt
    rintro m i w ⟨hm, hi, hno, hSt⟩ K hK
    by_cases hil : i < c.args.length
    · obtain ⟨a, ha⟩ : ∃ a, c.args[i]? = some a := ⟨_, List.getElem?_eq_getElem hil⟩
      obtain ⟨x, hx, hca⟩ := hcs.at ha
      obtain ⟨b1, o1, m1, E1, z1, rfl, hb1, q1, hl1⟩ := hc1 i x hx
      have hcx := hca
      obtain ⟨va, xa, rfl, hsa, _⟩ := hca.cells
      obtain ⟨a2, p2, rfl, _⟩ := hsa.some_ rfl
      rw [← Int.toNat_natCast i] at q1
      have hda := fun (w : World) (kp : Keeps w0 w) => deep_any k a (by omega) (hcx.kept kp)
      cases hd : deepF k a with
      | true =>
        rw [hd] at hda
        rw [show c.args.any (deepF k) = true from List.any_eq_true.2 ⟨a, List.mem_of_getElem? ha, hd⟩]
        repeat' (first | (apply WL_ev rfl rfl; exact Ev_loadN hT rfl rfl (hSt.base hb1 (fun e => e)) q1 rfl) | (apply WL_ev rfl rfl; exact Ev_as (v2 := I (k : Int)) (Ev_sub rfl rfl (by omega)) (congrArg I hk1)) | (refine WL_isCall (f := 70) ?_; refine WL_call (ok_call hT rfl) rfl rfl rfl (hda _ hSt.nil.keeps) ?_; rintro v w2 ⟨rfl, hc2⟩; replace hSt := hSt.call0 hc2; clear hc2) | refine stepA ?_ | (refine stepS ?_; clear hSt; intro w hSt; dsimp only [spl, List.set] at hSt) | (refine stepB ?_; clear hSt; intro w nb hnb hSt; dsimp only [zcells, List.nil_append, List.cons_append] at hSt) | (refine W_quiet hT (by decide +kernel) hSt ?_; clear hSt; (repeat' (first | (apply QL_ev rfl rfl; (intro w hSt; (first | (exact Ev_loadN hT rfl rfl (hSt.base hb1 (fun e => e)) q1 rfl) | (exact Ev_as (v2 := I (k : Int)) (Ev_sub rfl rfl (by omega)) (congrArg I hk1)) | exact Ev_auto))) | refine QL_pass rfl rfl ?_ | (refine QL_guardP rfl rfl (fun hc => ?_) (fun hc => ?_) <;> try exact absA) | (refine QL_guard rfl rfl (fun hc => ?_) (fun hc => ?_) <;> (try exact absA) <;> (fail_if_success (change true = true at hc)) <;> (fail_if_success (change false = false at hc))))); all_goals (refine QL_nil (fun w hSt => ?_))) | (refine stepG ?_ ?_ <;> intro hc <;> (try exact absA) <;> (fail_if_success (change true = true at hc)) <;> (fail_if_success (change false = false at hc))) | fail)
        all_goals try (exfalso; first | omega | (simp at hc; done) | (exact hc rfl) | contradiction)
        all_goals exact ret1 rfl rfl ⟨rfl, hSt.nil⟩
      | false =>
        rw [hd] at hda
        repeat' (first | (apply WL_ev rfl rfl; exact Ev_loadN hT rfl rfl (hSt.base hb1 (fun e => e)) q1 rfl) | (apply WL_ev rfl rfl; exact Ev_as (v2 := I (k : Int)) (Ev_sub rfl rfl (by omega)) (congrArg I hk1)) | (refine WL_isCall (f := 70) ?_; refine WL_call (ok_call hT rfl) rfl rfl rfl (hda _ hSt.nil.keeps) ?_; rintro v w2 ⟨rfl, hc2⟩; replace hSt := hSt.call0 hc2; clear hc2) | refine stepA ?_ | (refine stepS ?_; clear hSt; intro w hSt; dsimp only [spl, List.set] at hSt) | (refine stepB ?_; clear hSt; intro w nb hnb hSt; dsimp only [zcells, List.nil_append, List.cons_append] at hSt) | (refine W_quiet hT (by decide +kernel) hSt ?_; clear hSt; (repeat' (first | (apply QL_ev rfl rfl; (intro w hSt; (first | (exact Ev_loadN hT rfl rfl (hSt.base hb1 (fun e => e)) q1 rfl) | (exact Ev_as (v2 := I (k : Int)) (Ev_sub rfl rfl (by omega)) (congrArg I hk1)) | exact Ev_auto))) | refine QL_pass rfl rfl ?_ | (refine QL_guardP rfl rfl (fun hc => ?_) (fun hc => ?_) <;> try exact absA) | (refine QL_guard rfl rfl (fun hc => ?_) (fun hc => ?_) <;> (try exact absA) <;> (fail_if_success (change true = true at hc)) <;> (fail_if_success (change false = false at hc))))); all_goals (refine QL_nil (fun w hSt => ?_))) | (refine stepG ?_ ?_ <;> intro hc <;> (try exact absA) <;> (fail_if_success (change true = true at hc)) <;> (fail_if_success (change false = false at hc))) | fail)
        all_goals try (exfalso; first | omega | (simp at hc; done) | (exact hc rfl) | contradiction)
        all_goals exact At_loop1 hK (k' := c.args.length - (i + 1)) (i + 1) (by omega) ⟨rfl, hil, fun j b hj hb => by
          rcases Nat.lt_or_ge j i with h1 | h1
          · exact hno j b h1 hb
          · obtain rfl : j = i := by omega
            rw [ha] at hb; injection hb with hb; subst hb; exact hd, hSt⟩ (by (repeat (first | exact Sub.nil _ | refine Sub.cons rfl ?_)))
    · rw [show c.args.any (deepF k) = false from List.any_eq_false.2 (fun a ha => by
        obtain ⟨j, hj⟩ := List.getElem?_of_mem ha
        rw [hno j a (by have := (List.getElem?_eq_some_iff.1 hj).1; omega) hj]; decide)]
      repeat' (first | refine stepA ?_ | (refine stepS ?_; clear hSt; intro w hSt; dsimp only [spl, List.set] at hSt) | (refine stepB ?_; clear hSt; intro w nb hnb hSt; dsimp only [zcells, List.nil_append, List.cons_append] at hSt) | (refine W_quiet hT (by decide +kernel) hSt ?_; clear hSt; (repeat' (first | (apply QL_ev rfl rfl; (intro w hSt; (first | exact Ev_auto))) | refine QL_pass rfl rfl ?_ | (refine QL_guardP rfl rfl (fun hc => ?_) (fun hc => ?_) <;> try exact absA) | (refine QL_guard rfl rfl (fun hc => ?_) (fun hc => ?_) <;> (try exact absA) <;> (fail_if_success (change true = true at hc)) <;> (fail_if_success (change false = false at hc))))); all_goals (refine QL_nil (fun w hSt => ?_))) | (refine stepG ?_ ?_ <;> intro hc <;> (try exact absA) <;> (fail_if_success (change true = true at hc)) <;> (fail_if_success (change false = false at hc))) | fail)
      all_goals try (exfalso; first | omega | (simp at hc; done) | (exact hc rfl) | contradiction)
      all_goals exact ret1 rfl rfl ⟨rfl, hSt.nil⟩
end Go.Proofs.YtknfankadlokhaaGreatDoor
