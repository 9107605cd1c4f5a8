/- Printed conditions, in memory. No conditions. -/
import Derived.Test.YtknfankadlokhaaGreatDoorPua
import Derived.Test.YtknfankadlokhaaGreatDoorPvd
import Derived.Test.YtknfankadlokhaaGreatDoorLcm
import Derived.Test.YtknfankadlokhaaGreatDoorShelf

namespace Go.Proofs.YtknfankadlokhaaGreatDoor
open Go.RowKit
set_option maxRecDepth 4000
set_option linter.unusedVariables false
set_option linter.unusedSimpArgs false
set_option maxHeartbeats 16000000

theorem repl_any {w0 : World} (hV : Mx w0) (s : Tx) (c a b : UInt8) (hl : s.length ≤ 1000000) : Cl Tryz.prog 121 [S s, S [c], S [a, b]] w0 (fun v w' => v = S (repF c [a, b] s) ∧ St w0 NoneS [] w') := by
  obtain ⟨x, E, fz, hm⟩ := hV
  have hm' : w0.cell? ⟨1, 0, none⟩ = some (.int .i64 x) := by rw [cell_of hm]; rfl
  have hcl := count_len (c := c) s
  refine ⟨(Tryz.strings_ReplaceAll ⟨⟨s⟩⟩ ⟨⟨[c]⟩⟩ ⟨⟨[a, b]⟩⟩ x w0 (by show s.length < _; omega) hm' (by show 1 ≤ 1; decide) (by
    show s.length + Lib.count s [c] * 2 ≤ 140737488355328
    omega)).mono ?_⟩
  rintro e w' ⟨rfl, k⟩
  refine ⟨_, rfl, ?_, k.os, k.tape, k.output, k.size, fun i hi _ => k.block i hi, fun i b o h => by simp at h, fun i j b c o u h => by simp at h⟩
  show S (Lib.replaceAll s [c] [a, b]) = _
  rw [replaceAll_rep (by simp)]
theorem escF_len (s : Tx) : (escF s).length ≤ 2 * s.length := by
  induction s with
  | nil => exact Nat.le_refl _
  | cons d s ih =>
    rw [escF_cons, List.length_append, List.length_cons]
    split <;> simp only [List.length_cons, List.length_nil] <;> omega
theorem quotF_len (s : Tx) : (quotF s).length ≤ 2 * s.length + 2 := by
  have := escF_len s
  unfold quotF
  rw [List.length_cons, List.length_append, List.length_singleton]; omega
theorem quoted_any {w0 : World} (hV : Mx w0) (s : Tx) (hl : s.length ≤ 300000) : Cl Tryz.prog 92 [S s] w0 (fun v w' => v = S (quotF s) ∧ St w0 NoneS [] w') := by
  have hSt := St.refl w0 NoneS
  have h1 := rep_len 92 92 92 s
  have h2 := rep_len 34 92 34 (repF 92 [92, 92] s)
  have e := esc_two s
  refine enter Tryz.func92 rfl Tryz.ntmps92 rfl ?_
  repeat' (first | (refine WL_isCall (f := 121) ?_; refine WL_call (ok_call hT rfl) rfl rfl rfl (repl_any (hV.kept hSt.keeps) _ _ _ _ (by omega)) ?_; rintro v w2 ⟨rfl, hc2⟩; replace hSt := hSt.call0 hc2; clear hc2) | (apply WL_ev rfl rfl; exact Ev_str_add rfl rfl (by simp only [List.length_append, List.length_cons, List.length_nil]; omega)) | refine stepA ?_ | (refine stepS ?_; clear hSt; intro w hSt; dsimp only [spl, List.set] at hSt) | (refine stepB ?_; clear hSt; intro w nb hnb hSt; dsimp only [zcells, List.nil_append, List.cons_append] at hSt) | (refine W_quiet hT (by decide +kernel) hSt ?_; clear hSt; (repeat' (first | (apply QL_ev rfl rfl; (intro w hSt; (first | (exact Ev_str_add rfl rfl (by simp only [List.length_append, List.length_cons, List.length_nil]; omega)) | exact Ev_auto))) | refine QL_pass rfl rfl ?_ | (refine QL_guardP rfl rfl (fun hc => ?_) (fun hc => ?_) <;> try exact absA) | (refine QL_guard rfl rfl (fun hc => ?_) (fun hc => ?_) <;> (try exact absA) <;> (fail_if_success (change true = true at hc)) <;> (fail_if_success (change false = false at hc))))); all_goals (refine QL_nil (fun w hSt => ?_))) | (refine stepG ?_ ?_ <;> intro hc <;> (try exact absA) <;> (fail_if_success (change true = true at hc)) <;> (fail_if_success (change false = false at hc))) | fail)
  all_goals try (exfalso; first | omega | (simp at hc; done) | (exact hc rfl) | contradiction)
  all_goals exact ret1 rfl rfl ⟨by rw [e]; rfl, hSt⟩
/-- how long a printed condition is -/
theorem parF_len (y : Bool) (s : Tx) : (parF y s).length ≤ s.length + 2 := by
  unfold parF
  split
  · rw [List.length_cons, List.length_append, List.length_singleton]; omega
  · omega
theorem prt_len : ∀ c : Cn, formC c = true → (prtF c).length + 10 ≤ 500 * 2 ^ levC c := by
  intro c
  induction c using Cn.ind with
  | h op n t ar ih =>
  intro hf
  rw [prtF]
  rcases form_cases hf with ⟨rfl, rfl, rfl, rfl⟩ | ⟨rfl, rfl, hn, ht⟩ | ⟨a, rfl, rfl, rfl, rfl, ha⟩ | ⟨a, b, ho, rfl, rfl, rfl, ha, hb⟩
  · decide
  · have h1 := (nameF_word hn).2.1
    have h2 := quotF_len t
    have h3 := plainF_size ht
    show (n ++ (sEq ++ quotF t)).length + 10 ≤ 500 * 2 ^ 1
    unfold sEq
    simp only [List.length_append, List.length_cons, List.length_nil]; omega
  · have h1 := ih a (List.mem_cons_self ..) ha
    have h2 := parF_len (decide (a.op = 5 ∨ a.op = 4)) (prtF a)
    have e : levC (.mk 3 [] [] [a]) = levC a + 1 := by simp only [levC, levCs]; omega
    rw [e, Nat.pow_succ]
    show (33 :: parF (decide (a.op = 5 ∨ a.op = 4)) (prtF a)).length + 10 ≤ _
    have h3 : 1 ≤ 2 ^ levC a := Nat.one_le_two_pow
    rw [List.length_cons]; omega
  · have h1 := ih a (List.mem_cons_self ..) ha
    have h2 := ih b (List.mem_cons_of_mem _ (List.mem_cons_self ..)) hb
    have e : levC (.mk op [] [] [a, b]) = max (levC a) (levC b) + 1 := by simp only [levC, levCs]; omega
    have ha2 : 2 ^ levC a ≤ 2 ^ max (levC a) (levC b) := Nat.pow_le_pow_right (by decide) (by omega)
    have hb2 : 2 ^ levC b ≤ 2 ^ max (levC a) (levC b) := Nat.pow_le_pow_right (by decide) (by omega)
    rw [e, Nat.pow_succ]
    rcases ho with rfl | rfl
    · have h3 := parF_len (decide (a.op = 5)) (prtF a)
      have h4 := parF_len (decide (b.op = 5 ∨ b.op = 4)) (prtF b)
      show (parF (decide (a.op = 5)) (prtF a) ++ (sAnd ++ parF (decide (b.op = 5 ∨ b.op = 4)) (prtF b))).length + 10 ≤ _
      unfold sAnd
      simp only [List.length_append, List.length_cons, List.length_nil]; omega
    · have h4 := parF_len (decide (b.op = 5)) (prtF b)
      show (prtF a ++ (sOr ++ parF (decide (b.op = 5)) (prtF b))).length + 10 ≤ _
      unfold sOr
      simp only [List.length_append, List.length_cons, List.length_nil]; omega
theorem prt_small {c : Cn} (hf : formC c = true) (h : levC c ≤ 20) : (prtF c).length ≤ 600000000 := by
  have h1 := prt_len c hf
  have h2 : 2 ^ levC c ≤ 2 ^ 20 := Nat.pow_le_pow_right (by decide) h
  omega
def PrC (c : Cn) : Prop := ∀ (w0 : World) (cs : List Value), Mx w0 → CondAt w0 c cs → Cl Tryz.prog 50 [.agg ⟨cs⟩] w0 (fun v w' => v = S (prtF c) ∧ St w0 NoneS [] w')
theorem encl_of {c : Cn} (hp : PrC c) (hl : (prtF c).length ≤ 600000000) {w0 : World} {x0 x1 x2 x3 : Value} (hV : Mx w0) (h : CondAt w0 c [x0, x1, x2, x3]) (y : Bool) : Cl Tryz.prog 93 [.agg ⟨[x0, x1, x2, x3]⟩, .bool y] w0 (fun v w' => v = S (parF y (prtF c)) ∧ St w0 NoneS [] w') := by
  have hSt := St.refl w0 NoneS
  unfold parF
  refine enter Tryz.func93 rfl Tryz.ntmps93 rfl ?_
  cases y with
  | true =>
    repeat' (first | (refine WL_box rfl rfl rfl hSt ?_; clear hSt; intro w nb hnb hSt; replace hSt := hSt.front; dsimp only [zcells, List.nil_append, List.cons_append] at hSt) | (refine WL_isCall (f := 50) ?_; refine WL_call (ok_call hT rfl) rfl rfl rfl (hp _ _ (hV.kept hSt.nil.keeps) (h.kept hSt.nil.keeps)) ?_; rintro v w2 ⟨rfl, hc2⟩; replace hSt := hSt.call0 hc2; clear hc2) | (apply WL_ev rfl rfl; exact Ev_str_add rfl rfl (by simp only [List.length_append, List.length_cons, List.length_nil]; omega)) | refine stepA ?_ | (refine stepS ?_; clear hSt; intro w hSt; dsimp only [spl, List.set] at hSt) | (refine stepB ?_; clear hSt; intro w nb hnb hSt; dsimp only [zcells, List.nil_append, List.cons_append] at hSt) | (refine W_quiet hT (by decide +kernel) hSt ?_; clear hSt; (repeat' (first | (apply QL_ev rfl rfl; (intro w hSt; (first | (exact Ev_str_add rfl rfl (by simp only [List.length_append, List.length_cons, List.length_nil]; omega)) | exact Ev_auto))) | refine QL_pass rfl rfl ?_ | (refine QL_guardP rfl rfl (fun hc => ?_) (fun hc => ?_) <;> try exact absA) | (refine QL_guard rfl rfl (fun hc => ?_) (fun hc => ?_) <;> (try exact absA) <;> (fail_if_success (change true = true at hc)) <;> (fail_if_success (change false = false at hc))))); all_goals (refine QL_nil (fun w hSt => ?_))) | (refine stepG ?_ ?_ <;> intro hc <;> (try exact absA) <;> (fail_if_success (change true = true at hc)) <;> (fail_if_success (change false = false at hc))) | fail)
    all_goals try (exfalso; first | omega | (simp at hc; done) | (exact hc rfl) | contradiction)
    all_goals exact ret1 rfl rfl ⟨rfl, hSt.nil⟩
  | false =>
    repeat' (first | (refine WL_box rfl rfl rfl hSt ?_; clear hSt; intro w nb hnb hSt; replace hSt := hSt.front; dsimp only [zcells, List.nil_append, List.cons_append] at hSt) | (refine WL_isCall (f := 50) ?_; refine WL_call (ok_call hT rfl) rfl rfl rfl (hp _ _ (hV.kept hSt.nil.keeps) (h.kept hSt.nil.keeps)) ?_; rintro v w2 ⟨rfl, hc2⟩; replace hSt := hSt.call0 hc2; clear hc2) | (apply WL_ev rfl rfl; exact Ev_str_add rfl rfl (by simp only [List.length_append, List.length_cons, List.length_nil]; omega)) | refine stepA ?_ | (refine stepS ?_; clear hSt; intro w hSt; dsimp only [spl, List.set] at hSt) | (refine stepB ?_; clear hSt; intro w nb hnb hSt; dsimp only [zcells, List.nil_append, List.cons_append] at hSt) | (refine W_quiet hT (by decide +kernel) hSt ?_; clear hSt; (repeat' (first | (apply QL_ev rfl rfl; (intro w hSt; (first | (exact Ev_str_add rfl rfl (by simp only [List.length_append, List.length_cons, List.length_nil]; omega)) | exact Ev_auto))) | refine QL_pass rfl rfl ?_ | (refine QL_guardP rfl rfl (fun hc => ?_) (fun hc => ?_) <;> try exact absA) | (refine QL_guard rfl rfl (fun hc => ?_) (fun hc => ?_) <;> (try exact absA) <;> (fail_if_success (change true = true at hc)) <;> (fail_if_success (change false = false at hc))))); all_goals (refine QL_nil (fun w hSt => ?_))) | (refine stepG ?_ ?_ <;> intro hc <;> (try exact absA) <;> (fail_if_success (change true = true at hc)) <;> (fail_if_success (change false = false at hc))) | fail)
    all_goals try (exfalso; first | omega | (simp at hc; done) | (exact hc rfl) | contradiction)
    all_goals exact ret1 rfl rfl ⟨rfl, hSt.nil⟩
theorem printed_any : ∀ c : Cn, formC c = true → levC c ≤ 20 → PrC c := by
  intro c
  induction c using Cn.ind with
  | h op n t ar ih =>
  intro hf hlev w0 cs hV h
  obtain ⟨v0, xs, rfl, hs, hcs, htl, hal⟩ := h.cells
  dsimp only [Cn.op, Cn.name, Cn.text, Cn.args] at *
  have hSt := St.refl w0 NoneS
  obtain ⟨a1, p1, rfl, hc1⟩ := hs.some_ hcs.len
  have hsm := prt_small hf hlev
  rw [prtF] at hsm ⊢
  rcases form_cases hf with ⟨rfl, rfl, rfl, rfl⟩ | ⟨rfl, rfl, hn, ht⟩ | ⟨a, rfl, rfl, rfl, rfl, ha⟩ | ⟨a, b, ho, rfl, rfl, rfl, ha, hb⟩
  · refine enter Tryz.func50 rfl Tryz.ntmps50 rfl ?_
    repeat' (first | (refine WL_box rfl rfl rfl hSt ?_; clear hSt; intro w nb hnb hSt; replace hSt := hSt.front; dsimp only [zcells, List.nil_append, List.cons_append] at hSt) | refine stepA ?_ | (refine stepS ?_; clear hSt; intro w hSt; dsimp only [spl, List.set] at hSt) | (refine stepB ?_; clear hSt; intro w nb hnb hSt; dsimp only [zcells, List.nil_append, List.cons_append] at hSt) | (refine W_quiet hT (by decide +kernel) hSt ?_; clear hSt; (repeat' (first | (apply QL_ev rfl rfl; (intro w hSt; (first | exact Ev_auto))) | refine QL_pass rfl rfl ?_ | (refine QL_guardP rfl rfl (fun hc => ?_) (fun hc => ?_) <;> try exact absA) | (refine QL_guard rfl rfl (fun hc => ?_) (fun hc => ?_) <;> (try exact absA) <;> (fail_if_success (change true = true at hc)) <;> (fail_if_success (change false = false at hc))))); all_goals (refine QL_nil (fun w hSt => ?_))) | (refine stepG ?_ ?_ <;> intro hc <;> (try exact absA) <;> (fail_if_success (change true = true at hc)) <;> (fail_if_success (change false = false at hc))) | fail)
    all_goals try (exfalso; first | omega | (simp at hc; done) | (exact hc rfl) | contradiction)
    all_goals exact ret1 rfl rfl ⟨rfl, hSt.nil⟩
  · have h1 := (nameF_word hn).2.1
    have h2 := quotF_len t
    have h3 := plainF_size ht
    have hse : ([32, 61, 32] : Tx).length = 3 := rfl
    refine enter Tryz.func50 rfl Tryz.ntmps50 rfl ?_
    repeat' (first | (refine WL_box rfl rfl rfl hSt ?_; clear hSt; intro w nb hnb hSt; replace hSt := hSt.front; dsimp only [zcells, List.nil_append, List.cons_append] at hSt) | (apply WL_ev rfl rfl; exact Ev_str_add rfl rfl (by simp only [List.length_append, List.length_cons, List.length_nil]; omega)) | refine stepA ?_ | (refine stepS ?_; clear hSt; intro w hSt; dsimp only [spl, List.set] at hSt) | (refine stepB ?_; clear hSt; intro w nb hnb hSt; dsimp only [zcells, List.nil_append, List.cons_append] at hSt) | (refine W_quiet hT (by decide +kernel) hSt ?_; clear hSt; (repeat' (first | (refine QL_isCall (f := 92) ?_; refine QL_call (ok_call hT rfl) rfl rfl rfl (fun w hSt => (quoted_any (hV.kept hSt.nil.keeps) t (by omega)).mono (fun v w2 h => ⟨h.1, hSt.call0 h.2⟩)) ?_) | (apply QL_ev rfl rfl; (intro w hSt; (first | (exact Ev_str_add rfl rfl (by simp only [List.length_append, List.length_cons, List.length_nil]; omega)) | exact Ev_auto))) | refine QL_pass rfl rfl ?_ | (refine QL_guardP rfl rfl (fun hc => ?_) (fun hc => ?_) <;> try exact absA) | (refine QL_guard rfl rfl (fun hc => ?_) (fun hc => ?_) <;> (try exact absA) <;> (fail_if_success (change true = true at hc)) <;> (fail_if_success (change false = false at hc))))); all_goals (refine QL_nil (fun w hSt => ?_))) | (refine stepG ?_ ?_ <;> intro hc <;> (try exact absA) <;> (fail_if_success (change true = true at hc)) <;> (fail_if_success (change false = false at hc))) | fail)
    all_goals try (exfalso; first | omega | (simp at hc; done) | (exact hc rfl) | contradiction)
    all_goals exact ret1 rfl rfl ⟨congrArg S (by show _ = n ++ (sEq ++ quotF t); rw [← List.append_assoc]; rfl), hSt.nil⟩
  · have hla : levC a ≤ 20 := by simp only [levC, levCs] at hlev; omega
    have hp := ih a (List.mem_cons_self ..) ha hla
    have hpl := prt_small ha hla
    obtain ⟨x, hx, hca⟩ := hcs.at (i := 0) (a := a) rfl
    obtain ⟨b1, o1, m1, E1, z1, rfl, hb1, q1, hl1⟩ := hc1 0 x hx
    have hcx := hca
    obtain ⟨va, xa, rfl, hsa, _⟩ := hca.cells
    obtain ⟨a2, p2, rfl, _⟩ := hsa.some_ rfl
    have k0 := SlAt.cell q1 (j := 0) rfl
    have henc := fun (w : World) (k : Keeps w0 w) (y : Bool) => encl_of hp hpl (hV.kept k) (hcx.kept k) y
    have hl3 := fun y => parF_len y (prtF a)
    have hl4 := hl3 true
    have hars : ([a] : List Cn).length = 1 := rfl
    have hl5 := hl3 (decide (a.op = 4))
    refine enter Tryz.func50 rfl Tryz.ntmps50 rfl ?_
    by_cases h5 : a.op = 5
    · rw [prtL, show prtO 3 [] [] ((a.op, prtF a) :: prtL []) = 33 :: parF true (prtF a) by show 33 :: parF (decide (a.op = 5 ∨ a.op = 4)) _ = _; rw [decide_eq_true (Or.inl h5)]; rfl]
      repeat' (first | (refine WL_box rfl rfl rfl hSt ?_; clear hSt; intro w nb hnb hSt; replace hSt := hSt.front; dsimp only [zcells, List.nil_append, List.cons_append] at hSt) | (apply WL_ev rfl rfl; exact Ev_loadN hT rfl rfl (hSt.base hb1 (fun e => e)) q1 rfl) | (apply WL_ev rfl rfl; exact Ev_load1 hT rfl rfl (hSt.base hb1 (fun e => e)) k0) | (apply WL_ev rfl rfl; exact Ev_str_add rfl rfl (by simp only [List.length_append, List.length_cons, List.length_nil]; omega)) | refine stepA ?_ | (refine stepS ?_; clear hSt; intro w hSt; dsimp only [spl, List.set] at hSt) | (refine stepB ?_; clear hSt; intro w nb hnb hSt; dsimp only [zcells, List.nil_append, List.cons_append] at hSt) | (refine W_quiet hT (by decide +kernel) hSt ?_; clear hSt; (repeat' (first | (refine QL_isCall (f := 93) ?_; refine QL_call (ok_call hT rfl) rfl rfl rfl (fun w hSt => (henc w hSt.nil.keeps true).mono (fun v w2 h => ⟨h.1, hSt.call0 h.2⟩)) ?_) | (apply QL_ev rfl rfl; (intro w hSt; (first | (exact Ev_loadN hT rfl rfl (hSt.base hb1 (fun e => e)) q1 rfl) | (exact Ev_load1 hT rfl rfl (hSt.base hb1 (fun e => e)) k0) | (exact Ev_str_add rfl rfl (by simp only [List.length_append, List.length_cons, List.length_nil]; omega)) | exact Ev_auto))) | refine QL_pass rfl rfl ?_ | (refine QL_guardP rfl rfl (fun hc => ?_) (fun hc => ?_) <;> try exact absA) | (refine QL_guard rfl rfl (fun hc => ?_) (fun hc => ?_) <;> (try exact absA) <;> (fail_if_success (change true = true at hc)) <;> (fail_if_success (change false = false at hc))))); all_goals (refine QL_nil (fun w hSt => ?_))) | (refine stepG ?_ ?_ <;> intro hc <;> (try exact absA) <;> (fail_if_success (change true = true at hc)) <;> (fail_if_success (change false = false at hc))) | fail)
      all_goals try (exfalso; first | omega | (simp at hc; done) | (exact hc rfl) | contradiction)
      all_goals exact ret1 rfl rfl ⟨rfl, hSt.nil⟩
    · rw [prtL, show prtO 3 [] [] ((a.op, prtF a) :: prtL []) = 33 :: parF (decide (a.op = 4)) (prtF a) by show 33 :: parF (decide (a.op = 5 ∨ a.op = 4)) _ = _; congr 2; exact decide_eq_decide.2 (by omega)]
      repeat' (first | (refine WL_box rfl rfl rfl hSt ?_; clear hSt; intro w nb hnb hSt; replace hSt := hSt.front; dsimp only [zcells, List.nil_append, List.cons_append] at hSt) | (apply WL_ev rfl rfl; exact Ev_loadN hT rfl rfl (hSt.base hb1 (fun e => e)) q1 rfl) | (apply WL_ev rfl rfl; exact Ev_load1 hT rfl rfl (hSt.base hb1 (fun e => e)) k0) | (apply WL_ev rfl rfl; exact Ev_str_add rfl rfl (by simp only [List.length_append, List.length_cons, List.length_nil]; omega)) | refine stepA ?_ | (refine stepS ?_; clear hSt; intro w hSt; dsimp only [spl, List.set] at hSt) | (refine stepB ?_; clear hSt; intro w nb hnb hSt; dsimp only [zcells, List.nil_append, List.cons_append] at hSt) | (refine W_quiet hT (by decide +kernel) hSt ?_; clear hSt; (repeat' (first | (refine QL_isCall (f := 93) ?_; refine QL_call (ok_call hT rfl) rfl rfl rfl (fun w hSt => (henc w hSt.nil.keeps (decide (a.op = 4))).mono (fun v w2 h => ⟨h.1, hSt.call0 h.2⟩)) ?_) | (apply QL_ev rfl rfl; (intro w hSt; (first | (exact Ev_loadN hT rfl rfl (hSt.base hb1 (fun e => e)) q1 rfl) | (exact Ev_load1 hT rfl rfl (hSt.base hb1 (fun e => e)) k0) | (exact Ev_str_add rfl rfl (by simp only [List.length_append, List.length_cons, List.length_nil]; omega)) | exact Ev_auto))) | refine QL_pass rfl rfl ?_ | (refine QL_guardP rfl rfl (fun hc => ?_) (fun hc => ?_) <;> try exact absA) | (refine QL_guard rfl rfl (fun hc => ?_) (fun hc => ?_) <;> (try exact absA) <;> (fail_if_success (change true = true at hc)) <;> (fail_if_success (change false = false at hc))))); all_goals (refine QL_nil (fun w hSt => ?_))) | (refine stepG ?_ ?_ <;> intro hc <;> (try exact absA) <;> (fail_if_success (change true = true at hc)) <;> (fail_if_success (change false = false at hc))) | fail)
      all_goals try (exfalso; first | omega | (simp at hc; done) | (exact hc rfl) | contradiction)
      all_goals exact ret1 rfl rfl ⟨rfl, hSt.nil⟩
  · have hla : levC a ≤ 20 := by simp only [levC, levCs] at hlev; omega
    have hlb : levC b ≤ 20 := by simp only [levC, levCs] at hlev; omega
    have hp := ih a (List.mem_cons_self ..) ha hla
    have hp2 := ih b (List.mem_cons_of_mem _ (List.mem_cons_self ..)) hb hlb
    have hpl := prt_small ha hla
    have hpl2 := prt_small hb hlb
    obtain ⟨x, hx, hca⟩ := hcs.at (i := 0) (a := a) rfl
    obtain ⟨y, hy, hcb⟩ := hcs.at (i := 1) (a := b) rfl
    obtain ⟨b1, o1, m1, E1, z1, rfl, hb1, q1, hl1⟩ := hc1 0 x hx
    obtain ⟨b2, o2, m2, E2, z2, e9, hb2, q2, hl2⟩ := hc1 1 y hy
    injection e9 with e9
    injection e9 with e1 e2 _
    subst e1 e2
    rw [hb1] at hb2
    injection hb2 with hb2
    injection hb2 with e1 e2 e3
    injection e1 with e1
    subst e1
    have hcx := hca
    have hcy := hcb
    obtain ⟨va, xa, rfl, hsa, _⟩ := hca.cells
    obtain ⟨a2, p2, rfl, _⟩ := hsa.some_ rfl
    obtain ⟨vb, xb, rfl, hsb, _⟩ := hcb.cells
    obtain ⟨a3, p3, rfl, _⟩ := hsb.some_ rfl
    have hea := fun (w : World) (k : Keeps w0 w) (y : Bool) => encl_of hp hpl (hV.kept k) (hcx.kept k) y
    have heb := fun (w : World) (k : Keeps w0 w) (y : Bool) => encl_of hp2 hpl2 (hV.kept k) (hcy.kept k) y
    have hpa := fun (w : World) (k : Keeps w0 w) => hp _ _ (hV.kept k) (hcx.kept k)
    have hl3 := fun y => parF_len y (prtF a)
    have hl4 := fun y => parF_len y (prtF b)
    have l1 := hl3 (decide (a.op = 5))
    have l2 := hl4 true
    have l3 := hl4 (decide (b.op = 4))
    have l4 := hl4 (decide (b.op = 5))
    have hars : ([a, b] : List Cn).length = 2 := rfl
    rcases ho with rfl | rfl
    · have ep : ∀ yb : Bool, decide (b.op = 5 ∨ b.op = 4) = yb → prtO 4 [] [] (prtL [a, b]) = parF (decide (a.op = 5)) (prtF a) ++ [32, 38, 32] ++ parF yb (prtF b) := by
        intro yb hyb
        rw [← hyb, List.append_assoc]; rfl
      refine enter Tryz.func50 rfl Tryz.ntmps50 rfl ?_
      by_cases h5 : b.op = 5
      · rw [ep true (decide_eq_true (Or.inl h5))]
        repeat' (first | (refine WL_box rfl rfl rfl hSt ?_; clear hSt; intro w nb hnb hSt; replace hSt := hSt.front; dsimp only [zcells, List.nil_append, List.cons_append] at hSt) | (refine W_mixN (.op 0 false (.op 1 false (.op 2 false (.op 3 false (.op 4 false (.op 5 false (.op 6 false (.op 7 false (.alt 8 (.op 9 true (.op 10 true .done)) (.op 9 true (.op 8 true (.op 10 true .done)))))))))))) (fun w => w.heap[nb]? = some (blk [I 4, S [], S [], .slice (some ⟨b1, o1, none⟩) ([a, b] : List Cn).length p1] 38) ∧ w.heap[b1]? = some (.cells ⟨m1⟩ E1 z1)) hT (by decide +kernel) hSt ?_; clear hSt; intro w hSt) | (refine MN_alt rfl ?_ ?_) | (refine MN_one rfl ?_) | (refine At_oneN ⟨(by first | exact (hSt.own 0 _ _ rfl).1 | exact (hSt.own 1 _ _ rfl).1), hSt.base hb1 (fun e => e)⟩ ?_) | (refine MN_end ?_; simp only [NTree.depth, List.drop_succ_cons, List.drop_zero]) | (refine MN_ev rfl rfl rfl ⟨(by first | exact (hSt.own 0 _ _ rfl).1 | exact (hSt.own 1 _ _ rfl).1), hSt.base hb1 (fun e => e)⟩ (fun w hw => by first | exact Ev_move rfl | exact Ev_fieldAddr hT rfl rfl | exact Ev_load1 hT rfl rfl hw.1 rfl | exact Ev_indexAddr hT rfl rfl rfl (by omega) (by omega) | exact Ev_loadN hT rfl rfl hw.2 q1 rfl | exact Ev_loadN hT rfl rfl hw.2 q2 rfl) ?_) | (refine WL_alloc (d := 3) hT rfl rfl rfl hSt ?_; clear hSt; intro w b3 hb3 hSt; replace hSt := hSt.front; dsimp only [zcells, List.nil_append, List.cons_append] at hSt) | (refine WL_alloc (d := 4) hT rfl rfl rfl hSt ?_; clear hSt; intro w b4 hb4 hSt; dsimp only [zcells, List.nil_append, List.cons_append] at hSt) | (apply WL_ev rfl rfl; exact Ev_str_add rfl rfl (by simp only [List.length_append, List.length_cons, List.length_nil]; omega)) | refine stepA ?_ | (refine stepS ?_; clear hSt; intro w hSt; dsimp only [spl, List.set] at hSt) | (refine stepB ?_; clear hSt; intro w nb hnb hSt; dsimp only [zcells, List.nil_append, List.cons_append] at hSt) | (refine W_quiet hT (by decide +kernel) hSt ?_; clear hSt; (repeat' (first | (refine QL_isCall (f := 93) ?_; refine QL_call (ok_call hT rfl) rfl rfl rfl (fun w hSt => (hea w hSt.nil.keeps (decide (a.op = 5))).mono (fun v w2 h => ⟨h.1, hSt.call0 h.2⟩)) ?_) | (refine QL_isCall (f := 93) ?_; refine QL_call (ok_call hT rfl) rfl rfl rfl (fun w hSt => (heb w hSt.nil.keeps true).mono (fun v w2 h => ⟨h.1, hSt.call0 h.2⟩)) ?_) | (apply QL_ev rfl rfl; (intro w hSt; (first | (exact Ev_str_add rfl rfl (by simp only [List.length_append, List.length_cons, List.length_nil]; omega)) | exact Ev_auto))) | refine QL_pass rfl rfl ?_ | (refine QL_guardP rfl rfl (fun hc => ?_) (fun hc => ?_) <;> try exact absA) | (refine QL_guard rfl rfl (fun hc => ?_) (fun hc => ?_) <;> (try exact absA) <;> (fail_if_success (change true = true at hc)) <;> (fail_if_success (change false = false at hc))))); all_goals (refine QL_nil (fun w hSt => ?_))) | (refine stepG ?_ ?_ <;> intro hc <;> (try exact absA) <;> (fail_if_success (change true = true at hc)) <;> (fail_if_success (change false = false at hc))) | fail)
        all_goals try (exfalso; first | omega | (simp at hc; done) | (exact hc rfl) | contradiction)
        all_goals exact ret1 rfl rfl ⟨rfl, hSt.nil⟩
      · rw [ep (decide (b.op = 4)) (decide_eq_decide.2 (by omega))]
        repeat' (first | (refine WL_box rfl rfl rfl hSt ?_; clear hSt; intro w nb hnb hSt; replace hSt := hSt.front; dsimp only [zcells, List.nil_append, List.cons_append] at hSt) | (refine W_mixN (.op 0 false (.op 1 false (.op 2 false (.op 3 false (.op 4 false (.op 5 false (.op 6 false (.op 7 false (.alt 8 (.op 9 true (.op 10 true .done)) (.op 9 true (.op 8 true (.op 10 true .done)))))))))))) (fun w => w.heap[nb]? = some (blk [I 4, S [], S [], .slice (some ⟨b1, o1, none⟩) ([a, b] : List Cn).length p1] 38) ∧ w.heap[b1]? = some (.cells ⟨m1⟩ E1 z1)) hT (by decide +kernel) hSt ?_; clear hSt; intro w hSt) | (refine MN_alt rfl ?_ ?_) | (refine MN_one rfl ?_) | (refine At_oneN ⟨(by first | exact (hSt.own 0 _ _ rfl).1 | exact (hSt.own 1 _ _ rfl).1), hSt.base hb1 (fun e => e)⟩ ?_) | (refine MN_end ?_; simp only [NTree.depth, List.drop_succ_cons, List.drop_zero]) | (refine MN_ev rfl rfl rfl ⟨(by first | exact (hSt.own 0 _ _ rfl).1 | exact (hSt.own 1 _ _ rfl).1), hSt.base hb1 (fun e => e)⟩ (fun w hw => by first | exact Ev_move rfl | exact Ev_fieldAddr hT rfl rfl | exact Ev_load1 hT rfl rfl hw.1 rfl | exact Ev_indexAddr hT rfl rfl rfl (by omega) (by omega) | exact Ev_loadN hT rfl rfl hw.2 q1 rfl | exact Ev_loadN hT rfl rfl hw.2 q2 rfl) ?_) | (refine WL_alloc (d := 3) hT rfl rfl rfl hSt ?_; clear hSt; intro w b3 hb3 hSt; replace hSt := hSt.front; dsimp only [zcells, List.nil_append, List.cons_append] at hSt) | (refine WL_alloc (d := 4) hT rfl rfl rfl hSt ?_; clear hSt; intro w b4 hb4 hSt; dsimp only [zcells, List.nil_append, List.cons_append] at hSt) | (apply WL_ev rfl rfl; exact Ev_str_add rfl rfl (by simp only [List.length_append, List.length_cons, List.length_nil]; omega)) | refine stepA ?_ | (refine stepS ?_; clear hSt; intro w hSt; dsimp only [spl, List.set] at hSt) | (refine stepB ?_; clear hSt; intro w nb hnb hSt; dsimp only [zcells, List.nil_append, List.cons_append] at hSt) | (refine W_quiet hT (by decide +kernel) hSt ?_; clear hSt; (repeat' (first | (refine QL_isCall (f := 93) ?_; refine QL_call (ok_call hT rfl) rfl rfl rfl (fun w hSt => (hea w hSt.nil.keeps (decide (a.op = 5))).mono (fun v w2 h => ⟨h.1, hSt.call0 h.2⟩)) ?_) | (refine QL_isCall (f := 93) ?_; refine QL_call (ok_call hT rfl) rfl rfl rfl (fun w hSt => (heb w hSt.nil.keeps (decide (b.op = 4))).mono (fun v w2 h => ⟨h.1, hSt.call0 h.2⟩)) ?_) | (apply QL_ev rfl rfl; (intro w hSt; (first | (exact Ev_str_add rfl rfl (by simp only [List.length_append, List.length_cons, List.length_nil]; omega)) | exact Ev_auto))) | refine QL_pass rfl rfl ?_ | (refine QL_guardP rfl rfl (fun hc => ?_) (fun hc => ?_) <;> try exact absA) | (refine QL_guard rfl rfl (fun hc => ?_) (fun hc => ?_) <;> (try exact absA) <;> (fail_if_success (change true = true at hc)) <;> (fail_if_success (change false = false at hc))))); all_goals (refine QL_nil (fun w hSt => ?_))) | (refine stepG ?_ ?_ <;> intro hc <;> (try exact absA) <;> (fail_if_success (change true = true at hc)) <;> (fail_if_success (change false = false at hc))) | fail)
        all_goals try (exfalso; first | omega | (simp at hc; done) | (exact hc rfl) | contradiction)
        all_goals exact ret1 rfl rfl ⟨rfl, hSt.nil⟩
    · have ep : prtO 5 [] [] (prtL [a, b]) = prtF a ++ [32, 124, 32] ++ parF (decide (b.op = 5)) (prtF b) := by
        rw [List.append_assoc]; rfl
      rw [ep]
      refine enter Tryz.func50 rfl Tryz.ntmps50 rfl ?_
      repeat' (first | (refine WL_box rfl rfl rfl hSt ?_; clear hSt; intro w nb hnb hSt; replace hSt := hSt.front; dsimp only [zcells, List.nil_append, List.cons_append] at hSt) | (refine W_mixN (.op 0 false (.op 1 false (.op 2 false (.op 3 false (.op 4 false (.op 5 false (.op 6 false (.op 7 false (.alt 8 (.op 9 true (.op 10 true .done)) (.op 9 true (.op 8 true (.op 10 true .done)))))))))))) (fun w => w.heap[nb]? = some (blk [I 5, S [], S [], .slice (some ⟨b1, o1, none⟩) ([a, b] : List Cn).length p1] 38) ∧ w.heap[b1]? = some (.cells ⟨m1⟩ E1 z1)) hT (by decide +kernel) hSt ?_; clear hSt; intro w hSt) | (refine MN_alt rfl ?_ ?_) | (refine MN_one rfl ?_) | (refine At_oneN ⟨(by first | exact (hSt.own 0 _ _ rfl).1 | exact (hSt.own 1 _ _ rfl).1), hSt.base hb1 (fun e => e)⟩ ?_) | (refine MN_end ?_; simp only [NTree.depth, List.drop_succ_cons, List.drop_zero]) | (refine MN_ev rfl rfl rfl ⟨(by first | exact (hSt.own 0 _ _ rfl).1 | exact (hSt.own 1 _ _ rfl).1), hSt.base hb1 (fun e => e)⟩ (fun w hw => by first | exact Ev_move rfl | exact Ev_fieldAddr hT rfl rfl | exact Ev_load1 hT rfl rfl hw.1 rfl | exact Ev_indexAddr hT rfl rfl rfl (by omega) (by omega) | exact Ev_loadN hT rfl rfl hw.2 q1 rfl | exact Ev_loadN hT rfl rfl hw.2 q2 rfl) ?_) | (refine WL_alloc (d := 5) hT rfl rfl rfl hSt ?_; clear hSt; intro w b3 hb3 hSt; replace hSt := hSt.front; dsimp only [zcells, List.nil_append, List.cons_append] at hSt) | (refine WL_alloc (d := 6) hT rfl rfl rfl hSt ?_; clear hSt; intro w b4 hb4 hSt; dsimp only [zcells, List.nil_append, List.cons_append] at hSt) | (apply WL_ev rfl rfl; exact Ev_str_add rfl rfl (by simp only [List.length_append, List.length_cons, List.length_nil]; omega)) | refine stepA ?_ | (refine stepS ?_; clear hSt; intro w hSt; dsimp only [spl, List.set] at hSt) | (refine stepB ?_; clear hSt; intro w nb hnb hSt; dsimp only [zcells, List.nil_append, List.cons_append] at hSt) | (refine W_quiet hT (by decide +kernel) hSt ?_; clear hSt; (repeat' (first | (refine QL_isCall (f := 50) ?_; refine QL_call (ok_call hT rfl) rfl rfl rfl (fun w hSt => (hpa w hSt.nil.keeps).mono (fun v w2 h => ⟨h.1, hSt.call0 h.2⟩)) ?_) | (refine QL_isCall (f := 93) ?_; refine QL_call (ok_call hT rfl) rfl rfl rfl (fun w hSt => (heb w hSt.nil.keeps (decide (b.op = 5))).mono (fun v w2 h => ⟨h.1, hSt.call0 h.2⟩)) ?_) | (apply QL_ev rfl rfl; (intro w hSt; (first | (exact Ev_str_add rfl rfl (by simp only [List.length_append, List.length_cons, List.length_nil]; omega)) | exact Ev_auto))) | refine QL_pass rfl rfl ?_ | (refine QL_guardP rfl rfl (fun hc => ?_) (fun hc => ?_) <;> try exact absA) | (refine QL_guard rfl rfl (fun hc => ?_) (fun hc => ?_) <;> (try exact absA) <;> (fail_if_success (change true = true at hc)) <;> (fail_if_success (change false = false at hc))))); all_goals (refine QL_nil (fun w hSt => ?_))) | (refine stepG ?_ ?_ <;> intro hc <;> (try exact absA) <;> (fail_if_success (change true = true at hc)) <;> (fail_if_success (change false = false at hc))) | fail)
      all_goals try (exfalso; first | omega | (simp at hc; done) | (exact hc rfl) | contradiction)
      all_goals exact ret1 rfl rfl ⟨rfl, hSt.nil⟩
end Go.Proofs.YtknfankadlokhaaGreatDoor
