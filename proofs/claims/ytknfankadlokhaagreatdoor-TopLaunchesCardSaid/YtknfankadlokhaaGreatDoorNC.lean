/- Levels and form of conditions. No conditions. -/
import Derived.Test.YtknfankadlokhaaGreatDoorNB
import Derived.Test.YtknfankadlokhaaGreatDoorMD

namespace Go.Proofs.YtknfankadlokhaaGreatDoor
open Go.RowKit
set_option maxRecDepth 4000
set_option linter.unusedVariables false
set_option linter.unusedSimpArgs false
set_option maxHeartbeats 4000000

theorem W_midAtC {P : Program} {n : Fz} {Q : Exit → Act → World → Prop} {L : Fr} {w : World} (N : Nat) {x y c : Code} {ops : Array Oper} {d : Bool} (Mid : Fr → World → Prop) (h : ∀ K : Act → World → Prop, (∀ L' w' a, Mid L' w' → Fits n L' a → K a w') → W P n x (Exit.then K Q) L w) (k : ∀ L' w', Mid L' w' → W P n (.seq (.seq (.region N ops d) c) y) Q L' w') :
    W P n (.seq x (.seq (.seq (.region N ops d) c) y)) Q L w := W_mid Mid h k
theorem levCs_take {ar : List Cn} {i : Nat} {a : Cn} (ha : ar[i]? = some a) : levCs (ar.take (i + 1)) = max (levCs (ar.take i)) (levC a) := by
  rw [List.take_add_one, ha]; exact levCs_snoc _ a
theorem levels_any : ∀ (c : Cn) {w0 : World} {cs : List Value} {left : Int} (h : CondAt w0 c cs) (h0 : 0 ≤ left) (h1 : left ≤ 1000), Cl Tryz.prog 107 [.agg ⟨cs⟩, I left] w0 (fun v w' => v = I (min (levC c : Int) (left + 1)) ∧ St w0 NoneS [] w') := by
  intro c
  induction c using Cn.ind with
  | h op n t ar ih =>
  intro w0 cs left h h0 h1
  obtain ⟨v0, xs, rfl, hs, hcs, htl, hal⟩ := h.cells
  dsimp only [Cn.op, Cn.name, Cn.text, Cn.args] at *
  have hSt := St.refl w0 NoneS
  obtain ⟨a1, p1, rfl, hc1⟩ := hs.some_ hcs.len
  refine enter Tryz.func107 rfl Tryz.ntmps107 rfl ?_
  repeat' (first | refine stepA ?_ | (refine stepS ?_; clear hSt; intro w hSt; dsimp only [spl, List.set] at hSt) | (refine stepB ?_; clear hSt; intro w nb hnb hSt; dsimp only [zcells, List.nil_append, List.cons_append] at hSt) | (refine stepG ?_ ?_ <;> intro hc <;> (try exact absA) <;> (fail_if_success (change true = true at hc)) <;> (fail_if_success (change false = false at hc))) | fail)
  replace hSt := hSt.nil
  refine W_loop2 (fun k (i : Nat) (m : Int) w => k = ar.length - i ∧ i ≤ ar.length ∧ m = min (levCs (ar.take i) : Int) left ∧ St w0 NoneS [] w) (fun i m => [(11, I (i : Int)), (5, I m)]) ar.length 0 0 rfl (by (repeat (first | exact Str.nil _ | apply Str.drop rfl | apply Str.keepU rfl | apply Str.keep rfl))) ⟨rfl, by omega, by simp [levCs]; omega, hSt⟩ (by (repeat (first | exact Sub.nil _ | refine Sub.cons rfl ?_))) ?_
  clear hSt
  rintro k i m w ⟨hk, hi, rfl, hSt⟩ K hK
  by_cases hil : i < ar.length
  · obtain ⟨a, ha⟩ : ∃ a, ar[i]? = some a := ⟨_, List.getElem?_eq_getElem hil⟩
    have ht := levCs_take ha
    obtain ⟨x, hx, hca⟩ := hcs.at ha
    obtain ⟨b1, o1, m1, E1, z1, rfl, hb1, q1, hl1⟩ := hc1 i x hx
    have hcx := hca
    obtain ⟨va, xa, rfl, hsa, _⟩ := hca.cells
    obtain ⟨a2, p2, rfl, _⟩ := hsa.some_ rfl
    rw [← Int.toNat_natCast i] at q1
    repeat' (first | (apply WL_ev rfl rfl; exact Ev_loadN hT rfl rfl (hSt.base hb1 (fun e => e)) q1 rfl) | (refine WL_isCall (f := 107) ?_; refine WL_call (ok_call hT rfl) rfl rfl rfl (ih a (List.mem_of_getElem? ha) (hcx.kept hSt.keeps) (by omega) (by omega)) ?_; rintro v w' ⟨rfl, hc2⟩; replace hSt := hSt.call0 hc2; clear hc2) | refine stepA ?_ | (refine stepS ?_; clear hSt; intro w hSt; dsimp only [spl, List.set] at hSt) | (refine stepB ?_; clear hSt; intro w nb hnb hSt; dsimp only [zcells, List.nil_append, List.cons_append] at hSt) | (refine stepG ?_ ?_ <;> intro hc <;> (try exact absA) <;> (fail_if_success (change true = true at hc)) <;> (fail_if_success (change false = false at hc))) | fail)
    · exact At_loop2 hK (k' := ar.length - (i + 1)) (i + 1) (max (min (levCs (ar.take i) : Int) left) (min (levC a : Int) (left - 1 + 1))) (by omega) ⟨rfl, by omega, by rw [ht]; omega, hSt.nil⟩ (by (repeat (first | exact Sub.nil _ | refine Sub.cons rfl ?_)))
    · exact At_loop2 hK (k' := ar.length - (i + 1)) (i + 1) (min (levCs (ar.take i) : Int) left) (by omega) ⟨rfl, by omega, by rw [ht]; omega, hSt.nil⟩ (by (repeat (first | exact Sub.nil _ | refine Sub.cons rfl ?_)))
  · repeat' (first | refine stepA ?_ | (refine stepS ?_; clear hSt; intro w hSt; dsimp only [spl, List.set] at hSt) | (refine stepB ?_; clear hSt; intro w nb hnb hSt; dsimp only [zcells, List.nil_append, List.cons_append] at hSt) | (refine stepG ?_ ?_ <;> intro hc <;> (try exact absA) <;> (fail_if_success (change true = true at hc)) <;> (fail_if_success (change false = false at hc))) | fail)
    refine ret1 rfl rfl ⟨?_, hSt⟩
    rw [levC, List.take_of_length_le (by omega)]
    congr 1; omega
theorem rlevels_any : ∀ (c : Cn) {w0 : World} {cs : List Value} (h : CondAt w0 c cs) (h0 : levC c ≤ 9223372036854775807), Cl Tryz.prog 68 [.agg ⟨cs⟩] w0 (fun v w' => v = I (levC c : Int) ∧ St w0 NoneS [] w') := by
  intro c
  induction c using Cn.ind with
  | h op n t ar ih =>
  intro w0 cs h h0
  obtain ⟨v0, xs, rfl, hs, hcs, htl, hal⟩ := h.cells
  dsimp only [Cn.op, Cn.name, Cn.text, Cn.args] at *
  have hSt := St.refl w0 NoneS
  obtain ⟨a1, p1, rfl, hc1⟩ := hs.some_ hcs.len
  rw [levC] at h0
  refine enter Tryz.func68 rfl Tryz.ntmps68 rfl ?_
  repeat' (first | refine stepA ?_ | (refine stepS ?_; clear hSt; intro w hSt; dsimp only [spl, List.set] at hSt) | (refine stepB ?_; clear hSt; intro w nb hnb hSt; dsimp only [zcells, List.nil_append, List.cons_append] at hSt) | (refine stepG ?_ ?_ <;> intro hc <;> (try exact absA) <;> (fail_if_success (change true = true at hc)) <;> (fail_if_success (change false = false at hc))) | fail)
  refine W_loop2 (fun k (i : Nat) (m : Int) w => k = ar.length - i ∧ i ≤ ar.length ∧ m = (levCs (ar.take i) : Int) ∧ St w0 NoneS [_] w) (fun i m => [(4, I (i : Int)), (3, I m)]) ar.length 0 0 rfl (by (repeat (first | exact Str.nil _ | apply Str.drop rfl | apply Str.keepU rfl | apply Str.keep rfl))) ⟨rfl, by omega, by simp [levCs], hSt⟩ (by (repeat (first | exact Sub.nil _ | refine Sub.cons rfl ?_))) ?_
  clear hSt
  rintro k i m w ⟨hk, hi, rfl, hSt⟩ K hK
  by_cases hil : i < ar.length
  · obtain ⟨a, ha⟩ : ∃ a, ar[i]? = some a := ⟨_, List.getElem?_eq_getElem hil⟩
    have ht := levCs_take ha
    have hle := levCs_le ar a (List.mem_of_getElem? ha)
    obtain ⟨x, hx, hca⟩ := hcs.at ha
    obtain ⟨b1, o1, m1, E1, z1, rfl, hb1, q1, hl1⟩ := hc1 i x hx
    have hcx := hca
    obtain ⟨va, xa, rfl, hsa, _⟩ := hca.cells
    obtain ⟨a2, p2, rfl, _⟩ := hsa.some_ rfl
    rw [← Int.toNat_natCast i] at q1
    repeat' (first | (apply WL_ev rfl rfl; exact Ev_loadN hT rfl rfl (hSt.base hb1 (fun e => e)) q1 rfl) | (refine WL_isCall (f := 68) ?_; refine WL_call (ok_call hT rfl) rfl rfl rfl (ih a (List.mem_of_getElem? ha) (hcx.kept hSt.keeps) (by omega)) ?_; rintro v w' ⟨rfl, hc2⟩; replace hSt := hSt.call0 hc2; clear hc2) | refine stepA ?_ | (refine stepS ?_; clear hSt; intro w hSt; dsimp only [spl, List.set] at hSt) | (refine stepB ?_; clear hSt; intro w nb hnb hSt; dsimp only [zcells, List.nil_append, List.cons_append] at hSt) | (refine stepG ?_ ?_ <;> intro hc <;> (try exact absA) <;> (fail_if_success (change true = true at hc)) <;> (fail_if_success (change false = false at hc))) | fail)
    exact At_loop2 hK (k' := ar.length - (i + 1)) (i + 1) (max (levCs (ar.take i) : Int) (levC a : Int)) (by omega) ⟨rfl, by omega, by rw [ht]; omega, hSt⟩ (by (repeat (first | exact Sub.nil _ | refine Sub.cons rfl ?_)))
  · have hte : ar.take i = ar := List.take_of_length_le (by omega)
    rw [hte]
    repeat' (first | refine stepA ?_ | (refine stepS ?_; clear hSt; intro w hSt; dsimp only [spl, List.set] at hSt) | (refine stepB ?_; clear hSt; intro w nb hnb hSt; dsimp only [zcells, List.nil_append, List.cons_append] at hSt) | (refine stepG ?_ ?_ <;> intro hc <;> (try exact absA) <;> (fail_if_success (change true = true at hc)) <;> (fail_if_success (change false = false at hc))) | fail)
    exact ret1 rfl rfl ⟨by rw [levC]; rfl, hSt.nil⟩
theorem any_form (ar : List Cn) : (!(ar.any fun a => !formC a)) = formCs ar := by
  rw [formCs_all]
  induction ar with
  | nil => rfl
  | cons a ar ih => rw [List.any_cons, List.all_cons, ← ih]; cases formC a <;> simp
theorem kind2 {op : Int} {n t : Tx} {ar : List Cn} (h : op = 2) : formC (.mk op n t ar) = (decide (ar.length = 0) && (nameF n && plainF t)) := by
  rw [formC, kindF, if_pos h]
  by_cases ha : ar.length = 0
  · have : ar = [] := List.length_eq_zero_iff.1 ha
    subst this; simp [formCs]
  · rw [decide_eq_false ha]; simp
theorem kindK {op : Int} {n t : Tx} {ar : List Cn} {k : Nat} (h : op = 1 ∧ k = 0 ∨ op = 3 ∧ k = 1 ∨ (op = 4 ∨ op = 5) ∧ k = 2) : formC (.mk op n t ar) = (decide (ar.length = k) && (decide (n = []) && (decide (t = []) && formCs ar))) := by
  rw [formC, kindF, if_neg (by omega)]
  by_cases ha : ar.length = k
  · rw [decide_eq_true (by omega), decide_eq_true ha]
    by_cases hn : n = [] <;> by_cases ht : t = [] <;> simp [hn, ht]
  · rw [decide_eq_false ha, decide_eq_false (by omega)]; simp
theorem kindN {op : Int} {n t : Tx} {ar : List Cn} (h : op ≠ 1 ∧ op ≠ 2 ∧ op ≠ 3 ∧ op ≠ 4 ∧ op ≠ 5) : formC (.mk op n t ar) = false := by
  rw [formC, kindF, if_neg h.2.1, decide_eq_false (by omega)]; simp
theorem formL {op : Int} {n t : Tx} {ar : List Cn} {k : Nat} (h : op = 1 ∧ k = 0 ∨ (op = 2 ∧ k = 0 ∧ nameF n = true ∧ plainF t = true) ∨ op = 3 ∧ k = 1 ∨ (op = 4 ∨ op = 5) ∧ k = 2) : formC (.mk op n t ar) = (decide (ar.length = k) && (decide (op = 2 ∨ n = [] ∧ t = []) && formCs ar)) := by
  by_cases h2 : op = 2
  · obtain ⟨_, rfl, hn, ht⟩ : op = 2 ∧ k = 0 ∧ nameF n = true ∧ plainF t = true := by
      rcases h with h | h | h | h
      · omega
      · exact h
      · omega
      · omega
    rw [kind2 h2, hn, ht]
    by_cases ha : ar.length = 0
    · have : ar = [] := List.length_eq_zero_iff.1 ha
      subst this; simp [formCs, h2]
    · simp [ha]
  · rw [kindK (k := k) (by omega)]
    by_cases hn : n = [] <;> by_cases ht : t = [] <;> simp [hn, ht, h2]
theorem form1_any {w0 : World} {c : Cn} {cs : List Value} (h : CondAt w0 c cs) (hf : ∀ {w1 : World}, CondAt w1 c cs → Cl Tryz.prog 108 [.agg ⟨cs⟩] w1 (fun v w' => v = B (formC c) ∧ St w1 NoneS [] w')) :
    Cl Tryz.prog 133 [.agg ⟨cs⟩] w0 (fun v w' => v = B (!formC c) ∧ St w0 NoneS [] w') := by
  obtain ⟨v0, xs, rfl, _⟩ := h.cells
  have hSt := St.refl w0 NoneS
  refine enter Tryz.func133 rfl Tryz.ntmps133 rfl ?_
  repeat' (first | (refine WL_isCall (f := 108) ?_; refine WL_call (ok_call hT rfl) rfl rfl rfl (hf (h.kept hSt.keeps)) ?_; rintro v w' ⟨rfl, hc2⟩; replace hSt := hSt.call0 hc2; clear hc2) | refine stepA ?_ | (refine stepS ?_; clear hSt; intro w hSt; dsimp only [spl, List.set] at hSt) | (refine stepB ?_; clear hSt; intro w nb hnb hSt; dsimp only [zcells, List.nil_append, List.cons_append] at hSt) | (refine stepG ?_ ?_ <;> intro hc <;> (try exact absA) <;> (fail_if_success (change true = true at hc)) <;> (fail_if_success (change false = false at hc))) | fail)
  exact ret1 rfl rfl ⟨rfl, hSt.nil⟩
theorem formed_any : ∀ (c : Cn) {w0 : World} {cs : List Value} (h : CondAt w0 c cs), Cl Tryz.prog 108 [.agg ⟨cs⟩] w0 (fun v w' => v = B (formC c) ∧ St w0 NoneS [] w') := by
  intro c
  induction c using Cn.ind with
  | h op n t ar ih =>
  intro w0 cs h
  obtain ⟨v0, xs, rfl, hs, hcs, htl, hal⟩ := h.cells
  dsimp only [Cn.op, Cn.name, Cn.text, Cn.args] at *
  have hSt := St.refl w0 NoneS
  obtain ⟨a1, p1, rfl, hc1⟩ := hs.some_ hcs.len
  have haf := any_form ar
  have hcon : ∀ {w1 : World}, St w0 NoneS [] w1 → Cl Tryz.prog 132 [.slice a1 ar.length p1, .func (.func 133) ⟨[]⟩ ⟨[]⟩] w1 (fun v w' => v = B (ar.any fun a => !formC a) ∧ St w1 NoneS [] w') := fun {w1} k1 =>
    conC_any (l := ar) (fun a => !formC a) (hs.kept k1.keeps) hcs.len (by omega) (ok_call hT rfl) (fun w k i x a hx ha => by
      obtain ⟨y, hy, hca⟩ := hcs.at ha
      rw [hx] at hy; injection hy with hy; subst hy
      exact form1_any (hca.kept (k1.call0 k).keeps) (fun {w1} h1 => ih a (List.mem_of_getElem? ha) h1))
  refine enter Tryz.func108 rfl Tryz.ntmps108 rfl ?_
  repeat' (first | (refine WL_isCall (f := 61) ?_; refine WL_call (ok_call hT rfl) rfl rfl rfl (name_any _) ?_; rintro v w' ⟨rfl, hc2⟩; replace hSt := hSt.call0 hc2; clear hc2) | (refine WL_isCall (f := 86) ?_; refine WL_call (ok_call hT rfl) rfl rfl rfl (plain_any _) ?_; rintro v w' ⟨rfl, hc2⟩; replace hSt := hSt.call0 hc2; clear hc2) | (refine WL_isCall (f := 132) ?_; refine WL_call (ok_call hT rfl) rfl rfl rfl (hcon hSt.nil) ?_; rintro v w' ⟨rfl, hc2⟩; replace hSt := hSt.call0 hc2; clear hc2) | refine stepA ?_ | (refine stepS ?_; clear hSt; intro w hSt; dsimp only [spl, List.set] at hSt) | (refine stepB ?_; clear hSt; intro w nb hnb hSt; dsimp only [zcells, List.nil_append, List.cons_append] at hSt) | (refine stepG ?_ ?_ <;> intro hc <;> (try exact absA) <;> (fail_if_success (change true = true at hc)) <;> (fail_if_success (change false = false at hc))) | fail)
  all_goals refine ret1 rfl rfl ⟨congrArg B ?_, hSt.nil⟩
  all_goals first
    | (rw [kindN (by omega)]; done)
    | (rw [kind2 (by omega)]; simp_all; done)
    | (rw [kindK (k := 0) (by omega)]; simp_all; done)
    | (rw [kindK (k := 1) (by omega)]; simp_all; done)
    | (rw [kindK (k := 2) (by omega)]; simp_all; done)
    | (rw [kindK (k := 0) (by omega)]; simp_all; omega)
    | (rw [kindK (k := 1) (by omega)]; simp_all; omega)
    | (rw [kindK (k := 2) (by omega)]; simp_all; omega)
    | (rw [kind2 (by omega)]; simp_all; omega)
theorem rformed_any : ∀ (c : Cn) {w0 : World} {cs : List Value} (h : CondAt w0 c cs), Cl Tryz.prog 129 [.agg ⟨cs⟩] w0 (fun v w' => v = B (formC c) ∧ St w0 NoneS [] w') := by
  intro c
  induction c using Cn.ind with
  | h op n t ar ih =>
  intro w0 cs h
  obtain ⟨v0, xs, rfl, hs, hcs, htl, hal⟩ := h.cells
  dsimp only [Cn.op, Cn.name, Cn.text, Cn.args] at *
  have hSt := St.refl w0 NoneS
  obtain ⟨a1, p1, rfl, hc1⟩ := hs.some_ hcs.len
  refine enter Tryz.func129 rfl Tryz.ntmps129 rfl ?_
  repeat' (first | (refine W_midAtL 13 (fun L' w' => ∃ k : Nat, (op = 1 ∧ k = 0 ∨ (op = 2 ∧ k = 0 ∧ nameF n = true ∧ plainF t = true) ∨ op = 3 ∧ k = 1 ∨ (op = 4 ∨ op = 5) ∧ k = 2) ∧ St w0 NoneS [(nb, blk [I op, S n, S t, .slice a1 ar.length p1] 38)] w' ∧ L' = [(1, Ptr nb), (3, I (k : Int))]) (fun K2 hK2 => ?_) (fun L' w' hm => ?_); rotate_left 1; (obtain ⟨k, hk, hSt, rfl⟩ := hm)) | (refine W_midAtC 13 (fun L' w' => ∃ k : Nat, (op = 1 ∧ k = 0 ∨ (op = 2 ∧ k = 0 ∧ nameF n = true ∧ plainF t = true) ∨ op = 3 ∧ k = 1 ∨ (op = 4 ∨ op = 5) ∧ k = 2) ∧ St w0 NoneS [(nb, blk [I op, S n, S t, .slice a1 ar.length p1] 38)] w' ∧ L' = [(1, Ptr nb), (3, I (k : Int))]) (fun K2 hK2 => ?_) (fun L' w' hm => ?_); rotate_left 1; (obtain ⟨k, hk, hSt, rfl⟩ := hm)) | (refine WL_isCall (f := 127) ?_; refine WL_call (ok_call hT rfl) rfl rfl rfl (rname_any _) ?_; rintro v w' ⟨rfl, hc2⟩; replace hSt := hSt.call0 hc2; clear hc2) | (refine WL_isCall (f := 130) ?_; refine WL_call (ok_call hT rfl) rfl rfl rfl (rplain_any _ (by omega)) ?_; rintro v w' ⟨rfl, hc2⟩; replace hSt := hSt.call0 hc2; clear hc2) | refine stepA ?_ | (refine stepS ?_; clear hSt; intro w hSt; dsimp only [spl, List.set] at hSt) | (refine stepB ?_; clear hSt; intro w nb hnb hSt; dsimp only [zcells, List.nil_append, List.cons_append] at hSt) | (refine stepG ?_ ?_ <;> intro hc <;> (try exact absA) <;> (fail_if_success (change true = true at hc)) <;> (fail_if_success (change false = false at hc))) | fail)
  all_goals try first
    | exact At_K hK2 ⟨0, by omega, hSt, rfl⟩ (by (repeat (first | exact Sub.nil _ | refine Sub.cons rfl ?_)))
    | exact At_K hK2 ⟨1, by omega, hSt, rfl⟩ (by (repeat (first | exact Sub.nil _ | refine Sub.cons rfl ?_)))
    | exact At_K hK2 ⟨2, by omega, hSt, rfl⟩ (by (repeat (first | exact Sub.nil _ | refine Sub.cons rfl ?_)))
    | exact At_K hK2 ⟨0, .inr (.inl ⟨by omega, rfl, by simp_all, by simp_all⟩), hSt, rfl⟩ (by (repeat (first | exact Sub.nil _ | refine Sub.cons rfl ?_)))
    | (refine ret1 rfl rfl ⟨congrArg B ?_, hSt.nil⟩; rw [kindN (by omega)]; done)
    | (refine ret1 rfl rfl ⟨congrArg B ?_, hSt.nil⟩; rw [formL hk, decide_eq_false (p := ar.length = k) (by omega)]; rfl)
    | (refine ret1 rfl rfl ⟨congrArg B ?_, hSt.nil⟩; rw [formL hk]; clear hk ih h hs hcs hc1; simp_all; done)
    | (refine ret1 rfl rfl ⟨congrArg B ?_, hSt.nil⟩; rw [kind2 (by omega)]; clear ih h hs hcs hc1; simp_all; done)
  all_goals
    have hok : formC (.mk op n t ar) = formCs ar := by
      rw [formL hk, decide_eq_true (p := ar.length = k) (by omega), Bool.true_and]
      clear hk ih h hs hcs hc1
      simp_all
    refine W_loop1 (fun k2 (i : Nat) w => k2 = ar.length - i ∧ i ≤ ar.length ∧ (∀ (j : Nat) (a : Cn), j < i → ar[j]? = some a → formC a = true) ∧ St w0 NoneS [(nb, blk [I op, S n, S t, .slice a1 ar.length p1] 38)] w) (fun i => [(4, I (i : Int))]) ar.length 0 rfl (by (repeat (first | exact Str.nil _ | apply Str.drop rfl | apply Str.keepU rfl | apply Str.keep rfl))) ⟨rfl, by omega, by intro j a hj; omega, hSt⟩ (by (repeat (first | exact Sub.nil _ | refine Sub.cons rfl ?_))) ?_
    clear hSt
    rintro k2 i w ⟨hk2, hi, hno, hSt⟩ K hK
    by_cases hil : i < ar.length
    · obtain ⟨a, ha⟩ : ∃ a, ar[i]? = some a := ⟨_, List.getElem?_eq_getElem hil⟩
      obtain ⟨x, hx, hca⟩ := hcs.at ha
      obtain ⟨b1, o1, m1, E1, z1, rfl, hb1, q1, hl1⟩ := hc1 i x hx
      have hcx := hca
      obtain ⟨va, xa, rfl, hsa, _⟩ := hca.cells
      obtain ⟨a2, p2, rfl, _⟩ := hsa.some_ rfl
      rw [← Int.toNat_natCast i] at q1
      repeat' (first | (apply WL_ev rfl rfl; exact Ev_loadN hT rfl rfl (hSt.base hb1 (fun e => e)) q1 rfl) | (refine WL_isCall (f := 129) ?_; refine WL_call (ok_call hT rfl) rfl rfl rfl (ih a (List.mem_of_getElem? ha) (hcx.kept hSt.keeps)) ?_; rintro v w' ⟨rfl, hc2⟩; replace hSt := hSt.call0 hc2; clear hc2) | refine stepA ?_ | (refine stepS ?_; clear hSt; intro w hSt; dsimp only [spl, List.set] at hSt) | (refine stepB ?_; clear hSt; intro w nb hnb hSt; dsimp only [zcells, List.nil_append, List.cons_append] at hSt) | (refine stepG ?_ ?_ <;> intro hc <;> (try exact absA) <;> (fail_if_success (change true = true at hc)) <;> (fail_if_success (change false = false at hc))) | fail)
      all_goals first
        | (refine ret1 rfl rfl ⟨congrArg B ?_, hSt.nil⟩; rw [hok, formCs_all]; exact (all_no ha (by simpa using hc)).symm)
        | exact At_loop1 hK (k' := ar.length - (i + 1)) (i + 1) (by omega) ⟨rfl, by omega, pno_snoc (p := fun a => formC a = true) hno ha (by simpa using hc), hSt⟩ (by (repeat (first | exact Sub.nil _ | refine Sub.cons rfl ?_)))
    · repeat' (first | refine stepA ?_ | (refine stepS ?_; clear hSt; intro w hSt; dsimp only [spl, List.set] at hSt) | (refine stepB ?_; clear hSt; intro w nb hnb hSt; dsimp only [zcells, List.nil_append, List.cons_append] at hSt) | (refine stepG ?_ ?_ <;> intro hc <;> (try exact absA) <;> (fail_if_success (change true = true at hc)) <;> (fail_if_success (change false = false at hc))) | fail)
      refine ret1 rfl rfl ⟨congrArg B ?_, hSt.nil⟩
      rw [hok, formCs_all]
      exact (all_at (fun j a hj ha => hno j a (by omega) ha)).symm
theorem condition_any {w0 : World} {c : Cn} {cs : List Value} (h : CondAt w0 c cs) : Cl Tryz.prog 62 [.agg ⟨cs⟩] w0 (fun v w' => v = I (condF c) ∧ St w0 NoneS [] w') := by
  have hcx := h
  obtain ⟨v0, xs, rfl, _⟩ := h.cells
  have hSt := St.refl w0 NoneS
  refine enter Tryz.func62 rfl Tryz.ntmps62 rfl ?_
  repeat' (first | (refine WL_isCall (f := 107) ?_; refine WL_call (ok_call hT rfl) rfl rfl rfl (levels_any c (hcx.kept hSt.keeps) (by omega) (by omega)) ?_; rintro v w' ⟨rfl, hc2⟩; replace hSt := hSt.call0 hc2; clear hc2) | (refine WL_isCall (f := 108) ?_; refine WL_call (ok_call hT rfl) rfl rfl rfl (formed_any c (hcx.kept hSt.keeps)) ?_; rintro v w' ⟨rfl, hc2⟩; replace hSt := hSt.call0 hc2; clear hc2) | refine stepA ?_ | (refine stepS ?_; clear hSt; intro w hSt; dsimp only [spl, List.set] at hSt) | (refine stepB ?_; clear hSt; intro w nb hnb hSt; dsimp only [zcells, List.nil_append, List.cons_append] at hSt) | (refine stepG ?_ ?_ <;> intro hc <;> (try exact absA) <;> (fail_if_success (change true = true at hc)) <;> (fail_if_success (change false = false at hc))) | fail)
  all_goals refine ret1 rfl rfl ⟨?_, hSt.nil⟩
  · rw [condF, if_pos (by omega)]
  · rw [condF, if_neg (by omega), if_neg (by simpa using hc)]
  · rw [condF, if_neg (by omega), if_pos (by simpa using hc)]
theorem valid_any {w0 : World} {c : Cn} {cs : List Value} (h : CondAt w0 c cs) (hl : levC c ≤ 9223372036854775807) : Cl Tryz.prog 114 [.agg ⟨cs⟩] w0 (fun v w' => v = B (goodC c) ∧ St w0 NoneS [] w') := by
  have hcx := h
  obtain ⟨v0, xs, rfl, _⟩ := h.cells
  have hSt := St.refl w0 NoneS
  refine enter Tryz.func114 rfl Tryz.ntmps114 rfl ?_
  repeat' (first | (refine WL_isCall (f := 68) ?_; refine WL_call (ok_call hT rfl) rfl rfl rfl (rlevels_any c (hcx.kept hSt.keeps) hl) ?_; rintro v w' ⟨rfl, hc2⟩; replace hSt := hSt.call0 hc2; clear hc2) | (refine WL_isCall (f := 129) ?_; refine WL_call (ok_call hT rfl) rfl rfl rfl (rformed_any c (hcx.kept hSt.keeps)) ?_; rintro v w' ⟨rfl, hc2⟩; replace hSt := hSt.call0 hc2; clear hc2) | refine stepA ?_ | (refine stepS ?_; clear hSt; intro w hSt; dsimp only [spl, List.set] at hSt) | (refine stepB ?_; clear hSt; intro w nb hnb hSt; dsimp only [zcells, List.nil_append, List.cons_append] at hSt) | (refine stepG ?_ ?_ <;> intro hc <;> (try exact absA) <;> (fail_if_success (change true = true at hc)) <;> (fail_if_success (change false = false at hc))) | fail)
  all_goals refine ret1 rfl rfl ⟨?_, hSt.nil⟩
  · rw [goodC, decide_eq_true (by omega), Bool.true_and]
  · rw [goodC, decide_eq_false (by omega), Bool.false_and]
end Go.Proofs.YtknfankadlokhaaGreatDoor

namespace Go.Proofs.YtknfankadlokhaaGreatDoor
open Go.RowKit
set_option maxRecDepth 4000
set_option linter.unusedVariables false
set_option linter.unusedSimpArgs false
set_option maxHeartbeats 4000000

theorem len_two {α : Type} {l : List α} (h : l.length = 2) : ∃ a b, l = [a, b] := by
  match l, h with
  | [a, b], _ => exact ⟨a, b, rfl⟩
theorem form_inv {op : Int} {n t : Tx} {ar : List Cn} (h : formC (.mk op n t ar) = true) : (op = 2 ∨ op = 1 ∨ (op = 3 ∧ ar.length = 1) ∨ (op = 4 ∧ ar.length = 2) ∨ (op = 5 ∧ ar.length = 2)) ∧ ∀ a ∈ ar, formC a = true := by
  rw [formC, Bool.and_eq_true, formCs_all, List.all_eq_true] at h
  refine ⟨?_, h.2⟩
  have h1 := h.1
  unfold kindF at h1
  by_cases h2 : op = 2
  · exact .inl h2
  · rw [if_neg h2, Bool.and_eq_true] at h1
    have := of_decide_eq_true h1.1
    omega
theorem hold1_any : ∀ (c : Cn) {w0 : World} {cs : List Value} {g : List Sg} {v0 : Value} {bg bh : Nat} (h : CondAt w0 c cs) (hf : formC c = true) (hg : SlAt w0 v0 2 (g.map sgC)) (hgl : g.length ≤ 9223372036854775807) (hbg : w0.heap[bg]? = some (blk [v0] 27)) (hbh : w0.heap[bh]? = some (blk [.func (.func 80) ⟨[]⟩ ⟨[Ptr bg, Ptr bh]⟩] 119)), Cl Tryz.prog 80 [.agg ⟨cs⟩, Ptr bg, Ptr bh] w0 (fun v w' => v = B (holdC g c) ∧ St w0 NoneS [] w') := by
  intro c
  induction c using Cn.ind with
  | h op n t ar ih =>
  intro w0 cs g v0 bg bh h hf hg hgl hbg hbh
  obtain ⟨v1, xs, rfl, hs, hcs, htl, hal⟩ := h.cells
  dsimp only [Cn.op, Cn.name, Cn.text, Cn.args] at *
  have hSt := St.refl w0 NoneS
  obtain ⟨a1, p1, rfl, hc1⟩ := hs.some_ hcs.len
  obtain ⟨hop, hfs⟩ := form_inv hf
  rcases hop with rfl | rfl | ⟨rfl, har⟩ | ⟨rfl, har⟩ | ⟨rfl, har⟩
  · rw [show holdC g (.mk 2 n t ar) = decide (valF g n = some t) from rfl]
    refine enter Tryz.func80 rfl Tryz.ntmps80 rfl ?_
    repeat' (first | (refine WL_isCall (f := 81) ?_; refine WL_call (ok_call hT rfl) rfl rfl rfl (value_any n (hg.kept hSt.keeps) hgl) ?_; rintro v w' ⟨rfl, hc2⟩; replace hSt := hSt.call0 hc2; clear hc2) | (apply WL_ev rfl rfl; exact Ev_load1 hT rfl rfl (hSt.base hbg (fun e => e)) rfl) | refine stepA ?_ | (refine stepS ?_; clear hSt; intro w hSt; dsimp only [spl, List.set] at hSt) | (refine stepB ?_; clear hSt; intro w nb hnb hSt; dsimp only [zcells, List.nil_append, List.cons_append] at hSt) | (refine W_quiet hT (by decide +kernel) hSt ?_; clear hSt; (repeat' (first | (apply QL_ev rfl rfl; (intro w hSt; (first | (exact Ev_load1 hT rfl rfl (hSt.base hbg (fun e => e)) rfl) | exact Ev_auto))) | refine QL_pass rfl rfl ?_ | (refine QL_guardP rfl rfl (fun hc => ?_) (fun hc => ?_) <;> try exact absA) | (refine QL_guard rfl rfl (fun hc => ?_) (fun hc => ?_) <;> (try exact absA) <;> (fail_if_success (change true = true at hc)) <;> (fail_if_success (change false = false at hc))))); all_goals (refine QL_nil (fun w hSt => ?_))) | (refine stepG ?_ ?_ <;> intro hc <;> (try exact absA) <;> (fail_if_success (change true = true at hc)) <;> (fail_if_success (change false = false at hc))) | fail)
    all_goals refine ret1 rfl rfl ⟨congrArg B ?_, hSt.nil⟩
    all_goals cases hv : valF g n
    all_goals simp_all
  · refine enter Tryz.func80 rfl Tryz.ntmps80 rfl ?_
    repeat' (first | refine stepA ?_ | (refine stepS ?_; clear hSt; intro w hSt; dsimp only [spl, List.set] at hSt) | (refine stepB ?_; clear hSt; intro w nb hnb hSt; dsimp only [zcells, List.nil_append, List.cons_append] at hSt) | (refine W_quiet hT (by decide +kernel) hSt ?_; clear hSt; (repeat' (first | (apply QL_ev rfl rfl; (intro w hSt; (first | exact Ev_auto))) | refine QL_pass rfl rfl ?_ | (refine QL_guardP rfl rfl (fun hc => ?_) (fun hc => ?_) <;> try exact absA) | (refine QL_guard rfl rfl (fun hc => ?_) (fun hc => ?_) <;> (try exact absA) <;> (fail_if_success (change true = true at hc)) <;> (fail_if_success (change false = false at hc))))); all_goals (refine QL_nil (fun w hSt => ?_))) | (refine stepG ?_ ?_ <;> intro hc <;> (try exact absA) <;> (fail_if_success (change true = true at hc)) <;> (fail_if_success (change false = false at hc))) | fail)
    exact ret1 rfl rfl ⟨rfl, hSt.nil⟩
  · obtain ⟨a, rfl⟩ := List.length_eq_one_iff.1 har
    obtain ⟨x0, hx0, hca0⟩ := hcs.at (i := 0) (a := a) rfl
    obtain ⟨b0, o0, m0, E0, z0, he0, hb0, q0, hl0⟩ := hc1 0 x0 hx0
    replace q0 : (m0.drop (o0 + ((0 : Nat) : Int).toNat * 4)).take 4 = x0 := q0
    subst he0
    rw [show holdC g (.mk 3 n t [a]) = !holdC g a from rfl]
    refine enter Tryz.func80 rfl Tryz.ntmps80 rfl ?_
    repeat' (first | (apply WL_ev rfl rfl; exact Ev_load1 hT rfl rfl (hSt.base hbh (fun e => e)) rfl) | (apply WL_ev rfl rfl; exact Ev_loadN hT rfl rfl (hSt.base hb0 (fun e => e)) q0 hl0) | refine stepA ?_ | (refine stepS ?_; clear hSt; intro w hSt; dsimp only [spl, List.set] at hSt) | (refine stepB ?_; clear hSt; intro w nb hnb hSt; dsimp only [zcells, List.nil_append, List.cons_append] at hSt) | (refine W_quiet hT (by decide +kernel) hSt ?_; clear hSt; (repeat' (first | (refine QL_callV (f := 80) (ok_call hT rfl) rfl rfl rfl rfl (fun w hSt => (ih a (by simp) (hca0.kept hSt.keeps) (hfs a (by simp)) (hg.kept hSt.keeps) hgl (hSt.base hbg (fun e => e)) (hSt.base hbh (fun e => e))).mono (fun v w2 h => ⟨h.1, hSt.call0 h.2⟩)) ?_) | (apply QL_ev rfl rfl; (intro w hSt; (first | (exact Ev_load1 hT rfl rfl (hSt.base hbh (fun e => e)) rfl) | (exact Ev_loadN hT rfl rfl (hSt.base hb0 (fun e => e)) q0 hl0) | exact Ev_auto))) | refine QL_pass rfl rfl ?_ | (refine QL_guardP rfl rfl (fun hc => ?_) (fun hc => ?_) <;> try exact absA) | (refine QL_guard rfl rfl (fun hc => ?_) (fun hc => ?_) <;> (try exact absA) <;> (fail_if_success (change true = true at hc)) <;> (fail_if_success (change false = false at hc))))); all_goals (refine QL_nil (fun w hSt => ?_))) | (refine stepG ?_ ?_ <;> intro hc <;> (try exact absA) <;> (fail_if_success (change true = true at hc)) <;> (fail_if_success (change false = false at hc))) | fail)
    all_goals exact ret1 rfl rfl ⟨rfl, hSt.nil⟩
  · obtain ⟨a, b, rfl⟩ := len_two har
    obtain ⟨x0, hx0, hca0⟩ := hcs.at (i := 0) (a := a) rfl
    obtain ⟨b0, o0, m0, E0, z0, he0, hb0, q0, hl0⟩ := hc1 0 x0 hx0
    replace q0 : (m0.drop (o0 + ((0 : Nat) : Int).toNat * 4)).take 4 = x0 := q0
    obtain ⟨x1, hx1, hca1⟩ := hcs.at (i := 1) (a := b) rfl
    obtain ⟨b1, o1, m1, E1, z1, he1, hb1, q1, hl1⟩ := hc1 1 x1 hx1
    replace q1 : (m1.drop (o1 + ((1 : Nat) : Int).toNat * 4)).take 4 = x1 := q1
    subst he0
    injection he1 with he1
    injection he1 with he1 he2
    subst he1; subst he2
    rw [show holdC g (.mk 4 n t [a, b]) = (holdC g a && holdC g b) from rfl]
    refine enter Tryz.func80 rfl Tryz.ntmps80 rfl ?_
    repeat' (first | (apply WL_ev rfl rfl; exact Ev_load1 hT rfl rfl (hSt.base hbh (fun e => e)) rfl) | (apply WL_ev rfl rfl; exact Ev_load1 hT rfl rfl (hSt.base hbh (fun e => e)) rfl) | (apply WL_ev rfl rfl; exact Ev_loadN hT rfl rfl (hSt.base hb0 (fun e => e)) q0 hl0) | (apply WL_ev rfl rfl; exact Ev_loadN hT rfl rfl (hSt.base hb1 (fun e => e)) q1 hl1) | refine stepA ?_ | (refine stepS ?_; clear hSt; intro w hSt; dsimp only [spl, List.set] at hSt) | (refine stepB ?_; clear hSt; intro w nb hnb hSt; dsimp only [zcells, List.nil_append, List.cons_append] at hSt) | (refine W_quiet hT (by decide +kernel) hSt ?_; clear hSt; (repeat' (first | (refine QL_callV (f := 80) (ok_call hT rfl) rfl rfl rfl rfl (fun w hSt => (ih a (by simp) (hca0.kept hSt.keeps) (hfs a (by simp)) (hg.kept hSt.keeps) hgl (hSt.base hbg (fun e => e)) (hSt.base hbh (fun e => e))).mono (fun v w2 h => ⟨h.1, hSt.call0 h.2⟩)) ?_) | (refine QL_callV (f := 80) (ok_call hT rfl) rfl rfl rfl rfl (fun w hSt => (ih b (by simp) (hca1.kept hSt.keeps) (hfs b (by simp)) (hg.kept hSt.keeps) hgl (hSt.base hbg (fun e => e)) (hSt.base hbh (fun e => e))).mono (fun v w2 h => ⟨h.1, hSt.call0 h.2⟩)) ?_) | (apply QL_ev rfl rfl; (intro w hSt; (first | (exact Ev_load1 hT rfl rfl (hSt.base hbh (fun e => e)) rfl) | (exact Ev_load1 hT rfl rfl (hSt.base hbh (fun e => e)) rfl) | (exact Ev_loadN hT rfl rfl (hSt.base hb0 (fun e => e)) q0 hl0) | (exact Ev_loadN hT rfl rfl (hSt.base hb1 (fun e => e)) q1 hl1) | exact Ev_auto))) | refine QL_pass rfl rfl ?_ | (refine QL_guardP rfl rfl (fun hc => ?_) (fun hc => ?_) <;> try exact absA) | (refine QL_guard rfl rfl (fun hc => ?_) (fun hc => ?_) <;> (try exact absA) <;> (fail_if_success (change true = true at hc)) <;> (fail_if_success (change false = false at hc))))); all_goals (refine QL_nil (fun w hSt => ?_))) | (refine stepG ?_ ?_ <;> intro hc <;> (try exact absA) <;> (fail_if_success (change true = true at hc)) <;> (fail_if_success (change false = false at hc))) | fail)
    all_goals (refine ret1 rfl rfl ⟨congrArg B ?_, hSt.nil⟩; simp [hc])
  · obtain ⟨a, b, rfl⟩ := len_two har
    obtain ⟨x0, hx0, hca0⟩ := hcs.at (i := 0) (a := a) rfl
    obtain ⟨b0, o0, m0, E0, z0, he0, hb0, q0, hl0⟩ := hc1 0 x0 hx0
    replace q0 : (m0.drop (o0 + ((0 : Nat) : Int).toNat * 4)).take 4 = x0 := q0
    obtain ⟨x1, hx1, hca1⟩ := hcs.at (i := 1) (a := b) rfl
    obtain ⟨b1, o1, m1, E1, z1, he1, hb1, q1, hl1⟩ := hc1 1 x1 hx1
    replace q1 : (m1.drop (o1 + ((1 : Nat) : Int).toNat * 4)).take 4 = x1 := q1
    subst he0
    injection he1 with he1
    injection he1 with he1 he2
    subst he1; subst he2
    rw [show holdC g (.mk 5 n t [a, b]) = (holdC g a || holdC g b) from rfl]
    refine enter Tryz.func80 rfl Tryz.ntmps80 rfl ?_
    repeat' (first | (apply WL_ev rfl rfl; exact Ev_load1 hT rfl rfl (hSt.base hbh (fun e => e)) rfl) | (apply WL_ev rfl rfl; exact Ev_load1 hT rfl rfl (hSt.base hbh (fun e => e)) rfl) | (apply WL_ev rfl rfl; exact Ev_loadN hT rfl rfl (hSt.base hb0 (fun e => e)) q0 hl0) | (apply WL_ev rfl rfl; exact Ev_loadN hT rfl rfl (hSt.base hb1 (fun e => e)) q1 hl1) | refine stepA ?_ | (refine stepS ?_; clear hSt; intro w hSt; dsimp only [spl, List.set] at hSt) | (refine stepB ?_; clear hSt; intro w nb hnb hSt; dsimp only [zcells, List.nil_append, List.cons_append] at hSt) | (refine W_quiet hT (by decide +kernel) hSt ?_; clear hSt; (repeat' (first | (refine QL_callV (f := 80) (ok_call hT rfl) rfl rfl rfl rfl (fun w hSt => (ih a (by simp) (hca0.kept hSt.keeps) (hfs a (by simp)) (hg.kept hSt.keeps) hgl (hSt.base hbg (fun e => e)) (hSt.base hbh (fun e => e))).mono (fun v w2 h => ⟨h.1, hSt.call0 h.2⟩)) ?_) | (refine QL_callV (f := 80) (ok_call hT rfl) rfl rfl rfl rfl (fun w hSt => (ih b (by simp) (hca1.kept hSt.keeps) (hfs b (by simp)) (hg.kept hSt.keeps) hgl (hSt.base hbg (fun e => e)) (hSt.base hbh (fun e => e))).mono (fun v w2 h => ⟨h.1, hSt.call0 h.2⟩)) ?_) | (apply QL_ev rfl rfl; (intro w hSt; (first | (exact Ev_load1 hT rfl rfl (hSt.base hbh (fun e => e)) rfl) | (exact Ev_load1 hT rfl rfl (hSt.base hbh (fun e => e)) rfl) | (exact Ev_loadN hT rfl rfl (hSt.base hb0 (fun e => e)) q0 hl0) | (exact Ev_loadN hT rfl rfl (hSt.base hb1 (fun e => e)) q1 hl1) | exact Ev_auto))) | refine QL_pass rfl rfl ?_ | (refine QL_guardP rfl rfl (fun hc => ?_) (fun hc => ?_) <;> try exact absA) | (refine QL_guard rfl rfl (fun hc => ?_) (fun hc => ?_) <;> (try exact absA) <;> (fail_if_success (change true = true at hc)) <;> (fail_if_success (change false = false at hc))))); all_goals (refine QL_nil (fun w hSt => ?_))) | (refine stepG ?_ ?_ <;> intro hc <;> (try exact absA) <;> (fail_if_success (change true = true at hc)) <;> (fail_if_success (change false = false at hc))) | fail)
    all_goals (refine ret1 rfl rfl ⟨congrArg B ?_, hSt.nil⟩; simp [hc])
theorem good_form {c : Cn} (h : goodC c = true) : formC c = true := by
  unfold goodC at h; rw [Bool.and_eq_true] at h; exact h.2
theorem holds_any {w0 : World} {c : Cn} {cs : List Value} {g : List Sg} {v0 : Value} (h : CondAt w0 c cs) (hg : SlAt w0 v0 2 (g.map sgC)) (hgl : g.length ≤ 9223372036854775807) : Cl Tryz.prog 38 [.agg ⟨cs⟩, v0] w0 (fun v w' => v = B (goodC c && holdC g c) ∧ St w0 NoneS [] w') := by
  have hcx := h
  have hgx := hg
  obtain ⟨v1, xs, rfl, _⟩ := h.cells
  obtain ⟨a1, p1, rfl, _⟩ := hg.map
  have hSt := St.refl w0 NoneS
  refine enter Tryz.func38 rfl Tryz.ntmps38 rfl ?_
  cases hgd : goodC c
  · have hc0 : condF c ≠ 0 := fun e => by rw [condF_zero, hgd] at e; cases e
    repeat' (first | (refine WL_isCall (f := 62) ?_; refine WL_call (ok_call hT rfl) rfl rfl rfl (condition_any (hcx.kept hSt.keeps)) ?_; rintro v w' ⟨rfl, hc2⟩; replace hSt := hSt.call0 hc2; clear hc2) | refine stepA ?_ | (refine stepS ?_; clear hSt; intro w hSt; dsimp only [spl, List.set] at hSt) | (refine stepB ?_; clear hSt; intro w nb hnb hSt; dsimp only [zcells, List.nil_append, List.cons_append] at hSt) | (refine W_quiet hT (by decide +kernel) hSt ?_; clear hSt; (repeat' (first | (apply QL_ev rfl rfl; (intro w hSt; (first | exact Ev_auto))) | refine QL_pass rfl rfl ?_ | (refine QL_guardP rfl rfl (fun hc => ?_) (fun hc => ?_) <;> try exact absA) | (refine QL_guard rfl rfl (fun hc => ?_) (fun hc => ?_) <;> (try exact absA) <;> (fail_if_success (change true = true at hc)) <;> (fail_if_success (change false = false at hc))))); all_goals (refine QL_nil (fun w hSt => ?_))) | (refine stepG ?_ ?_ <;> intro hc <;> (try exact absA) <;> (fail_if_success (change true = true at hc)) <;> (fail_if_success (change false = false at hc))) | fail)
    all_goals first | exact ret1 rfl rfl ⟨rfl, hSt.nil⟩ | (exfalso; first | omega | contradiction)
  · have hc0 : condF c = 0 := (condF_zero c).2 hgd
    repeat' (first | (refine WL_isCall (f := 62) ?_; refine WL_call (ok_call hT rfl) rfl rfl rfl (condition_any (hcx.kept hSt.keeps)) ?_; rintro v w' ⟨rfl, hc2⟩; replace hSt := hSt.call0 hc2; clear hc2) | (apply WL_ev rfl rfl; exact Ev_makeFunc rfl) | (refine WL_callV (f := 80) (ok_call hT rfl) rfl rfl rfl rfl (hold1_any c (hcx.kept hSt.keeps) (good_form hgd) (hgx.kept hSt.keeps) hgl (hSt.own 1 _ _ rfl).1 (hSt.own 2 _ _ rfl).1) ?_; rintro v w' ⟨rfl, hc2⟩; replace hSt := hSt.call0 hc2; clear hc2) | refine stepA ?_ | (refine stepS ?_; clear hSt; intro w hSt; dsimp only [spl, List.set] at hSt) | (refine stepB ?_; clear hSt; intro w nb hnb hSt; dsimp only [zcells, List.nil_append, List.cons_append] at hSt) | (refine W_quiet hT (by decide +kernel) hSt ?_; clear hSt; (repeat' (first | (apply QL_ev rfl rfl; (intro w hSt; (first | (exact Ev_makeFunc rfl) | exact Ev_auto))) | refine QL_pass rfl rfl ?_ | (refine QL_guardP rfl rfl (fun hc => ?_) (fun hc => ?_) <;> try exact absA) | (refine QL_guard rfl rfl (fun hc => ?_) (fun hc => ?_) <;> (try exact absA) <;> (fail_if_success (change true = true at hc)) <;> (fail_if_success (change false = false at hc))))); all_goals (refine QL_nil (fun w hSt => ?_))) | (refine stepG ?_ ?_ <;> intro hc <;> (try exact absA) <;> (fail_if_success (change true = true at hc)) <;> (fail_if_success (change false = false at hc))) | fail)
    all_goals first | exact ret1 rfl rfl ⟨rfl, hSt.nil⟩ | (exfalso; first | omega | contradiction)
end Go.Proofs.YtknfankadlokhaaGreatDoor
