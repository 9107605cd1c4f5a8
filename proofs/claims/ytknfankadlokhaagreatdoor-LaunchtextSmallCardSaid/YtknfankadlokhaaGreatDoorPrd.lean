/- The specification's lexer: number. No conditions. -/
import Derived.Test.YtknfankadlokhaaGreatDoorPrc

namespace Go.Proofs.YtknfankadlokhaaGreatDoor
open Go.RowKit
set_option maxRecDepth 4000
set_option linter.unusedVariables false
set_option linter.unusedSimpArgs false
set_option maxHeartbeats 16000000

section
variable {P : Program} {n : Fz} {L : Fr} {w : World} {fn : Func} {R : Value → World → Prop} {i j m q : Nat} {v u x y : Value}
theorem res4 (hr : fn.results = #[.tmp i, .tmp j, .tmp m, .tmp q]) (hv : look L i = some v) (hu : look L j = some u) (hx : look L m = some x) (hy : look L q = some y) (a : Act) (ha : Fits n L a) : (results fn a.tmps).run P w = .ok (.tuple ⟨[v, u, x, y]⟩) w := by
  simp [results, hr, Array.getD_eq_getD_getElem?, ha.val _ _ hv, ha.val _ _ hu, ha.val _ _ hx, ha.val _ _ hy]
theorem ret4 {m9 : Nat} (hr : fn.results = #[.tmp i, .tmp j, .tmp m, .tmp q]) (hv : look L i = some v) (hu : look L j = some u) (hx : look L m = some x) (hy : look L q = some y) (h : R (.tuple ⟨[v, u, x, y]⟩) w) : At (m9, []) (bodyPost P fn (fun e w' => ∃ v, e = .returned v ∧ R v w')) .ret L w := end_of (res4 hr hv hu hx hy) h
end
/-- what a part answers that has a value: its end, the value, what is wrong, and where -/
def PartR (r : Lx) (f : Tk → Value) (z : Value) (v : Value) : Prop := match r with
  | .tok t q => v = .tuple ⟨[I (q : Int), f t, I 0, I 0]⟩
  | .err e w => ∃ x : Int, v = .tuple ⟨[I x, z, I e, I (w : Int)]⟩
theorem rnumber_any {w0 : World} (s : Tx) {p : Nat} {c0 : UInt8} (hl : s.length ≤ 100000) (hp1 : s[p]? = some c0) : Cl Tryz.prog 99 [S s, I (p : Int)] w0 (fun v w' => PartR (numF s p) (fun t => I t.nn) (I 0) v ∧ St w0 NoneS [] w') := by
  have hSt := St.refl w0 NoneS
  have hqp : s[(p : Int).toNat]? = some c0 := by rw [Int.toNat_natCast]; exact hp1
  have hkp : kindAt s p = clsF c0 := by unfold kindAt; rw [hp1]
  have hpl := (List.getElem?_eq_some_iff.1 hp1).1
  have h0n := c0.toNat_lt
  refine enter Tryz.func99 rfl Tryz.ntmps99 rfl ?_
  by_cases h45 : c0.toNat = 45
  · have hc45 : c0 = 45 := UInt8.toNat_inj.1 (by rw [h45]; rfl)
    have hneg : decide (kindAt s p = 5) = true := decide_eq_true (by rw [hkp]; exact cls5 h45)
    have hnf : ∀ q, spanF digC s (p + 1) = q → numF s p = if cutF s (p + 1) q = [] ∨ ((cutF s (p + 1) q).head? = some 48 ∧ (1 < (cutF s (p + 1) q).length ∨ true = true)) then .err 2 p else match numV true (cutF s (p + 1) q) with
        | none => .err 4 p
        | some n => if kindAt s q = 3 ∨ kindAt s q = 6 ∨ kindAt s q = 5 then .err 2 q else .tok ⟨2, [], n, p⟩ q := by
      intro q hq
      unfold numF
      dsimp only
      rw [show decide (kindAt s p = 5) = true from hneg]
      rw [show (if true = true then p + 1 else p) = p + 1 from rfl, hq]
      rfl
    repeat' (first | (apply WL_ev rfl rfl; exact Ev_strIndex hT rfl rfl rfl (by omega) hqp) | refine stepA ?_ | (refine stepS ?_; clear hSt; intro w hSt; dsimp only [spl, List.set] at hSt) | (refine stepB ?_; clear hSt; intro w nb hnb hSt; dsimp only [zcells, List.nil_append, List.cons_append] at hSt) | (refine W_quiet hT (by decide +kernel) hSt ?_; clear hSt; (repeat' (first | (apply QL_ev rfl rfl; (intro w hSt; (first | (exact Ev_strIndex hT rfl rfl rfl (by omega) hqp) | exact Ev_auto))) | refine QL_pass rfl rfl ?_ | (refine QL_guardP rfl rfl (fun hc => ?_) (fun hc => ?_) <;> try exact absA) | (refine QL_guard rfl rfl (fun hc => ?_) (fun hc => ?_) <;> (try exact absA) <;> (fail_if_success (change true = true at hc)) <;> (fail_if_success (change false = false at hc))))); all_goals (refine QL_nil (fun w hSt => ?_))) | (refine stepG ?_ ?_ <;> intro hc <;> (try exact absA) <;> (fail_if_success (change true = true at hc)) <;> (fail_if_success (change false = false at hc))) | fail)
    all_goals try (exfalso; first | omega | (simp at hc; done) | (exact hc rfl) | contradiction)
    refine W_loop1 (fun k (q : Nat) w => k = s.length - q ∧ q ≤ s.length ∧ (p + 1) ≤ q ∧ spanF digC s (p + 1) = spanF digC s q ∧ St w0 NoneS [] w) (fun q => [(8, I (q : Int))]) (s.length - (p + 1)) (p + 1) rfl (by (repeat (first | exact Str.nil _ | apply Str.drop rfl | apply Str.keepU rfl | apply Str.keep rfl))) ⟨rfl, hpl, Nat.le_refl _, rfl, hSt⟩ (by (repeat (first | exact Sub.nil _ | refine Sub.cons rfl ?_))) ?_
    clear hSt
    rintro k q w ⟨hk, hq, hpq, hsp, hSt⟩ K hK
    have hg := fun (c : UInt8) (w : World) => rdigit_any (w0 := w) c
    have hw := fun (c : UInt8) (w : World) => rword_any (w0 := w) c
    rcases dig_cases (s := s) (q := q) with ⟨c, hc1, hcd, hspn, hqs⟩ | hend
    · have hq0 : s[(q : Int).toNat]? = some c := by rw [Int.toNat_natCast]; exact hc1
      replace hg := hg c
      rw [hcd] at hg
      repeat' (first | (apply WL_ev rfl rfl; exact Ev_strIndex hT rfl rfl rfl (by omega) hq0) | (refine WL_isCall (f := 98) ?_; refine WL_call (ok_call hT rfl) rfl rfl rfl (hg _) ?_; rintro v w2 ⟨rfl, hc2⟩; replace hSt := hSt.call0 hc2; clear hc2) | refine stepA ?_ | (refine stepS ?_; clear hSt; intro w hSt; dsimp only [spl, List.set] at hSt) | (refine stepB ?_; clear hSt; intro w nb hnb hSt; dsimp only [zcells, List.nil_append, List.cons_append] at hSt) | (refine W_quiet hT (by decide +kernel) hSt ?_; clear hSt; (repeat' (first | (apply QL_ev rfl rfl; (intro w hSt; (first | (exact Ev_strIndex hT rfl rfl rfl (by omega) hq0) | exact Ev_auto))) | refine QL_pass rfl rfl ?_ | (refine QL_guardP rfl rfl (fun hc => ?_) (fun hc => ?_) <;> try exact absA) | (refine QL_guard rfl rfl (fun hc => ?_) (fun hc => ?_) <;> (try exact absA) <;> (fail_if_success (change true = true at hc)) <;> (fail_if_success (change false = false at hc))))); all_goals (refine QL_nil (fun w hSt => ?_))) | (refine stepG ?_ ?_ <;> intro hc <;> (try exact absA) <;> (fail_if_success (change true = true at hc)) <;> (fail_if_success (change false = false at hc))) | fail)
      all_goals try (exfalso; first | omega | (simp at hc; done) | (exact hc rfl) | contradiction)
      all_goals exact At_loop1 hK (k' := s.length - (q + 1)) (q + 1) (by omega) ⟨rfl, hqs, by omega, by rw [hsp, hspn], hSt⟩ (by (repeat (first | exact Sub.nil _ | refine Sub.cons rfl ?_)))
    have hse : spanF digC s (p + 1) = q := by rw [hsp]; rcases hend with ⟨_, _, _, h, _⟩ | ⟨h, _⟩ <;> exact h
    rw [hnf q hse]
    obtain ⟨ds, hds⟩ : ∃ ds, ds = cutF s (p + 1) q := ⟨_, rfl⟩
    have hdig : ∀ c ∈ ds, 48 ≤ c.toNat ∧ c.toNat ≤ 57 := fun c hc => cls4_inv (of_decide_eq_true (takeWhile_mem (by rw [hds, cut_span hse] at hc; exact hc)))
    have hdl : ds.length ≤ s.length := by rw [hds]; unfold cutF; rw [List.length_take, List.length_drop]; omega
    have hsl : S ((s.drop ((p : Int)).toNat).take (((q : Int)).toNat - ((p : Int)).toNat)) = S (45 :: ds) := by
      rw [Int.toNat_natCast, Int.toNat_natCast, hds]
      rw [drop_at hp1, show q - p = (q - (p + 1)) + 1 by omega, List.take_succ_cons, hc45]; rfl
    rw [← hds]
    have hN := fun w : World => rNumberN_any (w0 := w) ds hdig (by omega)
    unfold numB at hN
    clear hds hnf
    rcases hend with ⟨c, hc1, hcd, hspn, hqs⟩ | ⟨hspn, hqs⟩
    · have hq0 : s[(q : Int).toNat]? = some c := by rw [Int.toNat_natCast]; exact hc1
      have hka : kindAt s q = clsF c := by unfold kindAt; rw [hc1]
      rw [hka]
      replace hg := hg c
      replace hw := hw c
      rw [hcd] at hg
      by_cases hb : ds = [] ∨ (ds.head? = some 48 ∧ (1 < ds.length ∨ true = true))
      · rw [if_pos hb]
        rw [if_pos hb] at hN
        repeat' (first | (apply WL_ev rfl rfl; exact Ev_strIndex hT rfl rfl rfl (by omega) hq0) | (refine WL_isCall (f := 98) ?_; refine WL_call (ok_call hT rfl) rfl rfl rfl (hg _) ?_; rintro v w2 ⟨rfl, hc2⟩; replace hSt := hSt.call0 hc2; clear hc2) | (apply WL_ev rfl rfl; exact Ev_strIndex hT rfl rfl rfl (by omega) hqp) | (apply WL_ev rfl rfl; exact Ev_as (v2 := S (45 :: ds)) (Ev_str_slice hT rfl rfl rfl rfl (by omega) (by omega) (by omega)) hsl) | (refine WL_isCall (f := 124) ?_; refine WL_call (ok_call hT rfl) rfl rfl rfl (hN _) ?_; rintro v w2 ⟨rfl, hc2⟩; replace hSt := hSt.call0 hc2; clear hc2) | refine stepA ?_ | (refine stepS ?_; clear hSt; intro w hSt; dsimp only [spl, List.set] at hSt) | (refine stepB ?_; clear hSt; intro w nb hnb hSt; dsimp only [zcells, List.nil_append, List.cons_append] at hSt) | (refine W_quiet hT (by decide +kernel) hSt ?_; clear hSt; (repeat' (first | (apply QL_ev rfl rfl; (intro w hSt; (first | (exact Ev_strIndex hT rfl rfl rfl (by omega) hq0) | (exact Ev_strIndex hT rfl rfl rfl (by omega) hqp) | (exact Ev_as (v2 := S (45 :: ds)) (Ev_str_slice hT rfl rfl rfl rfl (by omega) (by omega) (by omega)) hsl) | exact Ev_auto))) | refine QL_pass rfl rfl ?_ | (refine QL_guardP rfl rfl (fun hc => ?_) (fun hc => ?_) <;> try exact absA) | (refine QL_guard rfl rfl (fun hc => ?_) (fun hc => ?_) <;> (try exact absA) <;> (fail_if_success (change true = true at hc)) <;> (fail_if_success (change false = false at hc))))); all_goals (refine QL_nil (fun w hSt => ?_))) | (refine stepG ?_ ?_ <;> intro hc <;> (try exact absA) <;> (fail_if_success (change true = true at hc)) <;> (fail_if_success (change false = false at hc))) | fail)
        all_goals try (exfalso; first | omega | (simp at hc; done) | (exact hc rfl) | contradiction)
        all_goals exact ret4 rfl rfl rfl rfl rfl ⟨⟨_, rfl⟩, hSt⟩
      rw [if_neg hb]
      rw [if_neg hb] at hN
      cases hnv : numV true ds with
      | none =>
        rw [hnv] at hN
        dsimp only at hN ⊢
        repeat' (first | (apply WL_ev rfl rfl; exact Ev_strIndex hT rfl rfl rfl (by omega) hq0) | (refine WL_isCall (f := 98) ?_; refine WL_call (ok_call hT rfl) rfl rfl rfl (hg _) ?_; rintro v w2 ⟨rfl, hc2⟩; replace hSt := hSt.call0 hc2; clear hc2) | (apply WL_ev rfl rfl; exact Ev_strIndex hT rfl rfl rfl (by omega) hqp) | (apply WL_ev rfl rfl; exact Ev_as (v2 := S (45 :: ds)) (Ev_str_slice hT rfl rfl rfl rfl (by omega) (by omega) (by omega)) hsl) | (refine WL_isCall (f := 124) ?_; refine WL_call (ok_call hT rfl) rfl rfl rfl (hN _) ?_; rintro v w2 ⟨rfl, hc2⟩; replace hSt := hSt.call0 hc2; clear hc2) | refine stepA ?_ | (refine stepS ?_; clear hSt; intro w hSt; dsimp only [spl, List.set] at hSt) | (refine stepB ?_; clear hSt; intro w nb hnb hSt; dsimp only [zcells, List.nil_append, List.cons_append] at hSt) | (refine W_quiet hT (by decide +kernel) hSt ?_; clear hSt; (repeat' (first | (apply QL_ev rfl rfl; (intro w hSt; (first | (exact Ev_strIndex hT rfl rfl rfl (by omega) hq0) | (exact Ev_strIndex hT rfl rfl rfl (by omega) hqp) | (exact Ev_as (v2 := S (45 :: ds)) (Ev_str_slice hT rfl rfl rfl rfl (by omega) (by omega) (by omega)) hsl) | exact Ev_auto))) | refine QL_pass rfl rfl ?_ | (refine QL_guardP rfl rfl (fun hc => ?_) (fun hc => ?_) <;> try exact absA) | (refine QL_guard rfl rfl (fun hc => ?_) (fun hc => ?_) <;> (try exact absA) <;> (fail_if_success (change true = true at hc)) <;> (fail_if_success (change false = false at hc))))); all_goals (refine QL_nil (fun w hSt => ?_))) | (refine stepG ?_ ?_ <;> intro hc <;> (try exact absA) <;> (fail_if_success (change true = true at hc)) <;> (fail_if_success (change false = false at hc))) | fail)
        all_goals try (exfalso; first | omega | (simp at hc; done) | (exact hc rfl) | contradiction)
        all_goals exact ret4 rfl rfl rfl rfl rfl ⟨⟨_, rfl⟩, hSt⟩
      | some m =>
        rw [hnv] at hN
        dsimp only at hN ⊢
        by_cases h36 : clsF c = 3 ∨ clsF c = 6 ∨ clsF c = 5
        · rw [if_pos h36]
          by_cases h5 : c.toNat = 45
          · have hw5 : wordC c = false := by unfold wordC; rw [cls5 h5]; rfl
            rw [hw5] at hw
            repeat' (first | (apply WL_ev rfl rfl; exact Ev_strIndex hT rfl rfl rfl (by omega) hq0) | (refine WL_isCall (f := 123) ?_; refine WL_call (ok_call hT rfl) rfl rfl rfl (hw _) ?_; rintro v w2 ⟨rfl, hc2⟩; replace hSt := hSt.call0 hc2; clear hc2) | (refine WL_isCall (f := 98) ?_; refine WL_call (ok_call hT rfl) rfl rfl rfl (hg _) ?_; rintro v w2 ⟨rfl, hc2⟩; replace hSt := hSt.call0 hc2; clear hc2) | (apply WL_ev rfl rfl; exact Ev_strIndex hT rfl rfl rfl (by omega) hqp) | (apply WL_ev rfl rfl; exact Ev_as (v2 := S (45 :: ds)) (Ev_str_slice hT rfl rfl rfl rfl (by omega) (by omega) (by omega)) hsl) | (refine WL_isCall (f := 124) ?_; refine WL_call (ok_call hT rfl) rfl rfl rfl (hN _) ?_; rintro v w2 ⟨rfl, hc2⟩; replace hSt := hSt.call0 hc2; clear hc2) | refine stepA ?_ | (refine stepS ?_; clear hSt; intro w hSt; dsimp only [spl, List.set] at hSt) | (refine stepB ?_; clear hSt; intro w nb hnb hSt; dsimp only [zcells, List.nil_append, List.cons_append] at hSt) | (refine W_quiet hT (by decide +kernel) hSt ?_; clear hSt; (repeat' (first | (apply QL_ev rfl rfl; (intro w hSt; (first | (exact Ev_strIndex hT rfl rfl rfl (by omega) hq0) | (exact Ev_strIndex hT rfl rfl rfl (by omega) hqp) | (exact Ev_as (v2 := S (45 :: ds)) (Ev_str_slice hT rfl rfl rfl rfl (by omega) (by omega) (by omega)) hsl) | exact Ev_auto))) | refine QL_pass rfl rfl ?_ | (refine QL_guardP rfl rfl (fun hc => ?_) (fun hc => ?_) <;> try exact absA) | (refine QL_guard rfl rfl (fun hc => ?_) (fun hc => ?_) <;> (try exact absA) <;> (fail_if_success (change true = true at hc)) <;> (fail_if_success (change false = false at hc))))); all_goals (refine QL_nil (fun w hSt => ?_))) | (refine stepG ?_ ?_ <;> intro hc <;> (try exact absA) <;> (fail_if_success (change true = true at hc)) <;> (fail_if_success (change false = false at hc))) | fail)
            all_goals try (exfalso; first | omega | (simp at hc; done) | (exact hc rfl) | contradiction)
            all_goals exact ret4 rfl rfl rfl rfl rfl ⟨⟨_, rfl⟩, hSt⟩
          · have hw5 : wordC c = true := decide_eq_true (h36.elim .inl (fun h => h.elim (fun h => .inr (.inr h)) (fun h => absurd (cls5_iff.1 h) h5)))
            rw [hw5] at hw
            repeat' (first | (apply WL_ev rfl rfl; exact Ev_strIndex hT rfl rfl rfl (by omega) hq0) | (refine WL_isCall (f := 123) ?_; refine WL_call (ok_call hT rfl) rfl rfl rfl (hw _) ?_; rintro v w2 ⟨rfl, hc2⟩; replace hSt := hSt.call0 hc2; clear hc2) | (refine WL_isCall (f := 98) ?_; refine WL_call (ok_call hT rfl) rfl rfl rfl (hg _) ?_; rintro v w2 ⟨rfl, hc2⟩; replace hSt := hSt.call0 hc2; clear hc2) | (apply WL_ev rfl rfl; exact Ev_strIndex hT rfl rfl rfl (by omega) hqp) | (apply WL_ev rfl rfl; exact Ev_as (v2 := S (45 :: ds)) (Ev_str_slice hT rfl rfl rfl rfl (by omega) (by omega) (by omega)) hsl) | (refine WL_isCall (f := 124) ?_; refine WL_call (ok_call hT rfl) rfl rfl rfl (hN _) ?_; rintro v w2 ⟨rfl, hc2⟩; replace hSt := hSt.call0 hc2; clear hc2) | refine stepA ?_ | (refine stepS ?_; clear hSt; intro w hSt; dsimp only [spl, List.set] at hSt) | (refine stepB ?_; clear hSt; intro w nb hnb hSt; dsimp only [zcells, List.nil_append, List.cons_append] at hSt) | (refine W_quiet hT (by decide +kernel) hSt ?_; clear hSt; (repeat' (first | (apply QL_ev rfl rfl; (intro w hSt; (first | (exact Ev_strIndex hT rfl rfl rfl (by omega) hq0) | (exact Ev_strIndex hT rfl rfl rfl (by omega) hqp) | (exact Ev_as (v2 := S (45 :: ds)) (Ev_str_slice hT rfl rfl rfl rfl (by omega) (by omega) (by omega)) hsl) | exact Ev_auto))) | refine QL_pass rfl rfl ?_ | (refine QL_guardP rfl rfl (fun hc => ?_) (fun hc => ?_) <;> try exact absA) | (refine QL_guard rfl rfl (fun hc => ?_) (fun hc => ?_) <;> (try exact absA) <;> (fail_if_success (change true = true at hc)) <;> (fail_if_success (change false = false at hc))))); all_goals (refine QL_nil (fun w hSt => ?_))) | (refine stepG ?_ ?_ <;> intro hc <;> (try exact absA) <;> (fail_if_success (change true = true at hc)) <;> (fail_if_success (change false = false at hc))) | fail)
            all_goals try (exfalso; first | omega | (simp at hc; done) | (exact hc rfl) | contradiction)
            all_goals exact ret4 rfl rfl rfl rfl rfl ⟨⟨_, rfl⟩, hSt⟩
        · rw [if_neg h36]
          have h5 : ¬ c.toNat = 45 := fun e => h36 (.inr (.inr (cls5 e)))
          have hw5 : wordC c = false := decide_eq_false (by
            rintro (h | h | h)
            · exact h36 (.inl h)
            · exact absurd h (of_decide_eq_false hcd)
            · exact h36 (.inr (.inl h)))
          rw [hw5] at hw
          repeat' (first | (apply WL_ev rfl rfl; exact Ev_strIndex hT rfl rfl rfl (by omega) hq0) | (refine WL_isCall (f := 123) ?_; refine WL_call (ok_call hT rfl) rfl rfl rfl (hw _) ?_; rintro v w2 ⟨rfl, hc2⟩; replace hSt := hSt.call0 hc2; clear hc2) | (refine WL_isCall (f := 98) ?_; refine WL_call (ok_call hT rfl) rfl rfl rfl (hg _) ?_; rintro v w2 ⟨rfl, hc2⟩; replace hSt := hSt.call0 hc2; clear hc2) | (apply WL_ev rfl rfl; exact Ev_strIndex hT rfl rfl rfl (by omega) hqp) | (apply WL_ev rfl rfl; exact Ev_as (v2 := S (45 :: ds)) (Ev_str_slice hT rfl rfl rfl rfl (by omega) (by omega) (by omega)) hsl) | (refine WL_isCall (f := 124) ?_; refine WL_call (ok_call hT rfl) rfl rfl rfl (hN _) ?_; rintro v w2 ⟨rfl, hc2⟩; replace hSt := hSt.call0 hc2; clear hc2) | refine stepA ?_ | (refine stepS ?_; clear hSt; intro w hSt; dsimp only [spl, List.set] at hSt) | (refine stepB ?_; clear hSt; intro w nb hnb hSt; dsimp only [zcells, List.nil_append, List.cons_append] at hSt) | (refine W_quiet hT (by decide +kernel) hSt ?_; clear hSt; (repeat' (first | (apply QL_ev rfl rfl; (intro w hSt; (first | (exact Ev_strIndex hT rfl rfl rfl (by omega) hq0) | (exact Ev_strIndex hT rfl rfl rfl (by omega) hqp) | (exact Ev_as (v2 := S (45 :: ds)) (Ev_str_slice hT rfl rfl rfl rfl (by omega) (by omega) (by omega)) hsl) | exact Ev_auto))) | refine QL_pass rfl rfl ?_ | (refine QL_guardP rfl rfl (fun hc => ?_) (fun hc => ?_) <;> try exact absA) | (refine QL_guard rfl rfl (fun hc => ?_) (fun hc => ?_) <;> (try exact absA) <;> (fail_if_success (change true = true at hc)) <;> (fail_if_success (change false = false at hc))))); all_goals (refine QL_nil (fun w hSt => ?_))) | (refine stepG ?_ ?_ <;> intro hc <;> (try exact absA) <;> (fail_if_success (change true = true at hc)) <;> (fail_if_success (change false = false at hc))) | fail)
          all_goals try (exfalso; first | omega | (simp at hc; done) | (exact hc rfl) | contradiction)
          all_goals exact ret4 rfl rfl rfl rfl rfl ⟨rfl, hSt⟩
    · have hka : kindAt s q = -1 := by unfold kindAt; rw [List.getElem?_eq_none hqs]
      by_cases hb : ds = [] ∨ (ds.head? = some 48 ∧ (1 < ds.length ∨ true = true))
      · rw [if_pos hb]
        rw [if_pos hb] at hN
        repeat' (first | (apply WL_ev rfl rfl; exact Ev_strIndex hT rfl rfl rfl (by omega) hqp) | (apply WL_ev rfl rfl; exact Ev_as (v2 := S (45 :: ds)) (Ev_str_slice hT rfl rfl rfl rfl (by omega) (by omega) (by omega)) hsl) | (refine WL_isCall (f := 124) ?_; refine WL_call (ok_call hT rfl) rfl rfl rfl (hN _) ?_; rintro v w2 ⟨rfl, hc2⟩; replace hSt := hSt.call0 hc2; clear hc2) | refine stepA ?_ | (refine stepS ?_; clear hSt; intro w hSt; dsimp only [spl, List.set] at hSt) | (refine stepB ?_; clear hSt; intro w nb hnb hSt; dsimp only [zcells, List.nil_append, List.cons_append] at hSt) | (refine W_quiet hT (by decide +kernel) hSt ?_; clear hSt; (repeat' (first | (apply QL_ev rfl rfl; (intro w hSt; (first | (exact Ev_strIndex hT rfl rfl rfl (by omega) hqp) | (exact Ev_as (v2 := S (45 :: ds)) (Ev_str_slice hT rfl rfl rfl rfl (by omega) (by omega) (by omega)) hsl) | exact Ev_auto))) | refine QL_pass rfl rfl ?_ | (refine QL_guardP rfl rfl (fun hc => ?_) (fun hc => ?_) <;> try exact absA) | (refine QL_guard rfl rfl (fun hc => ?_) (fun hc => ?_) <;> (try exact absA) <;> (fail_if_success (change true = true at hc)) <;> (fail_if_success (change false = false at hc))))); all_goals (refine QL_nil (fun w hSt => ?_))) | (refine stepG ?_ ?_ <;> intro hc <;> (try exact absA) <;> (fail_if_success (change true = true at hc)) <;> (fail_if_success (change false = false at hc))) | fail)
        all_goals try (exfalso; first | omega | (simp at hc; done) | (exact hc rfl) | contradiction)
        all_goals exact ret4 rfl rfl rfl rfl rfl ⟨⟨_, rfl⟩, hSt⟩
      rw [if_neg hb]
      rw [if_neg hb] at hN
      cases hnv : numV true ds with
      | none =>
        rw [hnv] at hN
        dsimp only at hN ⊢
        repeat' (first | (apply WL_ev rfl rfl; exact Ev_strIndex hT rfl rfl rfl (by omega) hqp) | (apply WL_ev rfl rfl; exact Ev_as (v2 := S (45 :: ds)) (Ev_str_slice hT rfl rfl rfl rfl (by omega) (by omega) (by omega)) hsl) | (refine WL_isCall (f := 124) ?_; refine WL_call (ok_call hT rfl) rfl rfl rfl (hN _) ?_; rintro v w2 ⟨rfl, hc2⟩; replace hSt := hSt.call0 hc2; clear hc2) | refine stepA ?_ | (refine stepS ?_; clear hSt; intro w hSt; dsimp only [spl, List.set] at hSt) | (refine stepB ?_; clear hSt; intro w nb hnb hSt; dsimp only [zcells, List.nil_append, List.cons_append] at hSt) | (refine W_quiet hT (by decide +kernel) hSt ?_; clear hSt; (repeat' (first | (apply QL_ev rfl rfl; (intro w hSt; (first | (exact Ev_strIndex hT rfl rfl rfl (by omega) hqp) | (exact Ev_as (v2 := S (45 :: ds)) (Ev_str_slice hT rfl rfl rfl rfl (by omega) (by omega) (by omega)) hsl) | exact Ev_auto))) | refine QL_pass rfl rfl ?_ | (refine QL_guardP rfl rfl (fun hc => ?_) (fun hc => ?_) <;> try exact absA) | (refine QL_guard rfl rfl (fun hc => ?_) (fun hc => ?_) <;> (try exact absA) <;> (fail_if_success (change true = true at hc)) <;> (fail_if_success (change false = false at hc))))); all_goals (refine QL_nil (fun w hSt => ?_))) | (refine stepG ?_ ?_ <;> intro hc <;> (try exact absA) <;> (fail_if_success (change true = true at hc)) <;> (fail_if_success (change false = false at hc))) | fail)
        all_goals try (exfalso; first | omega | (simp at hc; done) | (exact hc rfl) | contradiction)
        all_goals exact ret4 rfl rfl rfl rfl rfl ⟨⟨_, rfl⟩, hSt⟩
      | some m =>
        rw [hnv] at hN
        dsimp only at hN ⊢
        rw [if_neg (by rw [hka]; decide)]
        repeat' (first | (apply WL_ev rfl rfl; exact Ev_strIndex hT rfl rfl rfl (by omega) hqp) | (apply WL_ev rfl rfl; exact Ev_as (v2 := S (45 :: ds)) (Ev_str_slice hT rfl rfl rfl rfl (by omega) (by omega) (by omega)) hsl) | (refine WL_isCall (f := 124) ?_; refine WL_call (ok_call hT rfl) rfl rfl rfl (hN _) ?_; rintro v w2 ⟨rfl, hc2⟩; replace hSt := hSt.call0 hc2; clear hc2) | refine stepA ?_ | (refine stepS ?_; clear hSt; intro w hSt; dsimp only [spl, List.set] at hSt) | (refine stepB ?_; clear hSt; intro w nb hnb hSt; dsimp only [zcells, List.nil_append, List.cons_append] at hSt) | (refine W_quiet hT (by decide +kernel) hSt ?_; clear hSt; (repeat' (first | (apply QL_ev rfl rfl; (intro w hSt; (first | (exact Ev_strIndex hT rfl rfl rfl (by omega) hqp) | (exact Ev_as (v2 := S (45 :: ds)) (Ev_str_slice hT rfl rfl rfl rfl (by omega) (by omega) (by omega)) hsl) | exact Ev_auto))) | refine QL_pass rfl rfl ?_ | (refine QL_guardP rfl rfl (fun hc => ?_) (fun hc => ?_) <;> try exact absA) | (refine QL_guard rfl rfl (fun hc => ?_) (fun hc => ?_) <;> (try exact absA) <;> (fail_if_success (change true = true at hc)) <;> (fail_if_success (change false = false at hc))))); all_goals (refine QL_nil (fun w hSt => ?_))) | (refine stepG ?_ ?_ <;> intro hc <;> (try exact absA) <;> (fail_if_success (change true = true at hc)) <;> (fail_if_success (change false = false at hc))) | fail)
        all_goals try (exfalso; first | omega | (simp at hc; done) | (exact hc rfl) | contradiction)
        all_goals exact ret4 rfl rfl rfl rfl rfl ⟨rfl, hSt⟩
  · have hneg : decide (kindAt s p = 5) = false := decide_eq_false (by rw [hkp]; exact fun e => h45 (cls5_iff.1 e))
    replace hpl := Nat.le_of_lt hpl
    have hnf : ∀ q, spanF digC s p = q → numF s p = if cutF s p q = [] ∨ ((cutF s p q).head? = some 48 ∧ (1 < (cutF s p q).length ∨ false = true)) then .err 2 p else match numV false (cutF s p q) with
        | none => .err 4 p
        | some n => if kindAt s q = 3 ∨ kindAt s q = 6 ∨ kindAt s q = 5 then .err 2 q else .tok ⟨2, [], n, p⟩ q := by
      intro q hq
      unfold numF
      dsimp only
      rw [show decide (kindAt s p = 5) = false from hneg]
      rw [show (if false = true then p + 1 else p) = p from rfl, hq]
      rfl
    repeat' (first | (apply WL_ev rfl rfl; exact Ev_strIndex hT rfl rfl rfl (by omega) hqp) | refine stepA ?_ | (refine stepS ?_; clear hSt; intro w hSt; dsimp only [spl, List.set] at hSt) | (refine stepB ?_; clear hSt; intro w nb hnb hSt; dsimp only [zcells, List.nil_append, List.cons_append] at hSt) | (refine W_quiet hT (by decide +kernel) hSt ?_; clear hSt; (repeat' (first | (apply QL_ev rfl rfl; (intro w hSt; (first | (exact Ev_strIndex hT rfl rfl rfl (by omega) hqp) | exact Ev_auto))) | refine QL_pass rfl rfl ?_ | (refine QL_guardP rfl rfl (fun hc => ?_) (fun hc => ?_) <;> try exact absA) | (refine QL_guard rfl rfl (fun hc => ?_) (fun hc => ?_) <;> (try exact absA) <;> (fail_if_success (change true = true at hc)) <;> (fail_if_success (change false = false at hc))))); all_goals (refine QL_nil (fun w hSt => ?_))) | (refine stepG ?_ ?_ <;> intro hc <;> (try exact absA) <;> (fail_if_success (change true = true at hc)) <;> (fail_if_success (change false = false at hc))) | fail)
    all_goals try (exfalso; first | omega | (simp at hc; done) | (exact hc rfl) | contradiction)
    refine W_loop1 (fun k (q : Nat) w => k = s.length - q ∧ q ≤ s.length ∧ p ≤ q ∧ spanF digC s p = spanF digC s q ∧ St w0 NoneS [] w) (fun q => [(8, I (q : Int))]) (s.length - p) p rfl (by (repeat (first | exact Str.nil _ | apply Str.drop rfl | apply Str.keepU rfl | apply Str.keep rfl))) ⟨rfl, hpl, Nat.le_refl _, rfl, hSt⟩ (by (repeat (first | exact Sub.nil _ | refine Sub.cons rfl ?_))) ?_
    clear hSt
    rintro k q w ⟨hk, hq, hpq, hsp, hSt⟩ K hK
    have hg := fun (c : UInt8) (w : World) => rdigit_any (w0 := w) c
    have hw := fun (c : UInt8) (w : World) => rword_any (w0 := w) c
    rcases dig_cases (s := s) (q := q) with ⟨c, hc1, hcd, hspn, hqs⟩ | hend
    · have hq0 : s[(q : Int).toNat]? = some c := by rw [Int.toNat_natCast]; exact hc1
      replace hg := hg c
      rw [hcd] at hg
      repeat' (first | (apply WL_ev rfl rfl; exact Ev_strIndex hT rfl rfl rfl (by omega) hq0) | (refine WL_isCall (f := 98) ?_; refine WL_call (ok_call hT rfl) rfl rfl rfl (hg _) ?_; rintro v w2 ⟨rfl, hc2⟩; replace hSt := hSt.call0 hc2; clear hc2) | refine stepA ?_ | (refine stepS ?_; clear hSt; intro w hSt; dsimp only [spl, List.set] at hSt) | (refine stepB ?_; clear hSt; intro w nb hnb hSt; dsimp only [zcells, List.nil_append, List.cons_append] at hSt) | (refine W_quiet hT (by decide +kernel) hSt ?_; clear hSt; (repeat' (first | (apply QL_ev rfl rfl; (intro w hSt; (first | (exact Ev_strIndex hT rfl rfl rfl (by omega) hq0) | exact Ev_auto))) | refine QL_pass rfl rfl ?_ | (refine QL_guardP rfl rfl (fun hc => ?_) (fun hc => ?_) <;> try exact absA) | (refine QL_guard rfl rfl (fun hc => ?_) (fun hc => ?_) <;> (try exact absA) <;> (fail_if_success (change true = true at hc)) <;> (fail_if_success (change false = false at hc))))); all_goals (refine QL_nil (fun w hSt => ?_))) | (refine stepG ?_ ?_ <;> intro hc <;> (try exact absA) <;> (fail_if_success (change true = true at hc)) <;> (fail_if_success (change false = false at hc))) | fail)
      all_goals try (exfalso; first | omega | (simp at hc; done) | (exact hc rfl) | contradiction)
      all_goals exact At_loop1 hK (k' := s.length - (q + 1)) (q + 1) (by omega) ⟨rfl, hqs, by omega, by rw [hsp, hspn], hSt⟩ (by (repeat (first | exact Sub.nil _ | refine Sub.cons rfl ?_)))
    have hse : spanF digC s p = q := by rw [hsp]; rcases hend with ⟨_, _, _, h, _⟩ | ⟨h, _⟩ <;> exact h
    rw [hnf q hse]
    obtain ⟨ds, hds⟩ : ∃ ds, ds = cutF s p q := ⟨_, rfl⟩
    have hdig : ∀ c ∈ ds, 48 ≤ c.toNat ∧ c.toNat ≤ 57 := fun c hc => cls4_inv (of_decide_eq_true (takeWhile_mem (by rw [hds, cut_span hse] at hc; exact hc)))
    have hdl : ds.length ≤ s.length := by rw [hds]; unfold cutF; rw [List.length_take, List.length_drop]; omega
    have hsl : S ((s.drop ((p : Int)).toNat).take (((q : Int)).toNat - ((p : Int)).toNat)) = S ds := by
      rw [Int.toNat_natCast, Int.toNat_natCast, hds]; rfl
    rw [← hds]
    have hN := fun w : World => rNumberP_any (w0 := w) ds hdig (by omega)
    unfold numB at hN
    clear hds hnf
    rcases hend with ⟨c, hc1, hcd, hspn, hqs⟩ | ⟨hspn, hqs⟩
    · have hq0 : s[(q : Int).toNat]? = some c := by rw [Int.toNat_natCast]; exact hc1
      have hka : kindAt s q = clsF c := by unfold kindAt; rw [hc1]
      rw [hka]
      replace hg := hg c
      replace hw := hw c
      rw [hcd] at hg
      by_cases hb : ds = [] ∨ (ds.head? = some 48 ∧ (1 < ds.length ∨ false = true))
      · rw [if_pos hb]
        rw [if_pos hb] at hN
        repeat' (first | (apply WL_ev rfl rfl; exact Ev_strIndex hT rfl rfl rfl (by omega) hq0) | (refine WL_isCall (f := 98) ?_; refine WL_call (ok_call hT rfl) rfl rfl rfl (hg _) ?_; rintro v w2 ⟨rfl, hc2⟩; replace hSt := hSt.call0 hc2; clear hc2) | (apply WL_ev rfl rfl; exact Ev_strIndex hT rfl rfl rfl (by omega) hqp) | (apply WL_ev rfl rfl; exact Ev_as (v2 := S ds) (Ev_str_slice hT rfl rfl rfl rfl (by omega) (by omega) (by omega)) hsl) | (refine WL_isCall (f := 124) ?_; refine WL_call (ok_call hT rfl) rfl rfl rfl (hN _) ?_; rintro v w2 ⟨rfl, hc2⟩; replace hSt := hSt.call0 hc2; clear hc2) | refine stepA ?_ | (refine stepS ?_; clear hSt; intro w hSt; dsimp only [spl, List.set] at hSt) | (refine stepB ?_; clear hSt; intro w nb hnb hSt; dsimp only [zcells, List.nil_append, List.cons_append] at hSt) | (refine W_quiet hT (by decide +kernel) hSt ?_; clear hSt; (repeat' (first | (apply QL_ev rfl rfl; (intro w hSt; (first | (exact Ev_strIndex hT rfl rfl rfl (by omega) hq0) | (exact Ev_strIndex hT rfl rfl rfl (by omega) hqp) | (exact Ev_as (v2 := S ds) (Ev_str_slice hT rfl rfl rfl rfl (by omega) (by omega) (by omega)) hsl) | exact Ev_auto))) | refine QL_pass rfl rfl ?_ | (refine QL_guardP rfl rfl (fun hc => ?_) (fun hc => ?_) <;> try exact absA) | (refine QL_guard rfl rfl (fun hc => ?_) (fun hc => ?_) <;> (try exact absA) <;> (fail_if_success (change true = true at hc)) <;> (fail_if_success (change false = false at hc))))); all_goals (refine QL_nil (fun w hSt => ?_))) | (refine stepG ?_ ?_ <;> intro hc <;> (try exact absA) <;> (fail_if_success (change true = true at hc)) <;> (fail_if_success (change false = false at hc))) | fail)
        all_goals try (exfalso; first | omega | (simp at hc; done) | (exact hc rfl) | contradiction)
        all_goals exact ret4 rfl rfl rfl rfl rfl ⟨⟨_, rfl⟩, hSt⟩
      rw [if_neg hb]
      rw [if_neg hb] at hN
      cases hnv : numV false ds with
      | none =>
        rw [hnv] at hN
        dsimp only at hN ⊢
        repeat' (first | (apply WL_ev rfl rfl; exact Ev_strIndex hT rfl rfl rfl (by omega) hq0) | (refine WL_isCall (f := 98) ?_; refine WL_call (ok_call hT rfl) rfl rfl rfl (hg _) ?_; rintro v w2 ⟨rfl, hc2⟩; replace hSt := hSt.call0 hc2; clear hc2) | (apply WL_ev rfl rfl; exact Ev_strIndex hT rfl rfl rfl (by omega) hqp) | (apply WL_ev rfl rfl; exact Ev_as (v2 := S ds) (Ev_str_slice hT rfl rfl rfl rfl (by omega) (by omega) (by omega)) hsl) | (refine WL_isCall (f := 124) ?_; refine WL_call (ok_call hT rfl) rfl rfl rfl (hN _) ?_; rintro v w2 ⟨rfl, hc2⟩; replace hSt := hSt.call0 hc2; clear hc2) | refine stepA ?_ | (refine stepS ?_; clear hSt; intro w hSt; dsimp only [spl, List.set] at hSt) | (refine stepB ?_; clear hSt; intro w nb hnb hSt; dsimp only [zcells, List.nil_append, List.cons_append] at hSt) | (refine W_quiet hT (by decide +kernel) hSt ?_; clear hSt; (repeat' (first | (apply QL_ev rfl rfl; (intro w hSt; (first | (exact Ev_strIndex hT rfl rfl rfl (by omega) hq0) | (exact Ev_strIndex hT rfl rfl rfl (by omega) hqp) | (exact Ev_as (v2 := S ds) (Ev_str_slice hT rfl rfl rfl rfl (by omega) (by omega) (by omega)) hsl) | exact Ev_auto))) | refine QL_pass rfl rfl ?_ | (refine QL_guardP rfl rfl (fun hc => ?_) (fun hc => ?_) <;> try exact absA) | (refine QL_guard rfl rfl (fun hc => ?_) (fun hc => ?_) <;> (try exact absA) <;> (fail_if_success (change true = true at hc)) <;> (fail_if_success (change false = false at hc))))); all_goals (refine QL_nil (fun w hSt => ?_))) | (refine stepG ?_ ?_ <;> intro hc <;> (try exact absA) <;> (fail_if_success (change true = true at hc)) <;> (fail_if_success (change false = false at hc))) | fail)
        all_goals try (exfalso; first | omega | (simp at hc; done) | (exact hc rfl) | contradiction)
        all_goals exact ret4 rfl rfl rfl rfl rfl ⟨⟨_, rfl⟩, hSt⟩
      | some m =>
        rw [hnv] at hN
        dsimp only at hN ⊢
        by_cases h36 : clsF c = 3 ∨ clsF c = 6 ∨ clsF c = 5
        · rw [if_pos h36]
          by_cases h5 : c.toNat = 45
          · have hw5 : wordC c = false := by unfold wordC; rw [cls5 h5]; rfl
            rw [hw5] at hw
            repeat' (first | (apply WL_ev rfl rfl; exact Ev_strIndex hT rfl rfl rfl (by omega) hq0) | (refine WL_isCall (f := 123) ?_; refine WL_call (ok_call hT rfl) rfl rfl rfl (hw _) ?_; rintro v w2 ⟨rfl, hc2⟩; replace hSt := hSt.call0 hc2; clear hc2) | (refine WL_isCall (f := 98) ?_; refine WL_call (ok_call hT rfl) rfl rfl rfl (hg _) ?_; rintro v w2 ⟨rfl, hc2⟩; replace hSt := hSt.call0 hc2; clear hc2) | (apply WL_ev rfl rfl; exact Ev_strIndex hT rfl rfl rfl (by omega) hqp) | (apply WL_ev rfl rfl; exact Ev_as (v2 := S ds) (Ev_str_slice hT rfl rfl rfl rfl (by omega) (by omega) (by omega)) hsl) | (refine WL_isCall (f := 124) ?_; refine WL_call (ok_call hT rfl) rfl rfl rfl (hN _) ?_; rintro v w2 ⟨rfl, hc2⟩; replace hSt := hSt.call0 hc2; clear hc2) | refine stepA ?_ | (refine stepS ?_; clear hSt; intro w hSt; dsimp only [spl, List.set] at hSt) | (refine stepB ?_; clear hSt; intro w nb hnb hSt; dsimp only [zcells, List.nil_append, List.cons_append] at hSt) | (refine W_quiet hT (by decide +kernel) hSt ?_; clear hSt; (repeat' (first | (apply QL_ev rfl rfl; (intro w hSt; (first | (exact Ev_strIndex hT rfl rfl rfl (by omega) hq0) | (exact Ev_strIndex hT rfl rfl rfl (by omega) hqp) | (exact Ev_as (v2 := S ds) (Ev_str_slice hT rfl rfl rfl rfl (by omega) (by omega) (by omega)) hsl) | exact Ev_auto))) | refine QL_pass rfl rfl ?_ | (refine QL_guardP rfl rfl (fun hc => ?_) (fun hc => ?_) <;> try exact absA) | (refine QL_guard rfl rfl (fun hc => ?_) (fun hc => ?_) <;> (try exact absA) <;> (fail_if_success (change true = true at hc)) <;> (fail_if_success (change false = false at hc))))); all_goals (refine QL_nil (fun w hSt => ?_))) | (refine stepG ?_ ?_ <;> intro hc <;> (try exact absA) <;> (fail_if_success (change true = true at hc)) <;> (fail_if_success (change false = false at hc))) | fail)
            all_goals try (exfalso; first | omega | (simp at hc; done) | (exact hc rfl) | contradiction)
            all_goals exact ret4 rfl rfl rfl rfl rfl ⟨⟨_, rfl⟩, hSt⟩
          · have hw5 : wordC c = true := decide_eq_true (h36.elim .inl (fun h => h.elim (fun h => .inr (.inr h)) (fun h => absurd (cls5_iff.1 h) h5)))
            rw [hw5] at hw
            repeat' (first | (apply WL_ev rfl rfl; exact Ev_strIndex hT rfl rfl rfl (by omega) hq0) | (refine WL_isCall (f := 123) ?_; refine WL_call (ok_call hT rfl) rfl rfl rfl (hw _) ?_; rintro v w2 ⟨rfl, hc2⟩; replace hSt := hSt.call0 hc2; clear hc2) | (refine WL_isCall (f := 98) ?_; refine WL_call (ok_call hT rfl) rfl rfl rfl (hg _) ?_; rintro v w2 ⟨rfl, hc2⟩; replace hSt := hSt.call0 hc2; clear hc2) | (apply WL_ev rfl rfl; exact Ev_strIndex hT rfl rfl rfl (by omega) hqp) | (apply WL_ev rfl rfl; exact Ev_as (v2 := S ds) (Ev_str_slice hT rfl rfl rfl rfl (by omega) (by omega) (by omega)) hsl) | (refine WL_isCall (f := 124) ?_; refine WL_call (ok_call hT rfl) rfl rfl rfl (hN _) ?_; rintro v w2 ⟨rfl, hc2⟩; replace hSt := hSt.call0 hc2; clear hc2) | refine stepA ?_ | (refine stepS ?_; clear hSt; intro w hSt; dsimp only [spl, List.set] at hSt) | (refine stepB ?_; clear hSt; intro w nb hnb hSt; dsimp only [zcells, List.nil_append, List.cons_append] at hSt) | (refine W_quiet hT (by decide +kernel) hSt ?_; clear hSt; (repeat' (first | (apply QL_ev rfl rfl; (intro w hSt; (first | (exact Ev_strIndex hT rfl rfl rfl (by omega) hq0) | (exact Ev_strIndex hT rfl rfl rfl (by omega) hqp) | (exact Ev_as (v2 := S ds) (Ev_str_slice hT rfl rfl rfl rfl (by omega) (by omega) (by omega)) hsl) | exact Ev_auto))) | refine QL_pass rfl rfl ?_ | (refine QL_guardP rfl rfl (fun hc => ?_) (fun hc => ?_) <;> try exact absA) | (refine QL_guard rfl rfl (fun hc => ?_) (fun hc => ?_) <;> (try exact absA) <;> (fail_if_success (change true = true at hc)) <;> (fail_if_success (change false = false at hc))))); all_goals (refine QL_nil (fun w hSt => ?_))) | (refine stepG ?_ ?_ <;> intro hc <;> (try exact absA) <;> (fail_if_success (change true = true at hc)) <;> (fail_if_success (change false = false at hc))) | fail)
            all_goals try (exfalso; first | omega | (simp at hc; done) | (exact hc rfl) | contradiction)
            all_goals exact ret4 rfl rfl rfl rfl rfl ⟨⟨_, rfl⟩, hSt⟩
        · rw [if_neg h36]
          have h5 : ¬ c.toNat = 45 := fun e => h36 (.inr (.inr (cls5 e)))
          have hw5 : wordC c = false := decide_eq_false (by
            rintro (h | h | h)
            · exact h36 (.inl h)
            · exact absurd h (of_decide_eq_false hcd)
            · exact h36 (.inr (.inl h)))
          rw [hw5] at hw
          repeat' (first | (apply WL_ev rfl rfl; exact Ev_strIndex hT rfl rfl rfl (by omega) hq0) | (refine WL_isCall (f := 123) ?_; refine WL_call (ok_call hT rfl) rfl rfl rfl (hw _) ?_; rintro v w2 ⟨rfl, hc2⟩; replace hSt := hSt.call0 hc2; clear hc2) | (refine WL_isCall (f := 98) ?_; refine WL_call (ok_call hT rfl) rfl rfl rfl (hg _) ?_; rintro v w2 ⟨rfl, hc2⟩; replace hSt := hSt.call0 hc2; clear hc2) | (apply WL_ev rfl rfl; exact Ev_strIndex hT rfl rfl rfl (by omega) hqp) | (apply WL_ev rfl rfl; exact Ev_as (v2 := S ds) (Ev_str_slice hT rfl rfl rfl rfl (by omega) (by omega) (by omega)) hsl) | (refine WL_isCall (f := 124) ?_; refine WL_call (ok_call hT rfl) rfl rfl rfl (hN _) ?_; rintro v w2 ⟨rfl, hc2⟩; replace hSt := hSt.call0 hc2; clear hc2) | refine stepA ?_ | (refine stepS ?_; clear hSt; intro w hSt; dsimp only [spl, List.set] at hSt) | (refine stepB ?_; clear hSt; intro w nb hnb hSt; dsimp only [zcells, List.nil_append, List.cons_append] at hSt) | (refine W_quiet hT (by decide +kernel) hSt ?_; clear hSt; (repeat' (first | (apply QL_ev rfl rfl; (intro w hSt; (first | (exact Ev_strIndex hT rfl rfl rfl (by omega) hq0) | (exact Ev_strIndex hT rfl rfl rfl (by omega) hqp) | (exact Ev_as (v2 := S ds) (Ev_str_slice hT rfl rfl rfl rfl (by omega) (by omega) (by omega)) hsl) | exact Ev_auto))) | refine QL_pass rfl rfl ?_ | (refine QL_guardP rfl rfl (fun hc => ?_) (fun hc => ?_) <;> try exact absA) | (refine QL_guard rfl rfl (fun hc => ?_) (fun hc => ?_) <;> (try exact absA) <;> (fail_if_success (change true = true at hc)) <;> (fail_if_success (change false = false at hc))))); all_goals (refine QL_nil (fun w hSt => ?_))) | (refine stepG ?_ ?_ <;> intro hc <;> (try exact absA) <;> (fail_if_success (change true = true at hc)) <;> (fail_if_success (change false = false at hc))) | fail)
          all_goals try (exfalso; first | omega | (simp at hc; done) | (exact hc rfl) | contradiction)
          all_goals exact ret4 rfl rfl rfl rfl rfl ⟨rfl, hSt⟩
    · have hka : kindAt s q = -1 := by unfold kindAt; rw [List.getElem?_eq_none hqs]
      by_cases hb : ds = [] ∨ (ds.head? = some 48 ∧ (1 < ds.length ∨ false = true))
      · rw [if_pos hb]
        rw [if_pos hb] at hN
        repeat' (first | (apply WL_ev rfl rfl; exact Ev_strIndex hT rfl rfl rfl (by omega) hqp) | (apply WL_ev rfl rfl; exact Ev_as (v2 := S ds) (Ev_str_slice hT rfl rfl rfl rfl (by omega) (by omega) (by omega)) hsl) | (refine WL_isCall (f := 124) ?_; refine WL_call (ok_call hT rfl) rfl rfl rfl (hN _) ?_; rintro v w2 ⟨rfl, hc2⟩; replace hSt := hSt.call0 hc2; clear hc2) | refine stepA ?_ | (refine stepS ?_; clear hSt; intro w hSt; dsimp only [spl, List.set] at hSt) | (refine stepB ?_; clear hSt; intro w nb hnb hSt; dsimp only [zcells, List.nil_append, List.cons_append] at hSt) | (refine W_quiet hT (by decide +kernel) hSt ?_; clear hSt; (repeat' (first | (apply QL_ev rfl rfl; (intro w hSt; (first | (exact Ev_strIndex hT rfl rfl rfl (by omega) hqp) | (exact Ev_as (v2 := S ds) (Ev_str_slice hT rfl rfl rfl rfl (by omega) (by omega) (by omega)) hsl) | exact Ev_auto))) | refine QL_pass rfl rfl ?_ | (refine QL_guardP rfl rfl (fun hc => ?_) (fun hc => ?_) <;> try exact absA) | (refine QL_guard rfl rfl (fun hc => ?_) (fun hc => ?_) <;> (try exact absA) <;> (fail_if_success (change true = true at hc)) <;> (fail_if_success (change false = false at hc))))); all_goals (refine QL_nil (fun w hSt => ?_))) | (refine stepG ?_ ?_ <;> intro hc <;> (try exact absA) <;> (fail_if_success (change true = true at hc)) <;> (fail_if_success (change false = false at hc))) | fail)
        all_goals try (exfalso; first | omega | (simp at hc; done) | (exact hc rfl) | contradiction)
        all_goals exact ret4 rfl rfl rfl rfl rfl ⟨⟨_, rfl⟩, hSt⟩
      rw [if_neg hb]
      rw [if_neg hb] at hN
      cases hnv : numV false ds with
      | none =>
        rw [hnv] at hN
        dsimp only at hN ⊢
        repeat' (first | (apply WL_ev rfl rfl; exact Ev_strIndex hT rfl rfl rfl (by omega) hqp) | (apply WL_ev rfl rfl; exact Ev_as (v2 := S ds) (Ev_str_slice hT rfl rfl rfl rfl (by omega) (by omega) (by omega)) hsl) | (refine WL_isCall (f := 124) ?_; refine WL_call (ok_call hT rfl) rfl rfl rfl (hN _) ?_; rintro v w2 ⟨rfl, hc2⟩; replace hSt := hSt.call0 hc2; clear hc2) | refine stepA ?_ | (refine stepS ?_; clear hSt; intro w hSt; dsimp only [spl, List.set] at hSt) | (refine stepB ?_; clear hSt; intro w nb hnb hSt; dsimp only [zcells, List.nil_append, List.cons_append] at hSt) | (refine W_quiet hT (by decide +kernel) hSt ?_; clear hSt; (repeat' (first | (apply QL_ev rfl rfl; (intro w hSt; (first | (exact Ev_strIndex hT rfl rfl rfl (by omega) hqp) | (exact Ev_as (v2 := S ds) (Ev_str_slice hT rfl rfl rfl rfl (by omega) (by omega) (by omega)) hsl) | exact Ev_auto))) | refine QL_pass rfl rfl ?_ | (refine QL_guardP rfl rfl (fun hc => ?_) (fun hc => ?_) <;> try exact absA) | (refine QL_guard rfl rfl (fun hc => ?_) (fun hc => ?_) <;> (try exact absA) <;> (fail_if_success (change true = true at hc)) <;> (fail_if_success (change false = false at hc))))); all_goals (refine QL_nil (fun w hSt => ?_))) | (refine stepG ?_ ?_ <;> intro hc <;> (try exact absA) <;> (fail_if_success (change true = true at hc)) <;> (fail_if_success (change false = false at hc))) | fail)
        all_goals try (exfalso; first | omega | (simp at hc; done) | (exact hc rfl) | contradiction)
        all_goals exact ret4 rfl rfl rfl rfl rfl ⟨⟨_, rfl⟩, hSt⟩
      | some m =>
        rw [hnv] at hN
        dsimp only at hN ⊢
        rw [if_neg (by rw [hka]; decide)]
        repeat' (first | (apply WL_ev rfl rfl; exact Ev_strIndex hT rfl rfl rfl (by omega) hqp) | (apply WL_ev rfl rfl; exact Ev_as (v2 := S ds) (Ev_str_slice hT rfl rfl rfl rfl (by omega) (by omega) (by omega)) hsl) | (refine WL_isCall (f := 124) ?_; refine WL_call (ok_call hT rfl) rfl rfl rfl (hN _) ?_; rintro v w2 ⟨rfl, hc2⟩; replace hSt := hSt.call0 hc2; clear hc2) | refine stepA ?_ | (refine stepS ?_; clear hSt; intro w hSt; dsimp only [spl, List.set] at hSt) | (refine stepB ?_; clear hSt; intro w nb hnb hSt; dsimp only [zcells, List.nil_append, List.cons_append] at hSt) | (refine W_quiet hT (by decide +kernel) hSt ?_; clear hSt; (repeat' (first | (apply QL_ev rfl rfl; (intro w hSt; (first | (exact Ev_strIndex hT rfl rfl rfl (by omega) hqp) | (exact Ev_as (v2 := S ds) (Ev_str_slice hT rfl rfl rfl rfl (by omega) (by omega) (by omega)) hsl) | exact Ev_auto))) | refine QL_pass rfl rfl ?_ | (refine QL_guardP rfl rfl (fun hc => ?_) (fun hc => ?_) <;> try exact absA) | (refine QL_guard rfl rfl (fun hc => ?_) (fun hc => ?_) <;> (try exact absA) <;> (fail_if_success (change true = true at hc)) <;> (fail_if_success (change false = false at hc))))); all_goals (refine QL_nil (fun w hSt => ?_))) | (refine stepG ?_ ?_ <;> intro hc <;> (try exact absA) <;> (fail_if_success (change true = true at hc)) <;> (fail_if_success (change false = false at hc))) | fail)
        all_goals try (exfalso; first | omega | (simp at hc; done) | (exact hc rfl) | contradiction)
        all_goals exact ret4 rfl rfl rfl rfl rfl ⟨rfl, hSt⟩
end Go.Proofs.YtknfankadlokhaaGreatDoor
