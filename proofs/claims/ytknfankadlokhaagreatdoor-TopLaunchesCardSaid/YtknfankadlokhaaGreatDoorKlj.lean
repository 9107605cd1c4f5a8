/- TopLaunches where all is accepted. No conditions. -/
import Derived.Test.YtknfankadlokhaaGreatDoorKlg
import Derived.Test.YtknfankadlokhaaGreatDoorKli

namespace Go.Proofs.YtknfankadlokhaaGreatDoor
open Go.RowKit
set_option maxRecDepth 4000
set_option linter.unusedVariables false
set_option linter.unusedSimpArgs false
set_option maxHeartbeats 16000000

/-- what has a text, or is empty, is parsed again as it was -/
theorem fmt_again {s : List Ln} (hck : checkF s = 0) (h : ¬ (fmtS s = [] ∧ s.length ≠ 0)) : ∃ f, listP f (scanF (fmtS s)) = some (.ok s) := by
  by_cases hl : (fmtF s).length ≤ 4000
  · rw [show fmtS s = fmtF s by unfold fmtS; rw [if_pos ⟨hck, hl⟩]]
    exact list_again hck hl
  · exfalso
    have h1 : fmtS s = [] := by unfold fmtS; rw [if_neg (fun e => hl e.2)]
    cases s with
    | nil => exact hl (by decide)
    | cons a l => exact h ⟨h1, by simp⟩
theorem top_main {w0 : World} {x y : Tx} {f f2 : Nat} {l : List Ln} {g : List Sg} (hV : Mx w0) (hR : Ru w0) (h : ¬ (800 < x.length ∨ 400 < y.length)) (hp : listP f (scanF x) = some (.ok l)) (hq : argsP f2 (scanF y) = some (.ok g)) (hs : (selectF l g).2 = 0) : Cl Tryz.prog 3 [S x, S y] w0 (fun v w' => v = B true ∧ St w0 NoneS [] w') := by
  have hSt := St.refl w0 NoneS
  obtain ⟨h0, hn⟩ := list_num (scan_ok x) hp
  obtain ⟨hg1, hg2⟩ := args_tx hq
  obtain ⟨hck, hsn⟩ := sel_right hs hn
  have hof : orderF (selectF l g).1 = startF (selectF l g).1 := by unfold orderF; rw [if_pos hck]
  have hfl := start_full hck
  have hrl : (startF (selectF l g).1).reverse.length = (startF (selectF l g).1).length := List.length_reverse
  refine enter Tryz.func3 rfl Tryz.ntmps3 rfl ?_
  repeat' (first | (refine WL_isCall (f := 8) ?_; refine WL_call (ok_call hT rfl) rfl rfl rfl (parse_any (scan_any x) (scan_ok x) hp) ?_; rintro v w2 ⟨lv, H1, rfl, hL, hc2⟩; replace hSt := hSt.newN hc2; clear hc2; try dsimp only [List.nil_append] at hSt) | (refine WL_isCall (f := 9) ?_; refine WL_call (ok_call hT rfl) rfl rfl rfl (args_any (scan_any y) (scan_ok y) hq) ?_; rintro v w2 ⟨sv, H2, rfl, hO, _, hc2⟩; replace hSt := hSt.newN hc2; clear hc2) | (refine WL_isCall (f := 10) ?_; refine WL_call (ok_call hT rfl) rfl rfl rfl (select_any (hV.kept hSt.nil.keeps) (hL _ hSt.left.has) (OwnSl.slAt (f := sgC) (fun _ => rfl) hO hSt.right.has) hg1 hg2 (fun x hx => by have := (hn x hx).2; omega)) ?_; rintro v w2 ⟨nv, H3, rfl, ⟨na, nc, rfl⟩, hN, hc2⟩; replace hSt := hSt.newN hc2; clear hc2) | (refine WL_isCall (f := 11) ?_; refine WL_call (ok_call hT rfl) rfl rfl rfl (order_any (hN _ hSt.right.has)) ?_; rintro v w2 ⟨ov, H4, rfl, hO4, hc2⟩; replace hSt := hSt.newN hc2; clear hc2) | (refine WL_isCall (f := 12) ?_; refine WL_call (ok_call hT rfl) rfl rfl rfl (stop_good (hN _ hSt.left.right.has) hck) ?_; rintro v w2 ⟨rv, H5, rfl, hO5, hc2⟩; replace hSt := hSt.newN hc2; clear hc2) | refine stepA ?_ | (refine stepS ?_; clear hSt; intro w hSt; dsimp only [spl, List.set] at hSt) | (refine stepB ?_; clear hSt; intro w nb hnb hSt; dsimp only [zcells, List.nil_append, List.cons_append] at hSt) | (refine W_quiet hT (by decide +kernel) hSt ?_; clear hSt; (repeat' (first | (apply QL_ev rfl rfl; (intro w hSt; (first | exact Ev_auto))) | refine QL_pass rfl rfl ?_ | (refine QL_guardP rfl rfl (fun hc => ?_) (fun hc => ?_) <;> try exact absA) | (refine QL_guard rfl rfl (fun hc => ?_) (fun hc => ?_) <;> (try exact absA) <;> (fail_if_success (change true = true at hc)) <;> (fail_if_success (change false = false at hc))))); all_goals (refine QL_nil (fun w hSt => ?_))) | (refine stepG ?_ ?_ <;> intro hc <;> (try exact absA) <;> (fail_if_success (change true = true at hc)) <;> (fail_if_success (change false = false at hc))) | fail)
  all_goals try (exfalso; first | omega | (simp at hc; done) | (exact hc rfl) | contradiction)
  obtain ⟨oa, ok, rfl, _⟩ := (own_tc hO4 hSt.left.right.has).map
  obtain ⟨ra, rk, rfl, _⟩ := (own_tc hO5 hSt.right.has).map
  rw [hof] at hO4
  rw [hof]
  repeat' (first | refine stepA ?_ | (refine stepS ?_; clear hSt; intro w hSt; dsimp only [spl, List.set] at hSt) | (refine stepB ?_; clear hSt; intro w nb hnb hSt; dsimp only [zcells, List.nil_append, List.cons_append] at hSt) | (refine W_quiet hT (by decide +kernel) hSt ?_; clear hSt; (repeat' (first | (apply QL_ev rfl rfl; (intro w hSt; (first | exact Ev_auto))) | refine QL_pass rfl rfl ?_ | (refine QL_guardP rfl rfl (fun hc => ?_) (fun hc => ?_) <;> try exact absA) | (refine QL_guard rfl rfl (fun hc => ?_) (fun hc => ?_) <;> (try exact absA) <;> (fail_if_success (change true = true at hc)) <;> (fail_if_success (change false = false at hc))))); all_goals (refine QL_nil (fun w hSt => ?_))) | (refine stepG ?_ ?_ <;> intro hc <;> (try exact absA) <;> (fail_if_success (change true = true at hc)) <;> (fail_if_success (change false = false at hc))) | fail)
  all_goals try (exfalso; first | omega | (simp at hc; done) | (exact hc rfl) | contradiction)
  have hB := hSt
  have hL3 := hN _ hSt.left.left.right.has
  have s4 := own_tc hO4 hSt.left.right.has
  have s5 := own_tc hO5 hSt.right.has
  have hV2 := hV.kept hSt.nil.keeps
  have hR2 := hR.kept hSt.nil.keeps
  replace hSt := St.refl w2 NoneS
  clear hL hO hN hO4 hO5
  apply W_sub (L' := [(17, I (0 : Nat)), (11, _), (13, _), (15, _)]) (by (repeat (first | exact Sub.nil _ | refine Sub.cons rfl ?_)))
  obtain ⟨s, hse⟩ : ∃ s, s = (selectF l g).1 := ⟨_, rfl⟩
  rw [← hse] at hck hsn hof hfl hrl hL3 s4 s5
  rw [← hse]
  obtain ⟨o, hoe⟩ : ∃ o, o = startF s := ⟨_, rfl⟩
  have hown : ∀ (k : Nat) (n : Tx), o[k]? = some n → hasF (o.take k) n = false := fun k n hk => by subst hoe; exact own_before hk
  have haft : ∀ (i k : Nat) (e : Ln), s[i]? = some e → o[k]? = some e.node → ∀ n ∈ e.after, hasF (o.take k) n = true := fun i k e he hk n hn => by subst hoe; exact after_before hck he hk hn
  have hdep : ∀ (i : Nat) (e : Ln), s[i]? = some e → ∀ n ∈ e.after, dependsF s e.node n = true := fun i e he n hn => after_depends hck he hn
  rw [← hoe] at hof hfl hrl s4 s5
  rw [← hoe]
  obtain ⟨a4, p4, e4, hc4⟩ := s4.map
  injection e4 with e4 _ e4'
  subst e4 e4'
  obtain ⟨a5, p5, e5, hc5⟩ := s5.map
  injection e5 with e5 _ e5'
  subst e5 e5'
  obtain ⟨a3, p3, xs, e3, _, hlen, _, _, _, hc3⟩ := hL3.out
  injection e3 with e3 _ e3'
  subst e3 e3'
  refine W_loop1 (fun m (k : Nat) w => m = o.length - k ∧ k ≤ o.length ∧ St w2 NoneS [] w) (fun k => [(17, I (k : Int))]) o.length 0 rfl (by (repeat (first | exact Str.nil _ | apply Str.drop rfl | apply Str.keepU rfl | apply Str.keep rfl))) ⟨rfl, Nat.zero_le _, hSt⟩ (by (repeat (first | exact Sub.nil _ | refine Sub.cons rfl ?_))) ?_
  clear hSt
  rintro m k w ⟨hm, hk, hSt⟩ K hK
  by_cases hkl : k < o.length
  rotate_left 1
  · have hfm := fun (w1 : World) (kp : Keeps w2 w1) => format_any (hV2.kept kp) (hL3.kept kp) hsn
    by_cases hgo : fmtS s = [] ∧ s.length ≠ 0
    · obtain ⟨hg1, hg2⟩ := hgo
      repeat' (first | (refine WL_isCall (f := 18) ?_; refine WL_call (ok_call hT rfl) rfl rfl rfl (hfm _ hSt.nil.keeps) ?_; rintro v w2 ⟨rfl, hc2⟩; replace hSt := hSt.call0 hc2; clear hc2) | (refine WL_isCall (f := 7) ?_; refine WL_call (ok_call hT rfl) rfl rfl rfl (lawake_any (hV2.kept hSt.nil.keeps)) ?_; rintro v w2 ⟨rfl, hc2⟩; replace hSt := hSt.call0 hc2; clear hc2) | refine stepA ?_ | (refine stepS ?_; clear hSt; intro w hSt; dsimp only [spl, List.set] at hSt) | (refine stepB ?_; clear hSt; intro w nb hnb hSt; dsimp only [zcells, List.nil_append, List.cons_append] at hSt) | (refine W_quiet hT (by decide +kernel) hSt ?_; clear hSt; (repeat' (first | (apply QL_ev rfl rfl; (intro w hSt; (first | exact Ev_auto))) | refine QL_pass rfl rfl ?_ | (refine QL_guardP rfl rfl (fun hc => ?_) (fun hc => ?_) <;> try exact absA) | (refine QL_guard rfl rfl (fun hc => ?_) (fun hc => ?_) <;> (try exact absA) <;> (fail_if_success (change true = true at hc)) <;> (fail_if_success (change false = false at hc))))); all_goals (refine QL_nil (fun w hSt => ?_))) | (refine stepG ?_ ?_ <;> intro hc <;> (try exact absA) <;> (fail_if_success (change true = true at hc)) <;> (fail_if_success (change false = false at hc))) | fail)
      all_goals try (exfalso; first | omega | (simp at hc; done) | (exact hc rfl) | contradiction)
      all_goals exact ret1 rfl rfl ⟨rfl, (hB.call0 hSt.nil).nil⟩
    obtain ⟨f3, hp3⟩ := fmt_again hck hgo
    have hord := fun (w1 : World) (v1 : Value) (hx : Lns w1 v1 s) => order_any hx
    rw [hof, hck] at hord
    have hgo2 : fmtS s ≠ [] ∨ (fmtS s = [] ∧ s.length = 0) := by
      by_cases h1 : fmtS s = []
      · exact .inr ⟨h1, by false_or_by_contra; rename_i h2; exact hgo ⟨h1, h2⟩⟩
      · exact .inl h1
    have fin : ∀ {w3 : World}, St w2 NoneS [] w3 → St w0 NoneS [] w3 := fun h3 => (hB.call0 h3).nil
    rcases hgo2 with hg1 | ⟨hg1, hg2⟩
    all_goals (
      repeat' (first | (refine WL_isCall (f := 18) ?_; refine WL_call (ok_call hT rfl) rfl rfl rfl (hfm _ hSt.nil.keeps) ?_; rintro v w2 ⟨rfl, hc2⟩; replace hSt := hSt.call0 hc2; clear hc2) | (refine WL_isCall (f := 8) ?_; refine WL_call (ok_call hT rfl) rfl rfl rfl (parse_any (scan_any (fmtS s)) (scan_ok (fmtS s)) hp3) ?_; rintro v w2 ⟨lv, H6, rfl, hL6, hc2⟩; replace hSt := hSt.newN hc2; clear hc2) | (refine WL_isCall (f := 11) ?_; refine WL_call (ok_call hT rfl) rfl rfl rfl (hord _ _ (hL6 _ hSt.right.has)) ?_; rintro v w2 ⟨ov, H7, rfl, hO7, hc2⟩; replace hSt := hSt.newN hc2; clear hc2; obtain ⟨qa, qk, rfl, _⟩ := (own_tc hO7 hSt.right.has).map) | (refine WL_isCall (f := 18) ?_; refine WL_call (ok_call hT rfl) rfl rfl rfl (format_any (hV2.kept hSt.nil.keeps) (hL6 _ hSt.left.right.has) hsn) ?_; rintro v w2 ⟨rfl, hc2⟩; replace hSt := hSt.call0 hc2; clear hc2) | refine stepA ?_ | (refine stepS ?_; clear hSt; intro w hSt; dsimp only [spl, List.set] at hSt) | (refine stepB ?_; clear hSt; intro w nb hnb hSt; dsimp only [zcells, List.nil_append, List.cons_append] at hSt) | (refine W_quiet hT (by decide +kernel) hSt ?_; clear hSt; (repeat' (first | (apply QL_ev rfl rfl; (intro w hSt; (first | exact Ev_auto))) | refine QL_pass rfl rfl ?_ | (refine QL_guardP rfl rfl (fun hc => ?_) (fun hc => ?_) <;> try exact absA) | (refine QL_guard rfl rfl (fun hc => ?_) (fun hc => ?_) <;> (try exact absA) <;> (fail_if_success (change true = true at hc)) <;> (fail_if_success (change false = false at hc))))); all_goals (refine QL_nil (fun w hSt => ?_))) | (refine stepG ?_ ?_ <;> intro hc <;> (try exact absA) <;> (fail_if_success (change true = true at hc)) <;> (fail_if_success (change false = false at hc))) | fail)
      all_goals try (exfalso; first | omega | (simp at hc; done) | (exact hc rfl) | contradiction)
      have s7 := own_tc hO7 hSt.right.has
      have s6 := s4.kept hSt.nil.keeps
      have hV3 := hV2.kept hSt.nil.keeps
      have fin3 := fun (w3 : World) (h3 : St w2 NoneS [] w3) => fin (hSt.nil.call0 h3)
      replace hSt := St.refl w2 NoneS
      apply W_sub (L' := [(27, I (0 : Nat)), (13, _), (25, _)]) (by (repeat (first | exact Sub.nil _ | refine Sub.cons rfl ?_)))
      obtain ⟨a6, p6, e6, hc6⟩ := s6.map
      injection e6 with e6 _ e6'
      subst e6 e6'
      obtain ⟨a7, p7, e7, hc7⟩ := s7.map
      injection e7 with e7 _ e7'
      subst e7 e7'
      refine W_loop1 (fun m (k : Nat) w => m = o.length - k ∧ k ≤ o.length ∧ St w2 NoneS [] w) (fun k => [(27, I (k : Int))]) o.length 0 rfl (by (repeat (first | exact Str.nil _ | apply Str.drop rfl | apply Str.keepU rfl | apply Str.keep rfl))) ⟨rfl, Nat.zero_le _, hSt⟩ (by (repeat (first | exact Sub.nil _ | refine Sub.cons rfl ?_))) ?_
      clear hSt
      rintro m8 k8 w ⟨hm8, hk8, hSt⟩ K8 hK8
      by_cases hkl8 : k8 < o.length
      rotate_left 1
      · repeat' (first | (refine WL_isCall (f := 7) ?_; refine WL_call (ok_call hT rfl) rfl rfl rfl (lawake_any (hV3.kept hSt.nil.keeps)) ?_; rintro v w2 ⟨rfl, hc2⟩; replace hSt := hSt.call0 hc2; clear hc2) | refine stepA ?_ | (refine stepS ?_; clear hSt; intro w hSt; dsimp only [spl, List.set] at hSt) | (refine stepB ?_; clear hSt; intro w nb hnb hSt; dsimp only [zcells, List.nil_append, List.cons_append] at hSt) | (refine W_quiet hT (by decide +kernel) hSt ?_; clear hSt; (repeat' (first | (apply QL_ev rfl rfl; (intro w hSt; (first | exact Ev_auto))) | refine QL_pass rfl rfl ?_ | (refine QL_guardP rfl rfl (fun hc => ?_) (fun hc => ?_) <;> try exact absA) | (refine QL_guard rfl rfl (fun hc => ?_) (fun hc => ?_) <;> (try exact absA) <;> (fail_if_success (change true = true at hc)) <;> (fail_if_success (change false = false at hc))))); all_goals (refine QL_nil (fun w hSt => ?_))) | (refine stepG ?_ ?_ <;> intro hc <;> (try exact absA) <;> (fail_if_success (change true = true at hc)) <;> (fail_if_success (change false = false at hc))) | fail)
        all_goals try (exfalso; first | omega | (simp at hc; done) | (exact hc rfl) | contradiction)
        all_goals exact ret1 rfl rfl ⟨rfl, fin3 _ hSt⟩
      obtain ⟨n, hkn⟩ : ∃ n, o[k8]? = some n := ⟨_, List.getElem?_eq_getElem hkl8⟩
      obtain ⟨b6, o6, m6, E6, z6, rfl, hb6, _, q6⟩ := hc6 k8 n hkn
      obtain ⟨b7, o7, m7, E7, z7, rfl, hb7, _, q7⟩ := hc7 k8 n hkn
      have k6 : m6[o6 + ((k8 : Nat) : Int).toNat * 1 + 0]? = some (S n) := q6 0 _ rfl
      have k7 : m7[o7 + ((k8 : Nat) : Int).toNat * 1 + 0]? = some (S n) := q7 0 _ rfl
      repeat' (first | (apply WL_ev rfl rfl; exact Ev_load1 hT rfl rfl (hSt.base hb6 (fun e => e)) k6) | (apply WL_ev rfl rfl; exact Ev_load1 hT rfl rfl (hSt.base hb7 (fun e => e)) k7) | refine stepA ?_ | (refine stepS ?_; clear hSt; intro w hSt; dsimp only [spl, List.set] at hSt) | (refine stepB ?_; clear hSt; intro w nb hnb hSt; dsimp only [zcells, List.nil_append, List.cons_append] at hSt) | (refine W_quiet hT (by decide +kernel) hSt ?_; clear hSt; (repeat' (first | (apply QL_ev rfl rfl; (intro w hSt; (first | (exact Ev_load1 hT rfl rfl (hSt.base hb6 (fun e => e)) k6) | (exact Ev_load1 hT rfl rfl (hSt.base hb7 (fun e => e)) k7) | exact Ev_auto))) | refine QL_pass rfl rfl ?_ | (refine QL_guardP rfl rfl (fun hc => ?_) (fun hc => ?_) <;> try exact absA) | (refine QL_guard rfl rfl (fun hc => ?_) (fun hc => ?_) <;> (try exact absA) <;> (fail_if_success (change true = true at hc)) <;> (fail_if_success (change false = false at hc))))); all_goals (refine QL_nil (fun w hSt => ?_))) | (refine stepG ?_ ?_ <;> intro hc <;> (try exact absA) <;> (fail_if_success (change true = true at hc)) <;> (fail_if_success (change false = false at hc))) | fail)
      all_goals try (exfalso; first | omega | (simp at hc; done) | (exact hc rfl) | contradiction)
      all_goals exact At_loop1 hK8 (k' := o.length - (k8 + 1)) (k8 + 1) (by omega) ⟨rfl, by omega, hSt⟩ (by (repeat (first | exact Sub.nil _ | refine Sub.cons rfl ?_))))
  obtain ⟨n, hkn⟩ : ∃ n, o[k]? = some n := ⟨_, List.getElem?_eq_getElem hkl⟩
  obtain ⟨b4, o4, m4, E4, z4, rfl, hb4, _, q4⟩ := hc4 k n hkn
  obtain ⟨b5, o5, m5, E5, z5, rfl, hb5, _, q5⟩ := hc5 _ n (rev_at hkn)
  have k4 : m4[o4 + ((k : Nat) : Int).toNat * 1 + 0]? = some (S n) := q4 0 _ rfl
  have k5 : m5[o5 + ((o.length : Int) - 1 - (k : Int)).toNat * 1 + 0]? = some (S n) := by
    rw [show ((o.length : Int) - 1 - (k : Int)).toNat = o.length - 1 - k by omega]; exact q5 0 _ rfl
  have hbf := fun (w1 : World) (kp : Keeps w2 w1) => before_any n k (s4.kept kp) (by omega) (by omega)
  rw [hown k n hkn] at hbf
  repeat' (first | (apply WL_ev rfl rfl; exact Ev_load1 hT rfl rfl (hSt.base hb4 (fun e => e)) k4) | (apply WL_ev rfl rfl; exact Ev_load1 hT rfl rfl (hSt.base hb5 (fun e => e)) k5) | refine stepA ?_ | (refine stepS ?_; clear hSt; intro w hSt; dsimp only [spl, List.set] at hSt) | (refine stepB ?_; clear hSt; intro w nb hnb hSt; dsimp only [zcells, List.nil_append, List.cons_append] at hSt) | (refine W_quiet hT (by decide +kernel) hSt ?_; clear hSt; (repeat' (first | (refine QL_isCall (f := 13) ?_; refine QL_call (ok_call hT rfl) rfl rfl rfl (fun w1 hSt => (hbf _ hSt.nil.keeps).mono (fun v w2 h => ⟨h.1, hSt.call0 h.2⟩)) ?_) | (apply QL_ev rfl rfl; (intro w hSt; (first | (exact Ev_load1 hT rfl rfl (hSt.base hb4 (fun e => e)) k4) | (exact Ev_load1 hT rfl rfl (hSt.base hb5 (fun e => e)) k5) | exact Ev_auto))) | refine QL_pass rfl rfl ?_ | (refine QL_guardP rfl rfl (fun hc => ?_) (fun hc => ?_) <;> try exact absA) | (refine QL_guard rfl rfl (fun hc => ?_) (fun hc => ?_) <;> (try exact absA) <;> (fail_if_success (change true = true at hc)) <;> (fail_if_success (change false = false at hc))))); all_goals (refine QL_nil (fun w hSt => ?_))) | (refine stepG ?_ ?_ <;> intro hc <;> (try exact absA) <;> (fail_if_success (change true = true at hc)) <;> (fail_if_success (change false = false at hc))) | fail)
  all_goals try (exfalso; first | omega | (simp at hc; done) | (exact hc rfl) | contradiction)
  apply W_sub (L' := [(18, I (0 : Nat)), (17, _), (11, _), (13, _), (15, _)]) (by (repeat (first | exact Sub.nil _ | refine Sub.cons rfl ?_)))
  refine W_loop1 (fun m (i : Nat) w => m = s.length - i ∧ i ≤ s.length ∧ St w2 NoneS [] w) (fun i => [(18, I (i : Int))]) s.length 0 rfl (by (repeat (first | exact Str.nil _ | apply Str.drop rfl | apply Str.keepU rfl | apply Str.keep rfl))) ⟨rfl, Nat.zero_le _, hSt⟩ (by (repeat (first | exact Sub.nil _ | refine Sub.cons rfl ?_))) ?_
  clear hSt
  rintro m1 i w ⟨hm1, hi, hSt⟩ K1 hK1
  by_cases hil : i < s.length
  rotate_left 1
  · repeat' (first | (refine WL_isCall (f := 15) ?_; refine WL_call (ok_call hT rfl) rfl rfl rfl (new_any) ?_; rintro v w2 ⟨mb, hv, Hm, rfl, hOm, hc2⟩; replace hSt := hSt.newN hc2; clear hc2; dsimp only [List.nil_append] at hSt) | (refine WL_isCall (f := 16) ?_; refine WL_call (ok_call hT rfl) rfl rfl rfl (do_any (next0_any (hR2.kept hSt.nil.keeps)) hSt.has hOm (by decide)) ?_; rintro v w2 ⟨rfl, hv, Hm, hOm, hc2⟩; replace hSt := St.callE (Ha := []) hSt hc2; clear hc2; dsimp only [List.nil_append] at hSt) | (refine WL_isCall (f := 16) ?_; refine WL_call (ok_call hT rfl) rfl rfl rfl (do_any (next1_any (hR2.kept hSt.nil.keeps)) hSt.has hOm (by decide)) ?_; rintro v w2 ⟨rfl, hv, Hm, hOm, hc2⟩; replace hSt := St.callE (Ha := []) hSt hc2; clear hc2; dsimp only [List.nil_append] at hSt) | (refine WL_isCall (f := 17) ?_; refine WL_call (ok_call hT rfl) rfl rfl rfl (state_any (hSt.at 0 rfl)) ?_; rintro v w2 ⟨rfl, hc2⟩; replace hSt := hSt.call0 hc2; clear hc2) | refine stepA ?_ | (refine stepS ?_; clear hSt; intro w hSt; dsimp only [spl, List.set] at hSt) | (refine stepB ?_; clear hSt; intro w nb hnb hSt; dsimp only [zcells, List.nil_append, List.cons_append] at hSt) | (refine W_quiet hT (by decide +kernel) hSt ?_; clear hSt; (repeat' (first | (apply QL_ev rfl rfl; (intro w hSt; (first | exact Ev_auto))) | refine QL_pass rfl rfl ?_ | (refine QL_guardP rfl rfl (fun hc => ?_) (fun hc => ?_) <;> try exact absA) | (refine QL_guard rfl rfl (fun hc => ?_) (fun hc => ?_) <;> (try exact absA) <;> (fail_if_success (change true = true at hc)) <;> (fail_if_success (change false = false at hc))))); all_goals (refine QL_nil (fun w hSt => ?_))) | (refine stepG ?_ ?_ <;> intro hc <;> (try exact absA) <;> (fail_if_success (change true = true at hc)) <;> (fail_if_success (change false = false at hc))) | fail)
    all_goals try (exfalso; first | omega | (simp at hc; done) | (exact hc rfl) | contradiction)
    all_goals exact At_loop1 hK (k' := o.length - (k + 1)) (k + 1) (by omega) ⟨rfl, by omega, hSt.nil⟩ (by (repeat (first | exact Sub.nil _ | refine Sub.cons rfl ?_)))
  obtain ⟨e, he⟩ : ∃ e, s[i]? = some e := ⟨_, List.getElem?_eq_getElem hil⟩
  obtain ⟨x9, b3, o3, c3, E3, z3, _, hle, rfl, hb3, q3, _⟩ := hc3 i e he
  obtain ⟨v1, va, vs, rfl, _, hsa, _⟩ := hle
  obtain ⟨a9, p9, rfl, hc9⟩ := hsa.map
  have kn : c3[o3 + ((i : Nat) : Int).toNat * 8 + 0]? = some (S e.node) := SlAt.cell q3 (j := 0) rfl
  have ka := SlAt.cell q3 (j := 6) rfl
  repeat' (first | refine stepA ?_ | (refine stepS ?_; clear hSt; intro w hSt; dsimp only [spl, List.set] at hSt) | (refine stepB ?_; clear hSt; intro w nb hnb hSt; dsimp only [zcells, List.nil_append, List.cons_append] at hSt) | (refine W_quiet hT (by decide +kernel) hSt ?_; clear hSt; (repeat' (first | (apply QL_ev rfl rfl; (intro w hSt; (first | exact Ev_auto))) | refine QL_pass rfl rfl ?_ | (refine QL_guardP rfl rfl (fun hc => ?_) (fun hc => ?_) <;> try exact absA) | (refine QL_guard rfl rfl (fun hc => ?_) (fun hc => ?_) <;> (try exact absA) <;> (fail_if_success (change true = true at hc)) <;> (fail_if_success (change false = false at hc))))); all_goals (refine QL_nil (fun w hSt => ?_))) | (refine stepG ?_ ?_ <;> intro hc <;> (try exact absA) <;> (fail_if_success (change true = true at hc)) <;> (fail_if_success (change false = false at hc))) | fail)
  all_goals try (exfalso; first | omega | (simp at hc; done) | (exact hc rfl) | contradiction)
  apply W_sub (L' := [(19, I (0 : Nat)), (18, _), (17, _), (11, _), (13, _), (15, _)]) (by (repeat (first | exact Sub.nil _ | refine Sub.cons rfl ?_)))
  refine W_loop1 (fun m (j : Nat) w => m = e.after.length - j ∧ j ≤ e.after.length ∧ St w2 NoneS [] w) (fun j => [(19, I (j : Int))]) e.after.length 0 rfl (by (repeat (first | exact Str.nil _ | apply Str.drop rfl | apply Str.keepU rfl | apply Str.keep rfl))) ⟨rfl, Nat.zero_le _, hSt⟩ (by (repeat (first | exact Sub.nil _ | refine Sub.cons rfl ?_))) ?_
  clear hSt
  rintro m2 j w ⟨hm2, hj, hSt⟩ K2 hK2
  by_cases hnn : e.node = n
  rotate_left 1
  · repeat' (first | (apply WL_ev rfl rfl; exact Ev_load1 hT rfl rfl (hSt.base hb4 (fun e => e)) k4) | (apply WL_ev rfl rfl; exact Ev_load1 hT rfl rfl (hSt.base hb3 (fun e => e)) kn) | (apply WL_ev rfl rfl; exact Ev_load1 hT rfl rfl (hSt.base hb3 (fun e => e)) ka) | refine stepA ?_ | (refine stepS ?_; clear hSt; intro w hSt; dsimp only [spl, List.set] at hSt) | (refine stepB ?_; clear hSt; intro w nb hnb hSt; dsimp only [zcells, List.nil_append, List.cons_append] at hSt) | (refine W_quiet hT (by decide +kernel) hSt ?_; clear hSt; (repeat' (first | (apply QL_ev rfl rfl; (intro w hSt; (first | (exact Ev_load1 hT rfl rfl (hSt.base hb4 (fun e => e)) k4) | (exact Ev_load1 hT rfl rfl (hSt.base hb3 (fun e => e)) kn) | (exact Ev_load1 hT rfl rfl (hSt.base hb3 (fun e => e)) ka) | exact Ev_auto))) | refine QL_pass rfl rfl ?_ | (refine QL_guardP rfl rfl (fun hc => ?_) (fun hc => ?_) <;> try exact absA) | (refine QL_guard rfl rfl (fun hc => ?_) (fun hc => ?_) <;> (try exact absA) <;> (fail_if_success (change true = true at hc)) <;> (fail_if_success (change false = false at hc))))); all_goals (refine QL_nil (fun w hSt => ?_))) | (refine stepG ?_ ?_ <;> intro hc <;> (try exact absA) <;> (fail_if_success (change true = true at hc)) <;> (fail_if_success (change false = false at hc))) | fail)
    all_goals try (exfalso; first | omega | (simp at hc; done) | (exact hc rfl) | contradiction)
    all_goals exact At_loop1 hK1 (k' := s.length - (i + 1)) (i + 1) (by omega) ⟨rfl, by omega, hSt⟩ (by (repeat (first | exact Sub.nil _ | refine Sub.cons rfl ?_)))
  by_cases hjl : j < e.after.length
  rotate_left 1
  · repeat' (first | (apply WL_ev rfl rfl; exact Ev_load1 hT rfl rfl (hSt.base hb4 (fun e => e)) k4) | (apply WL_ev rfl rfl; exact Ev_load1 hT rfl rfl (hSt.base hb3 (fun e => e)) kn) | (apply WL_ev rfl rfl; exact Ev_load1 hT rfl rfl (hSt.base hb3 (fun e => e)) ka) | refine stepA ?_ | (refine stepS ?_; clear hSt; intro w hSt; dsimp only [spl, List.set] at hSt) | (refine stepB ?_; clear hSt; intro w nb hnb hSt; dsimp only [zcells, List.nil_append, List.cons_append] at hSt) | (refine W_quiet hT (by decide +kernel) hSt ?_; clear hSt; (repeat' (first | (apply QL_ev rfl rfl; (intro w hSt; (first | (exact Ev_load1 hT rfl rfl (hSt.base hb4 (fun e => e)) k4) | (exact Ev_load1 hT rfl rfl (hSt.base hb3 (fun e => e)) kn) | (exact Ev_load1 hT rfl rfl (hSt.base hb3 (fun e => e)) ka) | exact Ev_auto))) | refine QL_pass rfl rfl ?_ | (refine QL_guardP rfl rfl (fun hc => ?_) (fun hc => ?_) <;> try exact absA) | (refine QL_guard rfl rfl (fun hc => ?_) (fun hc => ?_) <;> (try exact absA) <;> (fail_if_success (change true = true at hc)) <;> (fail_if_success (change false = false at hc))))); all_goals (refine QL_nil (fun w hSt => ?_))) | (refine stepG ?_ ?_ <;> intro hc <;> (try exact absA) <;> (fail_if_success (change true = true at hc)) <;> (fail_if_success (change false = false at hc))) | fail)
    all_goals try (exfalso; first | omega | (simp at hc; done) | (exact hc rfl) | contradiction)
    all_goals exact At_loop1 hK1 (k' := s.length - (i + 1)) (i + 1) (by omega) ⟨rfl, by omega, hSt⟩ (by (repeat (first | exact Sub.nil _ | refine Sub.cons rfl ?_)))
  obtain ⟨t, hjt⟩ : ∃ t, e.after[j]? = some t := ⟨_, List.getElem?_eq_getElem hjl⟩
  obtain ⟨b9, o9, m9, E9, z9, rfl, hb9, _, q9⟩ := hc9 j t hjt
  have k9 : m9[o9 + ((j : Nat) : Int).toNat * 1 + 0]? = some (S t) := by rw [Int.toNat_natCast]; exact q9 0 _ rfl
  have hbt := fun (w1 : World) (kp : Keeps w2 w1) => before_any t k (s4.kept kp) (by omega) (by omega)
  rw [haft i k e he (hnn ▸ hkn) t (List.mem_of_getElem? hjt)] at hbt
  have hdp := fun (w1 : World) (kp : Keeps w2 w1) => depends_any n t (hL3.kept kp)
  rw [show dependsF s n t = true from hnn ▸ hdep i e he t (List.mem_of_getElem? hjt)] at hdp
  repeat' (first | (apply WL_ev rfl rfl; exact Ev_load1 hT rfl rfl (hSt.base hb4 (fun e => e)) k4) | (apply WL_ev rfl rfl; exact Ev_load1 hT rfl rfl (hSt.base hb3 (fun e => e)) kn) | (apply WL_ev rfl rfl; exact Ev_load1 hT rfl rfl (hSt.base hb3 (fun e => e)) ka) | (apply WL_ev rfl rfl; exact Ev_load1 hT rfl rfl (hSt.base hb9 (fun e => e)) k9) | refine stepA ?_ | (refine stepS ?_; clear hSt; intro w hSt; dsimp only [spl, List.set] at hSt) | (refine stepB ?_; clear hSt; intro w nb hnb hSt; dsimp only [zcells, List.nil_append, List.cons_append] at hSt) | (refine W_quiet hT (by decide +kernel) hSt ?_; clear hSt; (repeat' (first | (refine QL_isCall (f := 13) ?_; refine QL_call (ok_call hT rfl) rfl rfl rfl (fun w1 hSt => (hbt _ hSt.nil.keeps).mono (fun v w2 h => ⟨h.1, hSt.call0 h.2⟩)) ?_) | (refine QL_isCall (f := 14) ?_; refine QL_call (ok_call hT rfl) rfl rfl rfl (fun w1 hSt => (hdp _ hSt.nil.keeps).mono (fun v w2 h => ⟨h.1, hSt.call0 h.2⟩)) ?_) | (apply QL_ev rfl rfl; (intro w hSt; (first | (exact Ev_load1 hT rfl rfl (hSt.base hb4 (fun e => e)) k4) | (exact Ev_load1 hT rfl rfl (hSt.base hb3 (fun e => e)) kn) | (exact Ev_load1 hT rfl rfl (hSt.base hb3 (fun e => e)) ka) | (exact Ev_load1 hT rfl rfl (hSt.base hb9 (fun e => e)) k9) | exact Ev_auto))) | refine QL_pass rfl rfl ?_ | (refine QL_guardP rfl rfl (fun hc => ?_) (fun hc => ?_) <;> try exact absA) | (refine QL_guard rfl rfl (fun hc => ?_) (fun hc => ?_) <;> (try exact absA) <;> (fail_if_success (change true = true at hc)) <;> (fail_if_success (change false = false at hc))))); all_goals (refine QL_nil (fun w hSt => ?_))) | (refine stepG ?_ ?_ <;> intro hc <;> (try exact absA) <;> (fail_if_success (change true = true at hc)) <;> (fail_if_success (change false = false at hc))) | fail)
  all_goals try (exfalso; first | omega | (simp at hc; done) | (exact hc rfl) | contradiction)
  all_goals exact At_loop1 hK2 (k' := e.after.length - (j + 1)) (j + 1) (by omega) ⟨rfl, by omega, hSt⟩ (by (repeat (first | exact Sub.nil _ | refine Sub.cons rfl ?_)))
end Go.Proofs.YtknfankadlokhaaGreatDoor
