/- The specification's Parse, in memory. No conditions. -/
import Derived.Test.YtknfankadlokhaaGreatDoorPtf
import Derived.Test.YtknfankadlokhaaGreatDoorNI

namespace Go.Proofs.YtknfankadlokhaaGreatDoor
open Go.RowKit
set_option maxRecDepth 4000
set_option linter.unusedVariables false
set_option linter.unusedSimpArgs false
set_option maxHeartbeats 16000000

section
variable {w0 : World} {x : Tx}
theorem rparse_any {s : Sc} {f : Nat} {r : Rt (List Ln)} (hf : f ≤ 1000000) (hs : RScanC x s) (hok : ScOk s) (hr : rList f s = some r) : Cl Tryz.prog 20 [S x] w0 (ParseR r w0) := by
  have hSt := St.refl w0 NoneS
  refine enter Tryz.func20 rfl Tryz.ntmps20 rfl ?_
  unfold rList at hr
  cases s with
  | bad e a =>
    injection hr with hr
    subst hr
    repeat' (first | (refine WL_isCall (f := 56) ?_; refine WL_call (ok_call hT rfl) rfl rfl rfl (hs _) ?_; rintro v w2 ⟨he, rfl, hc2⟩; replace hSt := hSt.call0 hc2; clear hc2) | refine stepA ?_ | (refine stepS ?_; clear hSt; intro w hSt; dsimp only [spl, List.set] at hSt) | (refine stepB ?_; clear hSt; intro w nb hnb hSt; dsimp only [zcells, List.nil_append, List.cons_append] at hSt) | (refine W_quiet hT (by decide +kernel) hSt ?_; clear hSt; (repeat' (first | (apply QL_ev rfl rfl; (intro w hSt; (first | exact Ev_auto))) | refine QL_pass rfl rfl ?_ | (refine QL_guardP rfl rfl (fun hc => ?_) (fun hc => ?_) <;> try exact absA) | (refine QL_guard rfl rfl (fun hc => ?_) (fun hc => ?_) <;> (try exact absA) <;> (fail_if_success (change true = true at hc)) <;> (fail_if_success (change false = false at hc))))); all_goals (refine QL_nil (fun w hSt => ?_))) | (refine stepG ?_ ?_ <;> intro hc <;> (try exact absA) <;> (fail_if_success (change true = true at hc)) <;> (fail_if_success (change false = false at hc))) | fail)
    all_goals try (exfalso; first | omega | (simp at hc; done) | (exact hc rfl) | contradiction)
    all_goals exact ret3 rfl rfl rfl rfl ⟨rfl, hSt⟩
  | ok ts =>
    obtain ⟨hk, hl, htl⟩ := hok
    dsimp only at hr
    cases hx : qLstL ts f [] (0, false) with
    | none => rw [hx] at hr; cases hr
    | some ly =>
      obtain ⟨l9, y9⟩ := ly
      rw [hx] at hr
      dsimp only at hr
      have hlv := qLstL_lev hk htl f [] (0, false) hk.pos (fun e he => (by cases he)) hx
      repeat' (first | (refine WL_isCall (f := 56) ?_; refine WL_call (ok_call hT rfl) rfl rfl rfl (hs _) ?_; rintro v w2 ⟨tv, H, rfl, ho, hc2⟩; replace hSt := hSt.newN hc2; clear hc2; obtain ⟨ta, tc, rfl, _⟩ := ho.cap; try dsimp only [List.nil_append, List.cons_append] at hSt) | (refine WL_alloc hT rfl rfl rfl hSt ?_; clear hSt; intro w nb hnb hSt; replace hSt := hSt.front; dsimp only [zcells] at hSt) | refine stepA ?_ | (refine stepS ?_; clear hSt; intro w hSt; dsimp only [spl, List.set] at hSt) | (refine stepB ?_; clear hSt; intro w nb hnb hSt; dsimp only [zcells, List.nil_append, List.cons_append] at hSt) | (refine W_quiet hT (by decide +kernel) hSt ?_; clear hSt; (repeat' (first | (apply QL_ev rfl rfl; (intro w hSt; (first | exact Ev_auto))) | refine QL_pass rfl rfl ?_ | (refine QL_guardP rfl rfl (fun hc => ?_) (fun hc => ?_) <;> try exact absA) | (refine QL_guard rfl rfl (fun hc => ?_) (fun hc => ?_) <;> (try exact absA) <;> (fail_if_success (change true = true at hc)) <;> (fail_if_success (change false = false at hc))))); all_goals (refine QL_nil (fun w hSt => ?_))) | (refine stepG ?_ ?_ <;> intro hc <;> (try exact absA) <;> (fail_if_success (change true = true at hc)) <;> (fail_if_success (change false = false at hc))) | fail)
      obtain ⟨pb, rfl⟩ : ∃ x, x = nb := ⟨nb, rfl⟩
      refine W_loop2 (fun k (g : Nat) (sl : Value) w => k = g ∧ ∃ l y xs HD HL, qLstL ts g l y = some (l9, y9) ∧ l.length + g = f ∧ y.1 < ts.length ∧ EntsO HD l xs ∧ OwnSl sl 40 8 xs.flatten l.length HL ∧ St w0 NoneS ((pb, plO (.slice ta ts.length tc) y) :: ((HD ++ H) ++ HL)) w) (fun _ sl => [(9, sl)]) f f (.slice none 0 0) rfl (by (repeat (first | exact Str.nil _ | apply Str.drop rfl | apply Str.keepU rfl | apply Str.keep rfl))) ⟨rfl, [], (0, false), [], [], [], hx, by simp, hk.pos, ⟨rfl, fun i e x hi => (by simp at hi), fun x hx => (by cases hx)⟩, OwnSl.nil _ _, by rw [List.append_nil]; exact hSt⟩ (by (repeat (first | exact Sub.nil _ | refine Sub.cons rfl ?_))) ?_
      clear hSt hx
      rintro k g sl w ⟨hkk, l, y, xs, HD, HL, hL, hlf, hq, hE, hoL, hSt⟩ K hK
      have hP : ∀ {w : World}, St w0 NoneS ((pb, plO (.slice ta ts.length tc) y) :: ((HD ++ H) ++ HL)) w → PL w pb ts (.slice ta ts.length tc) y := fun h => pl_at (h.has.sublist ((show List.Sublist H ((HD ++ H) ++ HL) from (List.sublist_append_right _ _).trans (List.sublist_append_left _ _)).cons_cons _)) ho hk hl htl hq
      have htn := fun {w : World} (h : PL w pb ts (.slice ta ts.length tc) y) => rtoken_any h
      have hen := fun {w : World} (h : PL w pb ts (.slice ta ts.length tc) y) => rend_any h
      obtain ⟨aL, kL, rfl, _⟩ := hoL.cap
      cases g with
      | zero => rw [qLstL] at hL; cases hL
      | succ g =>
        rw [qLstL] at hL
        by_cases hc : (!y.2 && decide ((tkAt ts y.1).kd ≠ 0)) = true
        · rw [if_pos hc] at hL
          rw [Bool.and_eq_true] at hc
          have hb : y.2 = false := by simpa using hc.1
          have hkd := of_decide_eq_true hc.2
          clear hc hen
          cases hx : qEnt ts g y with
          | none => rw [hx] at hL; cases hL
          | some ey =>
            obtain ⟨e, y1⟩ := ey
            rw [hx] at hL
            dsimp only at hL
            have hey := fun {w : World} (h : PL w pb ts (.slice ta ts.length tc) y) => qentry_any h hx
            obtain ⟨p, bd⟩ := y
            dsimp only at hb hkd htn
            subst hb
            generalize tkAt ts p = t at hkd htn
            obtain ⟨kd, tx, nn, at_⟩ := t
            dsimp only at hkd
            repeat' (first | (refine WL_isCall (f := 57) ?_; refine WL_call (ok_call hT rfl) rfl rfl rfl (htn (hP hSt)) ?_; rintro v w2 ⟨rfl, hc2⟩; replace hSt := hSt.call0 hc2; clear hc2) | (apply WL_ev rfl rfl; exact Ev_field1 hT rfl rfl rfl (by intro fs x h1 h2; rw [Tryz.underlying63] at h1; injection h1 with h1; injection h1 with h1; subst h1; injection h2 with h2; subst h2; decide +kernel)) | refine stepA ?_ | (refine stepS ?_; clear hSt; intro w hSt; dsimp only [spl, List.set] at hSt) | (refine stepB ?_; clear hSt; intro w nb hnb hSt; dsimp only [zcells, List.nil_append, List.cons_append] at hSt) | (refine W_quiet hT (by decide +kernel) hSt ?_; clear hSt; (repeat' (first | (apply QL_ev rfl rfl; (intro w hSt; (first | (exact Ev_field1 hT rfl rfl rfl (by intro fs x h1 h2; rw [Tryz.underlying63] at h1; injection h1 with h1; injection h1 with h1; subst h1; injection h2 with h2; subst h2; decide +kernel)) | exact Ev_auto))) | refine QL_pass rfl rfl ?_ | (refine QL_guardP rfl rfl (fun hc => ?_) (fun hc => ?_) <;> try exact absA) | (refine QL_guard rfl rfl (fun hc => ?_) (fun hc => ?_) <;> (try exact absA) <;> (fail_if_success (change true = true at hc)) <;> (fail_if_success (change false = false at hc))))); all_goals (refine QL_nil (fun w hSt => ?_))) | (refine stepG ?_ ?_ <;> intro hc <;> (try exact absA) <;> (fail_if_success (change true = true at hc)) <;> (fail_if_success (change false = false at hc))) | fail)
            all_goals try (exfalso; first | omega | (simp at hc; done) | (exact hc rfl) | contradiction)
            refine WL_call (ok_call hT rfl) rfl rfl rfl (hey (hP hSt)) ?_
            rintro v1 w6 ⟨cv, va, vs, HE, rfl, hEnt, hy1, hy2, hc2⟩
            obtain ⟨⟨a1, n1, k1, rfl⟩, ⟨a2, n2, k2, rfl⟩, a3, n3, k3, rfl⟩ := hEnt.parts (hc2.right (Ha := [_])).has
            replace hSt := hSt.scCall (Ha := []) hc2
            clear hc2 hP htn hey
            dsimp only [List.nil_append] at hSt
            rw [show HE ++ ((HD ++ H) ++ HL) = ((HE ++ HD) ++ H) ++ HL by simp only [List.append_assoc]] at hSt
            (refine WL_push1 hT rfl rfl rfl rfl rfl rfl rfl rfl rfl rfl rfl rfl (fun _ => rfl) rfl (H0 := _ :: ((HE ++ HD) ++ H)) hSt hoL (by omega) (by omega) ?_; clear hSt; intro v' w HL2 u ho2 hSt)
            try dsimp only [List.cons_append] at hSt
            have hff : (xs ++ [[S e.node, S e.prog, I e.cond.op, S e.cond.name, S e.cond.text, .slice a1 n1 k1, .slice a2 n2 k2, .slice a3 n3 k3]]).flatten = xs.flatten ++ [S e.node, S e.prog, I e.cond.op, S e.cond.name, S e.cond.text, .slice a1 n1 k1, .slice a2 n2 k2, .slice a3 n3 k3] := by simp
            replace ho2 : OwnSl v' 40 8 (xs ++ [[S e.node, S e.prog, I e.cond.op, S e.cond.name, S e.cond.text, .slice a1 n1 k1, .slice a2 n2 k2, .slice a3 n3 k3]]).flatten (l ++ [e]).length HL2 := by
              rw [hff, List.length_append]; exact ho2
            repeat' (first | refine stepA ?_ | (refine stepS ?_; clear hSt; intro w hSt; dsimp only [spl, List.set] at hSt) | (refine stepB ?_; clear hSt; intro w nb hnb hSt; dsimp only [zcells, List.nil_append, List.cons_append] at hSt) | (refine W_quiet hT (by decide +kernel) hSt ?_; clear hSt; (repeat' (first | (apply QL_ev rfl rfl; (intro w hSt; (first | exact Ev_auto))) | refine QL_pass rfl rfl ?_ | (refine QL_guardP rfl rfl (fun hc => ?_) (fun hc => ?_) <;> try exact absA) | (refine QL_guard rfl rfl (fun hc => ?_) (fun hc => ?_) <;> (try exact absA) <;> (fail_if_success (change true = true at hc)) <;> (fail_if_success (change false = false at hc))))); all_goals (refine QL_nil (fun w hSt => ?_))) | (refine stepG ?_ ?_ <;> intro hc <;> (try exact absA) <;> (fail_if_success (change true = true at hc)) <;> (fail_if_success (change false = false at hc))) | fail)
            exact At_loop2 hK (k' := g) g v' (by omega) ⟨rfl, l ++ [e], y1, xs ++ [_], HE ++ HD, HL2, hL, by rw [List.length_append, List.length_singleton]; omega, hy2, hE.snoc hEnt rfl, ho2, hSt⟩ (by (repeat (first | exact Sub.nil _ | refine Sub.cons rfl ?_)))
        · rw [if_neg hc] at hL
          injection hL with hL
          injection hL with e1 e2
          subst e1 e2
          have hck := fun (w : World) (hSt : St w0 NoneS ((pb, plO (.slice ta ts.length tc) y) :: ((HD ++ H) ++ HL)) w) => rcheck_any (hE.lns hoL (((hSt.right (Ha := [_])).left.left).has) ((hSt.right (Ha := [_])).right.has) (by omega)) (fun e he => Nat.le_trans (hlv.2 e he) (by omega))
          obtain ⟨p, bd⟩ := y
          dsimp only at htn hen hr hq hc
          cases bd with
          | true =>
            rw [if_pos (.inl rfl)] at hr
            simp only [if_pos (show true = true ∨ (tkAt ts p).kd ≠ 0 from .inl rfl)] at hen
            injection hr with hr
            subst hr
            repeat' (first | (refine WL_isCall (f := 59) ?_; refine WL_call (ok_call hT rfl) rfl rfl rfl (hen (hP hSt)) ?_; rintro v w2 ⟨rfl, hc2⟩; replace hSt := hSt.call0 hc2; clear hc2) | refine stepA ?_ | (refine stepS ?_; clear hSt; intro w hSt; dsimp only [spl, List.set] at hSt) | (refine stepB ?_; clear hSt; intro w nb hnb hSt; dsimp only [zcells, List.nil_append, List.cons_append] at hSt) | (refine W_quiet hT (by decide +kernel) hSt ?_; clear hSt; (repeat' (first | (apply QL_ev rfl rfl; (intro w hSt; (first | exact Ev_auto))) | refine QL_pass rfl rfl ?_ | (refine QL_guardP rfl rfl (fun hc => ?_) (fun hc => ?_) <;> try exact absA) | (refine QL_guard rfl rfl (fun hc => ?_) (fun hc => ?_) <;> (try exact absA) <;> (fail_if_success (change true = true at hc)) <;> (fail_if_success (change false = false at hc))))); all_goals (refine QL_nil (fun w hSt => ?_))) | (refine stepG ?_ ?_ <;> intro hc <;> (try exact absA) <;> (fail_if_success (change true = true at hc)) <;> (fail_if_success (change false = false at hc))) | fail)
            all_goals try (exfalso; first | omega | (simp at hc; done) | (exact hc rfl) | contradiction)
            all_goals exact ret3 rfl rfl rfl rfl ⟨rfl, hSt.nil⟩
          | false =>
            have hkd : (tkAt ts p).kd = 0 := by
              by_cases h : (tkAt ts p).kd = 0
              · exact h
              · exact absurd (by rw [decide_eq_true h]; rfl) hc
            clear hc
            rw [if_neg (fun e => e.elim (fun e => (by cases e)) (fun e => e hkd))] at hr
            simp only [if_neg (show ¬ (false = true ∨ (tkAt ts p).kd ≠ 0) from fun e => e.elim (fun e => (by cases e)) (fun e => e hkd))] at hen
            generalize tkAt ts p = t at hkd htn
            obtain ⟨kd, tx, nn, at_⟩ := t
            dsimp only at hkd
            subst hkd
            by_cases h6 : checkF l = 0
            · rw [if_neg (fun e => e h6)] at hr
              injection hr with hr
              subst hr
              rw [h6] at hck
              repeat' (first | (refine WL_isCall (f := 57) ?_; refine WL_call (ok_call hT rfl) rfl rfl rfl (htn (hP hSt)) ?_; rintro v w2 ⟨rfl, hc2⟩; replace hSt := hSt.call0 hc2; clear hc2) | (apply WL_ev rfl rfl; exact Ev_field1 hT rfl rfl rfl (by intro fs x h1 h2; rw [Tryz.underlying63] at h1; injection h1 with h1; injection h1 with h1; subst h1; injection h2 with h2; subst h2; decide +kernel)) | (refine WL_isCall (f := 59) ?_; refine WL_call (ok_call hT rfl) rfl rfl rfl (hen (hP hSt)) ?_; rintro v w2 ⟨rfl, hc2⟩; replace hSt := hSt.call0 hc2; clear hc2) | (refine WL_isCall (f := 60) ?_; refine WL_call (ok_call hT rfl) rfl rfl rfl (hck _ hSt) ?_; rintro v w2 ⟨rfl, hc2⟩; replace hSt := hSt.call0 hc2; clear hc2) | refine stepA ?_ | (refine stepS ?_; clear hSt; intro w hSt; dsimp only [spl, List.set] at hSt) | (refine stepB ?_; clear hSt; intro w nb hnb hSt; dsimp only [zcells, List.nil_append, List.cons_append] at hSt) | (refine W_quiet hT (by decide +kernel) hSt ?_; clear hSt; (repeat' (first | (apply QL_ev rfl rfl; (intro w hSt; (first | (exact Ev_field1 hT rfl rfl rfl (by intro fs x h1 h2; rw [Tryz.underlying63] at h1; injection h1 with h1; injection h1 with h1; subst h1; injection h2 with h2; subst h2; decide +kernel)) | exact Ev_auto))) | refine QL_pass rfl rfl ?_ | (refine QL_guardP rfl rfl (fun hc => ?_) (fun hc => ?_) <;> try exact absA) | (refine QL_guard rfl rfl (fun hc => ?_) (fun hc => ?_) <;> (try exact absA) <;> (fail_if_success (change true = true at hc)) <;> (fail_if_success (change false = false at hc))))); all_goals (refine QL_nil (fun w hSt => ?_))) | (refine stepG ?_ ?_ <;> intro hc <;> (try exact absA) <;> (fail_if_success (change true = true at hc)) <;> (fail_if_success (change false = false at hc))) | fail)
              all_goals try (exfalso; first | omega | (simp at hc; done) | (exact hc rfl) | contradiction)
              all_goals exact ret3 rfl rfl rfl rfl ⟨_, (HD ++ H) ++ HL, rfl, fun w hw => hE.lns hoL (hw.sublist ((List.sublist_append_left _ _).trans (List.sublist_append_left _ _))) (hw.sublist (List.sublist_append_right _ _)) (by omega), hSt.right (Ha := [_])⟩
            · rw [if_pos h6] at hr
              injection hr with hr
              subst hr
              repeat' (first | (refine WL_isCall (f := 57) ?_; refine WL_call (ok_call hT rfl) rfl rfl rfl (htn (hP hSt)) ?_; rintro v w2 ⟨rfl, hc2⟩; replace hSt := hSt.call0 hc2; clear hc2) | (apply WL_ev rfl rfl; exact Ev_field1 hT rfl rfl rfl (by intro fs x h1 h2; rw [Tryz.underlying63] at h1; injection h1 with h1; injection h1 with h1; subst h1; injection h2 with h2; subst h2; decide +kernel)) | (refine WL_isCall (f := 59) ?_; refine WL_call (ok_call hT rfl) rfl rfl rfl (hen (hP hSt)) ?_; rintro v w2 ⟨rfl, hc2⟩; replace hSt := hSt.call0 hc2; clear hc2) | (refine WL_isCall (f := 60) ?_; refine WL_call (ok_call hT rfl) rfl rfl rfl (hck _ hSt) ?_; rintro v w2 ⟨rfl, hc2⟩; replace hSt := hSt.call0 hc2; clear hc2) | refine stepA ?_ | (refine stepS ?_; clear hSt; intro w hSt; dsimp only [spl, List.set] at hSt) | (refine stepB ?_; clear hSt; intro w nb hnb hSt; dsimp only [zcells, List.nil_append, List.cons_append] at hSt) | (refine W_quiet hT (by decide +kernel) hSt ?_; clear hSt; (repeat' (first | (apply QL_ev rfl rfl; (intro w hSt; (first | (exact Ev_field1 hT rfl rfl rfl (by intro fs x h1 h2; rw [Tryz.underlying63] at h1; injection h1 with h1; injection h1 with h1; subst h1; injection h2 with h2; subst h2; decide +kernel)) | exact Ev_auto))) | refine QL_pass rfl rfl ?_ | (refine QL_guardP rfl rfl (fun hc => ?_) (fun hc => ?_) <;> try exact absA) | (refine QL_guard rfl rfl (fun hc => ?_) (fun hc => ?_) <;> (try exact absA) <;> (fail_if_success (change true = true at hc)) <;> (fail_if_success (change false = false at hc))))); all_goals (refine QL_nil (fun w hSt => ?_))) | (refine stepG ?_ ?_ <;> intro hc <;> (try exact absA) <;> (fail_if_success (change true = true at hc)) <;> (fail_if_success (change false = false at hc))) | fail)
              all_goals try (exfalso; first | omega | (simp at hc; done) | (exact hc rfl) | contradiction)
              all_goals exact ret3 rfl rfl rfl rfl ⟨rfl, hSt.nil⟩
end
end Go.Proofs.YtknfankadlokhaaGreatDoor
