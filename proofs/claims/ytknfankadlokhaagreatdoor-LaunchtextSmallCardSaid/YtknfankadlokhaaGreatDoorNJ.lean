/- The specification's parser in memory: settings and operands. No conditions. -/
import Derived.Test.YtknfankadlokhaaGreatDoorPtb
import Derived.Test.YtknfankadlokhaaGreatDoorNF

namespace Go.Proofs.YtknfankadlokhaaGreatDoor
open Go.RowKit
set_option maxRecDepth 4000
set_option linter.unusedVariables false
set_option linter.unusedSimpArgs false
set_option maxHeartbeats 16000000

section
variable {w0 : World} {pb : Nat} {v : Value} {ts : List Tk} {x : Pq}
theorem rsettings_any {f : Nat} {l : List Sg} {y : Pq} (h : PL w0 pb ts v x) (hr : qSets ts f x = some (l, y)) : Cl Tryz.prog 69 [Ptr pb] w0 (fun r w' => ∃ HL, OwnSl r 57 2 (l.flatMap sgC) l.length HL ∧ St w0 (· = pb) ((pb, plO v y) :: HL) w') := by
  have hSt := h.start
  have hlen := h.len
  have htn := fun {w : World} (h : PL w pb ts v x) => rtoken_any h
  have hst := fun {w : World} (h : PL w pb ts v x) => rsetting_any h
  have hsl := (qSetP_lt h.ok h.lt).2
  unfold qSets at hr
  obtain ⟨⟨kd, tx, nn, at_⟩, ht0⟩ : ∃ t, tkAt ts x.1 = t := ⟨_, rfl⟩
  rw [ht0] at hr htn
  dsimp only at hr
  refine enter Tryz.func69 rfl Tryz.ntmps69 rfl ?_
  by_cases hk : kd = 1
  · rw [if_neg (fun e => e hk)] at hr
    subst hk
    repeat' (first | (refine WL_isCall (f := 57) ?_; refine WL_call (ok_call hT rfl) rfl rfl rfl (htn (h.next hSt (i := 0) rfl h.lt)) ?_; rintro v w2 ⟨rfl, hc2⟩; replace hSt := hSt.call0 hc2; clear hc2) | (apply WL_ev rfl rfl; exact Ev_field1 hT rfl rfl rfl (by intro fs x h1 h2; rw [Tryz.underlying63] at h1; injection h1 with h1; injection h1 with h1; subst h1; injection h2 with h2; subst h2; decide +kernel)) | (refine WL_isCall (f := 113) ?_; refine WL_call (ok_call hT rfl) rfl rfl rfl (hst (h.next hSt (i := 0) rfl h.lt)) ?_; rintro v w2 ⟨rfl, hc2⟩; replace hSt := hSt.call1 (i := 0) rfl hc2; clear hc2; dsimp only [List.set] at hSt) | refine stepA ?_ | (refine stepS ?_; clear hSt; intro w hSt; dsimp only [spl, List.set] at hSt) | (refine stepB ?_; clear hSt; intro w nb hnb hSt; dsimp only [zcells, List.nil_append, List.cons_append] at hSt) | (refine W_quiet hT (by decide +kernel) hSt ?_; clear hSt; (repeat' (first | (apply QL_ev rfl rfl; (intro w hSt; (first | (exact Ev_field1 hT rfl rfl rfl (by intro fs x h1 h2; rw [Tryz.underlying63] at h1; injection h1 with h1; injection h1 with h1; subst h1; injection h2 with h2; subst h2; decide +kernel)) | exact Ev_auto))) | refine QL_pass rfl rfl ?_ | (refine QL_guardP rfl rfl (fun hc => ?_) (fun hc => ?_) <;> try exact absA) | (refine QL_guard rfl rfl (fun hc => ?_) (fun hc => ?_) <;> (try exact absA) <;> (fail_if_success (change true = true at hc)) <;> (fail_if_success (change false = false at hc))))); all_goals (refine QL_nil (fun w hSt => ?_))) | (refine stepG ?_ ?_ <;> intro hc <;> (try exact absA) <;> (fail_if_success (change true = true at hc)) <;> (fail_if_success (change false = false at hc))) | fail)
    have ho := OwnSl.nil 57 2
    rw [← List.append_nil [_]] at hSt
    (refine WL_push1 hT rfl rfl rfl rfl rfl rfl rfl rfl rfl rfl rfl rfl (fun _ => rfl) rfl (H0 := [_]) hSt ho (by omega) (by omega) ?_; clear hSt ho; intro v' w H2 u ho hSt)
    dsimp only [List.cons_append, List.nil_append] at hSt
    replace ho : OwnSl v' 57 2 ([qSet ts x].flatMap sgC) [qSet ts x].length H2 := by
      rw [List.flatMap_singleton]; exact ho
    repeat' (first | refine stepA ?_ | (refine stepS ?_; clear hSt; intro w hSt; dsimp only [spl, List.set] at hSt) | (refine stepB ?_; clear hSt; intro w nb hnb hSt; dsimp only [zcells, List.nil_append, List.cons_append] at hSt) | (refine W_quiet hT (by decide +kernel) hSt ?_; clear hSt; (repeat' (first | (apply QL_ev rfl rfl; (intro w hSt; (first | exact Ev_auto))) | refine QL_pass rfl rfl ?_ | (refine QL_guardP rfl rfl (fun hc => ?_) (fun hc => ?_) <;> try exact absA) | (refine QL_guard rfl rfl (fun hc => ?_) (fun hc => ?_) <;> (try exact absA) <;> (fail_if_success (change true = true at hc)) <;> (fail_if_success (change false = false at hc))))); all_goals (refine QL_nil (fun w hSt => ?_))) | (refine stepG ?_ ?_ <;> intro hc <;> (try exact absA) <;> (fail_if_success (change true = true at hc)) <;> (fail_if_success (change false = false at hc))) | fail)
    refine W_loop2 (fun k (g : Nat) (sl : Value) w => k = g ∧ ∃ l1 x1 HL, qSetsL ts g l1 x1 = some (l, y) ∧ x1.1 < ts.length ∧ l1.length ≤ x1.1 + 1 ∧ OwnSl sl 57 2 (l1.flatMap sgC) l1.length HL ∧ St w0 (· = pb) ((pb, plO v x1) :: HL) w) (fun _ sl => [(3, sl)]) f f v' rfl (by (repeat (first | exact Str.nil _ | apply Str.drop rfl | apply Str.keepU rfl | apply Str.keep rfl))) ⟨rfl, _, _, H2, hr, hsl, by show 1 ≤ _; omega, ho, hSt⟩ (by (repeat (first | exact Sub.nil _ | refine Sub.cons rfl ?_))) ?_
    clear hSt ho
    rintro k g sl w ⟨hk, l1, x1, HL, hL, hx1, hl1, ho, hSt⟩ K hK
    have htk := fun {w : World} (h : PL w pb ts v x1) => rtake_any h 4 [44] (by decide)
    cases g with
    | zero => rw [qSetsL] at hL; cases hL
    | succ g =>
      rw [qSetsL] at hL
      cases hA : tkT ts 4 [44] x1 with
      | true =>
        rw [if_pos hA] at hL
        rw [hA] at htk
        have hlt := (tkP_lt h.ok (k := 4) (s := [44]) (by decide) hx1).2
        have e1 : (tkP ts 4 [44] x1).1 = x1.1 + 1 := by rw [tkP_yes hA]
        have hs2 := fun {w : World} (h : PL w pb ts v (tkP ts 4 [44] x1)) => rsetting_any h
        have hq2 := qSetP_lt h.ok hlt
        repeat' (first | (refine WL_isCall (f := 104) ?_; refine WL_call (ok_call hT rfl) rfl rfl rfl (htk (h.next hSt (i := 0) rfl hx1)) ?_; rintro v w2 ⟨rfl, hc2⟩; replace hSt := hSt.call1 (i := 0) rfl hc2; clear hc2; dsimp only [List.set] at hSt) | (refine WL_isCall (f := 113) ?_; refine WL_call (ok_call hT rfl) rfl rfl rfl (hs2 (h.next hSt (i := 0) rfl hlt)) ?_; rintro v w2 ⟨rfl, hc2⟩; replace hSt := hSt.call1 (i := 0) rfl hc2; clear hc2; dsimp only [List.set] at hSt) | refine stepA ?_ | (refine stepS ?_; clear hSt; intro w hSt; dsimp only [spl, List.set] at hSt) | (refine stepB ?_; clear hSt; intro w nb hnb hSt; dsimp only [zcells, List.nil_append, List.cons_append] at hSt) | (refine W_quiet hT (by decide +kernel) hSt ?_; clear hSt; (repeat' (first | (apply QL_ev rfl rfl; (intro w hSt; (first | exact Ev_auto))) | refine QL_pass rfl rfl ?_ | (refine QL_guardP rfl rfl (fun hc => ?_) (fun hc => ?_) <;> try exact absA) | (refine QL_guard rfl rfl (fun hc => ?_) (fun hc => ?_) <;> (try exact absA) <;> (fail_if_success (change true = true at hc)) <;> (fail_if_success (change false = false at hc))))); all_goals (refine QL_nil (fun w hSt => ?_))) | (refine stepG ?_ ?_ <;> intro hc <;> (try exact absA) <;> (fail_if_success (change true = true at hc)) <;> (fail_if_success (change false = false at hc))) | fail)
        (refine WL_push1 hT rfl rfl rfl rfl rfl rfl rfl rfl rfl rfl rfl rfl (fun _ => rfl) rfl (H0 := [_]) hSt ho (by omega) (by omega) ?_; clear hSt ho; intro v' w H2 u ho hSt)
        dsimp only [List.cons_append, List.nil_append] at hSt
        replace ho : OwnSl v' 57 2 ((l1 ++ [qSet ts (tkP ts 4 [44] x1)]).flatMap sgC) (l1 ++ [qSet ts (tkP ts 4 [44] x1)]).length H2 := by
          rw [List.flatMap_append, List.length_append, List.flatMap_singleton]; exact ho
        repeat' (first | refine stepA ?_ | (refine stepS ?_; clear hSt; intro w hSt; dsimp only [spl, List.set] at hSt) | (refine stepB ?_; clear hSt; intro w nb hnb hSt; dsimp only [zcells, List.nil_append, List.cons_append] at hSt) | (refine W_quiet hT (by decide +kernel) hSt ?_; clear hSt; (repeat' (first | (apply QL_ev rfl rfl; (intro w hSt; (first | exact Ev_auto))) | refine QL_pass rfl rfl ?_ | (refine QL_guardP rfl rfl (fun hc => ?_) (fun hc => ?_) <;> try exact absA) | (refine QL_guard rfl rfl (fun hc => ?_) (fun hc => ?_) <;> (try exact absA) <;> (fail_if_success (change true = true at hc)) <;> (fail_if_success (change false = false at hc))))); all_goals (refine QL_nil (fun w hSt => ?_))) | (refine stepG ?_ ?_ <;> intro hc <;> (try exact absA) <;> (fail_if_success (change true = true at hc)) <;> (fail_if_success (change false = false at hc))) | fail)
        exact At_loop2 hK (k' := g) g v' (by omega) ⟨rfl, _, _, H2, hL, hq2.2, by rw [List.length_append, List.length_singleton]; omega, ho, hSt⟩ (by (repeat (first | exact Sub.nil _ | refine Sub.cons rfl ?_)))
      | false =>
        rw [if_neg (by simp [hA])] at hL
        injection hL with hL
        injection hL with e1 e2
        subst e1 e2
        rw [hA, tkP_no hA] at htk
        repeat' (first | (refine WL_isCall (f := 104) ?_; refine WL_call (ok_call hT rfl) rfl rfl rfl (htk (h.next hSt (i := 0) rfl hx1)) ?_; rintro v w2 ⟨rfl, hc2⟩; replace hSt := hSt.call1 (i := 0) rfl hc2; clear hc2; dsimp only [List.set] at hSt) | refine stepA ?_ | (refine stepS ?_; clear hSt; intro w hSt; dsimp only [spl, List.set] at hSt) | (refine stepB ?_; clear hSt; intro w nb hnb hSt; dsimp only [zcells, List.nil_append, List.cons_append] at hSt) | (refine W_quiet hT (by decide +kernel) hSt ?_; clear hSt; (repeat' (first | (apply QL_ev rfl rfl; (intro w hSt; (first | exact Ev_auto))) | refine QL_pass rfl rfl ?_ | (refine QL_guardP rfl rfl (fun hc => ?_) (fun hc => ?_) <;> try exact absA) | (refine QL_guard rfl rfl (fun hc => ?_) (fun hc => ?_) <;> (try exact absA) <;> (fail_if_success (change true = true at hc)) <;> (fail_if_success (change false = false at hc))))); all_goals (refine QL_nil (fun w hSt => ?_))) | (refine stepG ?_ ?_ <;> intro hc <;> (try exact absA) <;> (fail_if_success (change true = true at hc)) <;> (fail_if_success (change false = false at hc))) | fail)
        exact ret1 rfl rfl ⟨HL, ho, hSt⟩
  · rw [if_pos hk] at hr
    injection hr with hr
    injection hr with e1 e2
    subst e1 e2
    repeat' (first | (refine WL_isCall (f := 57) ?_; refine WL_call (ok_call hT rfl) rfl rfl rfl (htn (h.next hSt (i := 0) rfl h.lt)) ?_; rintro v w2 ⟨rfl, hc2⟩; replace hSt := hSt.call0 hc2; clear hc2) | (apply WL_ev rfl rfl; exact Ev_field1 hT rfl rfl rfl (by intro fs x h1 h2; rw [Tryz.underlying63] at h1; injection h1 with h1; injection h1 with h1; subst h1; injection h2 with h2; subst h2; decide +kernel)) | refine stepA ?_ | (refine stepS ?_; clear hSt; intro w hSt; dsimp only [spl, List.set] at hSt) | (refine stepB ?_; clear hSt; intro w nb hnb hSt; dsimp only [zcells, List.nil_append, List.cons_append] at hSt) | (refine W_quiet hT (by decide +kernel) hSt ?_; clear hSt; (repeat' (first | (apply QL_ev rfl rfl; (intro w hSt; (first | (exact Ev_field1 hT rfl rfl rfl (by intro fs x h1 h2; rw [Tryz.underlying63] at h1; injection h1 with h1; injection h1 with h1; subst h1; injection h2 with h2; subst h2; decide +kernel)) | exact Ev_auto))) | refine QL_pass rfl rfl ?_ | (refine QL_guardP rfl rfl (fun hc => ?_) (fun hc => ?_) <;> try exact absA) | (refine QL_guard rfl rfl (fun hc => ?_) (fun hc => ?_) <;> (try exact absA) <;> (fail_if_success (change true = true at hc)) <;> (fail_if_success (change false = false at hc))))); all_goals (refine QL_nil (fun w hSt => ?_))) | (refine stepG ?_ ?_ <;> intro hc <;> (try exact absA) <;> (fail_if_success (change true = true at hc)) <;> (fail_if_success (change false = false at hc))) | fail)
    all_goals try (exfalso; first | omega | (simp at hc; done) | (exact hc rfl) | contradiction)
    all_goals exact ret1 rfl rfl ⟨[], OwnSl.nil _ _, hSt⟩
abbrev OkQ (c : Cn) (pb : Nat) (v : Value) (y : Pq) (w0 : World) : Value → World → Prop := fun r w' => ∃ x0 x1 x2 x3 HD, r = .agg ⟨[x0, x1, x2, x3]⟩ ∧ CondO HD c [x0, x1, x2, x3] ∧ St w0 (· = pb) ((pb, plO v y) :: HD) w'
end
def ROp (ts : List Tk) (f : Nat) : Prop := ∀ {w0 : World} {pb : Nat} {v : Value} {x y : Pq} {c : Cn} (h : PL w0 pb ts v x), qOpr ts f x = some (c, y) → Cl Tryz.prog 136 [Ptr pb] w0 (OkQ c pb v y w0)
def RCj (ts : List Tk) (f : Nat) : Prop := ∀ {w0 : World} {pb : Nat} {v : Value} {x y : Pq} {c : Cn} (h : PL w0 pb ts v x), qCnj ts f x = some (c, y) → Cl Tryz.prog 112 [Ptr pb] w0 (OkQ c pb v y w0)
def RCo (ts : List Tk) (f : Nat) : Prop := ∀ {w0 : World} {pb : Nat} {v : Value} {x y : Pq} {c : Cn} (h : PL w0 pb ts v x), qCon ts f x = some (c, y) → Cl Tryz.prog 67 [Ptr pb] w0 (OkQ c pb v y w0)
section
variable {ts : List Tk}
theorem roperand_any {f : Nat} (ih1 : ROp ts f) (ih2 : RCo ts f) : ROp ts (f + 1) := by
  intro w0 pb v x y c h hr
  have hSt := h.start
  rw [qOpr] at hr
  have hm1 := fun {w : World} (h : PL w pb ts v x) => rtake_any h 4 [33] (by decide)
  have hlt1 := (tkP_lt h.ok (k := 4) (s := [33]) (by decide) h.lt).2
  have hlt2 := (tkP_lt h.ok (k := 4) (s := [40]) (by decide) h.lt).2
  refine enter Tryz.func136 rfl Tryz.ntmps136 rfl ?_
  cases hA : tkT ts 4 [33] x with
  | true =>
    rw [if_pos hA] at hr
    rw [hA] at hm1
    cases hx : qOpr ts f (tkP ts 4 [33] x) with
    | none => rw [hx] at hr; cases hr
    | some cy =>
      obtain ⟨c1, y1⟩ := cy
      rw [hx] at hr
      injection hr with hr
      injection hr with e1 e2
      subst e1 e2
      repeat' (first | (refine WL_alloc hT rfl rfl rfl hSt ?_; clear hSt; intro w nb hnb hSt; replace hSt := hSt.front; dsimp only [zcells] at hSt) | (refine WL_isCall (f := 104) ?_; refine WL_call (ok_call hT rfl) rfl rfl rfl (hm1 (h.next hSt (i := 1) rfl h.lt)) ?_; rintro v w2 ⟨rfl, hc2⟩; replace hSt := hSt.call1 (i := 1) rfl hc2; clear hc2; dsimp only [List.set] at hSt) | refine stepA ?_ | (refine stepS ?_; clear hSt; intro w hSt; dsimp only [spl, List.set] at hSt) | (refine stepB ?_; clear hSt; intro w nb hnb hSt; dsimp only [zcells, List.nil_append, List.cons_append] at hSt) | (refine W_quiet hT (by decide +kernel) hSt ?_; clear hSt; (repeat' (first | (apply QL_ev rfl rfl; (intro w hSt; (first | exact Ev_auto))) | refine QL_pass rfl rfl ?_ | (refine QL_guardP rfl rfl (fun hc => ?_) (fun hc => ?_) <;> try exact absA) | (refine QL_guard rfl rfl (fun hc => ?_) (fun hc => ?_) <;> (try exact absA) <;> (fail_if_success (change true = true at hc)) <;> (fail_if_success (change false = false at hc))))); all_goals (refine QL_nil (fun w hSt => ?_))) | (refine stepG ?_ ?_ <;> intro hc <;> (try exact absA) <;> (fail_if_success (change true = true at hc)) <;> (fail_if_success (change false = false at hc))) | fail)
      refine WL_call (ok_call hT rfl) rfl rfl rfl (ih1 (h.next hSt (i := 1) rfl hlt1) hx) ?_
      rintro v1 w2 ⟨x0, x1, x2, x3, HD, rfl, hC, hc2⟩
      replace hSt := hSt.scCall1 (Ha := [_]) hc2
      clear hc2
      dsimp only [List.cons_append, List.nil_append] at hSt
      repeat' (first | (refine WL_buildSlice hT rfl rfl rfl rfl rfl rfl rfl rfl hSt ?_; clear hSt; intro w nb hnb hSt; replace hSt := hSt.front) | refine stepA ?_ | (refine stepS ?_; clear hSt; intro w hSt; dsimp only [spl, List.set] at hSt) | (refine stepB ?_; clear hSt; intro w nb hnb hSt; dsimp only [zcells, List.nil_append, List.cons_append] at hSt) | (refine W_quiet hT (by decide +kernel) hSt ?_; clear hSt; (repeat' (first | (apply QL_ev rfl rfl; (intro w hSt; (first | exact Ev_auto))) | refine QL_pass rfl rfl ?_ | (refine QL_guardP rfl rfl (fun hc => ?_) (fun hc => ?_) <;> try exact absA) | (refine QL_guard rfl rfl (fun hc => ?_) (fun hc => ?_) <;> (try exact absA) <;> (fail_if_success (change true = true at hc)) <;> (fail_if_success (change false = false at hc))))); all_goals (refine QL_nil (fun w hSt => ?_))) | (refine stepG ?_ ?_ <;> intro hc <;> (try exact absA) <;> (fail_if_success (change true = true at hc)) <;> (fail_if_success (change false = false at hc))) | fail)
      exact end_of (resc1 rfl hT rfl rfl (hSt.at 1 rfl) rfl rfl) ⟨_, _, _, _, _, rfl, hC.one, (hSt.sublist ((List.sublist_cons_self _ _).cons_cons _)).perm (List.Perm.swap _ _ _)⟩
  | false =>
  rw [if_neg (by simp [hA])] at hr
  rw [hA, tkP_no hA] at hm1
  have hm2 := fun {w : World} (h : PL w pb ts v x) => rtake_any h 4 [40] (by decide)
  cases hB : tkT ts 4 [40] x with
  | true =>
    rw [if_pos hB] at hr
    rw [hB] at hm2
    cases hx : qCon ts f (tkP ts 4 [40] x) with
    | none => rw [hx] at hr; cases hr
    | some cy =>
      obtain ⟨c1, y1⟩ := cy
      rw [hx] at hr
      injection hr with hr
      injection hr with e1 e2
      subst e1 e2
      have hy1 := ((qpar_lt h.ok f).2.2.2.1 _ _ _ hlt2 hx).2
      have hn := fun {w : World} (h : PL w pb ts v y1) => rneed_any h 4 [41] (by decide)
      repeat' (first | (refine WL_alloc hT rfl rfl rfl hSt ?_; clear hSt; intro w nb hnb hSt; replace hSt := hSt.front; dsimp only [zcells] at hSt) | (refine WL_isCall (f := 104) ?_; refine WL_call (ok_call hT rfl) rfl rfl rfl (hm1 (h.next hSt (i := 1) rfl h.lt)) ?_; rintro v w2 ⟨rfl, hc2⟩; replace hSt := hSt.call1 (i := 1) rfl hc2; clear hc2; dsimp only [List.set] at hSt) | (refine WL_isCall (f := 104) ?_; refine WL_call (ok_call hT rfl) rfl rfl rfl (hm2 (h.next hSt (i := 1) rfl h.lt)) ?_; rintro v w2 ⟨rfl, hc2⟩; replace hSt := hSt.call1 (i := 1) rfl hc2; clear hc2; dsimp only [List.set] at hSt) | refine stepA ?_ | (refine stepS ?_; clear hSt; intro w hSt; dsimp only [spl, List.set] at hSt) | (refine stepB ?_; clear hSt; intro w nb hnb hSt; dsimp only [zcells, List.nil_append, List.cons_append] at hSt) | (refine W_quiet hT (by decide +kernel) hSt ?_; clear hSt; (repeat' (first | (apply QL_ev rfl rfl; (intro w hSt; (first | exact Ev_auto))) | refine QL_pass rfl rfl ?_ | (refine QL_guardP rfl rfl (fun hc => ?_) (fun hc => ?_) <;> try exact absA) | (refine QL_guard rfl rfl (fun hc => ?_) (fun hc => ?_) <;> (try exact absA) <;> (fail_if_success (change true = true at hc)) <;> (fail_if_success (change false = false at hc))))); all_goals (refine QL_nil (fun w hSt => ?_))) | (refine stepG ?_ ?_ <;> intro hc <;> (try exact absA) <;> (fail_if_success (change true = true at hc)) <;> (fail_if_success (change false = false at hc))) | fail)
      refine WL_call (ok_call hT rfl) rfl rfl rfl (ih2 (h.next hSt (i := 1) rfl hlt2) hx) ?_
      rintro v1 w2 ⟨x0, x1, x2, x3, HD, rfl, hC, hc2⟩
      obtain ⟨rfl, rfl, rfl, a4, n4, k4, rfl⟩ := hC.parts (hc2.right (Ha := [_])).has
      replace hSt := hSt.scCall1 (Ha := [_]) hc2
      clear hc2
      dsimp only [List.cons_append, List.nil_append] at hSt
      repeat' (first | (refine WL_alloc hT rfl rfl rfl hSt ?_; clear hSt; intro w nb hnb hSt; replace hSt := hSt.front; dsimp only [zcells] at hSt) | refine stepA ?_ | (refine stepS ?_; clear hSt; intro w hSt; dsimp only [spl, List.set] at hSt) | (refine stepB ?_; clear hSt; intro w nb hnb hSt; dsimp only [zcells, List.nil_append, List.cons_append] at hSt) | (refine W_quiet hT (by decide +kernel) hSt ?_; clear hSt; (repeat' (first | (apply QL_ev rfl rfl; (intro w hSt; (first | exact Ev_auto))) | refine QL_pass rfl rfl ?_ | (refine QL_guardP rfl rfl (fun hc => ?_) (fun hc => ?_) <;> try exact absA) | (refine QL_guard rfl rfl (fun hc => ?_) (fun hc => ?_) <;> (try exact absA) <;> (fail_if_success (change true = true at hc)) <;> (fail_if_success (change false = false at hc))))); all_goals (refine QL_nil (fun w hSt => ?_))) | (refine stepG ?_ ?_ <;> intro hc <;> (try exact absA) <;> (fail_if_success (change true = true at hc)) <;> (fail_if_success (change false = false at hc))) | fail)
      refine WL_call (ok_call hT rfl) rfl rfl rfl (hn (h.next hSt (i := 2) rfl hy1)) ?_
      rintro v1 w2 ⟨_, hc2⟩
      replace hSt := hSt.call1 (i := 2) rfl hc2
      clear hc2
      dsimp only [List.set] at hSt
      repeat' (first | refine stepA ?_ | (refine stepS ?_; clear hSt; intro w hSt; dsimp only [spl, List.set] at hSt) | (refine stepB ?_; clear hSt; intro w nb hnb hSt; dsimp only [zcells, List.nil_append, List.cons_append] at hSt) | (refine W_quiet hT (by decide +kernel) hSt ?_; clear hSt; (repeat' (first | (apply QL_ev rfl rfl; (intro w hSt; (first | exact Ev_auto))) | refine QL_pass rfl rfl ?_ | (refine QL_guardP rfl rfl (fun hc => ?_) (fun hc => ?_) <;> try exact absA) | (refine QL_guard rfl rfl (fun hc => ?_) (fun hc => ?_) <;> (try exact absA) <;> (fail_if_success (change true = true at hc)) <;> (fail_if_success (change false = false at hc))))); all_goals (refine QL_nil (fun w hSt => ?_))) | (refine stepG ?_ ?_ <;> intro hc <;> (try exact absA) <;> (fail_if_success (change true = true at hc)) <;> (fail_if_success (change false = false at hc))) | fail)
      exact end_of (resc1 rfl hT rfl rfl (hSt.at 1 rfl) rfl rfl) ⟨_, _, _, _, HD, rfl, hC, hSt.right (Ha := [_, _])⟩
  | false =>
  rw [if_neg (by simp [hB])] at hr
  rw [hB, tkP_no hB] at hm2
  have hset := fun {w : World} (h : PL w pb ts v x) => rsetting_any h
  have hq1 := qSet_len (x := x) h.tl
  have hlt := h.lt
  have hi1 := fun {w : World} (h : PL w pb ts v x) => ris_any h 1 wTrue 0 (by decide) (by decide)
  have hi2 := fun {w : World} (h : PL w pb ts v x) => ris_any h 4 [61] 1 (by decide) (by decide)
  obtain ⟨p, bd⟩ := x
  dsimp only [Nat.add_zero] at hi1 hi2 hr hlt
  generalize qSet ts (p, bd) = sg at hr hset hq1
  obtain ⟨s1, s2⟩ := sg
  generalize qSetP ts (p, bd) = sp at hr hset
  cases bd with
  | true =>
    rw [if_neg (by simp)] at hr
    injection hr with hr
    injection hr with e1 e2
    subst e1 e2
    repeat' (first | (refine WL_alloc hT rfl rfl rfl hSt ?_; clear hSt; intro w nb hnb hSt; replace hSt := hSt.front; dsimp only [zcells] at hSt) | (refine WL_isCall (f := 104) ?_; refine WL_call (ok_call hT rfl) rfl rfl rfl (hm1 (h.next hSt (i := 1) rfl h.lt)) ?_; rintro v w2 ⟨rfl, hc2⟩; replace hSt := hSt.call1 (i := 1) rfl hc2; clear hc2; dsimp only [List.set] at hSt) | (refine WL_isCall (f := 104) ?_; refine WL_call (ok_call hT rfl) rfl rfl rfl (hm2 (h.next hSt (i := 1) rfl h.lt)) ?_; rintro v w2 ⟨rfl, hc2⟩; replace hSt := hSt.call1 (i := 1) rfl hc2; clear hc2; dsimp only [List.set] at hSt) | (refine WL_isCall (f := 126) ?_; refine WL_call (ok_call hT rfl) rfl rfl rfl (hi1 (h.next hSt (i := 1) rfl hlt)) ?_; rintro v w2 ⟨rfl, hc2⟩; replace hSt := hSt.call0 hc2; clear hc2) | (refine WL_isCall (f := 126) ?_; refine WL_call (ok_call hT rfl) rfl rfl rfl (hi2 (h.next hSt (i := 1) rfl hlt)) ?_; rintro v w2 ⟨rfl, hc2⟩; replace hSt := hSt.call0 hc2; clear hc2) | refine stepA ?_ | (refine stepS ?_; clear hSt; intro w hSt; dsimp only [spl, List.set] at hSt) | (refine stepB ?_; clear hSt; intro w nb hnb hSt; dsimp only [zcells, List.nil_append, List.cons_append] at hSt) | (refine W_quiet hT (by decide +kernel) hSt ?_; clear hSt; (repeat' (first | (apply QL_ev rfl rfl; (intro w hSt; (first | exact Ev_auto))) | refine QL_pass rfl rfl ?_ | (refine QL_guardP rfl rfl (fun hc => ?_) (fun hc => ?_) <;> try exact absA) | (refine QL_guard rfl rfl (fun hc => ?_) (fun hc => ?_) <;> (try exact absA) <;> (fail_if_success (change true = true at hc)) <;> (fail_if_success (change false = false at hc))))); all_goals (refine QL_nil (fun w hSt => ?_))) | (refine stepG ?_ ?_ <;> intro hc <;> (try exact absA) <;> (fail_if_success (change true = true at hc)) <;> (fail_if_success (change false = false at hc))) | fail)
    refine WL_call (ok_call hT rfl) rfl rfl rfl (hset (h.next hSt (i := 1) rfl hlt)) ?_
    rintro v1 w2 ⟨rfl, hc2⟩
    replace hSt := hSt.call1 (i := 1) rfl hc2
    clear hc2
    dsimp only [List.set] at hSt
    repeat' (first | (refine WL_alloc hT rfl rfl rfl hSt ?_; clear hSt; intro w nb hnb hSt; replace hSt := hSt.front; dsimp only [zcells] at hSt) | refine stepA ?_ | (refine stepS ?_; clear hSt; intro w hSt; dsimp only [spl, List.set] at hSt) | (refine stepB ?_; clear hSt; intro w nb hnb hSt; dsimp only [zcells, List.nil_append, List.cons_append] at hSt) | (refine W_quiet hT (by decide +kernel) hSt ?_; clear hSt; (repeat' (first | (apply QL_ev rfl rfl; (intro w hSt; (first | exact Ev_auto))) | refine QL_pass rfl rfl ?_ | (refine QL_guardP rfl rfl (fun hc => ?_) (fun hc => ?_) <;> try exact absA) | (refine QL_guard rfl rfl (fun hc => ?_) (fun hc => ?_) <;> (try exact absA) <;> (fail_if_success (change true = true at hc)) <;> (fail_if_success (change false = false at hc))))); all_goals (refine QL_nil (fun w hSt => ?_))) | (refine stepG ?_ ?_ <;> intro hc <;> (try exact absA) <;> (fail_if_success (change true = true at hc)) <;> (fail_if_success (change false = false at hc))) | fail)
    exact end_of (resc1 rfl hT rfl rfl (hSt.at 1 rfl) rfl rfl) ⟨_, _, _, _, [], rfl, CondO.leaf hq1.2, hSt.right (Ha := [_, _])⟩
  | false =>
    rw [Bool.not_false, Bool.true_and] at hr
    cases hI : isT ts 1 wTrue p with
    | false =>
      rw [hI, Bool.false_and, if_neg (by simp)] at hr
      rw [hI] at hi1
      injection hr with hr
      injection hr with e1 e2
      subst e1 e2
      repeat' (first | (refine WL_alloc hT rfl rfl rfl hSt ?_; clear hSt; intro w nb hnb hSt; replace hSt := hSt.front; dsimp only [zcells] at hSt) | (refine WL_isCall (f := 104) ?_; refine WL_call (ok_call hT rfl) rfl rfl rfl (hm1 (h.next hSt (i := 1) rfl h.lt)) ?_; rintro v w2 ⟨rfl, hc2⟩; replace hSt := hSt.call1 (i := 1) rfl hc2; clear hc2; dsimp only [List.set] at hSt) | (refine WL_isCall (f := 104) ?_; refine WL_call (ok_call hT rfl) rfl rfl rfl (hm2 (h.next hSt (i := 1) rfl h.lt)) ?_; rintro v w2 ⟨rfl, hc2⟩; replace hSt := hSt.call1 (i := 1) rfl hc2; clear hc2; dsimp only [List.set] at hSt) | (refine WL_isCall (f := 126) ?_; refine WL_call (ok_call hT rfl) rfl rfl rfl (hi1 (h.next hSt (i := 1) rfl hlt)) ?_; rintro v w2 ⟨rfl, hc2⟩; replace hSt := hSt.call0 hc2; clear hc2) | (refine WL_isCall (f := 126) ?_; refine WL_call (ok_call hT rfl) rfl rfl rfl (hi2 (h.next hSt (i := 1) rfl hlt)) ?_; rintro v w2 ⟨rfl, hc2⟩; replace hSt := hSt.call0 hc2; clear hc2) | refine stepA ?_ | (refine stepS ?_; clear hSt; intro w hSt; dsimp only [spl, List.set] at hSt) | (refine stepB ?_; clear hSt; intro w nb hnb hSt; dsimp only [zcells, List.nil_append, List.cons_append] at hSt) | (refine W_quiet hT (by decide +kernel) hSt ?_; clear hSt; (repeat' (first | (apply QL_ev rfl rfl; (intro w hSt; (first | exact Ev_auto))) | refine QL_pass rfl rfl ?_ | (refine QL_guardP rfl rfl (fun hc => ?_) (fun hc => ?_) <;> try exact absA) | (refine QL_guard rfl rfl (fun hc => ?_) (fun hc => ?_) <;> (try exact absA) <;> (fail_if_success (change true = true at hc)) <;> (fail_if_success (change false = false at hc))))); all_goals (refine QL_nil (fun w hSt => ?_))) | (refine stepG ?_ ?_ <;> intro hc <;> (try exact absA) <;> (fail_if_success (change true = true at hc)) <;> (fail_if_success (change false = false at hc))) | fail)
      refine WL_call (ok_call hT rfl) rfl rfl rfl (hset (h.next hSt (i := 1) rfl hlt)) ?_
      rintro v1 w2 ⟨rfl, hc2⟩
      replace hSt := hSt.call1 (i := 1) rfl hc2
      clear hc2
      dsimp only [List.set] at hSt
      repeat' (first | (refine WL_alloc hT rfl rfl rfl hSt ?_; clear hSt; intro w nb hnb hSt; replace hSt := hSt.front; dsimp only [zcells] at hSt) | refine stepA ?_ | (refine stepS ?_; clear hSt; intro w hSt; dsimp only [spl, List.set] at hSt) | (refine stepB ?_; clear hSt; intro w nb hnb hSt; dsimp only [zcells, List.nil_append, List.cons_append] at hSt) | (refine W_quiet hT (by decide +kernel) hSt ?_; clear hSt; (repeat' (first | (apply QL_ev rfl rfl; (intro w hSt; (first | exact Ev_auto))) | refine QL_pass rfl rfl ?_ | (refine QL_guardP rfl rfl (fun hc => ?_) (fun hc => ?_) <;> try exact absA) | (refine QL_guard rfl rfl (fun hc => ?_) (fun hc => ?_) <;> (try exact absA) <;> (fail_if_success (change true = true at hc)) <;> (fail_if_success (change false = false at hc))))); all_goals (refine QL_nil (fun w hSt => ?_))) | (refine stepG ?_ ?_ <;> intro hc <;> (try exact absA) <;> (fail_if_success (change true = true at hc)) <;> (fail_if_success (change false = false at hc))) | fail)
      exact end_of (resc1 rfl hT rfl rfl (hSt.at 1 rfl) rfl rfl) ⟨_, _, _, _, [], rfl, CondO.leaf hq1.2, hSt.right (Ha := [_, _])⟩
    | true =>
      rw [hI, Bool.true_and] at hr
      rw [hI] at hi1
      cases hJ : isT ts 4 [61] (p + 1) with
      | true =>
        rw [hJ, if_neg (by simp)] at hr
        rw [hJ] at hi2
        injection hr with hr
        injection hr with e1 e2
        subst e1 e2
        repeat' (first | (refine WL_alloc hT rfl rfl rfl hSt ?_; clear hSt; intro w nb hnb hSt; replace hSt := hSt.front; dsimp only [zcells] at hSt) | (refine WL_isCall (f := 104) ?_; refine WL_call (ok_call hT rfl) rfl rfl rfl (hm1 (h.next hSt (i := 1) rfl h.lt)) ?_; rintro v w2 ⟨rfl, hc2⟩; replace hSt := hSt.call1 (i := 1) rfl hc2; clear hc2; dsimp only [List.set] at hSt) | (refine WL_isCall (f := 104) ?_; refine WL_call (ok_call hT rfl) rfl rfl rfl (hm2 (h.next hSt (i := 1) rfl h.lt)) ?_; rintro v w2 ⟨rfl, hc2⟩; replace hSt := hSt.call1 (i := 1) rfl hc2; clear hc2; dsimp only [List.set] at hSt) | (refine WL_isCall (f := 126) ?_; refine WL_call (ok_call hT rfl) rfl rfl rfl (hi1 (h.next hSt (i := 1) rfl hlt)) ?_; rintro v w2 ⟨rfl, hc2⟩; replace hSt := hSt.call0 hc2; clear hc2) | (refine WL_isCall (f := 126) ?_; refine WL_call (ok_call hT rfl) rfl rfl rfl (hi2 (h.next hSt (i := 1) rfl hlt)) ?_; rintro v w2 ⟨rfl, hc2⟩; replace hSt := hSt.call0 hc2; clear hc2) | refine stepA ?_ | (refine stepS ?_; clear hSt; intro w hSt; dsimp only [spl, List.set] at hSt) | (refine stepB ?_; clear hSt; intro w nb hnb hSt; dsimp only [zcells, List.nil_append, List.cons_append] at hSt) | (refine W_quiet hT (by decide +kernel) hSt ?_; clear hSt; (repeat' (first | (apply QL_ev rfl rfl; (intro w hSt; (first | exact Ev_auto))) | refine QL_pass rfl rfl ?_ | (refine QL_guardP rfl rfl (fun hc => ?_) (fun hc => ?_) <;> try exact absA) | (refine QL_guard rfl rfl (fun hc => ?_) (fun hc => ?_) <;> (try exact absA) <;> (fail_if_success (change true = true at hc)) <;> (fail_if_success (change false = false at hc))))); all_goals (refine QL_nil (fun w hSt => ?_))) | (refine stepG ?_ ?_ <;> intro hc <;> (try exact absA) <;> (fail_if_success (change true = true at hc)) <;> (fail_if_success (change false = false at hc))) | fail)
        refine WL_call (ok_call hT rfl) rfl rfl rfl (hset (h.next hSt (i := 1) rfl hlt)) ?_
        rintro v1 w2 ⟨rfl, hc2⟩
        replace hSt := hSt.call1 (i := 1) rfl hc2
        clear hc2
        dsimp only [List.set] at hSt
        repeat' (first | (refine WL_alloc hT rfl rfl rfl hSt ?_; clear hSt; intro w nb hnb hSt; replace hSt := hSt.front; dsimp only [zcells] at hSt) | refine stepA ?_ | (refine stepS ?_; clear hSt; intro w hSt; dsimp only [spl, List.set] at hSt) | (refine stepB ?_; clear hSt; intro w nb hnb hSt; dsimp only [zcells, List.nil_append, List.cons_append] at hSt) | (refine W_quiet hT (by decide +kernel) hSt ?_; clear hSt; (repeat' (first | (apply QL_ev rfl rfl; (intro w hSt; (first | exact Ev_auto))) | refine QL_pass rfl rfl ?_ | (refine QL_guardP rfl rfl (fun hc => ?_) (fun hc => ?_) <;> try exact absA) | (refine QL_guard rfl rfl (fun hc => ?_) (fun hc => ?_) <;> (try exact absA) <;> (fail_if_success (change true = true at hc)) <;> (fail_if_success (change false = false at hc))))); all_goals (refine QL_nil (fun w hSt => ?_))) | (refine stepG ?_ ?_ <;> intro hc <;> (try exact absA) <;> (fail_if_success (change true = true at hc)) <;> (fail_if_success (change false = false at hc))) | fail)
        exact end_of (resc1 rfl hT rfl rfl (hSt.at 1 rfl) rfl rfl) ⟨_, _, _, _, [], rfl, CondO.leaf hq1.2, hSt.right (Ha := [_, _])⟩
      | false =>
        rw [hJ, if_pos (by simp)] at hr
        rw [hJ] at hi2
        injection hr with hr
        injection hr with e1 e2
        subst e1 e2
        have hkd : (tkAt ts p).kd ≠ 0 := by
          unfold isT at hI
          rw [Bool.and_eq_true] at hI
          rw [of_decide_eq_true hI.1]; decide
        have hsp := fun {w : World} (h : PL w pb ts v (p, false)) => rstep_any h hkd
        repeat' (first | (refine WL_alloc hT rfl rfl rfl hSt ?_; clear hSt; intro w nb hnb hSt; replace hSt := hSt.front; dsimp only [zcells] at hSt) | (refine WL_isCall (f := 104) ?_; refine WL_call (ok_call hT rfl) rfl rfl rfl (hm1 (h.next hSt (i := 1) rfl h.lt)) ?_; rintro v w2 ⟨rfl, hc2⟩; replace hSt := hSt.call1 (i := 1) rfl hc2; clear hc2; dsimp only [List.set] at hSt) | (refine WL_isCall (f := 104) ?_; refine WL_call (ok_call hT rfl) rfl rfl rfl (hm2 (h.next hSt (i := 1) rfl h.lt)) ?_; rintro v w2 ⟨rfl, hc2⟩; replace hSt := hSt.call1 (i := 1) rfl hc2; clear hc2; dsimp only [List.set] at hSt) | (refine WL_isCall (f := 126) ?_; refine WL_call (ok_call hT rfl) rfl rfl rfl (hi1 (h.next hSt (i := 1) rfl hlt)) ?_; rintro v w2 ⟨rfl, hc2⟩; replace hSt := hSt.call0 hc2; clear hc2) | (refine WL_isCall (f := 126) ?_; refine WL_call (ok_call hT rfl) rfl rfl rfl (hi2 (h.next hSt (i := 1) rfl hlt)) ?_; rintro v w2 ⟨rfl, hc2⟩; replace hSt := hSt.call0 hc2; clear hc2) | (refine WL_isCall (f := 125) ?_; refine WL_call (ok_call hT rfl) rfl rfl rfl (hsp (h.next hSt (i := 1) rfl hlt)) ?_; rintro v w2 ⟨rfl, hc2⟩; replace hSt := hSt.call1 (i := 1) rfl hc2; clear hc2; dsimp only [List.set] at hSt) | refine stepA ?_ | (refine stepS ?_; clear hSt; intro w hSt; dsimp only [spl, List.set] at hSt) | (refine stepB ?_; clear hSt; intro w nb hnb hSt; dsimp only [zcells, List.nil_append, List.cons_append] at hSt) | (refine W_quiet hT (by decide +kernel) hSt ?_; clear hSt; (repeat' (first | (apply QL_ev rfl rfl; (intro w hSt; (first | exact Ev_auto))) | refine QL_pass rfl rfl ?_ | (refine QL_guardP rfl rfl (fun hc => ?_) (fun hc => ?_) <;> try exact absA) | (refine QL_guard rfl rfl (fun hc => ?_) (fun hc => ?_) <;> (try exact absA) <;> (fail_if_success (change true = true at hc)) <;> (fail_if_success (change false = false at hc))))); all_goals (refine QL_nil (fun w hSt => ?_))) | (refine stepG ?_ ?_ <;> intro hc <;> (try exact absA) <;> (fail_if_success (change true = true at hc)) <;> (fail_if_success (change false = false at hc))) | fail)
        all_goals try (exfalso; first | omega | (simp at hc; done) | (exact hc rfl) | contradiction)
        all_goals exact end_of (resc1 rfl hT rfl rfl (hSt.at 0 rfl) rfl rfl) ⟨_, _, _, _, [], rfl, CondO.leaf (by decide), hSt.right (Ha := [_])⟩
end
end Go.Proofs.YtknfankadlokhaaGreatDoor

namespace Go.Proofs.YtknfankadlokhaaGreatDoor
open Go.RowKit
set_option maxRecDepth 4000
set_option linter.unusedVariables false
set_option linter.unusedSimpArgs false
set_option maxHeartbeats 16000000

section
variable {ts : List Tk}
theorem rconj_any {f : Nat} (ih : ∀ g, g ≤ f → ROp ts g) : RCj ts (f + 1) := by
  intro w0 pb v x y c0 h hr
  have hSt := h.start
  have hlt := fun g => (qpar_lt h.ok g).1
  rw [qCnj] at hr
  refine enter Tryz.func112 rfl Tryz.ntmps112 rfl ?_
  repeat' (first | (refine WL_alloc hT rfl rfl rfl hSt ?_; clear hSt; intro w nb hnb hSt; replace hSt := hSt.front; dsimp only [zcells] at hSt) | refine stepA ?_ | (refine stepS ?_; clear hSt; intro w hSt; dsimp only [spl, List.set] at hSt) | (refine stepB ?_; clear hSt; intro w nb hnb hSt; dsimp only [zcells, List.nil_append, List.cons_append] at hSt) | (refine stepG ?_ ?_ <;> intro hc <;> (try exact absA) <;> (fail_if_success (change true = true at hc)) <;> (fail_if_success (change false = false at hc))) | fail)
  obtain ⟨t2b, rfl⟩ : ∃ x, x = nb := ⟨nb, rfl⟩
  cases hx : qOpr ts f x with
  | none => rw [hx] at hr; cases hr
  | some cy =>
    obtain ⟨c, y1⟩ := cy
    rw [hx] at hr
    dsimp only at hr
    have hy1 := (hlt f _ _ _ h.lt hx).2
    refine WL_call (ok_call hT rfl) rfl rfl rfl (ih f (Nat.le_refl f) (h.next hSt (i := 1) rfl h.lt) hx) ?_
    rintro v1 w2 ⟨x0, x1, x2, x3, HD, rfl, hC, hc2⟩
    obtain ⟨rfl, rfl, rfl, a4, n4, k4, rfl⟩ := hC.parts (hc2.right (Ha := [_])).has
    replace hSt := hSt.scCall1 (Ha := [_]) hc2
    clear hc2
    dsimp only [List.cons_append, List.nil_append] at hSt hr
    repeat' (first | (refine WL_alloc hT rfl rfl rfl hSt ?_; clear hSt; intro w nb hnb hSt; replace hSt := hSt.front; dsimp only [zcells] at hSt) | refine stepA ?_ | (refine stepS ?_; clear hSt; intro w hSt; dsimp only [spl, List.set] at hSt) | (refine stepB ?_; clear hSt; intro w nb hnb hSt; dsimp only [zcells, List.nil_append, List.cons_append] at hSt) | (refine stepG ?_ ?_ <;> intro hc <;> (try exact absA) <;> (fail_if_success (change true = true at hc)) <;> (fail_if_success (change false = false at hc))) | fail)
    refine W_sub (L' := [(0, Ptr pb), (2, Ptr t2b), (3, Ptr nb)]) (by (repeat (first | exact Sub.nil _ | refine Sub.cons rfl ?_))) ?_
    refine W_loop1 (fun k (g : Nat) w => k = g ∧ g ≤ f ∧ ∃ c q a4 n4 k4 HD, qCnjL ts g c q = some (c0, y) ∧ q.1 < ts.length ∧ CondO HD c [I c.op, S c.name, S c.text, .slice a4 n4 k4] ∧ St w0 (· = pb) ((nb, blk [I c.op, S c.name, S c.text, .slice a4 n4 k4] 38) :: (t2b, blk [I 0, S [], S [], .slice none 0 0] 38) :: (pb, plO v q) :: HD) w) (fun _ => []) f f rfl (by (repeat (first | exact Str.nil _ | apply Str.drop rfl | apply Str.keepU rfl | apply Str.keep rfl))) ⟨rfl, Nat.le_refl f, c, y1, a4, n4, k4, HD, hr, hy1, hC, hSt⟩ (by (repeat (first | exact Sub.nil _ | refine Sub.cons rfl ?_))) ?_
    clear hSt hC hr hx hy1
    clear c y1 a4 n4 k4 HD w
    rintro k g w ⟨hk, hg, c, q, a4, n4, k4, HD, hL, hq, hC, hSt⟩ K hK
    have hm := fun {w : World} (h : PL w pb ts v q) => rtake_any h 4 [38] (by decide)
    cases g with
    | zero => rw [qCnjL] at hL; cases hL
    | succ g =>
      rw [qCnjL] at hL
      cases hA : tkT ts 4 [38] q with
      | true =>
        rw [if_pos hA] at hL
        have hp1 := (tkP_lt h.ok (k := 4) (s := [38]) (by decide) hq).2
        rw [hA] at hm
        cases hx : qOpr ts g (tkP ts 4 [38] q) with
        | none => rw [hx] at hL; cases hL
        | some cy =>
          obtain ⟨d, q2⟩ := cy
          rw [hx] at hL
          dsimp only at hL
          have ihg := fun {w : World} (h : PL w pb ts v (tkP ts 4 [38] q)) => ih g (by omega) h hx
          have hq2 := (hlt g _ _ _ hp1 hx).2
          repeat' (first | (refine WL_isCall (f := 104) ?_; refine WL_call (ok_call hT rfl) rfl rfl rfl (hm (h.next hSt (i := 2) rfl hq)) ?_; rintro v w2 ⟨rfl, hc2⟩; replace hSt := hSt.call1 (i := 2) rfl hc2; clear hc2; dsimp only [List.set] at hSt) | refine stepA ?_ | (refine stepS ?_; clear hSt; intro w hSt; dsimp only [spl, List.set] at hSt) | (refine stepB ?_; clear hSt; intro w nb hnb hSt; dsimp only [zcells, List.nil_append, List.cons_append] at hSt) | (refine stepG ?_ ?_ <;> intro hc <;> (try exact absA) <;> (fail_if_success (change true = true at hc)) <;> (fail_if_success (change false = false at hc))) | fail)
          refine W_ownS (Hs := [_]) [(0, false), (1, false), (2, true), (3, true), (4, false)] hT (by decide +kernel) rfl hSt ?_
          clear hSt
          intro w hSt
          iterate 2 (apply HL_ev rfl rfl (St.left (H0 := [_]) hSt); (intro w hSt; (first | exact Ev_auto)))
          refine HL_one ?_
          refine WL_call (ok_call hT rfl) rfl rfl rfl (ihg (h.next hSt (i := 2) rfl hp1)) ?_
          rintro v1 w6 ⟨y0, y1, y2, y3, HE, rfl, hD, hc2⟩
          obtain ⟨rfl, rfl, rfl, b4, m4, j4, rfl⟩ := hD.parts (hc2.right (Ha := [_])).has
          replace hSt := hSt.scCall (Ha := [_, _]) hc2
          clear hc2
          dsimp only [List.cons_append, List.nil_append] at hSt
          refine WL_nil (At_oneH (St.left (H0 := [_]) hSt) ?_)
          refine HL_one ?_
          refine WL_buildSlice hT rfl rfl rfl rfl rfl rfl rfl rfl hSt ?_
          clear hSt
          intro w nb2 hnb2 hSt
          dsimp only [List.cons_append, List.nil_append] at hSt
          refine WL_nil (At_oneH (St.left (H0 := [_]) hSt) ?_)
          (apply HL_ev rfl rfl (St.left (H0 := [_]) hSt); (intro w hSt; (first | exact Ev_auto)))
          refine HL_end ?_
          simp only [List.length_cons, List.length_nil, List.drop_succ_cons, List.drop_zero]
          repeat' (first | refine stepA ?_ | (refine stepS ?_; clear hSt; intro w hSt; dsimp only [spl, List.set] at hSt) | (refine stepB ?_; clear hSt; intro w nb hnb hSt; dsimp only [zcells, List.nil_append, List.cons_append] at hSt) | (refine stepG ?_ ?_ <;> intro hc <;> (try exact absA) <;> (fail_if_success (change true = true at hc)) <;> (fail_if_success (change false = false at hc))) | fail)
          exact At_loop1 hK (k' := g) g (by omega) ⟨rfl, by omega, .mk 4 [] [] [c, d], q2, _, _, _, _, hL, hq2, CondO.two hC hD, hSt.perm (List.Perm.cons _ (List.Perm.cons _ (List.Perm.cons _ (List.perm_append_singleton _ _).symm)))⟩ (by (repeat (first | exact Sub.nil _ | refine Sub.cons rfl ?_)))
      | false =>
        rw [if_neg (by simp [hA])] at hL
        injection hL with hL
        injection hL with e1 e2
        subst e1 e2
        rw [hA, tkP_no hA] at hm
        repeat' (first | (refine WL_isCall (f := 104) ?_; refine WL_call (ok_call hT rfl) rfl rfl rfl (hm (h.next hSt (i := 2) rfl hq)) ?_; rintro v w2 ⟨rfl, hc2⟩; replace hSt := hSt.call1 (i := 2) rfl hc2; clear hc2; dsimp only [List.set] at hSt) | refine stepA ?_ | (refine stepS ?_; clear hSt; intro w hSt; dsimp only [spl, List.set] at hSt) | (refine stepB ?_; clear hSt; intro w nb hnb hSt; dsimp only [zcells, List.nil_append, List.cons_append] at hSt) | (refine stepG ?_ ?_ <;> intro hc <;> (try exact absA) <;> (fail_if_success (change true = true at hc)) <;> (fail_if_success (change false = false at hc))) | fail)
        exact end_of (resc1 rfl hT rfl rfl (hSt.at 1 rfl) rfl rfl) ⟨_, _, _, _, HD, rfl, hC, hSt.right (Ha := [_, _])⟩
theorem rcond_any {f : Nat} (ih : ∀ g, g ≤ f → RCj ts g) : RCo ts (f + 1) := by
  intro w0 pb v x y c0 h hr
  have hSt := h.start
  have hlt := fun g => (qpar_lt h.ok g).2.1
  rw [qCon] at hr
  refine enter Tryz.func67 rfl Tryz.ntmps67 rfl ?_
  repeat' (first | (refine WL_alloc hT rfl rfl rfl hSt ?_; clear hSt; intro w nb hnb hSt; replace hSt := hSt.front; dsimp only [zcells] at hSt) | refine stepA ?_ | (refine stepS ?_; clear hSt; intro w hSt; dsimp only [spl, List.set] at hSt) | (refine stepB ?_; clear hSt; intro w nb hnb hSt; dsimp only [zcells, List.nil_append, List.cons_append] at hSt) | (refine stepG ?_ ?_ <;> intro hc <;> (try exact absA) <;> (fail_if_success (change true = true at hc)) <;> (fail_if_success (change false = false at hc))) | fail)
  obtain ⟨t2b, rfl⟩ : ∃ x, x = nb := ⟨nb, rfl⟩
  cases hx : qCnj ts f x with
  | none => rw [hx] at hr; cases hr
  | some cy =>
    obtain ⟨c, y1⟩ := cy
    rw [hx] at hr
    dsimp only at hr
    have hy1 := (hlt f _ _ _ h.lt hx).2
    refine WL_call (ok_call hT rfl) rfl rfl rfl (ih f (Nat.le_refl f) (h.next hSt (i := 1) rfl h.lt) hx) ?_
    rintro v1 w2 ⟨x0, x1, x2, x3, HD, rfl, hC, hc2⟩
    obtain ⟨rfl, rfl, rfl, a4, n4, k4, rfl⟩ := hC.parts (hc2.right (Ha := [_])).has
    replace hSt := hSt.scCall1 (Ha := [_]) hc2
    clear hc2
    dsimp only [List.cons_append, List.nil_append] at hSt hr
    repeat' (first | (refine WL_alloc hT rfl rfl rfl hSt ?_; clear hSt; intro w nb hnb hSt; replace hSt := hSt.front; dsimp only [zcells] at hSt) | refine stepA ?_ | (refine stepS ?_; clear hSt; intro w hSt; dsimp only [spl, List.set] at hSt) | (refine stepB ?_; clear hSt; intro w nb hnb hSt; dsimp only [zcells, List.nil_append, List.cons_append] at hSt) | (refine stepG ?_ ?_ <;> intro hc <;> (try exact absA) <;> (fail_if_success (change true = true at hc)) <;> (fail_if_success (change false = false at hc))) | fail)
    refine W_sub (L' := [(0, Ptr pb), (2, Ptr t2b), (3, Ptr nb)]) (by (repeat (first | exact Sub.nil _ | refine Sub.cons rfl ?_))) ?_
    refine W_loop1 (fun k (g : Nat) w => k = g ∧ g ≤ f ∧ ∃ c q a4 n4 k4 HD, qConL ts g c q = some (c0, y) ∧ q.1 < ts.length ∧ CondO HD c [I c.op, S c.name, S c.text, .slice a4 n4 k4] ∧ St w0 (· = pb) ((nb, blk [I c.op, S c.name, S c.text, .slice a4 n4 k4] 38) :: (t2b, blk [I 0, S [], S [], .slice none 0 0] 38) :: (pb, plO v q) :: HD) w) (fun _ => []) f f rfl (by (repeat (first | exact Str.nil _ | apply Str.drop rfl | apply Str.keepU rfl | apply Str.keep rfl))) ⟨rfl, Nat.le_refl f, c, y1, a4, n4, k4, HD, hr, hy1, hC, hSt⟩ (by (repeat (first | exact Sub.nil _ | refine Sub.cons rfl ?_))) ?_
    clear hSt hC hr hx hy1
    clear c y1 a4 n4 k4 HD w
    rintro k g w ⟨hk, hg, c, q, a4, n4, k4, HD, hL, hq, hC, hSt⟩ K hK
    have hm := fun {w : World} (h : PL w pb ts v q) => rtake_any h 4 [124] (by decide)
    cases g with
    | zero => rw [qConL] at hL; cases hL
    | succ g =>
      rw [qConL] at hL
      cases hA : tkT ts 4 [124] q with
      | true =>
        rw [if_pos hA] at hL
        have hp1 := (tkP_lt h.ok (k := 4) (s := [124]) (by decide) hq).2
        rw [hA] at hm
        cases hx : qCnj ts g (tkP ts 4 [124] q) with
        | none => rw [hx] at hL; cases hL
        | some cy =>
          obtain ⟨d, q2⟩ := cy
          rw [hx] at hL
          dsimp only at hL
          have ihg := fun {w : World} (h : PL w pb ts v (tkP ts 4 [124] q)) => ih g (by omega) h hx
          have hq2 := (hlt g _ _ _ hp1 hx).2
          repeat' (first | (refine WL_isCall (f := 104) ?_; refine WL_call (ok_call hT rfl) rfl rfl rfl (hm (h.next hSt (i := 2) rfl hq)) ?_; rintro v w2 ⟨rfl, hc2⟩; replace hSt := hSt.call1 (i := 2) rfl hc2; clear hc2; dsimp only [List.set] at hSt) | refine stepA ?_ | (refine stepS ?_; clear hSt; intro w hSt; dsimp only [spl, List.set] at hSt) | (refine stepB ?_; clear hSt; intro w nb hnb hSt; dsimp only [zcells, List.nil_append, List.cons_append] at hSt) | (refine stepG ?_ ?_ <;> intro hc <;> (try exact absA) <;> (fail_if_success (change true = true at hc)) <;> (fail_if_success (change false = false at hc))) | fail)
          refine W_ownS (Hs := [_]) [(0, false), (1, false), (2, true), (3, true), (4, false)] hT (by decide +kernel) rfl hSt ?_
          clear hSt
          intro w hSt
          iterate 2 (apply HL_ev rfl rfl (St.left (H0 := [_]) hSt); (intro w hSt; (first | exact Ev_auto)))
          refine HL_one ?_
          refine WL_call (ok_call hT rfl) rfl rfl rfl (ihg (h.next hSt (i := 2) rfl hp1)) ?_
          rintro v1 w6 ⟨y0, y1, y2, y3, HE, rfl, hD, hc2⟩
          obtain ⟨rfl, rfl, rfl, b4, m4, j4, rfl⟩ := hD.parts (hc2.right (Ha := [_])).has
          replace hSt := hSt.scCall (Ha := [_, _]) hc2
          clear hc2
          dsimp only [List.cons_append, List.nil_append] at hSt
          refine WL_nil (At_oneH (St.left (H0 := [_]) hSt) ?_)
          refine HL_one ?_
          refine WL_buildSlice hT rfl rfl rfl rfl rfl rfl rfl rfl hSt ?_
          clear hSt
          intro w nb2 hnb2 hSt
          dsimp only [List.cons_append, List.nil_append] at hSt
          refine WL_nil (At_oneH (St.left (H0 := [_]) hSt) ?_)
          (apply HL_ev rfl rfl (St.left (H0 := [_]) hSt); (intro w hSt; (first | exact Ev_auto)))
          refine HL_end ?_
          simp only [List.length_cons, List.length_nil, List.drop_succ_cons, List.drop_zero]
          repeat' (first | refine stepA ?_ | (refine stepS ?_; clear hSt; intro w hSt; dsimp only [spl, List.set] at hSt) | (refine stepB ?_; clear hSt; intro w nb hnb hSt; dsimp only [zcells, List.nil_append, List.cons_append] at hSt) | (refine stepG ?_ ?_ <;> intro hc <;> (try exact absA) <;> (fail_if_success (change true = true at hc)) <;> (fail_if_success (change false = false at hc))) | fail)
          exact At_loop1 hK (k' := g) g (by omega) ⟨rfl, by omega, .mk 5 [] [] [c, d], q2, _, _, _, _, hL, hq2, CondO.two hC hD, hSt.perm (List.Perm.cons _ (List.Perm.cons _ (List.Perm.cons _ (List.perm_append_singleton _ _).symm)))⟩ (by (repeat (first | exact Sub.nil _ | refine Sub.cons rfl ?_)))
      | false =>
        rw [if_neg (by simp [hA])] at hL
        injection hL with hL
        injection hL with e1 e2
        subst e1 e2
        rw [hA, tkP_no hA] at hm
        repeat' (first | (refine WL_isCall (f := 104) ?_; refine WL_call (ok_call hT rfl) rfl rfl rfl (hm (h.next hSt (i := 2) rfl hq)) ?_; rintro v w2 ⟨rfl, hc2⟩; replace hSt := hSt.call1 (i := 2) rfl hc2; clear hc2; dsimp only [List.set] at hSt) | refine stepA ?_ | (refine stepS ?_; clear hSt; intro w hSt; dsimp only [spl, List.set] at hSt) | (refine stepB ?_; clear hSt; intro w nb hnb hSt; dsimp only [zcells, List.nil_append, List.cons_append] at hSt) | (refine stepG ?_ ?_ <;> intro hc <;> (try exact absA) <;> (fail_if_success (change true = true at hc)) <;> (fail_if_success (change false = false at hc))) | fail)
        exact end_of (resc1 rfl hT rfl rfl (hSt.at 1 rfl) rfl rfl) ⟨_, _, _, _, HD, rfl, hC, hSt.right (Ha := [_, _])⟩
theorem rzero_op : ROp ts 0 := fun h hr => by rw [qOpr] at hr; cases hr
theorem rzero_cj : RCj ts 0 := fun h hr => by rw [qCnj] at hr; cases hr
theorem rzero_co : RCo ts 0 := fun h hr => by rw [qCon] at hr; cases hr
theorem rconds_any : ∀ f : Nat, ∀ g, g ≤ f → ROp ts g ∧ RCj ts g ∧ RCo ts g
  | 0, g, hg => by
    obtain rfl : g = 0 := by omega
    exact ⟨rzero_op, rzero_cj, rzero_co⟩
  | f + 1, g, hg => by
    have ih := rconds_any f
    by_cases e : g ≤ f
    · exact ih g e
    · obtain rfl : g = f + 1 := by omega
      exact ⟨roperand_any (ih f (Nat.le_refl f)).1 (ih f (Nat.le_refl f)).2.2, rconj_any (fun g hg => (ih g hg).1), rcond_any (fun g hg => (ih g hg).2.1)⟩
end
end Go.Proofs.YtknfankadlokhaaGreatDoor
