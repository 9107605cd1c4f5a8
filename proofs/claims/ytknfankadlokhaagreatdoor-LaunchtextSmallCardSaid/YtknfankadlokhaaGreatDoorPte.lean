/- The specification's parser in memory: an entry. No conditions. -/
import Derived.Test.YtknfankadlokhaaGreatDoorNJ
import Derived.Test.YtknfankadlokhaaGreatDoorPpf

namespace Go.Proofs.YtknfankadlokhaaGreatDoor
open Go.RowKit
set_option maxRecDepth 4000
set_option linter.unusedVariables false
set_option linter.unusedSimpArgs false
set_option maxHeartbeats 16000000

section
variable {w0 : World} {pb : Nat} {v : Value} {ts : List Tk} {x : Pq}
theorem qentry_any {f : Nat} {e : Ln} {y : Pq} (h : PL w0 pb ts v x) (hr : qEnt ts f x = some (e, y)) : Cl Tryz.prog 58 [Ptr pb] w0 (fun r w' => ∃ cv va vs HD, r = .agg ⟨[S e.node, S e.prog, I e.cond.op, S e.cond.name, S e.cond.text, cv, va, vs]⟩ ∧ EntO HD e [S e.node, S e.prog, I e.cond.op, S e.cond.name, S e.cond.text, cv, va, vs] ∧ x.1 ≤ y.1 ∧ y.1 < ts.length ∧ St w0 (· = pb) ((pb, plO v y) :: HD) w') := by
  have hSt := h.start
  have hlen := h.len
  unfold qEnt at hr
  have l1 := qHd_lt h.ok h.lt
  have l2 := anP_lt h.ok (k := 1) (by decide) l1.2
  have l3 := qMid_lt h.ok h.lt
  have l4 := anP_lt h.ok (k := 1) (by decide) l3.2
  have hn1 := fun {w : World} (h : PL w pb ts v x) => rneed_any h 1 wNode (by decide)
  have ha1 := fun {w : World} (h : PL w pb ts v (qHd ts x)) => rany_any h 1 (by decide)
  have hn2 := fun {w : World} (h : PL w pb ts v (anP ts 1 (qHd ts x))) => rneed_any h 4 [58] (by decide)
  have ha2 := fun {w : World} (h : PL w pb ts v (qMid ts x)) => rany_any h 1 (by decide)
  generalize anT ts 1 (qHd ts x) = nd at hr ha1
  generalize anT ts 1 (qMid ts x) = pg at hr ha2
  obtain ⟨q3, hq3⟩ : ∃ z, anP ts 1 (qMid ts x) = z := ⟨_, rfl⟩
  rw [hq3] at hr ha2 l4
  have h3 := l4.2
  refine enter Tryz.func58 rfl Tryz.ntmps58 rfl ?_
  repeat' (first | (refine WL_alloc hT rfl rfl rfl hSt ?_; clear hSt; intro w nb hnb hSt; replace hSt := hSt.front; dsimp only [zcells] at hSt) | refine stepA ?_ | (refine stepS ?_; clear hSt; intro w hSt; dsimp only [spl, List.set] at hSt) | (refine stepB ?_; clear hSt; intro w nb hnb hSt; dsimp only [zcells, List.nil_append, List.cons_append] at hSt) | (refine stepG ?_ ?_ <;> intro hc <;> (try exact absA) <;> (fail_if_success (change true = true at hc)) <;> (fail_if_success (change false = false at hc))) | fail)
  obtain ⟨t2b, rfl⟩ : ∃ x, x = nb := ⟨nb, rfl⟩
  refine WL_call (ok_call hT rfl) rfl rfl rfl (hn1 (h.next hSt (i := 1) rfl h.lt)) ?_
  rintro v1 w2 ⟨_, hc2⟩
  replace hSt := hSt.call1 (i := 1) rfl hc2
  clear hc2
  dsimp only [List.set] at hSt
  repeat' (first | refine stepA ?_ | (refine stepS ?_; clear hSt; intro w hSt; dsimp only [spl, List.set] at hSt) | (refine stepB ?_; clear hSt; intro w nb hnb hSt; dsimp only [zcells, List.nil_append, List.cons_append] at hSt) | (refine stepG ?_ ?_ <;> intro hc <;> (try exact absA) <;> (fail_if_success (change true = true at hc)) <;> (fail_if_success (change false = false at hc))) | fail)
  refine WL_call (ok_call hT rfl) rfl rfl rfl (ha1 (h.next hSt (i := 1) rfl l1.2)) ?_
  rintro v1 w2 ⟨rfl, hc2⟩
  replace hSt := hSt.call1 (i := 1) rfl hc2
  clear hc2
  dsimp only [List.set] at hSt
  repeat' (first | (refine WL_alloc hT rfl rfl rfl hSt ?_; clear hSt; intro w nb hnb hSt; replace hSt := hSt.front; dsimp only [zcells] at hSt) | refine stepA ?_ | (refine stepS ?_; clear hSt; intro w hSt; dsimp only [spl, List.set] at hSt) | (refine stepB ?_; clear hSt; intro w nb hnb hSt; dsimp only [zcells, List.nil_append, List.cons_append] at hSt) | (refine stepG ?_ ?_ <;> intro hc <;> (try exact absA) <;> (fail_if_success (change true = true at hc)) <;> (fail_if_success (change false = false at hc))) | fail)
  obtain ⟨t3b, rfl⟩ : ∃ x, x = nb := ⟨nb, rfl⟩
  refine WL_call (ok_call hT rfl) rfl rfl rfl (hn2 (h.next hSt (i := 2) rfl l2.2)) ?_
  rintro v1 w2 ⟨_, hc2⟩
  replace hSt := hSt.call1 (i := 2) rfl hc2
  clear hc2
  dsimp only [List.set] at hSt
  repeat' (first | refine stepA ?_ | (refine stepS ?_; clear hSt; intro w hSt; dsimp only [spl, List.set] at hSt) | (refine stepB ?_; clear hSt; intro w nb hnb hSt; dsimp only [zcells, List.nil_append, List.cons_append] at hSt) | (refine stepG ?_ ?_ <;> intro hc <;> (try exact absA) <;> (fail_if_success (change true = true at hc)) <;> (fail_if_success (change false = false at hc))) | fail)
  refine WL_call (ok_call hT rfl) rfl rfl rfl (ha2 (h.next hSt (i := 2) rfl l3.2)) ?_
  rintro v1 w2 ⟨rfl, hc2⟩
  replace hSt := hSt.call1 (i := 2) rfl hc2
  clear hc2
  dsimp only [List.set] at hSt
  clear hn1 ha1 hn2 ha2
  repeat' (first | (refine W_midAtC 8 (fun L' w' => ∃ c y a4 n4 k4 HC, qIf ts f q3 = some (c, y) ∧ y.1 < ts.length ∧ CondO HC c [I c.op, S c.name, S c.text, (.slice a4 n4 k4)] ∧ St w0 (· = pb) ((t3b, blk [S nd, S pg, I c.op, S c.name, S c.text, (.slice a4 n4 k4), (.slice none 0 0), (.slice none 0 0)] 40) :: (t2b, blk [S [], S [], I 0, S [], S [], .slice none 0 0, .slice none 0 0, .slice none 0 0] 40) :: (pb, plO v y) :: HC) w' ∧ L' = [(0, Ptr pb), (2, Ptr t2b), (3, Ptr t3b)]) (fun K2 hK2 => ?_) (fun L' w' hm => ?_); rotate_left 1; (obtain ⟨c, q4, a4, n4, k4, HC, hx4, hq4, hC, hSt, rfl⟩ := hm; rw [hx4] at hr; dsimp only at hr)) | (refine W_midAtC 12 (fun L' w' => ∃ la y aa ka HA, qAft ts f q4 = some (la, y) ∧ y.1 < ts.length ∧ la.length ≤ y.1 + 1 ∧ OwnSl (.slice aa la.length ka) 9 1 (la.map S) la.length HA ∧ St w0 (· = pb) ((t3b, blk [S nd, S pg, I c.op, S c.name, S c.text, (.slice a4 n4 k4), (.slice aa la.length ka), (.slice none 0 0)] 40) :: (t2b, blk [S [], S [], I 0, S [], S [], .slice none 0 0, .slice none 0 0, .slice none 0 0] 40) :: (pb, plO v y) :: (HC ++ HA)) w' ∧ L' = [(0, Ptr pb), (2, Ptr t2b), (3, Ptr t3b)]) (fun K2 hK2 => ?_) (fun L' w' hm => ?_); rotate_left 1; (obtain ⟨la, q5, aa, ka, HA, hx5, hq5, hla, hoa, hSt, rfl⟩ := hm; rw [hx5] at hr; dsimp only at hr)) | (refine W_midAtL 15 (fun L' w' => ∃ g y as0 ks HS, qBrac ts f q5 = some (g, y) ∧ y.1 < ts.length ∧ g.length ≤ y.1 + 1 ∧ (∀ s ∈ g, s.2.length ≤ 9223372036854775807) ∧ OwnSl (.slice as0 g.length ks) 57 2 (g.flatMap sgC) g.length HS ∧ St w0 (· = pb) ((t3b, blk [S nd, S pg, I c.op, S c.name, S c.text, (.slice a4 n4 k4), (.slice aa la.length ka), (.slice as0 g.length ks)] 40) :: (t2b, blk [S [], S [], I 0, S [], S [], .slice none 0 0, .slice none 0 0, .slice none 0 0] 40) :: (pb, plO v y) :: (HS ++ (HC ++ HA))) w' ∧ L' = [(0, Ptr pb), (2, Ptr t2b), (3, Ptr t3b)]) (fun K2 hK2 => ?_) (fun L' w' hm => ?_); rotate_left 1; (obtain ⟨g, q6, as0, ks, HS, hx6, hq6, hg, htx, hos, hSt, rfl⟩ := hm; rw [hx6] at hr; dsimp only at hr)) | refine stepA ?_ | (refine stepS ?_; clear hSt; intro w hSt; dsimp only [spl, List.set] at hSt) | (refine stepB ?_; clear hSt; intro w nb hnb hSt; dsimp only [zcells, List.nil_append, List.cons_append] at hSt) | (refine stepG ?_ ?_ <;> intro hc <;> (try exact absA) <;> (fail_if_success (change true = true at hc)) <;> (fail_if_success (change false = false at hc))) | fail)
  rotate_left 3
  · have htk := fun {w : World} (h : PL w pb ts v q3) => rtake_any h 1 wIf (by decide)
    cases hA : tkT ts 1 wIf q3 with
    | true =>
      have e9 : qIf ts f q3 = qCon ts f (tkP ts 1 wIf q3) := if_pos hA
      have hp1 := (tkP_lt h.ok (k := 1) (s := wIf) (by decide) h3).2
      rw [hA] at htk
      rw [e9] at hr
      cases hx : qCon ts f (tkP ts 1 wIf q3) with
      | none => rw [hx] at hr; cases hr
      | some cy =>
        obtain ⟨c, q⟩ := cy
        repeat' (first | (refine WL_isCall (f := 104) ?_; refine WL_call (ok_call hT rfl) rfl rfl rfl (htk (h.next hSt (i := 2) rfl h3)) ?_; rintro v w2 ⟨rfl, hc2⟩; replace hSt := hSt.call1 (i := 2) rfl hc2; clear hc2; dsimp only [List.set] at hSt) | refine stepA ?_ | (refine stepS ?_; clear hSt; intro w hSt; dsimp only [spl, List.set] at hSt) | (refine stepB ?_; clear hSt; intro w nb hnb hSt; dsimp only [zcells, List.nil_append, List.cons_append] at hSt) | (refine stepG ?_ ?_ <;> intro hc <;> (try exact absA) <;> (fail_if_success (change true = true at hc)) <;> (fail_if_success (change false = false at hc))) | fail)
        refine WL_call (ok_call hT rfl) rfl rfl rfl ((rconds_any f f (Nat.le_refl f)).2.2 (h.next hSt (i := 2) rfl hp1) hx) ?_
        rintro v1 w2 ⟨x0, x1, x2, x3, HD, rfl, hC, hc2⟩
        have hq := (qpar_lt h.ok f).2.2.2.1 _ _ _ hp1 hx
        obtain ⟨rfl, rfl, rfl, a4, n4, k4, rfl⟩ := hC.parts (hc2.right (Ha := [_])).has
        replace hSt := hSt.scCall1 (Ha := [_, _]) hc2
        clear hc2
        dsimp only [List.cons_append, List.nil_append] at hSt
        repeat' (first | refine stepA ?_ | (refine stepS ?_; clear hSt; intro w hSt; dsimp only [spl, List.set] at hSt) | (refine stepB ?_; clear hSt; intro w nb hnb hSt; dsimp only [zcells, List.nil_append, List.cons_append] at hSt) | (refine stepG ?_ ?_ <;> intro hc <;> (try exact absA) <;> (fail_if_success (change true = true at hc)) <;> (fail_if_success (change false = false at hc))) | fail)
        exact At_K hK2 ⟨c, q, a4, n4, k4, HD, by rw [e9, hx], hq.2, hC, hSt, rfl⟩ (by (repeat (first | exact Sub.nil _ | refine Sub.cons rfl ?_)))
    | false =>
      rw [hA, tkP_no hA] at htk
      repeat' (first | (refine WL_isCall (f := 104) ?_; refine WL_call (ok_call hT rfl) rfl rfl rfl (htk (h.next hSt (i := 2) rfl h3)) ?_; rintro v w2 ⟨rfl, hc2⟩; replace hSt := hSt.call1 (i := 2) rfl hc2; clear hc2; dsimp only [List.set] at hSt) | refine stepA ?_ | (refine stepS ?_; clear hSt; intro w hSt; dsimp only [spl, List.set] at hSt) | (refine stepB ?_; clear hSt; intro w nb hnb hSt; dsimp only [zcells, List.nil_append, List.cons_append] at hSt) | (refine stepG ?_ ?_ <;> intro hc <;> (try exact absA) <;> (fail_if_success (change true = true at hc)) <;> (fail_if_success (change false = false at hc))) | fail)
      exact At_K hK2 ⟨.mk 1 [] [] [], q3, _, _, _, [], if_neg (by simp [hA]), h3, CondO.leaf (by simp), hSt, rfl⟩ (by (repeat (first | exact Sub.nil _ | refine Sub.cons rfl ?_)))
  rotate_right 1
  · have htk := fun {w : World} (h : PL w pb ts v q4) => rtake_any h 1 wAfter (by decide)
    cases hA : tkT ts 1 wAfter q4 with
    | true =>
      have e9 : qAft ts f q4 = qAftL ts f [anT ts 1 (tkP ts 1 wAfter q4)] (anP ts 1 (tkP ts 1 wAfter q4)) := if_pos hA
      have hp1 := (tkP_lt h.ok (k := 1) (s := wAfter) (by decide) hq4).2
      have hp2 := (anP_lt h.ok (k := 1) (by decide) hp1).2
      have han := fun {w : World} (h : PL w pb ts v (tkP ts 1 wAfter q4)) => rany_any h 1 (by decide)
      rw [hA] at htk
      rw [e9] at hr
      cases hx : qAftL ts f [anT ts 1 (tkP ts 1 wAfter q4)] (anP ts 1 (tkP ts 1 wAfter q4)) with
      | none => rw [hx] at hr; cases hr
      | some ra =>
        obtain ⟨lr, yr⟩ := ra
        have hlr := qAftL_lt h.ok f _ _ hp2 (by show 1 ≤ _; omega) hx
        repeat' (first | (refine WL_isCall (f := 104) ?_; refine WL_call (ok_call hT rfl) rfl rfl rfl (htk (h.next hSt (i := 2) rfl hq4)) ?_; rintro v w2 ⟨rfl, hc2⟩; replace hSt := hSt.call1 (i := 2) rfl hc2; clear hc2; dsimp only [List.set] at hSt) | refine stepA ?_ | (refine stepS ?_; clear hSt; intro w hSt; dsimp only [spl, List.set] at hSt) | (refine stepB ?_; clear hSt; intro w nb hnb hSt; dsimp only [zcells, List.nil_append, List.cons_append] at hSt) | (refine stepG ?_ ?_ <;> intro hc <;> (try exact absA) <;> (fail_if_success (change true = true at hc)) <;> (fail_if_success (change false = false at hc))) | fail)
        have ho := OwnSl.nil 9 1
        obtain ⟨HA, hHA⟩ : ∃ HA : List (Nat × Obj), HA = [] := ⟨_, rfl⟩
        rw [← hHA] at ho
        rw [← List.append_nil HC, ← hHA] at hSt
        refine W_ownS (Hs := [_]) [(0, false), (1, false), (2, false), (3, true), (4, true), (5, true), (6, false)] hT (by decide +kernel) rfl hSt ?_
        clear hSt
        intro w hSt
        iterate 3 (apply HL_ev rfl rfl (St.left (H0 := [_]) hSt); (intro w hSt; (first | exact Ev_auto)))
        refine HL_one ?_
        refine WL_call (ok_call hT rfl) rfl rfl rfl (han (h.next hSt (i := 2) rfl hp1)) ?_
        rintro v1 w6 ⟨rfl, hc2⟩
        replace hSt := hSt.call1 (i := 2) rfl hc2
        clear hc2
        dsimp only [List.cons_append, List.nil_append, List.set] at hSt
        refine WL_nil (At_oneH (St.left (H0 := [_]) hSt) ?_)
        refine HL_one ?_
        refine WL_buildSlice hT rfl rfl rfl rfl rfl rfl rfl rfl hSt ?_
        clear hSt
        intro w nb2 hnb2 hSt
        refine WL_nil (At_oneH (St.left (H0 := [_]) hSt) ?_)
        refine HL_one ?_
        refine WL_appendL (H0 := _ :: _ :: _ :: HC) (H1 := HA) hT rfl rfl rfl rfl rfl rfl rfl hSt ho rfl rfl (by omega) (by omega) ?_
        clear hSt ho
        intro va2 w HA2 ho hSt
        obtain ⟨aa2, ka2, rfl, _⟩ := ho.cap
        try dsimp only [List.cons_append] at hSt
        replace ho : OwnSl (.slice aa2 (([] : List Tx).length + 1) ka2) 9 1 ((([] : List Tx) ++ [anT ts 1 (tkP ts 1 wAfter q4)]).map S) (([] : List Tx) ++ [anT ts 1 (tkP ts 1 wAfter q4)]).length HA2 := by
          rw [List.map_append, List.length_append]; exact ho
        refine WL_nil (At_oneH (St.left (H0 := [_]) hSt) ?_)
        (apply HL_ev rfl rfl (St.left (H0 := [_]) hSt); (intro w hSt; (first | exact Ev_auto)))
        refine HL_end ?_
        simp only [List.length_cons, List.length_nil, List.drop_succ_cons, List.drop_zero]
        repeat' (first | refine stepA ?_ | (refine stepS ?_; clear hSt; intro w hSt; dsimp only [spl, List.set] at hSt) | (refine stepB ?_; clear hSt; intro w nb hnb hSt; dsimp only [zcells, List.nil_append, List.cons_append] at hSt) | (refine stepG ?_ ?_ <;> intro hc <;> (try exact absA) <;> (fail_if_success (change true = true at hc)) <;> (fail_if_success (change false = false at hc))) | fail)
        refine W_sub (L' := [(0, Ptr pb), (2, Ptr t2b), (3, Ptr t3b)]) (by (repeat (first | exact Sub.nil _ | refine Sub.cons rfl ?_))) ?_
        refine W_loop1 (fun k (g : Nat) w => k = g ∧ ∃ la y aa ka HA, qAftL ts g la y = some (lr, yr) ∧ y.1 < ts.length ∧ la.length ≤ y.1 + 1 ∧ OwnSl (.slice aa la.length ka) 9 1 (la.map S) la.length HA ∧ St w0 (· = pb) ((t3b, blk [S nd, S pg, I c.op, S c.name, S c.text, (.slice a4 n4 k4), (.slice aa la.length ka), (.slice none 0 0)] 40) :: (t2b, blk [S [], S [], I 0, S [], S [], .slice none 0 0, .slice none 0 0, .slice none 0 0] 40) :: (pb, plO v y) :: (HC ++ HA)) w) (fun _ => []) f f rfl (by (repeat (first | exact Str.nil _ | apply Str.drop rfl | apply Str.keepU rfl | apply Str.keep rfl))) ⟨rfl, [anT ts 1 (tkP ts 1 wAfter q4)], _, aa2, ka2, HA2, hx, hp2, by show 1 ≤ _; omega, ho, hSt⟩ (by (repeat (first | exact Sub.nil _ | refine Sub.cons rfl ?_))) ?_
        clear hSt htk han ho hHA
        rintro k g w ⟨hk, la, y1, aa, ka, HA, hL, hq, hlq, ho, hSt⟩ K hK
        have htk := fun {w : World} (h : PL w pb ts v y1) => rtake_any h 4 [44] (by decide)
        cases g with
        | zero => rw [qAftL] at hL; cases hL
        | succ g =>
          rw [qAftL] at hL
          cases hB : tkT ts 4 [44] y1 with
          | true =>
            rw [if_pos hB] at hL
            rw [hB] at htk
            have hlt := (tkP_lt h.ok (k := 4) (s := [44]) (by decide) hq).2
            have e1 : (tkP ts 4 [44] y1).1 = y1.1 + 1 := by rw [tkP_yes hB]
            have han := fun {w : World} (h : PL w pb ts v (tkP ts 4 [44] y1)) => rany_any h 1 (by decide)
            have hq2 := anP_lt h.ok (k := 1) (by decide) hlt
            repeat' (first | (refine WL_isCall (f := 104) ?_; refine WL_call (ok_call hT rfl) rfl rfl rfl (htk (h.next hSt (i := 2) rfl hq)) ?_; rintro v w2 ⟨rfl, hc2⟩; replace hSt := hSt.call1 (i := 2) rfl hc2; clear hc2; dsimp only [List.set] at hSt) | refine stepA ?_ | (refine stepS ?_; clear hSt; intro w hSt; dsimp only [spl, List.set] at hSt) | (refine stepB ?_; clear hSt; intro w nb hnb hSt; dsimp only [zcells, List.nil_append, List.cons_append] at hSt) | (refine stepG ?_ ?_ <;> intro hc <;> (try exact absA) <;> (fail_if_success (change true = true at hc)) <;> (fail_if_success (change false = false at hc))) | fail)
            refine W_ownS (Hs := [_]) [(0, false), (1, false), (2, false), (3, true), (4, true), (5, true), (6, false)] hT (by decide +kernel) rfl hSt ?_
            clear hSt
            intro w hSt
            iterate 3 (apply HL_ev rfl rfl (St.left (H0 := [_]) hSt); (intro w hSt; (first | exact Ev_auto)))
            refine HL_one ?_
            refine WL_call (ok_call hT rfl) rfl rfl rfl (han (h.next hSt (i := 2) rfl hlt)) ?_
            rintro v1 w6 ⟨rfl, hc2⟩
            replace hSt := hSt.call1 (i := 2) rfl hc2
            clear hc2
            dsimp only [List.cons_append, List.nil_append, List.set] at hSt
            refine WL_nil (At_oneH (St.left (H0 := [_]) hSt) ?_)
            refine HL_one ?_
            refine WL_buildSlice hT rfl rfl rfl rfl rfl rfl rfl rfl hSt ?_
            clear hSt
            intro w nb2 hnb2 hSt
            refine WL_nil (At_oneH (St.left (H0 := [_]) hSt) ?_)
            refine HL_one ?_
            refine WL_appendL (H0 := _ :: _ :: _ :: HC) (H1 := HA) hT rfl rfl rfl rfl rfl rfl rfl hSt ho rfl rfl (by omega) (by omega) ?_
            clear hSt ho
            intro va2 w HA2 ho hSt
            obtain ⟨aa2, ka2, rfl, _⟩ := ho.cap
            try dsimp only [List.cons_append] at hSt
            replace ho : OwnSl (.slice aa2 (la.length + 1) ka2) 9 1 ((la ++ [anT ts 1 (tkP ts 4 [44] y1)]).map S) (la ++ [anT ts 1 (tkP ts 4 [44] y1)]).length HA2 := by
              rw [List.map_append, List.length_append]; exact ho
            refine WL_nil (At_oneH (St.left (H0 := [_]) hSt) ?_)
            (apply HL_ev rfl rfl (St.left (H0 := [_]) hSt); (intro w hSt; (first | exact Ev_auto)))
            refine HL_end ?_
            simp only [List.length_cons, List.length_nil, List.drop_succ_cons, List.drop_zero]
            repeat' (first | refine stepA ?_ | (refine stepS ?_; clear hSt; intro w hSt; dsimp only [spl, List.set] at hSt) | (refine stepB ?_; clear hSt; intro w nb hnb hSt; dsimp only [zcells, List.nil_append, List.cons_append] at hSt) | (refine stepG ?_ ?_ <;> intro hc <;> (try exact absA) <;> (fail_if_success (change true = true at hc)) <;> (fail_if_success (change false = false at hc))) | fail)
            have hll : (la ++ [anT ts 1 (tkP ts 4 [44] y1)]).length = la.length + 1 := by simp
            exact At_loop1 hK (k' := g) g (by omega) ⟨rfl, la ++ [anT ts 1 (tkP ts 4 [44] y1)], _, aa2, ka2, HA2, hL, hq2.2, by omega, by rw [hll] at ho ⊢; exact ho, by rw [hll]; exact hSt⟩ (by (repeat (first | exact Sub.nil _ | refine Sub.cons rfl ?_)))
          | false =>
            rw [if_neg (by simp [hB])] at hL
            injection hL with hL
            injection hL with e1 e2
            subst e1 e2
            rw [hB, tkP_no hB] at htk
            repeat' (first | (refine WL_isCall (f := 104) ?_; refine WL_call (ok_call hT rfl) rfl rfl rfl (htk (h.next hSt (i := 2) rfl hq)) ?_; rintro v w2 ⟨rfl, hc2⟩; replace hSt := hSt.call1 (i := 2) rfl hc2; clear hc2; dsimp only [List.set] at hSt) | refine stepA ?_ | (refine stepS ?_; clear hSt; intro w hSt; dsimp only [spl, List.set] at hSt) | (refine stepB ?_; clear hSt; intro w nb hnb hSt; dsimp only [zcells, List.nil_append, List.cons_append] at hSt) | (refine stepG ?_ ?_ <;> intro hc <;> (try exact absA) <;> (fail_if_success (change true = true at hc)) <;> (fail_if_success (change false = false at hc))) | fail)
            exact At_K hK2 ⟨la, y1, aa, ka, HA, by rw [e9, hx], hq, hlq, ho, hSt, rfl⟩ (by (repeat (first | exact Sub.nil _ | refine Sub.cons rfl ?_)))
    | false =>
      rw [hA, tkP_no hA] at htk
      repeat' (first | (refine WL_isCall (f := 104) ?_; refine WL_call (ok_call hT rfl) rfl rfl rfl (htk (h.next hSt (i := 2) rfl hq4)) ?_; rintro v w2 ⟨rfl, hc2⟩; replace hSt := hSt.call1 (i := 2) rfl hc2; clear hc2; dsimp only [List.set] at hSt) | refine stepA ?_ | (refine stepS ?_; clear hSt; intro w hSt; dsimp only [spl, List.set] at hSt) | (refine stepB ?_; clear hSt; intro w nb hnb hSt; dsimp only [zcells, List.nil_append, List.cons_append] at hSt) | (refine stepG ?_ ?_ <;> intro hc <;> (try exact absA) <;> (fail_if_success (change true = true at hc)) <;> (fail_if_success (change false = false at hc))) | fail)
      exact At_K hK2 ⟨[], q4, none, 0, [], if_neg (by simp [hA]), hq4, Nat.zero_le _, OwnSl.nil _ _, by rw [List.append_nil]; exact hSt, rfl⟩ (by (repeat (first | exact Sub.nil _ | refine Sub.cons rfl ?_)))
  rotate_right 1
  · have htk := fun {w : World} (h : PL w pb ts v q5) => rtake_any h 4 [123] (by decide)
    cases hA : tkT ts 4 [123] q5 with
    | true =>
      have e9 : qBrac ts f q5 = (match qSets ts f (tkP ts 4 [123] q5) with
        | none => none
        | some (l, y) => some (l, ndP ts 4 [125] y)) := if_pos hA
      have hp1 := (tkP_lt h.ok (k := 4) (s := [123]) (by decide) hq5).2
      rw [hA] at htk
      rw [e9] at hr
      cases hx : qSets ts f (tkP ts 4 [123] q5) with
      | none => rw [hx] at hr; cases hr
      | some gy =>
        obtain ⟨g, q⟩ := gy
        have hql := qSets_lt h.ok h.tl hp1 hx
        have hn := fun {w : World} (h : PL w pb ts v q) => rneed_any h 4 [125] (by decide)
        have hn2 := ndP_lt h.ok (k := 4) (s := [125]) (by decide) hql.2.1
        repeat' (first | (refine WL_isCall (f := 104) ?_; refine WL_call (ok_call hT rfl) rfl rfl rfl (htk (h.next hSt (i := 2) rfl hq5)) ?_; rintro v w2 ⟨rfl, hc2⟩; replace hSt := hSt.call1 (i := 2) rfl hc2; clear hc2; dsimp only [List.set] at hSt) | refine stepA ?_ | (refine stepS ?_; clear hSt; intro w hSt; dsimp only [spl, List.set] at hSt) | (refine stepB ?_; clear hSt; intro w nb hnb hSt; dsimp only [zcells, List.nil_append, List.cons_append] at hSt) | (refine stepG ?_ ?_ <;> intro hc <;> (try exact absA) <;> (fail_if_success (change true = true at hc)) <;> (fail_if_success (change false = false at hc))) | fail)
        refine WL_call (ok_call hT rfl) rfl rfl rfl (rsettings_any (h.next hSt (i := 2) rfl hp1) hx) ?_
        rintro v1 w2 ⟨HS, ho, hc2⟩
        obtain ⟨as0, ks, rfl, _⟩ := ho.cap
        replace hSt := hSt.scCall (Ha := [_, _]) hc2
        clear hc2
        dsimp only [List.cons_append, List.nil_append] at hSt hr
        repeat' (first | refine stepA ?_ | (refine stepS ?_; clear hSt; intro w hSt; dsimp only [spl, List.set] at hSt) | (refine stepB ?_; clear hSt; intro w nb hnb hSt; dsimp only [zcells, List.nil_append, List.cons_append] at hSt) | (refine stepG ?_ ?_ <;> intro hc <;> (try exact absA) <;> (fail_if_success (change true = true at hc)) <;> (fail_if_success (change false = false at hc))) | fail)
        refine WL_call (ok_call hT rfl) rfl rfl rfl (hn (h.next hSt (i := 2) rfl hql.2.1)) ?_
        rintro v1 w2 ⟨_, hc2⟩
        replace hSt := hSt.call1 (i := 2) rfl hc2
        clear hc2
        dsimp only [List.set] at hSt
        repeat' (first | refine stepA ?_ | (refine stepS ?_; clear hSt; intro w hSt; dsimp only [spl, List.set] at hSt) | (refine stepB ?_; clear hSt; intro w nb hnb hSt; dsimp only [zcells, List.nil_append, List.cons_append] at hSt) | (refine stepG ?_ ?_ <;> intro hc <;> (try exact absA) <;> (fail_if_success (change true = true at hc)) <;> (fail_if_success (change false = false at hc))) | fail)
        exact At_K hK2 ⟨g, ndP ts 4 [125] q, as0, ks, HS, by rw [e9, hx], hn2.2, by omega, hql.2.2.2, ho, hSt, rfl⟩ (by (repeat (first | exact Sub.nil _ | refine Sub.cons rfl ?_)))
    | false =>
      rw [hA, tkP_no hA] at htk
      repeat' (first | (refine WL_isCall (f := 104) ?_; refine WL_call (ok_call hT rfl) rfl rfl rfl (htk (h.next hSt (i := 2) rfl hq5)) ?_; rintro v w2 ⟨rfl, hc2⟩; replace hSt := hSt.call1 (i := 2) rfl hc2; clear hc2; dsimp only [List.set] at hSt) | refine stepA ?_ | (refine stepS ?_; clear hSt; intro w hSt; dsimp only [spl, List.set] at hSt) | (refine stepB ?_; clear hSt; intro w nb hnb hSt; dsimp only [zcells, List.nil_append, List.cons_append] at hSt) | (refine stepG ?_ ?_ <;> intro hc <;> (try exact absA) <;> (fail_if_success (change true = true at hc)) <;> (fail_if_success (change false = false at hc))) | fail)
      exact At_K hK2 ⟨[], q5, none, 0, [], if_neg (by simp [hA]), hq5, Nat.zero_le _, (fun s hs => (by cases hs)), OwnSl.nil _ _, hSt, rfl⟩ (by (repeat (first | exact Sub.nil _ | refine Sub.cons rfl ?_)))
  injection hr with hr
  injection hr with e1 e2
  subst e1 e2
  have m4 := qIf_lt h.ok h3 hx4
  have m5 := qAft_lt h.ok hq4 hx5
  have m6 := qBrac_lt h.ok h.tl hq5 hx6
  exact end_of (resc1 rfl hT rfl rfl (hSt.at 1 rfl) rfl rfl) ⟨_, _, _, _, rfl, EntO.mk_ hC hoa hos (by omega) (by omega) htx, by omega, hq6, hSt.right (Ha := [_, _])⟩
theorem rend_any (h : PL w0 pb ts v x) : Cl Tryz.prog 59 [Ptr pb] w0 (fun r w' => r = .tuple ⟨if x.2 = true ∨ (tkAt ts x.1).kd ≠ 0 then [I 2, I (tkAt ts x.1).at_] else [I 0, I 0]⟩ ∧ St w0 NoneS [] w') := by
  have hSt := St.refl w0 NoneS
  have htn := fun {w : World} (h : PL w pb ts v x) => rtoken_any h
  obtain ⟨p, bd⟩ := x
  dsimp only at htn ⊢
  generalize tkAt ts p = t at htn ⊢
  obtain ⟨kd, tx, nn, at_⟩ := t
  dsimp only
  refine enter Tryz.func59 rfl Tryz.ntmps59 rfl ?_
  cases bd with
  | true =>
    rw [if_pos (.inl rfl)]
    repeat' (first | (apply WL_ev rfl rfl; exact Ev_load1 hT rfl rfl (hSt.base h.hp (fun e => e)) rfl) | (refine WL_isCall (f := 57) ?_; refine WL_call (ok_call hT rfl) rfl rfl rfl (htn (h.kept hSt)) ?_; rintro v w2 ⟨rfl, hc2⟩; replace hSt := hSt.call0 hc2; clear hc2) | (apply WL_ev rfl rfl; exact Ev_field1 hT rfl rfl rfl (by intro fs x h1 h2; rw [Tryz.underlying63] at h1; injection h1 with h1; injection h1 with h1; subst h1; injection h2 with h2; subst h2; decide +kernel)) | refine stepA ?_ | (refine stepS ?_; clear hSt; intro w hSt; dsimp only [spl, List.set] at hSt) | (refine stepB ?_; clear hSt; intro w nb hnb hSt; dsimp only [zcells, List.nil_append, List.cons_append] at hSt) | (refine stepG ?_ ?_ <;> intro hc <;> (try exact absA) <;> (fail_if_success (change true = true at hc)) <;> (fail_if_success (change false = false at hc))) | fail)
    all_goals try (exfalso; first | omega | (simp at hc; done) | (exact hc rfl) | contradiction)
    all_goals exact ret2 rfl rfl rfl ⟨rfl, hSt⟩
  | false =>
    by_cases hk : kd = 0
    · rw [if_neg (fun e => e.elim (fun h => (by cases h)) (fun h => h hk))]
      repeat' (first | (apply WL_ev rfl rfl; exact Ev_load1 hT rfl rfl (hSt.base h.hp (fun e => e)) rfl) | (refine WL_isCall (f := 57) ?_; refine WL_call (ok_call hT rfl) rfl rfl rfl (htn (h.kept hSt)) ?_; rintro v w2 ⟨rfl, hc2⟩; replace hSt := hSt.call0 hc2; clear hc2) | (apply WL_ev rfl rfl; exact Ev_field1 hT rfl rfl rfl (by intro fs x h1 h2; rw [Tryz.underlying63] at h1; injection h1 with h1; injection h1 with h1; subst h1; injection h2 with h2; subst h2; decide +kernel)) | refine stepA ?_ | (refine stepS ?_; clear hSt; intro w hSt; dsimp only [spl, List.set] at hSt) | (refine stepB ?_; clear hSt; intro w nb hnb hSt; dsimp only [zcells, List.nil_append, List.cons_append] at hSt) | (refine stepG ?_ ?_ <;> intro hc <;> (try exact absA) <;> (fail_if_success (change true = true at hc)) <;> (fail_if_success (change false = false at hc))) | fail)
      all_goals try (exfalso; first | omega | (simp at hc; done) | (exact hc rfl) | contradiction)
      all_goals exact ret2 rfl rfl rfl ⟨rfl, hSt⟩
    · rw [if_pos (.inr hk)]
      repeat' (first | (apply WL_ev rfl rfl; exact Ev_load1 hT rfl rfl (hSt.base h.hp (fun e => e)) rfl) | (refine WL_isCall (f := 57) ?_; refine WL_call (ok_call hT rfl) rfl rfl rfl (htn (h.kept hSt)) ?_; rintro v w2 ⟨rfl, hc2⟩; replace hSt := hSt.call0 hc2; clear hc2) | (apply WL_ev rfl rfl; exact Ev_field1 hT rfl rfl rfl (by intro fs x h1 h2; rw [Tryz.underlying63] at h1; injection h1 with h1; injection h1 with h1; subst h1; injection h2 with h2; subst h2; decide +kernel)) | refine stepA ?_ | (refine stepS ?_; clear hSt; intro w hSt; dsimp only [spl, List.set] at hSt) | (refine stepB ?_; clear hSt; intro w nb hnb hSt; dsimp only [zcells, List.nil_append, List.cons_append] at hSt) | (refine stepG ?_ ?_ <;> intro hc <;> (try exact absA) <;> (fail_if_success (change true = true at hc)) <;> (fail_if_success (change false = false at hc))) | fail)
      all_goals try (exfalso; first | omega | (simp at hc; done) | (exact hc rfl) | contradiction)
      all_goals exact ret2 rfl rfl rfl ⟨rfl, hSt⟩
end
end Go.Proofs.YtknfankadlokhaaGreatDoor
