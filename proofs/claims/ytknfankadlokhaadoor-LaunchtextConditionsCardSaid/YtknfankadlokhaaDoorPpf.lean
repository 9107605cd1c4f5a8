/- An entry is parsed, in memory. No conditions. -/
import Derived.Test.YtknfankadlokhaaDoorNF
import Derived.Test.YtknfankadlokhaaDoorND

namespace Go.Proofs.YtknfankadlokhaaDoor
open Go.RowKit
set_option maxRecDepth 4000
set_option linter.unusedVariables false
set_option linter.unusedSimpArgs false
set_option maxHeartbeats 16000000

section
variable {ts : List Tk}
theorem takeR_tx {k : Int} {p q : Nat} {s : Tx} (htl : ∀ p, (tkAt ts p).tx.length ≤ 9223372036854775807) (e : takeR ts k p = .ok s q) : s.length ≤ 9223372036854775807 := by
  unfold takeR at e
  split at e
  · injection e with e1 e2; subst e1; exact htl p
  · cases e
theorem setR_tx {p q : Nat} {s : Sg} (htl : ∀ p, (tkAt ts p).tx.length ≤ 9223372036854775807) (e : setR ts p = .ok s q) : s.2.length ≤ 9223372036854775807 := by
  unfold setR at e
  split at e
  · cases e
  split at e
  · cases e
  split at e
  · cases e
  rename_i h3
  injection e with e1 e2
  subst e1
  exact takeR_tx htl h3
theorem setsL_ok (hk : TkOk ts) (htl : ∀ p, (tkAt ts p).tx.length ≤ 9223372036854775807) : ∀ (f : Nat) (l : List Sg) (p : Nat) {l' : List Sg} {q : Nat}, p < ts.length → (∀ s ∈ l, s.2.length ≤ 9223372036854775807) → setsL ts f l p = some (.ok l' q) → q < ts.length ∧ ∀ s ∈ l', s.2.length ≤ 9223372036854775807
  | 0, l, p, l', q, _, _, h => by rw [setsL] at h; cases h
  | f + 1, l, p, l', q, hp, hl, h => by
    rw [setsL] at h
    split at h
    · cases h
    rename_i s q1 hs
    have h1 := (setR_ok hk hp hs).2
    have h2 := setR_tx htl hs
    have hl2 : ∀ x ∈ l ++ [s], x.2.length ≤ 9223372036854775807 := fun x hx => by
      rcases List.mem_append.1 hx with hx | hx
      · exact hl x hx
      · rw [List.mem_singleton.1 hx]; exact h2
    split at h
    · rename_i hm; exact setsL_ok hk htl f _ _ (hk.mk1 h1 hm) hl2 h
    · injection h with h; injection h with e1 e2; subst e1 e2; exact ⟨h1, hl2⟩
theorem setsR_ok (hk : TkOk ts) (htl : ∀ p, (tkAt ts p).tx.length ≤ 9223372036854775807) {f p q : Nat} {l' : List Sg} (hp : p < ts.length) (h : setsR ts f p = some (.ok l' q)) : q < ts.length ∧ ∀ s ∈ l', s.2.length ≤ 9223372036854775807 := by
  unfold setsR at h
  split at h
  · injection h with h; injection h with e1 e2; subst e1 e2; exact ⟨hp, fun s hs => (by cases hs)⟩
  · exact setsL_ok hk htl f [] p hp (fun s hs => (by cases hs)) h
end
/-- an entry that lies in some blocks -/
def EntO (HD : List (Nat × Obj)) (e : Ln) (cs : List Value) : Prop := ∀ w, Has w HD → LnAt w cs e
theorem OwnSl.capO {v : Value} {e : TypeId} {z k : Nat} {xs : List Value} {H1 : List (Nat × Obj)} (h : OwnSl v e z xs k H1) : capO v := by
  obtain ⟨a, cap, rfl, hle⟩ := h.cap
  exact capO.mk hle
theorem EntO.mk_ {HC HA HS : List (Nat × Obj)} {nd pg : Tx} {c : Cn} {a : List Tx} {s : List Sg} {cv va vs : Value} (hC : CondO HC c [I c.op, S c.name, S c.text, cv]) (ha : OwnSl va 9 1 (a.map S) a.length HA) (hs : OwnSl vs 77 2 (s.flatMap sgC) s.length HS) (la : a.length ≤ 9223372036854775807) (ls : s.length ≤ 9223372036854775807) (lt : ∀ x ∈ s, x.2.length ≤ 9223372036854775807) :
    EntO (HS ++ (HC ++ HA)) ⟨nd, pg, c, a, s⟩ [S nd, S pg, I c.op, S c.name, S c.text, cv, va, vs] := fun w hw =>
  ⟨cv, va, vs, rfl, hC w (hw.sublist ((List.sublist_append_left _ _).trans (List.sublist_append_right _ _))), own_tc ha (hw.sublist ((List.sublist_append_right _ _).trans (List.sublist_append_right _ _))), OwnSl.slAt (f := sgC) (fun _ => rfl) hs (hw.sublist (List.sublist_append_left _ _)), ha.capO, hs.capO, la, ls, lt⟩
section
variable {w0 : World} {pb sc p : Nat} {v : Value} {ts : List Tk}
abbrev OkE (r : Rs Ln) (sc : Nat) (v : Value) (w0 : World) : Value → World → Prop := fun x w' => ∃ e q cv va vs HD, r = .ok e q ∧ x = .agg ⟨[S e.node, S e.prog, I e.cond.op, S e.cond.name, S e.cond.text, cv, va, vs]⟩ ∧ EntO HD e [S e.node, S e.prog, I e.cond.op, S e.cond.name, S e.cond.text, cv, va, vs] ∧ q < ts.length ∧ St w0 (· = sc) ((sc, scO v q) :: HD) w'
theorem entry_any {f : Nat} (h : PS w0 pb sc ts v p) (r : Rs Ln) (hr : entR ts f p = some r) : Cp Tryd.prog 25 [Ptr pb] w0 (OkE (ts := ts) r sc v w0) (BadR ts r sc v w0) := by
  have hSt := h.start
  have hlen := h.len
  unfold entR at hr
  have hwd := fun {w : World} (h : PS w pb sc ts v p) => word_any h.hs h.ht h.ok h.lt h.len9 wNode
  have hmf := fun {w : World} (h : PS w pb sc ts v p) => misfit_any h
  refine enterP Tryd.func25 rfl Tryd.ntmps25 rfl ?_
  by_cases hA : wdB ts p wNode = true
  rotate_left 1
  · rw [if_neg hA] at hr
    injection hr with hr
    subst hr
    rw [show wdN ts p wNode = p from if_neg hA, show wdB ts p wNode = false by simpa using hA] at hwd
    repeat' (first | (refine WL_alloc hT rfl rfl rfl hSt ?_; clear hSt; intro w nb hnb hSt; replace hSt := hSt.front; dsimp only [zcells] at hSt) | (apply WL_ev rfl rfl; exact Ev_load1 hT rfl rfl (hSt.base h.hp (fun e => h.ne e)) rfl) | (refine WL_isCall (f := 41) ?_; refine WL_call (ok_call hT rfl) rfl rfl rfl (hwd (h.next hSt (i := 1) rfl h.lt)) ?_; rintro v w2 ⟨rfl, hc2⟩; replace hSt := hSt.call1 (i := 1) rfl hc2; clear hc2; dsimp only [List.set] at hSt) | (refine WL_isCall (f := 40) ?_; refine WL_callP (ok_call hT rfl) rfl rfl rfl (hmf (h.next hSt (i := 1) rfl h.lt)) (fun _ _ e => e.elim) ?_; (rintro x w2 ⟨rfl, hc2⟩; (repeat (first | refine At_then_panic ?_ | refine At_in_panic ?_ | fail)); exact panP ⟨p, p, rfl, rfl, (hSt.call0 hc2).only (by simp)⟩)) | refine stepA ?_ | (refine stepS ?_; clear hSt; intro w hSt; dsimp only [spl, List.set] at hSt) | (refine stepB ?_; clear hSt; intro w nb hnb hSt; dsimp only [zcells, List.nil_append, List.cons_append] at hSt) | (refine stepG ?_ ?_ <;> intro hc <;> (try exact absA) <;> (fail_if_success (change true = true at hc)) <;> (fail_if_success (change false = false at hc))) | fail)
    all_goals try (exfalso; first | omega | (simp at hc; done) | (exact hc rfl) | contradiction)
    all_goals trivial
  rw [if_pos hA] at hr
  have hp1 := h.ok.wd1 h.lt hA
  rw [show wdN ts p wNode = p + 1 from if_pos hA, hA] at hwd
  repeat' (first | (refine WL_alloc hT rfl rfl rfl hSt ?_; clear hSt; intro w nb hnb hSt; replace hSt := hSt.front; dsimp only [zcells] at hSt) | (apply WL_ev rfl rfl; exact Ev_load1 hT rfl rfl (hSt.base h.hp (fun e => h.ne e)) rfl) | (refine WL_isCall (f := 41) ?_; refine WL_call (ok_call hT rfl) rfl rfl rfl (hwd (h.next hSt (i := 1) rfl h.lt)) ?_; rintro v w2 ⟨rfl, hc2⟩; replace hSt := hSt.call1 (i := 1) rfl hc2; clear hc2; dsimp only [List.set] at hSt) | refine stepA ?_ | (refine stepS ?_; clear hSt; intro w hSt; dsimp only [spl, List.set] at hSt) | (refine stepB ?_; clear hSt; intro w nb hnb hSt; dsimp only [zcells, List.nil_append, List.cons_append] at hSt) | (refine stepG ?_ ?_ <;> intro hc <;> (try exact absA) <;> (fail_if_success (change true = true at hc)) <;> (fail_if_success (change false = false at hc))) | fail)
  all_goals try (exfalso; first | omega | (simp at hc; done) | (exact hc rfl) | contradiction)
  obtain ⟨t2b, rfl⟩ : ∃ x, x = nb := ⟨nb, rfl⟩
  refine WL_callP (ok_call hT rfl) rfl rfl rfl (ptake_any (h.next hSt (i := 1) rfl hp1) 1 (by decide)) ?_ ?_
  rotate_left 1
  · rintro x w2 ⟨q1, q9, r1, rfl, hc2⟩
    (repeat (first | refine At_then_panic ?_ | refine At_in_panic ?_ | fail))
    exact panP ⟨q1, q9, by rw [r1] at hr; injection hr with hr; exact hr.symm, rfl, (hSt.call1 (i := 1) rfl hc2).only (by simp)⟩
  rintro x w2 ⟨nd, q1, r1, rfl, hc2⟩
  replace hSt := hSt.call1 (i := 1) rfl hc2
  clear hc2
  dsimp only [List.set] at hSt
  have h1 := (takeR_ok h.ok hp1 (by decide) r1).2.2.2
  rw [r1] at hr
  dsimp only at hr
  repeat' (first | (refine WL_alloc hT rfl rfl rfl hSt ?_; clear hSt; intro w nb hnb hSt; replace hSt := hSt.front; dsimp only [zcells] at hSt) | refine stepA ?_ | (refine stepS ?_; clear hSt; intro w hSt; dsimp only [spl, List.set] at hSt) | (refine stepB ?_; clear hSt; intro w nb hnb hSt; dsimp only [zcells, List.nil_append, List.cons_append] at hSt) | (refine stepG ?_ ?_ <;> intro hc <;> (try exact absA) <;> (fail_if_success (change true = true at hc)) <;> (fail_if_success (change false = false at hc))) | fail)
  obtain ⟨t3b, rfl⟩ : ∃ x, x = nb := ⟨nb, rfl⟩
  refine WL_callP (ok_call hT rfl) rfl rfl rfl (pmark_any (h.next hSt (i := 2) rfl h1) 58) ?_ ?_
  rotate_left 1
  · rintro x w2 ⟨q2, q9, r2, rfl, hc2⟩
    (repeat (first | refine At_then_panic ?_ | refine At_in_panic ?_ | fail))
    exact panP ⟨q2, q9, by rw [r2] at hr; injection hr with hr; exact hr.symm, rfl, (hSt.call1 (i := 2) rfl hc2).only (by simp)⟩
  rintro x w2 ⟨u2, q2, r2, _, hc2⟩
  replace hSt := hSt.call1 (i := 2) rfl hc2
  clear hc2
  dsimp only [List.set] at hSt
  have h2 := (markR_ok h.ok h1 r2).2.2
  rw [r2] at hr
  dsimp only at hr
  repeat' (first | refine stepA ?_ | (refine stepS ?_; clear hSt; intro w hSt; dsimp only [spl, List.set] at hSt) | (refine stepB ?_; clear hSt; intro w nb hnb hSt; dsimp only [zcells, List.nil_append, List.cons_append] at hSt) | (refine stepG ?_ ?_ <;> intro hc <;> (try exact absA) <;> (fail_if_success (change true = true at hc)) <;> (fail_if_success (change false = false at hc))) | fail)
  refine WL_callP (ok_call hT rfl) rfl rfl rfl (ptake_any (h.next hSt (i := 2) rfl h2) 1 (by decide)) ?_ ?_
  rotate_left 1
  · rintro x w2 ⟨q3, q9, r3, rfl, hc2⟩
    (repeat (first | refine At_then_panic ?_ | refine At_in_panic ?_ | fail))
    exact panP ⟨q3, q9, by rw [r3] at hr; injection hr with hr; exact hr.symm, rfl, (hSt.call1 (i := 2) rfl hc2).only (by simp)⟩
  rintro x w2 ⟨pg, q3, r3, rfl, hc2⟩
  replace hSt := hSt.call1 (i := 2) rfl hc2
  clear hc2
  dsimp only [List.set] at hSt
  have h3 := (takeR_ok h.ok h2 (by decide) r3).2.2.2
  rw [r3] at hr
  dsimp only at hr
  clear r1 r2 r3 h1 h2 hwd hA hp1
  repeat' (first | (refine W_midAtC 8 (fun L' w' => ∃ c q a4 n4 k4 HC, ifR ts f q3 = some (.ok c q) ∧ q < ts.length ∧ CondO HC c [I c.op, S c.name, S c.text, (.slice a4 n4 k4)] ∧ St w0 (· = sc) ((t3b, blk [S nd, S pg, I c.op, S c.name, S c.text, (.slice a4 n4 k4), (.slice none 0 0), (.slice none 0 0)] 39) :: (t2b, blk [S [], S [], I 0, S [], S [], .slice none 0 0, .slice none 0 0, .slice none 0 0] 39) :: (sc, scO v q) :: HC) w' ∧ L' = [(0, Ptr pb), (2, Ptr t2b), (3, Ptr t3b)]) (fun K2 hK2 => ?_) (fun L' w' hm => ?_); rotate_left 1; (obtain ⟨c, q4, a4, n4, k4, HC, hx4, hq4, hC, hSt, rfl⟩ := hm; rw [hx4] at hr; dsimp only at hr)) | (refine W_midAtC 13 (fun L' w' => ∃ la q aa ka HA, aftR ts f q4 = some (.ok la q) ∧ q < ts.length ∧ la.length ≤ q ∧ OwnSl (.slice aa la.length ka) 9 1 (la.map S) la.length HA ∧ St w0 (· = sc) ((t3b, blk [S nd, S pg, I c.op, S c.name, S c.text, (.slice a4 n4 k4), (.slice aa la.length ka), (.slice none 0 0)] 39) :: (t2b, blk [S [], S [], I 0, S [], S [], .slice none 0 0, .slice none 0 0, .slice none 0 0] 39) :: (sc, scO v q) :: (HC ++ HA)) w' ∧ L' = [(0, Ptr pb), (2, Ptr t2b), (3, Ptr t3b)]) (fun K2 hK2 => ?_) (fun L' w' hm => ?_); rotate_left 1; (obtain ⟨la, q5, aa, ka, HA, hx5, hq5, hla, hoa, hSt, rfl⟩ := hm; rw [hx5] at hr; dsimp only at hr)) | (refine W_midAtL 16 (fun L' w' => ∃ g q as0 ks HS, bracR ts f q5 = some (.ok g q) ∧ q < ts.length ∧ g.length ≤ q ∧ (∀ s ∈ g, s.2.length ≤ 9223372036854775807) ∧ OwnSl (.slice as0 g.length ks) 77 2 (g.flatMap sgC) g.length HS ∧ St w0 (· = sc) ((t3b, blk [S nd, S pg, I c.op, S c.name, S c.text, (.slice a4 n4 k4), (.slice aa la.length ka), (.slice as0 g.length ks)] 39) :: (t2b, blk [S [], S [], I 0, S [], S [], .slice none 0 0, .slice none 0 0, .slice none 0 0] 39) :: (sc, scO v q) :: (HS ++ (HC ++ HA))) w' ∧ L' = [(0, Ptr pb), (2, Ptr t2b), (3, Ptr t3b)]) (fun K2 hK2 => ?_) (fun L' w' hm => ?_); rotate_left 1; (obtain ⟨g, q6, as0, ks, HS, hx6, hq6, hg, htx, hos, hSt, rfl⟩ := hm; rw [hx6] at hr)) | refine stepA ?_ | (refine stepS ?_; clear hSt; intro w hSt; dsimp only [spl, List.set] at hSt) | (refine stepB ?_; clear hSt; intro w nb hnb hSt; dsimp only [zcells, List.nil_append, List.cons_append] at hSt) | (refine stepG ?_ ?_ <;> intro hc <;> (try exact absA) <;> (fail_if_success (change true = true at hc)) <;> (fail_if_success (change false = false at hc))) | fail)
  rotate_left 3
  · clear hmf
    have hwd := fun {w : World} (h : PS w pb sc ts v q3) => word_any h.hs h.ht h.ok h.lt h.len9 wIf
    by_cases hA : wdB ts q3 wIf = true
    · have e : ifR ts f q3 = conF ts f (q3 + 1) := if_pos hA
      have hp1 := h.ok.wd1 h3 hA
      rw [show wdN ts q3 wIf = q3 + 1 from if_pos hA, hA] at hwd
      rw [e] at hr
      cases hx : conF ts f (q3 + 1) with
      | none => rw [hx] at hr; cases hr
      | some r1 =>
        rw [hx] at hr
        repeat' (first | (apply WL_ev rfl rfl; exact Ev_load1 hT rfl rfl (hSt.base h.hp (fun e => h.ne e)) rfl) | (refine WL_isCall (f := 41) ?_; refine WL_call (ok_call hT rfl) rfl rfl rfl (hwd (h.next hSt (i := 2) rfl h3)) ?_; rintro v w2 ⟨rfl, hc2⟩; replace hSt := hSt.call1 (i := 2) rfl hc2; clear hc2; dsimp only [List.set] at hSt) | refine stepA ?_ | (refine stepS ?_; clear hSt; intro w hSt; dsimp only [spl, List.set] at hSt) | (refine stepB ?_; clear hSt; intro w nb hnb hSt; dsimp only [zcells, List.nil_append, List.cons_append] at hSt) | (refine stepG ?_ ?_ <;> intro hc <;> (try exact absA) <;> (fail_if_success (change true = true at hc)) <;> (fail_if_success (change false = false at hc))) | fail)
        refine WL_callP (ok_call hT rfl) rfl rfl rfl ((conds_any f f (Nat.le_refl f)).2.2 (h.next hSt (i := 2) rfl hp1) r1 hx) ?_ ?_
        rotate_left 1
        · rintro x w2 ⟨q, q9, rfl, rfl, hc2⟩
          injection hr with hr
          subst hr
          (repeat (first | refine At_then_panic ?_ | refine At_in_panic ?_ | fail))
          exact panP ⟨q, q9, rfl, rfl, (hSt.call1 (i := 2) rfl hc2).only (by simp)⟩
        rintro x w2 ⟨c, q, x0, x1, x2, x3, HD, rfl, rfl, hC, hc2⟩
        have hq := (par_lt h.ok f).2.2.2.1 _ _ _ hp1 hx
        obtain ⟨rfl, rfl, rfl, a4, n4, k4, rfl⟩ := hC.parts (hc2.right (Ha := [_])).has
        replace hSt := hSt.scCall1 (Ha := [_, _]) hc2
        clear hc2
        dsimp only [List.cons_append, List.nil_append] at hSt
        repeat' (first | refine stepA ?_ | (refine stepS ?_; clear hSt; intro w hSt; dsimp only [spl, List.set] at hSt) | (refine stepB ?_; clear hSt; intro w nb hnb hSt; dsimp only [zcells, List.nil_append, List.cons_append] at hSt) | (refine stepG ?_ ?_ <;> intro hc <;> (try exact absA) <;> (fail_if_success (change true = true at hc)) <;> (fail_if_success (change false = false at hc))) | fail)
        exact At_K hK2 ⟨c, q, a4, n4, k4, HD, by rw [e, hx], hq, hC, hSt, rfl⟩ (by (repeat (first | exact Sub.nil _ | refine Sub.cons rfl ?_)))
    · rw [show wdN ts q3 wIf = q3 from if_neg hA, show wdB ts q3 wIf = false by simpa using hA] at hwd
      repeat' (first | (apply WL_ev rfl rfl; exact Ev_load1 hT rfl rfl (hSt.base h.hp (fun e => h.ne e)) rfl) | (refine WL_isCall (f := 41) ?_; refine WL_call (ok_call hT rfl) rfl rfl rfl (hwd (h.next hSt (i := 2) rfl h3)) ?_; rintro v w2 ⟨rfl, hc2⟩; replace hSt := hSt.call1 (i := 2) rfl hc2; clear hc2; dsimp only [List.set] at hSt) | refine stepA ?_ | (refine stepS ?_; clear hSt; intro w hSt; dsimp only [spl, List.set] at hSt) | (refine stepB ?_; clear hSt; intro w nb hnb hSt; dsimp only [zcells, List.nil_append, List.cons_append] at hSt) | (refine stepG ?_ ?_ <;> intro hc <;> (try exact absA) <;> (fail_if_success (change true = true at hc)) <;> (fail_if_success (change false = false at hc))) | fail)
      exact At_K hK2 ⟨.mk 1 [] [] [], q3, _, _, _, [], if_neg hA, h3, CondO.leaf (by simp), hSt, rfl⟩ (by (repeat (first | exact Sub.nil _ | refine Sub.cons rfl ?_)))
  rotate_right 1
  · clear hmf
    have hwd := fun {w : World} (h : PS w pb sc ts v q4) => word_any h.hs h.ht h.ok h.lt h.len9 wAfter
    by_cases hA : wdB ts q4 wAfter = true
    · have e : aftR ts f q4 = aftL ts f [] (q4 + 1) := if_pos hA
      have hp1 := h.ok.wd1 hq4 hA
      rw [show wdN ts q4 wAfter = q4 + 1 from if_pos hA, hA] at hwd
      rw [e] at hr
      cases hx : aftL ts f [] (q4 + 1) with
      | none => rw [hx] at hr; cases hr
      | some ra =>
        rw [hx] at hr
        repeat' (first | (apply WL_ev rfl rfl; exact Ev_load1 hT rfl rfl (hSt.base h.hp (fun e => h.ne e)) rfl) | (refine WL_isCall (f := 41) ?_; refine WL_call (ok_call hT rfl) rfl rfl rfl (hwd (h.next hSt (i := 2) rfl hq4)) ?_; rintro v w2 ⟨rfl, hc2⟩; replace hSt := hSt.call1 (i := 2) rfl hc2; clear hc2; dsimp only [List.set] at hSt) | refine stepA ?_ | (refine stepS ?_; clear hSt; intro w hSt; dsimp only [spl, List.set] at hSt) | (refine stepB ?_; clear hSt; intro w nb hnb hSt; dsimp only [zcells, List.nil_append, List.cons_append] at hSt) | (refine stepG ?_ ?_ <;> intro hc <;> (try exact absA) <;> (fail_if_success (change true = true at hc)) <;> (fail_if_success (change false = false at hc))) | fail)
        rw [← List.append_nil HC] at hSt
        refine W_sub (L' := [(4, B true), (0, Ptr pb), (2, Ptr t2b), (3, Ptr t3b)]) (by (repeat (first | exact Sub.nil _ | refine Sub.cons rfl ?_))) ?_
        refine W_loop2 (fun k (g : Nat) (b : Bool) w => k = (if b = true then g + 1 else 0) ∧ ∃ la q aa ka HA, (if b = true then aftL ts g la q = some ra else ra = .ok la q) ∧ q < ts.length ∧ la.length ≤ q ∧ OwnSl (.slice aa la.length ka) 9 1 (la.map S) la.length HA ∧ St w0 (· = sc) ((t3b, blk [S nd, S pg, I c.op, S c.name, S c.text, (.slice a4 n4 k4), (.slice aa la.length ka), (.slice none 0 0)] 39) :: (t2b, blk [S [], S [], I 0, S [], S [], .slice none 0 0, .slice none 0 0, .slice none 0 0] 39) :: (sc, scO v q) :: (HC ++ HA)) w) (fun _ b => [(4, B b)]) (f + 1) f true rfl (by (repeat (first | exact Str.nil _ | apply Str.drop rfl | apply Str.keepU rfl | apply Str.keep rfl))) ⟨rfl, [], q4 + 1, none, 0, [], hx, hp1, Nat.zero_le _, OwnSl.nil _ _, hSt⟩ (by (repeat (first | exact Sub.nil _ | refine Sub.cons rfl ?_))) ?_
        clear hSt hwd
        rintro k g b w ⟨hk, la, q, aa, ka, HA, hL, hq, hlq, ho, hSt⟩ K hK
        cases b with
        | true =>
          rw [if_pos rfl] at hL hk
          cases g with
          | zero => rw [aftL] at hL; cases hL
          | succ g =>
            rw [aftL] at hL
            repeat' (first | refine stepA ?_ | (refine stepS ?_; clear hSt; intro w hSt; dsimp only [spl, List.set] at hSt) | (refine stepB ?_; clear hSt; intro w nb hnb hSt; dsimp only [zcells, List.nil_append, List.cons_append] at hSt) | (refine stepG ?_ ?_ <;> intro hc <;> (try exact absA) <;> (fail_if_success (change true = true at hc)) <;> (fail_if_success (change false = false at hc))) | fail)
            refine W_ownP (Hs := [_]) [(0, false), (1, false), (2, false), (3, true), (4, true), (5, true), (6, false)] [] (fun ch w => ∃ q' q9, ch = pan (failV 2 (tkAt ts q').at_) ∧ r = .bad q' ∧ St w0 (· = sc) [(sc, scO v q9)] w) hT (by decide +kernel) rfl hSt ?_ ?_
            · rintro ch w5 ⟨q', q9, rfl, rfl, hS⟩
              (repeat (first | refine At_then_panic ?_ | refine At_in_panic ?_ | fail))
              exact panP ⟨q', q9, rfl, rfl, hS⟩
            clear hSt
            intro w hSt
            iterate 3 (apply HP_ev rfl rfl rfl (St.left (H0 := [_]) hSt); (intro w hSt; (first | exact Ev_auto)))
            refine HP_one ?_
            refine WL_callP (ok_call hT rfl) rfl rfl rfl (ptake_any (h.next hSt (i := 2) rfl hq) 1 (by decide)) ?_ ?_
            rotate_left 1
            · rintro x w6 ⟨q', q9, e1, rfl, hc2⟩
              rw [e1] at hL
              injection hL with hL
              subst hL
              injection hr with hr
              exact At_oneX (Sub.nil _) ⟨q', q9, rfl, hr.symm, (hSt.call1 (i := 2) rfl hc2).only (by simp)⟩
            rintro x w6 ⟨s, q1, e1, rfl, hc2⟩
            have hq1 := (takeR_ok h.ok hq (by decide) e1).2.2
            rw [e1] at hL
            dsimp only at hL
            replace hSt := hSt.call1 (i := 2) rfl hc2
            clear hc2
            dsimp only [List.cons_append, List.nil_append, List.set] at hSt
            refine WL_nil (At_oneP (St.left (H0 := [_]) hSt) ?_)
            refine HP_one ?_
            refine WL_buildSlice hT rfl rfl rfl rfl rfl rfl rfl rfl hSt ?_
            clear hSt
            intro w nb2 hnb2 hSt
            refine WL_nil (At_oneP (St.left (H0 := [_]) hSt) ?_)
            refine HP_one ?_
            refine WL_appendL (H0 := _ :: _ :: _ :: HC) (H1 := HA) hT rfl rfl rfl rfl rfl rfl rfl hSt ho rfl rfl (by omega) (by omega) ?_
            clear hSt ho
            intro va2 w HA2 ho hSt
            obtain ⟨aa2, ka2, rfl, _⟩ := ho.cap
            try dsimp only [List.cons_append] at hSt
            replace ho : OwnSl (.slice aa2 (la.length + 1) ka2) 9 1 ((la ++ [s]).map S) (la ++ [s]).length HA2 := by
              rw [List.map_append, List.length_append]; exact ho
            refine WL_nil (At_oneP (St.left (H0 := [_]) hSt) ?_)
            (apply HP_ev rfl rfl rfl (St.left (H0 := [_]) hSt); (intro w hSt; (first | exact Ev_auto)))
            refine HP_end ?_
            simp only [List.length_cons, List.length_nil, List.drop_succ_cons, List.drop_zero]
            repeat' (first | refine stepA ?_ | (refine stepS ?_; clear hSt; intro w hSt; dsimp only [spl, List.set] at hSt) | (refine stepB ?_; clear hSt; intro w nb hnb hSt; dsimp only [zcells, List.nil_append, List.cons_append] at hSt) | (refine stepG ?_ ?_ <;> intro hc <;> (try exact absA) <;> (fail_if_success (change true = true at hc)) <;> (fail_if_success (change false = false at hc))) | fail)
            refine At_QP ?_
            have hll : (la ++ [s]).length = la.length + 1 := by simp
            have hm := fun {w : World} (h : PS w pb sc ts v q1) => mark_any h.hs h.ht h.ok h.lt h.len9 44
            by_cases hA : mkB ts q1 44 = true
            · rw [if_pos hA] at hL
              rw [show mkN ts q1 44 = q1 + 1 from if_pos hA, hA] at hm
              repeat' (first | (apply WL_ev rfl rfl; exact Ev_load1 hT rfl rfl (hSt.base h.hp (fun e => h.ne e)) rfl) | (refine WL_isCall (f := 39) ?_; refine WL_call (ok_call hT rfl) rfl rfl rfl (hm (h.next hSt (i := 2) rfl hq1.2)) ?_; rintro v w2 ⟨rfl, hc2⟩; replace hSt := hSt.call1 (i := 2) rfl hc2; clear hc2; dsimp only [List.set] at hSt) | refine stepA ?_ | (refine stepS ?_; clear hSt; intro w hSt; dsimp only [spl, List.set] at hSt) | (refine stepB ?_; clear hSt; intro w nb hnb hSt; dsimp only [zcells, List.nil_append, List.cons_append] at hSt) | (refine stepG ?_ ?_ <;> intro hc <;> (try exact absA) <;> (fail_if_success (change true = true at hc)) <;> (fail_if_success (change false = false at hc))) | fail)
              exact At_loop2 hK (k' := g + 1) g true (by omega) ⟨rfl, la ++ [s], q1 + 1, aa2, ka2, HA2, hL, h.ok.mk1 hq1.2 hA, by omega, by rw [hll] at ho ⊢; exact ho, by rw [hll]; exact hSt⟩ (by (repeat (first | exact Sub.nil _ | refine Sub.cons rfl ?_)))
            · rw [if_neg hA] at hL
              injection hL with hL
              rw [show mkN ts q1 44 = q1 from if_neg hA, show mkB ts q1 44 = false by simpa using hA] at hm
              repeat' (first | (apply WL_ev rfl rfl; exact Ev_load1 hT rfl rfl (hSt.base h.hp (fun e => h.ne e)) rfl) | (refine WL_isCall (f := 39) ?_; refine WL_call (ok_call hT rfl) rfl rfl rfl (hm (h.next hSt (i := 2) rfl hq1.2)) ?_; rintro v w2 ⟨rfl, hc2⟩; replace hSt := hSt.call1 (i := 2) rfl hc2; clear hc2; dsimp only [List.set] at hSt) | refine stepA ?_ | (refine stepS ?_; clear hSt; intro w hSt; dsimp only [spl, List.set] at hSt) | (refine stepB ?_; clear hSt; intro w nb hnb hSt; dsimp only [zcells, List.nil_append, List.cons_append] at hSt) | (refine stepG ?_ ?_ <;> intro hc <;> (try exact absA) <;> (fail_if_success (change true = true at hc)) <;> (fail_if_success (change false = false at hc))) | fail)
              exact At_loop2 hK (k' := 0) g false (by omega) ⟨rfl, la ++ [s], q1, aa2, ka2, HA2, hL.symm, hq1.2, by omega, by rw [hll] at ho ⊢; exact ho, by rw [hll]; exact hSt⟩ (by (repeat (first | exact Sub.nil _ | refine Sub.cons rfl ?_)))
        | false =>
          rw [if_neg (by simp)] at hL hk
          subst hL
          repeat' (first | refine stepA ?_ | (refine stepS ?_; clear hSt; intro w hSt; dsimp only [spl, List.set] at hSt) | (refine stepB ?_; clear hSt; intro w nb hnb hSt; dsimp only [zcells, List.nil_append, List.cons_append] at hSt) | (refine stepG ?_ ?_ <;> intro hc <;> (try exact absA) <;> (fail_if_success (change true = true at hc)) <;> (fail_if_success (change false = false at hc))) | fail)
          exact At_K hK2 ⟨la, q, aa, ka, HA, by rw [e, hx], hq, hlq, ho, hSt, rfl⟩ (by (repeat (first | exact Sub.nil _ | refine Sub.cons rfl ?_)))
    · rw [show wdN ts q4 wAfter = q4 from if_neg hA, show wdB ts q4 wAfter = false by simpa using hA] at hwd
      repeat' (first | (apply WL_ev rfl rfl; exact Ev_load1 hT rfl rfl (hSt.base h.hp (fun e => h.ne e)) rfl) | (refine WL_isCall (f := 41) ?_; refine WL_call (ok_call hT rfl) rfl rfl rfl (hwd (h.next hSt (i := 2) rfl hq4)) ?_; rintro v w2 ⟨rfl, hc2⟩; replace hSt := hSt.call1 (i := 2) rfl hc2; clear hc2; dsimp only [List.set] at hSt) | refine stepA ?_ | (refine stepS ?_; clear hSt; intro w hSt; dsimp only [spl, List.set] at hSt) | (refine stepB ?_; clear hSt; intro w nb hnb hSt; dsimp only [zcells, List.nil_append, List.cons_append] at hSt) | (refine stepG ?_ ?_ <;> intro hc <;> (try exact absA) <;> (fail_if_success (change true = true at hc)) <;> (fail_if_success (change false = false at hc))) | fail)
      exact At_K hK2 ⟨[], q4, none, 0, [], if_neg hA, hq4, Nat.zero_le _, OwnSl.nil _ _, by rw [List.append_nil]; exact hSt, rfl⟩ (by (repeat (first | exact Sub.nil _ | refine Sub.cons rfl ?_)))
  rotate_right 1
  · clear hmf
    have hm := fun {w : World} (h : PS w pb sc ts v q5) => mark_any h.hs h.ht h.ok h.lt h.len9 123
    by_cases hA : mkB ts q5 123 = true
    · have e : bracR ts f q5 = (match setsR ts f (q5 + 1) with
        | none => none
        | some (.bad q) => some (.bad q)
        | some (.ok l q) => if mkB ts q 125 = true then some (.ok l (q + 1)) else some (.bad q)) := if_pos hA
      have hp1 := h.ok.mk1 hq5 hA
      rw [show mkN ts q5 123 = q5 + 1 from if_pos hA, hA] at hm
      rw [e] at hr
      cases hx : setsR ts f (q5 + 1) with
      | none => rw [hx] at hr; cases hr
      | some rs =>
        rw [hx] at hr
        repeat' (first | (apply WL_ev rfl rfl; exact Ev_load1 hT rfl rfl (hSt.base h.hp (fun e => h.ne e)) rfl) | (refine WL_isCall (f := 39) ?_; refine WL_call (ok_call hT rfl) rfl rfl rfl (hm (h.next hSt (i := 2) rfl hq5)) ?_; rintro v w2 ⟨rfl, hc2⟩; replace hSt := hSt.call1 (i := 2) rfl hc2; clear hc2; dsimp only [List.set] at hSt) | refine stepA ?_ | (refine stepS ?_; clear hSt; intro w hSt; dsimp only [spl, List.set] at hSt) | (refine stepB ?_; clear hSt; intro w nb hnb hSt; dsimp only [zcells, List.nil_append, List.cons_append] at hSt) | (refine stepG ?_ ?_ <;> intro hc <;> (try exact absA) <;> (fail_if_success (change true = true at hc)) <;> (fail_if_success (change false = false at hc))) | fail)
        refine WL_callP (ok_call hT rfl) rfl rfl rfl (psettings_any (h.next hSt (i := 2) rfl hp1) rs hx) ?_ ?_
        rotate_left 1
        · rintro x w2 ⟨q, q9, rfl, rfl, hc2⟩
          injection hr with hr
          subst hr
          (repeat (first | refine At_then_panic ?_ | refine At_in_panic ?_ | fail))
          exact panP ⟨q, q9, rfl, rfl, (hSt.call1 (i := 2) rfl hc2).only (by simp)⟩
        rintro x w2 ⟨g, q, HS, rfl, ho, hgq, hc2⟩
        obtain ⟨hq, htx⟩ := setsR_ok h.ok h.tl hp1 hx
        obtain ⟨as0, ks, rfl, _⟩ := ho.cap
        replace hSt := hSt.scCall (Ha := [_, _]) hc2
        clear hc2
        dsimp only [List.cons_append, List.nil_append] at hSt hr
        repeat' (first | refine stepA ?_ | (refine stepS ?_; clear hSt; intro w hSt; dsimp only [spl, List.set] at hSt) | (refine stepB ?_; clear hSt; intro w nb hnb hSt; dsimp only [zcells, List.nil_append, List.cons_append] at hSt) | (refine stepG ?_ ?_ <;> intro hc <;> (try exact absA) <;> (fail_if_success (change true = true at hc)) <;> (fail_if_success (change false = false at hc))) | fail)
        refine WL_callP (ok_call hT rfl) rfl rfl rfl (pmark_any (h.next hSt (i := 2) rfl hq) 125) ?_ ?_
        rotate_left 1
        · rintro x w2 ⟨q1, q9, e1, rfl, hc2⟩
          obtain ⟨hn, rfl⟩ := markR_bad e1
          rw [if_neg hn] at hr
          injection hr with hr
          (repeat (first | refine At_then_panic ?_ | refine At_in_panic ?_ | fail))
          exact panP ⟨q1, q9, hr.symm, rfl, (hSt.call1 (i := 2) rfl hc2).only (by simp)⟩
        rintro x w2 ⟨u1, q1, e1, _, hc2⟩
        obtain ⟨hmk, rfl, hq1⟩ := markR_ok h.ok hq e1
        replace hSt := hSt.call1 (i := 2) rfl hc2
        clear hc2
        dsimp only [List.set] at hSt
        repeat' (first | refine stepA ?_ | (refine stepS ?_; clear hSt; intro w hSt; dsimp only [spl, List.set] at hSt) | (refine stepB ?_; clear hSt; intro w nb hnb hSt; dsimp only [zcells, List.nil_append, List.cons_append] at hSt) | (refine stepG ?_ ?_ <;> intro hc <;> (try exact absA) <;> (fail_if_success (change true = true at hc)) <;> (fail_if_success (change false = false at hc))) | fail)
        exact At_K hK2 ⟨g, q + 1, as0, ks, HS, by rw [e, hx]; exact if_pos hmk, hq1, by omega, htx, ho, hSt, rfl⟩ (by (repeat (first | exact Sub.nil _ | refine Sub.cons rfl ?_)))
    · rw [show mkN ts q5 123 = q5 from if_neg hA, show mkB ts q5 123 = false by simpa using hA] at hm
      repeat' (first | (apply WL_ev rfl rfl; exact Ev_load1 hT rfl rfl (hSt.base h.hp (fun e => h.ne e)) rfl) | (refine WL_isCall (f := 39) ?_; refine WL_call (ok_call hT rfl) rfl rfl rfl (hm (h.next hSt (i := 2) rfl hq5)) ?_; rintro v w2 ⟨rfl, hc2⟩; replace hSt := hSt.call1 (i := 2) rfl hc2; clear hc2; dsimp only [List.set] at hSt) | refine stepA ?_ | (refine stepS ?_; clear hSt; intro w hSt; dsimp only [spl, List.set] at hSt) | (refine stepB ?_; clear hSt; intro w nb hnb hSt; dsimp only [zcells, List.nil_append, List.cons_append] at hSt) | (refine stepG ?_ ?_ <;> intro hc <;> (try exact absA) <;> (fail_if_success (change true = true at hc)) <;> (fail_if_success (change false = false at hc))) | fail)
      exact At_K hK2 ⟨[], q5, none, 0, [], if_neg hA, hq5, Nat.zero_le _, (fun s hs => (by cases hs)), OwnSl.nil _ _, hSt, rfl⟩ (by (repeat (first | exact Sub.nil _ | refine Sub.cons rfl ?_)))
  injection hr with hr
  subst hr
  exact retQ (end_of (resc1 rfl hT rfl rfl (hSt.at 1 rfl) rfl rfl) ⟨⟨nd, pg, c, la, g⟩, q6, _, _, _, _, rfl, rfl, EntO.mk_ hC hoa hos (by omega) (by omega) htx, hq6, hSt.right (Ha := [_, _])⟩)
end
end Go.Proofs.YtknfankadlokhaaDoor
