/- The laws Parses and Small. No conditions. -/
import Derived.Test.YtknfankadlokhaaGreatDoorPua
import Derived.Test.YtknfankadlokhaaGreatDoorPtj
import Derived.Test.YtknfankadlokhaaGreatDoorPrf
import Derived.Test.YtknfankadlokhaaGreatDoorLie

namespace Go.Proofs.YtknfankadlokhaaGreatDoor
open Go.RowKit
set_option maxRecDepth 4000
set_option linter.unusedVariables false
set_option linter.unusedSimpArgs false
set_option maxHeartbeats 16000000

theorem setsame_any {w0 : World} {v0 v1 : Value} {l : List Sg} (h0 : SlAt w0 v0 2 (l.map sgC)) (h1 : SlAt w0 v1 2 (l.map sgC)) (hl : l.length ≤ 9223372036854775807) : Cl Tryz.prog 27 [v0, v1] w0 (fun v w' => v = B true ∧ St w0 NoneS [] w') := by
  have hSt := St.refl w0 NoneS
  obtain ⟨a1, p1, rfl, hc1⟩ := h0.map
  obtain ⟨a2, p2, rfl, hc2⟩ := h1.map
  refine enter Tryz.func27 rfl Tryz.ntmps27 rfl ?_
  repeat' (first | refine stepA ?_ | (refine stepS ?_; clear hSt; intro w hSt; dsimp only [spl, List.set] at hSt) | (refine stepB ?_; clear hSt; intro w nb hnb hSt; dsimp only [zcells, List.nil_append, List.cons_append] at hSt) | (refine W_quiet hT (by decide +kernel) hSt ?_; clear hSt; (repeat' (first | (apply QL_ev rfl rfl; (intro w hSt; (first | exact Ev_auto))) | refine QL_pass rfl rfl ?_ | (refine QL_guardP rfl rfl (fun hc => ?_) (fun hc => ?_) <;> try exact absA) | (refine QL_guard rfl rfl (fun hc => ?_) (fun hc => ?_) <;> (try exact absA) <;> (fail_if_success (change true = true at hc)) <;> (fail_if_success (change false = false at hc))))); all_goals (refine QL_nil (fun w hSt => ?_))) | (refine stepG ?_ ?_ <;> intro hc <;> (try exact absA) <;> (fail_if_success (change true = true at hc)) <;> (fail_if_success (change false = false at hc))) | fail)
  all_goals try (exfalso; first | omega | (simp at hc; done) | (exact hc rfl) | contradiction)
  refine W_loop1 (fun k (j : Nat) w => k = l.length - j ∧ j ≤ l.length ∧ St w0 NoneS [] w) (fun j => [(5, I (j : Int))]) l.length 0 rfl (by (repeat (first | exact Str.nil _ | apply Str.drop rfl | apply Str.keepU rfl | apply Str.keep rfl))) ⟨rfl, by omega, hSt⟩ (by (repeat (first | exact Sub.nil _ | refine Sub.cons rfl ?_))) ?_
  clear hSt
  rintro k j w ⟨hk, hj, hSt⟩ K hK
  by_cases hjl : j < l.length
  · obtain ⟨s, hs⟩ : ∃ s, l[j]? = some s := ⟨_, List.getElem?_eq_getElem hjl⟩
    obtain ⟨b8, o8, m8, E8, z8, rfl, hb8, q8, _⟩ := hc1 j s hs
    obtain ⟨b9, o9, m9, E9, z9, rfl, hb9, q9, _⟩ := hc2 j s hs
    rw [← Int.toNat_natCast j] at q8 q9
    repeat' (first | (apply WL_ev rfl rfl; exact Ev_loadN hT rfl rfl (hSt.base hb8 (fun e => e)) q8 rfl) | (apply WL_ev rfl rfl; exact Ev_loadN hT rfl rfl (hSt.base hb9 (fun e => e)) q9 rfl) | (apply WL_ev rfl rfl; exact Ev_struct_neq (ok_eq rfl) rfl rfl rfl rfl) | refine stepA ?_ | (refine stepS ?_; clear hSt; intro w hSt; dsimp only [spl, List.set] at hSt) | (refine stepB ?_; clear hSt; intro w nb hnb hSt; dsimp only [zcells, List.nil_append, List.cons_append] at hSt) | (refine W_quiet hT (by decide +kernel) hSt ?_; clear hSt; (repeat' (first | (apply QL_ev rfl rfl; (intro w hSt; (first | (exact Ev_loadN hT rfl rfl (hSt.base hb8 (fun e => e)) q8 rfl) | (exact Ev_loadN hT rfl rfl (hSt.base hb9 (fun e => e)) q9 rfl) | (exact Ev_struct_neq (ok_eq rfl) rfl rfl rfl rfl) | exact Ev_auto))) | refine QL_pass rfl rfl ?_ | (refine QL_guardP rfl rfl (fun hc => ?_) (fun hc => ?_) <;> try exact absA) | (refine QL_guard rfl rfl (fun hc => ?_) (fun hc => ?_) <;> (try exact absA) <;> (fail_if_success (change true = true at hc)) <;> (fail_if_success (change false = false at hc))))); all_goals (refine QL_nil (fun w hSt => ?_))) | (refine stepG ?_ ?_ <;> intro hc <;> (try exact absA) <;> (fail_if_success (change true = true at hc)) <;> (fail_if_success (change false = false at hc))) | fail)
    all_goals try (exfalso; first | omega | (simp at hc; done) | (exact hc rfl) | contradiction)
    all_goals exact At_loop1 hK (k' := l.length - (j + 1)) (j + 1) (by omega) ⟨rfl, by omega, hSt⟩ (by (repeat (first | exact Sub.nil _ | refine Sub.cons rfl ?_)))
  · repeat' (first | refine stepA ?_ | (refine stepS ?_; clear hSt; intro w hSt; dsimp only [spl, List.set] at hSt) | (refine stepB ?_; clear hSt; intro w nb hnb hSt; dsimp only [zcells, List.nil_append, List.cons_append] at hSt) | (refine W_quiet hT (by decide +kernel) hSt ?_; clear hSt; (repeat' (first | (apply QL_ev rfl rfl; (intro w hSt; (first | exact Ev_auto))) | refine QL_pass rfl rfl ?_ | (refine QL_guardP rfl rfl (fun hc => ?_) (fun hc => ?_) <;> try exact absA) | (refine QL_guard rfl rfl (fun hc => ?_) (fun hc => ?_) <;> (try exact absA) <;> (fail_if_success (change true = true at hc)) <;> (fail_if_success (change false = false at hc))))); all_goals (refine QL_nil (fun w hSt => ?_))) | (refine stepG ?_ ?_ <;> intro hc <;> (try exact absA) <;> (fail_if_success (change true = true at hc)) <;> (fail_if_success (change false = false at hc))) | fail)
    all_goals try (exfalso; first | omega | (simp at hc; done) | (exact hc rfl) | contradiction)
    all_goals exact ret1 rfl rfl ⟨rfl, hSt⟩
theorem scanL_bad {s : Tx} : ∀ (f p : Nat) (l : List Tk) {e a : Int}, p ≤ s.length → s.length + 1 ≤ f + p → scanL s f p l = .bad e a → e ≠ 0
  | 0, p, l, e, a, hp, hf, h => by omega
  | f + 1, p, l, e, a, hp, hf, h => by
    rw [scanL] at h
    have hs := skF_le hp
    split at h
    · rename_i e9 w9 ht
      injection h with h1 h2
      rw [← h1]; exact tok_err ht
    · rename_i t q ht
      split at h
      · cases h
      · rename_i hk
        have := tok_adv hs.2 ht hk
        exact scanL_bad f q _ this.2 (by omega) h
theorem scanF_bad {s : Tx} {e a : Int} (h : scanF s = .bad e a) : e ≠ 0 := by
  unfold scanF at h
  split at h
  · injection h with h1 h2; rw [← h1]; decide
  · exact scanL_bad _ _ _ (Nat.zero_le _) (Nat.le_refl _) h
theorem listP_bad {x : Tx} {f : Nat} {e a : Int} (h : listP f (scanF x) = some (.bad e a)) : e ≠ 0 := by
  unfold listP at h
  split at h
  · rename_i e9 a9 hs
    injection h with h; injection h with h1 h2; rw [← h1]; exact scanF_bad hs
  · split at h
    · cases h
    · injection h with h; injection h with h1 h2; rw [← h1]; decide
    · split at h
      · rename_i hc
        injection h with h; injection h with h1 h2; rw [← h1]; exact hc
      · cases h
theorem listP_ok {s : Sc} {f : Nat} {l : List Ln} (h : listP f s = some (.ok l)) : checkF l = 0 := by
  unfold listP at h
  split at h
  · cases h
  · split at h
    · cases h
    · cases h
    · split at h
      · cases h
      · rename_i hc
        injection h with h; injection h with h; subst h; exact Decidable.not_not.1 hc
theorem condP_bad {x : Tx} {f : Nat} {e a : Int} (h : condP f (scanF x) = some (.bad e a)) : e ≠ 0 := by
  unfold condP at h
  split at h
  · rename_i e9 a9 hs
    injection h with h; injection h with h1 h2; rw [← h1]; exact scanF_bad hs
  · split at h
    · cases h
    · injection h with h; injection h with h1 h2; rw [← h1]; decide
    · split at h
      · split at h
        · injection h with h; injection h with h1 h2; rw [← h1]; decide
        · cases h
      · injection h with h; injection h with h1 h2; rw [← h1]; decide
theorem argsP_bad {x : Tx} {f : Nat} {e a : Int} (h : argsP f (scanF x) = some (.bad e a)) : e ≠ 0 := by
  unfold argsP at h
  split at h
  · rename_i e9 a9 hs
    injection h with h; injection h with h1 h2; rw [← h1]; exact scanF_bad hs
  · split at h
    · cases h
    · injection h with h; injection h with h1 h2; rw [← h1]; decide
    · split at h
      · cases h
      · injection h with h; injection h with h1 h2; rw [← h1]; decide
theorem argsP_len {s : Sc} {f : Nat} {l : List Sg} (hs : ScOk s) (h : argsP f s = some (.ok l)) : l.length ≤ 9223372036854775807 := by
  have h2 := rArgs_eq h
  cases s with
  | bad e a => cases h2
  | ok ts =>
    obtain ⟨hk, hl, htl⟩ := hs
    unfold rArgs at h2
    dsimp only at h2
    split at h2
    · cases h2
    · rename_i l1 y hx
      have := qSets_lt hk htl (x := (0, false)) hk.pos hx
      split at h2
      · cases h2
      · injection h2 with h2; injection h2 with h2; subst h2; omega
theorem lns_nil (w : World) : Lns w (.slice none 0 0) [] := Lns.of (SlAt.nil w 8) rfl (fun i x e hx he => by simp at he) (Nat.le_refl _) (by decide)
theorem launchtextParses_any {w0 : World} (x : Tx) (hx : x.length ≤ maxLen) : Cl Tryz.prog 4 [S x] w0 (fun v w' => v = B true ∧ St w0 NoneS [] w') := by
  have hSt := St.refl w0 NoneS
  unfold maxLen at hx
  refine enter Tryz.func4 rfl Tryz.ntmps4 rfl ?_
  by_cases h4 : 4100 < x.length
  · repeat' (first | (refine WL_isCall (f := 19) ?_; refine WL_call (ok_call hT rfl) rfl rfl rfl (awake_any) ?_; rintro v w2 ⟨rfl, hc2⟩; replace hSt := hSt.call0 hc2; clear hc2) | refine stepA ?_ | (refine stepS ?_; clear hSt; intro w hSt; dsimp only [spl, List.set] at hSt) | (refine stepB ?_; clear hSt; intro w nb hnb hSt; dsimp only [zcells, List.nil_append, List.cons_append] at hSt) | (refine W_quiet hT (by decide +kernel) hSt ?_; clear hSt; (repeat' (first | (apply QL_ev rfl rfl; (intro w hSt; (first | exact Ev_auto))) | refine QL_pass rfl rfl ?_ | (refine QL_guardP rfl rfl (fun hc => ?_) (fun hc => ?_) <;> try exact absA) | (refine QL_guard rfl rfl (fun hc => ?_) (fun hc => ?_) <;> (try exact absA) <;> (fail_if_success (change true = true at hc)) <;> (fail_if_success (change false = false at hc))))); all_goals (refine QL_nil (fun w hSt => ?_))) | (refine stepG ?_ ?_ <;> intro hc <;> (try exact absA) <;> (fail_if_success (change true = true at hc)) <;> (fail_if_success (change false = false at hc))) | fail)
    all_goals try (exfalso; first | omega | (simp at hc; done) | (exact hc rfl) | contradiction)
    all_goals exact ret1 rfl rfl ⟨rfl, hSt⟩
  obtain ⟨r, hr⟩ := list_tot (scan_ok x)
  have hp1 := fun w : World => parse_any (w0 := w) (scan_any x) (scan_ok x) hr
  have hp2 := fun w : World => rparse_any (w0 := w) (by decide) (fun w => rscan_any x w) (scan_ok x) (rList_eq (scan_ok x) hr)
  cases r with
  | bad e a =>
    have he : e ≠ 0 := listP_bad hr
    unfold ParseR at hp1 hp2
    dsimp only at hp1 hp2
    repeat' (first | (refine WL_isCall (f := 8) ?_; refine WL_call (ok_call hT rfl) rfl rfl rfl (hp1 _) ?_; rintro v w2 ⟨rfl, hc2⟩; replace hSt := hSt.call0 hc2; clear hc2) | (refine WL_isCall (f := 20) ?_; refine WL_call (ok_call hT rfl) rfl rfl rfl (hp2 _) ?_; rintro v w2 ⟨rfl, hc2⟩; replace hSt := hSt.call0 hc2; clear hc2) | (refine WL_isCall (f := 21) ?_; refine WL_call (ok_call hT rfl) rfl rfl rfl (rsame_any (lns_nil _) (lns_nil _)) ?_; rintro v w2 ⟨rfl, hc2⟩; replace hSt := hSt.call0 hc2; clear hc2) | (refine WL_isCall (f := 19) ?_; refine WL_call (ok_call hT rfl) rfl rfl rfl (awake_any) ?_; rintro v w2 ⟨rfl, hc2⟩; replace hSt := hSt.call0 hc2; clear hc2) | refine stepA ?_ | (refine stepS ?_; clear hSt; intro w hSt; dsimp only [spl, List.set] at hSt) | (refine stepB ?_; clear hSt; intro w nb hnb hSt; dsimp only [zcells, List.nil_append, List.cons_append] at hSt) | (refine W_quiet hT (by decide +kernel) hSt ?_; clear hSt; (repeat' (first | (apply QL_ev rfl rfl; (intro w hSt; (first | exact Ev_auto))) | refine QL_pass rfl rfl ?_ | (refine QL_guardP rfl rfl (fun hc => ?_) (fun hc => ?_) <;> try exact absA) | (refine QL_guard rfl rfl (fun hc => ?_) (fun hc => ?_) <;> (try exact absA) <;> (fail_if_success (change true = true at hc)) <;> (fail_if_success (change false = false at hc))))); all_goals (refine QL_nil (fun w hSt => ?_))) | (refine stepG ?_ ?_ <;> intro hc <;> (try exact absA) <;> (fail_if_success (change true = true at hc)) <;> (fail_if_success (change false = false at hc))) | fail)
    all_goals try (exfalso; first | omega | (simp at hc; done) | (exact hc rfl) | contradiction)
    all_goals exact ret1 rfl rfl ⟨rfl, hSt⟩
  | ok l =>
    have hck := listP_ok hr
    unfold ParseR at hp1 hp2
    dsimp only at hp1 hp2
    have ck := fun (w : World) (v : Value) (h : Lns w v l) => check_any h
    rw [hck] at ck
    repeat' (first | (refine WL_isCall (f := 8) ?_; refine WL_call (ok_call hT rfl) rfl rfl rfl (hp1 _) ?_; rintro v w2 ⟨lv, H1, rfl, hL1, hc2⟩; replace hSt := hSt.newN hc2; clear hc2; try dsimp only [List.nil_append] at hSt) | (refine WL_isCall (f := 20) ?_; refine WL_call (ok_call hT rfl) rfl rfl rfl (hp2 _) ?_; rintro v w2 ⟨mv, H2, rfl, hL2, hc2⟩; replace hSt := hSt.newN hc2; clear hc2) | (refine WL_isCall (f := 21) ?_; refine WL_call (ok_call hT rfl) rfl rfl rfl (rsame_any (hL1 _ hSt.left.has) (hL2 _ hSt.right.has)) ?_; rintro v w2 ⟨rfl, hc2⟩; replace hSt := hSt.call0 hc2; clear hc2) | (refine WL_isCall (f := 22) ?_; refine WL_call (ok_call hT rfl) rfl rfl rfl (ck _ _ (hL1 _ hSt.left.has)) ?_; rintro v w2 ⟨rfl, hc2⟩; replace hSt := hSt.call0 hc2; clear hc2) | (refine WL_isCall (f := 19) ?_; refine WL_call (ok_call hT rfl) rfl rfl rfl (awake_any) ?_; rintro v w2 ⟨rfl, hc2⟩; replace hSt := hSt.call0 hc2; clear hc2) | refine stepA ?_ | (refine stepS ?_; clear hSt; intro w hSt; dsimp only [spl, List.set] at hSt) | (refine stepB ?_; clear hSt; intro w nb hnb hSt; dsimp only [zcells, List.nil_append, List.cons_append] at hSt) | (refine W_quiet hT (by decide +kernel) hSt ?_; clear hSt; (repeat' (first | (apply QL_ev rfl rfl; (intro w hSt; (first | exact Ev_auto))) | refine QL_pass rfl rfl ?_ | (refine QL_guardP rfl rfl (fun hc => ?_) (fun hc => ?_) <;> try exact absA) | (refine QL_guard rfl rfl (fun hc => ?_) (fun hc => ?_) <;> (try exact absA) <;> (fail_if_success (change true = true at hc)) <;> (fail_if_success (change false = false at hc))))); all_goals (refine QL_nil (fun w hSt => ?_))) | (refine stepG ?_ ?_ <;> intro hc <;> (try exact absA) <;> (fail_if_success (change true = true at hc)) <;> (fail_if_success (change false = false at hc))) | fail)
    all_goals try (exfalso; first | omega | (simp at hc; done) | (exact hc rfl) | contradiction)
    all_goals exact ret1 rfl rfl ⟨rfl, hSt.nil⟩
end Go.Proofs.YtknfankadlokhaaGreatDoor
