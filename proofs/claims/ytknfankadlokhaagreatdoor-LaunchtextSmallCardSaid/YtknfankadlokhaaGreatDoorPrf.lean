/- The specification's Scan, in memory. No conditions. -/
import Derived.Test.YtknfankadlokhaaGreatDoorPre
import Derived.Test.YtknfankadlokhaaGreatDoorNA
import Derived.Test.YtknfankadlokhaaGreatDoorNH
import Derived.Test.YtknfankadlokhaaGreatDoorNF

namespace Go.Proofs.YtknfankadlokhaaGreatDoor
open Go.RowKit
set_option maxRecDepth 4000
set_option linter.unusedVariables false
set_option linter.unusedSimpArgs false
set_option maxHeartbeats 16000000

theorem wordF_tok {s : Tx} {p q : Nat} {t : Tk} (h : wordF s p = .tok t q) : t = ⟨1, cutF s p q, 0, p⟩ := by
  unfold wordF at h
  dsimp only at h
  split at h
  · cases h
  split at h
  · cases h
  injection h with h1 h2
  subst h1 h2
  rfl
theorem numF_tok {s : Tx} {p q : Nat} {t : Tk} (h : numF s p = .tok t q) : t = ⟨2, [], t.nn, p⟩ := by
  unfold numF at h
  dsimp only at h
  generalize (if decide (kindAt s p = 5) = true then p + 1 else p) = f at h
  split at h
  · cases h
  split at h
  · cases h
  split at h
  · cases h
  injection h with h1 h2
  subst h1
  rfl
theorem textF_tok {s : Tx} {p q : Nat} {t : Tk} (h : textF s p = .tok t q) : t = ⟨3, t.tx, 0, p⟩ := by
  unfold textF at h
  split at h
  · cases h
  split at h
  · cases h
  injection h with h1 h2
  subst h1
  rfl
theorem mark_cls : ∀ c ∈ marksL, clsF c = 8 := by decide
theorem cls8_iff {c : UInt8} : clsF c = 8 ↔ markC c = true := by
  refine ⟨fun h => ?_, fun h => mark_cls c ((ixb_mem (c := c) (l := marksL)).1 (of_decide_eq_true h))⟩
  unfold clsF at h
  split at h
  · cases h
  split at h
  · cases h
  split at h
  · cases h
  split at h
  · cases h
  split at h
  · cases h
  split at h
  · cases h
  split at h
  · cases h
  split at h
  · assumption
  · cases h
theorem rscan_any (x : Tx) (w0 : World) : Cl Tryz.prog 56 [S x] w0 (ScanR (scanF x) w0) := by
  have hSt := St.refl w0 NoneS
  refine enter Tryz.func56 rfl Tryz.ntmps56 rfl ?_
  by_cases h4 : 4000 < x.length
  · rw [show scanF x = .bad 3 0 from if_pos h4]
    repeat' (first | refine stepA ?_ | (refine stepS ?_; clear hSt; intro w hSt; dsimp only [spl, List.set] at hSt) | (refine stepB ?_; clear hSt; intro w nb hnb hSt; dsimp only [zcells, List.nil_append, List.cons_append] at hSt) | (refine W_quiet hT (by decide +kernel) hSt ?_; clear hSt; (repeat' (first | (apply QL_ev rfl rfl; (intro w hSt; (first | exact Ev_auto))) | refine QL_pass rfl rfl ?_ | (refine QL_guardP rfl rfl (fun hc => ?_) (fun hc => ?_) <;> try exact absA) | (refine QL_guard rfl rfl (fun hc => ?_) (fun hc => ?_) <;> (try exact absA) <;> (fail_if_success (change true = true at hc)) <;> (fail_if_success (change false = false at hc))))); all_goals (refine QL_nil (fun w hSt => ?_))) | (refine stepG ?_ ?_ <;> intro hc <;> (try exact absA) <;> (fail_if_success (change true = true at hc)) <;> (fail_if_success (change false = false at hc))) | fail)
    all_goals try (exfalso; first | omega | (simp at hc; done) | (exact hc rfl) | contradiction)
    all_goals exact ret3 rfl rfl rfl rfl ⟨by decide, rfl, hSt⟩
  have hl : x.length ≤ 100000 := by omega
  have hsc : scanF x = scanL x (x.length + 1) 0 [] := if_neg h4
  repeat' (first | (refine WL_isCall (f := 95) ?_; refine WL_call (ok_call hT rfl) rfl rfl rfl (rskip_any x (p := 0) hl (Nat.zero_le _)) ?_; rintro v w2 ⟨rfl, hc2⟩; replace hSt := hSt.call0 hc2; clear hc2) | refine stepA ?_ | (refine stepS ?_; clear hSt; intro w hSt; dsimp only [spl, List.set] at hSt) | (refine stepB ?_; clear hSt; intro w nb hnb hSt; dsimp only [zcells, List.nil_append, List.cons_append] at hSt) | (refine W_quiet hT (by decide +kernel) hSt ?_; clear hSt; (repeat' (first | (apply QL_ev rfl rfl; (intro w hSt; (first | exact Ev_auto))) | refine QL_pass rfl rfl ?_ | (refine QL_guardP rfl rfl (fun hc => ?_) (fun hc => ?_) <;> try exact absA) | (refine QL_guard rfl rfl (fun hc => ?_) (fun hc => ?_) <;> (try exact absA) <;> (fail_if_success (change true = true at hc)) <;> (fail_if_success (change false = false at hc))))); all_goals (refine QL_nil (fun w hSt => ?_))) | (refine stepG ?_ ?_ <;> intro hc <;> (try exact absA) <;> (fail_if_success (change true = true at hc)) <;> (fail_if_success (change false = false at hc))) | fail)
  all_goals try (exfalso; first | omega | (simp at hc; done) | (exact hc rfl) | contradiction)
  refine W_loop3 (fun k (p : Nat) (l : List Tk) (tv : Value) w => x.length + 1 ≤ k + p ∧ p ≤ x.length ∧ l.length ≤ p ∧ scanF x = scanL x k p l ∧ ∃ HL, OwnSl tv 63 4 (l.flatMap tkC) l.length HL ∧ St w0 NoneS HL w) (fun p _ tv => [(6, I (skF x p : Int)), (5, tv)]) (x.length + 1) 0 [] (.slice none 0 0) rfl (by (repeat (first | exact Str.nil _ | apply Str.drop rfl | apply Str.keepU rfl | apply Str.keep rfl))) ⟨Nat.le_refl _, Nat.zero_le _, Nat.le_refl _, hsc, [], OwnSl.nil _ _, hSt⟩ (by (repeat (first | exact Sub.nil _ | refine Sub.cons rfl ?_))) ?_
  clear hSt hsc
  rintro k p0 l tv w ⟨hk, hp0, hlp, hsc, HL, ho, hSt⟩ K hK
  obtain ⟨k, rfl⟩ : ∃ m, k = m + 1 := ⟨k - 1, by omega⟩
  rw [scanL] at hsc
  have hsk := skF_le hp0
  generalize skF x p0 = p at hsc hsk ⊢
  have hpl := hsk.2
  obtain ⟨ta, tn, tc, rfl⟩ : ∃ a n k, tv = .slice a n k := by
    obtain ⟨a, c, e⟩ := ho.len
    exact ⟨_, _, _, e⟩
  by_cases hps : p < x.length
  · obtain ⟨c, hc1⟩ : ∃ c, x[p]? = some c := ⟨_, List.getElem?_eq_getElem hps⟩
    have hq0 : x[(p : Int).toNat]? = some c := by rw [Int.toNat_natCast]; exact hc1
    have hka : kindAt x p = clsF c := by unfold kindAt; rw [hc1]
    have hle := fun w : World => rletter_any (w0 := w) c
    have hdi := fun w : World => rdigit_any (w0 := w) c
    have hma := fun w : World => rmark_any (w0 := w) c
    unfold digC at hdi
    have i4 := cls4_iff (c := c)
    have i5 := cls5_iff (c := c)
    have i7 := cls7_iff (c := c)
    have i8 := cls8_iff (c := c)
    have hcn := c.toNat_lt
    have tk0 : tokF x p = if clsF c = 3 then wordF x p else if clsF c = 4 ∨ clsF c = 5 then numF x p else if clsF c = 7 then textF x p else if clsF c = 8 then .tok ⟨4, cutF x p (p + 1), 0, p⟩ (p + 1) else .err 2 p := by
      unfold tokF
      dsimp only
      rw [hka, if_neg (by unfold clsF; (repeat' split) <;> decide)]
    by_cases h3 : clsF c = 3
    · have htk : tokF x p = wordF x p := by rw [tk0, if_pos h3]
      simp only [h3, decide_true] at hle
      have hnm := fun w : World => xname_any (w0 := w) x hl hpl
      unfold nameV at hnm
      have hsg := span_ge wordC x p
      have hsl2 := span_len wordC hpl
      cases hwf : wordF x p with
      | err e9 w9 =>
        rw [htk, hwf] at hsc
        dsimp only at hsc
        rw [hsc]
        have he := tok_err (htk.trans hwf)
        rw [hwf] at hnm
        dsimp only at hnm
        generalize spanF wordC x p = q at hnm hsg hsl2
        have hsl : S ((x.drop ((p : Int)).toNat).take (((q : Int)).toNat - ((p : Int)).toNat)) = S (cutF x p q) := by
          rw [Int.toNat_natCast, Int.toNat_natCast]; rfl
        repeat' (first | (refine WL_alloc hT rfl rfl rfl hSt ?_; clear hSt; intro w nb hnb hSt; replace hSt := hSt.front; dsimp only [zcells] at hSt) | (apply WL_ev rfl rfl; exact Ev_strIndex hT rfl rfl rfl (by omega) hq0) | (refine WL_isCall (f := 96) ?_; refine WL_call (ok_call hT rfl) rfl rfl rfl (hle _) ?_; rintro v w2 ⟨rfl, hc2⟩; replace hSt := hSt.call0 hc2; clear hc2) | (refine WL_isCall (f := 98) ?_; refine WL_call (ok_call hT rfl) rfl rfl rfl (hdi _) ?_; rintro v w2 ⟨rfl, hc2⟩; replace hSt := hSt.call0 hc2; clear hc2) | (refine WL_isCall (f := 101) ?_; refine WL_call (ok_call hT rfl) rfl rfl rfl (hma _) ?_; rintro v w2 ⟨rfl, hc2⟩; replace hSt := hSt.call0 hc2; clear hc2) | (refine WL_isCall (f := 97) ?_; refine WL_call (ok_call hT rfl) rfl rfl rfl (hnm _) ?_; rintro v w2 ⟨rfl, hc2⟩; replace hSt := hSt.call0 hc2; clear hc2) | (apply WL_ev rfl rfl; exact Ev_as (v2 := S (cutF x p q)) (Ev_str_slice hT rfl rfl rfl rfl (by omega) (by omega) (by omega)) hsl) | refine stepA ?_ | (refine stepS ?_; clear hSt; intro w hSt; dsimp only [spl, List.set] at hSt) | (refine stepB ?_; clear hSt; intro w nb hnb hSt; dsimp only [zcells, List.nil_append, List.cons_append] at hSt) | (refine W_quiet hT (by decide +kernel) hSt ?_; clear hSt; (repeat' (first | (apply QL_ev rfl rfl; (intro w hSt; (first | (exact Ev_strIndex hT rfl rfl rfl (by omega) hq0) | (exact Ev_as (v2 := S (cutF x p q)) (Ev_str_slice hT rfl rfl rfl rfl (by omega) (by omega) (by omega)) hsl) | exact Ev_auto))) | refine QL_pass rfl rfl ?_ | (refine QL_guardP rfl rfl (fun hc => ?_) (fun hc => ?_) <;> try exact absA) | (refine QL_guard rfl rfl (fun hc => ?_) (fun hc => ?_) <;> (try exact absA) <;> (fail_if_success (change true = true at hc)) <;> (fail_if_success (change false = false at hc))))); all_goals (refine QL_nil (fun w hSt => ?_))) | (refine stepG ?_ ?_ <;> intro hc <;> (try exact absA) <;> (fail_if_success (change true = true at hc)) <;> (fail_if_success (change false = false at hc))) | fail)
        all_goals try (exfalso; first | omega | (simp at hc; done) | (exact hc rfl) | contradiction)
        all_goals exact ret3 rfl rfl rfl rfl ⟨he, rfl, hSt.nil⟩
      | tok t q =>
        have hq2 := tok_adv hpl (htk.trans hwf) (by rw [wordF_tok hwf]; show (1 : Int) ≠ 0; decide)
        rw [htk, hwf] at hsc
        rw [hwf] at hnm
        have hte := wordF_tok hwf
        subst hte
        dsimp only at hnm hsc
        rw [if_neg (by decide)] at hsc
        have hsl : S ((x.drop ((p : Int)).toNat).take (((q : Int)).toNat - ((p : Int)).toNat)) = S (cutF x p q) := by
          rw [Int.toNat_natCast, Int.toNat_natCast]; rfl
        repeat' (first | (refine WL_alloc hT rfl rfl rfl hSt ?_; clear hSt; intro w nb hnb hSt; replace hSt := hSt.front; dsimp only [zcells] at hSt) | (apply WL_ev rfl rfl; exact Ev_strIndex hT rfl rfl rfl (by omega) hq0) | (refine WL_isCall (f := 96) ?_; refine WL_call (ok_call hT rfl) rfl rfl rfl (hle _) ?_; rintro v w2 ⟨rfl, hc2⟩; replace hSt := hSt.call0 hc2; clear hc2) | (refine WL_isCall (f := 98) ?_; refine WL_call (ok_call hT rfl) rfl rfl rfl (hdi _) ?_; rintro v w2 ⟨rfl, hc2⟩; replace hSt := hSt.call0 hc2; clear hc2) | (refine WL_isCall (f := 101) ?_; refine WL_call (ok_call hT rfl) rfl rfl rfl (hma _) ?_; rintro v w2 ⟨rfl, hc2⟩; replace hSt := hSt.call0 hc2; clear hc2) | (refine WL_isCall (f := 97) ?_; refine WL_call (ok_call hT rfl) rfl rfl rfl (hnm _) ?_; rintro v w2 ⟨rfl, hc2⟩; replace hSt := hSt.call0 hc2; clear hc2) | (apply WL_ev rfl rfl; exact Ev_as (v2 := S (cutF x p q)) (Ev_str_slice hT rfl rfl rfl rfl (by omega) (by omega) (by omega)) hsl) | refine stepA ?_ | (refine stepS ?_; clear hSt; intro w hSt; dsimp only [spl, List.set] at hSt) | (refine stepB ?_; clear hSt; intro w nb hnb hSt; dsimp only [zcells, List.nil_append, List.cons_append] at hSt) | (refine W_quiet hT (by decide +kernel) hSt ?_; clear hSt; (repeat' (first | (apply QL_ev rfl rfl; (intro w hSt; (first | (exact Ev_strIndex hT rfl rfl rfl (by omega) hq0) | (exact Ev_as (v2 := S (cutF x p q)) (Ev_str_slice hT rfl rfl rfl rfl (by omega) (by omega) (by omega)) hsl) | exact Ev_auto))) | refine QL_pass rfl rfl ?_ | (refine QL_guardP rfl rfl (fun hc => ?_) (fun hc => ?_) <;> try exact absA) | (refine QL_guard rfl rfl (fun hc => ?_) (fun hc => ?_) <;> (try exact absA) <;> (fail_if_success (change true = true at hc)) <;> (fail_if_success (change false = false at hc))))); all_goals (refine QL_nil (fun w hSt => ?_))) | (refine stepG ?_ ?_ <;> intro hc <;> (try exact absA) <;> (fail_if_success (change true = true at hc)) <;> (fail_if_success (change false = false at hc))) | fail)
        all_goals try (exfalso; first | omega | (simp at hc; done) | (exact hc rfl) | contradiction)
        (refine WL_push1 hT rfl rfl rfl rfl rfl rfl rfl rfl rfl rfl rfl rfl (fun _ => rfl) rfl (H0 := [_]) hSt ho (by omega) (by omega) ?_; clear hSt ho; intro v' w H2 u ho hSt; dsimp only [List.cons_append, List.nil_append] at hSt)
        replace ho : OwnSl v' 63 4 ((l ++ [(⟨1, cutF x p q, 0, p⟩ : Tk)]).flatMap tkC) (l ++ [(⟨1, cutF x p q, 0, p⟩ : Tk)]).length H2 := by
          rw [List.flatMap_append, List.length_append, List.flatMap_singleton]; exact ho
        repeat' (first | (refine WL_isCall (f := 95) ?_; refine WL_call (ok_call hT rfl) rfl rfl rfl (rskip_any x (p := q) hl hq2.2) ?_; rintro v w2 ⟨rfl, hc2⟩; replace hSt := hSt.call0 hc2; clear hc2) | refine stepA ?_ | (refine stepS ?_; clear hSt; intro w hSt; dsimp only [spl, List.set] at hSt) | (refine stepB ?_; clear hSt; intro w nb hnb hSt; dsimp only [zcells, List.nil_append, List.cons_append] at hSt) | (refine W_quiet hT (by decide +kernel) hSt ?_; clear hSt; (repeat' (first | (apply QL_ev rfl rfl; (intro w hSt; (first | exact Ev_auto))) | refine QL_pass rfl rfl ?_ | (refine QL_guardP rfl rfl (fun hc => ?_) (fun hc => ?_) <;> try exact absA) | (refine QL_guard rfl rfl (fun hc => ?_) (fun hc => ?_) <;> (try exact absA) <;> (fail_if_success (change true = true at hc)) <;> (fail_if_success (change false = false at hc))))); all_goals (refine QL_nil (fun w hSt => ?_))) | (refine stepG ?_ ?_ <;> intro hc <;> (try exact absA) <;> (fail_if_success (change true = true at hc)) <;> (fail_if_success (change false = false at hc))) | fail)
        all_goals try (exfalso; first | omega | (simp at hc; done) | (exact hc rfl) | contradiction)
        all_goals exact At_loop3 hK (k' := k) q (l ++ [⟨1, cutF x p q, 0, p⟩]) v' (by omega) ⟨by omega, hq2.2, by rw [List.length_append, List.length_singleton]; omega, hsc, H2, ho, hSt.right (Ha := [_])⟩ (by (repeat (first | exact Sub.nil _ | refine Sub.cons rfl ?_)))
    simp only [h3, decide_false] at hle
    by_cases h4 : clsF c = 4 ∨ clsF c = 5
    · have htk : tokF x p = numF x p := by rw [tk0, if_neg h3, if_pos h4]
      have hnm := fun w : World => rnumber_any (w0 := w) x hl hc1
      have hdv : (∀ w : World, Cl Tryz.prog 98 [.int .u8 (c.toNat : Int)] w (fun v w' => v = .bool (decide (clsF c = 4)) ∧ St w NoneS [] w')) := hdi
      rcases h4 with h4 | h4
      · simp only [h4, decide_true] at hdi
        cases hwf : numF x p with
        | err e9 w9 =>
          rw [htk, hwf] at hsc
          dsimp only at hsc
          rw [hsc]
          have he := tok_err (htk.trans hwf)
          rw [hwf] at hnm
          dsimp only [PartR] at hnm
          repeat' (first | (refine WL_alloc hT rfl rfl rfl hSt ?_; clear hSt; intro w nb hnb hSt; replace hSt := hSt.front; dsimp only [zcells] at hSt) | (apply WL_ev rfl rfl; exact Ev_strIndex hT rfl rfl rfl (by omega) hq0) | (refine WL_isCall (f := 96) ?_; refine WL_call (ok_call hT rfl) rfl rfl rfl (hle _) ?_; rintro v w2 ⟨rfl, hc2⟩; replace hSt := hSt.call0 hc2; clear hc2) | (refine WL_isCall (f := 98) ?_; refine WL_call (ok_call hT rfl) rfl rfl rfl (hdi _) ?_; rintro v w2 ⟨rfl, hc2⟩; replace hSt := hSt.call0 hc2; clear hc2) | (refine WL_isCall (f := 101) ?_; refine WL_call (ok_call hT rfl) rfl rfl rfl (hma _) ?_; rintro v w2 ⟨rfl, hc2⟩; replace hSt := hSt.call0 hc2; clear hc2) | (refine WL_isCall (f := 99) ?_; refine WL_call (ok_call hT rfl) rfl rfl rfl (hnm _) ?_; rintro v w2 ⟨⟨x9, rfl⟩, hc2⟩; replace hSt := hSt.call0 hc2; clear hc2) | refine stepA ?_ | (refine stepS ?_; clear hSt; intro w hSt; dsimp only [spl, List.set] at hSt) | (refine stepB ?_; clear hSt; intro w nb hnb hSt; dsimp only [zcells, List.nil_append, List.cons_append] at hSt) | (refine W_quiet hT (by decide +kernel) hSt ?_; clear hSt; (repeat' (first | (apply QL_ev rfl rfl; (intro w hSt; (first | (exact Ev_strIndex hT rfl rfl rfl (by omega) hq0) | exact Ev_auto))) | refine QL_pass rfl rfl ?_ | (refine QL_guardP rfl rfl (fun hc => ?_) (fun hc => ?_) <;> try exact absA) | (refine QL_guard rfl rfl (fun hc => ?_) (fun hc => ?_) <;> (try exact absA) <;> (fail_if_success (change true = true at hc)) <;> (fail_if_success (change false = false at hc))))); all_goals (refine QL_nil (fun w hSt => ?_))) | (refine stepG ?_ ?_ <;> intro hc <;> (try exact absA) <;> (fail_if_success (change true = true at hc)) <;> (fail_if_success (change false = false at hc))) | fail)
          all_goals try (exfalso; first | omega | (simp at hc; done) | (exact hc rfl) | contradiction)
          all_goals exact ret3 rfl rfl rfl rfl ⟨he, rfl, hSt.nil⟩
        | tok t q =>
          rw [htk, hwf] at hsc
          have hq2 := tok_adv hpl (htk.trans hwf) (by rw [(numF_tok hwf)]; show (2 : Int) ≠ 0; decide)
          rw [hwf] at hnm
          dsimp only [PartR] at hnm
          have hte := numF_tok hwf
          generalize t.nn = m9 at hte hnm
          subst hte
          dsimp only at hsc
          rw [if_neg (by decide)] at hsc
          repeat' (first | (refine WL_alloc hT rfl rfl rfl hSt ?_; clear hSt; intro w nb hnb hSt; replace hSt := hSt.front; dsimp only [zcells] at hSt) | (apply WL_ev rfl rfl; exact Ev_strIndex hT rfl rfl rfl (by omega) hq0) | (refine WL_isCall (f := 96) ?_; refine WL_call (ok_call hT rfl) rfl rfl rfl (hle _) ?_; rintro v w2 ⟨rfl, hc2⟩; replace hSt := hSt.call0 hc2; clear hc2) | (refine WL_isCall (f := 98) ?_; refine WL_call (ok_call hT rfl) rfl rfl rfl (hdi _) ?_; rintro v w2 ⟨rfl, hc2⟩; replace hSt := hSt.call0 hc2; clear hc2) | (refine WL_isCall (f := 101) ?_; refine WL_call (ok_call hT rfl) rfl rfl rfl (hma _) ?_; rintro v w2 ⟨rfl, hc2⟩; replace hSt := hSt.call0 hc2; clear hc2) | (refine WL_isCall (f := 99) ?_; refine WL_call (ok_call hT rfl) rfl rfl rfl (hnm _) ?_; rintro v w2 ⟨rfl, hc2⟩; replace hSt := hSt.call0 hc2; clear hc2) | refine stepA ?_ | (refine stepS ?_; clear hSt; intro w hSt; dsimp only [spl, List.set] at hSt) | (refine stepB ?_; clear hSt; intro w nb hnb hSt; dsimp only [zcells, List.nil_append, List.cons_append] at hSt) | (refine W_quiet hT (by decide +kernel) hSt ?_; clear hSt; (repeat' (first | (apply QL_ev rfl rfl; (intro w hSt; (first | (exact Ev_strIndex hT rfl rfl rfl (by omega) hq0) | exact Ev_auto))) | refine QL_pass rfl rfl ?_ | (refine QL_guardP rfl rfl (fun hc => ?_) (fun hc => ?_) <;> try exact absA) | (refine QL_guard rfl rfl (fun hc => ?_) (fun hc => ?_) <;> (try exact absA) <;> (fail_if_success (change true = true at hc)) <;> (fail_if_success (change false = false at hc))))); all_goals (refine QL_nil (fun w hSt => ?_))) | (refine stepG ?_ ?_ <;> intro hc <;> (try exact absA) <;> (fail_if_success (change true = true at hc)) <;> (fail_if_success (change false = false at hc))) | fail)
          all_goals try (exfalso; first | omega | (simp at hc; done) | (exact hc rfl) | contradiction)
          (refine WL_push1 hT rfl rfl rfl rfl rfl rfl rfl rfl rfl rfl rfl rfl (fun _ => rfl) rfl (H0 := [_]) hSt ho (by omega) (by omega) ?_; clear hSt ho; intro v' w H2 u ho hSt; dsimp only [List.cons_append, List.nil_append] at hSt)
          replace ho : OwnSl v' 63 4 ((l ++ [(⟨2, [], m9, p⟩ : Tk)]).flatMap tkC) (l ++ [(⟨2, [], m9, p⟩ : Tk)]).length H2 := by
            rw [List.flatMap_append, List.length_append, List.flatMap_singleton]; exact ho
          repeat' (first | (refine WL_isCall (f := 95) ?_; refine WL_call (ok_call hT rfl) rfl rfl rfl (rskip_any x (p := q) hl hq2.2) ?_; rintro v w2 ⟨rfl, hc2⟩; replace hSt := hSt.call0 hc2; clear hc2) | refine stepA ?_ | (refine stepS ?_; clear hSt; intro w hSt; dsimp only [spl, List.set] at hSt) | (refine stepB ?_; clear hSt; intro w nb hnb hSt; dsimp only [zcells, List.nil_append, List.cons_append] at hSt) | (refine W_quiet hT (by decide +kernel) hSt ?_; clear hSt; (repeat' (first | (apply QL_ev rfl rfl; (intro w hSt; (first | exact Ev_auto))) | refine QL_pass rfl rfl ?_ | (refine QL_guardP rfl rfl (fun hc => ?_) (fun hc => ?_) <;> try exact absA) | (refine QL_guard rfl rfl (fun hc => ?_) (fun hc => ?_) <;> (try exact absA) <;> (fail_if_success (change true = true at hc)) <;> (fail_if_success (change false = false at hc))))); all_goals (refine QL_nil (fun w hSt => ?_))) | (refine stepG ?_ ?_ <;> intro hc <;> (try exact absA) <;> (fail_if_success (change true = true at hc)) <;> (fail_if_success (change false = false at hc))) | fail)
          all_goals try (exfalso; first | omega | (simp at hc; done) | (exact hc rfl) | contradiction)
          all_goals exact At_loop3 hK (k' := k) q (l ++ [⟨2, [], m9, p⟩]) v' (by omega) ⟨by omega, hq2.2, by rw [List.length_append, List.length_singleton]; omega, hsc, H2, ho, hSt.right (Ha := [_])⟩ (by (repeat (first | exact Sub.nil _ | refine Sub.cons rfl ?_)))
      · have h45 := i5.1 h4
        simp only [h4, show decide ((5 : Int) = 4) = false from rfl] at hdi
        cases hwf : numF x p with
        | err e9 w9 =>
          rw [htk, hwf] at hsc
          dsimp only at hsc
          rw [hsc]
          have he := tok_err (htk.trans hwf)
          rw [hwf] at hnm
          dsimp only [PartR] at hnm
          repeat' (first | (refine WL_alloc hT rfl rfl rfl hSt ?_; clear hSt; intro w nb hnb hSt; replace hSt := hSt.front; dsimp only [zcells] at hSt) | (apply WL_ev rfl rfl; exact Ev_strIndex hT rfl rfl rfl (by omega) hq0) | (refine WL_isCall (f := 96) ?_; refine WL_call (ok_call hT rfl) rfl rfl rfl (hle _) ?_; rintro v w2 ⟨rfl, hc2⟩; replace hSt := hSt.call0 hc2; clear hc2) | (refine WL_isCall (f := 98) ?_; refine WL_call (ok_call hT rfl) rfl rfl rfl (hdi _) ?_; rintro v w2 ⟨rfl, hc2⟩; replace hSt := hSt.call0 hc2; clear hc2) | (refine WL_isCall (f := 101) ?_; refine WL_call (ok_call hT rfl) rfl rfl rfl (hma _) ?_; rintro v w2 ⟨rfl, hc2⟩; replace hSt := hSt.call0 hc2; clear hc2) | (refine WL_isCall (f := 99) ?_; refine WL_call (ok_call hT rfl) rfl rfl rfl (hnm _) ?_; rintro v w2 ⟨⟨x9, rfl⟩, hc2⟩; replace hSt := hSt.call0 hc2; clear hc2) | refine stepA ?_ | (refine stepS ?_; clear hSt; intro w hSt; dsimp only [spl, List.set] at hSt) | (refine stepB ?_; clear hSt; intro w nb hnb hSt; dsimp only [zcells, List.nil_append, List.cons_append] at hSt) | (refine W_quiet hT (by decide +kernel) hSt ?_; clear hSt; (repeat' (first | (apply QL_ev rfl rfl; (intro w hSt; (first | (exact Ev_strIndex hT rfl rfl rfl (by omega) hq0) | exact Ev_auto))) | refine QL_pass rfl rfl ?_ | (refine QL_guardP rfl rfl (fun hc => ?_) (fun hc => ?_) <;> try exact absA) | (refine QL_guard rfl rfl (fun hc => ?_) (fun hc => ?_) <;> (try exact absA) <;> (fail_if_success (change true = true at hc)) <;> (fail_if_success (change false = false at hc))))); all_goals (refine QL_nil (fun w hSt => ?_))) | (refine stepG ?_ ?_ <;> intro hc <;> (try exact absA) <;> (fail_if_success (change true = true at hc)) <;> (fail_if_success (change false = false at hc))) | fail)
          all_goals try (exfalso; first | omega | (simp at hc; done) | (exact hc rfl) | contradiction)
          all_goals exact ret3 rfl rfl rfl rfl ⟨he, rfl, hSt.nil⟩
        | tok t q =>
          rw [htk, hwf] at hsc
          have hq2 := tok_adv hpl (htk.trans hwf) (by rw [(numF_tok hwf)]; show (2 : Int) ≠ 0; decide)
          rw [hwf] at hnm
          dsimp only [PartR] at hnm
          have hte := numF_tok hwf
          generalize t.nn = m9 at hte hnm
          subst hte
          dsimp only at hsc
          rw [if_neg (by decide)] at hsc
          repeat' (first | (refine WL_alloc hT rfl rfl rfl hSt ?_; clear hSt; intro w nb hnb hSt; replace hSt := hSt.front; dsimp only [zcells] at hSt) | (apply WL_ev rfl rfl; exact Ev_strIndex hT rfl rfl rfl (by omega) hq0) | (refine WL_isCall (f := 96) ?_; refine WL_call (ok_call hT rfl) rfl rfl rfl (hle _) ?_; rintro v w2 ⟨rfl, hc2⟩; replace hSt := hSt.call0 hc2; clear hc2) | (refine WL_isCall (f := 98) ?_; refine WL_call (ok_call hT rfl) rfl rfl rfl (hdi _) ?_; rintro v w2 ⟨rfl, hc2⟩; replace hSt := hSt.call0 hc2; clear hc2) | (refine WL_isCall (f := 101) ?_; refine WL_call (ok_call hT rfl) rfl rfl rfl (hma _) ?_; rintro v w2 ⟨rfl, hc2⟩; replace hSt := hSt.call0 hc2; clear hc2) | (refine WL_isCall (f := 99) ?_; refine WL_call (ok_call hT rfl) rfl rfl rfl (hnm _) ?_; rintro v w2 ⟨rfl, hc2⟩; replace hSt := hSt.call0 hc2; clear hc2) | refine stepA ?_ | (refine stepS ?_; clear hSt; intro w hSt; dsimp only [spl, List.set] at hSt) | (refine stepB ?_; clear hSt; intro w nb hnb hSt; dsimp only [zcells, List.nil_append, List.cons_append] at hSt) | (refine W_quiet hT (by decide +kernel) hSt ?_; clear hSt; (repeat' (first | (apply QL_ev rfl rfl; (intro w hSt; (first | (exact Ev_strIndex hT rfl rfl rfl (by omega) hq0) | exact Ev_auto))) | refine QL_pass rfl rfl ?_ | (refine QL_guardP rfl rfl (fun hc => ?_) (fun hc => ?_) <;> try exact absA) | (refine QL_guard rfl rfl (fun hc => ?_) (fun hc => ?_) <;> (try exact absA) <;> (fail_if_success (change true = true at hc)) <;> (fail_if_success (change false = false at hc))))); all_goals (refine QL_nil (fun w hSt => ?_))) | (refine stepG ?_ ?_ <;> intro hc <;> (try exact absA) <;> (fail_if_success (change true = true at hc)) <;> (fail_if_success (change false = false at hc))) | fail)
          all_goals try (exfalso; first | omega | (simp at hc; done) | (exact hc rfl) | contradiction)
          (refine WL_push1 hT rfl rfl rfl rfl rfl rfl rfl rfl rfl rfl rfl rfl (fun _ => rfl) rfl (H0 := [_]) hSt ho (by omega) (by omega) ?_; clear hSt ho; intro v' w H2 u ho hSt; dsimp only [List.cons_append, List.nil_append] at hSt)
          replace ho : OwnSl v' 63 4 ((l ++ [(⟨2, [], m9, p⟩ : Tk)]).flatMap tkC) (l ++ [(⟨2, [], m9, p⟩ : Tk)]).length H2 := by
            rw [List.flatMap_append, List.length_append, List.flatMap_singleton]; exact ho
          repeat' (first | (refine WL_isCall (f := 95) ?_; refine WL_call (ok_call hT rfl) rfl rfl rfl (rskip_any x (p := q) hl hq2.2) ?_; rintro v w2 ⟨rfl, hc2⟩; replace hSt := hSt.call0 hc2; clear hc2) | refine stepA ?_ | (refine stepS ?_; clear hSt; intro w hSt; dsimp only [spl, List.set] at hSt) | (refine stepB ?_; clear hSt; intro w nb hnb hSt; dsimp only [zcells, List.nil_append, List.cons_append] at hSt) | (refine W_quiet hT (by decide +kernel) hSt ?_; clear hSt; (repeat' (first | (apply QL_ev rfl rfl; (intro w hSt; (first | exact Ev_auto))) | refine QL_pass rfl rfl ?_ | (refine QL_guardP rfl rfl (fun hc => ?_) (fun hc => ?_) <;> try exact absA) | (refine QL_guard rfl rfl (fun hc => ?_) (fun hc => ?_) <;> (try exact absA) <;> (fail_if_success (change true = true at hc)) <;> (fail_if_success (change false = false at hc))))); all_goals (refine QL_nil (fun w hSt => ?_))) | (refine stepG ?_ ?_ <;> intro hc <;> (try exact absA) <;> (fail_if_success (change true = true at hc)) <;> (fail_if_success (change false = false at hc))) | fail)
          all_goals try (exfalso; first | omega | (simp at hc; done) | (exact hc rfl) | contradiction)
          all_goals exact At_loop3 hK (k' := k) q (l ++ [⟨2, [], m9, p⟩]) v' (by omega) ⟨by omega, hq2.2, by rw [List.length_append, List.length_singleton]; omega, hsc, H2, ho, hSt.right (Ha := [_])⟩ (by (repeat (first | exact Sub.nil _ | refine Sub.cons rfl ?_)))
    have hn45 : ¬ c.toNat = 45 := fun e => h4 (.inr (i5.2 e))
    have h40 : ¬ clsF c = 4 := fun e => h4 (.inl e)
    simp only [h40, decide_false] at hdi
    by_cases h7 : clsF c = 7
    · have htk : tokF x p = textF x p := by rw [tk0, if_neg h3, if_neg h4, if_pos h7]
      have h34 := i7.1 h7
      have hnm := fun w : World => rquoted_any (w0 := w) x hl hps
      cases hwf : textF x p with
      | err e9 w9 =>
        rw [htk, hwf] at hsc
        dsimp only at hsc
        rw [hsc]
        have he := tok_err (htk.trans hwf)
        rw [hwf] at hnm
        dsimp only [PartR] at hnm
        repeat' (first | (refine WL_alloc hT rfl rfl rfl hSt ?_; clear hSt; intro w nb hnb hSt; replace hSt := hSt.front; dsimp only [zcells] at hSt) | (apply WL_ev rfl rfl; exact Ev_strIndex hT rfl rfl rfl (by omega) hq0) | (refine WL_isCall (f := 96) ?_; refine WL_call (ok_call hT rfl) rfl rfl rfl (hle _) ?_; rintro v w2 ⟨rfl, hc2⟩; replace hSt := hSt.call0 hc2; clear hc2) | (refine WL_isCall (f := 98) ?_; refine WL_call (ok_call hT rfl) rfl rfl rfl (hdi _) ?_; rintro v w2 ⟨rfl, hc2⟩; replace hSt := hSt.call0 hc2; clear hc2) | (refine WL_isCall (f := 101) ?_; refine WL_call (ok_call hT rfl) rfl rfl rfl (hma _) ?_; rintro v w2 ⟨rfl, hc2⟩; replace hSt := hSt.call0 hc2; clear hc2) | (refine WL_isCall (f := 100) ?_; refine WL_call (ok_call hT rfl) rfl rfl rfl (hnm _) ?_; rintro v w2 ⟨⟨x9, rfl⟩, hc2⟩; replace hSt := hSt.call0 hc2; clear hc2) | refine stepA ?_ | (refine stepS ?_; clear hSt; intro w hSt; dsimp only [spl, List.set] at hSt) | (refine stepB ?_; clear hSt; intro w nb hnb hSt; dsimp only [zcells, List.nil_append, List.cons_append] at hSt) | (refine W_quiet hT (by decide +kernel) hSt ?_; clear hSt; (repeat' (first | (apply QL_ev rfl rfl; (intro w hSt; (first | (exact Ev_strIndex hT rfl rfl rfl (by omega) hq0) | exact Ev_auto))) | refine QL_pass rfl rfl ?_ | (refine QL_guardP rfl rfl (fun hc => ?_) (fun hc => ?_) <;> try exact absA) | (refine QL_guard rfl rfl (fun hc => ?_) (fun hc => ?_) <;> (try exact absA) <;> (fail_if_success (change true = true at hc)) <;> (fail_if_success (change false = false at hc))))); all_goals (refine QL_nil (fun w hSt => ?_))) | (refine stepG ?_ ?_ <;> intro hc <;> (try exact absA) <;> (fail_if_success (change true = true at hc)) <;> (fail_if_success (change false = false at hc))) | fail)
        all_goals try (exfalso; first | omega | (simp at hc; done) | (exact hc rfl) | contradiction)
        all_goals exact ret3 rfl rfl rfl rfl ⟨he, rfl, hSt.nil⟩
      | tok t q =>
        rw [htk, hwf] at hsc
        have hq2 := tok_adv hpl (htk.trans hwf) (by rw [(textF_tok hwf)]; show (3 : Int) ≠ 0; decide)
        rw [hwf] at hnm
        dsimp only [PartR] at hnm
        have hte := textF_tok hwf
        generalize t.tx = m9 at hte hnm
        subst hte
        dsimp only at hsc
        rw [if_neg (by decide)] at hsc
        repeat' (first | (refine WL_alloc hT rfl rfl rfl hSt ?_; clear hSt; intro w nb hnb hSt; replace hSt := hSt.front; dsimp only [zcells] at hSt) | (apply WL_ev rfl rfl; exact Ev_strIndex hT rfl rfl rfl (by omega) hq0) | (refine WL_isCall (f := 96) ?_; refine WL_call (ok_call hT rfl) rfl rfl rfl (hle _) ?_; rintro v w2 ⟨rfl, hc2⟩; replace hSt := hSt.call0 hc2; clear hc2) | (refine WL_isCall (f := 98) ?_; refine WL_call (ok_call hT rfl) rfl rfl rfl (hdi _) ?_; rintro v w2 ⟨rfl, hc2⟩; replace hSt := hSt.call0 hc2; clear hc2) | (refine WL_isCall (f := 101) ?_; refine WL_call (ok_call hT rfl) rfl rfl rfl (hma _) ?_; rintro v w2 ⟨rfl, hc2⟩; replace hSt := hSt.call0 hc2; clear hc2) | (refine WL_isCall (f := 100) ?_; refine WL_call (ok_call hT rfl) rfl rfl rfl (hnm _) ?_; rintro v w2 ⟨rfl, hc2⟩; replace hSt := hSt.call0 hc2; clear hc2) | refine stepA ?_ | (refine stepS ?_; clear hSt; intro w hSt; dsimp only [spl, List.set] at hSt) | (refine stepB ?_; clear hSt; intro w nb hnb hSt; dsimp only [zcells, List.nil_append, List.cons_append] at hSt) | (refine W_quiet hT (by decide +kernel) hSt ?_; clear hSt; (repeat' (first | (apply QL_ev rfl rfl; (intro w hSt; (first | (exact Ev_strIndex hT rfl rfl rfl (by omega) hq0) | exact Ev_auto))) | refine QL_pass rfl rfl ?_ | (refine QL_guardP rfl rfl (fun hc => ?_) (fun hc => ?_) <;> try exact absA) | (refine QL_guard rfl rfl (fun hc => ?_) (fun hc => ?_) <;> (try exact absA) <;> (fail_if_success (change true = true at hc)) <;> (fail_if_success (change false = false at hc))))); all_goals (refine QL_nil (fun w hSt => ?_))) | (refine stepG ?_ ?_ <;> intro hc <;> (try exact absA) <;> (fail_if_success (change true = true at hc)) <;> (fail_if_success (change false = false at hc))) | fail)
        all_goals try (exfalso; first | omega | (simp at hc; done) | (exact hc rfl) | contradiction)
        (refine WL_push1 hT rfl rfl rfl rfl rfl rfl rfl rfl rfl rfl rfl rfl (fun _ => rfl) rfl (H0 := [_]) hSt ho (by omega) (by omega) ?_; clear hSt ho; intro v' w H2 u ho hSt; dsimp only [List.cons_append, List.nil_append] at hSt)
        replace ho : OwnSl v' 63 4 ((l ++ [(⟨3, m9, 0, p⟩ : Tk)]).flatMap tkC) (l ++ [(⟨3, m9, 0, p⟩ : Tk)]).length H2 := by
          rw [List.flatMap_append, List.length_append, List.flatMap_singleton]; exact ho
        repeat' (first | (refine WL_isCall (f := 95) ?_; refine WL_call (ok_call hT rfl) rfl rfl rfl (rskip_any x (p := q) hl hq2.2) ?_; rintro v w2 ⟨rfl, hc2⟩; replace hSt := hSt.call0 hc2; clear hc2) | refine stepA ?_ | (refine stepS ?_; clear hSt; intro w hSt; dsimp only [spl, List.set] at hSt) | (refine stepB ?_; clear hSt; intro w nb hnb hSt; dsimp only [zcells, List.nil_append, List.cons_append] at hSt) | (refine W_quiet hT (by decide +kernel) hSt ?_; clear hSt; (repeat' (first | (apply QL_ev rfl rfl; (intro w hSt; (first | exact Ev_auto))) | refine QL_pass rfl rfl ?_ | (refine QL_guardP rfl rfl (fun hc => ?_) (fun hc => ?_) <;> try exact absA) | (refine QL_guard rfl rfl (fun hc => ?_) (fun hc => ?_) <;> (try exact absA) <;> (fail_if_success (change true = true at hc)) <;> (fail_if_success (change false = false at hc))))); all_goals (refine QL_nil (fun w hSt => ?_))) | (refine stepG ?_ ?_ <;> intro hc <;> (try exact absA) <;> (fail_if_success (change true = true at hc)) <;> (fail_if_success (change false = false at hc))) | fail)
        all_goals try (exfalso; first | omega | (simp at hc; done) | (exact hc rfl) | contradiction)
        all_goals exact At_loop3 hK (k' := k) q (l ++ [⟨3, m9, 0, p⟩]) v' (by omega) ⟨by omega, hq2.2, by rw [List.length_append, List.length_singleton]; omega, hsc, H2, ho, hSt.right (Ha := [_])⟩ (by (repeat (first | exact Sub.nil _ | refine Sub.cons rfl ?_)))
    have hn34 : ¬ c.toNat = 34 := fun e => h7 (i7.2 e)
    by_cases h8 : clsF c = 8
    · have htk : tokF x p = .tok ⟨4, cutF x p (p + 1), 0, p⟩ (p + 1) := by rw [tk0, if_neg h3, if_neg h4, if_neg h7, if_pos h8]
      rw [i8.1 h8] at hma
      have hq2 : p < p + 1 ∧ p + 1 ≤ x.length := by omega
      rw [htk] at hsc
      dsimp only at hsc
      rw [if_neg (by decide)] at hsc
      have hsl : S ((x.drop ((p : Int)).toNat).take (((p : Int) + 1).toNat - ((p : Int)).toNat)) = S (cutF x p (p + 1)) := by
        rw [show ((p : Int) + 1).toNat = p + 1 by omega, Int.toNat_natCast]; rfl
      repeat' (first | (refine WL_alloc hT rfl rfl rfl hSt ?_; clear hSt; intro w nb hnb hSt; replace hSt := hSt.front; dsimp only [zcells] at hSt) | (apply WL_ev rfl rfl; exact Ev_strIndex hT rfl rfl rfl (by omega) hq0) | (refine WL_isCall (f := 96) ?_; refine WL_call (ok_call hT rfl) rfl rfl rfl (hle _) ?_; rintro v w2 ⟨rfl, hc2⟩; replace hSt := hSt.call0 hc2; clear hc2) | (refine WL_isCall (f := 98) ?_; refine WL_call (ok_call hT rfl) rfl rfl rfl (hdi _) ?_; rintro v w2 ⟨rfl, hc2⟩; replace hSt := hSt.call0 hc2; clear hc2) | (refine WL_isCall (f := 101) ?_; refine WL_call (ok_call hT rfl) rfl rfl rfl (hma _) ?_; rintro v w2 ⟨rfl, hc2⟩; replace hSt := hSt.call0 hc2; clear hc2) | (apply WL_ev rfl rfl; exact Ev_as (v2 := S (cutF x p (p + 1))) (Ev_str_slice hT rfl rfl rfl rfl (by omega) (by omega) (by omega)) hsl) | refine stepA ?_ | (refine stepS ?_; clear hSt; intro w hSt; dsimp only [spl, List.set] at hSt) | (refine stepB ?_; clear hSt; intro w nb hnb hSt; dsimp only [zcells, List.nil_append, List.cons_append] at hSt) | (refine W_quiet hT (by decide +kernel) hSt ?_; clear hSt; (repeat' (first | (apply QL_ev rfl rfl; (intro w hSt; (first | (exact Ev_strIndex hT rfl rfl rfl (by omega) hq0) | (exact Ev_as (v2 := S (cutF x p (p + 1))) (Ev_str_slice hT rfl rfl rfl rfl (by omega) (by omega) (by omega)) hsl) | exact Ev_auto))) | refine QL_pass rfl rfl ?_ | (refine QL_guardP rfl rfl (fun hc => ?_) (fun hc => ?_) <;> try exact absA) | (refine QL_guard rfl rfl (fun hc => ?_) (fun hc => ?_) <;> (try exact absA) <;> (fail_if_success (change true = true at hc)) <;> (fail_if_success (change false = false at hc))))); all_goals (refine QL_nil (fun w hSt => ?_))) | (refine stepG ?_ ?_ <;> intro hc <;> (try exact absA) <;> (fail_if_success (change true = true at hc)) <;> (fail_if_success (change false = false at hc))) | fail)
      all_goals try (exfalso; first | omega | (simp at hc; done) | (exact hc rfl) | contradiction)
      (refine WL_push1 hT rfl rfl rfl rfl rfl rfl rfl rfl rfl rfl rfl rfl (fun _ => rfl) rfl (H0 := [_]) hSt ho (by omega) (by omega) ?_; clear hSt ho; intro v' w H2 u ho hSt; dsimp only [List.cons_append, List.nil_append] at hSt)
      replace ho : OwnSl v' 63 4 ((l ++ [(⟨4, cutF x p (p + 1), 0, p⟩ : Tk)]).flatMap tkC) (l ++ [(⟨4, cutF x p (p + 1), 0, p⟩ : Tk)]).length H2 := by
        rw [List.flatMap_append, List.length_append, List.flatMap_singleton]; exact ho
      repeat' (first | (refine WL_isCall (f := 95) ?_; refine WL_call (ok_call hT rfl) rfl rfl rfl (rskip_any x (p := p + 1) hl hq2.2) ?_; rintro v w2 ⟨rfl, hc2⟩; replace hSt := hSt.call0 hc2; clear hc2) | refine stepA ?_ | (refine stepS ?_; clear hSt; intro w hSt; dsimp only [spl, List.set] at hSt) | (refine stepB ?_; clear hSt; intro w nb hnb hSt; dsimp only [zcells, List.nil_append, List.cons_append] at hSt) | (refine W_quiet hT (by decide +kernel) hSt ?_; clear hSt; (repeat' (first | (apply QL_ev rfl rfl; (intro w hSt; (first | exact Ev_auto))) | refine QL_pass rfl rfl ?_ | (refine QL_guardP rfl rfl (fun hc => ?_) (fun hc => ?_) <;> try exact absA) | (refine QL_guard rfl rfl (fun hc => ?_) (fun hc => ?_) <;> (try exact absA) <;> (fail_if_success (change true = true at hc)) <;> (fail_if_success (change false = false at hc))))); all_goals (refine QL_nil (fun w hSt => ?_))) | (refine stepG ?_ ?_ <;> intro hc <;> (try exact absA) <;> (fail_if_success (change true = true at hc)) <;> (fail_if_success (change false = false at hc))) | fail)
      all_goals try (exfalso; first | omega | (simp at hc; done) | (exact hc rfl) | contradiction)
      all_goals exact At_loop3 hK (k' := k) (p + 1) (l ++ [⟨4, cutF x p (p + 1), 0, p⟩]) v' (by omega) ⟨by omega, hq2.2, by rw [List.length_append, List.length_singleton]; omega, hsc, H2, ho, hSt.right (Ha := [_])⟩ (by (repeat (first | exact Sub.nil _ | refine Sub.cons rfl ?_)))
    · have htk : tokF x p = .err 2 p := by rw [tk0, if_neg h3, if_neg h4, if_neg h7, if_neg h8]
      have h8f : markC c = false := by
        cases hm : markC c
        · rfl
        · exact absurd (i8.2 hm) h8
      rw [h8f] at hma
      rw [htk] at hsc
      dsimp only at hsc
      rw [hsc]
      have he : (2 : Int) ≠ 0 := by decide
      repeat' (first | (refine WL_alloc hT rfl rfl rfl hSt ?_; clear hSt; intro w nb hnb hSt; replace hSt := hSt.front; dsimp only [zcells] at hSt) | (apply WL_ev rfl rfl; exact Ev_strIndex hT rfl rfl rfl (by omega) hq0) | (refine WL_isCall (f := 96) ?_; refine WL_call (ok_call hT rfl) rfl rfl rfl (hle _) ?_; rintro v w2 ⟨rfl, hc2⟩; replace hSt := hSt.call0 hc2; clear hc2) | (refine WL_isCall (f := 98) ?_; refine WL_call (ok_call hT rfl) rfl rfl rfl (hdi _) ?_; rintro v w2 ⟨rfl, hc2⟩; replace hSt := hSt.call0 hc2; clear hc2) | (refine WL_isCall (f := 101) ?_; refine WL_call (ok_call hT rfl) rfl rfl rfl (hma _) ?_; rintro v w2 ⟨rfl, hc2⟩; replace hSt := hSt.call0 hc2; clear hc2) | refine stepA ?_ | (refine stepS ?_; clear hSt; intro w hSt; dsimp only [spl, List.set] at hSt) | (refine stepB ?_; clear hSt; intro w nb hnb hSt; dsimp only [zcells, List.nil_append, List.cons_append] at hSt) | (refine W_quiet hT (by decide +kernel) hSt ?_; clear hSt; (repeat' (first | (apply QL_ev rfl rfl; (intro w hSt; (first | (exact Ev_strIndex hT rfl rfl rfl (by omega) hq0) | exact Ev_auto))) | refine QL_pass rfl rfl ?_ | (refine QL_guardP rfl rfl (fun hc => ?_) (fun hc => ?_) <;> try exact absA) | (refine QL_guard rfl rfl (fun hc => ?_) (fun hc => ?_) <;> (try exact absA) <;> (fail_if_success (change true = true at hc)) <;> (fail_if_success (change false = false at hc))))); all_goals (refine QL_nil (fun w hSt => ?_))) | (refine stepG ?_ ?_ <;> intro hc <;> (try exact absA) <;> (fail_if_success (change true = true at hc)) <;> (fail_if_success (change false = false at hc))) | fail)
      all_goals try (exfalso; first | omega | (simp at hc; done) | (exact hc rfl) | contradiction)
      all_goals exact ret3 rfl rfl rfl rfl ⟨he, rfl, hSt.nil⟩
  · have hka : kindAt x p = -1 := by unfold kindAt; rw [List.getElem?_eq_none (by omega)]
    have htk : tokF x p = .tok ⟨0, [], 0, p⟩ p := by unfold tokF; dsimp only; rw [hka, if_pos rfl]
    rw [htk] at hsc
    dsimp only at hsc
    rw [if_pos rfl] at hsc
    rw [hsc]
    have hpe : (x.length : Int) = (p : Int) := by omega
    repeat' (first | refine stepA ?_ | (refine stepS ?_; clear hSt; intro w hSt; dsimp only [spl, List.set] at hSt) | (refine stepB ?_; clear hSt; intro w nb hnb hSt; dsimp only [zcells, List.nil_append, List.cons_append] at hSt) | (refine W_quiet hT (by decide +kernel) hSt ?_; clear hSt; (repeat' (first | (apply QL_ev rfl rfl; (intro w hSt; (first | exact Ev_auto))) | refine QL_pass rfl rfl ?_ | (refine QL_guardP rfl rfl (fun hc => ?_) (fun hc => ?_) <;> try exact absA) | (refine QL_guard rfl rfl (fun hc => ?_) (fun hc => ?_) <;> (try exact absA) <;> (fail_if_success (change true = true at hc)) <;> (fail_if_success (change false = false at hc))))); all_goals (refine QL_nil (fun w hSt => ?_))) | (refine stepG ?_ ?_ <;> intro hc <;> (try exact absA) <;> (fail_if_success (change true = true at hc)) <;> (fail_if_success (change false = false at hc))) | fail)
    all_goals try (exfalso; first | omega | (simp at hc; done) | (exact hc rfl) | contradiction)
    (refine WL_push1 hT rfl rfl rfl rfl rfl rfl rfl rfl rfl rfl rfl rfl (fun _ => rfl) rfl (H0 := []) hSt ho (by omega) (by omega) ?_; clear hSt ho; intro v' w H2 u ho hSt; dsimp only [List.cons_append, List.nil_append] at hSt)
    replace ho : OwnSl v' 63 4 ((l ++ [(⟨0, [], 0, p⟩ : Tk)]).flatMap tkC) (l ++ [(⟨0, [], 0, p⟩ : Tk)]).length H2 := by
      rw [List.flatMap_append, List.length_append, List.flatMap_singleton, show tkC ⟨0, [], 0, (p : Int)⟩ = [I 0, S [], I 0, I (x.length : Int)] by rw [hpe]]; exact ho
    repeat' (first | refine stepA ?_ | (refine stepS ?_; clear hSt; intro w hSt; dsimp only [spl, List.set] at hSt) | (refine stepB ?_; clear hSt; intro w nb hnb hSt; dsimp only [zcells, List.nil_append, List.cons_append] at hSt) | (refine W_quiet hT (by decide +kernel) hSt ?_; clear hSt; (repeat' (first | (apply QL_ev rfl rfl; (intro w hSt; (first | exact Ev_auto))) | refine QL_pass rfl rfl ?_ | (refine QL_guardP rfl rfl (fun hc => ?_) (fun hc => ?_) <;> try exact absA) | (refine QL_guard rfl rfl (fun hc => ?_) (fun hc => ?_) <;> (try exact absA) <;> (fail_if_success (change true = true at hc)) <;> (fail_if_success (change false = false at hc))))); all_goals (refine QL_nil (fun w hSt => ?_))) | (refine stepG ?_ ?_ <;> intro hc <;> (try exact absA) <;> (fail_if_success (change true = true at hc)) <;> (fail_if_success (change false = false at hc))) | fail)
    all_goals try (exfalso; first | omega | (simp at hc; done) | (exact hc rfl) | contradiction)
    all_goals exact ret3 rfl rfl rfl rfl ⟨_, H2, rfl, ho, hSt⟩
end Go.Proofs.YtknfankadlokhaaGreatDoor
