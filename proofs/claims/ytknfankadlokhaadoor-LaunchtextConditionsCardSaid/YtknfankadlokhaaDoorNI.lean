/- The specification's parser answers what the program's answers. No conditions. -/
import Derived.Test.YtknfankadlokhaaDoorNA
import Derived.Test.YtknfankadlokhaaDoorNH

namespace Go.Proofs.YtknfankadlokhaaDoor
open Go.RowKit
set_option linter.unusedVariables false
set_option linter.unusedSimpArgs false

section
variable {ts : List Tk}
def RelR {α : Type} (r : Rs α) (o : Option (α × Pq)) : Prop := match r with
  | .ok c q => o = some (c, (q, false))
  | .bad q => ∃ c, o = some (c, (q, true))
theorem mkT {p : Nat} {c : UInt8} : tkT ts 4 [c] (p, false) = mkB ts p c := rfl
theorem wdT {p : Nat} {s : Tx} : tkT ts 1 s (p, false) = wdB ts p s := rfl
theorem badT {p k : Nat} {s : Tx} : tkT ts k s (p, true) = false := rfl
theorem mkP_yes {p : Nat} {c : UInt8} (h : mkB ts p c = true) : tkP ts 4 [c] (p, false) = (p + 1, false) := if_pos h
theorem wdP_yes {p : Nat} {s : Tx} (h : wdB ts p s = true) : tkP ts 1 s (p, false) = (p + 1, false) := if_pos h
theorem tkP_bad {p : Nat} {k : Int} {s : Tx} : tkP ts k s (p, true) = (p, true) := rfl
theorem ndP_bad {p : Nat} {k : Int} {s : Tx} : ndP ts k s (p, true) = (p, true) := rfl
theorem mkN_yes {p : Nat} {c : UInt8} (h : mkB ts p c = true) : ndP ts 4 [c] (p, false) = (p + 1, false) := by
  unfold ndP; rw [mkP_yes h]; show (p + 1, !mkB ts p c) = _; rw [h]; rfl
theorem mkN_no {p : Nat} {c : UInt8} (h : ¬ mkB ts p c = true) : ndP ts 4 [c] (p, false) = (p, true) := by
  have h2 : mkB ts p c = false := by simpa using h
  unfold ndP; rw [show tkP ts 4 [c] (p, false) = (p, false) from if_neg h]; show (p, !mkB ts p c) = _; rw [h2]; rfl
theorem wdN_yes {p : Nat} {s : Tx} (h : wdB ts p s = true) : ndP ts 1 s (p, false) = (p + 1, false) := by
  unfold ndP; rw [wdP_yes h]; show (p + 1, !wdB ts p s) = _; rw [h]; rfl
theorem wdN_no {p : Nat} {s : Tx} (h : ¬ wdB ts p s = true) : ndP ts 1 s (p, false) = (p, true) := by
  have h2 : wdB ts p s = false := by simpa using h
  unfold ndP; rw [show tkP ts 1 s (p, false) = (p, false) from if_neg h]; show (p, !wdB ts p s) = _; rw [h2]; rfl
theorem anP_yes {p : Nat} {k : Int} (h : (tkAt ts p).kd = k) : anP ts k (p, false) = (p + 1, false) := if_neg (fun e => e.elim (fun e => (by cases e)) (fun e => e h))
theorem anP_no {p : Nat} {k : Int} (h : (tkAt ts p).kd ≠ k) : anP ts k (p, false) = (p, true) := if_pos (.inr h)
theorem anP_bad {p : Nat} {k : Int} : anP ts k (p, true) = (p, true) := if_pos (.inl rfl)
theorem anT_yes {p : Nat} {k : Int} (h : (tkAt ts p).kd = k) : anT ts k (p, false) = (tkAt ts p).tx := if_neg (fun e => e.elim (fun e => (by cases e)) (fun e => e h))
/-- a setting -/
theorem rel_set {p : Nat} : match setR ts p with
    | .ok s q => qSet ts (p, false) = s ∧ qSetP ts (p, false) = (q, false)
    | .bad q => qSetP ts (p, false) = (q, true) := by
  unfold setR takeR markR qSet qSetP
  by_cases h1 : (tkAt ts p).kd = 1
  · rw [if_pos h1, anP_yes h1]
    dsimp only
    by_cases h2 : mkB ts (p + 1) 61 = true
    · rw [if_pos h2, mkN_yes h2]
      dsimp only
      by_cases h3 : (tkAt ts (p + 1 + 1)).kd = 3
      · rw [if_pos h3, anP_yes h3, anT_yes h1, anT_yes h3]
        exact ⟨rfl, rfl⟩
      · rw [if_neg h3, anP_no h3]
    · rw [if_neg h2, mkN_no h2, anP_bad]
  · rw [if_neg h1, anP_no h1, ndP_bad, anP_bad]
theorem rel_set_ok {p q : Nat} {s : Sg} (h : setR ts p = .ok s q) : qSet ts (p, false) = s ∧ qSetP ts (p, false) = (q, false) := by
  have := rel_set (ts := ts) (p := p); rw [h] at this; exact this
theorem rel_set_bad {p q : Nat} (h : setR ts p = .bad q) : qSetP ts (p, false) = (q, true) := by
  have := rel_set (ts := ts) (p := p); rw [h] at this; exact this
theorem rel_setsL : ∀ (f : Nat) (l : List Sg) (p : Nat) {r : Rs (List Sg)}, setsL ts f l p = some r → ∃ g, (∀ g', g ≤ g' → RelR r (qSetsL ts g' (l ++ [qSet ts (p, false)]) (qSetP ts (p, false)))) ∧ g ≤ f
  | 0, l, p, r, h => by rw [setsL] at h; cases h
  | f + 1, l, p, r, h => by
    rw [setsL] at h
    split at h
    · rename_i q hs
      injection h with h; subst h
      refine ⟨1, fun g' hg => ?_, by omega⟩
      obtain ⟨g', rfl⟩ : ∃ n, g' = n + 1 := ⟨g' - 1, by omega⟩
      rw [rel_set_bad hs, qSetsL]
      exact ⟨_, if_neg (by show ¬ tkT ts 4 [44] (q, true) = true; rw [show tkT ts 4 [44] (q, true) = false from rfl]; decide)⟩
    · rename_i s q hs
      obtain ⟨e1, e2⟩ := rel_set_ok hs
      rw [e1, e2]
      split at h
      · rename_i hm
        obtain ⟨g, hg, hgf⟩ := rel_setsL f _ _ h
        refine ⟨g + 1, fun g' hg' => ?_, by omega⟩
        obtain ⟨g', rfl⟩ : ∃ n, g' = n + 1 := ⟨g' - 1, by omega⟩
        rw [qSetsL, if_pos (show tkT ts 4 [44] (q, false) = true from hm), mkP_yes hm]
        exact hg g' (by omega)
      · rename_i hm
        injection h with h; subst h
        refine ⟨1, fun g' hg => ?_, by omega⟩
        obtain ⟨g', rfl⟩ : ∃ n, g' = n + 1 := ⟨g' - 1, by omega⟩
        rw [qSetsL]
        exact if_neg hm
theorem rel_sets {f p : Nat} {r : Rs (List Sg)} (h : setsR ts f p = some r) : RelR r (qSets ts f (p, false)) := by
  unfold setsR at h
  unfold qSets
  split at h
  · rename_i hk
    rw [if_pos hk]
    injection h with h; subst h; rfl
  · rename_i hk
    rw [if_neg hk]
    obtain ⟨g, hg, hgf⟩ := rel_setsL f [] p h
    exact hg f hgf
theorem cnjL_bad {f p : Nat} {c : Cn} (hf : 0 < f) : qCnjL ts f c (p, true) = some (c, (p, true)) := by
  obtain ⟨f, rfl⟩ : ∃ n, f = n + 1 := ⟨f - 1, by omega⟩
  rw [qCnjL]; exact if_neg (by rw [show tkT ts 4 [38] (p, true) = false from rfl]; decide)
theorem conL_bad {f p : Nat} {c : Cn} (hf : 0 < f) : qConL ts f c (p, true) = some (c, (p, true)) := by
  obtain ⟨f, rfl⟩ : ∃ n, f = n + 1 := ⟨f - 1, by omega⟩
  rw [qConL]; exact if_neg (by rw [show tkT ts 4 [124] (p, true) = false from rfl]; decide)
theorem opr_pos {f p : Nat} {r : Rs Cn} (h : oprF ts f p = some r) : 0 < f := by
  cases f with
  | zero => rw [oprF] at h; cases h
  | succ f => omega
theorem cnj_pos {f p : Nat} {r : Rs Cn} (h : cnjF ts f p = some r) : 0 < f := by
  cases f with
  | zero => rw [cnjF] at h; cases h
  | succ f => omega
theorem rel_par : ∀ f : Nat, (∀ p r, oprF ts f p = some r → RelR r (qOpr ts f (p, false))) ∧ (∀ p r, cnjF ts f p = some r → RelR r (qCnj ts f (p, false))) ∧
    (∀ a p r, cnjL ts f a p = some r → RelR r (qCnjL ts f a (p, false))) ∧ (∀ p r, conF ts f p = some r → RelR r (qCon ts f (p, false))) ∧ (∀ a p r, conL ts f a p = some r → RelR r (qConL ts f a (p, false)))
  | 0 => ⟨fun p r h => (by rw [oprF] at h; cases h), fun p r h => (by rw [cnjF] at h; cases h), fun a p r h => (by rw [cnjL] at h; cases h), fun p r h => (by rw [conF] at h; cases h), fun a p r h => (by rw [conL] at h; cases h)⟩
  | f + 1 => by
    obtain ⟨i1, i2, i3, i4, i5⟩ := rel_par f
    refine ⟨fun p r h => ?_, fun p r h => ?_, fun a p r h => ?_, fun p r h => ?_, fun a p r h => ?_⟩
    · rw [oprF] at h
      rw [qOpr]
      split at h
      · rename_i hm
        rw [if_pos (show tkT ts 4 [33] (p, false) = true from hm), mkP_yes hm]
        split at h
        · cases h
        · rename_i q hx
          injection h with h; subst h
          obtain ⟨c, e⟩ := i1 _ _ hx
          rw [e]; exact ⟨_, rfl⟩
        · rename_i c q hx
          injection h with h; subst h
          have e : qOpr ts f (p + 1, false) = some (c, (q, false)) := i1 _ _ hx
          rw [e]; rfl
      rename_i hm1
      rw [if_neg (show ¬ tkT ts 4 [33] (p, false) = true from hm1)]
      split at h
      · rename_i hm
        rw [if_pos (show tkT ts 4 [40] (p, false) = true from hm), mkP_yes hm]
        split at h
        · cases h
        · rename_i q hx
          injection h with h; subst h
          obtain ⟨c, e⟩ := i4 _ _ hx
          rw [e]; exact ⟨c, by dsimp only; rw [ndP_bad]⟩
        · rename_i c q hx
          have e : qCon ts f (p + 1, false) = some (c, (q, false)) := i4 _ _ hx
          rw [e]
          dsimp only
          split at h
          · rename_i h41
            injection h with h; subst h
            rw [mkN_yes h41]; rfl
          · rename_i h41
            injection h with h; subst h
            exact ⟨c, by rw [mkN_no h41]⟩
      rename_i hm2
      rw [if_neg (show ¬ tkT ts 4 [40] (p, false) = true from hm2)]
      have hs := rel_set (ts := ts) (p := p)
      unfold setR takeR markR at hs
      split at h
      · rename_i hk
        injection h with h; subst h
        rw [if_neg hk] at hs
        have hI : isT ts 1 wTrue p = false := by unfold isT; rw [decide_eq_false hk, Bool.false_and]
        rw [if_neg (by show ¬ ((!false && isT ts 1 wTrue p) && !isT ts 4 [61] (p + 1)) = true; rw [hI]; simp)]
        exact ⟨_, by rw [hs]⟩
      rename_i hk
      have hk : (tkAt ts p).kd = 1 := Decidable.not_not.1 hk
      rw [if_pos hk] at hs
      dsimp only at hs
      split at h
      · rename_i he
        rw [if_pos he] at hs
        dsimp only at hs
        have hJ : isT ts 4 [61] (p + 1) = true := he
        rw [if_neg (by show ¬ ((!false && isT ts 1 wTrue p) && !isT ts 4 [61] (p + 1)) = true; rw [hJ]; simp)]
        split at h
        · rename_i h3
          rw [if_pos h3] at hs
          injection h with h; subst h
          dsimp only at hs
          rw [hs.1, hs.2]; rfl
        · rename_i h3
          rw [if_neg h3] at hs
          injection h with h; subst h
          exact ⟨_, by rw [hs]⟩
      rename_i he
      rw [if_neg he] at hs
      have hJ : isT ts 4 [61] (p + 1) = false := by have : mkB ts (p + 1) 61 = false := by simpa using he
                                                    exact this
      split at h
      · rename_i ht
        injection h with h; subst h
        have hI : isT ts 1 wTrue p = false := by unfold isT; rw [decide_eq_false ht, Bool.and_false]
        rw [if_neg (by show ¬ ((!false && isT ts 1 wTrue p) && !isT ts 4 [61] (p + 1)) = true; rw [hI]; simp)]
        exact ⟨_, by rw [hs]⟩
      · rename_i ht
        injection h with h; subst h
        have hI : isT ts 1 wTrue p = true := by unfold isT; rw [decide_eq_true hk, decide_eq_true (Decidable.not_not.1 ht)]; rfl
        rw [if_pos (by show ((!false && isT ts 1 wTrue p) && !isT ts 4 [61] (p + 1)) = true; rw [hI, hJ]; rfl)]
        rfl
    · rw [cnjF] at h
      rw [qCnj]
      split at h
      · cases h
      · rename_i q hx
        injection h with h; subst h
        obtain ⟨c, e⟩ := i1 _ _ hx
        rw [e]; exact ⟨c, cnjL_bad (opr_pos hx)⟩
      · rename_i c q hx
        have e : qOpr ts f (p, false) = some (c, (q, false)) := i1 _ _ hx
        rw [e]; exact i3 _ _ _ h
    · rw [cnjL] at h
      rw [qCnjL]
      split at h
      · rename_i hm
        rw [if_pos (show tkT ts 4 [38] (p, false) = true from hm), mkP_yes hm]
        split at h
        · cases h
        · rename_i q hx
          injection h with h; subst h
          obtain ⟨c, e⟩ := i1 _ _ hx
          rw [e]; exact ⟨_, cnjL_bad (opr_pos hx)⟩
        · rename_i c q hx
          have e : qOpr ts f (p + 1, false) = some (c, (q, false)) := i1 _ _ hx
          rw [e]; exact i3 _ _ _ h
      · rename_i hm
        rw [if_neg (show ¬ tkT ts 4 [38] (p, false) = true from hm)]
        injection h with h; subst h; rfl
    · rw [conF] at h
      rw [qCon]
      split at h
      · cases h
      · rename_i q hx
        injection h with h; subst h
        obtain ⟨c, e⟩ := i2 _ _ hx
        rw [e]; exact ⟨c, conL_bad (cnj_pos hx)⟩
      · rename_i c q hx
        have e : qCnj ts f (p, false) = some (c, (q, false)) := i2 _ _ hx
        rw [e]; exact i5 _ _ _ h
    · rw [conL] at h
      rw [qConL]
      split at h
      · rename_i hm
        rw [if_pos (show tkT ts 4 [124] (p, false) = true from hm), mkP_yes hm]
        split at h
        · cases h
        · rename_i q hx
          injection h with h; subst h
          obtain ⟨c, e⟩ := i2 _ _ hx
          rw [e]; exact ⟨_, conL_bad (cnj_pos hx)⟩
        · rename_i c q hx
          have e : qCnj ts f (p + 1, false) = some (c, (q, false)) := i2 _ _ hx
          rw [e]; exact i5 _ _ _ h
      · rename_i hm
        rw [if_neg (show ¬ tkT ts 4 [124] (p, false) = true from hm)]
        injection h with h; subst h; rfl
theorem rel_aftL : ∀ (f : Nat) (l : List Tx) (p : Nat) {r : Rs (List Tx)}, aftL ts f l p = some r → ∃ g, (∀ g', g ≤ g' → RelR r (qAftL ts g' (l ++ [anT ts 1 (p, false)]) (anP ts 1 (p, false)))) ∧ g ≤ f
  | 0, l, p, r, h => by rw [aftL] at h; cases h
  | f + 1, l, p, r, h => by
    rw [aftL] at h
    unfold takeR at h
    by_cases hk : (tkAt ts p).kd = 1
    · rw [if_pos hk] at h
      dsimp only at h
      rw [anP_yes hk, anT_yes hk]
      split at h
      · rename_i hm
        obtain ⟨g, hg, hgf⟩ := rel_aftL f _ _ h
        refine ⟨g + 1, fun g' hg' => ?_, by omega⟩
        obtain ⟨g', rfl⟩ : ∃ n, g' = n + 1 := ⟨g' - 1, by omega⟩
        rw [qAftL, if_pos (show tkT ts 4 [44] (p + 1, false) = true from hm), mkP_yes hm]
        exact hg g' (by omega)
      · rename_i hm
        injection h with h; subst h
        refine ⟨1, fun g' hg => ?_, by omega⟩
        obtain ⟨g', rfl⟩ : ∃ n, g' = n + 1 := ⟨g' - 1, by omega⟩
        rw [qAftL]
        exact if_neg hm
    · rw [if_neg hk] at h
      injection h with h; subst h
      refine ⟨1, fun g' hg => ?_, by omega⟩
      obtain ⟨g', rfl⟩ : ∃ n, g' = n + 1 := ⟨g' - 1, by omega⟩
      rw [anP_no hk, qAftL]
      exact ⟨_, if_neg (by rw [show tkT ts 4 [44] (p, true) = false from rfl]; decide)⟩
theorem rel_if {f p : Nat} {r : Rs Cn} (h : ifR ts f p = some r) : RelR r (qIf ts f (p, false)) := by
  unfold ifR at h
  unfold qIf
  split at h
  · rename_i hm
    rw [if_pos (show tkT ts 1 wIf (p, false) = true from hm), wdP_yes hm]
    exact (rel_par f).2.2.2.1 _ _ h
  · rename_i hm
    rw [if_neg (show ¬ tkT ts 1 wIf (p, false) = true from hm)]
    injection h with h; subst h; rfl
theorem rel_aft {f p : Nat} {r : Rs (List Tx)} (h : aftR ts f p = some r) : RelR r (qAft ts f (p, false)) := by
  unfold aftR at h
  unfold qAft
  split at h
  · rename_i hm
    rw [if_pos (show tkT ts 1 wAfter (p, false) = true from hm), wdP_yes hm]
    obtain ⟨g, hg, hgf⟩ := rel_aftL f [] _ h
    exact hg f hgf
  · rename_i hm
    rw [if_neg (show ¬ tkT ts 1 wAfter (p, false) = true from hm)]
    injection h with h; subst h; rfl
theorem rel_brac {f p : Nat} {r : Rs (List Sg)} (h : bracR ts f p = some r) : RelR r (qBrac ts f (p, false)) := by
  unfold bracR at h
  unfold qBrac
  split at h
  · rename_i hm
    rw [if_pos (show tkT ts 4 [123] (p, false) = true from hm), mkP_yes hm]
    split at h
    · cases h
    · rename_i q hx
      injection h with h; subst h
      obtain ⟨c, e⟩ := rel_sets hx
      rw [e]; exact ⟨c, by dsimp only; rw [ndP_bad]⟩
    · rename_i l q hx
      have e : qSets ts f (p + 1, false) = some (l, (q, false)) := rel_sets hx
      rw [e]
      dsimp only
      split at h
      · rename_i h5
        injection h with h; subst h
        rw [mkN_yes h5]; rfl
      · rename_i h5
        injection h with h; subst h
        exact ⟨l, by rw [mkN_no h5]⟩
  · rename_i hm
    rw [if_neg (show ¬ tkT ts 4 [123] (p, false) = true from hm)]
    injection h with h; subst h; rfl
theorem qIf_bad {f p : Nat} : qIf ts f (p, true) = some (.mk 1 [] [] [], (p, true)) := if_neg (by rw [show tkT ts 1 wIf (p, true) = false from rfl]; decide)
theorem qAft_bad {f p : Nat} : qAft ts f (p, true) = some ([], (p, true)) := if_neg (by rw [show tkT ts 1 wAfter (p, true) = false from rfl]; decide)
theorem qBrac_bad {f p : Nat} : qBrac ts f (p, true) = some ([], (p, true)) := if_neg (by rw [show tkT ts 4 [123] (p, true) = false from rfl]; decide)
theorem qEnt_bad {f p : Nat} {x : Pq} (h : anP ts 1 (qMid ts x) = (p, true)) : ∃ e, qEnt ts f x = some (e, (p, true)) := by
  unfold qEnt
  rw [h, qIf_bad]
  dsimp only
  rw [qAft_bad]
  dsimp only
  rw [qBrac_bad]
  exact ⟨_, rfl⟩
theorem rel_ent {f p : Nat} {r : Rs Ln} (h : entR ts f p = some r) : RelR r (qEnt ts f (p, false)) := by
  unfold entR at h
  have em : qMid ts (p, false) = ndP ts 4 [58] (anP ts 1 (qHd ts (p, false))) := rfl
  split at h
  · rename_i hw
    have e1 : qHd ts (p, false) = (p + 1, false) := wdN_yes hw
    rw [e1] at em
    unfold takeR markR at h
    by_cases h1 : (tkAt ts (p + 1)).kd = 1
    · rw [if_pos h1] at h
      rw [anP_yes h1] at em
      dsimp only at h
      by_cases h2 : mkB ts (p + 1 + 1) 58 = true
      · rw [if_pos h2] at h
        rw [mkN_yes h2] at em
        dsimp only at h
        by_cases h3 : (tkAt ts (p + 1 + 1 + 1)).kd = 1
        · rw [if_pos h3] at h
          dsimp only at h
          unfold qEnt
          rw [em, e1, anP_yes h3, anT_yes h1, anT_yes h3]
          split at h
          · cases h
          · rename_i q hx
            injection h with h; subst h
            obtain ⟨c, e⟩ := rel_if hx
            rw [e]
            dsimp only
            rw [qAft_bad]
            dsimp only
            rw [qBrac_bad]
            exact ⟨_, rfl⟩
          rename_i c q hx
          have e : qIf ts f (p + 1 + 1 + 1 + 1, false) = some (c, (q, false)) := rel_if hx
          rw [e]
          dsimp only
          split at h
          · cases h
          · rename_i q2 hy
            injection h with h; subst h
            obtain ⟨a, e⟩ := rel_aft hy
            rw [e]
            dsimp only
            rw [qBrac_bad]
            exact ⟨_, rfl⟩
          rename_i a q2 hy
          have e : qAft ts f (q, false) = some (a, (q2, false)) := rel_aft hy
          rw [e]
          dsimp only
          split at h
          · cases h
          · rename_i q3 hz
            injection h with h; subst h
            obtain ⟨s, e⟩ := rel_brac hz
            rw [e]
            exact ⟨_, rfl⟩
          · rename_i s q3 hz
            injection h with h; subst h
            have e : qBrac ts f (q2, false) = some (s, (q3, false)) := rel_brac hz
            rw [e]
            rfl
        · rw [if_neg h3] at h
          injection h with h; subst h
          exact qEnt_bad (by rw [em, anP_no h3])
      · rw [if_neg h2] at h
        injection h with h; subst h
        exact qEnt_bad (by rw [em, mkN_no h2, anP_bad])
    · rw [if_neg h1] at h
      injection h with h; subst h
      exact qEnt_bad (by rw [em, anP_no h1, ndP_bad, anP_bad])
  · rename_i hw
    injection h with h; subst h
    have e1 : qHd ts (p, false) = (p, true) := wdN_no hw
    exact qEnt_bad (by rw [em, e1, anP_bad, ndP_bad, anP_bad])
theorem qEnt_lt (hk : TkOk ts) {m : Nat} (htl : ∀ p, (tkAt ts p).tx.length ≤ m) {f : Nat} {x y : Pq} {e : Ln} (hx : x.1 < ts.length) (h : qEnt ts f x = some (e, y)) : x.1 ≤ y.1 ∧ y.1 < ts.length := by
  unfold qEnt at h
  have h3 := qMid_lt hk hx
  have h4 := anP_lt hk (k := 1) (by decide) h3.2
  split at h
  · cases h
  rename_i c y1 h5
  have l5 := qIf_lt hk h4.2 h5
  split at h
  · cases h
  rename_i a y2 h6
  have l6 := qAft_lt hk l5.2 h6
  split at h
  · cases h
  rename_i s y3 h7
  have l7 := qBrac_lt hk htl l6.2.1 h7
  injection h with h; injection h with e1 e2; subst e2
  exact ⟨by omega, l7.2.1⟩
theorem rel_lst (hk : TkOk ts) {m : Nat} (htl : ∀ p, (tkAt ts p).tx.length ≤ m) : ∀ (f : Nat) (l : List Ln) (p : Nat) {r : Rs (List Ln)}, p < ts.length → ts.length + 1 ≤ f + p → lstL ts f l p = some r → RelR r (qLstL ts f l (p, false))
  | 0, l, p, r, _, _, h => by rw [lstL] at h; cases h
  | f + 1, l, p, r, hp, hf, h => by
    rw [lstL] at h
    rw [qLstL]
    split at h
    · rename_i hkd
      rw [if_pos (by show (true && decide ((tkAt ts p).kd ≠ 0)) = true; rw [decide_eq_true hkd]; rfl)]
      split at h
      · cases h
      · rename_i q hx
        injection h with h; subst h
        obtain ⟨e, he⟩ := rel_ent hx
        rw [he]
        dsimp only
        obtain ⟨f, rfl⟩ : ∃ n, f = n + 1 := ⟨f - 1, by omega⟩
        rw [qLstL]
        exact ⟨_, if_neg (fun e => (by cases e))⟩
      · rename_i e q hx
        have he : qEnt ts f (p, false) = some (e, (q, false)) := rel_ent hx
        have h1 := entR_lt hk hp hx
        have h2 := qEnt_lt hk htl (x := (p, false)) hp he
        rw [he]
        exact rel_lst hk htl f _ _ h2.2 (by omega) h
    · rename_i hkd
      rw [if_neg (by show ¬ (true && decide ((tkAt ts p).kd ≠ 0)) = true; rw [decide_eq_false hkd]; decide)]
      injection h with h; subst h; rfl
end
end Go.Proofs.YtknfankadlokhaaDoor

namespace Go.Proofs.YtknfankadlokhaaDoor
open Go.RowKit
set_option linter.unusedVariables false
set_option linter.unusedSimpArgs false

section
variable {ts : List Tk}
theorem par_tot (hk : TkOk ts) : ∀ f : Nat, (∀ p, p < ts.length → 4 * (ts.length - p) + 1 ≤ f → ∃ r, oprF ts f p = some r) ∧ (∀ p, p < ts.length → 4 * (ts.length - p) + 2 ≤ f → ∃ r, cnjF ts f p = some r) ∧
    (∀ a p, p < ts.length → 4 * (ts.length - p) + 1 ≤ f → ∃ r, cnjL ts f a p = some r) ∧ (∀ p, p < ts.length → 4 * (ts.length - p) + 3 ≤ f → ∃ r, conF ts f p = some r) ∧ (∀ a p, p < ts.length → 4 * (ts.length - p) + 1 ≤ f → ∃ r, conL ts f a p = some r)
  | 0 => ⟨fun p _ h => by omega, fun p _ h => by omega, fun a p _ h => by omega, fun p _ h => by omega, fun a p _ h => by omega⟩
  | f + 1 => by
    obtain ⟨i1, i2, i3, i4, i5⟩ := par_tot hk f
    obtain ⟨o1, o2, _, o4, _⟩ := opr_lev hk f
    refine ⟨fun p hp hf => ?_, fun p hp hf => ?_, fun a p hp hf => ?_, fun p hp hf => ?_, fun a p hp hf => ?_⟩
    · rw [oprF]
      split
      · rename_i hm
        obtain ⟨r, hr⟩ := i1 _ (hk.mk1 hp hm) (by omega)
        rw [hr]
        cases r <;> exact ⟨_, rfl⟩
      split
      · rename_i hm
        obtain ⟨r, hr⟩ := i4 _ (hk.mk1 hp hm) (by omega)
        rw [hr]
        cases r with
        | bad q => exact ⟨_, rfl⟩
        | ok c q => dsimp only; split <;> exact ⟨_, rfl⟩
      split
      · exact ⟨_, rfl⟩
      split
      · split <;> exact ⟨_, rfl⟩
      split <;> exact ⟨_, rfl⟩
    · rw [cnjF]
      obtain ⟨r, hr⟩ := i1 p hp (by omega)
      rw [hr]
      cases r with
      | bad q => exact ⟨_, rfl⟩
      | ok c q =>
        have := o1 _ _ _ hp hr
        exact i3 _ _ this.2 (by omega)
    · rw [cnjL]
      split
      · rename_i hm
        have hp1 := hk.mk1 hp hm
        obtain ⟨r, hr⟩ := i1 _ hp1 (by omega)
        rw [hr]
        cases r with
        | bad q => exact ⟨_, rfl⟩
        | ok c q =>
          have := o1 _ _ _ hp1 hr
          exact i3 _ _ this.2 (by omega)
      · exact ⟨_, rfl⟩
    · rw [conF]
      obtain ⟨r, hr⟩ := i2 p hp (by omega)
      rw [hr]
      cases r with
      | bad q => exact ⟨_, rfl⟩
      | ok c q =>
        have := o2 _ _ _ hp hr
        exact i5 _ _ this.2 (by omega)
    · rw [conL]
      split
      · rename_i hm
        have hp1 := hk.mk1 hp hm
        obtain ⟨r, hr⟩ := i2 _ hp1 (by omega)
        rw [hr]
        cases r with
        | bad q => exact ⟨_, rfl⟩
        | ok c q =>
          have := o2 _ _ _ hp1 hr
          exact i5 _ _ this.2 (by omega)
      · exact ⟨_, rfl⟩
theorem setsL_tot (hk : TkOk ts) : ∀ (f : Nat) (l : List Sg) (p : Nat), p < ts.length → ts.length - p ≤ f → ∃ r, setsL ts f l p = some r
  | 0, l, p, hp, hf => by omega
  | f + 1, l, p, hp, hf => by
    rw [setsL]
    split
    · exact ⟨_, rfl⟩
    rename_i s q hs
    obtain ⟨h0, h1⟩ := setR_ok hk hp hs
    split
    · rename_i hm
      exact setsL_tot hk f _ _ (hk.mk1 h1 hm) (by omega)
    · exact ⟨_, rfl⟩
theorem setsR_tot (hk : TkOk ts) {f p : Nat} (hp : p < ts.length) (hf : ts.length - p ≤ f) : ∃ r, setsR ts f p = some r := by
  unfold setsR
  split
  · exact ⟨_, rfl⟩
  · exact setsL_tot hk f [] p hp hf
theorem aftL_tot (hk : TkOk ts) : ∀ (f : Nat) (l : List Tx) (p : Nat), p < ts.length → ts.length - p ≤ f → ∃ r, aftL ts f l p = some r
  | 0, l, p, hp, hf => by omega
  | f + 1, l, p, hp, hf => by
    rw [aftL]
    split
    · exact ⟨_, rfl⟩
    rename_i s q hs
    obtain ⟨_, _, rfl, h1⟩ := takeR_ok hk hp (by decide) hs
    split
    · rename_i hm
      exact aftL_tot hk f _ _ (hk.mk1 h1 hm) (by omega)
    · exact ⟨_, rfl⟩
theorem ent_tot (hk : TkOk ts) {f p : Nat} (hp : p < ts.length) (hf : 4 * (ts.length - p) + 4 ≤ f) : ∃ r, entR ts f p = some r := by
  unfold entR
  split
  · rename_i hm
    have hp1 := hk.wd1 hp hm
    split
    · exact ⟨_, rfl⟩
    rename_i nd q1 h1
    obtain ⟨_, _, rfl, l1⟩ := takeR_ok hk hp1 (by decide) h1
    split
    · exact ⟨_, rfl⟩
    rename_i u q2 h2
    obtain ⟨_, rfl, l2⟩ := markR_ok hk l1 h2
    split
    · exact ⟨_, rfl⟩
    rename_i pg q3 h3
    obtain ⟨_, _, rfl, l3⟩ := takeR_ok hk l2 (by decide) h3
    have hif : ∃ r, ifR ts f (p + 1 + 1 + 1 + 1) = some r := by
      unfold ifR
      split
      · rename_i hw
        exact (par_tot hk f).2.2.2.1 _ (hk.wd1 l3 hw) (by omega)
      · exact ⟨_, rfl⟩
    obtain ⟨r4, h4⟩ := hif
    rw [h4]
    cases r4 with
    | bad q => exact ⟨_, rfl⟩
    | ok c q4 =>
    obtain ⟨g4, l4⟩ := ifR_le hk l3 h4
    dsimp only
    have haf : ∃ r, aftR ts f q4 = some r := by
      unfold aftR
      split
      · rename_i hw
        exact aftL_tot hk f _ _ (hk.wd1 l4 hw) (by omega)
      · exact ⟨_, rfl⟩
    obtain ⟨r5, h5⟩ := haf
    rw [h5]
    cases r5 with
    | bad q => exact ⟨_, rfl⟩
    | ok a q5 =>
    obtain ⟨g5, l5⟩ := aftR_le hk l4 h5
    dsimp only
    have hbr : ∃ r, bracR ts f q5 = some r := by
      unfold bracR
      split
      · rename_i hw
        obtain ⟨r, hr⟩ := setsR_tot hk (f := f) (hk.mk1 l5 hw) (by omega)
        rw [hr]
        cases r with
        | bad q => exact ⟨_, rfl⟩
        | ok l q => dsimp only; split <;> exact ⟨_, rfl⟩
      · exact ⟨_, rfl⟩
    obtain ⟨r6, h6⟩ := hbr
    rw [h6]
    cases r6 <;> exact ⟨_, rfl⟩
  · exact ⟨_, rfl⟩
theorem lst_tot (hk : TkOk ts) {m : Nat} (htl : ∀ p, (tkAt ts p).tx.length ≤ m) : ∀ (f : Nat) (l : List Ln) (p : Nat), p < ts.length → 4 * (ts.length - p) + 8 ≤ f → ∃ r, lstL ts f l p = some r
  | 0, l, p, hp, hf => by omega
  | f + 1, l, p, hp, hf => by
    rw [lstL]
    split
    · obtain ⟨r, hr⟩ := ent_tot hk (f := f) hp (by omega)
      rw [hr]
      cases r with
      | bad q => exact ⟨_, rfl⟩
      | ok e q =>
        have h1 := entR_lt hk hp hr
        have he : qEnt ts f (p, false) = some (e, (q, false)) := rel_ent hr
        have h2 := qEnt_lt hk htl (x := (p, false)) hp he
        exact lst_tot hk htl f _ _ h2.2 (by omega)
    · exact ⟨_, rfl⟩
end
/-- the fuel that is enough -/
def fuelN : Nat := 400100
theorem args_tot {s : Sc} (h : ScOk s) : ∃ r, argsP fuelN s = some r := by
  cases s with
  | bad e a => exact ⟨_, rfl⟩
  | ok ts =>
    obtain ⟨hk, hl, htl⟩ := h
    obtain ⟨r, hr⟩ := setsR_tot hk (f := fuelN) hk.pos (by unfold fuelN; omega)
    unfold argsP
    dsimp only
    rw [hr]
    cases r with
    | bad q => exact ⟨_, rfl⟩
    | ok l q => dsimp only; split <;> exact ⟨_, rfl⟩
theorem cond_tot {s : Sc} (h : ScOk s) : ∃ r, condP fuelN s = some r := by
  cases s with
  | bad e a => exact ⟨_, rfl⟩
  | ok ts =>
    obtain ⟨hk, hl, htl⟩ := h
    obtain ⟨r, hr⟩ := (par_tot hk fuelN).2.2.2.1 0 hk.pos (by unfold fuelN; omega)
    unfold condP
    dsimp only
    rw [hr]
    cases r with
    | bad q => exact ⟨_, rfl⟩
    | ok l q =>
      dsimp only
      split
      · split <;> exact ⟨_, rfl⟩
      · exact ⟨_, rfl⟩
theorem list_tot {s : Sc} (h : ScOk s) : ∃ r, listP fuelN s = some r := by
  cases s with
  | bad e a => exact ⟨_, rfl⟩
  | ok ts =>
    obtain ⟨hk, hl, htl⟩ := h
    obtain ⟨r, hr⟩ := lst_tot hk htl fuelN [] 0 hk.pos (by unfold fuelN; omega)
    unfold listP
    dsimp only
    rw [hr]
    cases r with
    | bad q => exact ⟨_, rfl⟩
    | ok l q =>
      dsimp only
      split <;> exact ⟨_, rfl⟩
/-! ## what the specification's functions answer -/
def endP (ts : List Tk) (y : Pq) : Bool := decide (y.2 = true ∨ (tkAt ts y.1).kd ≠ 0)
def rArgs (f : Nat) (s : Sc) : Option (Rt (List Sg)) := match s with
  | .bad e a => some (.bad e a)
  | .ok ts => match qSets ts f (0, false) with
    | none => none
    | some (l, y) => if y.2 = true ∨ (tkAt ts y.1).kd ≠ 0 then some (.bad 2 (tkAt ts y.1).at_) else some (.ok l)
def rCond (f : Nat) (s : Sc) : Option (Rt Cn) := match s with
  | .bad e a => some (.bad e a)
  | .ok ts => match qCon ts f (0, false) with
    | none => none
    | some (c, y) => if y.2 = true ∨ (tkAt ts y.1).kd ≠ 0 then some (.bad 2 (tkAt ts y.1).at_) else if 6 < levC c then some (.bad 9 0) else some (.ok c)
def rList (f : Nat) (s : Sc) : Option (Rt (List Ln)) := match s with
  | .bad e a => some (.bad e a)
  | .ok ts => match qLstL ts f [] (0, false) with
    | none => none
    | some (l, y) => if y.2 = true ∨ (tkAt ts y.1).kd ≠ 0 then some (.bad 2 (tkAt ts y.1).at_) else if checkF l ≠ 0 then some (.bad (checkF l) 0) else some (.ok l)
theorem rArgs_eq {f : Nat} {s : Sc} {r : Rt (List Sg)} (h : argsP f s = some r) : rArgs f s = some r := by
  cases s with
  | bad e a => exact h
  | ok ts =>
    unfold argsP at h
    unfold rArgs
    dsimp only at h ⊢
    split at h
    · cases h
    · rename_i q hx
      obtain ⟨c, e⟩ := rel_sets hx
      rw [e]
      exact (if_pos (.inl rfl)).trans h
    · rename_i l q hx
      have e : qSets ts f (0, false) = some (l, (q, false)) := rel_sets hx
      rw [e]
      dsimp only
      split at h
      · rename_i hk
        rw [if_neg (fun e => e.elim (fun e => (by cases e)) (fun e => e hk))]; exact h
      · rename_i hk
        rw [if_pos (.inr hk)]; exact h
theorem rCond_eq {f : Nat} {s : Sc} {r : Rt Cn} (h : condP f s = some r) : rCond f s = some r := by
  cases s with
  | bad e a => exact h
  | ok ts =>
    unfold condP at h
    unfold rCond
    dsimp only at h ⊢
    split at h
    · cases h
    · rename_i q hx
      obtain ⟨c, e⟩ := (rel_par f).2.2.2.1 _ _ hx
      rw [e]
      exact (if_pos (.inl rfl)).trans h
    · rename_i l q hx
      have e : qCon ts f (0, false) = some (l, (q, false)) := (rel_par f).2.2.2.1 _ _ hx
      rw [e]
      dsimp only
      split at h
      · rename_i hk
        rw [if_neg (fun e => e.elim (fun e => (by cases e)) (fun e => e hk))]; exact h
      · rename_i hk
        rw [if_pos (.inr hk)]; exact h
theorem lstL_end {ts : List Tk} : ∀ (f : Nat) (l : List Ln) (p : Nat) {l' : List Ln} {q : Nat}, lstL ts f l p = some (.ok l' q) → (tkAt ts q).kd = 0
  | 0, l, p, l', q, h => by rw [lstL] at h; cases h
  | f + 1, l, p, l', q, h => by
    rw [lstL] at h
    split at h
    · split at h
      · cases h
      · cases h
      · exact lstL_end f _ _ h
    · rename_i hk
      injection h with h; injection h with h1 h2; subst h2
      exact Decidable.not_not.1 hk
theorem rList_eq {s : Sc} {r : Rt (List Ln)} (hs : ScOk s) (h : listP fuelN s = some r) : rList fuelN s = some r := by
  cases s with
  | bad e a => exact h
  | ok ts =>
    obtain ⟨hk, hl, htl⟩ := hs
    unfold listP at h
    unfold rList
    dsimp only at h ⊢
    have hf : ts.length + 1 ≤ fuelN + 0 := by unfold fuelN; omega
    split at h
    · cases h
    · rename_i q hx
      obtain ⟨c, e⟩ := rel_lst hk htl fuelN [] 0 hk.pos hf hx
      rw [e]
      exact (if_pos (.inl rfl)).trans h
    · rename_i l q hx
      have e : qLstL ts fuelN [] (0, false) = some (l, (q, false)) := rel_lst hk htl fuelN [] 0 hk.pos hf hx
      rw [e]
      dsimp only
      have hk := lstL_end fuelN [] 0 hx
      rw [if_neg (fun e => e.elim (fun e => (by cases e)) (fun e => e hk))]; exact h
theorem scan_ok (x : Tx) : ScOk (scanF x) := by
  cases h : scanF x with
  | bad e a => trivial
  | ok ts => exact scanF_ok h
end Go.Proofs.YtknfankadlokhaaDoor

namespace Go.Proofs.YtknfankadlokhaaDoor
open Go.RowKit
set_option linter.unusedVariables false
set_option linter.unusedSimpArgs false

section
variable {ts : List Tk}
theorem qpar_lev (hk : TkOk ts) : ∀ f : Nat, (∀ x c y, x.1 < ts.length → qOpr ts f x = some (c, y) → levC c + x.1 ≤ y.1 + 1) ∧ (∀ x c y, x.1 < ts.length → qCnj ts f x = some (c, y) → levC c + x.1 ≤ y.1 + 1) ∧
    (∀ a x c y p0, x.1 < ts.length → p0 ≤ x.1 → levC a + p0 ≤ x.1 + 1 → qCnjL ts f a x = some (c, y) → levC c + p0 ≤ y.1 + 1) ∧ (∀ x c y, x.1 < ts.length → qCon ts f x = some (c, y) → levC c + x.1 ≤ y.1 + 1) ∧ (∀ a x c y p0, x.1 < ts.length → p0 ≤ x.1 → levC a + p0 ≤ x.1 + 1 → qConL ts f a x = some (c, y) → levC c + p0 ≤ y.1 + 1)
  | 0 => ⟨fun p c q _ h => (by rw [qOpr] at h; cases h), fun p c q _ h => (by rw [qCnj] at h; cases h), fun a p c q p0 _ _ _ h => (by rw [qCnjL] at h; cases h), fun p c q _ h => (by rw [qCon] at h; cases h), fun a p c q p0 _ _ _ h => (by rw [qConL] at h; cases h)⟩
  | f + 1 => by
    obtain ⟨i1, i2, i3, i4, i5⟩ := qpar_lev hk f
    obtain ⟨j1, j2, j3, j4, j5⟩ := qpar_lt hk f
    have ht := fun (s : Tx) (x : Pq) (hx : x.1 < ts.length) => tkP_lt hk (k := 4) (s := s) (by decide) hx
    have hy := fun (s : Tx) (x : Pq) (h : tkT ts 4 s x = true) => congrArg Prod.fst (tkP_yes h)
    refine ⟨fun x c y hx h => ?_, fun x c y hx h => ?_, fun a x c y p0 hx hp0 ha h => ?_, fun x c y hx h => ?_, fun a x c y p0 hx hp0 ha h => ?_⟩
    · rw [qOpr] at h
      split at h
      · rename_i hm
        have h1 := ht [33] x hx
        have h2 := hy _ _ hm
        dsimp only at h2
        split at h
        · cases h
        · rename_i d z hz
          injection h with h; injection h with h3 h4; subst h3 h4
          have := i1 _ _ _ h1.2 hz
          simp only [levC, levCs]; omega
      split at h
      · rename_i hm _
        have h1 := ht [40] x hx
        split at h
        · cases h
        · rename_i d z hz
          injection h with h; injection h with h3 h4; subst h3 h4
          have h2 := i4 _ _ _ h1.2 hz
          have h6 := j4 _ _ _ h1.2 hz
          have h5 := ndP_lt hk (k := 4) (s := [41]) (by decide) h6.2
          omega
      split at h
      · injection h with h; injection h with h3 h4; subst h3 h4
        simp only [levC, levCs]; omega
      · injection h with h; injection h with h3 h4; subst h3 h4
        have := qSetP_lt hk hx
        simp only [levC, levCs]; omega
    · rw [qCnj] at h
      split at h
      · cases h
      · rename_i d z hz
        have h1 := i1 _ _ _ hx hz
        have h2 := j1 _ _ _ hx hz
        exact i3 _ _ _ _ _ h2.2 h2.1 h1 h
    · rw [qCnjL] at h
      split at h
      · rename_i hm
        have h1 := ht [38] x hx
        have h2 := hy _ _ hm
        dsimp only at h2
        split at h
        · cases h
        · rename_i d z hz
          have h3 := i1 _ _ _ h1.2 hz
          have h4 := j1 _ _ _ h1.2 hz
          exact i3 _ _ _ _ _ h4.2 (by omega) (by simp only [levC, levCs]; omega) h
      · injection h with h; injection h with h3 h4; subst h3 h4; exact ha
    · rw [qCon] at h
      split at h
      · cases h
      · rename_i d z hz
        have h1 := i2 _ _ _ hx hz
        have h2 := j2 _ _ _ hx hz
        exact i5 _ _ _ _ _ h2.2 h2.1 h1 h
    · rw [qConL] at h
      split at h
      · rename_i hm
        have h1 := ht [124] x hx
        have h2 := hy _ _ hm
        dsimp only at h2
        split at h
        · cases h
        · rename_i d z hz
          have h3 := i2 _ _ _ h1.2 hz
          have h4 := j2 _ _ _ h1.2 hz
          exact i5 _ _ _ _ _ h4.2 (by omega) (by simp only [levC, levCs]; omega) h
      · injection h with h; injection h with h3 h4; subst h3 h4; exact ha
theorem qEnt_lev (hk : TkOk ts) {f : Nat} {x y : Pq} {e : Ln} (hx : x.1 < ts.length) (h : qEnt ts f x = some (e, y)) : levC e.cond ≤ ts.length + 1 := by
  unfold qEnt at h
  have h3 := qMid_lt hk hx
  have h4 := anP_lt hk (k := 1) (by decide) h3.2
  split at h
  · cases h
  rename_i c y1 h5
  have l5 : levC c ≤ ts.length + 1 := by
    unfold qIf at h5
    split at h5
    · have h1 := tkP_lt hk (k := 1) (s := wIf) (by decide) h4.2
      have h2 := (qpar_lev hk f).2.2.2.1 _ _ _ h1.2 h5
      have h6 := (qpar_lt hk f).2.2.2.1 _ _ _ h1.2 h5
      omega
    · injection h5 with h5; injection h5 with e1 e2; subst e1
      simp only [levC, levCs]; omega
  split at h
  · cases h
  split at h
  · cases h
  injection h with h; injection h with e1 e2; subst e1
  exact l5
theorem qLstL_lev (hk : TkOk ts) {m : Nat} (htl : ∀ p, (tkAt ts p).tx.length ≤ m) : ∀ (f : Nat) (l : List Ln) (x : Pq) {l' : List Ln} {y : Pq}, x.1 < ts.length → (∀ e ∈ l, levC e.cond ≤ ts.length + 1) → qLstL ts f l x = some (l', y) → y.1 < ts.length ∧ ∀ e ∈ l', levC e.cond ≤ ts.length + 1
  | 0, l, x, l', y, _, _, h => by rw [qLstL] at h; cases h
  | f + 1, l, x, l', y, hx, hl, h => by
    rw [qLstL] at h
    split at h
    · split at h
      · cases h
      · rename_i e z hz
        have h1 := qEnt_lt hk htl hx hz
        have h2 := qEnt_lev hk hx hz
        exact qLstL_lev hk htl f _ _ h1.2 (fun a ha => by
          rcases List.mem_append.1 ha with ha | ha
          · exact hl a ha
          · rw [List.mem_singleton.1 ha]; exact h2) h
    · injection h with h; injection h with e1 e2; subst e1 e2; exact ⟨hx, hl⟩
end
end Go.Proofs.YtknfankadlokhaaDoor
