/- Action servers, in plain words: what the records of the journal make of the goals; what is known of goals stays true. No conditions. -/
import Derived.Test.YthkimkgphaiagaaGreatDoorMP
import Derived.Test.YthkimkgphaiagaaGreatDoorJol

namespace Go.Proofs.YthkimkgphaiagaaGreatDoor
open Go.RowKit
set_option linter.unusedVariables false
set_option linter.unusedSimpArgs false

/-! ## Goals and outcomes -/
abbrev GE := List Gl × List Nat
noncomputable def rep1 (p : GE) (x : List UInt8) : Option GE :=
  match x with
  | [] => none
  | k :: r =>
    if (decG r).2 ≠ 0 then none else
    match findG p.1 (decG r).1.c (decG r).1.n with
    | none => if k = 114 ∧ p.1.length < 64 ∧ (decG r).1.rs = [] ∧ ((decG r).1.st = 1 ∨ ((decG r).1.st = 7 ∧ (decG r).1.en = (decG r).1.at_)) then some (p.1 ++ [(decG r).1], p.2) else none
    | some i => if k = 101 ∧ (decG r).1.rq = [] ∧ (4 ≤ (decG r).1.st ∧ (decG r).1.st ≤ 6) ∧ (gAt p.1 i).st = 1 ∧ (gAt p.1 i).at_ = (decG r).1.at_ then
        some (p.1.set i (endG (gAt p.1 i) (decG r).1.st (decG r).1.en (decG r).1.rs), p.2 ++ [i]) else none
noncomputable def repA : GE → List (List UInt8) → Option GE
  | p, [] => some p
  | p, x :: l => match rep1 p x with
    | none => none
    | some q => repA q l
theorem replayS_rep (s : Sv) (x : List UInt8) : replayS s x = (rep1 (s.l, s.ends) x).map fun p => { s with l := p.1, ends := p.2 } := by
  unfold replayS rep1
  cases x with
  | nil => rfl
  | cons k r =>
    dsimp only
    by_cases hd : (decG r).2 ≠ 0
    · rw [if_pos hd, if_pos hd]; rfl
    · rw [if_neg hd, if_neg hd]
      cases hf : findG s.l (decG r).1.c (decG r).1.n with
      | none => dsimp only; split <;> rfl
      | some i => dsimp only; split <;> rfl
theorem replayAll_rep : ∀ (l : List (List UInt8)) (s : Sv), replayAll s l = (repA (s.l, s.ends) l).map fun p => { s with l := p.1, ends := p.2 }
  | [], s => rfl
  | x :: l, s => by
    rw [replayAll, replayS_rep, repA]
    cases hq : rep1 (s.l, s.ends) x with
    | none => rfl
    | some q =>
      dsimp only [Option.map]
      rw [replayAll_rep l]
      rfl
theorem repA_append : ∀ (l r : List (List UInt8)) (p : GE), repA p (l ++ r) = (repA p l).bind fun q => repA q r
  | [], r, p => rfl
  | x :: l, r, p => by
    rw [List.cons_append, repA, repA]
    cases rep1 p x with
    | none => rfl
    | some q => exact repA_append l r q
theorem repA_take {L : List (List UInt8)} {p q : GE} (h : repA p L = some q) (k : Nat) : ∃ r, repA p (L.take k) = some r ∧ repA r (L.drop k) = some q := by
  rw [← List.take_append_drop k L, repA_append] at h
  cases hq : repA p (L.take k) with
  | none => rw [hq] at h; cases h
  | some r => rw [hq] at h; exact ⟨r, rfl, h⟩
theorem repA_snoc {L : List (List UInt8)} {p q r : GE} {x : List UInt8} (h : repA p L = some q) (hx : rep1 q x = some r) : repA p (L ++ [x]) = some r := by
  rw [repA_append, h]
  show repA q [x] = some r
  rw [repA, hx]; rfl

/-! ## What holds of the goals of any server -/
structure GI (p : GE) : Prop where
  len : p.1.length ≤ 64
  c : ∀ i, i < p.1.length → 1 ≤ (gAt p.1 i).c ∧ (gAt p.1 i).c ≤ 2147483647
  n : ∀ i, i < p.1.length → 1 ≤ (gAt p.1 i).n ∧ (gAt p.1 i).n ≤ 2147483647
  a : ∀ i, i < p.1.length → 0 ≤ (gAt p.1 i).at_ ∧ (gAt p.1 i).at_ ≤ 1099511627776
  en : ∀ i, i < p.1.length → 0 ≤ (gAt p.1 i).en ∧ (gAt p.1 i).en ≤ 1099511627776
  dist : ∀ i j, i < p.1.length → j < p.1.length → (gAt p.1 i).c = (gAt p.1 j).c → (gAt p.1 i).n = (gAt p.1 j).n → i = j
  ends : ∀ i, i ∈ p.2 ↔ i < p.1.length ∧ 4 ≤ (gAt p.1 i).st ∧ (gAt p.1 i).st ≤ 6
  nodup : p.2.Nodup
theorem GI.nil : GI ([], []) := ⟨by decide, fun i h => by simp at h, fun i h => by simp at h, fun i h => by simp at h, fun i h => by simp at h, fun i j h => by simp at h, fun i => by simp, List.nodup_nil⟩
theorem findG_noid {l : List Gl} {c n : Int} (h : findG l c n = none) : ∀ k, k < l.length → ¬ ((gAt l k).c = c ∧ (gAt l k).n = n) := by
  intro k hk h2
  unfold findG at h
  rw [List.findIdx?_eq_none_iff] at h
  have := h (gAt l k) (gAt_mem hk)
  rw [h2.1, h2.2] at this
  simp at this
theorem GI.find {p : GE} (h : GI p) {i : Nat} (hi : i < p.1.length) : findG p.1 (gAt p.1 i).c (gAt p.1 i).n = some i := by
  refine findG_at (gAt_some hi) ⟨rfl, rfl⟩ (fun j y hj hy h2 => ?_)
  have hj2 : j < p.1.length := by omega
  have e : y = gAt p.1 j := by rw [gAt_some hj2] at hy; injection hy with hy; exact hy.symm
  subst e
  have := h.dist j i hj2 hi h2.1 h2.2
  omega
/-- a goal is added -/
theorem GI.add {l : List Gl} {e : List Nat} (h : GI (l, e)) {g : Gl} (hl : l.length < 64) (hc : 1 ≤ g.c ∧ g.c ≤ 2147483647) (hn : 1 ≤ g.n ∧ g.n ≤ 2147483647) (ha : 0 ≤ g.at_ ∧ g.at_ ≤ 1099511627776) (he : 0 ≤ g.en ∧ g.en ≤ 1099511627776) (hf : findG l g.c g.n = none) (hs : g.st < 4 ∨ 6 < g.st) : GI (l ++ [g], e) := by
  have hlen : (l ++ [g]).length = l.length + 1 := by rw [List.length_append]; rfl
  have hg : ∀ k, k < l.length + 1 → gAt (l ++ [g]) k = if k = l.length then g else gAt l k := fun k hk => gAt_snoc l g k hk
  have hno := findG_noid hf
  refine ⟨by dsimp only; omega, ?_, ?_, ?_, ?_, ?_, ?_, h.nodup⟩
  · intro i hi; dsimp only at hi ⊢; rw [hlen] at hi; rw [hg i hi]; split
    · exact hc
    · exact h.c i (by dsimp only; omega)
  · intro i hi; dsimp only at hi ⊢; rw [hlen] at hi; rw [hg i hi]; split
    · exact hn
    · exact h.n i (by dsimp only; omega)
  · intro i hi; dsimp only at hi ⊢; rw [hlen] at hi; rw [hg i hi]; split
    · exact ha
    · exact h.a i (by dsimp only; omega)
  · intro i hi; dsimp only at hi ⊢; rw [hlen] at hi; rw [hg i hi]; split
    · exact he
    · exact h.en i (by dsimp only; omega)
  · intro i j hi hj
    dsimp only at hi hj ⊢
    rw [hlen] at hi hj
    rw [hg i hi, hg j hj]
    by_cases h1 : i = l.length
    · by_cases h2 : j = l.length
      · intros; omega
      · rw [if_pos h1, if_neg h2]
        intro e1 e2
        exact absurd ⟨e1.symm, e2.symm⟩ (hno j (by omega))
    · by_cases h2 : j = l.length
      · rw [if_neg h1, if_pos h2]
        intro e1 e2
        exact absurd ⟨e1, e2⟩ (hno i (by omega))
      · rw [if_neg h1, if_neg h2]
        exact h.dist i j (by dsimp only; omega) (by dsimp only; omega)
  · intro i
    dsimp only
    rw [hlen, h.ends i]
    dsimp only
    constructor
    · rintro ⟨h1, h2⟩
      rw [hg i (by omega), if_neg (by omega)]
      exact ⟨by omega, h2⟩
    · rintro ⟨h1, h2⟩
      rw [hg i h1] at h2
      split at h2
      · omega
      · exact ⟨by omega, h2⟩
/-- a goal ends -/
theorem GI.fin {l : List Gl} {e : List Nat} (h : GI (l, e)) {i : Nat} (hi : i < l.length) (hs : (gAt l i).st < 4) {st en : Int} {rs : List UInt8} (hst : 4 ≤ st ∧ st ≤ 6) (he : 0 ≤ en ∧ en ≤ 1099511627776) : GI (l.set i (endG (gAt l i) st en rs), e ++ [i]) := by
  have hg := gAt_set hi (endG (gAt l i) st en rs)
  have hni : i ∉ e := fun hm => by have := (h.ends i).1 hm; dsimp only at this; omega
  refine ⟨by dsimp only; rw [List.length_set]; exact h.len, ?_, ?_, ?_, ?_, ?_, ?_, ?_⟩
  · intro k hk; dsimp only at hk ⊢; rw [List.length_set] at hk; rw [hg]; split
    · exact h.c i hi
    · exact h.c k hk
  · intro k hk; dsimp only at hk ⊢; rw [List.length_set] at hk; rw [hg]; split
    · exact h.n i hi
    · exact h.n k hk
  · intro k hk; dsimp only at hk ⊢; rw [List.length_set] at hk; rw [hg]; split
    · exact h.a i hi
    · exact h.a k hk
  · intro k hk; dsimp only at hk ⊢; rw [List.length_set] at hk; rw [hg]; split
    · exact he
    · exact h.en k hk
  · intro k m hk hm
    dsimp only at hk hm ⊢
    rw [List.length_set] at hk hm
    have e1 : ∀ k, (gAt (l.set i (endG (gAt l i) st en rs)) k).c = (gAt l k).c ∧ (gAt (l.set i (endG (gAt l i) st en rs)) k).n = (gAt l k).n := by
      intro k; rw [hg]; split
      · rename_i e; subst e; exact ⟨rfl, rfl⟩
      · exact ⟨rfl, rfl⟩
    rw [(e1 k).1, (e1 k).2, (e1 m).1, (e1 m).2]
    exact h.dist k m hk hm
  · intro k
    dsimp only
    rw [List.mem_append, List.mem_singleton, h.ends k, List.length_set, hg]
    dsimp only
    constructor
    · rintro (⟨h1, h2⟩ | rfl)
      · rw [if_neg (by rintro rfl; omega)]; exact ⟨h1, h2⟩
      · rw [if_pos rfl]; exact ⟨hi, hst⟩
    · rintro ⟨h1, h2⟩
      by_cases hk : k = i
      · exact .inr hk
      · rw [if_neg hk] at h2; exact .inl ⟨h1, h2⟩
  · dsimp only
    rw [List.nodup_append]
    refine ⟨h.nodup, by simp, fun a ha b hb => ?_⟩
    rw [List.mem_singleton] at hb
    subst hb
    rintro rfl
    exact hni ha
/-- states of goals that have not ended change -/
theorem GI.turn {l l' : List Gl} {e : List Nat} (h : GI (l, e)) (hl : l'.length = l.length) (hg : ∀ i, i < l.length → gAt l' i = gAt l i ∨ ((gAt l i).st < 4 ∧ ∃ t, t < 4 ∧ gAt l' i = { gAt l i with st := t })) : GI (l', e) := by
  have key : ∀ i, i < l.length → (gAt l' i).c = (gAt l i).c ∧ (gAt l' i).n = (gAt l i).n ∧ (gAt l' i).at_ = (gAt l i).at_ ∧ (gAt l' i).en = (gAt l i).en ∧ ((gAt l' i).st = (gAt l i).st ∨ ((gAt l i).st < 4 ∧ (gAt l' i).st < 4)) := by
    intro i hi
    rcases hg i hi with h1 | ⟨h1, t, h2, h3⟩
    · rw [h1]; exact ⟨rfl, rfl, rfl, rfl, .inl rfl⟩
    · rw [h3]; exact ⟨rfl, rfl, rfl, rfl, .inr ⟨h1, h2⟩⟩
  refine ⟨by dsimp only; rw [hl]; exact h.len, ?_, ?_, ?_, ?_, ?_, ?_, h.nodup⟩
  · intro i hi; dsimp only at hi ⊢; rw [hl] at hi; rw [(key i hi).1]; exact h.c i hi
  · intro i hi; dsimp only at hi ⊢; rw [hl] at hi; rw [(key i hi).2.1]; exact h.n i hi
  · intro i hi; dsimp only at hi ⊢; rw [hl] at hi; rw [(key i hi).2.2.1]; exact h.a i hi
  · intro i hi; dsimp only at hi ⊢; rw [hl] at hi; rw [(key i hi).2.2.2.1]; exact h.en i hi
  · intro i j hi hj
    dsimp only at hi hj ⊢
    rw [hl] at hi hj
    rw [(key i hi).1, (key i hi).2.1, (key j hj).1, (key j hj).2.1]
    exact h.dist i j hi hj
  · intro i
    dsimp only
    rw [h.ends i, hl]
    dsimp only
    constructor
    · rintro ⟨h1, h2⟩
      have := (key i h1).2.2.2.2
      exact ⟨h1, by omega⟩
    · rintro ⟨h1, h2⟩
      have := (key i h1).2.2.2.2
      exact ⟨h1, by omega⟩
theorem dec_of {r : List UInt8} (h : (decG r).2 = 0) : Cod (decG r).1 := by
  unfold decG at h ⊢
  split
  · rename_i hx
    rw [dif_pos hx] at h
    exact (Classical.choose_spec hx).1
  · rename_i hx
    rw [dif_neg hx] at h
    dsimp only at h
    split at h <;> cases h
theorem GI.rep1 {p q : GE} (h : GI p) {x : List UInt8} (hr : rep1 p x = some q) : GI q := by
  obtain ⟨l, e⟩ := p
  unfold Go.Proofs.YthkimkgphaiagaaGreatDoor.rep1 at hr
  split at hr
  · cases hr
  split at hr
  · cases hr
  rename_i hd
  have hcod := dec_of (Decidable.not_not.1 hd)
  split at hr
  · rename_i hf
    split at hr
    · rename_i hA
      injection hr with hr; subst hr
      exact h.add hA.2.1 hcod.c hcod.n hcod.a hcod.en hf (by omega)
    · cases hr
  · rename_i i hf
    split at hr
    · rename_i hA
      injection hr with hr; subst hr
      exact h.fin (findG_lt hf) (by have := hA.2.2.2.1; dsimp only at this ⊢; omega) hA.2.2.1 hcod.en
    · cases hr
theorem GI.repA : ∀ {L : List (List UInt8)} {p q : GE}, GI p → repA p L = some q → GI q
  | [], p, q, h, hr => by injection hr with hr; subst hr; exact h
  | x :: L, p, q, h, hr => by
    rw [Go.Proofs.YthkimkgphaiagaaGreatDoor.repA] at hr
    cases hq : Go.Proofs.YthkimkgphaiagaaGreatDoor.rep1 p x with
    | none => rw [hq] at hr; cases hr
    | some r => rw [hq] at hr; exact (h.rep1 hq).repA hr

/-! ## Goals change only forward -/
structure Up (l l' : List Gl) : Prop where
  len : l.length ≤ l'.length
  id : ∀ i, i < l.length → (gAt l' i).c = (gAt l i).c ∧ (gAt l' i).n = (gAt l i).n
  fin : ∀ i, i < l.length → 4 ≤ (gAt l i).st → gAt l' i = gAt l i
  rej : ∀ i, i < l.length → ((gAt l' i).st = 7 ↔ (gAt l i).st = 7)
theorem Up.refl (l : List Gl) : Up l l := ⟨Nat.le_refl _, fun i _ => ⟨rfl, rfl⟩, fun i _ _ => rfl, fun i _ => Iff.rfl⟩
theorem Up.trans {a b c : List Gl} (h : Up a b) (k : Up b c) : Up a c :=
  ⟨Nat.le_trans h.len k.len, fun i hi => ⟨(k.id i (Nat.lt_of_lt_of_le hi h.len)).1.trans (h.id i hi).1, (k.id i (Nat.lt_of_lt_of_le hi h.len)).2.trans (h.id i hi).2⟩,
   fun i hi h4 => by rw [k.fin i (Nat.lt_of_lt_of_le hi h.len) (by rw [h.fin i hi h4]; exact h4), h.fin i hi h4], fun i hi => (k.rej i (Nat.lt_of_lt_of_le hi h.len)).trans (h.rej i hi)⟩
theorem Up.add (l : List Gl) (g : Gl) : Up l (l ++ [g]) := by
  have hg : ∀ k, k < l.length → gAt (l ++ [g]) k = gAt l k := fun k hk => by rw [gAt_snoc l g k (by omega), if_neg (by omega)]
  exact ⟨by rw [List.length_append]; omega, fun i hi => by rw [hg i hi]; exact ⟨rfl, rfl⟩, fun i hi _ => hg i hi, fun i hi => by rw [hg i hi]⟩
theorem Up.set {l : List Gl} {i : Nat} (hi : i < l.length) (hs : (gAt l i).st < 4) {g : Gl} (hc : g.c = (gAt l i).c) (hn : g.n = (gAt l i).n) (h7 : g.st ≠ 7) : Up l (l.set i g) := by
  have hg := gAt_set hi g
  refine ⟨by rw [List.length_set]; exact Nat.le_refl _, fun k hk => ?_, fun k hk h4 => ?_, fun k hk => ?_⟩
  · rw [hg]; split
    · rename_i e; subst e; exact ⟨hc, hn⟩
    · exact ⟨rfl, rfl⟩
  · rw [hg, if_neg]; rintro rfl; omega
  · rw [hg]; split
    · rename_i e; subst e; constructor
      · intro h; exact absurd h h7
      · intro h; omega
    · exact Iff.rfl
theorem Up.rep1 {p q : GE} {x : List UInt8} (hr : rep1 p x = some q) : Up p.1 q.1 := by
  obtain ⟨l, e⟩ := p
  unfold Go.Proofs.YthkimkgphaiagaaGreatDoor.rep1 at hr
  split at hr
  · cases hr
  split at hr
  · cases hr
  split at hr
  · split at hr
    · injection hr with hr; subst hr; exact Up.add _ _
    · cases hr
  · rename_i i hf
    split at hr
    · rename_i hA
      injection hr with hr; subst hr
      have := hA.2.2.2.1
      have h3 := hA.2.2.1
      dsimp only at this ⊢
      exact Up.set (findG_lt hf) (by omega) rfl rfl (by show (decG _).1.st ≠ 7; omega)
    · cases hr
theorem Up.repA : ∀ {L : List (List UInt8)} {p q : GE}, repA p L = some q → Up p.1 q.1
  | [], p, q, hr => by injection hr with hr; subst hr; exact Up.refl _
  | x :: L, p, q, hr => by
    rw [Go.Proofs.YthkimkgphaiagaaGreatDoor.repA] at hr
    cases hq : Go.Proofs.YthkimkgphaiagaaGreatDoor.rep1 p x with
    | none => rw [hq] at hr; cases hr
    | some r => rw [hq] at hr; exact (Up.rep1 hq).trans (Up.repA hr)
/-! ## What is known of goals -/
structure Kn (ids : List (Int × Int)) (acc : List Bool) (fin : List Gl) (l : List Gl) : Prop where
  len : ids.length = acc.length
  dec : ∀ (j : Nat) (x : Int × Int) (b : Bool), ids[j]? = some x → acc[j]? = some b → ∃ i, i < l.length ∧ (gAt l i).c = x.1 ∧ (gAt l i).n = x.2 ∧ (b = true ↔ (gAt l i).st ≠ 7)
  fin : ∀ g ∈ fin, ∃ i, i < l.length ∧ gAt l i = g ∧ 4 ≤ g.st
theorem Kn.up {ids : List (Int × Int)} {acc : List Bool} {fin l l' : List Gl} (h : Kn ids acc fin l) (k : Up l l') : Kn ids acc fin l' := by
  refine ⟨h.len, fun j x b h1 h2 => ?_, fun g hg => ?_⟩
  · obtain ⟨i, h3, h4, h5, h6⟩ := h.dec j x b h1 h2
    refine ⟨i, Nat.lt_of_lt_of_le h3 k.len, (k.id i h3).1.trans h4, (k.id i h3).2.trans h5, h6.trans ?_⟩
    rw [Ne, Ne, k.rej i h3]
  · obtain ⟨i, h3, h4, h5⟩ := h.fin g hg
    exact ⟨i, Nat.lt_of_lt_of_le h3 k.len, by rw [k.fin i h3 (by rw [h4]; exact h5), h4], h5⟩
theorem Kn.nil (l : List Gl) : Kn [] [] [] l := ⟨rfl, fun j x b h => by simp at h, fun g hg => by simp at hg⟩
/-- as the journal tells a goal: what has not ended waits -/
def nrm (g : Gl) : Gl := if g.st = 2 ∨ g.st = 3 then { g with st := 1 } else g
theorem nrm_at {l : List Gl} {i : Nat} (hi : i < l.length) : gAt (l.map nrm) i = nrm (gAt l i) := by
  unfold gAt
  rw [List.getD_eq_getElem?_getD, List.getD_eq_getElem?_getD, List.getElem?_map, List.getElem?_eq_getElem hi]; rfl
theorem nrm_cases (g : Gl) : nrm g = g ∨ (g.st < 4 ∧ nrm g = { g with st := 1 }) := by
  unfold nrm; split
  · exact .inr ⟨by omega, rfl⟩
  · exact .inl rfl
theorem Up.nrm (l : List Gl) : Up l (l.map nrm) ∧ Up (l.map nrm) l := by
  have hl : (l.map Go.Proofs.YthkimkgphaiagaaGreatDoor.nrm).length = l.length := List.length_map ..
  have key : ∀ i, i < l.length → (gAt (l.map Go.Proofs.YthkimkgphaiagaaGreatDoor.nrm) i).c = (gAt l i).c ∧ (gAt (l.map Go.Proofs.YthkimkgphaiagaaGreatDoor.nrm) i).n = (gAt l i).n ∧ (4 ≤ (gAt l i).st → gAt (l.map Go.Proofs.YthkimkgphaiagaaGreatDoor.nrm) i = gAt l i) ∧ (4 ≤ (gAt (l.map Go.Proofs.YthkimkgphaiagaaGreatDoor.nrm) i).st → gAt (l.map Go.Proofs.YthkimkgphaiagaaGreatDoor.nrm) i = gAt l i) ∧ ((gAt (l.map Go.Proofs.YthkimkgphaiagaaGreatDoor.nrm) i).st = 7 ↔ (gAt l i).st = 7) := by
    intro i hi
    rw [nrm_at hi]
    rcases nrm_cases (gAt l i) with h | ⟨h1, h⟩
    · rw [h]; exact ⟨rfl, rfl, fun _ => rfl, fun _ => rfl, Iff.rfl⟩
    · rw [h]
      refine ⟨rfl, rfl, fun h4 => by omega, fun h4 => ?_, ?_⟩
      · have h4 : (4 : Int) ≤ 1 := h4; omega
      · show (1 : Int) = 7 ↔ _; omega
  refine ⟨⟨by rw [hl]; exact Nat.le_refl _, fun i hi => ⟨(key i hi).1, (key i hi).2.1⟩, fun i hi => (key i hi).2.2.1, fun i hi => (key i hi).2.2.2.2⟩, ⟨by rw [hl]; exact Nat.le_refl _, fun i hi => ?_, fun i hi h4 => ?_, fun i hi => ?_⟩⟩
  · rw [hl] at hi; exact ⟨(key i hi).1.symm, (key i hi).2.1.symm⟩
  · rw [hl] at hi; exact ((key i hi).2.2.2.1 h4).symm
  · rw [hl] at hi; exact ((key i hi).2.2.2.2).symm
theorem GI.nrm {l : List Gl} {e : List Nat} (h : GI (l, e)) : GI (l.map nrm, e) :=
  h.turn (List.length_map ..) fun i hi => by
    rw [nrm_at hi]
    rcases nrm_cases (gAt l i) with h1 | ⟨h1, h2⟩
    · exact .inl h1
    · exact .inr ⟨h1, 1, by omega, h2⟩
/-- what the journal tells: no goal is executed -/
def Calmd (l : List Gl) : Prop := ∀ i, i < l.length → (gAt l i).st = 1 ∨ (4 ≤ (gAt l i).st ∧ (gAt l i).st ≤ 7)
theorem Calmd.rep1 {p q : GE} (h : Calmd p.1) {x : List UInt8} (hr : rep1 p x = some q) : Calmd q.1 := by
  obtain ⟨l, e⟩ := p
  unfold Go.Proofs.YthkimkgphaiagaaGreatDoor.rep1 at hr
  split at hr
  · cases hr
  split at hr
  · cases hr
  split at hr
  · split at hr
    · rename_i hA
      injection hr with hr; subst hr
      intro i hi
      dsimp only at hi ⊢
      rw [List.length_append, List.length_singleton] at hi
      rw [gAt_snoc l _ i hi]
      split
      · have := hA.2.2.2; omega
      · exact h i (by dsimp only; omega)
    · cases hr
  · rename_i k hf
    split at hr
    · rename_i hA
      injection hr with hr; subst hr
      intro i hi
      dsimp only at hi ⊢
      rw [List.length_set] at hi
      rw [gAt_set (findG_lt hf)]
      split
      · have := hA.2.2.1
        show (decG _).1.st = 1 ∨ (4 ≤ (decG _).1.st ∧ (decG _).1.st ≤ 7)
        omega
      · exact h i hi
    · cases hr
theorem Calmd.repA : ∀ {L : List (List UInt8)} {p q : GE}, Calmd p.1 → repA p L = some q → Calmd q.1
  | [], p, q, h, hr => by injection hr with hr; subst hr; exact h
  | x :: L, p, q, h, hr => by
    rw [Go.Proofs.YthkimkgphaiagaaGreatDoor.repA] at hr
    cases hq : Go.Proofs.YthkimkgphaiagaaGreatDoor.rep1 p x with
    | none => rw [hq] at hr; cases hr
    | some r => rw [hq] at hr; exact (h.rep1 hq).repA hr
theorem Calmd.nrm {l : List Gl} (h : Calmd l) : l.map nrm = l := by
  apply List.ext_getElem?
  intro i
  rw [List.getElem?_map]
  by_cases hi : i < l.length
  · have h1 := h i hi
    have e : gAt l i = l[i] := by unfold gAt; rw [List.getD_eq_getElem?_getD, List.getElem?_eq_getElem hi]; rfl
    rw [e] at h1
    rw [List.getElem?_eq_getElem hi]
    show some (Go.Proofs.YthkimkgphaiagaaGreatDoor.nrm l[i]) = some l[i]
    unfold Go.Proofs.YthkimkgphaiagaaGreatDoor.nrm
    rw [if_neg (by omega)]
  · rw [List.getElem?_eq_none (by omega)]; rfl
end Go.Proofs.YthkimkgphaiagaaGreatDoor
