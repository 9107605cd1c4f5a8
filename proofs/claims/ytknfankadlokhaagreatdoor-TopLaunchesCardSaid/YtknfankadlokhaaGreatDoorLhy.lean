/- The order of starting of a description without an error: every node once, behind those it depends on. No conditions. -/
import Derived.Test.YtknfankadlokhaaGreatDoorLhw

namespace Go.Proofs.YtknfankadlokhaaGreatDoor
open Go.RowKit
set_option linter.unusedVariables false
set_option linter.unusedSimpArgs false

theorem start_nodup (l : List Ln) : (startF l).Nodup := going_ind (p := fun ns => ns.Nodup) (by simp) (fun ns x h hx => nodup_snoc h (ready_has (List.find?_some hx)).1)
theorem start_sub (l : List Ln) : ∀ n ∈ startF l, n ∈ nodesF l := going_ind (p := fun ns => ∀ n ∈ ns, n ∈ nodesF l) (by simp) (fun ns x h hx n hn => by
  rcases List.mem_append.1 hn with hn | hn
  · exact h n hn
  · rw [List.mem_singleton] at hn; subst hn
    exact List.mem_map.2 ⟨x, List.mem_of_find?_eq_some hx, rfl⟩)
theorem start_full {l : List Ln} (h : checkF l = 0) : (startF l).length = l.length := by
  have := start_len l
  have := (check_parts h).2.2
  omega
theorem start_all {l : List Ln} (h : checkF l = 0) {n : Tx} (hn : n ∈ nodesF l) : n ∈ startF l := by
  by_cases hm : n ∈ startF l
  · exact hm
  · exfalso
    have h1 : (n :: startF l).Nodup := List.nodup_cons.2 ⟨hm, start_nodup l⟩
    have h2 := nodup_len h1 (m := nodesF l) (fun m hm => by
      rcases List.mem_cons.1 hm with rfl | hm
      · exact hn
      · exact start_sub l m hm)
    have := start_full h
    unfold nodesF at h2
    rw [List.length_map, List.length_cons] at h2
    omega
/-- two entries with one node are one entry -/
theorem entry_one {l : List Ln} (h : checkF l = 0) {i j : Nat} {x y : Ln} (hx : l[i]? = some x) (hy : l[j]? = some y) (he : x.node = y.node) : x = y := by
  have key : ∀ {i j : Nat} {x y : Ln}, l[i]? = some x → l[j]? = some y → x.node = y.node → ¬ i < j := by
    intro i j x y hx hy he hij
    obtain ⟨_, hall, _⟩ := check_parts h
    obtain ⟨_, _, hn, _⟩ := entry_parts hy (hall j (List.getElem?_eq_some_iff.1 hy).1)
    have : 0 ≤ idxF (l.take j) y.node := idxF_mem.2 (List.mem_map.2 ⟨x, List.mem_of_getElem? (i := i) (by rw [List.getElem?_take, if_pos hij]; exact hx), he⟩)
    omega
  have h1 := key hx hy he
  have h2 := key hy hx he.symm
  have : i = j := by omega
  subst this
  rw [hx] at hy; injection hy
/-- where a string stands in a list without doubles -/
theorem place_at {ns : List Tx} (hd : ns.Nodup) {k : Nat} {n : Tx} (hk : ns[k]? = some n) : idxP (fun y => decide (y = n)) ns = k := by
  refine idxP_hit hk (decide_eq_true rfl) (fun j y hj hy => decide_eq_false (fun e => ?_))
  subst e
  have h1 := (List.getElem?_eq_some_iff.1 hk)
  have h2 := (List.getElem?_eq_some_iff.1 hy)
  rw [List.nodup_iff_pairwise_ne, List.pairwise_iff_getElem] at hd
  exact hd j k h2.1 h1.1 hj (by rw [h1.2, h2.2])
/-- an entry's place in the order, and the places of what it comes after -/
theorem order_before {l : List Ln} (h : checkF l = 0) {i : Nat} {x : Ln} (hx : l[i]? = some x) : ∃ k : Nat, (startF l)[k]? = some x.node ∧ idxP (fun y => decide (y = x.node)) (startF l) = k ∧
    ∀ n ∈ x.after, ∃ m : Nat, idxP (fun y => decide (y = n)) (startF l) = m ∧ m < k ∧ (startF l)[m]? = some n := by
  have hm : x.node ∈ startF l := start_all h (List.mem_map.2 ⟨x, List.mem_of_getElem? hx, rfl⟩)
  obtain ⟨k, hk⟩ := List.getElem?_of_mem hm
  refine ⟨k, hk, place_at (start_nodup l) hk, fun n hn => ?_⟩
  obtain ⟨y, hy, e⟩ := start_stage l k _ hk
  obtain ⟨j, hj⟩ := List.getElem?_of_mem (List.mem_of_find?_eq_some hy)
  have hxy := entry_one h hx hj e
  subst hxy
  have hin := (ready_has (List.find?_some hy)).2 n hn
  obtain ⟨m, hm⟩ := List.getElem?_of_mem (hasF_mem.1 hin)
  rw [List.getElem?_take] at hm
  split at hm
  · rename_i hmk
    exact ⟨m, place_at (start_nodup l) hm, hmk, hm⟩
  · cases hm
theorem rev_at {α : Type} {l : List α} {k : Nat} {x : α} (hk : l[k]? = some x) : l.reverse[l.length - 1 - k]? = some x := by
  have hl := (List.getElem?_eq_some_iff.1 hk).1
  rw [List.getElem?_reverse (by omega), show l.length - 1 - (l.length - 1 - k) = k by omega]; exact hk

/-! ## What depends on what: in steps, and found by the two searches -/

inductive Dep (l : List Ln) : Tx → Tx → Prop where
  | one {a b : Tx} (h : b ∈ aftOf l a) : Dep l a b
  | step {a m b : Tx} (h : m ∈ aftOf l a) (k : Dep l m b) : Dep l a b
theorem Dep.trans {l : List Ln} {a b c : Tx} (h : Dep l a b) (k : Dep l b c) : Dep l a c := by
  induction h with
  | one h => exact .step h k
  | step h _ ih => exact .step h (ih k)
theorem Dep.snoc {l : List Ln} {a b c : Tx} (h : Dep l a b) (k : c ∈ aftOf l b) : Dep l a c := h.trans (.one k)
/-- a set that holds what its members come after holds all that they depend on -/
theorem Dep.inside {l : List Ln} {t : List Tx} (hc : ∀ x ∈ t, ∀ n ∈ aftOf l x, n ∈ t) {a b : Tx} (h : Dep l a b) : (∀ n ∈ aftOf l a, n ∈ t) → b ∈ t := by
  induction h with
  | one h => exact fun k => k _ h
  | step h _ ih => exact fun k => ih (hc _ (k _ h))
theorem addF_mem : ∀ (a t : List Tx) (n : Tx), n ∈ addF t a ↔ n ∈ t ∨ n ∈ a
  | [], t, n => by simp [addF]
  | m :: a, t, n => by
    have e : addF t (m :: a) = addF (if hasF t m = true then t else t ++ [m]) a := rfl
    rw [e, addF_mem a]
    split
    · rename_i hm
      have := hasF_mem.1 hm
      constructor
      · rintro (h | h)
        · exact .inl h
        · exact .inr (List.mem_cons_of_mem _ h)
      · rintro (h | h)
        · exact .inl h
        · rcases List.mem_cons.1 h with rfl | h
          · exact .inl this
          · exact .inr h
    · simp only [List.mem_append, List.mem_singleton, List.mem_cons, List.mem_nil_iff, or_false]
      constructor
      · rintro ((h | h) | h)
        · exact .inl h
        · exact .inr (.inl h)
        · exact .inr (.inr h)
      · rintro (h | h | h)
        · exact .inl (.inl h)
        · exact .inl (.inr h)
        · exact .inr h
theorem aft_nodes {l : List Ln} (h : checkF l = 0) (x : Tx) : ∀ n ∈ aftOf l x, n ∈ nodesF l := by
  intro n hn
  unfold aftOf at hn
  split at hn
  · rename_i e he
    exact (after_todo h (List.mem_of_getElem? he)).nodes n hn
  · simp at hn
theorem aft_todo {l : List Ln} (h : checkF l = 0) (x : Tx) : Todo l (aftOf l x) := by
  unfold aftOf
  split
  · rename_i e he
    exact after_todo h (List.mem_of_getElem? he)
  · exact ⟨by simp, by simp⟩
theorem depR_spec {l : List Ln} (h0 : checkF l = 0) {a b : Tx} : ∀ (k i : Nat) (t : List Tx), Todo l t → i ≤ t.length → l.length + 1 ≤ k + i →
    (∀ (j : Nat) (x : Tx), j < i → t[j]? = some x → x ≠ b ∧ ∀ n ∈ aftOf l x, n ∈ t) → (∀ n ∈ t, Dep l a n) → (∀ n ∈ aftOf l a, n ∈ t) → (depR l b k i t = true ↔ Dep l a b)
  | 0, i, t, ht, hi, hk, _, _, _ => by have := ht.len; omega
  | k + 1, i, t, ht, hi, hk, hc, hs, hb => by
    rw [depR]
    cases hx : t[i]? with
    | none =>
      have hil : t.length ≤ i := by
        rcases Nat.lt_or_ge i t.length with h | h
        · rw [List.getElem?_eq_getElem h] at hx; cases hx
        · exact h
      refine ⟨(fun h => by cases h), fun hd => ?_⟩
      have hin := Dep.inside (t := t) (fun x hx n hn => by
        obtain ⟨j, hj⟩ := List.getElem?_of_mem hx
        exact (hc j x (by have := (List.getElem?_eq_some_iff.1 hj).1; omega) hj).2 n hn) hd hb
      obtain ⟨j, hj⟩ := List.getElem?_of_mem hin
      exact absurd rfl (hc j b (by have := (List.getElem?_eq_some_iff.1 hj).1; omega) hj).1
    | some x =>
      dsimp only
      by_cases hxb : x = b
      · rw [if_pos hxb]
        subst hxb
        exact ⟨fun _ => hs x (List.mem_of_getElem? hx), fun _ => rfl⟩
      · rw [if_neg hxb]
        have hil := (List.getElem?_eq_some_iff.1 hx).1
        refine depR_spec h0 k (i + 1) _ (ht.adds (aft_nodes h0 x)) (by have := addF_len (aftOf l x) t; omega) (by omega) (fun j y hj hy => ?_) (fun n hn => ?_) (fun n hn => (addF_mem _ _ _).2 (.inl (hb n hn)))
        · have hjl : j < t.length := by omega
          have hy2 : t[j]? = some y := by
            have := addF_get (aftOf l x) t j _ (List.getElem?_eq_getElem hjl)
            rw [hy] at this
            rw [List.getElem?_eq_getElem hjl]; exact this.symm
          by_cases hji : j < i
          · obtain ⟨h1, h2⟩ := hc j y hji hy2
            exact ⟨h1, fun n hn => (addF_mem _ _ _).2 (.inl (h2 n hn))⟩
          · have : j = i := by omega
            subst this
            rw [hx] at hy2; injection hy2 with hy2; subst hy2
            exact ⟨hxb, fun n hn => (addF_mem _ _ _).2 (.inr hn)⟩
        · rcases (addF_mem _ _ _).1 hn with h | h
          · exact hs n h
          · exact (hs x (List.mem_of_getElem? hx)).snoc h
theorem depF_iff {l : List Ln} (h0 : checkF l = 0) (a b : Tx) : depF l a b = true ↔ Dep l a b :=
  depR_spec h0 _ _ _ (aft_todo h0 a) (Nat.zero_le _) (by omega) (fun j x hj => by omega) (fun n hn => .one hn) (fun n hn => hn)
theorem depends_iff {l : List Ln} {a b : Tx} : dependsF l a b = true ↔ checkF l = 0 ∧ 0 ≤ idxF l a ∧ 0 ≤ idxF l b ∧ Dep l a b := by
  unfold dependsF
  rw [Bool.and_eq_true, Bool.and_eq_true, Bool.and_eq_true, decide_eq_true_iff, decide_eq_true_iff, decide_eq_true_iff]
  constructor
  · rintro ⟨h0, h1, h2, h3⟩; exact ⟨h0, h1, h2, (depF_iff h0 a b).1 h3⟩
  · rintro ⟨h0, h1, h2, h3⟩; exact ⟨h0, h1, h2, (depF_iff h0 a b).2 h3⟩
/-- places in the order -/
theorem dep_place {l : List Ln} (h0 : checkF l = 0) {a b : Tx} (h : Dep l a b) : 0 ≤ idxF l a → ∃ m k : Nat, idxP (fun y => decide (y = b)) (startF l) = m ∧ idxP (fun y => decide (y = a)) (startF l) = k ∧ m < k := by
  have one : ∀ {a b : Tx}, 0 ≤ idxF l a → b ∈ aftOf l a → ∃ m k : Nat, idxP (fun y => decide (y = b)) (startF l) = m ∧ idxP (fun y => decide (y = a)) (startF l) = k ∧ m < k := by
    intro a b ha hb
    obtain ⟨i, x, hi, hx, hn⟩ := idxF_at ha
    have he : aftOf l a = x.after := by unfold aftOf; rw [hi, Int.toNat_natCast, hx]
    obtain ⟨k, _, hk, haf⟩ := order_before h0 hx
    rw [he] at hb
    obtain ⟨m, hm, hmk, _⟩ := haf b hb
    rw [hn] at hk
    exact ⟨m, k, hm, hk, hmk⟩
  induction h with
  | one h => exact fun ha => one ha h
  | @step a m b h k ih =>
    intro ha
    obtain ⟨m1, k1, e1, e2, h1⟩ := one ha h
    obtain ⟨m2, k2, e3, e4, h2⟩ := ih (idxF_mem.2 (aft_nodes h0 _ _ h))
    rw [e1] at e4
    exact ⟨m2, k1, e3, e2, by omega⟩
theorem dep_irrefl {l : List Ln} (a : Tx) : dependsF l a a = false := by
  cases h : dependsF l a a
  · rfl
  · obtain ⟨h0, h1, _, hd⟩ := depends_iff.1 h
    obtain ⟨m, k, e1, e2, h2⟩ := dep_place h0 hd h1
    rw [e1] at e2; omega
theorem dep_trans {l : List Ln} {a b c : Tx} (h1 : dependsF l a b = true) (h2 : dependsF l b c = true) : dependsF l a c = true := by
  obtain ⟨h0, ha, _, hd⟩ := depends_iff.1 h1
  obtain ⟨_, _, hc, hd2⟩ := depends_iff.1 h2
  exact depends_iff.2 ⟨h0, ha, hc, hd.trans hd2⟩
/-- the other search: what has been reached -/
structure Reach (l : List Ln) (a b : Tx) (t : List Tx) (i : Nat) : Prop where
  todo : Todo l t
  root : a ∈ t
  sound : ∀ n ∈ t, n = a ∨ Dep l a n
  closed : ∀ (j : Nat) (x : Tx), j < i → t[j]? = some x → ∀ n ∈ aftOf l x, n ≠ b ∧ n ∈ t
theorem Reach.start {l : List Ln} {a b : Tx} (h : 0 ≤ idxF l a) : Reach l a b [a] 0 :=
  ⟨⟨by simp, fun n hn => by rw [List.mem_singleton] at hn; subst hn; exact idxF_mem.1 h⟩, by simp, fun n hn => .inl (List.mem_singleton.1 hn), fun j x hj => by omega⟩
theorem Reach.none {l : List Ln} {a b : Tx} {t : List Tx} {i : Nat} (h : Reach l a b t i) (hi : t.length ≤ i) : ¬ Dep l a b := by
  intro hd
  have hcl : ∀ x ∈ t, ∀ n ∈ aftOf l x, n ≠ b ∧ n ∈ t := fun x hx n hn => by
    obtain ⟨j, hj⟩ := List.getElem?_of_mem hx
    exact h.closed j x (by have := (List.getElem?_eq_some_iff.1 hj).1; omega) hj n hn
  have key : ∀ {a b' : Tx}, Dep l a b' → a ∈ t → b' ≠ b := by
    intro a b' hd
    induction hd with
    | one h => exact fun ha => (hcl _ ha _ h).1
    | step h _ ih => exact fun ha => ih (hcl _ ha _ h).2
  exact key hd h.root rfl
theorem Reach.found {l : List Ln} {a b x : Tx} {t : List Tx} {i : Nat} (h : Reach l a b t i) (hx : x ∈ t) (hb : b ∈ aftOf l x) : Dep l a b := by
  rcases h.sound x hx with e | hd
  · subst e; exact .one hb
  · exact hd.snoc hb
end Go.Proofs.YtknfankadlokhaaGreatDoor
