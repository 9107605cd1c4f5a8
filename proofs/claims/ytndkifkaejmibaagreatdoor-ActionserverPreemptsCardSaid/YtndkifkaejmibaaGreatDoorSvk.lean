/- Action servers, in plain words: the run of the law on the policy Preempt. No conditions. -/
import Derived.Test.YtndkifkaejmibaaGreatDoorMP

namespace Go.Proofs.YtndkifkaejmibaaGreatDoor
open Go.RowKit
set_option linter.unusedVariables false
set_option linter.unusedSimpArgs false

/-- the goals after i requests: the first is canceled as soon as there is another, the last waits, those between have ended -/
def gP (at_ : Int) (i k : Nat) : Gl :=
  ⟨1, (k : Int) + 1, if k = 0 then (if i = 1 then 2 else 3) else if k + 1 = i then 1 else 6, at_, if k = 0 ∨ k + 1 = i then 0 else at_, [], if k = 0 ∨ k + 1 = i then [] else wCanceled⟩
structure QP (at_ : Int) (i : Nat) (s : Sv) : Prop where
  pol : s.pol = 2
  len : s.l.length = i
  g : ∀ k, k < i → gAt s.l k = gP at_ i k
  cur : s.cur = if i = 0 then -1 else 0
  ends : s.ends.length ≤ i
  inv : Inv s
  calm : Calm s (240 * (31 - i) + 5000)
theorem QP.new (at_ : Int) : QP at_ 0 ⟨2, 0, [], [], -1, 0, false, newM 262144, ⟨[], 0, false⟩⟩ :=
  ⟨rfl, rfl, fun k hk => by omega, rfl, by simp, inv_new _ _ _ _, calm_new (by omega) (by omega)⟩
/-- the waiting goal is ended, if there is one -/
theorem QP.clear {at_ : Int} {i : Nat} {s : Sv} (h : QP at_ i s) (hi : i < 30) : ∃ k, (if s.pol = 2 then clearS s at_ else (0, s)) = (0, k) ∧ k.pol = 2 ∧ k.cur = s.cur ∧ k.ends.length ≤ i + 1 ∧ k.l.length = i ∧ Calm k (240 * (31 - i) + 4880) ∧
    ∀ m, m < i → gAt k.l m = ⟨1, (m : Int) + 1, if m = 0 then (if i = 1 then 2 else 3) else 6, at_, if m = 0 then 0 else at_, [], if m = 0 then [] else wCanceled⟩ := by
  rw [if_pos h.pol]
  unfold clearS
  rw [h.inv.clear]
  by_cases h2 : 2 ≤ i
  · have hw : waitL s.l = [i - 1] := by
      unfold waitL
      rw [h.len]
      have hr : List.range i = List.range (i - 1) ++ [i - 1] := by
        obtain ⟨d, rfl⟩ : ∃ d, i = d + 1 := ⟨i - 1, by omega⟩
        rw [List.range_succ]; rfl
      rw [hr, List.filter_append, List.filter_eq_nil_iff.2, List.nil_append, List.filter_cons, if_pos]
      · rfl
      · rw [h.g _ (by omega)]
        unfold gP
        simp only [show ¬ i - 1 = 0 by omega, show i - 1 + 1 = i by omega, if_false, if_true]
        rfl
      · intro m hm
        rw [List.mem_range] at hm
        rw [h.g _ (by omega)]
        unfold gP
        by_cases hm0 : m = 0
        · subst hm0
          simp only [show ¬ i = 1 by omega, if_true, if_false]; decide
        · simp only [hm0, show ¬ m + 1 = i by omega, if_false]; decide
    rw [hw]
    obtain ⟨e1, e2, e3⟩ := endS_calm (u := 240 * (31 - i) + 4880) (h.calm.le (by omega)) (i - 1) 6 at_ (rs := wCanceled) (by decide)
    obtain ⟨f1, f2, f3⟩ := endS_ok e1
    rw [endAll, if_neg (by simpa using e1), endAll]
    refine ⟨_, rfl, e3.pol.trans h.pol, ?_, ?_, ?_, e2, fun m hm => ?_⟩
    · rw [f3, if_neg]; rw [h.cur, if_neg (by omega)]; omega
    · rw [f2, List.length_append, List.length_singleton]; have := h.ends; omega
    · rw [f1, List.length_set]; exact h.len
    · rw [f1, gAt_set (by rw [h.len]; omega)]
      split
      · rename_i hmi
        subst hmi
        rw [h.g _ (by omega)]
        unfold gP endG
        simp only [show ¬ i - 1 = 0 by omega, if_false]
      · rename_i hmi
        rw [h.g _ hm]
        unfold gP
        by_cases hm0 : m = 0
        · subst hm0
          simp only [if_true, true_or]
        · simp only [hm0, show ¬ m + 1 = i by omega, if_false, or_self]
  · have hw : waitL s.l = [] := by
      rw [List.eq_nil_iff_forall_not_mem]
      intro m hm
      rw [waitL_mem, h.len] at hm
      have hm0 : m = 0 := by omega
      subst hm0
      have := h.g 0 hm.1
      rw [this] at hm
      unfold gP at hm
      simp only [show i = 1 by omega, if_true] at hm
      exact absurd hm.2 (by decide)
    rw [hw, endAll]
    refine ⟨s, rfl, h.pol, rfl, by have := h.ends; omega, h.len, h.calm.le (by omega), fun m hm => ?_⟩
    have hm0 : m = 0 := by omega
    subst hm0
    rw [h.g 0 hm]
    unfold gP
    simp only [if_true, true_or]
theorem QP.step {at_ : Int} {i : Nat} {s : Sv} (h : QP at_ i s) (ha : 0 ≤ at_ ∧ at_ ≤ 1000) (hi : i < 30) : ∃ t, requestS s 1 ((i : Int) + 1) at_ [] = (true, 0, t) ∧ QP at_ (i + 1) t := by
  obtain ⟨k, hk, kp, kc, ke, kl, kk, kg⟩ := h.clear hi
  have hga : ∀ m, m < s.l.length → (gAt s.l m).n = (m : Int) + 1 ∧ (gAt s.l m).at_ ≤ at_ ∧ (gAt s.l m).en ≤ at_ := by
    intro m hm
    rw [h.len] at hm
    rw [h.g m hm]
    unfold gP
    dsimp only
    refine ⟨rfl, by omega, ?_⟩
    split <;> omega
  have hacc : acceptsB s = true := by unfold acceptsB; rw [h.pol, if_neg (by omega), if_neg (by omega)]
  obtain ⟨d1, d2, d3⟩ := decideS_calm (u := 240 * (31 - (i + 1)) + 5000) (kk.le (by omega)) ⟨1, (i : Int) + 1, 0, at_, 0, [], []⟩ true (by simp) rfl
  obtain ⟨f1, f2, f3⟩ := decideS_ok d1
  have r := requestS_go (s := s) (c := 1) (n := (i : Int) + 1) (at_ := at_) (rq := []) (by omega) (by simp) h.calm.sv (findG_no fun m hm h2 => by have := hga m hm; have := h.len; omega) (latF_le (by omega) fun m hm => by have := hga m hm; omega) (by rw [h.len]; omega) hk (by rw [hacc]; exact d1)
  have hinv := Inv.requestS h.inv 1 ((i : Int) + 1) at_ []
  rw [hacc] at r
  rw [r] at hinv
  refine ⟨_, r, ?_⟩
  generalize decideS k ⟨1, (i : Int) + 1, 0, at_, 0, [], []⟩ true = d at d1 d2 d3 f1 f2 f3 hinv ⊢
  obtain ⟨e, t⟩ := d
  dsimp only at d1 d2 d3 f1 f2 f3 hinv ⊢
  have tp : t.pol = 2 := d3.pol.trans kp
  have tl : t.l.length = i + 1 := by rw [f1, List.length_append, kl]; rfl
  have tg : ∀ m, m < i + 1 → gAt t.l m = if m = i then ⟨1, (i : Int) + 1, 1, at_, 0, [], []⟩ else ⟨1, (m : Int) + 1, if m = 0 then (if i = 1 then 2 else 3) else 6, at_, if m = 0 then 0 else at_, [], if m = 0 then [] else wCanceled⟩ := by
    intro m hm
    rw [f1, gAt_snoc _ _ _ (by rw [kl]; exact hm), kl]
    split
    · rfl
    · exact kg m (by omega)
  by_cases hi0 : i = 0
  · subst hi0
    have tc : t.cur = -1 := by rw [f3, kc, h.cur]; rfl
    have np : preemptS t = t := by unfold preemptS; rw [if_neg (by rw [tc]; omega)]
    rw [np] at hinv ⊢
    have g0 : gAt t.l 0 = ⟨1, 1, 1, at_, 0, [], []⟩ := by rw [tg 0 (by omega), if_pos rfl]; rfl
    obtain ⟨rr, hr⟩ := openL_head (l := t.l) (k := 0) (by omega) (by rw [g0]; show ¬ ((4 : Int) ≤ 1 ∧ (1 : Int) ≤ 7); decide) (fun i hi => by omega)
    have n := nextS_head (s := t) (by rw [tc]; decide) hr
    rw [n] at hinv ⊢
    refine ⟨tp, by show (t.l.set 0 _).length = 1; rw [List.length_set]; exact tl, fun m hm => ?_, rfl, by show t.ends.length ≤ 1; rw [f2]; exact ke, hinv, d2.like rfl rfl rfl⟩
    have hm0 : m = 0 := by omega
    subst hm0
    show gAt (t.l.set 0 _) 0 = _
    rw [gAt_set (by omega), if_pos rfl, g0]
    rfl
  · have tc : t.cur = 0 := by rw [f3, kc, h.cur, if_neg hi0]
    have np : preemptS t = { t with l := t.l.set 0 { gAt t.l 0 with st := 3 } } := by unfold preemptS; rw [if_pos ⟨tp, by rw [tc]; decide⟩, tc]; rfl
    rw [np] at hinv ⊢
    have n := nextS_cur (s := { t with l := t.l.set 0 { gAt t.l 0 with st := 3 } }) (by show 0 ≤ t.cur; rw [tc]; decide)
    rw [n] at hinv ⊢
    refine ⟨tp, by show (t.l.set 0 _).length = i + 1; rw [List.length_set]; exact tl, fun m hm => ?_, by show t.cur = _; rw [tc, if_neg (by omega)], by show t.ends.length ≤ i + 1; rw [f2]; exact ke, hinv, d2.like rfl rfl rfl⟩
    show gAt (t.l.set 0 _) m = _
    rw [gAt_set (by omega)]
    unfold gP
    split
    · rename_i hm0
      subst hm0
      rw [tg 0 (by omega), if_neg (by omega)]
      simp only [if_true, true_or, show ¬ i + 1 = 1 by omega, if_false]
    · rename_i hm0
      rw [tg m hm]
      by_cases hmi : m = i
      · subst hmi
        simp only [if_true, hm0, if_false, or_true]
      · simp only [hmi, hm0, if_false, show ¬ m + 1 = i + 1 by omega, or_self]
/-- after the end of the first goal -/
theorem QP.fin {at_ : Int} {n : Nat} {s : Sv} (h : QP at_ n s) (ha : 0 ≤ at_ ∧ at_ ≤ 1000) (h2 : 2 ≤ n) (hn : n ≤ 30) {rs : List UInt8} (hr : rs.length ≤ 20) : ∃ t, finishS s 5 at_ rs = (0, t) ∧ Inv t ∧ Calm t 100 ∧ t.ends.length ≤ 100 ∧ goalS t 1 1 = (⟨1, 1, 6, at_, at_, [], rs⟩, true) ∧ curS t = (⟨1, (n : Int), 2, at_, 0, [], []⟩, true) := by
  have hcu : s.cur = 0 := by rw [h.cur, if_neg (by omega)]
  have hct : s.cur.toNat = 0 := by rw [hcu]; rfl
  have g0 : gAt s.l 0 = ⟨1, 1, 3, at_, 0, [], []⟩ := by
    rw [h.g 0 (by omega)]; unfold gP
    simp only [if_true, true_or, show ¬ n = 1 by omega, if_false]; rfl
  obtain ⟨t, r, l, e, u, x⟩ := finQ (u := 100) (h.calm.le (by omega)) (by omega) (st := 5) (at_ := at_) (rs := rs) (by omega)
    (latF_le (by omega) fun m hm => by
      rw [h.len] at hm
      rw [h.g m hm]
      unfold gP
      dsimp only
      refine ⟨by omega, ?_⟩
      split <;> omega) hr (st' := 6) (by rw [hct, g0]; rfl)
  have hinv := Inv.finishS h.inv (st := 5) (by omega) at_ rs
  rw [r] at hinv
  rw [hct, g0] at l
  have tl : t.l.length = n := by rw [l, List.length_set]; exact h.len
  have tg : ∀ m, m < n → gAt t.l m = if m = 0 then ⟨1, 1, 6, at_, at_, [], rs⟩ else gP at_ n m := by
    intro m hm
    rw [l, gAt_set (by rw [h.len]; omega)]
    split
    · rfl
    · exact h.g m hm
  have gl : gAt t.l (n - 1) = ⟨1, (n : Int), 1, at_, 0, [], []⟩ := by
    rw [tg _ (by omega), if_neg (by omega)]
    unfold gP
    simp only [show ¬ n - 1 = 0 by omega, show n - 1 + 1 = n by omega, if_false, if_true, or_true]
    congr 1
    omega
  obtain ⟨rr, hr2⟩ := openL_head (l := t.l) (k := n - 1) (by omega) (by rw [gl]; show ¬ ((4 : Int) ≤ 1 ∧ (1 : Int) ≤ 7); decide) (fun m hm => by
    rw [tg m (by omega)]
    split
    · show (4 : Int) ≤ 6 ∧ (6 : Int) ≤ 7; decide
    · unfold gP
      rename_i hm0
      simp only [hm0, show ¬ m + 1 = n by omega, if_false]; decide)
  have n1 := nextS_head (s := t) (by rw [u]; decide) hr2
  have x1 := x.next
  rw [n1] at r hinv x1
  refine ⟨_, r, hinv, x1.calm, ?_, ?_, ?_⟩
  · show t.ends.length ≤ 100
    rw [e, List.length_append, List.length_singleton]; have := h.ends; omega
  · unfold goalS
    have hf : findG (t.l.set (n - 1) { gAt t.l (n - 1) with st := 2 }) 1 1 = some 0 := by
      have hl : (t.l.set (n - 1) { gAt t.l (n - 1) with st := 2 })[0]? = some (gAt (t.l.set (n - 1) { gAt t.l (n - 1) with st := 2 }) 0) := by
        have hlt : 0 < (t.l.set (n - 1) { gAt t.l (n - 1) with st := 2 }).length := by rw [List.length_set]; omega
        exact gAt_some hlt
      refine findG_at hl ?_ (fun j y hj => by omega)
      rw [gAt_set (by omega), if_neg (by omega), tg 0 (by omega), if_pos rfl]
      exact ⟨rfl, rfl⟩
    rw [hf]
    dsimp only
    rw [gAt_set (by omega), if_neg (by omega), tg 0 (by omega), if_pos rfl]
  · unfold curS
    dsimp only
    rw [if_neg (by omega), Int.toNat_natCast, gAt_set (by omega), if_pos rfl, gl]
end Go.Proofs.YtndkifkaejmibaaGreatDoor
