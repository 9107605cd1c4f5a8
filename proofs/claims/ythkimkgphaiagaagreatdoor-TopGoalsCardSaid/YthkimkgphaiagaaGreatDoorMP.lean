/- Action servers, in plain words: a server on a medium with room and without mishap. No conditions. -/
import Derived.Test.YthkimkgphaiagaaGreatDoorML
import Derived.Test.YthkimkgphaiagaaGreatDoorMO

namespace Go.Proofs.YthkimkgphaiagaaGreatDoor
open Go.RowKit
set_option linter.unusedVariables false
set_option linter.unusedSimpArgs false

theorem enc_short (g : Gl) : (enc g).length ≤ 70 + g.rq.length + g.rs.length := by
  by_cases h : Cod g
  · rw [enc_cod h]
    have hc := itoa_len (n := g.c) (k := 9) (by have := h.c; omega) (by have := h.c; omega)
    have hn := itoa_len (n := g.n) (k := 9) (by have := h.n; omega) (by have := h.n; omega)
    have hs := itoa_len (n := g.st) (k := 0) (by have := h.st; omega) (by have := h.st; omega)
    have ha := itoa_len (n := g.at_) (k := 12) (by have := h.a; omega) (by have := h.a; omega)
    have he := itoa_len (n := g.en) (k := 12) (by have := h.en; omega) (by have := h.en; omega)
    have hq := itoa_len (n := (g.rq.length : Int)) (k := 3) (by omega) (by have := h.l; omega)
    have hx := itoa_len (n := (g.rs.length : Int)) (k := 3) (by omega) (by have := h.l; omega)
    simp only [body, nums, txt, List.length_append, List.length_cons, List.length_nil]
    omega
  · rw [enc_not h]; simp
/-- no mishap: the medium works, is not armed and has u bytes of room -/
structure Calm (s : Sv) (u : Nat) : Prop where
  ok : s.m.Ok
  up : s.m.down = false
  st : s.m.steps = 0
  sv : s.stop = false
  js : s.j.stop = false
  room : (s.m.s.length : Int) + u ≤ s.m.size
  jl : s.j.l.length + u ≤ 300000
theorem Calm.le {s : Sv} {u v : Nat} (h : Calm s v) (hu : u ≤ v) : Calm s u := ⟨h.ok, h.up, h.st, h.sv, h.js, by have := h.room; omega, by have := h.jl; omega⟩
theorem Calm.like {s t : Sv} {u : Nat} (h : Calm s u) (hm : t.m = s.m) (hj : t.j = s.j) (hs : t.stop = s.stop) : Calm t u := ⟨hm ▸ h.ok, hm ▸ h.up, hm ▸ h.st, hs ▸ h.sv, hj ▸ h.js, by rw [hm]; exact h.room, by rw [hj]; exact h.jl⟩
theorem recS_calm {s : Sv} {u : Nat} {x : List UInt8} (h : Calm s (u + (x.length + 18))) (hx : x.length ≤ 4000) : (recS s x).1 = 0 ∧ Calm (recS s x).2 u := by
  obtain ⟨hok, hup, hst, hsv, hjs, hroom, hjl⟩ := h
  obtain ⟨pol, lim, l, ends, cur, fb, stop, ⟨size, dur, ms, down, steps, keep⟩, ⟨jl, jd, jstop⟩⟩ := s
  dsimp only at hok hup hst hsv hjs hroom hjl
  subst hup hst hsv hjs
  have hF := frameF_len (headF 0 jl) x
  have hT := textF_len x
  obtain ⟨F, hFe⟩ : ∃ F, F = frameF (headF 0 jl) x := ⟨_, rfl⟩
  rw [← hFe] at hF
  have hap : (Med.mk size dur ms false 0 keep).append F = (0, ⟨size, dur, ms ++ F, false, 0, keep⟩) := by
    unfold Med.append
    dsimp only
    rw [if_neg (by simp), if_neg (by omega), if_neg (by omega)]
    rfl
  have hsy : (Med.mk size dur (ms ++ F) false 0 keep).sync = (0, ⟨size, ((ms ++ F).length : Int), ms ++ F, false, 0, keep⟩) := by
    unfold Med.sync
    dsimp only
    rw [if_neg (by simp), if_neg (by omega)]
    rfl
  have hok2 := hok.append F
  rw [hap] at hok2
  have hok3 := hok2.sync
  dsimp only at hok3
  rw [hsy] at hok3
  have hja : jAppend ⟨size, dur, ms, false, 0, keep⟩ ⟨jl, jd, false⟩ x = (0, ⟨size, dur, ms ++ F, false, 0, keep⟩, ⟨jl ++ [x], jd, false⟩) := by
    unfold jAppend
    dsimp only
    rw [← hFe, hap, if_neg (by simp), if_neg (by omega), if_pos rfl]
  have hjy : jSync ⟨size, dur, ms ++ F, false, 0, keep⟩ ⟨jl ++ [x], jd, false⟩ = (0, ⟨size, ((ms ++ F).length : Int), ms ++ F, false, 0, keep⟩, ⟨jl ++ [x], ((jl ++ [x]).length : Int), false⟩) := by
    unfold jSync
    dsimp only
    rw [hsy, if_neg (by simp), if_pos rfl]
  unfold recS
  dsimp only
  rw [hja]
  dsimp only
  rw [hjy, if_pos rfl, if_pos rfl]
  refine ⟨rfl, hok3, rfl, rfl, rfl, rfl, ?_, ?_⟩
  · show ((ms ++ F).length : Int) + u ≤ size
    rw [List.length_append]; omega
  · show (jl ++ [x]).length + u ≤ 300000
    rw [List.length_append, List.length_singleton]; omega
structure Same4 (s t : Sv) : Prop where
  pol : t.pol = s.pol
  lim : t.lim = s.lim
  fb : t.fb = s.fb
theorem recS_4 (s : Sv) (x : List UInt8) : Same4 s (recS s x).2 := by
  unfold recS
  split
  · split <;> exact ⟨rfl, rfl, rfl⟩
  · exact ⟨rfl, rfl, rfl⟩
theorem endR_short (g : Gl) : (endR g).length ≤ 71 + g.rs.length := by
  obtain ⟨c, n, st, a, e, q, x⟩ := g
  have := enc_short ⟨c, n, st, a, e, [], x⟩
  unfold endR
  rw [List.length_cons]
  dsimp only [List.length_nil] at this ⊢
  omega
theorem endS_calm {s : Sv} {u : Nat} (h : Calm s (u + 120)) (i : Nat) (st at_ : Int) {rs : List UInt8} (hr : rs.length ≤ 20) : (endS s i st at_ rs).1 = 0 ∧ Calm (endS s i st at_ rs).2 u ∧ Same4 s (endS s i st at_ rs).2 := by
  have hl : (endR (endG (gAt s.l i) st at_ rs)).length ≤ 91 := by
    have := endR_short (endG (gAt s.l i) st at_ rs)
    have e2 : (endG (gAt s.l i) st at_ rs).rs.length = rs.length := rfl
    omega
  obtain ⟨h1, h2⟩ := recS_calm (h.le (u := u + ((endR (endG (gAt s.l i) st at_ rs)).length + 18)) (by omega)) (by omega)
  have h3 := recS_4 s (endR (endG (gAt s.l i) st at_ rs))
  unfold endS
  rw [if_neg (by simpa using h1)]
  exact ⟨rfl, h2.like rfl rfl rfl, h3.pol, h3.lim, h3.fb⟩
theorem decideS_calm {s : Sv} {u : Nat} (h : Calm s (u + 120)) (g : Gl) (ok : Bool) (hq : g.rq.length ≤ 20) (hr : g.rs = []) : (decideS s g ok).1 = 0 ∧ Calm (decideS s g ok).2 u ∧ Same4 s (decideS s g ok).2 := by
  have hl : (114 :: enc (decG1 g ok)).length ≤ 91 := by
    have := enc_short (decG1 g ok)
    rw [List.length_cons]
    have e : (decG1 g ok).rq = g.rq := by cases ok <;> rfl
    have e2 : (decG1 g ok).rs = g.rs := by cases ok <;> rfl
    rw [e, e2, hr] at this
    simp only [List.length_nil] at this
    omega
  obtain ⟨h1, h2⟩ := recS_calm (h.le (u := u + ((114 :: enc (decG1 g ok)).length + 18)) (by omega)) (by omega)
  have h3 := recS_4 s (114 :: enc (decG1 g ok))
  unfold decideS
  rw [if_neg (by simpa using h1)]
  exact ⟨rfl, h2.like rfl rfl rfl, h3.pol, h3.lim, h3.fb⟩
theorem openS_new {pol lim size : Int} (h : 1 ≤ size ∧ size ≤ 262144) (hp : 1 ≤ pol ∧ pol ≤ 3 ∧ 0 ≤ lim ∧ lim ≤ 64) : openS pol lim (newM size) = (0, ⟨pol, lim, [], [], -1, 0, false, newM size, ⟨[], 0, false⟩⟩) := by
  unfold openS
  rw [if_neg (by simpa using hp), newOpen, if_neg (by simp)]
  rfl
theorem calm_new {pol lim size : Int} (h : 1 ≤ size ∧ size ≤ 262144) {u : Nat} (hu : (u : Int) ≤ size) : Calm ⟨pol, lim, [], [], -1, 0, false, newM size, ⟨[], 0, false⟩⟩ u :=
  ⟨newM_ok h, rfl, rfl, rfl, rfl, by show ((0 : Nat) : Int) + u ≤ size; omega, by show 0 + u ≤ 300000; omega⟩
theorem Calm.svk {s : Sv} {u n : Nat} (h : Calm s u) (hl : s.l.length ≤ 64) (he : s.ends.length ≤ 1000) (hn : n ≤ 1000) : Svk s n := ⟨h.ok, by have := h.jl; omega, hl, by omega⟩
theorem latF_le {l : List Gl} {b : Int} (h0 : 0 ≤ b) (h : ∀ k, k < l.length → (gAt l k).at_ ≤ b ∧ (gAt l k).en ≤ b) : latF l ≤ b := by
  have hm : ∀ g ∈ l, g.at_ ≤ b ∧ g.en ≤ b := by
    intro g hg
    obtain ⟨k, hk, rfl⟩ := List.getElem_of_mem hg
    have := h k hk
    have e : gAt l k = l[k] := by unfold gAt; rw [List.getD_eq_getElem?_getD, List.getElem?_eq_getElem hk]; rfl
    rwa [e] at this
  have : ∀ (l : List Gl) (t : Int), t ≤ b → (∀ g ∈ l, g.at_ ≤ b ∧ g.en ≤ b) → l.foldl (fun t g => max (max t g.at_) g.en) t ≤ b := by
    intro l
    induction l with
    | nil => intro t ht _; exact ht
    | cons g l ih =>
      intro t ht hm
      rw [List.foldl_cons]
      have hg := hm g (List.mem_cons_self ..)
      exact ih _ (by omega) (fun g' hg' => hm g' (List.mem_cons_of_mem _ hg'))
  exact this l 0 h0 hm
theorem latF_nonneg (l : List Gl) : 0 ≤ latF l := by
  have : ∀ (l : List Gl) (t : Int), t ≤ l.foldl (fun t g => max (max t g.at_) g.en) t := by
    intro l
    induction l with
    | nil => intro t; exact Int.le_refl _
    | cons g l ih => intro t; rw [List.foldl_cons]; have := ih (max (max t g.at_) g.en); omega
  exact this l 0
theorem filter_range_head {p : Nat → Bool} {n k : Nat} (hk : k < n) (h1 : p k = true) (h : ∀ i, i < k → p i = false) : ∃ r, (List.range n).filter p = k :: r := by
  obtain ⟨d, rfl⟩ : ∃ d, n = k + (d + 1) := ⟨n - k - 1, by omega⟩
  rw [List.range_add, List.filter_append, List.filter_eq_nil_iff.2 (by intro a ha; rw [List.mem_range] at ha; rw [h a ha]; simp), List.nil_append, List.range_succ_eq_map, List.map_cons, Nat.add_zero, List.filter_cons, if_pos h1]
  exact ⟨_, rfl⟩
theorem openL_head {l : List Gl} {k : Nat} (hk : k < l.length) (h1 : ¬ (4 ≤ (gAt l k).st ∧ (gAt l k).st ≤ 7)) (h : ∀ i, i < k → 4 ≤ (gAt l i).st ∧ (gAt l i).st ≤ 7) : ∃ r, openL l = k :: r := by
  unfold openL
  refine filter_range_head hk ?_ (fun i hi => ?_)
  · rw [← termF_iff, Bool.not_eq_true] at h1; rw [h1]; rfl
  · have := h i hi; rw [← termF_iff] at this; rw [this]; rfl
theorem openL_nil {l : List Gl} (h : ∀ i, i < l.length → 4 ≤ (gAt l i).st ∧ (gAt l i).st ≤ 7) : openL l = [] := by
  rw [List.eq_nil_iff_forall_not_mem]
  intro i hi
  rw [openL_mem] at hi
  have := h i hi.1
  rw [← termF_iff, hi.2] at this
  simp at this
theorem count_le (n : Nat) (b : Int) (hb : 0 ≤ b) : (((List.range n).filter fun k : Nat => decide ((k : Int) ≤ b)).length : Int) = min (n : Int) (b + 1) := by
  induction n with
  | zero => simp; omega
  | succ n ih =>
    rw [List.range_succ, List.filter_append, List.length_append]
    by_cases h : (n : Int) ≤ b
    · rw [List.filter_cons, if_pos (by simpa using h)]; simp only [List.filter_nil, List.length_cons, List.length_nil]; omega
    · rw [List.filter_cons, if_neg (by simpa using h)]; simp only [List.filter_nil, List.length_nil]; omega
theorem findG_no {l : List Gl} {c n : Int} (h : ∀ k, k < l.length → ¬ ((gAt l k).c = c ∧ (gAt l k).n = n)) : findG l c n = none := by
  apply findG_none
  intro j y hy h2
  obtain ⟨hj, rfl⟩ := List.getElem?_eq_some_iff.1 hy
  have := h j hj
  have e : gAt l j = l[j] := by unfold gAt; rw [List.getD_eq_getElem?_getD, List.getElem?_eq_getElem hj]; rfl
  rw [e] at this
  exact this h2
/-- nothing is current: the first open goal becomes so -/
theorem nextS_head {s : Sv} {k : Nat} {r : List Nat} (hc : s.cur < 0) (ho : openL s.l = k :: r) : nextS s = { s with cur := (k : Int), fb := 0, l := s.l.set k { gAt s.l k with st := 2 } } := by
  unfold nextS; rw [if_neg (by omega), ho]
theorem nextS_nil {s : Sv} (ho : openL s.l = []) : nextS s = s := by
  unfold nextS; split
  · rfl
  · rw [ho]
theorem nextS_cur {s : Sv} (hc : 0 ≤ s.cur) : nextS s = s := by unfold nextS; rw [if_pos hc]
/-- a request that is decided -/
theorem requestS_go {s : Sv} {c n at_ : Int} {rq : List UInt8} (hb : (1 ≤ c ∧ c ≤ 2147483647) ∧ (1 ≤ n ∧ n ≤ 2147483647) ∧ (0 ≤ at_ ∧ at_ ≤ 1099511627776)) (hr : rq.length ≤ 2000) (hs : s.stop = false) (hf : findG s.l c n = none) (hl : latF s.l ≤ at_) (h64 : s.l.length < 64) {k : Sv}
    (hk : (if s.pol = 2 then clearS s at_ else (0, s)) = (0, k)) (hd : (decideS k ⟨c, n, 0, at_, 0, rq, []⟩ (acceptsB s)).1 = 0) : requestS s c n at_ rq = (acceptsB s, 0, nextS (preemptS (decideS k ⟨c, n, 0, at_, 0, rq, []⟩ (acceptsB s)).2)) := by
  unfold requestS
  rw [if_neg (fun h => h hb), if_neg (by omega), hs, if_neg (by simp), hf]
  dsimp only
  rw [if_neg (by omega), if_neg (by omega), hk]
  dsimp only
  rw [if_neg (by simp), if_neg (by simpa using hd)]
theorem finishS_go {s : Sv} {st at_ : Int} {rs : List UInt8} (hs : s.stop = false) (hc : 0 ≤ s.cur) (ha : 0 ≤ at_ ∧ at_ ≤ 1099511627776) (hl : latF s.l ≤ at_) (hr : rs.length ≤ 2000) {st' : Int} (hst : (if st = 5 ∧ (gAt s.l s.cur.toNat).st = 3 then 6 else st) = st')
    (he : (endS s s.cur.toNat st' at_ rs).1 = 0) : finishS s st at_ rs = (0, nextS (endS s s.cur.toNat st' at_ rs).2) := by
  unfold finishS
  rw [hs, if_neg (by simp), if_neg (by omega), if_neg (by simpa using ha), if_neg (by omega), if_neg (by omega), hst]
  dsimp only
  rw [if_neg (by simpa using he)]
end Go.Proofs.YthkimkgphaiagaaGreatDoor

namespace Go.Proofs.YthkimkgphaiagaaGreatDoor
open Go.RowKit
set_option linter.unusedVariables false
set_option linter.unusedSimpArgs false

theorem clear_no {s : Sv} (h : s.pol ≠ 2) (at_ : Int) : (if s.pol = 2 then clearS s at_ else (0, s)) = (0, s) := if_neg h
theorem preempt_no {s : Sv} (h : s.pol ≠ 2) : preemptS s = s := by unfold preemptS; rw [if_neg (fun e => h e.1)]
/-- what is left of the rest of a server when its goals change -/
structure Rest (s t : Sv) (u : Nat) : Prop where
  pol : t.pol = s.pol
  lim : t.lim = s.lim
  calm : Calm t u
theorem Rest.next {s t : Sv} {u : Nat} (h : Rest s t u) : Rest s (nextS t) u := by
  unfold nextS
  split
  · exact h
  split
  · exact h
  · exact ⟨h.pol, h.lim, h.calm.like rfl rfl rfl⟩
theorem reqQ {s : Sv} {u : Nat} (hc : Calm s (u + 120)) (hp : s.pol ≠ 2) {c n at_ : Int} {rq : List UInt8} (hb : (1 ≤ c ∧ c ≤ 2147483647) ∧ (1 ≤ n ∧ n ≤ 2147483647) ∧ (0 ≤ at_ ∧ at_ ≤ 1099511627776)) (hr : rq.length ≤ 20) (hf : findG s.l c n = none) (hl : latF s.l ≤ at_) (h64 : s.l.length < 64) :
    ∃ t, requestS s c n at_ rq = (acceptsB s, 0, nextS t) ∧ t.l = s.l ++ [decG1 ⟨c, n, 0, at_, 0, rq, []⟩ (acceptsB s)] ∧ t.ends = s.ends ∧ t.cur = s.cur ∧ Rest s t u := by
  obtain ⟨h1, h2, h3⟩ := decideS_calm hc ⟨c, n, 0, at_, 0, rq, []⟩ (acceptsB s) hr rfl
  obtain ⟨e1, e2, e3⟩ := decideS_ok h1
  refine ⟨_, ?_, e1, e2, e3, h3.pol, h3.lim, h2⟩
  rw [requestS_go hb (by omega) hc.sv hf hl h64 (clear_no hp at_) h1, preempt_no (by rw [h3.pol]; exact hp)]
theorem finQ {s : Sv} {u : Nat} (hc : Calm s (u + 120)) (hcu : 0 ≤ s.cur) {st at_ : Int} {rs : List UInt8} (ha : 0 ≤ at_ ∧ at_ ≤ 1099511627776) (hl : latF s.l ≤ at_) (hr : rs.length ≤ 20) {st' : Int} (hst : (if st = 5 ∧ (gAt s.l s.cur.toNat).st = 3 then 6 else st) = st') :
    ∃ t, finishS s st at_ rs = (0, nextS t) ∧ t.l = s.l.set s.cur.toNat (endG (gAt s.l s.cur.toNat) st' at_ rs) ∧ t.ends = s.ends ++ [s.cur.toNat] ∧ t.cur = -1 ∧ Rest s t u := by
  obtain ⟨h1, h2, h3⟩ := endS_calm hc s.cur.toNat st' at_ hr
  obtain ⟨e1, e2, e3⟩ := endS_ok h1
  refine ⟨_, finishS_go hc.sv hcu ha hl (by omega) hst h1, e1, e2, ?_, h3.pol, h3.lim, h2⟩
  rw [e3, if_pos (by omega)]

/-! ## The example -/
def exA : Sv := ⟨3, 1, [], [], -1, 0, false, newM 1000, ⟨[], 0, false⟩⟩
structure Okay (s : Sv) : Prop where
  inv : Inv s
  calm : Calm s 100
  e : s.ends.length ≤ 1000
theorem Okay.svk {s : Sv} (h : Okay s) {n : Nat} (hn : n ≤ 1000) : Svk s n := h.calm.svk h.inv.len h.e hn
theorem exA_inv : Inv exA := ⟨⟨by decide, fun i hi => by simp [exA] at hi, fun i hi => by simp [exA] at hi, fun h => by simp [exA] at h, by decide, fun i hi => by simp [exA] at hi⟩, fun _ i hi => by simp [exA] at hi⟩
theorem inv_new (pol lim : Int) (m : Med) (j : Jr) : Inv ⟨pol, lim, [], [], -1, 0, false, m, j⟩ := ⟨⟨by simp, fun i hi => by simp at hi, fun i hi => by simp at hi, fun h => by simp at h, by simp, fun i hi => by simp at hi⟩, fun _ i hi => by simp at hi⟩
theorem ex_run : ∃ A1 A2 A3 A4, requestS exA 1 1 0 [103, 111] = (true, 0, A1) ∧ requestS A1 1 2 1 [] = (true, 0, A2) ∧ requestS A2 1 3 2 [] = (false, 0, A3) ∧ finishS A3 4 5 [111, 107] = (0, A4) ∧
    Okay A1 ∧ Okay A2 ∧ Okay A3 ∧ Okay A4 ∧ A4.l = [⟨1, 1, 4, 0, 5, [103, 111], [111, 107]⟩, ⟨1, 2, 2, 1, 0, [], []⟩, ⟨1, 3, 7, 2, 2, [], []⟩] ∧ A4.ends = [0] ∧ A4.cur = 1 := by
  have c0 : Calm exA (460 + 120) := calm_new (pol := 3) (lim := 1) (size := 1000) (by omega) (by omega)
  obtain ⟨t1, r1, l1, e1, u1, x1⟩ := reqQ c0 (by decide) (c := 1) (n := 1) (at_ := 0) (rq := [103, 111]) (by omega) (by decide) rfl (by decide) (by decide)
  have i1 := exA_inv.requestS 1 1 0 [103, 111]
  have a0 : acceptsB exA = true := by decide
  rw [a0] at r1 l1
  rw [r1] at i1
  have l1' : t1.l = [⟨1, 1, 1, 0, 0, [103, 111], []⟩] := l1
  have n1 := nextS_head (s := t1) (k := 0) (r := []) (by rw [u1]; decide) (by rw [l1']; rfl)
  obtain ⟨A1, hA1⟩ : ∃ A1, A1 = nextS t1 := ⟨_, rfl⟩
  rw [← hA1] at r1 i1 n1
  have x1 := x1.next
  rw [← hA1] at x1
  have ll1 : A1.l = [⟨1, 1, 2, 0, 0, [103, 111], []⟩] := by rw [n1]; show t1.l.set 0 _ = _; rw [l1']; rfl
  have lu1 : A1.cur = 0 := by rw [n1]; rfl
  have le1 : A1.ends = [] := by rw [n1]; exact e1
  have lp1 : A1.pol = 3 := x1.pol
  have lm1 : A1.lim = 1 := x1.lim
  have k1 := x1.calm
  clear hA1 n1 l1 l1' e1 u1 x1
  obtain ⟨t2, r2, l2, e2, u2, x2⟩ := reqQ (u := 340) k1 (by rw [lp1]; decide) (c := 1) (n := 2) (at_ := 1) (rq := []) (by omega) (by decide) (by rw [ll1]; decide) (by rw [ll1]; decide) (by rw [ll1]; decide)
  have i2 := Inv.requestS i1 1 2 1 []
  have a1 : acceptsB A1 = true := by unfold acceptsB; rw [lp1, lm1, ll1, lu1]; decide
  rw [a1] at r2 l2
  rw [r2] at i2
  rw [ll1] at l2
  have n2 := nextS_cur (s := t2) (by rw [u2, lu1]; decide)
  rw [n2] at r2 i2
  have ll2 : t2.l = [⟨1, 1, 2, 0, 0, [103, 111], []⟩, ⟨1, 2, 1, 1, 0, [], []⟩] := l2
  have lu2 : t2.cur = 0 := u2.trans lu1
  have le2 : t2.ends = [] := e2.trans le1
  have lp2 : t2.pol = 3 := x2.pol.trans lp1
  have lm2 : t2.lim = 1 := x2.lim.trans lm1
  have k2 := x2.calm
  clear n2 l2 e2 u2 x2
  obtain ⟨t3, r3, l3, e3, u3, x3⟩ := reqQ (u := 220) k2 (by rw [lp2]; decide) (c := 1) (n := 3) (at_ := 2) (rq := []) (by omega) (by decide) (by rw [ll2]; decide) (by rw [ll2]; decide) (by rw [ll2]; decide)
  have i3 := Inv.requestS i2 1 3 2 []
  have a2 : acceptsB t2 = false := by unfold acceptsB; rw [lp2, lm2, ll2, lu2]; decide
  rw [a2] at r3 l3
  rw [r3] at i3
  rw [ll2] at l3
  have n3 := nextS_cur (s := t3) (by rw [u3, lu2]; decide)
  rw [n3] at r3 i3
  have ll3 : t3.l = [⟨1, 1, 2, 0, 0, [103, 111], []⟩, ⟨1, 2, 1, 1, 0, [], []⟩, ⟨1, 3, 7, 2, 2, [], []⟩] := l3
  have lu3 : t3.cur = 0 := u3.trans lu2
  have le3 : t3.ends = [] := e3.trans le2
  have k3 := x3.calm
  clear n3 l3 e3 u3
  obtain ⟨t4, r4, l4, e4, u4, x4⟩ := finQ (u := 100) k3 (by rw [lu3]; decide) (st := 4) (at_ := 5) (rs := [111, 107]) (by omega) (by rw [ll3]; decide) (by decide) (if_neg (by omega))
  have i4 := Inv.finishS i3 (st := 4) (by omega) 5 [111, 107]
  rw [r4] at i4
  rw [ll3, lu3] at l4
  rw [le3, lu3] at e4
  have l4' : t4.l = [⟨1, 1, 4, 0, 5, [103, 111], [111, 107]⟩, ⟨1, 2, 1, 1, 0, [], []⟩, ⟨1, 3, 7, 2, 2, [], []⟩] := l4
  have n4 := nextS_head (s := t4) (k := 1) (r := []) (by rw [u4]; decide) (by rw [l4']; rfl)
  have x4 := x4.next
  rw [n4] at r4 i4 x4
  refine ⟨A1, t2, t3, _, r1, r2, r3, r4, ⟨i1, k1.le (by omega), by rw [le1]; decide⟩, ⟨i2, k2.le (by omega), by rw [le2]; decide⟩, ⟨i3, k3.le (by omega), by rw [le3]; decide⟩, ⟨i4, x4.calm, by show t4.ends.length ≤ 1000; rw [e4]; decide⟩, ?_, e4, rfl⟩
  show t4.l.set 1 _ = _
  rw [l4']; rfl
end Go.Proofs.YthkimkgphaiagaaGreatDoor

namespace Go.Proofs.YthkimkgphaiagaaGreatDoor
open Go.RowKit
set_option linter.unusedVariables false
set_option linter.unusedSimpArgs false

/-- the goals after the requests -/
def gA (lim : Int) (k : Nat) : Gl := ⟨1, (k : Int) + 1, if k = 0 then 2 else if (k : Int) ≤ lim then 1 else 7, (k : Int) + 1, if (k : Int) ≤ lim then 0 else (k : Int) + 1, [], []⟩
/-- the goals after j ends -/
def gB (lim : Int) (n j k : Nat) : Gl := ⟨1, (k : Int) + 1, if k < j then 4 else if (k : Int) ≤ lim then (if k = j then 2 else 1) else 7, (k : Int) + 1, if k < j then (n : Int) + (k : Int) + 1 else if (k : Int) ≤ lim then 0 else (k : Int) + 1, [], []⟩
structure QA (lim : Int) (i : Nat) (s : Sv) : Prop where
  pol : s.pol = 3
  lm : s.lim = lim
  len : s.l.length = i
  g : ∀ k, k < i → gAt s.l k = gA lim k
  cur : s.cur = if i = 0 then -1 else 0
  ends : s.ends = []
  inv : Inv s
  calm : Calm s (120 * (41 - i) + 5000)
theorem QA.new {lim : Int} (h : 0 ≤ lim ∧ lim ≤ 64) : QA lim 0 ⟨3, lim, [], [], -1, 0, false, newM 262144, ⟨[], 0, false⟩⟩ :=
  ⟨rfl, rfl, rfl, fun k hk => by omega, rfl, rfl, inv_new _ _ _ _, calm_new (by omega) (by omega)⟩
theorem openL_count {l : List Gl} {b : Int} (hb : 0 ≤ b) (h : ∀ k, k < l.length → ((4 ≤ (gAt l k).st ∧ (gAt l k).st ≤ 7) ↔ ¬ (k : Int) ≤ b)) : ((openL l).length : Int) = min (l.length : Int) (b + 1) := by
  rw [← count_le l.length b hb]
  unfold openL
  congr 2
  apply List.filter_congr
  intro k hk
  rw [List.mem_range] at hk
  have := h k hk
  rw [← termF_iff] at this
  by_cases hkb : (k : Int) ≤ b
  · have h1 : termF (gAt l k).st = false := by rw [← Bool.not_eq_true, this]; simpa using hkb
    rw [h1, decide_eq_true hkb]; rfl
  · rw [this.2 hkb, decide_eq_false hkb]; rfl
theorem QA.acc {lim : Int} {i : Nat} {s : Sv} (h : QA lim i s) (h0 : 0 ≤ lim) : acceptsB s = decide ((i : Int) ≤ lim) := by
  unfold acceptsB
  rw [h.pol, if_neg (by omega), if_pos rfl, h.cur, h.lm]
  have hc := openL_count (l := s.l) h0 (fun k hk => by
    rw [h.len] at hk
    rw [h.g k hk]
    unfold gA
    dsimp only
    split
    · omega
    split <;> omega)
  rw [h.len] at hc
  simp only [decide_eq_decide]
  split <;> omega
theorem QA.step {lim : Int} {i : Nat} {s : Sv} (h : QA lim i s) (h0 : 0 ≤ lim ∧ lim ≤ 64) (hi : i < 40) : ∃ t, requestS s 1 ((i : Int) + 1) ((i : Int) + 1) [] = (decide ((i : Int) ≤ lim), 0, t) ∧ QA lim (i + 1) t := by
  have hga : ∀ k, k < s.l.length → (gAt s.l k).c = 1 ∧ (gAt s.l k).n = (k : Int) + 1 ∧ (gAt s.l k).at_ ≤ (i : Int) + 1 ∧ (gAt s.l k).en ≤ (i : Int) + 1 := by
    intro k hk
    rw [h.len] at hk
    rw [h.g k hk]
    unfold gA
    dsimp only
    refine ⟨rfl, rfl, by omega, ?_⟩
    split <;> omega
  obtain ⟨t, r, l, e, u, x⟩ := reqQ (u := 120 * (41 - (i + 1)) + 5000) (h.calm.le (by omega)) (by rw [h.pol]; omega) (c := 1) (n := (i : Int) + 1) (at_ := (i : Int) + 1) (rq := []) (by omega) (by simp)
    (findG_no fun k hk h2 => by have := hga k hk; have := h.len; omega) (latF_le (by omega) fun k hk => by have := hga k hk; omega) (by rw [h.len]; omega)
  have hinv := Inv.requestS h.inv 1 ((i : Int) + 1) ((i : Int) + 1) []
  rw [h.acc h0.1] at r l
  rw [r] at hinv
  refine ⟨nextS t, r, ?_⟩
  have htl : t.l.length = i + 1 := by rw [l, List.length_append, h.len]; rfl
  have hg : ∀ k, k < i + 1 → gAt t.l k = if k = i then decG1 ⟨1, (i : Int) + 1, 0, (i : Int) + 1, 0, [], []⟩ (decide ((i : Int) ≤ lim)) else gA lim k := by
    intro k hk
    rw [l, gAt_snoc _ _ _ (by rw [h.len]; exact hk), h.len]
    split
    · rfl
    · exact h.g k (by omega)
  have xn := x.next
  by_cases hi0 : i = 0
  · subst hi0
    have hlim : decide (((0 : Nat) : Int) ≤ lim) = true := decide_eq_true h0.1
    have g0 : gAt t.l 0 = ⟨1, 1, 1, 1, 0, [], []⟩ := by rw [hg 0 (by omega), if_pos rfl, hlim]; rfl
    obtain ⟨rr, hr⟩ := openL_head (l := t.l) (k := 0) (by omega) (by rw [g0]; decide) (fun i hi => by omega)
    have n := nextS_head (s := t) (by rw [u, h.cur]; decide) hr
    have hset : (nextS t).l = t.l.set 0 { gAt t.l 0 with st := 2 } := by rw [n]
    have hcu : (nextS t).cur = 0 := by rw [n]; rfl
    have hen : (nextS t).ends = [] := by rw [n]; exact e.trans h.ends
    refine ⟨xn.pol.trans h.pol, xn.lim.trans h.lm, by rw [hset, List.length_set]; exact htl, fun k hk => ?_, hcu, hen, hinv, xn.calm⟩
    have hk0 : k = 0 := by omega
    subst hk0
    rw [hset, gAt_set (by omega), if_pos rfl, g0]
    unfold gA
    have h00 : ((0 : Nat) : Int) ≤ lim := h0.1
    rw [if_pos h00, if_pos h00]; rfl
  · have n := nextS_cur (s := t) (by rw [u, h.cur, if_neg hi0]; decide)
    rw [n] at hinv xn ⊢
    refine ⟨xn.pol.trans h.pol, xn.lim.trans h.lm, htl, fun k hk => ?_, by rw [u, h.cur, if_neg hi0, if_neg (by omega)], e.trans h.ends, hinv, xn.calm⟩
    rw [hg k hk]
    split
    · rename_i hki
      subst hki
      unfold gA
      by_cases hkl : (k : Int) ≤ lim
      · rw [decide_eq_true hkl, if_neg hi0, if_pos hkl, if_pos hkl]; rfl
      · rw [decide_eq_false hkl, if_neg hi0, if_neg hkl, if_neg hkl]; rfl
    · rfl
def tkF (lim : Int) (n : Nat) : Nat := min n (lim + 1).toNat
structure QB (lim : Int) (n j : Nat) (s : Sv) : Prop where
  len : s.l.length = n
  g : ∀ k, k < n → gAt s.l k = gB lim n j k
  cur : s.cur = if j < tkF lim n then (j : Int) else -1
  ends : s.ends = List.range j
  inv : Inv s
  calm : Calm s (120 * (41 - j))
theorem QA.done {lim : Int} {n : Nat} {s : Sv} (h : QA lim n s) (h0 : 0 ≤ lim ∧ lim ≤ 64) (hn : n ≤ 40) : QB lim n 0 s := by
  refine ⟨h.len, fun k hk => ?_, ?_, h.ends, h.inv, h.calm.le (by omega)⟩
  · rw [h.g k hk]
    unfold gA gB
    simp only [Nat.not_lt_zero, if_false]
    by_cases hk0 : k = 0
    · have h00 : ((0 : Nat) : Int) ≤ lim := h0.1
      subst hk0; rw [if_pos rfl, if_pos rfl, if_pos h00, if_pos h00]
    · rw [if_neg hk0, if_neg hk0]
  · rw [h.cur]
    unfold tkF
    by_cases hn0 : n = 0
    · subst hn0; simp
    · rw [if_neg hn0, if_pos (by omega)]; rfl
theorem QB.step {lim : Int} {n j : Nat} {s : Sv} (h : QB lim n j s) (h0 : 0 ≤ lim ∧ lim ≤ 64) (hn : n ≤ 40) (hj : j < tkF lim n) : ∃ t, finishS s 4 ((n : Int) + ((j : Int) + 1)) [] = (0, t) ∧ QB lim n (j + 1) t := by
  have hjt : j < n ∧ (j : Int) ≤ lim := by unfold tkF at hj; omega
  have hcu : s.cur = (j : Int) := by rw [h.cur, if_pos hj]
  have hct : s.cur.toNat = j := by omega
  obtain ⟨t, r, l, e, u, x⟩ := finQ (u := 120 * (41 - (j + 1))) (h.calm.le (by omega)) (by omega) (st := 4) (at_ := (n : Int) + ((j : Int) + 1)) (rs := []) (by omega)
    (latF_le (by omega) fun k hk => by
      rw [h.len] at hk
      rw [h.g k hk]
      unfold gB
      dsimp only
      refine ⟨by omega, ?_⟩
      split
      · omega
      split <;> omega) (by simp) (if_neg (by omega))
  have hinv := Inv.finishS h.inv (st := 4) (by omega) ((n : Int) + ((j : Int) + 1)) []
  rw [r] at hinv
  rw [hct] at l e
  have htl : t.l.length = n := by rw [l, List.length_set]; exact h.len
  have hg : ∀ k, k < n → gAt t.l k = if k = j then endG (gB lim n j j) 4 ((n : Int) + ((j : Int) + 1)) [] else gB lim n j k := by
    intro k hk
    rw [l, gAt_set (by rw [h.len]; exact hjt.1), h.g j hjt.1]
    split
    · rfl
    · exact h.g k hk
  have hs : ∀ k, k < n → (gAt t.l k).st = if k ≤ j then 4 else if (k : Int) ≤ lim then 1 else 7 := by
    intro k hk
    rw [hg k hk]
    by_cases hkj : k = j
    · rw [if_pos hkj, if_pos (by omega)]; rfl
    · rw [if_neg hkj]
      unfold gB
      dsimp only
      by_cases hlt : k < j
      · rw [if_pos hlt, if_pos (by omega)]
      · simp only [hlt, hkj, show ¬ k ≤ j by omega, if_false]
  refine ⟨nextS t, r, ?_⟩
  have xn := x.next
  have gfin : ∀ k, k < n → k ≤ j → gAt t.l k = gB lim n (j + 1) k := by
    intro k hk hkj
    rw [hg k hk]
    split
    · rename_i e; subst e
      unfold gB endG
      simp only [Nat.lt_irrefl, if_false, Nat.lt_succ_self, if_true]
      congr 1 <;> omega
    · unfold gB
      simp only [show k < j by omega, show k < j + 1 by omega, if_true]
  have ends' : s.ends ++ [j] = List.range (j + 1) := by rw [h.ends, List.range_succ]
  by_cases hj1 : j + 1 < tkF lim n
  · have hj2 : j + 1 < n ∧ ((j + 1 : Nat) : Int) ≤ lim := by unfold tkF at hj1; omega
    obtain ⟨rr, hr⟩ := openL_head (l := t.l) (k := j + 1) (by omega) (by rw [hs _ hj2.1, if_neg (by omega), if_pos hj2.2]; omega) (fun i hi => by rw [hs i (by omega), if_pos (by omega)]; omega)
    have n1 := nextS_head (s := t) (by rw [u]; decide) hr
    have hset : (nextS t).l = t.l.set (j + 1) { gAt t.l (j + 1) with st := 2 } := by rw [n1]
    have hcu2 : (nextS t).cur = ((j + 1 : Nat) : Int) := by rw [n1]
    have hen : (nextS t).ends = List.range (j + 1) := by rw [n1]; exact e.trans ends'
    refine ⟨by rw [hset, List.length_set]; exact htl, fun k hk => ?_, by rw [hcu2, if_pos hj1], hen, hinv, xn.calm⟩
    rw [hset, gAt_set (by omega)]
    split
    · rename_i ek; subst ek
      rw [hg _ hk, if_neg (by omega)]
      unfold gB
      simp only [Nat.lt_irrefl, show ¬ j + 1 < j by omega, hj2.2, if_false, if_true]
    · rename_i hne
      by_cases hkj : k ≤ j
      · exact gfin k hk hkj
      · rw [hg k hk, if_neg (by omega)]
        unfold gB
        simp only [show ¬ k < j by omega, show ¬ k < j + 1 by omega, show ¬ k = j by omega, hne, if_false]
  · have ho : openL t.l = [] := openL_nil fun k hk => by
      rw [htl] at hk
      rw [hs k hk]
      by_cases hkj : k ≤ j
      · rw [if_pos hkj]; omega
      · have hkl : ¬ (k : Int) ≤ lim := by unfold tkF at hj1; omega
        rw [if_neg hkj, if_neg hkl]; omega
    have n1 := nextS_nil ho
    rw [n1] at hinv xn ⊢
    refine ⟨htl, fun k hk => ?_, by rw [u, if_neg hj1], e.trans ends', hinv, xn.calm⟩
    by_cases hkj : k ≤ j
    · exact gfin k hk hkj
    · have hkl : ¬ (k : Int) ≤ lim := by unfold tkF at hj1; omega
      rw [hg k hk, if_neg (by omega)]
      unfold gB
      simp only [show ¬ k < j by omega, show ¬ k < j + 1 by omega, hkl, if_false]
theorem QB.current {lim : Int} {n j : Nat} {s : Sv} (h : QB lim n j s) (hj : j < tkF lim n) : curS s = (gB lim n j j, true) := by
  have hjt : j < n := by unfold tkF at hj; omega
  unfold curS
  rw [h.cur, if_pos hj, if_neg (by omega), Int.toNat_natCast, h.g j hjt]
theorem QB.gj {lim : Int} {n j : Nat} (hj : j < tkF lim n) : gB lim n j j = ⟨1, (j : Int) + 1, 2, (j : Int) + 1, 0, [], []⟩ := by
  have hjt : (j : Int) ≤ lim := by unfold tkF at hj; omega
  unfold gB
  simp only [Nat.lt_irrefl, hjt, if_false, if_true]
theorem QB.idle {lim : Int} {n : Nat} {s : Sv} (h : QB lim n (tkF lim n) s) : curS s = (.zero, false) := by
  have hc : s.cur = -1 := by rw [h.cur, if_neg (Nat.lt_irrefl _)]
  unfold curS
  rw [hc, if_pos (by decide)]
end Go.Proofs.YthkimkgphaiagaaGreatDoor
