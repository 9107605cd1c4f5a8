/- A client and a server that talk, in plain words: what the client knows of its goals agrees with what the server has, and a round between them. No conditions. -/
import Derived.Test.YthkimkgphaiagaaGreatDoorNA
import Derived.Test.YthkimkgphaiagaaGreatDoorMP
import Derived.Test.YthkimkgphaiagaaGreatDoorSon

namespace Go.Proofs.YthkimkgphaiagaaGreatDoor
open Go.RowKit
set_option linter.unusedVariables false
set_option linter.unusedSimpArgs false

/-! ## What a client knows -/
/-- what a client knows of its goal with number n -/
structure Knows (l : List Gl) (num n : Int) (g : Ce) : Prop where
  rng : 0 ≤ g.st ∧ g.st ≤ 7 ∧ g.st ≠ 3
  res : (g.st < 4 ∨ g.st = 7) → g.res = []
  at_ : g.st = 0 ∨ ∃ k, k < l.length ∧ (gAt l k).c = num ∧ (gAt l k).n = n ∧
    ((g.st < 4 ∧ (gAt l k).st ≠ 7) ∨ (g.st = 7 ∧ (gAt l k).st = 7) ∨ (4 ≤ g.st ∧ g.st ≤ 6 ∧ (gAt l k).st = g.st ∧ (gAt l k).rs = g.res))
theorem Knows.new (l : List Gl) (num n : Int) (t : List UInt8) (at_ : Int) : Knows l num n (goal0 t at_) := ⟨⟨show (0 : Int) ≤ 0 by decide, show (0 : Int) ≤ 7 by decide, show (0 : Int) ≠ 3 by decide⟩, fun _ => rfl, .inl rfl⟩
theorem Knows.up {l l' : List Gl} (hu : Up l l') {num n : Int} {g : Ce} (h : Knows l num n g) : Knows l' num n g := by
  refine ⟨h.rng, h.res, ?_⟩
  rcases h.at_ with h0 | ⟨k, hk, hc, hn, hs⟩
  · exact .inl h0
  · have hi := hu.id k hk
    have hr := hu.rej k hk
    refine .inr ⟨k, Nat.lt_of_lt_of_le hk hu.len, hi.1.trans hc, hi.2.trans hn, ?_⟩
    rcases hs with ⟨h1, h2⟩ | ⟨h1, h2⟩ | ⟨h1, h2, h3, h4⟩
    · exact .inl ⟨h1, fun e => h2 (hr.1 e)⟩
    · exact .inr (.inl ⟨h1, hr.2 h2⟩)
    · rw [hu.fin k hk (by omega)]
      exact .inr (.inr ⟨h1, h2, h3, h4⟩)
/-- ids name goals -/
def Dist (l : List Gl) : Prop := ∀ i j, i < l.length → j < l.length → (gAt l i).c = (gAt l j).c → (gAt l i).n = (gAt l j).n → i = j
section
variable {l : List Gl} {num n : Int} {g : Ce} {k : Nat}
theorem Knows.here (hd : Dist l) (h : Knows l num n g) (hk : k < l.length) (hc : (gAt l k).c = num) (hn : (gAt l k).n = n) :
    g.st = 0 ∨ (g.st < 4 ∧ (gAt l k).st ≠ 7) ∨ (g.st = 7 ∧ (gAt l k).st = 7) ∨ (4 ≤ g.st ∧ g.st ≤ 6 ∧ (gAt l k).st = g.st ∧ (gAt l k).rs = g.res) := by
  rcases h.at_ with h0 | ⟨j, hj, hc2, hn2, hs⟩
  · exact .inl h0
  · have := hd j k hj hk (hc2.trans hc.symm) (hn2.trans hn.symm)
    subst this
    exact .inr hs
/-- the client is told that its goal is accepted, or executed -/
theorem Knows.acc (hd : Dist l) (h : Knows l num n g) (hk : k < l.length) (hc : (gAt l k).c = num) (hn : (gAt l k).n = n) (h7 : (gAt l k).st ≠ 7) {kind told : Int} (hkd : kind = 3 ∨ kind = 9) (tx : List UInt8) :
    (g.recv kind told tx).1 = 0 ∧ Knows l num n (g.recv kind told tx).2 ∧ (4 ≤ g.st → (g.recv kind told tx).2.st = g.st) ∧ ((g.recv kind told tx).2.req = g.req ∧ (g.recv kind told tx).2.next = g.next) := by
  have hr := h.rng
  have hs := h.here hd hk hc hn
  have hg7 : g.st ≠ 7 := by omega
  have key : ∀ st', (st' = g.st ∨ (g.st < 4 ∧ 0 < st' ∧ st' < 3)) → Knows l num n { g with st := st' } := by
    intro st' hst
    refine ⟨by dsimp only; omega, fun hx => h.res (by dsimp only at hx; omega), ?_⟩
    rcases hst with e | ⟨h1, h2, h3⟩
    · rw [e]; exact h.at_
    · refine .inr ⟨k, hk, hc, hn, .inl ⟨by dsimp only; omega, h7⟩⟩
  unfold Ce.recv
  rw [if_neg (by omega), if_neg (by omega), if_neg hg7]
  by_cases h3 : kind = 3
  · rw [if_pos h3]
    dsimp only
    split
    · rename_i h0
      exact ⟨rfl, key 1 (.inr ⟨by omega, by omega, by omega⟩), fun _ => by omega, rfl, rfl⟩
    · exact ⟨rfl, h, fun _ => rfl, rfl, rfl⟩
  · rw [if_neg h3]
    dsimp only
    rw [if_neg (by omega)]
    refine ⟨rfl, key _ ?_, fun _ => ?_, rfl, rfl⟩
    · split
      · exact .inr ⟨by omega, by omega, by omega⟩
      · exact .inl rfl
    · dsimp only; rw [if_neg (by omega)]
/-- the client is told that its goal is rejected -/
theorem Knows.rej (hd : Dist l) (h : Knows l num n g) (hk : k < l.length) (hc : (gAt l k).c = num) (hn : (gAt l k).n = n) (h7 : (gAt l k).st = 7) (told : Int) (tx : List UInt8) :
    (g.recv 4 told tx).1 = 0 ∧ Knows l num n (g.recv 4 told tx).2 ∧ (g.recv 4 told tx).2.st = 7 ∧ ((g.recv 4 told tx).2.req = g.req ∧ (g.recv 4 told tx).2.next = g.next) := by
  have hr := h.rng
  have hs := h.here hd hk hc hn
  unfold Ce.recv
  rw [if_pos rfl]
  unfold Ce.reject
  by_cases h0 : g.st = 0
  · rw [if_pos h0]
    exact ⟨rfl, ⟨by dsimp only; omega, fun _ => h.res (by omega), .inr ⟨k, hk, hc, hn, .inr (.inl ⟨rfl, h7⟩)⟩⟩, rfl, rfl, rfl⟩
  · have hg : g.st = 7 := by omega
    rw [if_neg h0, if_pos hg]
    exact ⟨rfl, h, hg, rfl, rfl⟩
/-- the client is told the outcome -/
theorem Knows.fin (hd : Dist l) (h : Knows l num n g) (hk : k < l.length) (hc : (gAt l k).c = num) (hn : (gAt l k).n = n) (h4 : 4 ≤ (gAt l k).st ∧ (gAt l k).st ≤ 6) {kind : Int} (hkd : kind = (gAt l k).st + 2) (told : Int) :
    (g.recv kind told (gAt l k).rs).1 = 0 ∧ Knows l num n (g.recv kind told (gAt l k).rs).2 ∧ (g.recv kind told (gAt l k).rs).2.st = (gAt l k).st ∧ ((g.recv kind told (gAt l k).rs).2.req = g.req ∧ (g.recv kind told (gAt l k).rs).2.next = g.next) := by
  have hr := h.rng
  have hs := h.here hd hk hc hn
  unfold Ce.recv
  rw [if_neg (by omega), if_pos (by omega)]
  have e : kind - 6 + 4 = (gAt l k).st := by omega
  rw [e]
  unfold Ce.end_
  by_cases hlt : g.st < 4
  · rw [if_pos hlt]
    exact ⟨rfl, ⟨by dsimp only; omega, fun hx => by dsimp only at hx; omega, .inr ⟨k, hk, hc, hn, .inr (.inr ⟨h4.1, h4.2, rfl, rfl⟩)⟩⟩, rfl, rfl, rfl⟩
  · rw [if_neg hlt]
    rcases hs with hs | hs | hs | ⟨h1, h2, h3, h5⟩
    · omega
    · omega
    · omega
    · rw [if_neg (by rw [h3, h5]; simp)]
      exact ⟨rfl, h, h3.symm, rfl, rfl⟩
end
/-- what a server answers to a request for a goal in state st -/
def repK (st : Int) : Int := if st = 1 then 3 else if st = 7 then 4 else if 4 ≤ st ∧ st ≤ 6 then st + 2 else 9
def repT (g : Gl) : List UInt8 := if 4 ≤ g.st ∧ g.st ≤ 6 then g.rs else []
theorem Knows.reply {l : List Gl} (hd : Dist l) {num n : Int} {g : Ce} (h : Knows l num n g) {k : Nat} (hk : k < l.length) (hc : (gAt l k).c = num) (hn : (gAt l k).n = n) (hst : 1 ≤ (gAt l k).st ∧ (gAt l k).st ≤ 7) :
    (g.recv (repK (gAt l k).st) 0 (repT (gAt l k))).1 = 0 ∧ Knows l num n (g.recv (repK (gAt l k).st) 0 (repT (gAt l k))).2 ∧ ((4 ≤ g.st ∨ 4 ≤ (gAt l k).st) → 4 ≤ (g.recv (repK (gAt l k).st) 0 (repT (gAt l k))).2.st) ∧
      ((g.recv (repK (gAt l k).st) 0 (repT (gAt l k))).2.req = g.req ∧ (g.recv (repK (gAt l k).st) 0 (repT (gAt l k))).2.next = g.next) := by
  have hs := h.here hd hk hc hn
  by_cases h7 : (gAt l k).st = 7
  · have e : repK (gAt l k).st = 4 := by rw [h7]; rfl
    rw [e]
    obtain ⟨a, b, c, d⟩ := h.rej hd hk hc hn h7 0 (repT (gAt l k))
    exact ⟨a, b, fun _ => by omega, d⟩
  · by_cases h46 : 4 ≤ (gAt l k).st ∧ (gAt l k).st ≤ 6
    · have e : repK (gAt l k).st = (gAt l k).st + 2 := by unfold repK; rw [if_neg (by omega), if_neg h7, if_pos h46]
      have e2 : repT (gAt l k) = (gAt l k).rs := by unfold repT; rw [if_pos h46]
      rw [e2]
      obtain ⟨a, b, c, d⟩ := h.fin hd hk hc hn h46 e 0
      exact ⟨a, b, fun _ => by omega, d⟩
    · have e : repK (gAt l k).st = 3 ∨ repK (gAt l k).st = 9 := by
        unfold repK
        by_cases h1 : (gAt l k).st = 1
        · rw [if_pos h1]; exact .inl rfl
        · rw [if_neg h1, if_neg h7, if_neg h46]; exact .inr rfl
      obtain ⟨a, b, c, d⟩ := h.acc (told := 0) hd hk hc hn h7 e (repT (gAt l k))
      exact ⟨a, b, fun hx => by omega, d⟩

/-! ## Open goals -/
theorem openL_same {l : List Gl} {i : Nat} (hi : i < l.length) {y : Gl} (h : termF y.st = termF (gAt l i).st) : openL (l.set i y) = openL l := by
  unfold openL
  rw [List.length_set]
  apply List.filter_congr
  intro k _
  rw [gAt_set hi]
  split
  · rename_i e; rw [e, h]
  · rfl
theorem filter_drop {n i : Nat} (hi : i < n) {p q : Nat → Bool} (hp : p i = true) (hq : q i = false) (hs : ∀ k, k ≠ i → p k = q k) : ((List.range n).filter q).length + 1 = ((List.range n).filter p).length := by
  induction n with
  | zero => omega
  | succ n ih =>
    rw [List.range_succ, List.filter_append, List.filter_append, List.length_append, List.length_append]
    by_cases h : i = n
    · subst h
      have e : (List.range i).filter q = (List.range i).filter p := by
        apply List.filter_congr
        intro k hk
        rw [List.mem_range] at hk
        exact (hs k (by omega)).symm
      rw [e]
      simp [List.filter_cons, hp, hq]
    · have := ih (by omega)
      have e : [n].filter q = [n].filter p := by
        simp [List.filter_cons, hs n (fun e => h e.symm)]
      rw [e]; omega
theorem openL_end {l : List Gl} {i : Nat} (hi : i < l.length) {y : Gl} (h0 : termF (gAt l i).st = false) (h : termF y.st = true) : (openL (l.set i y)).length + 1 = (openL l).length := by
  unfold openL
  rw [List.length_set]
  refine filter_drop hi (by rw [h0]; rfl) (by rw [gAt_set hi, if_pos rfl, h]; rfl) (fun k hk => by rw [gAt_set hi, if_neg hk])
theorem openL_snoc (l : List Gl) (g : Gl) : (openL (l ++ [g])).length = (openL l).length + if termF g.st = true then 0 else 1 := by
  unfold openL
  rw [List.length_append, List.length_singleton, List.range_succ, List.filter_append, List.length_append]
  congr 1
  · congr 1
    apply List.filter_congr
    intro k hk
    rw [List.mem_range] at hk
    rw [gAt_snoc l g k (by omega), if_neg (by omega)]
  · rw [List.filter_cons, gAt_snoc l g _ (by omega), if_pos rfl]
    cases termF g.st <;> rfl
theorem nextS_open {s : Sv} : openL (nextS s).l = openL s.l := by
  unfold nextS
  split
  · rfl
  split
  · rfl
  · rename_i i r hr
    have hi : i ∈ openL s.l := by rw [hr]; exact List.mem_cons_self ..
    rw [openL_mem] at hi
    exact openL_same hi.1 (by rw [hi.2]; rfl)
theorem nextS_all {s : Sv} {P : Gl → Prop} (h : ∀ g ∈ s.l, P g) (h2 : ∀ g, P g → P { g with st := 2 }) : ∀ g ∈ (nextS s).l, P g := by
  unfold nextS
  split
  · exact h
  split
  · exact h
  · rename_i i r hr
    have hi : i ∈ openL s.l := by rw [hr]; exact List.mem_cons_self ..
    rw [openL_mem] at hi
    intro g hg
    rcases List.mem_or_eq_of_mem_set hg with hg | rfl
    · exact h g hg
    · exact h2 _ (h _ (gAt_mem hi.1))
theorem nextS_m (s : Sv) : (nextS s).m = s.m ∧ (nextS s).j = s.j ∧ (nextS s).stop = s.stop ∧ (nextS s).pol = s.pol ∧ (nextS s).l.length = s.l.length ∧ (nextS s).ends = s.ends := by
  unfold nextS
  split
  · exact ⟨rfl, rfl, rfl, rfl, rfl, rfl⟩
  split
  · exact ⟨rfl, rfl, rfl, rfl, rfl, rfl⟩
  · exact ⟨rfl, rfl, rfl, rfl, List.length_set, rfl⟩
theorem Inv.busy {s : Sv} (h : Inv s) (ho : 0 < (openL s.l).length) : 0 ≤ s.cur := by
  rcases Int.lt_or_le s.cur 0 with hc | hc
  · exfalso
    have : openL s.l = [] := by
      rw [List.eq_nil_iff_forall_not_mem]
      intro i hi
      rw [openL_mem] at hi
      have h1 := h.idle hc i hi.1
      have h2 := h.c1 i hi.1
      have h3 := h.st i hi.1
      have h4 : ¬ (4 ≤ (gAt s.l i).st ∧ (gAt s.l i).st ≤ 7) := by rw [← termF_iff, hi.2]; simp
      omega
    rw [this] at ho; simp at ho
  · exact hc
/-- no more goals than numbers -/
theorem pigeon : ∀ (N m : Nat) (f : Nat → Int), (∀ k, k < m → 1 ≤ f k ∧ f k ≤ N) → (∀ i j, i < m → j < m → f i = f j → i = j) → m ≤ N
  | 0, m, f, h, _ => by
    rcases Nat.eq_zero_or_pos m with e | e
    · omega
    · have := h 0 e; omega
  | N + 1, m, f, h, hd => by
    by_cases hx : ∃ k, k < m ∧ f k = ((N + 1 : Nat) : Int)
    · obtain ⟨k, hk, he⟩ := hx
      have := pigeon N (m - 1) (fun j => if j = k then f (m - 1) else f j) (fun j hj => by
        have hne : ∀ i, i < m → i ≠ k → f i ≤ (N : Int) := fun i hi hik => by
          have h1 := h i hi
          have h2 : f i ≠ ((N + 1 : Nat) : Int) := fun e => hik (hd i k hi hk (e.trans he.symm))
          omega
        try dsimp only
        split
        · exact ⟨(h (m - 1) (by omega)).1, hne (m - 1) (by omega) (by omega)⟩
        · rename_i hjk; exact ⟨(h j (by omega)).1, hne j (by omega) hjk⟩) (fun i j hi hj hij => by
        try dsimp only at hij
        split at hij <;> split at hij
        · omega
        · have := hd _ _ (by omega) (by omega) hij; omega
        · have := hd _ _ (by omega) (by omega) hij; omega
        · exact hd _ _ (by omega) (by omega) hij)
      omega
    · have := pigeon N m f (fun k hk => by
        have h1 := h k hk
        have h2 : f k ≠ ((N + 1 : Nat) : Int) := fun e => hx ⟨k, hk, e⟩
        omega) hd
      omega
end Go.Proofs.YthkimkgphaiagaaGreatDoor

namespace Go.Proofs.YthkimkgphaiagaaGreatDoor
open Go.RowKit
set_option linter.unusedVariables false
set_option linter.unusedSimpArgs false

def wGo : List UInt8 := [103, 111]
/-- a goal of the client 5 that has happened up to now -/
structure GoodG (N : Nat) (now : Int) (g : Gl) : Prop where
  c : g.c = 5
  n : 1 ≤ g.n ∧ g.n ≤ (N : Int)
  t : g.at_ ≤ now ∧ g.en ≤ now
  rj : g.st = 7 → g.rs = []
/-- the server of a join -/
structure JS (N : Nat) (now : Int) (s : Sv) : Prop where
  inv : Inv s
  on : ∃ L safe, On s L safe 400
  calm : Calm s (240 * (N - s.l.length) + 120 * (openL s.l).length)
  good : ∀ g ∈ s.l, GoodG N now g
  pol : s.pol = 3
  now : 1 ≤ now ∧ now ≤ 1000000
  n12 : N ≤ 12
theorem ends_len {p : GE} (hgi : GI p) : p.2.length ≤ 64 :=
  pigeon 64 p.2.length (fun k => ((p.2.getD k 0 : Nat) : Int) + 1) (fun k hk => by
    have hm : p.2.getD k 0 ∈ p.2 := by rw [List.getD_eq_getElem?_getD, List.getElem?_eq_getElem hk]; exact List.getElem_mem hk
    have := (hgi.ends _).1 hm
    have h2 := hgi.len
    try dsimp only
    omega) (fun i j hi hj hij => by
    have e1 : p.2.getD i 0 = p.2[i] := by rw [List.getD_eq_getElem?_getD, List.getElem?_eq_getElem hi]; rfl
    have e2 : p.2.getD j 0 = p.2[j] := by rw [List.getD_eq_getElem?_getD, List.getElem?_eq_getElem hj]; rfl
    rw [e1, e2] at hij
    have hij' : p.2[i] = p.2[j] := by omega
    have hp := List.pairwise_iff_getElem.1 hgi.nodup
    rcases Nat.lt_trichotomy i j with h | h | h
    · exact absurd hij' (hp i j hi hj h)
    · exact h
    · exact absurd hij'.symm (hp j i hj hi h))
theorem On.low {s : Sv} {L : List (List UInt8)} {safe i : Nat} (h : On s L safe i) (hd : s.m.down = false) : On s L safe 200 := by
  obtain ⟨q, hq⟩ := h.all
  have hgi := GI.nil.repA hq
  have hlen : L.length ≤ 128 := by
    have key : ∀ (L : List (List UInt8)) (p q : GE), repA p L = some q → L.length + p.1.length + p.2.length ≤ q.1.length + q.2.length := by
      intro L
      induction L with
      | nil => intro p q h; injection h with h; subst h; simp
      | cons x L ih =>
        intro p q h
        rw [repA] at h
        cases hr : rep1 p x with
        | none => rw [hr] at h; cases h
        | some r =>
          rw [hr] at h
          have h1 := ih r q h
          have h2 : p.1.length + p.2.length + 1 ≤ r.1.length + r.2.length := by
            unfold rep1 at hr
            split at hr
            · cases hr
            split at hr
            · cases hr
            split at hr
            · split at hr
              · injection hr with hr; subst hr; simp; omega
              · cases hr
            · split at hr
              · injection hr with hr; subst hr; simp; omega
              · cases hr
          rw [List.length_cons]; omega
    have h1 := key L _ _ hq
    have h2 := hgi.len
    have h3 := ends_len hgi
    simp only [List.length_nil] at h1
    omega
  obtain ⟨h1, h2, h3⟩ := h.pre.up hd
  exact ⟨⟨h.pre.ok, h.pre.pre, h.pre.up, h.pre.sl, h.pre.dur, h.pre.small, by omega, by rw [h3]; omega⟩, h.all, h.now, h.live, h.gi⟩
section
variable {N : Nat} {now : Int} {s : Sv}
theorem JS.dist (h : JS N now s) : Dist s.l := by
  obtain ⟨L, safe, ho⟩ := h.on
  exact ho.gi.dist
theorem JS.svk (h : JS N now s) {n : Nat} (hn : n ≤ 800000) : Svk s n := by
  obtain ⟨L, safe, ho⟩ := h.on
  have h1 := ends_len ho.gi
  have h2 := ho.gi.len
  have h3 := ho.pre.jl
  dsimp only at h1 h2
  exact ⟨ho.pre.ok, by omega, h2, by omega⟩
theorem JS.st (h : JS N now s) {k : Nat} (hk : k < s.l.length) : 1 ≤ (gAt s.l k).st ∧ (gAt s.l k).st ≤ 7 := h.inv.st k hk
theorem JS.goodAt (h : JS N now s) {k : Nat} (hk : k < s.l.length) : GoodG N now (gAt s.l k) := h.good _ (gAt_mem hk)
theorem JS.len (h : JS N now s) : s.l.length ≤ N :=
  pigeon N s.l.length (fun k => (gAt s.l k).n) (fun k hk => (h.goodAt hk).n) (fun i j hi hj e => h.dist i j hi hj ((h.goodAt hi).c.trans (h.goodAt hj).c.symm) e)
theorem JS.open_le (h : JS N now s) : (openL s.l).length ≤ s.l.length := openL_len s.l
theorem JS.lat (h : JS N now s) : latF s.l ≤ now := latF_le (by have := h.now; omega) (fun k hk => (h.goodAt hk).t)
/-- time goes on -/
theorem JS.later (h : JS N now s) {now' : Int} (hn : now ≤ now' ∧ now' ≤ 1000000) : JS N now' s :=
  ⟨h.inv, h.on, h.calm, fun g hg => by obtain ⟨a, b, c, d⟩ := h.good g hg; exact ⟨a, b, by omega, d⟩, h.pol, by have := h.now; omega, h.n12⟩
theorem recS_pol (s : Sv) (x : List UInt8) : (recS s x).2.pol = s.pol := (recS_4 s x).pol
theorem endS_fst {i : Nat} {st at_ : Int} {rs : List UInt8} (h : (endS s i st at_ rs).1 = 0) : (endS s i st at_ rs).2.l = s.l.set i (endG (gAt s.l i) st at_ rs) := (endS_ok h).1
/-- an open goal ends -/
theorem JS.ends_ (h : JS N now s) {i : Nat} (hi : i < s.l.length) (ho : termF (gAt s.l i).st = false) {st : Int} (hs : 4 ≤ st ∧ st ≤ 6) {rs : List UInt8} (hr : rs.length ≤ 20) :
    (endS s i st now rs).1 = 0 ∧ Calm (endS s i st now rs).2 (240 * (N - s.l.length) + 120 * (openL (endS s i st now rs).2.l).length) ∧ (∀ g ∈ (endS s i st now rs).2.l, GoodG N now g) ∧ (endS s i st now rs).2.pol = 3 ∧
      (openL (endS s i st now rs).2.l).length + 1 = (openL s.l).length ∧ (endS s i st now rs).2.l.length = s.l.length := by
  have h0 := openL_end hi (y := endG (gAt s.l i) st now rs) ho ((termF_iff st).2 (by omega))
  have hc := endS_calm (u := 240 * (N - s.l.length) + 120 * (openL (s.l.set i (endG (gAt s.l i) st now rs))).length) (h.calm.le (by omega)) i st now hr
  have hl := endS_fst hc.1
  rw [hl]
  refine ⟨hc.1, hc.2.1, fun g hg => ?_, hc.2.2.pol.trans h.pol, h0, List.length_set⟩
  rcases List.mem_or_eq_of_mem_set hg with hg | rfl
  · exact h.good g hg
  · have hq := h.goodAt hi
    exact ⟨hq.c, hq.n, ⟨hq.t.1, Int.le_refl _⟩, fun e => by have e : st = 7 := e; omega⟩
/-- the current goal ends -/
theorem JS.finish (h : JS N now s) (hc : 0 ≤ s.cur) {st : Int} (hs : st = 4 ∨ st = 5) {rs : List UInt8} (hr : rs.length ≤ 20) :
    (finishS s st now rs).1 = 0 ∧ JS N now (finishS s st now rs).2 ∧ (openL (finishS s st now rs).2.l).length + 1 = (openL s.l).length ∧ Up s.l (finishS s st now rs).2.l ∧ (finishS s st now rs).2.l.length = s.l.length := by
  obtain ⟨L, safe, ho⟩ := h.on
  obtain ⟨⟨L2, safe2, ho2⟩, hup⟩ := ho.finishS h.inv hs now rs
  have hI2 := h.inv.finishS hs now rs
  obtain ⟨hi, hst⟩ := h.inv.c2 hc
  have hop : termF (gAt s.l s.cur.toNat).st = false := by rw [← Bool.not_eq_true, termF_iff]; omega
  have hla := h.lat
  have hn := h.now
  have e : ∃ st', (4 ≤ st' ∧ st' ≤ 6) ∧ finishS s st now rs = if (endS s s.cur.toNat st' now rs).1 ≠ 0 then endS s s.cur.toNat st' now rs else (0, nextS (endS s s.cur.toNat st' now rs).2) := by
    refine ⟨if st = 5 ∧ (gAt s.l s.cur.toNat).st = 3 then 6 else st, by split <;> omega, ?_⟩
    unfold finishS
    rw [if_neg (by rw [h.calm.sv]; simp), if_neg (by omega), if_neg (by omega), if_neg (by omega), if_neg (by omega)]
  obtain ⟨st', hs', e⟩ := e
  obtain ⟨h1, h2, h3, h4, h5, h6⟩ := h.ends_ hi hop hs' hr
  rw [if_neg (by simpa using h1)] at e
  rw [e] at ho2 hup hI2 ⊢
  dsimp only at ho2 hup hI2 ⊢
  obtain ⟨g1, g2, g3, g4, g5, g6⟩ := nextS_m (endS s s.cur.toNat st' now rs).2
  have hcm : Calm (nextS (endS s s.cur.toNat st' now rs).2) (240 * (N - s.l.length) + 120 * (openL (endS s s.cur.toNat st' now rs).2.l).length) := h2.like g1 g2 g3
  refine ⟨rfl, ⟨hI2, ⟨L2, safe2, (ho2.low hcm.up).later (by omega)⟩, ?_, nextS_all h3 (fun g hg => ⟨hg.c, hg.n, hg.t, fun e => by have e : (2 : Int) = 7 := e; omega⟩), g4.trans h4, h.now, h.n12⟩, ?_, hup, g5.trans h6⟩
  · rw [nextS_open, g5, h6]; exact hcm
  · rw [nextS_open]; exact h5
/-- a goal is cancelled -/
theorem JS.cancel (h : JS N now s) (n : Int) : JS N now (cancelS s 5 n now).2 ∧ (openL (cancelS s 5 n now).2.l).length ≤ (openL s.l).length ∧ Up s.l (cancelS s 5 n now).2.l ∧ (cancelS s 5 n now).2.l.length = s.l.length := by
  obtain ⟨L, safe, ho⟩ := h.on
  obtain ⟨⟨L2, safe2, ho2⟩, hup⟩ := ho.cancelS h.inv 5 n now
  have hI2 := h.inv.cancelS 5 n now
  have base : JS N now s ∧ (openL s.l).length ≤ (openL s.l).length ∧ Up s.l s.l ∧ s.l.length = s.l.length := ⟨h, Nat.le_refl _, Up.refl _, rfl⟩
  unfold cancelS at ho2 hup hI2 ⊢
  split
  · exact base
  rename_i hstop
  rw [if_neg hstop] at ho2 hup hI2
  split
  · exact base
  rename_i i hf
  rw [hf] at ho2 hup hI2
  dsimp only at ho2 hup hI2
  split
  · exact base
  rename_i h1
  rw [if_neg h1] at ho2 hup hI2
  split
  · exact base
  rename_i h2
  rw [if_neg h2] at ho2 hup hI2
  split
  · exact base
  rename_i h3
  rw [if_neg h3] at ho2 hup hI2
  have hi := findG_lt hf
  have hop : termF (gAt s.l i).st = false := by rw [← Bool.not_eq_true]; exact fun e => h3 (.inl e)
  split
  · rename_i hcur
    rw [if_pos hcur] at ho2 hup hI2
    have e := openL_same hi (y := { gAt s.l i with st := 3 }) (by rw [hop]; rfl)
    refine ⟨⟨hI2, ⟨L2, safe2, (ho2.low h.calm.up).later (by omega)⟩, ?_, fun g hg => ?_, h.pol, h.now, h.n12⟩, ?_, hup, List.length_set⟩
    · dsimp only; rw [e, List.length_set]; exact h.calm.like rfl rfl rfl
    · rcases List.mem_or_eq_of_mem_set hg with hg | rfl
      · exact h.good g hg
      · have hq := h.goodAt hi
        exact ⟨hq.c, hq.n, hq.t, fun e => by have e : (3 : Int) = 7 := e; omega⟩
    · dsimp only; rw [e]; exact Nat.le_refl _
  · rename_i hcur
    rw [if_neg hcur] at ho2 hup hI2
    obtain ⟨g1, g2, g3, g4, g5, g6⟩ := h.ends_ hi hop (st := 6) ⟨by decide, by decide⟩ (rs := wCanceled) (by decide)
    exact ⟨⟨hI2, ⟨L2, safe2, (ho2.low g2.up).later (by omega)⟩, by rw [g6]; exact g2, g3, g4, h.now, h.n12⟩, by omega, hup, g6⟩
/-- a goal is requested -/
theorem JS.request (h : JS N now s) {n : Int} (hn : 1 ≤ n ∧ n ≤ (N : Int)) : (requestS s 5 n now wGo).2.1 = 0 ∧ JS N now (requestS s 5 n now wGo).2.2 ∧ Up s.l (requestS s 5 n now wGo).2.2.l ∧
    (∃ k, k < (requestS s 5 n now wGo).2.2.l.length ∧ findG (requestS s 5 n now wGo).2.2.l 5 n = some k) ∧ ((∃ k, k < s.l.length ∧ (gAt s.l k).c = 5 ∧ (gAt s.l k).n = n) → (requestS s 5 n now wGo).2.2 = s) := by
  obtain ⟨L, safe, ho⟩ := h.on
  obtain ⟨⟨L2, safe2, ho2⟩, hup, hex⟩ := ho.requestS h.inv 5 n now wGo
  have hI2 := h.inv.requestS 5 n now wGo
  have hla := h.lat
  have hnow := h.now
  have hlen := h.len
  have h12 := h.n12
  have hfind : ∀ {t : Sv} {L' : List (List UInt8)} {safe' i' : Nat}, On t L' safe' i' → (∃ k, k < t.l.length ∧ (gAt t.l k).c = 5 ∧ (gAt t.l k).n = n) → ∃ k, k < t.l.length ∧ findG t.l 5 n = some k := by
    rintro t L' safe' i' ho ⟨k, hk, hc, hn⟩
    refine ⟨k, hk, ?_⟩
    have := ho.gi.find hk
    dsimp only at this
    rw [hc, hn] at this; exact this
  have e1 : requestS s 5 n now wGo = match findG s.l 5 n with
      | some i => (decide ((gAt s.l i).st ≠ 7), 0, s)
      | none => let d := decideS s ⟨5, n, 0, now, 0, wGo, []⟩ (acceptsB s); if d.1 ≠ 0 then (false, d.1, d.2) else (acceptsB s, 0, nextS (preemptS d.2)) := by
    unfold requestS
    rw [if_neg (by omega), if_neg (by decide), if_neg (by rw [h.calm.sv]; simp)]
    cases findG s.l 5 n with
    | some i => rfl
    | none =>
      have hp : ¬ s.pol = 2 := by rw [h.pol]; decide
      dsimp only
      simp only [if_neg hp]
      rw [if_neg (by omega), if_neg (by omega), if_neg (show ¬ ((0 : Int) ≠ 0) by decide)]
  cases hf : findG s.l 5 n with
  | some i =>
    rw [hf] at e1
    dsimp only at e1
    rw [e1] at hex ⊢
    dsimp only at hex ⊢
    exact ⟨rfl, h, Up.refl _, ⟨i, findG_lt hf, hf⟩, fun _ => rfl⟩
  | none =>
    rw [hf] at e1
    have hno := findG_noid hf
    have hlt : s.l.length < N := by
      have := pigeon N (s.l.length + 1) (fun k => if k = s.l.length then n else (gAt s.l k).n) (fun k hk => by
        try dsimp only
        split
        · exact hn
        · exact (h.goodAt (by omega)).n) (fun i j hi hj hij => by
        try dsimp only at hij
        split at hij <;> split at hij
        · omega
        · exact absurd ⟨(h.goodAt (k := j) (by omega)).c, hij.symm⟩ (hno j (by omega))
        · exact absurd ⟨(h.goodAt (k := i) (by omega)).c, hij⟩ (hno i (by omega))
        · exact h.dist i j (by omega) (by omega) ((h.goodAt (by omega)).c.trans (h.goodAt (by omega)).c.symm) hij)
      omega
    have hd := decideS_calm (u := 240 * (N - (s.l.length + 1)) + 120 * ((openL s.l).length + 1)) (h.calm.le (by omega)) ⟨5, n, 0, now, 0, wGo, []⟩ (acceptsB s) (show wGo.length ≤ 20 by decide) rfl
    have hdl := (decideS_ok hd.1).1
    dsimp only at e1
    rw [if_neg (by simpa using hd.1)] at e1
    have hpre : preemptS (decideS s ⟨5, n, 0, now, 0, wGo, []⟩ (acceptsB s)).2 = (decideS s ⟨5, n, 0, now, 0, wGo, []⟩ (acceptsB s)).2 := by
      unfold preemptS
      rw [if_neg (by rw [hd.2.2.pol, h.pol]; omega)]
    rw [hpre] at e1
    obtain ⟨g1, g2, g3, g4, g5, g6⟩ := nextS_m (decideS s ⟨5, n, 0, now, 0, wGo, []⟩ (acceptsB s)).2
    have ho1 := openL_snoc s.l (decG1 ⟨5, n, 0, now, 0, wGo, []⟩ (acceptsB s))
    have hgood : ∀ g ∈ (decideS s ⟨5, n, 0, now, 0, wGo, []⟩ (acceptsB s)).2.l, GoodG N now g := by
      rw [hdl]
      intro g hg
      rcases List.mem_append.1 hg with hg | hg
      · exact h.good g hg
      · rw [List.mem_singleton.1 hg]
        cases acceptsB s
        · exact ⟨rfl, hn, ⟨Int.le_refl _, Int.le_refl _⟩, fun _ => rfl⟩
        · exact ⟨rfl, hn, ⟨Int.le_refl _, by show (0 : Int) ≤ now; omega⟩, fun _ => rfl⟩
    have hcm : Calm (nextS (decideS s ⟨5, n, 0, now, 0, wGo, []⟩ (acceptsB s)).2) (240 * (N - (s.l.length + 1)) + 120 * ((openL s.l).length + 1)) := hd.2.1.like g1 g2 g3
    have hexx : ∃ k, k < (nextS (decideS s ⟨5, n, 0, now, 0, wGo, []⟩ (acceptsB s)).2).l.length ∧ (gAt (nextS (decideS s ⟨5, n, 0, now, 0, wGo, []⟩ (acceptsB s)).2).l k).c = 5 ∧ (gAt (nextS (decideS s ⟨5, n, 0, now, 0, wGo, []⟩ (acceptsB s)).2).l k).n = n := by
      rw [e1] at hex
      obtain ⟨k, a, b, c, _⟩ := hex rfl
      exact ⟨k, a, b, c⟩
    rw [e1] at ho2 hup hI2 ⊢
    dsimp only at ho2 hup hI2 ⊢
    refine ⟨rfl, ⟨hI2, ⟨L2, safe2, (ho2.low hcm.up).later (by omega)⟩, ?_, nextS_all hgood (fun g hg => ⟨hg.c, hg.n, hg.t, fun e => by have e : (2 : Int) = 7 := e; omega⟩), g4.trans (hd.2.2.pol.trans h.pol), h.now, h.n12⟩, hup, hfind ho2 hexx, fun ⟨k, hk, hc, hn⟩ => absurd ⟨hc, hn⟩ (hno k hk)⟩
    rw [nextS_open, g5, hdl, List.length_append, List.length_singleton, ho1]
    refine hcm.le ?_
    split <;> omega
end
end Go.Proofs.YthkimkgphaiagaaGreatDoor

namespace Go.Proofs.YthkimkgphaiagaaGreatDoor
open Go.RowKit
set_option linter.unusedVariables false
set_option linter.unusedSimpArgs false

abbrev Ms := Int × Int × Int × List UInt8
def mC (m : Ms) : List Value := msg m.1 m.2.1 m.2.2.1 m.2.2.2
theorem mC_len (m : Ms) : (mC m).length = 5 := rfl
def Ce.pl (g : Ce) (num at_ n : Int) : List Ms := if g.st < 4 then (if g.next ≤ at_ then [(1, num, n, g.req)] else []) ++ (if g.canc = true ∧ g.ncanc ≤ at_ then [(2, num, n, [])] else []) else []
def pollL (num at_ : Int) : Int → List Ce → List Ms
  | _, [] => []
  | k, g :: gs => g.pl num at_ k ++ pollL num at_ (k + 1) gs
theorem pl_spec (g : Ce) (num at_ n : Int) : g.pm num at_ n = (g.pl num at_ n).flatMap mC ∧ g.pc at_ = (g.pl num at_ n).length := by
  unfold Ce.pm Ce.pl Ce.pc
  split
  · split <;> split <;> exact ⟨rfl, rfl⟩
  · exact ⟨rfl, rfl⟩
theorem pollL_spec (num at_ : Int) : ∀ (gs : List Ce) (k : Int), pollM num at_ k gs = (pollL num at_ k gs).flatMap mC ∧ pollC at_ gs = (pollL num at_ k gs).length
  | [], k => ⟨rfl, rfl⟩
  | g :: gs, k => by
    have h1 := pl_spec g num at_ k
    have h2 := pollL_spec num at_ gs (k + 1)
    simp only [pollM, pollC, pollL, List.flatMap_append, List.length_append, h1.1, h2.1, h1.2, h2.2, and_self]
/-- which messages there are -/
theorem pollL_mem {num at_ : Int} {m : Ms} : ∀ {gs : List Ce} {k : Int}, m ∈ pollL num at_ k gs → ∃ (i : Nat) (g : Ce), gs[i]? = some g ∧ g.st < 4 ∧ (m = (1, num, k + (i : Int), g.req) ∨ m = (2, num, k + (i : Int), []))
  | [], k, h => by simp [pollL] at h
  | g :: gs, k, h => by
    rw [pollL, List.mem_append] at h
    rcases h with h | h
    · unfold Ce.pl at h
      split at h
      · rename_i hs
        refine ⟨0, g, rfl, hs, ?_⟩
        rw [List.mem_append] at h
        have e : k + ((0 : Nat) : Int) = k := by omega
        rw [e]
        rcases h with h | h
        · split at h
          · rw [List.mem_singleton] at h; exact .inl h
          · simp at h
        · split at h
          · rw [List.mem_singleton] at h; exact .inr h
          · simp at h
      · simp at h
    · obtain ⟨i, g', h1, h2, h3⟩ := pollL_mem h
      refine ⟨i + 1, g', by simpa using h1, h2, ?_⟩
      have e : k + ((i + 1 : Nat) : Int) = k + 1 + (i : Int) := by omega
      rw [e]; exact h3
theorem pollL_has {num at_ : Int} : ∀ {gs : List Ce} {k : Int} {i : Nat} {g : Ce}, gs[i]? = some g → g.st < 4 → g.next ≤ at_ → (1, num, k + (i : Int), g.req) ∈ pollL num at_ k gs
  | [], k, i, g, h, _, _ => by simp at h
  | x :: gs, k, 0, g, h, h1, h2 => by
    injection h with h; subst h
    rw [pollL, List.mem_append]
    refine .inl ?_
    unfold Ce.pl
    rw [if_pos h1, if_pos h2]
    simp
  | x :: gs, k, i + 1, g, h, h1, h2 => by
    rw [pollL, List.mem_append]
    have := pollL_has (num := num) (k := k + 1) (gs := gs) (i := i) (by simpa using h) h1 h2
    rw [show k + 1 + (i : Int) = k + ((i + 1 : Nat) : Int) by omega] at this
    exact .inr this

/-! ## The client -/
structure JC (N : Nat) (nx : Int) (l : List Gl) (gs : List Ce) : Prop where
  len : gs.length = N
  kn : ∀ (i : Nat) (g : Ce), gs[i]? = some g → Knows l 5 ((i : Int) + 1) g ∧ g.req = wGo ∧ g.next ≤ nx
theorem JC.up {N : Nat} {nx : Int} {l l' : List Gl} {gs : List Ce} (h : JC N nx l gs) (hu : Up l l') : JC N nx l' gs := ⟨h.len, fun i g hg => ⟨(h.kn i g hg).1.up hu, (h.kn i g hg).2⟩⟩
def EndC (gs : List Ce) (n : Int) : Prop := ∃ g, cAt gs n = some g ∧ 4 ≤ g.st
def Exs (l : List Gl) (n : Int) : Prop := ∃ k, k < l.length ∧ (gAt l k).c = 5 ∧ (gAt l k).n = n
theorem Exs.up {l l' : List Gl} (hu : Up l l') {n : Int} (h : Exs l n) : Exs l' n := by
  obtain ⟨k, hk, hc, hn⟩ := h
  exact ⟨k, Nat.lt_of_lt_of_le hk hu.len, (hu.id k hk).1.trans hc, (hu.id k hk).2.trans hn⟩
def AllEx (N : Nat) (l : List Gl) : Prop := ∀ n : Int, 1 ≤ n → n ≤ N → Exs l n
def AllEnd (N : Nat) (gs : List Ce) : Prop := ∀ n : Int, 1 ≤ n → n ≤ N → EndC gs n
theorem cAt_in {gs : List Ce} {n : Int} (h1 : 1 ≤ n) (h2 : n ≤ gs.length) : ∃ g, cAt gs n = some g ∧ gs[(n - 1).toNat]? = some g := by
  have hlt : (n - 1).toNat < gs.length := by omega
  refine ⟨gs[(n - 1).toNat], ?_, List.getElem?_eq_getElem hlt⟩
  unfold cAt
  rw [if_neg (by omega), List.getElem?_eq_getElem hlt]
theorem cAt_set {gs : List Ce} {n : Int} {g y : Ce} (h : cAt gs n = some g) (m : Int) : cAt (gs.set (n - 1).toNat y) m = if m = n then some y else cAt gs m := by
  unfold cAt at h ⊢
  split at h
  · cases h
  · rename_i hn
    have hlt := (List.getElem?_eq_some_iff.1 h).1
    by_cases hm : m < 1
    · rw [if_pos hm, if_pos hm, if_neg (by omega)]
    · rw [if_neg hm, if_neg hm, List.getElem?_set]
      by_cases e : m = n
      · subst e; rw [if_pos rfl, if_pos hlt, if_pos rfl]
      · rw [if_neg (by omega), if_neg e]
theorem pollA_all (retry at_ : Int) (gs : List Ce) : pollA retry at_ gs.length gs = gs.map (·.pg retry at_) := by
  unfold pollA
  rw [List.take_length, List.drop_length, List.append_nil]
theorem pg_st (g : Ce) (retry at_ : Int) : (g.pg retry at_).st = g.st ∧ (g.pg retry at_).res = g.res ∧ (g.pg retry at_).req = g.req := by
  unfold Ce.pg
  split <;> exact ⟨rfl, rfl, rfl⟩
theorem Knows.like {l : List Gl} {num n : Int} {g g' : Ce} (h : Knows l num n g) (hs : g'.st = g.st) (hr : g'.res = g.res) : Knows l num n g' := by
  refine ⟨by rw [hs]; exact h.rng, by rw [hs, hr]; exact h.res, by rw [hs, hr]; exact h.at_⟩
theorem JC.poll {N : Nat} {now : Int} {l : List Gl} {gs : List Ce} (h : JC N now l gs) : JC N (now + 100) l (pollA 100 now gs.length gs) := by
  rw [pollA_all]
  refine ⟨by rw [List.length_map]; exact h.len, fun i g hg => ?_⟩
  rw [List.getElem?_map] at hg
  cases hx : gs[i]? with
  | none => rw [hx] at hg; cases hg
  | some x =>
    rw [hx] at hg
    injection hg with hg
    subst hg
    obtain ⟨h1, h2, h3⟩ := h.kn i x hx
    obtain ⟨e1, e2, e3⟩ := pg_st x 100 now
    refine ⟨h1.like e1 e2, e3.trans h2, ?_⟩
    by_cases h4 : x.st < 4
    · have e : (x.pg 100 now).next = if x.next ≤ now then now + 100 else x.next := by unfold Ce.pg; rw [if_pos h4]
      show (x.pg 100 now).next ≤ now + 100
      rw [e]; split <;> omega
    · have e : x.pg 100 now = x := by unfold Ce.pg; rw [if_neg h4]
      show (x.pg 100 now).next ≤ now + 100
      rw [e]; omega
theorem pollA_end {retry at_ : Int} {gs : List Ce} {n : Int} (h : EndC gs n) : EndC (pollA retry at_ gs.length gs) n := by
  obtain ⟨g, h1, h2⟩ := h
  rw [pollA_all]
  refine ⟨g.pg retry at_, ?_, by rw [(pg_st g retry at_).1]; exact h2⟩
  unfold cAt at h1 ⊢
  split at h1
  · cases h1
  · rename_i hn
    rw [if_neg hn, List.getElem?_map, h1]; rfl
theorem JC.cancel {N : Nat} {nx : Int} {l : List Gl} {gs : List Ce} (h : JC N nx l gs) (n at_ : Int) : JC N nx l (cancF gs n at_).2 := by
  unfold cancF
  split
  · rename_i g hg
    split
    · have hg' := hg
      unfold cAt at hg'
      split at hg'
      · cases hg'
      rename_i hn
      have hlt := (List.getElem?_eq_some_iff.1 hg').1
      refine ⟨by dsimp only; rw [List.length_set]; exact h.len, fun i y hy => ?_⟩
      dsimp only at hy
      rw [List.getElem?_set] at hy
      split at hy
      · rename_i e
        subst e
        try rw [if_pos hlt] at hy
        injection hy with hy
        subst hy
        obtain ⟨h1, h2, h3⟩ := h.kn _ g hg'
        have e : ((g.cancel at_).2.st = g.st ∧ (g.cancel at_).2.res = g.res) ∧ (g.cancel at_).2.req = g.req ∧ (g.cancel at_).2.next = g.next := by
          unfold Ce.cancel
          split
          · dsimp only; split <;> exact ⟨⟨rfl, rfl⟩, rfl, rfl⟩
          · exact ⟨⟨rfl, rfl⟩, rfl, rfl⟩
        exact ⟨h1.like e.1.1 e.1.2, e.2.1.trans h2, by rw [e.2.2]; exact h3⟩
      · exact h.kn i y hy
    · exact h
  · exact h
/-- the answer to a request -/
theorem JC.reply {N : Nat} {nx now : Int} {s : Sv} {gs : List Ce} (h : JC N nx s.l gs) (hj : JS N now s) {n : Int} (hn : 1 ≤ n ∧ n ≤ (N : Int)) {k : Nat} (hf : findG s.l 5 n = some k) :
    (recvF 5 gs (repK (gAt s.l k).st) 5 n 0 (repT (gAt s.l k))).1 = 0 ∧ JC N nx s.l (recvF 5 gs (repK (gAt s.l k).st) 5 n 0 (repT (gAt s.l k))).2 ∧ (∀ m, EndC gs m → EndC (recvF 5 gs (repK (gAt s.l k).st) 5 n 0 (repT (gAt s.l k))).2 m) ∧
      (4 ≤ (gAt s.l k).st → EndC (recvF 5 gs (repK (gAt s.l k).st) 5 n 0 (repT (gAt s.l k))).2 n) := by
  have hk := findG_lt hf
  obtain ⟨hc, hnn⟩ := findG_eq hf
  have hst := hj.st hk
  obtain ⟨g, hg, hg'⟩ := cAt_in hn.1 (by rw [h.len]; exact hn.2)
  obtain ⟨h1, h2, h3⟩ := h.kn _ g hg'
  rw [show (((n - 1).toNat : Nat) : Int) + 1 = n by omega] at h1
  obtain ⟨a, b, c, d⟩ := h1.reply hj.dist hk hc hnn hst
  have hr : 3 ≤ repK (gAt s.l k).st ∧ repK (gAt s.l k).st ≤ 9 := by unfold repK; (repeat' split) <;> omega
  unfold recvF
  rw [if_neg (by omega), if_neg (by simp), hg]
  dsimp only
  refine ⟨a, ⟨by rw [List.length_set]; exact h.len, fun i y hy => ?_⟩, fun m ⟨x, hx, hx4⟩ => ?_, fun h4 => ⟨_, by rw [cAt_set hg, if_pos rfl], c (.inr h4)⟩⟩
  · rw [List.getElem?_set] at hy
    split at hy
    · rename_i e
      subst e
      rw [if_pos (List.getElem?_eq_some_iff.1 hg').1] at hy
      injection hy with hy
      subst hy
      rw [show (((n - 1).toNat : Nat) : Int) + 1 = n by omega]
      exact ⟨b, d.1.trans h2, by rw [d.2]; exact h3⟩
    · exact h.kn i y hy
  · by_cases e : m = n
    · subst e
      rw [hg] at hx
      injection hx with hx
      subst hx
      exact ⟨_, by rw [cAt_set hg, if_pos rfl], c (.inl hx4)⟩
    · exact ⟨x, by rw [cAt_set hg, if_neg e]; exact hx, hx4⟩

/-! ## A round -/
/-- while the messages of a round are processed: i of them are done -/
structure JM (N : Nat) (now : Int) (ms : List Ms) (s0 : Sv) (gs0 : List Ce) (ok : Bool) (i : Nat) (s : Sv) (gs : List Ce) : Prop where
  js : JS N now s
  jc : JC N (now + 100) s.l gs
  up : Up s0.l s.l
  opn : AllEx N s0.l → (openL s.l).length ≤ (openL s0.l).length
  kept : ∀ n, EndC gs0 n → EndC gs n
  seen : ok = true → ∀ (j : Nat) (n : Int) (t : List UInt8), j < i → ms[j]? = some (1, 5, n, t) → Exs s.l n ∧ (AllEx N s0.l → openL s0.l = [] → EndC gs n)
/-- between the rounds: r are done -/
structure JR (N lc r : Nat) (s : Sv) (gs : List Ce) : Prop where
  js : JS N (100 * ((r : Int) + 1)) s
  jc : JC N (100 * ((r : Int) + 1)) s.l gs
  ex : lc + 1 ≤ r → AllEx N s.l ∧ (openL s.l).length + (r - lc - 1) ≤ max 12 (r - lc - 1)
  fin : lc + 14 ≤ r → AllEnd N gs
section
variable {N lc r : Nat} {now : Int} {ms : List Ms} {s s0 t : Sv} {gs gs0 hs : List Ce} {ok : Bool} {i : Nat} {m : Ms}
theorem JM.start (hj : JS N now s0) (hc : JC N (now + 100) s0.l gs0) (ok : Bool) : JM N now ms s0 gs0 ok 0 s0 gs0 :=
  ⟨hj, hc, Up.refl _, fun _ => Nat.le_refl _, fun _ h => h, fun _ j _ _ hj => absurd hj (Nat.not_lt_zero j)⟩
/-- a message is lost -/
theorem JM.lost (h : JM N now ms s0 gs0 false i s gs) : JM N now ms s0 gs0 false (i + 1) s gs := ⟨h.js, h.jc, h.up, h.opn, h.kept, fun e => by cases e⟩
/-- a goal is cancelled -/
theorem JM.cancel (h : JM N now ms s0 gs0 ok i s gs) {n c : Int} {tx : List UInt8} (hm : ms[i]? = some (2, c, n, tx)) : JM N now ms s0 gs0 ok (i + 1) (cancelS s 5 n now).2 gs := by
  obtain ⟨h1, h2, h3, h4⟩ := h.js.cancel n
  refine ⟨h1, h.jc.up h3, h.up.trans h3, fun he => Nat.le_trans h2 (h.opn he), h.kept, fun hok j n' t' hj hmj => ?_⟩
  by_cases e : j = i
  · subst e; rw [hm] at hmj; injection hmj with hmj; injection hmj with hmj; exact absurd hmj (by decide)
  · obtain ⟨a, b⟩ := h.seen hok j n' t' (by omega) hmj
    exact ⟨a.up h3, b⟩
/-- a request is answered, but the answer is lost -/
theorem JM.silent (h : JM N now ms s0 gs0 false i s gs) {n : Int} (hn : 1 ≤ n ∧ n ≤ (N : Int)) : JM N now ms s0 gs0 false (i + 1) (requestS s 5 n now wGo).2.2 gs := by
  obtain ⟨_, h1, h2, _, h3⟩ := h.js.request hn
  refine ⟨h1, h.jc.up h2, h.up.trans h2, fun he => ?_, h.kept, fun e => by cases e⟩
  rw [h3 ((he n hn.1 hn.2).up h.up)]; exact h.opn he
/-- a request is answered -/
theorem JM.answer (h : JM N now ms s0 gs0 ok i s gs) {n c : Int} {tx : List UInt8} (hn : 1 ≤ n ∧ n ≤ (N : Int)) (hm : ms[i]? = some (1, c, n, tx)) {k : Nat} (hf : findG (requestS s 5 n now wGo).2.2.l 5 n = some k) :
    (recvF 5 gs (repK (gAt (requestS s 5 n now wGo).2.2.l k).st) 5 n 0 (repT (gAt (requestS s 5 n now wGo).2.2.l k))).1 = 0 ∧
      JM N now ms s0 gs0 ok (i + 1) (requestS s 5 n now wGo).2.2 (recvF 5 gs (repK (gAt (requestS s 5 n now wGo).2.2.l k).st) 5 n 0 (repT (gAt (requestS s 5 n now wGo).2.2.l k))).2 := by
  obtain ⟨_, h1, h2, _, h3⟩ := h.js.request hn
  obtain ⟨a, b, c', d⟩ := (h.jc.up h2).reply h1 hn hf
  have hk := findG_lt hf
  have hkk := findG_eq hf
  refine ⟨a, h1, b, h.up.trans h2, fun he => ?_, fun x hx => c' x (h.kept x hx), fun hok j n' t' hj hmj => ?_⟩
  · rw [h3 ((he n hn.1 hn.2).up h.up)]; exact h.opn he
  by_cases e : j = i
  · subst e
    rw [hm] at hmj
    injection hmj with hmj
    injection hmj with _ hmj
    injection hmj with _ hmj
    injection hmj with hmj _
    subst hmj
    refine ⟨⟨k, hk, hkk⟩, fun he ho => d ?_⟩
    have hs := h3 ((he n hn.1 hn.2).up h.up)
    rw [hs] at hk ⊢
    have hop : openL s.l = [] := by
      have := h.opn he
      rw [ho] at this
      exact List.length_eq_zero_iff.1 (by simpa using this)
    have h5 : ¬ (k ∈ openL s.l) := by rw [hop]; simp
    rw [openL_mem] at h5
    have h6 : termF (gAt s.l k).st = true := by
      rcases hq : termF (gAt s.l k).st with _ | _
      · exact absurd ⟨hk, hq⟩ h5
      · rfl
    exact ((termF_iff _).1 h6).1
  · obtain ⟨a', b'⟩ := h.seen hok j n' t' (by omega) hmj
    exact ⟨a'.up h2, fun he ho => c' _ (b' he ho)⟩
/-- a round without losses is over -/
theorem JM.over (h : JM N now (pollL 5 now 1 gs0) s0 (pollA 100 now gs0.length gs0) true (pollL 5 now 1 gs0).length s gs) (h0 : JC N now s0.l gs0) : AllEx N s.l ∧ (AllEx N s0.l → openL s0.l = [] → AllEnd N gs) := by
  have key : ∀ n : Int, 1 ≤ n → n ≤ N → Exs s.l n ∧ (AllEx N s0.l → openL s0.l = [] → EndC gs n) := by
    intro n h1 h2
    obtain ⟨g, hg, hg'⟩ := cAt_in h1 (by rw [h0.len]; exact h2)
    obtain ⟨k1, k2, k3⟩ := h0.kn _ g hg'
    rw [show (((n - 1).toNat : Nat) : Int) + 1 = n by omega] at k1
    by_cases h4 : g.st < 4
    · have hm := pollL_has (num := 5) (k := 1) hg' h4 k3
      rw [show (1 : Int) + ((n - 1).toNat : Nat) = n by omega] at hm
      obtain ⟨j, hj, he⟩ := List.getElem_of_mem hm
      exact h.seen rfl j n g.req hj (by rw [List.getElem?_eq_getElem hj, he])
    · refine ⟨?_, fun _ _ => h.kept n (pollA_end ⟨g, hg, by omega⟩)⟩
      rcases k1.at_ with e | ⟨k, hk, hc, hn, _⟩
      · omega
      · exact Exs.up h.up ⟨k, hk, hc, hn⟩
  exact ⟨fun n h1 h2 => (key n h1 h2).1, fun he ho n h1 h2 => (key n h1 h2).2 he ho⟩
/-- a round with losses leads to the next -/
theorem JR.lossy (h : JR N lc r s0 gs0) (hr : r < lc) (hlc : lc ≤ 20) {gs1 : List Ce} (hm : JM N (100 * ((r : Int) + 1)) ms s0 gs1 false ms.length s gs) (ht : t = s ∨ (JS N (100 * ((r : Int) + 1)) t ∧ Up s.l t.l)) : JR N lc (r + 1) t gs := by
  have ht' : JS N (100 * ((r : Int) + 1)) t ∧ Up s.l t.l := by
    rcases ht with rfl | ht
    · exact ⟨hm.js, Up.refl _⟩
    · exact ht
  have hc := hm.jc.up ht'.2
  refine ⟨ht'.1.later (by omega), ?_, fun h1 => by omega, fun h1 => by omega⟩
  rw [show 100 * (((r + 1 : Nat) : Int) + 1) = 100 * ((r : Int) + 1) + 100 by omega]
  exact hc
/-- a round without losses leads to the next -/
theorem JR.clear (h : JR N lc r s0 gs0) (hr : lc ≤ r) (hlc : lc ≤ 20) (hr2 : r < lc + 20) (hm : JM N (100 * ((r : Int) + 1)) (pollL 5 (100 * ((r : Int) + 1)) 1 gs0) s0 (pollA 100 (100 * ((r : Int) + 1)) gs0.length gs0) true (pollL 5 (100 * ((r : Int) + 1)) 1 gs0).length s gs)
    (ht : (t = s ∧ openL s.l = []) ∨ (JS N (100 * ((r : Int) + 1)) t ∧ Up s.l t.l ∧ (openL t.l).length + 1 = (openL s.l).length)) : JR N lc (r + 1) t gs := by
  obtain ⟨ho1, ho2⟩ := hm.over h.jc
  have ht' : JS N (100 * ((r : Int) + 1)) t ∧ Up s.l t.l ∧ ((openL t.l).length = 0 ∨ (openL t.l).length + 1 = (openL s.l).length) := by
    rcases ht with ⟨rfl, he⟩ | ⟨a, b, c⟩
    · exact ⟨hm.js, Up.refl _, .inl (by rw [he]; rfl)⟩
    · exact ⟨a, b, .inr c⟩
  obtain ⟨t1, t2, t3⟩ := ht'
  have h12 := hm.js.n12
  have hle := hm.js.open_le
  have hlen := hm.js.len
  refine ⟨t1.later (by omega), ?_, fun _ => ⟨fun n h1 h2 => (ho1 n h1 h2).up t2, ?_⟩, fun h14 => ?_⟩
  · rw [show 100 * (((r + 1 : Nat) : Int) + 1) = 100 * ((r : Int) + 1) + 100 by omega]
    exact hm.jc.up t2
  · by_cases h1 : lc + 1 ≤ r
    · obtain ⟨e1, e2⟩ := h.ex h1
      have h3 := hm.opn e1
      omega
    · omega
  · obtain ⟨e1, e2⟩ := h.ex (by omega)
    exact ho2 e1 (List.length_eq_zero_iff.1 (by omega))
/-- once all is known -/
theorem JR.done (h : JR N lc r s gs) (hf : AllEnd N gs) {n : Int} (hn : 1 ≤ n ∧ n ≤ (N : Int)) : ∃ g k, cAt gs n = some g ∧ findG s.l 5 n = some k ∧ (gAt s.l k).st = g.st ∧ (gAt s.l k).rs = g.res ∧ 4 ≤ g.st ∧ g.st ≤ 7 := by
  obtain ⟨g, hg, h4⟩ := hf n hn.1 hn.2
  obtain ⟨g', hg2, hg'⟩ := cAt_in (gs := gs) hn.1 (by rw [h.jc.len]; exact hn.2)
  rw [hg] at hg2
  injection hg2 with hg2
  subst hg2
  obtain ⟨k1, _, _⟩ := h.jc.kn _ g hg'
  rw [show (((n - 1).toNat : Nat) : Int) + 1 = n by omega] at k1
  have hr := k1.rng
  rcases k1.at_ with e | ⟨k, hk, hc, hnn, hs⟩
  · omega
  · obtain ⟨L, safe, ho⟩ := h.js.on
    have hf := ho.gi.find hk
    dsimp only at hf
    rw [hc, hnn] at hf
    refine ⟨g, k, hg, hf, ?_⟩
    rcases hs with ⟨a, _⟩ | ⟨a, b⟩ | ⟨a, b, c, d⟩
    · omega
    · exact ⟨by omega, by rw [(h.js.goodAt hk).rj b, k1.res (.inr a)], by omega, by omega⟩
    · exact ⟨c, d, by omega, by omega⟩
theorem copL_nil : ∀ {gs : List Ce} {k : Int}, (∀ g ∈ gs, 4 ≤ g.st) → copL k gs = []
  | [], k, _ => rfl
  | g :: gs, k, h => by
    rw [copL, if_neg (by have := h g (List.mem_cons_self ..); omega)]
    exact copL_nil fun x hx => h x (List.mem_cons_of_mem _ hx)
theorem AllEnd.open (h : AllEnd N gs) (hl : gs.length = N) : copL 1 gs = [] := by
  refine copL_nil fun g hg => ?_
  obtain ⟨i, hi, rfl⟩ := List.getElem_of_mem hg
  obtain ⟨x, hx, h4⟩ := h ((i : Int) + 1) (by omega) (by omega)
  unfold cAt at hx
  rw [if_neg (by omega), show (((i : Int) + 1) - 1).toNat = i by omega, List.getElem?_eq_getElem hi] at hx
  injection hx with hx
  rw [hx]; exact h4
end
end Go.Proofs.YthkimkgphaiagaaGreatDoor
