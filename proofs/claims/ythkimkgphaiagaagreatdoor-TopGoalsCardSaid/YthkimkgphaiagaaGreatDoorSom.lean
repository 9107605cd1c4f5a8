/- Action servers, in plain words: a running server and its journal tell the same; a server that is opened again. No conditions. -/
import Derived.Test.YthkimkgphaiagaaGreatDoorSol

namespace Go.Proofs.YthkimkgphaiagaaGreatDoor
open Go.RowKit
set_option linter.unusedVariables false
set_option linter.unusedSimpArgs false

theorem jSync_n15 (m : Med) (j : Jr) : (jSync m j).1 ≠ 15 := by
  unfold jSync
  split
  · simp
  · split
    · simp
    · unfold Med.sync
      split
      · simp
      · split <;> simp
/-- L are the records that were written; those that are durable tell the goals of the server -/
structure On (s : Sv) (L : List (List UInt8)) (safe i : Nat) : Prop where
  pre : Pre s.m s.j L safe i
  all : ∃ q, repA ([], []) L = some q
  now : repA ([], []) (L.take safe) = some (s.l.map nrm, s.ends)
  live : s.stop = false → safe = L.length
  gi : GI (s.l, s.ends)
theorem On.later {s : Sv} {L : List (List UInt8)} {safe i k : Nat} (h : On s L safe i) (hk : i ≤ k) : On s L safe k := ⟨h.pre.later hk, h.all, h.now, h.live, h.gi⟩
theorem On.turn {s t : Sv} {L : List (List UInt8)} {safe i : Nat} (h : On s L safe i) (hm : t.m = s.m) (hj : t.j = s.j) (hs : t.stop = s.stop) (he : t.ends = s.ends) (hn : t.l.map nrm = s.l.map nrm) (hg : GI (t.l, t.ends)) : On t L safe i :=
  ⟨by rw [hm, hj]; exact h.pre, h.all, by rw [hn, he]; exact h.now, by rw [hs]; exact h.live, hg⟩
theorem On.recd {s : Sv} {L : List (List UInt8)} {safe i : Nat} (h : On s L safe i) (hs : s.stop = false) {x : List UInt8} {q : GE} (hx : rep1 (s.l.map nrm, s.ends) x = some q) :
    ((recS s x).1 = 0 → Pre (recS s x).2.m (recS s x).2.j (L ++ [x]) (L ++ [x]).length (i + 2) ∧ repA ([], []) (L ++ [x]) = some q ∧ (recS s x).2.stop = false) ∧ ((recS s x).1 ≠ 0 → ∃ L', On (recS s x).2 L' safe (i + 2)) := by
  obtain ⟨hp, ha, hnow, hlive, hgi⟩ := h
  have hsafe := hlive hs
  have htake : L.take safe = L := by rw [hsafe, List.take_length]
  have hq : repA ([], []) (L ++ [x]) = some q := repA_snoc (by rw [← htake]; exact hnow) hx
  have hnow2 : repA ([], []) ((L ++ [x]).take safe) = some (s.l.map nrm, s.ends) := by rw [List.take_append_of_le_length hp.sl]; exact hnow
  obtain ⟨e1, m1, j1⟩ : Int × Med × Jr := jAppend s.m s.j x
  obtain ⟨r, hr⟩ : ∃ r, jAppend s.m s.j x = r := ⟨_, rfl⟩
  obtain ⟨e, m2, j2⟩ := r
  obtain ⟨a1, a2⟩ := hp.appAll hr
  unfold recS
  rw [hr]
  dsimp only
  by_cases he : e = 0
  · rw [if_pos he]
    have p1 := a1 (.inl he)
    obtain ⟨r2, hr2⟩ : ∃ r, jSync m2 j2 = r := ⟨_, rfl⟩
    have h15 := jSync_n15 m2 j2
    obtain ⟨e3, m3, j3⟩ := r2
    obtain ⟨b1, b2⟩ := p1.sync hr2
    rw [hr2] at h15 ⊢
    dsimp only at h15 ⊢
    by_cases he3 : e3 = 0
    · rw [if_pos he3]
      exact ⟨fun _ => ⟨b1 he3, hq, hs⟩, fun h0 => absurd rfl h0⟩
    · rw [if_neg he3]
      refine ⟨fun h0 => absurd h0 he3, fun _ => ⟨L ++ [x], b2 he3, ⟨q, hq⟩, hnow2, fun h0 => ?_, hgi⟩⟩
      have h0 : (s.stop || decide (e3 ≠ 15)) = false := h0
      rw [decide_eq_true h15, Bool.or_true] at h0
      cases h0
  · rw [if_neg he]
    refine ⟨fun h0 => absurd h0 he, fun _ => ?_⟩
    by_cases hC : e = 0 ∨ (e = 16 ∧ s.m.down = false ∧ m2.down = true)
    · refine ⟨L ++ [x], (a1 hC).later (by omega), ⟨q, hq⟩, hnow2, fun h0 => ?_, hgi⟩
      have h0 : (s.stop || decide (e ≠ 15)) = false := h0
      have h15 : e ≠ 15 := by omega
      rw [decide_eq_true h15, Bool.or_true] at h0
      cases h0
    · exact ⟨L, (a2 hC).later (by omega), ha, hnow, fun _ => hsafe, hgi⟩
theorem cod_end {p : GE} (h : GI p) {i : Nat} (hi : i < p.1.length) {st en : Int} {rs : List UInt8} (hst : 4 ≤ st ∧ st ≤ 6) (he : (gAt p.1 i).at_ ≤ en ∧ en ≤ 1099511627776) (hr : rs.length ≤ 4000) : Cod { endG (gAt p.1 i) st en rs with rq := [] } :=
  ⟨h.c i hi, h.n i hi, ⟨by show 1 ≤ st; omega, by show st ≤ 7; omega⟩, h.a i hi, ⟨by simp, hr⟩, fun _ => he, fun h4 => by have h4 : ¬ 4 ≤ st := h4; omega⟩
/-- the record of an end, applied -/
theorem rep1_end {l : List Gl} {e : List Nat} (h : GI (l, e)) {i : Nat} (hi : i < l.length) (hs : (gAt l i).st = 1 ∨ (gAt l i).st = 2 ∨ (gAt l i).st = 3) {st en : Int} {rs : List UInt8} (hst : 4 ≤ st ∧ st ≤ 6) (he : (gAt l i).at_ ≤ en ∧ en ≤ 1099511627776) (hr : rs.length ≤ 4000) :
    rep1 (l.map nrm, e) (endR (endG (gAt l i) st en rs)) = some ((l.set i (endG (gAt l i) st en rs)).map nrm, e ++ [i]) := by
  have hc := cod_end h hi hst he hr
  have hd := dec_enc hc
  have hn : gAt (l.map nrm) i = { gAt l i with st := 1 } := by
    rw [nrm_at hi]
    unfold nrm
    split
    · rfl
    · have : (gAt l i).st = 1 := by omega
      rw [← this]
  have hil : i < (l.map nrm).length := by rw [List.length_map]; exact hi
  have hf : findG (l.map nrm) (gAt l i).c (gAt l i).n = some i := by
    have := h.nrm.find (p := (l.map nrm, e)) hil
    dsimp only at this
    rw [hn] at this
    exact this
  unfold endR rep1
  dsimp only
  rw [hd]
  dsimp only
  rw [if_neg (by decide)]
  show (match findG (l.map nrm) (gAt l i).c (gAt l i).n with | none => _ | some i => _) = _
  rw [hf]
  dsimp only
  rw [hn, if_pos]
  · congr 1
    rw [List.map_set]
    have : nrm (endG (gAt l i) st en rs) = endG (gAt l i) st en rs := by
      unfold nrm; rw [if_neg]; show ¬ (st = 2 ∨ st = 3); omega
    rw [this]; rfl
  · exact ⟨rfl, rfl, hst, rfl, rfl⟩
theorem cod_new {c n at_ : Int} {rq : List UInt8} (hc : 1 ≤ c ∧ c ≤ 2147483647) (hn : 1 ≤ n ∧ n ≤ 2147483647) (ha : 0 ≤ at_ ∧ at_ ≤ 1099511627776) (hr : rq.length ≤ 4000) (ok : Bool) : Cod (decG1 ⟨c, n, 0, at_, 0, rq, []⟩ ok) := by
  cases ok
  · exact ⟨hc, hn, ⟨show (1 : Int) ≤ 7 by decide, show (7 : Int) ≤ 7 by decide⟩, ha, ⟨hr, by simp [decG1]⟩, fun _ => ⟨Int.le_refl _, ha.2⟩, fun h4 => absurd (show (4 : Int) ≤ 7 by decide) h4⟩
  · exact ⟨hc, hn, ⟨show (1 : Int) ≤ 1 by decide, show (1 : Int) ≤ 7 by decide⟩, ha, ⟨hr, by simp [decG1]⟩, fun h4 => absurd h4 (show ¬ (4 : Int) ≤ 1 by decide), fun _ => ⟨rfl, rfl⟩⟩
theorem findG_nrm (l : List Gl) (c n : Int) : findG (l.map nrm) c n = findG l c n := by
  unfold findG
  rw [List.findIdx?_map]
  congr 1
  funext g
  show ((nrm g).c == c && (nrm g).n == n) = _
  have : (nrm g).c = g.c ∧ (nrm g).n = g.n := by unfold nrm; split <;> exact ⟨rfl, rfl⟩
  rw [this.1, this.2]
theorem decG1_fld (g : Gl) (ok : Bool) : (decG1 g ok).c = g.c ∧ (decG1 g ok).n = g.n ∧ (decG1 g ok).at_ = g.at_ ∧ (decG1 g ok).rs = g.rs := by cases ok <;> exact ⟨rfl, rfl, rfl, rfl⟩
theorem rep1_new {l : List Gl} {e : List Nat} {c n at_ : Int} {rq : List UInt8} (hc : 1 ≤ c ∧ c ≤ 2147483647) (hn : 1 ≤ n ∧ n ≤ 2147483647) (ha : 0 ≤ at_ ∧ at_ ≤ 1099511627776) (hr : rq.length ≤ 4000) (hl : l.length < 64) (hf : findG l c n = none) (ok : Bool) :
    rep1 (l.map nrm, e) (114 :: enc (decG1 ⟨c, n, 0, at_, 0, rq, []⟩ ok)) = some ((l ++ [decG1 ⟨c, n, 0, at_, 0, rq, []⟩ ok]).map nrm, e) := by
  have hd := dec_enc (cod_new hc hn ha hr ok)
  obtain ⟨f1, f2, f3, f4⟩ := decG1_fld ⟨c, n, 0, at_, 0, rq, []⟩ ok
  unfold rep1
  dsimp only
  rw [hd]
  dsimp only
  rw [if_neg (by decide), f1, f2, findG_nrm, hf]
  dsimp only
  rw [if_pos]
  · congr 1
    rw [List.map_append]
    have : nrm (decG1 ⟨c, n, 0, at_, 0, rq, []⟩ ok) = decG1 ⟨c, n, 0, at_, 0, rq, []⟩ ok := by cases ok <;> rfl
    simp [this]
  · refine ⟨rfl, by rw [List.length_map]; exact hl, f4, ?_⟩
    cases ok
    · exact .inr ⟨rfl, rfl⟩
    · exact .inl rfl
theorem latF_ge {l : List Gl} {i : Nat} (hi : i < l.length) : (gAt l i).at_ ≤ latF l ∧ (gAt l i).en ≤ latF l := by
  have gen : ∀ (l : List Gl) (t : Int), t ≤ l.foldl (fun t g => max (max t g.at_) g.en) t ∧ ∀ g ∈ l, g.at_ ≤ l.foldl (fun t g => max (max t g.at_) g.en) t ∧ g.en ≤ l.foldl (fun t g => max (max t g.at_) g.en) t := by
    intro l
    induction l with
    | nil => intro t; exact ⟨Int.le_refl _, fun g h => by simp at h⟩
    | cons a l ih =>
      intro t
      rw [List.foldl_cons]
      obtain ⟨h1, h2⟩ := ih (max (max t a.at_) a.en)
      refine ⟨by omega, fun g hg => ?_⟩
      rcases List.mem_cons.1 hg with rfl | hg
      · omega
      · exact h2 g hg
  exact (gen l 0).2 _ (gAt_mem hi)
/-- a goal is ended: the journal and the goals still tell the same -/
theorem On.endS {s : Sv} {L : List (List UInt8)} {safe i : Nat} (h : On s L safe i) (hs : s.stop = false) {k : Nat} (hk : k < s.l.length) (hst0 : (gAt s.l k).st = 1 ∨ (gAt s.l k).st = 2 ∨ (gAt s.l k).st = 3) {st at_ : Int} {rs : List UInt8} (hst : 4 ≤ st ∧ st ≤ 6) (hl : latF s.l ≤ at_) (ha : at_ ≤ 1099511627776) (hr : rs.length ≤ 4000) :
    (∃ L' safe', On (endS s k st at_ rs).2 L' safe' (i + 2)) ∧ Up s.l (endS s k st at_ rs).2.l ∧ ((endS s k st at_ rs).1 = 0 → (endS s k st at_ rs).2.stop = false) := by
  have hat := latF_ge hk
  have hx := rep1_end h.gi hk hst0 hst (en := at_) (rs := rs) ⟨by omega, ha⟩ hr
  obtain ⟨h1, h2⟩ := h.recd hs hx
  unfold Go.Proofs.YthkimkgphaiagaaGreatDoor.endS
  by_cases he : (recS s (endR (endG (gAt s.l k) st at_ rs))).1 = 0
  · rw [if_neg (by simpa using he)]
    obtain ⟨p1, p2, p3⟩ := h1 he
    have h0 := h.gi.a k hk
    refine ⟨⟨_, _, p1, ⟨_, p2⟩, ?_, fun _ => rfl, ?_⟩, ?_, fun _ => p3⟩
    · rw [List.take_length]; exact p2
    · exact h.gi.fin hk (by omega) hst ⟨by dsimp only at h0; omega, ha⟩
    · exact Up.set hk (by omega) rfl rfl (by show st ≠ 7; omega)
  · rw [if_pos he]
    obtain ⟨L', h3⟩ := h2 he
    refine ⟨⟨L', safe, h3⟩, ?_, fun h0 => absurd h0 he⟩
    rw [(recS_like s _).l]; exact Up.refl _
theorem On.decideS {s : Sv} {L : List (List UInt8)} {safe i : Nat} (h : On s L safe i) (hs : s.stop = false) {c n at_ : Int} {rq : List UInt8} (hc : 1 ≤ c ∧ c ≤ 2147483647) (hn : 1 ≤ n ∧ n ≤ 2147483647) (ha : 0 ≤ at_ ∧ at_ ≤ 1099511627776) (hr : rq.length ≤ 4000) (hl : s.l.length < 64) (hf : findG s.l c n = none) (ok : Bool) :
    (∃ L' safe', On (decideS s ⟨c, n, 0, at_, 0, rq, []⟩ ok).2 L' safe' (i + 2)) ∧ Up s.l (decideS s ⟨c, n, 0, at_, 0, rq, []⟩ ok).2.l := by
  obtain ⟨h1, h2⟩ := h.recd hs (rep1_new (e := s.ends) hc hn ha hr hl hf ok)
  unfold Go.Proofs.YthkimkgphaiagaaGreatDoor.decideS
  by_cases he : (recS s (114 :: enc (decG1 ⟨c, n, 0, at_, 0, rq, []⟩ ok))).1 = 0
  · rw [if_neg (by simpa using he)]
    obtain ⟨p1, p2, p3⟩ := h1 he
    have hends := (recS_like s (114 :: enc (decG1 ⟨c, n, 0, at_, 0, rq, []⟩ ok))).ends
    refine ⟨⟨_, _, p1, ⟨_, p2⟩, ?_, fun _ => rfl, ?_⟩, Up.add _ _⟩
    · rw [List.take_length]
      dsimp only
      rw [hends]; exact p2
    · dsimp only
      rw [hends]
      obtain ⟨f1, f2, f3, f4⟩ := decG1_fld ⟨c, n, 0, at_, 0, rq, []⟩ ok
      refine h.gi.add hl (by rw [f1]; exact hc) (by rw [f2]; exact hn) (by rw [f3]; exact ha) ?_ (by rw [f1, f2]; exact hf) ?_
      · cases ok
        · exact ha
        · exact ⟨Int.le_refl (0 : Int), show (0 : Int) ≤ 1099511627776 by decide⟩
      · have := decG1_st ⟨c, n, 0, at_, 0, rq, []⟩ ok; omega
  · rw [if_pos he]
    obtain ⟨L', h3⟩ := h2 he
    refine ⟨⟨L', safe, h3⟩, ?_⟩
    rw [(recS_like s _).l]; exact Up.refl _
theorem On.nextS {s : Sv} {L : List (List UInt8)} {safe i : Nat} (h : On s L safe i) (hI : Inv0 s) : On (nextS s) L safe i ∧ Up s.l (nextS s).l := by
  unfold Go.Proofs.YthkimkgphaiagaaGreatDoor.nextS
  split
  · exact ⟨h, Up.refl _⟩
  rename_i hc
  split
  · exact ⟨h, Up.refl _⟩
  · rename_i k r ho
    rw [hI.open_idle (by omega)] at ho
    have hk : k ∈ waitL s.l := by rw [ho]; exact List.mem_cons_self ..
    rw [waitL_mem] at hk
    have hn : (s.l.set k { gAt s.l k with st := 2 }).map nrm = s.l.map nrm := by
      rw [List.map_set]
      have : nrm { gAt s.l k with st := 2 } = nrm (gAt s.l k) := by
        unfold nrm
        rw [if_pos (.inl rfl), if_neg (by rw [hk.2]; decide)]
        rw [← hk.2]
      rw [this, ← nrm_at hk.1]
      have hkl : k < (s.l.map nrm).length := by rw [List.length_map]; exact hk.1
      apply List.ext_getElem?
      intro m
      rw [List.getElem?_set]
      split
      · rename_i e; subst e
        exact (gAt_some hkl).symm
      · rfl
    refine ⟨h.turn rfl rfl rfl rfl hn ?_, Up.set hk.1 (by omega) rfl rfl (by show (2 : Int) ≠ 7; decide)⟩
    refine h.gi.turn (List.length_set ..) fun m hm => ?_
    rw [gAt_set hk.1]
    split
    · rename_i e; subst e; exact .inr ⟨by omega, 2, by omega, rfl⟩
    · exact .inl rfl
theorem On.at3 {s : Sv} {L : List (List UInt8)} {safe i : Nat} (h : On s L safe i) {k : Nat} (hk : k < s.l.length) (h23 : (gAt s.l k).st = 2 ∨ (gAt s.l k).st = 3) : On { s with l := s.l.set k { gAt s.l k with st := 3 } } L safe i ∧ Up s.l (s.l.set k { gAt s.l k with st := 3 }) := by
  have hn : (s.l.set k { gAt s.l k with st := 3 }).map nrm = s.l.map nrm := by
    rw [List.map_set]
    have : nrm { gAt s.l k with st := 3 } = nrm (gAt s.l k) := by
      unfold nrm
      rw [if_pos (.inr rfl), if_pos h23]
    rw [this, ← nrm_at hk]
    have hkl : k < (s.l.map nrm).length := by rw [List.length_map]; exact hk
    apply List.ext_getElem?
    intro m
    rw [List.getElem?_set]
    split
    · rename_i e; subst e
      exact (gAt_some hkl).symm
    · rfl
  refine ⟨h.turn rfl rfl rfl rfl hn ?_, Up.set hk (by omega) rfl rfl (by show (3 : Int) ≠ 7; decide)⟩
  refine h.gi.turn (List.length_set ..) fun m hm => ?_
  rw [gAt_set hk]
  split
  · rename_i e; subst e; exact .inr ⟨by omega, 3, by omega, rfl⟩
  · exact .inl rfl
end Go.Proofs.YthkimkgphaiagaaGreatDoor
