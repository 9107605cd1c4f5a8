/- Action servers, in plain words: what each function does to an abstract server. No conditions. -/
import Derived.Test.YthkimkgphaiagaaGreatDoorMJ
import Derived.Test.YthkimkgphaiagaaGreatDoorMI

namespace Go.Proofs.YthkimkgphaiagaaGreatDoor
open Go.RowKit
set_option linter.unusedVariables false
set_option linter.unusedSimpArgs false

structure Sv where
  pol : Int
  lim : Int
  l : List Gl
  ends : List Nat
  cur : Int
  fb : Int
  stop : Bool
  m : Med
  j : Jr
abbrev gAt (l : List Gl) (i : Nat) : Gl := l.getD i Gl.zero
def findG (l : List Gl) (c n : Int) : Option Nat := l.findIdx? fun g => g.c == c && g.n == n
def latF (l : List Gl) : Int := l.foldl (fun t g => max (max t g.at_) g.en) 0
/-- the goals that are not final -/
def openL (l : List Gl) : List Nat := (List.range l.length).filter fun i => !termF (gAt l i).st
/-- a record is appended and synced -/
def recS (s : Sv) (x : List UInt8) : Int × Sv :=
  if (jAppend s.m s.j x).1 = 0 then
    if (jSync (jAppend s.m s.j x).2.1 (jAppend s.m s.j x).2.2).1 = 0 then
      (0, { s with m := (jSync (jAppend s.m s.j x).2.1 (jAppend s.m s.j x).2.2).2.1, j := (jSync (jAppend s.m s.j x).2.1 (jAppend s.m s.j x).2.2).2.2 })
    else
      ((jSync (jAppend s.m s.j x).2.1 (jAppend s.m s.j x).2.2).1, { s with m := (jSync (jAppend s.m s.j x).2.1 (jAppend s.m s.j x).2.2).2.1, j := (jSync (jAppend s.m s.j x).2.1 (jAppend s.m s.j x).2.2).2.2, stop := s.stop || decide ((jSync (jAppend s.m s.j x).2.1 (jAppend s.m s.j x).2.2).1 ≠ 15) })
  else ((jAppend s.m s.j x).1, { s with m := (jAppend s.m s.j x).2.1, j := (jAppend s.m s.j x).2.2, stop := s.stop || decide ((jAppend s.m s.j x).1 ≠ 15) })
def nextS (s : Sv) : Sv :=
  if 0 ≤ s.cur then s else
  match openL s.l with
  | [] => s
  | i :: _ => { s with cur := (i : Int), fb := 0, l := s.l.set i { gAt s.l i with st := 2 } }
def endG (g : Gl) (st at_ : Int) (rs : List UInt8) : Gl := { g with st := st, en := at_, rs := rs }
noncomputable def endR (g : Gl) : List UInt8 := 101 :: enc { g with rq := [] }
noncomputable def endS (s : Sv) (i : Nat) (st at_ : Int) (rs : List UInt8) : Int × Sv :=
  if (recS s (endR (endG (gAt s.l i) st at_ rs))).1 ≠ 0 then recS s (endR (endG (gAt s.l i) st at_ rs)) else
  (0, { (recS s (endR (endG (gAt s.l i) st at_ rs))).2 with l := s.l.set i (endG (gAt s.l i) st at_ rs), ends := s.ends ++ [i], cur := if (i : Int) = s.cur then -1 else s.cur })
def decG1 (g : Gl) (ok : Bool) : Gl := if ok then { g with st := 1 } else { g with st := 7, en := g.at_ }
noncomputable def decideS (s : Sv) (g : Gl) (ok : Bool) : Int × Sv :=
  if (recS s (114 :: enc (decG1 g ok))).1 ≠ 0 then recS s (114 :: enc (decG1 g ok)) else (0, { (recS s (114 :: enc (decG1 g ok))).2 with l := s.l ++ [decG1 g ok] })
/-- a record of the journal is applied: none if it is not one that a server appends -/
noncomputable def replayS (s : Sv) (x : List UInt8) : Option Sv :=
  match x with
  | [] => none
  | k :: r =>
    if (decG r).2 ≠ 0 then none else
    match findG s.l (decG r).1.c (decG r).1.n with
    | none => if k = 114 ∧ s.l.length < 64 ∧ (decG r).1.rs = [] ∧ ((decG r).1.st = 1 ∨ ((decG r).1.st = 7 ∧ (decG r).1.en = (decG r).1.at_)) then some { s with l := s.l ++ [(decG r).1] } else none
    | some i => if k = 101 ∧ (decG r).1.rq = [] ∧ (4 ≤ (decG r).1.st ∧ (decG r).1.st ≤ 6) ∧ (gAt s.l i).st = 1 ∧ (gAt s.l i).at_ = (decG r).1.at_ then
        some { s with l := s.l.set i (endG (gAt s.l i) (decG r).1.st (decG r).1.en (decG r).1.rs), ends := s.ends ++ [i] } else none
noncomputable def replayAll : Sv → List (List UInt8) → Option Sv
  | s, [] => some s
  | s, x :: l => match replayS s x with
    | none => none
    | some s' => replayAll s' l
/-- goals are ended one after the other, up to an error -/
noncomputable def endAll : Sv → List Nat → Int → Int → List UInt8 → Int × Sv
  | s, [], _, _, _ => (0, s)
  | s, i :: l, st, at_, rs => if (endS s i st at_ rs).1 ≠ 0 then endS s i st at_ rs else endAll (endS s i st at_ rs).2 l st at_ rs
def wRestart : List UInt8 := [114, 101, 115, 116, 97, 114, 116]
def wCanceled : List UInt8 := [99, 97, 110, 99, 101, 108, 101, 100]
/-- a server is opened: the error, what became of the medium, and the server -/
noncomputable def openS (pol lim : Int) (m : Med) : Int × Sv :=
  if ¬ (1 ≤ pol ∧ pol ≤ 3 ∧ 0 ≤ lim ∧ lim ≤ 64) then (4, ⟨pol, lim, [], [], -1, 0, false, m, ⟨[], 0, false⟩⟩) else
  if (jOpen m).1 ≠ 0 then ((jOpen m).1, ⟨pol, lim, [], [], -1, 0, false, (jOpen m).2.1, (jOpen m).2.2⟩) else
  match replayAll ⟨pol, lim, [], [], -1, 0, false, (jOpen m).2.1, (jOpen m).2.2⟩ (jOpen m).2.2.l with
  | none => (2, ⟨pol, lim, [], [], -1, 0, false, (jOpen m).2.1, (jOpen m).2.2⟩)
  | some s => endAll s (openL s.l) 5 (latF s.l) wRestart
def acceptsB (s : Sv) : Bool :=
  if s.pol = 1 then decide ((openL s.l).length = 0) else
  if s.pol = 3 then decide (s.cur < 0 ∨ ((openL s.l).length : Int) - 1 < s.lim) else true
noncomputable def clearS (s : Sv) (at_ : Int) : Int × Sv := endAll s ((openL s.l).filter fun i => (i : Int) ≠ s.cur) 6 at_ wCanceled
def preemptS (s : Sv) : Sv := if s.pol = 2 ∧ 0 ≤ s.cur then { s with l := s.l.set s.cur.toNat { gAt s.l s.cur.toNat with st := 3 } } else s
noncomputable def requestS (s : Sv) (c n at_ : Int) (rq : List UInt8) : Bool × Int × Sv :=
  if ¬ ((1 ≤ c ∧ c ≤ 2147483647) ∧ (1 ≤ n ∧ n ≤ 2147483647) ∧ (0 ≤ at_ ∧ at_ ≤ 1099511627776)) then (false, 4, s) else
  if 2000 < rq.length then (false, 3, s) else
  if s.stop then (false, 16, s) else
  match findG s.l c n with
  | some i => (decide ((gAt s.l i).st ≠ 7), 0, s)
  | none =>
    if at_ < latF s.l then (false, 17, s) else
    if 64 ≤ s.l.length then (false, 15, s) else
    let k := if s.pol = 2 then clearS s at_ else (0, s)
    if k.1 ≠ 0 then (false, k.1, k.2) else
    let d := decideS k.2 ⟨c, n, 0, at_, 0, rq, []⟩ (acceptsB s)
    if d.1 ≠ 0 then (false, d.1, d.2) else (acceptsB s, 0, nextS (preemptS d.2))
noncomputable def cancelS (s : Sv) (c n at_ : Int) : Int × Sv :=
  if s.stop then (16, s) else
  match findG s.l c n with
  | none => (6, s)
  | some i =>
    if ¬ (0 ≤ at_ ∧ at_ ≤ 1099511627776) then (4, s) else
    if at_ < latF s.l then (17, s) else
    if termF (gAt s.l i).st = true ∨ (gAt s.l i).st = 3 then (10, s) else
    if (i : Int) = s.cur then (0, { s with l := s.l.set i { gAt s.l i with st := 3 } }) else endS s i 6 at_ wCanceled
def feedbackS (s : Sv) (x : List UInt8) : Int × Int × Sv :=
  if s.stop then (0, 16, s) else if s.cur < 0 then (0, 6, s) else if 2000 < x.length then (0, 3, s) else (s.fb + 1, 0, { s with fb := s.fb + 1 })
noncomputable def finishS (s : Sv) (st at_ : Int) (rs : List UInt8) : Int × Sv :=
  if s.stop then (16, s) else if s.cur < 0 then (6, s) else
  if ¬ (0 ≤ at_ ∧ at_ ≤ 1099511627776) then (4, s) else if at_ < latF s.l then (17, s) else if 2000 < rs.length then (3, s) else
  let st' := if st = 5 ∧ (gAt s.l s.cur.toNat).st = 3 then 6 else st
  if (endS s s.cur.toNat st' at_ rs).1 ≠ 0 then endS s s.cur.toNat st' at_ rs else (0, nextS (endS s s.cur.toNat st' at_ rs).2)
end Go.Proofs.YthkimkgphaiagaaGreatDoor

namespace Go.Proofs.YthkimkgphaiagaaGreatDoor
open Go.RowKit
set_option linter.unusedVariables false
set_option linter.unusedSimpArgs false

def actv (g : Gl) : Bool := g.st == 2 || g.st == 3
/-- the first goal that is executed or being canceled, or -1 -/
def curF (l : List Gl) : Int := match l.findIdx? actv with | some i => (i : Int) | none => -1
/-- the goals that wait -/
def waitL (l : List Gl) : List Nat := (List.range l.length).filter fun i => (gAt l i).st == 1
theorem actv_iff {g : Gl} : actv g = true ↔ g.st = 2 ∨ g.st = 3 := by simp [actv]
theorem termF_iff (st : Int) : termF st = true ↔ 4 ≤ st ∧ st ≤ 7 := by unfold termF; simp
theorem gAt_set {l : List Gl} {i : Nat} (hi : i < l.length) (y : Gl) (k : Nat) : gAt (l.set i y) k = if k = i then y else gAt l k := by
  unfold gAt
  rw [List.getD_eq_getElem?_getD, List.getD_eq_getElem?_getD, List.getElem?_set]
  by_cases h : i = k
  · subst h; simp [hi]
  · rw [if_neg h, if_neg (fun e => h e.symm)]
theorem gAt_snoc (l : List Gl) (y : Gl) (k : Nat) (hk : k < l.length + 1) : gAt (l ++ [y]) k = if k = l.length then y else gAt l k := by
  unfold gAt
  rw [List.getD_eq_getElem?_getD, List.getD_eq_getElem?_getD]
  by_cases h : k = l.length
  · subst h; simp
  · rw [if_neg h, List.getElem?_append_left (by omega)]
theorem gAt_mem {l : List Gl} {i : Nat} (hi : i < l.length) : gAt l i ∈ l := by
  unfold gAt; rw [List.getD_eq_getElem?_getD, List.getElem?_eq_getElem hi]; exact List.getElem_mem hi
structure Inv0 (s : Sv) : Prop where
  len : s.l.length ≤ 64
  st : ∀ i, i < s.l.length → 1 ≤ (gAt s.l i).st ∧ (gAt s.l i).st ≤ 7
  c1 : ∀ i, i < s.l.length → ((gAt s.l i).st = 2 ∨ (gAt s.l i).st = 3) → (i : Int) = s.cur
  c2 : 0 ≤ s.cur → s.cur.toNat < s.l.length ∧ ((gAt s.l s.cur.toNat).st = 2 ∨ (gAt s.l s.cur.toNat).st = 3)
  c3 : -1 ≤ s.cur
  ends : ∀ i ∈ s.ends, i < s.l.length
structure Inv (s : Sv) : Prop extends Inv0 s where
  idle : s.cur < 0 → ∀ i, i < s.l.length → (gAt s.l i).st ≠ 1
theorem curF_none {l : List Gl} (h : ∀ i, i < l.length → ¬ ((gAt l i).st = 2 ∨ (gAt l i).st = 3)) : curF l = -1 := by
  unfold curF
  have : l.findIdx? actv = none := by
    rw [List.findIdx?_eq_none_iff]
    intro x hx
    obtain ⟨i, hi, rfl⟩ := List.getElem_of_mem hx
    have h1 := h i hi
    have e : gAt l i = l[i] := by unfold gAt; rw [List.getD_eq_getElem?_getD, List.getElem?_eq_getElem hi]; rfl
    rw [e, ← actv_iff] at h1
    simpa using h1
  rw [this]
theorem curF_some {l : List Gl} {k : Nat} (hk : k < l.length) (h1 : (gAt l k).st = 2 ∨ (gAt l k).st = 3) (h : ∀ i, i < k → ¬ ((gAt l i).st = 2 ∨ (gAt l i).st = 3)) : curF l = (k : Int) := by
  unfold curF
  have e : ∀ i (hi : i < l.length), gAt l i = l[i] := fun i hi => by unfold gAt; rw [List.getD_eq_getElem?_getD, List.getElem?_eq_getElem hi]; rfl
  have : l.findIdx? actv = some k := by
    rw [List.findIdx?_eq_some_iff_getElem]
    refine ⟨hk, ?_, fun j hj => ?_⟩
    · rw [e k hk, ← actv_iff] at h1; exact h1
    · have := h j hj
      rw [e j (by omega), ← actv_iff] at this
      simpa using this
  rw [this]
theorem Inv0.cu {s : Sv} (h : Inv0 s) : curF s.l = s.cur := by
  by_cases hc : 0 ≤ s.cur
  · obtain ⟨h1, h2⟩ := h.c2 hc
    rw [curF_some h1 h2 (fun i hi h3 => by have := h.c1 i (by omega) h3; omega)]; omega
  · have := h.c3
    rw [curF_none (fun i hi h3 => by have := h.c1 i hi h3; omega)]; omega
theorem waitL_mem {l : List Gl} {i : Nat} : i ∈ waitL l ↔ i < l.length ∧ (gAt l i).st = 1 := by
  unfold waitL; rw [List.mem_filter, List.mem_range]; simp
theorem openL_mem {l : List Gl} {i : Nat} : i ∈ openL l ↔ i < l.length ∧ termF (gAt l i).st = false := by
  unfold openL; rw [List.mem_filter, List.mem_range]; simp
theorem Inv0.clear {s : Sv} (h : Inv0 s) : ((openL s.l).filter fun i : Nat => decide ((i : Int) ≠ s.cur)) = waitL s.l := by
  unfold openL waitL
  rw [List.filter_filter]
  apply List.filter_congr
  intro i hi
  rw [List.mem_range] at hi
  have h1 := h.st i hi
  have h2 := h.c1 i hi
  have h3 := termF_iff (gAt s.l i).st
  by_cases hw : (gAt s.l i).st = 1
  · have h4 : termF (gAt s.l i).st = false := by rw [← Bool.not_eq_true, h3]; omega
    have h5 : (i : Int) ≠ s.cur := by
      intro e
      have := (h.c2 (by omega)).2
      rw [← e, Int.toNat_natCast] at this
      omega
    clear h1 h2 h3; generalize gAt s.l i = g at h4 hw ⊢
    rw [h4, hw]; simp [h5]
  · by_cases ht : termF (gAt s.l i).st = true
    · clear h1 h2 h3; generalize gAt s.l i = g at ht hw ⊢
      simp [ht, hw]
    · have h5 : (i : Int) = s.cur := h2 (by rw [h3] at ht; omega)
      clear h1 h2 h3; generalize gAt s.l i = g at ht hw ⊢
      simp [h5, hw]
theorem Inv0.open_idle {s : Sv} (h : Inv0 s) (hc : s.cur < 0) : openL s.l = waitL s.l := by
  rw [← h.clear, List.filter_eq_self.2]
  intro i _
  simp only [decide_eq_true_eq]; omega
theorem filter_one {l : List Nat} {c : Nat} (hn : l.Nodup) (hc : c ∈ l) : (l.filter fun i => decide (i ≠ c)).length + 1 = l.length := by
  induction l with
  | nil => simp at hc
  | cons a l ih =>
    rw [List.nodup_cons] at hn
    by_cases h : a = c
    · subst h
      have : (l.filter fun i => decide (i ≠ a)) = l := by
        rw [List.filter_eq_self]; intro b hb; simp only [decide_eq_true_eq]; rintro rfl; exact hn.1 hb
      rw [List.filter_cons, if_neg (by simp), this]; rfl
    · rw [List.mem_cons] at hc
      have := ih hn.2 (hc.resolve_left (fun e => h e.symm))
      rw [List.filter_cons, if_pos (by simpa using h), List.length_cons, List.length_cons]; omega
theorem Inv0.open_cur {s : Sv} (h : Inv0 s) (hc : 0 ≤ s.cur) : (openL s.l).length = (waitL s.l).length + 1 := by
  obtain ⟨h1, h2⟩ := h.c2 hc
  have hm : s.cur.toNat ∈ openL s.l := by
    rw [openL_mem]
    refine ⟨h1, ?_⟩
    rw [← Bool.not_eq_true, termF_iff]; omega
  have hn : (openL s.l).Nodup := by unfold openL; exact List.Pairwise.filter _ List.nodup_range
  rw [← filter_one hn hm, ← h.clear]
  congr 2
  apply List.filter_congr
  intro i _
  have : (i : Int) ≠ s.cur ↔ i ≠ s.cur.toNat := by omega
  simp only [this]
/-- what decides whether a goal is accepted, as the specification says it -/
def acceptsR (s : Sv) : Bool :=
  if s.pol = 1 then decide (curF s.l < 0) else if s.pol = 3 then decide (curF s.l < 0 ∨ ((waitL s.l).length : Int) < s.lim) else true
theorem Inv.accepts {s : Sv} (h : Inv s) : acceptsB s = acceptsR s := by
  unfold acceptsB acceptsR
  rw [h.cu]
  by_cases hc : s.cur < 0
  · have h0 : openL s.l = [] := by
      rw [h.open_idle hc, ← List.length_eq_zero_iff, List.length_eq_zero_iff]
      rw [List.eq_nil_iff_forall_not_mem]
      intro i hi
      rw [waitL_mem] at hi
      exact h.idle hc i hi.1 hi.2
    rw [h0]; simp [hc]
  · have h1 := h.open_cur (by omega)
    have e1 : decide ((openL s.l).length = 0) = decide (s.cur < 0) := by simp only [decide_eq_decide]; omega
    have e2 : decide (s.cur < 0 ∨ ((openL s.l).length : Int) - 1 < s.lim) = decide (s.cur < 0 ∨ ((waitL s.l).length : Int) < s.lim) := by
      simp only [decide_eq_decide]; omega
    rw [e1, e2]

/-! ## What keeps it -/
structure Like (s t : Sv) : Prop where
  l : t.l = s.l
  ends : t.ends = s.ends
  cur : t.cur = s.cur
theorem Like.refl (s : Sv) : Like s s := ⟨rfl, rfl, rfl⟩
theorem Inv0.like {s t : Sv} (h : Inv0 s) (k : Like s t) : Inv0 t := by
  obtain ⟨h1, h2, h3, h4, h5, h6⟩ := h
  rw [← k.l] at h1 h2 h3 h4 h6
  rw [← k.ends] at h6
  rw [← k.cur] at h3 h4 h5
  exact ⟨h1, h2, h3, h4, h5, h6⟩
theorem Inv.like {s t : Sv} (h : Inv s) (k : Like s t) : Inv t := ⟨h.toInv0.like k, by rw [k.l, k.cur]; exact h.idle⟩
theorem recS_like (s : Sv) (x : List UInt8) : Like s (recS s x).2 := by
  unfold recS
  split
  · split <;> exact ⟨rfl, rfl, rfl⟩
  · exact ⟨rfl, rfl, rfl⟩
theorem endS_ok {s : Sv} {i : Nat} {st at_ : Int} {rs : List UInt8} (h : (endS s i st at_ rs).1 = 0) :
    (endS s i st at_ rs).2.l = s.l.set i (endG (gAt s.l i) st at_ rs) ∧ (endS s i st at_ rs).2.ends = s.ends ++ [i] ∧ (endS s i st at_ rs).2.cur = if (i : Int) = s.cur then -1 else s.cur := by
  unfold endS at h ⊢
  split at h
  · rename_i h1; exact absurd h h1
  · rename_i h1; rw [if_neg h1]; exact ⟨rfl, rfl, rfl⟩
theorem endS_no {s : Sv} {i : Nat} {st at_ : Int} {rs : List UInt8} (h : (endS s i st at_ rs).1 ≠ 0) : Like s (endS s i st at_ rs).2 := by
  unfold endS at h ⊢
  split at h
  · rename_i h1; rw [if_pos h1]; exact recS_like _ _
  · exact absurd rfl h
theorem Inv0.endS {s : Sv} (h : Inv0 s) {i : Nat} (hi : i < s.l.length) {st : Int} (hs : 4 ≤ st ∧ st ≤ 6) (at_ : Int) (rs : List UInt8) : Inv0 (endS s i st at_ rs).2 := by
  by_cases he : (Go.Proofs.YthkimkgphaiagaaGreatDoor.endS s i st at_ rs).1 = 0
  · obtain ⟨e1, e2, e3⟩ := endS_ok he
    generalize (Go.Proofs.YthkimkgphaiagaaGreatDoor.endS s i st at_ rs).2 = t at e1 e2 e3
    have hl : t.l.length = s.l.length := by rw [e1, List.length_set]
    have hg : ∀ k, gAt t.l k = if k = i then endG (gAt s.l i) st at_ rs else gAt s.l k := fun k => by rw [e1]; exact gAt_set hi _ k
    refine ⟨by rw [hl]; exact h.len, fun k hk => ?_, fun k hk h1 => ?_, fun h1 => ?_, ?_, fun k hk => ?_⟩
    · rw [hg]
      split
      · show 1 ≤ st ∧ st ≤ 7; omega
      · exact h.st k (by omega)
    · rw [hg] at h1
      split at h1
      · have h1 : st = 2 ∨ st = 3 := h1; omega
      · rename_i hne
        have := h.c1 k (by omega) h1
        rw [e3]
        split
        · omega
        · exact this
    · rw [e3] at h1 ⊢
      split at h1
      · omega
      · rename_i hne
        rw [if_neg hne]
        obtain ⟨h2, h3⟩ := h.c2 h1
        rw [hg, if_neg (by omega)]
        exact ⟨by omega, h3⟩
    · rw [e3]; have := h.c3; split <;> omega
    · rw [e2, List.mem_append, List.mem_singleton] at hk
      rcases hk with hk | rfl
      · have := h.ends k hk; omega
      · omega
  · exact h.like (endS_no he)
theorem Inv.endS {s : Sv} (h : Inv s) {i : Nat} (hi : i < s.l.length) (hne : (i : Int) ≠ s.cur) {st : Int} (hs : 4 ≤ st ∧ st ≤ 6) (at_ : Int) (rs : List UInt8) : Inv (endS s i st at_ rs).2 := by
  refine ⟨h.toInv0.endS hi hs at_ rs, ?_⟩
  by_cases he : (Go.Proofs.YthkimkgphaiagaaGreatDoor.endS s i st at_ rs).1 = 0
  · obtain ⟨e1, e2, e3⟩ := endS_ok he
    rw [e1, e3, if_neg hne, List.length_set]
    intro hc k hk
    rw [gAt_set hi]
    split
    · show st ≠ 1; omega
    · exact h.idle hc k hk
  · exact (h.like (endS_no he)).idle
theorem endS_len (s : Sv) (i : Nat) (st at_ : Int) (rs : List UInt8) : (endS s i st at_ rs).2.l.length = s.l.length := by
  by_cases he : (endS s i st at_ rs).1 = 0
  · rw [(endS_ok he).1, List.length_set]
  · rw [(endS_no he).l]
theorem endAll_len : ∀ (l : List Nat) (s : Sv) (st at_ : Int) (rs : List UInt8), (endAll s l st at_ rs).2.l.length = s.l.length
  | [], s, st, at_, rs => rfl
  | i :: l, s, st, at_, rs => by
    unfold endAll
    split
    · exact endS_len ..
    · rw [endAll_len l]; exact endS_len ..
theorem endS_cur {s : Sv} {i : Nat} (hne : (i : Int) ≠ s.cur) (st at_ : Int) (rs : List UInt8) : (endS s i st at_ rs).2.cur = s.cur := by
  by_cases he : (endS s i st at_ rs).1 = 0
  · rw [(endS_ok he).2.2, if_neg hne]
  · exact (endS_no he).cur
theorem Inv0.endAll : ∀ {l : List Nat} {s : Sv}, Inv0 s → (∀ i ∈ l, i < s.l.length) → ∀ {st : Int}, (4 ≤ st ∧ st ≤ 6) → ∀ (at_ : Int) (rs : List UInt8), Inv0 (endAll s l st at_ rs).2
  | [], s, h, _, st, _, at_, rs => h
  | i :: l, s, h, hl, st, hs, at_, rs => by
    unfold Go.Proofs.YthkimkgphaiagaaGreatDoor.endAll
    have hi := hl i (List.mem_cons_self ..)
    split
    · exact h.endS hi hs at_ rs
    · exact (h.endS hi hs at_ rs).endAll (fun k hk => by rw [endS_len]; exact hl k (List.mem_cons_of_mem _ hk)) hs at_ rs
theorem Inv.endAll : ∀ {l : List Nat} {s : Sv}, Inv s → (∀ i ∈ l, i < s.l.length ∧ (i : Int) ≠ s.cur) → ∀ {st : Int}, (4 ≤ st ∧ st ≤ 6) → ∀ (at_ : Int) (rs : List UInt8), Inv (endAll s l st at_ rs).2
  | [], s, h, _, st, _, at_, rs => h
  | i :: l, s, h, hl, st, hs, at_, rs => by
    unfold Go.Proofs.YthkimkgphaiagaaGreatDoor.endAll
    have hi := hl i (List.mem_cons_self ..)
    split
    · exact h.endS hi.1 hi.2 hs at_ rs
    · exact (h.endS hi.1 hi.2 hs at_ rs).endAll (fun k hk => by rw [endS_len, endS_cur hi.2]; exact hl k (List.mem_cons_of_mem _ hk)) hs at_ rs
theorem Inv0.nextS {s : Sv} (h : Inv0 s) : Inv (nextS s) := by
  unfold Go.Proofs.YthkimkgphaiagaaGreatDoor.nextS
  split
  · rename_i hc; exact ⟨h, fun h1 => by omega⟩
  · rename_i hc
    rw [h.open_idle (by omega)]
    rcases hq : waitL s.l with _ | ⟨i, r⟩
    · refine ⟨h, fun h1 k hk e => ?_⟩
      have : k ∈ waitL s.l := waitL_mem.2 ⟨hk, e⟩
      rw [hq] at this; simp at this
    · have hi : i ∈ waitL s.l := by rw [hq]; exact List.mem_cons_self ..
      rw [waitL_mem] at hi
      have hg : ∀ k, gAt (s.l.set i { gAt s.l i with st := 2 }) k = if k = i then { gAt s.l i with st := 2 } else gAt s.l k := gAt_set hi.1 _
      refine ⟨⟨?_, ?_, ?_, ?_, ?_, ?_⟩, ?_⟩
      · show (s.l.set i _).length ≤ 64; rw [List.length_set]; exact h.len
      · intro k hk
        have hk : k < (s.l.set i { gAt s.l i with st := 2 }).length := hk
        rw [List.length_set] at hk
        show 1 ≤ (gAt (s.l.set i _) k).st ∧ _ ≤ _
        rw [hg]
        split
        · show (1 : Int) ≤ 2 ∧ (2 : Int) ≤ 7; omega
        · exact h.st k hk
      · intro k hk h1
        have hk : k < (s.l.set i { gAt s.l i with st := 2 }).length := hk
        rw [List.length_set] at hk
        have h1 : (gAt (s.l.set i { gAt s.l i with st := 2 }) k).st = 2 ∨ (gAt (s.l.set i { gAt s.l i with st := 2 }) k).st = 3 := h1
        show (k : Int) = (i : Int)
        rw [hg] at h1
        split at h1
        · rename_i e; rw [e]
        · have := h.c1 k hk h1; omega
      · intro _
        show (i : Int).toNat < (s.l.set i _).length ∧ ((gAt (s.l.set i _) (i : Int).toNat).st = 2 ∨ (gAt (s.l.set i _) (i : Int).toNat).st = 3)
        rw [Int.toNat_natCast, hg, if_pos rfl, List.length_set]
        exact ⟨hi.1, .inl rfl⟩
      · show -1 ≤ (i : Int); omega
      · intro k hk
        show k < (s.l.set i _).length
        rw [List.length_set]; exact h.ends k hk
      · intro h1; have h1 : (i : Int) < 0 := h1; omega
theorem Inv0.at3 {s : Sv} (h : Inv0 s) (hc : 0 ≤ s.cur) : Inv0 { s with l := s.l.set s.cur.toNat { gAt s.l s.cur.toNat with st := 3 } } := by
  obtain ⟨hi, h2⟩ := h.c2 hc
  have hg := gAt_set hi { gAt s.l s.cur.toNat with st := 3 }
  refine ⟨?_, ?_, ?_, ?_, h.c3, ?_⟩
  · show (s.l.set _ _).length ≤ 64; rw [List.length_set]; exact h.len
  · intro k hk
    have hk : k < (s.l.set s.cur.toNat { gAt s.l s.cur.toNat with st := 3 }).length := hk
    rw [List.length_set] at hk
    show 1 ≤ (gAt (s.l.set _ _) k).st ∧ _ ≤ _
    rw [hg]
    split
    · show (1 : Int) ≤ 3 ∧ (3 : Int) ≤ 7; omega
    · exact h.st k hk
  · intro k hk h1
    have hk : k < (s.l.set s.cur.toNat { gAt s.l s.cur.toNat with st := 3 }).length := hk
    rw [List.length_set] at hk
    have h1 : (gAt (s.l.set s.cur.toNat { gAt s.l s.cur.toNat with st := 3 }) k).st = 2 ∨ (gAt (s.l.set s.cur.toNat { gAt s.l s.cur.toNat with st := 3 }) k).st = 3 := h1
    show (k : Int) = s.cur
    rw [hg] at h1
    split at h1
    · omega
    · exact h.c1 k hk h1
  · intro _
    show s.cur.toNat < (s.l.set _ _).length ∧ ((gAt (s.l.set _ _) s.cur.toNat).st = 2 ∨ (gAt (s.l.set _ _) s.cur.toNat).st = 3)
    rw [hg, if_pos rfl, List.length_set]
    exact ⟨hi, .inr rfl⟩
  · intro k hk
    show k < (s.l.set _ _).length
    rw [List.length_set]; exact h.ends k hk
theorem Inv0.preemptS {s : Sv} (h : Inv0 s) : Inv0 (preemptS s) := by
  unfold Go.Proofs.YthkimkgphaiagaaGreatDoor.preemptS
  split
  · rename_i hc; exact h.at3 hc.2
  · exact h
theorem decG1_st (g : Gl) (ok : Bool) : (decG1 g ok).st = 1 ∨ (decG1 g ok).st = 7 := by unfold decG1; cases ok <;> simp
theorem decideS_ok {s : Sv} {g : Gl} {ok : Bool} (h : (decideS s g ok).1 = 0) :
    (decideS s g ok).2.l = s.l ++ [decG1 g ok] ∧ (decideS s g ok).2.ends = s.ends ∧ (decideS s g ok).2.cur = s.cur := by
  unfold decideS at h ⊢
  split at h
  · rename_i h1; exact absurd h h1
  · rename_i h1; rw [if_neg h1]; have := recS_like s (114 :: enc (decG1 g ok)); exact ⟨rfl, this.ends, this.cur⟩
theorem decideS_no {s : Sv} {g : Gl} {ok : Bool} (h : (decideS s g ok).1 ≠ 0) : Like s (decideS s g ok).2 := by
  unfold decideS at h ⊢
  split at h
  · rename_i h1; rw [if_pos h1]; exact recS_like _ _
  · exact absurd rfl h
theorem Inv0.decideS {s : Sv} (h : Inv0 s) (hl : s.l.length < 64) (g : Gl) (ok : Bool) : Inv0 (decideS s g ok).2 := by
  by_cases he : (Go.Proofs.YthkimkgphaiagaaGreatDoor.decideS s g ok).1 = 0
  · obtain ⟨e1, e2, e3⟩ := decideS_ok he
    generalize (Go.Proofs.YthkimkgphaiagaaGreatDoor.decideS s g ok).2 = t at e1 e2 e3
    have hlt : t.l.length = s.l.length + 1 := by rw [e1, List.length_append]; rfl
    have hg : ∀ k, k < s.l.length + 1 → gAt t.l k = if k = s.l.length then decG1 g ok else gAt s.l k := fun k hk => by rw [e1]; exact gAt_snoc _ _ k hk
    have hd := decG1_st g ok
    refine ⟨by omega, fun k hk => ?_, fun k hk h1 => ?_, fun h1 => ?_, by rw [e3]; exact h.c3, fun k hk => ?_⟩
    · rw [hg k (by omega)]
      split
      · omega
      · exact h.st k (by omega)
    · rw [hg k (by omega)] at h1
      rw [e3]
      split at h1
      · omega
      · exact h.c1 k (by omega) h1
    · rw [e3] at h1 ⊢
      obtain ⟨h2, h3⟩ := h.c2 h1
      rw [hg _ (by omega), if_neg (by omega)]
      exact ⟨by omega, h3⟩
    · rw [e2] at hk; have := h.ends k hk; omega
  · exact h.like (decideS_no he)
theorem clearL_lt {s : Sv} {i : Nat} (h : i ∈ (openL s.l).filter fun i : Nat => decide ((i : Int) ≠ s.cur)) : i < s.l.length ∧ (i : Int) ≠ s.cur := by
  rw [List.mem_filter, openL_mem] at h
  exact ⟨h.1.1, by simpa using h.2⟩
theorem Inv.clearS {s : Sv} (h : Inv s) (at_ : Int) : Inv (clearS s at_).2 := h.endAll (fun i hi => clearL_lt hi) ⟨by decide, by decide⟩ at_ _
theorem Inv.requestS {s : Sv} (h : Inv s) (c n at_ : Int) (rq : List UInt8) : Inv (requestS s c n at_ rq).2.2 := by
  unfold Go.Proofs.YthkimkgphaiagaaGreatDoor.requestS
  split
  · exact h
  split
  · exact h
  split
  · exact h
  split
  · exact h
  split
  · exact h
  split
  · exact h
  rename_i hl
  have hk : Inv (if s.pol = 2 then Go.Proofs.YthkimkgphaiagaaGreatDoor.clearS s at_ else (0, s)).2 ∧ (if s.pol = 2 then Go.Proofs.YthkimkgphaiagaaGreatDoor.clearS s at_ else (0, s)).2.l.length = s.l.length := by
    split
    · exact ⟨h.clearS at_, endAll_len ..⟩
    · exact ⟨h, rfl⟩
  generalize (if s.pol = 2 then Go.Proofs.YthkimkgphaiagaaGreatDoor.clearS s at_ else (0, s)) = k at hk ⊢
  dsimp only
  split
  · exact hk.1
  have hd := hk.1.toInv0.decideS (by omega) ⟨c, n, 0, at_, 0, rq, []⟩ (acceptsB s)
  split
  · rename_i he; exact hk.1.like (decideS_no he)
  · exact hd.preemptS.nextS
theorem findG_lt {l : List Gl} {c n : Int} {i : Nat} (h : findG l c n = some i) : i < l.length := by
  unfold findG at h
  rw [List.findIdx?_eq_some_iff_getElem] at h
  exact h.1
theorem findG_eq {l : List Gl} {c n : Int} {i : Nat} (h : findG l c n = some i) : (gAt l i).c = c ∧ (gAt l i).n = n := by
  unfold findG at h
  rw [List.findIdx?_eq_some_iff_getElem] at h
  obtain ⟨hi, h1, _⟩ := h
  have e : gAt l i = l[i] := by unfold gAt; rw [List.getD_eq_getElem?_getD, List.getElem?_eq_getElem hi]; rfl
  rw [e]
  simpa using h1
theorem Inv.cancelS {s : Sv} (h : Inv s) (c n at_ : Int) : Inv (cancelS s c n at_).2 := by
  unfold Go.Proofs.YthkimkgphaiagaaGreatDoor.cancelS
  split
  · exact h
  split
  · exact h
  · rename_i i hi
    split
    · exact h
    split
    · exact h
    split
    · exact h
    split
    · rename_i hc
      have h0 := h.toInv0.at3 (by omega)
      rw [show s.cur.toNat = i by omega] at h0
      exact ⟨h0, fun h1 => by have h1 : s.cur < 0 := h1; omega⟩
    · rename_i hc
      exact h.endS (findG_lt hi) hc ⟨by decide, by decide⟩ at_ _
theorem Inv.feedbackS {s : Sv} (h : Inv s) (x : List UInt8) : Inv (feedbackS s x).2.2 := by
  unfold Go.Proofs.YthkimkgphaiagaaGreatDoor.feedbackS
  split
  · exact h
  split
  · exact h
  split
  · exact h
  · exact h.like ⟨rfl, rfl, rfl⟩
theorem Inv.finishS {s : Sv} (h : Inv s) {st : Int} (hs : st = 4 ∨ st = 5) (at_ : Int) (rs : List UInt8) : Inv (finishS s st at_ rs).2 := by
  unfold Go.Proofs.YthkimkgphaiagaaGreatDoor.finishS
  split
  · exact h
  split
  · exact h
  split
  · exact h
  split
  · exact h
  split
  · exact h
  rename_i hc _ _ _
  obtain ⟨h1, h2⟩ := h.c2 (by omega)
  dsimp only
  have hst : 4 ≤ (if st = 5 ∧ (gAt s.l s.cur.toNat).st = 3 then 6 else st) ∧ (if st = 5 ∧ (gAt s.l s.cur.toNat).st = 3 then 6 else st) ≤ 6 := by split <;> omega
  generalize (if st = 5 ∧ (gAt s.l s.cur.toNat).st = 3 then (6 : Int) else st) = st' at hst ⊢
  split
  · rename_i he; exact h.like (endS_no he)
  · exact (h.toInv0.endS h1 hst at_ rs).nextS
end Go.Proofs.YthkimkgphaiagaaGreatDoor
