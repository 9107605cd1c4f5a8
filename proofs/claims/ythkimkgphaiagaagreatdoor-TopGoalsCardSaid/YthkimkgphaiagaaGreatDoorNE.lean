/- Goals between clients and a server whose medium crashes, in plain words: which errors there are. No conditions. -/
import Derived.Test.YthkimkgphaiagaaGreatDoorND
import Derived.Test.YthkimkgphaiagaaGreatDoorSon

namespace Go.Proofs.YthkimkgphaiagaaGreatDoor
open Go.RowKit
set_option linter.unusedVariables false
set_option linter.unusedSimpArgs false

/-! ## A medium that is not armed -/
structure Med.Qu (m : Med) : Prop where
  up : m.down = false
  st : m.steps = 0
theorem Med.Qu.append {m : Med} (h : m.Qu) (x : List UInt8) : ((m.append x).1 = 0 ∨ (m.append x).1 = 15) ∧ (m.append x).2.Qu := by
  unfold Med.append
  rw [if_neg (by rw [h.up]; simp)]
  split
  · exact ⟨.inr rfl, h⟩
  · rw [if_neg (by rw [h.st]; decide)]
    exact ⟨.inl rfl, h.up, by unfold Med.due; dsimp only; rw [if_pos h.st]⟩
theorem Med.Qu.sync {m : Med} (h : m.Qu) : m.sync.1 = 0 ∧ m.sync.2.Qu := by
  unfold Med.sync
  rw [if_neg (by rw [h.up]; simp), if_neg (by rw [h.st]; decide)]
  exact ⟨rfl, h.up, by unfold Med.due; dsimp only; rw [if_pos h.st]⟩
theorem Med.Qu.truncate {m : Med} (h : m.Qu) {n : Int} (hn : 0 ≤ n ∧ n ≤ m.s.length) : (m.truncate n).1 = 0 ∧ (m.truncate n).2.Qu := by
  unfold Med.truncate
  rw [if_neg (by rw [h.up]; simp), if_neg (by omega), if_neg (by rw [h.st]; decide)]
  exact ⟨rfl, h.up, by unfold Med.due; dsimp only; rw [if_pos h.st]⟩
theorem jOpen_qu {m : Med} (h : m.Qu) : (jOpen m).1 = 0 ∧ (jOpen m).2.1.Qu ∧ (jOpen m).2.2.stop = false := by
  have hv := (verG_bd (m.s.length + 1) 0 m.s (by decide)).1
  have he : verG (m.s.length + 1) 0 m.s = verF m.s := rfl
  rw [he] at hv
  have ht : (jTrim m).1 = 0 ∧ (jTrim m).2.Qu := by
    unfold jTrim
    split
    · exact h.truncate (by omega)
    · exact ⟨rfl, h⟩
  unfold jOpen
  rw [if_neg (by rw [h.up]; simp), if_neg (by simpa using ht.1)]
  exact ⟨ht.2.sync.1, ht.2.sync.2, rfl⟩
structure Sv.Qu (s : Sv) : Prop where
  m : s.m.Qu
  j : s.j.stop = false
  s : s.stop = false
theorem Sv.Qu.recS {s : Sv} (h : s.Qu) {x : List UInt8} (hx : x.length ≤ 4000) : ((recS s x).1 = 0 ∨ (recS s x).1 = 15) ∧ (recS s x).2.Qu := by
  have ha : ((jAppend s.m s.j x).1 = 0 ∨ (jAppend s.m s.j x).1 = 15) ∧ (jAppend s.m s.j x).2.1.Qu ∧ (jAppend s.m s.j x).2.2.stop = false := by
    have h1 := h.m.append (frameF (headF 0 s.j.l) x)
    unfold jAppend
    rw [if_neg (by rw [h.j]; simp), if_neg (by omega)]
    rcases h1.1 with e | e
    · rw [if_pos e]; exact ⟨.inl rfl, h1.2, h.j⟩
    · rw [if_neg (by omega), if_pos e]; exact ⟨.inr rfl, h1.2, h.j⟩
  have hs : (jSync (jAppend s.m s.j x).2.1 (jAppend s.m s.j x).2.2).1 = 0 ∧ (jSync (jAppend s.m s.j x).2.1 (jAppend s.m s.j x).2.2).2.1.Qu ∧ (jSync (jAppend s.m s.j x).2.1 (jAppend s.m s.j x).2.2).2.2.stop = false := by
    have h1 := ha.2.1.sync
    unfold jSync
    rw [if_neg (by rw [ha.2.2]; simp), if_pos h1.1]
    exact ⟨rfl, h1.2, ha.2.2⟩
  unfold Go.Proofs.YthkimkgphaiagaaGreatDoor.recS
  rcases ha.1 with e | e
  · rw [if_pos e, if_pos hs.1]
    exact ⟨.inl rfl, hs.2.1, hs.2.2, h.s⟩
  · rw [if_neg (by omega)]
    exact ⟨.inr e, ha.2.1, ha.2.2, by dsimp only; rw [e, h.s]; rfl⟩
theorem Sv.Qu.endS {s : Sv} (h : s.Qu) (i : Nat) (st at_ : Int) {rs : List UInt8} (hr : rs.length ≤ 2000) : ((endS s i st at_ rs).1 = 0 ∨ (endS s i st at_ rs).1 = 15) ∧ (endS s i st at_ rs).2.Qu := by
  have hl := endR_short (endG (gAt s.l i) st at_ rs)
  have e2 : (endG (gAt s.l i) st at_ rs).rs.length = rs.length := rfl
  obtain ⟨h1, h2⟩ := h.recS (x := endR (endG (gAt s.l i) st at_ rs)) (by omega)
  unfold Go.Proofs.YthkimkgphaiagaaGreatDoor.endS
  split
  · exact ⟨h1, h2⟩
  · exact ⟨.inl rfl, h2.m, h2.j, h2.s⟩
theorem Sv.Qu.endAll : ∀ (l : List Nat) {s : Sv} (h : s.Qu) (st at_ : Int) {rs : List UInt8} (hr : rs.length ≤ 2000), ((endAll s l st at_ rs).1 = 0 ∨ (endAll s l st at_ rs).1 = 15) ∧ (endAll s l st at_ rs).2.Qu
  | [], s, h, st, at_, rs, hr => ⟨.inl rfl, h⟩
  | i :: l, s, h, st, at_, rs, hr => by
    have h1 := h.endS i st at_ hr
    unfold Go.Proofs.YthkimkgphaiagaaGreatDoor.endAll
    split
    · exact h1
    · exact Sv.Qu.endAll l h1.2 st at_ hr
/-- a server that is opened again after a crash: the medium is full, or all is well -/
theorem Off.err {m : Med} {L : List (List UInt8)} {safe i : Nat} {p : GE} (h : Off m L safe i p) (hq : m.recover.2.Qu) {pol lim : Int} (hpl : 1 ≤ pol ∧ pol ≤ 3 ∧ 0 ≤ lim ∧ lim ≤ 64) :
    ((openS pol lim m.recover.2).1 = 0 ∨ (openS pol lim m.recover.2).1 = 15) ∧ ((openS pol lim m.recover.2).1 = 0 → (openS pol lim m.recover.2).2.Qu) := by
  obtain ⟨⟨j, hj⟩, ⟨q, hqq⟩, hnow⟩ := h
  have ho := jOpen_qu hq
  obtain ⟨r, hr⟩ : ∃ r, jOpen m.recover.2 = r := ⟨_, rfl⟩
  obtain ⟨e, m2, j2⟩ := r
  obtain ⟨_, h2⟩ := hj.reopen hr
  rw [hr] at ho
  dsimp only at ho
  obtain ⟨rfl, hqm, hjs⟩ := ho
  obtain ⟨k, k1, k2, k3, k4⟩ := h2 rfl
  obtain ⟨t, ht, _⟩ := repA_take hqq k
  have hra : replayAll ⟨pol, lim, [], [], -1, 0, false, m2, j2⟩ j2.l = some ⟨pol, lim, t.1, t.2, -1, 0, false, m2, j2⟩ := by
    rw [replayAll_rep, k3]
    dsimp only
    rw [ht]; rfl
  unfold openS
  rw [if_neg (fun hn => hn hpl), hr]
  dsimp only
  rw [if_neg (by simp), hra]
  dsimp only
  have h0 : Sv.Qu ⟨pol, lim, t.1, t.2, -1, 0, false, m2, j2⟩ := ⟨hqm, hjs, rfl⟩
  have h1 := h0.endAll (openL t.1) 5 (latF t.1) (rs := wRestart) (by decide)
  exact ⟨h1.1, fun _ => h1.2⟩

/-! ## What every operation keeps of the medium -/
structure KeepM (P : Med → Prop) : Prop where
  a : ∀ m x, P m → P (m.append x).2
  s : ∀ m, P m → P m.sync.2
section
variable {P : Med → Prop} (hP : KeepM P)
include hP
theorem recS_keep {s : Sv} (h : P s.m) (x : List UInt8) : P (recS s x).2.m := by
  have ha : P (jAppend s.m s.j x).2.1 := by
    unfold jAppend
    split
    · exact h
    split
    · exact h
    split
    · exact hP.a _ _ h
    split
    · exact hP.a _ _ h
    · exact hP.a _ _ h
  have hs : P (jSync (jAppend s.m s.j x).2.1 (jAppend s.m s.j x).2.2).2.1 := by
    unfold jSync
    split
    · exact ha
    split
    · exact hP.s _ ha
    · exact hP.s _ ha
  unfold recS
  split
  · split
    · exact hs
    · exact hs
  · exact ha
theorem endS_keep {s : Sv} (h : P s.m) (i : Nat) (st at_ : Int) (rs : List UInt8) : P (endS s i st at_ rs).2.m := by
  have := recS_keep hP h (endR (endG (gAt s.l i) st at_ rs))
  unfold endS
  split <;> exact this
theorem endAll_keep : ∀ (l : List Nat) {s : Sv} (h : P s.m) (st at_ : Int) (rs : List UInt8), P (endAll s l st at_ rs).2.m
  | [], s, h, st, at_, rs => h
  | i :: l, s, h, st, at_, rs => by
    unfold endAll
    split
    · exact endS_keep hP h i st at_ rs
    · exact endAll_keep l (endS_keep hP h i st at_ rs) st at_ rs
theorem decideS_keep {s : Sv} (h : P s.m) (g : Gl) (ok : Bool) : P (decideS s g ok).2.m := by
  have := recS_keep hP h (114 :: enc (decG1 g ok))
  unfold decideS
  split <;> exact this
theorem requestS_keep {s : Sv} (h : P s.m) (c n at_ : Int) (rq : List UInt8) : P (requestS s c n at_ rq).2.2.m := by
  unfold requestS
  split
  · exact h
  split
  · exact h
  split
  · exact h
  split
  · exact h
  split
  · exact h
  split
  · exact h
  have hk : P (if s.pol = 2 then clearS s at_ else (0, s)).2.m := by
    split
    · exact endAll_keep hP _ h _ _ _
    · exact h
  generalize (if s.pol = 2 then clearS s at_ else (0, s)) = k at hk ⊢
  dsimp only
  split
  · exact hk
  have hd := decideS_keep hP hk ⟨c, n, 0, at_, 0, rq, []⟩ (acceptsB s)
  split
  · exact hd
  · rw [(nextS_m _).1]
    unfold preemptS
    split <;> exact hd
theorem cancelS_keep {s : Sv} (h : P s.m) (c n at_ : Int) : P (cancelS s c n at_).2.m := by
  unfold cancelS
  split
  · exact h
  split
  · exact h
  split
  · exact h
  split
  · exact h
  split
  · exact h
  split
  · exact h
  · exact endS_keep hP h _ _ _ _
theorem finishS_keep {s : Sv} (h : P s.m) (st at_ : Int) (rs : List UInt8) : P (finishS s st at_ rs).2.m := by
  unfold finishS
  split
  · exact h
  split
  · exact h
  split
  · exact h
  split
  · exact h
  split
  · exact h
  dsimp only
  generalize (if st = 5 ∧ (gAt s.l s.cur.toNat).st = 3 then (6 : Int) else st) = st'
  have := endS_keep hP h s.cur.toNat st' at_ rs
  split
  · exact this
  · rw [(nextS_m _).1]; exact this
end
/-- a medium that has crashed is not armed -/
def DS (m : Med) : Prop := m.down = true → m.steps = 0
theorem DS.crash (m : Med) (k : Int) : DS (m.crash k) := fun _ => rfl
theorem DS.keep : KeepM DS := by
  refine ⟨fun m x h => ?_, fun m h => ?_⟩
  · unfold Med.append
    split
    · exact h
    split
    · exact h
    rename_i h1 _
    split
    · exact DS.crash _ _
    · exact fun hd => absurd hd h1
  · unfold Med.sync
    split
    · exact h
    rename_i h1
    split
    · exact DS.crash _ _
    · exact fun hd => absurd hd h1
theorem DS.crashOp {m : Med} (h : DS m) (k : Int) : DS (m.crashOp k).2 := by
  unfold Med.crashOp
  split
  · exact h
  · exact DS.crash m k
theorem DS.arm {m : Med} (h : DS m) (a k : Int) : DS (m.arm a k).2 := by
  unfold Med.arm
  split
  · exact h
  split
  · exact h
  · rename_i h1 _; exact fun hd => absurd hd h1
theorem DS.recover {m : Med} (h : DS m) (hd : m.down = true) : m.recover.1 = 0 ∧ m.recover.2.Qu := by
  unfold Med.recover
  rw [if_pos hd]
  exact ⟨rfl, rfl, h hd⟩
theorem Med.Qu.ds {m : Med} (h : m.Qu) : DS m := fun _ => h.st
end Go.Proofs.YthkimkgphaiagaaGreatDoor

namespace Go.Proofs.YthkimkgphaiagaaGreatDoor
open Go.RowKit
set_option linter.unusedVariables false
set_option linter.unusedSimpArgs false

theorem endS_fb (s : Sv) (i : Nat) (st at_ : Int) (rs : List UInt8) : (endS s i st at_ rs).2.fb = s.fb := by
  unfold endS
  split
  · exact (recS_4 _ _).fb
  · exact (recS_4 _ _).fb
theorem endAll_fb : ∀ (l : List Nat) (s : Sv) (st at_ : Int) (rs : List UInt8), (endAll s l st at_ rs).2.fb = s.fb
  | [], s, st, at_, rs => rfl
  | k :: l, s, st, at_, rs => by
    unfold endAll
    split
    · exact endS_fb ..
    · rw [endAll_fb l]; exact endS_fb ..
theorem decideS_fb (s : Sv) (g : Gl) (ok : Bool) : (decideS s g ok).2.fb = s.fb := by
  unfold decideS
  split
  · exact (recS_4 _ _).fb
  · exact (recS_4 _ _).fb
theorem nextS_fb (s : Sv) : (nextS s).fb = s.fb ∨ (nextS s).fb = 0 := by
  unfold nextS
  split
  · exact .inl rfl
  split
  · exact .inl rfl
  · exact .inr rfl
theorem preemptS_fb (s : Sv) : (preemptS s).fb = s.fb := by unfold preemptS; split <;> rfl
theorem requestS_fb (s : Sv) (c n at_ : Int) (rq : List UInt8) : (requestS s c n at_ rq).2.2.fb = s.fb ∨ (requestS s c n at_ rq).2.2.fb = 0 := by
  unfold requestS
  split
  · exact .inl rfl
  split
  · exact .inl rfl
  split
  · exact .inl rfl
  split
  · exact .inl rfl
  split
  · exact .inl rfl
  split
  · exact .inl rfl
  have hk : (if s.pol = 2 then clearS s at_ else (0, s)).2.fb = s.fb := by
    split
    · exact endAll_fb ..
    · rfl
  generalize (if s.pol = 2 then clearS s at_ else (0, s)) = k at hk ⊢
  dsimp only
  split
  · exact .inl hk
  split
  · exact .inl ((decideS_fb ..).trans hk)
  · rcases nextS_fb (preemptS (decideS k.2 ⟨c, n, 0, at_, 0, rq, []⟩ (acceptsB s)).2) with h | h
    · exact .inl (h.trans ((preemptS_fb _).trans ((decideS_fb ..).trans hk)))
    · exact .inr h
theorem cancelS_fb (s : Sv) (c n at_ : Int) : (cancelS s c n at_).2.fb = s.fb := by
  unfold cancelS
  split
  · rfl
  split
  · rfl
  split
  · rfl
  split
  · rfl
  split
  · rfl
  split
  · rfl
  · exact endS_fb ..
theorem finishS_fb (s : Sv) (st at_ : Int) (rs : List UInt8) : (finishS s st at_ rs).2.fb = s.fb ∨ (finishS s st at_ rs).2.fb = 0 := by
  unfold finishS
  split
  · exact .inl rfl
  split
  · exact .inl rfl
  split
  · exact .inl rfl
  split
  · exact .inl rfl
  split
  · exact .inl rfl
  dsimp only
  generalize (if st = 5 ∧ (gAt s.l s.cur.toNat).st = 3 then (6 : Int) else st) = st'
  split
  · exact .inl (endS_fb ..)
  · rcases nextS_fb (endS s s.cur.toNat st' at_ rs).2 with h | h
    · exact .inl (h.trans (endS_fb ..))
    · exact .inr h
theorem replayAll_fb : ∀ (l : List (List UInt8)) (s t : Sv), replayAll s l = some t → t.fb = s.fb
  | [], s, t, h => by injection h with h; rw [← h]
  | x :: l, s, t, h => by
    rw [replayAll] at h
    cases hq : replayS s x with
    | none => rw [hq] at h; cases h
    | some u =>
      rw [hq] at h
      exact (replayAll_fb l u t h).trans (replayS_some hq).2.2.2.2.2.2.2.1
theorem openS_fb (pol lim : Int) (m : Med) : (openS pol lim m).2.fb = 0 := by
  unfold openS
  split
  · rfl
  split
  · rfl
  split
  · rfl
  · rename_i s hs
    rw [endAll_fb]
    exact replayAll_fb _ _ _ hs
end Go.Proofs.YthkimkgphaiagaaGreatDoor

namespace Go.Proofs.YthkimkgphaiagaaGreatDoor
open Go.RowKit
set_option linter.unusedVariables false
set_option linter.unusedSimpArgs false

/-- what a client with a number knows of all its goals -/
def KL (l : List Gl) (num : Int) (gs : List Ce) : Prop := ∀ (i : Nat) (g : Ce), gs[i]? = some g → Knows l num ((i : Int) + 1) g
theorem KL.up {l l' : List Gl} {num : Int} {gs : List Ce} (h : KL l num gs) (hu : Up l l') : KL l' num gs := fun i g hg => (h i g hg).up hu
theorem KL.nil (l : List Gl) (num : Int) : KL l num [] := fun i g hg => by simp at hg
theorem KL.send {l : List Gl} {num : Int} {gs : List Ce} (h : KL l num gs) (at_ : Int) (t : List UInt8) : KL l num (sendG at_ t gs) := by
  unfold sendG
  split
  · intro i g hg
    rw [List.getElem?_append] at hg
    split at hg
    · exact h i g hg
    · rename_i hlt
      have h0 : i - gs.length = 0 := by
        have := (List.getElem?_eq_some_iff.1 hg).1
        simpa using this
      rw [h0] at hg
      simp only [List.getElem?_cons_zero, Option.some.injEq] at hg
      subst hg
      exact Knows.new _ _ _ _ _
  · exact h
theorem KL.poll {l : List Gl} {num : Int} {gs : List Ce} (h : KL l num gs) (retry now : Int) : KL l num (pollA retry now gs.length gs) := by
  rw [pollA_all]
  intro i g hg
  rw [List.getElem?_map] at hg
  cases hx : gs[i]? with
  | none => rw [hx] at hg; cases hg
  | some x =>
    rw [hx] at hg
    injection hg with hg
    subst hg
    obtain ⟨e1, e2, e3⟩ := pg_st x retry now
    exact (h i x hx).like e1 e2
theorem KL.cancel {l : List Gl} {num : Int} {gs : List Ce} (h : KL l num gs) (n at_ : Int) : KL l num (cancF gs n at_).2 ∧ (cancF gs n at_).2.length = gs.length := by
  unfold cancF
  split
  · rename_i g hg
    split
    · have hg' := hg
      unfold cAt at hg'
      split at hg'
      · cases hg'
      rename_i hn
      refine ⟨fun i y hy => ?_, List.length_set⟩
      dsimp only at hy
      rw [List.getElem?_set] at hy
      split at hy
      · rename_i e
        subst e
        try rw [if_pos (List.getElem?_eq_some_iff.1 hg').1] at hy
        injection hy with hy
        subst hy
        have e : (g.cancel at_).2.st = g.st ∧ (g.cancel at_).2.res = g.res := by
          unfold Ce.cancel
          split
          · dsimp only; split <;> exact ⟨rfl, rfl⟩
          · exact ⟨rfl, rfl⟩
        exact (h _ g hg').like e.1 e.2
      · exact h i y hy
    · exact ⟨h, rfl⟩
  · exact ⟨h, rfl⟩
theorem KL.set {l : List Gl} {num n : Int} {gs : List Ce} (h : KL l num gs) {g y : Ce} (hg : gs[(n - 1).toNat]? = some g) (hn : 1 ≤ n) (hy : Knows l num n y) : KL l num (gs.set (n - 1).toNat y) := by
  intro i x hx
  rw [List.getElem?_set] at hx
  split at hx
  · rename_i e
    subst e
    try rw [if_pos (List.getElem?_eq_some_iff.1 hg).1] at hx
    injection hx with hx
    subst hx
    rw [show (((n - 1).toNat : Nat) : Int) + 1 = n by omega]
    exact hy
  · exact h i x hx
section
variable {l : List Gl} {num n : Int} {gs : List Ce} {k : Nat}
/-- the client hears whether its goal is accepted -/
theorem KL.tell (h : KL l num gs) (hd : Dist l) (hn : 1 ≤ n ∧ n ≤ gs.length) (hk : k < l.length) (hc : (gAt l k).c = num) (hnn : (gAt l k).n = n) {b : Bool} (hb : b = true ↔ (gAt l k).st ≠ 7) :
    (recvF num gs (if b = true then 3 else 4) num n 0 []).1 = 0 ∧ KL l num (recvF num gs (if b = true then 3 else 4) num n 0 []).2 ∧ (recvF num gs (if b = true then 3 else 4) num n 0 []).2.length = gs.length := by
  obtain ⟨g, hg, hg'⟩ := cAt_in hn.1 hn.2
  have h1 := h _ g hg'
  rw [show (((n - 1).toNat : Nat) : Int) + 1 = n by omega] at h1
  unfold recvF
  rw [if_neg (by split <;> omega), if_neg (by simp), hg]
  dsimp only
  cases b with
  | true =>
    rw [if_pos rfl]
    obtain ⟨a, c, _⟩ := h1.acc (told := 0) hd hk hc hnn (hb.1 rfl) (.inl rfl) []
    exact ⟨a, h.set hg' hn.1 c, List.length_set⟩
  | false =>
    rw [if_neg (by simp)]
    have h7 : (gAt l k).st = 7 := by
      rcases Decidable.em ((gAt l k).st = 7) with e | e
      · exact e
      · exact absurd (hb.2 e) (by simp)
    obtain ⟨a, c, _⟩ := h1.rej hd hk hc hnn h7 0 []
    exact ⟨a, h.set hg' hn.1 c, List.length_set⟩
/-- the client hears how its goal has ended -/
theorem KL.tellEnd (h : KL l num gs) (hd : Dist l) (hn : 1 ≤ n ∧ n ≤ gs.length) (hk : k < l.length) (hc : (gAt l k).c = num) (hnn : (gAt l k).n = n) (h46 : 4 ≤ (gAt l k).st ∧ (gAt l k).st ≤ 6) :
    (recvF num gs ((gAt l k).st + 2) num n 0 (gAt l k).rs).1 = 0 ∧ KL l num (recvF num gs ((gAt l k).st + 2) num n 0 (gAt l k).rs).2 ∧ (recvF num gs ((gAt l k).st + 2) num n 0 (gAt l k).rs).2.length = gs.length := by
  obtain ⟨g, hg, hg'⟩ := cAt_in hn.1 hn.2
  have h1 := h _ g hg'
  rw [show (((n - 1).toNat : Nat) : Int) + 1 = n by omega] at h1
  unfold recvF
  rw [if_neg (by omega), if_neg (by simp), hg]
  dsimp only
  obtain ⟨a, c, _⟩ := h1.fin hd hk hc hnn h46 rfl 0
  exact ⟨a, h.set hg' hn.1 c, List.length_set⟩
end

/-! ## The stage -/
/-- a server goes on to another -/
def Nx (s t : Sv) : Prop := Up s.l t.l ∧ (0 ≤ s.fb → 0 ≤ t.fb ∧ t.fb ≤ s.fb)
theorem Nx.refl (s : Sv) : Nx s s := ⟨Up.refl _, fun h => ⟨h, Int.le_refl _⟩⟩
theorem Nx.trans {s t u : Sv} (h : Nx s t) (k : Nx t u) : Nx s u := ⟨h.1.trans k.1, fun h0 => by have h1 := h.2 h0; have h2 := k.2 h1.1; omega⟩
theorem Nx.of {s t : Sv} (hu : Up s.l t.l) (h : t.fb = s.fb ∨ t.fb = 0) : Nx s t := ⟨hu, fun h0 => by omega⟩
/-- a client, a server, and the outcomes that were seen -/
structure TG (s : Sv) (nu : Int) (gs : List Ce) (told : List Gl) : Prop where
  inv : Inv s
  on : ∃ L safe, On s L safe 1000
  ds : DS s.m
  kl : KL s.l nu gs
  told : ∀ x ∈ told, (4 ≤ x.st ∧ x.st ≤ 6) ∧ ∃ k, k < s.l.length ∧ gAt s.l k = x
section
variable {s t : Sv} {nu : Int} {gs hs : List Ce} {told : List Gl}
theorem TG.dist (h : TG s nu gs told) : Dist s.l := by
  obtain ⟨L, safe, ho⟩ := h.on
  exact ho.gi.dist
theorem TG.svk (h : TG s nu gs told) {n : Nat} (hn : n ≤ 800000) : Svk s n := by
  obtain ⟨L, safe, ho⟩ := h.on
  have h1 := ends_len ho.gi
  have h2 := ho.gi.len
  have h3 := ho.pre.jl
  dsimp only at h1 h2
  exact ⟨ho.pre.ok, by omega, h2, by omega⟩
theorem TG.later (h : TG s nu gs told) (hI : Inv t) (ho : ∃ L safe, On t L safe 1000) (hd : DS t.m) (hu : Up s.l t.l) : TG t nu gs told := by
  refine ⟨hI, ho, hd, h.kl.up hu, fun x hx => ?_⟩
  obtain ⟨h1, k, hk, rfl⟩ := h.told x hx
  exact ⟨h1, k, Nat.lt_of_lt_of_le hk hu.len, hu.fin k hk h1.1⟩
theorem TG.low (h : TG s nu gs told) (hup : s.m.down = false) : ∃ L safe, On s L safe 200 := by
  obtain ⟨L, safe, ho⟩ := h.on
  exact ⟨L, safe, ho.low hup⟩
theorem TG.request (h : TG s nu gs told) (hup : s.m.down = false) (c n at_ : Int) (rq : List UInt8) : TG (requestS s c n at_ rq).2.2 nu gs told ∧ Nx s (requestS s c n at_ rq).2.2 ∧
    ((requestS s c n at_ rq).2.1 = 0 → ∃ k, k < (requestS s c n at_ rq).2.2.l.length ∧ (gAt (requestS s c n at_ rq).2.2.l k).c = c ∧ (gAt (requestS s c n at_ rq).2.2.l k).n = n ∧ ((requestS s c n at_ rq).1 = true ↔ (gAt (requestS s c n at_ rq).2.2.l k).st ≠ 7)) := by
  obtain ⟨L, safe, ho⟩ := h.low hup
  obtain ⟨⟨L2, safe2, ho2⟩, hu, hex⟩ := ho.requestS h.inv c n at_ rq
  exact ⟨h.later (h.inv.requestS c n at_ rq) ⟨L2, safe2, ho2.later (by omega)⟩ (requestS_keep DS.keep h.ds c n at_ rq) hu, Nx.of hu (requestS_fb ..), hex⟩
theorem TG.cancel (h : TG s nu gs told) (hup : s.m.down = false) (c n at_ : Int) : TG (cancelS s c n at_).2 nu gs told ∧ Nx s (cancelS s c n at_).2 := by
  obtain ⟨L, safe, ho⟩ := h.low hup
  obtain ⟨⟨L2, safe2, ho2⟩, hu⟩ := ho.cancelS h.inv c n at_
  exact ⟨h.later (h.inv.cancelS c n at_) ⟨L2, safe2, ho2.later (by omega)⟩ (cancelS_keep DS.keep h.ds c n at_) hu, Nx.of hu (.inl (cancelS_fb ..))⟩
theorem TG.finish (h : TG s nu gs told) (hup : s.m.down = false) {st : Int} (hs : st = 4 ∨ st = 5) (at_ : Int) (rs : List UInt8) : TG (finishS s st at_ rs).2 nu gs told ∧ Nx s (finishS s st at_ rs).2 := by
  obtain ⟨L, safe, ho⟩ := h.low hup
  obtain ⟨⟨L2, safe2, ho2⟩, hu⟩ := ho.finishS h.inv hs at_ rs
  exact ⟨h.later (h.inv.finishS hs at_ rs) ⟨L2, safe2, ho2.later (by omega)⟩ (finishS_keep DS.keep h.ds st at_ rs) hu, Nx.of hu (finishS_fb ..)⟩
theorem TG.feedback (h : TG s nu gs told) (x : List UInt8) : TG (feedbackS s x).2.2 nu gs told ∧ Up s.l (feedbackS s x).2.2.l ∧ (0 ≤ s.fb → 0 ≤ (feedbackS s x).2.2.fb ∧ (feedbackS s x).2.2.fb ≤ s.fb + 1) := by
  obtain ⟨L, safe, ho⟩ := h.on
  obtain ⟨ho2, hu⟩ := ho.feedbackS x
  refine ⟨h.later (h.inv.feedbackS x) ⟨L, safe, ho2⟩ ?_ hu, hu, fun h0 => ?_⟩
  rotate_left 1
  · unfold feedbackS
    split
    · exact ⟨h0, Int.le_add_one (Int.le_refl _)⟩
    split
    · exact ⟨h0, Int.le_add_one (Int.le_refl _)⟩
    split
    · exact ⟨h0, Int.le_add_one (Int.le_refl _)⟩
    · exact ⟨by show 0 ≤ s.fb + 1; omega, Int.le_refl _⟩
  unfold feedbackS
  split
  · exact h.ds
  split
  · exact h.ds
  split
  · exact h.ds
  · exact h.ds
theorem TG.arm (h : TG s nu gs told) (hup : s.m.down = false) (a k : Int) (ha : a ≤ 9223372036854775807) : TG { s with m := (s.m.arm a k).2 } nu gs told := by
  obtain ⟨L, safe, ho⟩ := h.low hup
  exact h.later (t := { s with m := (s.m.arm a k).2 }) (h.inv.like ⟨rfl, rfl, rfl⟩) ⟨L, safe, (ho.arm a k ha).later (by omega)⟩ (h.ds.arm a k) (Up.refl _)
theorem TG.crash (h : TG s nu gs told) (hup : s.m.down = false) (k : Int) : TG { s with m := (s.m.crashOp k).2 } nu gs told := by
  obtain ⟨L, safe, ho⟩ := h.low hup
  have hon : On { s with m := (s.m.crashOp k).2 } L safe 201 := ⟨ho.pre.crashOp k, ho.all, ho.now, ho.live, ho.gi⟩
  exact h.later (t := { s with m := (s.m.crashOp k).2 }) (h.inv.like ⟨rfl, rfl, rfl⟩) ⟨L, safe, hon.later (by omega)⟩ (h.ds.crashOp k) (Up.refl _)
/-- the server is opened again -/
theorem TG.reopen (h : TG s nu gs told) (hd : s.m.down = true) {pol lim : Int} (hpl : 1 ≤ pol ∧ pol ≤ 3 ∧ 0 ≤ lim ∧ lim ≤ 64) :
    s.m.recover.1 = 0 ∧ ((openS pol lim s.m.recover.2).1 = 0 ∨ (openS pol lim s.m.recover.2).1 = 15) ∧ ((openS pol lim s.m.recover.2).1 = 0 → TG (openS pol lim s.m.recover.2).2 nu gs told ∧ Nx s (openS pol lim s.m.recover.2).2 ∧ (openS pol lim s.m.recover.2).2.m.down = false) := by
  obtain ⟨L, safe, ho⟩ := h.on
  obtain ⟨hr1, hr2⟩ := h.ds.recover hd
  obtain ⟨h1, h2⟩ := ho.off.err hr2 hpl
  refine ⟨hr1, h1, fun h0 => ?_⟩
  obtain ⟨L2, safe2, ho2, hu, hI, _⟩ := (ho.off.open hpl).2 h0
  have hq := h2 h0
  have hu2 : Up s.l (openS pol lim s.m.recover.2).2.l := (Up.nrm s.l).1.trans hu
  exact ⟨h.later hI ⟨L2, safe2, (ho2.low hq.m.up).later (by omega)⟩ hq.m.ds hu2, Nx.of hu2 (.inr (openS_fb ..)), hq.m.up⟩
/-- the outcomes -/
theorem TG.outs (h : TG s nu gs told) : (∀ x ∈ outsS s, (4 ≤ x.st ∧ x.st ≤ 6) ∧ ∃ k, k < s.l.length ∧ gAt s.l k = x) ∧ (∀ x ∈ told, x ∈ outsS s) ∧
    (∀ (i k : Nat) (x y : Gl), (outsS s)[i]? = some x → (outsS s)[k]? = some y → k < i → ¬ (y.c = x.c ∧ y.n = x.n)) := by
  obtain ⟨L, safe, ho⟩ := h.on
  have hgi := ho.gi
  refine ⟨fun x hx => ?_, fun x hx => ?_, fun i k x y hi hk hlt hxy => ?_⟩
  · unfold outsS at hx
    obtain ⟨j, hj, rfl⟩ := List.mem_map.1 hx
    have := (hgi.ends j).1 hj
    exact ⟨this.2, j, this.1, rfl⟩
  · obtain ⟨h1, k, hk, rfl⟩ := h.told x hx
    unfold outsS
    exact List.mem_map.2 ⟨k, (hgi.ends k).2 ⟨hk, h1⟩, rfl⟩
  · unfold outsS at hi hk
    rw [List.getElem?_map] at hi hk
    cases ei : s.ends[i]? with
    | none => rw [ei] at hi; cases hi
    | some a =>
      cases ek : s.ends[k]? with
      | none => rw [ek] at hk; cases hk
      | some b =>
        rw [ei] at hi; rw [ek] at hk
        injection hi with hi; injection hk with hk
        subst hi; subst hk
        have ha := (hgi.ends a).1 (List.mem_of_getElem? ei)
        have hb := (hgi.ends b).1 (List.mem_of_getElem? ek)
        have hab := hgi.dist b a hb.1 ha.1 hxy.1 hxy.2
        subst hab
        obtain ⟨h1, e1⟩ := List.getElem?_eq_some_iff.1 ei
        obtain ⟨h2, e2⟩ := List.getElem?_eq_some_iff.1 ek
        exact (List.pairwise_iff_getElem.1 hgi.nodup k i h2 h1 hlt) (e2.trans e1.symm)
/-- the same for another client -/
theorem TG.other (h : TG s nu gs told) {m : Int} (hk : KL s.l m hs) : TG s m hs told := ⟨h.inv, h.on, h.ds, hk, h.told⟩
theorem TG.note (h : TG s nu gs told) : TG s nu gs (outsS s) := ⟨h.inv, h.on, h.ds, h.kl, h.outs.1⟩
end

/-! ## What a step does -/
noncomputable def reviveS (pol : Int) (s : Sv) : Option Sv := if s.m.down = true then (if (openS pol 3 s.m.recover.2).1 = 0 then some (openS pol 3 s.m.recover.2).2 else none) else some s
noncomputable def delS1 (s : Sv) (gs : List Ce) (nu kd n : Int) (tx : List UInt8) (at_ : Int) : Sv × List Ce :=
  if kd = 2 then ((cancelS s nu n at_).2, gs)
  else ((requestS s nu n at_ tx).2.2, if (requestS s nu n at_ tx).2.1 = 0 then (recvF nu gs (if (requestS s nu n at_ tx).1 = true then 3 else 4) nu n 0 []).2 else gs)
def delS2 (s : Sv) (gs : List Ce) (nu n : Int) : List Ce :=
  match findG s.l nu n with
  | none => gs
  | some k => if 4 ≤ (gAt s.l k).st ∧ (gAt s.l k).st ≤ 6 then (recvF nu gs ((gAt s.l k).st + 2) nu n 0 (gAt s.l k).rs).2 else gs
noncomputable def delS (pol : Int) (s : Sv) (gs : List Ce) (nu kd n : Int) (tx : List UInt8) (at_ : Int) : Option (Sv × List Ce) :=
  (reviveS pol (delS1 s gs nu kd n tx at_).1).map fun t => (t, delS2 t (delS1 s gs nu kd n tx at_).2 nu n)
def hitB (pB : Int) (q : Nat) : Bool := decide (q < 60) && decide (bits .and .i64 (pB / 2 ^ q) 1 = 0)
noncomputable def delAll (pol nu pB at_ : Int) : Nat → List Ms → Sv × List Ce → Option (Sv × List Ce)
  | _, [], x => some x
  | q, m :: ms, x => if hitB pB q = true then (match delS pol x.1 x.2 nu m.1 m.2.2.1 m.2.2.2 at_ with | none => none | some y => delAll pol nu pB at_ (q + 1) ms y) else delAll pol nu pB at_ (q + 1) ms x
def wDone_ : List UInt8 := [100, 111, 110, 101]
def wNo : List UInt8 := [110, 111]
def wOn : List UInt8 := [111, 110]
noncomputable def playS1 (pol at_ nu retry : Int) (s : Sv) (gs : List Ce) (kd pA pB : Int) : Option (Sv × List Ce) :=
  if kd = 0 then some (s, sendG at_ wGo gs)
  else if kd = 1 then some (s, (cancF gs pB at_).2)
  else if kd = 2 then delAll pol nu pB at_ 0 (pollL nu at_ 1 gs) (s, pollA retry at_ gs.length gs)
  else if kd = 3 then some ((finishS s 4 at_ wDone_).2, gs)
  else if kd = 4 then some ((finishS s 5 at_ wNo).2, gs)
  else if kd = 5 then some ((feedbackS s wOn).2.2, gs)
  else if kd = 6 then some ({ s with m := (s.m.crashOp pA).2 }, gs)
  else if kd = 7 then some ({ s with m := (s.m.arm pA pB).2 }, gs)
  else some (s, gs)
noncomputable def playS (pol at_ nu retry : Int) (s : Sv) (gs : List Ce) (kd pA pB : Int) : Option (Sv × List Ce) :=
  match playS1 pol at_ nu retry s gs kd pA pB with
  | none => none
  | some x => (reviveS pol x.1).map fun t => (t, x.2)
section
variable {s t s1 : Sv} {nu : Int} {gs hs gs1 : List Ce} {told : List Gl} {pol n kd at_ : Int} {tx : List UInt8}
theorem delS_some (hD : delS1 s gs nu kd n tx at_ = (s1, gs1)) (hR : reviveS pol s1 = some t) : delS pol s gs nu kd n tx at_ = some (t, delS2 t gs1 nu n) := by
  unfold delS; rw [hD]; dsimp only; rw [hR]; rfl
theorem delS_none (hD : delS1 s gs nu kd n tx at_ = (s1, gs1)) (hR : reviveS pol s1 = none) : delS pol s gs nu kd n tx at_ = none := by
  unfold delS; rw [hD]; dsimp only; rw [hR]; rfl
theorem reviveS_up (h : s.m.down = false) : reviveS pol s = some s := by unfold reviveS; rw [if_neg (by rw [h]; simp)]
theorem TG.revive (h : TG s nu gs told) (hp : 1 ≤ pol ∧ pol ≤ 3) (hr : reviveS pol s = some t) : TG t nu gs told ∧ Nx s t ∧ t.m.down = false := by
  unfold reviveS at hr
  split at hr
  · rename_i hd
    obtain ⟨r1, r2, r3⟩ := h.reopen hd (pol := pol) (lim := 3) ⟨hp.1, hp.2, by decide, by decide⟩
    split at hr
    · rename_i he
      injection hr with hr
      subst hr
      exact r3 he
    · cases hr
  · rename_i hd
    injection hr with hr
    subst hr
    exact ⟨h, Nx.refl s, by simpa using hd⟩
theorem TG.del1 (h : TG s nu gs told) (hup : s.m.down = false) (hn : 1 ≤ n ∧ n ≤ gs.length) (hD : delS1 s gs nu kd n tx at_ = (s1, gs1)) : TG s1 nu gs1 told ∧ Nx s s1 ∧ gs1.length = gs.length := by
  unfold delS1 at hD
  split at hD
  · injection hD with h1 h2
    subst h1 h2
    obtain ⟨a, b⟩ := h.cancel hup nu n at_
    exact ⟨a, b, rfl⟩
  · obtain ⟨t1, t2, t3⟩ := h.request hup nu n at_ tx
    injection hD with h1 h2
    subst h1 h2
    split
    · rename_i he
      obtain ⟨k, k1, k2, k3, k4⟩ := t3 he
      obtain ⟨a1, a2, a3⟩ := t1.kl.tell t1.dist hn k1 k2 k3 k4
      exact ⟨t1.other a2, t2, a3⟩
    · exact ⟨t1, t2, rfl⟩
theorem TG.del2 (h : TG s nu gs told) (hn : 1 ≤ n ∧ n ≤ gs.length) : TG s nu (delS2 s gs nu n) told ∧ (delS2 s gs nu n).length = gs.length := by
  unfold delS2
  split
  · exact ⟨h, rfl⟩
  · rename_i k hf
    split
    · rename_i h46
      obtain ⟨hc1, hc2⟩ := findG_eq hf
      obtain ⟨a1, a2, a3⟩ := h.kl.tellEnd h.dist hn (findG_lt hf) hc1 hc2 h46
      exact ⟨h.other a2, a3⟩
    · exact ⟨h, rfl⟩
theorem TG.del (h : TG s nu gs told) (hup : s.m.down = false) (hp : 1 ≤ pol ∧ pol ≤ 3) (hn : 1 ≤ n ∧ n ≤ gs.length) (hd : delS pol s gs nu kd n tx at_ = some (t, hs)) : TG t nu hs told ∧ Nx s t ∧ t.m.down = false ∧ hs.length = gs.length := by
  obtain ⟨s1, gs1, hD⟩ : ∃ s1 gs1, delS1 s gs nu kd n tx at_ = (s1, gs1) := ⟨_, _, rfl⟩
  obtain ⟨a1, a2, a3⟩ := h.del1 hup hn hD
  cases hr : reviveS pol s1 with
  | none => rw [delS_none hD hr] at hd; cases hd
  | some u =>
    rw [delS_some hD hr] at hd
    injection hd with hd
    injection hd with h1 h2
    subst h1 h2
    obtain ⟨b1, b2, b3⟩ := a1.revive hp hr
    obtain ⟨c1, c2⟩ := b1.del2 (n := n) (by omega)
    exact ⟨c1, a2.trans b2, b3, c2.trans a3⟩
/-- what is known of a server and a client behind a step's first part -/
structure TGn (s : Sv) (gs : List Ce) (t : Sv) (hs : List Ce) (nu : Int) (told : List Gl) : Prop where
  tg : TG t nu hs told
  up : Up s.l t.l
  fb : 0 ≤ s.fb → 0 ≤ t.fb ∧ t.fb ≤ s.fb + 1
  len : gs.length ≤ hs.length ∧ hs.length ≤ gs.length + 1
theorem TGn.of (h : TG t nu hs told) (hx : Nx s t) (hl : hs.length = gs.length) : TGn s gs t hs nu told := ⟨h, hx.1, fun h0 => by have := hx.2 h0; omega, by omega⟩
theorem TGn.revive (h : TGn s gs t hs nu told) (hp : 1 ≤ pol ∧ pol ≤ 3) {u : Sv} (hr : reviveS pol t = some u) : TGn s gs u hs nu told ∧ u.m.down = false := by
  obtain ⟨a, b, c⟩ := h.tg.revive hp hr
  exact ⟨⟨a, h.up.trans b.1, fun h0 => by have h1 := h.fb h0; have h2 := b.2 h1.1; omega, h.len⟩, c⟩
end
end Go.Proofs.YthkimkgphaiagaaGreatDoor
