/- Contracts of quality in plain Lean: which are valid, which are compatible, the strongest of two, the words of one, and that reading the words gives it back. No conditions. -/
import Derived.Test.YtkgioanjdbfcdaaDoorNuq
namespace Go.Proofs.YtkgioanjdbfcdaaDoor
open Go
set_option linter.unusedVariables false
set_option linter.unusedSimpArgs false

structure Qo where
  rel : Bool
  dur : Bool
  all : Bool
  dep : Int
  dl : Int
  ls : Int
  le : Int
def Qo.zero : Qo := ⟨false, false, false, 0, 0, 0, 0⟩
/-- which contracts are valid: 0, or the error -/
def chkQ (q : Qo) : Int :=
  if ¬ (0 ≤ q.dl ∧ q.dl ≤ 1099511627776) ∨ ¬ (0 ≤ q.ls ∧ q.ls ≤ 1099511627776) ∨ ¬ (0 ≤ q.le ∧ q.le ≤ 1099511627776) then 4 else
  if q.all = true then (if q.dep = 0 then 0 else 4) else if 1 ≤ q.dep ∧ q.dep ≤ 64 then 0 else 4
theorem chkQ_ok {q : Qo} (h : chkQ q = 0) : (0 ≤ q.dl ∧ q.dl ≤ 1099511627776) ∧ (0 ≤ q.ls ∧ q.ls ≤ 1099511627776) ∧ (0 ≤ q.le ∧ q.le ≤ 1099511627776) ∧ (q.all = true → q.dep = 0) ∧ (q.all = false → 1 ≤ q.dep ∧ q.dep ≤ 64) := by
  unfold chkQ at h
  cases ha : q.all <;> simp only [ha] at h ⊢ <;> (repeat' split at h) <;> simp_all <;> omega
def winF (o r : Int) : Bool := decide (r = 0 ∨ (o ≠ 0 ∧ o ≤ r))
def vioF (o r : Qo) : Int :=
  if r.rel = true ∧ o.rel = false then 1 else if r.dur = true ∧ o.dur = false then 2 else if winF o.dl r.dl = false then 3 else if winF o.le r.le = false then 4 else 0
def shF (a b : Int) : Int := if a ≤ 0 ∧ b ≤ 0 then 0 else if a ≤ 0 then b else if b ≤ 0 then a else min a b
def stgF (a b : Qo) : Qo := ⟨a.rel || b.rel, a.dur || b.dur, a.all || b.all, if (a.all || b.all) = true then 0 else max a.dep b.dep, shF a.dl b.dl, shF a.ls b.ls, shF a.le b.le⟩
theorem win_refl (a : Int) : winF a a = true := decide_eq_true (by omega)
theorem vio_self (a : Qo) : vioF a a = 0 := by
  unfold vioF
  rw [win_refl, win_refl]
  cases a.rel <;> cases a.dur <;> simp
theorem vio_zero (o r : Qo) : vioF o r = 0 ↔ (r.rel = true → o.rel = true) ∧ (r.dur = true → o.dur = true) ∧ (r.dl = 0 ∨ (o.dl ≠ 0 ∧ o.dl ≤ r.dl)) ∧ (r.le = 0 ∨ (o.le ≠ 0 ∧ o.le ≤ r.le)) := by
  unfold vioF winF
  cases r.rel <;> cases o.rel <;> cases r.dur <;> cases o.dur <;> simp <;> (repeat' split) <;> simp_all <;> omega
theorem vio_trans {a b c : Qo} (h1 : vioF a b = 0) (h2 : vioF b c = 0) : vioF a c = 0 := by
  rw [vio_zero] at *
  obtain ⟨p1, p2, p3, p4⟩ := h1
  obtain ⟨q1, q2, q3, q4⟩ := h2
  exact ⟨fun h => p1 (q1 h), fun h => p2 (q2 h), by omega, by omega⟩
def Nat3 (q : Qo) : Prop := 0 ≤ q.dl ∧ 0 ≤ q.ls ∧ 0 ≤ q.le
theorem sh_comm (a b : Int) : shF a b = shF b a := by
  unfold shF; rw [Int.min_def, Int.min_def]; (repeat' split) <;> omega
theorem sh_assoc (a b c : Int) : shF (shF a b) c = shF a (shF b c) := by
  unfold shF; simp only [Int.min_def]; (repeat' split) <;> omega
theorem stg_comm (a b : Qo) : stgF a b = stgF b a := by
  unfold stgF
  rw [sh_comm a.dl, sh_comm a.ls, sh_comm a.le, Bool.or_comm a.rel, Bool.or_comm a.dur, Bool.or_comm a.all, Int.max_comm]
theorem stg_assoc (a b c : Qo) : stgF (stgF a b) c = stgF a (stgF b c) := by
  unfold stgF
  simp only [sh_assoc, Bool.or_assoc]
  congr 1
  cases a.all <;> cases b.all <;> cases c.all <;> simp [Int.max_assoc]
theorem sh_win {q a b : Int} (hq : 0 ≤ q) (ha : 0 ≤ a) (hb : 0 ≤ b) : (shF a b = 0 ∨ (q ≠ 0 ∧ q ≤ shF a b)) ↔ (a = 0 ∨ (q ≠ 0 ∧ q ≤ a)) ∧ (b = 0 ∨ (q ≠ 0 ∧ q ≤ b)) := by
  unfold shF; rw [Int.min_def]; (repeat' split) <;> omega
theorem vio_stg {q a b : Qo} (hq : Nat3 q) (ha : Nat3 a) (hb : Nat3 b) : vioF q (stgF a b) = 0 ↔ vioF q a = 0 ∧ vioF q b = 0 := by
  rw [vio_zero, vio_zero, vio_zero]
  have h1 := sh_win hq.1 ha.1 hb.1
  have h2 := sh_win hq.2.2 ha.2.2 hb.2.2
  simp only [stgF, Bool.or_eq_true]
  rw [h1, h2]
  constructor
  · rintro ⟨p1, p2, p3, p4⟩
    exact ⟨⟨fun h => p1 (.inl h), fun h => p2 (.inl h), p3.1, p4.1⟩, ⟨fun h => p1 (.inr h), fun h => p2 (.inr h), p3.2, p4.2⟩⟩
  · rintro ⟨⟨p1, p2, p3, p4⟩, ⟨r1, r2, r3, r4⟩⟩
    exact ⟨fun h => h.elim p1 r1, fun h => h.elim p2 r2, ⟨p3, r3⟩, ⟨p4, r4⟩⟩
theorem sh_self {a : Int} (h : 0 ≤ a) : shF a a = a := by
  unfold shF; rw [Int.min_def]; (repeat' split) <;> omega
theorem stg_self {a : Qo} (h : chkQ a = 0) : stgF a a = a := by
  obtain ⟨h1, h2, h3, h4, h5⟩ := chkQ_ok h
  unfold stgF
  rw [sh_self h1.1, sh_self h2.1, sh_self h3.1, Bool.or_self, Bool.or_self, Bool.or_self, Int.max_self]
  cases ha : a.all
  · obtain ⟨a1, a2, a3, a4, a5, a6, a7⟩ := a
    simp only at ha; subst ha; simp
  · have := h4 ha
    obtain ⟨a1, a2, a3, a4, a5, a6, a7⟩ := a
    simp only at ha this; subst ha; subst this; simp
theorem chkQ_of {q : Qo} (h1 : 0 ≤ q.dl ∧ q.dl ≤ 1099511627776) (h2 : 0 ≤ q.ls ∧ q.ls ≤ 1099511627776) (h3 : 0 ≤ q.le ∧ q.le ≤ 1099511627776) (h4 : q.all = true → q.dep = 0) (h5 : q.all = false → 1 ≤ q.dep ∧ q.dep ≤ 64) : chkQ q = 0 := by
  unfold chkQ
  rw [if_neg (by omega)]
  cases ha : q.all
  · simp only [Bool.false_eq_true, if_false]
    rw [if_pos (h5 ha)]
  · simp only [if_true]
    rw [if_pos (h4 ha)]
theorem sh_bd {a b : Int} (ha : 0 ≤ a ∧ a ≤ 1099511627776) (hb : 0 ≤ b ∧ b ≤ 1099511627776) : 0 ≤ shF a b ∧ shF a b ≤ 1099511627776 := by
  unfold shF; rw [Int.min_def]; (repeat' split) <;> omega
theorem chk_stg {a b : Qo} (ha : chkQ a = 0) (hb : chkQ b = 0) : chkQ (stgF a b) = 0 := by
  obtain ⟨a1, a2, a3, a4, a5⟩ := chkQ_ok ha
  obtain ⟨b1, b2, b3, b4, b5⟩ := chkQ_ok hb
  refine chkQ_of (sh_bd a1 b1) (sh_bd a2 b2) (sh_bd a3 b3) ?_ ?_
  · intro h
    simp only [stgF] at h ⊢
    rw [if_pos h]
  · intro h
    simp only [stgF] at h ⊢
    rw [h]
    have h' := Bool.or_eq_false_iff.1 h
    have := a5 h'.1
    have := b5 h'.2
    simp only [Bool.false_eq_true, if_false]
    rw [Int.max_def]; split <;> omega
theorem chk_nat {a : Qo} (h : chkQ a = 0) : Nat3 a := by
  obtain ⟨a1, a2, a3, _⟩ := chkQ_ok h
  exact ⟨a1.1, a2.1, a3.1⟩
theorem nat_stg {a b : Qo} (ha : Nat3 a) (hb : Nat3 b) : Nat3 (stgF a b) := by
  obtain ⟨a1, a2, a3⟩ := ha
  obtain ⟨b1, b2, b3⟩ := hb
  have : ∀ {x y : Int}, 0 ≤ x → 0 ≤ y → 0 ≤ shF x y := fun {x y} hx hy => by unfold shF; rw [Int.min_def]; (repeat' split) <;> omega
  exact ⟨this a1 b1, this a2 b2, this a3 b3⟩
/-- the strongest of two is compatible with each -/
theorem stg_compat {a b : Qo} (ha : Nat3 a) (hb : Nat3 b) : vioF (stgF a b) a = 0 ∧ vioF (stgF a b) b = 0 :=
  (vio_stg (nat_stg ha hb) ha hb).1 (vio_self _)

/-! ## Words -/
abbrev wRel : List UInt8 := [114, 101, 108, 105, 97, 98, 108, 101]
abbrev wBest : List UInt8 := [98, 101, 115, 116]
abbrev wDur : List UInt8 := [100, 117, 114, 97, 98, 108, 101]
abbrev wAll : List UInt8 := [97, 108, 108]
abbrev wDep : List UInt8 := [100, 101, 112, 116, 104]
def tname (k : Nat) : List UInt8 := if k = 0 then [100, 101, 97, 100, 108, 105, 110, 101] else if k = 1 then [108, 105, 102, 101, 115, 112, 97, 110] else [108, 101, 97, 115, 101]
/-- what stands behind a sign -/
def unsg (s : List UInt8) : List UInt8 := match s with
  | [] => []
  | b :: r => if b = 45 then r else b :: r
theorem unsg_len (s : List UInt8) : (unsg s).length ≤ s.length := by
  cases s with
  | nil => simp [unsg]
  | cons b r => show (if b = 45 then r else b :: r).length ≤ _; split <;> simp
/-- the number that a word stands for -/
def numQ (s : List UInt8) : Option Int :=
  if s.length ≤ 15 ∧ unsg s ≠ [] ∧ ¬ ((unsg s).head? = some 48 ∧ s ≠ [48]) then
    match Lib.decFrom 0 (unsg s) with
    | some m => if (∀ b ∈ unsg s, 48 ≤ b.toNat ∧ b.toNat ≤ 57) then some (if (unsg s).length < s.length then -(m : Int) else m) else none
    | none => none
  else none
theorem numQ_itoa {w : List UInt8} {n : Int} (h : numQ w = some n) : Lib.itoa n = w := by
  unfold numQ at h
  split at h
  · rename_i h1
    split at h
    · rename_i m hm
      split at h
      · rename_i hd
        have hh : (unsg w).head? ≠ some 48 ∨ unsg w = [48] := by
          by_cases e : (unsg w).head? = some 48
          · right
            have hw : w = [48] := by
              by_cases e2 : w = [48]
              · exact e2
              · exact absurd ⟨e, e2⟩ h1.2.2
            rw [hw]; rfl
          · exact .inl e
        obtain ⟨e1, e2⟩ := dec_of_digits (unsg w) m hd h1.2.1 hh hm
        simp only [Option.some.injEq] at h
        cases w with
        | nil => exact absurd rfl h1.2.1
        | cons b r =>
          by_cases hb : b = 45
          · subst hb
            have hu : unsg (45 :: r) = r := by simp [unsg]
            rw [hu] at h e1 e2 h1
            rw [if_pos (by simp)] at h
            subst h
            have hr : r ≠ [48] := by
              rintro rfl
              exact h1.2.2 ⟨rfl, by decide⟩
            have := e2 hr
            unfold Lib.itoa
            rw [if_pos (by omega), show (-(m : Int)).natAbs = m by omega, e1]
          · have hu : unsg (b :: r) = b :: r := by simp [unsg, hb]
            rw [hu] at h e1
            rw [if_neg (by omega)] at h
            subst h
            rw [itoa_dec (by omega), Int.toNat_natCast, e1]
      · cases h
    · cases h
  · cases h
theorem itoa_unsg {n : Int} (h : 0 ≤ n) : unsg (Lib.itoa n) = Lib.itoa n := by
  cases hq : Lib.itoa n with
  | nil => rfl
  | cons b r =>
    have hb := itoa_digits h b (by rw [hq]; exact List.mem_cons_self)
    have : b ≠ 45 := by
      rintro rfl
      have : (45 : UInt8).toNat = 45 := rfl
      omega
    simp [unsg, this]
theorem dec_head (u : Nat) : (Lib.decDigits u).head? = some 48 → u = 0 := by
  induction u using Nat.strongRecOn with
  | _ u ih =>
    rw [Lib.decDigits]
    split
    · rename_i h
      intro e
      simp only [List.head?_cons, Option.some.injEq] at e
      have := congrArg UInt8.toNat e
      rw [ofNat_toNat (by omega)] at this
      have h48 : (48 : UInt8).toNat = 48 := rfl
      omega
    · rename_i h
      intro e
      cases hq : Lib.decDigits (u / 10) with
      | nil => exact absurd hq (dec_ne _)
      | cons c r =>
        rw [hq] at e
        simp only [List.cons_append, List.head?_cons, Option.some.injEq] at e
        have := ih (u / 10) (by omega) (by rw [hq, e]; rfl)
        omega
theorem numQ_of {n : Int} (h0 : 0 ≤ n) (h : n ≤ 1099511627776) : numQ (Lib.itoa n) = some n := by
  have hl : (Lib.itoa n).length ≤ 13 := itoa_len (k := 12) h0 (by omega)
  have hcond : (Lib.itoa n).length ≤ 15 ∧ Lib.itoa n ≠ [] ∧ ¬ ((Lib.itoa n).head? = some 48 ∧ Lib.itoa n ≠ [48]) := by
    refine ⟨by omega, itoa_ne n, ?_⟩
    rintro ⟨e1, e2⟩
    rw [itoa_dec h0] at e1
    have := dec_head _ e1
    refine e2 ?_
    rw [itoa_dec h0, this, Lib.decDigits_one (by decide)]
    rfl
  unfold numQ
  rw [itoa_unsg h0, if_pos hcond, itoa_dec h0, decFrom_dec]
  simp only
  rw [if_pos (dec_digits _), if_neg (by omega)]
  congr 1
  omega
theorem itoa_noblank {n : Int} (h : 0 ≤ n) : 32 ∉ Lib.itoa n := by
  intro e
  have := itoa_digits h 32 e
  have h32 : (32 : UInt8).toNat = 32 := rfl
  omega
theorem unsg_trim (s : List UInt8) : Lib.trimPrefix s [45] = unsg s := by
  cases s with
  | nil => rfl
  | cons b r =>
    unfold Lib.trimPrefix Lib.hasPrefix unsg
    by_cases h : b = 45
    · subst h; simp [List.isPrefixOf]
    · simp [List.isPrefixOf, h, Ne.symm h]
def setT (q : Qo) (k : Nat) (n : Int) : Qo := if k = 0 then { q with dl := n } else if k = 1 then { q with ls := n } else { q with le := n }
/-- the times: j of them may still come, from number k on -/
def tmsF : Nat → Nat → List (List UInt8) → Qo → Bool → Option (Qo × Bool)
  | 0, _, w, q, z => if w = [] then some (q, z) else none
  | j + 1, k, w, q, z => match w with
    | nm :: x :: r => if nm = tname k then (match numQ x with
      | some n => tmsF j (k + 1) r (setT q k n) (z || n == 0)
      | none => none) else tmsF j (k + 1) (nm :: x :: r) q z
    | [nm] => tmsF j (k + 1) [nm] q z
    | [] => tmsF j (k + 1) [] q z
theorem tms_nil : ∀ (j k : Nat) (q : Qo) (z : Bool), tmsF j k [] q z = some (q, z)
  | 0, k, q, z => by simp [tmsF]
  | j + 1, k, q, z => by rw [tmsF, tms_nil j]
theorem tms_one : ∀ (j k : Nat) (a : List UInt8) (q : Qo) (z : Bool), tmsF j k [a] q z = none
  | 0, k, a, q, z => by simp [tmsF]
  | j + 1, k, a, q, z => by rw [tmsF, tms_one j]
def durW (r : List (List UInt8)) : Bool × List (List UInt8) := match r with
  | [] => (false, [])
  | d :: r => if d = wDur then (true, r) else (false, d :: r)
def hist2 (rel dur : Bool) (r : List (List UInt8)) : Option (Qo × List (List UInt8)) := match r with
  | [] => none
  | a :: r => if a = wAll then some (⟨rel, dur, true, 0, 0, 0, 0⟩, r) else match r with
    | [] => none
    | x :: r => if a = wDep then (match numQ x with
      | some n => some (⟨rel, dur, false, n, 0, 0, 0⟩, r)
      | none => none) else none
def histW (w : List (List UInt8)) : Option (Qo × List (List UInt8)) := match w with
  | [] => none
  | a :: r => if a = wRel then hist2 true (durW r).1 (durW r).2 else if a = wBest then hist2 false (durW r).1 (durW r).2 else none
def parseW (w : List (List UInt8)) : Option (Qo × Bool) := match histW w with
  | some (q, r) => tmsF 3 0 r q false
  | none => none
/-- what parsing gives: the contract, and the error -/
def parQ (s : List UInt8) : Qo × Int := if 4000 < s.length then (.zero, 3) else match parseW (splitW s) with
  | none => (.zero, 2)
  | some (q, z) => if z = true ∨ chkQ q ≠ 0 then (.zero, 4) else (q, 0)

/-! ## The text of a contract -/
def tw (k : Nat) (n : Int) : List (List UInt8) := if n = 0 then [] else [tname k, Lib.itoa n]
def wds (q : Qo) : List (List UInt8) := (if q.rel = true then wRel else wBest) :: ((if q.dur = true then [wDur] else []) ++ ((if q.all = true then [wAll] else [wDep, Lib.itoa q.dep]) ++ (tw 0 q.dl ++ (tw 1 q.ls ++ tw 2 q.le))))
/-- a row of words, each behind a blank -/
def bl : List (List UInt8) → List UInt8
  | [] => []
  | a :: r => 32 :: (a ++ bl r)
theorem bl_app : ∀ (a b : List (List UInt8)), bl (a ++ b) = bl a ++ bl b
  | [], b => rfl
  | a :: r, b => by simp [bl, bl_app r b]
theorem join_bl : ∀ (a : List UInt8) (r : List (List UInt8)), joinW (a :: r) = a ++ bl r
  | a, [] => by simp [joinW, bl]
  | a, b :: r => by rw [joinW, join_bl b r, bl]
def fmtQ (q : Qo) : List UInt8 := if chkQ q = 0 then joinW (wds q) else []
theorem tname_noblank (k : Nat) : 32 ∉ tname k := by
  unfold tname
  split
  · decide
  · split <;> decide
theorem wds_noblank {q : Qo} (h : chkQ q = 0) : ∀ a ∈ wds q, 32 ∉ a := by
  obtain ⟨h1, h2, h3, h4, h5⟩ := chkQ_ok h
  have ht : ∀ (k : Nat) (n : Int), 0 ≤ n → ∀ a ∈ tw k n, 32 ∉ a := by
    intro k n hn a ha
    unfold tw at ha
    split at ha
    · cases ha
    · simp only [List.mem_cons, List.not_mem_nil, or_false] at ha
      rcases ha with rfl | rfl
      · exact tname_noblank k
      · exact itoa_noblank hn
  intro a ha
  simp only [wds, List.mem_cons, List.mem_append] at ha
  rcases ha with rfl | ha | ha | ha | ha | ha
  · split <;> decide
  · split at ha
    · simp at ha; subst ha; decide
    · cases ha
  · cases hall : q.all
    · rw [hall] at ha
      simp at ha
      rcases ha with rfl | rfl
      · decide
      · have := h5 hall
        exact itoa_noblank (by omega)
    · rw [hall] at ha
      simp at ha; subst ha; decide
  · exact ht 0 _ h1.1 a ha
  · exact ht 1 _ h2.1 a ha
  · exact ht 2 _ h3.1 a ha
theorem wne1 : wDep ≠ wDur := by decide
theorem tms_step {j k : Nat} {n : Int} {r : List (List UInt8)} {q : Qo} {z : Bool} (h0 : 0 ≤ n) (h : n ≤ 1099511627776) (hr : ∀ a, r.head? = some a → a ≠ tname k) (hq : n = 0 → setT q k 0 = q) : tmsF (j + 1) k (tw k n ++ r) q z = tmsF j (k + 1) r (setT q k n) z := by
  unfold tw
  by_cases hn : n = 0
  · subst hn
    rw [if_pos rfl, List.nil_append, hq rfl]
    match r, hr with
    | [], _ => rw [tmsF]
    | [a], _ => rw [tmsF]
    | a :: b :: r, hr => rw [tmsF, if_neg (hr a rfl)]
  · rw [if_neg hn]
    show tmsF (j + 1) k (tname k :: Lib.itoa n :: r) q z = _
    rw [tmsF, if_pos rfl, numQ_of h0 h]
    have : (n == 0) = false := by simpa using hn
    simp [this]
theorem tw_head {k : Nat} {n : Int} {a : List UInt8} {r : List (List UInt8)} (h : (tw k n ++ r).head? = some a) : a = tname k ∨ r.head? = some a := by
  unfold tw at h
  split at h
  · exact .inr h
  · simp at h; exact .inl h.symm
theorem tn01 : tname 1 ≠ tname 0 ∧ tname 2 ≠ tname 0 ∧ tname 2 ≠ tname 1 := by decide
theorem tms_all {q : Qo} {q0 : Qo} (h1 : 0 ≤ q.dl ∧ q.dl ≤ 1099511627776) (h2 : 0 ≤ q.ls ∧ q.ls ≤ 1099511627776) (h3 : 0 ≤ q.le ∧ q.le ≤ 1099511627776) (e : q0 = { q with dl := 0, ls := 0, le := 0 }) :
    tmsF 3 0 (tw 0 q.dl ++ (tw 1 q.ls ++ tw 2 q.le)) q0 false = some (q, false) := by
  subst e
  have t2 : ∀ a, (tw 2 q.le).head? = some a → a = tname 2 := fun a ha => by
    rw [← List.append_nil (tw 2 q.le)] at ha
    rcases tw_head ha with h | h
    · exact h
    · cases h
  have t1 : ∀ a, (tw 1 q.ls ++ tw 2 q.le).head? = some a → a = tname 1 ∨ a = tname 2 := fun a ha => by
    rcases tw_head ha with h | h
    · exact .inl h
    · exact .inr (t2 a h)
  rw [tms_step h1.1 h1.2 (fun a ha => by rcases t1 a ha with rfl | rfl <;> first | exact tn01.1 | exact tn01.2.1) (fun _ => rfl)]
  rw [tms_step h2.1 h2.2 (fun a ha => by rw [t2 a ha]; exact tn01.2.2) (fun _ => rfl)]
  rw [← List.append_nil (tw 2 q.le)]
  rw [tms_step h3.1 h3.2 (fun a ha => by cases ha) (fun _ => rfl)]
  rw [tms_nil]
  rfl
theorem hist2_wds {rel dur all : Bool} {dep : Int} (r : List (List UInt8)) (h4 : all = true → dep = 0) (h5 : all = false → 1 ≤ dep ∧ dep ≤ 64) : hist2 rel dur ((if all = true then [wAll] else [wDep, Lib.itoa dep]) ++ r) = some (⟨rel, dur, all, dep, 0, 0, 0⟩, r) := by
  cases all
  · have := h5 rfl
    have e : wDep ≠ wAll := by decide
    show hist2 rel dur (wDep :: Lib.itoa dep :: r) = _
    rw [hist2, if_neg e]
    show (if wDep = wDep then _ else _) = _
    rw [if_pos rfl, numQ_of (by omega) (by omega)]
  · rw [h4 rfl]
    show hist2 rel dur (wAll :: r) = _
    simp [hist2]
theorem dur_wds {dur all : Bool} {dep : Int} (r : List (List UInt8)) : durW ((if dur = true then [wDur] else []) ++ ((if all = true then [wAll] else [wDep, Lib.itoa dep]) ++ r)) = (dur, (if all = true then [wAll] else [wDep, Lib.itoa dep]) ++ r) := by
  cases dur
  · cases all
    · have e : wDep ≠ wDur := by decide
      simp [durW, e]
    · have e : wAll ≠ wDur := by decide
      simp [durW, e]
  · simp [durW]
theorem parse_wds {q : Qo} (h : chkQ q = 0) : parseW (wds q) = some (q, false) := by
  obtain ⟨h1, h2, h3, h4, h5⟩ := chkQ_ok h
  have hh : histW (wds q) = some (⟨q.rel, q.dur, q.all, q.dep, 0, 0, 0⟩, tw 0 q.dl ++ (tw 1 q.ls ++ tw 2 q.le)) := by
    unfold histW wds
    simp only [dur_wds, hist2_wds _ h4 h5]
    have e : wBest ≠ wRel := by decide
    cases hr : q.rel
    · simp [e]
    · simp
  unfold parseW
  rw [hh]
  exact tms_all h1 h2 h3 rfl
theorem wds_ne (q : Qo) : wds q ≠ [] := by simp [wds]
theorem split_fmt {q : Qo} (h : chkQ q = 0) : splitW (fmtQ q) = wds q := by
  unfold fmtQ
  rw [if_pos h, split_join _ (wds_ne q) (wds_noblank h)]
theorem bl_len (k : Nat) {n : Int} (h : 0 ≤ n ∧ n ≤ 1099511627776) : (bl (tw k n)).length ≤ 23 := by
  unfold tw
  split
  · simp [bl]
  · have h1 := itoa_len (n := n) (k := 12) h.1 (by omega)
    have h2 : (tname k).length ≤ 8 := by unfold tname; (repeat' split) <;> decide
    simp only [bl, List.length_cons, List.length_append, List.length_nil]
    omega
theorem fmt_len {q : Qo} (h : chkQ q = 0) : (fmtQ q).length ≤ 200 := by
  obtain ⟨h1, h2, h3, h4, h5⟩ := chkQ_ok h
  have l1 := bl_len 0 h1
  have l2 := bl_len 1 h2
  have l3 := bl_len 2 h3
  have l4 : (bl (if q.dur = true then [wDur] else [])).length ≤ 8 := by split <;> decide
  have l5 : (bl (if q.all = true then [wAll] else [wDep, Lib.itoa q.dep])).length ≤ 12 := by
    cases ha : q.all
    · have := h5 ha
      have h1 := itoa_len (n := q.dep) (k := 1) (by omega) (by omega)
      simp only [Bool.false_eq_true, if_false, bl, List.length_cons, List.length_append, List.length_nil]
      omega
    · simp [bl]
  have l6 : (if q.rel = true then wRel else wBest).length ≤ 8 := by split <;> decide
  unfold fmtQ wds
  rw [if_pos h, join_bl, bl_app, bl_app, bl_app, bl_app]
  simp only [List.length_append]
  omega
theorem par_fmt {q : Qo} (h : chkQ q = 0) : parQ (fmtQ q) = (q, 0) := by
  have := fmt_len h
  unfold parQ
  rw [if_neg (by omega), split_fmt h, parse_wds h]
  simp [h]

/-! ## What is accepted is the text -/
theorem tms_back : ∀ (j k : Nat) (w : List (List UInt8)) (q q' : Qo), j + k = 3 → tmsF j k w q false = some (q', false) → (k ≤ 0 → q.dl = 0) → (k ≤ 1 → q.ls = 0) → (k ≤ 2 → q.le = 0) →
    w = (if k ≤ 0 then tw 0 q'.dl else []) ++ ((if k ≤ 1 then tw 1 q'.ls else []) ++ (if k ≤ 2 then tw 2 q'.le else [])) ∧ q'.rel = q.rel ∧ q'.dur = q.dur ∧ q'.all = q.all ∧ q'.dep = q.dep ∧ (0 < k → q'.dl = q.dl) ∧ (1 < k → q'.ls = q.ls) ∧ (2 < k → q'.le = q.le) := by
  have hz : ∀ (j k : Nat) (w : List (List UInt8)) (q q' : Qo), tmsF j k w q true ≠ some (q', false) := by
    intro j
    induction j with
    | zero => intro k w q q'; unfold tmsF; split <;> simp
    | succ j ih =>
      intro k w q q'
      unfold tmsF
      split
      · split
        · split
          · rw [Bool.true_or]; exact ih _ _ _ _
          · simp
        · exact ih _ _ _ _
      · exact ih _ _ _ _
      · exact ih _ _ _ _
  intro j
  induction j with
  | zero =>
    intro k w q q' hk h h1 h2 h3
    have : k = 3 := by omega
    subst this
    unfold tmsF at h
    split at h
    · rename_i hw
      simp only [Option.some.injEq, Prod.mk.injEq, and_true] at h
      subst h; subst hw
      simp
    · cases h
  | succ j ih =>
    intro k w q q' hk h h1 h2 h3
    -- the time number k is not there
    have skip : tmsF j (k + 1) w q false = some (q', false) → (∃ n, setT q k n = q' ∨ True) → w = (if k ≤ 0 then tw 0 q'.dl else []) ++ ((if k ≤ 1 then tw 1 q'.ls else []) ++ (if k ≤ 2 then tw 2 q'.le else [])) ∧ q'.rel = q.rel ∧ q'.dur = q.dur ∧ q'.all = q.all ∧ q'.dep = q.dep ∧ (0 < k → q'.dl = q.dl) ∧ (1 < k → q'.ls = q.ls) ∧ (2 < k → q'.le = q.le) := by
      intro hh _
      obtain ⟨e, r1, r2, r3, r4, r5, r6, r7⟩ := ih (k + 1) w q q' (by omega) hh (fun h => by omega) (fun h => h2 (by omega)) (fun h => h3 (by omega))
      refine ⟨?_, r1, r2, r3, r4, fun h => r5 (by omega), fun h => r6 (by omega), fun h => r7 (by omega)⟩
      obtain hk0 | hk0 | hk0 : k = 0 ∨ k = 1 ∨ k = 2 := by omega
      · subst hk0
        have := r5 (by omega)
        rw [h1 (by omega)] at this
        rw [this, e]; simp [tw]
      · subst hk0
        have := r6 (by omega)
        rw [h2 (by omega)] at this
        rw [this, e]; simp [tw]
      · subst hk0
        have := r7 (by omega)
        rw [h3 (by omega)] at this
        rw [this, e]; simp [tw]
    unfold tmsF at h
    split at h
    · rename_i nm x r
      split at h
      · rename_i hnm
        split at h
        · rename_i n hn
          by_cases h0 : n = 0
          · subst h0
            exact absurd h (by simpa using hz j (k + 1) r _ q')
          · have hb : (n == 0) = false := by simpa using h0
            rw [hb, Bool.or_false] at h
            have hi := numQ_itoa hn
            obtain hk0 | hk0 | hk0 : k = 0 ∨ k = 1 ∨ k = 2 := by omega
            · subst hk0
              obtain ⟨e, r1, r2, r3, r4, r5, r6, r7⟩ := ih 1 r (setT q 0 n) q' (by omega) h (fun h => by omega) (fun h => h2 (by omega)) (fun h => h3 (by omega))
              have e5 : q'.dl = n := r5 (by omega)
              refine ⟨?_, r1, r2, r3, r4, fun h => by omega, fun h => by omega, fun h => by omega⟩
              rw [e5, hnm, e]
              simp [tw, h0, hi]
            · subst hk0
              obtain ⟨e, r1, r2, r3, r4, r5, r6, r7⟩ := ih 2 r (setT q 1 n) q' (by omega) h (fun h => by omega) (fun h => by omega) (fun h => h3 (by omega))
              have e5 : q'.ls = n := r6 (by omega)
              refine ⟨?_, r1, r2, r3, r4, fun _ => r5 (by omega), fun h => by omega, fun h => by omega⟩
              rw [e5, hnm, e]
              simp [tw, h0, hi]
            · subst hk0
              obtain ⟨e, r1, r2, r3, r4, r5, r6, r7⟩ := ih 3 r (setT q 2 n) q' (by omega) h (fun h => by omega) (fun h => by omega) (fun h => by omega)
              have e5 : q'.le = n := r7 (by omega)
              refine ⟨?_, r1, r2, r3, r4, fun _ => r5 (by omega), fun _ => r6 (by omega), fun h => by omega⟩
              rw [e5, hnm, e]
              simp [tw, h0, hi]
        · cases h
      · exact skip h ⟨0, .inr trivial⟩
    · exact skip h ⟨0, .inr trivial⟩
    · exact skip h ⟨0, .inr trivial⟩
theorem hist_back {w : List (List UInt8)} {q : Qo} {r : List (List UInt8)} (h : histW w = some (q, r)) : w = (if q.rel = true then wRel else wBest) :: ((if q.dur = true then [wDur] else []) ++ ((if q.all = true then [wAll] else [wDep, Lib.itoa q.dep]) ++ r)) ∧ q.dl = 0 ∧ q.ls = 0 ∧ q.le = 0 := by
  have h2 : ∀ (rel dur : Bool) (w' : List (List UInt8)), hist2 rel dur w' = some (q, r) → w' = (if q.all = true then [wAll] else [wDep, Lib.itoa q.dep]) ++ r ∧ q.rel = rel ∧ q.dur = dur ∧ q.dl = 0 ∧ q.ls = 0 ∧ q.le = 0 := by
    intro rel dur w' hh
    unfold hist2 at hh
    split at hh
    · cases hh
    · split at hh
      · rename_i ha
        simp only [Option.some.injEq, Prod.mk.injEq] at hh
        obtain ⟨rfl, rfl⟩ := hh
        subst ha
        simp
      · split at hh
        · cases hh
        · split at hh
          · rename_i ha
            split at hh
            · rename_i n hn
              simp only [Option.some.injEq, Prod.mk.injEq] at hh
              obtain ⟨rfl, rfl⟩ := hh
              subst ha
              simp [numQ_itoa hn]
            · cases hh
          · cases hh
  have hd : ∀ (w' : List (List UInt8)), w' = (if (durW w').1 = true then [wDur] else []) ++ (durW w').2 := by
    intro w'
    unfold durW
    split
    · simp
    · split
      · rename_i ha; subst ha; simp
      · simp
  unfold histW at h
  split at h
  · cases h
  · rename_i a w'
    split at h
    · rename_i ha
      obtain ⟨e1, e2, e3, e4, e5, e6⟩ := h2 _ _ _ h
      refine ⟨?_, e4, e5, e6⟩
      rw [ha, e2, e3, ← e1, ← hd w']
      simp
    · split at h
      · rename_i ha
        obtain ⟨e1, e2, e3, e4, e5, e6⟩ := h2 _ _ _ h
        refine ⟨?_, e4, e5, e6⟩
        rw [ha, e2, e3, ← e1, ← hd w']
        simp
      · cases h
theorem par_ok {s : List UInt8} {q : Qo} (h : parQ s = (q, 0)) : chkQ q = 0 ∧ fmtQ q = s := by
  unfold parQ at h
  split at h
  · simp at h
  · split at h
    · simp at h
    · rename_i q' z hp
      split at h
      · simp at h
      · rename_i hz
        simp only [Prod.mk.injEq, and_true] at h
        subst h
        have hz' : z = false := by cases z <;> simp_all
        have hc : chkQ q' = 0 := by
          by_cases e : chkQ q' = 0
          · exact e
          · exact absurd (.inr e) hz
        subst hz'
        refine ⟨hc, ?_⟩
        unfold parseW at hp
        split at hp
        · rename_i q0 r hh
          obtain ⟨e1, d1, d2, d3⟩ := hist_back hh
          obtain ⟨e2, r1, r2, r3, r4, _⟩ := tms_back 3 0 r q0 q' rfl hp (fun _ => d1) (fun _ => d2) (fun _ => d3)
          have hw : splitW s = wds q' := by
            rw [e1, e2, ← r1, ← r2, ← r3, ← r4]
            simp [wds]
          unfold fmtQ
          rw [if_pos hc, ← hw, join_split]
        · cases hp
end Go.Proofs.YtkgioanjdbfcdaaDoor
