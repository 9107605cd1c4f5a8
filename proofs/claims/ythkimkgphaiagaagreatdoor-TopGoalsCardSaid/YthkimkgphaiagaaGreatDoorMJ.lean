/- Goals in plain Lean: the states, the text of a goal, and that every way of reading that gives each number back gives each goal back. No conditions. -/
import Derived.Lib.Atoi
import Derived.Lib.ItoaNum
import Derived.Lib.IndexMore
import Derived.Test.YthkimkgphaiagaaGreatDoorMC
import Derived.Test.YthkimkgphaiagaaGreatDoorTys

namespace Go.Proofs.YthkimkgphaiagaaGreatDoor
open Go
set_option linter.unusedVariables false
set_option linter.unusedSimpArgs false

/-! ## Numerals -/
abbrev upto (m : UInt8) (s : List UInt8) : List UInt8 := s.takeWhile (fun b => b != m)
theorem upto_no {m : UInt8} : ∀ (l : List UInt8), m ∉ l → upto m l = l
  | [], _ => rfl
  | b :: l, h => by
    have hb : b ≠ m := fun e => h (e ▸ List.mem_cons_self)
    simp [upto, hb, upto_no l (fun e => h (List.mem_cons_of_mem _ e))]
theorem index_ch (m : UInt8) : ∀ (s : List UInt8), (m ∉ s → Lib.index s [m] = -1) ∧ (m ∈ s → Lib.index s [m] = ((upto m s).length : Int) ∧ s = upto m s ++ m :: s.drop ((upto m s).length + 1))
  | [] => ⟨fun _ => rfl, fun h => by cases h⟩
  | b :: l => by
    obtain ⟨h1, h2⟩ := index_ch m l
    by_cases hb : b = m
    · subst hb
      refine ⟨fun h => absurd List.mem_cons_self h, fun _ => ?_⟩
      simp [Lib.index, upto]
    · have hp : [m].isPrefixOf (b :: l) = false := by simp [List.isPrefixOf, Ne.symm hb]
      constructor
      · intro h
        simp [Lib.index, hp, h1 (fun e => h (List.mem_cons_of_mem _ e))]
      · intro h
        have hm : m ∈ l := by
          rcases List.mem_cons.1 h with e | e
          · exact absurd e.symm hb
          · exact e
        obtain ⟨e1, e2⟩ := h2 hm
        have hne : ¬ (((upto m l).length : Int) = -1) := by omega
        constructor
        · simp [Lib.index, hp, e1, hne, upto, hb]
        · have : upto m (b :: l) = b :: upto m l := by simp [upto, hb]
          rw [this, List.length_cons, List.drop_succ_cons, List.cons_append, ← e2]
theorem cut_ch (m : UInt8) (s : List UInt8) : Lib.cut s [m] = if m ∈ s then (upto m s, s.drop ((upto m s).length + 1), true) else (s, [], false) := by
  obtain ⟨h1, h2⟩ := index_ch m s
  unfold Lib.cut
  by_cases h : m ∈ s
  · obtain ⟨e1, e2⟩ := h2 h
    rw [if_pos h, e1, if_pos (by omega), Int.toNat_natCast, List.length_singleton]
    rw [show s.take (upto m s).length = upto m s from (List.prefix_iff_eq_take.1 (List.takeWhile_prefix _)).symm]
  · rw [if_neg h, h1 h, if_neg (by omega)]

def isDig (b : UInt8) : Bool := decide (48 ≤ b.toNat ∧ b.toNat ≤ 57)
theorem ofNat_toNat {k : Nat} (h : k < 256) : (UInt8.ofNat k).toNat = k := by simp; omega
theorem dec_digits (u : Nat) : ∀ b ∈ Lib.decDigits u, 48 ≤ b.toNat ∧ b.toNat ≤ 57 := by
  induction u using Nat.strongRecOn with
  | _ u ih =>
    rw [Lib.decDigits]
    split
    · intro b hb
      simp only [List.mem_singleton] at hb
      subst hb
      rw [ofNat_toNat (by omega)]; omega
    · intro b hb
      rcases List.mem_append.1 hb with h | h
      · exact ih _ (by omega) b h
      · simp only [List.mem_singleton] at h
        subst h
        rw [ofNat_toNat (by omega)]; omega
theorem decFrom_append : ∀ (l r : List UInt8) (acc : Nat), Lib.decFrom acc (l ++ r) = (Lib.decFrom acc l).bind fun a => Lib.decFrom a r
  | [], r, acc => rfl
  | b :: l, r, acc => by
    simp only [List.cons_append, Lib.decFrom]
    cases Lib.digitVal b with
    | none => rfl
    | some d => exact decFrom_append l r _
theorem digitVal_of {d : Nat} (h : d < 10) : Lib.digitVal (UInt8.ofNat (48 + d)) = some d := by
  unfold Lib.digitVal
  rw [ofNat_toNat (by omega), if_pos (by omega)]
  congr 1; omega
theorem decFrom_dec (u : Nat) : Lib.decFrom 0 (Lib.decDigits u) = some u := by
  induction u using Nat.strongRecOn with
  | _ u ih =>
    rw [Lib.decDigits]
    split
    · rename_i h
      simp only [Lib.decFrom, digitVal_of h, Nat.zero_mul, Nat.zero_add]
    · rw [decFrom_append, ih _ (by omega)]
      simp only [Option.bind_some, Lib.decFrom, digitVal_of (show u % 10 < 10 by omega)]
      congr 1; omega
theorem dec_ne (u : Nat) : Lib.decDigits u ≠ [] := by
  rw [Lib.decDigits]
  split <;> simp
theorem dec_len : ∀ (k u : Nat), u < 10 ^ (k + 1) → (Lib.decDigits u).length ≤ k + 1
  | 0, u, h => by rw [Lib.decDigits, dif_pos (by simpa using h)]; simp
  | k + 1, u, h => by
    rw [Lib.decDigits]
    split
    · simp
    · have := dec_len k (u / 10) (by rw [Nat.pow_succ] at h; omega)
      simp; exact this
theorem itoa_dec {n : Int} (h : 0 ≤ n) : Lib.itoa n = Lib.decDigits n.toNat := by unfold Lib.itoa; rw [if_neg (by omega)]
theorem itoa_digits {n : Int} (h : 0 ≤ n) : ∀ b ∈ Lib.itoa n, 48 ≤ b.toNat ∧ b.toNat ≤ 57 := by rw [itoa_dec h]; exact dec_digits _
theorem itoa_ne (n : Int) : Lib.itoa n ≠ [] := by
  unfold Lib.itoa
  split
  · simp
  · exact dec_ne _
theorem itoa_len {n : Int} {k : Nat} (h : 0 ≤ n) (h1 : n < (10 ^ (k + 1) : Nat)) : (Lib.itoa n).length ≤ k + 1 := by rw [itoa_dec h]; exact dec_len k _ (by omega)
theorem u8_eq {b c : UInt8} (h : b.toNat = c.toNat) : b = c := UInt8.toNat_inj.1 h
theorem atoi_digits {l : List UInt8} (h0 : l ≠ []) (hd : ∀ b ∈ l, 48 ≤ b.toNat ∧ b.toNat ≤ 57) {m : Nat} (h : Lib.decFrom 0 l = some m) : Lib.atoi l = some (m : Int) := by
  cases l with
  | nil => exact absurd rfl h0
  | cons b r =>
    have hb := hd b List.mem_cons_self
    have n45 : (b == 45) = false := by
      rw [beq_eq_false_iff_ne]; rintro rfl
      have : (45 : UInt8).toNat = 45 := rfl
      omega
    have n43 : (b == 43) = false := by
      rw [beq_eq_false_iff_ne]; rintro rfl
      have : (43 : UInt8).toNat = 43 := rfl
      omega
    simp [Lib.atoi, n45, n43, Lib.decNat, h]
theorem atoi_itoa {n : Int} (h : 0 ≤ n) : Lib.atoi (Lib.itoa n) = some n := by
  rw [atoi_digits (itoa_ne n) (itoa_digits h) (m := n.toNat) (by rw [itoa_dec h]; exact decFrom_dec _)]
  congr 1; omega

/-! ## Two ways to read a number -/
/-- the program's: the bytes up to m, if they are a number's text -/
def numG (s : List UInt8) (m : UInt8) : Option (Int × List UInt8) :=
  if m ∈ s ∧ (upto m s).length ≤ 15 then
    match Lib.atoi (upto m s) with
    | some n => if Lib.itoa n = upto m s then some (n, s.drop ((upto m s).length + 1)) else none
    | none => none
  else none
abbrev digs (s : List UInt8) : List UInt8 := s.takeWhile isDig
/-- the specification's: up to fourteen digits, and m behind them -/
def numR (s : List UInt8) (m : UInt8) : Option (Int × List UInt8) :=
  if digs s ≠ [] ∧ (digs s).length ≤ 14 ∧ s[(digs s).length]? = some m then some ((((Lib.decFrom 0 (digs s)).getD 0 : Nat) : Int), s.drop ((digs s).length + 1)) else none
structure GoodNum (num : List UInt8 → UInt8 → Option (Int × List UInt8)) : Prop where
  back : ∀ (n : Int) (r : List UInt8) (m : UInt8), 0 ≤ n → n < 100000000000000 → isDig m = false → num (Lib.itoa n ++ m :: r) m = some (n, r)
  none : ∀ m, num [] m = none
theorem takeWhile_app {p : UInt8 → Bool} {l : List UInt8} {m : UInt8} (r : List UInt8) (h : ∀ b ∈ l, p b = true) (hm : p m = false) : (l ++ m :: r).takeWhile p = l := by
  rw [List.takeWhile_append_of_pos h, List.takeWhile_cons, hm]; simp
theorem goodG : GoodNum numG := by
  refine ⟨fun n r m h0 h1 hm => ?_, fun m => by simp [numG]⟩
  have hne : ∀ b ∈ Lib.itoa n, (b != m) = true := by
    intro b hb
    have hd := itoa_digits h0 b hb
    rw [bne_iff_ne]; rintro rfl
    simp [isDig] at hm; omega
  have hu : upto m (Lib.itoa n ++ m :: r) = Lib.itoa n := takeWhile_app r hne (by simp)
  have hl : (Lib.itoa n).length ≤ 14 := itoa_len (k := 13) h0 (by omega)
  unfold numG
  rw [hu, if_pos ⟨by simp, by omega⟩, atoi_itoa h0]
  simp
theorem goodR : GoodNum numR := by
  refine ⟨fun n r m h0 h1 hm => ?_, fun m => by simp [numR, digs]⟩
  have hu : digs (Lib.itoa n ++ m :: r) = Lib.itoa n := takeWhile_app r (fun b hb => decide_eq_true (itoa_digits h0 b hb)) hm
  have hl : (Lib.itoa n).length ≤ 14 := itoa_len (k := 13) h0 (by omega)
  unfold numR
  rw [hu, if_pos ⟨itoa_ne n, hl, by simp⟩, itoa_dec h0, decFrom_dec]
  simp only [Option.getD_some, List.drop_append_of_le_length, Option.some.injEq, Prod.mk.injEq]
  refine ⟨by omega, ?_⟩
  rw [List.drop_append, List.drop_eq_nil_of_le (by omega)]
  simp

/-! ## Goals -/
structure Gl where
  c : Int
  n : Int
  st : Int
  at_ : Int
  en : Int
  rq : List UInt8
  rs : List UInt8
def Gl.zero : Gl := ⟨0, 0, 0, 0, 0, [], []⟩
structure Cod (g : Gl) : Prop where
  c : 1 ≤ g.c ∧ g.c ≤ 2147483647
  n : 1 ≤ g.n ∧ g.n ≤ 2147483647
  st : 1 ≤ g.st ∧ g.st ≤ 7
  a : 0 ≤ g.at_ ∧ g.at_ ≤ 1099511627776
  l : g.rq.length ≤ 4000 ∧ g.rs.length ≤ 4000
  e : (4 ≤ g.st → g.at_ ≤ g.en ∧ g.en ≤ 1099511627776) ∧ (¬ 4 ≤ g.st → g.en = 0 ∧ g.rs = [])
theorem Cod.en {g : Gl} (h : Cod g) : 0 ≤ g.en ∧ g.en ≤ 1099511627776 := by
  have := h.a
  by_cases h4 : 4 ≤ g.st
  · have := h.e.1 h4; omega
  · have := (h.e.2 h4).1; omega
def txt (s : List UInt8) : List UInt8 := Lib.itoa (s.length : Int) ++ 58 :: s
def nums : List Int → List UInt8
  | [] => []
  | n :: l => Lib.itoa n ++ 32 :: nums l
theorem nums_snoc : ∀ (l : List Int) (n : Int), nums (l ++ [n]) = nums l ++ (Lib.itoa n ++ [32])
  | [], n => by simp [nums]
  | a :: l, n => by simp [nums, nums_snoc l n]
def body (g : Gl) : List UInt8 := nums [g.c, g.n, g.st, g.at_, g.en] ++ (txt g.rq ++ txt g.rs)
open Classical in
noncomputable def enc (g : Gl) : List UInt8 := if Cod g then body g else []
theorem enc_cod {g : Gl} (h : Cod g) : enc g = body g := by unfold enc; rw [if_pos h]
theorem enc_not {g : Gl} (h : ¬ Cod g) : enc g = [] := by unfold enc; rw [if_neg h]
theorem body_ne (g : Gl) : body g ≠ [] := by simp [body, nums]
theorem enc_nil {g : Gl} : enc g = [] ↔ ¬ Cod g := by
  constructor
  · intro h hc; rw [enc_cod hc] at h; exact body_ne g h
  · exact enc_not
section
variable (num : List UInt8 → UInt8 → Option (Int × List UInt8))
def textP (s : List UInt8) : Option (List UInt8 × List UInt8) :=
  match num s 58 with
  | some (n, r) => if 0 ≤ n ∧ n ≤ r.length then some (r.take n.toNat, r.drop n.toNat) else none
  | none => none
def numsP : Nat → List UInt8 → Option (List Int × List UInt8)
  | 0, s => some ([], s)
  | k + 1, s => match num s 32 with
    | some (n, r) => (numsP k r).map fun x => (n :: x.1, x.2)
    | none => none
theorem textP_txt (hg : GoodNum num) {s : List UInt8} (r : List UInt8) (hl : s.length ≤ 4000) : textP num (txt s ++ r) = some (s, r) := by
  unfold textP txt
  rw [List.append_assoc, List.cons_append, hg.back _ _ _ (by omega) (by omega) rfl]
  simp
  omega
theorem numsP_nums (hg : GoodNum num) : ∀ (l : List Int) (r : List UInt8), (∀ n ∈ l, 0 ≤ n ∧ n < 100000000000000) → numsP num l.length (nums l ++ r) = some (l, r)
  | [], r, _ => rfl
  | n :: l, r, h => by
    have h0 := h n List.mem_cons_self
    rw [nums, List.length_cons, numsP, List.append_assoc, List.cons_append, hg.back n _ 32 h0.1 h0.2 rfl]
    show (numsP num l.length (nums l ++ r)).map _ = _
    rw [numsP_nums hg l r (fun x hx => h x (List.mem_cons_of_mem _ hx))]
    rfl
/-- what reading a whole text comes to -/
inductive Rdg (s : List UInt8) : Option (Gl × List UInt8) → Prop where
  | nums (h : numsP num 5 s = none) : Rdg s none
  | rq (l : List Int) (r : List UInt8) (h : numsP num 5 s = some (l, r)) (h1 : textP num r = none) : Rdg s none
  | rs (l : List Int) (r q r1 : List UInt8) (h : numsP num 5 s = some (l, r)) (h1 : textP num r = some (q, r1)) (h2 : textP num r1 = none) : Rdg s none
  | ok (c n st a e : Int) (r q r1 x r2 : List UInt8) (h : numsP num 5 s = some ([c, n, st, a, e], r)) (h1 : textP num r = some (q, r1)) (h2 : textP num r1 = some (x, r2)) : Rdg s (some (⟨c, n, st, a, e, q, x⟩, r2))
theorem Rdg.body (hg : GoodNum num) {g : Gl} (hc : Cod g) {o : Option (Gl × List UInt8)} (h : Rdg num (body g) o) : o = some (g, []) := by
  have e1 : numsP num 5 (Go.Proofs.YthkimkgphaiagaaGreatDoor.body g) = some ([g.c, g.n, g.st, g.at_, g.en], txt g.rq ++ txt g.rs) := numsP_nums num hg [g.c, g.n, g.st, g.at_, g.en] _ (by
    have := hc.c; have := hc.n; have := hc.st; have := hc.a; have := hc.en
    intro n hn
    simp only [List.mem_cons, List.not_mem_nil, or_false] at hn
    rcases hn with rfl | rfl | rfl | rfl | rfl <;> omega)
  have e2 := textP_txt num hg (txt g.rs) hc.l.1
  have e3 := textP_txt num hg [] hc.l.2
  rw [List.append_nil] at e3
  cases h with
  | nums h => rw [e1] at h; cases h
  | rq l r h h1 => rw [e1] at h; cases h; rw [e2] at h1; cases h1
  | rs l r q r1 h h1 h2 => rw [e1] at h; cases h; rw [e2] at h1; cases h1; rw [e3] at h2; cases h2
  | ok c n st a e r q r1 x r2 h h1 h2 => rw [e1] at h; cases h; rw [e2] at h1; cases h1; rw [e3] at h2; cases h2; rfl
theorem Rdg.nil (hg : GoodNum num) {o : Option (Gl × List UInt8)} (h : Rdg num [] o) : o = none := by
  have e1 : numsP num 5 [] = none := by simp [numsP, hg.none]
  cases h with
  | nums h => rfl
  | rq l r h h1 => rfl
  | rs l r q r1 h h1 h2 => rfl
  | ok c n st a e r q r1 x r2 h h1 h2 => rw [e1] at h; cases h
end
open Classical in
/-- what decoding gives: the goal, and the error -/
noncomputable def decG (s : List UInt8) : Gl × Int := if h : ∃ g, Cod g ∧ s = body g then (Classical.choose h, 0) else (.zero, if 8100 < s.length then 3 else 2)
theorem numsP_some (num) : ∀ (k : Nat) (s : List UInt8) (l : List Int) (r : List UInt8), numsP num k s = some (l, r) → l.length = k
  | 0, s, l, r, h => by simp [numsP] at h; rw [h.1]; rfl
  | k + 1, s, l, r, h => by
    unfold numsP at h
    split at h
    · rename_i n r0 _
      cases hq : numsP num k r0 with
      | none => rw [hq] at h; cases h
      | some x =>
        rw [hq] at h
        simp only [Option.map_some, Option.some.injEq, Prod.mk.injEq] at h
        rw [← h.1, List.length_cons, numsP_some num k r0 x.1 x.2 hq]
    · cases h
theorem rdg_ex (num) (s : List UInt8) : ∃ o, Rdg num s o := by
  cases h : numsP num 5 s with
  | none => exact ⟨_, .nums h⟩
  | some x =>
    obtain ⟨l, r⟩ := x
    cases h1 : textP num r with
    | none => exact ⟨_, .rq l r h h1⟩
    | some y =>
      obtain ⟨q, r1⟩ := y
      cases h2 : textP num r1 with
      | none => exact ⟨_, .rs l r q r1 h h1 h2⟩
      | some z =>
        have hl := numsP_some num 5 s l r h
        match l, hl with
        | [c, n, st, a, e], _ => exact ⟨_, .ok c n st a e r q r1 z.1 z.2 h h1 h2⟩
theorem body_inj {g g' : Gl} (h : Cod g) (h' : Cod g') (e : body g = body g') : g = g' := by
  obtain ⟨o, ho⟩ := rdg_ex numG (body g)
  have e1 := Rdg.body numG goodG h ho
  rw [e] at ho
  have e2 := Rdg.body numG goodG h' ho
  rw [e1] at e2
  simpa using e2
theorem dec_body {g : Gl} (h : Cod g) : decG (body g) = (g, 0) := by
  have hx : ∃ g', Cod g' ∧ body g = body g' := ⟨g, h, rfl⟩
  unfold decG
  rw [dif_pos hx]
  obtain ⟨h1, h2⟩ := Classical.choose_spec hx
  rw [body_inj h1 h h2.symm]
theorem dec_none {s : List UInt8} (h : ∀ g, Cod g → s ≠ body g) : decG s = (.zero, if 8100 < s.length then 3 else 2) := by
  unfold decG
  rw [dif_neg]
  rintro ⟨g, h1, h2⟩
  exact h g h1 h2
theorem dec_short {s : List UInt8} (hl : s.length ≤ 8100) (h : ∀ g, Cod g → s ≠ body g) : decG s = (.zero, 2) := by rw [dec_none h, if_neg (by omega)]
theorem body_len {g : Gl} (h : Cod g) : (body g).length ≤ 8100 := by
  have hc := itoa_len (n := g.c) (k := 9) (by have := h.c; omega) (by have := h.c; omega)
  have hn := itoa_len (n := g.n) (k := 9) (by have := h.n; omega) (by have := h.n; omega)
  have hs := itoa_len (n := g.st) (k := 0) (by have := h.st; omega) (by have := h.st; omega)
  have ha := itoa_len (n := g.at_) (k := 12) (by have := h.a; omega) (by have := h.a; omega)
  have he := itoa_len (n := g.en) (k := 12) (by have := h.en; omega) (by have := h.en; omega)
  have hq := itoa_len (n := (g.rq.length : Int)) (k := 3) (by omega) (by have := h.l; omega)
  have hx := itoa_len (n := (g.rs.length : Int)) (k := 3) (by omega) (by have := h.l; omega)
  have := h.l
  simp only [body, nums, txt, List.length_append, List.length_cons, List.length_nil]
  omega
theorem dec_long {s : List UInt8} (h : 8100 < s.length) : decG s = (.zero, 3) := by
  rw [dec_none (fun g hc e => by have := body_len hc; rw [← e] at this; omega), if_pos h]
section
variable {num : List UInt8 → UInt8 → Option (Int × List UInt8)} {s : List UInt8}
theorem dec_bad (hg : GoodNum num) (hl : s.length ≤ 8100) (h : Rdg num s none) : decG s = (.zero, 2) :=
  dec_short hl (fun g hc e => by subst e; have := Rdg.body num hg hc h; cases this)
theorem dec_rest (hg : GoodNum num) (hl : s.length ≤ 8100) {g : Gl} {r : List UInt8} (h : Rdg num s (some (g, r))) (hr : r ≠ []) : decG s = (.zero, 2) :=
  dec_short hl (fun g hc e => by
    subst e
    have := Rdg.body num hg hc h
    simp only [Option.some.injEq, Prod.mk.injEq] at this
    exact hr this.2)
theorem dec_other (hg : GoodNum num) (hl : s.length ≤ 8100) {g : Gl} {r : List UInt8} (h : Rdg num s (some (g, r))) (hr : enc g ≠ s) : decG s = (.zero, 2) :=
  dec_short hl (fun g' hc e => by
    subst e
    have := Rdg.body num hg hc h
    simp only [Option.some.injEq, Prod.mk.injEq] at this
    rw [this.1, enc_cod hc] at hr
    exact hr rfl)
theorem dec_good (hg : GoodNum num) {g : Gl} {r : List UInt8} (h : Rdg num s (some (g, r))) (he : enc g = s) : decG s = (g, 0) := by
  by_cases hc : Cod g
  · rw [enc_cod hc] at he; rw [← he]; exact dec_body hc
  · rw [enc_not hc] at he; subst he
    have := Rdg.nil num hg h
    cases this
end
theorem dec_enc {g : Gl} (h : Cod g) : decG (enc g) = (g, 0) := by rw [enc_cod h, dec_body h]
/-- what is accepted is an encoding -/
theorem dec_ok {s : List UInt8} (h : (decG s).2 = 0) : enc (decG s).1 = s := by
  by_cases hx : ∃ g, Cod g ∧ s = body g
  · obtain ⟨g, h1, h2⟩ := hx
    rw [h2, dec_body h1, enc_cod h1]
  · rw [dec_none (fun g h1 h2 => hx ⟨g, h1, h2⟩)] at h
    split at h <;> simp at h

/-! ## States -/
def nextF (st ev : Int) : Int × Int :=
  if st < 1 ∨ 7 < st ∨ ev < 1 ∨ 5 < ev then (0, 4) else
  if ev = 1 ∧ st = 1 then (2, 0) else
  if ev = 2 ∧ (st = 2 ∨ st = 3) then (4, 0) else
  if ev = 3 ∧ (st = 2 ∨ st = 3 ∨ st = 1) then (5, 0) else
  if ev = 4 ∧ (st = 1 ∨ st = 2) then (3, 0) else
  if ev = 5 ∧ st = 3 then (6, 0) else (0, 10)
def evF (st : Int) : List Int := [1, 2, 3, 4, 5].filter fun e => (nextF st e).2 == 0
def termF (st : Int) : Bool := decide (4 ≤ st ∧ st ≤ 7)
def stepF (a b : Int) : Bool := (evF a).any fun e => (nextF a e).1 == b
def gchainF : List Int → Bool
  | [] => true
  | [_] => true
  | a :: b :: l => stepF a b && gchainF (b :: l)
def validF (l : List Int) : Bool := match l with
  | [] => false
  | a :: _ => (a == 1 || a == 7) && gchainF l
end Go.Proofs.YthkimkgphaiagaaGreatDoor

namespace Go.Proofs.YthkimkgphaiagaaGreatDoor
open Go.RowKit
set_option maxRecDepth 4000
set_option linter.unusedVariables false
set_option linter.unusedSimpArgs false
set_option maxHeartbeats 4000000

abbrev idV (c n : Int) : Value := .agg ⟨[I c, I n]⟩
abbrev goC (c n st a e : Int) (q x : List UInt8) : List Value := [I c, I n, I st, I a, I e, S q, S x]
abbrev goV (c n st a e : Int) (q x : List UInt8) : Value := .agg ⟨goC c n st a e q x⟩
def nameF (st : Int) : List UInt8 :=
  if st = 1 then [97, 99, 99, 101, 112, 116, 101, 100] else if st = 2 then [101, 120, 101, 99, 117, 116, 105, 110, 103] else if st = 3 then [99, 97, 110, 99, 101, 108, 105, 110, 103] else
  if st = 4 then [115, 117, 99, 99, 101, 101, 100, 101, 100] else if st = 5 then [97, 98, 111, 114, 116, 101, 100] else if st = 6 then [99, 97, 110, 99, 101, 108, 101, 100] else if st = 7 then [114, 101, 106, 101, 99, 116, 101, 100] else []
theorem term_any {w0 : World} (st : Int) : Cl Tryz.prog 45 [I st] w0 (fun v w' => v = B (termF st) ∧ St w0 NoneS [] w') := by
  have hSt := St.refl w0 NoneS
  refine enter Tryz.func45 rfl Tryz.ntmps45 rfl ?_
  repeat' (first | refine stepA ?_ | (refine stepS ?_; clear hSt; intro w hSt; dsimp only [spl, List.set] at hSt) | (refine stepB ?_; clear hSt; intro w nb hnb hSt; dsimp only [zcells, List.nil_append, List.cons_append] at hSt) | (refine W_quiet hT (by decide +kernel) hSt ?_; clear hSt; (repeat' (first | (apply QL_ev rfl rfl; (intro w hSt; (first | exact Ev_auto))) | refine QL_pass rfl rfl ?_ | (refine QL_guardP rfl rfl (fun hc => ?_) (fun hc => ?_) <;> try exact absA) | (refine QL_guard rfl rfl (fun hc => ?_) (fun hc => ?_) <;> (try exact absA) <;> (fail_if_success (change true = true at hc)) <;> (fail_if_success (change false = false at hc))))); all_goals (refine QL_nil (fun w hSt => ?_))) | (refine stepG ?_ ?_ <;> intro hc <;> (try exact absA) <;> (fail_if_success (change true = true at hc)) <;> (fail_if_success (change false = false at hc))) | fail)
  all_goals
    refine ret1 rfl rfl ⟨?_, hSt⟩
    unfold termF
    congr 1
    first | (apply decide_eq_decide.2; omega) | (symm; apply decide_eq_false; omega) | (symm; apply decide_eq_true; omega)
/-- the order of the numbers -/
def lessF (a b c d : Int) : Bool := decide (a < c ∨ (a = c ∧ b < d))
end Go.Proofs.YthkimkgphaiagaaGreatDoor

namespace Go.Proofs.YthkimkgphaiagaaGreatDoor
open Go.RowKit
set_option maxRecDepth 4000
set_option linter.unusedVariables false
set_option linter.unusedSimpArgs false
set_option maxHeartbeats 4000000

abbrev ic (n : Int) : List Value := [I n]
theorem fm_ic (l : List Int) : l.flatMap ic = l.map I := by induction l <;> simp_all
theorem own_ic {l : List Int} {v : Value} {e : TypeId} {H1 : List (Nat × Obj)} {w : World} (h : OwnSl v e 1 (l.map I) l.length H1) (hh : Has w H1) : SlAt w v 1 (l.map ic) :=
  OwnSl.slAt (f := ic) (z := 1) (l := l) (fun _ => rfl) (by rw [fm_ic]; exact h) hh
def E5 : List Int := [1, 2, 3, 4, 5]
def evT (st : Int) (i : Nat) : List Int := (E5.take i).filter fun e => (nextF st e).2 == 0
theorem evT_len (st : Int) (i : Nat) : (evT st i).length ≤ 5 := by
  have h1 := List.length_filter_le (fun e => (nextF st e).2 == 0) (E5.take i)
  have h2 : (E5.take i).length ≤ 5 := by rw [List.length_take]; simp [E5]; omega
  unfold evT; omega
theorem evT_snoc (st : Int) {i : Nat} (h : i < 5) : evT st (i + 1) = evT st i ++ if (nextF st ((i : Int) + 1)).2 = 0 then [(i : Int) + 1] else [] := by
  have ht : E5.take (i + 1) = E5.take i ++ [(i : Int) + 1] := by
    obtain h | h | h | h | h : i = 0 ∨ i = 1 ∨ i = 2 ∨ i = 3 ∨ i = 4 := by omega
    all_goals subst h; rfl
  unfold evT
  rw [ht, List.filter_append]
  congr 1
  by_cases h : (nextF st ((i : Int) + 1)).2 = 0
  · simp [h]
  · simp [h]
theorem evT_all (st : Int) : evT st 5 = evF st := rfl
theorem row_at {l : List Int} {i : Nat} {x : Int} (h : l[i]? = some x) (rs : List Value) : (l.map I ++ rs)[0 + ((i : Int)).toNat * 1]? = some (I x) := by
  have hl := (List.getElem?_eq_some_iff.1 h).1
  rw [Int.toNat_natCast, Nat.zero_add, Nat.mul_one, List.getElem?_append_left (by simpa using hl), List.getElem?_map, h]; rfl
theorem any_at {l : List Int} {p : Int → Bool} {i : Nat} {x : Int} (h : l[i]? = some x) (hp : p x = true) : l.any p = true := List.any_eq_true.2 ⟨x, List.mem_of_getElem? h, hp⟩
theorem any_none {l : List Int} {p : Int → Bool} {n : Nat} (hn : l.length ≤ n) (h : ∀ (j : Nat) (x : Int), j < n → l[j]? = some x → p x = false) : l.any p = false := by
  rw [List.any_eq_false]
  intro x hx
  obtain ⟨j, hj⟩ := List.getElem?_of_mem hx
  have := (List.getElem?_eq_some_iff.1 hj).1
  rw [h j x (by omega) hj]; simp
theorem evF_len (st : Int) : (evF st).length ≤ 5 := evT_len st 5
def chTo (l : List Int) (i : Nat) : Prop := ∀ (j : Nat) (x y : Int), j + 1 < i → l[j]? = some x → l[j + 1]? = some y → stepF x y = true
theorem chTo_one (l : List Int) : chTo l 1 := fun j x y h => by omega
theorem chTo_snoc {l : List Int} {i : Nat} {x y : Int} (h : chTo l i) (hx : l[i - 1]? = some x) (hy : l[i]? = some y) (hf : stepF x y = true) : chTo l (i + 1) := by
  intro j u v hj hu hv
  by_cases h2 : j + 1 < i
  · exact h j u v h2 hu hv
  · have : j + 1 = i := by omega
    subst this
    rw [show j + 1 - 1 = j by omega, hu] at hx
    rw [hv] at hy
    injection hx with hx; injection hy with hy; subst hx; subst hy; exact hf
theorem chain_iff : ∀ (l : List Int), gchainF l = true ↔ ∀ (j : Nat) (x y : Int), l[j]? = some x → l[j + 1]? = some y → stepF x y = true
  | [] => by simp [gchainF]
  | [a] => by simp [gchainF]
  | a :: b :: l => by
    rw [gchainF, Bool.and_eq_true, chain_iff (b :: l)]
    constructor
    · rintro ⟨h1, h2⟩ j x y hx hy
      cases j with
      | zero => simp at hx hy; subst hx; subst hy; exact h1
      | succ j => exact h2 j x y (by simpa using hx) (by simpa using hy)
    · intro h
      exact ⟨h 0 a b rfl rfl, fun j x y hx hy => h (j + 1) x y (by simpa using hx) (by simpa using hy)⟩
theorem chain_all {l : List Int} {i : Nat} (h : chTo l i) (hi : l.length ≤ i) : gchainF l = true := by
  rw [chain_iff]
  intro j x y hx hy
  have := (List.getElem?_eq_some_iff.1 hy).1
  exact h j x y (by omega) hx hy
theorem chain_no {l : List Int} {i : Nat} {x y : Int} (hx : l[i]? = some x) (hy : l[i + 1]? = some y) (hf : stepF x y = false) : gchainF l = false := by
  cases h : gchainF l
  · rfl
  · rw [(chain_iff l).1 h i x y hx hy] at hf; cases hf
theorem valid_hd {h : Int} {tl : List Int} (hh : h = 1 ∨ h = 7) : validF (h :: tl) = gchainF (h :: tl) := by
  unfold validF
  have : (h == 1 || h == 7) = true := by simpa using hh
  simp [this]
theorem valid_no {h : Int} {tl : List Int} (hh : ¬ (h = 1 ∨ h = 7)) : validF (h :: tl) = false := by
  unfold validF
  have : (h == 1 || h == 7) = false := by simpa using hh
  simp [this]
end Go.Proofs.YthkimkgphaiagaaGreatDoor
