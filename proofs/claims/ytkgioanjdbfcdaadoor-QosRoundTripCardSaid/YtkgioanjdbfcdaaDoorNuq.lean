/- Numerals and pieces of a text, as plain lists. No conditions. -/
import Derived.Lib.Atoi
import Derived.Lib.ItoaNum
import Derived.Lib.IndexMore
namespace Go.Proofs.YtkgioanjdbfcdaaDoor
open Go
set_option linter.unusedVariables false
set_option linter.unusedSimpArgs false

/-! ## Numerals -/
abbrev upto (m : UInt8) (s : List UInt8) : List UInt8 := s.takeWhile (fun b => b != m)
theorem upto_no {m : UInt8} : ∀ (l : List UInt8), m ∉ l → upto m l = l
  | [], _ => rfl
  | b :: l, h => by
    have hb : b ≠ m := fun e => h (e ▸ List.mem_cons_self)
    simp [upto, hb, upto_no l (fun e => h (List.mem_cons_of_mem _ e))]
theorem index_ch (m : UInt8) : ∀ (s : List UInt8), (m ∉ s → Lib.index s [m] = -1) ∧ (m ∈ s → Lib.index s [m] = ((upto m s).length : Int) ∧ s = upto m s ++ m :: s.drop ((upto m s).length + 1))
  | [] => ⟨fun _ => rfl, fun h => by cases h⟩
  | b :: l => by
    obtain ⟨h1, h2⟩ := index_ch m l
    by_cases hb : b = m
    · subst hb
      refine ⟨fun h => absurd List.mem_cons_self h, fun _ => ?_⟩
      simp [Lib.index, upto]
    · have hp : [m].isPrefixOf (b :: l) = false := by simp [List.isPrefixOf, Ne.symm hb]
      constructor
      · intro h
        simp [Lib.index, hp, h1 (fun e => h (List.mem_cons_of_mem _ e))]
      · intro h
        have hm : m ∈ l := by
          rcases List.mem_cons.1 h with e | e
          · exact absurd e.symm hb
          · exact e
        obtain ⟨e1, e2⟩ := h2 hm
        have hne : ¬ (((upto m l).length : Int) = -1) := by omega
        constructor
        · simp [Lib.index, hp, e1, hne, upto, hb]
        · have : upto m (b :: l) = b :: upto m l := by simp [upto, hb]
          rw [this, List.length_cons, List.drop_succ_cons, List.cons_append, ← e2]
theorem cut_ch (m : UInt8) (s : List UInt8) : Lib.cut s [m] = if m ∈ s then (upto m s, s.drop ((upto m s).length + 1), true) else (s, [], false) := by
  obtain ⟨h1, h2⟩ := index_ch m s
  unfold Lib.cut
  by_cases h : m ∈ s
  · obtain ⟨e1, e2⟩ := h2 h
    rw [if_pos h, e1, if_pos (by omega), Int.toNat_natCast, List.length_singleton]
    rw [show s.take (upto m s).length = upto m s from (List.prefix_iff_eq_take.1 (List.takeWhile_prefix _)).symm]
  · rw [if_neg h, h1 h, if_neg (by omega)]

def isDig (b : UInt8) : Bool := decide (48 ≤ b.toNat ∧ b.toNat ≤ 57)
theorem ofNat_toNat {k : Nat} (h : k < 256) : (UInt8.ofNat k).toNat = k := by simp; omega
theorem dec_digits (u : Nat) : ∀ b ∈ Lib.decDigits u, 48 ≤ b.toNat ∧ b.toNat ≤ 57 := by
  induction u using Nat.strongRecOn with
  | _ u ih =>
    rw [Lib.decDigits]
    split
    · intro b hb
      simp only [List.mem_singleton] at hb
      subst hb
      rw [ofNat_toNat (by omega)]; omega
    · intro b hb
      rcases List.mem_append.1 hb with h | h
      · exact ih _ (by omega) b h
      · simp only [List.mem_singleton] at h
        subst h
        rw [ofNat_toNat (by omega)]; omega
theorem decFrom_append : ∀ (l r : List UInt8) (acc : Nat), Lib.decFrom acc (l ++ r) = (Lib.decFrom acc l).bind fun a => Lib.decFrom a r
  | [], r, acc => rfl
  | b :: l, r, acc => by
    simp only [List.cons_append, Lib.decFrom]
    cases Lib.digitVal b with
    | none => rfl
    | some d => exact decFrom_append l r _
theorem digitVal_of {d : Nat} (h : d < 10) : Lib.digitVal (UInt8.ofNat (48 + d)) = some d := by
  unfold Lib.digitVal
  rw [ofNat_toNat (by omega), if_pos (by omega)]
  congr 1; omega
theorem decFrom_dec (u : Nat) : Lib.decFrom 0 (Lib.decDigits u) = some u := by
  induction u using Nat.strongRecOn with
  | _ u ih =>
    rw [Lib.decDigits]
    split
    · rename_i h
      simp only [Lib.decFrom, digitVal_of h, Nat.zero_mul, Nat.zero_add]
    · rw [decFrom_append, ih _ (by omega)]
      simp only [Option.bind_some, Lib.decFrom, digitVal_of (show u % 10 < 10 by omega)]
      congr 1; omega
theorem dec_ne (u : Nat) : Lib.decDigits u ≠ [] := by
  rw [Lib.decDigits]
  split <;> simp
theorem dec_len : ∀ (k u : Nat), u < 10 ^ (k + 1) → (Lib.decDigits u).length ≤ k + 1
  | 0, u, h => by rw [Lib.decDigits, dif_pos (by simpa using h)]; simp
  | k + 1, u, h => by
    rw [Lib.decDigits]
    split
    · simp
    · have := dec_len k (u / 10) (by rw [Nat.pow_succ] at h; omega)
      simp; exact this
theorem itoa_dec {n : Int} (h : 0 ≤ n) : Lib.itoa n = Lib.decDigits n.toNat := by unfold Lib.itoa; rw [if_neg (by omega)]
theorem itoa_digits {n : Int} (h : 0 ≤ n) : ∀ b ∈ Lib.itoa n, 48 ≤ b.toNat ∧ b.toNat ≤ 57 := by rw [itoa_dec h]; exact dec_digits _
theorem itoa_ne (n : Int) : Lib.itoa n ≠ [] := by
  unfold Lib.itoa
  split
  · simp
  · exact dec_ne _
theorem itoa_len {n : Int} {k : Nat} (h : 0 ≤ n) (h1 : n < (10 ^ (k + 1) : Nat)) : (Lib.itoa n).length ≤ k + 1 := by rw [itoa_dec h]; exact dec_len k _ (by omega)
theorem u8_eq {b c : UInt8} (h : b.toNat = c.toNat) : b = c := UInt8.toNat_inj.1 h
theorem atoi_digits {l : List UInt8} (h0 : l ≠ []) (hd : ∀ b ∈ l, 48 ≤ b.toNat ∧ b.toNat ≤ 57) {m : Nat} (h : Lib.decFrom 0 l = some m) : Lib.atoi l = some (m : Int) := by
  cases l with
  | nil => exact absurd rfl h0
  | cons b r =>
    have hb := hd b List.mem_cons_self
    have n45 : (b == 45) = false := by
      rw [beq_eq_false_iff_ne]; rintro rfl
      have : (45 : UInt8).toNat = 45 := rfl
      omega
    have n43 : (b == 43) = false := by
      rw [beq_eq_false_iff_ne]; rintro rfl
      have : (43 : UInt8).toNat = 43 := rfl
      omega
    simp [Lib.atoi, n45, n43, Lib.decNat, h]
theorem atoi_itoa {n : Int} (h : 0 ≤ n) : Lib.atoi (Lib.itoa n) = some n := by
  rw [atoi_digits (itoa_ne n) (itoa_digits h) (m := n.toNat) (by rw [itoa_dec h]; exact decFrom_dec _)]
  congr 1; omega

theorem takeWhile_app {p : UInt8 → Bool} {l : List UInt8} {m : UInt8} (r : List UInt8) (h : ∀ b ∈ l, p b = true) (hm : p m = false) : (l ++ m :: r).takeWhile p = l := by
  rw [List.takeWhile_append_of_pos h, List.takeWhile_cons, hm]; simp
/-- a row of digits that does not begin with a nought is its number's text -/
theorem dec_of_digits : ∀ (d : List UInt8) (m : Nat), (∀ b ∈ d, 48 ≤ b.toNat ∧ b.toNat ≤ 57) → d ≠ [] → (d.head? ≠ some 48 ∨ d = [48]) → Lib.decFrom 0 d = some m → Lib.decDigits m = d ∧ (d ≠ [48] → 1 ≤ m) := by
  suffices hs : ∀ (n : Nat) (d : List UInt8) (m : Nat), d.length = n → (∀ b ∈ d, 48 ≤ b.toNat ∧ b.toNat ≤ 57) → d ≠ [] → (d.head? ≠ some 48 ∨ d = [48]) → Lib.decFrom 0 d = some m → Lib.decDigits m = d ∧ (d ≠ [48] → 1 ≤ m) from fun d m => hs d.length d m rfl
  intro n
  induction n with
  | zero => intro d m hl _ h; exact absurd (List.eq_nil_of_length_eq_zero hl) h
  | succ n ih0 =>
    intro d' m hl hd hne hh hm
    obtain ⟨d, b, rfl⟩ : ∃ d b, d' = d ++ [b] := by
      rcases List.eq_nil_or_concat d' with h | ⟨d, b, h⟩
      · exact absurd h hne
      · exact ⟨d, b, by simpa using h⟩
    have ih := fun k => ih0 d k (by simpa using hl)
    have hb := hd b (by simp)
    have hbv : Lib.digitVal b = some (b.toNat - 48) := by unfold Lib.digitVal; rw [if_pos hb]
    rw [decFrom_append] at hm
    by_cases h0 : d = []
    · subst h0
      simp only [Lib.decFrom, Option.bind_some, hbv, Option.some.injEq, Nat.zero_mul, Nat.zero_add] at hm
      rw [Lib.decDigits, dif_pos (by omega)]
      have e : UInt8.ofNat (48 + m) = b := u8_eq (by rw [ofNat_toNat (by omega)]; omega)
      rw [e]
      refine ⟨rfl, fun h => ?_⟩
      have hb48 : b.toNat ≠ 48 := fun e => h (by rw [show b = 48 from u8_eq e]; rfl)
      omega
    · have hh' : d.head? ≠ some 48 ∨ d = [48] := by
        rcases hh with h | h
        · left
          cases d with
          | nil => exact absurd rfl h0
          | cons c d => simpa using h
        · exfalso
          have := congrArg List.length h
          simp at this
          exact h0 this
      cases hq : Lib.decFrom 0 d with
      | none => rw [hq] at hm; simp at hm
      | some k =>
        rw [hq] at hm
        simp only [Option.bind_some, Lib.decFrom, hbv, Option.some.injEq] at hm
        obtain ⟨e1, e2⟩ := ih k (fun x hx => hd x (by simp [hx])) h0 hh' hq
        have hd48 : d ≠ [48] := by
          rintro rfl
          rcases hh with h | h
          · simp at h
          · simp at h
        have hk := e2 hd48
        rw [Lib.decDigits, dif_neg (by omega), show m / 10 = k by omega, e1]
        have e : UInt8.ofNat (48 + m % 10) = b := u8_eq (by rw [ofNat_toNat (by omega)]; omega)
        rw [e]
        exact ⟨rfl, fun _ => by omega⟩
/-- the pieces between blanks -/
def splitW : List UInt8 → List (List UInt8)
  | [] => [[]]
  | b :: l => if b = 32 then [] :: splitW l else match splitW l with
    | [] => [[b]]
    | a :: r => (b :: a) :: r
theorem splitW_ne : ∀ s, splitW s ≠ []
  | [] => by simp [splitW]
  | b :: l => by
    unfold splitW
    split
    · simp
    · split <;> simp
theorem splitW_no : ∀ (s : List UInt8), 32 ∉ s → splitW s = [s]
  | [], _ => rfl
  | b :: l, h => by
    have hb : b ≠ 32 := fun e => h (e ▸ List.mem_cons_self)
    rw [splitW, if_neg hb, splitW_no l (fun e => h (List.mem_cons_of_mem _ e))]
theorem splitW_app : ∀ (a r : List UInt8), 32 ∉ a → splitW (a ++ 32 :: r) = a :: splitW r
  | [], r, _ => by simp [splitW]
  | b :: a, r, h => by
    have hb : b ≠ 32 := fun e => h (e ▸ List.mem_cons_self)
    rw [List.cons_append, splitW, if_neg hb, splitW_app a r (fun e => h (List.mem_cons_of_mem _ e))]
theorem upto_notin (m : UInt8) (s : List UInt8) : m ∉ upto m s := by
  intro h
  have := List.all_eq_true.1 (List.all_takeWhile (l := s) (p := fun b => b != m)) m h
  simp at this
/-- the words, with blanks between them -/
def joinW : List (List UInt8) → List UInt8
  | [] => []
  | [a] => a
  | a :: b :: r => a ++ 32 :: joinW (b :: r)
theorem join_split : ∀ (s : List UInt8), joinW (splitW s) = s
  | [] => rfl
  | b :: l => by
    have ih := join_split l
    unfold splitW
    split
    · rename_i h
      subst h
      cases hq : splitW l with
      | nil => exact absurd hq (splitW_ne l)
      | cons a r => rw [hq] at ih; simp [joinW, ih]
    · cases hq : splitW l with
      | nil => exact absurd hq (splitW_ne l)
      | cons a r =>
        rw [hq] at ih
        cases r with
        | nil => simp [joinW] at ih ⊢; exact ih
        | cons c r => simp [joinW] at ih ⊢; exact ih
theorem split_join : ∀ (w : List (List UInt8)), w ≠ [] → (∀ a ∈ w, 32 ∉ a) → splitW (joinW w) = w
  | [], h, _ => absurd rfl h
  | [a], _, h => splitW_no a (h a List.mem_cons_self)
  | a :: b :: r, _, h => by
    rw [joinW, splitW_app a _ (h a List.mem_cons_self), split_join (b :: r) (by simp) (fun x hx => h x (List.mem_cons_of_mem _ hx))]
end Go.Proofs.YtkgioanjdbfcdaaDoor
