/- Journals, in plain words: bytes of numbers, hashes, frames, and the valid prefix of a string. No conditions. -/
import Derived.Test.YtmlbgdhkacajaaaDoorEog
namespace Go.Proofs.YtmlbgdhkacajaaaDoor
open Go.RowKit
set_option linter.unusedVariables false
set_option linter.unusedSimpArgs false

/-- k bytes of a number, least significant first -/
def leB : Nat → Nat → List UInt8
  | _, 0 => []
  | n, k + 1 => UInt8.ofNat (n % 256) :: leB (n / 256) k
theorem leB_length : ∀ (k n : Nat), (leB n k).length = k
  | 0, _ => rfl
  | k + 1, n => by rw [leB, List.length_cons, leB_length k]
theorem leB_get : ∀ (k n i : Nat), i < k → (leB n k)[i]? = some (UInt8.ofNat (n / 256 ^ i % 256))
  | 0, _, _, h => absurd h (Nat.not_lt_zero _)
  | k + 1, n, 0, _ => by simp [leB]
  | k + 1, n, i + 1, h => by
    rw [leB, List.getElem?_cons_succ, leB_get k (n / 256) i (by omega), Nat.div_div_eq_div_mul, Nat.pow_succ, Nat.mul_comm 256]
theorem leB_snoc (n : Nat) : ∀ (k : Nat), leB n (k + 1) = leB n k ++ [UInt8.ofNat (n / 256 ^ k % 256)] := by
  intro k
  apply List.ext_getElem?
  intro i
  rcases Nat.lt_trichotomy i k with h | h | h
  · rw [leB_get _ _ _ (by omega), List.getElem?_append_left (by rw [leB_length]; exact h), leB_get _ _ _ h]
  · subst h
    rw [leB_get _ _ _ (by omega), List.getElem?_append_right (by rw [leB_length]; exact Nat.le_refl _), leB_length, Nat.sub_self]; rfl
  · rw [List.getElem?_eq_none (by rw [leB_length]; omega), List.getElem?_eq_none (by rw [List.length_append, leB_length]; simp; omega)]

def hashB (n : Nat) (c : UInt8) : Nat := (n ^^^ c.toNat) * 1099511628211 % 18446744073709551616
def hashF (n : Nat) (s : List UInt8) : Nat := s.foldl hashB n
theorem hashB_lt (n : Nat) (c : UInt8) : hashB n c < 18446744073709551616 := by
  unfold hashB
  generalize (n ^^^ c.toNat) * 1099511628211 = m
  omega
theorem hashF_lt {n : Nat} (h : n < 18446744073709551616) (s : List UInt8) : hashF n s < 18446744073709551616 := by
  unfold hashF
  induction s generalizing n with
  | nil => exact h
  | cons c r ih =>
    rw [List.foldl_cons]
    exact ih (hashB_lt n c)
theorem foldl_one {α β : Type} (f : α → β → α) (a : α) (b : β) : [b].foldl f a = f a b := rfl
theorem foldl_two {α β : Type} (f : α → β → α) (a : α) (l r : List β) : (l ++ r).foldl f a = r.foldl f (l.foldl f a) := List.foldl_append
theorem hashF_append (n : Nat) (s r : List UInt8) : hashF n (s ++ r) = hashF (hashF n s) r := by
  unfold hashF
  exact foldl_two hashB n s r
theorem hashF_one (n : Nat) (c : UInt8) : hashF n [c] = hashB n c := by
  unfold hashF
  exact foldl_one hashB n c
theorem hashF_step {n i : Nat} {s : List UInt8} {c : UInt8} (h : s[i]? = some c) : hashF n (s.take (i + 1)) = hashB (hashF n (s.take i)) c := by
  obtain ⟨h1, h2⟩ := List.getElem?_eq_some_iff.1 h
  rw [List.take_succ_eq_append_getElem h1, hashF_append, h2, hashF_one]
theorem hashF_cut {n a b : Nat} {s : List UInt8} (h : a ≤ b) : hashF (hashF n (s.take a)) ((s.drop a).take (b - a)) = hashF n (s.take b) := by
  rw [← hashF_append]
  congr 1
  have : s.take b = (s.take b).take a ++ (s.take b).drop a := (List.take_append_drop a _).symm
  rw [this, List.take_take, Nat.min_eq_left h, List.drop_take]
/-- the hash of a chain that is extended by s -/
def chainF (p : Nat) (s : List UInt8) : Nat := hashF 14695981039346656037 (leB p 8 ++ leB s.length 8 ++ s)
theorem chainF_lt (p : Nat) (s : List UInt8) : chainF p s < 18446744073709551616 := by
  unfold chainF
  generalize hg : 14695981039346656037 = g
  exact hashF_lt (by omega) _

/-- the varint of a number -/
def uvG : Nat → Nat → List UInt8
  | 0, n => [UInt8.ofNat n]
  | f + 1, n => if n < 128 then [UInt8.ofNat n] else UInt8.ofNat (128 + n % 128) :: uvG f (n / 128)
def uvF (n : Nat) : List UInt8 := uvG 9 n
/-- a record's frame -/
def textF (s : List UInt8) : List UInt8 := uvF s.length ++ s
def frameF (p : Nat) (s : List UInt8) : List UInt8 := textF s ++ leB (chainF p s) 8

/-- reads a varint: the error, the number, and the length -/
def rdG : Nat → Nat → Nat → List UInt8 → Int × Nat × Nat
  | 0, _, _, _ => (2, 0, 0)
  | _ + 1, _, _, [] => (1, 0, 0)
  | f + 1, i, n, c :: r =>
    if f = 0 ∧ 1 < c.toNat then (2, 0, 0) else
    if 128 ≤ c.toNat then rdG f (i + 1) (n + c.toNat % 128 * 128 ^ i) r else
    if c.toNat = 0 ∧ 0 < i then (2, 0, 0) else (0, n + c.toNat % 128 * 128 ^ i, i + 1)
/-- reads a text of at most 4000 bytes: the error, the text, and how many bytes were read -/
def rdT (s : List UInt8) : Int × List UInt8 × Nat :=
  if (rdG 10 0 0 s).1 ≠ 0 then ((rdG 10 0 0 s).1, [], 0) else
  if 4000 < (rdG 10 0 0 s).2.1 then (3, [], 0) else
  if s.length - (rdG 10 0 0 s).2.2 < (rdG 10 0 0 s).2.1 then (1, [], 0) else
  (0, (s.drop (rdG 10 0 0 s).2.2).take (rdG 10 0 0 s).2.1, (rdG 10 0 0 s).2.2 + (rdG 10 0 0 s).2.1)
/-- the record of the frame with which s begins, and the frame's length -/
def firstF (p : Nat) (s : List UInt8) : Option (List UInt8 × Nat) :=
  if (rdT s).1 ≠ 0 then none else
  if (s.drop (rdT s).2.2).take 8 = leB (chainF p (rdT s).2.1) 8 then some ((rdT s).2.1, (rdT s).2.2 + 8) else none
def verG : Nat → Nat → List UInt8 → List (List UInt8) × Nat × Nat
  | 0, p, _ => ([], 0, p)
  | f + 1, p, s => match firstF p s with
    | none => ([], 0, p)
    | some (x, n) => (x :: (verG f (chainF p x) (s.drop n)).1, n + (verG f (chainF p x) (s.drop n)).2.1, (verG f (chainF p x) (s.drop n)).2.2)
/-- the valid prefix of a string: its records, its length, and the hash behind it -/
def verF (s : List UInt8) : List (List UInt8) × Nat × Nat := verG (s.length + 1) 0 s
end Go.Proofs.YtmlbgdhkacajaaaDoor
