/- Journals, in plain words: bytes of numbers, hashes, frames, and the valid prefix of a string. No conditions. -/
import Derived.Test.YthkimkgphaiagaaGreatDoorMC
import Derived.Test.YthkimkgphaiagaaGreatDoorTys

namespace Go.Proofs.YthkimkgphaiagaaGreatDoor
open Go.RowKit
set_option linter.unusedVariables false
set_option linter.unusedSimpArgs false

/-- k bytes of a number, least significant first -/
def leB : Nat → Nat → List UInt8
  | _, 0 => []
  | n, k + 1 => UInt8.ofNat (n % 256) :: leB (n / 256) k
theorem leB_length : ∀ (k n : Nat), (leB n k).length = k
  | 0, _ => rfl
  | k + 1, n => by rw [leB, List.length_cons, leB_length k]
theorem leB_get : ∀ (k n i : Nat), i < k → (leB n k)[i]? = some (UInt8.ofNat (n / 256 ^ i % 256))
  | 0, _, _, h => absurd h (Nat.not_lt_zero _)
  | k + 1, n, 0, _ => by simp [leB]
  | k + 1, n, i + 1, h => by
    rw [leB, List.getElem?_cons_succ, leB_get k (n / 256) i (by omega), Nat.div_div_eq_div_mul, Nat.pow_succ, Nat.mul_comm 256]
theorem leB_snoc (n : Nat) : ∀ (k : Nat), leB n (k + 1) = leB n k ++ [UInt8.ofNat (n / 256 ^ k % 256)] := by
  intro k
  apply List.ext_getElem?
  intro i
  rcases Nat.lt_trichotomy i k with h | h | h
  · rw [leB_get _ _ _ (by omega), List.getElem?_append_left (by rw [leB_length]; exact h), leB_get _ _ _ h]
  · subst h
    rw [leB_get _ _ _ (by omega), List.getElem?_append_right (by rw [leB_length]; exact Nat.le_refl _), leB_length, Nat.sub_self]; rfl
  · rw [List.getElem?_eq_none (by rw [leB_length]; omega), List.getElem?_eq_none (by rw [List.length_append, leB_length]; simp; omega)]

def hashB (n : Nat) (c : UInt8) : Nat := (n ^^^ c.toNat) * 1099511628211 % 18446744073709551616
def hashF (n : Nat) (s : List UInt8) : Nat := s.foldl hashB n
theorem hashB_lt (n : Nat) (c : UInt8) : hashB n c < 18446744073709551616 := by
  unfold hashB
  generalize (n ^^^ c.toNat) * 1099511628211 = m
  omega
theorem hashF_lt {n : Nat} (h : n < 18446744073709551616) (s : List UInt8) : hashF n s < 18446744073709551616 := by
  unfold hashF
  induction s generalizing n with
  | nil => exact h
  | cons c r ih =>
    rw [List.foldl_cons]
    exact ih (hashB_lt n c)
theorem foldl_one {α β : Type} (f : α → β → α) (a : α) (b : β) : [b].foldl f a = f a b := rfl
theorem foldl_two {α β : Type} (f : α → β → α) (a : α) (l r : List β) : (l ++ r).foldl f a = r.foldl f (l.foldl f a) := List.foldl_append
theorem hashF_append (n : Nat) (s r : List UInt8) : hashF n (s ++ r) = hashF (hashF n s) r := by
  unfold hashF
  exact foldl_two hashB n s r
theorem hashF_one (n : Nat) (c : UInt8) : hashF n [c] = hashB n c := by
  unfold hashF
  exact foldl_one hashB n c
theorem hashF_step {n i : Nat} {s : List UInt8} {c : UInt8} (h : s[i]? = some c) : hashF n (s.take (i + 1)) = hashB (hashF n (s.take i)) c := by
  obtain ⟨h1, h2⟩ := List.getElem?_eq_some_iff.1 h
  rw [List.take_succ_eq_append_getElem h1, hashF_append, h2, hashF_one]
theorem hashF_cut {n a b : Nat} {s : List UInt8} (h : a ≤ b) : hashF (hashF n (s.take a)) ((s.drop a).take (b - a)) = hashF n (s.take b) := by
  rw [← hashF_append]
  congr 1
  have : s.take b = (s.take b).take a ++ (s.take b).drop a := (List.take_append_drop a _).symm
  rw [this, List.take_take, Nat.min_eq_left h, List.drop_take]
/-- the hash of a chain that is extended by s -/
def chainF (p : Nat) (s : List UInt8) : Nat := hashF 14695981039346656037 (leB p 8 ++ leB s.length 8 ++ s)
theorem chainF_lt (p : Nat) (s : List UInt8) : chainF p s < 18446744073709551616 := by
  unfold chainF
  generalize hg : 14695981039346656037 = g
  exact hashF_lt (by omega) _

/-- the varint of a number -/
def uvG : Nat → Nat → List UInt8
  | 0, n => [UInt8.ofNat n]
  | f + 1, n => if n < 128 then [UInt8.ofNat n] else UInt8.ofNat (128 + n % 128) :: uvG f (n / 128)
def uvF (n : Nat) : List UInt8 := uvG 9 n
/-- a record's frame -/
def textF (s : List UInt8) : List UInt8 := uvF s.length ++ s
def frameF (p : Nat) (s : List UInt8) : List UInt8 := textF s ++ leB (chainF p s) 8

/-- reads a varint: the error, the number, and the length -/
def rdG : Nat → Nat → Nat → List UInt8 → Int × Nat × Nat
  | 0, _, _, _ => (2, 0, 0)
  | _ + 1, _, _, [] => (1, 0, 0)
  | f + 1, i, n, c :: r =>
    if f = 0 ∧ 1 < c.toNat then (2, 0, 0) else
    if 128 ≤ c.toNat then rdG f (i + 1) (n + c.toNat % 128 * 128 ^ i) r else
    if c.toNat = 0 ∧ 0 < i then (2, 0, 0) else (0, n + c.toNat % 128 * 128 ^ i, i + 1)
/-- reads a text of at most 4000 bytes: the error, the text, and how many bytes were read -/
def rdT (s : List UInt8) : Int × List UInt8 × Nat :=
  if (rdG 10 0 0 s).1 ≠ 0 then ((rdG 10 0 0 s).1, [], 0) else
  if 4000 < (rdG 10 0 0 s).2.1 then (3, [], 0) else
  if s.length - (rdG 10 0 0 s).2.2 < (rdG 10 0 0 s).2.1 then (1, [], 0) else
  (0, (s.drop (rdG 10 0 0 s).2.2).take (rdG 10 0 0 s).2.1, (rdG 10 0 0 s).2.2 + (rdG 10 0 0 s).2.1)
/-- the record of the frame with which s begins, and the frame's length -/
def firstF (p : Nat) (s : List UInt8) : Option (List UInt8 × Nat) :=
  if (rdT s).1 ≠ 0 then none else
  if (s.drop (rdT s).2.2).take 8 = leB (chainF p (rdT s).2.1) 8 then some ((rdT s).2.1, (rdT s).2.2 + 8) else none
def verG : Nat → Nat → List UInt8 → List (List UInt8) × Nat × Nat
  | 0, p, _ => ([], 0, p)
  | f + 1, p, s => match firstF p s with
    | none => ([], 0, p)
    | some (x, n) => (x :: (verG f (chainF p x) (s.drop n)).1, n + (verG f (chainF p x) (s.drop n)).2.1, (verG f (chainF p x) (s.drop n)).2.2)
/-- the valid prefix of a string: its records, its length, and the hash behind it -/
def verF (s : List UInt8) : List (List UInt8) × Nat × Nat := verG (s.length + 1) 0 s
end Go.Proofs.YthkimkgphaiagaaGreatDoor

namespace Go.Proofs.YthkimkgphaiagaaGreatDoor
open Go.RowKit
set_option maxRecDepth 4000
set_option linter.unusedVariables false
set_option linter.unusedSimpArgs false
set_option maxHeartbeats 4000000

theorem bcs_len (s : List UInt8) : (bcs s).length = s.length := List.length_map ..
abbrev zB : List Value := List.replicate 8 (.int .u8 0)
theorem bcs_set {n i : Nat} (h : i < 8) : (bcs (leB n i) ++ List.replicate (8 - i) (Value.int .u8 0)).set (0 + (i : Int).toNat * 1) (Y (n / 2 ^ (8 * i) % 256)) = bcs (leB n (i + 1)) ++ List.replicate (8 - (i + 1)) (Value.int .u8 0) := by
  have e : 0 + (i : Int).toNat * 1 = i := by omega
  rw [e, leB_snoc, List.set_append_right _ _ (by rw [List.length_map, leB_length]; exact Nat.le_refl _), List.length_map, leB_length, Nat.sub_self]
  rw [show 8 - i = (8 - (i + 1)) + 1 by omega, List.replicate_succ, List.set_cons_zero, bcs, bcs, List.map_append, List.append_assoc]
  congr 1
  simp only [List.map_cons, List.map_nil, List.cons_append, List.nil_append, UInt8.toNat_ofNat', Y]
  rw [show 2 ^ (8 * i) = 256 ^ i by rw [Nat.pow_mul]]
  congr 3
  omega

theorem eight_any {w0 : World} (n : Nat) (hn : n < 18446744073709551616) : Cl Tryz.prog 82 [U n, I 8] w0 (fun v w' => v = .agg ⟨bcs (leB n 8)⟩ ∧ St w0 NoneS [] w') := by
  have hSt := St.refl w0 NoneS
  refine enter Tryz.func82 rfl Tryz.ntmps82 rfl ?_
  repeat' (first | refine stepA ?_ | (refine stepS ?_; clear hSt; intro w hSt; dsimp only [spl, List.set] at hSt) | (refine stepB ?_; clear hSt; intro w nb hnb hSt; dsimp only [zcells, List.nil_append, List.cons_append] at hSt) | (refine stepG ?_ ?_ <;> intro hc <;> (try exact absA) <;> (fail_if_success (change true = true at hc)) <;> (fail_if_success (change false = false at hc))) | fail)
  rename_i na hna
  refine W_loop1 (fun k (i : Nat) w => k = 8 - i ∧ i ≤ 8 ∧ St w0 NoneS [(na, blk zB 130), (nb, blk (bcs (leB n i) ++ List.replicate (8 - i) (Value.int .u8 0)) 130)] w) (fun i => [(8, I (i : Int))]) 8 0 rfl (by (repeat (first | exact Str.nil _ | apply Str.drop rfl | apply Str.keepU rfl | apply Str.keep rfl))) ⟨rfl, by omega, hSt⟩ (by (repeat (first | exact Sub.nil _ | refine Sub.cons rfl ?_))) ?_
  clear hSt
  rintro k i w ⟨hk, hi, hSt⟩ K hK
  by_cases h8 : i < 8
  · have hset := bcs_set (n := n) h8
    repeat' (first | (apply WL_ev rfl rfl; exact Ev_shrU n (8 * i) rfl rfl rfl (by omega) (by omega)) | (apply WL_ev rfl rfl; exact Ev_conv_byte hT (n / 2 ^ (8 * i)) rfl rfl rfl rfl) | (apply WL_ev rfl rfl; exact Ev_indexAddrArr hT rfl rfl rfl (by omega) (by omega)) | (refine WL_store1 hT rfl rfl 1 rfl rfl hSt rfl rfl ?_ ?_; rotate_left; clear hSt; intro w hSt; dsimp only [List.set] at hSt) | refine stepA ?_ | (refine stepS ?_; clear hSt; intro w hSt; dsimp only [spl, List.set] at hSt) | (refine stepB ?_; clear hSt; intro w nb hnb hSt; dsimp only [zcells, List.nil_append, List.cons_append] at hSt) | (refine stepG ?_ ?_ <;> intro hc <;> (try exact absA) <;> (fail_if_success (change true = true at hc)) <;> (fail_if_success (change false = false at hc))) | fail)
    · rw [hset] at hSt
      exact At_loop1 hK (k' := 7 - i) (i + 1) (by omega) ⟨by omega, by omega, hSt⟩ (by (repeat (first | exact Sub.nil _ | refine Sub.cons rfl ?_)))
    · rw [Nat.blt_eq, List.length_append, bcs_len, leB_length, List.length_replicate]; omega
  · obtain rfl : i = 8 := by omega
    simp only [Nat.sub_self, List.replicate_zero, List.append_nil] at hSt
    have hl : ((bcs (leB n 8)).drop 0).take 8 = bcs (leB n 8) := rfl
    have hl2 : (bcs (leB n 8)).length = 8 := rfl
    have hl3 : (bcs (leB n 8)).all oneV = true := rfl
    repeat' (first | (apply WL_ev rfl rfl; exact Ev_loadN hT rfl rfl (hSt.own 1 _ _ rfl).1 hl hl2) | (refine WL_storeN hT rfl rfl 0 rfl rfl hSt rfl hl2 hl3 rfl ?_; clear hSt; intro w hSt) | refine stepA ?_ | (refine stepS ?_; clear hSt; intro w hSt; dsimp only [spl, List.set] at hSt) | (refine stepB ?_; clear hSt; intro w nb hnb hSt; dsimp only [zcells, List.nil_append, List.cons_append] at hSt) | (refine stepG ?_ ?_ <;> intro hc <;> (try exact absA) <;> (fail_if_success (change true = true at hc)) <;> (fail_if_success (change false = false at hc))) | fail)
    exact end_of (resc1 rfl hT rfl rfl (hSt.at 0 rfl) rfl rfl) ⟨rfl, hSt.nil⟩
theorem fold_any {w0 : World} (n : Nat) (hn : n < 18446744073709551616) (s : List UInt8) (hs : s.length ≤ 9223372036854775807) : Cl Tryz.prog 95 [U n, S s] w0 (fun v w' => v = U (hashF n s) ∧ St w0 NoneS [] w') := by
  have hSt := St.refl w0 NoneS
  refine enter Tryz.func95 rfl Tryz.ntmps95 rfl ?_
  repeat' (first | refine stepA ?_ | (refine stepS ?_; clear hSt; intro w hSt; dsimp only [spl, List.set] at hSt) | (refine stepB ?_; clear hSt; intro w nb hnb hSt; dsimp only [zcells, List.nil_append, List.cons_append] at hSt) | (refine stepG ?_ ?_ <;> intro hc <;> (try exact absA) <;> (fail_if_success (change true = true at hc)) <;> (fail_if_success (change false = false at hc))) | fail)
  refine W_loop2 (fun k (i m : Nat) w => k = s.length - i ∧ i ≤ s.length ∧ m = hashF n (s.take i) ∧ St w0 NoneS [] w) (fun i m => [(8, I (i : Int)), (0, U m)]) s.length 0 n rfl (by (repeat (first | exact Str.nil _ | apply Str.drop rfl | apply Str.keepU rfl | apply Str.keep rfl))) ⟨by omega, by omega, rfl, hSt⟩ (by (repeat (first | exact Sub.nil _ | refine Sub.cons rfl ?_))) ?_
  clear hSt
  rintro k i m w ⟨hk, hi, hm, hSt⟩ K hK
  have hml : m < 18446744073709551616 := hm ▸ hashF_lt hn _
  by_cases hl : i < s.length
  · obtain ⟨c, hc0⟩ : ∃ c, s[i]? = some c := ⟨_, List.getElem?_eq_getElem hl⟩
    have hc1 : s[((i : Nat) : Int).toNat]? = some c := hc0
    have hcl : c.toNat < 18446744073709551616 := Nat.lt_trans c.toNat_lt (by decide)
    have hst : hashF n (s.take (i + 1)) = (m ^^^ c.toNat) * 1099511628211 % 18446744073709551616 := by rw [hashF_step hc0, ← hm, hashB]
    repeat' (first | (apply WL_ev rfl rfl; exact Ev_strIndex hT rfl rfl rfl (by omega) hc1) | (apply WL_ev rfl rfl; exact Ev_convU hT c.toNat rfl rfl rfl rfl hcl) | (apply WL_ev rfl rfl; exact Ev_xorU m c.toNat rfl rfl rfl rfl hml hcl) | (apply WL_ev rfl rfl; exact Ev_mulU (m ^^^ c.toNat) 1099511628211 rfl rfl rfl rfl) | refine stepA ?_ | (refine stepS ?_; clear hSt; intro w hSt; dsimp only [spl, List.set] at hSt) | (refine stepB ?_; clear hSt; intro w nb hnb hSt; dsimp only [zcells, List.nil_append, List.cons_append] at hSt) | (refine stepG ?_ ?_ <;> intro hc <;> (try exact absA) <;> (fail_if_success (change true = true at hc)) <;> (fail_if_success (change false = false at hc))) | fail)
    exact At_loop2 hK (k' := k - 1) (i + 1) _ (by omega) ⟨by omega, by omega, hst.symm, hSt⟩ (by (repeat (first | exact Sub.nil _ | refine Sub.cons rfl ?_)))
  · obtain rfl : i = s.length := by omega
    rw [List.take_length] at hm
    repeat' (first | refine stepA ?_ | (refine stepS ?_; clear hSt; intro w hSt; dsimp only [spl, List.set] at hSt) | (refine stepB ?_; clear hSt; intro w nb hnb hSt; dsimp only [zcells, List.nil_append, List.cons_append] at hSt) | (refine stepG ?_ ?_ <;> intro hc <;> (try exact absA) <;> (fail_if_success (change true = true at hc)) <;> (fail_if_success (change false = false at hc))) | fail)
    exact ret1 rfl rfl ⟨by rw [hm], hSt⟩

theorem hash_any {w0 : World} (s : List UInt8) (hs : s.length ≤ 9223372036854775807) : Cl Tryz.prog 83 [S s] w0 (fun v w' => v = U (hashF 14695981039346656037 s) ∧ St w0 NoneS [] w') := by
  have hSt := St.refl w0 NoneS
  obtain ⟨h0, hh0⟩ : ∃ h0 : Nat, h0 = 14695981039346656037 := ⟨_, rfl⟩
  have hh1 : h0 < 18446744073709551616 := by omega
  rw [← hh0]
  refine enter Tryz.func83 rfl Tryz.ntmps83 rfl ?_
  repeat' (first | (refine WL_range hT rfl rfl rfl rfl hSt ?_; clear hSt; intro w nb hnb hSt; dsimp only [List.nil_append] at hSt) | refine stepA ?_ | (refine stepS ?_; clear hSt; intro w hSt; dsimp only [spl, List.set] at hSt) | (refine stepB ?_; clear hSt; intro w nb hnb hSt; dsimp only [zcells, List.nil_append, List.cons_append] at hSt) | (refine stepG ?_ ?_ <;> intro hc <;> (try exact absA) <;> (fail_if_success (change true = true at hc)) <;> (fail_if_success (change false = false at hc))) | fail)
  refine W_sub (L' := [(7, Ptr nb), (4, I ((0 : Nat) : Int)), (3, U h0), (0, S s)]) (by rw [hh0]; (repeat (first | exact Sub.nil _ | refine Sub.cons rfl ?_))) ?_
  refine W_loop3 (fun k (p a m : Nat) w => k = s.length - p ∧ a ≤ p ∧ p ≤ s.length ∧ m = hashF h0 (s.take a) ∧ St w0 NoneS [(nb, .stringIter ⟨⟨s⟩⟩ p)] w) (fun p a m => [(4, I (a : Int)), (3, U m)]) s.length 0 0 h0 rfl (by (repeat (first | exact Str.nil _ | apply Str.drop rfl | apply Str.keepU rfl | apply Str.keep rfl))) ⟨by omega, by omega, by omega, rfl, hSt⟩ (by (repeat (first | exact Sub.nil _ | refine Sub.cons rfl ?_))) ?_
  clear hSt
  rintro k p a m w ⟨hk, hap, hp, hm, hSt⟩ K hK
  have hml : m < 18446744073709551616 := hm ▸ hashF_lt hh1 _
  by_cases hl : p < s.length
  · repeat' (first | (refine WL_next 0 rfl rfl rfl hSt rfl hl ?_; clear hSt; intro w cc mm hdec hSt; dsimp only [List.set] at hSt) | (refine WL_isCall (f := 95) ?_; refine WL_call (ok_call hT rfl) rfl rfl rfl (fold_any _ hml _ (by rw [List.length_take, List.length_drop]; omega)) ?_; rintro v w' ⟨rfl, hc2⟩; replace hSt := hSt.call0 hc2; clear hc2) | refine stepA ?_ | (refine stepS ?_; clear hSt; intro w hSt; dsimp only [spl, List.set] at hSt) | (refine stepB ?_; clear hSt; intro w nb hnb hSt; dsimp only [zcells, List.nil_append, List.cons_append] at hSt) | (refine stepG ?_ ?_ <;> intro hc <;> (try exact absA) <;> (fail_if_success (change true = true at hc)) <;> (fail_if_success (change false = false at hc))) | fail)
    have hd := decode_some s p hl hdec
    refine At_loop3 hK (k' := k - mm) (p + mm) p _ (by omega) ⟨by omega, by omega, by omega, ?_, hSt⟩ (by (repeat (first | exact Sub.nil _ | refine Sub.cons rfl ?_)))
    rw [hm, Int.toNat_natCast, Int.toNat_natCast, hashF_cut hap]
  · obtain rfl : p = s.length := by omega
    repeat' (first | (refine WL_nextEnd rfl rfl rfl (hSt.own 0 _ _ rfl).1 (by omega) ?_) | (refine WL_isCall (f := 95) ?_; refine WL_call (ok_call hT rfl) rfl rfl rfl (fold_any _ hml _ (by rw [List.length_take, List.length_drop]; omega)) ?_; rintro v w' ⟨rfl, hc2⟩; replace hSt := hSt.call0 hc2; clear hc2) | refine stepA ?_ | (refine stepS ?_; clear hSt; intro w hSt; dsimp only [spl, List.set] at hSt) | (refine stepB ?_; clear hSt; intro w nb hnb hSt; dsimp only [zcells, List.nil_append, List.cons_append] at hSt) | (refine stepG ?_ ?_ <;> intro hc <;> (try exact absA) <;> (fail_if_success (change true = true at hc)) <;> (fail_if_success (change false = false at hc))) | fail)
    refine ret1 rfl rfl ⟨?_, hSt.nil⟩
    rw [hm, Int.toNat_natCast, Int.toNat_natCast, hashF_cut hap, List.take_length]

theorem chain_any {w0 : World} (p : Nat) (hp : p < 18446744073709551616) (s : List UInt8) (hs : s.length ≤ 140737488355328) : Cl Tryz.prog 68 [U p, S s] w0 (fun v w' => v = U (chainF p s) ∧ St w0 NoneS [] w') := by
  have hSt := St.refl w0 NoneS
  have e8 : ∀ q : Nat, (leB q 8).length = 8 := fun q => leB_length 8 q
  have hb1 : ((bcs (leB p 8)).drop 0).take (leB p 8).length = (leB p 8).map (fun c => Value.int .u8 c.toNat) := rfl
  have hb2 : ((bcs (leB s.length 8)).drop 0).take (leB s.length 8).length = (leB s.length 8).map (fun c => Value.int .u8 c.toNat) := rfl
  have hl1 : (bcs (leB p 8)).length = 8 := rfl
  have hl2 : (bcs (leB s.length 8)).length = 8 := rfl
  have hv1 : (bcs (leB p 8)).all oneV = true := rfl
  have hv2 : (bcs (leB s.length 8)).all oneV = true := rfl
  refine enter Tryz.func68 rfl Tryz.ntmps68 rfl ?_
  repeat' (first | (refine WL_isCall (f := 82) ?_; refine WL_call (ok_call hT rfl) rfl rfl rfl (eight_any _ hp) ?_; rintro v w' ⟨rfl, hc2⟩; replace hSt := hSt.call0 hc2; clear hc2) | (refine WL_isCall (f := 82) ?_; refine WL_call (ok_call hT rfl) rfl rfl rfl (eight_any _ (show s.length < 18446744073709551616 by omega)) ?_; rintro v w' ⟨rfl, hc2⟩; replace hSt := hSt.call0 hc2; clear hc2) | (apply WL_ev rfl rfl; exact Ev_convU hT s.length rfl rfl rfl rfl (by omega)) | (refine WL_storeN hT rfl rfl 0 rfl rfl hSt rfl hl1 hv1 rfl ?_; clear hSt; intro w hSt; replace hSt : St w0 NoneS [(_, blk (bcs (leB p 8)) 130), _] w := hSt) | (refine WL_storeN hT rfl rfl 1 rfl rfl hSt rfl hl2 hv2 rfl ?_; clear hSt; intro w hSt; replace hSt : St w0 NoneS [_, (_, blk (bcs (leB s.length 8)) 130)] w := hSt) | refine stepA ?_ | (refine stepS ?_; clear hSt; intro w hSt; dsimp only [spl, List.set] at hSt) | (refine stepB ?_; clear hSt; intro w nb hnb hSt; dsimp only [zcells, List.nil_append, List.cons_append] at hSt) | (refine stepG ?_ ?_ <;> intro hc <;> (try exact absA) <;> (fail_if_success (change true = true at hc)) <;> (fail_if_success (change false = false at hc))) | fail)
  repeat' (first | (refine W_tail 7 hT (by decide +kernel) hSt ?_; clear hSt; intro w hSt; simp only [List.take_succ_cons, List.take_zero]; (repeat' (first | (apply SL_ev rfl rfl; (first | (exact Ev_sliceArr hT rfl rfl rfl rfl (by omega) (by omega) (by omega) (by omega)) | (exact Ev_bytesStr (s := leB p 8) hT rfl rfl rfl rfl (hSt.own 0 _ _ rfl).1 hb1) | (exact Ev_bytesStr (s := leB s.length 8) hT rfl rfl rfl rfl (hSt.own 1 _ _ rfl).1 hb2) | (exact Ev_str_add rfl rfl (by simp only [List.length_append, leB_length]; omega)) | exact Ev_auto)) | refine SL_pass rfl rfl ?_ | (refine SL_guardP rfl rfl (fun hc => ?_) (fun hc => ?_) <;> try exact absA) | (refine SL_guard rfl rfl (fun hc => ?_) (fun hc => ?_) <;> (try exact absA) <;> (fail_if_success (change true = true at hc)) <;> (fail_if_success (change false = false at hc))))); all_goals (refine SL_nil ?_; simp only [List.drop_succ_cons, List.drop_zero])) | (apply WL_ev rfl rfl; exact Ev_sliceArr hT rfl rfl rfl rfl (by omega) (by omega) (by omega) (by omega)) | (apply WL_ev rfl rfl; exact Ev_bytesStr (s := leB p 8) hT rfl rfl rfl rfl (hSt.own 0 _ _ rfl).1 hb1) | (apply WL_ev rfl rfl; exact Ev_bytesStr (s := leB s.length 8) hT rfl rfl rfl rfl (hSt.own 1 _ _ rfl).1 hb2) | (apply WL_ev rfl rfl; exact Ev_str_add rfl rfl (by simp only [List.length_append, leB_length]; omega)) | (refine WL_isCall (f := 83) ?_; refine WL_call (ok_call hT rfl) rfl rfl rfl (hash_any _ (by simp only [List.length_append, leB_length]; omega)) ?_; rintro v w' ⟨rfl, hc2⟩; replace hSt := hSt.call0 hc2; clear hc2) | refine stepA ?_ | (refine stepS ?_; clear hSt; intro w hSt; dsimp only [spl, List.set] at hSt) | (refine stepB ?_; clear hSt; intro w nb hnb hSt; dsimp only [zcells, List.nil_append, List.cons_append] at hSt) | (refine stepG ?_ ?_ <;> intro hc <;> (try exact absA) <;> (fail_if_success (change true = true at hc)) <;> (fail_if_success (change false = false at hc))) | fail)
  exact ret1 rfl rfl ⟨rfl, hSt.nil⟩

/-! ## The specification's -/
theorem bcs_snoc (n i : Nat) : bcs (leB n (i + 1)) = bcs (leB n i) ++ zcells (Y (n / 256 ^ i % 256 % 256)) := by
  rw [leB_snoc, bcs, List.map_append]
  congr 1
abbrev modB (m : Nat) : Nat := m % 256
end Go.Proofs.YthkimkgphaiagaaGreatDoor

namespace Go.Proofs.YthkimkgphaiagaaGreatDoor
open Go.RowKit
set_option maxRecDepth 4000
set_option linter.unusedVariables false
set_option linter.unusedSimpArgs false
set_option maxHeartbeats 4000000

section
variable {T : Tys} {P : Program} {L : Fr} {w w' : World} {ty t t' : TypeId} {xo yo : Operand}
theorem Ev_as {op : Op} {v v2 : Value} (h : Ev P L op ty w v w') (e : v = v2) : Ev P L op ty w v2 w' := e ▸ h
theorem Ev_subK {k : IntKind} {x y : Int} (hx : opd L xo = some (.int k x)) (hy : opd L yo = some (.int k y)) (h : inK k (x - y)) : Ev P L (.binOp .sub t xo yo t') ty w (.int k (x - y)) w := by
  have := Ev_subw (P := P) (t := t) (t' := t') (ty := ty) (w := w) hx hy
  rwa [wrap_in h] at this
theorem Ev_addK {k : IntKind} {x y : Int} (hx : opd L xo = some (.int k x)) (hy : opd L yo = some (.int k y)) (h : inK k (x + y)) : Ev P L (.binOp .add t xo yo t') ty w (.int k (x + y)) w := by
  have := Ev_addw (P := P) (t := t) (t' := t') (ty := ty) (w := w) hx hy
  rwa [wrap_in h] at this
theorem in32 {x : Int} (h1 : -2147483648 ≤ x) (h2 : x ≤ 2147483647) : inK .i32 x := by
  simp [inK, IntKind.min, IntKind.max, IntKind.signed, IntKind.bits]; omega
end

/-! ## Digits to base 16 -/
def hexD (d : Nat) : UInt8 := if d < 10 then UInt8.ofNat (48 + d) else UInt8.ofNat (87 + d)
/-- the digits, least significant first -/
def hexR : Nat → Nat → List UInt8
  | 0, n => [hexD (n % 16)]
  | f + 1, n => if n < 16 then [hexD (n % 16)] else hexD (n % 16) :: hexR f (n / 16)
def hexF (n : Nat) : List UInt8 := (hexR 15 n).reverse
theorem hexR_len : ∀ (f n : Nat), 1 ≤ (hexR f n).length ∧ (hexR f n).length ≤ f + 1
  | 0, n => ⟨Nat.le_refl _, Nat.le_refl _⟩
  | f + 1, n => by
    rw [hexR]; split
    · simp
    · have := hexR_len f (n / 16); rw [List.length_cons]; omega
theorem hexR_get : ∀ (f n k : Nat), k < (hexR f n).length → (hexR f n)[k]? = some (hexD (n / 16 ^ k % 16))
  | 0, n, k, h => by
    have : k = 0 := by simp [hexR] at h; exact h
    subst this; simp [hexR]
  | f + 1, n, k, h => by
    rw [hexR] at h ⊢
    split at h <;> rename_i hc
    · rw [if_pos hc]
      have : k = 0 := by simp at h; exact h
      subst this; simp
    · rw [if_neg hc]
      cases k with
      | zero => simp
      | succ k =>
        rw [List.length_cons] at h
        rw [List.getElem?_cons_succ, hexR_get f (n / 16) k (by omega), Nat.div_div_eq_div_mul, Nat.pow_succ, Nat.mul_comm 16]
theorem hexR_top : ∀ (f n : Nat), n < 16 ^ (f + 1) → n < 16 ^ (hexR f n).length
  | 0, n, h => h
  | f + 1, n, h => by
    rw [hexR]; split
    · rename_i hc; simpa using hc
    · have := hexR_top f (n / 16) (by rw [Nat.pow_succ] at h; omega)
      rw [List.length_cons, Nat.pow_succ]; omega
theorem hexD_low (d : Nat) (h : d < 16) : (hexD d).toNat = if d < 10 then 48 + d else 87 + d := by
  unfold hexD; split <;> simp [UInt8.toNat_ofNat'] <;> omega
abbrev digL : List UInt8 := [48, 49, 50, 51, 52, 53, 54, 55, 56, 57, 97, 98, 99, 100, 101, 102, 103, 104, 105, 106, 107, 108, 109, 110, 111, 112, 113, 114, 115, 116, 117, 118, 119, 120, 121, 122]
theorem dig_at : ∀ d : Nat, d < 16 → digL[d]? = some (hexD d) := by decide
theorem and15 (n : Nat) : n &&& 15 = n % 16 := Nat.and_two_pow_sub_one_eq_mod n 4

/-! ## The library's text to base 16 -/
/-- the library's table, so far as it is read -/
def Deb (w : World) : Prop := ∃ l E fz, w.heap[5]? = some (.cells ⟨l⟩ E fz) ∧ l[15]? = some (Y 4)
theorem Deb.later {w0 w : World} {Sx : Nat → Prop} {H : List (Nat × Obj)} (h : Deb w0) (k : St w0 Sx H w) (hS : ¬ Sx 5) : Deb w := by
  obtain ⟨l, E, fz, h1, h2⟩ := h
  exact ⟨l, E, fz, k.base h1 hS, h2⟩
theorem pow2_any {w0 : World} : Cl Tryz.prog 123 [I 16] w0 (fun v w' => v = B true ∧ St w0 NoneS [] w') := by
  have hSt := St.refl w0 NoneS
  have e : (bits .and .i64 16 (16 - 1) : Int) = 0 := by decide
  refine enter Tryz.func123 rfl Tryz.ntmps123 rfl ?_
  repeat' (first | (apply WL_ev rfl rfl; exact Ev_and rfl rfl) | refine stepA ?_ | (refine stepS ?_; clear hSt; intro w hSt; dsimp only [spl, List.set] at hSt) | (refine stepB ?_; clear hSt; intro w nb hnb hSt; dsimp only [zcells, List.nil_append, List.cons_append] at hSt) | (refine stepG ?_ ?_ <;> intro hc <;> (try exact absA) <;> (fail_if_success (change true = true at hc)) <;> (fail_if_success (change false = false at hc))) | fail)
  exact ret1 rfl rfl ⟨by rw [e]; rfl, hSt⟩
theorem tz64_any {w0 : World} (hD : Deb w0) : Cl Tryz.prog 130 [U 16] w0 (fun v w' => v = I 4 ∧ St w0 NoneS [] w') := by
  have hSt := St.refl w0 NoneS
  obtain ⟨l, E, fz, h1, h2⟩ := hD
  have e1 : IntKind.u64.wrap (0 - ((16 : Nat) : Int)) = ((18446744073709551600 : Nat) : Int) := by decide
  refine enter Tryz.func130 rfl Tryz.ntmps130 rfl ?_
  repeat' (first | (apply WL_ev rfl rfl; exact Ev_as (v2 := U 18446744073709551600) (Ev_neg rfl) (by rw [e1])) | (apply WL_ev rfl rfl; exact Ev_as (v2 := U 16) (Ev_andU 16 18446744073709551600 rfl rfl rfl rfl (by omega) (by omega)) (congrArg U (by decide))) | (apply WL_ev rfl rfl; exact Ev_as (v2 := U 4573923408821661840) (Ev_mulU 16 285870213051353865 rfl rfl rfl rfl) (congrArg U (by decide))) | (apply WL_ev rfl rfl; exact Ev_as (v2 := U 15) (Ev_shrU 4573923408821661840 58 rfl rfl rfl rfl (by omega)) (congrArg U (by decide))) | (apply WL_ev rfl rfl; exact Ev_indexAddrArr hT rfl rfl rfl (by omega) (by omega)) | (apply WL_ev rfl rfl; exact Ev_load1 hT rfl rfl h1 h2) | (apply WL_ev rfl rfl; exact Ev_convI hT 4 rfl rfl rfl rfl (by omega)) | refine stepA ?_ | (refine stepS ?_; clear hSt; intro w hSt; dsimp only [spl, List.set] at hSt) | (refine stepB ?_; clear hSt; intro w nb hnb hSt; dsimp only [zcells, List.nil_append, List.cons_append] at hSt) | (refine stepG ?_ ?_ <;> intro hc <;> (try exact absA) <;> (fail_if_success (change true = true at hc)) <;> (fail_if_success (change false = false at hc))) | fail)
  exact ret1 rfl rfl ⟨rfl, hSt⟩
theorem tz_any {w0 : World} (hD : Deb w0) : Cl Tryz.prog 124 [U 16] w0 (fun v w' => v = I 4 ∧ St w0 NoneS [] w') := by
  have hSt := St.refl w0 NoneS
  refine enter Tryz.func124 rfl Tryz.ntmps124 rfl ?_
  repeat' (first | (refine WL_isCall (f := 130) ?_; refine WL_call (ok_call hT rfl) rfl rfl rfl (tz64_any hD) ?_; rintro v w' ⟨rfl, hc2⟩; replace hSt := hSt.call0 hc2; clear hc2) | refine stepA ?_ | (refine stepS ?_; clear hSt; intro w hSt; dsimp only [spl, List.set] at hSt) | (refine stepB ?_; clear hSt; intro w nb hnb hSt; dsimp only [zcells, List.nil_append, List.cons_append] at hSt) | (refine stepG ?_ ?_ <;> intro hc <;> (try exact absA) <;> (fail_if_success (change true = true at hc)) <;> (fail_if_success (change false = false at hc))) | fail)
  exact ret1 rfl rfl ⟨rfl, hSt⟩

abbrev hdF (m : Nat) : UInt8 := hexD (m % 16)
theorem zset (i : Nat) (v : Value) (X : List Value) : (List.replicate (i + 1) (Value.int .u8 0) ++ X).set i v = List.replicate i (Value.int .u8 0) ++ (v :: X) := by
  rw [List.replicate_succ', List.append_assoc, List.set_append_right _ _ (by rw [List.length_replicate]; exact Nat.le_refl _), List.length_replicate, Nat.sub_self]; rfl
theorem bits_any {w0 : World} (hD : Deb w0) (n : Nat) (hn : n < 18446744073709551616) : Cl Tryz.prog 112 [.slice none 0 0, U n, I 16, B false, B false] w0 (fun v w' => (∃ u, v = .tuple ⟨[u, S (hexF n)]⟩) ∧ St w0 NoneS [] w') := by
  have hSt := St.refl w0 NoneS
  refine enter Tryz.func112 rfl Tryz.ntmps112 rfl ?_
  refine W_sub (L' := [(0, .slice none 0 0), (1, U n), (2, I 16), (3, B false), (4, B false)]) (by (repeat (first | exact Sub.nil _ | refine Sub.cons rfl ?_))) ?_
  repeat' (first | (refine WL_isCall (f := 123) ?_; refine WL_call (ok_call hT rfl) rfl rfl rfl (pow2_any) ?_; rintro v w' ⟨rfl, hc2⟩; replace hSt := hSt.call0 hc2; clear hc2) | (refine WL_isCall (f := 124) ?_; refine WL_call (ok_call hT rfl) rfl rfl rfl (tz_any (hD.later hSt (fun e => e))) ?_; rintro v w' ⟨rfl, hc2⟩; replace hSt := hSt.call0 hc2; clear hc2) | (apply WL_ev rfl rfl; exact Ev_convU hT 16 rfl rfl rfl rfl (by omega)) | (apply WL_ev rfl rfl; exact Ev_convU hT 4 rfl rfl rfl rfl (by omega)) | (apply WL_ev rfl rfl; exact Ev_as (v2 := U 15) (Ev_as (Ev_subK rfl rfl (inU (by omega) (by omega))) rfl) (congrArg U (by decide))) | refine stepA ?_ | (refine stepS ?_; clear hSt; intro w hSt; dsimp only [spl, List.set] at hSt) | (refine stepB ?_; clear hSt; intro w nb hnb hSt; dsimp only [zcells, List.nil_append, List.cons_append] at hSt) | (refine stepG ?_ ?_ <;> intro hc <;> (try exact absA) <;> (fail_if_success (change true = true at hc)) <;> (fail_if_success (change false = false at hc))) | fail)
  refine W_sub (L' := [(13, I ((65 : Nat) : Int)), (1, U n), (16, U 15), (15, U 16), (14, U 4), (12, Ptr nb), (3, B false), (4, B false), (10, .slice none 0 0)]) (by (repeat (first | exact Sub.nil _ | refine Sub.cons rfl ?_))) ?_
  refine W_loop2 (fun k (i m : Nat) w => k = m ∧ ∃ f ds, hexR 15 n = ds ++ hexR f m ∧ ds.length + f = 15 ∧ i + ds.length = 65 ∧ m < 16 ^ (f + 1) ∧ m < 18446744073709551616 ∧ St w0 NoneS [(nb, blk (List.replicate i (Value.int .u8 0) ++ bcs ds.reverse) 172)] w) (fun i m => [(13, I (i : Int)), (1, U m)]) n 65 n rfl (by (repeat (first | exact Str.nil _ | apply Str.drop rfl | apply Str.keepU rfl | apply Str.keep rfl))) ⟨rfl, 15, [], rfl, rfl, rfl, by omega, hn, hSt⟩ (by (repeat (first | exact Sub.nil _ | refine Sub.cons rfl ?_))) ?_
  clear hSt
  rintro k i m w ⟨hk, f, ds, hds, hf, hi, hm, hml, hSt⟩ K hK
  obtain ⟨j, rfl⟩ : ∃ j, i = j + 1 := ⟨i - 1, by omega⟩
  have ej : ((j : Nat) : Int).toNat = j := by omega
  have es : Value.int .i64 (((j + 1 : Nat) : Int) - 1) = I ((j : Nat) : Int) := by congr 1; omega
  have hbl : Nat.blt (0 + ((j : Nat) : Int).toNat * 1) (List.replicate (j + 1) (Value.int .u8 0) ++ bcs ds.reverse).length = true := by
    rw [ej, Nat.blt_eq, List.length_append, List.length_replicate]; omega
  have hset : ∀ v, (List.replicate (j + 1) (Value.int .u8 0) ++ bcs ds.reverse).set (0 + ((j : Nat) : Int).toNat * 1) v = List.replicate j (Value.int .u8 0) ++ (v :: bcs ds.reverse) := by
    intro v; rw [ej, Nat.zero_add, Nat.mul_one, zset]
  have hrev : bcs (ds ++ [hdF m]).reverse = Value.int .u8 (hdF m).toNat :: bcs ds.reverse := by
    rw [List.reverse_append]; rfl
  by_cases h16 : 16 ≤ m
  · have hq : digL[((m &&& 15 : Nat) : Int).toNat]? = some (hdF m) := by rw [Int.toNat_natCast, and15]; exact dig_at _ (Nat.mod_lt _ (by omega))
    obtain ⟨g, rfl⟩ : ∃ g, f = g + 1 := by
      cases f with
      | zero => simp at hm; omega
      | succ g => exact ⟨g, rfl⟩
    repeat' (first | (apply WL_ev rfl rfl; exact Ev_as (Ev_subK rfl rfl (inI (by omega) (by omega))) es) | (apply WL_ev rfl rfl; exact Ev_andU m 15 rfl rfl rfl rfl hml (by omega)) | (apply WL_ev rfl rfl; exact Ev_strIndex (s := digL) hT rfl rfl rfl (by omega) hq) | (apply WL_ev rfl rfl; exact Ev_indexAddrArr hT rfl rfl rfl (by omega) (by omega)) | (apply WL_ev rfl rfl; exact Ev_as (v2 := U (m / 16)) (Ev_shrU m 4 rfl rfl rfl rfl (by omega)) rfl) | (refine WL_store1 hT rfl rfl 0 rfl rfl hSt rfl rfl hbl ?_; clear hSt; intro w hSt; dsimp only [List.set] at hSt; rw [hset, ← hrev] at hSt) | refine stepA ?_ | (refine stepS ?_; clear hSt; intro w hSt; dsimp only [spl, List.set] at hSt) | (refine stepB ?_; clear hSt; intro w nb hnb hSt; dsimp only [zcells, List.nil_append, List.cons_append] at hSt) | (refine stepG ?_ ?_ <;> intro hc <;> (try exact absA) <;> (fail_if_success (change true = true at hc)) <;> (fail_if_success (change false = false at hc))) | fail)
    refine At_loop2 hK (k' := m / 16) j (m / 16) (by omega) ⟨rfl, g, ds ++ [hdF m], ?_, ?_, ?_, ?_, by omega, hSt⟩ (by (repeat (first | exact Sub.nil _ | refine Sub.cons rfl ?_)))
    · rw [hds, hexR, if_neg (by omega), List.append_assoc]; rfl
    · rw [List.length_append, List.length_singleton]; omega
    · rw [List.length_append, List.length_singleton]; omega
    · rw [Nat.pow_succ] at hm; omega
  · have hq : digL[((m : Nat) : Int).toNat]? = some (hdF m) := by
      rw [Int.toNat_natCast, dig_at m (by omega), hdF, Nat.mod_eq_of_lt (by omega)]
    have hres : hexF n = (ds ++ [hdF m]).reverse := by
      rw [hexF, hds]
      congr 2
      cases f with
      | zero => rfl
      | succ g => rw [hexR, if_pos (by omega)]
    have hlen : (ds ++ [hdF m]).reverse.length = 65 - j := by rw [List.length_reverse, List.length_append, List.length_singleton]; omega
    have hsl : Value.slice (some ⟨nb, 0 + ((j : Nat) : Int).toNat * 1, none⟩) (((65 : Nat) : Int).toNat - ((j : Nat) : Int).toNat) (65 - ((j : Nat) : Int).toNat) = Value.slice (some ⟨nb, j, none⟩) (ds ++ [hdF m]).reverse.length (65 - j) := by
      rw [ej, hlen, Nat.zero_add, Nat.mul_one]; rfl
    have hb1 : ((List.replicate j (Value.int .u8 0) ++ bcs (ds ++ [hdF m]).reverse).drop j).take (ds ++ [hdF m]).reverse.length = (ds ++ [hdF m]).reverse.map (fun c => Value.int .u8 c.toNat) := by
      rw [List.drop_left' List.length_replicate, List.take_of_length_le (by rw [bcs_len]; exact Nat.le_refl _)]
    rw [hres]
    repeat' (first | (apply WL_ev rfl rfl; exact Ev_as (Ev_subK rfl rfl (inI (by omega) (by omega))) es) | (apply WL_ev rfl rfl; exact Ev_strIndex (s := digL) hT rfl rfl rfl (by omega) hq) | (apply WL_ev rfl rfl; exact Ev_indexAddrArr hT rfl rfl rfl (by omega) (by omega)) | (apply WL_ev rfl rfl; exact Ev_as (Ev_sliceArr hT rfl rfl rfl rfl (by omega) (by omega) (by omega) (by omega)) hsl) | (apply WL_ev rfl rfl; exact Ev_bytesStr hT rfl rfl rfl rfl (hSt.own 0 _ _ rfl).1 hb1) | (refine WL_store1 hT rfl rfl 0 rfl rfl hSt rfl rfl hbl ?_; clear hSt; intro w hSt; dsimp only [List.set] at hSt; rw [hset, ← hrev] at hSt) | refine stepA ?_ | (refine stepS ?_; clear hSt; intro w hSt; dsimp only [spl, List.set] at hSt) | (refine stepB ?_; clear hSt; intro w nb hnb hSt; dsimp only [zcells, List.nil_append, List.cons_append] at hSt) | (refine stepG ?_ ?_ <;> intro hc <;> (try exact absA) <;> (fail_if_success (change true = true at hc)) <;> (fail_if_success (change false = false at hc))) | fail)
    exact ret2 rfl rfl rfl ⟨⟨_, rfl⟩, hSt.nil⟩
theorem ifmt_any {w0 : World} (hD : Deb w0) (n : Nat) (hn : n < 18446744073709551616) : Cl Tryz.prog 101 [U n, I 16] w0 (fun v w' => v = S (hexF n) ∧ St w0 NoneS [] w') := by
  have hSt := St.refl w0 NoneS
  refine enter Tryz.func101 rfl Tryz.ntmps101 rfl ?_
  repeat' (first | (refine WL_isCall (f := 112) ?_; refine WL_call (ok_call hT rfl) rfl rfl rfl (bits_any hD n hn) ?_; rintro v w' ⟨⟨u, rfl⟩, hc2⟩; replace hSt := hSt.call0 hc2; clear hc2) | refine stepA ?_ | (refine stepS ?_; clear hSt; intro w hSt; dsimp only [spl, List.set] at hSt) | (refine stepB ?_; clear hSt; intro w nb hnb hSt; dsimp only [zcells, List.nil_append, List.cons_append] at hSt) | (refine stepG ?_ ?_ <;> intro hc <;> (try exact absA) <;> (fail_if_success (change true = true at hc)) <;> (fail_if_success (change false = false at hc))) | fail)
  exact ret1 rfl rfl ⟨rfl, hSt⟩
theorem fmt_any {w0 : World} (hD : Deb w0) (n : Nat) (hn : n < 18446744073709551616) : Cl Tryz.prog 94 [U n, I 16] w0 (fun v w' => v = S (hexF n) ∧ St w0 NoneS [] w') := by
  have hSt := St.refl w0 NoneS
  refine enter Tryz.func94 rfl Tryz.ntmps94 rfl ?_
  repeat' (first | (refine WL_isCall (f := 101) ?_; refine WL_call (ok_call hT rfl) rfl rfl rfl (ifmt_any hD _ hn) ?_; rintro v w' ⟨rfl, hc2⟩; replace hSt := hSt.call0 hc2; clear hc2) | refine stepA ?_ | (refine stepS ?_; clear hSt; intro w hSt; dsimp only [spl, List.set] at hSt) | (refine stepB ?_; clear hSt; intro w nb hnb hSt; dsimp only [zcells, List.nil_append, List.cons_append] at hSt) | (refine stepG ?_ ?_ <;> intro hc <;> (try exact absA) <;> (fail_if_success (change true = true at hc)) <;> (fail_if_success (change false = false at hc))) | fail)
  exact ret1 rfl rfl ⟨rfl, hSt⟩
/-! ## Eight bytes from the text to base 16 -/
def btF (h K i : Nat) : Nat := if K ≤ 2 * i then h / 256 ^ i % 256 else if K = 2 * i + 1 then h / 256 ^ i % 256 / 16 * 16 else 0
def btL (h K : Nat) : List Value := (List.range 8).map fun i => Y (btF h K i)
abbrev sh4 (q : Nat) : Nat := 4 * (q % 2)
abbrev shV (d q : Nat) : Nat := d * 2 ^ (sh4 q) % 256
theorem btF_lt (h K i : Nat) : btF h K i < 256 := by
  unfold btF
  generalize h / 256 ^ i = x
  repeat' split
  all_goals omega
theorem btL_at {h K q : Nat} (hq : q < 16) : (btL h K)[q / 2]? = some (Y (btF h K (q / 2))) := by
  rw [btL, List.getElem?_map, List.getElem?_range (by omega)]; rfl
theorem btL_len (h K : Nat) : (btL h K).length = 8 := by rw [btL, List.length_map, List.length_range]
theorem pow16 (i : Nat) : (256 : Nat) ^ i = 16 ^ (2 * i) := by rw [Nat.pow_mul]
theorem div256_lt {h K i : Nat} (hK : h < 16 ^ K) (hi : K ≤ 2 * i) : h / 256 ^ i = 0 := by
  apply Nat.div_eq_of_lt
  rw [pow16]
  exact Nat.lt_of_lt_of_le hK (Nat.pow_le_pow_right (by omega) hi)
theorem div256_lt1 {h i : Nat} (hK : h < 16 ^ (2 * i + 1)) : h / 256 ^ i < 16 := by
  rw [pow16]
  apply Nat.div_lt_of_lt_mul
  rw [← Nat.pow_succ]; exact hK
theorem btL_zero {h K : Nat} (hK : h < 16 ^ K) : btL h K = zB := by
  have : ∀ i, Y (btF h K i) = Value.int .u8 0 := by
    intro i
    unfold btF
    split
    · rename_i hi; rw [div256_lt hK hi]; rfl
    · split
      · rename_i _ hi; subst hi
        have := div256_lt1 hK
        rw [Nat.mod_eq_of_lt (a := h / 256 ^ i) (by omega), Nat.div_eq_of_lt this]; rfl
      · rfl
  simp only [btL, this]; rfl
theorem btL_done (h : Nat) : btL h 0 = bcs (leB h 8) := by
  apply List.ext_getElem?
  intro i
  by_cases hi : i < 8
  · rw [btL, List.getElem?_map, List.getElem?_range hi, bcs, List.getElem?_map, leB_get _ _ _ hi]
    simp [btF, UInt8.toNat_ofNat']
  · rw [List.getElem?_eq_none (by rw [btL_len]; omega), List.getElem?_eq_none (by rw [bcs_len, leB_length]; omega)]
theorem or_nib : ∀ x : Nat, x < 256 → (x / 16 * 16) ||| (x % 16) = x := by decide +kernel
theorem bt_new {h q : Nat} : btF h (q + 1) (q / 2) ||| shV (h / 16 ^ q % 16) q = btF h q (q / 2) := by
  obtain ⟨j, hj | hj⟩ : ∃ j, q = 2 * j ∨ q = 2 * j + 1 := ⟨q / 2, by omega⟩
  · subst hj
    have e1 : 2 * j / 2 = j := by omega
    rw [e1]
    unfold btF shV sh4
    rw [if_neg (by omega), if_pos rfl, if_pos (by omega), ← pow16]
    generalize h / 256 ^ j = x
    rw [show 4 * (2 * j % 2) = 0 by omega, Nat.pow_zero, Nat.mul_one, show x % 16 % 256 = x % 256 % 16 by omega]
    exact or_nib _ (Nat.mod_lt _ (by omega))
  · subst hj
    have e1 : (2 * j + 1) / 2 = j := by omega
    rw [e1]
    unfold btF shV sh4
    rw [if_neg (by omega), if_neg (by omega), if_neg (by omega), if_pos rfl, Nat.pow_succ, ← pow16, ← Nat.div_div_eq_div_mul]
    generalize h / 256 ^ j = x
    rw [show 4 * ((2 * j + 1) % 2) = 4 by omega, Nat.zero_or]
    omega
theorem bt_same {h q i : Nat} (hi : i ≠ q / 2) : btF h (q + 1) i = btF h q i := by
  unfold btF
  generalize h / 256 ^ i = x
  repeat' split
  all_goals first | rfl | omega
theorem btL_step {h q : Nat} (hq : q < 16) : (btL h (q + 1)).set (q / 2) (Y (btF h (q + 1) (q / 2) ||| shV (h / 16 ^ q % 16) q)) = btL h q := by
  rw [bt_new]
  apply List.ext_getElem?
  intro i
  rw [List.getElem?_set, btL_len]
  by_cases he : q / 2 = i
  · subst he
    rw [if_pos rfl, if_pos (by omega), btL_at hq]
  · rw [if_neg he, btL, btL, List.getElem?_map, List.getElem?_map]
    by_cases hi : i < 8
    · rw [List.getElem?_range hi]; simp only [Option.map_some]; rw [bt_same (fun e => he e.symm)]
    · rw [List.getElem?_eq_none (by rw [List.length_range]; omega)]; rfl
theorem hexF_get {h p : Nat} (hp : p < (hexF h).length) : (hexF h)[p]? = some (hexD (h / 16 ^ ((hexF h).length - 1 - p) % 16)) := by
  unfold hexF at hp ⊢
  rw [List.length_reverse] at hp ⊢
  rw [List.getElem?_reverse hp, hexR_get _ _ _ (by omega)]

theorem little_any {w0 : World} (hD : Deb w0) (h : Nat) (hh : h < 18446744073709551616) : Cl Tryz.prog 81 [U h] w0 (fun v w' => v = S (leB h 8) ∧ St w0 NoneS [] w') := by
  have hSt := St.refl w0 NoneS
  have hlen : 1 ≤ (hexF h).length ∧ (hexF h).length ≤ 16 := by rw [hexF, List.length_reverse]; exact hexR_len 15 h
  have htop : h < 16 ^ (hexF h).length := by rw [hexF, List.length_reverse]; exact hexR_top 15 h (by omega)
  have hget := fun p (hp : p < (hexF h).length) => hexF_get (h := h) hp
  have hfmt := fun {w : World} (hS : Deb w) => fmt_any hS h hh
  generalize hexF h = tx at hlen htop hget hfmt
  refine enter Tryz.func81 rfl Tryz.ntmps81 rfl ?_
  repeat' (first | (refine WL_isCall (f := 94) ?_; refine WL_call (ok_call hT rfl) rfl rfl rfl (hfmt (hD.later hSt (fun e => e))) ?_; rintro v w' ⟨rfl, hc2⟩; replace hSt := hSt.call0 hc2; clear hc2) | (refine WL_range hT rfl rfl rfl rfl hSt ?_; clear hSt; intro w it hit hSt; dsimp only [List.nil_append, List.cons_append] at hSt) | refine stepA ?_ | (refine stepS ?_; clear hSt; intro w hSt; dsimp only [spl, List.set] at hSt) | (refine stepB ?_; clear hSt; intro w nb hnb hSt; dsimp only [zcells, List.nil_append, List.cons_append] at hSt) | (refine stepG ?_ ?_ <;> intro hc <;> (try exact absA) <;> (fail_if_success (change true = true at hc)) <;> (fail_if_success (change false = false at hc))) | fail)
  refine W_sub (L' := [(12, Ptr it), (3, Ptr nb), (4, S tx)]) (by (repeat (first | exact Sub.nil _ | refine Sub.cons rfl ?_))) ?_
  refine W_loop1 (fun k (p : Nat) w => k = tx.length - p ∧ p ≤ tx.length ∧ St w0 NoneS [(nb, blk (btL h (tx.length - p)) 130), (it, .stringIter ⟨⟨tx⟩⟩ p)] w) (fun p => []) tx.length 0 rfl (by (repeat (first | exact Str.nil _ | apply Str.drop rfl | apply Str.keepU rfl | apply Str.keep rfl))) ⟨by omega, by omega, by rw [Nat.sub_zero, btL_zero htop]; exact hSt⟩ (by (repeat (first | exact Sub.nil _ | refine Sub.cons rfl ?_))) ?_
  clear hSt
  rintro k p w ⟨hk, hp, hSt⟩ K hK
  by_cases hl : p < tx.length
  · obtain ⟨q, hq⟩ : ∃ q, q = tx.length - 1 - p := ⟨_, rfl⟩
    have hq1 : tx.length - p = q + 1 := by omega
    have hq16 : q < 16 := by omega
    have hc0 := hget p hl
    rw [← hq] at hc0
    rw [hq1] at hSt
    obtain ⟨d, hd⟩ : ∃ d, d = h / 16 ^ q % 16 := ⟨_, rfl⟩
    have hd16 : d < 16 := hd ▸ Nat.mod_lt _ (by omega)
    rw [← hd] at hc0
    have hcv := hexD_low d hd16
    generalize hexD d = c at hc0 hcv
    have hclow : c.toNat < 128 := by rw [hcv]; split <;> omega
    have hat : (btL h (q + 1))[0 + ((q / 2 : Nat) : Int).toNat * 1]? = some (Y (btF h (q + 1) (q / 2))) := by
      rw [show 0 + ((q / 2 : Nat) : Int).toNat * 1 = q / 2 by omega]; exact btL_at hq16
    have hset : (btL h (q + 1)).set (0 + ((q / 2 : Nat) : Int).toNat * 1) (Y (btF h (q + 1) (q / 2) ||| shV d q)) = btL h q := by
      rw [show 0 + ((q / 2 : Nat) : Int).toNat * 1 = q / 2 by omega, hd]; exact btL_step hq16
    have hbl : Nat.blt (0 + ((q / 2 : Nat) : Int).toNat * 1) (btL h (q + 1)).length = true := by
      rw [btL_len, Nat.blt_eq]; omega
    have eq1 : Value.int .i64 ((tx.length : Int) - 1 - (p : Int)) = I ((q : Nat) : Int) := by congr 1; omega
    have eq2 : Value.int .i64 (((q : Nat) : Int) / 2) = I ((q / 2 : Nat) : Int) := by congr 1
    have hsh : 4 * (((q : Nat) : Int) % 2) = ((sh4 q : Nat) : Int) := by unfold sh4; omega
    have hs8 : sh4 q ≤ 8 := by unfold sh4; omega
    have hb1 := btF_lt h (q + 1) (q / 2)
    have hb2 : shV d q < 256 := Nat.mod_lt _ (by omega)
    have fin : ∀ w', St w0 NoneS [(nb, blk (btL h q) 130), (it, .stringIter ⟨⟨tx⟩⟩ (p + 1))] w' → tx.length - (p + 1) = tx.length - (p + 1) ∧ p + 1 ≤ tx.length ∧ St w0 NoneS [(nb, blk (btL h (tx.length - (p + 1))) 130), (it, .stringIter ⟨⟨tx⟩⟩ (p + 1))] w' := by
      intro w' hS
      rw [show tx.length - (p + 1) = q by omega]
      exact ⟨rfl, by omega, hS⟩
    by_cases h10 : d < 10
    · rw [if_pos h10] at hcv
      repeat' (first | (refine W_tail 11 hT (by decide +kernel) hSt ?_; clear hSt; intro w hSt; simp only [List.take_succ_cons, List.take_zero]; (repeat' (first | (apply SL_ev rfl rfl; (first | (exact Ev_subK rfl rfl (in32 (by omega) (by omega))) | (exact Ev_conv_in hT rfl rfl rfl (inY (by omega) (by omega))) | (exact Ev_addK rfl rfl (inY (by omega) (by omega))) | (exact Ev_as (Ev_sub rfl rfl (by omega)) eq1) | (exact Ev_as (Ev_quo rfl rfl (by omega) (by omega) (by omega)) eq2) | (exact Ev_indexAddrArr hT rfl rfl rfl (by omega) (by omega)) | (exact Ev_load1 hT rfl rfl (hSt.own 0 _ _ rfl).1 hat) | (exact Ev_shlY d (sh4 q) rfl rfl (by omega) hsh hs8) | (exact Ev_orY (btF h (q + 1) (q / 2)) (shV d q) rfl rfl rfl rfl hb1 hb2) | exact Ev_auto)) | refine SL_pass rfl rfl ?_ | (refine SL_guardP rfl rfl (fun hc => ?_) (fun hc => ?_) <;> try exact absA) | (refine SL_guard rfl rfl (fun hc => ?_) (fun hc => ?_) <;> (try exact absA) <;> (fail_if_success (change true = true at hc)) <;> (fail_if_success (change false = false at hc))))); all_goals (refine SL_nil ?_; simp only [List.drop_succ_cons, List.drop_zero])) | (refine WL_next 1 rfl rfl rfl hSt rfl hl ?_; clear hSt; intro w cc mm hdec hSt; rw [decode_low _ _ hc0 hclow] at hdec; injection hdec with e1 e2; subst e1; subst e2; dsimp only [List.set] at hSt) | (apply WL_ev rfl rfl; exact Ev_subK rfl rfl (in32 (by omega) (by omega))) | (apply WL_ev rfl rfl; exact Ev_conv_in hT rfl rfl rfl (inY (by omega) (by omega))) | (apply WL_ev rfl rfl; exact Ev_addK rfl rfl (inY (by omega) (by omega))) | (apply WL_ev rfl rfl; exact Ev_as (Ev_sub rfl rfl (by omega)) eq1) | (apply WL_ev rfl rfl; exact Ev_as (Ev_quo rfl rfl (by omega) (by omega) (by omega)) eq2) | (apply WL_ev rfl rfl; exact Ev_indexAddrArr hT rfl rfl rfl (by omega) (by omega)) | (apply WL_ev rfl rfl; exact Ev_load1 hT rfl rfl (hSt.own 0 _ _ rfl).1 hat) | (apply WL_ev rfl rfl; exact Ev_shlY d (sh4 q) rfl rfl (by omega) hsh hs8) | (apply WL_ev rfl rfl; exact Ev_orY (btF h (q + 1) (q / 2)) (shV d q) rfl rfl rfl rfl hb1 hb2) | (refine WL_store1 hT rfl rfl 0 rfl rfl hSt rfl rfl hbl ?_; clear hSt; intro w hSt; dsimp only [List.set] at hSt; rw [hset] at hSt) | refine stepA ?_ | (refine stepS ?_; clear hSt; intro w hSt; dsimp only [spl, List.set] at hSt) | (refine stepB ?_; clear hSt; intro w nb hnb hSt; dsimp only [zcells, List.nil_append, List.cons_append] at hSt) | (refine stepG ?_ ?_ <;> intro hc <;> (try exact absA) <;> (fail_if_success (change true = true at hc)) <;> (fail_if_success (change false = false at hc))) | fail)
      exact At_loop1 hK (k' := tx.length - (p + 1)) (p + 1) (by omega) (fin _ hSt) (by (repeat (first | exact Sub.nil _ | refine Sub.cons rfl ?_)))
    · rw [if_neg h10] at hcv
      repeat' (first | (refine W_tail 11 hT (by decide +kernel) hSt ?_; clear hSt; intro w hSt; simp only [List.take_succ_cons, List.take_zero]; (repeat' (first | (apply SL_ev rfl rfl; (first | (exact Ev_subK rfl rfl (in32 (by omega) (by omega))) | (exact Ev_conv_in hT rfl rfl rfl (inY (by omega) (by omega))) | (exact Ev_addK rfl rfl (inY (by omega) (by omega))) | (exact Ev_as (Ev_sub rfl rfl (by omega)) eq1) | (exact Ev_as (Ev_quo rfl rfl (by omega) (by omega) (by omega)) eq2) | (exact Ev_indexAddrArr hT rfl rfl rfl (by omega) (by omega)) | (exact Ev_load1 hT rfl rfl (hSt.own 0 _ _ rfl).1 hat) | (exact Ev_shlY d (sh4 q) rfl rfl (by omega) hsh hs8) | (exact Ev_orY (btF h (q + 1) (q / 2)) (shV d q) rfl rfl rfl rfl hb1 hb2) | exact Ev_auto)) | refine SL_pass rfl rfl ?_ | (refine SL_guardP rfl rfl (fun hc => ?_) (fun hc => ?_) <;> try exact absA) | (refine SL_guard rfl rfl (fun hc => ?_) (fun hc => ?_) <;> (try exact absA) <;> (fail_if_success (change true = true at hc)) <;> (fail_if_success (change false = false at hc))))); all_goals (refine SL_nil ?_; simp only [List.drop_succ_cons, List.drop_zero])) | (refine WL_next 1 rfl rfl rfl hSt rfl hl ?_; clear hSt; intro w cc mm hdec hSt; rw [decode_low _ _ hc0 hclow] at hdec; injection hdec with e1 e2; subst e1; subst e2; dsimp only [List.set] at hSt) | (apply WL_ev rfl rfl; exact Ev_subK rfl rfl (in32 (by omega) (by omega))) | (apply WL_ev rfl rfl; exact Ev_conv_in hT rfl rfl rfl (inY (by omega) (by omega))) | (apply WL_ev rfl rfl; exact Ev_addK rfl rfl (inY (by omega) (by omega))) | (apply WL_ev rfl rfl; exact Ev_as (Ev_sub rfl rfl (by omega)) eq1) | (apply WL_ev rfl rfl; exact Ev_as (Ev_quo rfl rfl (by omega) (by omega) (by omega)) eq2) | (apply WL_ev rfl rfl; exact Ev_indexAddrArr hT rfl rfl rfl (by omega) (by omega)) | (apply WL_ev rfl rfl; exact Ev_load1 hT rfl rfl (hSt.own 0 _ _ rfl).1 hat) | (apply WL_ev rfl rfl; exact Ev_shlY d (sh4 q) rfl rfl (by omega) hsh hs8) | (apply WL_ev rfl rfl; exact Ev_orY (btF h (q + 1) (q / 2)) (shV d q) rfl rfl rfl rfl hb1 hb2) | (refine WL_store1 hT rfl rfl 0 rfl rfl hSt rfl rfl hbl ?_; clear hSt; intro w hSt; dsimp only [List.set] at hSt; rw [hset] at hSt) | refine stepA ?_ | (refine stepS ?_; clear hSt; intro w hSt; dsimp only [spl, List.set] at hSt) | (refine stepB ?_; clear hSt; intro w nb hnb hSt; dsimp only [zcells, List.nil_append, List.cons_append] at hSt) | (refine stepG ?_ ?_ <;> intro hc <;> (try exact absA) <;> (fail_if_success (change true = true at hc)) <;> (fail_if_success (change false = false at hc))) | fail)
      exact At_loop1 hK (k' := tx.length - (p + 1)) (p + 1) (by omega) (fin _ hSt) (by (repeat (first | exact Sub.nil _ | refine Sub.cons rfl ?_)))
  · obtain rfl : p = tx.length := by omega
    rw [Nat.sub_self, btL_done] at hSt
    have hb1 : ((bcs (leB h 8)).drop 0).take (leB h 8).length = (leB h 8).map (fun c => Value.int .u8 c.toNat) := rfl
    repeat' (first | (refine WL_nextEnd rfl rfl rfl (hSt.own 1 _ _ rfl).1 (by omega) ?_) | (apply WL_ev rfl rfl; exact Ev_sliceArr hT rfl rfl rfl rfl (by omega) (by omega) (by omega) (by omega)) | (apply WL_ev rfl rfl; exact Ev_bytesStr (s := leB h 8) hT rfl rfl rfl rfl (hSt.own 0 _ _ rfl).1 hb1) | refine stepA ?_ | (refine stepS ?_; clear hSt; intro w hSt; dsimp only [spl, List.set] at hSt) | (refine stepB ?_; clear hSt; intro w nb hnb hSt; dsimp only [zcells, List.nil_append, List.cons_append] at hSt) | (refine stepG ?_ ?_ <;> intro hc <;> (try exact absA) <;> (fail_if_success (change true = true at hc)) <;> (fail_if_success (change false = false at hc))) | fail)
    exact ret1 rfl rfl ⟨rfl, hSt.nil⟩
end Go.Proofs.YthkimkgphaiagaaGreatDoor

namespace Go.Proofs.YthkimkgphaiagaaGreatDoor
open Go.RowKit
set_option maxRecDepth 4000
set_option linter.unusedVariables false
set_option linter.unusedSimpArgs false
set_option maxHeartbeats 4000000

theorem or128 : ∀ x : Nat, x < 256 → x ||| 128 = 128 + x % 128 := by decide +kernel
abbrev vByte (n : Nat) : UInt8 := UInt8.ofNat (128 + n % 128)
theorem vByte_nat (n : Nat) : (vByte n).toNat = 128 + n % 128 := by
  rw [vByte, UInt8.toNat_ofNat']
  exact Nat.mod_eq_of_lt (by omega)
theorem low_nat {n : Nat} (h : n < 128) : (UInt8.ofNat n).toNat = n := by
  rw [UInt8.toNat_ofNat']
  exact Nat.mod_eq_of_lt (by omega)
theorem uvG_len : ∀ (f n : Nat), 1 ≤ (uvG f n).length ∧ (uvG f n).length ≤ f + 1
  | 0, n => ⟨Nat.le_refl _, Nat.le_refl _⟩
  | f + 1, n => by
    rw [uvG]; split
    · simp
    · have := uvG_len f (n / 128); rw [List.length_cons]; omega
theorem bset (pre : List UInt8) (m : Nat) (b : UInt8) : (bcs pre ++ List.replicate (m + 1) (Value.int .u8 0)).set pre.length (.int .u8 b.toNat) = bcs (pre ++ [b]) ++ List.replicate m (Value.int .u8 0) := by
  rw [List.set_append_right _ _ (by rw [bcs_len]; exact Nat.le_refl _), bcs_len, Nat.sub_self, List.replicate_succ, List.set_cons_zero, bcs, bcs, List.map_append, List.append_assoc]; rfl

theorem uint_any {w0 : World} (N : Nat) (hN : N < 18446744073709551616) : Cl Tryz.prog 108 [U N] w0 (fun v w' => v = S (uvF N) ∧ St w0 NoneS [] w') := by
  have hSt := St.refl w0 NoneS
  refine enter Tryz.func108 rfl Tryz.ntmps108 rfl ?_
  repeat' (first | refine stepA ?_ | (refine stepS ?_; clear hSt; intro w hSt; dsimp only [spl, List.set] at hSt) | (refine stepB ?_; clear hSt; intro w nb hnb hSt; dsimp only [zcells, List.nil_append, List.cons_append] at hSt) | (refine stepG ?_ ?_ <;> intro hc <;> (try exact absA) <;> (fail_if_success (change true = true at hc)) <;> (fail_if_success (change false = false at hc))) | fail)
  refine W_sub (L' := [(4, I ((0 : Nat) : Int)), (0, U N), (3, Ptr nb)]) (by (repeat (first | exact Sub.nil _ | refine Sub.cons rfl ?_))) ?_
  refine W_loop2 (fun k (i n : Nat) w => k = n ∧ ∃ f pre, uvF N = pre ++ uvG f n ∧ pre.length = i ∧ i + f = 9 ∧ n < 128 ^ (f + 1) ∧ n < 18446744073709551616 ∧ St w0 NoneS [(nb, blk (bcs pre ++ List.replicate (f + 1) (Value.int .u8 0)) 168)] w) (fun i n => [(4, I (i : Int)), (0, U n)]) N 0 N rfl (by (repeat (first | exact Str.nil _ | apply Str.drop rfl | apply Str.keepU rfl | apply Str.keep rfl))) ⟨rfl, 9, [], rfl, rfl, rfl, by omega, hN, hSt⟩ (by (repeat (first | exact Sub.nil _ | refine Sub.cons rfl ?_))) ?_
  clear hSt
  rintro k i n w ⟨hk, f, pre, hpre, hlen, hf, hn, hnl, hSt⟩ K hK
  have hset : ∀ b : UInt8, (bcs pre ++ List.replicate (f + 1) (Value.int .u8 0)).set (0 + ((i : Nat) : Int).toNat * 1) (.int .u8 b.toNat) = bcs (pre ++ [b]) ++ List.replicate f (Value.int .u8 0) := by
    intro b
    rw [show 0 + ((i : Nat) : Int).toNat * 1 = pre.length by omega]; exact bset pre f b
  have hbl : Nat.blt (0 + ((i : Nat) : Int).toNat * 1) (bcs pre ++ List.replicate (f + 1) (Value.int .u8 0)).length = true := by
    rw [Nat.blt_eq, List.length_append, bcs_len, List.length_replicate]; omega
  by_cases h128 : 128 ≤ n
  · obtain ⟨g, rfl⟩ : ∃ g, f = g + 1 := by
      cases f with
      | zero => simp at hn; omega
      | succ g => exact ⟨g, rfl⟩
    have hv : Y (modB n ||| 128) = .int .u8 (vByte n).toNat := by
      rw [vByte_nat, or128 _ (Nat.mod_lt _ (by omega))]
      show Y (128 + n % 256 % 128) = _
      rw [show n % 256 % 128 = n % 128 by omega]
    have hm : modB n < 256 := Nat.mod_lt _ (by omega)
    repeat' (first | (apply WL_ev rfl rfl; exact Ev_conv_byte hT (n) rfl rfl rfl rfl) | (apply WL_ev rfl rfl; exact Ev_as (Ev_orY (modB n) 128 rfl rfl rfl rfl hm (by omega)) hv) | (apply WL_ev rfl rfl; exact Ev_indexAddrArr hT rfl rfl rfl (by omega) (by omega)) | (apply WL_ev rfl rfl; exact Ev_as (v2 := U (n / 128)) (Ev_shrU n 7 rfl rfl rfl rfl (by omega)) rfl) | (refine WL_store1 hT rfl rfl 0 rfl rfl hSt rfl rfl hbl ?_; clear hSt; intro w hSt; dsimp only [List.set] at hSt; rw [hset] at hSt) | refine stepA ?_ | (refine stepS ?_; clear hSt; intro w hSt; dsimp only [spl, List.set] at hSt) | (refine stepB ?_; clear hSt; intro w nb hnb hSt; dsimp only [zcells, List.nil_append, List.cons_append] at hSt) | (refine stepG ?_ ?_ <;> intro hc <;> (try exact absA) <;> (fail_if_success (change true = true at hc)) <;> (fail_if_success (change false = false at hc))) | fail)
    refine At_loop2 hK (k' := n / 128) (i + 1) (n / 128) (by omega) ⟨rfl, g, pre ++ [vByte n], ?_, ?_, by omega, ?_, by omega, hSt⟩ (by (repeat (first | exact Sub.nil _ | refine Sub.cons rfl ?_)))
    · rw [hpre, uvG, if_neg (by omega), List.append_assoc]; rfl
    · rw [List.length_append, List.length_singleton, hlen]
    · rw [Nat.pow_succ] at hn; omega
  · have hv : Y (modB n) = .int .u8 (UInt8.ofNat n).toNat := by
      rw [low_nat (by omega)]
      show Y (n % 256) = _
      rw [Nat.mod_eq_of_lt (by omega)]
    have hres : uvF N = pre ++ [UInt8.ofNat n] := by
      rw [hpre]
      congr 1
      cases f with
      | zero => rfl
      | succ g => rw [uvG, if_pos (by omega)]
    have hl1 : (pre ++ [UInt8.ofNat n]).length = i + 1 := by rw [List.length_append, List.length_singleton, hlen]
    have hsl : Value.slice (some ⟨nb, 0 + ((0 : Nat) : Int).toNat * 1, none⟩) ((((i : Nat) : Int) + 1).toNat - ((0 : Nat) : Int).toNat) (10 - ((0 : Nat) : Int).toNat) = Value.slice (some ⟨nb, 0, none⟩) (pre ++ [UInt8.ofNat n]).length 10 := by
      rw [hl1]; congr 1
    have hb1 : ((bcs (pre ++ [UInt8.ofNat n]) ++ List.replicate f (Value.int .u8 0)).drop 0).take (pre ++ [UInt8.ofNat n]).length = (pre ++ [UInt8.ofNat n]).map (fun c => Value.int .u8 c.toNat) := by
      rw [List.drop_zero, List.take_left' (bcs_len _)]
    rw [hres]
    repeat' (first | (apply WL_ev rfl rfl; exact Ev_as (Ev_conv_byte hT n rfl rfl rfl rfl) hv) | (apply WL_ev rfl rfl; exact Ev_indexAddrArr hT rfl rfl rfl (by omega) (by omega)) | (apply WL_ev rfl rfl; exact Ev_as (Ev_sliceArr hT rfl rfl rfl rfl (by omega) (by omega) (by omega) (by omega)) hsl) | (apply WL_ev rfl rfl; exact Ev_bytesStr hT rfl rfl rfl rfl (hSt.own 0 _ _ rfl).1 hb1) | (refine WL_store1 hT rfl rfl 0 rfl rfl hSt rfl rfl hbl ?_; clear hSt; intro w hSt; dsimp only [List.set] at hSt; rw [hset] at hSt) | refine stepA ?_ | (refine stepS ?_; clear hSt; intro w hSt; dsimp only [spl, List.set] at hSt) | (refine stepB ?_; clear hSt; intro w nb hnb hSt; dsimp only [zcells, List.nil_append, List.cons_append] at hSt) | (refine stepG ?_ ?_ <;> intro hc <;> (try exact absA) <;> (fail_if_success (change true = true at hc)) <;> (fail_if_success (change false = false at hc))) | fail)
    exact ret1 rfl rfl ⟨rfl, hSt.nil⟩
theorem text_any {w0 : World} (s : List UInt8) (hs : s.length ≤ 140737488355328) : Cl Tryz.prog 99 [S s] w0 (fun v w' => v = S (textF s) ∧ St w0 NoneS [] w') := by
  have hSt := St.refl w0 NoneS
  have hl := (uvG_len 9 s.length).2
  unfold textF
  have hl2 : (uvF s.length).length ≤ 10 := hl
  refine enter Tryz.func99 rfl Tryz.ntmps99 rfl ?_
  repeat' (first | (refine WL_isCall (f := 108) ?_; refine WL_call (ok_call hT rfl) rfl rfl rfl (uint_any _ (show s.length < 18446744073709551616 by omega)) ?_; rintro v w' ⟨rfl, hc2⟩; replace hSt := hSt.call0 hc2; clear hc2) | (apply WL_ev rfl rfl; exact Ev_convU hT s.length rfl rfl rfl rfl (by omega)) | (apply WL_ev rfl rfl; exact Ev_str_add rfl rfl (by simp only [List.length_append, List.length_cons, List.length_nil, leB_length]; omega)) | refine stepA ?_ | (refine stepS ?_; clear hSt; intro w hSt; dsimp only [spl, List.set] at hSt) | (refine stepB ?_; clear hSt; intro w nb hnb hSt; dsimp only [zcells, List.nil_append, List.cons_append] at hSt) | (refine stepG ?_ ?_ <;> intro hc <;> (try exact absA) <;> (fail_if_success (change true = true at hc)) <;> (fail_if_success (change false = false at hc))) | fail)
  exact ret1 rfl rfl ⟨rfl, hSt⟩
theorem textF_len (s : List UInt8) : (textF s).length ≤ 10 + s.length := by
  have hl := (uvG_len 9 s.length).2
  have hl2 : (uvF s.length).length ≤ 10 := hl
  rw [textF, List.length_append]; omega
theorem frame_any {w0 : World} (hD : Deb w0) (p : Nat) (hp : p < 18446744073709551616) (s : List UInt8) (hs : s.length ≤ 140737488355328) : Cl Tryz.prog 88 [U p, S s] w0 (fun v w' => v = S (frameF p s) ∧ St w0 NoneS [] w') := by
  have hSt := St.refl w0 NoneS
  have hl := textF_len s
  have hc := chainF_lt p s
  unfold frameF
  refine enter Tryz.func88 rfl Tryz.ntmps88 rfl ?_
  repeat' (first | (refine WL_isCall (f := 99) ?_; refine WL_call (ok_call hT rfl) rfl rfl rfl (text_any _ hs) ?_; rintro v w' ⟨rfl, hc2⟩; replace hSt := hSt.call0 hc2; clear hc2) | (refine WL_isCall (f := 68) ?_; refine WL_call (ok_call hT rfl) rfl rfl rfl (chain_any _ hp _ hs) ?_; rintro v w' ⟨rfl, hc2⟩; replace hSt := hSt.call0 hc2; clear hc2) | (refine WL_isCall (f := 81) ?_; refine WL_call (ok_call hT rfl) rfl rfl rfl (little_any (hD.later hSt (fun e => e)) _ hc) ?_; rintro v w' ⟨rfl, hc2⟩; replace hSt := hSt.call0 hc2; clear hc2) | (apply WL_ev rfl rfl; exact Ev_str_add rfl rfl (by simp only [List.length_append, List.length_cons, List.length_nil, leB_length]; omega)) | refine stepA ?_ | (refine stepS ?_; clear hSt; intro w hSt; dsimp only [spl, List.set] at hSt) | (refine stepB ?_; clear hSt; intro w nb hnb hSt; dsimp only [zcells, List.nil_append, List.cons_append] at hSt) | (refine stepG ?_ ?_ <;> intro hc <;> (try exact absA) <;> (fail_if_success (change true = true at hc)) <;> (fail_if_success (change false = false at hc))) | fail)
  exact ret1 rfl rfl ⟨rfl, hSt⟩

/-! ## The specification's -/
abbrev rB (n : Nat) : Nat := n % 128
end Go.Proofs.YthkimkgphaiagaaGreatDoor
