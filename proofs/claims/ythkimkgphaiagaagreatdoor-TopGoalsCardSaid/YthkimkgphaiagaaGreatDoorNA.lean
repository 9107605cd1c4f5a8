/- The client's goals and its map: what finding a goal returns, and what the goals' own methods do. No conditions. -/
import Derived.Test.YthkimkgphaiagaaGreatDoorMC

namespace Go.Proofs.YthkimkgphaiagaaGreatDoor
open Go.RowKit
set_option maxRecDepth 4000
set_option linter.unusedVariables false
set_option linter.unusedSimpArgs false
open Go.MapKept (IsKey run_checkKey run_findKey run_setObj_map heap_set)
set_option maxHeartbeats 1000000

structure Ce where
  req : List UInt8
  res : List UInt8
  st : Int
  fb : Int
  next : Int
  canc : Bool
  ncanc : Int
abbrev Ce.cells (g : Ce) : List Value := [S g.req, S g.res, I g.st, I g.fb, I g.next, B g.canc, I g.ncanc]
abbrev Ce.obj (g : Ce) : Obj := blk g.cells 96
def Ce.reject (g : Ce) : Int × Ce := if g.st = 0 then (0, { g with st := 7 }) else if g.st = 7 then (0, g) else (24, g)
def Ce.end_ (g : Ce) (st : Int) (res : List UInt8) : Int × Ce := if g.st < 4 then (0, { g with st := st, res := res }) else if g.st ≠ st ∨ g.res ≠ res then (24, g) else (0, g)

/-- the map's entries: numbers from k + 1 on, each with its goal's block -/
def ents : Nat → List Nat → List MapEntry
  | _, [] => []
  | k, b :: bs => { key := I ((k : Int) + 1), val := Ptr b, born := k } :: ents (k + 1) bs
theorem ents_push (b : Nat) : ∀ (bs : List Nat) (k : Nat), ents k bs ++ [{ key := I (((k + bs.length : Nat) : Int) + 1), val := Ptr b, born := k + bs.length }] = ents k (bs ++ [b])
  | [], k => rfl
  | c :: bs, k => by
    have := ents_push b bs (k + 1)
    simp only [ents, List.cons_append, List.length_cons]
    rw [← this, show k + 1 + bs.length = k + (bs.length + 1) by omega]
theorem findNow_in (n : Int) : ∀ (bs : List Nat) (k j : Nat) (i b : Nat), bs[i]? = some b → n = (k : Int) + i + 1 → Instr.findNow (.int .i64) (I n) (ents k bs) j = some (some (j + i, Ptr b))
  | [], k, j, i, b, h, _ => by simp at h
  | c :: bs, k, j, i, b, h, hn => by
    cases i with
    | zero =>
      simp at h; subst h
      have : n = (k : Int) + 1 := by omega
      simp [ents, Instr.findNow, Instr.sameNow, this]
    | succ i =>
      have hne : (n == (k : Int) + 1) = false := by simp; omega
      have := findNow_in n bs (k + 1) (j + 1) i b (by simpa using h) (by omega)
      simp only [ents, Instr.findNow, Instr.sameNow, if_true, hne, this]
      congr 3; omega
theorem findNow_out (n : Int) : ∀ (bs : List Nat) (k j : Nat), (n ≤ k ∨ (k : Int) + bs.length < n) → Instr.findNow (.int .i64) (I n) (ents k bs) j = some none
  | [], k, j, _ => rfl
  | c :: bs, k, j, h => by
    simp only [List.length_cons] at h
    have hne : (n == (k : Int) + 1) = false := by simp; omega
    have := findNow_out n bs (k + 1) (j + 1) (by omega)
    simp only [ents, Instr.findNow, Instr.sameNow, if_true, hne, this]

theorem ended_any {w : World} {b : Nat} {q r : List UInt8} {st fb nx nc : Int} {cn : Bool} (hb : w.heap[b]? = some (blk [S q, S r, I st, I fb, I nx, B cn, I nc] 96)) : Cl Tryz.prog 43 [Ptr b] w (fun v w' => v = B (decide (4 ≤ st)) ∧ St w NoneS [] w') := by
  have hSt := St.refl w NoneS
  refine enter Tryz.func43 rfl Tryz.ntmps43 rfl ?_
  repeat' (first | (apply WL_ev rfl rfl; exact Ev_load1 hT rfl rfl (hSt.base hb (fun e => e)) rfl) | refine stepA ?_ | (refine stepS ?_; clear hSt; intro w hSt; dsimp only [spl, List.set] at hSt) | (refine stepB ?_; clear hSt; intro w nb hnb hSt; dsimp only [zcells, List.nil_append, List.cons_append] at hSt) | (refine W_quiet hT (by decide +kernel) hSt ?_; clear hSt; (repeat' (first | (apply QL_ev rfl rfl; (intro w hSt; (first | (exact Ev_load1 hT rfl rfl (hSt.base hb (fun e => e)) rfl) | exact Ev_auto))) | refine QL_pass rfl rfl ?_ | (refine QL_guardP rfl rfl (fun hc => ?_) (fun hc => ?_) <;> try exact absA) | (refine QL_guard rfl rfl (fun hc => ?_) (fun hc => ?_) <;> (try exact absA) <;> (fail_if_success (change true = true at hc)) <;> (fail_if_success (change false = false at hc))))); all_goals (refine QL_nil (fun w hSt => ?_))) | (refine stepG ?_ ?_ <;> intro hc <;> (try exact absA) <;> (fail_if_success (change true = true at hc)) <;> (fail_if_success (change false = false at hc))) | fail)
  exact ret1 rfl rfl ⟨rfl, hSt⟩
theorem valid_any {w : World} (n : Int) : Cl Tryz.prog 41 [I n] w (fun v w' => v = B (decide (0 ≤ n ∧ n ≤ 1099511627776)) ∧ St w NoneS [] w') := by
  have hSt := St.refl w NoneS
  refine enter Tryz.func41 rfl Tryz.ntmps41 rfl ?_
  repeat' (first | refine stepA ?_ | (refine stepS ?_; clear hSt; intro w hSt; dsimp only [spl, List.set] at hSt) | (refine stepB ?_; clear hSt; intro w nb hnb hSt; dsimp only [zcells, List.nil_append, List.cons_append] at hSt) | (refine W_quiet hT (by decide +kernel) hSt ?_; clear hSt; (repeat' (first | (apply QL_ev rfl rfl; (intro w hSt; (first | exact Ev_auto))) | refine QL_pass rfl rfl ?_ | (refine QL_guardP rfl rfl (fun hc => ?_) (fun hc => ?_) <;> try exact absA) | (refine QL_guard rfl rfl (fun hc => ?_) (fun hc => ?_) <;> (try exact absA) <;> (fail_if_success (change true = true at hc)) <;> (fail_if_success (change false = false at hc))))); all_goals (refine QL_nil (fun w hSt => ?_))) | (refine stepG ?_ ?_ <;> intro hc <;> (try exact absA) <;> (fail_if_success (change true = true at hc)) <;> (fail_if_success (change false = false at hc))) | fail)
  all_goals refine ret1 rfl rfl ⟨?_, hSt⟩
  · simp [hc]
  · simp [hc]
theorem reject_any {w : World} {b : Nat} {q r : List UInt8} {st fb nx nc : Int} {cn : Bool} (hb : w.heap[b]? = some (blk [S q, S r, I st, I fb, I nx, B cn, I nc] 96)) : Cl Tryz.prog 50 [Ptr b] w (fun v w' => v = I (Ce.mk q r st fb nx cn nc).reject.1 ∧ St w (· = b) [(b, (Ce.mk q r st fb nx cn nc).reject.2.obj)] w') := by
  have hSt := (St.refl w (· = b)).know hb (Or.inl rfl) (by simp)
  dsimp only [List.nil_append, List.cons_append] at hSt
  by_cases h0 : st = 0
  · rw [show (Ce.mk q r st fb nx cn nc).reject = (0, ⟨q, r, 7, fb, nx, cn, nc⟩) by simp [Ce.reject, h0]]
    refine enter Tryz.func50 rfl Tryz.ntmps50 rfl ?_
    repeat' (first | refine stepA ?_ | (refine stepS ?_; clear hSt; intro w hSt; dsimp only [spl, List.set] at hSt) | (refine stepB ?_; clear hSt; intro w nb hnb hSt; dsimp only [zcells, List.nil_append, List.cons_append] at hSt) | (refine W_quiet hT (by decide +kernel) hSt ?_; clear hSt; (repeat' (first | (apply QL_ev rfl rfl; (intro w hSt; (first | exact Ev_auto))) | refine QL_pass rfl rfl ?_ | (refine QL_guardP rfl rfl (fun hc => ?_) (fun hc => ?_) <;> try exact absA) | (refine QL_guard rfl rfl (fun hc => ?_) (fun hc => ?_) <;> (try exact absA) <;> (fail_if_success (change true = true at hc)) <;> (fail_if_success (change false = false at hc))))); all_goals (refine QL_nil (fun w hSt => ?_))) | (refine stepG ?_ ?_ <;> intro hc <;> (try exact absA) <;> (fail_if_success (change true = true at hc)) <;> (fail_if_success (change false = false at hc))) | fail)
    exact ret1 rfl rfl ⟨rfl, hSt⟩
  · by_cases h7 : st = 7
    · rw [show (Ce.mk q r st fb nx cn nc).reject = (0, ⟨q, r, st, fb, nx, cn, nc⟩) by simp [Ce.reject, h7]]
      refine enter Tryz.func50 rfl Tryz.ntmps50 rfl ?_
      repeat' (first | refine stepA ?_ | (refine stepS ?_; clear hSt; intro w hSt; dsimp only [spl, List.set] at hSt) | (refine stepB ?_; clear hSt; intro w nb hnb hSt; dsimp only [zcells, List.nil_append, List.cons_append] at hSt) | (refine W_quiet hT (by decide +kernel) hSt ?_; clear hSt; (repeat' (first | (apply QL_ev rfl rfl; (intro w hSt; (first | exact Ev_auto))) | refine QL_pass rfl rfl ?_ | (refine QL_guardP rfl rfl (fun hc => ?_) (fun hc => ?_) <;> try exact absA) | (refine QL_guard rfl rfl (fun hc => ?_) (fun hc => ?_) <;> (try exact absA) <;> (fail_if_success (change true = true at hc)) <;> (fail_if_success (change false = false at hc))))); all_goals (refine QL_nil (fun w hSt => ?_))) | (refine stepG ?_ ?_ <;> intro hc <;> (try exact absA) <;> (fail_if_success (change true = true at hc)) <;> (fail_if_success (change false = false at hc))) | fail)
      exact ret1 rfl rfl ⟨rfl, hSt⟩
    · rw [show (Ce.mk q r st fb nx cn nc).reject = (24, ⟨q, r, st, fb, nx, cn, nc⟩) by simp [Ce.reject, h0, h7]]
      refine enter Tryz.func50 rfl Tryz.ntmps50 rfl ?_
      repeat' (first | refine stepA ?_ | (refine stepS ?_; clear hSt; intro w hSt; dsimp only [spl, List.set] at hSt) | (refine stepB ?_; clear hSt; intro w nb hnb hSt; dsimp only [zcells, List.nil_append, List.cons_append] at hSt) | (refine W_quiet hT (by decide +kernel) hSt ?_; clear hSt; (repeat' (first | (apply QL_ev rfl rfl; (intro w hSt; (first | exact Ev_auto))) | refine QL_pass rfl rfl ?_ | (refine QL_guardP rfl rfl (fun hc => ?_) (fun hc => ?_) <;> try exact absA) | (refine QL_guard rfl rfl (fun hc => ?_) (fun hc => ?_) <;> (try exact absA) <;> (fail_if_success (change true = true at hc)) <;> (fail_if_success (change false = false at hc))))); all_goals (refine QL_nil (fun w hSt => ?_))) | (refine stepG ?_ ?_ <;> intro hc <;> (try exact absA) <;> (fail_if_success (change true = true at hc)) <;> (fail_if_success (change false = false at hc))) | fail)
      exact ret1 rfl rfl ⟨rfl, hSt⟩
theorem cend_any {w : World} {b : Nat} {q r : List UInt8} {st fb nx nc : Int} {cn : Bool} (hb : w.heap[b]? = some (blk [S q, S r, I st, I fb, I nx, B cn, I nc] 96)) (st2 : Int) (res : List UInt8) :
    Cl Tryz.prog 51 [Ptr b, I st2, S res] w (fun v w' => v = I ((Ce.mk q r st fb nx cn nc).end_ st2 res).1 ∧ St w (· = b) [(b, ((Ce.mk q r st fb nx cn nc).end_ st2 res).2.obj)] w') := by
  have hSt := (St.refl w (· = b)).know hb (Or.inl rfl) (by simp)
  dsimp only [List.nil_append, List.cons_append] at hSt
  refine enter Tryz.func51 rfl Tryz.ntmps51 rfl ?_
  repeat' (first | refine stepA ?_ | (refine stepS ?_; clear hSt; intro w hSt; dsimp only [spl, List.set] at hSt) | (refine stepB ?_; clear hSt; intro w nb hnb hSt; dsimp only [zcells, List.nil_append, List.cons_append] at hSt) | (refine W_quiet hT (by decide +kernel) hSt ?_; clear hSt; (repeat' (first | (apply QL_ev rfl rfl; (intro w hSt; (first | exact Ev_auto))) | refine QL_pass rfl rfl ?_ | (refine QL_guardP rfl rfl (fun hc => ?_) (fun hc => ?_) <;> try exact absA) | (refine QL_guard rfl rfl (fun hc => ?_) (fun hc => ?_) <;> (try exact absA) <;> (fail_if_success (change true = true at hc)) <;> (fail_if_success (change false = false at hc))))); all_goals (refine QL_nil (fun w hSt => ?_))) | (refine stepG ?_ ?_ <;> intro hc <;> (try exact absA) <;> (fail_if_success (change true = true at hc)) <;> (fail_if_success (change false = false at hc))) | fail)
  refine WL_call (ok_call hT rfl) rfl rfl rfl (ended_any (hSt.at 0 rfl)) ?_
  rintro v w' ⟨rfl, hc2⟩
  replace hSt := hSt.call0 hc2
  by_cases h4 : st < 4
  · rw [show (Ce.mk q r st fb nx cn nc).end_ st2 res = (0, ⟨q, res, st2, fb, nx, cn, nc⟩) by simp [Ce.end_, h4], show decide (4 ≤ st) = false by simp; omega]
    repeat' (first | refine stepA ?_ | (refine stepS ?_; clear hSt; intro w hSt; dsimp only [spl, List.set] at hSt) | (refine stepB ?_; clear hSt; intro w nb hnb hSt; dsimp only [zcells, List.nil_append, List.cons_append] at hSt) | (refine W_quiet hT (by decide +kernel) hSt ?_; clear hSt; (repeat' (first | (apply QL_ev rfl rfl; (intro w hSt; (first | exact Ev_auto))) | refine QL_pass rfl rfl ?_ | (refine QL_guardP rfl rfl (fun hc => ?_) (fun hc => ?_) <;> try exact absA) | (refine QL_guard rfl rfl (fun hc => ?_) (fun hc => ?_) <;> (try exact absA) <;> (fail_if_success (change true = true at hc)) <;> (fail_if_success (change false = false at hc))))); all_goals (refine QL_nil (fun w hSt => ?_))) | (refine stepG ?_ ?_ <;> intro hc <;> (try exact absA) <;> (fail_if_success (change true = true at hc)) <;> (fail_if_success (change false = false at hc))) | fail)
    exact ret1 rfl rfl ⟨rfl, hSt⟩
  · rw [show decide (4 ≤ st) = true by simp; omega]
    by_cases h5 : st ≠ st2 ∨ r ≠ res
    · rw [show (Ce.mk q r st fb nx cn nc).end_ st2 res = (24, ⟨q, r, st, fb, nx, cn, nc⟩) by simp only [Ce.end_, if_neg h4, if_pos h5]]
      repeat' (first | refine stepA ?_ | (refine stepS ?_; clear hSt; intro w hSt; dsimp only [spl, List.set] at hSt) | (refine stepB ?_; clear hSt; intro w nb hnb hSt; dsimp only [zcells, List.nil_append, List.cons_append] at hSt) | (refine W_quiet hT (by decide +kernel) hSt ?_; clear hSt; (repeat' (first | (apply QL_ev rfl rfl; (intro w hSt; (first | exact Ev_auto))) | refine QL_pass rfl rfl ?_ | (refine QL_guardP rfl rfl (fun hc => ?_) (fun hc => ?_) <;> try exact absA) | (refine QL_guard rfl rfl (fun hc => ?_) (fun hc => ?_) <;> (try exact absA) <;> (fail_if_success (change true = true at hc)) <;> (fail_if_success (change false = false at hc))))); all_goals (refine QL_nil (fun w hSt => ?_))) | (refine stepG ?_ ?_ <;> intro hc <;> (try exact absA) <;> (fail_if_success (change true = true at hc)) <;> (fail_if_success (change false = false at hc))) | fail)
      all_goals first
        | exact ret1 rfl rfl ⟨rfl, hSt⟩
        | (exfalso; simp_all; done)
    · rw [show (Ce.mk q r st fb nx cn nc).end_ st2 res = (0, ⟨q, r, st, fb, nx, cn, nc⟩) by simp only [Ce.end_, if_neg h4, if_neg h5]]
      repeat' (first | refine stepA ?_ | (refine stepS ?_; clear hSt; intro w hSt; dsimp only [spl, List.set] at hSt) | (refine stepB ?_; clear hSt; intro w nb hnb hSt; dsimp only [zcells, List.nil_append, List.cons_append] at hSt) | (refine W_quiet hT (by decide +kernel) hSt ?_; clear hSt; (repeat' (first | (apply QL_ev rfl rfl; (intro w hSt; (first | exact Ev_auto))) | refine QL_pass rfl rfl ?_ | (refine QL_guardP rfl rfl (fun hc => ?_) (fun hc => ?_) <;> try exact absA) | (refine QL_guard rfl rfl (fun hc => ?_) (fun hc => ?_) <;> (try exact absA) <;> (fail_if_success (change true = true at hc)) <;> (fail_if_success (change false = false at hc))))); all_goals (refine QL_nil (fun w hSt => ?_))) | (refine stepG ?_ ?_ <;> intro hc <;> (try exact absA) <;> (fail_if_success (change true = true at hc)) <;> (fail_if_success (change false = false at hc))) | fail)
      all_goals first
        | exact ret1 rfl rfl ⟨rfl, hSt⟩
        | (exfalso; simp_all; done)

/-- the client's own block -/
abbrev cliO (num retry last : Int) (mb : Nat) : Obj := blk [I num, I retry, I last, .map (some mb)] 89
abbrev mapO (bs : List Nat) : Obj := .map ⟨ents 0 bs⟩ bs.length
theorem find_in {w : World} {cb mb : Nat} {num retry last n : Int} {bs : List Nat} (hc : w.heap[cb]? = some (cliO num retry last mb)) (hm : w.heap[mb]? = some (mapO bs)) {i b : Nat} (hi : bs[i]? = some b) (hn : n = (i : Int) + 1) :
    Cl Tryz.prog 42 [Ptr cb, I n] w (fun v w' => v = Ptr b ∧ St w NoneS [] w') := by
  have hSt := St.refl w NoneS
  refine enter Tryz.func42 rfl Tryz.ntmps42 rfl ?_
  repeat' (first | (apply WL_ev rfl rfl; exact Ev_load1 hT rfl rfl (hSt.base hc (fun e => e)) rfl) | (apply WL_ev rfl rfl; exact Ev_lookup Tryz.underlying87 Tryz.underlying3 (by simp [IsKey]) rfl rfl (hSt.base hm (fun e => e)) (findNow_in n bs 0 0 i b hi (by omega))) | refine stepA ?_ | (refine stepS ?_; clear hSt; intro w hSt; dsimp only [spl, List.set] at hSt) | (refine stepB ?_; clear hSt; intro w nb hnb hSt; dsimp only [zcells, List.nil_append, List.cons_append] at hSt) | (refine W_quiet hT (by decide +kernel) hSt ?_; clear hSt; (repeat' (first | (apply QL_ev rfl rfl; (intro w hSt; (first | (exact Ev_load1 hT rfl rfl (hSt.base hc (fun e => e)) rfl) | (exact Ev_lookup Tryz.underlying87 Tryz.underlying3 (by simp [IsKey]) rfl rfl (hSt.base hm (fun e => e)) (findNow_in n bs 0 0 i b hi (by omega))) | exact Ev_auto))) | refine QL_pass rfl rfl ?_ | (refine QL_guardP rfl rfl (fun hc => ?_) (fun hc => ?_) <;> try exact absA) | (refine QL_guard rfl rfl (fun hc => ?_) (fun hc => ?_) <;> (try exact absA) <;> (fail_if_success (change true = true at hc)) <;> (fail_if_success (change false = false at hc))))); all_goals (refine QL_nil (fun w hSt => ?_))) | (refine stepG ?_ ?_ <;> intro hc <;> (try exact absA) <;> (fail_if_success (change true = true at hc)) <;> (fail_if_success (change false = false at hc))) | fail)
  exact ret1 rfl rfl ⟨rfl, hSt⟩
theorem find_out {w : World} {cb mb : Nat} {num retry last n : Int} {bs : List Nat} (hc : w.heap[cb]? = some (cliO num retry last mb)) (hm : w.heap[mb]? = some (mapO bs)) (hn : n < 1 ∨ (bs.length : Int) < n) :
    Cl Tryz.prog 42 [Ptr cb, I n] w (fun v w' => v = .pointer none ∧ St w NoneS [] w') := by
  have hSt := St.refl w NoneS
  refine enter Tryz.func42 rfl Tryz.ntmps42 rfl ?_
  repeat' (first | (apply WL_ev rfl rfl; exact Ev_load1 hT rfl rfl (hSt.base hc (fun e => e)) rfl) | (apply WL_ev rfl rfl; exact Ev_lookup_none hT Tryz.underlying87 Tryz.underlying3 (by simp [IsKey]) rfl rfl rfl (hSt.base hm (fun e => e)) (findNow_out n bs 0 0 (by omega))) | refine stepA ?_ | (refine stepS ?_; clear hSt; intro w hSt; dsimp only [spl, List.set] at hSt) | (refine stepB ?_; clear hSt; intro w nb hnb hSt; dsimp only [zcells, List.nil_append, List.cons_append] at hSt) | (refine W_quiet hT (by decide +kernel) hSt ?_; clear hSt; (repeat' (first | (apply QL_ev rfl rfl; (intro w hSt; (first | (exact Ev_load1 hT rfl rfl (hSt.base hc (fun e => e)) rfl) | (exact Ev_lookup_none hT Tryz.underlying87 Tryz.underlying3 (by simp [IsKey]) rfl rfl rfl (hSt.base hm (fun e => e)) (findNow_out n bs 0 0 (by omega))) | exact Ev_auto))) | refine QL_pass rfl rfl ?_ | (refine QL_guardP rfl rfl (fun hc => ?_) (fun hc => ?_) <;> try exact absA) | (refine QL_guard rfl rfl (fun hc => ?_) (fun hc => ?_) <;> (try exact absA) <;> (fail_if_success (change true = true at hc)) <;> (fail_if_success (change false = false at hc))))); all_goals (refine QL_nil (fun w hSt => ?_))) | (refine stepG ?_ ?_ <;> intro hc <;> (try exact absA) <;> (fail_if_success (change true = true at hc)) <;> (fail_if_success (change false = false at hc))) | fail)
  exact ret1 rfl rfl ⟨rfl, hSt⟩
end Go.Proofs.YthkimkgphaiagaaGreatDoor

namespace Go.Proofs.YthkimkgphaiagaaGreatDoor
open Go.RowKit
set_option maxRecDepth 4000
set_option linter.unusedVariables false
set_option linter.unusedSimpArgs false
set_option maxHeartbeats 1000000

/-- the client, its map, its goals -/
abbrev CH (cb mb : Nat) (bs : List Nat) (num retry : Int) (gs : List Ce) : List (Nat × Obj) := (cb, cliO num retry gs.length mb) :: (mb, mapO bs) :: List.zipWith (fun b (g : Ce) => (b, g.obj)) bs gs
theorem CH_at {cb mb : Nat} {bs : List Nat} {num retry : Int} {gs : List Ce} {i b : Nat} {g : Ce} (hb : bs[i]? = some b) (hg : gs[i]? = some g) : (CH cb mb bs num retry gs)[i + 2]? = some (b, g.obj) := by
  simp [List.getElem?_zipWith, hb, hg]
def cAt (gs : List Ce) (n : Int) : Option Ce := if n < 1 then none else gs[(n - 1).toNat]?
theorem cAt_some {gs : List Ce} {bs : List Nat} {n : Int} {g : Ce} (hl : bs.length = gs.length) (h : cAt gs n = some g) : ∃ (i b : Nat), bs[i]? = some b ∧ gs[i]? = some g ∧ n = (i : Int) + 1 := by
  unfold cAt at h
  split at h
  · cases h
  · have hi := (List.getElem?_eq_some_iff.1 h).1
    exact ⟨(n - 1).toNat, _, List.getElem?_eq_getElem (by omega), h, by omega⟩
theorem cAt_none {gs : List Ce} {bs : List Nat} {n : Int} (hl : bs.length = gs.length) (h : cAt gs n = none) : n < 1 ∨ (bs.length : Int) < n := by
  unfold cAt at h
  split at h
  · omega
  · rw [List.getElem?_eq_none_iff] at h; omega

theorem cstate_any {w0 : World} {cb mb : Nat} {bs : List Nat} {num retry : Int} {gs : List Ce} (hh : Has w0 (CH cb mb bs num retry gs)) (hl : bs.length = gs.length) (n : Int) :
    Cl Tryz.prog 21 [Ptr cb, I n] w0 (fun v w' => v = (match cAt gs n with | some g => .tuple ⟨[I g.st, I 0]⟩ | none => .tuple ⟨[I 0, I 6]⟩) ∧ St w0 NoneS [] w') := by
  have hSt := St.refl w0 NoneS
  have hcb := hh.own 0 _ _ rfl
  have hmb := hh.own 1 _ _ rfl
  cases hga : cAt gs n with
  | some g =>
    obtain ⟨i, b, hbi, hgi0, hn⟩ := cAt_some hl hga
    have hgb := hh.own _ _ _ (CH_at hbi hgi0)
    refine enter Tryz.func21 rfl Tryz.ntmps21 rfl ?_
    repeat' (first | (refine WL_call (ok_call hT rfl) rfl rfl rfl (find_in (hSt.base hcb (fun e => e)) (hSt.base hmb (fun e => e)) hbi hn) ?_; rintro v w' ⟨rfl, hc2⟩; replace hSt := hSt.call0 hc2; clear hc2) | (apply WL_ev rfl rfl; exact Ev_load1 hT rfl rfl (hSt.base hgb (fun e => e)) rfl) | refine stepA ?_ | (refine stepS ?_; clear hSt; intro w hSt; dsimp only [spl, List.set] at hSt) | (refine stepB ?_; clear hSt; intro w nb hnb hSt; dsimp only [zcells, List.nil_append, List.cons_append] at hSt) | (refine W_quiet hT (by decide +kernel) hSt ?_; clear hSt; (repeat' (first | (apply QL_ev rfl rfl; (intro w hSt; (first | (exact Ev_load1 hT rfl rfl (hSt.base hgb (fun e => e)) rfl) | exact Ev_auto))) | refine QL_pass rfl rfl ?_ | (refine QL_guardP rfl rfl (fun hc => ?_) (fun hc => ?_) <;> try exact absA) | (refine QL_guard rfl rfl (fun hc => ?_) (fun hc => ?_) <;> (try exact absA) <;> (fail_if_success (change true = true at hc)) <;> (fail_if_success (change false = false at hc))))); all_goals (refine QL_nil (fun w hSt => ?_))) | (refine stepG ?_ ?_ <;> intro hc <;> (try exact absA) <;> (fail_if_success (change true = true at hc)) <;> (fail_if_success (change false = false at hc))) | fail)
    exact ret2 rfl rfl rfl ⟨rfl, hSt⟩
  | none =>
    have hn := cAt_none hl hga
    refine enter Tryz.func21 rfl Tryz.ntmps21 rfl ?_
    repeat' (first | (refine WL_call (ok_call hT rfl) rfl rfl rfl (find_out (hSt.base hcb (fun e => e)) (hSt.base hmb (fun e => e)) hn) ?_; rintro v w' ⟨rfl, hc2⟩; replace hSt := hSt.call0 hc2; clear hc2) | refine stepA ?_ | (refine stepS ?_; clear hSt; intro w hSt; dsimp only [spl, List.set] at hSt) | (refine stepB ?_; clear hSt; intro w nb hnb hSt; dsimp only [zcells, List.nil_append, List.cons_append] at hSt) | (refine W_quiet hT (by decide +kernel) hSt ?_; clear hSt; (repeat' (first | (apply QL_ev rfl rfl; (intro w hSt; (first | exact Ev_auto))) | refine QL_pass rfl rfl ?_ | (refine QL_guardP rfl rfl (fun hc => ?_) (fun hc => ?_) <;> try exact absA) | (refine QL_guard rfl rfl (fun hc => ?_) (fun hc => ?_) <;> (try exact absA) <;> (fail_if_success (change true = true at hc)) <;> (fail_if_success (change false = false at hc))))); all_goals (refine QL_nil (fun w hSt => ?_))) | (refine stepG ?_ ?_ <;> intro hc <;> (try exact absA) <;> (fail_if_success (change true = true at hc)) <;> (fail_if_success (change false = false at hc))) | fail)
    exact ret2 rfl rfl rfl ⟨rfl, hSt⟩
def cresultOf : Option Ce → List UInt8 × Int
  | some g => if g.st < 4 then ([], 10) else (g.res, 0)
  | none => ([], 6)
theorem result_any {w0 : World} {cb mb : Nat} {bs : List Nat} {num retry : Int} {gs : List Ce} (hh : Has w0 (CH cb mb bs num retry gs)) (hl : bs.length = gs.length) (n : Int) :
    Cl Tryz.prog 22 [Ptr cb, I n] w0 (fun v w' => v = .tuple ⟨[S (cresultOf (cAt gs n)).1, I (cresultOf (cAt gs n)).2]⟩ ∧ St w0 NoneS [] w') := by
  have hSt := St.refl w0 NoneS
  have hcb := hh.own 0 _ _ rfl
  have hmb := hh.own 1 _ _ rfl
  cases hga : cAt gs n with
  | some g =>
    obtain ⟨i, b, hbi, hgi0, hn⟩ := cAt_some hl hga
    have hgb := hh.own _ _ _ (CH_at hbi hgi0)
    by_cases h4 : g.st < 4
    · rw [show cresultOf (some g) = ([], 10) by simp [cresultOf, h4]]
      refine enter Tryz.func22 rfl Tryz.ntmps22 rfl ?_
      repeat' (first | (refine WL_call (ok_call hT rfl) rfl rfl rfl (find_in (hSt.base hcb (fun e => e)) (hSt.base hmb (fun e => e)) hbi hn) ?_; rintro v w' ⟨rfl, hc2⟩; replace hSt := hSt.call0 hc2; clear hc2) | (apply WL_ev rfl rfl; exact Ev_load1 hT rfl rfl (hSt.base hgb (fun e => e)) rfl) | (refine WL_call (ok_call hT rfl) rfl rfl rfl (ended_any (hSt.base hgb (fun e => e))) ?_; rintro v w' ⟨rfl, hc2⟩; replace hSt := hSt.call0 hc2; clear hc2; (first | rw [decide_eq_false (by omega)] | rw [decide_eq_true (by omega)])) | refine stepA ?_ | (refine stepS ?_; clear hSt; intro w hSt; dsimp only [spl, List.set] at hSt) | (refine stepB ?_; clear hSt; intro w nb hnb hSt; dsimp only [zcells, List.nil_append, List.cons_append] at hSt) | (refine W_quiet hT (by decide +kernel) hSt ?_; clear hSt; (repeat' (first | (apply QL_ev rfl rfl; (intro w hSt; (first | (exact Ev_load1 hT rfl rfl (hSt.base hgb (fun e => e)) rfl) | exact Ev_auto))) | refine QL_pass rfl rfl ?_ | (refine QL_guardP rfl rfl (fun hc => ?_) (fun hc => ?_) <;> try exact absA) | (refine QL_guard rfl rfl (fun hc => ?_) (fun hc => ?_) <;> (try exact absA) <;> (fail_if_success (change true = true at hc)) <;> (fail_if_success (change false = false at hc))))); all_goals (refine QL_nil (fun w hSt => ?_))) | (refine stepG ?_ ?_ <;> intro hc <;> (try exact absA) <;> (fail_if_success (change true = true at hc)) <;> (fail_if_success (change false = false at hc))) | fail)
      exact ret2 rfl rfl rfl ⟨rfl, hSt⟩
    · rw [show cresultOf (some g) = (g.res, 0) by simp [cresultOf, h4]]
      refine enter Tryz.func22 rfl Tryz.ntmps22 rfl ?_
      repeat' (first | (refine WL_call (ok_call hT rfl) rfl rfl rfl (find_in (hSt.base hcb (fun e => e)) (hSt.base hmb (fun e => e)) hbi hn) ?_; rintro v w' ⟨rfl, hc2⟩; replace hSt := hSt.call0 hc2; clear hc2) | (apply WL_ev rfl rfl; exact Ev_load1 hT rfl rfl (hSt.base hgb (fun e => e)) rfl) | (refine WL_call (ok_call hT rfl) rfl rfl rfl (ended_any (hSt.base hgb (fun e => e))) ?_; rintro v w' ⟨rfl, hc2⟩; replace hSt := hSt.call0 hc2; clear hc2; (first | rw [decide_eq_false (by omega)] | rw [decide_eq_true (by omega)])) | refine stepA ?_ | (refine stepS ?_; clear hSt; intro w hSt; dsimp only [spl, List.set] at hSt) | (refine stepB ?_; clear hSt; intro w nb hnb hSt; dsimp only [zcells, List.nil_append, List.cons_append] at hSt) | (refine W_quiet hT (by decide +kernel) hSt ?_; clear hSt; (repeat' (first | (apply QL_ev rfl rfl; (intro w hSt; (first | (exact Ev_load1 hT rfl rfl (hSt.base hgb (fun e => e)) rfl) | exact Ev_auto))) | refine QL_pass rfl rfl ?_ | (refine QL_guardP rfl rfl (fun hc => ?_) (fun hc => ?_) <;> try exact absA) | (refine QL_guard rfl rfl (fun hc => ?_) (fun hc => ?_) <;> (try exact absA) <;> (fail_if_success (change true = true at hc)) <;> (fail_if_success (change false = false at hc))))); all_goals (refine QL_nil (fun w hSt => ?_))) | (refine stepG ?_ ?_ <;> intro hc <;> (try exact absA) <;> (fail_if_success (change true = true at hc)) <;> (fail_if_success (change false = false at hc))) | fail)
      exact ret2 rfl rfl rfl ⟨rfl, hSt⟩
  | none =>
    have hn := cAt_none hl hga
    refine enter Tryz.func22 rfl Tryz.ntmps22 rfl ?_
    repeat' (first | (refine WL_call (ok_call hT rfl) rfl rfl rfl (find_out (hSt.base hcb (fun e => e)) (hSt.base hmb (fun e => e)) hn) ?_; rintro v w' ⟨rfl, hc2⟩; replace hSt := hSt.call0 hc2; clear hc2) | refine stepA ?_ | (refine stepS ?_; clear hSt; intro w hSt; dsimp only [spl, List.set] at hSt) | (refine stepB ?_; clear hSt; intro w nb hnb hSt; dsimp only [zcells, List.nil_append, List.cons_append] at hSt) | (refine W_quiet hT (by decide +kernel) hSt ?_; clear hSt; (repeat' (first | (apply QL_ev rfl rfl; (intro w hSt; (first | exact Ev_auto))) | refine QL_pass rfl rfl ?_ | (refine QL_guardP rfl rfl (fun hc => ?_) (fun hc => ?_) <;> try exact absA) | (refine QL_guard rfl rfl (fun hc => ?_) (fun hc => ?_) <;> (try exact absA) <;> (fail_if_success (change true = true at hc)) <;> (fail_if_success (change false = false at hc))))); all_goals (refine QL_nil (fun w hSt => ?_))) | (refine stepG ?_ ?_ <;> intro hc <;> (try exact absA) <;> (fail_if_success (change true = true at hc)) <;> (fail_if_success (change false = false at hc))) | fail)
    exact ret2 rfl rfl rfl ⟨rfl, hSt⟩
end Go.Proofs.YthkimkgphaiagaaGreatDoor

namespace Go.Proofs.YthkimkgphaiagaaGreatDoor
open Go.RowKit
set_option linter.unusedVariables false
set_option linter.unusedSimpArgs false
set_option maxHeartbeats 1000000

def Ce.recv (g : Ce) (kind told : Int) (text : List UInt8) : Int × Ce :=
  if kind = 4 then g.reject
  else if kind = 6 ∨ kind = 7 ∨ kind = 8 then g.end_ (kind - 6 + 4) text
  else if g.st = 7 then (24, g)
  else if kind = 3 then (0, if g.st = 0 then { g with st := 1 } else g)
  else (0, if kind = 5 ∧ (if g.st = 0 ∨ g.st = 1 then 2 else g.st) < 4 ∧ g.fb < told then { g with st := if g.st = 0 ∨ g.st = 1 then 2 else g.st, fb := told } else { g with st := if g.st = 0 ∨ g.st = 1 then 2 else g.st })
def Ce.cancel (g : Ce) (at_ : Int) : Int × Ce := if g.st < 4 then (0, if g.canc then g else { g with canc := true, ncanc := at_ }) else (10, g)

/-- the numbers of the goals that have not ended -/
def copL : Int → List Ce → List Int
  | _, [] => []
  | k, g :: gs => if g.st < 4 then k :: copL (k + 1) gs else copL (k + 1) gs
theorem copL_snoc (g : Ce) : ∀ (gs : List Ce) (k : Int), copL k (gs ++ [g]) = copL k gs ++ if g.st < 4 then [k + gs.length] else []
  | [], k => by simp [copL]
  | x :: gs, k => by
    have := copL_snoc g gs (k + 1)
    simp only [List.cons_append, copL, this, List.length_cons]
    have e : k + 1 + (gs.length : Int) = k + ((gs.length + 1 : Nat) : Int) := by omega
    rw [e]
    split <;> simp
theorem copL_len : ∀ (gs : List Ce) (k : Int), (copL k gs).length ≤ gs.length
  | [], k => by simp [copL]
  | g :: gs, k => by
    have := copL_len gs (k + 1)
    simp only [copL, List.length_cons]
    split <;> simp <;> omega
theorem take_succ_of {α : Type} {l : List α} {i : Nat} {x : α} (h : l[i]? = some x) : l.take (i + 1) = l.take i ++ [x] := by
  rw [List.take_add_one, h]; rfl

def goal0 (text : List UInt8) (at_ : Int) : Ce := ⟨text, [], 0, 0, at_, false, 0⟩
/-- what Send returns: the goal's number (0: none), the error -/
def sendE (at_ : Int) (text : List UInt8) (gs : List Ce) : Int :=
  if ¬ (0 ≤ at_ ∧ at_ ≤ 1099511627776) then 17 else if 4000 < text.length then 3 else if 64 ≤ (copL 1 gs).length then 15 else 0
def sendG (at_ : Int) (text : List UInt8) (gs : List Ce) : List Ce := if sendE at_ text gs = 0 then gs ++ [goal0 text at_] else gs
def sendV (num at_ : Int) (text : List UInt8) (gs : List Ce) : Value := .tuple ⟨[.agg ⟨if sendE at_ text gs = 0 then [I num, I ((gs.length : Int) + 1)] else [I 0, I 0]⟩, I (sendE at_ text gs)]⟩

def msg (k num n : Int) (t : List UInt8) : List Value := [I k, I num, I n, I 0, S t]
def Ce.pm (g : Ce) (num at_ n : Int) : List Value := if g.st < 4 then (if g.next ≤ at_ then msg 1 num n g.req else []) ++ (if g.canc = true ∧ g.ncanc ≤ at_ then msg 2 num n [] else []) else []
def Ce.pc (g : Ce) (at_ : Int) : Nat := if g.st < 4 then (if g.next ≤ at_ then 1 else 0) + (if g.canc = true ∧ g.ncanc ≤ at_ then 1 else 0) else 0
def Ce.pg (g : Ce) (retry at_ : Int) : Ce := if g.st < 4 then ⟨g.req, g.res, g.st, g.fb, if g.next ≤ at_ then at_ + retry else g.next, g.canc, if g.canc = true ∧ g.ncanc ≤ at_ then at_ + retry else g.ncanc⟩ else g
/-- the messages' cells, and how many messages there are -/
def pollM (num at_ : Int) : Int → List Ce → List Value
  | _, [] => []
  | k, g :: gs => g.pm num at_ k ++ pollM num at_ (k + 1) gs
def pollC (at_ : Int) : List Ce → Nat
  | [] => 0
  | g :: gs => g.pc at_ + pollC at_ gs
def pollA (retry at_ : Int) (p : Nat) (gs : List Ce) : List Ce := (gs.take p).map (·.pg retry at_) ++ gs.drop p
theorem pollM_snoc (num at_ : Int) (g : Ce) : ∀ (gs : List Ce) (k : Int), pollM num at_ k (gs ++ [g]) = pollM num at_ k gs ++ g.pm num at_ (k + gs.length)
  | [], k => by simp [pollM]
  | x :: gs, k => by
    have := pollM_snoc num at_ g gs (k + 1)
    simp only [List.cons_append, pollM, this, List.length_cons, List.append_assoc]
    rw [show k + 1 + (gs.length : Int) = k + ((gs.length + 1 : Nat) : Int) by omega]
theorem pollC_snoc (at_ : Int) (g : Ce) : ∀ (gs : List Ce), pollC at_ (gs ++ [g]) = pollC at_ gs + g.pc at_
  | [] => by simp [pollC]
  | x :: gs => by simp only [List.cons_append, pollC, pollC_snoc at_ g gs]; omega
theorem pc_le (g : Ce) (at_ : Int) : g.pc at_ ≤ 2 := by unfold Ce.pc; split <;> (try split) <;> (try split) <;> omega
theorem pollC_le (at_ : Int) : ∀ (gs : List Ce), pollC at_ gs ≤ 2 * gs.length
  | [] => by simp [pollC]
  | g :: gs => by have := pollC_le at_ gs; have := pc_le g at_; simp only [pollC, List.length_cons]; omega
theorem pollA_len (retry at_ : Int) (p : Nat) (gs : List Ce) : (pollA retry at_ p gs).length = gs.length := by
  simp only [pollA, List.length_append, List.length_map, List.length_take, List.length_drop]; omega
theorem pollA_at {retry at_ : Int} {p i : Nat} {gs : List Ce} (h : p ≤ i) : (pollA retry at_ p gs)[i]? = gs[i]? := by
  rcases Nat.lt_or_ge i gs.length with hi | hi
  · rw [pollA, List.getElem?_append_right (by simp; omega), List.getElem?_drop]
    congr 1
    simp only [List.length_map, List.length_take]; omega
  · rw [List.getElem?_eq_none (by rw [pollA_len]; exact hi), List.getElem?_eq_none hi]
theorem pollA_succ {retry at_ : Int} {i : Nat} {gs : List Ce} {g : Ce} (h : gs[i]? = some g) : pollA retry at_ (i + 1) gs = (pollA retry at_ i gs).set i (g.pg retry at_) := by
  have hi := (List.getElem?_eq_some_iff.1 h).1
  have e : gs.drop i = g :: gs.drop (i + 1) := by rw [List.drop_eq_getElem_cons hi, (List.getElem?_eq_some_iff.1 h).2]
  rw [pollA, pollA, take_succ_of h, List.set_append_right _ _ (by simp; omega), e]
  have : i - (List.map (fun x => x.pg retry at_) (List.take i gs)).length = 0 := by simp; omega
  rw [this]
  simp
theorem pollA_same {retry at_ : Int} {i : Nat} {gs : List Ce} {g : Ce} (h : gs[i]? = some g) (he : ¬ g.st < 4) : pollA retry at_ (i + 1) gs = pollA retry at_ i gs := by
  rw [pollA_succ h, show g.pg retry at_ = g by simp [Ce.pg, he]]
  have h2 := pollA_at (retry := retry) (at_ := at_) (Nat.le_refl i) (gs := gs)
  rw [h] at h2
  apply List.ext_getElem?
  intro j
  rw [List.getElem?_set]
  split
  · rename_i e; subst e
    split
    · exact h2.symm
    · rename_i hj; exact absurd (List.getElem?_eq_some_iff.1 h2).1 hj
  · rfl
theorem pollA_skip {num retry at_ : Int} : ∀ (a : List Ce) {p : Nat} {gs rest : List Ce}, gs.drop p = a ++ rest → (∀ x ∈ a, ¬ x.st < 4) → pollA retry at_ (p + a.length) gs = pollA retry at_ p gs ∧ pollM num at_ 1 (gs.take (p + a.length)) = pollM num at_ 1 (gs.take p) ∧ pollC at_ (gs.take (p + a.length)) = pollC at_ (gs.take p)
  | [], p, gs, rest, _, _ => ⟨rfl, rfl, rfl⟩
  | x :: a, p, gs, rest, h, he => by
    have hx : gs[p]? = some x := by
      have := congrArg (·[0]?) h
      simpa [List.getElem?_drop] using this
    have hd : gs.drop (p + 1) = a ++ rest := by
      have := congrArg (List.drop 1) h
      simpa [List.drop_drop, Nat.add_comm] using this
    obtain ⟨h1, h2, h3⟩ := pollA_skip (num := num) (retry := retry) (at_ := at_) a hd (fun y hy => he y (List.mem_cons_of_mem _ hy))
    have hxe := he x List.mem_cons_self
    rw [List.length_cons, show p + (a.length + 1) = p + 1 + a.length by omega, h1, h2, h3, pollA_same hx hxe, take_succ_of hx, pollM_snoc, pollC_snoc]
    simp [Ce.pm, Ce.pc, hxe]
theorem copen_split {n : Int} {rest : List Int} : ∀ (l : List Ce) (k : Int), copL k l = n :: rest → ∃ a g b, l = a ++ g :: b ∧ (∀ x ∈ a, ¬ x.st < 4) ∧ g.st < 4 ∧ n = k + a.length ∧ copL (n + 1) b = rest
  | [], k, h => by simp [copL] at h
  | g :: l, k, h => by
    simp only [copL] at h
    split at h
    · rename_i hg
      injection h with h1 h2
      subst h1
      exact ⟨[], g, l, rfl, by simp, hg, by simp, h2⟩
    · rename_i hg
      obtain ⟨a, g', b, rfl, ha, hg', hn, hr⟩ := copen_split l (k + 1) h
      refine ⟨g :: a, g', b, rfl, ?_, hg', by simp only [List.length_cons]; omega, hr⟩
      intro x hx
      rcases List.mem_cons.1 hx with rfl | hx
      · exact hg
      · exact ha x hx
theorem copen_none : ∀ (l : List Ce) (k : Int), copL k l = [] → ∀ x ∈ l, ¬ x.st < 4
  | [], k, h => by simp
  | g :: l, k, h => by
    simp only [copL] at h
    split at h
    · cases h
    · rename_i hg
      intro x hx
      rcases List.mem_cons.1 hx with rfl | hx
      · exact hg
      · exact copen_none l _ h x hx

theorem perm4 {x : Nat × Obj} {A R HO H1 : List (Nat × Obj)} (h : List.Perm A (R ++ [x])) : List.Perm ((R ++ HO) ++ (x :: H1)) (A ++ HO ++ H1) := by
  refine List.Perm.trans ?_ ((h.append_right HO).append_right H1).symm
  rw [List.append_assoc, List.append_assoc, List.append_assoc]
  refine List.Perm.append_left R ?_
  exact List.perm_middle
theorem set_self {α : Type} {l : List α} {i : Nat} {x : α} (h : l[i]? = some x) : l.set i x = l := by
  apply List.ext_getElem?
  intro j
  rw [List.getElem?_set]
  split
  · rename_i e; subst e
    split
    · exact h.symm
    · rename_i hj; exact absurd (List.getElem?_eq_some_iff.1 h).1 hj
  · rfl

def recvF (num : Int) (gs : List Ce) (kind client number told : Int) (text : List UInt8) : Int × List Ce :=
  if kind < 3 ∨ 9 < kind then (4, gs) else if client ≠ num then (6, gs) else match cAt gs number with
    | some g => ((g.recv kind told text).1, gs.set (number - 1).toNat (g.recv kind told text).2)
    | none => (6, gs)
def cancF (gs : List Ce) (number at_ : Int) : Int × List Ce := match cAt gs number with
  | some g => if 0 ≤ at_ ∧ at_ ≤ 1099511627776 then ((g.cancel at_).1, gs.set (number - 1).toNat (g.cancel at_).2) else (17, gs)
  | none => (6, gs)

end Go.Proofs.YthkimkgphaiagaaGreatDoor
