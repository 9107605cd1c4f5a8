/- The server in memory; which goals it has. No conditions. -/
import Derived.Test.YthkimkgphaiagaaGreatDoorML
import Derived.Test.YthkimkgphaiagaaGreatDoorMJ
import Derived.Test.YthkimkgphaiagaaGreatDoorMC
import Derived.Test.YthkimkgphaiagaaGreatDoorMI
import Derived.Test.YthkimkgphaiagaaGreatDoorMK
import Derived.Test.YthkimkgphaiagaaGreatDoorMB

namespace Go.Proofs.YthkimkgphaiagaaGreatDoor
open Go.RowKit
set_option maxRecDepth 4000
set_option linter.unusedVariables false
set_option linter.unusedSimpArgs false
set_option maxHeartbeats 4000000

theorem findG_at {c n : Int} : ∀ {l : List Gl} {i : Nat} {x : Gl}, l[i]? = some x → (x.c = c ∧ x.n = n) → (∀ (j : Nat) (y : Gl), j < i → l[j]? = some y → ¬ (y.c = c ∧ y.n = n)) → findG l c n = some i
  | [], i, x, h, _, _ => by simp at h
  | y :: l, 0, x, h, hm, _ => by
    simp only [List.getElem?_cons_zero, Option.some.injEq] at h
    subst h
    simp [findG, List.findIdx?_cons, hm.1, hm.2]
  | y :: l, i + 1, x, h, hm, hno => by
    rw [List.getElem?_cons_succ] at h
    have h0 := hno 0 y (by omega) rfl
    have ih := findG_at h hm (fun j z hj hz => hno (j + 1) z (by omega) (by rw [List.getElem?_cons_succ]; exact hz))
    unfold findG at ih ⊢
    rw [List.findIdx?_cons, ih]
    have : (y.c == c && y.n == n) = false := by
      cases hq : (y.c == c && y.n == n) with
      | false => rfl
      | true => simp only [Bool.and_eq_true, beq_iff_eq] at hq; exact absurd hq h0
    rw [this]; rfl
theorem findG_none {c n : Int} {l : List Gl} (hno : ∀ (j : Nat) (y : Gl), l[j]? = some y → ¬ (y.c = c ∧ y.n = n)) : findG l c n = none := by
  unfold findG
  rw [List.findIdx?_eq_none_iff]
  intro y hy
  obtain ⟨j, hj⟩ := List.mem_iff_getElem?.1 hy
  cases hq : (y.c == c && y.n == n) with
  | false => rfl
  | true => simp only [Bool.and_eq_true, beq_iff_eq] at hq; exact absurd hq (hno j y hj)
theorem id_eq2 {a b c d : Int} (h : [I a, I b] = [I c, I d]) : a = c ∧ b = d := by
  injection h with h1 h2
  injection h2 with h2 _
  injection h1 with _ h1
  injection h2 with _ h2
  exact ⟨h1, h2⟩
def idxI (o : Option Nat) : Int := match o with | some i => (i : Int) | none => -1

/-! ## In memory -/
abbrev gC (g : Gl) : List Value := goC g.c g.n g.st g.at_ g.en g.rq g.rs
abbrev svO (bj : Nat) (gv ev : Value) (s : Sv) : Obj := blk [I s.pol, I s.lim, Ptr bj, gv, ev, I s.cur, I s.fb, B s.stop] 81
theorem in_any {w0 : World} (n a b : Int) : Cl Tryz.prog 26 [I n, I a, I b] w0 (fun v w' => v = B (decide (a ≤ n ∧ n ≤ b)) ∧ St w0 NoneS [] w') := by
  have hSt := St.refl w0 NoneS
  refine enter Tryz.func26 rfl Tryz.ntmps26 rfl ?_
  repeat' (first | refine stepA ?_ | (refine stepS ?_; clear hSt; intro w hSt; dsimp only [spl, List.set] at hSt) | (refine stepB ?_; clear hSt; intro w nb hnb hSt; dsimp only [zcells, List.nil_append, List.cons_append] at hSt) | (refine stepG ?_ ?_ <;> intro hc <;> (try exact absA) <;> (fail_if_success (change true = true at hc)) <;> (fail_if_success (change false = false at hc))) | fail)
  · refine ret1 rfl rfl ⟨?_, hSt⟩
    congr 1; simp only [decide_eq_decide]; omega
  · refine ret1 rfl rfl ⟨?_, hSt⟩
    have h : ¬ (a ≤ n ∧ n ≤ b) := by omega
    rw [decide_eq_false h]
section
variable {w0 : World} {bs bj : Nat} {gv ev : Value} {s : Sv}
theorem index_any (hb : w0.heap[bs]? = some (svO bj gv ev s)) (hg : SlAt w0 gv 7 (s.l.map gC)) (hl : s.l.length ≤ 1000000) (c n : Int) : Cl Tryz.prog 44 [Ptr bs, idV c n] w0 (fun v w' => v = I (idxI (findG s.l c n)) ∧ St w0 NoneS [] w') := by
  have hSt := St.refl w0 NoneS
  obtain ⟨a, cap, rfl, hcs⟩ := hg.map
  have hq : ([I s.pol, I s.lim, Ptr bj, .slice a s.l.length cap, ev, I s.cur, I s.fb, B s.stop] : List Value)[3]? = some (.slice a s.l.length cap) := rfl
  refine enter Tryz.func44 rfl Tryz.ntmps44 rfl ?_
  repeat' (first | (apply WL_ev rfl rfl; exact Ev_load1 hT rfl rfl (hSt.base hb (fun e => e)) hq) | refine stepA ?_ | (refine stepS ?_; clear hSt; intro w hSt; dsimp only [spl, List.set] at hSt) | (refine stepB ?_; clear hSt; intro w nb hnb hSt; dsimp only [zcells, List.nil_append, List.cons_append] at hSt) | (refine stepG ?_ ?_ <;> intro hc <;> (try exact absA) <;> (fail_if_success (change true = true at hc)) <;> (fail_if_success (change false = false at hc))) | fail)
  refine W_sub (L' := [(12, I ((0 : Nat) : Int)), (11, I s.l.length), (10, .slice a s.l.length cap), (3, Ptr nb)]) (by (repeat (first | exact Sub.nil _ | refine Sub.cons rfl ?_))) ?_
  refine W_loop1 (fun k (i : Nat) w => k = s.l.length - i ∧ i ≤ s.l.length ∧ (∀ (j : Nat) (y : Gl), j < i → s.l[j]? = some y → ¬ (y.c = c ∧ y.n = n)) ∧ St w0 NoneS [(nb, blk [I c, I n] 46)] w) (fun i => [(12, I (i : Int))]) s.l.length 0 rfl (by (repeat (first | exact Str.nil _ | apply Str.drop rfl | apply Str.keepU rfl | apply Str.keep rfl))) ⟨rfl, by omega, fun j y h => by omega, hSt⟩ (by (repeat (first | exact Sub.nil _ | refine Sub.cons rfl ?_))) ?_
  clear hSt
  rintro k i w ⟨hk, hi, hno, hSt⟩ K hK
  by_cases hil : i < s.l.length
  · obtain ⟨x, hx⟩ : ∃ x, s.l[i]? = some x := ⟨_, List.getElem?_eq_getElem hil⟩
    obtain ⟨b1, o1, m1, E1, z1, rfl, hb1, hcells, _⟩ := hcs i _ hx
    rw [← Int.toNat_natCast i] at hcells
    by_cases hm : x.c = c ∧ x.n = n
    · rw [findG_at hx hm hno]
      obtain ⟨rfl, rfl⟩ := hm
      repeat' (first | (apply WL_ev rfl rfl; exact Ev_load1 hT rfl rfl (hSt.base hb (fun e => e)) hq) | (apply WL_ev rfl rfl; exact Ev_loadN hT rfl rfl (hSt.base hb1 (fun e => e)) hcells rfl) | (refine WL_alloc hT rfl rfl rfl hSt ?_; clear hSt; intro w nb hnb hSt; replace hSt := hSt.front; dsimp only [zcells] at hSt) | (refine WL_storeN hT rfl rfl 0 rfl rfl hSt rfl rfl rfl rfl ?_; clear hSt; intro w hSt; replace hSt : St w0 NoneS ((nb, blk (gC x) 62) :: _) w := hSt) | refine stepA ?_ | (refine stepS ?_; clear hSt; intro w hSt; dsimp only [spl, List.set] at hSt) | (refine stepB ?_; clear hSt; intro w nb hnb hSt; dsimp only [zcells, List.nil_append, List.cons_append] at hSt) | (refine stepG ?_ ?_ <;> intro hc <;> (try exact absA) <;> (fail_if_success (change true = true at hc)) <;> (fail_if_success (change false = false at hc))) | fail)
      all_goals first | exact ret1 rfl rfl ⟨rfl, hSt.nil⟩ | (exfalso; exact hc rfl)
    · have hlt9 : s.l.length - (i + 1) < k := by omega
      have hno2 : ∀ (j : Nat) (y : Gl), j < i + 1 → s.l[j]? = some y → ¬ (y.c = c ∧ y.n = n) := by
        intro j y hj hy
        rcases Nat.lt_or_ge j i with h | h
        · exact hno j y h hy
        · obtain rfl : j = i := by omega
          rw [hx] at hy; injection hy with hy; subst hy; exact hm
      repeat' (first | (apply WL_ev rfl rfl; exact Ev_load1 hT rfl rfl (hSt.base hb (fun e => e)) hq) | (apply WL_ev rfl rfl; exact Ev_loadN hT rfl rfl (hSt.base hb1 (fun e => e)) hcells rfl) | (refine WL_alloc hT rfl rfl rfl hSt ?_; clear hSt; intro w nb hnb hSt; replace hSt := hSt.front; dsimp only [zcells] at hSt) | (refine WL_storeN hT rfl rfl 0 rfl rfl hSt rfl rfl rfl rfl ?_; clear hSt; intro w hSt; replace hSt : St w0 NoneS ((nb, blk (gC x) 62) :: _) w := hSt) | refine stepA ?_ | (refine stepS ?_; clear hSt; intro w hSt; dsimp only [spl, List.set] at hSt) | (refine stepB ?_; clear hSt; intro w nb hnb hSt; dsimp only [zcells, List.nil_append, List.cons_append] at hSt) | (refine stepG ?_ ?_ <;> intro hc <;> (try exact absA) <;> (fail_if_success (change true = true at hc)) <;> (fail_if_success (change false = false at hc))) | fail)
      all_goals first | exact absurd (id_eq2 hc) hm | exact absurd (id_eq2 (of_dec hc)) hm | exact At_loop1 hK (k' := s.l.length - (i + 1)) (i + 1) hlt9 ⟨rfl, hil, hno2, hSt.right (Ha := [_])⟩ (by (repeat (first | exact Sub.nil _ | refine Sub.cons rfl ?_)))
  · obtain rfl : i = s.l.length := by omega
    rw [findG_none (fun j y hy => hno j y (List.getElem?_eq_some_iff.1 hy).1 hy)]
    repeat' (first | refine stepA ?_ | (refine stepS ?_; clear hSt; intro w hSt; dsimp only [spl, List.set] at hSt) | (refine stepB ?_; clear hSt; intro w nb hnb hSt; dsimp only [zcells, List.nil_append, List.cons_append] at hSt) | (refine stepG ?_ ?_ <;> intro hc <;> (try exact absA) <;> (fail_if_success (change true = true at hc)) <;> (fail_if_success (change false = false at hc))) | fail)
    exact ret1 rfl rfl ⟨rfl, hSt.nil⟩
theorem latF_snoc {l : List Gl} {i : Nat} {x : Gl} (h : l[i]? = some x) : latF (l.take (i + 1)) = max (max (latF (l.take i)) x.at_) x.en := by
  rw [List.take_add_one, h]
  show latF (l.take i ++ [x]) = _
  unfold latF
  rw [List.foldl_append]; rfl
theorem latest_any (hb : w0.heap[bs]? = some (svO bj gv ev s)) (hg : SlAt w0 gv 7 (s.l.map gC)) (hl : s.l.length ≤ 1000000) : Cl Tryz.prog 30 [Ptr bs] w0 (fun v w' => v = I (latF s.l) ∧ St w0 NoneS [] w') := by
  have hSt := St.refl w0 NoneS
  obtain ⟨a, cap, rfl, hcs⟩ := hg.map
  have hq : ([I s.pol, I s.lim, Ptr bj, .slice a s.l.length cap, ev, I s.cur, I s.fb, B s.stop] : List Value)[3]? = some (.slice a s.l.length cap) := rfl
  refine enter Tryz.func30 rfl Tryz.ntmps30 rfl ?_
  repeat' (first | (apply WL_ev rfl rfl; exact Ev_load1 hT rfl rfl (hSt.base hb (fun e => e)) hq) | refine stepA ?_ | (refine stepS ?_; clear hSt; intro w hSt; dsimp only [spl, List.set] at hSt) | (refine stepB ?_; clear hSt; intro w nb hnb hSt; dsimp only [zcells, List.nil_append, List.cons_append] at hSt) | (refine stepG ?_ ?_ <;> intro hc <;> (try exact absA) <;> (fail_if_success (change true = true at hc)) <;> (fail_if_success (change false = false at hc))) | fail)
  refine W_sub (L' := [(11, I ((0 : Nat) : Int)), (3, I 0), (10, I s.l.length), (9, .slice a s.l.length cap)]) (by (repeat (first | exact Sub.nil _ | refine Sub.cons rfl ?_))) ?_
  refine W_loop2 (fun k (i : Nat) (t : Int) w => k = s.l.length - i ∧ i ≤ s.l.length ∧ t = latF (s.l.take i) ∧ St w0 NoneS [] w) (fun i t => [(11, I (i : Int)), (3, I t)]) s.l.length 0 0 rfl (by (repeat (first | exact Str.nil _ | apply Str.drop rfl | apply Str.keepU rfl | apply Str.keep rfl))) ⟨rfl, by omega, rfl, hSt⟩ (by (repeat (first | exact Sub.nil _ | refine Sub.cons rfl ?_))) ?_
  clear hSt
  rintro k i t w ⟨hk, hi, ht, hSt⟩ K hK
  by_cases hil : i < s.l.length
  · obtain ⟨x, hx⟩ : ∃ x, s.l[i]? = some x := ⟨_, List.getElem?_eq_getElem hil⟩
    obtain ⟨b1, o1, m1, E1, z1, rfl, hb1, hcells, _⟩ := hcs i _ hx
    rw [← Int.toNat_natCast i] at hcells
    have hst := latF_snoc hx
    rw [← ht] at hst
    have e3 : Value.int .i64 (max (max t x.at_) x.en) = I (latF (s.l.take (i + 1))) := by rw [hst]
    repeat' (first | (apply WL_ev rfl rfl; exact Ev_load1 hT rfl rfl (hSt.base hb (fun e => e)) hq) | (apply WL_ev rfl rfl; exact Ev_loadN hT rfl rfl (hSt.base hb1 (fun e => e)) hcells rfl) | (refine WL_alloc hT rfl rfl rfl hSt ?_; clear hSt; intro w nb hnb hSt; replace hSt := hSt.front; dsimp only [zcells] at hSt) | (refine WL_storeN hT rfl rfl 0 rfl rfl hSt rfl rfl rfl rfl ?_; clear hSt; intro w hSt; replace hSt : St w0 NoneS ((nb, blk (gC x) 62) :: _) w := hSt) | (apply WL_ev rfl rfl; exact Ev_as (Ev_max3 rfl rfl rfl) e3) | refine stepA ?_ | (refine stepS ?_; clear hSt; intro w hSt; dsimp only [spl, List.set] at hSt) | (refine stepB ?_; clear hSt; intro w nb hnb hSt; dsimp only [zcells, List.nil_append, List.cons_append] at hSt) | (refine stepG ?_ ?_ <;> intro hc <;> (try exact absA) <;> (fail_if_success (change true = true at hc)) <;> (fail_if_success (change false = false at hc))) | fail)
    exact At_loop2 hK (k' := s.l.length - (i + 1)) (i + 1) _ (by omega) ⟨rfl, by omega, rfl, hSt.nil⟩ (by (repeat (first | exact Sub.nil _ | refine Sub.cons rfl ?_)))
  · obtain rfl : i = s.l.length := by omega
    rw [List.take_length] at ht
    repeat' (first | refine stepA ?_ | (refine stepS ?_; clear hSt; intro w hSt; dsimp only [spl, List.set] at hSt) | (refine stepB ?_; clear hSt; intro w nb hnb hSt; dsimp only [zcells, List.nil_append, List.cons_append] at hSt) | (refine stepG ?_ ?_ <;> intro hc <;> (try exact absA) <;> (fail_if_success (change true = true at hc)) <;> (fail_if_success (change false = false at hc))) | fail)
    exact ret1 rfl rfl ⟨by rw [ht], hSt⟩
theorem term_to {w : World} {st : Int} {b : Bool} (h : termF st = b) : Cl Tryz.prog 45 [I st] w (fun v w' => v = B b ∧ St w NoneS [] w') := h ▸ term_any st
def openT (l : List Gl) (i : Nat) : List Nat := (List.range i).filter fun k => !termF (gAt l k).st
theorem openT_len (l : List Gl) (i : Nat) : (openT l i).length ≤ i := by
  have := List.length_filter_le (fun k => !termF (gAt l k).st) (List.range i)
  rw [List.length_range] at this; exact this
theorem openT_step {l : List Gl} {i : Nat} {x : Gl} (h : l[i]? = some x) : openT l (i + 1) = openT l i ++ if termF x.st = true then [] else [i] := by
  unfold openT
  rw [List.range_succ, List.filter_append]
  congr 1
  cases hq : termF x.st <;> simp [List.filter_cons, gAt, List.getD, h, hq]
abbrev ints (l : List Nat) : List Value := l.map fun k : Nat => I (k : Int)
theorem ints_snoc (l : List Nat) (i : Nat) : ints (l ++ [i]) = ints l ++ zcells (I (i : Int)) := by rw [ints, List.map_append]; rfl
theorem open_any (hb : w0.heap[bs]? = some (svO bj gv ev s)) (hg : SlAt w0 gv 7 (s.l.map gC)) (hl : s.l.length ≤ 1000000) : Cl Tryz.prog 31 [Ptr bs] w0 (fun v w' => ∃ H1, OwnSl v 3 1 (ints (openL s.l)) (openL s.l).length H1 ∧ St w0 NoneS H1 w') := by
  have hSt := St.refl w0 NoneS
  obtain ⟨a, cap, rfl, hcs⟩ := hg.map
  have hq : ([I s.pol, I s.lim, Ptr bj, .slice a s.l.length cap, ev, I s.cur, I s.fb, B s.stop] : List Value)[3]? = some (.slice a s.l.length cap) := rfl
  refine enter Tryz.func31 rfl Tryz.ntmps31 rfl ?_
  repeat' (first | (apply WL_ev rfl rfl; exact Ev_load1 hT rfl rfl (hSt.base hb (fun e => e)) hq) | refine stepA ?_ | (refine stepS ?_; clear hSt; intro w hSt; dsimp only [spl, List.set] at hSt) | (refine stepB ?_; clear hSt; intro w nb hnb hSt; dsimp only [zcells, List.nil_append, List.cons_append] at hSt) | (refine stepG ?_ ?_ <;> intro hc <;> (try exact absA) <;> (fail_if_success (change true = true at hc)) <;> (fail_if_success (change false = false at hc))) | fail)
  refine W_sub (L' := [(11, I ((0 : Nat) : Int)), (3, .slice none 0 0), (10, I s.l.length), (9, .slice a s.l.length cap)]) (by (repeat (first | exact Sub.nil _ | refine Sub.cons rfl ?_))) ?_
  refine W_loop2 (fun k (i : Nat) (v : Value) w => k = s.l.length - i ∧ i ≤ s.l.length ∧ ∃ H1, OwnSl v 3 1 (ints (openT s.l i)) (openT s.l i).length H1 ∧ St w0 NoneS ([] ++ H1) w) (fun i v => [(11, I (i : Int)), (3, v)]) s.l.length 0 (.slice none 0 0) rfl (by (repeat (first | exact Str.nil _ | apply Str.drop rfl | apply Str.keepU rfl | apply Str.keep rfl))) ⟨rfl, by omega, [], OwnSl.nil _ _, hSt⟩ (by (repeat (first | exact Sub.nil _ | refine Sub.cons rfl ?_))) ?_
  clear hSt
  rintro k i v w ⟨hk, hi, H1, ho, hSt⟩ K hK
  by_cases hil : i < s.l.length
  · obtain ⟨x, hx⟩ : ∃ x, s.l[i]? = some x := ⟨_, List.getElem?_eq_getElem hil⟩
    obtain ⟨b1, o1, m1, E1, z1, rfl, hb1, hcells, _⟩ := hcs i _ hx
    rw [← Int.toNat_natCast i] at hcells
    have hst := openT_step hx
    have hol := openT_len s.l i
    have hlt9 : s.l.length - (i + 1) < k := by omega
    obtain ⟨b, htm⟩ : ∃ b, termF x.st = b := ⟨_, rfl⟩
    cases b with
    | true =>
      rw [if_pos htm, List.append_nil] at hst
      repeat' (first | (apply WL_ev rfl rfl; exact Ev_load1 hT rfl rfl (hSt.base hb (fun e => e)) hq) | (apply WL_ev rfl rfl; exact Ev_loadN hT rfl rfl (hSt.base hb1 (fun e => e)) hcells rfl) | (refine WL_alloc hT rfl rfl rfl hSt ?_; clear hSt; intro w nb hnb hSt; replace hSt := hSt.front; dsimp only [zcells] at hSt) | (refine WL_storeN hT rfl rfl 0 rfl rfl hSt rfl rfl rfl rfl ?_; clear hSt; intro w hSt; replace hSt : St w0 NoneS ((nb, blk (gC x) 62) :: _) w := hSt) | (refine WL_isCall (f := 45) ?_; refine WL_call (ok_call hT rfl) rfl rfl rfl (term_to htm) ?_; rintro v w' ⟨rfl, hc2⟩; replace hSt := hSt.call0 hc2; clear hc2) | refine stepA ?_ | (refine stepS ?_; clear hSt; intro w hSt; dsimp only [spl, List.set] at hSt) | (refine stepB ?_; clear hSt; intro w nb hnb hSt; dsimp only [zcells, List.nil_append, List.cons_append] at hSt) | (refine stepG ?_ ?_ <;> intro hc <;> (try exact absA) <;> (fail_if_success (change true = true at hc)) <;> (fail_if_success (change false = false at hc))) | fail)
      all_goals exact At_loop2 hK (k' := s.l.length - (i + 1)) (i + 1) v hlt9 ⟨rfl, hil, H1, by rw [hst]; exact ho, hSt.right (Ha := [_])⟩ (by (repeat (first | exact Sub.nil _ | refine Sub.cons rfl ?_)))
    | false =>
      rw [if_neg (by rw [htm]; simp)] at hst
      repeat' (first | (apply WL_ev rfl rfl; exact Ev_load1 hT rfl rfl (hSt.base hb (fun e => e)) hq) | (apply WL_ev rfl rfl; exact Ev_loadN hT rfl rfl (hSt.base hb1 (fun e => e)) hcells rfl) | (refine WL_alloc hT rfl rfl rfl hSt ?_; clear hSt; intro w nb hnb hSt; replace hSt := hSt.front; dsimp only [zcells] at hSt) | (refine WL_storeN hT rfl rfl 0 rfl rfl hSt rfl rfl rfl rfl ?_; clear hSt; intro w hSt; replace hSt : St w0 NoneS ((nb, blk (gC x) 62) :: _) w := hSt) | (refine WL_isCall (f := 45) ?_; refine WL_call (ok_call hT rfl) rfl rfl rfl (term_to htm) ?_; rintro v w' ⟨rfl, hc2⟩; replace hSt := hSt.call0 hc2; clear hc2) | (refine WL_push1 hT rfl rfl rfl rfl rfl rfl rfl rfl rfl rfl rfl rfl (fun _ => rfl) rfl (H0 := [_]) hSt ho (by omega) (by omega) ?_; clear hSt ho; intro v' w H2 u ho hSt) | refine stepA ?_ | (refine stepS ?_; clear hSt; intro w hSt; dsimp only [spl, List.set] at hSt) | (refine stepB ?_; clear hSt; intro w nb hnb hSt; dsimp only [zcells, List.nil_append, List.cons_append] at hSt) | (refine stepG ?_ ?_ <;> intro hc <;> (try exact absA) <;> (fail_if_success (change true = true at hc)) <;> (fail_if_success (change false = false at hc))) | fail)
      all_goals exact At_loop2 hK (k' := s.l.length - (i + 1)) (i + 1) v' hlt9 ⟨rfl, hil, H2, by rw [hst, ints_snoc, List.length_append, List.length_singleton]; exact ho, hSt.right (Ha := [_])⟩ (by (repeat (first | exact Sub.nil _ | refine Sub.cons rfl ?_)))
  · obtain rfl : i = s.l.length := by omega
    repeat' (first | refine stepA ?_ | (refine stepS ?_; clear hSt; intro w hSt; dsimp only [spl, List.set] at hSt) | (refine stepB ?_; clear hSt; intro w nb hnb hSt; dsimp only [zcells, List.nil_append, List.cons_append] at hSt) | (refine stepG ?_ ?_ <;> intro hc <;> (try exact absA) <;> (fail_if_success (change true = true at hc)) <;> (fail_if_success (change false = false at hc))) | fail)
    exact ret1 rfl rfl ⟨H1, ho, hSt⟩
end
end Go.Proofs.YthkimkgphaiagaaGreatDoor

namespace Go.Proofs.YthkimkgphaiagaaGreatDoor
open Go.RowKit
set_option maxRecDepth 4000
set_option linter.unusedVariables false
set_option linter.unusedSimpArgs false
set_option maxHeartbeats 4000000

/-! ## What is read of the library's variables -/
structure Gb (w : World) : Prop where
  v : Vars w
  d : Deb w
def NoG (Sx : Nat → Prop) : Prop := ¬ Sx 5 ∧ ¬ Sx 3 ∧ ¬ Sx 0 ∧ ¬ Sx 1
theorem Gb.later {w0 w : World} {Sx : Nat → Prop} {H : List (Nat × Obj)} (h : Gb w0) (k : St w0 Sx H w) (hn : NoG Sx) : Gb w := by
  obtain ⟨⟨E1, z1, h1⟩, ⟨m, E2, z2, h2⟩, ⟨tp, p, E3, z3, h3⟩⟩ := h.v
  exact ⟨⟨⟨E1, z1, k.base h1 hn.2.1⟩, ⟨m, E2, z2, k.base h2 hn.2.2.1⟩, ⟨tp, p, E3, z3, k.base h3 hn.2.2.2⟩⟩, h.d.later k hn.1⟩
theorem lt_of_heap {w : World} {b : Nat} {o : Obj} (h : w.heap[b]? = some o) : b < w.heap.size := (Array.getElem?_eq_some_iff.1 h).1
theorem Gb.no {w0 w : World} {Sx : Nat → Prop} {H : List (Nat × Obj)} (h : Gb w0) (k : St w0 Sx H w) (hn : NoG Sx) : NoG (InH H) := by
  obtain ⟨⟨E1, z1, h1⟩, ⟨m, E2, z2, h2⟩, ⟨tp, p, E3, z3, h3⟩⟩ := h.v
  obtain ⟨l, E4, z4, h4, _⟩ := h.d
  have key : ∀ {b : Nat} {o : Obj}, w0.heap[b]? = some o → ¬ Sx b → ¬ InH H b := by
    rintro b o hb hS ⟨i, u, hi⟩
    have := lt_of_heap hb
    rcases (k.own i b u hi).2 with h | h
    · exact hS h
    · omega
  exact ⟨key h4 hn.1, key h1 hn.2.1, key h2 hn.2.2.1, key h3 hn.2.2.2⟩
theorem NoG.mono {S1 S2 : Nat → Prop} (h : NoG S2) (hs : ∀ b, S1 b → S2 b) : NoG S1 := ⟨fun e => h.1 (hs _ e), fun e => h.2.1 (hs _ e), fun e => h.2.2.1 (hs _ e), fun e => h.2.2.2 (hs _ e)⟩
theorem NoG.sub {H1 H2 : List (Nat × Obj)} (h : NoG (InH H2)) (hs : ∀ x ∈ H1, x ∈ H2) : NoG (InH H1) :=
  h.mono fun b ⟨i, o, hi⟩ => InH_of (hs _ (List.mem_of_getElem? hi))
theorem NoG.r {Ha H : List (Nat × Obj)} (h : NoG (InH (Ha ++ H))) : NoG (InH H) := h.sub fun x hx => List.mem_append_right _ hx
theorem NoG.none : NoG NoneS := ⟨fun e => e, fun e => e, fun e => e, fun e => e⟩

/-! ## Bounds -/
structure Svk (s : Sv) (n : Nat) : Prop where
  m : s.m.Ok
  j : s.j.l.length + n ≤ 1000000
  l : s.l.length ≤ 64
  e : s.ends.length + n ≤ 1000000
theorem Svk.le {s : Sv} {n k : Nat} (h : Svk s n) (hk : k ≤ n) : Svk s k := ⟨h.m, by have := h.j; omega, h.l, by have := h.e; omega⟩
theorem Med.Ok.jApp {m : Med} (hm : m.Ok) (j : Jr) (x : List UInt8) : (jAppend m j x).2.1.Ok := by
  unfold jAppend
  split
  · exact hm
  split
  · exact hm
  split
  · exact hm.append _
  split <;> exact hm.append _
theorem Med.Ok.jSyn {m : Med} (hm : m.Ok) (j : Jr) : (jSync m j).2.1.Ok := by
  unfold jSync
  split
  · exact hm
  split <;> exact hm.sync
theorem jApp_len (m : Med) (j : Jr) (x : List UInt8) : (jAppend m j x).2.2.l.length ≤ j.l.length + 1 := by
  unfold jAppend
  split
  · exact Nat.le_succ _
  split
  · exact Nat.le_succ _
  split
  · simp
  split <;> exact Nat.le_succ _
theorem jSyn_len (m : Med) (j : Jr) : (jSync m j).2.2.l = j.l := by
  unfold jSync
  split
  · rfl
  split <;> rfl
structure SameS (s t : Sv) : Prop where
  pol : t.pol = s.pol
  lim : t.lim = s.lim
  l : t.l = s.l
  ends : t.ends = s.ends
  cur : t.cur = s.cur
  fb : t.fb = s.fb
theorem recS_same (s : Sv) (x : List UInt8) : SameS s (recS s x).2 := by
  unfold recS
  split
  · split <;> exact ⟨rfl, rfl, rfl, rfl, rfl, rfl⟩
  · exact ⟨rfl, rfl, rfl, rfl, rfl, rfl⟩
theorem Svk.recd {s : Sv} {n : Nat} (h : Svk s (n + 1)) (x : List UInt8) : Svk (recS s x).2 n := by
  have h1 := (h.m.jApp s.j x)
  have h2 := h1.jSyn (jAppend s.m s.j x).2.2
  have h3 := jApp_len s.m s.j x
  have h4 := jSyn_len (jAppend s.m s.j x).2.1 (jAppend s.m s.j x).2.2
  have h5 := h.j
  unfold recS
  split
  · split
    · exact ⟨h2, by dsimp only; rw [h4]; omega, h.l, by have := h.e; dsimp only; omega⟩
    · exact ⟨h2, by dsimp only; rw [h4]; omega, h.l, by have := h.e; dsimp only; omega⟩
  · exact ⟨h1, by dsimp only; omega, h.l, by have := h.e; dsimp only; omega⟩

/-! ## The server in memory -/
def SW (bs bj bm : Nat) (s : Sv) (H : List (Nat × Obj)) : Prop :=
  ∃ gv Hg ev He Hj, OwnSl gv 62 7 (s.l.flatMap gC) s.l.length Hg ∧ OwnSl ev 3 1 (ints s.ends) s.ends.length He ∧ JW bm bj s.m s.j Hj ∧ H = (bs, svO bj gv ev s) :: ((Hg ++ He) ++ Hj)
theorem gC_len (g : Gl) : (gC g).length = 7 := rfl
theorem record_any {w0 : World} (hG : Gb w0) {bs bj bm : Nat} {gv ev : Value} {s : Sv} {X Hj : List (Nat × Obj)} (hJ : JW bm bj s.m s.j Hj) (hk : Svk s 1) (hh : Has w0 ((bs, svO bj gv ev s) :: (X ++ Hj))) (hn : NoG (InH ((bs, svO bj gv ev s) :: (X ++ Hj)))) (x : List UInt8) (hx : x.length ≤ 140737488355328) :
    Cl Tryz.prog 59 [Ptr bs, S x] w0 (fun v w' => v = I (recS s x).1 ∧ ∃ Hj', JW bm bj (recS s x).2.m (recS s x).2.j Hj' ∧ St w0 (InH ((bs, svO bj gv ev s) :: (X ++ Hj))) ((bs, svO bj gv ev (recS s x).2) :: (X ++ Hj')) w') := by
  have hSt := hh.st
  have hm2 := hk.m.jApp s.j x
  generalize InH _ = SS at hSt hn ⊢
  have hap := fun {w : World} (hG : Gb w) hh h2 => jappend_any (w0 := w) hG.d hJ hk.m (by have := hk.j; omega) hh h2 x hx
  clear hk hh
  unfold recS
  generalize jAppend s.m s.j x = r at hap hm2 ⊢
  obtain ⟨e, m2, j2⟩ := r
  obtain ⟨pol, lim, l, ends, cur, fb, stop, m, j⟩ := s
  dsimp only at hap hm2 hSt ⊢
  by_cases he : e = 0
  · subst he
    rw [if_pos rfl]
    have hsy := fun {w : World} {H : List (Nat × Obj)} (hJ : JW bm bj m2 j2 H) hh => jsync_any (w0 := w) hJ hm2 hh
    generalize jSync m2 j2 = r2 at hsy ⊢
    obtain ⟨e2, m3, j3⟩ := r2
    dsimp only at hsy ⊢
    by_cases he2 : e2 = 0
    · subst he2
      rw [if_pos rfl]
      refine enter Tryz.func59 rfl Tryz.ntmps59 rfl ?_
      repeat' (first | (refine WL_isCall (f := 72) ?_; refine WL_call (ok_call hT rfl) rfl rfl rfl (hap (hG.later hSt hn) (St.hasE (Ha := _ :: X) hSt) (NoG.r (Ha := _ :: X) (hG.no hSt hn)).1) ?_; rintro v w2 ⟨rfl, Hj2, hJ2, hc2⟩; replace hSt := St.callE (Ha := _ :: X) hSt hc2; clear hc2; dsimp only [List.cons_append] at hSt) | (refine WL_isCall (f := 73) ?_; refine WL_call (ok_call hT rfl) rfl rfl rfl (hsy hJ2 (St.hasE (Ha := _ :: X) hSt)) ?_; rintro v w2 ⟨rfl, Hj3, hJ3, hc2⟩; replace hSt := St.callE (Ha := _ :: X) hSt hc2; clear hc2; dsimp only [List.cons_append] at hSt) | refine stepA ?_ | (refine stepS ?_; clear hSt; intro w hSt; dsimp only [spl, List.set] at hSt) | (refine stepB ?_; clear hSt; intro w nb hnb hSt; dsimp only [zcells, List.nil_append, List.cons_append] at hSt) | (refine stepG ?_ ?_ <;> intro hc <;> (try exact absA) <;> (fail_if_success (change true = true at hc)) <;> (fail_if_success (change false = false at hc))) | fail)
      all_goals exact ret1 rfl rfl ⟨rfl, _, hJ3, hSt⟩
    · rw [if_neg he2]
      cases stop
      all_goals
        refine enter Tryz.func59 rfl Tryz.ntmps59 rfl ?_
        repeat' (first | (refine WL_isCall (f := 72) ?_; refine WL_call (ok_call hT rfl) rfl rfl rfl (hap (hG.later hSt hn) (St.hasE (Ha := _ :: X) hSt) (NoG.r (Ha := _ :: X) (hG.no hSt hn)).1) ?_; rintro v w2 ⟨rfl, Hj2, hJ2, hc2⟩; replace hSt := St.callE (Ha := _ :: X) hSt hc2; clear hc2; dsimp only [List.cons_append] at hSt) | (refine WL_isCall (f := 73) ?_; refine WL_call (ok_call hT rfl) rfl rfl rfl (hsy hJ2 (St.hasE (Ha := _ :: X) hSt)) ?_; rintro v w2 ⟨rfl, Hj3, hJ3, hc2⟩; replace hSt := St.callE (Ha := _ :: X) hSt hc2; clear hc2; dsimp only [List.cons_append] at hSt) | (refine WL_store1 hT rfl rfl 0 rfl rfl hSt rfl rfl rfl ?_; clear hSt; intro w hSt; dsimp only [List.set] at hSt) | refine stepA ?_ | (refine stepS ?_; clear hSt; intro w hSt; dsimp only [spl, List.set] at hSt) | (refine stepB ?_; clear hSt; intro w nb hnb hSt; dsimp only [zcells, List.nil_append, List.cons_append] at hSt) | (refine stepG ?_ ?_ <;> intro hc <;> (try exact absA) <;> (fail_if_success (change true = true at hc)) <;> (fail_if_success (change false = false at hc))) | fail)
        all_goals exact ret1 rfl rfl ⟨rfl, _, hJ3, hSt⟩
  · rw [if_neg he]
    cases stop
    all_goals
      refine enter Tryz.func59 rfl Tryz.ntmps59 rfl ?_
      repeat' (first | (refine WL_isCall (f := 72) ?_; refine WL_call (ok_call hT rfl) rfl rfl rfl (hap (hG.later hSt hn) (St.hasE (Ha := _ :: X) hSt) (NoG.r (Ha := _ :: X) (hG.no hSt hn)).1) ?_; rintro v w2 ⟨rfl, Hj2, hJ2, hc2⟩; replace hSt := St.callE (Ha := _ :: X) hSt hc2; clear hc2; dsimp only [List.cons_append] at hSt) | (refine WL_store1 hT rfl rfl 0 rfl rfl hSt rfl rfl rfl ?_; clear hSt; intro w hSt; dsimp only [List.set] at hSt) | refine stepA ?_ | (refine stepS ?_; clear hSt; intro w hSt; dsimp only [spl, List.set] at hSt) | (refine stepB ?_; clear hSt; intro w nb hnb hSt; dsimp only [zcells, List.nil_append, List.cons_append] at hSt) | (refine stepG ?_ ?_ <;> intro hc <;> (try exact absA) <;> (fail_if_success (change true = true at hc)) <;> (fail_if_success (change false = false at hc))) | fail)
      all_goals exact ret1 rfl rfl ⟨rfl, _, hJ2, hSt⟩
end Go.Proofs.YthkimkgphaiagaaGreatDoor
