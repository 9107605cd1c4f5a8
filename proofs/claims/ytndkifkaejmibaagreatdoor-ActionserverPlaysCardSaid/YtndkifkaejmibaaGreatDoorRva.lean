/- The specification's server in memory: what it reads. No conditions. -/
import Derived.Test.YtndkifkaejmibaaGreatDoorML
import Derived.Test.YtndkifkaejmibaaGreatDoorMM
import Derived.Test.YtndkifkaejmibaaGreatDoorJox
import Derived.Test.YtndkifkaejmibaaGreatDoorMN

namespace Go.Proofs.YtndkifkaejmibaaGreatDoor
open Go.RowKit
set_option maxRecDepth 4000
set_option linter.unusedVariables false
set_option linter.unusedSimpArgs false
set_option maxHeartbeats 8000000

abbrev rsO (bw : Nat) (gv ev : Value) (s : Sv) : Obj := blk [I s.pol, I s.lim, I s.fb, Ptr bw, gv, ev, B s.stop] 114
theorem idCells {L : List Value} {o : Nat} {x : Gl} (h : (L.drop o).take 7 = gC x) : (L.drop (o + 0)).take 2 = [I x.c, I x.n] := by
  rw [Nat.add_zero, show (2 : Nat) = min 2 7 from rfl, ← List.take_take, h]; rfl
theorem stCell {L : List Value} {o : Nat} {x : Gl} (h : (L.drop o).take 7 = gC x) : L[o + 2]? = some (I x.st) := SlAt.cell h rfl
def waitT (l : List Gl) (i : Nat) : List Nat := (List.range i).filter fun k => (gAt l k).st == 1
theorem waitT_len (l : List Gl) (i : Nat) : (waitT l i).length ≤ i := by
  have := List.length_filter_le (fun k => (gAt l k).st == 1) (List.range i)
  rw [List.length_range] at this; exact this
theorem waitT_step {l : List Gl} {i : Nat} : waitT l (i + 1) = waitT l i ++ if (gAt l i).st = 1 then [i] else [] := by
  unfold waitT
  rw [List.range_succ, List.filter_append]
  congr 1
  by_cases h : (gAt l i).st = 1
  · rw [if_pos h, List.filter_cons, if_pos (by simpa using h)]; rfl
  · rw [if_neg h, List.filter_cons, if_neg (by simpa using h)]; rfl
section
variable {w0 : World} {br bw : Nat} {gv ev : Value} {s : Sv}
theorem rfind_any (hb : w0.heap[br]? = some (rsO bw gv ev s)) (hg : SlAt w0 gv 7 (s.l.map gC)) (hl : s.l.length ≤ 1000000) (c n : Int) : Cl Tryz.prog 76 [Ptr br, idV c n] w0 (fun v w' => v = I (idxI (findG s.l c n)) ∧ St w0 NoneS [] w') := by
  have hSt := St.refl w0 NoneS
  obtain ⟨a, cap, rfl, hcs⟩ := hg.map
  have hq : ([I s.pol, I s.lim, I s.fb, Ptr bw, .slice a s.l.length cap, ev, B s.stop] : List Value)[4]? = some (.slice a s.l.length cap) := rfl
  refine enter Tryz.func76 rfl Tryz.ntmps76 rfl ?_
  repeat' (first | refine stepA ?_ | (refine stepS ?_; clear hSt; intro w hSt; dsimp only [spl, List.set] at hSt) | (refine stepB ?_; clear hSt; intro w nb hnb hSt; dsimp only [zcells, List.nil_append, List.cons_append] at hSt) | (refine W_quiet hT (by decide +kernel) hSt ?_; clear hSt; (repeat' (first | (apply QL_ev rfl rfl; (intro w hSt; (first | exact Ev_auto))) | refine QL_pass rfl rfl ?_ | (refine QL_guardP rfl rfl (fun hc => ?_) (fun hc => ?_) <;> try exact absA) | (refine QL_guard rfl rfl (fun hc => ?_) (fun hc => ?_) <;> (try exact absA) <;> (fail_if_success (change true = true at hc)) <;> (fail_if_success (change false = false at hc))))); all_goals (refine QL_nil (fun w hSt => ?_))) | (refine stepG ?_ ?_ <;> intro hc <;> (try exact absA) <;> (fail_if_success (change true = true at hc)) <;> (fail_if_success (change false = false at hc))) | fail)
  refine W_sub (L' := [(5, I ((0 : Nat) : Int)), (0, Ptr br), (3, Ptr nb)]) (by (repeat (first | exact Sub.nil _ | refine Sub.cons rfl ?_))) ?_
  refine W_loop1 (fun k (i : Nat) w => k = s.l.length - i ∧ i ≤ s.l.length ∧ (∀ (j : Nat) (y : Gl), j < i → s.l[j]? = some y → ¬ (y.c = c ∧ y.n = n)) ∧ St w0 NoneS [(nb, blk [I c, I n] 33)] w) (fun i => [(5, I (i : Int))]) s.l.length 0 rfl (by (repeat (first | exact Str.nil _ | apply Str.drop rfl | apply Str.keepU rfl | apply Str.keep rfl))) ⟨rfl, by omega, fun j y h => by omega, hSt⟩ (by (repeat (first | exact Sub.nil _ | refine Sub.cons rfl ?_))) ?_
  clear hSt
  rintro k i w ⟨hk, hi, hno, hSt⟩ K hK
  by_cases hil : i < s.l.length
  · have hlen := hil
    obtain ⟨x, hx⟩ : ∃ x, s.l[i]? = some x := ⟨_, List.getElem?_eq_getElem hil⟩
    have hlt9 : s.l.length - (i + 1) < k := by omega
    obtain ⟨b1, o1, m1, E1, z1, rfl, hb1, hcells, _⟩ := hcs i _ hx
    have hxg := gAt_some hil
    rw [hx] at hxg
    injection hxg with hxg
    rw [← Int.toNat_natCast i] at hcells
    have hqi := idCells hcells
    by_cases hm : x.c = c ∧ x.n = n
    · rw [findG_at hx hm hno]
      obtain ⟨rfl, rfl⟩ := hm
      repeat' (first | (apply WL_ev rfl rfl; exact Ev_load1 hT rfl rfl (hSt.base hb (fun e => e)) hq) | (apply WL_ev rfl rfl; exact Ev_loadN hT rfl rfl (hSt.base hb1 (fun e => e)) hqi rfl) | (apply WL_ev rfl rfl; exact Ev_struct_yes (ok_eq rfl) rfl rfl rfl) | refine stepA ?_ | (refine stepS ?_; clear hSt; intro w hSt; dsimp only [spl, List.set] at hSt) | (refine stepB ?_; clear hSt; intro w nb hnb hSt; dsimp only [zcells, List.nil_append, List.cons_append] at hSt) | (refine W_quiet hT (by decide +kernel) hSt ?_; clear hSt; (repeat' (first | (apply QL_ev rfl rfl; (intro w hSt; (first | (exact Ev_load1 hT rfl rfl (hSt.base hb (fun e => e)) hq) | (exact Ev_loadN hT rfl rfl (hSt.base hb1 (fun e => e)) hqi rfl) | (exact Ev_struct_yes (ok_eq rfl) rfl rfl rfl) | exact Ev_auto))) | refine QL_pass rfl rfl ?_ | (refine QL_guardP rfl rfl (fun hc => ?_) (fun hc => ?_) <;> try exact absA) | (refine QL_guard rfl rfl (fun hc => ?_) (fun hc => ?_) <;> (try exact absA) <;> (fail_if_success (change true = true at hc)) <;> (fail_if_success (change false = false at hc))))); all_goals (refine QL_nil (fun w hSt => ?_))) | (refine stepG ?_ ?_ <;> intro hc <;> (try exact absA) <;> (fail_if_success (change true = true at hc)) <;> (fail_if_success (change false = false at hc))) | fail)
      all_goals try (exfalso; first | omega | (simp at hc; done) | (exact hc rfl))
      all_goals exact ret1 rfl rfl ⟨rfl, hSt.nil⟩
    · have hne : [I x.c, I x.n] ≠ [I c, I n] := fun e => hm (id_eq2 e)
      have hno2 : ∀ (j : Nat) (y : Gl), j < i + 1 → s.l[j]? = some y → ¬ (y.c = c ∧ y.n = n) := by
        intro j y hj hy
        rcases Nat.lt_or_ge j i with h | h
        · exact hno j y h hy
        · obtain rfl : j = i := by omega
          rw [hx] at hy; injection hy with hy; subst hy; exact hm
      repeat' (first | (apply WL_ev rfl rfl; exact Ev_load1 hT rfl rfl (hSt.base hb (fun e => e)) hq) | (apply WL_ev rfl rfl; exact Ev_loadN hT rfl rfl (hSt.base hb1 (fun e => e)) hqi rfl) | (apply WL_ev rfl rfl; exact Ev_struct_no (ok_eq rfl) rfl rfl rfl rfl hne) | refine stepA ?_ | (refine stepS ?_; clear hSt; intro w hSt; dsimp only [spl, List.set] at hSt) | (refine stepB ?_; clear hSt; intro w nb hnb hSt; dsimp only [zcells, List.nil_append, List.cons_append] at hSt) | (refine W_quiet hT (by decide +kernel) hSt ?_; clear hSt; (repeat' (first | (apply QL_ev rfl rfl; (intro w hSt; (first | (exact Ev_load1 hT rfl rfl (hSt.base hb (fun e => e)) hq) | (exact Ev_loadN hT rfl rfl (hSt.base hb1 (fun e => e)) hqi rfl) | (exact Ev_struct_no (ok_eq rfl) rfl rfl rfl rfl hne) | exact Ev_auto))) | refine QL_pass rfl rfl ?_ | (refine QL_guardP rfl rfl (fun hc => ?_) (fun hc => ?_) <;> try exact absA) | (refine QL_guard rfl rfl (fun hc => ?_) (fun hc => ?_) <;> (try exact absA) <;> (fail_if_success (change true = true at hc)) <;> (fail_if_success (change false = false at hc))))); all_goals (refine QL_nil (fun w hSt => ?_))) | (refine stepG ?_ ?_ <;> intro hc <;> (try exact absA) <;> (fail_if_success (change true = true at hc)) <;> (fail_if_success (change false = false at hc))) | fail)
      all_goals try (exfalso; first | omega | (simp at hc; done) | (exact hc rfl))
      all_goals exact At_loop1 hK (k' := s.l.length - (i + 1)) (i + 1) hlt9 ⟨rfl, hil, hno2, hSt⟩ (by (repeat (first | exact Sub.nil _ | refine Sub.cons rfl ?_)))
  · obtain rfl : i = s.l.length := by omega
    rw [findG_none (fun j y hy => hno j y (List.getElem?_eq_some_iff.1 hy).1 hy)]
    repeat' (first | (apply WL_ev rfl rfl; exact Ev_load1 hT rfl rfl (hSt.base hb (fun e => e)) hq) | refine stepA ?_ | (refine stepS ?_; clear hSt; intro w hSt; dsimp only [spl, List.set] at hSt) | (refine stepB ?_; clear hSt; intro w nb hnb hSt; dsimp only [zcells, List.nil_append, List.cons_append] at hSt) | (refine W_quiet hT (by decide +kernel) hSt ?_; clear hSt; (repeat' (first | (apply QL_ev rfl rfl; (intro w hSt; (first | (exact Ev_load1 hT rfl rfl (hSt.base hb (fun e => e)) hq) | exact Ev_auto))) | refine QL_pass rfl rfl ?_ | (refine QL_guardP rfl rfl (fun hc => ?_) (fun hc => ?_) <;> try exact absA) | (refine QL_guard rfl rfl (fun hc => ?_) (fun hc => ?_) <;> (try exact absA) <;> (fail_if_success (change true = true at hc)) <;> (fail_if_success (change false = false at hc))))); all_goals (refine QL_nil (fun w hSt => ?_))) | (refine stepG ?_ ?_ <;> intro hc <;> (try exact absA) <;> (fail_if_success (change true = true at hc)) <;> (fail_if_success (change false = false at hc))) | fail)
    all_goals exact ret1 rfl rfl ⟨rfl, hSt.nil⟩
theorem rcurrent_any (hb : w0.heap[br]? = some (rsO bw gv ev s)) (hg : SlAt w0 gv 7 (s.l.map gC)) (hl : s.l.length ≤ 1000000) : Cl Tryz.prog 77 [Ptr br] w0 (fun v w' => v = I (curF s.l) ∧ St w0 NoneS [] w') := by
  have hSt := St.refl w0 NoneS
  obtain ⟨a, cap, rfl, hcs⟩ := hg.map
  have hq : ([I s.pol, I s.lim, I s.fb, Ptr bw, .slice a s.l.length cap, ev, B s.stop] : List Value)[4]? = some (.slice a s.l.length cap) := rfl
  refine enter Tryz.func77 rfl Tryz.ntmps77 rfl ?_
  repeat' (first | refine stepA ?_ | (refine stepS ?_; clear hSt; intro w hSt; dsimp only [spl, List.set] at hSt) | (refine stepB ?_; clear hSt; intro w nb hnb hSt; dsimp only [zcells, List.nil_append, List.cons_append] at hSt) | (refine W_quiet hT (by decide +kernel) hSt ?_; clear hSt; (repeat' (first | (apply QL_ev rfl rfl; (intro w hSt; (first | exact Ev_auto))) | refine QL_pass rfl rfl ?_ | (refine QL_guardP rfl rfl (fun hc => ?_) (fun hc => ?_) <;> try exact absA) | (refine QL_guard rfl rfl (fun hc => ?_) (fun hc => ?_) <;> (try exact absA) <;> (fail_if_success (change true = true at hc)) <;> (fail_if_success (change false = false at hc))))); all_goals (refine QL_nil (fun w hSt => ?_))) | (refine stepG ?_ ?_ <;> intro hc <;> (try exact absA) <;> (fail_if_success (change true = true at hc)) <;> (fail_if_success (change false = false at hc))) | fail)
  refine W_sub (L' := [(3, I ((0 : Nat) : Int)), (0, Ptr br)]) (by (repeat (first | exact Sub.nil _ | refine Sub.cons rfl ?_))) ?_
  refine W_loop1 (fun k (i : Nat) w => k = s.l.length - i ∧ i ≤ s.l.length ∧ (∀ j, j < i → ¬ ((gAt s.l j).st = 2 ∨ (gAt s.l j).st = 3)) ∧ St w0 NoneS [] w) (fun i => [(3, I (i : Int))]) s.l.length 0 rfl (by (repeat (first | exact Str.nil _ | apply Str.drop rfl | apply Str.keepU rfl | apply Str.keep rfl))) ⟨rfl, by omega, fun j h => by omega, hSt⟩ (by (repeat (first | exact Sub.nil _ | refine Sub.cons rfl ?_))) ?_
  clear hSt
  rintro k i w ⟨hk, hi, hno, hSt⟩ K hK
  by_cases hil : i < s.l.length
  · have hlen := hil
    obtain ⟨x, hx⟩ : ∃ x, s.l[i]? = some x := ⟨_, List.getElem?_eq_getElem hil⟩
    have hlt9 : s.l.length - (i + 1) < k := by omega
    obtain ⟨b1, o1, m1, E1, z1, rfl, hb1, hcells, _⟩ := hcs i _ hx
    have hxg := gAt_some hil
    rw [hx] at hxg
    injection hxg with hxg
    rw [← Int.toNat_natCast i] at hcells
    have hqs := stCell hcells
    by_cases hm : x.st = 2 ∨ x.st = 3
    · rw [curF_some hil (by rw [← hxg]; exact hm) hno]
      repeat' (first | (apply WL_ev rfl rfl; exact Ev_load1 hT rfl rfl (hSt.base hb (fun e => e)) hq) | (apply WL_ev rfl rfl; exact Ev_load1 hT rfl rfl (hSt.base hb1 (fun e => e)) hqs) | refine stepA ?_ | (refine stepS ?_; clear hSt; intro w hSt; dsimp only [spl, List.set] at hSt) | (refine stepB ?_; clear hSt; intro w nb hnb hSt; dsimp only [zcells, List.nil_append, List.cons_append] at hSt) | (refine W_quiet hT (by decide +kernel) hSt ?_; clear hSt; (repeat' (first | (apply QL_ev rfl rfl; (intro w hSt; (first | (exact Ev_load1 hT rfl rfl (hSt.base hb (fun e => e)) hq) | (exact Ev_load1 hT rfl rfl (hSt.base hb1 (fun e => e)) hqs) | exact Ev_auto))) | refine QL_pass rfl rfl ?_ | (refine QL_guardP rfl rfl (fun hc => ?_) (fun hc => ?_) <;> try exact absA) | (refine QL_guard rfl rfl (fun hc => ?_) (fun hc => ?_) <;> (try exact absA) <;> (fail_if_success (change true = true at hc)) <;> (fail_if_success (change false = false at hc))))); all_goals (refine QL_nil (fun w hSt => ?_))) | (refine stepG ?_ ?_ <;> intro hc <;> (try exact absA) <;> (fail_if_success (change true = true at hc)) <;> (fail_if_success (change false = false at hc))) | fail)
      all_goals try (exfalso; first | omega | (simp at hc; done) | (exact hc rfl))
      all_goals exact ret1 rfl rfl ⟨rfl, hSt⟩
    · have hno2 : ∀ j, j < i + 1 → ¬ ((gAt s.l j).st = 2 ∨ (gAt s.l j).st = 3) := by
        intro j hj
        rcases Nat.lt_or_ge j i with h | h
        · exact hno j h
        · obtain rfl : j = i := by omega
          rw [← hxg]; exact hm
      repeat' (first | (apply WL_ev rfl rfl; exact Ev_load1 hT rfl rfl (hSt.base hb (fun e => e)) hq) | (apply WL_ev rfl rfl; exact Ev_load1 hT rfl rfl (hSt.base hb1 (fun e => e)) hqs) | refine stepA ?_ | (refine stepS ?_; clear hSt; intro w hSt; dsimp only [spl, List.set] at hSt) | (refine stepB ?_; clear hSt; intro w nb hnb hSt; dsimp only [zcells, List.nil_append, List.cons_append] at hSt) | (refine W_quiet hT (by decide +kernel) hSt ?_; clear hSt; (repeat' (first | (apply QL_ev rfl rfl; (intro w hSt; (first | (exact Ev_load1 hT rfl rfl (hSt.base hb (fun e => e)) hq) | (exact Ev_load1 hT rfl rfl (hSt.base hb1 (fun e => e)) hqs) | exact Ev_auto))) | refine QL_pass rfl rfl ?_ | (refine QL_guardP rfl rfl (fun hc => ?_) (fun hc => ?_) <;> try exact absA) | (refine QL_guard rfl rfl (fun hc => ?_) (fun hc => ?_) <;> (try exact absA) <;> (fail_if_success (change true = true at hc)) <;> (fail_if_success (change false = false at hc))))); all_goals (refine QL_nil (fun w hSt => ?_))) | (refine stepG ?_ ?_ <;> intro hc <;> (try exact absA) <;> (fail_if_success (change true = true at hc)) <;> (fail_if_success (change false = false at hc))) | fail)
      all_goals try (exfalso; first | omega | (simp at hc; done) | (exact hc rfl))
      all_goals exact At_loop1 hK (k' := s.l.length - (i + 1)) (i + 1) hlt9 ⟨rfl, hil, hno2, hSt⟩ (by (repeat (first | exact Sub.nil _ | refine Sub.cons rfl ?_)))
  · obtain rfl : i = s.l.length := by omega
    rw [curF_none hno]
    repeat' (first | (apply WL_ev rfl rfl; exact Ev_load1 hT rfl rfl (hSt.base hb (fun e => e)) hq) | refine stepA ?_ | (refine stepS ?_; clear hSt; intro w hSt; dsimp only [spl, List.set] at hSt) | (refine stepB ?_; clear hSt; intro w nb hnb hSt; dsimp only [zcells, List.nil_append, List.cons_append] at hSt) | (refine W_quiet hT (by decide +kernel) hSt ?_; clear hSt; (repeat' (first | (apply QL_ev rfl rfl; (intro w hSt; (first | (exact Ev_load1 hT rfl rfl (hSt.base hb (fun e => e)) hq) | exact Ev_auto))) | refine QL_pass rfl rfl ?_ | (refine QL_guardP rfl rfl (fun hc => ?_) (fun hc => ?_) <;> try exact absA) | (refine QL_guard rfl rfl (fun hc => ?_) (fun hc => ?_) <;> (try exact absA) <;> (fail_if_success (change true = true at hc)) <;> (fail_if_success (change false = false at hc))))); all_goals (refine QL_nil (fun w hSt => ?_))) | (refine stepG ?_ ?_ <;> intro hc <;> (try exact absA) <;> (fail_if_success (change true = true at hc)) <;> (fail_if_success (change false = false at hc))) | fail)
    all_goals exact ret1 rfl rfl ⟨rfl, hSt⟩
theorem rlatest_any (hb : w0.heap[br]? = some (rsO bw gv ev s)) (hg : SlAt w0 gv 7 (s.l.map gC)) (hl : s.l.length ≤ 1000000) : Cl Tryz.prog 73 [Ptr br] w0 (fun v w' => v = I (latF s.l) ∧ St w0 NoneS [] w') := by
  have hSt := St.refl w0 NoneS
  obtain ⟨a, cap, rfl, hcs⟩ := hg.map
  have hq : ([I s.pol, I s.lim, I s.fb, Ptr bw, .slice a s.l.length cap, ev, B s.stop] : List Value)[4]? = some (.slice a s.l.length cap) := rfl
  refine enter Tryz.func73 rfl Tryz.ntmps73 rfl ?_
  repeat' (first | refine stepA ?_ | (refine stepS ?_; clear hSt; intro w hSt; dsimp only [spl, List.set] at hSt) | (refine stepB ?_; clear hSt; intro w nb hnb hSt; dsimp only [zcells, List.nil_append, List.cons_append] at hSt) | (refine W_quiet hT (by decide +kernel) hSt ?_; clear hSt; (repeat' (first | (apply QL_ev rfl rfl; (intro w hSt; (first | exact Ev_auto))) | refine QL_pass rfl rfl ?_ | (refine QL_guardP rfl rfl (fun hc => ?_) (fun hc => ?_) <;> try exact absA) | (refine QL_guard rfl rfl (fun hc => ?_) (fun hc => ?_) <;> (try exact absA) <;> (fail_if_success (change true = true at hc)) <;> (fail_if_success (change false = false at hc))))); all_goals (refine QL_nil (fun w hSt => ?_))) | (refine stepG ?_ ?_ <;> intro hc <;> (try exact absA) <;> (fail_if_success (change true = true at hc)) <;> (fail_if_success (change false = false at hc))) | fail)
  refine W_sub (L' := [(4, I ((0 : Nat) : Int)), (3, I 0), (0, Ptr br)]) (by (repeat (first | exact Sub.nil _ | refine Sub.cons rfl ?_))) ?_
  refine W_loop2 (fun k (i : Nat) (t : Int) w => k = s.l.length - i ∧ i ≤ s.l.length ∧ t = latF (s.l.take i) ∧ St w0 NoneS [] w) (fun i t => [(4, I (i : Int)), (3, I t)]) s.l.length 0 0 rfl (by (repeat (first | exact Str.nil _ | apply Str.drop rfl | apply Str.keepU rfl | apply Str.keep rfl))) ⟨rfl, by omega, rfl, hSt⟩ (by (repeat (first | exact Sub.nil _ | refine Sub.cons rfl ?_))) ?_
  clear hSt
  rintro k i t w ⟨hk, hi, ht, hSt⟩ K hK
  by_cases hil : i < s.l.length
  · have hlen := hil
    obtain ⟨x, hx⟩ : ∃ x, s.l[i]? = some x := ⟨_, List.getElem?_eq_getElem hil⟩
    have hlt9 : s.l.length - (i + 1) < k := by omega
    obtain ⟨b1, o1, m1, E1, z1, rfl, hb1, hcells, _⟩ := hcs i _ hx
    have hxg := gAt_some hil
    rw [hx] at hxg
    injection hxg with hxg
    rw [← Int.toNat_natCast i] at hcells
    have hqa : (_ : List Value)[_]? = some (I x.at_) := SlAt.cell (j := 3) hcells rfl
    have hqe : (_ : List Value)[_]? = some (I x.en) := SlAt.cell (j := 4) hcells rfl
    have hst := latF_snoc hx
    rw [← ht] at hst
    have e3 : Value.int .i64 (max (max t x.at_) x.en) = I (latF (s.l.take (i + 1))) := by rw [hst]
    repeat' (first | (apply WL_ev rfl rfl; exact Ev_load1 hT rfl rfl (hSt.base hb (fun e => e)) hq) | (apply WL_ev rfl rfl; exact Ev_load1 hT rfl rfl (hSt.base hb1 (fun e => e)) hqa) | (apply WL_ev rfl rfl; exact Ev_load1 hT rfl rfl (hSt.base hb1 (fun e => e)) hqe) | (apply WL_ev rfl rfl; exact Ev_as (Ev_max3 rfl rfl rfl) e3) | refine stepA ?_ | (refine stepS ?_; clear hSt; intro w hSt; dsimp only [spl, List.set] at hSt) | (refine stepB ?_; clear hSt; intro w nb hnb hSt; dsimp only [zcells, List.nil_append, List.cons_append] at hSt) | (refine W_quiet hT (by decide +kernel) hSt ?_; clear hSt; (repeat' (first | (apply QL_ev rfl rfl; (intro w hSt; (first | (exact Ev_load1 hT rfl rfl (hSt.base hb (fun e => e)) hq) | (exact Ev_load1 hT rfl rfl (hSt.base hb1 (fun e => e)) hqa) | (exact Ev_load1 hT rfl rfl (hSt.base hb1 (fun e => e)) hqe) | (exact Ev_as (Ev_max3 rfl rfl rfl) e3) | exact Ev_auto))) | refine QL_pass rfl rfl ?_ | (refine QL_guardP rfl rfl (fun hc => ?_) (fun hc => ?_) <;> try exact absA) | (refine QL_guard rfl rfl (fun hc => ?_) (fun hc => ?_) <;> (try exact absA) <;> (fail_if_success (change true = true at hc)) <;> (fail_if_success (change false = false at hc))))); all_goals (refine QL_nil (fun w hSt => ?_))) | (refine stepG ?_ ?_ <;> intro hc <;> (try exact absA) <;> (fail_if_success (change true = true at hc)) <;> (fail_if_success (change false = false at hc))) | fail)
    all_goals try (exfalso; first | omega | (simp at hc; done) | (exact hc rfl))
    all_goals exact At_loop2 hK (k' := s.l.length - (i + 1)) (i + 1) _ hlt9 ⟨rfl, by omega, rfl, hSt.nil⟩ (by (repeat (first | exact Sub.nil _ | refine Sub.cons rfl ?_)))
  · obtain rfl : i = s.l.length := by omega
    rw [List.take_length] at ht
    repeat' (first | (apply WL_ev rfl rfl; exact Ev_load1 hT rfl rfl (hSt.base hb (fun e => e)) hq) | refine stepA ?_ | (refine stepS ?_; clear hSt; intro w hSt; dsimp only [spl, List.set] at hSt) | (refine stepB ?_; clear hSt; intro w nb hnb hSt; dsimp only [zcells, List.nil_append, List.cons_append] at hSt) | (refine W_quiet hT (by decide +kernel) hSt ?_; clear hSt; (repeat' (first | (apply QL_ev rfl rfl; (intro w hSt; (first | (exact Ev_load1 hT rfl rfl (hSt.base hb (fun e => e)) hq) | exact Ev_auto))) | refine QL_pass rfl rfl ?_ | (refine QL_guardP rfl rfl (fun hc => ?_) (fun hc => ?_) <;> try exact absA) | (refine QL_guard rfl rfl (fun hc => ?_) (fun hc => ?_) <;> (try exact absA) <;> (fail_if_success (change true = true at hc)) <;> (fail_if_success (change false = false at hc))))); all_goals (refine QL_nil (fun w hSt => ?_))) | (refine stepG ?_ ?_ <;> intro hc <;> (try exact absA) <;> (fail_if_success (change true = true at hc)) <;> (fail_if_success (change false = false at hc))) | fail)
    all_goals exact ret1 rfl rfl ⟨by rw [ht], hSt⟩
theorem rwaiting_any (hb : w0.heap[br]? = some (rsO bw gv ev s)) (hg : SlAt w0 gv 7 (s.l.map gC)) (hl : s.l.length ≤ 1000000) : Cl Tryz.prog 80 [Ptr br] w0 (fun v w' => ∃ H1, OwnSl v 3 1 (ints (waitL s.l)) (waitL s.l).length H1 ∧ St w0 NoneS H1 w') := by
  have hSt := St.refl w0 NoneS
  obtain ⟨a, cap, rfl, hcs⟩ := hg.map
  have hq : ([I s.pol, I s.lim, I s.fb, Ptr bw, .slice a s.l.length cap, ev, B s.stop] : List Value)[4]? = some (.slice a s.l.length cap) := rfl
  refine enter Tryz.func80 rfl Tryz.ntmps80 rfl ?_
  repeat' (first | refine stepA ?_ | (refine stepS ?_; clear hSt; intro w hSt; dsimp only [spl, List.set] at hSt) | (refine stepB ?_; clear hSt; intro w nb hnb hSt; dsimp only [zcells, List.nil_append, List.cons_append] at hSt) | (refine W_quiet hT (by decide +kernel) hSt ?_; clear hSt; (repeat' (first | (apply QL_ev rfl rfl; (intro w hSt; (first | exact Ev_auto))) | refine QL_pass rfl rfl ?_ | (refine QL_guardP rfl rfl (fun hc => ?_) (fun hc => ?_) <;> try exact absA) | (refine QL_guard rfl rfl (fun hc => ?_) (fun hc => ?_) <;> (try exact absA) <;> (fail_if_success (change true = true at hc)) <;> (fail_if_success (change false = false at hc))))); all_goals (refine QL_nil (fun w hSt => ?_))) | (refine stepG ?_ ?_ <;> intro hc <;> (try exact absA) <;> (fail_if_success (change true = true at hc)) <;> (fail_if_success (change false = false at hc))) | fail)
  refine W_sub (L' := [(4, I ((0 : Nat) : Int)), (3, .slice none 0 0), (0, Ptr br)]) (by (repeat (first | exact Sub.nil _ | refine Sub.cons rfl ?_))) ?_
  refine W_loop2 (fun k (i : Nat) (v : Value) w => k = s.l.length - i ∧ i ≤ s.l.length ∧ ∃ H1, OwnSl v 3 1 (ints (waitT s.l i)) (waitT s.l i).length H1 ∧ St w0 NoneS ([] ++ H1) w) (fun i v => [(4, I (i : Int)), (3, v)]) s.l.length 0 (.slice none 0 0) rfl (by (repeat (first | exact Str.nil _ | apply Str.drop rfl | apply Str.keepU rfl | apply Str.keep rfl))) ⟨rfl, by omega, [], OwnSl.nil _ _, hSt⟩ (by (repeat (first | exact Sub.nil _ | refine Sub.cons rfl ?_))) ?_
  clear hSt
  rintro k i v w ⟨hk, hi, H1, ho, hSt⟩ K hK
  by_cases hil : i < s.l.length
  · have hlen := hil
    obtain ⟨x, hx⟩ : ∃ x, s.l[i]? = some x := ⟨_, List.getElem?_eq_getElem hil⟩
    have hlt9 : s.l.length - (i + 1) < k := by omega
    obtain ⟨b1, o1, m1, E1, z1, rfl, hb1, hcells, _⟩ := hcs i _ hx
    have hxg := gAt_some hil
    rw [hx] at hxg
    injection hxg with hxg
    rw [← Int.toNat_natCast i] at hcells
    have hqs := stCell hcells
    have hst := waitT_step (l := s.l) (i := i)
    have hol := waitT_len s.l i
    rw [← hxg] at hst
    obtain ⟨va, vc, rfl⟩ := ho.len
    by_cases hm : x.st = 1
    · rw [if_pos hm] at hst
      repeat' (first | (apply WL_ev rfl rfl; exact Ev_load1 hT rfl rfl (hSt.base hb (fun e => e)) hq) | (apply WL_ev rfl rfl; exact Ev_load1 hT rfl rfl (hSt.base hb1 (fun e => e)) hqs) | (refine WL_push1 hT rfl rfl rfl rfl rfl rfl rfl rfl rfl rfl rfl rfl (fun _ => rfl) rfl (H0 := []) hSt ho (by omega) (by omega) ?_; clear hSt; intro v2 w H2 u ho2 hSt) | refine stepA ?_ | (refine stepS ?_; clear hSt; intro w hSt; dsimp only [spl, List.set] at hSt) | (refine stepB ?_; clear hSt; intro w nb hnb hSt; dsimp only [zcells, List.nil_append, List.cons_append] at hSt) | (refine W_quiet hT (by decide +kernel) hSt ?_; clear hSt; (repeat' (first | (apply QL_ev rfl rfl; (intro w hSt; (first | (exact Ev_load1 hT rfl rfl (hSt.base hb (fun e => e)) hq) | (exact Ev_load1 hT rfl rfl (hSt.base hb1 (fun e => e)) hqs) | exact Ev_auto))) | refine QL_pass rfl rfl ?_ | (refine QL_guardP rfl rfl (fun hc => ?_) (fun hc => ?_) <;> try exact absA) | (refine QL_guard rfl rfl (fun hc => ?_) (fun hc => ?_) <;> (try exact absA) <;> (fail_if_success (change true = true at hc)) <;> (fail_if_success (change false = false at hc))))); all_goals (refine QL_nil (fun w hSt => ?_))) | (refine stepG ?_ ?_ <;> intro hc <;> (try exact absA) <;> (fail_if_success (change true = true at hc)) <;> (fail_if_success (change false = false at hc))) | fail)
      all_goals try (exfalso; first | omega | (simp at hc; done) | (exact hc rfl))
      all_goals exact At_loop2 hK (k' := s.l.length - (i + 1)) (i + 1) _ hlt9 ⟨rfl, hil, H2, by rw [hst, ints_snoc, List.length_append]; exact ho2, hSt⟩ (by (repeat (first | exact Sub.nil _ | refine Sub.cons rfl ?_)))
    · rw [if_neg hm, List.append_nil] at hst
      repeat' (first | (apply WL_ev rfl rfl; exact Ev_load1 hT rfl rfl (hSt.base hb (fun e => e)) hq) | (apply WL_ev rfl rfl; exact Ev_load1 hT rfl rfl (hSt.base hb1 (fun e => e)) hqs) | refine stepA ?_ | (refine stepS ?_; clear hSt; intro w hSt; dsimp only [spl, List.set] at hSt) | (refine stepB ?_; clear hSt; intro w nb hnb hSt; dsimp only [zcells, List.nil_append, List.cons_append] at hSt) | (refine W_quiet hT (by decide +kernel) hSt ?_; clear hSt; (repeat' (first | (apply QL_ev rfl rfl; (intro w hSt; (first | (exact Ev_load1 hT rfl rfl (hSt.base hb (fun e => e)) hq) | (exact Ev_load1 hT rfl rfl (hSt.base hb1 (fun e => e)) hqs) | exact Ev_auto))) | refine QL_pass rfl rfl ?_ | (refine QL_guardP rfl rfl (fun hc => ?_) (fun hc => ?_) <;> try exact absA) | (refine QL_guard rfl rfl (fun hc => ?_) (fun hc => ?_) <;> (try exact absA) <;> (fail_if_success (change true = true at hc)) <;> (fail_if_success (change false = false at hc))))); all_goals (refine QL_nil (fun w hSt => ?_))) | (refine stepG ?_ ?_ <;> intro hc <;> (try exact absA) <;> (fail_if_success (change true = true at hc)) <;> (fail_if_success (change false = false at hc))) | fail)
      all_goals try (exfalso; first | omega | (simp at hc; done) | (exact hc rfl))
      all_goals exact At_loop2 hK (k' := s.l.length - (i + 1)) (i + 1) _ hlt9 ⟨rfl, hil, H1, by rw [hst]; exact ho, hSt⟩ (by (repeat (first | exact Sub.nil _ | refine Sub.cons rfl ?_)))
  · obtain rfl : i = s.l.length := by omega
    repeat' (first | (apply WL_ev rfl rfl; exact Ev_load1 hT rfl rfl (hSt.base hb (fun e => e)) hq) | refine stepA ?_ | (refine stepS ?_; clear hSt; intro w hSt; dsimp only [spl, List.set] at hSt) | (refine stepB ?_; clear hSt; intro w nb hnb hSt; dsimp only [zcells, List.nil_append, List.cons_append] at hSt) | (refine W_quiet hT (by decide +kernel) hSt ?_; clear hSt; (repeat' (first | (apply QL_ev rfl rfl; (intro w hSt; (first | (exact Ev_load1 hT rfl rfl (hSt.base hb (fun e => e)) hq) | exact Ev_auto))) | refine QL_pass rfl rfl ?_ | (refine QL_guardP rfl rfl (fun hc => ?_) (fun hc => ?_) <;> try exact absA) | (refine QL_guard rfl rfl (fun hc => ?_) (fun hc => ?_) <;> (try exact absA) <;> (fail_if_success (change true = true at hc)) <;> (fail_if_success (change false = false at hc))))); all_goals (refine QL_nil (fun w hSt => ?_))) | (refine stepG ?_ ?_ <;> intro hc <;> (try exact absA) <;> (fail_if_success (change true = true at hc)) <;> (fail_if_success (change false = false at hc))) | fail)
    all_goals exact ret1 rfl rfl ⟨H1, ho, hSt⟩
end
end Go.Proofs.YtndkifkaejmibaaGreatDoor
