/- The specification's checks and its order of starting. No conditions. -/
import Derived.Test.YtknfankadlokhaaGreatDoorND
import Derived.Test.YtknfankadlokhaaGreatDoorNA
import Derived.Test.YtknfankadlokhaaGreatDoorMD

namespace Go.Proofs.YtknfankadlokhaaGreatDoor
open Go.RowKit
set_option maxRecDepth 4000
set_option linter.unusedVariables false
set_option linter.unusedSimpArgs false
set_option maxHeartbeats 4000000

theorem any_take_hit {α : Type} {l : List α} {p : α → Bool} {i j : Nat} {x : α} (hj : j < i) (hx : l[j]? = some x) (hp : p x = true) : (l.take i).any p = true := by
  rw [List.any_eq_true]
  exact ⟨x, List.mem_of_getElem? (i := j) (by rw [List.getElem?_take, if_pos hj]; exact hx), hp⟩
theorem any_take_no {α : Type} {l : List α} {p : α → Bool} {i : Nat} (hno : ∀ (j : Nat) (x : α), j < i → l[j]? = some x → p x = false) : (l.take i).any p = false := by
  rw [List.any_eq_false]
  intro x hx
  obtain ⟨j, hj⟩ := List.getElem?_of_mem hx
  rw [List.getElem?_take] at hj
  split at hj
  · rename_i hji; rw [hno j x hji hj]; simp
  · cases hj
theorem rstarted_any {w0 : World} {v0 v1 : Value} {ar ns : List Tx} (hs1 : SlAt w0 v0 1 (ar.map tc)) (hs2 : SlAt w0 v1 1 (ns.map tc)) (hl1 : ar.length ≤ 9223372036854775807) (hl2 : ns.length ≤ 9223372036854775807) :
    Cl Tryz.prog 131 [v0, v1] w0 (fun v w' => v = B (ar.all (hasF ns)) ∧ St w0 NoneS [] w') := by
  have hSt := St.refl w0 NoneS
  obtain ⟨a1, p1, rfl, hc1⟩ := hs1.map
  obtain ⟨a2, p2, rfl, hc2⟩ := hs2.map
  refine enter Tryz.func131 rfl Tryz.ntmps131 rfl ?_
  repeat' (first | refine stepA ?_ | (refine stepS ?_; clear hSt; intro w hSt; dsimp only [spl, List.set] at hSt) | (refine stepB ?_; clear hSt; intro w nb hnb hSt; dsimp only [zcells, List.nil_append, List.cons_append] at hSt) | (refine W_quiet hT (by decide +kernel) hSt ?_; clear hSt; (repeat' (first | (apply QL_ev rfl rfl; (intro w hSt; (first | exact Ev_auto))) | refine QL_pass rfl rfl ?_ | (refine QL_guardP rfl rfl (fun hc => ?_) (fun hc => ?_) <;> try exact absA) | (refine QL_guard rfl rfl (fun hc => ?_) (fun hc => ?_) <;> (try exact absA) <;> (fail_if_success (change true = true at hc)) <;> (fail_if_success (change false = false at hc))))); all_goals (refine QL_nil (fun w hSt => ?_))) | (refine stepG ?_ ?_ <;> intro hc <;> (try exact absA) <;> (fail_if_success (change true = true at hc)) <;> (fail_if_success (change false = false at hc))) | fail)
  refine W_loop1 (fun k (i : Nat) w => k = ar.length - i ∧ i ≤ ar.length ∧ (∀ (j : Nat) (n : Tx), j < i → ar[j]? = some n → hasF ns n = true) ∧ St w0 NoneS [] w) (fun i => [(5, I (i : Int))]) ar.length 0 rfl (by (repeat (first | exact Str.nil _ | apply Str.drop rfl | apply Str.keepU rfl | apply Str.keep rfl))) ⟨rfl, by omega, fun j n hj => by omega, hSt⟩ (by (repeat (first | exact Sub.nil _ | refine Sub.cons rfl ?_))) ?_
  clear hSt
  rintro k i w ⟨hk, hi, hno, hSt⟩ K hK
  by_cases hil : i < ar.length
  · obtain ⟨n, hn⟩ : ∃ n, ar[i]? = some n := ⟨_, List.getElem?_eq_getElem hil⟩
    obtain ⟨b1, o1, m1, E1, z1, rfl, hb1, _, q1⟩ := hc1 i n hn
    replace q1 := q1 0 _ rfl
    rw [← Int.toNat_natCast i] at q1
    repeat' (first | refine stepA ?_ | (refine stepS ?_; clear hSt; intro w hSt; dsimp only [spl, List.set] at hSt) | (refine stepB ?_; clear hSt; intro w nb hnb hSt; dsimp only [zcells, List.nil_append, List.cons_append] at hSt) | (refine W_quiet hT (by decide +kernel) hSt ?_; clear hSt; (repeat' (first | (apply QL_ev rfl rfl; (intro w hSt; (first | exact Ev_auto))) | refine QL_pass rfl rfl ?_ | (refine QL_guardP rfl rfl (fun hc => ?_) (fun hc => ?_) <;> try exact absA) | (refine QL_guard rfl rfl (fun hc => ?_) (fun hc => ?_) <;> (try exact absA) <;> (fail_if_success (change true = true at hc)) <;> (fail_if_success (change false = false at hc))))); all_goals (refine QL_nil (fun w hSt => ?_))) | (refine stepG ?_ ?_ <;> intro hc <;> (try exact absA) <;> (fail_if_success (change true = true at hc)) <;> (fail_if_success (change false = false at hc))) | fail)
    refine W_loop2 (fun k2 (j : Nat) (b : Bool) w => k2 = ns.length - j ∧ j ≤ ns.length ∧ b = hasF (ns.take j) n ∧ St w0 NoneS [] w) (fun j b => [(7, I (j : Int)), (6, B b)]) ns.length 0 false rfl (by (repeat (first | exact Str.nil _ | apply Str.drop rfl | apply Str.keepU rfl | apply Str.keep rfl))) ⟨rfl, by omega, rfl, hSt⟩ (by (repeat (first | exact Sub.nil _ | refine Sub.cons rfl ?_))) ?_
    clear hSt
    rintro k2 j b w ⟨hk2, hj, hb, hSt⟩ K2 hK2
    by_cases hjl : j < ns.length
    · obtain ⟨y, hy⟩ : ∃ y, ns[j]? = some y := ⟨_, List.getElem?_eq_getElem hjl⟩
      obtain ⟨b2, o2, m2, E2, z2, rfl, hb2, _, q2⟩ := hc2 j y hy
      replace q2 := q2 0 _ rfl
      rw [← Int.toNat_natCast j] at q2
      have hsn : hasF (ns.take (j + 1)) n = (hasF (ns.take j) n || decide (y = n)) := by
        rw [List.take_add_one, hy]
        show hasF (ns.take j ++ [y]) n = _
        rw [hasF_snoc]
        congr 1
        exact decide_eq_decide.2 ⟨fun h => h.symm, fun h => h.symm⟩
      cases b with
      | true =>
        repeat' (first | (apply WL_ev rfl rfl; exact Ev_load1 hT rfl rfl (hSt.base hb2 (fun e => e)) q2) | (apply WL_ev rfl rfl; exact Ev_load1 hT rfl rfl (hSt.base hb1 (fun e => e)) q1) | refine stepA ?_ | (refine stepS ?_; clear hSt; intro w hSt; dsimp only [spl, List.set] at hSt) | (refine stepB ?_; clear hSt; intro w nb hnb hSt; dsimp only [zcells, List.nil_append, List.cons_append] at hSt) | (refine W_quiet hT (by decide +kernel) hSt ?_; clear hSt; (repeat' (first | (apply QL_ev rfl rfl; (intro w hSt; (first | (exact Ev_load1 hT rfl rfl (hSt.base hb2 (fun e => e)) q2) | (exact Ev_load1 hT rfl rfl (hSt.base hb1 (fun e => e)) q1) | exact Ev_auto))) | refine QL_pass rfl rfl ?_ | (refine QL_guardP rfl rfl (fun hc => ?_) (fun hc => ?_) <;> try exact absA) | (refine QL_guard rfl rfl (fun hc => ?_) (fun hc => ?_) <;> (try exact absA) <;> (fail_if_success (change true = true at hc)) <;> (fail_if_success (change false = false at hc))))); all_goals (refine QL_nil (fun w hSt => ?_))) | (refine stepG ?_ ?_ <;> intro hc <;> (try exact absA) <;> (fail_if_success (change true = true at hc)) <;> (fail_if_success (change false = false at hc))) | fail)
        exact At_loop2 hK2 (k' := ns.length - (j + 1)) (j + 1) true (by omega) ⟨rfl, by omega, by rw [hsn, ← hb]; rfl, hSt⟩ (by (repeat (first | exact Sub.nil _ | refine Sub.cons rfl ?_)))
      | false =>
        repeat' (first | (apply WL_ev rfl rfl; exact Ev_load1 hT rfl rfl (hSt.base hb2 (fun e => e)) q2) | (apply WL_ev rfl rfl; exact Ev_load1 hT rfl rfl (hSt.base hb1 (fun e => e)) q1) | refine stepA ?_ | (refine stepS ?_; clear hSt; intro w hSt; dsimp only [spl, List.set] at hSt) | (refine stepB ?_; clear hSt; intro w nb hnb hSt; dsimp only [zcells, List.nil_append, List.cons_append] at hSt) | (refine W_quiet hT (by decide +kernel) hSt ?_; clear hSt; (repeat' (first | (apply QL_ev rfl rfl; (intro w hSt; (first | (exact Ev_load1 hT rfl rfl (hSt.base hb2 (fun e => e)) q2) | (exact Ev_load1 hT rfl rfl (hSt.base hb1 (fun e => e)) q1) | exact Ev_auto))) | refine QL_pass rfl rfl ?_ | (refine QL_guardP rfl rfl (fun hc => ?_) (fun hc => ?_) <;> try exact absA) | (refine QL_guard rfl rfl (fun hc => ?_) (fun hc => ?_) <;> (try exact absA) <;> (fail_if_success (change true = true at hc)) <;> (fail_if_success (change false = false at hc))))); all_goals (refine QL_nil (fun w hSt => ?_))) | (refine stepG ?_ ?_ <;> intro hc <;> (try exact absA) <;> (fail_if_success (change true = true at hc)) <;> (fail_if_success (change false = false at hc))) | fail)
        exact At_loop2 hK2 (k' := ns.length - (j + 1)) (j + 1) (decide (y = n)) (by omega) ⟨rfl, by omega, by rw [hsn, ← hb]; rfl, hSt⟩ (by (repeat (first | exact Sub.nil _ | refine Sub.cons rfl ?_)))
    · have hjt : ns.take j = ns := List.take_of_length_le (by omega)
      rw [hjt] at hb
      subst hb
      repeat' (first | refine stepA ?_ | (refine stepS ?_; clear hSt; intro w hSt; dsimp only [spl, List.set] at hSt) | (refine stepB ?_; clear hSt; intro w nb hnb hSt; dsimp only [zcells, List.nil_append, List.cons_append] at hSt) | (refine W_quiet hT (by decide +kernel) hSt ?_; clear hSt; (repeat' (first | (apply QL_ev rfl rfl; (intro w hSt; (first | exact Ev_auto))) | refine QL_pass rfl rfl ?_ | (refine QL_guardP rfl rfl (fun hc => ?_) (fun hc => ?_) <;> try exact absA) | (refine QL_guard rfl rfl (fun hc => ?_) (fun hc => ?_) <;> (try exact absA) <;> (fail_if_success (change true = true at hc)) <;> (fail_if_success (change false = false at hc))))); all_goals (refine QL_nil (fun w hSt => ?_))) | (refine stepG ?_ ?_ <;> intro hc <;> (try exact absA) <;> (fail_if_success (change true = true at hc)) <;> (fail_if_success (change false = false at hc))) | fail)
      · refine ret1 rfl rfl ⟨congrArg B ?_, hSt⟩
        exact (all_no hn (by simpa using hc)).symm
      · exact At_loop1 hK (k' := ar.length - (i + 1)) (i + 1) (by omega) ⟨rfl, by omega, pno_snoc (p := fun n => hasF ns n = true) hno hn (by simpa using hc), hSt⟩ (by (repeat (first | exact Sub.nil _ | refine Sub.cons rfl ?_)))
  · repeat' (first | refine stepA ?_ | (refine stepS ?_; clear hSt; intro w hSt; dsimp only [spl, List.set] at hSt) | (refine stepB ?_; clear hSt; intro w nb hnb hSt; dsimp only [zcells, List.nil_append, List.cons_append] at hSt) | (refine W_quiet hT (by decide +kernel) hSt ?_; clear hSt; (repeat' (first | (apply QL_ev rfl rfl; (intro w hSt; (first | exact Ev_auto))) | refine QL_pass rfl rfl ?_ | (refine QL_guardP rfl rfl (fun hc => ?_) (fun hc => ?_) <;> try exact absA) | (refine QL_guard rfl rfl (fun hc => ?_) (fun hc => ?_) <;> (try exact absA) <;> (fail_if_success (change true = true at hc)) <;> (fail_if_success (change false = false at hc))))); all_goals (refine QL_nil (fun w hSt => ?_))) | (refine stepG ?_ ?_ <;> intro hc <;> (try exact absA) <;> (fail_if_success (change true = true at hc)) <;> (fail_if_success (change false = false at hc))) | fail)
    exact ret1 rfl rfl ⟨congrArg B (all_at (fun j n hj hn => hno j n (by omega) hn)).symm, hSt⟩
theorem idx_take {l : List Ln} {i : Nat} {n : Tx} : idxF l n < (i : Int) ∧ 0 ≤ idxF l n ↔ 0 ≤ idxF (l.take i) n := by
  constructor
  · rintro ⟨h1, h2⟩
    obtain ⟨j, x, hj, hx, hn⟩ := idxF_at h2
    rw [idxF_mem]
    unfold nodesF
    exact List.mem_map.2 ⟨x, List.mem_of_getElem? (i := j) (by rw [List.getElem?_take, if_pos (by omega)]; exact hx), hn⟩
  · intro h
    obtain ⟨j, x, hj, hx, hn⟩ := idxF_at h
    rw [List.getElem?_take] at hx
    split at hx
    · rename_i hji
      have h0 : 0 ≤ idxF l n := idxF_mem.2 (by unfold nodesF; exact List.mem_map.2 ⟨x, List.mem_of_getElem? hx, hn⟩)
      refine ⟨?_, h0⟩
      rcases idxP_spec (fun x : Ln => decide (x.node = n)) l with ⟨h1, _⟩ | ⟨k, y, h1, h2, h3, h4⟩
      · unfold idxF at h0; omega
      · unfold idxF
        rw [h1]
        rcases Nat.lt_or_ge j k with h5 | h5
        · have := h4 j x h5 hx
          rw [hn] at this; simp at this
        · omega
    · cases hx
theorem rentry_any {w0 : World} {v0 : Value} {l : List Ln} {i : Nat} {x : Ln} (h : Lns w0 v0 l) (hx : l[i]? = some x) (hlv : levC x.cond ≤ 9223372036854775807) : Cl Tryz.prog 105 [v0, I (i : Int)] w0 (fun v w' => v = I (entryF l i) ∧ St w0 NoneS [] w') := by
  have hL := h
  obtain ⟨a1, p1, xs, rfl, hcap, hlen, hxl, hs, h3, hc1⟩ := h.out
  have hil := (List.getElem?_eq_some_iff.1 hx).1
  have hen := entryF_at hx
  obtain ⟨cx, b1, o1, c1, E1, z1, hcx, hle, rfl, hb1, q, hq8⟩ := hc1 i x hx
  obtain ⟨v1, va, vs, rfl, hcnd, hsa, hss, _, _, hla, hls, hst⟩ := hle
  obtain ⟨v1a, v1n, v1c, rfl⟩ := cond_slice hcnd
  obtain ⟨a2, p2, rfl, hc2⟩ := hsa.map
  obtain ⟨a3, p3, rfl, hc3⟩ := hss.map
  have hix := idx_take (l := l) (i := i) (n := x.node)
  have hxin : 0 ≤ idxF l x.node := idxF_mem.2 (by unfold nodesF; exact List.mem_map.2 ⟨x, List.mem_of_getElem? hx, rfl⟩)
  have hSt := St.refl w0 NoneS
  refine enter Tryz.func105 rfl Tryz.ntmps105 rfl ?_
  repeat' (first | (refine WL_isCall (f := 127) ?_; refine WL_call (ok_call hT rfl) rfl rfl rfl (rname_any _) ?_; rintro v w' ⟨rfl, hc2⟩; replace hSt := hSt.call0 hc2; clear hc2) | (refine WL_isCall (f := 128) ?_; refine WL_call (ok_call hT rfl) rfl rfl rfl (rindex_any x.node (hL.kept hSt.nil.keeps)) ?_; rintro v w' ⟨rfl, hc2⟩; replace hSt := (hSt.call0 hc2); clear hc2) | (refine WL_isCall (f := 68) ?_; refine WL_call (ok_call hT rfl) rfl rfl rfl (rlevels_any _ (hcnd.kept hSt.nil.keeps) hlv) ?_; rintro v w' ⟨rfl, hc2⟩; replace hSt := (hSt.call0 hc2); clear hc2) | (refine WL_isCall (f := 129) ?_; refine WL_call (ok_call hT rfl) rfl rfl rfl (rformed_any _ (hcnd.kept hSt.nil.keeps)) ?_; rintro v w' ⟨rfl, hc2⟩; replace hSt := (hSt.call0 hc2); clear hc2) | (apply WL_ev rfl rfl; exact Ev_loadN hT rfl rfl (hSt.base hb1 (fun e => e)) q rfl) | refine stepA ?_ | (refine stepS ?_; clear hSt; intro w hSt; dsimp only [spl, List.set] at hSt) | (refine stepB ?_; clear hSt; intro w nb hnb hSt; dsimp only [zcells, List.nil_append, List.cons_append] at hSt) | (refine W_quiet hT (by decide +kernel) hSt ?_; clear hSt; (repeat' (first | (apply QL_ev rfl rfl; (intro w hSt; (first | (exact Ev_loadN hT rfl rfl (hSt.base hb1 (fun e => e)) q rfl) | exact Ev_auto))) | refine QL_pass rfl rfl ?_ | (refine QL_guardP rfl rfl (fun hc => ?_) (fun hc => ?_) <;> try exact absA) | (refine QL_guard rfl rfl (fun hc => ?_) (fun hc => ?_) <;> (try exact absA) <;> (fail_if_success (change true = true at hc)) <;> (fail_if_success (change false = false at hc))))); all_goals (refine QL_nil (fun w hSt => ?_))) | (refine stepG ?_ ?_ <;> intro hc <;> (try exact absA) <;> (fail_if_success (change true = true at hc)) <;> (fail_if_success (change false = false at hc))) | fail)
  · exact ret1 rfl rfl ⟨by rw [hen, if_pos (by assumption)], hSt.nil⟩
  · exact ret1 rfl rfl ⟨by rw [hen, if_neg (Bool.eq_false_iff.1 (by assumption)), if_pos (by assumption)], hSt.nil⟩
  · exact ret1 rfl rfl ⟨by rw [hen, if_neg (Bool.eq_false_iff.1 (by assumption)), if_neg (Bool.eq_false_iff.1 (by assumption)), if_pos (by omega)], hSt.nil⟩
  · refine ret1 rfl rfl ⟨?_, hSt.nil⟩
    have hcd : condF x.cond = 9 := by unfold condF; rw [if_pos (by omega)]
    rw [hen, if_neg (Bool.eq_false_iff.1 (by assumption)), if_neg (Bool.eq_false_iff.1 (by assumption)), if_neg (by omega), if_pos (by rw [hcd]; decide), hcd]
  · refine ret1 rfl rfl ⟨?_, hSt.nil⟩
    have hcd : condF x.cond = 2 := by unfold condF; rw [if_neg (by omega), if_neg (by simpa using hc)]
    rw [hen, if_neg (Bool.eq_false_iff.1 (by assumption)), if_neg (Bool.eq_false_iff.1 (by assumption)), if_neg (by omega), if_pos (by rw [hcd]; decide), hcd]
  have hcd : condF x.cond = 0 := by unfold condF; rw [if_neg (by omega), if_pos (by simpa using hc)]
  have hen2 : entryF l i = listsF l x := by rw [hen, if_neg (Bool.eq_false_iff.1 (by assumption)), if_neg (Bool.eq_false_iff.1 (by assumption)), if_neg (by omega), if_neg (by rw [hcd]; decide)]
  rw [hen2]
  refine W_loop1 (fun k (t : Nat) w => k = x.sets.length - t ∧ t ≤ x.sets.length ∧ (∀ j, j < t → setE x.sets j = 0) ∧ St w0 NoneS [(nb, blk [S x.node, S x.prog, I x.cond.op, S x.cond.name, S x.cond.text, .slice v1a v1n v1c, .slice a2 x.after.length p2, .slice a3 x.sets.length p3] 40)] w) (fun t => [(6, I (t : Int))]) x.sets.length 0 rfl (by (repeat (first | exact Str.nil _ | apply Str.drop rfl | apply Str.keepU rfl | apply Str.keep rfl))) ⟨rfl, by omega, by intro j hj; omega, hSt⟩ (by (repeat (first | exact Sub.nil _ | refine Sub.cons rfl ?_))) ?_
  clear hSt
  rintro k t w ⟨hk, ht, hno, hSt⟩ K hK
  by_cases htl : t < x.sets.length
  · obtain ⟨s, hs⟩ : ∃ s, x.sets[t]? = some s := ⟨_, List.getElem?_eq_getElem htl⟩
    obtain ⟨b3, o3, m3, E3, z3, rfl, hb3, _, q3⟩ := hc3 t _ hs
    have q30 := q3 0 _ rfl
    have q31 := q3 1 _ rfl
    rw [← Int.toNat_natCast t] at q30 q31
    have hse := setE_at hs
    have hstl := hst s (List.mem_of_getElem? hs)
    repeat' (first | (apply WL_ev rfl rfl; exact Ev_load1 hT rfl rfl (hSt.base hb3 (fun e => e)) q30) | (refine WL_isCall (f := 127) ?_; refine WL_call (ok_call hT rfl) rfl rfl rfl (rname_any _) ?_; rintro v w' ⟨rfl, hc2⟩; replace hSt := hSt.call0 hc2; clear hc2) | refine stepA ?_ | (refine stepS ?_; clear hSt; intro w hSt; dsimp only [spl, List.set] at hSt) | (refine stepB ?_; clear hSt; intro w nb hnb hSt; dsimp only [zcells, List.nil_append, List.cons_append] at hSt) | (refine W_quiet hT (by decide +kernel) hSt ?_; clear hSt; (repeat' (first | (apply QL_ev rfl rfl; (intro w hSt; (first | (exact Ev_load1 hT rfl rfl (hSt.base hb3 (fun e => e)) q30) | exact Ev_auto))) | refine QL_pass rfl rfl ?_ | (refine QL_guardP rfl rfl (fun hc => ?_) (fun hc => ?_) <;> try exact absA) | (refine QL_guard rfl rfl (fun hc => ?_) (fun hc => ?_) <;> (try exact absA) <;> (fail_if_success (change true = true at hc)) <;> (fail_if_success (change false = false at hc))))); all_goals (refine QL_nil (fun w hSt => ?_))) | (refine stepG ?_ ?_ <;> intro hc <;> (try exact absA) <;> (fail_if_success (change true = true at hc)) <;> (fail_if_success (change false = false at hc))) | fail)
    · exact ret1 rfl rfl ⟨by rw [lists_hit1 (e := 5) htl hno (by rw [hse, if_pos (by assumption)]) (by omega)], hSt.nil⟩
    refine W_loop1 (fun k2 (j : Nat) w => k2 = t - j ∧ j ≤ t ∧ (∀ (j' : Nat) (y : Sg), j' < j → x.sets[j']? = some y → (fun y : Sg => decide (y.1 = s.1)) y = false) ∧ St w0 NoneS [(nb, blk [S x.node, S x.prog, I x.cond.op, S x.cond.name, S x.cond.text, .slice v1a v1n v1c, .slice a2 x.after.length p2, .slice (some ⟨b3, o3, none⟩) x.sets.length p3] 40)] w) (fun j => [(7, I (j : Int))]) t 0 rfl (by (repeat (first | exact Str.nil _ | apply Str.drop rfl | apply Str.keepU rfl | apply Str.keep rfl))) ⟨rfl, by omega, fun j' y hj => by omega, hSt⟩ (by (repeat (first | exact Sub.nil _ | refine Sub.cons rfl ?_))) ?_
    clear hSt
    rintro k2 j w ⟨hk2, hj, hnoj, hSt⟩ K2 hK2
    by_cases hjt : j < t
    · obtain ⟨y, hy⟩ : ∃ y, x.sets[j]? = some y := ⟨_, List.getElem?_eq_getElem (by omega)⟩
      obtain ⟨b4, o4, m4, E4, z4, e4, hb4, _, q4⟩ := hc3 j _ hy
      injection e4 with e4
      injection e4 with e41 e42
      subst e41; subst e42
      replace q4 := q4 0 _ rfl
      rw [← Int.toNat_natCast j] at q4
      repeat' (first | (apply WL_ev rfl rfl; exact Ev_load1 hT rfl rfl (hSt.base hb4 (fun e => e)) q4) | (apply WL_ev rfl rfl; exact Ev_load1 hT rfl rfl (hSt.base hb3 (fun e => e)) q30) | refine stepA ?_ | (refine stepS ?_; clear hSt; intro w hSt; dsimp only [spl, List.set] at hSt) | (refine stepB ?_; clear hSt; intro w nb hnb hSt; dsimp only [zcells, List.nil_append, List.cons_append] at hSt) | (refine W_quiet hT (by decide +kernel) hSt ?_; clear hSt; (repeat' (first | (apply QL_ev rfl rfl; (intro w hSt; (first | (exact Ev_load1 hT rfl rfl (hSt.base hb4 (fun e => e)) q4) | (exact Ev_load1 hT rfl rfl (hSt.base hb3 (fun e => e)) q30) | exact Ev_auto))) | refine QL_pass rfl rfl ?_ | (refine QL_guardP rfl rfl (fun hc => ?_) (fun hc => ?_) <;> try exact absA) | (refine QL_guard rfl rfl (fun hc => ?_) (fun hc => ?_) <;> (try exact absA) <;> (fail_if_success (change true = true at hc)) <;> (fail_if_success (change false = false at hc))))); all_goals (refine QL_nil (fun w hSt => ?_))) | (refine stepG ?_ ?_ <;> intro hc <;> (try exact absA) <;> (fail_if_success (change true = true at hc)) <;> (fail_if_success (change false = false at hc))) | fail)
      · have hany : (x.sets.take t).any (fun y => decide (y.1 = s.1)) = true := any_take_hit hjt hy (decide_eq_true (by assumption))
        exact ret1 rfl rfl ⟨by rw [lists_hit1 (e := 7) htl hno (by rw [hse, if_neg (Bool.eq_false_iff.1 (by assumption)), if_pos hany]) (by omega)], hSt.nil⟩
      · exact At_loop1 hK2 (k' := t - (j + 1)) (j + 1) (by omega) ⟨rfl, by omega, hno_snoc hnoj hy (decide_eq_false (by assumption)), hSt⟩ (by (repeat (first | exact Sub.nil _ | refine Sub.cons rfl ?_)))
    · have hany : (x.sets.take t).any (fun y => decide (y.1 = s.1)) = false := any_take_no (fun j' y hj' hy => hnoj j' y (by omega) hy)
      repeat' (first | (apply WL_ev rfl rfl; exact Ev_load1 hT rfl rfl (hSt.base hb3 (fun e => e)) q31) | (refine WL_isCall (f := 130) ?_; refine WL_call (ok_call hT rfl) rfl rfl rfl (rplain_any _ hstl) ?_; rintro v w' ⟨rfl, hc2⟩; replace hSt := hSt.call0 hc2; clear hc2) | refine stepA ?_ | (refine stepS ?_; clear hSt; intro w hSt; dsimp only [spl, List.set] at hSt) | (refine stepB ?_; clear hSt; intro w nb hnb hSt; dsimp only [zcells, List.nil_append, List.cons_append] at hSt) | (refine W_quiet hT (by decide +kernel) hSt ?_; clear hSt; (repeat' (first | (apply QL_ev rfl rfl; (intro w hSt; (first | (exact Ev_load1 hT rfl rfl (hSt.base hb3 (fun e => e)) q31) | exact Ev_auto))) | refine QL_pass rfl rfl ?_ | (refine QL_guardP rfl rfl (fun hc => ?_) (fun hc => ?_) <;> try exact absA) | (refine QL_guard rfl rfl (fun hc => ?_) (fun hc => ?_) <;> (try exact absA) <;> (fail_if_success (change true = true at hc)) <;> (fail_if_success (change false = false at hc))))); all_goals (refine QL_nil (fun w hSt => ?_))) | (refine stepG ?_ ?_ <;> intro hc <;> (try exact absA) <;> (fail_if_success (change true = true at hc)) <;> (fail_if_success (change false = false at hc))) | fail)
      · exact ret1 rfl rfl ⟨by rw [lists_hit1 (e := 2) htl hno (by rw [hse, if_neg (Bool.eq_false_iff.1 (by assumption)), if_neg (Bool.eq_false_iff.1 hany), if_pos (by assumption)]) (by omega)], hSt.nil⟩
      · exact At_loop1 hK (k' := x.sets.length - (t + 1)) (t + 1) (by omega) ⟨rfl, by omega, fno_snoc hno (by rw [hse, if_neg (Bool.eq_false_iff.1 (by assumption)), if_neg (Bool.eq_false_iff.1 hany), if_neg (Bool.eq_false_iff.1 (by assumption))]), hSt⟩ (by (repeat (first | exact Sub.nil _ | refine Sub.cons rfl ?_)))
  · have hi2 : t = x.sets.length := by omega
    subst hi2
    rw [lists_two hno]
    repeat' (first | refine stepA ?_ | (refine stepS ?_; clear hSt; intro w hSt; dsimp only [spl, List.set] at hSt) | (refine stepB ?_; clear hSt; intro w nb hnb hSt; dsimp only [zcells, List.nil_append, List.cons_append] at hSt) | (refine W_quiet hT (by decide +kernel) hSt ?_; clear hSt; (repeat' (first | (apply QL_ev rfl rfl; (intro w hSt; (first | exact Ev_auto))) | refine QL_pass rfl rfl ?_ | (refine QL_guardP rfl rfl (fun hc => ?_) (fun hc => ?_) <;> try exact absA) | (refine QL_guard rfl rfl (fun hc => ?_) (fun hc => ?_) <;> (try exact absA) <;> (fail_if_success (change true = true at hc)) <;> (fail_if_success (change false = false at hc))))); all_goals (refine QL_nil (fun w hSt => ?_))) | (refine stepG ?_ ?_ <;> intro hc <;> (try exact absA) <;> (fail_if_success (change true = true at hc)) <;> (fail_if_success (change false = false at hc))) | fail)
    refine W_loop1 (fun k (t : Nat) w => k = x.after.length - t ∧ t ≤ x.after.length ∧ (∀ j, j < t → aftE l x.after j = 0) ∧ St w0 NoneS [(nb, blk [S x.node, S x.prog, I x.cond.op, S x.cond.name, S x.cond.text, .slice v1a v1n v1c, .slice a2 x.after.length p2, .slice a3 x.sets.length p3] 40)] w) (fun t => [(8, I (t : Int))]) x.after.length 0 rfl (by (repeat (first | exact Str.nil _ | apply Str.drop rfl | apply Str.keepU rfl | apply Str.keep rfl))) ⟨rfl, by omega, by intro j hj; omega, hSt⟩ (by (repeat (first | exact Sub.nil _ | refine Sub.cons rfl ?_))) ?_
    clear hSt
    rintro k t w ⟨hk, ht2, hno2, hSt⟩ K3 hK3
    by_cases htl2 : t < x.after.length
    · obtain ⟨n, hn⟩ : ∃ n, x.after[t]? = some n := ⟨_, List.getElem?_eq_getElem htl2⟩
      obtain ⟨b3, o3, m3, E3, z3, rfl, hb3, _, q3⟩ := hc2 t _ hn
      replace q3 := q3 0 _ rfl
      rw [← Int.toNat_natCast t] at q3
      have hse := aftE_at (l := l) hn
      repeat' (first | (apply WL_ev rfl rfl; exact Ev_load1 hT rfl rfl (hSt.base hb3 (fun e => e)) q3) | (refine WL_isCall (f := 128) ?_; refine WL_call (ok_call hT rfl) rfl rfl rfl (rindex_any n (hL.kept hSt.nil.keeps)) ?_; rintro v w' ⟨rfl, hc2⟩; replace hSt := (hSt.call0 hc2); clear hc2) | refine stepA ?_ | (refine stepS ?_; clear hSt; intro w hSt; dsimp only [spl, List.set] at hSt) | (refine stepB ?_; clear hSt; intro w nb hnb hSt; dsimp only [zcells, List.nil_append, List.cons_append] at hSt) | (refine W_quiet hT (by decide +kernel) hSt ?_; clear hSt; (repeat' (first | (apply QL_ev rfl rfl; (intro w hSt; (first | (exact Ev_load1 hT rfl rfl (hSt.base hb3 (fun e => e)) q3) | exact Ev_auto))) | refine QL_pass rfl rfl ?_ | (refine QL_guardP rfl rfl (fun hc => ?_) (fun hc => ?_) <;> try exact absA) | (refine QL_guard rfl rfl (fun hc => ?_) (fun hc => ?_) <;> (try exact absA) <;> (fail_if_success (change true = true at hc)) <;> (fail_if_success (change false = false at hc))))); all_goals (refine QL_nil (fun w hSt => ?_))) | (refine stepG ?_ ?_ <;> intro hc <;> (try exact absA) <;> (fail_if_success (change true = true at hc)) <;> (fail_if_success (change false = false at hc))) | fail)
      · exact ret1 rfl rfl ⟨by rw [firstE_hit htl2 (by rw [hse, if_pos hc]; decide) hno2, hse, if_pos hc], hSt.nil⟩
      have hc9 := hc
      refine W_loop1 (fun k2 (j : Nat) w => k2 = t - j ∧ j ≤ t ∧ (∀ (j' : Nat) (y : Tx), j' < j → x.after[j']? = some y → (fun y => decide (n = y)) y = false) ∧ St w0 NoneS [(nb, blk [S x.node, S x.prog, I x.cond.op, S x.cond.name, S x.cond.text, .slice v1a v1n v1c, .slice (some ⟨b3, o3, none⟩) x.after.length p2, .slice a3 x.sets.length p3] 40)] w) (fun j => [(9, I (j : Int))]) t 0 rfl (by (repeat (first | exact Str.nil _ | apply Str.drop rfl | apply Str.keepU rfl | apply Str.keep rfl))) ⟨rfl, by omega, fun j' y hj => by omega, hSt⟩ (by (repeat (first | exact Sub.nil _ | refine Sub.cons rfl ?_))) ?_
      clear hSt
      rintro k2 j w ⟨hk2, hj, hnoj, hSt⟩ K2 hK2
      by_cases hjt : j < t
      · obtain ⟨y, hy⟩ : ∃ y, x.after[j]? = some y := ⟨_, List.getElem?_eq_getElem (by omega)⟩
        obtain ⟨b4, o4, m4, E4, z4, e4, hb4, _, q4⟩ := hc2 j _ hy
        injection e4 with e4
        injection e4 with e41 e42
        subst e41; subst e42
        replace q4 := q4 0 _ rfl
        rw [← Int.toNat_natCast j] at q4
        repeat' (first | (apply WL_ev rfl rfl; exact Ev_load1 hT rfl rfl (hSt.base hb4 (fun e => e)) q4) | (apply WL_ev rfl rfl; exact Ev_load1 hT rfl rfl (hSt.base hb3 (fun e => e)) q3) | refine stepA ?_ | (refine stepS ?_; clear hSt; intro w hSt; dsimp only [spl, List.set] at hSt) | (refine stepB ?_; clear hSt; intro w nb hnb hSt; dsimp only [zcells, List.nil_append, List.cons_append] at hSt) | (refine W_quiet hT (by decide +kernel) hSt ?_; clear hSt; (repeat' (first | (apply QL_ev rfl rfl; (intro w hSt; (first | (exact Ev_load1 hT rfl rfl (hSt.base hb4 (fun e => e)) q4) | (exact Ev_load1 hT rfl rfl (hSt.base hb3 (fun e => e)) q3) | exact Ev_auto))) | refine QL_pass rfl rfl ?_ | (refine QL_guardP rfl rfl (fun hc => ?_) (fun hc => ?_) <;> try exact absA) | (refine QL_guard rfl rfl (fun hc => ?_) (fun hc => ?_) <;> (try exact absA) <;> (fail_if_success (change true = true at hc)) <;> (fail_if_success (change false = false at hc))))); all_goals (refine QL_nil (fun w hSt => ?_))) | (refine stepG ?_ ?_ <;> intro hc <;> (try exact absA) <;> (fail_if_success (change true = true at hc)) <;> (fail_if_success (change false = false at hc))) | fail)
        · have hyn : y = n := by assumption
          have hany : hasF (x.after.take t) n = true := any_take_hit (p := fun y => decide (n = y)) hjt hy (decide_eq_true hyn.symm)
          have e7 : aftE l x.after t = 7 := by rw [hse, if_neg hc9, if_pos hany]
          exact ret1 rfl rfl ⟨by rw [firstE_hit htl2 (by rw [e7]; decide) hno2, e7], hSt.nil⟩
        · have hyn : ¬ y = n := by assumption
          exact At_loop1 hK2 (k' := t - (j + 1)) (j + 1) (by omega) ⟨rfl, by omega, hno_snoc hnoj hy (decide_eq_false (fun e => hyn e.symm)), hSt⟩ (by (repeat (first | exact Sub.nil _ | refine Sub.cons rfl ?_)))
      · have hany : hasF (x.after.take t) n = false := any_take_no (p := fun y => decide (n = y)) (fun j' y hj' hy => hnoj j' y (by omega) hy)
        repeat' (first | refine stepA ?_ | (refine stepS ?_; clear hSt; intro w hSt; dsimp only [spl, List.set] at hSt) | (refine stepB ?_; clear hSt; intro w nb hnb hSt; dsimp only [zcells, List.nil_append, List.cons_append] at hSt) | (refine W_quiet hT (by decide +kernel) hSt ?_; clear hSt; (repeat' (first | (apply QL_ev rfl rfl; (intro w hSt; (first | exact Ev_auto))) | refine QL_pass rfl rfl ?_ | (refine QL_guardP rfl rfl (fun hc => ?_) (fun hc => ?_) <;> try exact absA) | (refine QL_guard rfl rfl (fun hc => ?_) (fun hc => ?_) <;> (try exact absA) <;> (fail_if_success (change true = true at hc)) <;> (fail_if_success (change false = false at hc))))); all_goals (refine QL_nil (fun w hSt => ?_))) | (refine stepG ?_ ?_ <;> intro hc <;> (try exact absA) <;> (fail_if_success (change true = true at hc)) <;> (fail_if_success (change false = false at hc))) | fail)
        exact At_loop1 hK3 (k' := x.after.length - (t + 1)) (t + 1) (by omega) ⟨rfl, by omega, fno_snoc hno2 (by rw [hse, if_neg hc9, if_neg (Bool.eq_false_iff.1 hany)]), hSt⟩ (by (repeat (first | exact Sub.nil _ | refine Sub.cons rfl ?_)))
    · repeat' (first | refine stepA ?_ | (refine stepS ?_; clear hSt; intro w hSt; dsimp only [spl, List.set] at hSt) | (refine stepB ?_; clear hSt; intro w nb hnb hSt; dsimp only [zcells, List.nil_append, List.cons_append] at hSt) | (refine W_quiet hT (by decide +kernel) hSt ?_; clear hSt; (repeat' (first | (apply QL_ev rfl rfl; (intro w hSt; (first | exact Ev_auto))) | refine QL_pass rfl rfl ?_ | (refine QL_guardP rfl rfl (fun hc => ?_) (fun hc => ?_) <;> try exact absA) | (refine QL_guard rfl rfl (fun hc => ?_) (fun hc => ?_) <;> (try exact absA) <;> (fail_if_success (change true = true at hc)) <;> (fail_if_success (change false = false at hc))))); all_goals (refine QL_nil (fun w hSt => ?_))) | (refine stepG ?_ ?_ <;> intro hc <;> (try exact absA) <;> (fail_if_success (change true = true at hc)) <;> (fail_if_success (change false = false at hc))) | fail)
      exact ret1 rfl rfl ⟨by rw [firstE_none (fun j hj => hno2 j (by omega))], hSt.nil⟩
end Go.Proofs.YtknfankadlokhaaGreatDoor
