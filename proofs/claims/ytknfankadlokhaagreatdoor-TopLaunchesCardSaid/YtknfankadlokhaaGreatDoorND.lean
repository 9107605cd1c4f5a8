/- Where a node stands; what is wrong with an entry's lists; the order of starting; Check. No conditions. -/
import Derived.Test.YtknfankadlokhaaGreatDoorNC
import Derived.Test.YtknfankadlokhaaGreatDoorMD
import Derived.Test.YtknfankadlokhaaGreatDoorNA

namespace Go.Proofs.YtknfankadlokhaaGreatDoor
open Go.RowKit
set_option maxRecDepth 4000
set_option linter.unusedVariables false
set_option linter.unusedSimpArgs false
set_option maxHeartbeats 4000000

theorem sl_take {w : World} {a : Option Addr} {n cap : Nat} {z : Nat} {xs : List (List Value)} (h : SlAt w (.slice a n cap) z xs) {k : Int} (h0 : 0 ≤ k) (hk : k.toNat ≤ n) {u : Value} (hu : u = (.slice (if cap = (0 : Int).toNat then a else a.map (·.add ((0 : Int).toNat * z))) (k.toNat - (0 : Int).toNat) (cap - (0 : Int).toNat))) : SlAt w u z (xs.take k.toNat) := by
  subst hu
  have e : (if cap = (0 : Int).toNat then a else a.map (·.add ((0 : Int).toNat * z))) = a := by
    split
    · rfl
    · cases a with
      | none => rfl
      | some a => simp [Addr.add]
  rw [e]
  exact h.take _ hk
theorem Lns.take {w : World} {a : Option Addr} {n cap : Nat} {l : List Ln} (h : Lns w (.slice a n cap) l) {k : Int} (h0 : 0 ≤ k) (hk : k.toNat ≤ n) : Lns w (.slice (if cap = (0 : Int).toNat then a else a.map (·.add ((0 : Int).toNat * 8))) (k.toNat - (0 : Int).toNat) (cap - (0 : Int).toNat)) (l.take k.toNat) := by
  obtain ⟨⟨xs, h1, h2, h3⟩, hc, hl⟩ := h
  have hcl := hc.le
  refine ⟨⟨xs.take k.toNat, sl_take h1 h0 hk rfl, by simp [h2], fun i x e hx he => ?_⟩, capO.mk (by simp; omega), by simp; omega⟩
  rw [List.getElem?_take] at hx he
  split at hx
  · rename_i hi
    rw [if_pos hi] at he
    exact h3 i x e hx he
  · cases hx
theorem idx1_any {w0 : World} {cs : List Value} {x : Ln} {n : Tx} {b : Nat} (h : LnAt w0 cs x) (hb : w0.heap[b]? = some (blk [S n] 9)) : Cl Tryz.prog 84 [.agg ⟨cs⟩, Ptr b] w0 (fun v w' => v = B (decide (x.node = n)) ∧ St w0 NoneS [] w') := by
  obtain ⟨v1, va, vs, rfl, _⟩ := h
  have hSt := St.refl w0 NoneS
  refine enter Tryz.func84 rfl Tryz.ntmps84 rfl ?_
  repeat' (first | (apply WL_ev rfl rfl; exact Ev_load1 hT rfl rfl (hSt.base hb (fun e => e)) rfl) | refine stepA ?_ | (refine stepS ?_; clear hSt; intro w hSt; dsimp only [spl, List.set] at hSt) | (refine stepB ?_; clear hSt; intro w nb hnb hSt; dsimp only [zcells, List.nil_append, List.cons_append] at hSt) | (refine stepG ?_ ?_ <;> intro hc <;> (try exact absA) <;> (fail_if_success (change true = true at hc)) <;> (fail_if_success (change false = false at hc))) | fail)
  exact ret1 rfl rfl ⟨rfl, hSt.nil⟩
theorem index_any {w0 : World} {v0 : Value} {l : List Ln} (n : Tx) (h : Lns w0 v0 l) : Cl Tryz.prog 41 [v0, S n] w0 (fun v w' => v = I (idxF l n) ∧ St w0 NoneS [] w') := by
  obtain ⟨a1, p1, xs, rfl, hcap, hlen, hxl, hs, h3, hc1⟩ := h.out
  have hSt := St.refl w0 NoneS
  refine enter Tryz.func41 rfl Tryz.ntmps41 rfl ?_
  repeat' (first | (apply WL_ev rfl rfl; exact Ev_makeFunc rfl) | (refine WL_isCall (f := 83) ?_; refine WL_call (ok_call hT rfl) rfl rfl rfl (ixL_any (fun x : Ln => decide (x.node = n)) (hs.kept hSt.keeps) hxl (by omega) (ok_call hT rfl) (fun w k i x a hx ha => idx1_any ((h3 i x a hx ha).kept (hSt.call0 k).keeps) (k.base (hSt.own 0 _ _ rfl).1 (fun e => e)))) ?_; rintro v w' ⟨rfl, hc2⟩; replace hSt := hSt.call0 hc2; clear hc2) | refine stepA ?_ | (refine stepS ?_; clear hSt; intro w hSt; dsimp only [spl, List.set] at hSt) | (refine stepB ?_; clear hSt; intro w nb hnb hSt; dsimp only [zcells, List.nil_append, List.cons_append] at hSt) | (refine stepG ?_ ?_ <;> intro hc <;> (try exact absA) <;> (fail_if_success (change true = true at hc)) <;> (fail_if_success (change false = false at hc))) | fail)
  exact ret1 rfl rfl ⟨rfl, hSt.nil⟩
theorem rindex_any {w0 : World} {v0 : Value} {l : List Ln} (n : Tx) (h : Lns w0 v0 l) : Cl Tryz.prog 128 [v0, S n] w0 (fun v w' => v = I (idxF l n) ∧ St w0 NoneS [] w') := by
  obtain ⟨a1, p1, xs, rfl, hcap, hlen, hxl, hs, h3, hc1⟩ := h.out
  have hSt := St.refl w0 NoneS
  refine enter Tryz.func128 rfl Tryz.ntmps128 rfl ?_
  repeat' (first | refine stepA ?_ | (refine stepS ?_; clear hSt; intro w hSt; dsimp only [spl, List.set] at hSt) | (refine stepB ?_; clear hSt; intro w nb hnb hSt; dsimp only [zcells, List.nil_append, List.cons_append] at hSt) | (refine stepG ?_ ?_ <;> intro hc <;> (try exact absA) <;> (fail_if_success (change true = true at hc)) <;> (fail_if_success (change false = false at hc))) | fail)
  refine W_loop1 (fun k (i : Nat) w => k = l.length - i ∧ i ≤ l.length ∧ (∀ (j : Nat) (y : Ln), j < i → l[j]? = some y → (fun x : Ln => decide (x.node = n)) y = false) ∧ St w0 NoneS [] w) (fun i => [(5, I (i : Int))]) l.length 0 rfl (by (repeat (first | exact Str.nil _ | apply Str.drop rfl | apply Str.keepU rfl | apply Str.keep rfl))) ⟨rfl, by omega, by intro j y hj; omega, hSt⟩ (by (repeat (first | exact Sub.nil _ | refine Sub.cons rfl ?_))) ?_
  clear hSt
  rintro k i w ⟨hk, hi, hno, hSt⟩ K hK
  by_cases hil : i < l.length
  · obtain ⟨e, he⟩ : ∃ e, l[i]? = some e := ⟨_, List.getElem?_eq_getElem hil⟩
    obtain ⟨x, b1, o1, c1, E1, z1, hx, hle, rfl, hb1, q, hq8⟩ := hc1 i e he
    obtain ⟨v1, va, vs, rfl, _⟩ := hle
    have q0 := SlAt.cell q (j := 0) rfl
    repeat' (first | (apply WL_ev rfl rfl; exact Ev_load1 hT rfl rfl (hSt.base hb1 (fun e => e)) q0) | refine stepA ?_ | (refine stepS ?_; clear hSt; intro w hSt; dsimp only [spl, List.set] at hSt) | (refine stepB ?_; clear hSt; intro w nb hnb hSt; dsimp only [zcells, List.nil_append, List.cons_append] at hSt) | (refine stepG ?_ ?_ <;> intro hc <;> (try exact absA) <;> (fail_if_success (change true = true at hc)) <;> (fail_if_success (change false = false at hc))) | fail)
    · exact ret1 rfl rfl ⟨by rw [idxF, idxP_hit he (decide_eq_true hc) hno], hSt⟩
    · exact At_loop1 hK (k' := l.length - (i + 1)) (i + 1) (by omega) ⟨rfl, by omega, hno_snoc hno he (decide_eq_false hc), hSt⟩ (by (repeat (first | exact Sub.nil _ | refine Sub.cons rfl ?_)))
  · repeat' (first | refine stepA ?_ | (refine stepS ?_; clear hSt; intro w hSt; dsimp only [spl, List.set] at hSt) | (refine stepB ?_; clear hSt; intro w nb hnb hSt; dsimp only [zcells, List.nil_append, List.cons_append] at hSt) | (refine stepG ?_ ?_ <;> intro hc <;> (try exact absA) <;> (fail_if_success (change true = true at hc)) <;> (fail_if_success (change false = false at hc))) | fail)
    exact ret1 rfl rfl ⟨by rw [idxF, idxP_none (n := i) (by omega) hno], hSt⟩
theorem lst1_any {w0 : World} {s y : Sg} {b : Nat} (hb : w0.heap[b]? = some (blk (sgC s) 57)) : Cl Tryz.prog 110 [.agg ⟨sgC y⟩, Ptr b] w0 (fun v w' => v = B (decide (y.1 = s.1)) ∧ St w0 NoneS [] w') := by
  have hSt := St.refl w0 NoneS
  refine enter Tryz.func110 rfl Tryz.ntmps110 rfl ?_
  repeat' (first | (apply WL_ev rfl rfl; exact Ev_load1 hT rfl rfl (hSt.base hb (fun e => e)) rfl) | refine stepA ?_ | (refine stepS ?_; clear hSt; intro w hSt; dsimp only [spl, List.set] at hSt) | (refine stepB ?_; clear hSt; intro w nb hnb hSt; dsimp only [zcells, List.nil_append, List.cons_append] at hSt) | (refine stepG ?_ ?_ <;> intro hc <;> (try exact absA) <;> (fail_if_success (change true = true at hc)) <;> (fail_if_success (change false = false at hc))) | fail)
  exact ret1 rfl rfl ⟨rfl, hSt.nil⟩
theorem setE_at {l : List Sg} {i : Nat} {s : Sg} (h : l[i]? = some s) : setE l i = if (!nameF s.1) = true then 5 else if (l.take i).any (fun y => decide (y.1 = s.1)) = true then 7 else if (!plainF s.2) = true then 2 else 0 := by
  unfold setE; rw [h]; simp
theorem aftE_at {l : List Ln} {a : List Tx} {i : Nat} {n : Tx} (h : a[i]? = some n) : aftE l a i = if idxF l n < 0 then 6 else if hasF (a.take i) n = true then 7 else 0 := by
  unfold aftE hasF; rw [h]
theorem fno_snoc {f : Nat → Int} {i : Nat} (h : ∀ j, j < i → f j = 0) (hi : f i = 0) : ∀ j, j < i + 1 → f j = 0 := by
  intro j hj
  by_cases hji : j < i
  · exact h j hji
  · have : j = i := by omega
    subst this; exact hi
theorem map_take_eq {α : Type} {f : α → List Value} {l : List α} {k : Nat} : (l.map f).take k = (l.take k).map f := by rw [List.map_take]
theorem sl_takeM {α : Type} {f : α → List Value} {l : List α} {i : Nat} {w : World} {a : Option Addr} {n cap : Nat} {z : Nat} (h : SlAt w (.slice a n cap) z (l.map f)) (hi : i ≤ n) {u : Value} (hu : u = (.slice (if cap = (0 : Int).toNat then a else a.map (·.add ((0 : Int).toNat * z))) ((i : Int).toNat - (0 : Int).toNat) (cap - (0 : Int).toNat))) : SlAt w u z ((l.take i).map f) := by
  have := sl_take h (k := (i : Int)) (by omega) (by rw [Int.toNat_natCast]; exact hi) hu
  rw [Int.toNat_natCast, ← List.map_take] at this
  exact this
theorem map_at {α : Type} {f : α → List Value} {l : List α} {j : Nat} {y : List Value} {a : α} (h : (l.map f)[j]? = some y) (ha : l[j]? = some a) : y = f a := by
  rw [List.getElem?_map, ha] at h; injection h with h; exact h.symm
theorem lists_hit1 {l : List Ln} {x : Ln} {i : Nat} {e : Int} (hi : i < x.sets.length) (hno : ∀ j, j < i → setE x.sets j = 0) (he : setE x.sets i = e) (h0 : e ≠ 0) : listsF l x = e := by
  have := firstE_hit hi (by rw [he]; exact h0) hno
  unfold listsF
  rw [this, he]
  exact if_pos h0
theorem lists_two {l : List Ln} {x : Ln} (hno : ∀ j, j < x.sets.length → setE x.sets j = 0) : listsF l x = firstE (aftE l x.after) x.after.length := by
  unfold listsF
  rw [firstE_none hno]
  exact if_neg (by simp)
theorem lists_any {w0 : World} {v0 : Value} {l : List Ln} {cs : List Value} {x : Ln} (h : Lns w0 v0 l) (hx : LnAt w0 cs x) : Cl Tryz.prog 63 [v0, .agg ⟨cs⟩] w0 (fun v w' => v = I (listsF l x) ∧ St w0 NoneS [] w') := by
  obtain ⟨v1, va, vs, rfl, hcnd, hsa, hss, hca, hcs, hla, hls, hlt⟩ := hx
  have hsa' := hsa
  have hss' := hss
  obtain ⟨v1a, v1n, v1c, rfl⟩ : ∃ a n c, v1 = .slice a n c := by
    obtain ⟨u, us, e, h1, _⟩ := hcnd.cells
    obtain ⟨a, c, rfl, _⟩ := h1
    injection e with _ e; injection e with _ e; injection e with _ e; injection e with e _
    exact ⟨_, _, _, e⟩
  obtain ⟨a2, p2, rfl, hc2⟩ := hsa.map
  obtain ⟨a3, p3, rfl, hc3⟩ := hss.map
  have hca := hca.le
  have hcs := hcs.le
  have hSt := St.refl w0 NoneS
  refine enter Tryz.func63 rfl Tryz.ntmps63 rfl ?_
  repeat' (first | refine stepA ?_ | (refine stepS ?_; clear hSt; intro w hSt; dsimp only [spl, List.set] at hSt) | (refine stepB ?_; clear hSt; intro w nb hnb hSt; dsimp only [zcells, List.nil_append, List.cons_append] at hSt) | (refine stepG ?_ ?_ <;> intro hc <;> (try exact absA) <;> (fail_if_success (change true = true at hc)) <;> (fail_if_success (change false = false at hc))) | fail)
  obtain ⟨bx, rfl⟩ : ∃ bx, bx = nb := ⟨nb, rfl⟩
  refine W_loop1 (fun k (i : Nat) w => k = x.sets.length - i ∧ i ≤ x.sets.length ∧ (∀ j, j < i → setE x.sets j = 0) ∧ St w0 NoneS [(bx, blk [S x.node, S x.prog, I x.cond.op, S x.cond.name, S x.cond.text, .slice v1a v1n v1c, .slice a2 x.after.length p2, .slice a3 x.sets.length p3] 40)] w) (fun i => [(12, I (i : Int))]) x.sets.length 0 rfl (by (repeat (first | exact Str.nil _ | apply Str.drop rfl | apply Str.keepU rfl | apply Str.keep rfl))) ⟨rfl, by omega, by intro j hj; omega, hSt⟩ (by (repeat (first | exact Sub.nil _ | refine Sub.cons rfl ?_))) ?_
  clear hSt
  rintro k i w ⟨hk, hi, hno, hSt⟩ K hK
  by_cases hil : i < x.sets.length
  · obtain ⟨s, hs⟩ : ∃ s, x.sets[i]? = some s := ⟨_, List.getElem?_eq_getElem hil⟩
    obtain ⟨b1, o1, m1, E1, z1, rfl, hb1, q, _⟩ := hc3 i _ hs
    rw [← Int.toNat_natCast i] at q
    have hse := setE_at hs
    repeat' (first | (apply WL_ev rfl rfl; exact Ev_loadN hT rfl rfl (hSt.base hb1 (fun e => e)) q rfl) | (apply WL_ev rfl rfl; exact Ev_sliceS hT rfl rfl rfl rfl (by omega) (by omega) (by omega)) | (apply WL_ev rfl rfl; exact Ev_makeFunc rfl) | (refine WL_isCall (f := 61) ?_; refine WL_call (ok_call hT rfl) rfl rfl rfl (name_any _) ?_; rintro v w' ⟨rfl, hc2⟩; replace hSt := hSt.call0 hc2; clear hc2) | (refine WL_isCall (f := 86) ?_; refine WL_call (ok_call hT rfl) rfl rfl rfl (plain_any _) ?_; rintro v w' ⟨rfl, hc2⟩; replace hSt := hSt.call0 hc2; clear hc2) | (refine WL_isCall (f := 109) ?_; refine WL_call (ok_call hT rfl) rfl rfl rfl (conG_any (xs := (x.sets.take i).map sgC) (l := x.sets.take i) (fun y : Sg => decide (y.1 = s.1)) (sl_takeM (hss'.kept hSt.keeps) hi rfl) (by simp) (by simp; omega) (ok_call hT rfl) (fun w k j y a hy ha => (by rw [map_at hy ha]; exact lst1_any (k.base (hSt.own 1 _ _ rfl).1 (fun e => e))))) ?_; rintro v w' ⟨rfl, hc2⟩; replace hSt := hSt.call0 hc2; clear hc2) | refine stepA ?_ | (refine stepS ?_; clear hSt; intro w hSt; dsimp only [spl, List.set] at hSt) | (refine stepB ?_; clear hSt; intro w nb hnb hSt; dsimp only [zcells, List.nil_append, List.cons_append] at hSt) | (refine stepG ?_ ?_ <;> intro hc <;> (try exact absA) <;> (fail_if_success (change true = true at hc)) <;> (fail_if_success (change false = false at hc))) | fail)
    all_goals first
      | (refine ret1 rfl rfl ⟨?_, hSt.nil⟩; rw [lists_hit1 (e := 5) hil hno (by rw [hse, if_pos (by assumption)]) (by omega)]; done)
      | (refine ret1 rfl rfl ⟨?_, hSt.nil⟩; rw [lists_hit1 (e := 7) hil hno (by rw [hse, if_neg (Bool.eq_false_iff.1 (by assumption)), if_pos (by assumption)]) (by omega)]; done)
      | (refine ret1 rfl rfl ⟨?_, hSt.nil⟩; rw [lists_hit1 (e := 2) hil hno (by rw [hse, if_neg (Bool.eq_false_iff.1 (by assumption)), if_neg (Bool.eq_false_iff.1 (by assumption)), if_pos (by assumption)]) (by omega)]; done)
      | exact At_loop1 hK (k' := x.sets.length - (i + 1)) (i + 1) (by omega) ⟨rfl, by omega, fno_snoc hno (by rw [hse, if_neg (Bool.eq_false_iff.1 (by assumption)), if_neg (Bool.eq_false_iff.1 (by assumption)), if_neg (Bool.eq_false_iff.1 (by assumption))]), hSt.left (H1 := [_])⟩ (by (repeat (first | exact Sub.nil _ | refine Sub.cons rfl ?_)))
  · have hi2 : i = x.sets.length := by omega
    subst hi2
    rw [lists_two hno]
    repeat' (first | refine stepA ?_ | (refine stepS ?_; clear hSt; intro w hSt; dsimp only [spl, List.set] at hSt) | (refine stepB ?_; clear hSt; intro w nb hnb hSt; dsimp only [zcells, List.nil_append, List.cons_append] at hSt) | (refine stepG ?_ ?_ <;> intro hc <;> (try exact absA) <;> (fail_if_success (change true = true at hc)) <;> (fail_if_success (change false = false at hc))) | fail)
    refine W_loop1 (fun k (i : Nat) w => k = x.after.length - i ∧ i ≤ x.after.length ∧ (∀ j, j < i → aftE l x.after j = 0) ∧ St w0 NoneS [(bx, blk [S x.node, S x.prog, I x.cond.op, S x.cond.name, S x.cond.text, .slice v1a v1n v1c, .slice a2 x.after.length p2, .slice a3 x.sets.length p3] 40)] w) (fun i => [(38, I (i : Int))]) x.after.length 0 rfl (by (repeat (first | exact Str.nil _ | apply Str.drop rfl | apply Str.keepU rfl | apply Str.keep rfl))) ⟨rfl, by omega, by intro j hj; omega, hSt⟩ (by (repeat (first | exact Sub.nil _ | refine Sub.cons rfl ?_))) ?_
    clear hSt
    rintro k i w ⟨hk, hi, hno2, hSt⟩ K2 hK2
    by_cases hil2 : i < x.after.length
    · obtain ⟨s, hs⟩ : ∃ s, x.after[i]? = some s := ⟨_, List.getElem?_eq_getElem hil2⟩
      obtain ⟨b1, o1, m1, E1, z1, rfl, hb1, q, q0⟩ := hc2 i _ hs
      replace q0 := q0 0 _ rfl
      rw [← Int.toNat_natCast i] at q0
      have hse := aftE_at (l := l) hs
      repeat' (first | (apply WL_ev rfl rfl; exact Ev_load1 hT rfl rfl (hSt.base hb1 (fun e => e)) q0) | (apply WL_ev rfl rfl; exact Ev_sliceS hT rfl rfl rfl rfl (by omega) (by omega) (by omega)) | (refine WL_isCall (f := 41) ?_; refine WL_call (ok_call hT rfl) rfl rfl rfl (index_any s (h.kept hSt.keeps)) ?_; rintro v w' ⟨rfl, hc2⟩; replace hSt := hSt.call0 hc2; clear hc2) | (refine WL_isCall (f := 47) ?_; refine WL_call (ok_call hT rfl) rfl rfl rfl (scon_any s (l := x.after.take i) (sl_takeM (hsa'.kept hSt.keeps) hi rfl) (by simp; omega)) ?_; rintro v w' ⟨rfl, hc2⟩; replace hSt := hSt.call0 hc2; clear hc2) | refine stepA ?_ | (refine stepS ?_; clear hSt; intro w hSt; dsimp only [spl, List.set] at hSt) | (refine stepB ?_; clear hSt; intro w nb hnb hSt; dsimp only [zcells, List.nil_append, List.cons_append] at hSt) | (refine stepG ?_ ?_ <;> intro hc <;> (try exact absA) <;> (fail_if_success (change true = true at hc)) <;> (fail_if_success (change false = false at hc))) | fail)
      all_goals first
        | (refine ret1 rfl rfl ⟨?_, hSt.nil⟩; rw [firstE_hit hil2 (by rw [hse, if_pos hc]; decide) hno2, hse, if_pos hc]; done)
        | (refine ret1 rfl rfl ⟨?_, hSt.nil⟩; have e7 : aftE l x.after i = 7 := (by rw [hse, if_neg (by omega), if_pos hc]); rw [firstE_hit hil2 (by rw [e7]; decide) hno2, e7]; done)
        | exact At_loop1 hK2 (k' := x.after.length - (i + 1)) (i + 1) (by omega) ⟨rfl, by omega, fno_snoc hno2 (by rw [hse, if_neg (by omega), if_neg (Bool.eq_false_iff.1 (by assumption))]), hSt⟩ (by (repeat (first | exact Sub.nil _ | refine Sub.cons rfl ?_)))
    · repeat' (first | refine stepA ?_ | (refine stepS ?_; clear hSt; intro w hSt; dsimp only [spl, List.set] at hSt) | (refine stepB ?_; clear hSt; intro w nb hnb hSt; dsimp only [zcells, List.nil_append, List.cons_append] at hSt) | (refine stepG ?_ ?_ <;> intro hc <;> (try exact absA) <;> (fail_if_success (change true = true at hc)) <;> (fail_if_success (change false = false at hc))) | fail)
      exact ret1 rfl rfl ⟨by rw [firstE_none (fun j hj => hno2 j (by omega))], hSt.nil⟩
end Go.Proofs.YtknfankadlokhaaGreatDoor

namespace Go.Proofs.YtknfankadlokhaaGreatDoor
open Go.RowKit
set_option maxRecDepth 4000
set_option linter.unusedVariables false
set_option linter.unusedSimpArgs false
set_option maxHeartbeats 4000000

theorem fm_tc (l : List Tx) : l.flatMap tc = l.map S := by induction l <;> simp_all
theorem own_tc {l : List Tx} {v : Value} {e : TypeId} {H1 : List (Nat × Obj)} {w : World} (h : OwnSl v e 1 (l.map S) l.length H1) (hh : Has w H1) : SlAt w v 1 (l.map tc) :=
  OwnSl.slAt (f := tc) (z := 1) (l := l) (fun _ => rfl) (by rw [fm_tc]; exact h) hh
theorem any_not {ns : List Tx} (l : List Tx) : (!(l.any fun n => !hasF ns n)) = l.all (hasF ns) := by
  induction l with
  | nil => rfl
  | cons a l ih => rw [List.any_cons, List.all_cons, ← ih]; cases hasF ns a <;> simp
theorem ready2_any {w0 : World} {n : Tx} {nv : Value} {ns : List Tx} {bc : Nat} (hb : w0.heap[bc]? = some (blk [nv] 32)) (hn : SlAt w0 nv 1 (ns.map tc)) (hl : ns.length ≤ 9223372036854775807) : Cl Tryz.prog 88 [S n, Ptr bc] w0 (fun v w' => v = B (!hasF ns n) ∧ St w0 NoneS [] w') := by
  have hSt := St.refl w0 NoneS
  refine enter Tryz.func88 rfl Tryz.ntmps88 rfl ?_
  repeat' (first | (apply WL_ev rfl rfl; exact Ev_load1 hT rfl rfl (hSt.base hb (fun e => e)) rfl) | (refine WL_isCall (f := 47) ?_; refine WL_call (ok_call hT rfl) rfl rfl rfl (scon_any n (hn.kept hSt.keeps) hl) ?_; rintro v w' ⟨rfl, hc2⟩; replace hSt := hSt.call0 hc2; clear hc2) | refine stepA ?_ | (refine stepS ?_; clear hSt; intro w hSt; dsimp only [spl, List.set] at hSt) | (refine stepB ?_; clear hSt; intro w nb hnb hSt; dsimp only [zcells, List.nil_append, List.cons_append] at hSt) | (refine W_quiet hT (by decide +kernel) hSt ?_; clear hSt; (repeat' (first | (apply QL_ev rfl rfl; (intro w hSt; (first | (exact Ev_load1 hT rfl rfl (hSt.base hb (fun e => e)) rfl) | exact Ev_auto))) | refine QL_pass rfl rfl ?_ | (refine QL_guardP rfl rfl (fun hc => ?_) (fun hc => ?_) <;> try exact absA) | (refine QL_guard rfl rfl (fun hc => ?_) (fun hc => ?_) <;> (try exact absA) <;> (fail_if_success (change true = true at hc)) <;> (fail_if_success (change false = false at hc))))); all_goals (refine QL_nil (fun w hSt => ?_))) | (refine stepG ?_ ?_ <;> intro hc <;> (try exact absA) <;> (fail_if_success (change true = true at hc)) <;> (fail_if_success (change false = false at hc))) | fail)
  exact ret1 rfl rfl ⟨rfl, hSt.nil⟩
theorem ready_any {w0 : World} {cs : List Value} {x : Ln} {nv : Value} {ns : List Tx} {bc : Nat} (h : LnAt w0 cs x) (hb : w0.heap[bc]? = some (blk [nv] 32)) (hn : SlAt w0 nv 1 (ns.map tc)) (hl : ns.length ≤ 9223372036854775807) : Cl Tryz.prog 87 [.agg ⟨cs⟩, Ptr bc] w0 (fun v w' => v = B (readyF ns x) ∧ St w0 NoneS [] w') := by
  obtain ⟨v1, va, vs, rfl, _, hsa, _, _, _, hla, _⟩ := h
  have hSt := St.refl w0 NoneS
  refine enter Tryz.func87 rfl Tryz.ntmps87 rfl ?_
  repeat' (first | (apply WL_ev rfl rfl; exact Ev_load1 hT rfl rfl (hSt.base hb (fun e => e)) rfl) | (apply WL_ev rfl rfl; exact Ev_makeFunc rfl) | (refine WL_isCall (f := 47) ?_; refine WL_call (ok_call hT rfl) rfl rfl rfl (scon_any x.node (hn.kept hSt.keeps) hl) ?_; rintro v w' ⟨rfl, hc2⟩; replace hSt := hSt.call0 hc2; clear hc2) | (refine WL_isCall (f := 39) ?_; refine WL_call (ok_call hT rfl) rfl rfl rfl (conS_any (l := x.after) (fun n => !hasF ns n) (hsa.kept hSt.keeps) (by simp) (by omega) (ok_call hT rfl) (fun w k j y a hy ha => (by have hya := map_at hy ha; injection hya with hya; subst hya; exact ready2_any (k.base (hSt.base hb (fun e => e)) (fun e => e)) (hn.kept (hSt.call0 k).keeps) hl))) ?_; rintro v w' ⟨rfl, hc2⟩; replace hSt := hSt.call0 hc2; clear hc2) | refine stepA ?_ | (refine stepS ?_; clear hSt; intro w hSt; dsimp only [spl, List.set] at hSt) | (refine stepB ?_; clear hSt; intro w nb hnb hSt; dsimp only [zcells, List.nil_append, List.cons_append] at hSt) | (refine W_quiet hT (by decide +kernel) hSt ?_; clear hSt; (repeat' (first | (apply QL_ev rfl rfl; (intro w hSt; (first | (exact Ev_load1 hT rfl rfl (hSt.base hb (fun e => e)) rfl) | (exact Ev_makeFunc rfl) | exact Ev_auto))) | refine QL_pass rfl rfl ?_ | (refine QL_guardP rfl rfl (fun hc => ?_) (fun hc => ?_) <;> try exact absA) | (refine QL_guard rfl rfl (fun hc => ?_) (fun hc => ?_) <;> (try exact absA) <;> (fail_if_success (change true = true at hc)) <;> (fail_if_success (change false = false at hc))))); all_goals (refine QL_nil (fun w hSt => ?_))) | (refine stepG ?_ ?_ <;> intro hc <;> (try exact absA) <;> (fail_if_success (change true = true at hc)) <;> (fail_if_success (change false = false at hc))) | fail)
  all_goals refine ret1 rfl rfl ⟨congrArg B ?_, hSt.nil⟩
  all_goals unfold readyF
  · rw [any_not]; simp_all
  · simp_all
theorem start_any {w0 : World} {v0 : Value} {l : List Ln} (h : Lns w0 v0 l) (h24 : l.length ≤ 24) : Cl Tryz.prog 45 [v0] w0 (fun v w' => ∃ H1, OwnSl v 9 1 ((startF l).map S) (startF l).length H1 ∧ St w0 NoneS H1 w') := by
  obtain ⟨a1, p1, xs, rfl, hcap, hlen, hxl, hs, h3, hc1⟩ := h.out
  have hSt := St.refl w0 NoneS
  obtain ⟨ns, hns⟩ : ∃ ns : List Tx, ns = [] := ⟨_, rfl⟩
  have hgo : Going l ns := hns ▸ Going.nil l
  have ho : OwnSl (.slice none 0 0) 9 1 (ns.map S) ns.length [] := by rw [hns]; exact OwnSl.nil _ _
  refine enter Tryz.func45 rfl Tryz.ntmps45 rfl ?_
  repeat' (first | (apply WL_ev rfl rfl; exact Ev_makeFunc rfl) | (refine WL_isCall (f := 83) ?_; refine WL_call (ok_call hT rfl) rfl rfl rfl (ixL_any (readyF ns) (hs.kept hSt.keeps) hxl (by omega) (ok_call hT rfl) (fun w k i x a hx ha => ready_any ((h3 i x a hx ha).kept (hSt.call0 k).keeps) (k.base (hSt.own 0 _ _ rfl).1 (fun e => e)) ((own_tc ho (hSt.right (Ha := [_])).has).kept k.keeps) (by have := hgo.room; omega))) ?_; rintro v w' ⟨rfl, hc2⟩; replace hSt := hSt.call0 hc2; clear hc2) | refine stepA ?_ | (refine stepS ?_; clear hSt; intro w hSt; dsimp only [spl, List.set] at hSt) | (refine stepB ?_; clear hSt; intro w nb hnb hSt; dsimp only [zcells, List.nil_append, List.cons_append] at hSt) | (refine W_quiet hT (by decide +kernel) hSt ?_; clear hSt; (repeat' (first | (apply QL_ev rfl rfl; (intro w hSt; (first | (exact Ev_makeFunc rfl) | exact Ev_auto))) | refine QL_pass rfl rfl ?_ | (refine QL_guardP rfl rfl (fun hc => ?_) (fun hc => ?_) <;> try exact absA) | (refine QL_guard rfl rfl (fun hc => ?_) (fun hc => ?_) <;> (try exact absA) <;> (fail_if_success (change true = true at hc)) <;> (fail_if_success (change false = false at hc))))); all_goals (refine QL_nil (fun w hSt => ?_))) | (refine stepG ?_ ?_ <;> intro hc <;> (try exact absA) <;> (fail_if_success (change true = true at hc)) <;> (fail_if_success (change false = false at hc))) | fail)
  obtain ⟨bc, rfl⟩ : ∃ bc, bc = nb := ⟨nb, rfl⟩
  subst hns
  refine W_loop2 (fun k (ns : List Tx) (nv : Value) w => k = leftF l ns ∧ Going l ns ∧ ∃ H1, OwnSl nv 9 1 (ns.map S) ns.length H1 ∧ St w0 NoneS ((bc, blk [nv] 32) :: H1) w) (fun ns nv => [(5, I (idxP (readyF ns) l))]) (leftF l []) [] (.slice none 0 0) rfl (by (repeat (first | exact Str.nil _ | apply Str.drop rfl | apply Str.keepU rfl | apply Str.keep rfl))) ⟨rfl, Going.nil l, [], OwnSl.nil _ _, hSt⟩ (by (repeat (first | exact Sub.nil _ | refine Sub.cons rfl ?_))) ?_
  clear hSt ho hgo
  rintro k ns nv w ⟨hk, hgo, H1, ho, hSt⟩ K hK
  rcases idxP_find (readyF ns) l with ⟨hix, hfd⟩ | ⟨i, e, hix, he, hre, hfd⟩
  · rw [hix]
    repeat' (first | refine stepA ?_ | (refine stepS ?_; clear hSt; intro w hSt; dsimp only [spl, List.set] at hSt) | (refine stepB ?_; clear hSt; intro w nb hnb hSt; dsimp only [zcells, List.nil_append, List.cons_append] at hSt) | (refine W_quiet hT (by decide +kernel) hSt ?_; clear hSt; (repeat' (first | (apply QL_ev rfl rfl; (intro w hSt; (first | exact Ev_auto))) | refine QL_pass rfl rfl ?_ | (refine QL_guardP rfl rfl (fun hc => ?_) (fun hc => ?_) <;> try exact absA) | (refine QL_guard rfl rfl (fun hc => ?_) (fun hc => ?_) <;> (try exact absA) <;> (fail_if_success (change true = true at hc)) <;> (fail_if_success (change false = false at hc))))); all_goals (refine QL_nil (fun w hSt => ?_))) | (refine stepG ?_ ?_ <;> intro hc <;> (try exact absA) <;> (fail_if_success (change true = true at hc)) <;> (fail_if_success (change false = false at hc))) | fail)
    rw [← hgo.stop hfd]
    exact ret1 rfl rfl ⟨H1, ho, hSt.right (Ha := [_])⟩
  · rw [hix]
    have hgo' := hgo.step hfd
    have hlt := leftF_snoc (List.mem_of_find?_eq_some hfd) (ready_has hre).1
    have hrm := hgo.room
    obtain ⟨x, b1, o1, c1, E1, z1, hx, hle, rfl, hb1, q, hq8⟩ := hc1 i e he
    obtain ⟨v1, va, vs, rfl, _⟩ := hle
    have q0 := SlAt.cell q (j := 0) rfl
    have hi := (List.getElem?_eq_some_iff.1 he).1
    repeat' (first | (refine W_grow [false, false, false, false, false, false, true] hT (by decide +kernel) hSt ?_; clear hSt; intro w hSt hG; simp only [List.take_succ_cons, List.take_zero, List.length_cons, List.length_nil]; (repeat' (first | (apply GL_ev rfl rfl hG; (intro w hG1; have hSt := hSt.call0 hG1; (first | (exact Ev_load1 hT rfl rfl (hSt.base hb1 (fun e => e)) q0) | exact Ev_auto))) | refine GL_pass rfl rfl hG ?_ | (refine GL_one ?_; (first | (refine WL_box rfl rfl rfl hG ?_; clear hG; intro w nb hnb hG) | (refine WL_alloc hT rfl rfl rfl hG ?_; clear hG; intro w nb hnb hG) | (refine WL_buildSlice hT rfl rfl rfl rfl rfl rfl rfl rfl hG ?_; clear hG; intro w nb hnb hG) | (refine WL_makeMap rfl rfl hG ?_; clear hG; intro w nb hnb hG)); (try dsimp only [zcells, List.nil_append, List.cons_append] at hG); replace hnb := Nat.le_trans hSt.size hnb; refine WL_nil (At_one hG ?_)) | (refine GL_guardP rfl rfl (fun hc => ?_) (fun hc => ?_) <;> try exact absA) | (refine GL_guard rfl rfl (fun hc => ?_) (fun hc => ?_) <;> (try exact absA) <;> (fail_if_success (change true = true at hc)) <;> (fail_if_success (change false = false at hc))))); all_goals (refine GL_end ?_; replace hSt := hSt.newN hG; clear hG; simp only [List.drop_succ_cons, List.drop_zero]; dsimp only [List.nil_append, List.cons_append] at hSt)) | (apply WL_ev rfl rfl; exact Ev_load1 hT rfl rfl (hSt.base hb1 (fun e => e)) q0) | refine stepA ?_ | (refine stepS ?_; clear hSt; intro w hSt; dsimp only [spl, List.set] at hSt) | (refine stepB ?_; clear hSt; intro w nb hnb hSt; dsimp only [zcells, List.nil_append, List.cons_append] at hSt) | (refine W_quiet hT (by decide +kernel) hSt ?_; clear hSt; (repeat' (first | (apply QL_ev rfl rfl; (intro w hSt; (first | (exact Ev_load1 hT rfl rfl (hSt.base hb1 (fun e => e)) q0) | exact Ev_auto))) | refine QL_pass rfl rfl ?_ | (refine QL_guardP rfl rfl (fun hc => ?_) (fun hc => ?_) <;> try exact absA) | (refine QL_guard rfl rfl (fun hc => ?_) (fun hc => ?_) <;> (try exact absA) <;> (fail_if_success (change true = true at hc)) <;> (fail_if_success (change false = false at hc))))); all_goals (refine QL_nil (fun w hSt => ?_))) | (refine stepG ?_ ?_ <;> intro hc <;> (try exact absA) <;> (fail_if_success (change true = true at hc)) <;> (fail_if_success (change false = false at hc))) | fail)
    refine WL_appendL (H0 := [_]) hT rfl rfl rfl rfl rfl rfl rfl (by simpa using hSt) ho rfl rfl (by omega) (by omega) ?_
    clear hSt ho
    intro nv2 w H2 ho' hSt
    replace ho' : OwnSl nv2 9 1 ((ns ++ [e.node]).map S) (ns ++ [e.node]).length H2 := by rw [List.map_append, List.length_append]; exact ho'
    obtain ⟨oa, oc, rfl⟩ := ho'.len
    dsimp only [List.nil_append, List.cons_append] at hSt
    repeat' (first | (apply WL_ev rfl rfl; exact Ev_makeFunc rfl) | (refine WL_isCall (f := 83) ?_; refine WL_call (ok_call hT rfl) rfl rfl rfl (ixL_any (readyF (ns ++ [e.node])) (hs.kept hSt.keeps) hxl (by omega) (ok_call hT rfl) (fun w k i x a hx ha => ready_any ((h3 i x a hx ha).kept (hSt.call0 k).keeps) (k.base (hSt.own 0 _ _ rfl).1 (fun e => e)) ((own_tc ho' (hSt.right (Ha := [_])).has).kept k.keeps) (by have := hgo'.room; omega))) ?_; rintro v w' ⟨rfl, hc2⟩; replace hSt := hSt.call0 hc2; clear hc2) | refine stepA ?_ | (refine stepS ?_; clear hSt; intro w hSt; dsimp only [spl, List.set] at hSt) | (refine stepB ?_; clear hSt; intro w nb hnb hSt; dsimp only [zcells, List.nil_append, List.cons_append] at hSt) | (refine W_quiet hT (by decide +kernel) hSt ?_; clear hSt; (repeat' (first | (apply QL_ev rfl rfl; (intro w hSt; (first | (exact Ev_makeFunc rfl) | exact Ev_auto))) | refine QL_pass rfl rfl ?_ | (refine QL_guardP rfl rfl (fun hc => ?_) (fun hc => ?_) <;> try exact absA) | (refine QL_guard rfl rfl (fun hc => ?_) (fun hc => ?_) <;> (try exact absA) <;> (fail_if_success (change true = true at hc)) <;> (fail_if_success (change false = false at hc))))); all_goals (refine QL_nil (fun w hSt => ?_))) | (refine stepG ?_ ?_ <;> intro hc <;> (try exact absA) <;> (fail_if_success (change true = true at hc)) <;> (fail_if_success (change false = false at hc))) | fail)
    exact At_loop2 hK (k' := leftF l (ns ++ [e.node])) (ns ++ [e.node]) _ (by omega) ⟨rfl, hgo', H2, ho', hSt⟩ (by (repeat (first | exact Sub.nil _ | refine Sub.cons rfl ?_)))
theorem checkF_long {l : List Ln} (h : 24 < l.length) : checkF l = 3 := by unfold checkF; rw [if_pos h]
theorem checkF_hit {l : List Ln} {i : Nat} {e : Int} (h : l.length ≤ 24) (hi : i < l.length) (hno : ∀ j, j < i → entryF l j = 0) (he : entryF l i = e) (h0 : e ≠ 0) : checkF l = e := by
  have := firstE_hit hi (by rw [he]; exact h0) hno
  unfold checkF
  rw [if_neg (by omega), this, he]
  exact if_pos h0
theorem checkF_end {l : List Ln} (h : l.length ≤ 24) (hno : ∀ j, j < l.length → entryF l j = 0) : checkF l = if (startF l).length < l.length then 19 else 0 := by
  unfold checkF
  rw [if_neg (by omega), firstE_none hno]
  exact if_neg (by simp)
theorem entryF_at {l : List Ln} {i : Nat} {x : Ln} (h : l[i]? = some x) : entryF l i = if (!nameF x.node) = true then 5 else if (!nameF x.prog) = true then 5 else if 0 ≤ idxF (l.take i) x.node then 7 else if condF x.cond ≠ 0 then condF x.cond else listsF l x := by
  unfold entryF; rw [h]
  by_cases h1 : nameF x.node = true <;> by_cases h2 : nameF x.prog = true <;> simp [h1, h2]
theorem check_any {w0 : World} {v0 : Value} {l : List Ln} (h : Lns w0 v0 l) : Cl Tryz.prog 22 [v0] w0 (fun v w' => v = I (checkF l) ∧ St w0 NoneS [] w') := by
  have hL := h
  obtain ⟨a1, p1, xs, rfl, hcap, hlen, hxl, hs, h3, hc1⟩ := h.out
  have hSt := St.refl w0 NoneS
  by_cases h24 : 24 < l.length
  · rw [checkF_long h24]
    refine enter Tryz.func22 rfl Tryz.ntmps22 rfl ?_
    repeat' (first | refine stepA ?_ | (refine stepS ?_; clear hSt; intro w hSt; dsimp only [spl, List.set] at hSt) | (refine stepB ?_; clear hSt; intro w nb hnb hSt; dsimp only [zcells, List.nil_append, List.cons_append] at hSt) | (refine W_quiet hT (by decide +kernel) hSt ?_; clear hSt; (repeat' (first | (apply QL_ev rfl rfl; (intro w hSt; (first | exact Ev_auto))) | refine QL_pass rfl rfl ?_ | (refine QL_guardP rfl rfl (fun hc => ?_) (fun hc => ?_) <;> try exact absA) | (refine QL_guard rfl rfl (fun hc => ?_) (fun hc => ?_) <;> (try exact absA) <;> (fail_if_success (change true = true at hc)) <;> (fail_if_success (change false = false at hc))))); all_goals (refine QL_nil (fun w hSt => ?_))) | (refine stepG ?_ ?_ <;> intro hc <;> (try exact absA) <;> (fail_if_success (change true = true at hc)) <;> (fail_if_success (change false = false at hc))) | fail)
    all_goals first | exact ret1 rfl rfl ⟨rfl, hSt.nil⟩ | (exfalso; omega)
  replace h24 : l.length ≤ 24 := by omega
  refine enter Tryz.func22 rfl Tryz.ntmps22 rfl ?_
  repeat' (first | refine stepA ?_ | (refine stepS ?_; clear hSt; intro w hSt; dsimp only [spl, List.set] at hSt) | (refine stepB ?_; clear hSt; intro w nb hnb hSt; dsimp only [zcells, List.nil_append, List.cons_append] at hSt) | (refine W_quiet hT (by decide +kernel) hSt ?_; clear hSt; (repeat' (first | (apply QL_ev rfl rfl; (intro w hSt; (first | exact Ev_auto))) | refine QL_pass rfl rfl ?_ | (refine QL_guardP rfl rfl (fun hc => ?_) (fun hc => ?_) <;> try exact absA) | (refine QL_guard rfl rfl (fun hc => ?_) (fun hc => ?_) <;> (try exact absA) <;> (fail_if_success (change true = true at hc)) <;> (fail_if_success (change false = false at hc))))); all_goals (refine QL_nil (fun w hSt => ?_))) | (refine stepG ?_ ?_ <;> intro hc <;> (try exact absA) <;> (fail_if_success (change true = true at hc)) <;> (fail_if_success (change false = false at hc))) | fail)
  refine W_loop1 (fun k (i : Nat) w => k = l.length - i ∧ i ≤ l.length ∧ (∀ j, j < i → entryF l j = 0) ∧ St w0 NoneS [] w) (fun i => [(12, I (i : Int))]) l.length 0 rfl (by (repeat (first | exact Str.nil _ | apply Str.drop rfl | apply Str.keepU rfl | apply Str.keep rfl))) ⟨rfl, by omega, by intro j hj; omega, hSt⟩ (by (repeat (first | exact Sub.nil _ | refine Sub.cons rfl ?_))) ?_
  clear hSt
  rintro k i w ⟨hk, hi, hno, hSt⟩ K hK
  by_cases hil : i < l.length
  · obtain ⟨e, he⟩ : ∃ e, l[i]? = some e := ⟨_, List.getElem?_eq_getElem hil⟩
    obtain ⟨x, b1, o1, c1, E1, z1, hx, hle, rfl, hb1, q, hq8⟩ := hc1 i e he
    have hen := entryF_at he
    have hlx := hle
    obtain ⟨v1, va, vs, rfl, hcnd, hsa, hss, _⟩ := hle
    obtain ⟨v1a, v1n, v1c, rfl⟩ : ∃ a n c, v1 = .slice a n c := by
      obtain ⟨u, us, e, h1, _⟩ := hcnd.cells
      obtain ⟨a, c, rfl, _⟩ := h1
      injection e with _ e; injection e with _ e; injection e with _ e; injection e with e _
      exact ⟨_, _, _, e⟩
    obtain ⟨a2, p2, rfl, _⟩ := hsa.map
    obtain ⟨a3, p3, rfl, _⟩ := hss.map
    have hlt : ∀ {w1 : World}, St w0 NoneS [] w1 → Lns w1 (.slice (if p1 = (0 : Int).toNat then some ⟨b1, o1, none⟩ else (some (⟨b1, o1, none⟩ : Addr)).map (·.add ((0 : Int).toNat * 8))) ((i : Int).toNat - (0 : Int).toNat) (p1 - (0 : Int).toNat)) (l.take (i : Int).toNat) := fun k => (hL.kept k.keeps).take (by omega) (by omega)
    rw [Int.toNat_natCast] at hlt
    repeat' (first | (refine WL_isCall (f := 61) ?_; refine WL_call (ok_call hT rfl) rfl rfl rfl (name_any _) ?_; rintro v w' ⟨rfl, hc2⟩; replace hSt := hSt.call0 hc2; clear hc2) | (apply WL_ev rfl rfl; exact Ev_loadN hT rfl rfl (hSt.base hb1 (fun e => e)) q rfl) | (apply WL_ev rfl rfl; exact Ev_sliceS hT rfl rfl rfl rfl (by omega) (by omega) (by omega)) | (refine WL_isCall (f := 62) ?_; refine WL_call (ok_call hT rfl) rfl rfl rfl (condition_any (hcnd.kept hSt.keeps)) ?_; rintro v w' ⟨rfl, hc2⟩; replace hSt := hSt.call0 hc2; clear hc2) | (refine WL_isCall (f := 63) ?_; refine WL_call (ok_call hT rfl) rfl rfl rfl (lists_any (hL.kept hSt.keeps) (hlx.kept hSt.keeps)) ?_; rintro v w' ⟨rfl, hc2⟩; replace hSt := hSt.call0 hc2; clear hc2) | refine stepA ?_ | (refine stepS ?_; clear hSt; intro w hSt; dsimp only [spl, List.set] at hSt) | (refine stepB ?_; clear hSt; intro w nb hnb hSt; dsimp only [zcells, List.nil_append, List.cons_append] at hSt) | (refine W_quiet hT (by decide +kernel) hSt ?_; clear hSt; (repeat' (first | (refine QL_isCall (f := 41) ?_; refine QL_call (ok_call hT rfl) rfl rfl rfl (fun w hSt => (index_any _ (hlt hSt.nil)).mono (fun v w2 h => ⟨h.1, hSt.call0 h.2⟩)) ?_) | (apply QL_ev rfl rfl; (intro w hSt; (first | (exact Ev_loadN hT rfl rfl (hSt.base hb1 (fun e => e)) q rfl) | (exact Ev_sliceS hT rfl rfl rfl rfl (by omega) (by omega) (by omega)) | exact Ev_auto))) | refine QL_pass rfl rfl ?_ | (refine QL_guardP rfl rfl (fun hc => ?_) (fun hc => ?_) <;> try exact absA) | (refine QL_guard rfl rfl (fun hc => ?_) (fun hc => ?_) <;> (try exact absA) <;> (fail_if_success (change true = true at hc)) <;> (fail_if_success (change false = false at hc))))); all_goals (refine QL_nil (fun w hSt => ?_))) | (refine stepG ?_ ?_ <;> intro hc <;> (try exact absA) <;> (fail_if_success (change true = true at hc)) <;> (fail_if_success (change false = false at hc))) | fail)
    all_goals first
      | (refine ret1 rfl rfl ⟨?_, hSt.nil⟩; rw [checkF_hit (e := 5) h24 hil hno (by rw [hen, if_pos (by assumption)]) (by omega)]; done)
      | (refine ret1 rfl rfl ⟨?_, hSt.nil⟩; rw [checkF_hit (e := 5) h24 hil hno (by rw [hen, if_neg (Bool.eq_false_iff.1 (by assumption)), if_pos (by assumption)]) (by omega)]; done)
      | (refine ret1 rfl rfl ⟨?_, hSt.nil⟩; rw [checkF_hit (e := 7) h24 hil hno (by rw [hen, if_neg (Bool.eq_false_iff.1 (by assumption)), if_neg (Bool.eq_false_iff.1 (by assumption)), if_pos (by assumption)]) (by omega)]; done)
      | (refine ret1 rfl rfl ⟨?_, hSt.nil⟩; rw [checkF_hit (e := condF e.cond) h24 hil hno (by rw [hen, if_neg (Bool.eq_false_iff.1 (by assumption)), if_neg (Bool.eq_false_iff.1 (by assumption)), if_neg (by omega), if_pos (by assumption)]) (by omega)]; done)
      | (refine ret1 rfl rfl ⟨?_, hSt.nil⟩; rw [checkF_hit (e := listsF l e) h24 hil hno (by rw [hen, if_neg (Bool.eq_false_iff.1 (by assumption)), if_neg (Bool.eq_false_iff.1 (by assumption)), if_neg (by omega), if_neg (by omega)]) (by omega)]; done)
      | exact At_loop1 hK (k' := l.length - (i + 1)) (i + 1) (by omega) ⟨rfl, by omega, fno_snoc hno (by rw [hen, if_neg (Bool.eq_false_iff.1 (by assumption)), if_neg (Bool.eq_false_iff.1 (by assumption)), if_neg (by omega), if_neg (by omega)]; omega), hSt.nil⟩ (by (repeat (first | exact Sub.nil _ | refine Sub.cons rfl ?_)))
  · have hi2 : i = l.length := by omega
    subst hi2
    rw [checkF_end h24 hno]
    repeat' (first | (refine WL_isCall (f := 45) ?_; refine WL_call (ok_call hT rfl) rfl rfl rfl (start_any (hL.kept hSt.keeps) h24) ?_; rintro v w' ⟨H1, ho, hc2⟩; replace hSt := hSt.newN hc2; clear hc2; (obtain ⟨oa, oc, rfl⟩ := ho.len)) | refine stepA ?_ | (refine stepS ?_; clear hSt; intro w hSt; dsimp only [spl, List.set] at hSt) | (refine stepB ?_; clear hSt; intro w nb hnb hSt; dsimp only [zcells, List.nil_append, List.cons_append] at hSt) | (refine W_quiet hT (by decide +kernel) hSt ?_; clear hSt; (repeat' (first | (apply QL_ev rfl rfl; (intro w hSt; (first | exact Ev_auto))) | refine QL_pass rfl rfl ?_ | (refine QL_guardP rfl rfl (fun hc => ?_) (fun hc => ?_) <;> try exact absA) | (refine QL_guard rfl rfl (fun hc => ?_) (fun hc => ?_) <;> (try exact absA) <;> (fail_if_success (change true = true at hc)) <;> (fail_if_success (change false = false at hc))))); all_goals (refine QL_nil (fun w hSt => ?_))) | (refine stepG ?_ ?_ <;> intro hc <;> (try exact absA) <;> (fail_if_success (change true = true at hc)) <;> (fail_if_success (change false = false at hc))) | fail)
    · exact ret1 rfl rfl ⟨by rw [if_pos (by omega)], hSt.nil⟩
    · exact ret1 rfl rfl ⟨by rw [if_neg (by omega)], hSt.nil⟩
def orderF (l : List Ln) : List Tx := if checkF l = 0 then startF l else []
theorem check_small {l : List Ln} (h : checkF l = 0) : l.length ≤ 24 := by
  by_cases h24 : 24 < l.length
  · rw [checkF_long h24] at h; cases h
  · omega
theorem order_any {w0 : World} {v0 : Value} {l : List Ln} (h : Lns w0 v0 l) : Cl Tryz.prog 11 [v0] w0 (fun v w' => ∃ nv H1, v = .tuple ⟨[nv, I (checkF l)]⟩ ∧ OwnSl nv 9 1 ((orderF l).map S) (orderF l).length H1 ∧ St w0 NoneS H1 w') := by
  have hL := h
  obtain ⟨a1, p1, xs, rfl, _⟩ := h.out
  have hSt := St.refl w0 NoneS
  unfold orderF
  refine enter Tryz.func11 rfl Tryz.ntmps11 rfl ?_
  by_cases h0 : checkF l = 0
  · rw [if_pos h0]
    repeat' (first | (refine WL_isCall (f := 22) ?_; refine WL_call (ok_call hT rfl) rfl rfl rfl (check_any (hL.kept hSt.keeps)) ?_; rintro v w' ⟨rfl, hc2⟩; replace hSt := hSt.call0 hc2; clear hc2) | (refine WL_isCall (f := 45) ?_; refine WL_call (ok_call hT rfl) rfl rfl rfl (start_any (hL.kept hSt.keeps) (check_small h0)) ?_; rintro v w' ⟨H1, ho, hc2⟩; replace hSt := hSt.newN hc2; clear hc2) | refine stepA ?_ | (refine stepS ?_; clear hSt; intro w hSt; dsimp only [spl, List.set] at hSt) | (refine stepB ?_; clear hSt; intro w nb hnb hSt; dsimp only [zcells, List.nil_append, List.cons_append] at hSt) | (refine W_quiet hT (by decide +kernel) hSt ?_; clear hSt; (repeat' (first | (apply QL_ev rfl rfl; (intro w hSt; (first | exact Ev_auto))) | refine QL_pass rfl rfl ?_ | (refine QL_guardP rfl rfl (fun hc => ?_) (fun hc => ?_) <;> try exact absA) | (refine QL_guard rfl rfl (fun hc => ?_) (fun hc => ?_) <;> (try exact absA) <;> (fail_if_success (change true = true at hc)) <;> (fail_if_success (change false = false at hc))))); all_goals (refine QL_nil (fun w hSt => ?_))) | (refine stepG ?_ ?_ <;> intro hc <;> (try exact absA) <;> (fail_if_success (change true = true at hc)) <;> (fail_if_success (change false = false at hc))) | fail)
    all_goals first | (exfalso; first | omega | contradiction) | (refine ret2 rfl rfl rfl ⟨_, H1, ?_, ho, hSt⟩; rw [h0]; done)
  · rw [if_neg h0]
    repeat' (first | (refine WL_isCall (f := 22) ?_; refine WL_call (ok_call hT rfl) rfl rfl rfl (check_any (hL.kept hSt.keeps)) ?_; rintro v w' ⟨rfl, hc2⟩; replace hSt := hSt.call0 hc2; clear hc2) | refine stepA ?_ | (refine stepS ?_; clear hSt; intro w hSt; dsimp only [spl, List.set] at hSt) | (refine stepB ?_; clear hSt; intro w nb hnb hSt; dsimp only [zcells, List.nil_append, List.cons_append] at hSt) | (refine W_quiet hT (by decide +kernel) hSt ?_; clear hSt; (repeat' (first | (apply QL_ev rfl rfl; (intro w hSt; (first | exact Ev_auto))) | refine QL_pass rfl rfl ?_ | (refine QL_guardP rfl rfl (fun hc => ?_) (fun hc => ?_) <;> try exact absA) | (refine QL_guard rfl rfl (fun hc => ?_) (fun hc => ?_) <;> (try exact absA) <;> (fail_if_success (change true = true at hc)) <;> (fail_if_success (change false = false at hc))))); all_goals (refine QL_nil (fun w hSt => ?_))) | (refine stepG ?_ ?_ <;> intro hc <;> (try exact absA) <;> (fail_if_success (change true = true at hc)) <;> (fail_if_success (change false = false at hc))) | fail)
    all_goals first | (exfalso; first | omega | contradiction) | exact ret2 rfl rfl rfl ⟨_, [], rfl, OwnSl.nil _ _, hSt⟩
end Go.Proofs.YtknfankadlokhaaGreatDoor

namespace Go.Proofs.YtknfankadlokhaaGreatDoor
open Go.RowKit
set_option linter.unusedVariables false
set_option linter.unusedSimpArgs false

theorem cond_slice {w : World} {c : Cn} {a b d e : Value} (h : CondAt w c [a, b, d, e]) : ∃ p n k, e = .slice p n k := by
  obtain ⟨u, us, e0, h1, _⟩ := h.cells
  obtain ⟨a, c, rfl, _⟩ := h1
  injection e0 with _ e0; injection e0 with _ e0; injection e0 with _ e0; injection e0 with e0 _
  exact ⟨_, _, _, e0⟩
theorem whole_tc {w : World} {b : Nat} {e : TypeId} (l : List Tx) (h : w.heap[b]? = some (blk (l.map S) e)) : SlAt w (.slice (some ⟨b, 0, none⟩) l.length l.length) 1 (l.map tc) := by
  refine own_tc (H1 := [(b, blk (l.map S) e)]) (e := e) ?_ (Has.of (by simpa using h) (by simp))
  have := OwnSl.whole b e (l.map S)
  rwa [List.length_map] at this
end Go.Proofs.YtknfankadlokhaaGreatDoor
