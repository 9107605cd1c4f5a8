/- Depends. No conditions. -/
import Derived.Test.YtknfankadlokhaaGreatDoorLhi
import Derived.Test.YtknfankadlokhaaGreatDoorMD
import Derived.Test.YtknfankadlokhaaGreatDoorNA

namespace Go.Proofs.YtknfankadlokhaaGreatDoor
open Go.RowKit
set_option maxRecDepth 4000
set_option linter.unusedVariables false
set_option linter.unusedSimpArgs false
set_option maxHeartbeats 4000000

theorem own_q {l : List Tx} {a : Option Addr} {n c : Nat} {e : TypeId} {H1 : List (Nat × Obj)} {w : World} (h : OwnSl (.slice a n c) e 1 (l.map S) l.length H1) (hh : Has w H1) {i : Nat} {x : Tx} (hx : l[i]? = some x) : ∃ b o m E z, a = some ⟨b, o, none⟩ ∧ w.heap[b]? = some (.cells ⟨m⟩ E z) ∧ m[o + (i : Int).toNat * 1]? = some (S x) := by
  obtain ⟨a', cap, e', hc⟩ := (own_tc h hh).map
  injection e' with e1 e2 e3
  subst e1
  obtain ⟨b, o, m, E, z, rfl, hb, _, q⟩ := hc i x hx
  exact ⟨b, o, m, E, z, rfl, hb, by rw [Int.toNat_natCast]; exact q 0 _ rfl⟩
theorem depends_any {w0 : World} {v0 : Value} {l : List Ln} (a b : Tx) (h : Lns w0 v0 l) : Cl Tryz.prog 14 [v0, S a, S b] w0 (fun v w' => v = B (dependsF l a b) ∧ St w0 NoneS [] w') := by
  have hL := h
  obtain ⟨a1, p1, xs, rfl, hcap, hlen, hxl, hs, h3, hc1⟩ := h.out
  have hSt := St.refl w0 NoneS
  by_cases h0 : checkF l = 0
  rotate_left 1
  · rw [show dependsF l a b = false by unfold dependsF; rw [decide_eq_false h0, Bool.false_and]]
    refine enter Tryz.func14 rfl Tryz.ntmps14 rfl ?_
    repeat' (first | (refine WL_isCall (f := 22) ?_; refine WL_call (ok_call hT rfl) rfl rfl rfl (check_any (hL.kept hSt.keeps)) ?_; rintro v w' ⟨rfl, hc2⟩; replace hSt := hSt.call0 hc2; clear hc2) | refine stepA ?_ | (refine stepS ?_; clear hSt; intro w hSt; dsimp only [spl, List.set] at hSt) | (refine stepB ?_; clear hSt; intro w nb hnb hSt; dsimp only [zcells, List.nil_append, List.cons_append] at hSt) | (refine stepG ?_ ?_ <;> intro hc <;> (try exact absA) <;> (fail_if_success (change true = true at hc)) <;> (fail_if_success (change false = false at hc))) | fail)
    all_goals first | (exfalso; first | omega | contradiction) | exact ret1 rfl rfl ⟨rfl, hSt.nil⟩
  by_cases ha : 0 ≤ idxF l a
  rotate_left 1
  · rw [show dependsF l a b = false by unfold dependsF; rw [decide_eq_false ha]; simp]
    refine enter Tryz.func14 rfl Tryz.ntmps14 rfl ?_
    repeat' (first | (refine WL_isCall (f := 22) ?_; refine WL_call (ok_call hT rfl) rfl rfl rfl (check_any (hL.kept hSt.keeps)) ?_; rintro v w' ⟨rfl, hc2⟩; replace hSt := hSt.call0 hc2; clear hc2) | (refine WL_isCall (f := 41) ?_; refine WL_call (ok_call hT rfl) rfl rfl rfl (index_any _ (hL.kept hSt.nil.keeps)) ?_; rintro v w' ⟨rfl, hc2⟩; replace hSt := hSt.call0 hc2; clear hc2) | refine stepA ?_ | (refine stepS ?_; clear hSt; intro w hSt; dsimp only [spl, List.set] at hSt) | (refine stepB ?_; clear hSt; intro w nb hnb hSt; dsimp only [zcells, List.nil_append, List.cons_append] at hSt) | (refine stepG ?_ ?_ <;> intro hc <;> (try exact absA) <;> (fail_if_success (change true = true at hc)) <;> (fail_if_success (change false = false at hc))) | fail)
    all_goals first | (exfalso; first | omega | contradiction) | exact ret1 rfl rfl ⟨rfl, hSt.nil⟩
  by_cases hb : 0 ≤ idxF l b
  rotate_left 1
  · rw [show dependsF l a b = false by unfold dependsF; rw [decide_eq_false hb]; simp]
    refine enter Tryz.func14 rfl Tryz.ntmps14 rfl ?_
    repeat' (first | (refine WL_isCall (f := 22) ?_; refine WL_call (ok_call hT rfl) rfl rfl rfl (check_any (hL.kept hSt.keeps)) ?_; rintro v w' ⟨rfl, hc2⟩; replace hSt := hSt.call0 hc2; clear hc2) | (refine WL_isCall (f := 41) ?_; refine WL_call (ok_call hT rfl) rfl rfl rfl (index_any _ (hL.kept hSt.nil.keeps)) ?_; rintro v w' ⟨rfl, hc2⟩; replace hSt := hSt.call0 hc2; clear hc2) | refine stepA ?_ | (refine stepS ?_; clear hSt; intro w hSt; dsimp only [spl, List.set] at hSt) | (refine stepB ?_; clear hSt; intro w nb hnb hSt; dsimp only [zcells, List.nil_append, List.cons_append] at hSt) | (refine stepG ?_ ?_ <;> intro hc <;> (try exact absA) <;> (fail_if_success (change true = true at hc)) <;> (fail_if_success (change false = false at hc))) | fail)
    all_goals first | (exfalso; first | omega | contradiction) | exact ret1 rfl rfl ⟨rfl, hSt.nil⟩
  rw [show dependsF l a b = depF l a b by unfold dependsF; rw [decide_eq_true h0, decide_eq_true ha, decide_eq_true hb]; simp]
  have h24 := (check_parts h0).1
  have hat : ∀ n, 0 ≤ idxF l n → ∃ e, l[(idxF l n).toNat]? = some e ∧ aftOf l n = e.after ∧ Todo l e.after := fun n hn => by
    obtain ⟨i, x, hi, hx, _⟩ := idxF_at hn
    have hx2 : l[(idxF l n).toNat]? = some x := by rw [hi, Int.toNat_natCast]; exact hx
    exact ⟨x, hx2, by unfold aftOf; rw [hx2], after_todo h0 (List.mem_of_getElem? hx)⟩
  have hel : ∀ n, 0 ≤ idxF l n → ∃ (e : Ln) (bb o : Nat) (c : List Value) (E : TypeId) (z : Nat × Nat) (va : Value), aftOf l n = e.after ∧ Todo l e.after ∧ a1 = some ⟨bb, o, none⟩ ∧ w0.heap[bb]? = some (.cells ⟨c⟩ E z) ∧ c[o + (idxF l n).toNat * 8 + 6]? = some va ∧ SlAt w0 va 1 (e.after.map tc) ∧ idxF l n < l.length := fun n hn => by
    obtain ⟨e, he, hae, hto⟩ := hat n hn
    obtain ⟨x, bb, o, c, E, z, hx, hle, ha1, hbb, q, _⟩ := hc1 _ e he
    obtain ⟨v1, va, vs, rfl, _, hsa, _⟩ := hle
    have q6 := SlAt.cell q (j := 6) rfl
    rw [Int.toNat_natCast] at q6
    have := (List.getElem?_eq_some_iff.1 he).1
    exact ⟨e, bb, o, c, E, z, va, hae, hto, ha1, hbb, q6, hsa, by omega⟩
  unfold depF
  obtain ⟨ea, ba, oa, ca, Ea, za, va, hae, hto, rfl, hba, qa, hsa, hilt⟩ := hel a ha
  have htl := hto.len
  rw [hae]
  refine enter Tryz.func14 rfl Tryz.ntmps14 rfl ?_
  repeat' (first | (refine WL_isCall (f := 22) ?_; refine WL_call (ok_call hT rfl) rfl rfl rfl (check_any (hL.kept hSt.keeps)) ?_; rintro v w' ⟨rfl, hc2⟩; replace hSt := hSt.call0 hc2; clear hc2) | (refine WL_isCall (f := 41) ?_; refine WL_call (ok_call hT rfl) rfl rfl rfl (index_any _ (hL.kept hSt.nil.keeps)) ?_; rintro v w' ⟨rfl, hc2⟩; replace hSt := hSt.call0 hc2; clear hc2) | (apply WL_ev rfl rfl; exact Ev_load1 hT rfl rfl (hSt.base hba (fun e => e)) qa) | (refine WL_isCall (f := 44) ?_; refine WL_call (ok_call hT rfl) rfl rfl rfl (sclone_any (hsa.kept hSt.keeps) (by omega)) ?_; rintro v w' ⟨H1, ho, hc2⟩; replace hSt := hSt.newN hc2; clear hc2; dsimp only [List.nil_append] at hSt) | refine stepA ?_ | (refine stepS ?_; clear hSt; intro w hSt; dsimp only [spl, List.set] at hSt) | (refine stepB ?_; clear hSt; intro w nb hnb hSt; dsimp only [zcells, List.nil_append, List.cons_append] at hSt) | (refine stepG ?_ ?_ <;> intro hc <;> (try exact absA) <;> (fail_if_success (change true = true at hc)) <;> (fail_if_success (change false = false at hc))) | fail)
  refine W_loop3 (fun k (i : Nat) (t : List Tx) (nv : Value) w => k = l.length + 1 - i ∧ i ≤ t.length ∧ Todo l t ∧ depR l b (l.length + 1) 0 ea.after = depR l b (l.length + 1 - i) i t ∧ ∃ H1, OwnSl nv 9 1 (t.map S) t.length H1 ∧ St w0 NoneS H1 w) (fun i t nv => [(8, I (i : Int)), (7, nv)]) (l.length + 1) 0 ea.after _ rfl (by (repeat (first | exact Str.nil _ | apply Str.drop rfl | apply Str.keepU rfl | apply Str.keep rfl))) ⟨rfl, by omega, hto, rfl, H1, ho, hSt⟩ (by (repeat (first | exact Sub.nil _ | refine Sub.cons rfl ?_))) ?_
  clear hSt ho
  rintro k i t nv w ⟨hk, hi, htd, hdep, H1, ho, hSt⟩ K hK
  rw [hdep]
  have htl2 := htd.len
  obtain ⟨oa2, oc2, rfl⟩ := ho.len
  by_cases hil : i < t.length
  · obtain ⟨x, hx⟩ : ∃ x, t[i]? = some x := ⟨_, List.getElem?_eq_getElem hil⟩
    obtain ⟨bq, oq, mq, Eq, zq, rfl, hbq, qq⟩ := own_q ho hSt.has hx
    have hfu : ∃ f, l.length + 1 - i = f + 1 ∧ f = l.length + 1 - (i + 1) := ⟨l.length - i, by omega, by omega⟩
    obtain ⟨f, hf, hf2⟩ := hfu
    have hd1 : depR l b (l.length + 1 - i) i t = if x = b then true else depR l b f (i + 1) (addF t (aftOf l x)) := by rw [hf, depR, hx]
    have hxn := idxF_mem.2 (htd.nodes x (List.mem_of_getElem? hx))
    obtain ⟨ex, bx, ox, cx, Ex, zx, vx, hxe, hxt, hbx0, hbx, qx, hsx, hxlt⟩ := hel x hxn
    injection hbx0 with hbx0
    injection hbx0 with e1 e2
    subst e1; subst e2
    obtain ⟨ax, px, rfl, hcx⟩ := hsx.map
    have hxal := hxt.len
    repeat' (first | (refine WL_isCall (f := 41) ?_; refine WL_call (ok_call hT rfl) rfl rfl rfl (index_any _ (hL.kept hSt.nil.keeps)) ?_; rintro v w' ⟨rfl, hc2⟩; replace hSt := hSt.call0 hc2; clear hc2) | (apply WL_ev rfl rfl; exact Ev_load1 hT rfl rfl hbq qq) | (apply WL_ev rfl rfl; exact Ev_load1 hT rfl rfl (hSt.base hbx (fun e => e)) qx) | refine stepA ?_ | (refine stepS ?_; clear hSt; intro w hSt; dsimp only [spl, List.set] at hSt) | (refine stepB ?_; clear hSt; intro w nb hnb hSt; dsimp only [zcells, List.nil_append, List.cons_append] at hSt) | (refine stepG ?_ ?_ <;> intro hc <;> (try exact absA) <;> (fail_if_success (change true = true at hc)) <;> (fail_if_success (change false = false at hc))) | fail)
    · exact ret1 rfl rfl ⟨by rw [hd1, if_pos (by assumption)], hSt.nil⟩
    · rw [hd1, if_neg (by assumption), hxe]
      have hdep2 := hdep
      rw [hd1, if_neg (by assumption), hxe] at hdep2
      refine W_loop3 (fun k2 (j : Nat) (t2 : List Tx) (nv : Value) w => k2 = ex.after.length - j ∧ j ≤ ex.after.length ∧ t2 = addF t (ex.after.take j) ∧ Todo l t2 ∧ ∃ H1, OwnSl nv 9 1 (t2.map S) t2.length H1 ∧ St w0 NoneS H1 w) (fun j t2 nv => [(57, I (j : Int)), (7, nv)]) ex.after.length 0 t _ rfl (by (repeat (first | exact Str.nil _ | apply Str.drop rfl | apply Str.keepU rfl | apply Str.keep rfl))) ⟨rfl, by omega, rfl, htd, H1, ho, hSt⟩ (by (repeat (first | exact Sub.nil _ | refine Sub.cons rfl ?_))) ?_
      clear hSt ho hbq
      rintro k2 j t2 nv w ⟨hk2, hj, ht2, htd2, H2, ho, hSt⟩ K2 hK2
      have htl3 := htd2.len
      obtain ⟨oa3, oc3, rfl⟩ := ho.len
      by_cases hjl : j < ex.after.length
      · obtain ⟨n, hn⟩ : ∃ n, ex.after[j]? = some n := ⟨_, List.getElem?_eq_getElem hjl⟩
        obtain ⟨b9, o9, m9, E9, z9, rfl, hb9, _, q9⟩ := hcx j n hn
        replace q9 := q9 0 _ rfl
        rw [← Int.toNat_natCast j] at q9
        have hat2 := addF_take (t := t) hn
        have hadd := htd2.add (hxt.nodes n (List.mem_of_getElem? hn))
        repeat' (first | (apply WL_ev rfl rfl; exact Ev_load1 hT rfl rfl (hSt.base hb9 (fun e => e)) q9) | (refine WL_isCall (f := 47) ?_; refine WL_call (ok_call hT rfl) rfl rfl rfl (scon_any n (own_tc ho hSt.has) (by omega)) ?_; rintro v w' ⟨rfl, hc2⟩; replace hSt := hSt.call0 hc2; clear hc2) | (refine WL_push1 hT rfl rfl rfl rfl rfl rfl rfl rfl rfl rfl rfl rfl (fun _ => rfl) rfl (H0 := []) hSt ho (by omega) (by omega) ?_; clear hSt ho; intro v' w H3 u ho hSt) | refine stepA ?_ | (refine stepS ?_; clear hSt; intro w hSt; dsimp only [spl, List.set] at hSt) | (refine stepB ?_; clear hSt; intro w nb hnb hSt; dsimp only [zcells, List.nil_append, List.cons_append] at hSt) | (refine stepG ?_ ?_ <;> intro hc <;> (try exact absA) <;> (fail_if_success (change true = true at hc)) <;> (fail_if_success (change false = false at hc))) | fail)
        · have hc0 : ¬ hasF t2 n = true := by simp_all
          rw [if_neg hc0] at hadd
          refine At_loop3 hK2 (k' := ex.after.length - (j + 1)) (j + 1) (t2 ++ [n]) _ (by omega) ⟨rfl, by omega, by rw [hat2, ← ht2, if_neg hc0], hadd, H3, by rw [List.map_append, List.length_append]; exact ho, hSt⟩ (by (repeat (first | exact Sub.nil _ | refine Sub.cons rfl ?_)))
        · have hc0 : hasF t2 n = true := by simp_all
          refine At_loop3 hK2 (k' := ex.after.length - (j + 1)) (j + 1) t2 _ (by omega) ⟨rfl, by omega, by rw [hat2, ← ht2, if_pos hc0], htd2, H2, ho, hSt⟩ (by (repeat (first | exact Sub.nil _ | refine Sub.cons rfl ?_)))
      · repeat' (first | refine stepA ?_ | (refine stepS ?_; clear hSt; intro w hSt; dsimp only [spl, List.set] at hSt) | (refine stepB ?_; clear hSt; intro w nb hnb hSt; dsimp only [zcells, List.nil_append, List.cons_append] at hSt) | (refine stepG ?_ ?_ <;> intro hc <;> (try exact absA) <;> (fail_if_success (change true = true at hc)) <;> (fail_if_success (change false = false at hc))) | fail)
        have hje : ex.after.take j = ex.after := List.take_of_length_le (by omega)
        rw [hje] at ht2
        have hle := addF_len ex.after t
        rw [← ht2] at hle
        exact At_loop3 hK (k' := l.length + 1 - (i + 1)) (i + 1) t2 _ (by omega) ⟨rfl, by omega, htd2, by rw [hdep2, hf2, ht2], H2, ho, hSt⟩ (by (repeat (first | exact Sub.nil _ | refine Sub.cons rfl ?_)))
  · repeat' (first | refine stepA ?_ | (refine stepS ?_; clear hSt; intro w hSt; dsimp only [spl, List.set] at hSt) | (refine stepB ?_; clear hSt; intro w nb hnb hSt; dsimp only [zcells, List.nil_append, List.cons_append] at hSt) | (refine stepG ?_ ?_ <;> intro hc <;> (try exact absA) <;> (fail_if_success (change true = true at hc)) <;> (fail_if_success (change false = false at hc))) | fail)
    refine ret1 rfl rfl ⟨?_, hSt.nil⟩
    have : i = t.length := by omega
    cases hf : l.length + 1 - i with
    | zero => rfl
    | succ f => rw [depR, List.getElem?_eq_none (by omega)]
end Go.Proofs.YtknfankadlokhaaGreatDoor
