/- The specification's order of starting, Check and Order. No conditions. -/
import Derived.Test.YtknfankadlokhaaGreatDoorLra
import Derived.Test.YtknfankadlokhaaGreatDoorMD

namespace Go.Proofs.YtknfankadlokhaaGreatDoor
open Go.RowKit
set_option maxRecDepth 4000
set_option linter.unusedVariables false
set_option linter.unusedSimpArgs false
set_option maxHeartbeats 4000000

theorem find_no {l : List Ln} {p : Ln → Bool} {n : Nat} (hn : l.length ≤ n) (h : ∀ (j : Nat) (x : Ln), j < n → l[j]? = some x → p x = false) : l.find? p = none := by
  rw [List.find?_eq_none]
  intro x hx
  obtain ⟨j, hj⟩ := List.getElem?_of_mem hx
  rw [h j x (by have := (List.getElem?_eq_some_iff.1 hj).1; omega) hj]; simp
theorem find_at {l : List Ln} {p : Ln → Bool} {i : Nat} {x : Ln} (hx : l[i]? = some x) (hp : p x = true) (h : ∀ (j : Nat) (y : Ln), j < i → l[j]? = some y → p y = false) : l.find? p = some x := by
  rw [List.find?_eq_some_iff_getElem]
  have hl := List.getElem?_eq_some_iff.1 hx
  refine ⟨hp, i, hl.1, hl.2, fun j hj => ?_⟩
  rw [h j _ hj (List.getElem?_eq_getElem (by have := hl.1; omega))]; rfl
theorem rrun_any {w0 : World} {v0 : Value} {l : List Ln} (h : Lns w0 v0 l) (h24 : l.length ≤ 24) : Cl Tryz.prog 106 [v0] w0 (fun v w' => ∃ H1, OwnSl v 9 1 ((startF l).map S) (startF l).length H1 ∧ St w0 NoneS H1 w') := by
  obtain ⟨a1, p1, xs, rfl, hcap, hlen, hxl, hs, h3, hc1⟩ := h.out
  have hSt := St.refl w0 NoneS
  refine enter Tryz.func106 rfl Tryz.ntmps106 rfl ?_
  repeat' (first | refine stepA ?_ | (refine stepS ?_; clear hSt; intro w hSt; dsimp only [spl, List.set] at hSt) | (refine stepB ?_; clear hSt; intro w nb hnb hSt; dsimp only [zcells, List.nil_append, List.cons_append] at hSt) | (refine stepG ?_ ?_ <;> intro hc <;> (try exact absA) <;> (fail_if_success (change true = true at hc)) <;> (fail_if_success (change false = false at hc))) | fail)
  refine W_loop2 (fun k (ns : List Tx) (nv : Value) w => k = leftF l ns ∧ Going l ns ∧ ∃ H1, OwnSl nv 9 1 (ns.map S) ns.length H1 ∧ St w0 NoneS H1 w) (fun ns nv => [(3, nv)]) (leftF l []) [] (.slice none 0 0) rfl (by (repeat (first | exact Str.nil _ | apply Str.drop rfl | apply Str.keepU rfl | apply Str.keep rfl))) ⟨rfl, Going.nil l, [], OwnSl.nil _ _, hSt⟩ (by (repeat (first | exact Sub.nil _ | refine Sub.cons rfl ?_))) ?_
  clear hSt
  rintro k ns nv w ⟨hk, hgo, H1, ho, hSt⟩ K hK
  have hrm := hgo.room
  obtain ⟨oa, oc, rfl⟩ := ho.len
  by_cases hnl : ns.length < l.length
  · repeat' (first | refine stepA ?_ | (refine stepS ?_; clear hSt; intro w hSt; dsimp only [spl, List.set] at hSt) | (refine stepB ?_; clear hSt; intro w nb hnb hSt; dsimp only [zcells, List.nil_append, List.cons_append] at hSt) | (refine stepG ?_ ?_ <;> intro hc <;> (try exact absA) <;> (fail_if_success (change true = true at hc)) <;> (fail_if_success (change false = false at hc))) | fail)
    refine W_loop4 (fun k2 (i : Nat) (b : Bool) (n2 : List Tx) (nv2 : Value) w => k2 = l.length - i ∧ i ≤ l.length ∧ (b = false → n2 = ns ∧ ∀ (j : Nat) (x : Ln), j < i → l[j]? = some x → readyF ns x = false) ∧ (b = true → ∃ x, l.find? (readyF ns) = some x ∧ n2 = ns ++ [x.node]) ∧ ∃ H2, OwnSl nv2 9 1 (n2.map S) n2.length H2 ∧ St w0 NoneS H2 w) (fun i b n2 nv2 => [(5, I (i : Int)), (4, B b), (3, nv2)]) l.length 0 false ns _ rfl (by (repeat (first | exact Str.nil _ | apply Str.drop rfl | apply Str.keepU rfl | apply Str.keep rfl)))
      ⟨rfl, by omega, fun _ => ⟨rfl, fun j x hj => by omega⟩, (fun e => by cases e), H1, ho, hSt⟩ (by (repeat (first | exact Sub.nil _ | refine Sub.cons rfl ?_))) ?_
    clear hSt
    rintro k2 i b n2 nv2 w ⟨hk2, hi, hb0, hb1, H2, ho2, hSt⟩ K2 hK2
    obtain ⟨oa2, oc2, rfl⟩ := ho2.len
    cases b with
    | true =>
      obtain ⟨x, hfd, rfl⟩ := hb1 rfl
      have hlt := leftF_snoc (List.mem_of_find?_eq_some hfd) (ready_has (List.find?_some hfd)).1
      repeat' (first | refine stepA ?_ | (refine stepS ?_; clear hSt; intro w hSt; dsimp only [spl, List.set] at hSt) | (refine stepB ?_; clear hSt; intro w nb hnb hSt; dsimp only [zcells, List.nil_append, List.cons_append] at hSt) | (refine stepG ?_ ?_ <;> intro hc <;> (try exact absA) <;> (fail_if_success (change true = true at hc)) <;> (fail_if_success (change false = false at hc))) | fail)
      all_goals first
        | exact At_loop2 hK (k' := leftF l (ns ++ [x.node])) (ns ++ [x.node]) _ (by omega) ⟨rfl, hgo.step hfd, H2, ho2, hSt⟩ (by (repeat (first | exact Sub.nil _ | refine Sub.cons rfl ?_)))
        | (exfalso; first | omega | contradiction)
    | false =>
      obtain ⟨rfl, hno⟩ := hb0 rfl
      by_cases hil : i < l.length
      · obtain ⟨e, he⟩ : ∃ e, l[i]? = some e := ⟨_, List.getElem?_eq_getElem hil⟩
        obtain ⟨x, b1, o1, c1, E1, z1, hx, hle, rfl, hb1', q, hq8⟩ := hc1 i e he
        obtain ⟨v1, va, vs, rfl, _, hsa, _, _, _, hla, _⟩ := hle
        have q0 := SlAt.cell q (j := 0) rfl
        have q6 := SlAt.cell q (j := 6) rfl
        have hrd : readyF n2 e = (!hasF n2 e.node && e.after.all (hasF n2)) := rfl
        have hone : ([e.node] : List Tx).all (hasF n2) = hasF n2 e.node := by simp
        have hs1 : ∀ {w1 : World} {bb : Nat} {HH : List (Nat × Obj)}, St w0 NoneS (HH ++ [(bb, blk [S e.node] 9)]) w1 → SlAt w1 (.slice oa2 n2.length oc2) 1 (n2.map tc) → Cl Tryz.prog 131 [.slice (some ⟨bb, 0, none⟩) 1 1, .slice oa2 n2.length oc2] w1 (fun v w' => v = B (hasF n2 e.node) ∧ St w1 NoneS [] w') := fun k kk => by
          have := rstarted_any (ar := [e.node]) (ns := n2) (whole_tc [e.node] (at_last k)) kk (by simp) (by omega)
          rw [hone] at this; exact this
        repeat' (first | (apply WL_ev rfl rfl; exact Ev_load1 hT rfl rfl (hSt.base hb1' (fun e => e)) q0) | (apply WL_ev rfl rfl; exact Ev_load1 hT rfl rfl (hSt.base hb1' (fun e => e)) q6) | (refine WL_isCall (f := 131) ?_; refine WL_call (ok_call hT rfl) rfl rfl rfl (hs1 hSt (own_tc ho2 hSt.left.has)) ?_; rintro v w' ⟨rfl, hc2⟩; replace hSt := (hSt.call0 hc2).left; clear hc2) | (refine WL_isCall (f := 131) ?_; refine WL_call (ok_call hT rfl) rfl rfl rfl (rstarted_any (hsa.kept hSt.nil.keeps) (own_tc ho2 hSt.has) hla (by omega)) ?_; rintro v w' ⟨rfl, hc2⟩; replace hSt := (hSt.call0 hc2); clear hc2) | (refine WL_push1 hT rfl rfl rfl rfl rfl rfl rfl rfl rfl rfl rfl rfl (fun _ => rfl) rfl (H0 := []) hSt ho2 (by omega) (by omega) ?_; clear hSt; intro v' w H3 u ho3 hSt) | (refine WL_buildSlice hT rfl rfl rfl rfl rfl rfl rfl rfl hSt ?_; clear hSt; intro w nb hnb hSt) | refine stepA ?_ | (refine stepS ?_; clear hSt; intro w hSt; dsimp only [spl, List.set] at hSt) | (refine stepB ?_; clear hSt; intro w nb hnb hSt; dsimp only [zcells, List.nil_append, List.cons_append] at hSt) | (refine stepG ?_ ?_ <;> intro hc <;> (try exact absA) <;> (fail_if_success (change true = true at hc)) <;> (fail_if_success (change false = false at hc))) | fail)
        · have hr : readyF n2 e = true := by
            rw [hrd, show (!hasF n2 e.node) = true from by assumption, show e.after.all (hasF n2) = true from by assumption]; rfl
          exact At_loop4 hK2 (k' := l.length - (i + 1)) (i + 1) true (n2 ++ [e.node]) _ (by omega) ⟨rfl, by omega, (fun e => by cases e), fun _ => ⟨e, find_at he hr hno, rfl⟩, H3, by rw [List.map_append, List.length_append]; exact ho3, hSt⟩ (by (repeat (first | exact Sub.nil _ | refine Sub.cons rfl ?_)))
        · have hr : readyF n2 e = false := by
            rw [hrd, show (!hasF n2 e.node) = true from by assumption, show e.after.all (hasF n2) = false from by assumption]; rfl
          exact At_loop4 hK2 (k' := l.length - (i + 1)) (i + 1) false n2 _ (by omega) ⟨rfl, by omega, fun _ => ⟨rfl, hno_snoc hno he hr⟩, (fun e => by cases e), H2, ho2, hSt⟩ (by (repeat (first | exact Sub.nil _ | refine Sub.cons rfl ?_)))
        · have hr : readyF n2 e = false := by
            rw [hrd, show (!hasF n2 e.node) = false from by assumption]; rfl
          exact At_loop4 hK2 (k' := l.length - (i + 1)) (i + 1) false n2 _ (by omega) ⟨rfl, by omega, fun _ => ⟨rfl, hno_snoc hno he hr⟩, (fun e => by cases e), H2, ho2, hSt⟩ (by (repeat (first | exact Sub.nil _ | refine Sub.cons rfl ?_)))
      · have hfd := find_no (n := i) (by omega) hno
        rw [← hgo.stop hfd]
        repeat' (first | refine stepA ?_ | (refine stepS ?_; clear hSt; intro w hSt; dsimp only [spl, List.set] at hSt) | (refine stepB ?_; clear hSt; intro w nb hnb hSt; dsimp only [zcells, List.nil_append, List.cons_append] at hSt) | (refine stepG ?_ ?_ <;> intro hc <;> (try exact absA) <;> (fail_if_success (change true = true at hc)) <;> (fail_if_success (change false = false at hc))) | fail)
        all_goals first
          | exact ret1 rfl rfl ⟨H2, ho2, hSt⟩
          | (exfalso; first | omega | contradiction)
  · have hfd : l.find? (readyF ns) = none := by
      cases hf : l.find? (readyF ns) with
      | none => rfl
      | some x =>
        have := (hgo.step hf).room
        rw [List.length_append] at this
        simp at this
        omega
    rw [← hgo.stop hfd]
    repeat' (first | refine stepA ?_ | (refine stepS ?_; clear hSt; intro w hSt; dsimp only [spl, List.set] at hSt) | (refine stepB ?_; clear hSt; intro w nb hnb hSt; dsimp only [zcells, List.nil_append, List.cons_append] at hSt) | (refine stepG ?_ ?_ <;> intro hc <;> (try exact absA) <;> (fail_if_success (change true = true at hc)) <;> (fail_if_success (change false = false at hc))) | fail)
    exact ret1 rfl rfl ⟨H1, ho, hSt⟩
theorem rcheck_any {w0 : World} {v0 : Value} {l : List Ln} (h : Lns w0 v0 l) (hlv : ∀ x ∈ l, levC x.cond ≤ 9223372036854775807) : Cl Tryz.prog 60 [v0] w0 (fun v w' => v = I (checkF l) ∧ St w0 NoneS [] w') := by
  have hL := h
  obtain ⟨a1, p1, xs, rfl, hcap, hlen, hxl, hs, h3, hc1⟩ := h.out
  have hSt := St.refl w0 NoneS
  by_cases h24 : 24 < l.length
  · rw [checkF_long h24]
    refine enter Tryz.func60 rfl Tryz.ntmps60 rfl ?_
    repeat' (first | refine stepA ?_ | (refine stepS ?_; clear hSt; intro w hSt; dsimp only [spl, List.set] at hSt) | (refine stepB ?_; clear hSt; intro w nb hnb hSt; dsimp only [zcells, List.nil_append, List.cons_append] at hSt) | (refine stepG ?_ ?_ <;> intro hc <;> (try exact absA) <;> (fail_if_success (change true = true at hc)) <;> (fail_if_success (change false = false at hc))) | fail)
    all_goals first | exact ret1 rfl rfl ⟨rfl, hSt.nil⟩ | (exfalso; omega)
  replace h24 : l.length ≤ 24 := by omega
  refine enter Tryz.func60 rfl Tryz.ntmps60 rfl ?_
  repeat' (first | refine stepA ?_ | (refine stepS ?_; clear hSt; intro w hSt; dsimp only [spl, List.set] at hSt) | (refine stepB ?_; clear hSt; intro w nb hnb hSt; dsimp only [zcells, List.nil_append, List.cons_append] at hSt) | (refine stepG ?_ ?_ <;> intro hc <;> (try exact absA) <;> (fail_if_success (change true = true at hc)) <;> (fail_if_success (change false = false at hc))) | fail)
  all_goals try (exfalso; omega)
  refine W_loop1 (fun k (i : Nat) w => k = l.length - i ∧ i ≤ l.length ∧ (∀ j, j < i → entryF l j = 0) ∧ St w0 NoneS [] w) (fun i => [(3, I (i : Int))]) l.length 0 rfl (by (repeat (first | exact Str.nil _ | apply Str.drop rfl | apply Str.keepU rfl | apply Str.keep rfl))) ⟨rfl, by omega, by intro j hj; omega, hSt⟩ (by (repeat (first | exact Sub.nil _ | refine Sub.cons rfl ?_))) ?_
  clear hSt
  rintro k i w ⟨hk, hi, hno, hSt⟩ K hK
  by_cases hil : i < l.length
  · obtain ⟨e, he⟩ : ∃ e, l[i]? = some e := ⟨_, List.getElem?_eq_getElem hil⟩
    repeat' (first | (refine WL_isCall (f := 105) ?_; refine WL_call (ok_call hT rfl) rfl rfl rfl (rentry_any (hL.kept hSt.keeps) he (hlv e (List.mem_of_getElem? he))) ?_; rintro v w' ⟨rfl, hc2⟩; replace hSt := (hSt.call0 hc2); clear hc2) | refine stepA ?_ | (refine stepS ?_; clear hSt; intro w hSt; dsimp only [spl, List.set] at hSt) | (refine stepB ?_; clear hSt; intro w nb hnb hSt; dsimp only [zcells, List.nil_append, List.cons_append] at hSt) | (refine stepG ?_ ?_ <;> intro hc <;> (try exact absA) <;> (fail_if_success (change true = true at hc)) <;> (fail_if_success (change false = false at hc))) | fail)
    all_goals first
      | (refine ret1 rfl rfl ⟨?_, hSt.nil⟩; rw [checkF_hit (e := entryF l i) h24 hil hno rfl (by assumption)]; done)
      | exact At_loop1 hK (k' := l.length - (i + 1)) (i + 1) (by omega) ⟨rfl, by omega, fno_snoc hno (by omega), hSt⟩ (by (repeat (first | exact Sub.nil _ | refine Sub.cons rfl ?_)))
      | (exfalso; omega)
  · have hi2 : i = l.length := by omega
    subst hi2
    rw [checkF_end h24 hno]
    repeat' (first | (refine WL_isCall (f := 106) ?_; refine WL_call (ok_call hT rfl) rfl rfl rfl (rrun_any (hL.kept hSt.keeps) h24) ?_; rintro v w' ⟨H1, ho, hc2⟩; replace hSt := hSt.newN hc2; clear hc2; (obtain ⟨oa, oc, rfl⟩ := ho.len)) | refine stepA ?_ | (refine stepS ?_; clear hSt; intro w hSt; dsimp only [spl, List.set] at hSt) | (refine stepB ?_; clear hSt; intro w nb hnb hSt; dsimp only [zcells, List.nil_append, List.cons_append] at hSt) | (refine stepG ?_ ?_ <;> intro hc <;> (try exact absA) <;> (fail_if_success (change true = true at hc)) <;> (fail_if_success (change false = false at hc))) | fail)
    all_goals first
      | exact ret1 rfl rfl ⟨by rw [if_pos (by omega)], hSt.nil⟩
      | exact ret1 rfl rfl ⟨by rw [if_neg (by omega)], hSt.nil⟩
      | (exfalso; omega)
theorem rev0_any {w0 : World} {a : Option Addr} {c : Nat} : Cl Tryz.prog 46 [.slice a 0 c] w0 (fun v w' => v = .tuple ⟨[]⟩ ∧ St w0 NoneS [] w') := by
  have hSt := St.refl w0 NoneS
  refine enter Tryz.func46 rfl Tryz.ntmps46 rfl ?_
  repeat' (first | refine stepA ?_ | (refine stepS ?_; clear hSt; intro w hSt; dsimp only [spl, List.set] at hSt) | (refine stepB ?_; clear hSt; intro w nb hnb hSt; dsimp only [zcells, List.nil_append, List.cons_append] at hSt) | (refine stepG ?_ ?_ <;> intro hc <;> (try exact absA) <;> (fail_if_success (change true = true at hc)) <;> (fail_if_success (change false = false at hc))) | fail)
  refine W_loop1 (fun k (i : Nat) w => St w0 NoneS [] w) (fun _ => [(2, I 0), (3, I (((0 : Nat) : Int) - 1))]) 0 0 rfl (by (repeat (first | exact Str.nil _ | apply Str.drop rfl | apply Str.keepU rfl | apply Str.keep rfl))) hSt (by (repeat (first | exact Sub.nil _ | refine Sub.cons rfl ?_))) ?_
  clear hSt
  rintro k i w hSt K hK
  repeat' (first | refine stepA ?_ | (refine stepS ?_; clear hSt; intro w hSt; dsimp only [spl, List.set] at hSt) | (refine stepB ?_; clear hSt; intro w nb hnb hSt; dsimp only [zcells, List.nil_append, List.cons_append] at hSt) | (refine stepG ?_ ?_ <;> intro hc <;> (try exact absA) <;> (fail_if_success (change true = true at hc)) <;> (fail_if_success (change false = false at hc))) | fail)
  all_goals first | exact ⟨rfl, hSt⟩ | (exfalso; omega)
theorem stop_bad {w0 : World} {v0 : Value} {l : List Ln} (h : Lns w0 v0 l) (h0 : checkF l ≠ 0) : Cl Tryz.prog 12 [v0] w0 (fun v w' => ∃ a c, v = .tuple ⟨[.slice a 0 c, I (checkF l)]⟩ ∧ St w0 NoneS [] w') := by
  have hL := h
  have hof : orderF l = [] := by unfold orderF; rw [if_neg h0]
  obtain ⟨a1, p1, xs, rfl, _⟩ := h.out
  have hSt := St.refl w0 NoneS
  refine enter Tryz.func12 rfl Tryz.ntmps12 rfl ?_
  repeat' (first | (refine WL_isCall (f := 11) ?_; refine WL_call (ok_call hT rfl) rfl rfl rfl (order_any (hL.kept hSt.keeps)) ?_; rintro v w' ⟨nv, H1, rfl, ho, hc2⟩; replace hSt := hSt.newN hc2; clear hc2; rw [hof] at ho; (obtain ⟨oa, oc, rfl⟩ := ho.len)) | (refine WL_isCall (f := 46) ?_; refine WL_call (ok_call hT rfl) rfl rfl rfl (rev0_any) ?_; rintro v w' ⟨rfl, hc2⟩; replace hSt := (hSt.call0 hc2); clear hc2) | refine stepA ?_ | (refine stepS ?_; clear hSt; intro w hSt; dsimp only [spl, List.set] at hSt) | (refine stepB ?_; clear hSt; intro w nb hnb hSt; dsimp only [zcells, List.nil_append, List.cons_append] at hSt) | (refine stepG ?_ ?_ <;> intro hc <;> (try exact absA) <;> (fail_if_success (change true = true at hc)) <;> (fail_if_success (change false = false at hc))) | fail)
  all_goals exact ret2 rfl rfl rfl ⟨_, _, rfl, hSt.nil⟩
end Go.Proofs.YtknfankadlokhaaGreatDoor
