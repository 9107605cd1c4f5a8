/- The specification's comparison of what is the same. No conditions. -/
import Derived.Test.YtknfankadlokhaaGreatDoorLra
import Derived.Test.YtknfankadlokhaaGreatDoorMD

namespace Go.Proofs.YtknfankadlokhaaGreatDoor
open Go.RowKit
set_option maxRecDepth 4000
set_option linter.unusedVariables false
set_option linter.unusedSimpArgs false
set_option maxHeartbeats 4000000

theorem rsc_any : ∀ (c : Cn) {w0 : World} {cs ds : List Value} (h : CondAt w0 c cs) (h2 : CondAt w0 c ds), Cl Tryz.prog 25 [.agg ⟨cs⟩, .agg ⟨ds⟩] w0 (fun v w' => v = B true ∧ St w0 NoneS [] w') := by
  intro c
  induction c using Cn.ind with
  | h op n t ar ih =>
  intro w0 cs ds h h2
  obtain ⟨v0, xs, rfl, hs, hcs, htl, hal⟩ := h.cells
  obtain ⟨v1, ys, rfl, hs2, hds, _, _⟩ := h2.cells
  dsimp only [Cn.op, Cn.name, Cn.text, Cn.args] at *
  have hSt := St.refl w0 NoneS
  obtain ⟨a1, p1, rfl, hc1⟩ := hs.some_ hcs.len
  obtain ⟨a2, p2, rfl, hc2⟩ := hs2.some_ hds.len
  refine enter Tryz.func25 rfl Tryz.ntmps25 rfl ?_
  repeat' (first | (refine WL_box (d := 2) rfl rfl rfl hSt ?_; clear hSt; intro w b2 hb2 hSt; dsimp only [zcells, List.nil_append, List.cons_append] at hSt) | (refine WL_box (d := 3) rfl rfl rfl hSt ?_; clear hSt; intro w b3 hb3 hSt; dsimp only [zcells, List.nil_append, List.cons_append] at hSt) | refine stepA ?_ | (refine stepS ?_; clear hSt; intro w hSt; dsimp only [spl, List.set] at hSt) | (refine stepB ?_; clear hSt; intro w nb hnb hSt; dsimp only [zcells, List.nil_append, List.cons_append] at hSt) | (refine W_quiet hT (by decide +kernel) hSt ?_; clear hSt; (repeat' (first | (apply QL_ev rfl rfl; (intro w hSt; (first | exact Ev_auto))) | refine QL_pass rfl rfl ?_ | (refine QL_guardP rfl rfl (fun hc => ?_) (fun hc => ?_) <;> try exact absA) | (refine QL_guard rfl rfl (fun hc => ?_) (fun hc => ?_) <;> (try exact absA) <;> (fail_if_success (change true = true at hc)) <;> (fail_if_success (change false = false at hc))))); all_goals (refine QL_nil (fun w hSt => ?_))) | (refine stepG ?_ ?_ <;> intro hc <;> (try exact absA) <;> (fail_if_success (change true = true at hc)) <;> (fail_if_success (change false = false at hc))) | fail)
  all_goals try (exfalso; first | omega | contradiction)
  refine W_loop1 (fun k (i : Nat) w => k = ar.length - i ∧ i ≤ ar.length ∧ St w0 NoneS [(b2, blk [I op, S n, S t, .slice a1 ar.length p1] 38), (b3, blk [I op, S n, S t, .slice a2 ar.length p2] 38)] w) (fun i => [(5, I (i : Int))]) ar.length 0 rfl (by (repeat (first | exact Str.nil _ | apply Str.drop rfl | apply Str.keepU rfl | apply Str.keep rfl))) ⟨rfl, by omega, hSt⟩ (by (repeat (first | exact Sub.nil _ | refine Sub.cons rfl ?_))) ?_
  clear hSt
  rintro k i w ⟨hk, hi, hSt⟩ K hK
  by_cases hil : i < ar.length
  · obtain ⟨a, ha⟩ : ∃ a, ar[i]? = some a := ⟨_, List.getElem?_eq_getElem hil⟩
    obtain ⟨x, hx, hca⟩ := hcs.at ha
    obtain ⟨y, hy, hda⟩ := hds.at ha
    obtain ⟨b4, o4, m4, E4, z4, rfl, hb4, q4, _⟩ := hc1 i x hx
    obtain ⟨b5, o5, m5, E5, z5, rfl, hb5, q5, _⟩ := hc2 i y hy
    have hcx := hca
    have hdx := hda
    obtain ⟨va, xa, rfl, _⟩ := hca.cells
    obtain ⟨vb, xb, rfl, _⟩ := hda.cells
    rw [← Int.toNat_natCast i] at q4 q5
    repeat' (first | (apply WL_ev rfl rfl; exact Ev_loadN hT rfl rfl (hSt.base hb4 (fun e => e)) q4 rfl) | (apply WL_ev rfl rfl; exact Ev_loadN hT rfl rfl (hSt.base hb5 (fun e => e)) q5 rfl) | refine stepA ?_ | (refine stepS ?_; clear hSt; intro w hSt; dsimp only [spl, List.set] at hSt) | (refine stepB ?_; clear hSt; intro w nb hnb hSt; dsimp only [zcells, List.nil_append, List.cons_append] at hSt) | (refine W_quiet hT (by decide +kernel) hSt ?_; clear hSt; (repeat' (first | (refine QL_isCall (f := 25) ?_; refine QL_call (ok_call hT rfl) rfl rfl rfl (fun w hSt => (ih a (List.mem_of_getElem? ha) (hcx.kept hSt.nil.keeps) (hdx.kept hSt.nil.keeps)).mono (fun v w2 h => ⟨h.1, hSt.call0 h.2⟩)) ?_) | (apply QL_ev rfl rfl; (intro w hSt; (first | (exact Ev_loadN hT rfl rfl (hSt.base hb4 (fun e => e)) q4 rfl) | (exact Ev_loadN hT rfl rfl (hSt.base hb5 (fun e => e)) q5 rfl) | exact Ev_auto))) | refine QL_pass rfl rfl ?_ | (refine QL_guardP rfl rfl (fun hc => ?_) (fun hc => ?_) <;> try exact absA) | (refine QL_guard rfl rfl (fun hc => ?_) (fun hc => ?_) <;> (try exact absA) <;> (fail_if_success (change true = true at hc)) <;> (fail_if_success (change false = false at hc))))); all_goals (refine QL_nil (fun w hSt => ?_))) | (refine stepG ?_ ?_ <;> intro hc <;> (try exact absA) <;> (fail_if_success (change true = true at hc)) <;> (fail_if_success (change false = false at hc))) | fail)
    all_goals first
      | exact At_loop1 hK (k' := ar.length - (i + 1)) (i + 1) (by omega) ⟨rfl, by omega, hSt⟩ (by (repeat (first | exact Sub.nil _ | refine Sub.cons rfl ?_)))
      | (exfalso; first | omega | contradiction)
  · repeat' (first | refine stepA ?_ | (refine stepS ?_; clear hSt; intro w hSt; dsimp only [spl, List.set] at hSt) | (refine stepB ?_; clear hSt; intro w nb hnb hSt; dsimp only [zcells, List.nil_append, List.cons_append] at hSt) | (refine W_quiet hT (by decide +kernel) hSt ?_; clear hSt; (repeat' (first | (apply QL_ev rfl rfl; (intro w hSt; (first | exact Ev_auto))) | refine QL_pass rfl rfl ?_ | (refine QL_guardP rfl rfl (fun hc => ?_) (fun hc => ?_) <;> try exact absA) | (refine QL_guard rfl rfl (fun hc => ?_) (fun hc => ?_) <;> (try exact absA) <;> (fail_if_success (change true = true at hc)) <;> (fail_if_success (change false = false at hc))))); all_goals (refine QL_nil (fun w hSt => ?_))) | (refine stepG ?_ ?_ <;> intro hc <;> (try exact absA) <;> (fail_if_success (change true = true at hc)) <;> (fail_if_success (change false = false at hc))) | fail)
    exact ret1 rfl rfl ⟨rfl, hSt.nil⟩
theorem rsame_any {w0 : World} {v0 v1 : Value} {l : List Ln} (h : Lns w0 v0 l) (h2 : Lns w0 v1 l) : Cl Tryz.prog 21 [v0, v1] w0 (fun v w' => v = B true ∧ St w0 NoneS [] w') := by
  obtain ⟨a1, p1, xs, rfl, _, hlen, hxl, hs, h3, hc1⟩ := h.out
  obtain ⟨a2, p2, ys, rfl, _, _, hyl, hs2, h32, hc2⟩ := h2.out
  have hSt := St.refl w0 NoneS
  refine enter Tryz.func21 rfl Tryz.ntmps21 rfl ?_
  repeat' (first | refine stepA ?_ | (refine stepS ?_; clear hSt; intro w hSt; dsimp only [spl, List.set] at hSt) | (refine stepB ?_; clear hSt; intro w nb hnb hSt; dsimp only [zcells, List.nil_append, List.cons_append] at hSt) | (refine W_quiet hT (by decide +kernel) hSt ?_; clear hSt; (repeat' (first | (apply QL_ev rfl rfl; (intro w hSt; (first | exact Ev_auto))) | refine QL_pass rfl rfl ?_ | (refine QL_guardP rfl rfl (fun hc => ?_) (fun hc => ?_) <;> try exact absA) | (refine QL_guard rfl rfl (fun hc => ?_) (fun hc => ?_) <;> (try exact absA) <;> (fail_if_success (change true = true at hc)) <;> (fail_if_success (change false = false at hc))))); all_goals (refine QL_nil (fun w hSt => ?_))) | (refine stepG ?_ ?_ <;> intro hc <;> (try exact absA) <;> (fail_if_success (change true = true at hc)) <;> (fail_if_success (change false = false at hc))) | fail)
  all_goals try (exfalso; first | omega | contradiction)
  refine W_loop1 (fun k (i : Nat) w => k = l.length - i ∧ i ≤ l.length ∧ St w0 NoneS [] w) (fun i => [(5, I (i : Int))]) l.length 0 rfl (by (repeat (first | exact Str.nil _ | apply Str.drop rfl | apply Str.keepU rfl | apply Str.keep rfl))) ⟨rfl, by omega, hSt⟩ (by (repeat (first | exact Sub.nil _ | refine Sub.cons rfl ?_))) ?_
  clear hSt
  rintro k i w ⟨hk, hi, hSt⟩ K hK
  by_cases hil : i < l.length
  · obtain ⟨e, he⟩ : ∃ e, l[i]? = some e := ⟨_, List.getElem?_eq_getElem hil⟩
    obtain ⟨x, b4, o4, m4, E4, z4, hx, hle, rfl, hb4, q4, hq4⟩ := hc1 i e he
    obtain ⟨y, b5, o5, m5, E5, z5, hy, hle2, rfl, hb5, q5, hq5⟩ := hc2 i e he
    obtain ⟨u1, ua, us, rfl, hcnd, hsa, hss, _, _, hla, hls, _⟩ := hle
    obtain ⟨t1, ta, ts, rfl, hcnd2, hsa2, hss2, _⟩ := hle2
    obtain ⟨u1a, u1n, u1c, rfl⟩ := cond_slice hcnd
    obtain ⟨t1a, t1n, t1c, rfl⟩ := cond_slice hcnd2
    obtain ⟨a3, p3, rfl, hc3⟩ := hsa.map
    obtain ⟨a4, p4, rfl, hc4⟩ := hss.map
    obtain ⟨a5, p5, rfl, hc5⟩ := hsa2.map
    obtain ⟨a6, p6, rfl, hc6⟩ := hss2.map
    repeat' (first | (refine W_mixN (.op 0 false (.op 1 false (.op 2 false (.op 3 false (.op 4 false (.op 5 false (.op 6 false (.op 7 false (.alt 8 (.op 9 true (.op 10 true .done)) (.op 9 true (.op 8 true (.op 10 true .done)))))))))))) (fun w => w.heap[b4]? = some (.cells ⟨m4⟩ E4 z4) ∧ w.heap[b5]? = some (.cells ⟨m5⟩ E5 z5)) hT (by decide +kernel) hSt ?_; clear hSt; intro w hSt) | (refine MN_alt rfl ?_ ?_) | (refine MN_one rfl ?_) | (refine At_oneN ⟨hSt.base hb4 (fun e => e), hSt.base hb5 (fun e => e)⟩ ?_) | (refine MN_end ?_; simp only [NTree.depth, List.drop_succ_cons, List.drop_zero]) | (refine MN_ev rfl rfl rfl ⟨hSt.base hb4 (fun e => e), hSt.base hb5 (fun e => e)⟩ (fun w hw => by first | exact Ev_move rfl | exact Ev_indexAddr hT rfl rfl rfl (by omega) (by omega) | exact Ev_loadN hT rfl rfl hw.1 q4 rfl | exact Ev_loadN hT rfl rfl hw.2 q5 rfl) ?_) | (refine WL_alloc (d := 6) hT rfl rfl rfl hSt ?_; clear hSt; intro w b6 hb6 hSt; replace hSt := hSt.front; dsimp only [zcells, List.nil_append, List.cons_append] at hSt) | (refine WL_alloc (d := 7) hT rfl rfl rfl hSt ?_; clear hSt; intro w b7 hb7 hSt; dsimp only [zcells, List.nil_append, List.cons_append] at hSt) | (refine WL_isCall (f := 25) ?_; refine WL_call (ok_call hT rfl) rfl rfl rfl (rsc_any e.cond (hcnd.kept hSt.nil.keeps) (hcnd2.kept hSt.nil.keeps)) ?_; rintro v w' ⟨rfl, hc2⟩; replace hSt := (hSt.call0 hc2); clear hc2) | refine stepA ?_ | (refine stepS ?_; clear hSt; intro w hSt; dsimp only [spl, List.set] at hSt) | (refine stepB ?_; clear hSt; intro w nb hnb hSt; dsimp only [zcells, List.nil_append, List.cons_append] at hSt) | (refine W_quiet hT (by decide +kernel) hSt ?_; clear hSt; (repeat' (first | (apply QL_ev rfl rfl; (intro w hSt; (first | exact Ev_auto))) | refine QL_pass rfl rfl ?_ | (refine QL_guardP rfl rfl (fun hc => ?_) (fun hc => ?_) <;> try exact absA) | (refine QL_guard rfl rfl (fun hc => ?_) (fun hc => ?_) <;> (try exact absA) <;> (fail_if_success (change true = true at hc)) <;> (fail_if_success (change false = false at hc))))); all_goals (refine QL_nil (fun w hSt => ?_))) | (refine stepG ?_ ?_ <;> intro hc <;> (try exact absA) <;> (fail_if_success (change true = true at hc)) <;> (fail_if_success (change false = false at hc))) | fail)
    all_goals try (exfalso; first | omega | contradiction)
    all_goals
      refine W_loop1 (fun k2 (j : Nat) w => k2 = e.after.length - j ∧ j ≤ e.after.length ∧ St w0 NoneS [(b6, blk [S e.node, S e.prog, I e.cond.op, S e.cond.name, S e.cond.text, .slice u1a u1n u1c, .slice a3 e.after.length p3, .slice a4 e.sets.length p4] 40), (b7, blk [S e.node, S e.prog, I e.cond.op, S e.cond.name, S e.cond.text, .slice t1a t1n t1c, .slice a5 e.after.length p5, .slice a6 e.sets.length p6] 40)] w) (fun j => [(8, I (j : Int))]) e.after.length 0 rfl (by (repeat (first | exact Str.nil _ | apply Str.drop rfl | apply Str.keepU rfl | apply Str.keep rfl))) ⟨rfl, by omega, hSt⟩ (by (repeat (first | exact Sub.nil _ | refine Sub.cons rfl ?_))) ?_
      clear hSt
      rintro k2 j w ⟨hk2, hj, hSt⟩ K2 hK2
      by_cases hjl : j < e.after.length
      · obtain ⟨n, hn⟩ : ∃ n, e.after[j]? = some n := ⟨_, List.getElem?_eq_getElem hjl⟩
        obtain ⟨b8, o8, m8, E8, z8, rfl, hb8, _, q8⟩ := hc3 j n hn
        obtain ⟨b9, o9, m9, E9, z9, rfl, hb9, _, q9⟩ := hc5 j n hn
        replace q8 := q8 0 _ rfl
        replace q9 := q9 0 _ rfl
        rw [← Int.toNat_natCast j] at q8 q9
        repeat' (first | (apply WL_ev rfl rfl; exact Ev_load1 hT rfl rfl (hSt.base hb8 (fun e => e)) q8) | (apply WL_ev rfl rfl; exact Ev_load1 hT rfl rfl (hSt.base hb9 (fun e => e)) q9) | refine stepA ?_ | (refine stepS ?_; clear hSt; intro w hSt; dsimp only [spl, List.set] at hSt) | (refine stepB ?_; clear hSt; intro w nb hnb hSt; dsimp only [zcells, List.nil_append, List.cons_append] at hSt) | (refine W_quiet hT (by decide +kernel) hSt ?_; clear hSt; (repeat' (first | (apply QL_ev rfl rfl; (intro w hSt; (first | (exact Ev_load1 hT rfl rfl (hSt.base hb8 (fun e => e)) q8) | (exact Ev_load1 hT rfl rfl (hSt.base hb9 (fun e => e)) q9) | exact Ev_auto))) | refine QL_pass rfl rfl ?_ | (refine QL_guardP rfl rfl (fun hc => ?_) (fun hc => ?_) <;> try exact absA) | (refine QL_guard rfl rfl (fun hc => ?_) (fun hc => ?_) <;> (try exact absA) <;> (fail_if_success (change true = true at hc)) <;> (fail_if_success (change false = false at hc))))); all_goals (refine QL_nil (fun w hSt => ?_))) | (refine stepG ?_ ?_ <;> intro hc <;> (try exact absA) <;> (fail_if_success (change true = true at hc)) <;> (fail_if_success (change false = false at hc))) | fail)
        all_goals try (exfalso; first | omega | contradiction)
        exact At_loop1 hK2 (k' := e.after.length - (j + 1)) (j + 1) (by omega) ⟨rfl, by omega, hSt⟩ (by (repeat (first | exact Sub.nil _ | refine Sub.cons rfl ?_)))
      · repeat' (first | refine stepA ?_ | (refine stepS ?_; clear hSt; intro w hSt; dsimp only [spl, List.set] at hSt) | (refine stepB ?_; clear hSt; intro w nb hnb hSt; dsimp only [zcells, List.nil_append, List.cons_append] at hSt) | (refine W_quiet hT (by decide +kernel) hSt ?_; clear hSt; (repeat' (first | (apply QL_ev rfl rfl; (intro w hSt; (first | exact Ev_auto))) | refine QL_pass rfl rfl ?_ | (refine QL_guardP rfl rfl (fun hc => ?_) (fun hc => ?_) <;> try exact absA) | (refine QL_guard rfl rfl (fun hc => ?_) (fun hc => ?_) <;> (try exact absA) <;> (fail_if_success (change true = true at hc)) <;> (fail_if_success (change false = false at hc))))); all_goals (refine QL_nil (fun w hSt => ?_))) | (refine stepG ?_ ?_ <;> intro hc <;> (try exact absA) <;> (fail_if_success (change true = true at hc)) <;> (fail_if_success (change false = false at hc))) | fail)
        refine W_loop1 (fun k2 (j : Nat) w => k2 = e.sets.length - j ∧ j ≤ e.sets.length ∧ St w0 NoneS [(b6, blk [S e.node, S e.prog, I e.cond.op, S e.cond.name, S e.cond.text, .slice u1a u1n u1c, .slice a3 e.after.length p3, .slice a4 e.sets.length p4] 40), (b7, blk [S e.node, S e.prog, I e.cond.op, S e.cond.name, S e.cond.text, .slice t1a t1n t1c, .slice a5 e.after.length p5, .slice a6 e.sets.length p6] 40)] w) (fun j => [(9, I (j : Int))]) e.sets.length 0 rfl (by (repeat (first | exact Str.nil _ | apply Str.drop rfl | apply Str.keepU rfl | apply Str.keep rfl))) ⟨rfl, by omega, hSt⟩ (by (repeat (first | exact Sub.nil _ | refine Sub.cons rfl ?_))) ?_
        clear hSt
        rintro k3 j3 w ⟨hk3, hj3, hSt⟩ K3 hK3
        by_cases hjl3 : j3 < e.sets.length
        · obtain ⟨s, hsj⟩ : ∃ s, e.sets[j3]? = some s := ⟨_, List.getElem?_eq_getElem hjl3⟩
          obtain ⟨b8, o8, m8, E8, z8, rfl, hb8, q8, _⟩ := hc4 j3 s hsj
          obtain ⟨b9, o9, m9, E9, z9, rfl, hb9, q9, _⟩ := hc6 j3 s hsj
          rw [← Int.toNat_natCast j3] at q8 q9
          repeat' (first | (apply WL_ev rfl rfl; exact Ev_loadN hT rfl rfl (hSt.base hb8 (fun e => e)) q8 rfl) | (apply WL_ev rfl rfl; exact Ev_loadN hT rfl rfl (hSt.base hb9 (fun e => e)) q9 rfl) | (apply WL_ev rfl rfl; exact Ev_struct_neq (ok_eq rfl) rfl rfl rfl rfl) | refine stepA ?_ | (refine stepS ?_; clear hSt; intro w hSt; dsimp only [spl, List.set] at hSt) | (refine stepB ?_; clear hSt; intro w nb hnb hSt; dsimp only [zcells, List.nil_append, List.cons_append] at hSt) | (refine W_quiet hT (by decide +kernel) hSt ?_; clear hSt; (repeat' (first | (apply QL_ev rfl rfl; (intro w hSt; (first | (exact Ev_loadN hT rfl rfl (hSt.base hb8 (fun e => e)) q8 rfl) | (exact Ev_loadN hT rfl rfl (hSt.base hb9 (fun e => e)) q9 rfl) | (exact Ev_struct_neq (ok_eq rfl) rfl rfl rfl rfl) | exact Ev_auto))) | refine QL_pass rfl rfl ?_ | (refine QL_guardP rfl rfl (fun hc => ?_) (fun hc => ?_) <;> try exact absA) | (refine QL_guard rfl rfl (fun hc => ?_) (fun hc => ?_) <;> (try exact absA) <;> (fail_if_success (change true = true at hc)) <;> (fail_if_success (change false = false at hc))))); all_goals (refine QL_nil (fun w hSt => ?_))) | (refine stepG ?_ ?_ <;> intro hc <;> (try exact absA) <;> (fail_if_success (change true = true at hc)) <;> (fail_if_success (change false = false at hc))) | fail)
          all_goals try (exfalso; first | omega | contradiction)
          exact At_loop1 hK3 (k' := e.sets.length - (j3 + 1)) (j3 + 1) (by omega) ⟨rfl, by omega, hSt⟩ (by (repeat (first | exact Sub.nil _ | refine Sub.cons rfl ?_)))
        · repeat' (first | refine stepA ?_ | (refine stepS ?_; clear hSt; intro w hSt; dsimp only [spl, List.set] at hSt) | (refine stepB ?_; clear hSt; intro w nb hnb hSt; dsimp only [zcells, List.nil_append, List.cons_append] at hSt) | (refine W_quiet hT (by decide +kernel) hSt ?_; clear hSt; (repeat' (first | (apply QL_ev rfl rfl; (intro w hSt; (first | exact Ev_auto))) | refine QL_pass rfl rfl ?_ | (refine QL_guardP rfl rfl (fun hc => ?_) (fun hc => ?_) <;> try exact absA) | (refine QL_guard rfl rfl (fun hc => ?_) (fun hc => ?_) <;> (try exact absA) <;> (fail_if_success (change true = true at hc)) <;> (fail_if_success (change false = false at hc))))); all_goals (refine QL_nil (fun w hSt => ?_))) | (refine stepG ?_ ?_ <;> intro hc <;> (try exact absA) <;> (fail_if_success (change true = true at hc)) <;> (fail_if_success (change false = false at hc))) | fail)
          exact At_loop1 hK (k' := l.length - (i + 1)) (i + 1) (by omega) ⟨rfl, by omega, hSt.nil⟩ (by (repeat (first | exact Sub.nil _ | refine Sub.cons rfl ?_)))
  · repeat' (first | refine stepA ?_ | (refine stepS ?_; clear hSt; intro w hSt; dsimp only [spl, List.set] at hSt) | (refine stepB ?_; clear hSt; intro w nb hnb hSt; dsimp only [zcells, List.nil_append, List.cons_append] at hSt) | (refine W_quiet hT (by decide +kernel) hSt ?_; clear hSt; (repeat' (first | (apply QL_ev rfl rfl; (intro w hSt; (first | exact Ev_auto))) | refine QL_pass rfl rfl ?_ | (refine QL_guardP rfl rfl (fun hc => ?_) (fun hc => ?_) <;> try exact absA) | (refine QL_guard rfl rfl (fun hc => ?_) (fun hc => ?_) <;> (try exact absA) <;> (fail_if_success (change true = true at hc)) <;> (fail_if_success (change false = false at hc))))); all_goals (refine QL_nil (fun w hSt => ?_))) | (refine stepG ?_ ?_ <;> intro hc <;> (try exact absA) <;> (fail_if_success (change true = true at hc)) <;> (fail_if_success (change false = false at hc))) | fail)
    exact ret1 rfl rfl ⟨rfl, hSt.nil⟩
end Go.Proofs.YtknfankadlokhaaGreatDoor
