/- The small functions of the client's law: a bit of some bytes, and the example. No conditions. -/
import Derived.Test.YthkimkgphaiagaaGreatDoorNC
import Derived.Test.YthkimkgphaiagaaGreatDoorMC
import Derived.Test.YthkimkgphaiagaaGreatDoorND

namespace Go.Proofs.YthkimkgphaiagaaGreatDoor
open Go.RowKit
set_option maxRecDepth 4000
set_option linter.unusedVariables false
set_option linter.unusedSimpArgs false
set_option maxHeartbeats 4000000

abbrev u8c (n : Int) : List Value := [.int .u8 n]
theorem bit_any {w0 : World} {v0 : Value} {l : List Int} (hb : ∀ (i : Nat) (x : Int), l[i]? = some x → 0 ≤ x ∧ x ≤ 255) (hsl : SlAt w0 v0 1 (l.map u8c)) (n : Int) (hn : 0 ≤ n ∧ n ≤ 100000) :
    Cl Tryz.prog 14 [v0, I n] w0 (fun v w' => ∃ b, v = B b ∧ St w0 NoneS [] w') := by
  have hSt := St.refl w0 NoneS
  obtain ⟨a, cap, rfl, hcl⟩ := hsl.map
  refine enter Tryz.func14 rfl Tryz.ntmps14 rfl ?_
  by_cases h0 : l.length = 0
  · repeat' (first | refine stepA ?_ | (refine stepS ?_; clear hSt; intro w hSt; dsimp only [spl, List.set] at hSt) | (refine stepB ?_; clear hSt; intro w nb hnb hSt; dsimp only [zcells, List.nil_append, List.cons_append] at hSt) | (refine W_quiet hT (by decide +kernel) hSt ?_; clear hSt; (repeat' (first | (apply QL_ev rfl rfl; (intro w hSt; (first | exact Ev_auto))) | refine QL_pass rfl rfl ?_ | (refine QL_guardP rfl rfl (fun hc => ?_) (fun hc => ?_) <;> try exact absA) | (refine QL_guard rfl rfl (fun hc => ?_) (fun hc => ?_) <;> (try exact absA) <;> (fail_if_success (change true = true at hc)) <;> (fail_if_success (change false = false at hc))))); all_goals (refine QL_nil (fun w hSt => ?_))) | (refine stepG ?_ ?_ <;> intro hc <;> (try exact absA) <;> (fail_if_success (change true = true at hc)) <;> (fail_if_success (change false = false at hc))) | fail)
    exact ret1 rfl rfl ⟨_, rfl, hSt⟩
  · have h1 : 0 ≤ n / 8 % (l.length : Int) := Int.emod_nonneg _ (by omega)
    have h2 : n / 8 % (l.length : Int) < (l.length : Int) := Int.emod_lt_of_pos _ (by omega)
    obtain ⟨x, hx⟩ : ∃ x, l[(n / 8 % (l.length : Int)).toNat]? = some x := ⟨_, List.getElem?_eq_getElem (by omega)⟩
    obtain ⟨sb, so, sc, sE, sz, rfl, hbs, _, hcell⟩ := hcl _ x hx
    have hc1 := hcell 0 _ rfl
    have hxx := hb _ x hx
    repeat' (first | (apply WL_ev rfl rfl; exact Ev_quo rfl rfl (by omega) (by omega) (by omega)) | (apply WL_ev rfl rfl; exact Ev_load1 hT rfl rfl (hSt.base hbs (fun e => e)) hc1) | refine stepA ?_ | (refine stepS ?_; clear hSt; intro w hSt; dsimp only [spl, List.set] at hSt) | (refine stepB ?_; clear hSt; intro w nb hnb hSt; dsimp only [zcells, List.nil_append, List.cons_append] at hSt) | (refine W_quiet hT (by decide +kernel) hSt ?_; clear hSt; (repeat' (first | (apply QL_ev rfl rfl; (intro w hSt; (first | (exact Ev_quo rfl rfl (by omega) (by omega) (by omega)) | (exact Ev_load1 hT rfl rfl (hSt.base hbs (fun e => e)) hc1) | exact Ev_auto))) | refine QL_pass rfl rfl ?_ | (refine QL_guardP rfl rfl (fun hc => ?_) (fun hc => ?_) <;> try exact absA) | (refine QL_guard rfl rfl (fun hc => ?_) (fun hc => ?_) <;> (try exact absA) <;> (fail_if_success (change true = true at hc)) <;> (fail_if_success (change false = false at hc))))); all_goals (refine QL_nil (fun w hSt => ?_))) | (refine stepG ?_ ?_ <;> intro hc <;> (try exact absA) <;> (fail_if_success (change true = true at hc)) <;> (fail_if_success (change false = false at hc))) | fail)
    refine W_loop2 (fun k (i : Nat) (b : Int) w => k = (n % 8).toNat - i ∧ i ≤ (n % 8).toNat ∧ (0 ≤ b ∧ b ≤ 255) ∧ St w0 NoneS [] w) (fun i b => [(6, I (i : Int)), (5, .int .u8 b)]) (n % 8).toNat 0 x rfl (by (repeat (first | exact Str.nil _ | apply Str.drop rfl | apply Str.keepU rfl | apply Str.keep rfl))) ⟨by omega, by omega, hxx, hSt⟩ (by (repeat (first | exact Sub.nil _ | refine Sub.cons rfl ?_))) ?_
    clear hSt
    rintro k i b w ⟨hk, hi, hbb, hSt⟩ K hK
    by_cases hil : i < (n % 8).toNat
    · repeat' (first | (apply WL_ev rfl rfl; exact Ev_quo rfl rfl (by omega) (by omega) (by omega)) | (apply WL_ev rfl rfl; exact Ev_quoP rfl rfl (by omega) (inU8 (by omega) (by omega)) (by omega)) | refine stepA ?_ | (refine stepS ?_; clear hSt; intro w hSt; dsimp only [spl, List.set] at hSt) | (refine stepB ?_; clear hSt; intro w nb hnb hSt; dsimp only [zcells, List.nil_append, List.cons_append] at hSt) | (refine W_quiet hT (by decide +kernel) hSt ?_; clear hSt; (repeat' (first | (apply QL_ev rfl rfl; (intro w hSt; (first | (exact Ev_quo rfl rfl (by omega) (by omega) (by omega)) | (exact Ev_quoP rfl rfl (by omega) (inU8 (by omega) (by omega)) (by omega)) | exact Ev_auto))) | refine QL_pass rfl rfl ?_ | (refine QL_guardP rfl rfl (fun hc => ?_) (fun hc => ?_) <;> try exact absA) | (refine QL_guard rfl rfl (fun hc => ?_) (fun hc => ?_) <;> (try exact absA) <;> (fail_if_success (change true = true at hc)) <;> (fail_if_success (change false = false at hc))))); all_goals (refine QL_nil (fun w hSt => ?_))) | (refine stepG ?_ ?_ <;> intro hc <;> (try exact absA) <;> (fail_if_success (change true = true at hc)) <;> (fail_if_success (change false = false at hc))) | fail)
      exact At_loop2 hK (k' := (n % 8).toNat - (i + 1)) (i + 1) (b / 2) (by omega) ⟨rfl, by omega, by omega, hSt⟩ (by (repeat (first | exact Sub.nil _ | refine Sub.cons rfl ?_)))
    · repeat' (first | (apply WL_ev rfl rfl; exact Ev_quo rfl rfl (by omega) (by omega) (by omega)) | (apply WL_ev rfl rfl; exact Ev_quoP rfl rfl (by omega) (inU8 (by omega) (by omega)) (by omega)) | refine stepA ?_ | (refine stepS ?_; clear hSt; intro w hSt; dsimp only [spl, List.set] at hSt) | (refine stepB ?_; clear hSt; intro w nb hnb hSt; dsimp only [zcells, List.nil_append, List.cons_append] at hSt) | (refine W_quiet hT (by decide +kernel) hSt ?_; clear hSt; (repeat' (first | (apply QL_ev rfl rfl; (intro w hSt; (first | (exact Ev_quo rfl rfl (by omega) (by omega) (by omega)) | (exact Ev_quoP rfl rfl (by omega) (inU8 (by omega) (by omega)) (by omega)) | exact Ev_auto))) | refine QL_pass rfl rfl ?_ | (refine QL_guardP rfl rfl (fun hc => ?_) (fun hc => ?_) <;> try exact absA) | (refine QL_guard rfl rfl (fun hc => ?_) (fun hc => ?_) <;> (try exact absA) <;> (fail_if_success (change true = true at hc)) <;> (fail_if_success (change false = false at hc))))); all_goals (refine QL_nil (fun w hSt => ?_))) | (refine stepG ?_ ?_ <;> intro hc <;> (try exact absA) <;> (fail_if_success (change true = true at hc)) <;> (fail_if_success (change false = false at hc))) | fail)
      exact ret1 rfl rfl ⟨_, rfl, hSt⟩

theorem cawake_any {w0 : World} : Cl Tryz.prog 10 [] w0 (fun v w' => v = B true ∧ St w0 NoneS [] w') := by
  have hSt := St.refl w0 NoneS
  have eE : sendE 0 [103, 111] [] = 0 := by simp [sendE, copL]
  have eV : sendV 3 0 [103, 111] [] = .tuple ⟨[.agg ⟨[I 3, I 1]⟩, I 0]⟩ := by simp [sendV, eE]
  have eG : sendG 0 [103, 111] [] = [⟨[103, 111], [], 0, 0, 0, false, 0⟩] := by simp [sendG, eE, goal0]
  have eM : pollM 3 0 1 [⟨[103, 111], [], 0, 0, 0, false, 0⟩] = [I 1, I 3, I 1, I 0, S [103, 111]] := by simp [pollM, Ce.pm, msg]
  have eC : pollC 0 [⟨[103, 111], [], 0, 0, 0, false, 0⟩] = 1 := by simp [pollC, Ce.pc]
  have eA : pollA 100 0 1 [⟨[103, 111], [], 0, 0, 0, false, 0⟩] = [⟨[103, 111], [], 0, 0, 100, false, 0⟩] := by simp [pollA, Ce.pg]
  have eR : recvF 3 [⟨[103, 111], [], 0, 0, 100, false, 0⟩] 6 3 1 0 [100, 111, 110, 101] = (0, [⟨[103, 111], [100, 111, 110, 101], 4, 0, 100, false, 0⟩]) := by simp [recvF, cAt, Ce.recv, Ce.end_]
  have eU : cresultOf (cAt [⟨[103, 111], [100, 111, 110, 101], 4, 0, 100, false, 0⟩] 1) = ([100, 111, 110, 101], 0) := by simp [cresultOf, cAt]
  refine enter Tryz.func10 rfl Tryz.ntmps10 rfl ?_
  repeat' (first | refine stepA ?_ | (refine stepS ?_; clear hSt; intro w hSt; dsimp only [spl, List.set] at hSt) | (refine stepB ?_; clear hSt; intro w nb hnb hSt; dsimp only [zcells, List.nil_append, List.cons_append] at hSt) | (refine W_quiet hT (by decide +kernel) hSt ?_; clear hSt; (repeat' (first | (apply QL_ev rfl rfl; (intro w hSt; (first | exact Ev_auto))) | refine QL_pass rfl rfl ?_ | (refine QL_guardP rfl rfl (fun hc => ?_) (fun hc => ?_) <;> try exact absA) | (refine QL_guard rfl rfl (fun hc => ?_) (fun hc => ?_) <;> (try exact absA) <;> (fail_if_success (change true = true at hc)) <;> (fail_if_success (change false = false at hc))))); all_goals (refine QL_nil (fun w hSt => ?_))) | (refine stepG ?_ ?_ <;> intro hc <;> (try exact absA) <;> (fail_if_success (change true = true at hc)) <;> (fail_if_success (change false = false at hc))) | fail)
  refine WL_call (ok_call hT rfl) rfl rfl rfl (cnew_good (c := 3) (r := 100) (by omega)) ?_
  rintro v w' ⟨cb, mb, rfl, hc2⟩
  replace hSt := hSt.newN hc2
  rw [List.nil_append] at hSt
  clear hc2
  repeat' (first | refine stepA ?_ | (refine stepS ?_; clear hSt; intro w hSt; dsimp only [spl, List.set] at hSt) | (refine stepB ?_; clear hSt; intro w nb hnb hSt; dsimp only [zcells, List.nil_append, List.cons_append] at hSt) | (refine W_quiet hT (by decide +kernel) hSt ?_; clear hSt; (repeat' (first | (apply QL_ev rfl rfl; (intro w hSt; (first | exact Ev_auto))) | refine QL_pass rfl rfl ?_ | (refine QL_guardP rfl rfl (fun hc => ?_) (fun hc => ?_) <;> try exact absA) | (refine QL_guard rfl rfl (fun hc => ?_) (fun hc => ?_) <;> (try exact absA) <;> (fail_if_success (change true = true at hc)) <;> (fail_if_success (change false = false at hc))))); all_goals (refine QL_nil (fun w hSt => ?_))) | (refine stepG ?_ ?_ <;> intro hc <;> (try exact absA) <;> (fail_if_success (change true = true at hc)) <;> (fail_if_success (change false = false at hc))) | fail)
  refine WL_call (ok_call hT rfl) rfl rfl rfl (send_any hSt.has rfl (by simp) 0 [103, 111]) ?_
  rintro v w' ⟨rfl, bs, hl, hc2⟩
  replace hSt := St.callE (Ha := []) hSt hc2
  rw [List.nil_append, eG] at hSt
  rw [eG] at hl
  rw [eV]
  clear hc2
  repeat' (first | (refine WL_alloc hT rfl rfl rfl hSt ?_; clear hSt; intro w nb hnb hSt; replace hSt := hSt.front; dsimp only [zcells] at hSt) | (refine WL_box rfl rfl rfl hSt ?_; clear hSt; intro w nb hnb hSt; replace hSt := hSt.front; dsimp only [zcells] at hSt) | refine stepA ?_ | (refine stepS ?_; clear hSt; intro w hSt; dsimp only [spl, List.set] at hSt) | (refine stepB ?_; clear hSt; intro w nb hnb hSt; dsimp only [zcells, List.nil_append, List.cons_append] at hSt) | (refine W_quiet hT (by decide +kernel) hSt ?_; clear hSt; (repeat' (first | (apply QL_ev rfl rfl; (intro w hSt; (first | exact Ev_auto))) | refine QL_pass rfl rfl ?_ | (refine QL_guardP rfl rfl (fun hc => ?_) (fun hc => ?_) <;> try exact absA) | (refine QL_guard rfl rfl (fun hc => ?_) (fun hc => ?_) <;> (try exact absA) <;> (fail_if_success (change true = true at hc)) <;> (fail_if_success (change false = false at hc))))); all_goals (refine QL_nil (fun w hSt => ?_))) | (refine stepG ?_ ?_ <;> intro hc <;> (try exact absA) <;> (fail_if_success (change true = true at hc)) <;> (fail_if_success (change false = false at hc))) | fail)
  refine WL_call (ok_call hT rfl) rfl rfl rfl (poll_any (St.hasE (Ha := [_]) hSt) hl (by simp) (by omega) 0 (by omega)) ?_
  rintro v w' ⟨H1, ho, hc2⟩
  replace hSt := St.callE (Ha := [_]) hSt hc2
  rw [eM, eC] at ho
  obtain ⟨pb, cap, rs, rfl, _, _, rfl⟩ := ho.some_ (by omega)
  rw [show pollA 100 0 (List.length [(⟨[103, 111], [], 0, 0, 0, false, 0⟩ : Ce)]) [⟨[103, 111], [], 0, 0, 0, false, 0⟩] = [⟨[103, 111], [], 0, 0, 100, false, 0⟩] from eA] at hSt
  replace hSt := St.rot hSt
  clear hc2 ho
  repeat' (first | (refine W_tail 19 hT (by decide +kernel) hSt ?_; clear hSt; intro w hSt; simp only [List.take_succ_cons, List.take_zero]; (repeat' (first | (apply SL_ev rfl rfl; (first | exact Ev_auto)) | refine SL_pass rfl rfl ?_ | (refine SL_guardP rfl rfl (fun hc => ?_) (fun hc => ?_) <;> try exact absA) | (refine SL_guard rfl rfl (fun hc => ?_) (fun hc => ?_) <;> (try exact absA) <;> (fail_if_success (change true = true at hc)) <;> (fail_if_success (change false = false at hc))))); all_goals (refine SL_nil ?_; simp only [List.drop_succ_cons, List.drop_zero])) | refine stepA ?_ | (refine stepS ?_; clear hSt; intro w hSt; dsimp only [spl, List.set] at hSt) | (refine stepB ?_; clear hSt; intro w nb hnb hSt; dsimp only [zcells, List.nil_append, List.cons_append] at hSt) | (refine W_quiet hT (by decide +kernel) hSt ?_; clear hSt; (repeat' (first | (apply QL_ev rfl rfl; (intro w hSt; (first | exact Ev_auto))) | refine QL_pass rfl rfl ?_ | (refine QL_guardP rfl rfl (fun hc => ?_) (fun hc => ?_) <;> try exact absA) | (refine QL_guard rfl rfl (fun hc => ?_) (fun hc => ?_) <;> (try exact absA) <;> (fail_if_success (change true = true at hc)) <;> (fail_if_success (change false = false at hc))))); all_goals (refine QL_nil (fun w hSt => ?_))) | (refine stepG ?_ ?_ <;> intro hc <;> (try exact absA) <;> (fail_if_success (change true = true at hc)) <;> (fail_if_success (change false = false at hc))) | fail)
  refine WL_call (ok_call hT rfl) rfl rfl rfl (receive_any (St.hasE (Ha := [_, _]) hSt) hl _ _ _ _ _) ?_
  rintro v w' ⟨rfl, hc2⟩
  replace hSt := St.callE (Ha := [_, _]) hSt hc2
  rw [eR] at hSt ⊢
  clear hc2
  repeat' (first | refine stepA ?_ | (refine stepS ?_; clear hSt; intro w hSt; dsimp only [spl, List.set] at hSt) | (refine stepB ?_; clear hSt; intro w nb hnb hSt; dsimp only [zcells, List.nil_append, List.cons_append] at hSt) | (refine W_quiet hT (by decide +kernel) hSt ?_; clear hSt; (repeat' (first | (apply QL_ev rfl rfl; (intro w hSt; (first | exact Ev_auto))) | refine QL_pass rfl rfl ?_ | (refine QL_guardP rfl rfl (fun hc => ?_) (fun hc => ?_) <;> try exact absA) | (refine QL_guard rfl rfl (fun hc => ?_) (fun hc => ?_) <;> (try exact absA) <;> (fail_if_success (change true = true at hc)) <;> (fail_if_success (change false = false at hc))))); all_goals (refine QL_nil (fun w hSt => ?_))) | (refine stepG ?_ ?_ <;> intro hc <;> (try exact absA) <;> (fail_if_success (change true = true at hc)) <;> (fail_if_success (change false = false at hc))) | fail)
  refine WL_call (ok_call hT rfl) rfl rfl rfl (result_any (St.hasE (Ha := [_, _]) hSt) hl 1) ?_
  rintro v w' ⟨rfl, hc2⟩
  replace hSt := hSt.call0 hc2
  rw [eU]
  clear hc2
  repeat' (first | refine stepA ?_ | (refine stepS ?_; clear hSt; intro w hSt; dsimp only [spl, List.set] at hSt) | (refine stepB ?_; clear hSt; intro w nb hnb hSt; dsimp only [zcells, List.nil_append, List.cons_append] at hSt) | (refine W_quiet hT (by decide +kernel) hSt ?_; clear hSt; (repeat' (first | (apply QL_ev rfl rfl; (intro w hSt; (first | exact Ev_auto))) | refine QL_pass rfl rfl ?_ | (refine QL_guardP rfl rfl (fun hc => ?_) (fun hc => ?_) <;> try exact absA) | (refine QL_guard rfl rfl (fun hc => ?_) (fun hc => ?_) <;> (try exact absA) <;> (fail_if_success (change true = true at hc)) <;> (fail_if_success (change false = false at hc))))); all_goals (refine QL_nil (fun w hSt => ?_))) | (refine stepG ?_ ?_ <;> intro hc <;> (try exact absA) <;> (fail_if_success (change true = true at hc)) <;> (fail_if_success (change false = false at hc))) | fail)
  exact ret1 rfl rfl ⟨rfl, hSt.nil⟩
end Go.Proofs.YthkimkgphaiagaaGreatDoor
