/- Contracts of quality: the chapter's examples. No conditions. -/
import Derived.Test.YtkgioanjdbfcdaaDoorQog
import Derived.Test.YtkgioanjdbfcdaaDoorQob
namespace Go.Proofs.YtkgioanjdbfcdaaDoor
open Go.RowKit Go.Sort
set_option linter.unusedVariables false
set_option linter.unusedSimpArgs false
set_option maxHeartbeats 8000000

theorem parse_at {w0 : World} (hV : Vars w0) {s : List UInt8} {r d a : Bool} {n x y z er : Int} (h : parQ s = (⟨r, d, a, n, x, y, z⟩, er)) : Cl Tryd.prog 18 [S s] w0 (fun v w' => v = .tuple ⟨[qV r d a n x y z, I er]⟩ ∧ St w0 NoneS [] w') := by
  refine (parse_any hV s).mono ?_
  rintro v w' ⟨q, er', h', rfl, hS⟩
  rw [h] at h'
  cases h'
  exact ⟨rfl, hS⟩
theorem format_at {w0 : World} (hV : Vars w0) {s : List UInt8} {r d a : Bool} {n x y z : Int} (h : fmtQ ⟨r, d, a, n, x, y, z⟩ = s) : Cl Tryd.prog 20 [qV r d a n x y z] w0 (fun v w' => v = S s ∧ St w0 NoneS [] w') := h ▸ format_any hV r d a n x y z
theorem rformat_at {w0 : World} {s : List UInt8} {r d a : Bool} {n x y z : Int} (h : fmtQ ⟨r, d, a, n, x, y, z⟩ = s) : Cl Tryd.prog 21 [qV r d a n x y z] w0 (fun v w' => v = S s ∧ St w0 NoneS [] w') := h ▸ rformat_any r d a n x y z
theorem violation_at {w0 : World} {a b : Qo} {k : Int} (h : vioF a b = k) : Cl Tryd.prog 10 [qO a, qO b] w0 (fun v w' => v = I k ∧ St w0 NoneS [] w') := h ▸ violation_any a.rel a.dur a.all a.dep a.dl a.ls a.le b.rel b.dur b.all b.dep b.dl b.ls b.le
theorem compat_at {w0 : World} {a b : Qo} {k : Bool} (h : decide (vioF a b = 0) = k) : Cl Tryd.prog 12 [qO a, qO b] w0 (fun v w' => v = B k ∧ St w0 NoneS [] w') := h ▸ compat_any a.rel a.dur a.all a.dep a.dl a.ls a.le b.rel b.dur b.all b.dep b.dl b.ls b.le
theorem strong_at {w0 : World} {a b c : Qo} (h : stgF a b = c) : Cl Tryd.prog 14 [qO a, qO b] w0 (fun v w' => v = qO c ∧ St w0 NoneS [] w') := h ▸ strong_any a.rel a.dur a.all a.dep a.dl a.ls a.le b.rel b.dur b.all b.dep b.dl b.ls b.le
abbrev EX1 : List UInt8 := [114, 101, 108, 105, 97, 98, 108, 101, 32, 100, 101, 112, 116, 104, 32, 53, 32, 100, 101, 97, 100, 108, 105, 110, 101, 32, 49, 48, 48]
abbrev EX2 : List UInt8 := [98, 101, 115, 116, 32, 100, 101, 112, 116, 104, 32, 48]
abbrev EX3 : List UInt8 := [98, 101, 115, 116, 32, 32, 100, 101, 112, 116, 104, 32, 49]
theorem itoa5 : Lib.itoa 5 = [53] := by
  rw [itoa_dec (by omega), show (5 : Int).toNat = 5 from rfl, Lib.decDigits_one (by decide)]; rfl
theorem itoa100 : Lib.itoa 100 = [49, 48, 48] := by
  rw [itoa_dec (by omega), show (100 : Int).toNat = 100 from rfl, Lib.decDigits, dif_neg (by decide), show 100 / 10 = 10 from rfl, Lib.decDigits_two (by decide) (by decide)]; rfl
theorem ex1_chk : chkQ ⟨true, false, false, 5, 100, 0, 0⟩ = 0 := by decide
theorem ex1_fmt : fmtQ ⟨true, false, false, 5, 100, 0, 0⟩ = EX1 := by
  rw [fmt_eq ex1_chk]
  simp only [hdA, tmd, itoa5, itoa100]
  decide
theorem ex1_par : parQ EX1 = (⟨true, false, false, 5, 100, 0, 0⟩, 0) := by rw [← ex1_fmt]; exact par_fmt ex1_chk
theorem numQ0 : numQ [48] = some 0 := by
  have := numQ_of (n := 0) (by omega) (by omega)
  rwa [show Lib.itoa 0 = [48] by rw [itoa_dec (by omega), show (0 : Int).toNat = 0 from rfl, Lib.decDigits_one (by decide)]; rfl] at this
theorem ex2_par : parQ EX2 = (⟨false, false, false, 0, 0, 0, 0⟩, 4) := by
  have hs : splitW EX2 = [wBest, wDep, [48]] := by decide
  have e1 : wBest ≠ wRel := by decide
  have e2 : wDep ≠ wDur := by decide
  have e3 : wDep ≠ wAll := by decide
  have hp : parseW (splitW EX2) = some (⟨false, false, false, 0, 0, 0, 0⟩, false) := by
    rw [hs]
    simp [parseW, histW, durW, hist2, e1, e2, e3, numQ0, tms_nil]
  have hl : ¬ 4000 < EX2.length := by decide
  rw [par_some hl hp, if_pos (.inr (by decide))]
  rfl
theorem ex3_par : parQ EX3 = (⟨false, false, false, 0, 0, 0, 0⟩, 2) := by
  have hs : splitW EX3 = [wBest, [], wDep, [49]] := by decide
  have e1 : wBest ≠ wRel := by decide
  have e2 : ([] : List UInt8) ≠ wDur := by decide
  have e3 : ([] : List UInt8) ≠ wAll := by decide
  have e4 : ([] : List UInt8) ≠ wDep := by decide
  have hp : parseW (splitW EX3) = none := by
    rw [hs]
    simp [parseW, histW, durW, hist2, e1, e2, e3, e4]
  have hl : ¬ 4000 < EX3.length := by decide
  rw [par_none hl hp]
  rfl
abbrev qE1 : Qo := ⟨true, false, false, 5, 100, 0, 0⟩
theorem awake_any {w0 : World} (hV : Vars w0) : Cl Tryd.prog 16 [] w0 (fun v w' => v = B true ∧ St w0 NoneS [] w') := by
  have hSt := St.refl w0 NoneS
  have h1 : vioF qE1 ⟨false, false, false, 0, 50, 0, 0⟩ = 3 := by decide
  have h2 : decide (vioF qE1 ⟨false, false, false, 0, 100, 0, 0⟩ = 0) = true := by decide
  have h3 : chkQ ⟨false, false, false, 0, 0, 0, 0⟩ = 4 := by decide
  have h4 : stgF qE1 ⟨false, true, false, 9, 50, 0, 0⟩ = ⟨true, true, false, 9, 50, 0, 0⟩ := rfl
  refine enter Tryd.func16 rfl Tryd.ntmps16 rfl ?_
  repeat' (first | (refine WL_isCall (f := 18) ?_; refine WL_call (ok_call hT rfl) rfl rfl rfl (parse_at (hV.later hSt) ex1_par) ?_; rintro v w' ⟨rfl, hc2⟩; replace hSt := hSt.call0 hc2; clear hc2) | (refine WL_isCall (f := 18) ?_; refine WL_call (ok_call hT rfl) rfl rfl rfl (parse_at (hV.later hSt) ex2_par) ?_; rintro v w' ⟨rfl, hc2⟩; replace hSt := hSt.call0 hc2; clear hc2) | (refine WL_isCall (f := 18) ?_; refine WL_call (ok_call hT rfl) rfl rfl rfl (parse_at (hV.later hSt) ex3_par) ?_; rintro v w' ⟨rfl, hc2⟩; replace hSt := hSt.call0 hc2; clear hc2) | (refine WL_isCall (f := 20) ?_; refine WL_call (ok_call hT rfl) rfl rfl rfl (format_at (hV.later hSt) ex1_fmt) ?_; rintro v w' ⟨rfl, hc2⟩; replace hSt := hSt.call0 hc2; clear hc2) | (refine WL_isCall (f := 10) ?_; refine WL_call (ok_call hT rfl) rfl rfl rfl (violation_at h1) ?_; rintro v w' ⟨rfl, hc2⟩; replace hSt := hSt.call0 hc2; clear hc2) | (refine WL_isCall (f := 12) ?_; refine WL_call (ok_call hT rfl) rfl rfl rfl (compat_at h2) ?_; rintro v w' ⟨rfl, hc2⟩; replace hSt := hSt.call0 hc2; clear hc2) | (refine WL_isCall (f := 8) ?_; refine WL_call (ok_call hT rfl) rfl rfl rfl (check_at ex1_chk) ?_; rintro v w' ⟨rfl, hc2⟩; replace hSt := hSt.call0 hc2; clear hc2) | (refine WL_isCall (f := 8) ?_; refine WL_call (ok_call hT rfl) rfl rfl rfl (check_at h3) ?_; rintro v w' ⟨rfl, hc2⟩; replace hSt := hSt.call0 hc2; clear hc2) | (refine WL_isCall (f := 14) ?_; refine WL_call (ok_call hT rfl) rfl rfl rfl (strong_at h4) ?_; rintro v w' ⟨rfl, hc2⟩; replace hSt := hSt.call0 hc2; clear hc2) | (apply WL_ev rfl rfl; exact Ev_struct_yes (ok_eq rfl) rfl rfl rfl) | refine W_seq ?_ | refine W_block ?_ | refine W_region ?_ | refine WL_nil ?_ | refine W_true rfl ?_ | refine W_false rfl ?_ | refine W_skip ?_ | refine W_exit ?_ | refine W_ret ?_ | refine W_goto ?_ | refine W_label ?_ | refine At_calm ?_ | refine At_then_normal ?_ | refine At_then ?_ | refine At_then_ret ?_ | refine At_in_normal ?_ | refine At_in_ret ?_ | refine At_in_hit ?_ | refine At_in_miss rfl ?_ | refine At_jump_normal ?_ | refine At_jump_ret ?_ | refine At_jump_exit ?_ | refine At_then_goto ?_ | refine At_in_goto ?_ | (apply WL_ev rfl rfl; (first | exact Ev_move rfl | exact Ev_assign rfl | exact Ev_nilCheck rfl | exact Ev_fieldAddr hT rfl rfl | exact Ev_load1 hT rfl rfl (hSt.at 0 rfl) rfl | exact Ev_load1 hT rfl rfl (hSt.at 1 rfl) rfl | exact Ev_load1 hT rfl rfl (hSt.at 2 rfl) rfl | exact Ev_load1 hT rfl rfl (hSt.at 3 rfl) rfl | exact Ev_load1 hT rfl rfl (hSt.at 4 rfl) rfl | exact Ev_loadN hT rfl rfl (hSt.at 0 rfl) rfl rfl | exact Ev_loadN hT rfl rfl (hSt.at 1 rfl) rfl rfl | exact Ev_loadN hT rfl rfl (hSt.at 2 rfl) rfl rfl | exact Ev_loadN hT rfl rfl (hSt.at 3 rfl) rfl rfl | exact Ev_loadN hT rfl rfl (hSt.at 4 rfl) rfl rfl | exact Ev_pickT rfl rfl | exact Ev_pickF rfl rfl | exact Ev_eql rfl rfl | exact Ev_neq rfl rfl | exact Ev_lss rfl rfl | exact Ev_leq rfl rfl | exact Ev_gtr rfl rfl | exact Ev_geq rfl rfl | exact Ev_add rfl rfl (by omega) | exact Ev_sub rfl rfl (by omega) | exact Ev_len_str rfl hT rfl | exact Ev_len_slice hT rfl rfl | exact Ev_extract rfl rfl | exact Ev_notP rfl | exact Ev_not rfl | exact Ev_str_eql rfl rfl | exact Ev_str_neq rfl rfl | exact Ev_min rfl rfl | exact Ev_max rfl rfl | exact Ev_some_nil_eql (ok_ptr hT rfl) rfl rfl | exact Ev_some_nil_neq (ok_ptr hT rfl) rfl rfl | exact Ev_nil_nil_eql (ok_ptr hT rfl) rfl rfl | exact Ev_nil_nil_neq (ok_ptr hT rfl) rfl rfl | exact Ev_str_slice hT rfl rfl rfl rfl (by omega) (by omega) (by omega) | exact Ev_str_add rfl rfl (by omega) | exact Ev_conv_in hT rfl rfl rfl (inI (by omega) (by omega)) | exact Ev_build hT rfl rfl rfl rfl rfl (ok_stc hT rfl) | exact Ev_addw rfl rfl | exact Ev_beql rfl rfl (ok_boo hT rfl) | exact Ev_bneq rfl rfl (ok_boo hT rfl) | exact Ev_indexAddr hT rfl rfl rfl (by omega) (by omega) | exact Ev_remP rfl rfl (by omega) (by omega) | exact Ev_struct_eql (ok_eq rfl) rfl rfl rfl rfl | exact Ev_struct_neq (ok_eq rfl) rfl rfl rfl rfl | exact Ev_map_nil_eql (ok_map rfl) rfl rfl | exact Ev_quo rfl rfl (by omega) (by omega) (by omega) | exact Ev_mul rfl rfl (by omega) | exact Ev_slice_nil_eql hT rfl rfl rfl | exact Ev_slice_nil_neq hT rfl rfl rfl)) | refine WL_pass rfl rfl ?_ | refine WL_pass0 rfl ?_ | (refine WL_store1 hT rfl rfl 0 rfl rfl hSt rfl rfl rfl ?_; clear hSt; intro w hSt; dsimp only [List.set] at hSt) | (refine WL_store1 hT rfl rfl 1 rfl rfl hSt rfl rfl rfl ?_; clear hSt; intro w hSt; dsimp only [List.set] at hSt) | (refine WL_store1 hT rfl rfl 2 rfl rfl hSt rfl rfl rfl ?_; clear hSt; intro w hSt; dsimp only [List.set] at hSt) | (refine WL_store1 hT rfl rfl 3 rfl rfl hSt rfl rfl rfl ?_; clear hSt; intro w hSt; dsimp only [List.set] at hSt) | (refine WL_store1 hT rfl rfl 4 rfl rfl hSt rfl rfl rfl ?_; clear hSt; intro w hSt; dsimp only [List.set] at hSt) | (refine WL_storeN hT rfl rfl 0 rfl rfl hSt rfl rfl rfl rfl ?_; clear hSt; intro w hSt; dsimp only [spl, List.set] at hSt) | (refine WL_storeN hT rfl rfl 1 rfl rfl hSt rfl rfl rfl rfl ?_; clear hSt; intro w hSt; dsimp only [spl, List.set] at hSt) | (refine WL_storeN hT rfl rfl 2 rfl rfl hSt rfl rfl rfl rfl ?_; clear hSt; intro w hSt; dsimp only [spl, List.set] at hSt) | (refine WL_storeN hT rfl rfl 3 rfl rfl hSt rfl rfl rfl rfl ?_; clear hSt; intro w hSt; dsimp only [spl, List.set] at hSt) | (refine WL_storeN hT rfl rfl 4 rfl rfl hSt rfl rfl rfl rfl ?_; clear hSt; intro w hSt; dsimp only [spl, List.set] at hSt) | (refine WL_box rfl rfl rfl hSt ?_; clear hSt; intro w nb hnb hSt; dsimp only [zcells, List.nil_append, List.cons_append] at hSt) | (refine WL_alloc hT rfl rfl rfl hSt ?_; clear hSt; intro w nb hnb hSt; dsimp only [zcells, List.nil_append, List.cons_append] at hSt) | (refine WL_guardP rfl rfl (fun hc => ?_) (fun hc => ?_) <;> try (exfalso; first | omega | contradiction | exact hc rfl)) | (refine WL_guard rfl rfl (fun hc => ?_) (fun hc => ?_) <;> (try (exfalso; first | omega | contradiction | exact of_dec hc rfl | (simp at hc; done))) <;> (fail_if_success (change true = true at hc)) <;> (fail_if_success (change false = false at hc))) | (refine W_quiet hT (by decide +kernel) hSt ?_; clear hSt; (repeat' (first | (apply QL_ev rfl rfl; (intro w hSt; (first | (exact Ev_struct_yes (ok_eq rfl) rfl rfl rfl) | exact Ev_move rfl | exact Ev_assign rfl | exact Ev_nilCheck rfl | exact Ev_fieldAddr hT rfl rfl | exact Ev_load1 hT rfl rfl (hSt.at 0 rfl) rfl | exact Ev_load1 hT rfl rfl (hSt.at 1 rfl) rfl | exact Ev_load1 hT rfl rfl (hSt.at 2 rfl) rfl | exact Ev_load1 hT rfl rfl (hSt.at 3 rfl) rfl | exact Ev_load1 hT rfl rfl (hSt.at 4 rfl) rfl | exact Ev_loadN hT rfl rfl (hSt.at 0 rfl) rfl rfl | exact Ev_loadN hT rfl rfl (hSt.at 1 rfl) rfl rfl | exact Ev_loadN hT rfl rfl (hSt.at 2 rfl) rfl rfl | exact Ev_loadN hT rfl rfl (hSt.at 3 rfl) rfl rfl | exact Ev_loadN hT rfl rfl (hSt.at 4 rfl) rfl rfl | exact Ev_pickT rfl rfl | exact Ev_pickF rfl rfl | exact Ev_eql rfl rfl | exact Ev_neq rfl rfl | exact Ev_lss rfl rfl | exact Ev_leq rfl rfl | exact Ev_gtr rfl rfl | exact Ev_geq rfl rfl | exact Ev_add rfl rfl (by omega) | exact Ev_sub rfl rfl (by omega) | exact Ev_len_str rfl hT rfl | exact Ev_len_slice hT rfl rfl | exact Ev_extract rfl rfl | exact Ev_notP rfl | exact Ev_not rfl | exact Ev_str_eql rfl rfl | exact Ev_str_neq rfl rfl | exact Ev_min rfl rfl | exact Ev_max rfl rfl | exact Ev_some_nil_eql (ok_ptr hT rfl) rfl rfl | exact Ev_some_nil_neq (ok_ptr hT rfl) rfl rfl | exact Ev_nil_nil_eql (ok_ptr hT rfl) rfl rfl | exact Ev_nil_nil_neq (ok_ptr hT rfl) rfl rfl | exact Ev_str_slice hT rfl rfl rfl rfl (by omega) (by omega) (by omega) | exact Ev_str_add rfl rfl (by omega) | exact Ev_conv_in hT rfl rfl rfl (inI (by omega) (by omega)) | exact Ev_build hT rfl rfl rfl rfl rfl (ok_stc hT rfl) | exact Ev_addw rfl rfl | exact Ev_beql rfl rfl (ok_boo hT rfl) | exact Ev_bneq rfl rfl (ok_boo hT rfl) | exact Ev_indexAddr hT rfl rfl rfl (by omega) (by omega) | exact Ev_remP rfl rfl (by omega) (by omega) | exact Ev_struct_eql (ok_eq rfl) rfl rfl rfl rfl | exact Ev_struct_neq (ok_eq rfl) rfl rfl rfl rfl | exact Ev_map_nil_eql (ok_map rfl) rfl rfl | exact Ev_quo rfl rfl (by omega) (by omega) (by omega) | exact Ev_mul rfl rfl (by omega) | exact Ev_slice_nil_eql hT rfl rfl rfl | exact Ev_slice_nil_neq hT rfl rfl rfl))) | refine QL_pass rfl rfl ?_ | (refine QL_guardP rfl rfl (fun hc => ?_) (fun hc => ?_) <;> try (exfalso; first | omega | contradiction | exact hc rfl)) | (refine QL_guard rfl rfl (fun hc => ?_) (fun hc => ?_) <;> (try (exfalso; first | omega | contradiction | exact of_dec hc rfl | (simp at hc; done))) <;> (fail_if_success (change true = true at hc)) <;> (fail_if_success (change false = false at hc))))); all_goals (refine QL_nil (fun w hSt => ?_))) | refine ret0' rfl ?_ | (refine W_if rfl (fun hc => ?_) (fun hc => ?_) <;> try (exfalso; first | omega | contradiction | exact hc rfl)) | (refine W_cond rfl (fun hc => ?_) (fun hc => ?_) <;> try (exfalso; first | omega | contradiction | (simp at hc; done))))
  all_goals first | exact ret1 rfl rfl ⟨rfl, hSt.nil⟩ | (exfalso; first | exact hc rfl | (simp at hc; done) | omega)
end Go.Proofs.YtkgioanjdbfcdaaDoor
