/- A builder: its writing, and what it hands back. No conditions. -/
import Derived.Test.YtknfankadlokhaaGreatDoorMC
import Derived.Test.YtknfankadlokhaaGreatDoorTys
import Derived.Test.YtknfankadlokhaaGreatDoorShelf
import Derived.Test.YtknfankadlokhaaGreatDoorMA
import Derived.Handed
import Derived.LaidMore
import Derived.Lay
import Derived.Stop.Joined
import Derived.ChangeSame
import Derived.Defers
import Derived.Recover

namespace Go.Proofs.YtknfankadlokhaaGreatDoor
open Go.RowKit
set_option linter.unusedVariables false
set_option linter.unusedSimpArgs false
set_option maxHeartbeats 1000000

abbrev bO (p v : Value) : Obj := blk [p, v] 88
/-- a builder at b that holds the bytes l -/
def Bld (b : Nat) (l : List UInt8) (H : List (Nat × Obj)) : Prop := ∃ p v H1, (p = .pointer none ∨ p = Ptr b) ∧ OwnSl v 5 1 (bcs l) l.length H1 ∧ capB v ∧ H = (b, bO p v) :: H1
theorem Bld.fresh (b : Nat) : Bld b [] [(b, bO (.pointer none) (.slice none 0 0))] := ⟨_, _, [], .inl rfl, OwnSl.nil _ _, capB.mk (by decide), rfl⟩

set_option maxRecDepth 8000
theorem copy_any {w0 : World} {b : Nat} {p v : Value} (hb : w0.heap[b]? = some (bO p v)) (hp : p = .pointer none ∨ p = Ptr b) : Cl Tryz.prog 91 [Ptr b] w0 (fun r w' => r = .tuple ⟨[]⟩ ∧ St w0 (· = b) [(b, bO (Ptr b) v)] w') := by
  have hSt := (St.refl w0 (· = b)).know hb (Or.inl rfl) (by simp)
  dsimp only [List.nil_append, List.cons_append] at hSt
  obtain ⟨_, j, hj, hjs⟩ := ok_agg hT (t := 88) (k := 2) rfl
  have hl : liesAt Tryz.prog Tryz.prog.depth 88 (2 / Tryz.prog.cellsOf 88) 0 88 1 = true := by kernel_rfl
  refine enter Tryz.func91 rfl Tryz.ntmps91 rfl ?_
  rcases hp with rfl | rfl
  · repeat' (first | (apply WL_ev rfl rfl; exact Ev_toUnsafe Tryz.underlying85 Tryz.underlying154 hj (by rw [hjs]; decide) rfl (hSt.own 0 _ _ rfl).1 (Nat.zero_lt_succ _)) | (apply WL_ev rfl rfl; exact Ev_extern Tryz.func120 (by kernel_rfl) (by kernel_rfl) (by kernel_rfl) (e := Extern.AbiNoEscape.same) (by kernel_rfl) rfl (Lib.run_noEscape _ _)) | (apply WL_ev rfl rfl; exact Ev_fromUnsafe Tryz.underlying154 Tryz.underlying85 hj rfl (hSt.own 0 _ _ rfl).1 hl) | refine W_seq ?_ | refine W_block ?_ | refine W_region ?_ | refine WL_nil ?_ | refine W_true rfl ?_ | refine W_false rfl ?_ | refine W_skip ?_ | refine W_exit ?_ | refine W_ret ?_ | refine W_goto ?_ | refine W_label ?_ | refine At_calm ?_ | refine At_then_normal ?_ | refine At_then ?_ | refine At_then_ret ?_ | refine At_in_normal ?_ | refine At_in_ret ?_ | refine At_in_hit ?_ | refine At_in_miss rfl ?_ | refine At_jump_normal ?_ | refine At_jump_ret ?_ | refine At_jump_exit ?_ | refine At_then_goto ?_ | refine At_in_goto ?_ | (apply WL_ev rfl rfl; (first | exact Ev_move rfl | exact Ev_assign rfl | exact Ev_nilCheck rfl | exact Ev_fieldAddr hT rfl rfl | exact Ev_load1 hT rfl rfl (hSt.at 0 rfl) rfl | exact Ev_load1 hT rfl rfl (hSt.at 1 rfl) rfl | exact Ev_load1 hT rfl rfl (hSt.at 2 rfl) rfl | exact Ev_loadN hT rfl rfl (hSt.at 0 rfl) rfl rfl | exact Ev_loadN hT rfl rfl (hSt.at 1 rfl) rfl rfl | exact Ev_loadN hT rfl rfl (hSt.at 2 rfl) rfl rfl | exact Ev_pickT rfl rfl | exact Ev_pickF rfl rfl | exact Ev_eql rfl rfl | exact Ev_neq rfl rfl | exact Ev_lss rfl rfl | exact Ev_leq rfl rfl | exact Ev_gtr rfl rfl | exact Ev_geq rfl rfl | exact Ev_add rfl rfl (by omega) | exact Ev_sub rfl rfl (by omega) | exact Ev_len_str rfl hT rfl | exact Ev_len_slice hT rfl rfl | exact Ev_extract rfl rfl | exact Ev_notP rfl | exact Ev_not rfl | exact Ev_str_eql rfl rfl | exact Ev_str_neq rfl rfl | exact Ev_min rfl rfl | exact Ev_max rfl rfl | exact Ev_some_nil_eql (ok_ptr hT rfl) rfl rfl | exact Ev_some_nil_neq (ok_ptr hT rfl) rfl rfl | exact Ev_nil_nil_eql (ok_ptr hT rfl) rfl rfl | exact Ev_nil_nil_neq (ok_ptr hT rfl) rfl rfl | exact Ev_str_slice hT rfl rfl rfl rfl (by omega) (by omega) (by omega) | exact Ev_str_add rfl rfl (by omega) | exact Ev_conv_in hT rfl rfl rfl (inI (by omega) (by omega)) | exact Ev_build hT rfl rfl rfl rfl rfl (ok_stc hT rfl) | exact Ev_addw rfl rfl | exact Ev_beql rfl rfl (ok_boo hT rfl) | exact Ev_bneq rfl rfl (ok_boo hT rfl) | exact Ev_indexAddr hT rfl rfl rfl (by omega) (by omega) | exact Ev_remP rfl rfl (by omega) (by omega) | exact Ev_struct_eql (ok_eq rfl) rfl rfl rfl rfl | exact Ev_struct_neq (ok_eq rfl) rfl rfl rfl rfl | exact Ev_map_nil_eql (ok_map rfl) rfl rfl | exact Ev_quo rfl rfl (by omega) (by omega) (by omega) | exact Ev_mul rfl rfl (by omega) | exact Ev_slice_nil_eql hT rfl rfl rfl | exact Ev_slice_nil_neq hT rfl rfl rfl)) | refine WL_pass rfl rfl ?_ | refine WL_pass0 rfl ?_ | (refine WL_store1 hT rfl rfl 0 rfl rfl hSt rfl rfl rfl ?_; clear hSt; intro w hSt; dsimp only [List.set] at hSt) | (refine WL_store1 hT rfl rfl 1 rfl rfl hSt rfl rfl rfl ?_; clear hSt; intro w hSt; dsimp only [List.set] at hSt) | (refine WL_store1 hT rfl rfl 2 rfl rfl hSt rfl rfl rfl ?_; clear hSt; intro w hSt; dsimp only [List.set] at hSt) | (refine WL_storeN hT rfl rfl 0 rfl rfl hSt rfl rfl rfl rfl ?_; clear hSt; intro w hSt; dsimp only [spl, List.set] at hSt) | (refine WL_storeN hT rfl rfl 1 rfl rfl hSt rfl rfl rfl rfl ?_; clear hSt; intro w hSt; dsimp only [spl, List.set] at hSt) | (refine WL_storeN hT rfl rfl 2 rfl rfl hSt rfl rfl rfl rfl ?_; clear hSt; intro w hSt; dsimp only [spl, List.set] at hSt) | (refine WL_box rfl rfl rfl hSt ?_; clear hSt; intro w nb hnb hSt; dsimp only [zcells, List.nil_append, List.cons_append] at hSt) | (refine WL_alloc hT rfl rfl rfl hSt ?_; clear hSt; intro w nb hnb hSt; dsimp only [zcells, List.nil_append, List.cons_append] at hSt) | (refine WL_guardP rfl rfl (fun hc => ?_) (fun hc => ?_) <;> try (exfalso; first | omega | contradiction | exact hc rfl)) | (refine WL_guard rfl rfl (fun hc => ?_) (fun hc => ?_) <;> (try (exfalso; first | omega | contradiction | exact of_dec hc rfl | (simp at hc; done))) <;> (fail_if_success (change true = true at hc)) <;> (fail_if_success (change false = false at hc))) | (refine W_quiet hT (by decide +kernel) hSt ?_; clear hSt; (repeat' (first | (apply QL_ev rfl rfl; (intro w hSt; (first | (exact Ev_toUnsafe Tryz.underlying85 Tryz.underlying154 hj (by rw [hjs]; decide) rfl (hSt.own 0 _ _ rfl).1 (Nat.zero_lt_succ _)) | (exact Ev_extern Tryz.func120 (by kernel_rfl) (by kernel_rfl) (by kernel_rfl) (e := Extern.AbiNoEscape.same) (by kernel_rfl) rfl (Lib.run_noEscape _ _)) | (exact Ev_fromUnsafe Tryz.underlying154 Tryz.underlying85 hj rfl (hSt.own 0 _ _ rfl).1 hl) | exact Ev_move rfl | exact Ev_assign rfl | exact Ev_nilCheck rfl | exact Ev_fieldAddr hT rfl rfl | exact Ev_load1 hT rfl rfl (hSt.at 0 rfl) rfl | exact Ev_load1 hT rfl rfl (hSt.at 1 rfl) rfl | exact Ev_load1 hT rfl rfl (hSt.at 2 rfl) rfl | exact Ev_loadN hT rfl rfl (hSt.at 0 rfl) rfl rfl | exact Ev_loadN hT rfl rfl (hSt.at 1 rfl) rfl rfl | exact Ev_loadN hT rfl rfl (hSt.at 2 rfl) rfl rfl | exact Ev_pickT rfl rfl | exact Ev_pickF rfl rfl | exact Ev_eql rfl rfl | exact Ev_neq rfl rfl | exact Ev_lss rfl rfl | exact Ev_leq rfl rfl | exact Ev_gtr rfl rfl | exact Ev_geq rfl rfl | exact Ev_add rfl rfl (by omega) | exact Ev_sub rfl rfl (by omega) | exact Ev_len_str rfl hT rfl | exact Ev_len_slice hT rfl rfl | exact Ev_extract rfl rfl | exact Ev_notP rfl | exact Ev_not rfl | exact Ev_str_eql rfl rfl | exact Ev_str_neq rfl rfl | exact Ev_min rfl rfl | exact Ev_max rfl rfl | exact Ev_some_nil_eql (ok_ptr hT rfl) rfl rfl | exact Ev_some_nil_neq (ok_ptr hT rfl) rfl rfl | exact Ev_nil_nil_eql (ok_ptr hT rfl) rfl rfl | exact Ev_nil_nil_neq (ok_ptr hT rfl) rfl rfl | exact Ev_str_slice hT rfl rfl rfl rfl (by omega) (by omega) (by omega) | exact Ev_str_add rfl rfl (by omega) | exact Ev_conv_in hT rfl rfl rfl (inI (by omega) (by omega)) | exact Ev_build hT rfl rfl rfl rfl rfl (ok_stc hT rfl) | exact Ev_addw rfl rfl | exact Ev_beql rfl rfl (ok_boo hT rfl) | exact Ev_bneq rfl rfl (ok_boo hT rfl) | exact Ev_indexAddr hT rfl rfl rfl (by omega) (by omega) | exact Ev_remP rfl rfl (by omega) (by omega) | exact Ev_struct_eql (ok_eq rfl) rfl rfl rfl rfl | exact Ev_struct_neq (ok_eq rfl) rfl rfl rfl rfl | exact Ev_map_nil_eql (ok_map rfl) rfl rfl | exact Ev_quo rfl rfl (by omega) (by omega) (by omega) | exact Ev_mul rfl rfl (by omega) | exact Ev_slice_nil_eql hT rfl rfl rfl | exact Ev_slice_nil_neq hT rfl rfl rfl))) | refine QL_pass rfl rfl ?_ | (refine QL_guardP rfl rfl (fun hc => ?_) (fun hc => ?_) <;> try (exfalso; first | omega | contradiction | exact hc rfl)) | (refine QL_guard rfl rfl (fun hc => ?_) (fun hc => ?_) <;> (try (exfalso; first | omega | contradiction | exact of_dec hc rfl | (simp at hc; done))) <;> (fail_if_success (change true = true at hc)) <;> (fail_if_success (change false = false at hc))))); all_goals (refine QL_nil (fun w hSt => ?_))) | refine ret0' rfl ?_ | (refine W_if rfl (fun hc => ?_) (fun hc => ?_) <;> try (exfalso; first | omega | contradiction | exact hc rfl)) | (refine W_cond rfl (fun hc => ?_) (fun hc => ?_) <;> try (exfalso; first | omega | contradiction | (simp at hc; done))))
    exact ⟨rfl, hSt⟩
  · repeat' (first | (apply WL_ev rfl rfl; exact Ev_neqPtr Tryz.underlying85 hj rfl rfl) | refine W_seq ?_ | refine W_block ?_ | refine W_region ?_ | refine WL_nil ?_ | refine W_true rfl ?_ | refine W_false rfl ?_ | refine W_skip ?_ | refine W_exit ?_ | refine W_ret ?_ | refine W_goto ?_ | refine W_label ?_ | refine At_calm ?_ | refine At_then_normal ?_ | refine At_then ?_ | refine At_then_ret ?_ | refine At_in_normal ?_ | refine At_in_ret ?_ | refine At_in_hit ?_ | refine At_in_miss rfl ?_ | refine At_jump_normal ?_ | refine At_jump_ret ?_ | refine At_jump_exit ?_ | refine At_then_goto ?_ | refine At_in_goto ?_ | (apply WL_ev rfl rfl; (first | exact Ev_move rfl | exact Ev_assign rfl | exact Ev_nilCheck rfl | exact Ev_fieldAddr hT rfl rfl | exact Ev_load1 hT rfl rfl (hSt.at 0 rfl) rfl | exact Ev_load1 hT rfl rfl (hSt.at 1 rfl) rfl | exact Ev_load1 hT rfl rfl (hSt.at 2 rfl) rfl | exact Ev_loadN hT rfl rfl (hSt.at 0 rfl) rfl rfl | exact Ev_loadN hT rfl rfl (hSt.at 1 rfl) rfl rfl | exact Ev_loadN hT rfl rfl (hSt.at 2 rfl) rfl rfl | exact Ev_pickT rfl rfl | exact Ev_pickF rfl rfl | exact Ev_eql rfl rfl | exact Ev_neq rfl rfl | exact Ev_lss rfl rfl | exact Ev_leq rfl rfl | exact Ev_gtr rfl rfl | exact Ev_geq rfl rfl | exact Ev_add rfl rfl (by omega) | exact Ev_sub rfl rfl (by omega) | exact Ev_len_str rfl hT rfl | exact Ev_len_slice hT rfl rfl | exact Ev_extract rfl rfl | exact Ev_notP rfl | exact Ev_not rfl | exact Ev_str_eql rfl rfl | exact Ev_str_neq rfl rfl | exact Ev_min rfl rfl | exact Ev_max rfl rfl | exact Ev_some_nil_eql (ok_ptr hT rfl) rfl rfl | exact Ev_some_nil_neq (ok_ptr hT rfl) rfl rfl | exact Ev_nil_nil_eql (ok_ptr hT rfl) rfl rfl | exact Ev_nil_nil_neq (ok_ptr hT rfl) rfl rfl | exact Ev_str_slice hT rfl rfl rfl rfl (by omega) (by omega) (by omega) | exact Ev_str_add rfl rfl (by omega) | exact Ev_conv_in hT rfl rfl rfl (inI (by omega) (by omega)) | exact Ev_build hT rfl rfl rfl rfl rfl (ok_stc hT rfl) | exact Ev_addw rfl rfl | exact Ev_beql rfl rfl (ok_boo hT rfl) | exact Ev_bneq rfl rfl (ok_boo hT rfl) | exact Ev_indexAddr hT rfl rfl rfl (by omega) (by omega) | exact Ev_remP rfl rfl (by omega) (by omega) | exact Ev_struct_eql (ok_eq rfl) rfl rfl rfl rfl | exact Ev_struct_neq (ok_eq rfl) rfl rfl rfl rfl | exact Ev_map_nil_eql (ok_map rfl) rfl rfl | exact Ev_quo rfl rfl (by omega) (by omega) (by omega) | exact Ev_mul rfl rfl (by omega) | exact Ev_slice_nil_eql hT rfl rfl rfl | exact Ev_slice_nil_neq hT rfl rfl rfl)) | refine WL_pass rfl rfl ?_ | refine WL_pass0 rfl ?_ | (refine WL_store1 hT rfl rfl 0 rfl rfl hSt rfl rfl rfl ?_; clear hSt; intro w hSt; dsimp only [List.set] at hSt) | (refine WL_store1 hT rfl rfl 1 rfl rfl hSt rfl rfl rfl ?_; clear hSt; intro w hSt; dsimp only [List.set] at hSt) | (refine WL_store1 hT rfl rfl 2 rfl rfl hSt rfl rfl rfl ?_; clear hSt; intro w hSt; dsimp only [List.set] at hSt) | (refine WL_storeN hT rfl rfl 0 rfl rfl hSt rfl rfl rfl rfl ?_; clear hSt; intro w hSt; dsimp only [spl, List.set] at hSt) | (refine WL_storeN hT rfl rfl 1 rfl rfl hSt rfl rfl rfl rfl ?_; clear hSt; intro w hSt; dsimp only [spl, List.set] at hSt) | (refine WL_storeN hT rfl rfl 2 rfl rfl hSt rfl rfl rfl rfl ?_; clear hSt; intro w hSt; dsimp only [spl, List.set] at hSt) | (refine WL_box rfl rfl rfl hSt ?_; clear hSt; intro w nb hnb hSt; dsimp only [zcells, List.nil_append, List.cons_append] at hSt) | (refine WL_alloc hT rfl rfl rfl hSt ?_; clear hSt; intro w nb hnb hSt; dsimp only [zcells, List.nil_append, List.cons_append] at hSt) | (refine WL_guardP rfl rfl (fun hc => ?_) (fun hc => ?_) <;> try (exfalso; first | omega | contradiction | exact hc rfl)) | (refine WL_guard rfl rfl (fun hc => ?_) (fun hc => ?_) <;> (try (exfalso; first | omega | contradiction | exact of_dec hc rfl | (simp at hc; done))) <;> (fail_if_success (change true = true at hc)) <;> (fail_if_success (change false = false at hc))) | (refine W_quiet hT (by decide +kernel) hSt ?_; clear hSt; (repeat' (first | (apply QL_ev rfl rfl; (intro w hSt; (first | (exact Ev_neqPtr Tryz.underlying85 hj rfl rfl) | exact Ev_move rfl | exact Ev_assign rfl | exact Ev_nilCheck rfl | exact Ev_fieldAddr hT rfl rfl | exact Ev_load1 hT rfl rfl (hSt.at 0 rfl) rfl | exact Ev_load1 hT rfl rfl (hSt.at 1 rfl) rfl | exact Ev_load1 hT rfl rfl (hSt.at 2 rfl) rfl | exact Ev_loadN hT rfl rfl (hSt.at 0 rfl) rfl rfl | exact Ev_loadN hT rfl rfl (hSt.at 1 rfl) rfl rfl | exact Ev_loadN hT rfl rfl (hSt.at 2 rfl) rfl rfl | exact Ev_pickT rfl rfl | exact Ev_pickF rfl rfl | exact Ev_eql rfl rfl | exact Ev_neq rfl rfl | exact Ev_lss rfl rfl | exact Ev_leq rfl rfl | exact Ev_gtr rfl rfl | exact Ev_geq rfl rfl | exact Ev_add rfl rfl (by omega) | exact Ev_sub rfl rfl (by omega) | exact Ev_len_str rfl hT rfl | exact Ev_len_slice hT rfl rfl | exact Ev_extract rfl rfl | exact Ev_notP rfl | exact Ev_not rfl | exact Ev_str_eql rfl rfl | exact Ev_str_neq rfl rfl | exact Ev_min rfl rfl | exact Ev_max rfl rfl | exact Ev_some_nil_eql (ok_ptr hT rfl) rfl rfl | exact Ev_some_nil_neq (ok_ptr hT rfl) rfl rfl | exact Ev_nil_nil_eql (ok_ptr hT rfl) rfl rfl | exact Ev_nil_nil_neq (ok_ptr hT rfl) rfl rfl | exact Ev_str_slice hT rfl rfl rfl rfl (by omega) (by omega) (by omega) | exact Ev_str_add rfl rfl (by omega) | exact Ev_conv_in hT rfl rfl rfl (inI (by omega) (by omega)) | exact Ev_build hT rfl rfl rfl rfl rfl (ok_stc hT rfl) | exact Ev_addw rfl rfl | exact Ev_beql rfl rfl (ok_boo hT rfl) | exact Ev_bneq rfl rfl (ok_boo hT rfl) | exact Ev_indexAddr hT rfl rfl rfl (by omega) (by omega) | exact Ev_remP rfl rfl (by omega) (by omega) | exact Ev_struct_eql (ok_eq rfl) rfl rfl rfl rfl | exact Ev_struct_neq (ok_eq rfl) rfl rfl rfl rfl | exact Ev_map_nil_eql (ok_map rfl) rfl rfl | exact Ev_quo rfl rfl (by omega) (by omega) (by omega) | exact Ev_mul rfl rfl (by omega) | exact Ev_slice_nil_eql hT rfl rfl rfl | exact Ev_slice_nil_neq hT rfl rfl rfl))) | refine QL_pass rfl rfl ?_ | (refine QL_guardP rfl rfl (fun hc => ?_) (fun hc => ?_) <;> try (exfalso; first | omega | contradiction | exact hc rfl)) | (refine QL_guard rfl rfl (fun hc => ?_) (fun hc => ?_) <;> (try (exfalso; first | omega | contradiction | exact of_dec hc rfl | (simp at hc; done))) <;> (fail_if_success (change true = true at hc)) <;> (fail_if_success (change false = false at hc))))); all_goals (refine QL_nil (fun w hSt => ?_))) | refine ret0' rfl ?_ | (refine W_if rfl (fun hc => ?_) (fun hc => ?_) <;> try (exfalso; first | omega | contradiction | exact hc rfl)) | (refine W_cond rfl (fun hc => ?_) (fun hc => ?_) <;> try (exfalso; first | omega | contradiction | (simp at hc; done))))
    exact ⟨rfl, hSt⟩
theorem write_any {w0 : World} {b : Nat} {l : List UInt8} {H : List (Nat × Obj)} (hB : Bld b l H) (hh : Has w0 H) (s : List UInt8) (hlen : l.length + s.length ≤ 140737488355328) :
    Cl Tryz.prog 49 [Ptr b, S s] w0 (fun r w' => r = .tuple ⟨[I s.length, .nilIface]⟩ ∧ ∃ H', Bld b (l ++ s) H' ∧ St w0 (InH H) H' w') := by
  obtain ⟨p, v, H1, hp, ho, hcb, rfl⟩ := hB
  have hSt := hh.st
  refine enter Tryz.func49 rfl Tryz.ntmps49 rfl ?_
  repeat' (first | refine W_seq ?_ | refine W_block ?_ | refine W_region ?_ | refine WL_nil ?_ | refine W_true rfl ?_ | refine W_false rfl ?_ | refine W_skip ?_ | refine W_exit ?_ | refine W_ret ?_ | refine W_goto ?_ | refine W_label ?_ | refine At_calm ?_ | refine At_then_normal ?_ | refine At_then ?_ | refine At_then_ret ?_ | refine At_in_normal ?_ | refine At_in_ret ?_ | refine At_in_hit ?_ | refine At_in_miss rfl ?_ | refine At_jump_normal ?_ | refine At_jump_ret ?_ | refine At_jump_exit ?_ | refine At_then_goto ?_ | refine At_in_goto ?_ | (apply WL_ev rfl rfl; (first | exact Ev_move rfl | exact Ev_assign rfl | exact Ev_nilCheck rfl | exact Ev_fieldAddr hT rfl rfl | exact Ev_load1 hT rfl rfl (hSt.at 0 rfl) rfl | exact Ev_load1 hT rfl rfl (hSt.at 1 rfl) rfl | exact Ev_load1 hT rfl rfl (hSt.at 2 rfl) rfl | exact Ev_loadN hT rfl rfl (hSt.at 0 rfl) rfl rfl | exact Ev_loadN hT rfl rfl (hSt.at 1 rfl) rfl rfl | exact Ev_loadN hT rfl rfl (hSt.at 2 rfl) rfl rfl | exact Ev_pickT rfl rfl | exact Ev_pickF rfl rfl | exact Ev_eql rfl rfl | exact Ev_neq rfl rfl | exact Ev_lss rfl rfl | exact Ev_leq rfl rfl | exact Ev_gtr rfl rfl | exact Ev_geq rfl rfl | exact Ev_add rfl rfl (by omega) | exact Ev_sub rfl rfl (by omega) | exact Ev_len_str rfl hT rfl | exact Ev_len_slice hT rfl rfl | exact Ev_extract rfl rfl | exact Ev_notP rfl | exact Ev_not rfl | exact Ev_str_eql rfl rfl | exact Ev_str_neq rfl rfl | exact Ev_min rfl rfl | exact Ev_max rfl rfl | exact Ev_some_nil_eql (ok_ptr hT rfl) rfl rfl | exact Ev_some_nil_neq (ok_ptr hT rfl) rfl rfl | exact Ev_nil_nil_eql (ok_ptr hT rfl) rfl rfl | exact Ev_nil_nil_neq (ok_ptr hT rfl) rfl rfl | exact Ev_str_slice hT rfl rfl rfl rfl (by omega) (by omega) (by omega) | exact Ev_str_add rfl rfl (by omega) | exact Ev_conv_in hT rfl rfl rfl (inI (by omega) (by omega)) | exact Ev_build hT rfl rfl rfl rfl rfl (ok_stc hT rfl) | exact Ev_addw rfl rfl | exact Ev_beql rfl rfl (ok_boo hT rfl) | exact Ev_bneq rfl rfl (ok_boo hT rfl) | exact Ev_indexAddr hT rfl rfl rfl (by omega) (by omega) | exact Ev_remP rfl rfl (by omega) (by omega) | exact Ev_struct_eql (ok_eq rfl) rfl rfl rfl rfl | exact Ev_struct_neq (ok_eq rfl) rfl rfl rfl rfl | exact Ev_map_nil_eql (ok_map rfl) rfl rfl | exact Ev_quo rfl rfl (by omega) (by omega) (by omega) | exact Ev_mul rfl rfl (by omega) | exact Ev_slice_nil_eql hT rfl rfl rfl | exact Ev_slice_nil_neq hT rfl rfl rfl)) | refine WL_pass rfl rfl ?_ | refine WL_pass0 rfl ?_ | (refine WL_store1 hT rfl rfl 0 rfl rfl hSt rfl rfl rfl ?_; clear hSt; intro w hSt; dsimp only [List.set] at hSt) | (refine WL_store1 hT rfl rfl 1 rfl rfl hSt rfl rfl rfl ?_; clear hSt; intro w hSt; dsimp only [List.set] at hSt) | (refine WL_store1 hT rfl rfl 2 rfl rfl hSt rfl rfl rfl ?_; clear hSt; intro w hSt; dsimp only [List.set] at hSt) | (refine WL_storeN hT rfl rfl 0 rfl rfl hSt rfl rfl rfl rfl ?_; clear hSt; intro w hSt; dsimp only [spl, List.set] at hSt) | (refine WL_storeN hT rfl rfl 1 rfl rfl hSt rfl rfl rfl rfl ?_; clear hSt; intro w hSt; dsimp only [spl, List.set] at hSt) | (refine WL_storeN hT rfl rfl 2 rfl rfl hSt rfl rfl rfl rfl ?_; clear hSt; intro w hSt; dsimp only [spl, List.set] at hSt) | (refine WL_box rfl rfl rfl hSt ?_; clear hSt; intro w nb hnb hSt; dsimp only [zcells, List.nil_append, List.cons_append] at hSt) | (refine WL_alloc hT rfl rfl rfl hSt ?_; clear hSt; intro w nb hnb hSt; dsimp only [zcells, List.nil_append, List.cons_append] at hSt) | (refine WL_guardP rfl rfl (fun hc => ?_) (fun hc => ?_) <;> try (exfalso; first | omega | contradiction | exact hc rfl)) | (refine WL_guard rfl rfl (fun hc => ?_) (fun hc => ?_) <;> (try (exfalso; first | omega | contradiction | exact of_dec hc rfl | (simp at hc; done))) <;> (fail_if_success (change true = true at hc)) <;> (fail_if_success (change false = false at hc))) | (refine W_quiet hT (by decide +kernel) hSt ?_; clear hSt; (repeat' (first | (apply QL_ev rfl rfl; (intro w hSt; (first | exact Ev_move rfl | exact Ev_assign rfl | exact Ev_nilCheck rfl | exact Ev_fieldAddr hT rfl rfl | exact Ev_load1 hT rfl rfl (hSt.at 0 rfl) rfl | exact Ev_load1 hT rfl rfl (hSt.at 1 rfl) rfl | exact Ev_load1 hT rfl rfl (hSt.at 2 rfl) rfl | exact Ev_loadN hT rfl rfl (hSt.at 0 rfl) rfl rfl | exact Ev_loadN hT rfl rfl (hSt.at 1 rfl) rfl rfl | exact Ev_loadN hT rfl rfl (hSt.at 2 rfl) rfl rfl | exact Ev_pickT rfl rfl | exact Ev_pickF rfl rfl | exact Ev_eql rfl rfl | exact Ev_neq rfl rfl | exact Ev_lss rfl rfl | exact Ev_leq rfl rfl | exact Ev_gtr rfl rfl | exact Ev_geq rfl rfl | exact Ev_add rfl rfl (by omega) | exact Ev_sub rfl rfl (by omega) | exact Ev_len_str rfl hT rfl | exact Ev_len_slice hT rfl rfl | exact Ev_extract rfl rfl | exact Ev_notP rfl | exact Ev_not rfl | exact Ev_str_eql rfl rfl | exact Ev_str_neq rfl rfl | exact Ev_min rfl rfl | exact Ev_max rfl rfl | exact Ev_some_nil_eql (ok_ptr hT rfl) rfl rfl | exact Ev_some_nil_neq (ok_ptr hT rfl) rfl rfl | exact Ev_nil_nil_eql (ok_ptr hT rfl) rfl rfl | exact Ev_nil_nil_neq (ok_ptr hT rfl) rfl rfl | exact Ev_str_slice hT rfl rfl rfl rfl (by omega) (by omega) (by omega) | exact Ev_str_add rfl rfl (by omega) | exact Ev_conv_in hT rfl rfl rfl (inI (by omega) (by omega)) | exact Ev_build hT rfl rfl rfl rfl rfl (ok_stc hT rfl) | exact Ev_addw rfl rfl | exact Ev_beql rfl rfl (ok_boo hT rfl) | exact Ev_bneq rfl rfl (ok_boo hT rfl) | exact Ev_indexAddr hT rfl rfl rfl (by omega) (by omega) | exact Ev_remP rfl rfl (by omega) (by omega) | exact Ev_struct_eql (ok_eq rfl) rfl rfl rfl rfl | exact Ev_struct_neq (ok_eq rfl) rfl rfl rfl rfl | exact Ev_map_nil_eql (ok_map rfl) rfl rfl | exact Ev_quo rfl rfl (by omega) (by omega) (by omega) | exact Ev_mul rfl rfl (by omega) | exact Ev_slice_nil_eql hT rfl rfl rfl | exact Ev_slice_nil_neq hT rfl rfl rfl))) | refine QL_pass rfl rfl ?_ | (refine QL_guardP rfl rfl (fun hc => ?_) (fun hc => ?_) <;> try (exfalso; first | omega | contradiction | exact hc rfl)) | (refine QL_guard rfl rfl (fun hc => ?_) (fun hc => ?_) <;> (try (exfalso; first | omega | contradiction | exact of_dec hc rfl | (simp at hc; done))) <;> (fail_if_success (change true = true at hc)) <;> (fail_if_success (change false = false at hc))))); all_goals (refine QL_nil (fun w hSt => ?_))) | refine ret0' rfl ?_ | (refine W_if rfl (fun hc => ?_) (fun hc => ?_) <;> try (exfalso; first | omega | contradiction | exact hc rfl)) | (refine W_cond rfl (fun hc => ?_) (fun hc => ?_) <;> try (exfalso; first | omega | contradiction | (simp at hc; done))))
  refine WL_call (ok_call hT rfl) rfl rfl rfl (copy_any (hSt.own 0 _ _ rfl).1 hp) ?_
  rintro r w' ⟨rfl, hc2⟩
  replace hSt := hSt.call1 (i := 0) rfl hc2
  dsimp only [List.set] at hSt
  clear hc2
  obtain ⟨oa, oc, rfl⟩ := ho.len
  repeat' (first | refine W_seq ?_ | refine W_block ?_ | refine W_region ?_ | refine WL_nil ?_ | refine W_true rfl ?_ | refine W_false rfl ?_ | refine W_skip ?_ | refine W_exit ?_ | refine W_ret ?_ | refine W_goto ?_ | refine W_label ?_ | refine At_calm ?_ | refine At_then_normal ?_ | refine At_then ?_ | refine At_then_ret ?_ | refine At_in_normal ?_ | refine At_in_ret ?_ | refine At_in_hit ?_ | refine At_in_miss rfl ?_ | refine At_jump_normal ?_ | refine At_jump_ret ?_ | refine At_jump_exit ?_ | refine At_then_goto ?_ | refine At_in_goto ?_ | (apply WL_ev rfl rfl; (first | exact Ev_move rfl | exact Ev_assign rfl | exact Ev_nilCheck rfl | exact Ev_fieldAddr hT rfl rfl | exact Ev_load1 hT rfl rfl (hSt.at 0 rfl) rfl | exact Ev_load1 hT rfl rfl (hSt.at 1 rfl) rfl | exact Ev_load1 hT rfl rfl (hSt.at 2 rfl) rfl | exact Ev_loadN hT rfl rfl (hSt.at 0 rfl) rfl rfl | exact Ev_loadN hT rfl rfl (hSt.at 1 rfl) rfl rfl | exact Ev_loadN hT rfl rfl (hSt.at 2 rfl) rfl rfl | exact Ev_pickT rfl rfl | exact Ev_pickF rfl rfl | exact Ev_eql rfl rfl | exact Ev_neq rfl rfl | exact Ev_lss rfl rfl | exact Ev_leq rfl rfl | exact Ev_gtr rfl rfl | exact Ev_geq rfl rfl | exact Ev_add rfl rfl (by omega) | exact Ev_sub rfl rfl (by omega) | exact Ev_len_str rfl hT rfl | exact Ev_len_slice hT rfl rfl | exact Ev_extract rfl rfl | exact Ev_notP rfl | exact Ev_not rfl | exact Ev_str_eql rfl rfl | exact Ev_str_neq rfl rfl | exact Ev_min rfl rfl | exact Ev_max rfl rfl | exact Ev_some_nil_eql (ok_ptr hT rfl) rfl rfl | exact Ev_some_nil_neq (ok_ptr hT rfl) rfl rfl | exact Ev_nil_nil_eql (ok_ptr hT rfl) rfl rfl | exact Ev_nil_nil_neq (ok_ptr hT rfl) rfl rfl | exact Ev_str_slice hT rfl rfl rfl rfl (by omega) (by omega) (by omega) | exact Ev_str_add rfl rfl (by omega) | exact Ev_conv_in hT rfl rfl rfl (inI (by omega) (by omega)) | exact Ev_build hT rfl rfl rfl rfl rfl (ok_stc hT rfl) | exact Ev_addw rfl rfl | exact Ev_beql rfl rfl (ok_boo hT rfl) | exact Ev_bneq rfl rfl (ok_boo hT rfl) | exact Ev_indexAddr hT rfl rfl rfl (by omega) (by omega) | exact Ev_remP rfl rfl (by omega) (by omega) | exact Ev_struct_eql (ok_eq rfl) rfl rfl rfl rfl | exact Ev_struct_neq (ok_eq rfl) rfl rfl rfl rfl | exact Ev_map_nil_eql (ok_map rfl) rfl rfl | exact Ev_quo rfl rfl (by omega) (by omega) (by omega) | exact Ev_mul rfl rfl (by omega) | exact Ev_slice_nil_eql hT rfl rfl rfl | exact Ev_slice_nil_neq hT rfl rfl rfl)) | refine WL_pass rfl rfl ?_ | refine WL_pass0 rfl ?_ | (refine WL_store1 hT rfl rfl 0 rfl rfl hSt rfl rfl rfl ?_; clear hSt; intro w hSt; dsimp only [List.set] at hSt) | (refine WL_store1 hT rfl rfl 1 rfl rfl hSt rfl rfl rfl ?_; clear hSt; intro w hSt; dsimp only [List.set] at hSt) | (refine WL_store1 hT rfl rfl 2 rfl rfl hSt rfl rfl rfl ?_; clear hSt; intro w hSt; dsimp only [List.set] at hSt) | (refine WL_storeN hT rfl rfl 0 rfl rfl hSt rfl rfl rfl rfl ?_; clear hSt; intro w hSt; dsimp only [spl, List.set] at hSt) | (refine WL_storeN hT rfl rfl 1 rfl rfl hSt rfl rfl rfl rfl ?_; clear hSt; intro w hSt; dsimp only [spl, List.set] at hSt) | (refine WL_storeN hT rfl rfl 2 rfl rfl hSt rfl rfl rfl rfl ?_; clear hSt; intro w hSt; dsimp only [spl, List.set] at hSt) | (refine WL_box rfl rfl rfl hSt ?_; clear hSt; intro w nb hnb hSt; dsimp only [zcells, List.nil_append, List.cons_append] at hSt) | (refine WL_alloc hT rfl rfl rfl hSt ?_; clear hSt; intro w nb hnb hSt; dsimp only [zcells, List.nil_append, List.cons_append] at hSt) | (refine WL_guardP rfl rfl (fun hc => ?_) (fun hc => ?_) <;> try (exfalso; first | omega | contradiction | exact hc rfl)) | (refine WL_guard rfl rfl (fun hc => ?_) (fun hc => ?_) <;> (try (exfalso; first | omega | contradiction | exact of_dec hc rfl | (simp at hc; done))) <;> (fail_if_success (change true = true at hc)) <;> (fail_if_success (change false = false at hc))) | (refine W_quiet hT (by decide +kernel) hSt ?_; clear hSt; (repeat' (first | (apply QL_ev rfl rfl; (intro w hSt; (first | exact Ev_move rfl | exact Ev_assign rfl | exact Ev_nilCheck rfl | exact Ev_fieldAddr hT rfl rfl | exact Ev_load1 hT rfl rfl (hSt.at 0 rfl) rfl | exact Ev_load1 hT rfl rfl (hSt.at 1 rfl) rfl | exact Ev_load1 hT rfl rfl (hSt.at 2 rfl) rfl | exact Ev_loadN hT rfl rfl (hSt.at 0 rfl) rfl rfl | exact Ev_loadN hT rfl rfl (hSt.at 1 rfl) rfl rfl | exact Ev_loadN hT rfl rfl (hSt.at 2 rfl) rfl rfl | exact Ev_pickT rfl rfl | exact Ev_pickF rfl rfl | exact Ev_eql rfl rfl | exact Ev_neq rfl rfl | exact Ev_lss rfl rfl | exact Ev_leq rfl rfl | exact Ev_gtr rfl rfl | exact Ev_geq rfl rfl | exact Ev_add rfl rfl (by omega) | exact Ev_sub rfl rfl (by omega) | exact Ev_len_str rfl hT rfl | exact Ev_len_slice hT rfl rfl | exact Ev_extract rfl rfl | exact Ev_notP rfl | exact Ev_not rfl | exact Ev_str_eql rfl rfl | exact Ev_str_neq rfl rfl | exact Ev_min rfl rfl | exact Ev_max rfl rfl | exact Ev_some_nil_eql (ok_ptr hT rfl) rfl rfl | exact Ev_some_nil_neq (ok_ptr hT rfl) rfl rfl | exact Ev_nil_nil_eql (ok_ptr hT rfl) rfl rfl | exact Ev_nil_nil_neq (ok_ptr hT rfl) rfl rfl | exact Ev_str_slice hT rfl rfl rfl rfl (by omega) (by omega) (by omega) | exact Ev_str_add rfl rfl (by omega) | exact Ev_conv_in hT rfl rfl rfl (inI (by omega) (by omega)) | exact Ev_build hT rfl rfl rfl rfl rfl (ok_stc hT rfl) | exact Ev_addw rfl rfl | exact Ev_beql rfl rfl (ok_boo hT rfl) | exact Ev_bneq rfl rfl (ok_boo hT rfl) | exact Ev_indexAddr hT rfl rfl rfl (by omega) (by omega) | exact Ev_remP rfl rfl (by omega) (by omega) | exact Ev_struct_eql (ok_eq rfl) rfl rfl rfl rfl | exact Ev_struct_neq (ok_eq rfl) rfl rfl rfl rfl | exact Ev_map_nil_eql (ok_map rfl) rfl rfl | exact Ev_quo rfl rfl (by omega) (by omega) (by omega) | exact Ev_mul rfl rfl (by omega) | exact Ev_slice_nil_eql hT rfl rfl rfl | exact Ev_slice_nil_neq hT rfl rfl rfl))) | refine QL_pass rfl rfl ?_ | (refine QL_guardP rfl rfl (fun hc => ?_) (fun hc => ?_) <;> try (exfalso; first | omega | contradiction | exact hc rfl)) | (refine QL_guard rfl rfl (fun hc => ?_) (fun hc => ?_) <;> (try (exfalso; first | omega | contradiction | exact of_dec hc rfl | (simp at hc; done))) <;> (fail_if_success (change true = true at hc)) <;> (fail_if_success (change false = false at hc))))); all_goals (refine QL_nil (fun w hSt => ?_))) | refine ret0' rfl ?_ | (refine W_if rfl (fun hc => ?_) (fun hc => ?_) <;> try (exfalso; first | omega | contradiction | exact hc rfl)) | (refine W_cond rfl (fun hc => ?_) (fun hc => ?_) <;> try (exfalso; first | omega | contradiction | (simp at hc; done))))
  refine WL_appendStr (H0 := [_]) (H2 := []) hT rfl rfl rfl rfl rfl rfl rfl rfl (by simpa using hSt) ho hcb (by simpa using hlen) (by simpa using hlen) ?_
  clear hSt
  intro v' w H1' ho' hcb' hSt
  dsimp only [List.cons_append, List.nil_append] at hSt
  obtain ⟨oa', oc', rfl⟩ := ho'.len
  repeat' (first | refine W_seq ?_ | refine W_block ?_ | refine W_region ?_ | refine WL_nil ?_ | refine W_true rfl ?_ | refine W_false rfl ?_ | refine W_skip ?_ | refine W_exit ?_ | refine W_ret ?_ | refine W_goto ?_ | refine W_label ?_ | refine At_calm ?_ | refine At_then_normal ?_ | refine At_then ?_ | refine At_then_ret ?_ | refine At_in_normal ?_ | refine At_in_ret ?_ | refine At_in_hit ?_ | refine At_in_miss rfl ?_ | refine At_jump_normal ?_ | refine At_jump_ret ?_ | refine At_jump_exit ?_ | refine At_then_goto ?_ | refine At_in_goto ?_ | (apply WL_ev rfl rfl; (first | exact Ev_move rfl | exact Ev_assign rfl | exact Ev_nilCheck rfl | exact Ev_fieldAddr hT rfl rfl | exact Ev_load1 hT rfl rfl (hSt.at 0 rfl) rfl | exact Ev_load1 hT rfl rfl (hSt.at 1 rfl) rfl | exact Ev_load1 hT rfl rfl (hSt.at 2 rfl) rfl | exact Ev_loadN hT rfl rfl (hSt.at 0 rfl) rfl rfl | exact Ev_loadN hT rfl rfl (hSt.at 1 rfl) rfl rfl | exact Ev_loadN hT rfl rfl (hSt.at 2 rfl) rfl rfl | exact Ev_pickT rfl rfl | exact Ev_pickF rfl rfl | exact Ev_eql rfl rfl | exact Ev_neq rfl rfl | exact Ev_lss rfl rfl | exact Ev_leq rfl rfl | exact Ev_gtr rfl rfl | exact Ev_geq rfl rfl | exact Ev_add rfl rfl (by omega) | exact Ev_sub rfl rfl (by omega) | exact Ev_len_str rfl hT rfl | exact Ev_len_slice hT rfl rfl | exact Ev_extract rfl rfl | exact Ev_notP rfl | exact Ev_not rfl | exact Ev_str_eql rfl rfl | exact Ev_str_neq rfl rfl | exact Ev_min rfl rfl | exact Ev_max rfl rfl | exact Ev_some_nil_eql (ok_ptr hT rfl) rfl rfl | exact Ev_some_nil_neq (ok_ptr hT rfl) rfl rfl | exact Ev_nil_nil_eql (ok_ptr hT rfl) rfl rfl | exact Ev_nil_nil_neq (ok_ptr hT rfl) rfl rfl | exact Ev_str_slice hT rfl rfl rfl rfl (by omega) (by omega) (by omega) | exact Ev_str_add rfl rfl (by omega) | exact Ev_conv_in hT rfl rfl rfl (inI (by omega) (by omega)) | exact Ev_build hT rfl rfl rfl rfl rfl (ok_stc hT rfl) | exact Ev_addw rfl rfl | exact Ev_beql rfl rfl (ok_boo hT rfl) | exact Ev_bneq rfl rfl (ok_boo hT rfl) | exact Ev_indexAddr hT rfl rfl rfl (by omega) (by omega) | exact Ev_remP rfl rfl (by omega) (by omega) | exact Ev_struct_eql (ok_eq rfl) rfl rfl rfl rfl | exact Ev_struct_neq (ok_eq rfl) rfl rfl rfl rfl | exact Ev_map_nil_eql (ok_map rfl) rfl rfl | exact Ev_quo rfl rfl (by omega) (by omega) (by omega) | exact Ev_mul rfl rfl (by omega) | exact Ev_slice_nil_eql hT rfl rfl rfl | exact Ev_slice_nil_neq hT rfl rfl rfl)) | refine WL_pass rfl rfl ?_ | refine WL_pass0 rfl ?_ | (refine WL_store1 hT rfl rfl 0 rfl rfl hSt rfl rfl rfl ?_; clear hSt; intro w hSt; dsimp only [List.set] at hSt) | (refine WL_store1 hT rfl rfl 1 rfl rfl hSt rfl rfl rfl ?_; clear hSt; intro w hSt; dsimp only [List.set] at hSt) | (refine WL_store1 hT rfl rfl 2 rfl rfl hSt rfl rfl rfl ?_; clear hSt; intro w hSt; dsimp only [List.set] at hSt) | (refine WL_storeN hT rfl rfl 0 rfl rfl hSt rfl rfl rfl rfl ?_; clear hSt; intro w hSt; dsimp only [spl, List.set] at hSt) | (refine WL_storeN hT rfl rfl 1 rfl rfl hSt rfl rfl rfl rfl ?_; clear hSt; intro w hSt; dsimp only [spl, List.set] at hSt) | (refine WL_storeN hT rfl rfl 2 rfl rfl hSt rfl rfl rfl rfl ?_; clear hSt; intro w hSt; dsimp only [spl, List.set] at hSt) | (refine WL_box rfl rfl rfl hSt ?_; clear hSt; intro w nb hnb hSt; dsimp only [zcells, List.nil_append, List.cons_append] at hSt) | (refine WL_alloc hT rfl rfl rfl hSt ?_; clear hSt; intro w nb hnb hSt; dsimp only [zcells, List.nil_append, List.cons_append] at hSt) | (refine WL_guardP rfl rfl (fun hc => ?_) (fun hc => ?_) <;> try (exfalso; first | omega | contradiction | exact hc rfl)) | (refine WL_guard rfl rfl (fun hc => ?_) (fun hc => ?_) <;> (try (exfalso; first | omega | contradiction | exact of_dec hc rfl | (simp at hc; done))) <;> (fail_if_success (change true = true at hc)) <;> (fail_if_success (change false = false at hc))) | (refine W_quiet hT (by decide +kernel) hSt ?_; clear hSt; (repeat' (first | (apply QL_ev rfl rfl; (intro w hSt; (first | exact Ev_move rfl | exact Ev_assign rfl | exact Ev_nilCheck rfl | exact Ev_fieldAddr hT rfl rfl | exact Ev_load1 hT rfl rfl (hSt.at 0 rfl) rfl | exact Ev_load1 hT rfl rfl (hSt.at 1 rfl) rfl | exact Ev_load1 hT rfl rfl (hSt.at 2 rfl) rfl | exact Ev_loadN hT rfl rfl (hSt.at 0 rfl) rfl rfl | exact Ev_loadN hT rfl rfl (hSt.at 1 rfl) rfl rfl | exact Ev_loadN hT rfl rfl (hSt.at 2 rfl) rfl rfl | exact Ev_pickT rfl rfl | exact Ev_pickF rfl rfl | exact Ev_eql rfl rfl | exact Ev_neq rfl rfl | exact Ev_lss rfl rfl | exact Ev_leq rfl rfl | exact Ev_gtr rfl rfl | exact Ev_geq rfl rfl | exact Ev_add rfl rfl (by omega) | exact Ev_sub rfl rfl (by omega) | exact Ev_len_str rfl hT rfl | exact Ev_len_slice hT rfl rfl | exact Ev_extract rfl rfl | exact Ev_notP rfl | exact Ev_not rfl | exact Ev_str_eql rfl rfl | exact Ev_str_neq rfl rfl | exact Ev_min rfl rfl | exact Ev_max rfl rfl | exact Ev_some_nil_eql (ok_ptr hT rfl) rfl rfl | exact Ev_some_nil_neq (ok_ptr hT rfl) rfl rfl | exact Ev_nil_nil_eql (ok_ptr hT rfl) rfl rfl | exact Ev_nil_nil_neq (ok_ptr hT rfl) rfl rfl | exact Ev_str_slice hT rfl rfl rfl rfl (by omega) (by omega) (by omega) | exact Ev_str_add rfl rfl (by omega) | exact Ev_conv_in hT rfl rfl rfl (inI (by omega) (by omega)) | exact Ev_build hT rfl rfl rfl rfl rfl (ok_stc hT rfl) | exact Ev_addw rfl rfl | exact Ev_beql rfl rfl (ok_boo hT rfl) | exact Ev_bneq rfl rfl (ok_boo hT rfl) | exact Ev_indexAddr hT rfl rfl rfl (by omega) (by omega) | exact Ev_remP rfl rfl (by omega) (by omega) | exact Ev_struct_eql (ok_eq rfl) rfl rfl rfl rfl | exact Ev_struct_neq (ok_eq rfl) rfl rfl rfl rfl | exact Ev_map_nil_eql (ok_map rfl) rfl rfl | exact Ev_quo rfl rfl (by omega) (by omega) (by omega) | exact Ev_mul rfl rfl (by omega) | exact Ev_slice_nil_eql hT rfl rfl rfl | exact Ev_slice_nil_neq hT rfl rfl rfl))) | refine QL_pass rfl rfl ?_ | (refine QL_guardP rfl rfl (fun hc => ?_) (fun hc => ?_) <;> try (exfalso; first | omega | contradiction | exact hc rfl)) | (refine QL_guard rfl rfl (fun hc => ?_) (fun hc => ?_) <;> (try (exfalso; first | omega | contradiction | exact of_dec hc rfl | (simp at hc; done))) <;> (fail_if_success (change true = true at hc)) <;> (fail_if_success (change false = false at hc))))); all_goals (refine QL_nil (fun w hSt => ?_))) | refine ret0' rfl ?_ | (refine W_if rfl (fun hc => ?_) (fun hc => ?_) <;> try (exfalso; first | omega | contradiction | exact hc rfl)) | (refine W_cond rfl (fun hc => ?_) (fun hc => ?_) <;> try (exfalso; first | omega | contradiction | (simp at hc; done))))
  exact ret2 rfl rfl rfl ⟨rfl, _, ⟨_, _, H1', .inr rfl, by simpa using ho', hcb', rfl⟩, hSt⟩
theorem string_any {w0 wb : World} {b : Nat} {l : List UInt8} {H H0 : List (Nat × Obj)} (hB : Bld b l H) (hSt : St w0 NoneS (H0 ++ H) wb) : Cl Tryz.prog 54 [Ptr b] wb (fun r w' => r = S l ∧ St w0 NoneS [] w') := by
  obtain ⟨p, v, H1, hp, ⟨hxl, hv⟩, hcb, rfl⟩ := hB
  have hE : St w0 NoneS ((b, bO p v) :: H1) wb := hSt.right
  have hbO := hE.own 0 b _ rfl
  have hge : w0.heap.size ≤ b := hbO.2.elim (fun e => e.elim) id
  have hat : Lib.BuilderAt 88 5 w0.heap.size b p (Lib.byteCells l) wb := by
    refine ⟨hge, v, hbO.1, ⟨by simp [Lib.byteCells], ?_⟩, ?_⟩
    · rcases hv with ⟨rfl, h0, rfl⟩ | ⟨g, cap, rs, rfl, hle, hrs, rfl⟩
      · exact .inl ⟨rfl, by simpa [Lib.byteCells] using h0⟩
      · have hg := hE.own 1 g _ rfl
        refine .inr ⟨g, cap, _, by simp [Lib.byteCells], hg.2.elim (fun e => e.elim) id, hg.1, by simpa [Lib.byteCells] using hle, hcb _ _ _ rfl, ?_, ?_⟩
        · simp [hrs]; omega
        · simp [Lib.byteCells]
    · rcases hv with ⟨rfl, h0, rfl⟩ | ⟨g, cap, rs, rfl, hle, hrs, rfl⟩
      · simp [Value.ownBlock]
      · intro e
        have e : g = b := by simpa [Value.ownBlock] using e
        have := hE.apart 0 1 b g _ _ rfl rfl e.symm
        omega
  have hib : Lib.IsBuilder 88 5 w0.heap.size b (Lib.byteCells l) wb := by
    rcases hp with rfl | rfl
    · exact .inl hat
    · exact .inr hat
  refine ⟨(Tryz.Builder_String_any _ _ l wb hib hSt.size).mono ?_⟩
  rintro e w' ⟨rfl, hw⟩
  refine ⟨_, rfl, rfl, ?_⟩
  exact ⟨hw.os.trans hSt.os, hw.tape.trans hSt.tape, hw.output.trans hSt.output, Nat.le_trans hSt.size hw.size, fun k hk hS => (hw.block k hk).trans (hSt.old k hk hS), fun i b o h => by simp at h, fun i j b c o u h => by simp at h⟩
end Go.Proofs.YtknfankadlokhaaGreatDoor

namespace Go.Proofs.YtknfankadlokhaaGreatDoor
open Go.RowKit
set_option linter.unusedVariables false
set_option linter.unusedSimpArgs false
section
variable {T : Tys} {P : Program} {n : Fz} {ops : Array Oper} {Q : Exit → Act → World → Prop} {L L' : Fr} {w w' w0 : World} {rest : List Oper} {ty t t' : TypeId} {xo yo zo : Operand}
  {Sx : Nat → Prop} {H : List (Nat × Obj)} {pos : String} {af : Array Edge} {g : Option (Nat × Bool)} {c : Code}
theorem run_callV {a : Act} {f : FuncId} {xs : List Operand} {vs caps : List Value} (hf : callB P f = true) (ho : opd L xo = some (.func (.func f) ⟨[]⟩ ⟨caps⟩)) (hx : opds L xs = some vs) (ha : Fits n L a) {at_ : Array TypeId} {dst : Option Tmp} :
    (execOp a.eval ⟨dst, .call ⟨.value xo, ⟨xs⟩, at_⟩, ty, pos, af, g⟩).run P w = .ok (.enter f ⟨vs ++ caps⟩) w := by
  have hm := opds_spec hx ha
  have he0 := ha.eval ho
  unfold callB at hf
  cases hfn : P.funcs[f]? with
  | none => simp [hfn] at hf
  | some fn =>
    simp only [hfn, Bool.and_eq_true, Bool.not_eq_true', Option.isSome_iff_exists] at hf
    obtain ⟨⟨b, hb⟩, hname⟩ := hf
    have hname' : ¬ (fn.name = "runtime.NumGoroutine") := by simpa using hname
    have he : (execOp a.eval ⟨dst, .call ⟨.value xo, ⟨xs⟩, at_⟩, ty, pos, af, g⟩) = callFunc f (⟨vs⟩ ++ ⟨caps⟩) := by
      simp only [execOp, resolve, he0, Deferred.ofValue]
      have : (Array.map a.eval ⟨xs⟩) = ⟨vs⟩ := by rw [← hm]; simp
      rw [this]
      simp [invoke]
    rw [he]
    simp [callFunc, hfn, hname', hb]
theorem WL_callV {d : Nat} {f : FuncId} {xs : List Operand} {vs caps : List Value} {R : Value → World → Prop} {at_ : Array TypeId} (hf : callB P f = true) (ho : opd L xo = some (.func (.func f) ⟨[]⟩ ⟨caps⟩)) (hx : opds L xs = some vs) (hg : wantB ops g L = some true) (hn : Nat.blt d n.1 = true)
    (hc : Cl P f (vs ++ caps) w R) (k : ∀ v w', R v w' → WL P n ops Q rest ((d, v) :: L) w') : WL P n ops Q (⟨some d, .call ⟨.value xo, ⟨xs⟩, at_⟩, ty, pos, af, g⟩ :: rest) L w := by
  refine ⟨fun a ha => ?_⟩
  unfold wpList
  rw [wantB_spec (o := ⟨some d, .call ⟨.value xo, ⟨xs⟩, at_⟩, ty, pos, af, g⟩) hg ha, if_pos rfl]
  refine .inl ?_
  unfold Oper.wp
  rw [run_callV hf ho hx ha, Oper.upon_enter]
  refine Calls.mono hc.run ?_
  rintro e w' ⟨v, rfl, hr⟩
  exact (k v w' hr).run _ (ha.put hn v)
theorem QL_callV {C : World → Prop} {K : Act → Prop} {d : Nat} {f : FuncId} {xs : List Operand} {vs caps : List Value} {v : Value} {at_ : Array TypeId} (hf : callB P f = true) (ho : opd L xo = some (.func (.func f) ⟨[]⟩ ⟨caps⟩)) (hx : opds L xs = some vs) (hg : wantB ops g L = some true) (hn : Nat.blt d n.1 = true)
    (hc : ∀ w, C w → Cl P f (vs ++ caps) w (fun r w' => r = v ∧ C w')) (k : QL P n ops C K rest ((d, v) :: L)) : QL P n ops C K (⟨some d, .call ⟨.value xo, ⟨xs⟩, at_⟩, ty, pos, af, g⟩ :: rest) L := by
  refine ⟨fun a ha => ?_⟩
  unfold wpQuiet
  rw [wantB_spec (o := ⟨some d, .call ⟨.value xo, ⟨xs⟩, at_⟩, ty, pos, af, g⟩) hg ha, if_pos rfl]
  refine ⟨v, fun w hw => ?_, k.run _ (ha.put hn v)⟩
  unfold Oper.quietAt
  rw [run_callV hf ho hx ha]
  refine ⟨rfl, Calls.mono (hc w hw).run ?_⟩
  rintro e w' ⟨u, rfl, rfl, hu⟩
  exact ⟨rfl, hu⟩
theorem ML_callV {wb : World} {K : Act → World → Prop} {tr : OTree} {HG : List (Nat × Obj)} {k : Nat} (f : FuncId) {d : Nat} {xs : List Operand} {vs caps : List Value} {v : Value} {at_ : Array TypeId} (h0 : ops[k]? = some ⟨some d, .call ⟨.value xo, ⟨xs⟩, at_⟩, ty, pos, af, g⟩) (hf : callB P f = true) (ho : opd L xo = some (.func (.func f) ⟨[]⟩ ⟨caps⟩)) (hx : opds L xs = some vs) (hg : wantB ops g L = some true) (hn : Nat.blt d n.1 = true) (hG : St wb NoneS HG w)
    (hc : ∀ w, St wb NoneS [] w → Cl P f (vs ++ caps) w (fun r w' => r = v ∧ St w NoneS [] w')) (k1 : ∀ w', St wb NoneS [] w' → ML P n ops wb K tr ((d, v) :: L) w') : ML P n ops wb K (.op k none tr) L w := by
  refine ⟨fun a ha => ⟨_, v, h0, .inl ⟨wantB_spec (o := ⟨some d, .call ⟨.value xo, ⟨xs⟩, at_⟩, ty, pos, af, g⟩) hg ha, fun w hw => ?_⟩, hG.nil, fun w' hw' => (k1 w' hw').run _ (ha.put hn v)⟩⟩
  unfold Oper.quietAt
  rw [run_callV hf ho hx ha]
  refine ⟨rfl, Calls.mono (hc w hw).run ?_⟩
  rintro e w' ⟨u, rfl, rfl, hu⟩
  exact ⟨rfl, hw.call0 hu⟩
/-- a closure is made: its captured values as they stand -/
theorem Ev_makeFunc {f : FuncId} {xs : List Operand} {vs : List Value} (hx : opds L xs = some vs) : Ev P L (.makeFunc (.func f) #[] ⟨xs⟩) ty w (.func (.func f) ⟨[]⟩ ⟨vs⟩) w := by
  refine ⟨fun n a ha _ _ _ _ => ?_⟩
  have hm := opds_spec hx ha
  have : (Array.map a.eval ⟨xs⟩) = ⟨vs⟩ := by rw [← hm]; simp
  simp [execOp, Instr.makeFunc, this]
end
end Go.Proofs.YtknfankadlokhaaGreatDoor

namespace Go.Proofs.YtknfankadlokhaaGreatDoor
open Go.RowKit
set_option linter.unusedVariables false
set_option linter.unusedSimpArgs false
set_option linter.unusedSectionVars false
section
variable {T : Tys} {P : Program} {n : Fz} {ops : Array Oper} {Q : Exit → Act → World → Prop} {L L' : Fr} {w w' w0 : World} {rest : List Oper} {ty t t' : TypeId} {xo yo zo : Operand}
  {Sx : Nat → Prop} {H : List (Nat × Obj)}

/-- an array's literal, as a value -/
theorem Ev_buildArr (hT : T.Ok P) {m e z : Nat} {zs vs : List Value} {parts : List (Nat × Operand)} {ps : List (Nat × Nat × Value)} (ht : asc T.arr t = some (m, e, z)) (hz : asc T.zero t = some (.agg ⟨zs⟩))
    (hp : evElems L z parts = some ps) (hv : laid zs ps = some vs) : Ev P L (.build t ⟨parts⟩) ty w (.agg ⟨vs⟩) w := by
  refine ⟨fun n a ha _ _ _ _ => ?_⟩
  obtain ⟨hu, j, hj, hjz⟩ := ok_arr hT ht
  obtain ⟨it, hit, hzz⟩ := ok_zero hT hz
  have hb : P.built t (parts.map fun x => (x.1, a.eval x.2)) = some ⟨vs⟩ := by
    simp only [Program.built, hit, hu, hzz, hj, Value.cells]
    rw [hjz]
    exact fill_laid _ ps zs vs (evElems_spec ha parts ps hp) hv
  have := run_build (P := P) w t ⟨parts.map fun x => (x.1, a.eval x.2)⟩ ⟨vs⟩ hb
  simp only [execOp]
  have e : (Array.map (fun (x : Nat × Operand) => (x.1, a.eval x.2)) ⟨parts⟩) = ⟨parts.map fun x => (x.1, a.eval x.2)⟩ := by simp
  rw [show (fun (x : Nat × Operand) => match x with | (i, x) => (i, a.eval x)) = (fun (x : Nat × Operand) => (x.1, a.eval x.2)) from rfl, e]
  simp only [Sem.run_bind, this, Result.andThen_ok, Sem.run_pure]
/-- an element of one cell, of an array that is a value -/
theorem Ev_arrIndex1 {i : Int} {k : IntKind} {cs : List Value} {v : Value} {m e : Nat} (hT : T.Ok P) (ht : asc T.arr t = some (m, e, 1)) (he : mem1 T.one e = true) (hx : opd L xo = some (.agg ⟨cs⟩)) (hy : opd L yo = some (.int k i)) (h0 : 0 ≤ i) (h1 : i < m)
    (hv : cs[i.toNat]? = some v) : Ev P L (.index t xo yo) ty w v w := by
  obtain ⟨hu, j, hj, hjz⟩ := ok_arr hT ht
  refine ⟨fun n c ha _ _ _ _ => ?_⟩
  simp only [execOp, ha.eval hx, ha.eval hy, Instr.index, asIntOf, Sem.run_bind, Sem.run_pure, Result.andThen_ok, run_underlying' hu]
  rw [if_pos ⟨h0, h1⟩]
  simp [part, run_sizeOf' hj, hjz, run_isAgg_no hT he, hv]
theorem eqIn_iface_nil {ms : Array (String × TypeId)} {tx : TypeId} {v : Value} (ht : P.underlying t = some (.interface ms)) (d : Nat) : (Op.equalIn (d + 2) t (.iface tx v) .nilIface).run P w = .ok false w := by
  simp only [Op.equalIn, Sem.run_bind, run_underlying' ht, Result.andThen_ok]; rfl
theorem eqIn_nilI_nil {ms : Array (String × TypeId)} (ht : P.underlying t = some (.interface ms)) (d : Nat) : (Op.equalIn (d + 2) t .nilIface .nilIface).run P w = .ok true w := by
  simp only [Op.equalIn, Sem.run_bind, run_underlying' ht, Result.andThen_ok]; rfl
theorem eqGuard_ifaceN (op : BinOp) (tx : TypeId) (v : Value) : eqGuard op t xo yo (.iface tx v) .nilIface = pure () := by cases op <;> rfl
theorem Ev_iface_nil_neq {ms : Array (String × TypeId)} {tx : TypeId} {v : Value} (ht : P.underlying t = some (.interface ms)) (hx : opd L xo = some (.iface tx v)) (hy : opd L yo = some .nilIface) : Ev P L (.binOp .neq t xo yo t') ty w (.bool true) w :=
  Ev_ne_of hx hy (eqGuard_ifaceN ..) rfl (eqIn_iface_nil ht)
/-- nil against the constant nil -/
theorem Ev_nilI_nil_neq {ms : Array (String × TypeId)} {c : Value} (ht : P.underlying t = some (.interface ms)) (hx : opd L xo = some .nilIface) (hy : opd L (.const c) = some .nilIface) : Ev P L (.binOp .neq t xo (.const c) t') ty w (.bool false) w :=
  Ev_ne_of hx hy (eqGuard_nil_constR ..) rfl (eqIn_nilI_nil ht)
/-- a slice of a slice -/
theorem Ev_sliceS (hT : T.Ok P) {e z y len cap : Nat} {a : Option Addr} {lo hi : Option Operand} {i j : Int} (ht : asc T.sl t = some (e, z, y)) (hx : opd L xo = some (.slice a len cap)) (hlo : bnd L lo 0 = some i) (hhi : bnd L hi len = some j)
    (h0 : 0 ≤ i) (h1 : i ≤ j) (h2 : j ≤ cap) : Ev P L (.slice t xo lo hi none) ty w (.slice (if cap = i.toNat then a else a.map (·.add (i.toNat * z))) (j.toNat - i.toNat) (cap - i.toNat)) w := by
  refine ⟨fun n c ha _ _ _ _ => ?_⟩
  obtain ⟨hu, d, hd, hz, _⟩ := ok_sl hT ht
  have hs := sliceBounds_spec (P := P) true hlo hhi ha h0 h1 h2 w
  simp only [execOp, ha.eval hx, Sem.run_bind, Instr.sliceAt, run_underlying' hu, Result.andThen_ok, Instr.slice, Option.map_none, hs, run_sizeOf' hd, hz, Sem.run_pure]
theorem SlAt.drop {w : World} {a : Option Addr} {cap z : Nat} {xs : List (List Value)} (h : SlAt w (.slice a xs.length cap) z xs) {i : Nat} (hi : i ≤ xs.length) (hc : xs.length ≤ cap) :
    SlAt w (.slice (if cap = i then a else a.map (·.add (i * z))) (xs.length - i) (cap - i)) z (xs.drop i) := by
  obtain ⟨a', cap', hv, h⟩ := h
  injection hv with e1 _ e2
  subst e1; subst e2
  refine ⟨_, _, by rw [List.length_drop], fun k x hx => ?_⟩
  rw [List.getElem?_drop] at hx
  have hl := (List.getElem?_eq_some_iff.1 hx).1
  obtain ⟨b, off, l, E, fz, rfl, hb, ht, hz⟩ := h _ x hx
  rw [if_neg (by omega)]
  have e : (Addr.add ⟨b, off, none⟩ (i * z)) = ⟨b, off + i * z, none⟩ := by
    simp only [Addr.add]; split
    · rename_i h; rw [h]; rfl
    · rfl
  refine ⟨b, off + i * z, l, E, fz, by rw [Option.map_some, e], hb, ?_, hz⟩
  rw [Nat.add_mul, ← Nat.add_assoc] at ht
  exact ht
end
end Go.Proofs.YtknfankadlokhaaGreatDoor

namespace Go.Proofs.YtknfankadlokhaaGreatDoor
open Go.RowKit
set_option linter.unusedVariables false
set_option linter.unusedSimpArgs false
set_option linter.unusedSectionVars false
section
variable {P : Program} {L : Fr} {w : World} {t t' ty : TypeId} {xo yo zo : Operand}
theorem Ev_struct_no {ks : List CK} {xs ys : List Value} (h : eqsB P (t, ks) = true) (hx : opd L xo = some (.agg ⟨xs⟩)) (hy : opd L yo = some (.agg ⟨ys⟩)) (hfx : fitK ks xs = true) (hfy : fitK ks ys = true) (hne : xs ≠ ys) :
    Ev P L (.binOp .eql t xo yo t') ty w (.bool false) w := by
  have := Ev_struct_eql (w := w) (ty := ty) (t' := t') h hx hy hfx hfy
  rwa [show @decide (xs = ys) (Classical.propDecidable _) = false from @decide_eq_false _ (Classical.propDecidable _) hne] at this
theorem Ev_struct_yes {ks : List CK} {xs : List Value} (h : eqsB P (t, ks) = true) (hx : opd L xo = some (.agg ⟨xs⟩)) (hy : opd L yo = some (.agg ⟨xs⟩)) (hfx : fitK ks xs = true) :
    Ev P L (.binOp .eql t xo yo t') ty w (.bool true) w := by
  have := Ev_struct_eql (w := w) (ty := ty) (t' := t') h hx hy hfx hfx
  rwa [show @decide (xs = xs) (Classical.propDecidable _) = true from @decide_eq_true _ (Classical.propDecidable _) rfl] at this
theorem Ev_struct_nyes {ks : List CK} {xs : List Value} (h : eqsB P (t, ks) = true) (hx : opd L xo = some (.agg ⟨xs⟩)) (hy : opd L yo = some (.agg ⟨xs⟩)) (hfx : fitK ks xs = true) :
    Ev P L (.binOp .neq t xo yo t') ty w (.bool false) w := by
  have := Ev_struct_neq (w := w) (ty := ty) (t' := t') h hx hy hfx hfx
  rwa [show @decide (xs ≠ xs) (Classical.propDecidable _) = false from @decide_eq_false _ (Classical.propDecidable _) (fun e => e rfl)] at this
theorem Ev_max3 {x y z : Int} {k : IntKind} {ts : Array TypeId} (hx : opd L xo = some (.int k x)) (hy : opd L yo = some (.int k y)) (hz : opd L zo = some (.int k z)) : Ev P L (.call ⟨.builtin .max, #[xo, yo, zo], ts⟩) ty w (.int k (max (max x y) z)) w := by
  refine ⟨fun n c ha _ _ _ _ => ?_⟩
  have e : (if y > x then y else x) = max x y := by omega
  have e2 : (if z > max x y then z else max x y) = max (max x y) z := by omega
  simp [execOp, resolve, invoke, builtin, Builtin.max_, Builtin.max2, ha.eval hx, ha.eval hy, ha.eval hz, e, e2]
end
end Go.Proofs.YtknfankadlokhaaGreatDoor

namespace Go.Proofs.YtknfankadlokhaaGreatDoor
open Go.RowKit
set_option linter.unusedVariables false
set_option linter.unusedSimpArgs false
section
variable {T : Tys} {P : Program} {n : Fz} {ops : Array Oper} {Q : Exit → Act → World → Prop} {L L' : Fr} {w w' w0 : World} {rest : List Oper} {ty t t' : TypeId} {tr tr2 : OTree} {k k2 : Nat}
  {Sx : Nat → Prop} {H : List (Nat × Obj)} {pos : String} {af : Array Edge} {g : Option (Nat × Bool)} {K : Act → World → Prop}
structure MT (P : Program) (n : Fz) (ops : Array Oper) (K : Act → World → Prop) (tr : OTree) (L : Fr) (w : World) : Prop where
  run : ∀ a, Fits n L a → wpTree P ops (fun _ => True) K tr a w
theorem W_mixT {id : Nat} {l : List Oper} (tr : OTree) (hT : T.Ok P) (hB : lexTB .any l.toArray tr = true) (hSt : St w0 Sx H w)
    (h : ∀ w1, St w0 Sx H w1 → MT P n l.toArray (fun a' w' => wpList P l.toArray (fun e a w => (∀ c, e ≠ .panic c) ∧ Q e a w) (l.drop tr.depth) a' w') tr L w1) : W P n (.region id l.toArray true) Q L w :=
  ⟨fun a ha => wp_region_mix tr hT.mixed hB ((h _ hSt.drew).run a ha)⟩
theorem MT_ev {d : Nat} {op : Op} {v : Value} (h0 : ops[k]? = some ⟨some d, op, ty, pos, af, g⟩) (hg : wantB ops g L = some true) (hn : Nat.blt d n.1 = true) (h : ∀ w', Ev P L op ty w' v w') (k1 : MT P n ops K tr ((d, v) :: L) w) : MT P n ops K (.op k (some false) tr) L w := by
  refine ⟨fun a ha => ⟨_, v, h0, .inl ⟨wantB_spec (o := ⟨some d, op, ty, pos, af, g⟩) hg ha, fun w' _ => (h w').run n a ha _ _ _ _⟩, trivial, k1.run _ (ha.put hn v)⟩⟩
def TK (P : Program) (ops : Array Oper) (K : Act → World → Prop) (tr : OTree) : Exit → Act → World → Prop := fun e a' w' => e = .normal ∧ True ∧ wpTree P ops (fun _ => True) K tr a' w'
theorem MT_one {o : Oper} (h0 : ops[k]? = some o) (h : WL P n ops (TK P ops K tr) [o] L w) : MT P n ops K (.op k (some true) tr) L w := ⟨fun a ha => ⟨o, h0, h.run a ha⟩⟩
theorem MT_fork (h1 : MT P n ops K (.op k (some true) tr) L w) (h2 : MT P n ops K (.op k2 (some true) tr2) L w) : MT P n ops K (.fork k tr k2 tr2) L w := ⟨fun a ha => ⟨h1.run a ha, h2.run a ha⟩⟩
theorem At_oneT (h : MT P n ops K tr L w) : At n (TK P ops K tr) .normal L w := ⟨fun a ha => ⟨rfl, trivial, h.run a ha⟩⟩
theorem MT_end {Q' : Exit → Act → World → Prop} {l : List Oper} (h : WL P n ops Q' l L w) : MT P n ops (fun a' w' => wpList P ops Q' l a' w') .done L w := ⟨fun a ha => h.run a ha⟩
end
end Go.Proofs.YtknfankadlokhaaGreatDoor

namespace Go.Proofs.YtknfankadlokhaaGreatDoor
open Go.RowKit
set_option linter.unusedVariables false
set_option linter.unusedSimpArgs false
set_option linter.unusedSectionVars false
section
variable {P : Program} {ops : Array Oper} {md : Region.Mode} {S : World → Prop} {Q : Exit → Act → World → Prop}
/-- an order of one's own: a read, one operation that must be next, or one of several -/
inductive NTree where
  | done
  | op (k : Nat) (b : Bool) (t : NTree)
  | alt (k : Nat) (t : NTree) (r : NTree)
def NTree.depth : NTree → Nat
  | .done => 0
  | .op _ _ t => t.depth + 1
  | .alt _ t _ => t.depth + 1
def NTree.keys : NTree → List Nat
  | .done => []
  | .op k b _ => if b then [k] else []
  | .alt k _ r => k :: r.keys
def NTree.kds : NTree → List (Nat × Option Bool)
  | .done => []
  | .op k b t => (k, some b) :: t.kds
  | .alt k t _ => (k, some true) :: t.kds
def lexN (md : Region.Mode) (ops : Array Oper) (ks : List (Nat × Option Bool)) (g n : Nat) : NTree → Bool → Array Bool → Bool
  | .done, _, listed => Region.seqB md ops g n listed
  | .op k b t, inch, listed => decide (k < n) && decide (kdOf ks k = some b) && (if b then (inch || decide (Region.ready md ops listed = [k])) else (Region.ready md ops listed).contains k && Region.free md ops listed k)
    && lexN md ops ks g n t false (listed.setIfInBounds k true)
  | .alt k t r, inch, listed => decide (k < n) && decide (kdOf ks k = some true) && decide (t.depth + 1 = r.depth) && (inch || decide (Region.ready md ops listed = k :: r.keys))
    && lexN md ops ks g n t false (listed.setIfInBounds k true) && lexN md ops ks g n r true listed
def lexNB (md : Region.Mode) (ops : Array Oper) (t : NTree) : Bool :=
  Region.noSelect ops && decide (t.depth < ops.size) && Region.sinkB md ops t.depth && Region.chainB md ops t.depth && lexN md ops t.kds (ops.size - t.depth) t.depth t false (Array.replicate ops.size false)
def wpTreeN (P : Program) (ops : Array Oper) (S : World → Prop) (K : Act → World → Prop) : NTree → Act → World → Prop
  | .done, a, w => K a w
  | .op k true t, a, w => impT P ops S k (wpTreeN P ops S K t) a w
  | .op k false t, a, w => ∃ o v, ops[k]? = some o ∧ YieldsIf P ops S o v a ∧ S w ∧ wpTreeN P ops S K t (a.put o.dst v) w
  | .alt k t r, a, w => impT P ops S k (wpTreeN P ops S K t) a w ∧ wpTreeN P ops S K r a w
section
variable {ks : List (Nat × Option Bool)} {n g : Nat} {K : Act → World → Prop} (hsel : Region.noSelect ops = true) (hs : Region.sinkB md ops n = true) (hc : Region.chainB md ops n = true) (hn : n < ops.size) (hQ : ∀ c a w, ¬ Q (.panic c) a w)
include hsel hs hc hn hQ
theorem wpAnyH_lexN : ∀ (t : NTree),
    (∀ (listed : Array Bool) (a : Act) (w : World), HeadInv md ops n listed → lexN md ops ks g n t false listed = true → wpTreeN P ops S K t a w →
      wpAnyH P md ops Q S (kdOf ks) n (fun listed' a' w' => Region.seqB md ops g n listed' = true ∧ K a' w') t.depth listed a w) ∧
    (∀ (listed : Array Bool) (a : Act) (w : World), HeadInv md ops n listed → (∀ i ∈ t.keys, i ∈ Region.ready md ops listed) → lexN md ops ks g n t true listed = true → wpTreeN P ops S K t a w →
      ∀ i ∈ t.keys, i < n ∧ stepH P ops S Q (kdOf ks i) i (fun a' w' => S w' ∧ wpAnyH P md ops Q S (kdOf ks) n (fun listed' a' w' => Region.seqB md ops g n listed' = true ∧ K a' w') (t.depth - 1) (listed.setIfInBounds i true) a' w') a w)
  | .done => ⟨fun listed a w inv hB h => ⟨by simpa [lexN] using hB, h⟩, fun listed a w inv hr hB h i hi => by simp [NTree.keys] at hi⟩
  | .op k b t => by
    have iht := wpAnyH_lexN t
    refine ⟨fun listed a w inv hB h => ?_, fun listed a w inv hr hB h i hi => ?_⟩
    · simp only [lexN, Bool.and_eq_true, decide_eq_true_eq] at hB
      obtain ⟨⟨⟨hkn, hkd⟩, hb⟩, hB'⟩ := hB
      cases b with
      | false =>
        simp only [Bool.false_eq_true, if_false, Bool.and_eq_true] at hb
        have hr : k ∈ Region.ready md ops listed := by simpa using hb.1
        obtain ⟨o, v, h0, hy, hS, h'⟩ := h
        exact wpAnyH_pure h0 (Region.noSelect_spec hsel) hs hc hn hkn hQ (fun listed' a' w' hL => seqB_ready hL.1) hkd t.depth listed a w inv (Region.free_spec h0 hb.2) hr hy hS (iht.1 _ _ _ (inv.set hr hkn) hB' h')
      | true =>
        have hr : Region.ready md ops listed = [k] := by simpa using hb
        have hr' : k ∈ Region.ready md ops listed := by rw [hr]; simp
        refine ⟨by rw [hr]; simp, fun i hi => ?_⟩
        rw [hr] at hi
        have : i = k := by simpa using hi
        subst this
        refine ⟨hkn, ?_⟩
        rw [hkd]
        simp only [stepH]
        simp only [wpTreeN] at h
        exact h.wpOp (fun a w h' => iht.1 _ _ _ (inv.set hr' hkn) hB' h')
    · simp only [lexN, Bool.and_eq_true, decide_eq_true_eq] at hB
      obtain ⟨⟨⟨hkn, hkd⟩, hb⟩, hB'⟩ := hB
      cases b with
      | false => simp [NTree.keys] at hi
      | true =>
        have : i = k := by simpa [NTree.keys] using hi
        subst this
        have hr' := hr i hi
        refine ⟨hkn, ?_⟩
        rw [hkd]
        simp only [stepH]
        simp only [wpTreeN] at h
        exact h.wpOp (fun a w h' => iht.1 _ _ _ (inv.set hr' hkn) hB' h')
  | .alt k t r => by
    have iht := wpAnyH_lexN t
    have ihr := wpAnyH_lexN r
    have key : ∀ (listed : Array Bool) (a : Act) (w : World), HeadInv md ops n listed → (∀ i ∈ k :: r.keys, i ∈ Region.ready md ops listed) → k < n → kdOf ks k = some true → t.depth + 1 = r.depth → lexN md ops ks g n t false (listed.setIfInBounds k true) = true → lexN md ops ks g n r true listed = true → wpTreeN P ops S K (.alt k t r) a w →
        ∀ i ∈ k :: r.keys, i < n ∧ stepH P ops S Q (kdOf ks i) i (fun a' w' => S w' ∧ wpAnyH P md ops Q S (kdOf ks) n (fun listed' a' w' => Region.seqB md ops g n listed' = true ∧ K a' w') t.depth (listed.setIfInBounds i true) a' w') a w := by
      intro listed a w inv hr hkn hkd hdep hB1 hB2 h i hi
      simp only [wpTreeN] at h
      by_cases hik : i = k
      · subst hik
        refine ⟨hkn, ?_⟩
        rw [hkd]
        simp only [stepH]
        exact h.1.wpOp (fun a w h' => iht.1 _ _ _ (inv.set (hr _ List.mem_cons_self) hkn) hB1 h')
      · have hir : i ∈ r.keys := (List.mem_cons.1 hi).resolve_left hik
        have := ihr.2 listed a w inv (fun j hj => hr j (List.mem_cons_of_mem _ hj)) hB2 h.2 i hir
        rw [show r.depth - 1 = t.depth by omega] at this
        exact this
    refine ⟨fun listed a w inv hB h => ?_, fun listed a w inv hr hB h i hi => ?_⟩
    · simp only [lexN, Bool.and_eq_true, decide_eq_true_eq, Bool.false_or] at hB
      obtain ⟨⟨⟨⟨⟨hkn, hkd⟩, hdep⟩, hrd⟩, hB1⟩, hB2⟩ := hB
      refine ⟨by rw [hrd]; simp, fun i hi => ?_⟩
      rw [hrd] at hi
      exact key listed a w inv (fun j hj => by rw [hrd]; exact hj) hkn hkd hdep hB1 hB2 h i hi
    · simp only [lexN, Bool.and_eq_true, decide_eq_true_eq, Bool.true_or] at hB
      obtain ⟨⟨⟨⟨⟨hkn, hkd⟩, hdep⟩, _⟩, hB1⟩, hB2⟩ := hB
      exact key listed a w inv hr hkn hkd hdep hB1 hB2 h i hi
end
theorem wp_region_N {id : Nat} {a : Act} {w : World} {l : List Oper} (t : NTree) (hm : P.follows .mixedOrders = true) (hB : lexNB .any l.toArray t = true)
    (h : wpTreeN P l.toArray S (fun a' w' => wpList P l.toArray (fun e a w => (∀ c, e ≠ .panic c) ∧ Q e a w) (l.drop t.depth) a' w') t a { w with drawn := w.drawn + 1 }) : (Code.region id l.toArray true).wp P Q a w := by
  refine wp_mono (Q := fun e a w => (∀ c, e ≠ .panic c) ∧ Q e a w) ?_ (fun e a w hq => hq.2)
  simp only [lexNB, Bool.and_eq_true, decide_eq_true_eq] at hB
  obtain ⟨⟨⟨⟨hsel, hn⟩, hs⟩, hc⟩, hlex⟩ := hB
  have hdl : (l.drop t.depth).length = l.toArray.size - t.depth := by simp
  have inv0 : HeadInv .any l.toArray t.depth (Array.replicate l.toArray.size false) :=
    ⟨by simp, fun j oj _ hl => (by rw [getD_replicate_false] at hl; cases hl), fun t _ ht => getD_in (by simpa using ht) (getD_replicate_false _ _)⟩
  have H := (wpAnyH_lexN (P := P) (S := S) (md := .any) (ks := t.kds) (g := l.toArray.size - t.depth) (Q := fun e a w => (∀ c, e ≠ .panic c) ∧ Q e a w) hsel hs hc hn (fun c a w hq => hq.1 c rfl) t).1 _ a _ inv0 hlex h
  refine wp_region_any hm ?_
  have := wpAny_of_headH (g := l.toArray.size - t.depth) (fun listed a' w' hL => by
    have := wpAny_of_seq (md := .any) (Q' := fun e a w => (∀ c, e ≠ .panic c) ∧ Q e a w) (l.drop t.depth) t.depth listed a' w' (fun j => by simp [List.getElem?_drop]) (by rw [hdl]; exact hL.1) hL.2
    rwa [hdl] at this) _ _ _ _ H
  have hsz : t.depth < l.toArray.size := hn
  rw [show t.depth + (l.toArray.size - t.depth) = l.toArray.size by omega] at this
  exact this
end
section
variable {T : Tys} {P : Program} {n : Fz} {ops : Array Oper} {Q : Exit → Act → World → Prop} {L L' : Fr} {w w' w0 : World} {rest : List Oper} {ty t t' : TypeId} {tr tr2 : NTree} {k k2 : Nat}
  {Sx : Nat → Prop} {H : List (Nat × Obj)} {pos : String} {af : Array Edge} {g : Option (Nat × Bool)} {K : Act → World → Prop} {S : World → Prop}
structure MN (P : Program) (n : Fz) (ops : Array Oper) (S : World → Prop) (K : Act → World → Prop) (tr : NTree) (L : Fr) (w : World) : Prop where
  run : ∀ a, Fits n L a → wpTreeN P ops S K tr a w
theorem W_mixN {id : Nat} {l : List Oper} (tr : NTree) (S : World → Prop) (hT : T.Ok P) (hB : lexNB .any l.toArray tr = true) (hSt : St w0 Sx H w)
    (h : ∀ w1, St w0 Sx H w1 → MN P n l.toArray S (fun a' w' => wpList P l.toArray (fun e a w => (∀ c, e ≠ .panic c) ∧ Q e a w) (l.drop tr.depth) a' w') tr L w1) : W P n (.region id l.toArray true) Q L w :=
  ⟨fun a ha => wp_region_N tr hT.mixed hB ((h _ hSt.drew).run a ha)⟩
theorem MN_ev {d : Nat} {op : Op} {v : Value} (h0 : ops[k]? = some ⟨some d, op, ty, pos, af, g⟩) (hg : wantB ops g L = some true) (hn : Nat.blt d n.1 = true) (hS : S w) (h : ∀ w', S w' → Ev P L op ty w' v w') (k1 : MN P n ops S K tr ((d, v) :: L) w) : MN P n ops S K (.op k false tr) L w := by
  refine ⟨fun a ha => ⟨_, v, h0, .inl ⟨wantB_spec (o := ⟨some d, op, ty, pos, af, g⟩) hg ha, fun w' hw => (h w' hw).run n a ha _ _ _ _⟩, hS, k1.run _ (ha.put hn v)⟩⟩
def NK (P : Program) (ops : Array Oper) (S : World → Prop) (K : Act → World → Prop) (tr : NTree) : Exit → Act → World → Prop := fun e a' w' => e = .normal ∧ S w' ∧ wpTreeN P ops S K tr a' w'
theorem MN_one {o : Oper} (h0 : ops[k]? = some o) (h : WL P n ops (NK P ops S K tr) [o] L w) : MN P n ops S K (.op k true tr) L w := ⟨fun a ha => ⟨o, h0, h.run a ha⟩⟩
theorem MN_alt {o : Oper} (h0 : ops[k]? = some o) (h1 : WL P n ops (NK P ops S K tr) [o] L w) (h2 : MN P n ops S K tr2 L w) : MN P n ops S K (.alt k tr tr2) L w := ⟨fun a ha => ⟨⟨o, h0, h1.run a ha⟩, h2.run a ha⟩⟩
theorem At_oneN (hS : S w) (h : MN P n ops S K tr L w) : At n (NK P ops S K tr) .normal L w := ⟨fun a ha => ⟨rfl, hS, h.run a ha⟩⟩
theorem MN_end {Q' : Exit → Act → World → Prop} {l : List Oper} (h : WL P n ops Q' l L w) : MN P n ops S (fun a' w' => wpList P ops Q' l a' w') .done L w := ⟨fun a ha => h.run a ha⟩
end
end Go.Proofs.YtknfankadlokhaaGreatDoor

namespace Go.Proofs.YtknfankadlokhaaGreatDoor
open Go.RowKit Go.ChangeShapes Go.WideShapes Go.Deep
set_option linter.unusedVariables false
set_option linter.unusedSimpArgs false

theorem returns_of_laid {H : Type} {enc : TypeId × Value → H} {a : Assume} {C : Checked} {os : Os} {f : FuncId} {fn : Func} {s : ChangeSpec} {conds : List PathCond} {apart fresh handsOn again : Bool} {L : List (String × DataW Unit)}
    (own : ownKnob C.prog.godebug = none) (started : os.Started) (noInit : C.prog.inits.idxOf? f = none) (hfn : C.prog.funcs[f]? = some fn)
    (witness : ∃ (w : World) (tape : Tape) (i : Input), w.os = os ∧ (w.forCall tape i).Shaped C.prog ∧ i.vars = [] ∧ Input.okWide C.prog (w.forCall tape i) .any w.heap.size f i ∧
      ((s.pre enc C.prog fn conds apart (w.forCall tape i).memory i.args ∧ laidMetH C.prog L (w.forCall tape i).memory) ∧ sizedMet enc C.prog fn (OpenSpec.ofChange s) apart (w.forCall tape i).memory i.args) ∧ a.holds C.prog (lone (Frame.enter C.prog f i.args .normal) [] (w.forCall tape i)))
    (contract : ∀ (W : World) (base : Nat) (args : Array Value) (ds gs : List (DataW H)) (before : List MemPlace), W.ShapedOpen C.prog →
      (∀ (j : Nat) t v, fn.params[j]? = some t → args[j]? = some v → Value.okWide C.prog W .any base t v) →
      DataW.Whole enc C.prog fn.params.toList s.vars apart W args.toList ds gs before →
      conds.all (PathCond.test C.prog ⟨fn.params.toList, ds, s.plain.varTypes C.prog, gs⟩) = true →
      (DataW.weightsEach C.prog (fn.params.toList ++ s.plain.varTypes C.prog) (ds ++ gs)).all (· ≤ reachBytes) = true → laidMetH C.prog L W →
      a.holds C.prog (lone (Frame.enter C.prog f args .normal) [] W) →
      Calls C.prog f args W fun e W' => ∃ v, e = .returned v ∧ s.post enc C.prog fn apart fresh handsOn again W args v W') :
    ReturnsInHanded a C os f .any (fun w args => (s.pre enc C.prog fn conds apart w args ∧ laidMetH C.prog L w) ∧ sizedMet enc C.prog fn (OpenSpec.ofChange s) apart w args) (s.post enc C.prog fn apart fresh handsOn again) := by
  refine returnsInHanded_of_calls own started noInit witness ?_
  intro w tape i _ hsh _ hok hpre hholds
  obtain ⟨_, _, _, fn', hfn', _, _, _, _, hval⟩ := hok
  have e : fn' = fn := Option.some.inj (hfn'.symm.trans hfn)
  subst e
  obtain ⟨⟨⟨ds, gs, before, hw, hc⟩, hx⟩, hz⟩ := hpre
  have hw' := DataW.Whole.of_heap (w' := w.forCall tape i) (by rfl) hw
  refine (contract (w.forCall tape i) w.heap.size i.args ds gs before hsh hval hw' hc (hz.weights hw) (hx.of_heap (by rfl)) hholds).mono fun e W' ⟨v, he, hp⟩ => ?_
  subst he
  exact ChangeSpec.post_blind hp
/-- a variable of one number holds some number -/
theorem int_of_shape {P : Program} {w : World} {g : Nat} {t : TypeId} {k : IntKind} {zero : Array Value} (h : w.ShapedOpen P) (hg : g < P.globals.size)
    (h0 : ((begin P (fun _ _ => 0) default).world.heap[g]?).bind Obj.row? = some (zero, t)) (hz : zero.size = 1)
    (hb : P.buildable t = true) (hc : P.cellTypes P.depth t = some [t]) (hu : P.underlying t = some (.int k)) : ∃ (n : Int) (fz : Nat × Nat), w.heap[g]? = some (.cells ⟨[.int k n]⟩ t fz) := by
  obtain ⟨cs, hh, hs, hr⟩ := h.1 g zero t hg h0
  obtain ⟨ts, hts, _, hall⟩ := hr hb
  rw [hc] at hts
  cases hts
  obtain ⟨l⟩ := cs
  have hs1 : l.length = 1 := by simpa [hz] using hs
  match l, hs1 with
  | [c], _ =>
    obtain ⟨u, hu', hok⟩ := hall 0 c rfl
    have : u = t := by simpa using hu'.symm
    subst this
    unfold Cell.ok at hok
    rw [hu] at hok
    cases c with
    | int k' n => obtain ⟨rfl, _⟩ := hok; exact ⟨n, _, hh⟩
    | _ => exact absurd hok (by simp)
/-- rows of two -/
theorem pairs_flat {α : Type} {f : α → List Value} : ∀ (ds : List α) (cs : List Value), (∀ a, (f a).length = 2) → cs.length = 2 * ds.length → (∀ (i : Nat) (d : α), ds[i]? = some d → (cs.drop (i * 2)).take 2 = f d) → cs = ds.flatMap f
  | [], cs, _, hl, _ => by simpa using hl
  | d :: ds, cs, hf, hl, h => by
    have h0 := h 0 d rfl
    rw [Nat.zero_mul, List.drop_zero] at h0
    have ih := pairs_flat ds (cs.drop 2) hf (by rw [List.length_drop, hl, List.length_cons]; omega) (fun i x hx => by
      have := h (i + 1) x (by simpa using hx)
      rw [List.drop_drop]
      rwa [show (i + 1) * 2 = 2 + i * 2 by omega] at this)
    rw [List.flatMap_cons, ← ih, ← h0, List.take_append_drop]
/-- a table of pairs of numbers is laid out pair by pair -/
theorem trod_pairs {P : Program} {H : Type} {enc : TypeId × Value → H} {w : World} {base : Nat} {sp : Nat → Bool} {held : Bool} {fuel : Nat} {t e : TypeId} {n : Nat} {f0 f1 : Field} {k : IntKind} {cs : List Value} {p : List MemPlace} {ds : List (Int × Int)}
    (ht : P.underlying t = some (.array n e)) (he : P.underlying e = some (.struct #[f0, f1])) (ho : f0.offset = 0 ∧ f1.offset = 1) (hk0 : P.underlying f0.type = some (.int k)) (hk1 : P.underlying f1.type = some (.int k))
    (hc : P.cellsOf f0.type = 1 ∧ P.cellsOf f1.type = 1) (he2 : P.cellsOf e = 2) (hct : P.cellsOf t = 2 * n)
    (h : DataW.trod enc P w base sp held fuel t cs = some (.agg (ds.map fun d => .agg [.lit (.int k d.1), .lit (.int k d.2)]), p)) : cs = ds.flatMap fun d => [.int k d.1, .int k d.2] := by
  obtain ⟨xs, m, _, ex, hl, hxl, hel⟩ := DataW.trod_array ht h
  simp only [Prod.mk.injEq, DataW.agg.injEq] at ex
  have hdl : ds.length = n := by
    have := congrArg List.length ex.1
    simpa [hxl] using this
  refine pairs_flat ds cs (fun _ => rfl) (by omega) (fun i d hd => ?_)
  have hi : i < n := by rw [← hdl]; exact (List.getElem?_eq_some_iff.1 hd).1
  have hE := hel i hi
  rw [he2, List.getElem?_eq_getElem (by omega)] at hE
  obtain ⟨y0, y1, m2, hx, hcl, h0, h1⟩ := trod_struct2 he hE
  have e1 : (xs.map (·.1))[i]? = (ds.map fun d => (DataW.agg [.lit (.int k d.1), .lit (.int k d.2)] : DataW H))[i]? := by rw [ex.1]
  rw [List.getElem?_map, List.getElem?_map, List.getElem?_eq_getElem (by omega : i < xs.length), hd, hx] at e1
  simp only [Option.map_some, Option.some.injEq, DataW.agg.injEq, List.cons.injEq, and_true] at e1
  rw [ho.1, hc.1] at h0
  rw [ho.2, hc.2] at h1
  obtain ⟨z0, a1, a2, _⟩ := DataW.trod_int hk0 h0
  obtain ⟨z1, b1, b2, _⟩ := DataW.trod_int hk1 h1
  subst a2; subst b2
  have q0 : z0 = d.1 := by simpa using e1.1
  have q1 : z1 = d.2 := by simpa using e1.2
  subst q0; subst q1
  have hlen : ((cs.drop (i * 2)).take 2).length = 2 := hcl.trans he2
  generalize (cs.drop (i * 2)).take 2 = l at *
  match l, hlen with
  | [c0, c1], _ =>
    simp at a1 b1
    rw [a1, b1]
end Go.Proofs.YtknfankadlokhaaGreatDoor

namespace Go.Proofs.YtknfankadlokhaaGreatDoor
open Go.RowKit
set_option linter.unusedVariables false
set_option linter.unusedSimpArgs false
theorem Ev_auto {P : Program} {L : Fr} {op : Op} {ty : TypeId} {w w' : World} {v : Value} (h : Ev P L op ty w v w' := by (first | exact Ev_move rfl | exact Ev_assign rfl | exact Ev_nilCheck rfl | exact Ev_fieldAddr hT rfl rfl | exact Ev_load1 hT rfl rfl (hSt.at 0 rfl) rfl | exact Ev_load1 hT rfl rfl (hSt.at 1 rfl) rfl | exact Ev_load1 hT rfl rfl (hSt.at 2 rfl) rfl | exact Ev_load1 hT rfl rfl (hSt.at 3 rfl) rfl | exact Ev_loadN hT rfl rfl (hSt.at 0 rfl) rfl rfl | exact Ev_loadN hT rfl rfl (hSt.at 1 rfl) rfl rfl | exact Ev_loadN hT rfl rfl (hSt.at 2 rfl) rfl rfl | exact Ev_loadN hT rfl rfl (hSt.at 3 rfl) rfl rfl | exact Ev_pickT rfl rfl | exact Ev_pickF rfl rfl | exact Ev_eql rfl rfl | exact Ev_neq rfl rfl | exact Ev_lss rfl rfl | exact Ev_leq rfl rfl | exact Ev_gtr rfl rfl | exact Ev_geq rfl rfl | exact Ev_add rfl rfl (by omega) | exact Ev_sub rfl rfl (by omega) | exact Ev_len_str rfl hT rfl | exact Ev_len_slice hT rfl rfl | exact Ev_extract rfl rfl | exact Ev_notP rfl | exact Ev_not rfl | exact Ev_str_eql rfl rfl | exact Ev_str_neq rfl rfl | exact Ev_min rfl rfl | exact Ev_max rfl rfl | exact Ev_some_nil_eql (ok_ptr hT rfl) rfl rfl | exact Ev_some_nil_neq (ok_ptr hT rfl) rfl rfl | exact Ev_nil_nil_eql (ok_ptr hT rfl) rfl rfl | exact Ev_nil_nil_neq (ok_ptr hT rfl) rfl rfl | exact Ev_str_slice hT rfl rfl rfl rfl (by omega) (by omega) (by omega) | exact Ev_str_add rfl rfl (by omega) | exact Ev_conv_in hT rfl rfl rfl (inI (by omega) (by omega)) | exact Ev_build hT rfl rfl rfl rfl rfl (ok_stc hT rfl) | exact Ev_addw rfl rfl | exact Ev_beql rfl rfl (ok_boo hT rfl) | exact Ev_bneq rfl rfl (ok_boo hT rfl) | exact Ev_indexAddr hT rfl rfl rfl (by omega) (by omega) | exact Ev_remP rfl rfl (by omega) (by omega) | exact Ev_struct_eql (ok_eq rfl) rfl rfl rfl rfl | exact Ev_struct_neq (ok_eq rfl) rfl rfl rfl rfl | exact Ev_map_nil_eql (ok_map rfl) rfl rfl | exact Ev_quo rfl rfl (by omega) (by omega) (by omega) | exact Ev_mul rfl rfl (by omega) | exact Ev_slice_nil_eql hT rfl rfl rfl | exact Ev_slice_nil_neq hT rfl rfl rfl)) : Ev P L op ty w v w' := h
theorem absA {G : Prop} (h : False := by first | omega | contradiction | exact of_dec hc rfl | exact hc rfl | (simp at hc <;> fail)) : G := h.elim
theorem stepA {p q : Prop} (h : q) (k : q → p := by intro h; (first | exact W_seq h | exact W_block h | exact W_region h | exact WL_nil h | exact W_true rfl h | exact W_false rfl h | exact W_skip h | exact W_exit h | exact W_ret h | exact W_goto h | exact W_label h | exact At_calm h | exact At_then_normal h | exact At_then h | exact At_then_ret h | exact At_in_normal h | exact At_in_ret h | exact At_in_hit h | exact At_in_miss rfl h | exact At_jump_normal h | exact At_jump_ret h | exact At_jump_exit h | exact At_then_goto h | exact At_in_goto h | exact WL_ev rfl rfl Ev_auto h | exact WL_pass rfl rfl h | exact WL_pass0 rfl h | exact ret0' rfl h | fail)) : p := k h
theorem stepS {p q : Prop} (h : q) (k : q → p := by intro h; (first | exact WL_store1 hT rfl rfl 0 rfl rfl hSt rfl rfl rfl h | exact WL_store1 hT rfl rfl 1 rfl rfl hSt rfl rfl rfl h | exact WL_store1 hT rfl rfl 2 rfl rfl hSt rfl rfl rfl h | exact WL_store1 hT rfl rfl 3 rfl rfl hSt rfl rfl rfl h | exact WL_storeN hT rfl rfl 0 rfl rfl hSt rfl rfl rfl rfl h | exact WL_storeN hT rfl rfl 1 rfl rfl hSt rfl rfl rfl rfl h | exact WL_storeN hT rfl rfl 2 rfl rfl hSt rfl rfl rfl rfl h | exact WL_storeN hT rfl rfl 3 rfl rfl hSt rfl rfl rfl rfl h | fail)) : p := k h
theorem stepB {p q : Prop} (h : q) (k : q → p := by intro h; (first | exact WL_box rfl rfl rfl hSt h | exact WL_alloc hT rfl rfl rfl hSt h | fail)) : p := k h
theorem stepG {p a b : Prop} (h1 : a) (h2 : b) (k : a → b → p := by intro h1 h2; (first | exact WL_guardP rfl rfl h1 h2 | exact WL_guard rfl rfl h1 h2 | exact W_if rfl h1 h2 | exact W_cond rfl h1 h2 | fail)) : p := k h1 h2
end Go.Proofs.YtknfankadlokhaaGreatDoor

namespace Go.Proofs.YtknfankadlokhaaGreatDoor
open Go.RowKit
set_option linter.unusedVariables false
set_option linter.unusedSimpArgs false

/-- one panic with a value, not recovered -/
abbrev pan (v : Value) : List PanicEntry := [{ v := v, recovered := false }]
/-- what a call promises that returns, or panics -/
abbrev RP (R Rp : Value → World → Prop) : Ending → World → Prop := fun e w' => (∃ v, e = .returned v ∧ R v w') ∨ ∃ v, e = .panicked (pan v) ∧ Rp v w'
structure Cp (P : Program) (f : FuncId) (vs : List Value) (w : World) (R Rp : Value → World → Prop) : Prop where
  run : Calls P f ⟨vs⟩ w (RP R Rp)
theorem Cp.mono {P : Program} {f : FuncId} {vs : List Value} {w : World} {R Rp R' Rp' : Value → World → Prop} (h : Cp P f vs w R Rp) (h1 : ∀ v w', R v w' → R' v w') (h2 : ∀ v w', Rp v w' → Rp' v w') : Cp P f vs w R' Rp' :=
  ⟨Calls.mono h.run fun e w' he => he.imp (fun ⟨v, a, b⟩ => ⟨v, a, h1 v w' b⟩) (fun ⟨v, a, b⟩ => ⟨v, a, h2 v w' b⟩)⟩
section
variable {T : Tys} {P : Program} {n : Fz} {ops : Array Oper} {Q : Exit → Act → World → Prop} {L L' : Fr} {w w' w0 : World} {rest : List Oper} {ty t t' : TypeId} {c x y : Code} {pos : String} {af : Array Edge} {g : Option (Nat × Bool)} {m m9 : Nat}
theorem enterP {f : FuncId} {fn : Func} {vs : List Value} {R Rp : Value → World → Prop} (hf : P.funcs[f]? = some fn) (hb : fn.body = some c) (hn : fn.ntmps = m) (hl : Nat.ble vs.length m = true)
    (h : W P (m, []) c (bodyPost P fn (RP R Rp)) (frOf 0 vs) w) : Cp P f vs w R Rp := by
  have hl' : vs.length ≤ m := by simpa [Nat.ble_eq] using hl
  refine ⟨calls_of_wp hf hb (h.run _ ⟨?_, rfl, ?_⟩)⟩
  · simp [hn]; omega
  · intro i v hi
    obtain ⟨_, h2⟩ := frOf_look vs 0 i v hi
    have hlt : i < vs.length := by have := (List.getElem?_eq_some_iff.1 h2).1; simpa using this
    simp only [Nat.sub_zero] at h2
    rw [Array.getElem?_append]
    simp [hlt]
    exact (List.getElem?_eq_some_iff.1 h2).2
/-- an ending that returns, among those that may panic -/
theorem retP {fn : Func} {R Rp : Value → World → Prop} {e : Exit} (h : At (m9, []) (bodyPost P fn (fun e w' => ∃ v, e = .returned v ∧ R v w')) .ret L w) : At (m9, []) (bodyPost P fn (RP R Rp)) .ret L w :=
  ⟨fun a ha => by obtain ⟨h1, v, h2, h3⟩ := h.run a ha; exact ⟨h1, v, h2, .inl h3⟩⟩
theorem retP' {fn : Func} {R Rp : Value → World → Prop} {e : Exit} (h : At (m9, []) (bodyPost P fn (fun e w' => ∃ v, e = .returned v ∧ R v w')) .normal L w) : At (m9, []) (bodyPost P fn (RP R Rp)) .normal L w :=
  ⟨fun a ha => by obtain ⟨h1, v, h2, h3⟩ := h.run a ha; exact ⟨h1, v, h2, .inl h3⟩⟩
theorem panP {fn : Func} {R Rp : Value → World → Prop} {v : Value} (h : Rp v w) : At (m9, []) (bodyPost P fn (RP R Rp)) (.panic (pan v)) L w :=
  ⟨fun a ha => ⟨ha.defers, .inr ⟨v, rfl, h⟩⟩⟩
theorem At_then_panic {K : Act → World → Prop} {ch : List PanicEntry} (h : At n Q (.panic ch) L w) : At n (Exit.then K Q) (.panic ch) L w := ⟨h.run⟩
theorem At_in_panic {id : Nat} {ch : List PanicEntry} (h : At n Q (.panic ch) L w) : At n (Exit.inBlock id Q) (.panic ch) L w := ⟨h.run⟩
theorem WL_panic {xo : Operand} {v : Value} {tp : TypeId} {dst : Option Tmp} (hx : opd L xo = some (.iface tp v)) (hg : wantB ops g L = some true) (h : At n Q (.panic (pan (.iface tp v))) L w) : WL P n ops Q (⟨dst, .panic xo, ty, pos, af, g⟩ :: rest) L w := by
  refine ⟨fun a ha => ?_⟩
  unfold wpList
  rw [wantB_spec (o := ⟨dst, .panic xo, ty, pos, af, g⟩) hg ha, if_pos rfl]
  refine .inl ?_
  unfold Oper.wp
  have : (execOp a.eval ⟨dst, .panic xo, ty, pos, af, g⟩).run P w = .halt (.panic (.iface tp v)) w := by
    simp [execOp, ha.eval hx, run_panic_iface]
  rw [this, Oper.upon_panic]
  exact h.run a ha
theorem WL_callP {d : Nat} {f : FuncId} {xs : List Operand} {vs : List Value} {R Rp : Value → World → Prop} {at_ : Array TypeId} (hf : callB P f = true) (hx : opds L xs = some vs) (hg : wantB ops g L = some true) (hn : Nat.blt d n.1 = true)
    (hc : Cp P f vs w R Rp) (k : ∀ v w', R v w' → WL P n ops Q rest ((d, v) :: L) w') (kp : ∀ v w', Rp v w' → At n Q (.panic (pan v)) L w') : WL P n ops Q (⟨some d, .call ⟨.value (.func f), ⟨xs⟩, at_⟩, ty, pos, af, g⟩ :: rest) L w := by
  refine ⟨fun a ha => ?_⟩
  unfold wpList
  rw [wantB_spec (o := ⟨some d, .call ⟨.value (.func f), ⟨xs⟩, at_⟩, ty, pos, af, g⟩) hg ha, if_pos rfl]
  refine .inl ?_
  unfold Oper.wp
  rw [run_call hf hx ha, Oper.upon_enter]
  refine Calls.mono hc.run ?_
  rintro e w' (⟨v, rfl, hr⟩ | ⟨v, rfl, hr⟩)
  · exact (k v w' hr).run _ (ha.put hn v)
  · exact (kp v w' hr).run _ ha
theorem WL_callP0 {f : FuncId} {xs : List Operand} {vs : List Value} {R Rp : Value → World → Prop} {at_ : Array TypeId} (hf : callB P f = true) (hx : opds L xs = some vs) (hg : wantB ops g L = some true)
    (hc : Cp P f vs w R Rp) (k : ∀ v w', R v w' → WL P n ops Q rest L w') (kp : ∀ v w', Rp v w' → At n Q (.panic (pan v)) L w') : WL P n ops Q (⟨none, .call ⟨.value (.func f), ⟨xs⟩, at_⟩, ty, pos, af, g⟩ :: rest) L w := by
  refine ⟨fun a ha => ?_⟩
  unfold wpList
  rw [wantB_spec (o := ⟨none, .call ⟨.value (.func f), ⟨xs⟩, at_⟩, ty, pos, af, g⟩) hg ha, if_pos rfl]
  refine .inl ?_
  unfold Oper.wp
  rw [run_call hf hx ha, Oper.upon_enter]
  refine Calls.mono hc.run ?_
  rintro e w' (⟨v, rfl, hr⟩ | ⟨v, rfl, hr⟩)
  · exact (k v w' hr).run _ ha
  · exact (kp v w' hr).run _ ha
end

/-! ## Statements that draw their order and may panic: taken in an order of one's own -/
section
variable {P : Program} {ops : Array Oper} {md : Region.Mode} {S : World → Prop} {Q : Exit → Act → World → Prop}
theorem wpAnyG_firstP {n i : Nat} {oi : Oper} {v : Value} {LL : Array Bool → Act → World → Prop} (hi : ops[i]? = some oi) (hsel : ∀ (j : Nat) (o : Oper) cs b, ops[j]? = some o → o.op ≠ .select cs b)
    (hs : Region.sinkB md ops n = true) (hc : Region.chainB md ops n = true) (hn : n < ops.size) (hin : i < n) (hQ : ∀ c a w, Q (.panic c) (a.put oi.dst v) w → Q (.panic c) a w)
    (hdone : ∀ listed a w, LL listed a w → ∀ j ∈ Region.ready md ops listed, n ≤ j) :
    ∀ (f : Nat) (listed : Array Bool) (a : Act) (w : World), HeadInv md ops n listed →
      (∀ j oj, ops[j]? = some oj → j ≠ i → listed.getD j true = false → (∀ e ∈ oj.after, Region.binds md e = true → e.on ≠ i) → oi.apart ops oj = true) →
      i ∈ Region.ready md ops listed → YieldsIf P ops S oi v a → S w →
      wpAnyG P md ops Q S n LL f (listed.setIfInBounds i true) (a.put oi.dst v) w → wpAnyG P md ops Q S n LL (f + 1) listed a w := by
  intro f
  induction f with
  | zero =>
    intro listed a w inv _ hr hy hS H
    have hun := (mem_ready.1 hr).1
    refine ⟨fun h => (by rw [h] at hr; cases hr), fun j hj => ?_⟩
    have hjn : j < n := by
      rcases Nat.lt_or_ge j n with h | h
      · exact h
      · exact absurd hj (tail_waits hs hc hn inv _ i rfl hin hun j h)
    refine ⟨hjn, ?_⟩
    by_cases hji : j = i
    · subst hji; exact hy.wpOp hi hS ⟨hS, H⟩
    · have := hdone _ _ _ H j (ready_mono hj hji)
      omega
  | succ f ih =>
    intro listed a w inv hfree hr hy hS H
    have hun := (mem_ready.1 hr).1
    refine ⟨fun h => (by rw [h] at hr; cases hr), fun j hj => ?_⟩
    have hjn : j < n := by
      rcases Nat.lt_or_ge j n with h | h
      · exact h
      · exact absurd hj (tail_waits hs hc hn inv _ i rfl hin hun j h)
    refine ⟨hjn, ?_⟩
    by_cases hji : j = i
    · subst hji; exact hy.wpOp hi hS ⟨hS, H⟩
    · have h1 := (H.2 j (ready_mono hj hji)).2
      obtain ⟨hjun, oj, hoj, hall⟩ := mem_ready.1 hj
      have hnot : ∀ e ∈ oj.after, Region.binds md e = true → e.on ≠ i := fun e he hb heq => by
        have h1 := hall e he hb
        rw [heq, getD_both hun] at h1
        cases h1
      have h2 := wpOp_putIf hoj (hfree j oj hoj hji hjun hnot) (fun cs b => hsel i oi cs b hi) (fun cs b => hsel j oj cs b hoj) hQ hy h1
      have hfree' : ∀ k ok, ops[k]? = some ok → k ≠ i → (listed.setIfInBounds j true).getD k true = false →
          (∀ e ∈ ok.after, Region.binds md e = true → e.on ≠ i) → oi.apart ops ok = true := fun k ok hk hki hun hno => by
        refine hfree k ok hk hki ?_ hno
        by_cases hjk : j = k
        · subst hjk; exact hjun
        · rw [getD_set_ne true hjk] at hun; exact hun
      refine wpOp_mono (fun a' w' h3 => ⟨h3.2.1, ih (listed.setIfInBounds j true) a' w' (inv.set hj hjn) hfree' (ready_mono hr (Ne.symm hji)) h3.1 h3.2.1 ?_⟩) h2
      rw [Array.setIfInBounds_comm _ _ hji]
      exact h3.2.2
def wpHeadP (P : Program) (ops : Array Oper) (S : World → Prop) (Q : Exit → Act → World → Prop) (K : Act → World → Prop) : List Oper → List Bool → Act → World → Prop
  | o :: l, true :: m, a, w => wpList P ops (fun e a' w' => (e = .normal ∧ S w' ∧ wpHeadP P ops S Q K l m a' w') ∨ ∃ c, e = .panic c ∧ Q e a' w') [o] a w
  | o :: l, false :: m, a, w => ∃ v, YieldsIf P ops S o v a ∧ (∀ c a w, Q (.panic c) (a.put o.dst v) w → Q (.panic c) a w) ∧ S w ∧ wpHeadP P ops S Q K l m (a.put o.dst v) w
  | _, _, a, w => K a w
theorem wp_weakenP {o : Oper} {a : Act} {w : World} {K : Act → World → Prop} {Q1 Q2 : Exit → Act → World → Prop} (h1 : ∀ c a w, Q1 (.panic c) a w → Q2 (.panic c) a w) (h2 : ¬ LetsOut Q1) (h : o.wp P a w K Q1) : o.wp P a w K Q2 := by
  unfold Oper.wp at *
  generalize (execOp a.eval o).run P w = r at *
  cases r with
  | ok n w' =>
    cases n <;> simp only [Oper.upon] at h ⊢ <;>
      first
        | exact h
        | exact Calls.mono h (fun e w'' he => by cases e <;> first | exact he | exact h1 _ _ _ he | exact absurd he h2)
  | halt x w' => cases x <;> simp only [Oper.upon] at h ⊢ <;> first | exact h1 _ _ _ h | exact absurd h (by simp)
theorem wpAnyG_lexPP {n g : Nat} {K : Act → World → Prop} (hsel : Region.noSelect ops = true) (hs : Region.sinkB md ops n = true) (hc : Region.chainB md ops n = true) (hn : n < ops.size) :
    ∀ (l : List Oper) (os : List (Nat × Bool)) (listed : Array Bool) (a : Act) (w : World), l.map some = os.map (fun x => ops[x.1]?) → HeadInv md ops n listed →
    lexP md ops g n os listed = true → wpHeadP P ops S Q K l (os.map Prod.snd) a w →
    wpAnyG P md ops Q S n (fun listed' a' w' => Region.seqB md ops g n listed' = true ∧ K a' w') l.length listed a w
  | [], [], listed, a, w, _, _, hB, h => ⟨by simpa [lexP] using hB, h⟩
  | [], _ :: _, listed, a, w, hl, _, _, _ => by simp at hl
  | _ :: _, [], listed, a, w, hl, _, _, _ => by simp at hl
  | o :: l, (k, b) :: os, listed, a, w, hl, inv, hB, h => by
    simp only [List.map_cons, List.cons.injEq] at hl
    have h0 : ops[k]? = some o := hl.1.symm
    simp only [lexP, Bool.and_eq_true, decide_eq_true_eq] at hB
    obtain ⟨⟨hkn, hb⟩, hB'⟩ := hB
    have hnext : ∀ {a' : Act} {w' : World} (hr : k ∈ Region.ready md ops listed), wpHeadP P ops S Q K l (os.map Prod.snd) a' w' → wpAnyG P md ops Q S n (fun listed' a' w' => Region.seqB md ops g n listed' = true ∧ K a' w') l.length (listed.setIfInBounds k true) a' w' := fun hr h' =>
      wpAnyG_lexPP hsel hs hc hn l os _ _ _ hl.2 (inv.set hr hkn) hB' h'
    cases b
    · simp only [cond_false, Bool.and_eq_true] at hb
      have hr : k ∈ Region.ready md ops listed := by simpa using hb.1
      obtain ⟨v, hy, hQ, hS, h'⟩ := h
      exact wpAnyG_firstP h0 (Region.noSelect_spec hsel) hs hc hn hkn hQ (fun listed' a' w' hL => seqB_ready hL.1) l.length listed a w inv (Region.free_spec h0 hb.2) hr hy hS (hnext hr h')
    · have hr : Region.ready md ops listed = [k] := by simpa using hb
      have hr' : k ∈ Region.ready md ops listed := by rw [hr]; simp
      refine ⟨by rw [hr]; simp, fun i hi => ?_⟩
      rw [hr] at hi
      have : i = k := by simpa using hi
      subst this
      refine ⟨hkn, ?_⟩
      unfold wpOp
      simp only [h0]
      simp only [List.map_cons, wpHeadP, wpList] at h
      split
      · rename_i hw
        simp only [hw, if_true] at h
        rcases h with h | ⟨_, x, y, hq⟩
        · refine .inl (Oper.wp_mono (fun a' w' hk' => ?_) (wp_weakenP (Q1 := fun e a' w' => (e = .normal ∧ S w' ∧ wpHeadP P ops S Q K l (os.map Prod.snd) a' w') ∨ ∃ c, e = .panic c ∧ Q e a' w') (fun c a w hq => by
            rcases hq with hq | ⟨_, _, hq⟩
            · cases hq.1
            · exact hq) (fun hq => by
            obtain ⟨a, w, hq⟩ := hq
            rcases hq with hq | ⟨_, hq, _⟩
            · cases hq.1
            · cases hq) h))
          rcases hk' with hk' | ⟨_, hk', _⟩
          · exact ⟨hk'.2.1, hnext hr' hk'.2.2⟩
          · cases hk'
        · rcases hq with hq | ⟨_, hq, _⟩
          · cases hq.1
          · cases hq
      · rename_i hw
        simp only [hw] at h
        rcases h with h | ⟨_, h, _⟩
        · exact ⟨h.2.1, hnext hr' h.2.2⟩
        · cases h
theorem wp_region_ownP {id : Nat} {a : Act} {w : World} {l lh : List Oper} (os : List (Nat × Bool)) (hm : P.follows .mixedOrders = true) (hB : lexPB .any l.toArray os = true) (hlh : lh.map some = os.map (fun x => l.toArray[x.1]?))
    (h : wpHeadP P l.toArray S Q (fun a' w' => wpList P l.toArray Q (l.drop os.length) a' w') lh (os.map Prod.snd) a { w with drawn := w.drawn + 1 }) : (Code.region id l.toArray true).wp P Q a w := by
  simp only [lexPB, Bool.and_eq_true, decide_eq_true_eq] at hB
  obtain ⟨⟨⟨⟨hsel, hn⟩, hs⟩, hc⟩, hlex⟩ := hB
  have htl : lh.length = os.length := by simpa using congrArg List.length hlh
  have hdl : (l.drop os.length).length = l.toArray.size - os.length := by simp
  have inv0 : HeadInv .any l.toArray os.length (Array.replicate l.toArray.size false) :=
    ⟨by simp, fun j oj _ hl => (by rw [getD_replicate_false] at hl; cases hl), fun t _ ht => getD_in (by simpa using ht) (getD_replicate_false _ _)⟩
  have H := wpAnyG_lexPP (md := .any) (g := l.toArray.size - os.length) (Q := Q) hsel hs hc hn lh os _ a _ hlh inv0 hlex h
  refine wp_region_any hm ?_
  have := wpAny_of_headG (g := l.toArray.size - os.length) (fun listed a' w' hL => by
    have := wpAny_of_seq (md := .any) (Q' := Q) (l.drop os.length) os.length listed a' w' (fun j => by simp [List.getElem?_drop]) (by rw [hdl]; exact hL.1) hL.2
    rwa [hdl] at this) _ _ _ _ H
  have hsz : os.length < l.toArray.size := hn
  rw [htl, show os.length + (l.toArray.size - os.length) = l.toArray.size by omega] at this
  exact this
end
section
variable {T : Tys} {P : Program} {n : Fz} {ops : Array Oper} {Q : Exit → Act → World → Prop} {L L' L0 : Fr} {w w' w0 w1 : World} {rest : List Oper} {ty t t' : TypeId} {imps : List Bool}
  {Sx : Nat → Prop} {H HG : List (Nat × Obj)} {pos : String} {af : Array Edge} {g : Option (Nat × Bool)} {K : Act → World → Prop} {S : World → Prop} {Rp : List PanicEntry → World → Prop}
/-- the exits of a region that may panic: behind a panic a few things are known of the frame -/
def QP (n : Fz) (Q : Exit → Act → World → Prop) (L0 : Fr) (Rp : List PanicEntry → World → Prop) : Exit → Act → World → Prop
  | .panic c, a, w => Fits n L0 a ∧ Rp c w
  | e, a, w => Q e a w
theorem fits_off {a : Act} {d : Option Tmp} {v : Value} (hd : ∀ k, d = some k → look L0 k = none) (h : Fits n L0 (a.put d v)) : Fits n L0 a := by
  cases d with
  | none => simpa [Act.put] using h
  | some k =>
    refine ⟨by have := h.size; simpa [Act.put] using this, by have := h.defers; simpa [Act.put] using this, fun i u hi => ?_⟩
    have h1 := h.val i u hi
    simp only [Act.put] at h1
    have hne : k ≠ i := fun e => by subst e; rw [hd k rfl] at hi; cases hi
    rwa [Array.getElem?_setIfInBounds, if_neg hne] at h1
structure HP (P : Program) (n : Fz) (ops : Array Oper) (S : World → Prop) (Q : Exit → Act → World → Prop) (K : Act → World → Prop) (rest : List Oper) (imps : List Bool) (L : Fr) (w : World) : Prop where
  run : ∀ a, Fits n L a → wpHeadP P ops S Q K rest imps a w
theorem W_ownP {id : Nat} {l : List Oper} {Hs Hr : List (Nat × Obj)} (os : List (Nat × Bool)) (L0 : Fr) (Rp : List PanicEntry → World → Prop) (hT : T.Ok P) (hB : lexPB .any l.toArray os = true) (hlh : (pickOps l os).map some = os.map (fun x => l.toArray[x.1]?)) (hSt : St w0 Sx (Hs ++ Hr) w)
    (hp : ∀ c w, Rp c w → At n Q (.panic c) L0 w)
    (h : ∀ w1, St w0 Sx (Hs ++ Hr) w1 → HP P n l.toArray (fun w' => St w0 Sx Hs w') (QP n Q L0 Rp) (fun a' w' => wpList P l.toArray (QP n Q L0 Rp) (l.drop os.length) a' w') (pickOps l os) (os.map Prod.snd) L w1) : W P n (.region id l.toArray true) Q L w :=
  ⟨fun a ha => wp_mono (Q := QP n Q L0 Rp) (wp_region_ownP os hT.mixed hB hlh ((h _ hSt.drew).run a ha)) (fun e a w hq => by
    cases e
    case panic c => exact (hp c w hq.2).run a hq.1
    all_goals exact hq)⟩
theorem HP_ev {d : Nat} {op : Op} {v : Value} (hg : wantB ops g L = some true) (hn : Nat.blt d n.1 = true) (hd : look L0 d = none) (hS : S w) (h : ∀ w', S w' → Ev P L op ty w' v w') (k : HP P n ops S (QP n Q L0 Rp) K rest imps ((d, v) :: L) w) : HP P n ops S (QP n Q L0 Rp) K (⟨some d, op, ty, pos, af, g⟩ :: rest) (false :: imps) L w := by
  refine ⟨fun a ha => ⟨v, .inl ⟨wantB_spec (o := ⟨some d, op, ty, pos, af, g⟩) hg ha, fun w' hw' => (h w' hw').run n a ha _ _ _ _⟩, fun c a w hq => ⟨fits_off (fun k e => by injection e with e; subst e; exact hd) hq.1, hq.2⟩, hS, k.run _ (ha.put hn v)⟩⟩
theorem HP_pass {d : Nat} {op : Op} (hg : wantB ops g L = some false) (hn : Nat.blt d n.1 = true) (hd : look L0 d = none) (hS : S w) (k : HP P n ops S (QP n Q L0 Rp) K rest imps ((d, undef) :: L) w) : HP P n ops S (QP n Q L0 Rp) K (⟨some d, op, ty, pos, af, g⟩ :: rest) (false :: imps) L w := by
  refine ⟨fun a ha => ⟨undef, .inr ⟨wantB_spec (o := ⟨some d, op, ty, pos, af, g⟩) hg ha, rfl⟩, fun c a w hq => ⟨fits_off (fun k e => by injection e with e; subst e; exact hd) hq.1, hq.2⟩, hS, k.run _ (ha.put hn undef)⟩⟩
def HKP (P : Program) (ops : Array Oper) (S : World → Prop) (Q : Exit → Act → World → Prop) (K : Act → World → Prop) (rest : List Oper) (imps : List Bool) : Exit → Act → World → Prop := fun e a' w' => (e = .normal ∧ S w' ∧ wpHeadP P ops S Q K rest imps a' w') ∨ ∃ c, e = .panic c ∧ Q e a' w'
theorem HP_one {o : Oper} (h : WL P n ops (HKP P ops S Q K rest imps) [o] L w) : HP P n ops S Q K (o :: rest) (true :: imps) L w := ⟨fun a ha => h.run a ha⟩
theorem At_oneP (hS : S w) (h : HP P n ops S Q K rest imps L w) : At n (HKP P ops S Q K rest imps) .normal L w := ⟨fun a ha => .inl ⟨rfl, hS, h.run a ha⟩⟩
theorem At_oneX {c : List PanicEntry} (hs : Sub L0 L) (h : Rp c w) : At n (HKP P ops S (QP n Q L0 Rp) K rest imps) (.panic c) L w := ⟨fun a ha => .inr ⟨c, rfl, ha.sub hs, h⟩⟩
theorem HP_end {Q' : Exit → Act → World → Prop} {l : List Oper} (h : WL P n ops Q' l L w) : HP P n ops S Q (fun a' w' => wpList P ops Q' l a' w') [] [] L w := ⟨fun a ha => h.run a ha⟩
theorem At_QP (h : At n Q .normal L w) : At n (QP n Q L0 Rp) .normal L w := ⟨h.run⟩
end
end Go.Proofs.YtknfankadlokhaaGreatDoor
