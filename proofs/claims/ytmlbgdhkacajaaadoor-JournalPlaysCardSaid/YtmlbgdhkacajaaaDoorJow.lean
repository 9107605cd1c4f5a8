/- What stays true of two journals that are told alike, and that alike finds them so. No conditions. -/
import Derived.Test.YtmlbgdhkacajaaaDoorJox
namespace Go.Proofs.YtmlbgdhkacajaaaDoor
open Go.RowKit
set_option linter.unusedVariables false
set_option linter.unusedSimpArgs false
set_option maxHeartbeats 8000000

structure PJ (m : Med) (j : Jr) (i : Nat) : Prop where
  ok : m.Ok
  sm : ∀ x ∈ j.l, x.length ≤ 4000
  ln : j.l.length ≤ 30000 + i
section
variable {m m2 : Med} {j j2 : Jr} {i : Nat} {x : List UInt8} {e : Int}
theorem PJ.later (h : PJ m j i) : PJ m j (i + 1) := ⟨h.ok, h.sm, Nat.le_succ_of_le h.ln⟩
theorem PJ.app (h : PJ m j i) (hr : jAppend m j x = (e, m2, j2)) : PJ m2 j2 (i + 1) := by
  unfold jAppend at hr
  by_cases hs : j.stop = true
  · rw [if_pos hs] at hr
    simp only [Prod.mk.injEq] at hr
    obtain ⟨rfl, rfl, rfl⟩ := hr
    exact h.later
  · rw [if_neg hs] at hr
    by_cases h4 : 4000 < x.length
    · rw [if_pos h4] at hr
      simp only [Prod.mk.injEq] at hr
      obtain ⟨rfl, rfl, rfl⟩ := hr
      exact h.later
    · rw [if_neg h4] at hr
      have hok := h.ok.append (frameF (headF 0 j.l) x)
      generalize m.append (frameF (headF 0 j.l) x) = r at hr hok
      by_cases h0 : r.1 = 0
      · rw [if_pos h0] at hr
        simp only [Prod.mk.injEq] at hr
        obtain ⟨rfl, rfl, rfl⟩ := hr
        refine ⟨hok, ?_, ?_⟩
        · intro y hy
          rcases List.mem_append.1 hy with hy | hy
          · exact h.sm y hy
          · rw [List.mem_singleton.1 hy]; omega
        · show (j.l ++ [x]).length ≤ _
          rw [List.length_append, List.length_singleton]; have := h.ln; omega
      · rw [if_neg h0] at hr
        by_cases h15 : r.1 = 15
        · rw [if_pos h15] at hr
          simp only [Prod.mk.injEq] at hr
          obtain ⟨rfl, rfl, rfl⟩ := hr
          exact ⟨hok, h.sm, Nat.le_succ_of_le h.ln⟩
        · rw [if_neg h15] at hr
          simp only [Prod.mk.injEq] at hr
          obtain ⟨rfl, rfl, rfl⟩ := hr
          exact ⟨hok, h.sm, Nat.le_succ_of_le h.ln⟩
theorem PJ.sync (h : PJ m j i) (hr : jSync m j = (e, m2, j2)) : PJ m2 j2 (i + 1) := by
  unfold jSync at hr
  have hok := h.ok.sync
  generalize m.sync = r at hr hok
  (repeat' split at hr) <;> (simp only [Prod.mk.injEq] at hr; obtain ⟨rfl, rfl, rfl⟩ := hr)
  · exact h.later
  · exact ⟨hok, h.sm, Nat.le_succ_of_le h.ln⟩
  · exact ⟨hok, h.sm, Nat.le_succ_of_le h.ln⟩
theorem PJ.crashOp (h : PJ m j i) (k : Int) : PJ (m.crashOp k).2 j (i + 1) := ⟨h.ok.crashOp k, h.sm, Nat.le_succ_of_le h.ln⟩
theorem PJ.arm (h : PJ m j i) (a k : Int) (ha : a ≤ 9223372036854775807) : PJ (m.arm a k).2 j (i + 1) := ⟨h.ok.arm k ha, h.sm, Nat.le_succ_of_le h.ln⟩
theorem PJ.open (h : PJ m j i) (hr : jOpen m.recover.2 = (e, m2, j2)) : PJ m2 j (i + 1) ∧ (e = 0 → PJ m2 j2 (i + 1)) := by
  have hok := h.ok.recover
  generalize m.recover.2 = m1 at hr hok
  have hv := verG_canon (m1.s.length + 1) 0 m1.s
  have hb := verG_bd (m1.s.length + 1) 0 m1.s (by omega)
  have he : verG (m1.s.length + 1) 0 m1.s = verF m1.s := rfl
  rw [he] at hv hb
  have hok2 := hok.trim
  have hz := hok.s
  have hz2 := hok.z
  unfold jOpen at hr
  (repeat' split at hr) <;> (simp only [Prod.mk.injEq] at hr; obtain ⟨rfl, rfl, rfl⟩ := hr)
  · exact ⟨⟨hok, h.sm, Nat.le_succ_of_le h.ln⟩, fun h0 => (by cases h0)⟩
  · rename_i h1
    exact ⟨⟨hok2, h.sm, Nat.le_succ_of_le h.ln⟩, fun h0 => absurd h0 h1⟩
  · exact ⟨⟨hok2.sync, h.sm, Nat.le_succ_of_le h.ln⟩, fun _ => ⟨hok2.sync, hv.2.2.2, by show (verF m1.s).1.length ≤ _; omega⟩⟩
end
theorem alike_any {w0 : World} {bm bj bv bw : Nat} {m : Med} {j : Jr} {H Hr : List (Nat × Obj)} (hJ : JW bm bj m j H) (hR : JR bv bw m j Hr) (hok : m.Ok) (hl : j.l.length ≤ 1000000) (h4k : ∀ x ∈ j.l, x.length ≤ 4000) (hh : Has w0 (H ++ Hr)) :
    Cl Tryd.prog 36 [Ptr bj, Ptr bm, Ptr bw, Ptr bv] w0 (fun v w' => v = B true ∧ ∃ H' Hr', JW bm bj m j H' ∧ JR bv bw m j Hr' ∧ St w0 (InH (H ++ Hr)) (H' ++ Hr') w') := by
  have hSt : St w0 (InH (H ++ Hr)) ([] ++ (H ++ Hr)) w0 := hh.st
  generalize InH (H ++ Hr) = SS at hSt ⊢
  clear hh
  refine enter Tryd.func36 rfl Tryd.ntmps36 rfl ?_
  repeat' (first | (refine WL_isCall (f := 25) ?_; refine WL_call (ok_call hT rfl) rfl rfl rfl (jw_of hJ (hSt.hC (X := [])) (len_any (hJ.hb (hSt.hC (X := []))) hok)) ?_; rintro v w2 ⟨rfl, H2, hJ2, hc2⟩; replace hSt := hSt.cC (X := []) hc2; clear hc2 hJ; have hJ := hJ2; clear hJ2) | (refine WL_isCall (f := 58) ?_; refine WL_call (ok_call hT rfl) rfl rfl rfl (jr_of hR (hSt.hR (X := [])) (fun o hb ho => rlen_any hb ho hok)) ?_; rintro v w2 ⟨rfl, H2, hJ2, hc2⟩; replace hSt := hSt.cR (X := []) hc2; clear hc2 hR; have hR := hJ2; clear hJ2) | (refine WL_isCall (f := 59) ?_; refine WL_call (ok_call hT rfl) rfl rfl rfl (jw_of hJ (hSt.hC (X := [])) (durable_any (hJ.hb (hSt.hC (X := []))) hok)) ?_; rintro v w2 ⟨rfl, H2, hJ2, hc2⟩; replace hSt := hSt.cC (X := []) hc2; clear hc2 hJ; have hJ := hJ2; clear hJ2) | (refine WL_isCall (f := 60) ?_; refine WL_call (ok_call hT rfl) rfl rfl rfl (jr_of hR (hSt.hR (X := [])) (fun o hb ho => rdurable_any hb ho hok)) ?_; rintro v w2 ⟨rfl, H2, hJ2, hc2⟩; replace hSt := hSt.cR (X := []) hc2; clear hc2 hR; have hR := hJ2; clear hJ2) | (refine WL_isCall (f := 27) ?_; refine WL_call (ok_call hT rfl) rfl rfl rfl (jw_of hJ (hSt.hC (X := [])) (down_any (hJ.hb (hSt.hC (X := []))) hok)) ?_; rintro v w2 ⟨rfl, H2, hJ2, hc2⟩; replace hSt := hSt.cC (X := []) hc2; clear hc2 hJ; have hJ := hJ2; clear hJ2) | (refine WL_isCall (f := 61) ?_; refine WL_call (ok_call hT rfl) rfl rfl rfl (jr_of hR (hSt.hR (X := [])) (fun o hb ho => rdown_any hb ho hok)) ?_; rintro v w2 ⟨rfl, H2, hJ2, hc2⟩; replace hSt := hSt.cR (X := []) hc2; clear hc2 hR; have hR := hJ2; clear hJ2) | (refine WL_isCall (f := 18) ?_; refine WL_call (ok_call hT rfl) rfl rfl rfl (jrecords_any hJ hl (hSt.hC (X := []))) ?_; rintro v w2 ⟨H3, ho3, hc2⟩; replace hSt := hSt.newN hc2; clear hc2) | (refine WL_isCall (f := 62) ?_; refine WL_call (ok_call hT rfl) rfl rfl rfl (rjrecords_any hR hl (hSt.left.hR (X := []))) ?_; rintro v w2 ⟨H4, ho4, hc2⟩; replace hSt := hSt.newN hc2; clear hc2) | (refine WL_isCall (f := 14) ?_; refine WL_call (ok_call hT rfl) rfl rfl rfl (same_tc (own_tc ho3 hSt.left.right.has) (own_tc ho4 hSt.right.has) (by omega)) ?_; rintro v w2 ⟨rfl, hc2⟩; replace hSt := hSt.call0 hc2; clear hc2) | (refine WL_isCall (f := 19) ?_; refine WL_call (ok_call hT rfl) rfl rfl rfl (jcount_any hJ (hSt.left.left.hC (X := []))) ?_; rintro v w2 ⟨rfl, hc2⟩; replace hSt := hSt.call0 hc2; clear hc2) | (refine WL_isCall (f := 63) ?_; refine WL_call (ok_call hT rfl) rfl rfl rfl (rjcount_any hR (hSt.left.left.hR (X := []))) ?_; rintro v w2 ⟨rfl, hc2⟩; replace hSt := hSt.call0 hc2; clear hc2) | (refine WL_isCall (f := 20) ?_; refine WL_call (ok_call hT rfl) rfl rfl rfl (jdurable_any hJ (hSt.left.left.hC (X := []))) ?_; rintro v w2 ⟨rfl, hc2⟩; replace hSt := hSt.call0 hc2; clear hc2) | (refine WL_isCall (f := 64) ?_; refine WL_call (ok_call hT rfl) rfl rfl rfl (rjdurable_any hR (hSt.left.left.hR (X := []))) ?_; rintro v w2 ⟨rfl, hc2⟩; replace hSt := hSt.call0 hc2; clear hc2) | (refine WL_isCall (f := 21) ?_; refine WL_call (ok_call hT rfl) rfl rfl rfl (jhead_any hJ (hSt.left.left.hC (X := []))) ?_; rintro v w2 ⟨rfl, hc2⟩; replace hSt := hSt.call0 hc2; clear hc2) | (refine WL_isCall (f := 56) ?_; refine WL_call (ok_call hT rfl) rfl rfl rfl (rjhead_any hR hl h4k (hSt.left.left.hR (X := []))) ?_; rintro v w2 ⟨rfl, hc2⟩; replace hSt := hSt.call0 hc2; clear hc2) | (apply WL_ev rfl rfl; exact Ev_as (v2 := B false) (Ev_bneq rfl rfl (ok_boo hT rfl)) (by cases m.down <;> rfl)) | refine W_seq ?_ | refine W_block ?_ | refine W_region ?_ | refine WL_nil ?_ | refine W_true rfl ?_ | refine W_false rfl ?_ | refine W_skip ?_ | refine W_exit ?_ | refine W_ret ?_ | refine W_goto ?_ | refine W_label ?_ | refine At_calm ?_ | refine At_then_normal ?_ | refine At_then ?_ | refine At_then_ret ?_ | refine At_in_normal ?_ | refine At_in_ret ?_ | refine At_in_hit ?_ | refine At_in_miss rfl ?_ | refine At_jump_normal ?_ | refine At_jump_ret ?_ | refine At_jump_exit ?_ | refine At_then_goto ?_ | refine At_in_goto ?_ | (apply WL_ev rfl rfl; (first | exact Ev_move rfl | exact Ev_assign rfl | exact Ev_nilCheck rfl | exact Ev_fieldAddr hT rfl rfl | exact Ev_load1 hT rfl rfl (hSt.at 0 rfl) rfl | exact Ev_loadN hT rfl rfl (hSt.at 0 rfl) rfl rfl | exact Ev_pickT rfl rfl | exact Ev_pickF rfl rfl | exact Ev_eql rfl rfl | exact Ev_neq rfl rfl | exact Ev_lss rfl rfl | exact Ev_leq rfl rfl | exact Ev_gtr rfl rfl | exact Ev_geq rfl rfl | exact Ev_add rfl rfl (by omega) | exact Ev_sub rfl rfl (by omega) | exact Ev_len_str rfl hT rfl | exact Ev_len_slice hT rfl rfl | exact Ev_extract rfl rfl | exact Ev_notP rfl | exact Ev_not rfl | exact Ev_str_eql rfl rfl | exact Ev_str_neq rfl rfl | exact Ev_min rfl rfl | exact Ev_max rfl rfl | exact Ev_some_nil_eql (ok_ptr hT rfl) rfl rfl | exact Ev_some_nil_neq (ok_ptr hT rfl) rfl rfl | exact Ev_nil_nil_eql (ok_ptr hT rfl) rfl rfl | exact Ev_nil_nil_neq (ok_ptr hT rfl) rfl rfl | exact Ev_str_slice hT rfl rfl rfl rfl (by omega) (by omega) (by omega) | exact Ev_str_add rfl rfl (by omega) | exact Ev_conv_in hT rfl rfl rfl (inI (by omega) (by omega)) | exact Ev_build hT rfl rfl rfl rfl rfl (ok_stc hT rfl) | exact Ev_addw rfl rfl | exact Ev_beql rfl rfl (ok_boo hT rfl) | exact Ev_bneq rfl rfl (ok_boo hT rfl) | exact Ev_indexAddr hT rfl rfl rfl (by omega) (by omega) | exact Ev_remP rfl rfl (by omega) (by omega) | exact Ev_struct_eql (ok_eq rfl) rfl rfl rfl rfl | exact Ev_struct_neq (ok_eq rfl) rfl rfl rfl rfl | exact Ev_map_nil_eql (ok_map rfl) rfl rfl | exact Ev_quo rfl rfl (by omega) (by omega) (by omega) | exact Ev_mul rfl rfl (by omega) | exact Ev_slice_nil_eql hT rfl rfl rfl | exact Ev_slice_nil_neq hT rfl rfl rfl)) | refine WL_pass rfl rfl ?_ | refine WL_pass0 rfl ?_ | (refine WL_store1 hT rfl rfl 0 rfl rfl hSt rfl rfl rfl ?_; clear hSt; intro w hSt; dsimp only [List.set] at hSt) | (refine WL_storeN hT rfl rfl 0 rfl rfl hSt rfl rfl rfl rfl ?_; clear hSt; intro w hSt; dsimp only [spl, List.set] at hSt) | (refine WL_box rfl rfl rfl hSt ?_; clear hSt; intro w nb hnb hSt; dsimp only [zcells, List.nil_append, List.cons_append] at hSt) | (refine WL_alloc hT rfl rfl rfl hSt ?_; clear hSt; intro w nb hnb hSt; dsimp only [zcells, List.nil_append, List.cons_append] at hSt) | (refine WL_guardP rfl rfl (fun hc => ?_) (fun hc => ?_) <;> try (exfalso; first | omega | contradiction | exact hc rfl)) | (refine WL_guard rfl rfl (fun hc => ?_) (fun hc => ?_) <;> (try (exfalso; first | omega | contradiction | exact of_dec hc rfl | (simp at hc; done))) <;> (fail_if_success (change true = true at hc)) <;> (fail_if_success (change false = false at hc))) | refine ret0' rfl ?_ | (refine W_if rfl (fun hc => ?_) (fun hc => ?_) <;> try (exfalso; first | omega | contradiction | exact hc rfl)) | (refine W_cond rfl (fun hc => ?_) (fun hc => ?_) <;> try (exfalso; first | omega | contradiction | (simp at hc; done))))
  all_goals exact ret1 rfl rfl ⟨by simp, _, _, hJ, hR, hSt.left.left⟩
end Go.Proofs.YtmlbgdhkacajaaaDoor
