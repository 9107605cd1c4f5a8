/- Steps of the law: few of them; calls that change a journal's medium. No conditions. -/
import Derived.Test.YtmlbgdhkacajaaaDoorJoh
namespace Go.Proofs.YtmlbgdhkacajaaaDoor
open Go.RowKit
set_option linter.unusedVariables false
set_option linter.unusedSimpArgs false
set_option maxHeartbeats 4000000

structure Jp where
  k : Int
  a : Int
  b : Int
  s : List UInt8
abbrev Jp.cells (x : Jp) : List Value := [I x.k, I x.a, I x.b, S x.s]
theorem few_any {w0 : World} {v0 : Value} {l : List Jp} (hs : SlAt w0 v0 4 (l.map Jp.cells)) (hlen : l.length ≤ 9223372036854775807) (hsl : ∀ x ∈ l, x.s.length ≤ 9223372036854775807) :
    Cl Tryd.prog 26 [v0] w0 (fun v w' => ∃ b, v = B b ∧ (b = true → l.length ≤ 40 ∧ ∀ x ∈ l, x.s.length ≤ 4100) ∧ St w0 NoneS [] w') := by
  have hSt := St.refl w0 NoneS
  obtain ⟨a, cap, rfl, hcs⟩ := hs.map
  refine enter Tryd.func26 rfl Tryd.ntmps26 rfl ?_
  repeat' (first | refine W_seq ?_ | refine W_block ?_ | refine W_region ?_ | refine WL_nil ?_ | refine W_true rfl ?_ | refine W_false rfl ?_ | refine W_skip ?_ | refine W_exit ?_ | refine W_ret ?_ | refine W_goto ?_ | refine W_label ?_ | refine At_calm ?_ | refine At_then_normal ?_ | refine At_then ?_ | refine At_then_ret ?_ | refine At_in_normal ?_ | refine At_in_ret ?_ | refine At_in_hit ?_ | refine At_in_miss rfl ?_ | refine At_jump_normal ?_ | refine At_jump_ret ?_ | refine At_jump_exit ?_ | refine At_then_goto ?_ | refine At_in_goto ?_ | (apply WL_ev rfl rfl; (first | exact Ev_move rfl | exact Ev_assign rfl | exact Ev_nilCheck rfl | exact Ev_fieldAddr hT rfl rfl | exact Ev_load1 hT rfl rfl (hSt.at 0 rfl) rfl | exact Ev_loadN hT rfl rfl (hSt.at 0 rfl) rfl rfl | exact Ev_pickT rfl rfl | exact Ev_pickF rfl rfl | exact Ev_eql rfl rfl | exact Ev_neq rfl rfl | exact Ev_lss rfl rfl | exact Ev_leq rfl rfl | exact Ev_gtr rfl rfl | exact Ev_geq rfl rfl | exact Ev_add rfl rfl (by omega) | exact Ev_sub rfl rfl (by omega) | exact Ev_len_str rfl hT rfl | exact Ev_len_slice hT rfl rfl | exact Ev_extract rfl rfl | exact Ev_notP rfl | exact Ev_not rfl | exact Ev_str_eql rfl rfl | exact Ev_str_neq rfl rfl | exact Ev_min rfl rfl | exact Ev_max rfl rfl | exact Ev_some_nil_eql (ok_ptr hT rfl) rfl rfl | exact Ev_some_nil_neq (ok_ptr hT rfl) rfl rfl | exact Ev_nil_nil_eql (ok_ptr hT rfl) rfl rfl | exact Ev_nil_nil_neq (ok_ptr hT rfl) rfl rfl | exact Ev_str_slice hT rfl rfl rfl rfl (by omega) (by omega) (by omega) | exact Ev_str_add rfl rfl (by omega) | exact Ev_conv_in hT rfl rfl rfl (inI (by omega) (by omega)) | exact Ev_build hT rfl rfl rfl rfl rfl (ok_stc hT rfl) | exact Ev_addw rfl rfl | exact Ev_beql rfl rfl (ok_boo hT rfl) | exact Ev_bneq rfl rfl (ok_boo hT rfl) | exact Ev_indexAddr hT rfl rfl rfl (by omega) (by omega) | exact Ev_remP rfl rfl (by omega) (by omega) | exact Ev_struct_eql (ok_eq rfl) rfl rfl rfl rfl | exact Ev_struct_neq (ok_eq rfl) rfl rfl rfl rfl | exact Ev_map_nil_eql (ok_map rfl) rfl rfl | exact Ev_quo rfl rfl (by omega) (by omega) (by omega) | exact Ev_mul rfl rfl (by omega) | exact Ev_slice_nil_eql hT rfl rfl rfl | exact Ev_slice_nil_neq hT rfl rfl rfl)) | refine WL_pass rfl rfl ?_ | refine WL_pass0 rfl ?_ | (refine WL_store1 hT rfl rfl 0 rfl rfl hSt rfl rfl rfl ?_; clear hSt; intro w hSt; dsimp only [List.set] at hSt) | (refine WL_storeN hT rfl rfl 0 rfl rfl hSt rfl rfl rfl rfl ?_; clear hSt; intro w hSt; dsimp only [spl, List.set] at hSt) | (refine WL_box rfl rfl rfl hSt ?_; clear hSt; intro w nb hnb hSt; dsimp only [zcells, List.nil_append, List.cons_append] at hSt) | (refine WL_alloc hT rfl rfl rfl hSt ?_; clear hSt; intro w nb hnb hSt; dsimp only [zcells, List.nil_append, List.cons_append] at hSt) | (refine WL_guardP rfl rfl (fun hc => ?_) (fun hc => ?_) <;> try (exfalso; first | omega | contradiction | exact hc rfl)) | (refine WL_guard rfl rfl (fun hc => ?_) (fun hc => ?_) <;> (try (exfalso; first | omega | contradiction | exact of_dec hc rfl | (simp at hc; done))) <;> (fail_if_success (change true = true at hc)) <;> (fail_if_success (change false = false at hc))) | refine ret0' rfl ?_ | (refine W_if rfl (fun hc => ?_) (fun hc => ?_) <;> try (exfalso; first | omega | contradiction | exact hc rfl)) | (refine W_cond rfl (fun hc => ?_) (fun hc => ?_) <;> try (exfalso; first | omega | contradiction | (simp at hc; done))))
  refine W_loop1 (fun k (i : Nat) w => k = l.length - i ∧ i ≤ l.length ∧ (∀ x ∈ l.take i, x.s.length ≤ 4100) ∧ St w0 NoneS [] w) (fun i => [(3, I (i : Int))]) l.length 0 rfl (by (repeat (first | exact Str.nil _ | apply Str.drop rfl | apply Str.keepU rfl | apply Str.keep rfl))) ⟨rfl, by omega, by simp, hSt⟩ (by (repeat (first | exact Sub.nil _ | refine Sub.cons rfl ?_))) ?_
  clear hSt
  rintro k i w ⟨hk, hi, hall, hSt⟩ K hK
  by_cases hil : i < l.length
  · obtain ⟨x, hx⟩ : ∃ x, l[i]? = some x := ⟨_, List.getElem?_eq_getElem hil⟩
    obtain ⟨b1, o1, m1, E1, z1, rfl, hb1, _, q1⟩ := hcs i _ hx
    replace q1 := q1 3 _ rfl
    rw [← Int.toNat_natCast i] at q1
    have hxs := hsl x (List.mem_of_getElem? hx)
    have e3 : l.take (i + 1) = l.take i ++ [x] := by rw [List.take_add_one, hx]; rfl
    by_cases h41 : 4100 < x.s.length
    · repeat' (first | (apply WL_ev rfl rfl; exact Ev_load1 hT rfl rfl (hSt.base hb1 (fun e => e)) q1) | refine W_seq ?_ | refine W_block ?_ | refine W_region ?_ | refine WL_nil ?_ | refine W_true rfl ?_ | refine W_false rfl ?_ | refine W_skip ?_ | refine W_exit ?_ | refine W_ret ?_ | refine W_goto ?_ | refine W_label ?_ | refine At_calm ?_ | refine At_then_normal ?_ | refine At_then ?_ | refine At_then_ret ?_ | refine At_in_normal ?_ | refine At_in_ret ?_ | refine At_in_hit ?_ | refine At_in_miss rfl ?_ | refine At_jump_normal ?_ | refine At_jump_ret ?_ | refine At_jump_exit ?_ | refine At_then_goto ?_ | refine At_in_goto ?_ | (apply WL_ev rfl rfl; (first | exact Ev_move rfl | exact Ev_assign rfl | exact Ev_nilCheck rfl | exact Ev_fieldAddr hT rfl rfl | exact Ev_load1 hT rfl rfl (hSt.at 0 rfl) rfl | exact Ev_loadN hT rfl rfl (hSt.at 0 rfl) rfl rfl | exact Ev_pickT rfl rfl | exact Ev_pickF rfl rfl | exact Ev_eql rfl rfl | exact Ev_neq rfl rfl | exact Ev_lss rfl rfl | exact Ev_leq rfl rfl | exact Ev_gtr rfl rfl | exact Ev_geq rfl rfl | exact Ev_add rfl rfl (by omega) | exact Ev_sub rfl rfl (by omega) | exact Ev_len_str rfl hT rfl | exact Ev_len_slice hT rfl rfl | exact Ev_extract rfl rfl | exact Ev_notP rfl | exact Ev_not rfl | exact Ev_str_eql rfl rfl | exact Ev_str_neq rfl rfl | exact Ev_min rfl rfl | exact Ev_max rfl rfl | exact Ev_some_nil_eql (ok_ptr hT rfl) rfl rfl | exact Ev_some_nil_neq (ok_ptr hT rfl) rfl rfl | exact Ev_nil_nil_eql (ok_ptr hT rfl) rfl rfl | exact Ev_nil_nil_neq (ok_ptr hT rfl) rfl rfl | exact Ev_str_slice hT rfl rfl rfl rfl (by omega) (by omega) (by omega) | exact Ev_str_add rfl rfl (by omega) | exact Ev_conv_in hT rfl rfl rfl (inI (by omega) (by omega)) | exact Ev_build hT rfl rfl rfl rfl rfl (ok_stc hT rfl) | exact Ev_addw rfl rfl | exact Ev_beql rfl rfl (ok_boo hT rfl) | exact Ev_bneq rfl rfl (ok_boo hT rfl) | exact Ev_indexAddr hT rfl rfl rfl (by omega) (by omega) | exact Ev_remP rfl rfl (by omega) (by omega) | exact Ev_struct_eql (ok_eq rfl) rfl rfl rfl rfl | exact Ev_struct_neq (ok_eq rfl) rfl rfl rfl rfl | exact Ev_map_nil_eql (ok_map rfl) rfl rfl | exact Ev_quo rfl rfl (by omega) (by omega) (by omega) | exact Ev_mul rfl rfl (by omega) | exact Ev_slice_nil_eql hT rfl rfl rfl | exact Ev_slice_nil_neq hT rfl rfl rfl)) | refine WL_pass rfl rfl ?_ | refine WL_pass0 rfl ?_ | (refine WL_store1 hT rfl rfl 0 rfl rfl hSt rfl rfl rfl ?_; clear hSt; intro w hSt; dsimp only [List.set] at hSt) | (refine WL_storeN hT rfl rfl 0 rfl rfl hSt rfl rfl rfl rfl ?_; clear hSt; intro w hSt; dsimp only [spl, List.set] at hSt) | (refine WL_box rfl rfl rfl hSt ?_; clear hSt; intro w nb hnb hSt; dsimp only [zcells, List.nil_append, List.cons_append] at hSt) | (refine WL_alloc hT rfl rfl rfl hSt ?_; clear hSt; intro w nb hnb hSt; dsimp only [zcells, List.nil_append, List.cons_append] at hSt) | (refine WL_guardP rfl rfl (fun hc => ?_) (fun hc => ?_) <;> try (exfalso; first | omega | contradiction | exact hc rfl)) | (refine WL_guard rfl rfl (fun hc => ?_) (fun hc => ?_) <;> (try (exfalso; first | omega | contradiction | exact of_dec hc rfl | (simp at hc; done))) <;> (fail_if_success (change true = true at hc)) <;> (fail_if_success (change false = false at hc))) | refine ret0' rfl ?_ | (refine W_if rfl (fun hc => ?_) (fun hc => ?_) <;> try (exfalso; first | omega | contradiction | exact hc rfl)) | (refine W_cond rfl (fun hc => ?_) (fun hc => ?_) <;> try (exfalso; first | omega | contradiction | (simp at hc; done))))
      exact ret1 rfl rfl ⟨false, rfl, fun h => (by cases h), hSt⟩
    · repeat' (first | (apply WL_ev rfl rfl; exact Ev_load1 hT rfl rfl (hSt.base hb1 (fun e => e)) q1) | refine W_seq ?_ | refine W_block ?_ | refine W_region ?_ | refine WL_nil ?_ | refine W_true rfl ?_ | refine W_false rfl ?_ | refine W_skip ?_ | refine W_exit ?_ | refine W_ret ?_ | refine W_goto ?_ | refine W_label ?_ | refine At_calm ?_ | refine At_then_normal ?_ | refine At_then ?_ | refine At_then_ret ?_ | refine At_in_normal ?_ | refine At_in_ret ?_ | refine At_in_hit ?_ | refine At_in_miss rfl ?_ | refine At_jump_normal ?_ | refine At_jump_ret ?_ | refine At_jump_exit ?_ | refine At_then_goto ?_ | refine At_in_goto ?_ | (apply WL_ev rfl rfl; (first | exact Ev_move rfl | exact Ev_assign rfl | exact Ev_nilCheck rfl | exact Ev_fieldAddr hT rfl rfl | exact Ev_load1 hT rfl rfl (hSt.at 0 rfl) rfl | exact Ev_loadN hT rfl rfl (hSt.at 0 rfl) rfl rfl | exact Ev_pickT rfl rfl | exact Ev_pickF rfl rfl | exact Ev_eql rfl rfl | exact Ev_neq rfl rfl | exact Ev_lss rfl rfl | exact Ev_leq rfl rfl | exact Ev_gtr rfl rfl | exact Ev_geq rfl rfl | exact Ev_add rfl rfl (by omega) | exact Ev_sub rfl rfl (by omega) | exact Ev_len_str rfl hT rfl | exact Ev_len_slice hT rfl rfl | exact Ev_extract rfl rfl | exact Ev_notP rfl | exact Ev_not rfl | exact Ev_str_eql rfl rfl | exact Ev_str_neq rfl rfl | exact Ev_min rfl rfl | exact Ev_max rfl rfl | exact Ev_some_nil_eql (ok_ptr hT rfl) rfl rfl | exact Ev_some_nil_neq (ok_ptr hT rfl) rfl rfl | exact Ev_nil_nil_eql (ok_ptr hT rfl) rfl rfl | exact Ev_nil_nil_neq (ok_ptr hT rfl) rfl rfl | exact Ev_str_slice hT rfl rfl rfl rfl (by omega) (by omega) (by omega) | exact Ev_str_add rfl rfl (by omega) | exact Ev_conv_in hT rfl rfl rfl (inI (by omega) (by omega)) | exact Ev_build hT rfl rfl rfl rfl rfl (ok_stc hT rfl) | exact Ev_addw rfl rfl | exact Ev_beql rfl rfl (ok_boo hT rfl) | exact Ev_bneq rfl rfl (ok_boo hT rfl) | exact Ev_indexAddr hT rfl rfl rfl (by omega) (by omega) | exact Ev_remP rfl rfl (by omega) (by omega) | exact Ev_struct_eql (ok_eq rfl) rfl rfl rfl rfl | exact Ev_struct_neq (ok_eq rfl) rfl rfl rfl rfl | exact Ev_map_nil_eql (ok_map rfl) rfl rfl | exact Ev_quo rfl rfl (by omega) (by omega) (by omega) | exact Ev_mul rfl rfl (by omega) | exact Ev_slice_nil_eql hT rfl rfl rfl | exact Ev_slice_nil_neq hT rfl rfl rfl)) | refine WL_pass rfl rfl ?_ | refine WL_pass0 rfl ?_ | (refine WL_store1 hT rfl rfl 0 rfl rfl hSt rfl rfl rfl ?_; clear hSt; intro w hSt; dsimp only [List.set] at hSt) | (refine WL_storeN hT rfl rfl 0 rfl rfl hSt rfl rfl rfl rfl ?_; clear hSt; intro w hSt; dsimp only [spl, List.set] at hSt) | (refine WL_box rfl rfl rfl hSt ?_; clear hSt; intro w nb hnb hSt; dsimp only [zcells, List.nil_append, List.cons_append] at hSt) | (refine WL_alloc hT rfl rfl rfl hSt ?_; clear hSt; intro w nb hnb hSt; dsimp only [zcells, List.nil_append, List.cons_append] at hSt) | (refine WL_guardP rfl rfl (fun hc => ?_) (fun hc => ?_) <;> try (exfalso; first | omega | contradiction | exact hc rfl)) | (refine WL_guard rfl rfl (fun hc => ?_) (fun hc => ?_) <;> (try (exfalso; first | omega | contradiction | exact of_dec hc rfl | (simp at hc; done))) <;> (fail_if_success (change true = true at hc)) <;> (fail_if_success (change false = false at hc))) | refine ret0' rfl ?_ | (refine W_if rfl (fun hc => ?_) (fun hc => ?_) <;> try (exfalso; first | omega | contradiction | exact hc rfl)) | (refine W_cond rfl (fun hc => ?_) (fun hc => ?_) <;> try (exfalso; first | omega | contradiction | (simp at hc; done))))
      refine At_loop1 hK (k' := l.length - (i + 1)) (i + 1) (by omega) ⟨rfl, by omega, ?_, hSt⟩ (by (repeat (first | exact Sub.nil _ | refine Sub.cons rfl ?_)))
      intro y hy
      rw [e3, List.mem_append, List.mem_singleton] at hy
      rcases hy with hy | rfl
      · exact hall y hy
      · omega
  · obtain rfl : i = l.length := by omega
    rw [List.take_length] at hall
    repeat' (first | refine W_seq ?_ | refine W_block ?_ | refine W_region ?_ | refine WL_nil ?_ | refine W_true rfl ?_ | refine W_false rfl ?_ | refine W_skip ?_ | refine W_exit ?_ | refine W_ret ?_ | refine W_goto ?_ | refine W_label ?_ | refine At_calm ?_ | refine At_then_normal ?_ | refine At_then ?_ | refine At_then_ret ?_ | refine At_in_normal ?_ | refine At_in_ret ?_ | refine At_in_hit ?_ | refine At_in_miss rfl ?_ | refine At_jump_normal ?_ | refine At_jump_ret ?_ | refine At_jump_exit ?_ | refine At_then_goto ?_ | refine At_in_goto ?_ | (apply WL_ev rfl rfl; (first | exact Ev_move rfl | exact Ev_assign rfl | exact Ev_nilCheck rfl | exact Ev_fieldAddr hT rfl rfl | exact Ev_load1 hT rfl rfl (hSt.at 0 rfl) rfl | exact Ev_loadN hT rfl rfl (hSt.at 0 rfl) rfl rfl | exact Ev_pickT rfl rfl | exact Ev_pickF rfl rfl | exact Ev_eql rfl rfl | exact Ev_neq rfl rfl | exact Ev_lss rfl rfl | exact Ev_leq rfl rfl | exact Ev_gtr rfl rfl | exact Ev_geq rfl rfl | exact Ev_add rfl rfl (by omega) | exact Ev_sub rfl rfl (by omega) | exact Ev_len_str rfl hT rfl | exact Ev_len_slice hT rfl rfl | exact Ev_extract rfl rfl | exact Ev_notP rfl | exact Ev_not rfl | exact Ev_str_eql rfl rfl | exact Ev_str_neq rfl rfl | exact Ev_min rfl rfl | exact Ev_max rfl rfl | exact Ev_some_nil_eql (ok_ptr hT rfl) rfl rfl | exact Ev_some_nil_neq (ok_ptr hT rfl) rfl rfl | exact Ev_nil_nil_eql (ok_ptr hT rfl) rfl rfl | exact Ev_nil_nil_neq (ok_ptr hT rfl) rfl rfl | exact Ev_str_slice hT rfl rfl rfl rfl (by omega) (by omega) (by omega) | exact Ev_str_add rfl rfl (by omega) | exact Ev_conv_in hT rfl rfl rfl (inI (by omega) (by omega)) | exact Ev_build hT rfl rfl rfl rfl rfl (ok_stc hT rfl) | exact Ev_addw rfl rfl | exact Ev_beql rfl rfl (ok_boo hT rfl) | exact Ev_bneq rfl rfl (ok_boo hT rfl) | exact Ev_indexAddr hT rfl rfl rfl (by omega) (by omega) | exact Ev_remP rfl rfl (by omega) (by omega) | exact Ev_struct_eql (ok_eq rfl) rfl rfl rfl rfl | exact Ev_struct_neq (ok_eq rfl) rfl rfl rfl rfl | exact Ev_map_nil_eql (ok_map rfl) rfl rfl | exact Ev_quo rfl rfl (by omega) (by omega) (by omega) | exact Ev_mul rfl rfl (by omega) | exact Ev_slice_nil_eql hT rfl rfl rfl | exact Ev_slice_nil_neq hT rfl rfl rfl)) | refine WL_pass rfl rfl ?_ | refine WL_pass0 rfl ?_ | (refine WL_store1 hT rfl rfl 0 rfl rfl hSt rfl rfl rfl ?_; clear hSt; intro w hSt; dsimp only [List.set] at hSt) | (refine WL_storeN hT rfl rfl 0 rfl rfl hSt rfl rfl rfl rfl ?_; clear hSt; intro w hSt; dsimp only [spl, List.set] at hSt) | (refine WL_box rfl rfl rfl hSt ?_; clear hSt; intro w nb hnb hSt; dsimp only [zcells, List.nil_append, List.cons_append] at hSt) | (refine WL_alloc hT rfl rfl rfl hSt ?_; clear hSt; intro w nb hnb hSt; dsimp only [zcells, List.nil_append, List.cons_append] at hSt) | (refine WL_guardP rfl rfl (fun hc => ?_) (fun hc => ?_) <;> try (exfalso; first | omega | contradiction | exact hc rfl)) | (refine WL_guard rfl rfl (fun hc => ?_) (fun hc => ?_) <;> (try (exfalso; first | omega | contradiction | exact of_dec hc rfl | (simp at hc; done))) <;> (fail_if_success (change true = true at hc)) <;> (fail_if_success (change false = false at hc))) | refine ret0' rfl ?_ | (refine W_if rfl (fun hc => ?_) (fun hc => ?_) <;> try (exfalso; first | omega | contradiction | exact hc rfl)) | (refine W_cond rfl (fun hc => ?_) (fun hc => ?_) <;> try (exfalso; first | omega | contradiction | (simp at hc; done))))
    exact ret1 rfl rfl ⟨_, rfl, fun h => ⟨by have := of_dec h; omega, hall⟩, hSt⟩

/-! ## Calls that change the medium of a journal -/
section
variable {w0 w w' : World} {bm bj : Nat} {m m2 : Med} {j j2 : Jr} {H HA X H3 : List (Nat × Obj)} {Sx : Nat → Prop}
theorem jw_of {f : FuncId} {args : List Value} {V : Value} (hJ : JW bm bj m j H) (hh : Has w H) (hc : Cl Tryd.prog f args w (fun v w' => v = V ∧ St w (· = bm) [(bm, m2.obj)] w')) : Cl Tryd.prog f args w (fun v w' => v = V ∧ ∃ H', JW bm bj m2 j H' ∧ St w (InH H) H' w') :=
  hc.mono fun v w' h => ⟨h.1, _, hJ.put m2, hh.st.call1 hJ.at h.2⟩
theorem JW.hb (hJ : JW bm bj m j H) (hh : Has w H) : w.heap[bm]? = some m.obj := hh.own 1 _ _ hJ.at
theorem down_to {b : Bool} (hb : w.heap[bm]? = some m.obj) (hm : m.Ok) (h : m.down = b) : Cl Tryd.prog 27 [Ptr bm] w (fun v w' => v = B b ∧ St w (· = bm) [(bm, m.obj)] w') := by
  have := down_any hb hm
  rw [h] at this; exact this
theorem Deb.out3 (hD : Deb w0) (h : St w0 NoneS (X ++ (H ++ HA)) w) : ¬ InH H 2 := by
  intro hI
  obtain ⟨x, hx, e⟩ := hI.out
  exact hD.out2 h (e ▸ InH_of (List.mem_append_right X (List.mem_append_left HA hx)))
theorem jreopen_any (hD : Deb w) (hJ : JW bm bj m j H) (hm : m.Ok) (hh : Has w H) (h2 : ¬ InH H 2) {e : Int} (ho : jOpen m = (e, m2, j2)) :
    Cl Tryd.prog 15 [Ptr bm] w (fun v w' => (e ≠ 0 ∧ v = .tuple ⟨[.pointer none, I e]⟩ ∧ ∃ H', JW bm bj m2 j H' ∧ St w (InH H) H' w') ∨ (e = 0 ∧ ∃ bk H', v = .tuple ⟨[Ptr bk, I 0]⟩ ∧ JW bm bk m2 j2 H' ∧ St w (InH H) H' w')) := by
  have h := jopen_any hD (hJ.hb hh) hm (fun e => h2 (by rw [← e]; exact ⟨1, _, hJ.at⟩))
  rw [ho] at h
  refine h.mono ?_
  rintro v w' (⟨h1, rfl, h3⟩ | ⟨h1, bk, H', rfl, h3, h4⟩)
  · exact .inl ⟨h1, rfl, _, hJ.put m2, hh.st.call1 hJ.at h3⟩
  · exact .inr ⟨h1, bk, H', rfl, h3, (hh.st.one hJ.at).open1 h4⟩
theorem jreopen_no (hD : Deb w) (hJ : JW bm bj m j H) (hm : m.Ok) (hh : Has w H) (h2 : ¬ InH H 2) {e : Int} (ho : jOpen m = (e, m2, j2)) (he : e ≠ 0) :
    Cl Tryd.prog 15 [Ptr bm] w (fun v w' => v = .tuple ⟨[.pointer none, I e]⟩ ∧ ∃ H', JW bm bj m2 j H' ∧ St w (InH H) H' w') := by
  refine (jreopen_any hD hJ hm hh h2 ho).mono ?_
  rintro v w' (⟨_, h⟩ | ⟨h1, _⟩)
  · exact h
  · exact absurd h1 he
theorem jreopen_yes (hD : Deb w) (hJ : JW bm bj m j H) (hm : m.Ok) (hh : Has w H) (h2 : ¬ InH H 2) (ho : jOpen m = (0, m2, j2)) :
    Cl Tryd.prog 15 [Ptr bm] w (fun v w' => ∃ bk H', v = .tuple ⟨[Ptr bk, I 0]⟩ ∧ JW bm bk m2 j2 H' ∧ St w (InH H) H' w') := by
  refine (jreopen_any hD hJ hm hh h2 ho).mono ?_
  rintro v w' (⟨h1, _⟩ | ⟨_, h⟩)
  · exact absurd rfl h1
  · exact h
theorem jcount_to {n : Nat} (hJ : JW bm bj m j H) (hh : Has w H) (h : j.l.length = n) : Cl Tryd.prog 19 [Ptr bj] w (fun v w' => v = I (n : Int) ∧ St w NoneS [] w') := by
  have := jcount_any hJ hh
  rw [h] at this; exact this
theorem jdurable_to {n : Int} (hJ : JW bm bj m j H) (hh : Has w H) (h : j.dur = n) : Cl Tryd.prog 20 [Ptr bj] w (fun v w' => v = I n ∧ St w NoneS [] w') := by
  have := jdurable_any hJ hh
  rw [h] at this; exact this
theorem slice_take (a : Option Addr) (c k : Nat) : Value.slice (if c = (0 : Int).toNat then a else a.map (·.add ((0 : Int).toNat * 1))) (((k : Nat) : Int).toNat - (0 : Int).toNat) (c - (0 : Int).toNat) = .slice a k c := by
  have e : (if c = (0 : Int).toNat then a else a.map (·.add ((0 : Int).toNat * 1))) = a := by
    split
    · rfl
    · cases a with
      | none => rfl
      | some p => show some (p.add 0) = some p; rw [Addr.add_zero']
  rw [e]; congr 1
theorem St.asc (h : St w0 Sx (X ++ (H ++ HA)) w) : St w0 Sx ((X ++ H) ++ HA) w := by rw [List.append_assoc]; exact h
theorem St.csa (h : St w0 Sx ((X ++ H) ++ HA) w) : St w0 Sx (X ++ (H ++ HA)) w := by rw [← List.append_assoc]; exact h
theorem St.swapA (h : St w0 Sx ((X ++ (H ++ HA)) ++ H3) w) : St w0 Sx (H ++ H3) w :=
  h.sublist (List.Sublist.append (List.Sublist.trans (List.sublist_append_left H HA) (List.sublist_append_right X _)) (List.Sublist.refl H3))
end
/-- a new medium -/
def newM (size : Int) : Med := ⟨size, 0, [], false, 0, 0⟩
theorem newM_ok {size : Int} (h : 1 ≤ size ∧ size ≤ 262144) : (newM size).Ok := ⟨by simp [newM], by simp [newM], by show ((0 : Nat) : Int) ≤ size; omega, h.2, by simp [newM], by simp [newM]⟩
theorem newOpen (size : Int) : jOpen (newM size) = (0, newM size, ⟨[], 0, false⟩) := by
  have hs : (newM size).s = [] := rfl
  have ht : jTrim (newM size) = (0, newM size) := by
    unfold jTrim
    rw [hs, verF_nil, if_neg (by simp)]
  unfold jOpen
  rw [if_neg (by simp [newM]), ht, if_neg (by simp), hs, verF_nil]
  simp [newM, Med.sync, Med.due]
end Go.Proofs.YtmlbgdhkacajaaaDoor
