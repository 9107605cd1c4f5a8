/- Goals: the chapter's examples. No conditions. -/
import Derived.Test.YtbajljfkbppocaaDoorGoe
namespace Go.Proofs.YtbajljfkbppocaaDoor
open Go.RowKit Go.Sort
set_option linter.unusedVariables false
set_option linter.unusedSimpArgs false
set_option maxHeartbeats 4000000

section
variable {P : Program} {L : Fr} {w : World} {t t' ty : TypeId} {xo yo : Operand}
theorem Ev_struct_no {ks : List CK} {xs ys : List Value} (h : eqsB P (t, ks) = true) (hx : opd L xo = some (.agg ⟨xs⟩)) (hy : opd L yo = some (.agg ⟨ys⟩)) (hfx : fitK ks xs = true) (hfy : fitK ks ys = true) (hne : xs ≠ ys) :
    Ev P L (.binOp .eql t xo yo t') ty w (.bool false) w := by
  have := Ev_struct_eql (w := w) (ty := ty) (t' := t') h hx hy hfx hfy
  rwa [show @decide (xs = ys) (Classical.propDecidable _) = false from @decide_eq_false _ (Classical.propDecidable _) hne] at this
theorem Ev_struct_yes {ks : List CK} {xs : List Value} (h : eqsB P (t, ks) = true) (hx : opd L xo = some (.agg ⟨xs⟩)) (hy : opd L yo = some (.agg ⟨xs⟩)) (hfx : fitK ks xs = true) :
    Ev P L (.binOp .eql t xo yo t') ty w (.bool true) w := by
  have := Ev_struct_eql (w := w) (ty := ty) (t' := t') h hx hy hfx hfx
  rwa [show @decide (xs = xs) (Classical.propDecidable _) = true from @decide_eq_true _ (Classical.propDecidable _) rfl] at this
end
theorem next_at {w0 : World} {st ev : Int} {x : Int × Int} (h : nextF st ev = x) : Cl Tryd.prog 16 [I st, I ev] w0 (fun v w' => v = .tuple ⟨[I x.1, I x.2]⟩ ∧ St w0 NoneS [] w') := h ▸ next_any st ev
theorem decode_at {w0 : World} (hV : Vars w0) {s : List UInt8} {c n st a e : Int} {q x : List UInt8} {er : Int} (h : decG s = (⟨c, n, st, a, e, q, x⟩, er)) : Cl Tryd.prog 12 [S s] w0 (fun v w' => v = .tuple ⟨[goV c n st a e q x, I er]⟩ ∧ St w0 NoneS [] w') := by
  refine (decode_any hV s).mono ?_
  rintro v w' ⟨c', n', st', a', e', q', x', er', h', rfl, hS⟩
  rw [h] at h'
  cases h'
  exact ⟨rfl, hS⟩
theorem rdecode_at {w0 : World} {s : List UInt8} {c n st a e : Int} {q x : List UInt8} {er : Int} (h : decG s = (⟨c, n, st, a, e, q, x⟩, er)) : Cl Tryd.prog 13 [S s] w0 (fun v w' => v = .tuple ⟨[goV c n st a e q x, I er]⟩ ∧ St w0 NoneS [] w') := by
  refine (rdecode_any s).mono ?_
  rintro v w' ⟨c', n', st', a', e', q', x', er', h', rfl, hS⟩
  rw [h] at h'
  cases h'
  exact ⟨rfl, hS⟩
theorem encode_at {w0 : World} (hV : Vars w0) {s : List UInt8} {c n st a e : Int} {q x : List UInt8} (h : enc ⟨c, n, st, a, e, q, x⟩ = s) : Cl Tryd.prog 9 [goV c n st a e q x] w0 (fun v w' => v = S s ∧ St w0 NoneS [] w') := h ▸ encode_any hV c n st a e q x
theorem rencode_at {w0 : World} {s : List UInt8} {c n st a e : Int} {q x : List UInt8} (h : enc ⟨c, n, st, a, e, q, x⟩ = s) : Cl Tryd.prog 10 [goV c n st a e q x] w0 (fun v w' => v = S s ∧ St w0 NoneS [] w') := h ▸ rencode_any c n st a e q x

theorem itoa1 {n : Nat} (h : n < 10) : Lib.itoa (n : Int) = [UInt8.ofNat (48 + n)] := by rw [itoa_dec (by omega), Int.toNat_natCast, Lib.decDigits_one h]
theorem itoa2 {n : Nat} (h1 : ¬ n < 10) (h : n < 100) : Lib.itoa (n : Int) = [UInt8.ofNat (48 + n / 10), UInt8.ofNat (48 + n % 10)] := by rw [itoa_dec (by omega), Int.toNat_natCast, Lib.decDigits_two h1 h]
abbrev EX1 : List UInt8 := [50, 32, 55, 32, 52, 32, 49, 48, 32, 50, 53, 32, 50, 58, 103, 111, 48, 58]
abbrev EX2 : List UInt8 := [50, 32, 55, 32, 52, 32, 49, 48, 32, 53, 32, 50, 58, 103, 111, 48, 58]
theorem ex1_body : body ⟨2, 7, 4, 10, 25, [103, 111], []⟩ = EX1 := by
  have h2 := itoa1 (n := 2) (by decide)
  have h7 := itoa1 (n := 7) (by decide)
  have h4 := itoa1 (n := 4) (by decide)
  have h0 := itoa1 (n := 0) (by decide)
  have h10 := itoa2 (n := 10) (by decide) (by decide)
  have h25 := itoa2 (n := 25) (by decide) (by decide)
  show nums [2, 7, 4, 10, 25] ++ (txt [103, 111] ++ txt []) = EX1
  simp only [nums, txt, List.length_cons, List.length_nil]
  have e2 : Lib.itoa 2 = [50] := h2
  have e7 : Lib.itoa 7 = [55] := h7
  have e4 : Lib.itoa 4 = [52] := h4
  have e0 : Lib.itoa 0 = [48] := h0
  have e10 : Lib.itoa 10 = [49, 48] := h10
  have e25 : Lib.itoa 25 = [50, 53] := h25
  rw [e2, e7, e4, e10, e25, show Lib.itoa ((0 + 1 + 1 : Nat) : Int) = [50] from h2, show Lib.itoa ((0 : Nat) : Int) = [48] from h0]
  rfl
theorem ex2_body : body ⟨2, 7, 4, 10, 5, [103, 111], []⟩ = EX2 := by
  have h2 := itoa1 (n := 2) (by decide)
  have h7 := itoa1 (n := 7) (by decide)
  have h4 := itoa1 (n := 4) (by decide)
  have h0 := itoa1 (n := 0) (by decide)
  have h10 := itoa2 (n := 10) (by decide) (by decide)
  have h5 := itoa1 (n := 5) (by decide)
  show nums [2, 7, 4, 10, 5] ++ (txt [103, 111] ++ txt []) = EX2
  simp only [nums, txt, List.length_cons, List.length_nil]
  have e2 : Lib.itoa 2 = [50] := h2
  have e7 : Lib.itoa 7 = [55] := h7
  have e4 : Lib.itoa 4 = [52] := h4
  have e10 : Lib.itoa 10 = [49, 48] := h10
  have e5 : Lib.itoa 5 = [53] := h5
  rw [e2, e7, e4, e10, e5, show Lib.itoa ((0 + 1 + 1 : Nat) : Int) = [50] from h2, show Lib.itoa ((0 : Nat) : Int) = [48] from h0]
  rfl
theorem ex1_cod : Cod ⟨2, 7, 4, 10, 25, [103, 111], []⟩ := by rw [cod_iff]; simp
theorem ex2_cod : ¬ Cod ⟨2, 7, 4, 10, 5, [103, 111], []⟩ := by rw [cod_iff]; simp
theorem ex1_dec : decG EX1 = (⟨2, 7, 4, 10, 25, [103, 111], []⟩, 0) := by rw [← ex1_body]; exact dec_body ex1_cod
theorem ex1_enc : enc ⟨2, 7, 4, 10, 25, [103, 111], []⟩ = EX1 := by rw [enc_cod ex1_cod, ex1_body]
theorem ex2_dec : decG EX2 = (⟨0, 0, 0, 0, 0, [], []⟩, 2) := by
  have e1 : numsP numG 5 EX2 = some ([2, 7, 4, 10, 5], txt [103, 111] ++ txt []) := by
    rw [← ex2_body]
    exact numsP_nums numG goodG [2, 7, 4, 10, 5] _ (by intro n hn; simp at hn; omega)
  have e2 := textP_txt numG goodG (s := [103, 111]) (txt []) (by simp)
  have e3 := textP_txt numG goodG (s := []) [] (by simp)
  rw [List.append_nil] at e3
  refine dec_other goodG (by simp) (Rdg.ok _ _ _ _ _ _ _ _ _ _ e1 e2 e3) ?_
  rw [enc_not ex2_cod]
  simp
theorem ex_next : nextF 3 2 = (4, 0) := by decide
theorem awake_any {w0 : World} (hV : Vars w0) : Cl Tryd.prog 11 [] w0 (fun v w' => v = B true ∧ St w0 NoneS [] w') := by
  have hSt := St.refl w0 NoneS
  refine enter Tryd.func11 rfl Tryd.ntmps11 rfl ?_
  repeat' (first | (refine WL_isCall (f := 16) ?_; refine WL_call (ok_call hT rfl) rfl rfl rfl (next_at ex_next) ?_; rintro v w' ⟨rfl, hc2⟩; replace hSt := hSt.call0 hc2; clear hc2) | (refine WL_isCall (f := 12) ?_; refine WL_call (ok_call hT rfl) rfl rfl rfl (decode_at (hV.later hSt) ex1_dec) ?_; rintro v w' ⟨rfl, hc2⟩; replace hSt := hSt.call0 hc2; clear hc2) | (refine WL_isCall (f := 12) ?_; refine WL_call (ok_call hT rfl) rfl rfl rfl (decode_at (hV.later hSt) ex2_dec) ?_; rintro v w' ⟨rfl, hc2⟩; replace hSt := hSt.call0 hc2; clear hc2) | (refine WL_isCall (f := 9) ?_; refine WL_call (ok_call hT rfl) rfl rfl rfl (encode_at (hV.later hSt) ex1_enc) ?_; rintro v w' ⟨rfl, hc2⟩; replace hSt := hSt.call0 hc2; clear hc2) | (apply WL_ev rfl rfl; exact Ev_struct_yes (ok_eq rfl) rfl rfl rfl) | refine W_seq ?_ | refine W_block ?_ | refine W_region ?_ | refine WL_nil ?_ | refine W_true rfl ?_ | refine W_false rfl ?_ | refine W_skip ?_ | refine W_exit ?_ | refine W_ret ?_ | refine W_goto ?_ | refine W_label ?_ | refine At_calm ?_ | refine At_then_normal ?_ | refine At_then ?_ | refine At_then_ret ?_ | refine At_in_normal ?_ | refine At_in_ret ?_ | refine At_in_hit ?_ | refine At_in_miss rfl ?_ | refine At_jump_normal ?_ | refine At_jump_ret ?_ | refine At_jump_exit ?_ | refine At_then_goto ?_ | refine At_in_goto ?_ | (apply WL_ev rfl rfl; (first | exact Ev_move rfl | exact Ev_assign rfl | exact Ev_nilCheck rfl | exact Ev_fieldAddr hT rfl rfl | exact Ev_load1 hT rfl rfl (hSt.at 0 rfl) rfl | exact Ev_load1 hT rfl rfl (hSt.at 1 rfl) rfl | exact Ev_load1 hT rfl rfl (hSt.at 2 rfl) rfl | exact Ev_load1 hT rfl rfl (hSt.at 3 rfl) rfl | exact Ev_loadN hT rfl rfl (hSt.at 0 rfl) rfl rfl | exact Ev_loadN hT rfl rfl (hSt.at 1 rfl) rfl rfl | exact Ev_loadN hT rfl rfl (hSt.at 2 rfl) rfl rfl | exact Ev_loadN hT rfl rfl (hSt.at 3 rfl) rfl rfl | exact Ev_pickT rfl rfl | exact Ev_pickF rfl rfl | exact Ev_eql rfl rfl | exact Ev_neq rfl rfl | exact Ev_lss rfl rfl | exact Ev_leq rfl rfl | exact Ev_gtr rfl rfl | exact Ev_geq rfl rfl | exact Ev_add rfl rfl (by omega) | exact Ev_sub rfl rfl (by omega) | exact Ev_len_str rfl hT rfl | exact Ev_len_slice hT rfl rfl | exact Ev_extract rfl rfl | exact Ev_notP rfl | exact Ev_not rfl | exact Ev_str_eql rfl rfl | exact Ev_str_neq rfl rfl | exact Ev_min rfl rfl | exact Ev_max rfl rfl | exact Ev_some_nil_eql (ok_ptr hT rfl) rfl rfl | exact Ev_some_nil_neq (ok_ptr hT rfl) rfl rfl | exact Ev_nil_nil_eql (ok_ptr hT rfl) rfl rfl | exact Ev_nil_nil_neq (ok_ptr hT rfl) rfl rfl | exact Ev_str_slice hT rfl rfl rfl rfl (by omega) (by omega) (by omega) | exact Ev_str_add rfl rfl (by omega) | exact Ev_conv_in hT rfl rfl rfl (inI (by omega) (by omega)) | exact Ev_build hT rfl rfl rfl rfl rfl (ok_stc hT rfl) | exact Ev_addw rfl rfl | exact Ev_beql rfl rfl (ok_boo hT rfl) | exact Ev_bneq rfl rfl (ok_boo hT rfl) | exact Ev_indexAddr hT rfl rfl rfl (by omega) (by omega) | exact Ev_remP rfl rfl (by omega) (by omega) | exact Ev_struct_eql (ok_eq rfl) rfl rfl rfl rfl | exact Ev_struct_neq (ok_eq rfl) rfl rfl rfl rfl | exact Ev_map_nil_eql (ok_map rfl) rfl rfl | exact Ev_quo rfl rfl (by omega) (by omega) (by omega) | exact Ev_mul rfl rfl (by omega) | exact Ev_slice_nil_eql hT rfl rfl rfl | exact Ev_slice_nil_neq hT rfl rfl rfl)) | refine WL_pass rfl rfl ?_ | refine WL_pass0 rfl ?_ | (refine WL_store1 hT rfl rfl 0 rfl rfl hSt rfl rfl rfl ?_; clear hSt; intro w hSt; dsimp only [List.set] at hSt) | (refine WL_store1 hT rfl rfl 1 rfl rfl hSt rfl rfl rfl ?_; clear hSt; intro w hSt; dsimp only [List.set] at hSt) | (refine WL_store1 hT rfl rfl 2 rfl rfl hSt rfl rfl rfl ?_; clear hSt; intro w hSt; dsimp only [List.set] at hSt) | (refine WL_store1 hT rfl rfl 3 rfl rfl hSt rfl rfl rfl ?_; clear hSt; intro w hSt; dsimp only [List.set] at hSt) | (refine WL_storeN hT rfl rfl 0 rfl rfl hSt rfl rfl rfl rfl ?_; clear hSt; intro w hSt; dsimp only [spl, List.set] at hSt) | (refine WL_storeN hT rfl rfl 1 rfl rfl hSt rfl rfl rfl rfl ?_; clear hSt; intro w hSt; dsimp only [spl, List.set] at hSt) | (refine WL_storeN hT rfl rfl 2 rfl rfl hSt rfl rfl rfl rfl ?_; clear hSt; intro w hSt; dsimp only [spl, List.set] at hSt) | (refine WL_storeN hT rfl rfl 3 rfl rfl hSt rfl rfl rfl rfl ?_; clear hSt; intro w hSt; dsimp only [spl, List.set] at hSt) | (refine WL_box rfl rfl rfl hSt ?_; clear hSt; intro w nb hnb hSt; dsimp only [zcells, List.nil_append, List.cons_append] at hSt) | (refine WL_alloc hT rfl rfl rfl hSt ?_; clear hSt; intro w nb hnb hSt; dsimp only [zcells, List.nil_append, List.cons_append] at hSt) | (refine WL_guardP rfl rfl (fun hc => ?_) (fun hc => ?_) <;> try (exfalso; first | omega | contradiction | exact hc rfl)) | (refine WL_guard rfl rfl (fun hc => ?_) (fun hc => ?_) <;> (try (exfalso; first | omega | contradiction | exact of_dec hc rfl | (simp at hc; done))) <;> (fail_if_success (change true = true at hc)) <;> (fail_if_success (change false = false at hc))) | (refine W_quiet hT (by decide +kernel) hSt ?_; clear hSt; (repeat' (first | (apply QL_ev rfl rfl; (intro w hSt; (first | (exact Ev_struct_yes (ok_eq rfl) rfl rfl rfl) | exact Ev_move rfl | exact Ev_assign rfl | exact Ev_nilCheck rfl | exact Ev_fieldAddr hT rfl rfl | exact Ev_load1 hT rfl rfl (hSt.at 0 rfl) rfl | exact Ev_load1 hT rfl rfl (hSt.at 1 rfl) rfl | exact Ev_load1 hT rfl rfl (hSt.at 2 rfl) rfl | exact Ev_load1 hT rfl rfl (hSt.at 3 rfl) rfl | exact Ev_loadN hT rfl rfl (hSt.at 0 rfl) rfl rfl | exact Ev_loadN hT rfl rfl (hSt.at 1 rfl) rfl rfl | exact Ev_loadN hT rfl rfl (hSt.at 2 rfl) rfl rfl | exact Ev_loadN hT rfl rfl (hSt.at 3 rfl) rfl rfl | exact Ev_pickT rfl rfl | exact Ev_pickF rfl rfl | exact Ev_eql rfl rfl | exact Ev_neq rfl rfl | exact Ev_lss rfl rfl | exact Ev_leq rfl rfl | exact Ev_gtr rfl rfl | exact Ev_geq rfl rfl | exact Ev_add rfl rfl (by omega) | exact Ev_sub rfl rfl (by omega) | exact Ev_len_str rfl hT rfl | exact Ev_len_slice hT rfl rfl | exact Ev_extract rfl rfl | exact Ev_notP rfl | exact Ev_not rfl | exact Ev_str_eql rfl rfl | exact Ev_str_neq rfl rfl | exact Ev_min rfl rfl | exact Ev_max rfl rfl | exact Ev_some_nil_eql (ok_ptr hT rfl) rfl rfl | exact Ev_some_nil_neq (ok_ptr hT rfl) rfl rfl | exact Ev_nil_nil_eql (ok_ptr hT rfl) rfl rfl | exact Ev_nil_nil_neq (ok_ptr hT rfl) rfl rfl | exact Ev_str_slice hT rfl rfl rfl rfl (by omega) (by omega) (by omega) | exact Ev_str_add rfl rfl (by omega) | exact Ev_conv_in hT rfl rfl rfl (inI (by omega) (by omega)) | exact Ev_build hT rfl rfl rfl rfl rfl (ok_stc hT rfl) | exact Ev_addw rfl rfl | exact Ev_beql rfl rfl (ok_boo hT rfl) | exact Ev_bneq rfl rfl (ok_boo hT rfl) | exact Ev_indexAddr hT rfl rfl rfl (by omega) (by omega) | exact Ev_remP rfl rfl (by omega) (by omega) | exact Ev_struct_eql (ok_eq rfl) rfl rfl rfl rfl | exact Ev_struct_neq (ok_eq rfl) rfl rfl rfl rfl | exact Ev_map_nil_eql (ok_map rfl) rfl rfl | exact Ev_quo rfl rfl (by omega) (by omega) (by omega) | exact Ev_mul rfl rfl (by omega) | exact Ev_slice_nil_eql hT rfl rfl rfl | exact Ev_slice_nil_neq hT rfl rfl rfl))) | refine QL_pass rfl rfl ?_ | (refine QL_guardP rfl rfl (fun hc => ?_) (fun hc => ?_) <;> try (exfalso; first | omega | contradiction | exact hc rfl)) | (refine QL_guard rfl rfl (fun hc => ?_) (fun hc => ?_) <;> (try (exfalso; first | omega | contradiction | exact of_dec hc rfl | (simp at hc; done))) <;> (fail_if_success (change true = true at hc)) <;> (fail_if_success (change false = false at hc))))); all_goals (refine QL_nil (fun w hSt => ?_))) | refine ret0' rfl ?_ | (refine W_if rfl (fun hc => ?_) (fun hc => ?_) <;> try (exfalso; first | omega | contradiction | exact hc rfl)) | (refine W_cond rfl (fun hc => ?_) (fun hc => ?_) <;> try (exfalso; first | omega | contradiction | (simp at hc; done))))
  all_goals first | exact ret1 rfl rfl ⟨rfl, hSt.nil⟩ | (exfalso; first | exact hc rfl | (simp at hc; done) | omega)
end Go.Proofs.YtbajljfkbppocaaDoor
