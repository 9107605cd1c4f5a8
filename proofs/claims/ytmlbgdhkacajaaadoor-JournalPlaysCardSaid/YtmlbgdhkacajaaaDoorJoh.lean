/- The example that every law of journals runs. No conditions. -/
import Derived.Test.YtmlbgdhkacajaaaDoorJog
namespace Go.Proofs.YtmlbgdhkacajaaaDoor
open Go.RowKit
set_option linter.unusedVariables false
set_option linter.unusedSimpArgs false
set_option maxHeartbeats 4000000

/-! ## What the methods return where it is known -/
theorem Deb.out2 {w0 w : World} {H : List (Nat × Obj)} (hD : Deb w0) (h : St w0 NoneS H w) : ¬ InH H 2 := by
  intro hI
  obtain ⟨x, hx, e⟩ := hI.out
  have h1 := (h.mem hx).2
  obtain ⟨l, E, fz, h2, _⟩ := hD
  have h3 := (Array.getElem?_eq_some_iff.1 h2).1
  rw [e] at h1
  rcases h1 with h1 | h1
  · exact h1
  · omega
theorem Deb.ne2 {w0 w : World} {H : List (Nat × Obj)} {i b : Nat} {o : Obj} (hD : Deb w0) (h : St w0 NoneS H w) (hi : H[i]? = some (b, o)) : ¬ b = 2 := fun e => hD.out2 h ⟨i, o, by rw [← e]; exact hi⟩
theorem JW.at {bm bj : Nat} {m : Med} {j : Jr} {H : List (Nat × Obj)} (h : JW bm bj m j H) : H[1]? = some (bm, m.obj) := by
  obtain ⟨rv, H1, ho, rfl⟩ := h; rfl
theorem JW.put {bm bj : Nat} {m : Med} {j : Jr} {H : List (Nat × Obj)} (h : JW bm bj m j H) (m' : Med) : JW bm bj m' j (H.set 1 (bm, m'.obj)) := by
  obtain ⟨rv, H1, ho, rfl⟩ := h; exact ⟨rv, H1, ho, rfl⟩
theorem St.callA {w0 w w' : World} {Sx : Nat → Prop} {H H' : List (Nat × Obj)} (h : St w0 Sx H w) (k : St w (InH H) H' w') : St w0 Sx H' w' := St.callE (Ha := []) h k
theorem St.open1 {w0 w w' : World} {Sx : Nat → Prop} {b : Nat} {o : Obj} {H' : List (Nat × Obj)} (h : St w0 Sx [(b, o)] w) (k : St w (· = b) H' w') : St w0 Sx H' w' :=
  h.trans k (fun c e => by subst e; exact (h.own 0 _ o rfl).2) (fun i c u hi => .inl ⟨i, hi⟩) k.apart
theorem jappend_to {w0 : World} (hD : Deb w0) {bm bj : Nat} {m m2 : Med} {j j2 : Jr} {e : Int} {H : List (Nat × Obj)} {x : List UInt8} (hJ : JW bm bj m j H) (h : jAppend m j x = (e, m2, j2) ∧ m.Ok ∧ j.l.length ≤ 1000000) (hx : x.length ≤ 140737488355328) (hh : Has w0 H) (h2 : ¬ InH H 2) :
    Cl Tryd.prog 16 [Ptr bj, S x] w0 (fun v w' => v = I e ∧ ∃ H', JW bm bj m2 j2 H' ∧ St w0 (InH H) H' w') := by
  have := jappend_any hD hJ h.2.1 h.2.2 hh h2 x hx
  rw [h.1] at this; exact this
theorem jsync_to {w0 : World} {bm bj : Nat} {m m2 : Med} {j j2 : Jr} {e : Int} {H : List (Nat × Obj)} (hJ : JW bm bj m j H) (h : jSync m j = (e, m2, j2) ∧ m.Ok) (hh : Has w0 H) :
    Cl Tryd.prog 17 [Ptr bj] w0 (fun v w' => v = I e ∧ ∃ H', JW bm bj m2 j2 H' ∧ St w0 (InH H) H' w') := by
  have := jsync_any hJ h.2 hh
  rw [h.1] at this; exact this
theorem jopen_to {w0 : World} (hD : Deb w0) {bm : Nat} {m m2 : Med} {j2 : Jr} (hb : w0.heap[bm]? = some m.obj) (h : jOpen m = (0, m2, j2) ∧ m.Ok) (h2 : ¬ bm = 2) :
    Cl Tryd.prog 15 [Ptr bm] w0 (fun v w' => ∃ bj H', v = .tuple ⟨[Ptr bj, I 0]⟩ ∧ JW bm bj m2 j2 H' ∧ St w0 (· = bm) H' w') := by
  have := jopen_any hD hb h.2 h2
  rw [h.1] at this
  refine this.mono ?_
  rintro v w' (⟨h1, _⟩ | ⟨_, h1⟩)
  · exact absurd rfl h1
  · exact h1
theorem crash_to {w0 : World} {bm : Nat} {m m2 : Med} {e k : Int} (hb : w0.heap[bm]? = some m.obj) (h : m.crashOp k = (e, m2) ∧ m.Ok) : Cl Tryd.prog 23 [Ptr bm, I k] w0 (fun v w' => v = I e ∧ St w0 (· = bm) [(bm, m2.obj)] w') := by
  have := crashOp_any hb h.2 k
  rw [h.1] at this; exact this
theorem recover_to {w0 : World} {bm : Nat} {m m2 : Med} {e : Int} (hb : w0.heap[bm]? = some m.obj) (h : m.recover = (e, m2) ∧ m.Ok) : Cl Tryd.prog 24 [Ptr bm] w0 (fun v w' => v = I e ∧ St w0 (· = bm) [(bm, m2.obj)] w') := by
  have := recover_any hb h.2
  rw [h.1] at this; exact this
theorem lit1 {w0 w : World} {Sx : Nat → Prop} {H : List (Nat × Obj)} {b : Nat} {x : List UInt8} {e : TypeId} (h : St w0 Sx (H ++ [(b, blk [S x] e)]) w) : SlAt w (.slice (some ⟨b, 0, none⟩) 1 1) 1 ([x].map tc) :=
  OwnSl.slAt (f := tc) (l := [x]) (fun _ => rfl) (OwnSl.whole b e [S x]) h.right.has

/-! ## The example -/
theorem verF_nil : verF [] = ([], 0, 0) := by
  have := verF_frames [] [] (fun x h => by cases h) (firstF_nil _)
  exact this
theorem verF_one (x : List UInt8) (hx : x.length ≤ 4000) : verF (frameF 0 x) = ([x], (frameF 0 x).length, chainF 0 x) := by
  have := verF_frames [x] [] (fun y h => by rcases List.mem_singleton.1 h with rfl; exact hx) (firstF_nil _)
  rw [List.append_nil, framesF, framesF, List.append_nil] at this
  exact this
theorem one_len (p : Nat) (c : UInt8) : (frameF p [c]).length = 10 := by rw [frameF_len]; rfl
def exM (dur : Int) (s : List UInt8) (dn : Bool) : Med := ⟨100, dur, s, dn, 0, 0⟩
theorem exM_ok {dur : Int} {s : List UInt8} {dn : Bool} (h : 0 ≤ dur ∧ dur ≤ s.length ∧ (s.length : Int) ≤ 100) : (exM dur s dn).Ok := ⟨h.1, h.2.1, h.2.2, by simp [exM], by simp [exM], by simp [exM]⟩
theorem exOpen {s : List UInt8} {l : List (List UInt8)} {hd : Nat} {dur : Int} (hv : verF s = (l, s.length, hd)) : jOpen (exM dur s false) = (0, exM s.length s false, ⟨l, l.length, false⟩) := by
  have ht : jTrim (exM dur s false) = (0, exM dur s false) := by
    unfold jTrim
    have : (exM dur s false).s = s := rfl
    rw [this, hv, if_neg (by simp)]
  unfold jOpen
  rw [if_neg (by simp [exM]), ht, if_neg (by simp)]
  have : (exM dur s false).s = s := rfl
  rw [this, hv]
  simp [exM, Med.sync, Med.due]
theorem exAppend {dur : Int} {s x : List UInt8} {l : List (List UInt8)} {d : Int} (hx : ¬ 4000 < x.length) (hr : s.length + (frameF (headF 0 l) x).length ≤ 100) : jAppend (exM dur s false) ⟨l, d, false⟩ x = (0, exM dur (s ++ frameF (headF 0 l) x) false, ⟨l ++ [x], d, false⟩) := by
  have ha : (exM dur s false).append (frameF (headF 0 l) x) = (0, exM dur (s ++ frameF (headF 0 l) x) false) := by
    generalize frameF (headF 0 l) x = F at hr ⊢
    unfold Med.append
    have h1 : (exM dur s false).down = false := rfl
    have h2 : ¬ (exM dur s false).size - ((exM dur s false).s.length : Int) < (F.length : Int) := by show ¬ (100 : Int) - (s.length : Int) < _; omega
    have h3 : ¬ (exM dur s false).steps = 1 := by show ¬ (0 : Int) = 1; omega
    rw [h1, if_neg (by simp), if_neg h2, if_neg h3]; rfl
  unfold jAppend
  rw [if_neg (by simp), if_neg hx]
  dsimp only
  rw [ha, if_pos rfl]
theorem awake_any {w0 : World} (hD : Deb w0) : Cl Tryd.prog 9 [] w0 (fun v w' => v = B true ∧ St w0 NoneS [] w') := by
  have hSt := St.refl w0 NoneS
  obtain ⟨F1, hF1⟩ : ∃ F1, F1 = frameF 0 [97] := ⟨_, rfl⟩
  obtain ⟨F2, hF2⟩ : ∃ F2, F2 = frameF (headF 0 [[97]]) [98] := ⟨_, rfl⟩
  have l1 : F1.length = 10 := by rw [hF1]; exact one_len _ _
  have l2 : F2.length = 10 := by rw [hF2]; exact one_len _ _
  have o1 : jOpen (exM 0 [] false) = (0, exM 0 [] false, ⟨[], 0, false⟩) ∧ (exM 0 [] false).Ok := ⟨exOpen verF_nil, exM_ok (by simp)⟩
  have a1 : jAppend (exM 0 [] false) ⟨[], 0, false⟩ [97] = (0, exM 0 F1 false, ⟨[[97]], 0, false⟩) ∧ (exM 0 [] false).Ok ∧ (Jr.mk [] 0 false).l.length ≤ 1000000 := by
    refine ⟨?_, exM_ok (by simp), by simp⟩
    have := exAppend (dur := 0) (s := []) (x := [97]) (l := []) (d := 0) (by simp) (by show 0 + (frameF 0 [97]).length ≤ 100; rw [one_len]; omega)
    rw [this, hF1]; rfl
  have s1 : jSync (exM 0 F1 false) ⟨[[97]], 0, false⟩ = (0, exM 10 F1 false, ⟨[[97]], 1, false⟩) ∧ (exM 0 F1 false).Ok := by
    refine ⟨?_, exM_ok (by omega)⟩
    simp [jSync, exM, Med.sync, Med.due, l1]
  have a2 : jAppend (exM 10 F1 false) ⟨[[97]], 1, false⟩ [98] = (0, exM 10 (F1 ++ F2) false, ⟨[[97], [98]], 1, false⟩) ∧ (exM 10 F1 false).Ok ∧ (Jr.mk [[97]] 1 false).l.length ≤ 1000000 := by
    refine ⟨?_, exM_ok (by omega), by simp⟩
    have := exAppend (dur := 10) (s := F1) (x := [98]) (l := [[97]]) (d := 1) (by simp) (by rw [← hF2]; omega)
    rw [this, hF2]; rfl
  have c1 : (exM 10 (F1 ++ F2) false).crashOp 0 = (0, exM 10 F1 true) ∧ (exM 10 (F1 ++ F2) false).Ok := by
    refine ⟨?_, exM_ok (by simp only [List.length_append]; omega)⟩
    have hc : (exM 10 (F1 ++ F2) false).cut 0 = 10 := by
      unfold Med.cut
      show (10 : Int) + max 0 (min 0 (((F1 ++ F2).length : Int) - 10)) = 10
      rw [List.length_append]; omega
    unfold Med.crashOp
    rw [if_neg (by simp [exM])]
    unfold Med.crash
    rw [hc]
    have ht : (F1 ++ F2).take (10 : Int).toNat = F1 := by rw [show (10 : Int).toNat = F1.length by omega, List.take_left' rfl]
    show (0, (⟨100, 10, (F1 ++ F2).take (10 : Int).toNat, true, 0, 0⟩ : Med)) = _
    rw [ht]; rfl
  have a3 : jAppend (exM 10 F1 true) ⟨[[97], [98]], 1, false⟩ [99] = (16, exM 10 F1 true, ⟨[[97], [98]], 1, true⟩) ∧ (exM 10 F1 true).Ok ∧ (Jr.mk [[97], [98]] 1 false).l.length ≤ 1000000 := by
    refine ⟨?_, exM_ok (by omega), by simp⟩
    have ha : ∀ F, (exM 10 F1 true).append F = (16, exM 10 F1 true) := fun F => by unfold Med.append; exact if_pos rfl
    unfold jAppend
    rw [if_neg (by simp), if_neg (by simp), ha, if_neg (by simp), if_neg (by simp)]
  have r1 : (exM 10 F1 true).recover = (0, exM 10 F1 false) ∧ (exM 10 F1 true).Ok := ⟨by unfold Med.recover; exact if_pos rfl, exM_ok (by omega)⟩
  have o2 : jOpen (exM 10 F1 false) = (0, exM 10 F1 false, ⟨[[97]], 1, false⟩) ∧ (exM 10 F1 false).Ok := by
    refine ⟨?_, exM_ok (by omega)⟩
    have h := exOpen (dur := 10) (verF_one [97] (by simp))
    rw [← hF1, l1] at h
    exact h
  have hnew : Med.mk 100 0 [] false 0 0 = exM 0 [] false := rfl
  have h9 : (frameF 5 []).length = 9 := by rw [frameF_len]; rfl
  clear hF1 hF2 l1 l2
  refine enter Tryd.func9 rfl Tryd.ntmps9 rfl ?_
  repeat' (first | (refine WL_isCall (f := 22) ?_; refine WL_call (ok_call hT rfl) rfl rfl rfl (new_good 100 (by omega) (by omega)) ?_; rintro v w2 ⟨bm, rfl, hc2⟩; replace hSt := hSt.new1 hc2; clear hc2; replace hSt : St w0 NoneS [(bm, (exM 0 [] false).obj)] _ := hSt) | (refine WL_isCall (f := 15) ?_; refine WL_call (ok_call hT rfl) rfl rfl rfl (jopen_to (hD.later hSt (fun e => e)) (hSt.own 0 _ _ rfl).1 o1 (hD.ne2 (i := 0) hSt rfl)) ?_; rintro v w2 ⟨bj, H2, rfl, hJ, hc2⟩; replace hSt := hSt.open1 hc2; clear hc2) | (refine WL_isCall (f := 16) ?_; refine WL_call (ok_call hT rfl) rfl rfl rfl (jappend_to (hD.later hSt (fun e => e)) hJ a1 (by decide) hSt.has (hD.out2 hSt)) ?_; rintro v w2 ⟨rfl, H2, hJ2, hc2⟩; replace hSt := hSt.callA hc2; clear hc2 hJ; have hJ := hJ2; clear hJ2) | (refine WL_isCall (f := 17) ?_; refine WL_call (ok_call hT rfl) rfl rfl rfl (jsync_to hJ s1 hSt.has) ?_; rintro v w2 ⟨rfl, H2, hJ2, hc2⟩; replace hSt := hSt.callA hc2; clear hc2 hJ; have hJ := hJ2; clear hJ2) | (refine WL_isCall (f := 16) ?_; refine WL_call (ok_call hT rfl) rfl rfl rfl (jappend_to (hD.later hSt (fun e => e)) hJ a2 (by decide) hSt.has (hD.out2 hSt)) ?_; rintro v w2 ⟨rfl, H2, hJ2, hc2⟩; replace hSt := hSt.callA hc2; clear hc2 hJ; have hJ := hJ2; clear hJ2) | (refine WL_isCall (f := 19) ?_; refine WL_call (ok_call hT rfl) rfl rfl rfl (jcount_any hJ hSt.has) ?_; rintro v w2 ⟨rfl, hc2⟩; replace hSt := hSt.call0 hc2; clear hc2) | (refine WL_isCall (f := 20) ?_; refine WL_call (ok_call hT rfl) rfl rfl rfl (jdurable_any hJ hSt.has) ?_; rintro v w2 ⟨rfl, hc2⟩; replace hSt := hSt.call0 hc2; clear hc2) | (refine WL_isCall (f := 23) ?_; refine WL_call (ok_call hT rfl) rfl rfl rfl (crash_to (hSt.own 1 _ _ hJ.at).1 c1) ?_; rintro v w2 ⟨rfl, hc2⟩; replace hSt := hSt.call1 hJ.at hc2; clear hc2; replace hJ := hJ.put (exM 10 F1 true)) | (refine WL_isCall (f := 16) ?_; refine WL_call (ok_call hT rfl) rfl rfl rfl (jappend_to (hD.later hSt (fun e => e)) hJ a3 (by decide) hSt.has (hD.out2 hSt)) ?_; rintro v w2 ⟨rfl, H2, hJ2, hc2⟩; replace hSt := hSt.callA hc2; clear hc2 hJ; have hJ := hJ2; clear hJ2) | (refine WL_isCall (f := 24) ?_; refine WL_call (ok_call hT rfl) rfl rfl rfl (recover_to (hSt.own 1 _ _ hJ.at).1 r1) ?_; rintro v w2 ⟨rfl, hc2⟩; replace hSt := hSt.call1 hJ.at hc2; clear hc2; replace hJ := hJ.put (exM 10 F1 false)) | (refine WL_isCall (f := 15) ?_; refine WL_call (ok_call hT rfl) rfl rfl rfl (jopen_to (hD.later hSt (fun e => e)) (hSt.own 1 _ _ hJ.at).1 o2 (hD.ne2 hSt hJ.at)) ?_; rintro v w2 ⟨bk, H2, rfl, hJ2, hc2⟩; replace hSt := (hSt.one hJ.at).open1 hc2; clear hc2 hJ; have hJ := hJ2; clear hJ2) | (refine WL_isCall (f := 18) ?_; refine WL_call (ok_call hT rfl) rfl rfl rfl (jrecords_any hJ (by decide) hSt.has) ?_; rintro v w2 ⟨H3, ho3, hc2⟩; replace hSt := (hSt.newN hc2).right; clear hc2) | (refine WL_buildSlice hT rfl rfl rfl rfl rfl rfl rfl rfl hSt ?_; clear hSt; intro w nb hnb hSt) | (refine WL_isCall (f := 14) ?_; refine WL_call (ok_call hT rfl) rfl rfl rfl (same_tc (own_tc ho3 hSt.left.has) (lit1 hSt) (by decide)) ?_; rintro v w2 ⟨rfl, hc2⟩; replace hSt := hSt.call0 hc2; clear hc2) | (refine WL_isCall (f := 12) ?_; refine WL_call (ok_call hT rfl) rfl rfl rfl (frame_any (hD.later hSt (fun e => e)) 5 (by omega) [] (by decide)) ?_; rintro v w2 ⟨rfl, hc2⟩; replace hSt := hSt.call0 hc2; clear hc2) | refine W_seq ?_ | refine W_block ?_ | refine W_region ?_ | refine WL_nil ?_ | refine W_true rfl ?_ | refine W_false rfl ?_ | refine W_skip ?_ | refine W_exit ?_ | refine W_ret ?_ | refine W_goto ?_ | refine W_label ?_ | refine At_calm ?_ | refine At_then_normal ?_ | refine At_then ?_ | refine At_then_ret ?_ | refine At_in_normal ?_ | refine At_in_ret ?_ | refine At_in_hit ?_ | refine At_in_miss rfl ?_ | refine At_jump_normal ?_ | refine At_jump_ret ?_ | refine At_jump_exit ?_ | refine At_then_goto ?_ | refine At_in_goto ?_ | (apply WL_ev rfl rfl; (first | exact Ev_move rfl | exact Ev_assign rfl | exact Ev_nilCheck rfl | exact Ev_fieldAddr hT rfl rfl | exact Ev_load1 hT rfl rfl (hSt.at 0 rfl) rfl | exact Ev_loadN hT rfl rfl (hSt.at 0 rfl) rfl rfl | exact Ev_pickT rfl rfl | exact Ev_pickF rfl rfl | exact Ev_eql rfl rfl | exact Ev_neq rfl rfl | exact Ev_lss rfl rfl | exact Ev_leq rfl rfl | exact Ev_gtr rfl rfl | exact Ev_geq rfl rfl | exact Ev_add rfl rfl (by omega) | exact Ev_sub rfl rfl (by omega) | exact Ev_len_str rfl hT rfl | exact Ev_len_slice hT rfl rfl | exact Ev_extract rfl rfl | exact Ev_notP rfl | exact Ev_not rfl | exact Ev_str_eql rfl rfl | exact Ev_str_neq rfl rfl | exact Ev_min rfl rfl | exact Ev_max rfl rfl | exact Ev_some_nil_eql (ok_ptr hT rfl) rfl rfl | exact Ev_some_nil_neq (ok_ptr hT rfl) rfl rfl | exact Ev_nil_nil_eql (ok_ptr hT rfl) rfl rfl | exact Ev_nil_nil_neq (ok_ptr hT rfl) rfl rfl | exact Ev_str_slice hT rfl rfl rfl rfl (by omega) (by omega) (by omega) | exact Ev_str_add rfl rfl (by omega) | exact Ev_conv_in hT rfl rfl rfl (inI (by omega) (by omega)) | exact Ev_build hT rfl rfl rfl rfl rfl (ok_stc hT rfl) | exact Ev_addw rfl rfl | exact Ev_beql rfl rfl (ok_boo hT rfl) | exact Ev_bneq rfl rfl (ok_boo hT rfl) | exact Ev_indexAddr hT rfl rfl rfl (by omega) (by omega) | exact Ev_remP rfl rfl (by omega) (by omega) | exact Ev_struct_eql (ok_eq rfl) rfl rfl rfl rfl | exact Ev_struct_neq (ok_eq rfl) rfl rfl rfl rfl | exact Ev_map_nil_eql (ok_map rfl) rfl rfl | exact Ev_quo rfl rfl (by omega) (by omega) (by omega) | exact Ev_mul rfl rfl (by omega) | exact Ev_slice_nil_eql hT rfl rfl rfl | exact Ev_slice_nil_neq hT rfl rfl rfl)) | refine WL_pass rfl rfl ?_ | refine WL_pass0 rfl ?_ | (refine WL_store1 hT rfl rfl 0 rfl rfl hSt rfl rfl rfl ?_; clear hSt; intro w hSt; dsimp only [List.set] at hSt) | (refine WL_storeN hT rfl rfl 0 rfl rfl hSt rfl rfl rfl rfl ?_; clear hSt; intro w hSt; dsimp only [spl, List.set] at hSt) | (refine WL_box rfl rfl rfl hSt ?_; clear hSt; intro w nb hnb hSt; dsimp only [zcells, List.nil_append, List.cons_append] at hSt) | (refine WL_alloc hT rfl rfl rfl hSt ?_; clear hSt; intro w nb hnb hSt; dsimp only [zcells, List.nil_append, List.cons_append] at hSt) | (refine WL_guardP rfl rfl (fun hc => ?_) (fun hc => ?_) <;> try (exfalso; first | omega | contradiction | exact hc rfl)) | (refine WL_guard rfl rfl (fun hc => ?_) (fun hc => ?_) <;> (try (exfalso; first | omega | contradiction | exact of_dec hc rfl | (simp at hc; done))) <;> (fail_if_success (change true = true at hc)) <;> (fail_if_success (change false = false at hc))) | (refine W_quiet hT (by decide +kernel) hSt ?_; clear hSt; (repeat' (first | (apply QL_ev rfl rfl; (intro w hSt; (first | exact Ev_move rfl | exact Ev_assign rfl | exact Ev_nilCheck rfl | exact Ev_fieldAddr hT rfl rfl | exact Ev_load1 hT rfl rfl (hSt.at 0 rfl) rfl | exact Ev_loadN hT rfl rfl (hSt.at 0 rfl) rfl rfl | exact Ev_pickT rfl rfl | exact Ev_pickF rfl rfl | exact Ev_eql rfl rfl | exact Ev_neq rfl rfl | exact Ev_lss rfl rfl | exact Ev_leq rfl rfl | exact Ev_gtr rfl rfl | exact Ev_geq rfl rfl | exact Ev_add rfl rfl (by omega) | exact Ev_sub rfl rfl (by omega) | exact Ev_len_str rfl hT rfl | exact Ev_len_slice hT rfl rfl | exact Ev_extract rfl rfl | exact Ev_notP rfl | exact Ev_not rfl | exact Ev_str_eql rfl rfl | exact Ev_str_neq rfl rfl | exact Ev_min rfl rfl | exact Ev_max rfl rfl | exact Ev_some_nil_eql (ok_ptr hT rfl) rfl rfl | exact Ev_some_nil_neq (ok_ptr hT rfl) rfl rfl | exact Ev_nil_nil_eql (ok_ptr hT rfl) rfl rfl | exact Ev_nil_nil_neq (ok_ptr hT rfl) rfl rfl | exact Ev_str_slice hT rfl rfl rfl rfl (by omega) (by omega) (by omega) | exact Ev_str_add rfl rfl (by omega) | exact Ev_conv_in hT rfl rfl rfl (inI (by omega) (by omega)) | exact Ev_build hT rfl rfl rfl rfl rfl (ok_stc hT rfl) | exact Ev_addw rfl rfl | exact Ev_beql rfl rfl (ok_boo hT rfl) | exact Ev_bneq rfl rfl (ok_boo hT rfl) | exact Ev_indexAddr hT rfl rfl rfl (by omega) (by omega) | exact Ev_remP rfl rfl (by omega) (by omega) | exact Ev_struct_eql (ok_eq rfl) rfl rfl rfl rfl | exact Ev_struct_neq (ok_eq rfl) rfl rfl rfl rfl | exact Ev_map_nil_eql (ok_map rfl) rfl rfl | exact Ev_quo rfl rfl (by omega) (by omega) (by omega) | exact Ev_mul rfl rfl (by omega) | exact Ev_slice_nil_eql hT rfl rfl rfl | exact Ev_slice_nil_neq hT rfl rfl rfl))) | refine QL_pass rfl rfl ?_ | (refine QL_guardP rfl rfl (fun hc => ?_) (fun hc => ?_) <;> try (exfalso; first | omega | contradiction | exact hc rfl)) | (refine QL_guard rfl rfl (fun hc => ?_) (fun hc => ?_) <;> (try (exfalso; first | omega | contradiction | exact of_dec hc rfl | (simp at hc; done))) <;> (fail_if_success (change true = true at hc)) <;> (fail_if_success (change false = false at hc))))); all_goals (refine QL_nil (fun w hSt => ?_))) | refine ret0' rfl ?_ | (refine W_if rfl (fun hc => ?_) (fun hc => ?_) <;> try (exfalso; first | omega | contradiction | exact hc rfl)) | (refine W_cond rfl (fun hc => ?_) (fun hc => ?_) <;> try (exfalso; first | omega | contradiction | (simp at hc; done))))
  exact ret1 rfl rfl ⟨by rw [h9]; rfl, hSt.nil⟩
end Go.Proofs.YtmlbgdhkacajaaaDoor
