/- The stage: the message that tells an end; a client is told; the server is opened again. No conditions. -/
import Derived.Test.YthkimkgphaiagaaGreatDoorNE
import Derived.Test.YthkimkgphaiagaaGreatDoorJnd
import Derived.Test.YthkimkgphaiagaaGreatDoorMO
import Derived.Test.YthkimkgphaiagaaGreatDoorSvh
import Derived.Test.YthkimkgphaiagaaGreatDoorMI

namespace Go.Proofs.YthkimkgphaiagaaGreatDoor
open Go.RowKit
set_option maxRecDepth 4000
set_option linter.unusedVariables false
set_option linter.unusedSimpArgs false
set_option maxHeartbeats 8000000

section
variable {w w' w0 : World} {Sx : Nat → Prop} {X HS HS' C C' : List (Nat × Obj)} {a b a' : Nat × Obj}
theorem perm_t : List.Perm ((X ++ HS) ++ (a :: b :: C)) (X ++ (a :: b :: (HS ++ C))) := by
  rw [List.append_assoc]; exact List.Perm.append_left X (List.perm_append_comm_assoc HS [a, b] C)
theorem perm_r : List.Perm ((X ++ (b :: C)) ++ (a :: HS)) (X ++ (a :: b :: (HS ++ C))) := by
  rw [List.append_assoc]
  refine List.Perm.append_left X (List.perm_append_comm.trans ?_)
  exact List.Perm.cons a (List.perm_append_comm_assoc HS [b] C)
theorem St.tellH (h : St w0 Sx (X ++ (a :: b :: (HS ++ C))) w) : Has w (a :: b :: C) := (h.perm perm_t).right.has
theorem St.tellC (h : St w0 Sx (X ++ (a :: b :: (HS ++ C))) w) (k : St w (InH (a :: b :: C)) (a' :: b :: C') w') : St w0 Sx (X ++ (a' :: b :: (HS ++ C'))) w' := ((h.perm perm_t).callE k).perm perm_t.symm
theorem St.tellO (h : St w0 Sx (X ++ (a :: b :: (HS ++ C))) w) (k : St w (InH (a :: b :: C)) [a'] w') : St w0 Sx (X ++ [a']) w' := ((h.perm perm_t).callE k).sublist ((List.sublist_append_left X HS).append (List.Sublist.refl [a']))
theorem NoG.tellH (h : NoG (InH (X ++ (a :: b :: (HS ++ C))))) : NoG (InH (a :: b :: C)) := (NoG.sub h fun x hx => (perm_t (X := X) (HS := HS)).mem_iff.1 (List.mem_append_right _ hx))
theorem St.revH (h : St w0 Sx (X ++ (a :: b :: (HS ++ C))) w) : Has w (a :: HS) := (h.perm perm_r).right.has
theorem St.revC (h : St w0 Sx (X ++ (a :: b :: (HS ++ C))) w) (k : St w (InH (a :: HS)) (a' :: HS') w') : St w0 Sx (X ++ (a' :: b :: (HS' ++ C))) w' := ((h.perm perm_r).callE k).perm perm_r.symm
theorem St.revO (h : St w0 Sx (X ++ (a :: b :: (HS ++ C))) w) (k : St w (InH (a :: HS)) [a'] w') : St w0 Sx (X ++ [a']) w' :=
  ((h.perm perm_r).callE k).sublist ((List.sublist_append_left X (b :: C)).append (List.Sublist.refl [a']))
theorem NoG.revH (h : NoG (InH (X ++ (a :: b :: (HS ++ C))))) : NoG (InH (a :: HS)) := (NoG.sub h fun x hx => (perm_r (X := X) (b := b) (C := C)).mem_iff.1 (List.mem_append_right _ hx))
end
section
variable {w : World} {H : List (Nat × Obj)}
theorem NoG.atb {H : List (Nat × Obj)} (h : NoG (InH H)) {i b : Nat} {o : Obj} (hi : H[i]? = some (b, o)) : NoG (· = b) := h.mono fun c e => e ▸ ⟨i, o, hi⟩
theorem NoG.c {X H1 H2 : List (Nat × Obj)} (h : NoG (InH (X ++ (H1 ++ H2)))) : NoG (InH H1) := h.sub fun x hx => List.mem_append_right _ (List.mem_append_left _ hx)
end
theorem sw_med {w0 : World} {bs bj bm : Nat} {s : Sv} {H : List (Nat × Obj)} {f : FuncId} {args : List Value} {V : Value} {m2 : Med} (hW : SW bs bj bm s H) (hh : Has w0 H) (hc : w0.heap[bm]? = some s.m.obj → Cl Tryz.prog f args w0 (fun v w' => v = V ∧ St w0 (· = bm) [(bm, m2.obj)] w')) :
    Cl Tryz.prog f args w0 (fun v w' => v = V ∧ ∃ H', SW bs bj bm { s with m := m2 } H' ∧ St w0 (InH H) H' w') := by
  obtain ⟨gv, Hg, ev, He, Hj, hog, hoe, hJ, rfl⟩ := hW
  have hhj : Has w0 Hj := hh.sublist ((List.sublist_append_right _ _).trans (List.sublist_cons_self _ _))
  refine (jw_of (m2 := m2) hJ hhj (hc (hJ.hb hhj))).mono ?_
  rintro v w' ⟨h1, Hj', hJ', hc⟩
  exact ⟨h1, _, ⟨gv, Hg, ev, He, Hj', hog, hoe, hJ', rfl⟩, St.callE (Ha := _ :: (Hg ++ He)) hh.st hc⟩
theorem SW.hb {w : World} {bs bj bm : Nat} {s : Sv} {H : List (Nat × Obj)} (hW : SW bs bj bm s H) (hh : Has w H) : w.heap[bm]? = some s.m.obj := (hh.sublist hW.med).own 0 _ _ rfl
theorem down_any {w : World} {b : Nat} {m : Med} (hb : w.heap[b]? = some m.obj) (hm : m.Ok) :
    Cl Tryz.prog 62 [Ptr b] w (fun v w' => v = B m.down ∧ St w NoneS [] w') := by
  have hSt := St.refl w NoneS
  have h0 := hm.d0; have h1 := hm.d; have h2 := hm.s; have h3 := hm.z
  obtain ⟨size, dur, s, down, steps, keep⟩ := m
  dsimp only [Med.obj, Med.cells] at h0 h1 h2 h3 hb
  refine enter Tryz.func62 rfl Tryz.ntmps62 rfl ?_
  repeat' (first | (apply WL_ev rfl rfl; exact Ev_load1 hT rfl rfl (hSt.base hb (fun e => e)) rfl) | refine stepA ?_ | (refine stepS ?_; clear hSt; intro w hSt; dsimp only [spl, List.set] at hSt) | (refine stepB ?_; clear hSt; intro w nb hnb hSt; dsimp only [zcells, List.nil_append, List.cons_append] at hSt) | (refine W_quiet hT (by decide +kernel) hSt ?_; clear hSt; (repeat' (first | (apply QL_ev rfl rfl; (intro w hSt; (first | (exact Ev_load1 hT rfl rfl (hSt.base hb (fun e => e)) rfl) | exact Ev_auto))) | refine QL_pass rfl rfl ?_ | (refine QL_guardP rfl rfl (fun hc => ?_) (fun hc => ?_) <;> try exact absA) | (refine QL_guard rfl rfl (fun hc => ?_) (fun hc => ?_) <;> (try exact absA) <;> (fail_if_success (change true = true at hc)) <;> (fail_if_success (change false = false at hc))))); all_goals (refine QL_nil (fun w hSt => ?_))) | (refine stepG ?_ ?_ <;> intro hc <;> (try exact absA) <;> (fail_if_success (change true = true at hc)) <;> (fail_if_success (change false = false at hc))) | fail)
  exact ret1 rfl rfl ⟨rfl, hSt⟩

/-! ## The stage -/
abbrev stO (ar : Nat) (sv : Value) (bm : Nat) (pol at_ : Int) (vt : Value) (ov : Bool) : Obj := blk [.slice (some ⟨ar, 0, none⟩) 2 2, sv, Ptr bm, I pol, I at_, vt, B ov] 39
abbrev arO (c0 c1 : Nat) : Obj := blk [Ptr c0, Ptr c1] 32
/-- the message that tells an end -/
def resK (st : Int) : Int := if st = 4 then 6 else if st = 5 then 7 else if st = 6 then 8 else 0
theorem resK_in {st : Int} (h : 4 ≤ st ∧ st ≤ 6) : resK st = st + 2 := by
  unfold resK; repeat' split
  all_goals omega
theorem resK_no {st : Int} (h : ¬ (4 ≤ st ∧ st ≤ 6)) : resK st = 0 := by
  unfold resK; repeat' split
  all_goals omega
theorem tresult_any {w : World} (x : Gl) : Cl Tryz.prog 63 [.agg ⟨gC x⟩] w (fun v w' => v = .agg ⟨[I (resK x.st), I x.c, I x.n, I 0, S x.rs]⟩ ∧ St w NoneS [] w') := by
  have hSt := St.refl w NoneS
  obtain ⟨gc, gn, gs, ga, ge, gq, gr⟩ := x
  dsimp only
  rcases (show gs = 4 ∨ gs = 5 ∨ gs = 6 ∨ (gs ≠ 4 ∧ gs ≠ 5 ∧ gs ≠ 6) by omega) with rfl | rfl | rfl | ⟨h4, h5, h6⟩
  rotate_left 3
  · have e : resK gs = 0 := resK_no (by omega)
    rw [e]
    refine enter Tryz.func63 rfl Tryz.ntmps63 rfl ?_
    repeat' (first | (refine WL_box rfl rfl rfl hSt ?_; clear hSt; intro w nb hnb hSt; replace hSt := hSt.front; dsimp only [zcells] at hSt) | (refine WL_alloc hT rfl rfl rfl hSt ?_; clear hSt; intro w nb hnb hSt; replace hSt := hSt.front; dsimp only [zcells] at hSt) | refine stepA ?_ | (refine stepS ?_; clear hSt; intro w hSt; dsimp only [spl, List.set] at hSt) | (refine stepB ?_; clear hSt; intro w nb hnb hSt; dsimp only [zcells, List.nil_append, List.cons_append] at hSt) | (refine W_quiet hT (by decide +kernel) hSt ?_; clear hSt; (repeat' (first | (apply QL_ev rfl rfl; (intro w hSt; (first | exact Ev_auto))) | refine QL_pass rfl rfl ?_ | (refine QL_guardP rfl rfl (fun hc => ?_) (fun hc => ?_) <;> try exact absA) | (refine QL_guard rfl rfl (fun hc => ?_) (fun hc => ?_) <;> (try exact absA) <;> (fail_if_success (change true = true at hc)) <;> (fail_if_success (change false = false at hc))))); all_goals (refine QL_nil (fun w hSt => ?_))) | (refine stepG ?_ ?_ <;> intro hc <;> (try exact absA) <;> (fail_if_success (change true = true at hc)) <;> (fail_if_success (change false = false at hc))) | fail)
    all_goals try (exfalso; first | omega | (simp at hc; done) | (exact hc rfl))
    all_goals exact end_of (resc1 rfl hT rfl rfl (hSt.at 1 rfl) rfl rfl) ⟨rfl, hSt.nil⟩
  all_goals
    refine enter Tryz.func63 rfl Tryz.ntmps63 rfl ?_
    repeat' (first | (refine WL_box rfl rfl rfl hSt ?_; clear hSt; intro w nb hnb hSt; replace hSt := hSt.front; dsimp only [zcells] at hSt) | (refine WL_alloc hT rfl rfl rfl hSt ?_; clear hSt; intro w nb hnb hSt; replace hSt := hSt.front; dsimp only [zcells] at hSt) | refine stepA ?_ | (refine stepS ?_; clear hSt; intro w hSt; dsimp only [spl, List.set] at hSt) | (refine stepB ?_; clear hSt; intro w nb hnb hSt; dsimp only [zcells, List.nil_append, List.cons_append] at hSt) | (refine W_quiet hT (by decide +kernel) hSt ?_; clear hSt; (repeat' (first | (apply QL_ev rfl rfl; (intro w hSt; (first | exact Ev_auto))) | refine QL_pass rfl rfl ?_ | (refine QL_guardP rfl rfl (fun hc => ?_) (fun hc => ?_) <;> try exact absA) | (refine QL_guard rfl rfl (fun hc => ?_) (fun hc => ?_) <;> (try exact absA) <;> (fail_if_success (change true = true at hc)) <;> (fail_if_success (change false = false at hc))))); all_goals (refine QL_nil (fun w hSt => ?_))) | (refine stepG ?_ ?_ <;> intro hc <;> (try exact absA) <;> (fail_if_success (change true = true at hc)) <;> (fail_if_success (change false = false at hc))) | fail)
    all_goals try (exfalso; first | omega | (simp at hc; done) | (exact hc rfl))
    all_goals exact end_of (resc1 rfl hT rfl rfl (hSt.at 1 rfl) rfl rfl) ⟨rfl, hSt.nil⟩
section
variable {w0 : World} {sg ar bs bj bm c0 c1 cz mb : Nat} {s : Sv} {HS : List (Nat × Obj)} {sv vt : Value} {pol at_ nu retry : Int} {ov : Bool} {bl : List Nat} {gs : List Ce} {told : List Gl}
theorem tell_any (hz : (nu = 1 ∧ cz = c0) ∨ (nu = 2 ∧ cz = c1)) (hl : bl.length = gs.length) (hh : Has w0 ((sg, stO ar sv bm pol at_ vt ov) :: (ar, arO c0 c1) :: CH cz mb bl nu retry gs)) (k n tn : Int) (tx : List UInt8) (he : (recvF nu gs k nu n tn tx).1 = 0) :
    Cl Tryz.prog 61 [Ptr sg, .agg ⟨[I k, I nu, I n, I tn, S tx]⟩] w0 (fun v w' => v = B true ∧ St w0 (InH ((sg, stO ar sv bm pol at_ vt ov) :: (ar, arO c0 c1) :: CH cz mb bl nu retry gs)) ((sg, stO ar sv bm pol at_ vt ov) :: (ar, arO c0 c1) :: CH cz mb bl nu retry (recvF nu gs k nu n tn tx).2) w') := by
  have hSt := hh.st
  generalize InH _ = SS at hSt ⊢
  have hrc := fun {w : World} hh => receive_any (w0 := w) (cb := cz) (mb := mb) (bs := bl) (num := nu) (retry := retry) (gs := gs) hh hl k nu n tn tx
  rw [he] at hrc
  clear hh
  rcases hz with ⟨rfl, rfl⟩ | ⟨rfl, rfl⟩
  all_goals
    refine enter Tryz.func61 rfl Tryz.ntmps61 rfl ?_
    repeat' (first | (refine WL_box rfl rfl rfl hSt ?_; clear hSt; intro w nb hnb hSt; replace hSt := hSt.front; dsimp only [zcells] at hSt) | (refine W_tail 11 hT (by decide +kernel) hSt ?_; clear hSt; intro w hSt; simp only [List.take_succ_cons, List.take_zero]; (repeat' (first | (apply SL_ev rfl rfl; (first | exact Ev_auto)) | refine SL_pass rfl rfl ?_ | (refine SL_guardP rfl rfl (fun hc => ?_) (fun hc => ?_) <;> try exact absA) | (refine SL_guard rfl rfl (fun hc => ?_) (fun hc => ?_) <;> (try exact absA) <;> (fail_if_success (change true = true at hc)) <;> (fail_if_success (change false = false at hc))))); all_goals (refine SL_nil ?_; simp only [List.drop_succ_cons, List.drop_zero])) | (refine WL_isCall (f := 17) ?_; refine WL_call (ok_call hT rfl) rfl rfl rfl (hrc (St.hasE (Ha := [_, _, _]) hSt)) ?_; rintro v w2 ⟨rfl, hc2⟩; replace hSt := St.callE (Ha := [_, _, _]) hSt hc2; clear hc2) | refine stepA ?_ | (refine stepS ?_; clear hSt; intro w hSt; dsimp only [spl, List.set] at hSt) | (refine stepB ?_; clear hSt; intro w nb hnb hSt; dsimp only [zcells, List.nil_append, List.cons_append] at hSt) | (refine W_quiet hT (by decide +kernel) hSt ?_; clear hSt; (repeat' (first | (apply QL_ev rfl rfl; (intro w hSt; (first | exact Ev_auto))) | refine QL_pass rfl rfl ?_ | (refine QL_guardP rfl rfl (fun hc => ?_) (fun hc => ?_) <;> try exact absA) | (refine QL_guard rfl rfl (fun hc => ?_) (fun hc => ?_) <;> (try exact absA) <;> (fail_if_success (change true = true at hc)) <;> (fail_if_success (change false = false at hc))))); all_goals (refine QL_nil (fun w hSt => ?_))) | (refine stepG ?_ ?_ <;> intro hc <;> (try exact absA) <;> (fail_if_success (change true = true at hc)) <;> (fail_if_success (change false = false at hc))) | fail)
    all_goals try (exfalso; first | omega | (simp at hc; done) | (exact hc rfl))
    all_goals exact ret1 rfl rfl ⟨rfl, hSt.right (Ha := [_])⟩
theorem revive_any (hG : Gb w0) (hp : 1 ≤ pol ∧ pol ≤ 3) (hTG : TG s nu gs told) (hW : SW bs bj bm s HS) (hh : Has w0 ((sg, stO ar (Ptr bs) bm pol at_ vt false) :: HS)) (hn : NoG (InH ((sg, stO ar (Ptr bs) bm pol at_ vt false) :: HS))) :
    Cl Tryz.prog 39 [Ptr sg] w0 (fun v w' => v = B true ∧ ((∃ bs' bj' s' HS', SW bs' bj' bm s' HS' ∧ reviveS pol s = some s' ∧ (s.m.down = false → bs' = bs) ∧ St w0 (InH ((sg, stO ar (Ptr bs) bm pol at_ vt false) :: HS)) ((sg, stO ar (Ptr bs') bm pol at_ vt false) :: HS') w') ∨ (reviveS pol s = none ∧ St w0 (InH ((sg, stO ar (Ptr bs) bm pol at_ vt false) :: HS)) [(sg, stO ar (.pointer none) bm pol at_ vt true)] w'))) := by
  have hSt := hh.st
  generalize InH _ = SS at hSt hn ⊢
  clear hh
  have hmo := (hTG.svk (n := 0) (by omega)).m
  have hdn := fun {w : World} (hb : w.heap[bm]? = some s.m.obj) => down_any hb hmo
  by_cases hd : s.m.down = true
  · rw [hd] at hdn
    obtain ⟨r1, r2, r3⟩ := hTG.reopen hd (pol := pol) (lim := 3) ⟨hp.1, hp.2, by decide, by decide⟩
    replace hSt : St w0 SS [(sg, stO ar (Ptr bs) bm pol at_ vt false), (bm, s.m.obj)] w0 := hSt.sublist (hW.med.cons_cons _)
    have hrc := fun {w : World} (hb : w.heap[bm]? = some s.m.obj) => recover_any hb hmo
    rw [r1] at hrc
    have ho1 := fun {w : World} (hG : Gb w) hb hn => sopen_any (w0 := w) hG (bm := bm) (m := s.m.recover.2) hb (Med.Ok.recover hmo) hn pol 3
    have hrs : reviveS pol s = if (openS pol 3 s.m.recover.2).1 = 0 then some (openS pol 3 s.m.recover.2).2 else none := by unfold reviveS; rw [if_pos hd]
    generalize openS pol 3 s.m.recover.2 = r at ho1 r2 r3 hrs
    obtain ⟨e, t⟩ := r
    dsimp only at ho1 r2 r3 hrs
    rcases r2 with rfl | rfl
    · replace ho1 : ∀ {w : World} (hG : Gb w) (hb : w.heap[bm]? = some s.m.recover.2.obj) (hn : NoG (· = bm)), Cl Tryz.prog 7 [I pol, I 3, Ptr bm] w (fun v w' => ∃ bs bj H', v = .tuple ⟨[Ptr bs, I 0]⟩ ∧ SW bs bj bm t H' ∧ St w (· = bm) H' w') := fun hG hb hn => (ho1 hG hb hn).mono (by
        rintro v w' (⟨h, _⟩ | ⟨_, h⟩)
        · exact absurd rfl h
        · exact h)
      obtain ⟨q1, q2, q3⟩ := r3 rfl
      refine enter Tryz.func39 rfl Tryz.ntmps39 rfl ?_
      repeat' (first | (refine WL_isCall (f := 62) ?_; refine WL_call (ok_call hT rfl) rfl rfl rfl (hdn (hSt.own 1 _ _ rfl |>.1)) ?_; rintro v w2 ⟨rfl, hc2⟩; replace hSt := hSt.call0 hc2; clear hc2) | (refine WL_isCall (f := 66) ?_; refine WL_call (ok_call hT rfl) rfl rfl rfl (hrc (hSt.own 1 _ _ rfl).1) ?_; rintro v w2 ⟨rfl, hc2⟩; replace hSt := hSt.call1 (i := 1) rfl hc2; clear hc2; dsimp only [List.set] at hSt) | (refine W_ownS (Hs := [_]) [(0, false), (1, false), (2, false), (3, false), (4, false), (5, false), (6, false), (7, false), (8, true), (9, false), (10, false), (11, false), (12, false)] hT (by decide +kernel) rfl hSt ?_; clear hSt; intro w hSt; (repeat' (first | (apply HL_ev rfl rfl (St.left (H0 := [_]) hSt); (intro w hSt; first | (first | exact Ev_auto))) | (refine HL_pass rfl rfl (St.left (H0 := [_]) hSt) ?_) | (refine HL_one ?_; refine WL_isCall (f := 7) ?_; refine WL_call (ok_call hT rfl) rfl rfl rfl (ho1 (hG.later hSt hn) (hSt.own 1 _ _ rfl).1 ((hG.no hSt hn).atb (i := 1) rfl)) ?_; rintro v w2 ⟨bs2, bj2, HS2, rfl, hW2, hc2⟩; replace hSt := St.callE (Ha := [_]) hSt (hc2.wider (fun c hc => by subst hc; exact ⟨0, _, rfl⟩)); clear hc2; dsimp only [List.cons_append, List.nil_append] at hSt; refine WL_nil (At_oneH (St.left (H0 := [_]) hSt) ?_)) | fail)); refine HL_end ?_; simp only [List.length_cons, List.length_nil, List.drop_succ_cons, List.drop_zero]) | refine stepA ?_ | (refine stepS ?_; clear hSt; intro w hSt; dsimp only [spl, List.set] at hSt) | (refine stepB ?_; clear hSt; intro w nb hnb hSt; dsimp only [zcells, List.nil_append, List.cons_append] at hSt) | (refine W_quiet hT (by decide +kernel) hSt ?_; clear hSt; (repeat' (first | (apply QL_ev rfl rfl; (intro w hSt; (first | exact Ev_auto))) | refine QL_pass rfl rfl ?_ | (refine QL_guardP rfl rfl (fun hc => ?_) (fun hc => ?_) <;> try exact absA) | (refine QL_guard rfl rfl (fun hc => ?_) (fun hc => ?_) <;> (try exact absA) <;> (fail_if_success (change true = true at hc)) <;> (fail_if_success (change false = false at hc))))); all_goals (refine QL_nil (fun w hSt => ?_))) | (refine stepG ?_ ?_ <;> intro hc <;> (try exact absA) <;> (fail_if_success (change true = true at hc)) <;> (fail_if_success (change false = false at hc))) | fail)
      all_goals try (exfalso; first | omega | (simp at hc; done) | (exact hc rfl))
      all_goals exact ret1 rfl rfl ⟨rfl, .inl ⟨bs2, bj2, t, HS2, hW2, hrs.trans (if_pos rfl), fun h => absurd (hd.symm.trans h) (by simp), hSt⟩⟩
    · replace ho1 : ∀ {w : World} (hG : Gb w) (hb : w.heap[bm]? = some s.m.recover.2.obj) (hn : NoG (· = bm)), Cl Tryz.prog 7 [I pol, I 3, Ptr bm] w (fun v w' => v = .tuple ⟨[.pointer none, I 15]⟩ ∧ St w (· = bm) [(bm, t.m.obj)] w') := fun hG hb hn => (ho1 hG hb hn).mono (by
        rintro v w' (⟨_, h⟩ | ⟨h, _⟩)
        · exact h
        · exact absurd h (by decide))
      refine enter Tryz.func39 rfl Tryz.ntmps39 rfl ?_
      repeat' (first | (refine WL_isCall (f := 62) ?_; refine WL_call (ok_call hT rfl) rfl rfl rfl (hdn (hSt.own 1 _ _ rfl |>.1)) ?_; rintro v w2 ⟨rfl, hc2⟩; replace hSt := hSt.call0 hc2; clear hc2) | (refine WL_isCall (f := 66) ?_; refine WL_call (ok_call hT rfl) rfl rfl rfl (hrc (hSt.own 1 _ _ rfl).1) ?_; rintro v w2 ⟨rfl, hc2⟩; replace hSt := hSt.call1 (i := 1) rfl hc2; clear hc2; dsimp only [List.set] at hSt) | (refine W_ownS (Hs := [_]) [(0, false), (1, false), (2, false), (3, false), (4, false), (5, false), (6, false), (7, false), (8, true), (9, false), (10, false), (11, false), (12, false)] hT (by decide +kernel) rfl hSt ?_; clear hSt; intro w hSt; (repeat' (first | (apply HL_ev rfl rfl (St.left (H0 := [_]) hSt); (intro w hSt; first | (first | exact Ev_auto))) | (refine HL_pass rfl rfl (St.left (H0 := [_]) hSt) ?_) | (refine HL_one ?_; refine WL_isCall (f := 7) ?_; refine WL_call (ok_call hT rfl) rfl rfl rfl (ho1 (hG.later hSt hn) (hSt.own 1 _ _ rfl).1 ((hG.no hSt hn).atb (i := 1) rfl)) ?_; rintro v w2 ⟨rfl, hc2⟩; replace hSt := hSt.call1 (i := 1) rfl hc2; clear hc2; dsimp only [List.set, List.cons_append, List.nil_append] at hSt; refine WL_nil (At_oneH (St.left (H0 := [_]) hSt) ?_)) | fail)); refine HL_end ?_; simp only [List.length_cons, List.length_nil, List.drop_succ_cons, List.drop_zero]) | refine stepA ?_ | (refine stepS ?_; clear hSt; intro w hSt; dsimp only [spl, List.set] at hSt) | (refine stepB ?_; clear hSt; intro w nb hnb hSt; dsimp only [zcells, List.nil_append, List.cons_append] at hSt) | (refine W_quiet hT (by decide +kernel) hSt ?_; clear hSt; (repeat' (first | (apply QL_ev rfl rfl; (intro w hSt; (first | exact Ev_auto))) | refine QL_pass rfl rfl ?_ | (refine QL_guardP rfl rfl (fun hc => ?_) (fun hc => ?_) <;> try exact absA) | (refine QL_guard rfl rfl (fun hc => ?_) (fun hc => ?_) <;> (try exact absA) <;> (fail_if_success (change true = true at hc)) <;> (fail_if_success (change false = false at hc))))); all_goals (refine QL_nil (fun w hSt => ?_))) | (refine stepG ?_ ?_ <;> intro hc <;> (try exact absA) <;> (fail_if_success (change true = true at hc)) <;> (fail_if_success (change false = false at hc))) | fail)
      all_goals try (exfalso; first | omega | (simp at hc; done) | (exact hc rfl))
      all_goals exact ret1 rfl rfl ⟨rfl, .inr ⟨hrs.trans (if_neg (by decide)), hSt.sublist (List.sublist_append_left [_] [_])⟩⟩
  · have hd0 : s.m.down = false := by simpa using hd
    rw [hd0] at hdn
    refine enter Tryz.func39 rfl Tryz.ntmps39 rfl ?_
    repeat' (first | (refine WL_isCall (f := 62) ?_; refine WL_call (ok_call hT rfl) rfl rfl rfl (hdn (hW.hb (St.hasE (Ha := [_]) hSt))) ?_; rintro v w2 ⟨rfl, hc2⟩; replace hSt := hSt.call0 hc2; clear hc2) | refine stepA ?_ | (refine stepS ?_; clear hSt; intro w hSt; dsimp only [spl, List.set] at hSt) | (refine stepB ?_; clear hSt; intro w nb hnb hSt; dsimp only [zcells, List.nil_append, List.cons_append] at hSt) | (refine W_quiet hT (by decide +kernel) hSt ?_; clear hSt; (repeat' (first | (apply QL_ev rfl rfl; (intro w hSt; (first | exact Ev_auto))) | refine QL_pass rfl rfl ?_ | (refine QL_guardP rfl rfl (fun hc => ?_) (fun hc => ?_) <;> try exact absA) | (refine QL_guard rfl rfl (fun hc => ?_) (fun hc => ?_) <;> (try exact absA) <;> (fail_if_success (change true = true at hc)) <;> (fail_if_success (change false = false at hc))))); all_goals (refine QL_nil (fun w hSt => ?_))) | (refine stepG ?_ ?_ <;> intro hc <;> (try exact absA) <;> (fail_if_success (change true = true at hc)) <;> (fail_if_success (change false = false at hc))) | fail)
    all_goals try (exfalso; first | omega | (simp at hc; done) | (exact hc rfl))
    all_goals exact ret1 rfl rfl ⟨rfl, .inl ⟨bs, bj, s, HS, hW, reviveS_up hd0, fun _ => rfl, hSt⟩⟩
end
end Go.Proofs.YthkimkgphaiagaaGreatDoor
