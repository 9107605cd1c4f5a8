/- Two servers in memory, the program's and the specification's, that are told alike: they are opened, asked, and an operation is performed on both. No conditions. -/
import Derived.Test.YtndkifkaejmibaaGreatDoorRve
import Derived.Test.YtndkifkaejmibaaGreatDoorRvf
import Derived.Test.YtndkifkaejmibaaGreatDoorSwe

namespace Go.Proofs.YtndkifkaejmibaaGreatDoor
open Go.RowKit
set_option maxRecDepth 4000
set_option linter.unusedVariables false
set_option linter.unusedSimpArgs false
set_option maxHeartbeats 16000000

/-! ## What stays true -/
theorem R4.of {s t : Sv} (h : R4 s) (e : t.j = s.j) : R4 t := by unfold R4; rw [e]; exact h
theorem nextS_j (s : Sv) : (nextS s).j = s.j := by
  unfold nextS
  split
  · rfl
  split <;> rfl
theorem preemptS_j (s : Sv) : (preemptS s).j = s.j := by unfold preemptS; split <;> rfl
theorem R4.decideS {s : Sv} (h : R4 s) (g : Gl) (ok : Bool) : R4 (decideS s g ok).2 := by
  have := h.recS (114 :: enc (decG1 g ok))
  unfold Go.Proofs.YtndkifkaejmibaaGreatDoor.decideS
  split <;> exact this
theorem R4.endAll : ∀ (l : List Nat) {s : Sv} (h : R4 s) (st at_ : Int) (rs : List UInt8), R4 (endAll s l st at_ rs).2
  | [], s, h, st, at_, rs => h
  | i :: l, s, h, st, at_, rs => by
    unfold Go.Proofs.YtndkifkaejmibaaGreatDoor.endAll
    split
    · exact h.endS i st at_ rs
    · exact R4.endAll l (h.endS i st at_ rs) st at_ rs
theorem R4.cancelS {s : Sv} (h : R4 s) (c n at_ : Int) : R4 (cancelS s c n at_).2 := by
  unfold Go.Proofs.YtndkifkaejmibaaGreatDoor.cancelS
  (repeat' split) <;> first | exact h | exact h.endS _ _ _ _
theorem R4.finishS {s : Sv} (h : R4 s) (st at_ : Int) (rs : List UInt8) : R4 (finishS s st at_ rs).2 := by
  unfold Go.Proofs.YtndkifkaejmibaaGreatDoor.finishS
  split
  · exact h
  split
  · exact h
  split
  · exact h
  split
  · exact h
  split
  · exact h
  dsimp only
  generalize (if st = 5 ∧ (gAt s.l s.cur.toNat).st = 3 then (6 : Int) else st) = st'
  split
  · exact h.endS _ _ _ _
  · exact (h.endS _ _ _ _).of (nextS_j _)
theorem R4.requestS {s : Sv} (h : R4 s) (c n at_ : Int) (rq : List UInt8) : R4 (requestS s c n at_ rq).2.2 := by
  unfold Go.Proofs.YtndkifkaejmibaaGreatDoor.requestS
  split
  · exact h
  split
  · exact h
  split
  · exact h
  split
  · exact h
  split
  · exact h
  split
  · exact h
  have hk : R4 (if s.pol = 2 then clearS s at_ else (0, s)).2 := by
    split
    · exact h.endAll _ _ _ _
    · exact h
  generalize (if s.pol = 2 then clearS s at_ else (0, s)) = k at hk ⊢
  dsimp only
  split
  · exact hk
  split
  · exact hk.decideS _ _
  · exact ((hk.decideS _ _).of (preemptS_j _)).of (nextS_j _)
theorem R4.perfS {s : Sv} (h : R4 s) (kd c d at_ : Int) (tx : List UInt8) : R4 (perfS s kd c d at_ tx) := by
  unfold Go.Proofs.YtndkifkaejmibaaGreatDoor.perfS
  split
  · exact h.cancelS c d at_
  split
  · unfold feedbackS; (repeat' split) <;> exact h
  split
  · exact h.finishS _ _ _
  split
  · exact h.finishS _ _ _
  · exact h.requestS _ _ _ _
theorem replayAll_j : ∀ (l : List (List UInt8)) (s t : Sv), replayAll s l = some t → t.j = s.j
  | [], s, t, h => by injection h with h; rw [← h]
  | x :: l, s, t, h => by
    rw [replayAll] at h
    cases hq : replayS s x with
    | none => rw [hq] at h; cases h
    | some u =>
      rw [hq] at h
      exact (replayAll_j l u t h).trans (replayS_some hq).2.1
theorem openS_r4 {pol lim : Int} {m : Med} : R4 (openS pol lim m).2 := by
  have h0 := @jOpen_r4 m
  unfold openS
  split
  · intro x hx; cases hx
  split
  · exact h0
  split
  · exact h0
  · rename_i s hs
    have h1 : R4 s := by unfold R4; rw [replayAll_j _ _ _ hs]; exact h0
    exact h1.endAll _ _ _ _

/-! ## In memory -/
section
variable {w w' : World} {H H' Hr X : List (Nat × Obj)} {Sx : Nat → Prop} {w0 : World}
theorem St.openC9 {b : Nat} {o : Obj} (h : St w0 Sx (X ++ ([(b, o)] ++ Hr)) w) (k : St w (· = b) H' w') : St w0 Sx (X ++ (H' ++ Hr)) w' :=
  h.cC (k.wider (fun c hc => by subst hc; exact ⟨0, o, rfl⟩))
theorem St.openR9 {b : Nat} {o : Obj} (h : St w0 Sx (X ++ (H ++ [(b, o)])) w) (k : St w (· = b) H' w') : St w0 Sx (X ++ (H ++ H')) w' :=
  h.cR (k.wider (fun c hc => by subst hc; exact ⟨0, o, rfl⟩))
theorem St.mem9 {b : Nat} {o : Obj} (h : St w0 Sx H w) (hx : (b, o) ∈ H) : w.heap[b]? = some o := h.has.mem hx
theorem NoG.c {X H1 H2 : List (Nat × Obj)} (h : NoG (InH (X ++ (H1 ++ H2)))) : NoG (InH H1) := h.sub fun x hx => List.mem_append_right _ (List.mem_append_left _ hx)
end
/-- what the program's server does to its medium alone -/
theorem sw_med {w0 : World} {bs bj bm : Nat} {s : Sv} {H : List (Nat × Obj)} {f : FuncId} {args : List Value} {V : Value} {m2 : Med} (hW : SW bs bj bm s H) (hh : Has w0 H) (hc : w0.heap[bm]? = some s.m.obj → Cl Tryz.prog f args w0 (fun v w' => v = V ∧ St w0 (· = bm) [(bm, m2.obj)] w')) :
    Cl Tryz.prog f args w0 (fun v w' => v = V ∧ ∃ H', SW bs bj bm { s with m := m2 } H' ∧ St w0 (InH H) H' w') := by
  obtain ⟨gv, Hg, ev, He, Hj, hog, hoe, hJ, rfl⟩ := hW
  have hhj : Has w0 Hj := hh.sublist ((List.sublist_append_right _ _).trans (List.sublist_cons_self _ _))
  refine (jw_of (m2 := m2) hJ hhj (hc (hJ.hb hhj))).mono ?_
  rintro v w' ⟨h1, Hj', hJ', hc⟩
  exact ⟨h1, _, ⟨gv, Hg, ev, He, Hj', hog, hoe, hJ', rfl⟩, St.callE (Ha := _ :: (Hg ++ He)) hh.st hc⟩
theorem rw_med {w0 : World} {br bw bv : Nat} {s : Sv} {H : List (Nat × Obj)} {f : FuncId} {args : List Value} {V : Value} {m2 : Med} (hR : RW br bw bv s H) (hh : Has w0 H) (hc : ∀ o, w0.heap[bv]? = some o → RefO o s.m → Cl Tryz.prog f args w0 (fun v w' => v = V ∧ ∃ o', RefO o' m2 ∧ St w0 (· = bv) [(bv, o')] w')) :
    Cl Tryz.prog f args w0 (fun v w' => v = V ∧ ∃ H', RW br bw bv { s with m := m2 } H' ∧ St w0 (InH H) H' w') := by
  obtain ⟨gv, Hg, ev, He, Hj, hog, hoe, hJ, rfl⟩ := hR
  have hhj : Has w0 Hj := hh.sublist ((List.sublist_append_right _ _).trans (List.sublist_cons_self _ _))
  refine (jr_of (m2 := m2) hJ hhj hc).mono ?_
  rintro v w' ⟨h1, Hj', hJ', hc⟩
  exact ⟨h1, _, ⟨gv, Hg, ev, He, Hj', hog, hoe, hJ', rfl⟩, St.callE (Ha := _ :: (Hg ++ He)) hh.st hc⟩
abbrev prO (bm bv : Nat) (sv xv : Value) : Obj := blk [Ptr bm, sv, Ptr bv, xv] 68
/-- both servers run -/
def PRun (pb bm bv : Nat) (s : Sv) (H : List (Nat × Obj)) : Prop :=
  ∃ bs bj br bw H1 H2, SW bs bj bm s H1 ∧ RW br bw bv s H2 ∧ H = (pb, prO bm bv (Ptr bs) (Ptr br)) :: (H1 ++ H2)
/-- neither server runs -/
def POff (pb bm bv : Nat) (m : Med) (H : List (Nat × Obj)) : Prop :=
  ∃ o, RefO o m ∧ H = [(pb, prO bm bv (.pointer none) (.pointer none)), (bm, m.obj), (bv, o)]
theorem gsame_any {w0 : World} {va vb : Value} {l : List Gl} (ha : SlAt w0 va 7 (l.map gC)) (hb : SlAt w0 vb 7 (l.map gC)) (hl : l.length ≤ 1000000) :
    Cl Tryz.prog 58 [va, vb] w0 (fun v w' => v = B true ∧ St w0 NoneS [] w') := by
  have hSt := St.refl w0 NoneS
  obtain ⟨a, ca, rfl, hca⟩ := ha.map
  obtain ⟨b, cb, rfl, hcb⟩ := hb.map
  refine enter Tryz.func58 rfl Tryz.ntmps58 rfl ?_
  repeat' (first | refine stepA ?_ | (refine stepS ?_; clear hSt; intro w hSt; dsimp only [spl, List.set] at hSt) | (refine stepB ?_; clear hSt; intro w nb hnb hSt; dsimp only [zcells, List.nil_append, List.cons_append] at hSt) | (refine stepG ?_ ?_ <;> intro hc <;> (try exact absA) <;> (fail_if_success (change true = true at hc)) <;> (fail_if_success (change false = false at hc))) | fail)
  all_goals try (exfalso; omega)
  refine W_sub (L' := [(5, I ((0 : Nat) : Int)), (0, .slice a l.length ca), (1, .slice b l.length cb)]) (by (repeat (first | exact Sub.nil _ | refine Sub.cons rfl ?_))) ?_
  refine W_loop1 (fun k (i : Nat) w => k = l.length - i ∧ i ≤ l.length ∧ St w0 NoneS [] w) (fun i => [(5, I (i : Int))]) l.length 0 rfl (by (repeat (first | exact Str.nil _ | apply Str.drop rfl | apply Str.keepU rfl | apply Str.keep rfl))) ⟨rfl, by omega, hSt⟩ (by (repeat (first | exact Sub.nil _ | refine Sub.cons rfl ?_))) ?_
  clear hSt
  rintro k i w ⟨hk, hi, hSt⟩ K hK
  by_cases hil : i < l.length
  · obtain ⟨x, hx⟩ : ∃ x, l[i]? = some x := ⟨_, List.getElem?_eq_getElem hil⟩
    have hlt9 : l.length - (i + 1) < k := by omega
    obtain ⟨b1, o1, m1, E1, z1, rfl, hb1, hc1, _⟩ := hca i _ hx
    obtain ⟨b2, o2, m2, E2, z2, rfl, hb2, hc2, _⟩ := hcb i _ hx
    rw [← Int.toNat_natCast i] at hc1 hc2
    repeat' (first | (apply WL_ev rfl rfl; exact Ev_loadN hT rfl rfl (hSt.base hb1 (fun e => e)) hc1 rfl) | (apply WL_ev rfl rfl; exact Ev_loadN hT rfl rfl (hSt.base hb2 (fun e => e)) hc2 rfl) | (apply WL_ev rfl rfl; exact Ev_struct_nyes (ok_eq rfl) rfl rfl rfl) | (refine W_tail 8 hT (by decide +kernel) hSt ?_; clear hSt; intro w hSt; simp only [List.take_succ_cons, List.take_zero]; (repeat' (first | (apply SL_ev rfl rfl; (first | (exact Ev_loadN hT rfl rfl (hSt.base hb1 (fun e => e)) hc1 rfl) | (exact Ev_loadN hT rfl rfl (hSt.base hb2 (fun e => e)) hc2 rfl) | (exact Ev_struct_nyes (ok_eq rfl) rfl rfl rfl) | exact Ev_auto)) | refine SL_pass rfl rfl ?_ | (refine SL_guardP rfl rfl (fun hc => ?_) (fun hc => ?_) <;> try exact absA) | (refine SL_guard rfl rfl (fun hc => ?_) (fun hc => ?_) <;> (try exact absA) <;> (fail_if_success (change true = true at hc)) <;> (fail_if_success (change false = false at hc))))); all_goals (refine SL_nil ?_; simp only [List.drop_succ_cons, List.drop_zero])) | refine stepA ?_ | (refine stepS ?_; clear hSt; intro w hSt; dsimp only [spl, List.set] at hSt) | (refine stepB ?_; clear hSt; intro w nb hnb hSt; dsimp only [zcells, List.nil_append, List.cons_append] at hSt) | (refine stepG ?_ ?_ <;> intro hc <;> (try exact absA) <;> (fail_if_success (change true = true at hc)) <;> (fail_if_success (change false = false at hc))) | fail)
    all_goals first | exact At_loop1 hK (k' := l.length - (i + 1)) (i + 1) hlt9 ⟨rfl, hil, hSt⟩ (by (repeat (first | exact Sub.nil _ | refine Sub.cons rfl ?_))) | (exfalso; omega)
  · obtain rfl : i = l.length := by omega
    repeat' (first | refine stepA ?_ | (refine stepS ?_; clear hSt; intro w hSt; dsimp only [spl, List.set] at hSt) | (refine stepB ?_; clear hSt; intro w nb hnb hSt; dsimp only [zcells, List.nil_append, List.cons_append] at hSt) | (refine stepG ?_ ?_ <;> intro hc <;> (try exact absA) <;> (fail_if_success (change true = true at hc)) <;> (fail_if_success (change false = false at hc))) | fail)
    all_goals first | exact ret1 rfl rfl ⟨rfl, hSt⟩ | (exfalso; omega)
section
variable {w0 : World} {pb bm bv : Nat} {m : Med} {s : Sv} {o : Obj} {sv xv : Value} {H : List (Nat × Obj)}
theorem popen_any (hG : Gb w0) (hro : RefO o m) (hm : m.Ok) (hh : Has w0 [(pb, prO bm bv sv xv), (bm, m.obj), (bv, o)]) (hv : oneV sv = true ∧ oneV xv = true) (hn : NoG (InH [(pb, prO bm bv sv xv), (bm, m.obj), (bv, o)])) (pol lim : Int) :
    Cl Tryz.prog 24 [Ptr pb, I pol, I lim] w0 (fun v w' => v = B true ∧ ∃ H', (((openS pol lim m).1 ≠ 0 ∧ POff pb bm bv (openS pol lim m).2.m H') ∨ ((openS pol lim m).1 = 0 ∧ PRun pb bm bv (openS pol lim m).2 H')) ∧ St w0 (InH [(pb, prO bm bv sv xv), (bm, m.obj), (bv, o)]) H' w') := by
  have hSt := hh.st
  generalize InH _ = SS at hSt hn ⊢
  have ho1 := fun {w : World} (hG : Gb w) hb hn => sopen_any (w0 := w) hG (bm := bm) hb hm hn pol lim
  have ho2 := fun {w : World} hb => ropen_any (w0 := w) (bv := bv) hb hro hm pol lim
  generalize openS pol lim m = r at ho1 ho2 ⊢
  obtain ⟨e, t⟩ := r
  dsimp only at ho1 ho2 ⊢
  by_cases he : e = 0
  · subst he
    replace ho1 : ∀ {w : World} (hG : Gb w) (hb : w.heap[bm]? = some m.obj) (hn : NoG (· = bm)), Cl Tryz.prog 8 [I pol, I lim, Ptr bm] w (fun v w' => ∃ bs bj H', v = .tuple ⟨[Ptr bs, I 0]⟩ ∧ SW bs bj bm t H' ∧ St w (· = bm) H' w') := fun hG hb hn => (ho1 hG hb hn).mono (by
      rintro v w' (⟨h, _⟩ | ⟨_, h⟩)
      · exact absurd rfl h
      · exact h)
    replace ho2 : ∀ {w : World} (hb : w.heap[bv]? = some o), Cl Tryz.prog 45 [I pol, I lim, Ptr bv] w (fun v w' => ∃ br bw H', v = .tuple ⟨[Ptr br, I 0]⟩ ∧ RW br bw bv t H' ∧ St w (· = bv) H' w') := fun hb => (ho2 hb).mono (by
      rintro v w' (⟨h, _⟩ | ⟨_, h⟩)
      · exact absurd rfl h
      · exact h)
    refine enter Tryz.func24 rfl Tryz.ntmps24 rfl ?_
    repeat' (first | (refine WL_isCall (f := 8) ?_; refine WL_call (ok_call hT rfl) rfl rfl rfl (ho1 (hG.later hSt hn) (hSt.own 1 _ _ rfl).1 ((hG.no hSt hn).atb (i := 1) rfl)) ?_; rintro v w2 ⟨bs, bj, H1, rfl, hW, hc2⟩; replace hSt := St.openC9 (X := [_]) hSt hc2; clear hc2; dsimp only [List.cons_append, List.nil_append] at hSt) | (refine WL_isCall (f := 45) ?_; refine WL_call (ok_call hT rfl) rfl rfl rfl (ho2 (St.mem9 hSt (List.mem_cons_of_mem _ (List.mem_append_right _ (List.mem_singleton.2 rfl))))) ?_; rintro v w2 ⟨br, bw, H2, rfl, hR, hc2⟩; replace hSt := St.openR9 (X := [_]) hSt hc2; clear hc2; dsimp only [List.cons_append, List.nil_append] at hSt) | (apply WL_ev rfl rfl; exact Ev_as (v2 := B true) (Ev_beql rfl rfl (ok_boo hT rfl)) (by first | (simp; done) | fail)) | refine stepA ?_ | (refine stepS ?_; clear hSt; intro w hSt; dsimp only [spl, List.set] at hSt) | (refine stepB ?_; clear hSt; intro w nb hnb hSt; dsimp only [zcells, List.nil_append, List.cons_append] at hSt) | (refine stepG ?_ ?_ <;> intro hc <;> (try exact absA) <;> (fail_if_success (change true = true at hc)) <;> (fail_if_success (change false = false at hc))) | fail)
    all_goals first | exact ret1 rfl rfl ⟨rfl, _, .inr ⟨rfl, _, _, _, _, _, _, hW, hR, rfl⟩, hSt⟩ | (exfalso; omega)
  · replace ho1 : ∀ {w : World} (hG : Gb w) (hb : w.heap[bm]? = some m.obj) (hn : NoG (· = bm)), Cl Tryz.prog 8 [I pol, I lim, Ptr bm] w (fun v w' => v = .tuple ⟨[.pointer none, I e]⟩ ∧ St w (· = bm) [(bm, t.m.obj)] w') := fun hG hb hn => (ho1 hG hb hn).mono (by
      rintro v w' (⟨_, h⟩ | ⟨h, _⟩)
      · exact h
      · exact absurd h he)
    replace ho2 : ∀ {w : World} (hb : w.heap[bv]? = some o), Cl Tryz.prog 45 [I pol, I lim, Ptr bv] w (fun v w' => v = .tuple ⟨[.pointer none, I e]⟩ ∧ ∃ o', RefO o' t.m ∧ St w (· = bv) [(bv, o')] w') := fun hb => (ho2 hb).mono (by
      rintro v w' (⟨_, h⟩ | ⟨h, _⟩)
      · exact h
      · exact absurd h he)
    refine enter Tryz.func24 rfl Tryz.ntmps24 rfl ?_
    repeat' (first | (refine WL_isCall (f := 8) ?_; refine WL_call (ok_call hT rfl) rfl rfl rfl (ho1 (hG.later hSt hn) (hSt.own 1 _ _ rfl).1 ((hG.no hSt hn).atb (i := 1) rfl)) ?_; rintro v w2 ⟨rfl, hc2⟩; replace hSt := hSt.call1 (i := 1) rfl hc2; clear hc2; dsimp only [List.set] at hSt) | (refine WL_isCall (f := 45) ?_; refine WL_call (ok_call hT rfl) rfl rfl rfl (ho2 (hSt.own 2 _ _ rfl).1) ?_; rintro v w2 ⟨rfl, o2, hro2, hc2⟩; replace hSt := hSt.call1 (i := 2) rfl hc2; clear hc2; dsimp only [List.set] at hSt) | (apply WL_ev rfl rfl; exact Ev_as (v2 := B true) (Ev_eql rfl rfl) (by first | (simp; done) | fail)) | (apply WL_ev rfl rfl; exact Ev_as (v2 := B false) (Ev_eql rfl rfl) (by first | (simp [he]; done) | fail)) | (apply WL_ev rfl rfl; exact Ev_as (v2 := B true) (Ev_beql rfl rfl (ok_boo hT rfl)) (by first | (simp; done) | fail)) | refine stepA ?_ | (refine stepS ?_; clear hSt; intro w hSt; dsimp only [spl, List.set] at hSt) | (refine stepB ?_; clear hSt; intro w nb hnb hSt; dsimp only [zcells, List.nil_append, List.cons_append] at hSt) | (refine stepG ?_ ?_ <;> intro hc <;> (try exact absA) <;> (fail_if_success (change true = true at hc)) <;> (fail_if_success (change false = false at hc))) | fail)
    all_goals first | exact ret1 rfl rfl ⟨rfl, _, .inl ⟨he, _, hro2, rfl⟩, hSt⟩ | (exfalso; omega)
end
end Go.Proofs.YtndkifkaejmibaaGreatDoor
