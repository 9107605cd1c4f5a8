/- The server in memory: all goals; the outcomes. No conditions. -/
import Derived.Test.YthkimkgphaiagaaGreatDoorMQ
import Derived.Test.YthkimkgphaiagaaGreatDoorMF
import Derived.Test.YthkimkgphaiagaaGreatDoorMI

namespace Go.Proofs.YthkimkgphaiagaaGreatDoor
open Go.RowKit
set_option maxRecDepth 4000
set_option linter.unusedVariables false
set_option linter.unusedSimpArgs false
set_option maxHeartbeats 8000000

theorem one_gC (l : List Gl) : (l.map gC).flatten.all oneV = true := by
  induction l with
  | nil => rfl
  | cons x l ih => exact ih
def outsS (s : Sv) : List Gl := s.ends.map fun i => gAt s.l i
theorem ints_flat (l : List Nat) : ints l = l.flatMap fun k : Nat => [I (k : Int)] := by
  induction l with
  | nil => rfl
  | cons x l ih => rw [List.flatMap_cons, ← ih]; rfl
section
variable {w0 : World} {bs bj bm : Nat} {s : Sv} {H : List (Nat × Obj)}
theorem outcomes_any (hW : SW bs bj bm s H) (hl : s.l.length ≤ 64) (he : s.ends.length ≤ 1000000) (hel : ∀ i ∈ s.ends, i < s.l.length) (hh : Has w0 H) :
    Cl Tryz.prog 25 [Ptr bs] w0 (fun v w' => ∃ H1, OwnSl v 62 7 ((outsS s).flatMap gC) (outsS s).length H1 ∧ St w0 NoneS H1 w') := by
  obtain ⟨gv, Hg, ev, He, Hj, hog, hoe, hJ, rfl⟩ := id hW
  have hb := hh.own 0 _ _ rfl
  have hSt := St.refl w0 NoneS
  have hg := OwnSl.slAt gC_len hog (hh.sublist sub_g)
  rw [ints_flat] at hoe
  have hes := OwnSl.slAt (f := fun k : Nat => [I (k : Int)]) (fun _ => rfl) hoe (hh.sublist (List.Sublist.trans (List.sublist_append_right Hg He) (List.Sublist.trans (List.sublist_append_left _ Hj) (List.sublist_cons_self _ _))))
  obtain ⟨ga, gcc, rfl, hcs⟩ := hg.map
  obtain ⟨ea, ecc, rfl, hce⟩ := hes.map
  clear hh hW hog hoe
  obtain ⟨pol, lim, l, ends, cur, fb, stop, m, j⟩ := s
  dsimp only at hl he hel hcs hce hb ⊢
  unfold outsS; dsimp only
  refine enter Tryz.func25 rfl Tryz.ntmps25 rfl ?_
  repeat' (first | (apply WL_ev rfl rfl; exact Ev_load1 hT rfl rfl (hSt.base hb (fun e => e)) rfl) | refine stepA ?_ | (refine stepS ?_; clear hSt; intro w hSt; dsimp only [spl, List.set] at hSt) | (refine stepB ?_; clear hSt; intro w nb hnb hSt; dsimp only [zcells, List.nil_append, List.cons_append] at hSt) | (refine stepG ?_ ?_ <;> intro hc <;> (try exact absA) <;> (fail_if_success (change true = true at hc)) <;> (fail_if_success (change false = false at hc))) | fail)
  refine W_sub (L' := [(13, I ((0 : Nat) : Int)), (3, .slice none 0 0), (0, Ptr bs), (11, .slice ea ends.length ecc), (12, I ends.length)]) (by (repeat (first | exact Sub.nil _ | refine Sub.cons rfl ?_))) ?_
  refine W_loop2 (fun k (i : Nat) (v : Value) w => k = ends.length - i ∧ i ≤ ends.length ∧ ∃ H1, OwnSl v 62 7 (((ends.take i).map fun i => gAt l i).flatMap gC) i H1 ∧ St w0 NoneS ([] ++ H1) w) (fun i v => [(13, I (i : Int)), (3, v)]) ends.length 0 (.slice none 0 0) rfl (by (repeat (first | exact Str.nil _ | apply Str.drop rfl | apply Str.keepU rfl | apply Str.keep rfl))) ⟨rfl, by omega, [], OwnSl.nil _ _, hSt⟩ (by (repeat (first | exact Sub.nil _ | refine Sub.cons rfl ?_))) ?_
  clear hSt
  rintro k i v w ⟨hk, hi, H1, ho, hSt⟩ K hK
  by_cases hil : i < ends.length
  · obtain ⟨x, hx⟩ : ∃ x, ends[i]? = some x := ⟨_, List.getElem?_eq_getElem hil⟩
    have hxl := hel x (List.mem_of_getElem? hx)
    have hgx := gAt_some hxl
    obtain ⟨b1, o1, m1, E1, z1, rfl, hb1, hc1, _⟩ := hce i _ hx
    obtain ⟨b2, o2, m2, E2, z2, rfl, hb2, hc2, _⟩ := hcs x _ hgx
    have hq1 := SlAt.cell (j := 0) hc1 rfl
    rw [← Int.toNat_natCast i] at hq1
    rw [← Int.toNat_natCast x] at hc2
    have hlt9 : ends.length - (i + 1) < k := by omega
    have hst : ((ends.take (i + 1)).map fun i => gAt l i).flatMap gC = ((ends.take i).map fun i => gAt l i).flatMap gC ++ gC (gAt l x) := by
      rw [List.take_add_one, hx, List.map_append, List.flatMap_append]; simp
    obtain ⟨va, vc, rfl⟩ := ho.len
    repeat' (first | (apply WL_ev rfl rfl; exact Ev_load1 hT rfl rfl (hSt.base hb1 (fun e => e)) hq1) | (apply WL_ev rfl rfl; exact Ev_load1 hT rfl rfl (hSt.base hb (fun e => e)) rfl) | (apply WL_ev rfl rfl; exact Ev_loadN hT rfl rfl (hSt.base hb2 (fun e => e)) hc2 rfl) | (refine WL_push1 hT rfl rfl rfl rfl rfl rfl rfl rfl rfl rfl rfl rfl (fun _ => rfl) rfl (H0 := []) hSt ho (by omega) (by omega) ?_; clear hSt; intro v2 w H2 u ho2 hSt) | refine stepA ?_ | (refine stepS ?_; clear hSt; intro w hSt; dsimp only [spl, List.set] at hSt) | (refine stepB ?_; clear hSt; intro w nb hnb hSt; dsimp only [zcells, List.nil_append, List.cons_append] at hSt) | (refine stepG ?_ ?_ <;> intro hc <;> (try exact absA) <;> (fail_if_success (change true = true at hc)) <;> (fail_if_success (change false = false at hc))) | fail)
    exact At_loop2 hK (k' := ends.length - (i + 1)) (i + 1) _ hlt9 ⟨rfl, by omega, H2, by rw [hst]; exact ho2, hSt⟩ (by (repeat (first | exact Sub.nil _ | refine Sub.cons rfl ?_)))
  · obtain rfl : i = ends.length := by omega
    rw [List.take_length] at ho
    repeat' (first | refine stepA ?_ | (refine stepS ?_; clear hSt; intro w hSt; dsimp only [spl, List.set] at hSt) | (refine stepB ?_; clear hSt; intro w nb hnb hSt; dsimp only [zcells, List.nil_append, List.cons_append] at hSt) | (refine stepG ?_ ?_ <;> intro hc <;> (try exact absA) <;> (fail_if_success (change true = true at hc)) <;> (fail_if_success (change false = false at hc))) | fail)
    exact ret1 rfl rfl ⟨H1, by rw [List.length_map]; exact ho, hSt⟩
end
end Go.Proofs.YthkimkgphaiagaaGreatDoor

namespace Go.Proofs.YthkimkgphaiagaaGreatDoor
open Go.RowKit
set_option maxRecDepth 4000
set_option linter.unusedVariables false
set_option linter.unusedSimpArgs false
set_option maxHeartbeats 8000000

theorem jOpen_ok {m : Med} (hm : m.Ok) : (jOpen m).2.1.Ok := by
  unfold jOpen
  split
  · exact hm
  split
  · exact hm.trim
  · exact hm.trim.sync
theorem jOpen_len {m : Med} (hm : m.Ok) : (jOpen m).2.2.l.length ≤ 30000 := by
  have h1 := (verG_bd (m.s.length + 1) 0 m.s (by decide)).2.1
  have h2 := (verG_bd (m.s.length + 1) 0 m.s (by decide)).1
  have h3 := hm.s
  have h4 := hm.z
  have h5 : (verF m.s).1.length ≤ 30000 := by
    have e : verF m.s = verG (m.s.length + 1) 0 m.s := rfl
    rw [e]; omega
  unfold jOpen
  split
  · exact Nat.zero_le _
  split
  · exact Nat.zero_le _
  · exact h5
theorem strs_at {L : List (List UInt8)} {i : Nat} {x : List UInt8} (hx : L[i]? = some x) (rs : List Value) : (strs L ++ rs)[0 + (i : Int).toNat * 1]? = some (S x) := by
  rw [Nat.zero_add, Int.toNat_natCast, Nat.mul_one, List.getElem?_append_left (by rw [List.length_map]; exact (List.getElem?_eq_some_iff.1 hx).1), List.getElem?_map, hx]; rfl
theorem replayS_some {s t : Sv} {x : List UInt8} (h : replayS s x = some t) : t.m = s.m ∧ t.j = s.j ∧ t.ends.length ≤ s.ends.length + 1 ∧ (s.l.length ≤ 64 → t.l.length ≤ 64) ∧ t.pol = s.pol ∧ t.lim = s.lim ∧ t.cur = s.cur ∧ t.fb = s.fb ∧ t.stop = s.stop := by
  unfold replayS at h
  split at h
  · cases h
  split at h
  · cases h
  split at h
  · split at h
    · rename_i hA
      injection h with h; subst h
      exact ⟨rfl, rfl, Nat.le_succ _, fun _ => by show (s.l ++ [_]).length ≤ 64; rw [List.length_append, List.length_singleton]; omega, rfl, rfl, rfl, rfl, rfl⟩
    · cases h
  · split at h
    · injection h with h; subst h
      exact ⟨rfl, rfl, by show (s.ends ++ [_]).length ≤ _; rw [List.length_append, List.length_singleton]; exact Nat.le_refl _, fun h => by show (s.l.set _ _).length ≤ 64; rw [List.length_set]; exact h, rfl, rfl, rfl, rfl, rfl⟩
    · cases h
theorem Svk.replay {s t : Sv} {x : List UInt8} {n : Nat} (h : Svk s (n + 1)) (hr : replayS s x = some t) : Svk t n := by
  obtain ⟨h1, h2, h3, h4, _⟩ := replayS_some hr
  exact ⟨h1 ▸ h.m, by rw [h2]; have := h.j; omega, h4 h.l, by have := h.e; omega⟩
theorem rall_none {s : Sv} {x : List UInt8} {l : List (List UInt8)} (h : replayS s x = none) : replayAll s (x :: l) = none := by rw [replayAll, h]
theorem rall_some {s t : Sv} {x : List UInt8} {l : List (List UInt8)} (h : replayS s x = some t) : replayAll s (x :: l) = replayAll t l := by rw [replayAll, h]
theorem SW.med {bs bj bm : Nat} {s : Sv} {H : List (Nat × Obj)} (hW : SW bs bj bm s H) : List.Sublist [(bm, s.m.obj)] H := by
  obtain ⟨gv, Hg, ev, He, Hj, hog, hoe, hJ, rfl⟩ := hW
  obtain ⟨rv, H1, ho, rfl⟩ := hJ
  exact List.Sublist.cons _ ((List.Sublist.cons _ (List.Sublist.cons_cons _ (List.nil_sublist _))).trans (List.sublist_append_right _ _))
/-- a server that is opened on a medium -/
theorem sopen_any {w0 : World} (hG : Gb w0) {bm : Nat} {m : Med} (hb : w0.heap[bm]? = some m.obj) (hm : m.Ok) (hn : NoG (· = bm)) (pol lim : Int) :
    Cl Tryz.prog 7 [I pol, I lim, Ptr bm] w0 (fun v w' => ((openS pol lim m).1 ≠ 0 ∧ v = .tuple ⟨[.pointer none, I (openS pol lim m).1]⟩ ∧ St w0 (· = bm) [(bm, (openS pol lim m).2.m.obj)] w') ∨
      ((openS pol lim m).1 = 0 ∧ ∃ bs bj H', v = .tuple ⟨[Ptr bs, I 0]⟩ ∧ SW bs bj bm (openS pol lim m).2 H' ∧ St w0 (· = bm) H' w')) := by
  have hSt := (St.refl w0 (· = bm)).know hb (Or.inl rfl) (by simp)
  dsimp only [List.nil_append, List.cons_append] at hSt
  have hjo := fun {w : World} (hD : Deb w) (hb : w.heap[bm]? = some m.obj) => jopen_any hD hb hm (fun e => hn.1 e.symm)
  have hmo := jOpen_ok hm
  have hjl := jOpen_len hm
  clear hb
  unfold openS
  generalize jOpen m = r at hjo hjl hmo ⊢
  obtain ⟨e0, m2, j2⟩ := r
  dsimp only at hjo hjl hmo ⊢
  by_cases hpl : ¬ (1 ≤ pol ∧ pol ≤ 3 ∧ 0 ≤ lim ∧ lim ≤ 64)
  · rw [if_pos hpl]
    refine enter Tryz.func7 rfl Tryz.ntmps7 rfl ?_
    repeat' (first | (refine WL_isCall (f := 26) ?_; refine WL_call (ok_call hT rfl) rfl rfl rfl (in_any _ _ _) ?_; rintro v w' ⟨rfl, hc2⟩; replace hSt := hSt.call0 hc2; clear hc2) | refine stepA ?_ | (refine stepS ?_; clear hSt; intro w hSt; dsimp only [spl, List.set] at hSt) | (refine stepB ?_; clear hSt; intro w nb hnb hSt; dsimp only [zcells, List.nil_append, List.cons_append] at hSt) | (refine stepG ?_ ?_ <;> intro hc <;> (try exact absA) <;> (fail_if_success (change true = true at hc)) <;> (fail_if_success (change false = false at hc))) | fail)
    all_goals first | exact ret2 rfl rfl rfl (.inl ⟨by simp, rfl, hSt⟩) | (exfalso; omega)
  rw [if_neg hpl]
  by_cases he0 : e0 ≠ 0
  · rw [if_pos he0]
    have hjn : ∀ {w : World} (hD : Deb w) (hb : w.heap[bm]? = some m.obj), Cl Tryz.prog 27 [Ptr bm] w (fun v w' => v = .tuple ⟨[.pointer none, I e0]⟩ ∧ St w (· = bm) [(bm, m2.obj)] w') := fun hD hb => (hjo hD hb).mono (by
      rintro v w' (⟨_, h, k⟩ | ⟨h, _⟩)
      · exact ⟨h, k⟩
      · exact absurd h he0)
    clear hjo
    refine enter Tryz.func7 rfl Tryz.ntmps7 rfl ?_
    repeat' (first | (refine WL_isCall (f := 26) ?_; refine WL_call (ok_call hT rfl) rfl rfl rfl (in_any _ _ _) ?_; rintro v w' ⟨rfl, hc2⟩; replace hSt := hSt.call0 hc2; clear hc2) | (refine WL_isCall (f := 27) ?_; refine WL_call (ok_call hT rfl) rfl rfl rfl (hjn (hG.later hSt hn).d (hSt.own 0 _ _ rfl).1) ?_; rintro v w2 ⟨rfl, hc2⟩; replace hSt := hSt.call1 (i := 0) rfl hc2; clear hc2; dsimp only [List.set] at hSt) | refine stepA ?_ | (refine stepS ?_; clear hSt; intro w hSt; dsimp only [spl, List.set] at hSt) | (refine stepB ?_; clear hSt; intro w nb hnb hSt; dsimp only [zcells, List.nil_append, List.cons_append] at hSt) | (refine stepG ?_ ?_ <;> intro hc <;> (try exact absA) <;> (fail_if_success (change true = true at hc)) <;> (fail_if_success (change false = false at hc))) | fail)
    all_goals first | exact ret2 rfl rfl rfl (.inl ⟨he0, rfl, hSt⟩) | (exfalso; omega)
  obtain rfl : e0 = 0 := by omega
  rw [if_neg he0]
  have hjy : ∀ {w : World} (hD : Deb w) (hb : w.heap[bm]? = some m.obj), Cl Tryz.prog 27 [Ptr bm] w (fun v w' => ∃ bj H', v = .tuple ⟨[Ptr bj, I 0]⟩ ∧ JW bm bj m2 j2 H' ∧ St w (· = bm) H' w') := fun hD hb => (hjo hD hb).mono (by
    rintro v w' (⟨h, _⟩ | ⟨_, h⟩)
    · exact absurd rfl h
    · exact h)
  clear hjo he0
  obtain ⟨jl, jd, js⟩ := j2
  dsimp only at hjl ⊢
  refine enter Tryz.func7 rfl Tryz.ntmps7 rfl ?_
  repeat' (first | (refine WL_isCall (f := 26) ?_; refine WL_call (ok_call hT rfl) rfl rfl rfl (in_any _ _ _) ?_; rintro v w' ⟨rfl, hc2⟩; replace hSt := hSt.call0 hc2; clear hc2) | (refine WL_isCall (f := 27) ?_; refine WL_call (ok_call hT rfl) rfl rfl rfl (hjy (hG.later hSt hn).d (hSt.own 0 _ _ rfl).1) ?_; rintro v w2 ⟨bj, Hj, rfl, hJ, hc2⟩; replace hSt := St.open1 hSt hc2; clear hc2) | (refine WL_box rfl rfl rfl hSt ?_; clear hSt; intro w nb hnb hSt; replace hSt := hSt.front; dsimp only [zcells] at hSt) | (refine WL_isCall (f := 28) ?_; refine WL_call (ok_call hT rfl) rfl rfl rfl (jrecords_any hJ (by dsimp only; omega) (St.hasE (Ha := [_]) hSt)) ?_; rintro v w2 ⟨H1, ho1, hc2⟩; replace hSt := hSt.newN hc2; clear hc2; dsimp only at ho1; obtain ⟨a1, c1, rfl⟩ := ho1.len) | refine stepA ?_ | (refine stepS ?_; clear hSt; intro w hSt; dsimp only [spl, List.set] at hSt) | (refine stepB ?_; clear hSt; intro w nb hnb hSt; dsimp only [zcells, List.nil_append, List.cons_append] at hSt) | (refine stepG ?_ ?_ <;> intro hc <;> (try exact absA) <;> (fail_if_success (change true = true at hc)) <;> (fail_if_success (change false = false at hc))) | fail)
  all_goals try (exfalso; omega)
  replace hSt := hSt.perm List.perm_append_comm
  replace hSt : St w0 (· = bm) (H1 ++ ((nb, svO bj (.slice none 0 0) (.slice none 0 0) ⟨pol, lim, [], [], -1, 0, false, m2, ⟨jl, jd, js⟩⟩) :: (([] ++ []) ++ Hj))) _ := hSt
  have hW : SW nb bj bm ⟨pol, lim, [], [], -1, 0, false, m2, ⟨jl, jd, js⟩⟩ ((nb, svO bj (.slice none 0 0) (.slice none 0 0) ⟨pol, lim, [], [], -1, 0, false, m2, ⟨jl, jd, js⟩⟩) :: (([] ++ []) ++ Hj)) := ⟨_, [], _, [], Hj, OwnSl.nil _ _, OwnSl.nil _ _, hJ, rfl⟩
  have hkv : Svk ⟨pol, lim, [], [], -1, 0, false, m2, ⟨jl, jd, js⟩⟩ (jl.length + 100) := ⟨hmo, by dsimp only; omega, by simp, by simp; omega⟩
  obtain ⟨s0, hs0⟩ : ∃ s0 : Sv, s0 = ⟨pol, lim, [], [], -1, 0, false, m2, ⟨jl, jd, js⟩⟩ := ⟨_, rfl⟩
  have hm0 : s0.m = m2 := by rw [hs0]
  rw [← hs0] at hSt hW hkv ⊢
  clear hs0 hJ hjy
  refine W_sub (L' := [(43, I ((0 : Nat) : Int)), (10, Ptr nb), (41, .slice a1 jl.length c1), (42, I jl.length)]) (by (repeat (first | exact Sub.nil _ | refine Sub.cons rfl ?_))) ?_
  refine W_loop1 (fun k (i : Nat) w => k = jl.length - i ∧ i ≤ jl.length ∧ ∃ s' Hs, SW nb bj bm s' Hs ∧ Svk s' (jl.length - i + 100) ∧ s'.m = m2 ∧ replayAll s0 jl = replayAll s' (jl.drop i) ∧ St w0 (· = bm) (H1 ++ Hs) w) (fun i => [(43, I (i : Int))]) jl.length 0 rfl (by (repeat (first | exact Str.nil _ | apply Str.drop rfl | apply Str.keepU rfl | apply Str.keep rfl))) ⟨rfl, by omega, _, _, hW, hkv, hm0, rfl, hSt⟩ (by (repeat (first | exact Sub.nil _ | refine Sub.cons rfl ?_))) ?_
  clear hSt hW hkv
  rintro k i w ⟨hk, hi, s', Hs, hW, hkv, hsm, heq, hSt⟩ K hK
  rw [heq]
  by_cases hil : i < jl.length
  · obtain ⟨x, hx⟩ : ∃ x, jl[i]? = some x := ⟨_, List.getElem?_eq_getElem hil⟩
    have hlt9 : jl.length - (i + 1) < k := by omega
    obtain ⟨ob, oc, rs2, hsv, hoc, hrs2, rfl⟩ := ho1.some_ (by omega)
    injection hsv with e1 e2 e3
    subst e1 e3
    have hcell := strs_at hx rs2
    have hdr : jl.drop i = x :: jl.drop (i + 1) := by
      obtain ⟨h, rfl⟩ := List.getElem?_eq_some_iff.1 hx
      exact List.drop_eq_getElem_cons h
    rw [hdr] at heq ⊢
    have hrp := fun {w : World} (hG : Gb w) hh hn => replay_any (w0 := w) hG hW (hkv.le (k := 1) (by omega)) hh hn x
    rcases hq : replayS s' x with _ | s2
    · rw [hq] at hrp
      rw [rall_none hq]
      dsimp only [Option.isSome, Option.getD] at hrp ⊢
      rw [hm0.trans hsm.symm]
      repeat' (first | (apply WL_ev rfl rfl; exact Ev_load1 hT rfl rfl (hSt.at 0 rfl) hcell) | (refine WL_isCall (f := 29) ?_; refine WL_call (ok_call hT rfl) rfl rfl rfl (hrp (hG.later hSt hn) (St.hasE (Ha := [_]) hSt) (NoG.r (Ha := [_]) (hG.no hSt hn))) ?_; rintro v w2 ⟨rfl, H2, hW2, hc2⟩; replace hSt := St.callE (Ha := [_]) hSt hc2; clear hc2) | refine stepA ?_ | (refine stepS ?_; clear hSt; intro w hSt; dsimp only [spl, List.set] at hSt) | (refine stepB ?_; clear hSt; intro w nb hnb hSt; dsimp only [zcells, List.nil_append, List.cons_append] at hSt) | (refine stepG ?_ ?_ <;> intro hc <;> (try exact absA) <;> (fail_if_success (change true = true at hc)) <;> (fail_if_success (change false = false at hc))) | fail)
      all_goals first | exact ret2 rfl rfl rfl (.inl ⟨by simp, rfl, hSt.sublist ((SW.med hW2).trans (List.sublist_append_right _ _))⟩) | (exfalso; omega)
    · rw [hq] at hrp
      rw [rall_some hq] at heq ⊢
      have hk2 := (hkv.le (k := jl.length - (i + 1) + 100 + 1) (by omega)).replay hq
      have hm2 := (replayS_some hq).1.trans hsm
      dsimp only [Option.isSome, Option.getD] at hrp ⊢
      repeat' (first | (apply WL_ev rfl rfl; exact Ev_load1 hT rfl rfl (hSt.at 0 rfl) hcell) | (refine WL_isCall (f := 29) ?_; refine WL_call (ok_call hT rfl) rfl rfl rfl (hrp (hG.later hSt hn) (St.hasE (Ha := [_]) hSt) (NoG.r (Ha := [_]) (hG.no hSt hn))) ?_; rintro v w2 ⟨rfl, H2, hW2, hc2⟩; replace hSt := St.callE (Ha := [_]) hSt hc2; clear hc2) | refine stepA ?_ | (refine stepS ?_; clear hSt; intro w hSt; dsimp only [spl, List.set] at hSt) | (refine stepB ?_; clear hSt; intro w nb hnb hSt; dsimp only [zcells, List.nil_append, List.cons_append] at hSt) | (refine stepG ?_ ?_ <;> intro hc <;> (try exact absA) <;> (fail_if_success (change true = true at hc)) <;> (fail_if_success (change false = false at hc))) | fail)
      all_goals first | exact At_loop1 hK (k' := jl.length - (i + 1)) (i + 1) hlt9 ⟨rfl, hil, s2, _, hW2, hk2, hm2, heq, hSt⟩ (by (repeat (first | exact Sub.nil _ | refine Sub.cons rfl ?_))) | (exfalso; omega)
  · obtain rfl : i = jl.length := by omega
    rw [List.drop_length, replayAll]
    dsimp only
    clear heq ho1
    replace hSt := hSt.right (Ha := H1)
    replace hkv := hkv.le (k := 100) (by omega)
    obtain ⟨L, hL⟩ : ∃ L, L = openL s'.l := ⟨_, rfl⟩
    have hol := openL_len s'.l
    have hlo : ∀ i ∈ openL s'.l, i < s'.l.length := fun i hi => (openL_mem.1 hi).1
    have hl := hkv.l
    obtain ⟨t, ht⟩ : ∃ t, t = latF s'.l := ⟨_, rfl⟩
    rw [← hL] at hol hlo ⊢
    rw [← ht]
    obtain ⟨gv, Hg, ev, He, Hj, hog, hoe, hJ, rfl⟩ := id hW
    obtain ⟨pol1, lim1, l, ends, cur, fb, stop, m1, j1⟩ := s'
    dsimp only at hol hlo hl hog hoe hJ hL ht hsm ⊢
    repeat' (first | (refine WL_isCall (f := 30) ?_; refine WL_call (ok_call hT rfl) rfl rfl rfl (latest_l (s := ⟨_, _, l, _, _, _, _, _, _⟩) (l := l) rfl (hSt.own 0 _ _ rfl).1 (OwnSl.slAt gC_len hog (hSt.has.sublist sub_g)) (by dsimp only; omega)) ?_; rintro v w2 ⟨rfl, hc2⟩; replace hSt := hSt.call0 hc2; clear hc2) | (refine WL_isCall (f := 31) ?_; refine WL_call (ok_call hT rfl) rfl rfl rfl (open_any (s := ⟨_, _, l, _, _, _, _, _, _⟩) (hSt.own 0 _ _ rfl).1 (OwnSl.slAt gC_len hog (hSt.has.sublist sub_g)) (by dsimp only; omega)) ?_; rintro v w2 ⟨H3, ho3, hc2⟩; replace hSt := hSt.newN hc2; clear hc2; dsimp only at ho3; rw [← hL] at ho3; obtain ⟨a3, c3, rfl⟩ := ho3.len) | refine stepA ?_ | (refine stepS ?_; clear hSt; intro w hSt; dsimp only [spl, List.set] at hSt) | (refine stepB ?_; clear hSt; intro w nb hnb hSt; dsimp only [zcells, List.nil_append, List.cons_append] at hSt) | (refine stepG ?_ ?_ <;> intro hc <;> (try exact absA) <;> (fail_if_success (change true = true at hc)) <;> (fail_if_success (change false = false at hc))) | fail)
    rw [← ht]
    replace hSt := hSt.perm List.perm_append_comm
    refine W_sub (L' := [(57, I ((0 : Nat) : Int)), (10, Ptr nb), (13, I t), (55, .slice a3 L.length c3), (56, I L.length)]) (by (repeat (first | exact Sub.nil _ | refine Sub.cons rfl ?_))) ?_
    refine W_loop1 (fun k (i : Nat) w => k = L.length - i ∧ i ≤ L.length ∧ ∃ s' Hs, SW nb bj bm s' Hs ∧ Svk s' (100 - i) ∧ s'.l.length = l.length ∧ endAll ⟨pol1, lim1, l, ends, cur, fb, stop, m1, j1⟩ L 5 t wRestart = endAll s' (L.drop i) 5 t wRestart ∧ St w0 (· = bm) (H3 ++ Hs) w) (fun i => [(57, I (i : Int))]) L.length 0 rfl (by (repeat (first | exact Str.nil _ | apply Str.drop rfl | apply Str.keepU rfl | apply Str.keep rfl))) ⟨rfl, by omega, _, _, hW, hkv.le (by omega), rfl, rfl, hSt⟩ (by (repeat (first | exact Sub.nil _ | refine Sub.cons rfl ?_))) ?_
    clear hSt hW hkv hog hoe hJ hk
    rintro k i w ⟨hk, hi, s', Hs, hW, hkv, hsl, heq, hSt⟩ K hK
    rw [heq]
    by_cases hil : i < L.length
    · obtain ⟨x, hx⟩ : ∃ x, L[i]? = some x := ⟨_, List.getElem?_eq_getElem hil⟩
      have hxl := hlo x (List.mem_of_getElem? hx)
      have hlt9 : L.length - (i + 1) < k := by omega
      obtain ⟨ob, oc, rs2, hsv, hoc, hrs2, rfl⟩ := ho3.some_ (by omega)
      injection hsv with e1 e2 e3
      subst e1 e3
      have hend := fun {w : World} (hG : Gb w) hh hn => end_any (w0 := w) hG hW (hkv.le (k := 1) (by omega)) hh hn (by rw [hsl]; exact hxl) 5 t wRestart
      have hcell := ints_at hx rs2
      have hdr : L.drop i = x :: L.drop (i + 1) := by
        obtain ⟨h, rfl⟩ := List.getElem?_eq_some_iff.1 hx
        exact List.drop_eq_getElem_cons h
      rw [hdr] at heq ⊢
      have hk2 := (hkv.le (k := 100 - (i + 1) + 1) (by omega)).endS x 5 t wRestart
      have hl2 := endS_len s' x 5 t wRestart
      by_cases he : (endS s' x 5 t wRestart).1 = 0
      · rw [endAll_ok he] at heq ⊢
        generalize endS s' x 5 t wRestart = r at hend he hk2 hl2 heq ⊢
        obtain ⟨e, s2⟩ := r
        dsimp only at hend he hk2 hl2 heq ⊢
        subst he
        repeat' (first | (apply WL_ev rfl rfl; exact Ev_load1 hT rfl rfl (hSt.at 0 rfl) hcell) | (refine WL_isCall (f := 32) ?_; refine WL_call (ok_call hT rfl) rfl rfl rfl (hend (hG.later hSt hn) (St.hasE (Ha := [_]) hSt) (NoG.r (Ha := [_]) (hG.no hSt hn))) ?_; rintro v w2 ⟨rfl, H2, hW2, hc2⟩; replace hSt := St.callE (Ha := [_]) hSt hc2; clear hc2) | refine stepA ?_ | (refine stepS ?_; clear hSt; intro w hSt; dsimp only [spl, List.set] at hSt) | (refine stepB ?_; clear hSt; intro w nb hnb hSt; dsimp only [zcells, List.nil_append, List.cons_append] at hSt) | (refine stepG ?_ ?_ <;> intro hc <;> (try exact absA) <;> (fail_if_success (change true = true at hc)) <;> (fail_if_success (change false = false at hc))) | fail)
        exact At_loop1 hK (k' := L.length - (i + 1)) (i + 1) hlt9 ⟨rfl, hil, s2, _, hW2, hk2, hl2.trans hsl, heq, hSt⟩ (by (repeat (first | exact Sub.nil _ | refine Sub.cons rfl ?_)))
      · rw [endAll_no he]
        generalize endS s' x 5 t wRestart = r at hend he hk2 hl2 ⊢
        obtain ⟨e, s2⟩ := r
        dsimp only at hend he hk2 hl2 ⊢
        repeat' (first | (apply WL_ev rfl rfl; exact Ev_load1 hT rfl rfl (hSt.at 0 rfl) hcell) | (refine WL_isCall (f := 32) ?_; refine WL_call (ok_call hT rfl) rfl rfl rfl (hend (hG.later hSt hn) (St.hasE (Ha := [_]) hSt) (NoG.r (Ha := [_]) (hG.no hSt hn))) ?_; rintro v w2 ⟨rfl, H2, hW2, hc2⟩; replace hSt := St.callE (Ha := [_]) hSt hc2; clear hc2) | refine stepA ?_ | (refine stepS ?_; clear hSt; intro w hSt; dsimp only [spl, List.set] at hSt) | (refine stepB ?_; clear hSt; intro w nb hnb hSt; dsimp only [zcells, List.nil_append, List.cons_append] at hSt) | (refine stepG ?_ ?_ <;> intro hc <;> (try exact absA) <;> (fail_if_success (change true = true at hc)) <;> (fail_if_success (change false = false at hc))) | fail)
        exact ret2 rfl rfl rfl (.inl ⟨he, rfl, hSt.sublist ((SW.med hW2).trans (List.sublist_append_right _ _))⟩)
    · obtain rfl : i = L.length := by omega
      rw [List.drop_length, endAll]
      repeat' (first | refine stepA ?_ | (refine stepS ?_; clear hSt; intro w hSt; dsimp only [spl, List.set] at hSt) | (refine stepB ?_; clear hSt; intro w nb hnb hSt; dsimp only [zcells, List.nil_append, List.cons_append] at hSt) | (refine stepG ?_ ?_ <;> intro hc <;> (try exact absA) <;> (fail_if_success (change true = true at hc)) <;> (fail_if_success (change false = false at hc))) | fail)
      exact ret2 rfl rfl rfl (.inr ⟨rfl, _, _, _, rfl, hW, hSt.right (Ha := H3)⟩)
end Go.Proofs.YthkimkgphaiagaaGreatDoor
