/- The specification's Args, ParseCond and Parse, in memory. No conditions. -/
import Derived.Test.YtknfankadlokhaaGreatDoorPte
import Derived.Test.YtknfankadlokhaaGreatDoorNI
import Derived.Test.YtknfankadlokhaaGreatDoorLrb

namespace Go.Proofs.YtknfankadlokhaaGreatDoor
open Go.RowKit
set_option maxRecDepth 4000
set_option linter.unusedVariables false
set_option linter.unusedSimpArgs false
set_option maxHeartbeats 16000000

section
variable {T : Tys} {P : Program} {m9 : Nat} {L : Fr} {w : World} {fn : Func} {i j m : Nat} {u x : Value} {t : TypeId}
theorem resc3 {l vs : List Value} {E k b o : Nat} {fz : Nat × Nat} (hr : fn.results = #[.cell i t, .tmp j, .tmp m]) (hT : T.Ok P) (ht : asc T.agg t = some k) (hp : look L i = some (.pointer (some ⟨b, o, none⟩))) (hu : look L j = some u) (hx : look L m = some x)
    (hb : w.heap[b]? = some (.cells ⟨l⟩ E fz)) (hvs : (l.drop o).take k = vs) (hl : vs.length = k) (a : Act) (ha : Fits (m9, []) L a) : (results fn a.tmps).run P w = .ok (.tuple ⟨[.agg ⟨vs⟩, u, x]⟩) w := by
  have hload := (Ev_loadN (P := P) (L := [(0, .pointer (some ⟨b, o, none⟩))]) (w := w) (ty := 0) (xo := .tmp 0) hT ht rfl hb hvs hl).run (1, []) ⟨#[.pointer (some ⟨b, o, none⟩)], []⟩ ⟨rfl, rfl, fun i v h => by
    simp only [look] at h
    cases hb : Nat.beq 0 i
    · simp [hb] at h
    · have he : 0 = i := by simpa using hb
      subst he; simp at h; subst h; rfl⟩ none "" #[] none
  simp [execOp, Act.eval, Instr.loadAt, Instr.sureAddr] at hload
  cases hxx : (loadVar t ⟨b, o, none⟩).run P w with
  | ok v w2 => rw [hxx] at hload; simp at hload; obtain ⟨rfl, rfl⟩ := hload; simp [results, hr, Array.getD_eq_getD_getElem?, ha.val _ _ hp, ha.val _ _ hu, ha.val _ _ hx, asAddr, hxx]
  | halt h w2 => rw [hxx] at hload; simp at hload
end
def RScanC (x : Tx) (s : Sc) : Prop := ∀ w : World, Cl Tryz.prog 56 [S x] w (ScanR s w)
theorem pl_at {w : World} {pb : Nat} {y : Pq} {tv : Value} {ts : List Tk} {H : List (Nat × Obj)} (hh : Has w ((pb, plO tv y) :: H)) (ho : OwnSl tv 63 4 (ts.flatMap tkC) ts.length H) (hk : TkOk ts) (hl : ts.length ≤ 100000) (htl : ∀ p, (tkAt ts p).tx.length ≤ 9223372036854775807) (hq : y.1 < ts.length) : PL w pb ts tv y := by
  have hn := hh.nodup
  simp only [List.map_cons, List.nodup_cons] at hn
  refine ⟨hh.own 0 _ _ rfl, ho.slAt (f := tkC) (fun _ => rfl) ⟨fun i b o hi => ?_, hh.sublist (List.sublist_cons_self _ _) |>.apart⟩, hk, hl, htl, hq⟩
  rw [wo_ne (fun e => hn.1 (List.mem_map.2 ⟨(b, o), List.mem_of_getElem? hi, e⟩))]
  exact hh.own (i + 1) b o (by simpa using hi)
section
variable {w0 : World} {x : Tx}
theorem rargs_any {s : Sc} {f : Nat} {r : Rt (List Sg)} (hs : RScanC x s) (hok : ScOk s) (hr : rArgs f s = some r) : Cl Tryz.prog 26 [S x] w0 (ArgsR r w0) := by
  have hSt := St.refl w0 NoneS
  refine enter Tryz.func26 rfl Tryz.ntmps26 rfl ?_
  unfold rArgs at hr
  cases s with
  | bad e a =>
    injection hr with hr
    subst hr
    repeat' (first | (refine WL_isCall (f := 56) ?_; refine WL_call (ok_call hT rfl) rfl rfl rfl (hs _) ?_; rintro v w2 ⟨he, rfl, hc2⟩; replace hSt := hSt.call0 hc2; clear hc2) | refine stepA ?_ | (refine stepS ?_; clear hSt; intro w hSt; dsimp only [spl, List.set] at hSt) | (refine stepB ?_; clear hSt; intro w nb hnb hSt; dsimp only [zcells, List.nil_append, List.cons_append] at hSt) | (refine W_quiet hT (by decide +kernel) hSt ?_; clear hSt; (repeat' (first | (apply QL_ev rfl rfl; (intro w hSt; (first | exact Ev_auto))) | refine QL_pass rfl rfl ?_ | (refine QL_guardP rfl rfl (fun hc => ?_) (fun hc => ?_) <;> try exact absA) | (refine QL_guard rfl rfl (fun hc => ?_) (fun hc => ?_) <;> (try exact absA) <;> (fail_if_success (change true = true at hc)) <;> (fail_if_success (change false = false at hc))))); all_goals (refine QL_nil (fun w hSt => ?_))) | (refine stepG ?_ ?_ <;> intro hc <;> (try exact absA) <;> (fail_if_success (change true = true at hc)) <;> (fail_if_success (change false = false at hc))) | fail)
    all_goals try (exfalso; first | omega | (simp at hc; done) | (exact hc rfl) | contradiction)
    all_goals exact ret3 rfl rfl rfl rfl ⟨rfl, hSt⟩
  | ok ts =>
    obtain ⟨hk, hl, htl⟩ := hok
    dsimp only at hr
    cases hx : qSets ts f (0, false) with
    | none => rw [hx] at hr; cases hr
    | some ly =>
      obtain ⟨l, y9⟩ := ly
      rw [hx] at hr
      dsimp only at hr
      have hql := qSets_lt hk htl (x := (0, false)) hk.pos hx
      repeat' (first | (refine WL_isCall (f := 56) ?_; refine WL_call (ok_call hT rfl) rfl rfl rfl (hs _) ?_; rintro v w2 ⟨tv, H, rfl, ho, hc2⟩; replace hSt := hSt.newN hc2; clear hc2; obtain ⟨ta, tc, rfl, _⟩ := ho.cap; try dsimp only [List.nil_append, List.cons_append] at hSt) | (refine WL_alloc hT rfl rfl rfl hSt ?_; clear hSt; intro w nb hnb hSt; replace hSt := hSt.front; dsimp only [zcells] at hSt) | refine stepA ?_ | (refine stepS ?_; clear hSt; intro w hSt; dsimp only [spl, List.set] at hSt) | (refine stepB ?_; clear hSt; intro w nb hnb hSt; dsimp only [zcells, List.nil_append, List.cons_append] at hSt) | (refine W_quiet hT (by decide +kernel) hSt ?_; clear hSt; (repeat' (first | (apply QL_ev rfl rfl; (intro w hSt; (first | exact Ev_auto))) | refine QL_pass rfl rfl ?_ | (refine QL_guardP rfl rfl (fun hc => ?_) (fun hc => ?_) <;> try exact absA) | (refine QL_guard rfl rfl (fun hc => ?_) (fun hc => ?_) <;> (try exact absA) <;> (fail_if_success (change true = true at hc)) <;> (fail_if_success (change false = false at hc))))); all_goals (refine QL_nil (fun w hSt => ?_))) | (refine stepG ?_ ?_ <;> intro hc <;> (try exact absA) <;> (fail_if_success (change true = true at hc)) <;> (fail_if_success (change false = false at hc))) | fail)
      obtain ⟨pb, rfl⟩ : ∃ x, x = nb := ⟨nb, rfl⟩
      refine WL_call (ok_call hT rfl) rfl rfl rfl (rsettings_any (pl_at (y := (0, false)) hSt.has ho hk hl htl hk.pos) hx) ?_
      rintro v1 w2 ⟨HL, hol, hc2⟩
      obtain ⟨sa, sk, rfl, _⟩ := hol.cap
      replace hSt := hSt.scCall (Ha := []) hc2
      clear hc2
      dsimp only [List.nil_append] at hSt
      have hen := fun {w : World} (h : PL w pb ts (.slice ta ts.length tc) y9) => rend_any h
      by_cases hb : y9.2 = true ∨ (tkAt ts y9.1).kd ≠ 0
      · rw [if_pos hb] at hr
        simp only [if_pos hb] at hen
        injection hr with hr
        subst hr
        repeat' (first | (refine WL_isCall (f := 59) ?_; refine WL_call (ok_call hT rfl) rfl rfl rfl (hen (pl_at (hSt.has.sublist ((List.sublist_append_right _ _).cons_cons _)) ho hk hl htl hql.2.1)) ?_; rintro v w2 ⟨rfl, hc2⟩; replace hSt := hSt.call0 hc2; clear hc2) | refine stepA ?_ | (refine stepS ?_; clear hSt; intro w hSt; dsimp only [spl, List.set] at hSt) | (refine stepB ?_; clear hSt; intro w nb hnb hSt; dsimp only [zcells, List.nil_append, List.cons_append] at hSt) | (refine W_quiet hT (by decide +kernel) hSt ?_; clear hSt; (repeat' (first | (apply QL_ev rfl rfl; (intro w hSt; (first | exact Ev_auto))) | refine QL_pass rfl rfl ?_ | (refine QL_guardP rfl rfl (fun hc => ?_) (fun hc => ?_) <;> try exact absA) | (refine QL_guard rfl rfl (fun hc => ?_) (fun hc => ?_) <;> (try exact absA) <;> (fail_if_success (change true = true at hc)) <;> (fail_if_success (change false = false at hc))))); all_goals (refine QL_nil (fun w hSt => ?_))) | (refine stepG ?_ ?_ <;> intro hc <;> (try exact absA) <;> (fail_if_success (change true = true at hc)) <;> (fail_if_success (change false = false at hc))) | fail)
        all_goals try (exfalso; first | omega | (simp at hc; done) | (exact hc rfl) | contradiction)
        all_goals exact ret3 rfl rfl rfl rfl ⟨rfl, hSt.nil⟩
      · rw [if_neg hb] at hr
        simp only [if_neg hb] at hen
        injection hr with hr
        subst hr
        repeat' (first | (refine WL_isCall (f := 59) ?_; refine WL_call (ok_call hT rfl) rfl rfl rfl (hen (pl_at (hSt.has.sublist ((List.sublist_append_right _ _).cons_cons _)) ho hk hl htl hql.2.1)) ?_; rintro v w2 ⟨rfl, hc2⟩; replace hSt := hSt.call0 hc2; clear hc2) | refine stepA ?_ | (refine stepS ?_; clear hSt; intro w hSt; dsimp only [spl, List.set] at hSt) | (refine stepB ?_; clear hSt; intro w nb hnb hSt; dsimp only [zcells, List.nil_append, List.cons_append] at hSt) | (refine W_quiet hT (by decide +kernel) hSt ?_; clear hSt; (repeat' (first | (apply QL_ev rfl rfl; (intro w hSt; (first | exact Ev_auto))) | refine QL_pass rfl rfl ?_ | (refine QL_guardP rfl rfl (fun hc => ?_) (fun hc => ?_) <;> try exact absA) | (refine QL_guard rfl rfl (fun hc => ?_) (fun hc => ?_) <;> (try exact absA) <;> (fail_if_success (change true = true at hc)) <;> (fail_if_success (change false = false at hc))))); all_goals (refine QL_nil (fun w hSt => ?_))) | (refine stepG ?_ ?_ <;> intro hc <;> (try exact absA) <;> (fail_if_success (change true = true at hc)) <;> (fail_if_success (change false = false at hc))) | fail)
        all_goals try (exfalso; first | omega | (simp at hc; done) | (exact hc rfl) | contradiction)
        all_goals exact ret3 rfl rfl rfl rfl ⟨_, HL, rfl, hol, hql.2.2.2, (hSt.right (Ha := [_])).left⟩
theorem rparsecond_any {s : Sc} {f : Nat} {r : Rt Cn} (hs : RScanC x s) (hok : ScOk s) (hr : rCond f s = some r) (hlv : ∀ ts c y, s = .ok ts → qCon ts f (0, false) = some (c, y) → levC c ≤ 9223372036854775807) : Cl Tryz.prog 24 [S x] w0 (CondR r w0) := by
  have hSt := St.refl w0 NoneS
  refine enter Tryz.func24 rfl Tryz.ntmps24 rfl ?_
  unfold rCond at hr
  cases s with
  | bad e a =>
    injection hr with hr
    subst hr
    repeat' (first | (refine WL_alloc hT rfl rfl rfl hSt ?_; clear hSt; intro w nb hnb hSt; replace hSt := hSt.front; dsimp only [zcells] at hSt) | (refine WL_isCall (f := 56) ?_; refine WL_call (ok_call hT rfl) rfl rfl rfl (hs _) ?_; rintro v w2 ⟨he, rfl, hc2⟩; replace hSt := hSt.call0 hc2; clear hc2) | refine stepA ?_ | (refine stepS ?_; clear hSt; intro w hSt; dsimp only [spl, List.set] at hSt) | (refine stepB ?_; clear hSt; intro w nb hnb hSt; dsimp only [zcells, List.nil_append, List.cons_append] at hSt) | (refine W_quiet hT (by decide +kernel) hSt ?_; clear hSt; (repeat' (first | (apply QL_ev rfl rfl; (intro w hSt; (first | exact Ev_auto))) | refine QL_pass rfl rfl ?_ | (refine QL_guardP rfl rfl (fun hc => ?_) (fun hc => ?_) <;> try exact absA) | (refine QL_guard rfl rfl (fun hc => ?_) (fun hc => ?_) <;> (try exact absA) <;> (fail_if_success (change true = true at hc)) <;> (fail_if_success (change false = false at hc))))); all_goals (refine QL_nil (fun w hSt => ?_))) | (refine stepG ?_ ?_ <;> intro hc <;> (try exact absA) <;> (fail_if_success (change true = true at hc)) <;> (fail_if_success (change false = false at hc))) | fail)
    all_goals try (exfalso; first | omega | (simp at hc; done) | (exact hc rfl) | contradiction)
    all_goals exact end_of (resc3 rfl hT rfl rfl rfl rfl (hSt.at 0 rfl) rfl rfl) ⟨rfl, hSt.nil⟩
  | ok ts =>
    obtain ⟨hk, hl, htl⟩ := hok
    dsimp only at hr
    cases hx : qCon ts f (0, false) with
    | none => rw [hx] at hr; cases hr
    | some cy =>
      obtain ⟨c, y9⟩ := cy
      have hlc := hlv ts c y9 rfl hx
      rw [hx] at hr
      dsimp only at hr
      have hql := (qpar_lt hk f).2.2.2.1 (0, false) c y9 hk.pos hx
      repeat' (first | (refine WL_alloc hT rfl rfl rfl hSt ?_; clear hSt; intro w nb hnb hSt; replace hSt := hSt.front; dsimp only [zcells] at hSt) | (refine WL_isCall (f := 56) ?_; refine WL_call (ok_call hT rfl) rfl rfl rfl (hs _) ?_; rintro v w2 ⟨tv, H, rfl, ho, hc2⟩; replace hSt := hSt.newN hc2; clear hc2; obtain ⟨ta, tc, rfl, _⟩ := ho.cap; try dsimp only [List.nil_append, List.cons_append] at hSt) | refine stepA ?_ | (refine stepS ?_; clear hSt; intro w hSt; dsimp only [spl, List.set] at hSt) | (refine stepB ?_; clear hSt; intro w nb hnb hSt; dsimp only [zcells, List.nil_append, List.cons_append] at hSt) | (refine W_quiet hT (by decide +kernel) hSt ?_; clear hSt; (repeat' (first | (apply QL_ev rfl rfl; (intro w hSt; (first | exact Ev_auto))) | refine QL_pass rfl rfl ?_ | (refine QL_guardP rfl rfl (fun hc => ?_) (fun hc => ?_) <;> try exact absA) | (refine QL_guard rfl rfl (fun hc => ?_) (fun hc => ?_) <;> (try exact absA) <;> (fail_if_success (change true = true at hc)) <;> (fail_if_success (change false = false at hc))))); all_goals (refine QL_nil (fun w hSt => ?_))) | (refine stepG ?_ ?_ <;> intro hc <;> (try exact absA) <;> (fail_if_success (change true = true at hc)) <;> (fail_if_success (change false = false at hc))) | fail)
      rename_i t2b _ _ _
      obtain ⟨pb, rfl⟩ : ∃ x, x = nb := ⟨nb, rfl⟩
      refine WL_call (ok_call hT rfl) rfl rfl rfl ((rconds_any f f (Nat.le_refl f)).2.2 (pl_at (y := (0, false)) (hSt.has.sublist ((List.sublist_cons_self _ _).cons_cons _)) ho hk hl htl hk.pos) hx) ?_
      rintro v1 w2 ⟨x0, x1, x2, x3, HD, rfl, hC, hc2⟩
      obtain ⟨rfl, rfl, rfl, a4, n4, k4, rfl⟩ := hC.parts (hc2.right (Ha := [_])).has
      replace hSt := hSt.scCall (Ha := []) hc2
      clear hc2
      dsimp only [List.nil_append] at hSt
      have hen := fun {w : World} (h : PL w pb ts (.slice ta ts.length tc) y9) => rend_any h
      have hsb : ∀ {w : World} {o1 o2 : Obj} {b1 b2 : Nat}, Has w ((b1, o1) :: (pb, plO (.slice ta ts.length tc) y9) :: (HD ++ (b2, o2) :: H)) → PL w pb ts (.slice ta ts.length tc) y9 := fun h => pl_at (h.sublist ((((List.sublist_cons_self _ _).trans (List.sublist_append_right _ _)).cons_cons _).cons _)) ho hk hl htl hql.2
      by_cases hb : y9.2 = true ∨ (tkAt ts y9.1).kd ≠ 0
      · rw [if_pos hb] at hr
        simp only [if_pos hb] at hen
        injection hr with hr
        subst hr
        rw [show ((pb, plO (.slice ta ts.length tc) y9) :: (HD ++ (t2b, blk [I 0, S [], S [], .slice none 0 0] 38) :: H)) = (((pb, plO (.slice ta ts.length tc) y9) :: HD) ++ (t2b, blk [I 0, S [], S [], .slice none 0 0] 38) :: H) from rfl] at hSt
        replace hSt := hSt.perm (List.perm_middle (l₁ := (pb, plO (.slice ta ts.length tc) y9) :: HD)).symm
        dsimp only [List.cons_append] at hSt
        repeat' (first | (refine WL_alloc hT rfl rfl rfl hSt ?_; clear hSt; intro w nb hnb hSt; replace hSt := hSt.front; dsimp only [zcells] at hSt) | (refine WL_isCall (f := 59) ?_; refine WL_call (ok_call hT rfl) rfl rfl rfl (hen (pl_at (hSt.has.sublist (((List.sublist_append_right _ _).cons_cons _).cons _ |>.cons _)) ho hk hl htl hql.2)) ?_; rintro v w2 ⟨rfl, hc2⟩; replace hSt := hSt.call0 hc2; clear hc2) | refine stepA ?_ | (refine stepS ?_; clear hSt; intro w hSt; dsimp only [spl, List.set] at hSt) | (refine stepB ?_; clear hSt; intro w nb hnb hSt; dsimp only [zcells, List.nil_append, List.cons_append] at hSt) | (refine W_quiet hT (by decide +kernel) hSt ?_; clear hSt; (repeat' (first | (apply QL_ev rfl rfl; (intro w hSt; (first | exact Ev_auto))) | refine QL_pass rfl rfl ?_ | (refine QL_guardP rfl rfl (fun hc => ?_) (fun hc => ?_) <;> try exact absA) | (refine QL_guard rfl rfl (fun hc => ?_) (fun hc => ?_) <;> (try exact absA) <;> (fail_if_success (change true = true at hc)) <;> (fail_if_success (change false = false at hc))))); all_goals (refine QL_nil (fun w hSt => ?_))) | (refine stepG ?_ ?_ <;> intro hc <;> (try exact absA) <;> (fail_if_success (change true = true at hc)) <;> (fail_if_success (change false = false at hc))) | fail)
        all_goals try (exfalso; first | omega | (simp at hc; done) | (exact hc rfl) | contradiction)
        all_goals exact end_of (resc3 rfl hT rfl rfl rfl rfl (hSt.at 1 rfl) rfl rfl) ⟨rfl, hSt.nil⟩
      · rw [if_neg hb] at hr
        simp only [if_neg hb] at hen
        rw [show ((pb, plO (.slice ta ts.length tc) y9) :: (HD ++ (t2b, blk [I 0, S [], S [], .slice none 0 0] 38) :: H)) = (((pb, plO (.slice ta ts.length tc) y9) :: HD) ++ (t2b, blk [I 0, S [], S [], .slice none 0 0] 38) :: H) from rfl] at hSt
        replace hSt := hSt.perm (List.perm_middle (l₁ := (pb, plO (.slice ta ts.length tc) y9) :: HD)).symm
        dsimp only [List.cons_append] at hSt
        by_cases h6 : 6 < levC c
        · rw [if_pos h6] at hr
          injection hr with hr
          subst hr
          repeat' (first | (refine WL_alloc hT rfl rfl rfl hSt ?_; clear hSt; intro w nb hnb hSt; replace hSt := hSt.front; dsimp only [zcells] at hSt) | (refine WL_isCall (f := 59) ?_; refine WL_call (ok_call hT rfl) rfl rfl rfl (hen (pl_at (hSt.has.sublist (((List.sublist_append_right _ _).cons_cons _).cons _ |>.cons _)) ho hk hl htl hql.2)) ?_; rintro v w2 ⟨rfl, hc2⟩; replace hSt := hSt.call0 hc2; clear hc2) | (refine WL_isCall (f := 68) ?_; refine WL_call (ok_call hT rfl) rfl rfl rfl (rlevels_any _ (hC _ (((hSt.right (Ha := [_, _, _])).left).has)) (by omega)) ?_; rintro v w2 ⟨rfl, hc2⟩; replace hSt := hSt.call0 hc2; clear hc2) | refine stepA ?_ | (refine stepS ?_; clear hSt; intro w hSt; dsimp only [spl, List.set] at hSt) | (refine stepB ?_; clear hSt; intro w nb hnb hSt; dsimp only [zcells, List.nil_append, List.cons_append] at hSt) | (refine W_quiet hT (by decide +kernel) hSt ?_; clear hSt; (repeat' (first | (apply QL_ev rfl rfl; (intro w hSt; (first | exact Ev_auto))) | refine QL_pass rfl rfl ?_ | (refine QL_guardP rfl rfl (fun hc => ?_) (fun hc => ?_) <;> try exact absA) | (refine QL_guard rfl rfl (fun hc => ?_) (fun hc => ?_) <;> (try exact absA) <;> (fail_if_success (change true = true at hc)) <;> (fail_if_success (change false = false at hc))))); all_goals (refine QL_nil (fun w hSt => ?_))) | (refine stepG ?_ ?_ <;> intro hc <;> (try exact absA) <;> (fail_if_success (change true = true at hc)) <;> (fail_if_success (change false = false at hc))) | fail)
          all_goals try (exfalso; first | omega | (simp at hc; done) | (exact hc rfl) | contradiction)
          all_goals exact end_of (resc3 rfl hT rfl rfl rfl rfl (hSt.at 1 rfl) rfl rfl) ⟨rfl, hSt.nil⟩
        · rw [if_neg h6] at hr
          injection hr with hr
          subst hr
          repeat' (first | (refine WL_alloc hT rfl rfl rfl hSt ?_; clear hSt; intro w nb hnb hSt; replace hSt := hSt.front; dsimp only [zcells] at hSt) | (refine WL_isCall (f := 59) ?_; refine WL_call (ok_call hT rfl) rfl rfl rfl (hen (pl_at (hSt.has.sublist (((List.sublist_append_right _ _).cons_cons _).cons _ |>.cons _)) ho hk hl htl hql.2)) ?_; rintro v w2 ⟨rfl, hc2⟩; replace hSt := hSt.call0 hc2; clear hc2) | (refine WL_isCall (f := 68) ?_; refine WL_call (ok_call hT rfl) rfl rfl rfl (rlevels_any _ (hC _ (((hSt.right (Ha := [_, _, _])).left).has)) (by omega)) ?_; rintro v w2 ⟨rfl, hc2⟩; replace hSt := hSt.call0 hc2; clear hc2) | refine stepA ?_ | (refine stepS ?_; clear hSt; intro w hSt; dsimp only [spl, List.set] at hSt) | (refine stepB ?_; clear hSt; intro w nb hnb hSt; dsimp only [zcells, List.nil_append, List.cons_append] at hSt) | (refine W_quiet hT (by decide +kernel) hSt ?_; clear hSt; (repeat' (first | (apply QL_ev rfl rfl; (intro w hSt; (first | exact Ev_auto))) | refine QL_pass rfl rfl ?_ | (refine QL_guardP rfl rfl (fun hc => ?_) (fun hc => ?_) <;> try exact absA) | (refine QL_guard rfl rfl (fun hc => ?_) (fun hc => ?_) <;> (try exact absA) <;> (fail_if_success (change true = true at hc)) <;> (fail_if_success (change false = false at hc))))); all_goals (refine QL_nil (fun w hSt => ?_))) | (refine stepG ?_ ?_ <;> intro hc <;> (try exact absA) <;> (fail_if_success (change true = true at hc)) <;> (fail_if_success (change false = false at hc))) | fail)
          all_goals try (exfalso; first | omega | (simp at hc; done) | (exact hc rfl) | contradiction)
          all_goals exact end_of (resc3 rfl hT rfl rfl rfl rfl (hSt.at 1 rfl) rfl rfl) ⟨_, _, _, HD, rfl, hC, (hSt.right (Ha := [_, _, _])).left⟩
end
end Go.Proofs.YtknfankadlokhaaGreatDoor
