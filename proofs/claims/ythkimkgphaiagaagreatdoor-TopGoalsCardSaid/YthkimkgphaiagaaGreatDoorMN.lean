/- The server in memory: the next goal; a decision; an end. No conditions. -/
import Derived.Test.YthkimkgphaiagaaGreatDoorMM
import Derived.Test.YthkimkgphaiagaaGreatDoorML

namespace Go.Proofs.YthkimkgphaiagaaGreatDoor
open Go.RowKit
set_option maxRecDepth 4000
set_option linter.unusedVariables false
set_option linter.unusedSimpArgs false
set_option maxHeartbeats 4000000

theorem flat_set1 {α : Type} {f : α → List Value} {z : Nat} (hz : ∀ a, (f a).length = z) {l : List α} {i j : Nat} {x y : α} {v : Value} (hi : l[i]? = some x) (hj : j < z) (hy : f y = (f x).set j v) (rs : List Value) : (l.flatMap f ++ rs).set (i * z + j) v = (l.set i y).flatMap f ++ rs := by
  have hil := (List.getElem?_eq_some_iff.1 hi).1
  have hlen := flat_len hz l
  have hle : i * z + z ≤ l.length * z := by
    have := Nat.mul_le_mul_right z (show i + 1 ≤ l.length by omega)
    rw [Nat.add_mul, Nat.one_mul] at this; exact this
  rw [← flat_set hz y hil rs, spl_eq _ _ _ (by rw [List.length_append, hlen, hz]; omega), hz]
  obtain ⟨L, hL⟩ : ∃ L, L = l.flatMap f ++ rs := ⟨_, rfl⟩
  have hrow : (L.drop (i * z)).take z = f x := by rw [hL]; exact flat_take hz hi rs
  have hLl : i * z + z ≤ L.length := by rw [hL, List.length_append, hlen]; omega
  rw [← hL]
  have e : L = L.take (i * z) ++ f x ++ L.drop (i * z + z) := by
    rw [← hrow, List.append_assoc, ← List.drop_drop, List.take_append_drop, List.take_append_drop]
  conv => lhs; rw [e]
  have h1 : (L.take (i * z)).length = i * z := by rw [List.length_take]; omega
  rw [List.append_assoc, List.set_append_right _ _ (by omega), h1, Nat.add_sub_cancel_left, List.set_append_left _ _ (by rw [hz]; exact hj), ← hy, List.append_assoc]
section
variable {l : List Gl} {i : Nat} {x : Gl}
theorem cell_lt (hi : i < l.length) {j : Nat} (hj : j < 7) (rs : List Value) : Nat.blt (0 + (i : Int).toNat * 7 + j) (l.flatMap gC ++ rs).length = true := by
  have := flat_len gC_len l
  rw [List.length_append, this, Int.toNat_natCast]
  have h2 := Nat.mul_le_mul_right 7 (show i + 1 ≤ l.length by omega)
  simp only [Nat.blt_eq]
  omega
theorem cell_put {y : Gl} (hi : l[i]? = some x) {j : Nat} (hj : j < 7) {v : Value} (hy : gC y = (gC x).set j v) (rs : List Value) : (l.flatMap gC ++ rs).set (0 + (i : Int).toNat * 7 + j) v = (l.set i y).flatMap gC ++ rs := by
  rw [Nat.zero_add, Int.toNat_natCast]; exact flat_set1 gC_len hi hj hy rs
theorem cell_take (hi : l[i]? = some x) (rs : List Value) : ((l.flatMap gC ++ rs).drop (0 + (i : Int).toNat * 7)).take 7 = gC x := by
  rw [Nat.zero_add, Int.toNat_natCast]; exact flat_take gC_len hi rs
theorem cell_get (hi : l[i]? = some x) {j : Nat} {c : Value} (hj : (gC x)[j]? = some c) (rs : List Value) : (l.flatMap gC ++ rs)[0 + (i : Int).toNat * 7 + j]? = some c := by
  rw [Nat.zero_add, Int.toNat_natCast]; exact flat_cell gC_len hi rs hj
theorem cell_room (hi : i < l.length) (rs : List Value) : Nat.ble (0 + (i : Int).toNat * 7 + 7) (l.flatMap gC ++ rs).length = true := by
  rw [Nat.zero_add, Int.toNat_natCast]; exact flat_room gC_len hi rs
theorem cell_row {y : Gl} (hi : i < l.length) (rs : List Value) : spl (l.flatMap gC ++ rs) (0 + (i : Int).toNat * 7) (gC y) = (l.set i y).flatMap gC ++ rs := by
  rw [Nat.zero_add, Int.toNat_natCast]; exact flat_set gC_len y hi rs
theorem own_set {y : Gl} {b cap : Nat} {rs : List Value} (h1 : l.length ≤ cap) (h2 : rs.length = (cap - l.length) * 7) : OwnSl (.slice (some ⟨b, 0, none⟩) l.length cap) 62 7 ((l.set i y).flatMap gC) (l.set i y).length [(b, blk ((l.set i y).flatMap gC ++ rs) 62)] :=
  ⟨flat_len gC_len _, .inr ⟨b, cap, rs, by rw [List.length_set], by rw [List.length_set]; exact h1, by rw [List.length_set]; exact h2, rfl⟩⟩
theorem own_snoc {gv : Value} {y : Gl} {Hg : List (Nat × Obj)} (h : OwnSl gv 62 7 (l.flatMap gC ++ gC y) (l.length + 1) Hg) : OwnSl gv 62 7 ((l ++ [y]).flatMap gC) (l ++ [y]).length Hg := by
  rw [List.flatMap_append, List.length_append, List.length_singleton]
  have : [y].flatMap gC = gC y := by simp
  rw [this]; exact h
theorem own_int {ev : Value} {el : List Nat} {He : List (Nat × Obj)} (h : OwnSl ev 3 1 (ints el ++ zcells (I (i : Int))) (el.length + 1) He) : OwnSl ev 3 1 (ints (el ++ [i])) (el ++ [i]).length He := by
  rw [ints_snoc, List.length_append, List.length_singleton]; exact h
end
theorem perm_gE {Hg He Hj : List (Nat × Obj)} : List.Perm ((He ++ Hj) ++ Hg) ((Hg ++ He) ++ Hj) := by
  rw [List.append_assoc Hg]; exact List.perm_append_comm
theorem St.row4 {w0 w : World} {SS : Nat → Prop} {a b c : Nat × Obj} {d : List (Nat × Obj)} {g : Nat} {X Y : List Value} {E : TypeId} (e : X = Y) (h : St w0 SS (a :: b :: c :: (g, blk X E) :: d) w) : St w0 SS (a :: b :: c :: (g, blk Y E) :: d) w := e ▸ h
theorem sub_g {y : Nat × Obj} {Hg He Hj : List (Nat × Obj)} : List.Sublist Hg (y :: ((Hg ++ He) ++ Hj)) := (List.sublist_append_left _ _).trans ((List.sublist_append_left _ _).trans (List.sublist_cons_self _ _))
theorem openL_lt {l : List Gl} {i : Nat} (h : i ∈ openL l) : i < l.length ∧ termF (gAt l i).st = false := by
  unfold openL at h
  rw [List.mem_filter, List.mem_range] at h
  exact ⟨h.1, by simpa using h.2⟩
theorem gAt_some {l : List Gl} {i : Nat} (h : i < l.length) : l[i]? = some (gAt l i) := by
  rw [List.getElem?_eq_getElem h, gAt, List.getD_eq_getElem?_getD, List.getElem?_eq_getElem h]; rfl
theorem enc_len (g : Gl) : (enc g).length ≤ 8100 := by
  by_cases h : Cod g
  · rw [enc_cod h]; exact body_len h
  · rw [enc_not h]; simp
theorem endR_len (g : Gl) : (endR g).length ≤ 8101 := by unfold endR; rw [List.length_cons]; exact Nat.succ_le_succ (enc_len _)
theorem decG1_t (c n st a e : Int) (q x : List UInt8) : decG1 ⟨c, n, st, a, e, q, x⟩ true = ⟨c, n, 1, a, e, q, x⟩ := rfl
theorem decG1_f (c n st a e : Int) (q x : List UInt8) : decG1 ⟨c, n, st, a, e, q, x⟩ false = ⟨c, n, 7, a, a, q, x⟩ := rfl
theorem next_any {w0 : World} {bs bj bm : Nat} {s : Sv} {H : List (Nat × Obj)} (hW : SW bs bj bm s H) (hl : s.l.length ≤ 64) (hh : Has w0 H) :
    Cl Tryz.prog 49 [Ptr bs] w0 (fun v w' => v = .tuple ⟨[]⟩ ∧ ∃ H', SW bs bj bm (nextS s) H' ∧ St w0 (InH H) H' w') := by
  obtain ⟨gv, Hg, ev, He, Hj, hog, hoe, hJ, rfl⟩ := hW
  have hSt := hh.st
  generalize InH _ = SS at hSt ⊢
  obtain ⟨pol, lim, l, ends, cur, fb, stop, m, j⟩ := s
  dsimp only at hog hoe hJ hSt hl ⊢
  unfold nextS; dsimp only
  by_cases hc0 : 0 ≤ cur
  · rw [if_pos hc0]
    refine enter Tryz.func49 rfl Tryz.ntmps49 rfl ?_
    repeat' (first | refine stepA ?_ | (refine stepS ?_; clear hSt; intro w hSt; dsimp only [spl, List.set] at hSt) | (refine stepB ?_; clear hSt; intro w nb hnb hSt; dsimp only [zcells, List.nil_append, List.cons_append] at hSt) | (refine stepG ?_ ?_ <;> intro hc <;> (try exact absA) <;> (fail_if_success (change true = true at hc)) <;> (fail_if_success (change false = false at hc))) | fail)
    exact ret0 rfl ⟨rfl, _, ⟨_, _, _, _, _, hog, hoe, hJ, rfl⟩, hSt⟩
  · rw [if_neg hc0]
    rcases hq : openL l with _ | ⟨i, r⟩
    · obtain ⟨ga, gc, rfl⟩ := hog.len
      refine enter Tryz.func49 rfl Tryz.ntmps49 rfl ?_
      repeat' (first | (refine WL_isCall (f := 31) ?_; refine WL_call (ok_call hT rfl) rfl rfl rfl (open_any (s := ⟨pol, lim, l, ends, cur, fb, stop, m, j⟩) (hSt.own 0 _ _ rfl).1 (OwnSl.slAt gC_len hog (hSt.has.sublist sub_g)) (by dsimp only; omega)) ?_; rintro v w2 ⟨H1, ho1, hc2⟩; replace hSt := hSt.newN hc2; clear hc2; dsimp only at ho1; rw [hq] at ho1; obtain ⟨a1, c1, rfl⟩ := ho1.len) | refine stepA ?_ | (refine stepS ?_; clear hSt; intro w hSt; dsimp only [spl, List.set] at hSt) | (refine stepB ?_; clear hSt; intro w nb hnb hSt; dsimp only [zcells, List.nil_append, List.cons_append] at hSt) | (refine stepG ?_ ?_ <;> intro hc <;> (try exact absA) <;> (fail_if_success (change true = true at hc)) <;> (fail_if_success (change false = false at hc))) | fail)
      all_goals exact ⟨rfl, _, ⟨_, _, _, _, _, hog, hoe, hJ, rfl⟩, hSt.left⟩
    · have hrl : (i :: r).length = r.length + 1 := rfl
      have hil := (openL_lt (l := l) (i := i) (by rw [hq]; exact List.mem_cons_self ..)).1
      have hx := gAt_some hil
      obtain ⟨gb, gc, rs, rfl, hgc, hrs, rfl⟩ := hog.some_ (by omega)
      dsimp only [List.cons_append, List.nil_append] at hSt
      refine enter Tryz.func49 rfl Tryz.ntmps49 rfl ?_
      repeat' (first | (refine WL_isCall (f := 31) ?_; refine WL_call (ok_call hT rfl) rfl rfl rfl (open_any (s := ⟨pol, lim, l, ends, cur, fb, stop, m, j⟩) (hSt.own 0 _ _ rfl).1 (OwnSl.slAt gC_len hog (hSt.one (i := 1) rfl).has) (by dsimp only; omega)) ?_; rintro v w2 ⟨H1, ho1, hc2⟩; replace hSt := hSt.newN hc2; clear hc2; dsimp only at ho1; rw [hq, hrl] at ho1; obtain ⟨ob, oc, rs2, rfl, hoc, hrs2, rfl⟩ := ho1.some_ (by omega); replace hSt := hSt.front) | (refine W_tail 9 hT (by decide +kernel) hSt ?_; clear hSt; intro w hSt; simp only [List.take_succ_cons, List.take_zero]; (repeat' (first | (apply SL_ev rfl rfl; (first | exact Ev_auto)) | refine SL_pass rfl rfl ?_ | (refine SL_guardP rfl rfl (fun hc => ?_) (fun hc => ?_) <;> try exact absA) | (refine SL_guard rfl rfl (fun hc => ?_) (fun hc => ?_) <;> (try exact absA) <;> (fail_if_success (change true = true at hc)) <;> (fail_if_success (change false = false at hc))))); all_goals (refine SL_nil ?_; simp only [List.drop_succ_cons, List.drop_zero])) | (refine WL_store1 hT rfl rfl 2 rfl rfl hSt rfl rfl (cell_lt hil (j := 2) (by decide) rs) ?_; clear hSt; intro w hSt; dsimp only [List.set] at hSt; rw [cell_put (y := { gAt l i with st := 2 }) hx (j := 2) (by decide) rfl rs] at hSt) | refine stepA ?_ | (refine stepS ?_; clear hSt; intro w hSt; dsimp only [spl, List.set] at hSt) | (refine stepB ?_; clear hSt; intro w nb hnb hSt; dsimp only [zcells, List.nil_append, List.cons_append] at hSt) | (refine stepG ?_ ?_ <;> intro hc <;> (try exact absA) <;> (fail_if_success (change true = true at hc)) <;> (fail_if_success (change false = false at hc))) | fail)
      all_goals exact ⟨rfl, _, ⟨_, _, _, _, _, own_set hgc hrs, hoe, hJ, rfl⟩, hSt.right (Ha := [_])⟩
theorem decide_any {w0 : World} (hG : Gb w0) {bs bj bm : Nat} {s : Sv} {H : List (Nat × Obj)} (hW : SW bs bj bm s H) (hk : Svk s 1) (hh : Has w0 H) (hn : NoG (InH H)) (g : Gl) (ok : Bool) :
    Cl Tryz.prog 48 [Ptr bs, .agg ⟨gC g⟩, B ok] w0 (fun v w' => v = I (decideS s g ok).1 ∧ ∃ H', SW bs bj bm (decideS s g ok).2 H' ∧ St w0 (InH H) H' w') := by
  obtain ⟨gv, Hg, ev, He, Hj, hog, hoe, hJ, rfl⟩ := hW
  have hSt := hh.st
  generalize InH _ = SS at hSt hn ⊢
  have hel := enc_len (decG1 g ok)
  have hrc := fun {w : World} {gv ev : Value} {X : List (Nat × Obj)} (hG : Gb w) hh hn => record_any (w0 := w) (bs := bs) (gv := gv) (ev := ev) (X := X) hG hJ hk hh hn (114 :: enc (decG1 g ok)) (by rw [List.length_cons]; omega)
  have hl := hk.l
  have hsm := recS_same s (114 :: enc (decG1 g ok))
  unfold decideS
  generalize recS s (114 :: enc (decG1 g ok)) = r at hrc hsm ⊢
  clear hk hh
  obtain ⟨e, s2⟩ := r
  obtain ⟨pol, lim, l, ends, cur, fb, stop, m, j⟩ := s
  obtain ⟨pol2, lim2, l2, ends2, cur2, fb2, stop2, m2, j2⟩ := s2
  obtain ⟨h1, h2, h3, h4, h5, h6⟩ := hsm
  dsimp only at h1 h2 h3 h4 h5 h6 hrc hog hoe hJ hSt hl ⊢
  subst h1 h2 h3 h4 h5 h6
  obtain ⟨c, n, st, at_, en, rq, rs⟩ := g
  obtain ⟨ga, gc, rfl⟩ := hog.len
  by_cases he : e = 0
  · subst he
    rw [if_neg (by simp)]
    cases ok
    all_goals
      first | rw [decG1_t] at hel hrc ⊢ | rw [decG1_f] at hel hrc ⊢
      refine enter Tryz.func48 rfl Tryz.ntmps48 rfl ?_
      repeat' (first | (refine WL_box rfl rfl rfl hSt ?_; clear hSt; intro w nb hnb hSt; replace hSt := hSt.front; dsimp only [zcells] at hSt) | (refine WL_isCall (f := 60) ?_; refine WL_call (ok_call hT rfl) rfl rfl rfl (encode_any (hG.later hSt hn).v _ _ _ _ _ _ _) ?_; rintro v w2 ⟨rfl, hc2⟩; replace hSt := hSt.call0 hc2; clear hc2) | (apply WL_ev rfl rfl; exact Ev_str_add rfl rfl (by simp only [List.length_append, List.length_cons, List.length_nil]; omega)) | (refine WL_isCall (f := 59) ?_; refine WL_call (ok_call hT rfl) rfl rfl rfl (hrc (hG.later hSt hn) (St.hasE (Ha := [_]) hSt) (NoG.r (Ha := [_]) (hG.no hSt hn))) ?_; rintro v w2 ⟨rfl, Hj2, hJ2, hc2⟩; replace hSt := St.callE (Ha := [_]) hSt hc2; clear hc2; replace hSt := hSt.perm (List.Perm.cons _ (List.Perm.cons _ perm_gE))) | (refine W_ownS (Hs := [_, _]) [(0, false), (1, false), (2, false), (3, false), (4, false), (5, false), (6, true), (7, true)] hT (by decide +kernel) rfl hSt ?_; clear hSt; intro w hSt; (repeat' (first | (apply HL_ev rfl rfl (St.left (H0 := [_, _]) hSt); (intro w hSt; (first | exact Ev_auto))) | (refine HL_one ?_; refine WL_buildSlice hT rfl rfl rfl rfl rfl rfl rfl rfl hSt ?_; clear hSt; intro w nb hnb hSt; refine WL_nil (At_oneH (St.left (H0 := [_, _]) hSt) ?_)) | (refine HL_one ?_; refine WL_appendL (H0 := _ :: _ :: (He ++ Hj2)) (H1 := Hg) hT rfl rfl rfl rfl rfl rfl rfl hSt hog rfl rfl (by omega) (by omega) ?_; clear hSt; intro gv2 w Hg2 hog2 hSt; obtain ⟨ga2, gc2, rfl⟩ := hog2.len; dsimp only [List.cons_append] at hSt; refine WL_nil (At_oneH (St.left (H0 := [_, _]) hSt) ?_)))); refine HL_end ?_; simp only [List.length_cons, List.length_nil, List.drop_succ_cons, List.drop_zero]) | (refine WL_store1 hT rfl rfl 1 rfl rfl hSt rfl rfl rfl ?_; clear hSt; intro w hSt; dsimp only [List.set] at hSt) | refine stepA ?_ | (refine stepS ?_; clear hSt; intro w hSt; dsimp only [spl, List.set] at hSt) | (refine stepB ?_; clear hSt; intro w nb hnb hSt; dsimp only [zcells, List.nil_append, List.cons_append] at hSt) | (refine stepG ?_ ?_ <;> intro hc <;> (try exact absA) <;> (fail_if_success (change true = true at hc)) <;> (fail_if_success (change false = false at hc))) | fail)
      all_goals exact ret1 rfl rfl ⟨rfl, _, ⟨_, _, _, _, _, own_snoc hog2, hoe, hJ2, rfl⟩, St.right (Ha := [_]) (hSt.perm (List.Perm.cons _ (List.Perm.cons _ perm_gE.symm)))⟩
  · rw [if_pos he]
    cases ok
    all_goals
      first | rw [decG1_t] at hel hrc | rw [decG1_f] at hel hrc
      refine enter Tryz.func48 rfl Tryz.ntmps48 rfl ?_
      repeat' (first | (refine WL_box rfl rfl rfl hSt ?_; clear hSt; intro w nb hnb hSt; replace hSt := hSt.front; dsimp only [zcells] at hSt) | (refine WL_isCall (f := 60) ?_; refine WL_call (ok_call hT rfl) rfl rfl rfl (encode_any (hG.later hSt hn).v _ _ _ _ _ _ _) ?_; rintro v w2 ⟨rfl, hc2⟩; replace hSt := hSt.call0 hc2; clear hc2) | (apply WL_ev rfl rfl; exact Ev_str_add rfl rfl (by simp only [List.length_append, List.length_cons, List.length_nil]; omega)) | (refine WL_isCall (f := 59) ?_; refine WL_call (ok_call hT rfl) rfl rfl rfl (hrc (hG.later hSt hn) (St.hasE (Ha := [_]) hSt) (NoG.r (Ha := [_]) (hG.no hSt hn))) ?_; rintro v w2 ⟨rfl, Hj2, hJ2, hc2⟩; replace hSt := St.callE (Ha := [_]) hSt hc2; clear hc2; replace hSt := hSt.perm (List.Perm.cons _ (List.Perm.cons _ perm_gE))) | refine stepA ?_ | (refine stepS ?_; clear hSt; intro w hSt; dsimp only [spl, List.set] at hSt) | (refine stepB ?_; clear hSt; intro w nb hnb hSt; dsimp only [zcells, List.nil_append, List.cons_append] at hSt) | (refine stepG ?_ ?_ <;> intro hc <;> (try exact absA) <;> (fail_if_success (change true = true at hc)) <;> (fail_if_success (change false = false at hc))) | fail)
      all_goals exact ret1 rfl rfl ⟨rfl, _, ⟨_, _, _, _, _, hog, hoe, hJ2, rfl⟩, St.right (Ha := [_]) (hSt.perm (List.Perm.cons _ (List.Perm.cons _ perm_gE.symm)))⟩
theorem end_any {w0 : World} (hG : Gb w0) {bs bj bm : Nat} {s : Sv} {H : List (Nat × Obj)} (hW : SW bs bj bm s H) (hk : Svk s 1) (hh : Has w0 H) (hn : NoG (InH H)) {i : Nat} (hi : i < s.l.length) (st at_ : Int) (rs : List UInt8) :
    Cl Tryz.prog 32 [Ptr bs, I (i : Int), I st, I at_, S rs] w0 (fun v w' => v = I (endS s i st at_ rs).1 ∧ ∃ H', SW bs bj bm (endS s i st at_ rs).2 H' ∧ St w0 (InH H) H' w') := by
  obtain ⟨gv, Hg, ev, He, Hj, hog, hoe, hJ, rfl⟩ := hW
  have hSt := hh.st
  generalize InH _ = SS at hSt hn ⊢
  have hel := enc_len { endG (gAt s.l i) st at_ rs with rq := [] }
  have hrc := fun {w : World} {gv ev : Value} {X : List (Nat × Obj)} (hG : Gb w) hh hn => record_any (w0 := w) (bs := bs) (gv := gv) (ev := ev) (X := X) hG hJ hk hh hn (endR (endG (gAt s.l i) st at_ rs)) (by have := endR_len (endG (gAt s.l i) st at_ rs); omega)
  have hl := hk.l
  have hle := hk.e
  have hsm := recS_same s (endR (endG (gAt s.l i) st at_ rs))
  unfold endS
  generalize hR : endR (endG (gAt s.l i) st at_ rs) = R at hrc hsm ⊢
  generalize recS s R = r at hrc hsm ⊢
  clear hk hh
  obtain ⟨e, s2⟩ := r
  obtain ⟨pol, lim, l, ends, cur, fb, stop, m, j⟩ := s
  obtain ⟨pol2, lim2, l2, ends2, cur2, fb2, stop2, m2, j2⟩ := s2
  obtain ⟨h1, h2, h3, h4, h5, h6⟩ := hsm
  dsimp only at h1 h2 h3 h4 h5 h6 hrc hog hoe hJ hSt hl hi hR hel hle ⊢
  subst h1 h2 h3 h4 h5 h6
  have hx := gAt_some hi
  have hil := hi
  generalize gAt l2 i = g at hx hel hR ⊢
  obtain ⟨c, n, st0, at0, en0, rq0, rs0⟩ := g
  obtain ⟨gb, gc, rs1, rfl, hgc, hrs, rfl⟩ := hog.some_ (by omega)
  obtain ⟨ea, ec, rfl⟩ := hoe.len
  dsimp only [endG] at hel hR
  unfold endR at hR
  subst hR
  have hcs := cell_take hx rs1
  dsimp only [List.cons_append, List.nil_append] at hSt
  by_cases he : e = 0
  · subst he
    rw [if_neg (by simp)]
    by_cases hcu : (i : Int) = cur2
    · rw [if_pos hcu]
      refine enter Tryz.func32 rfl Tryz.ntmps32 rfl ?_
      repeat' (first | (apply WL_ev rfl rfl; exact Ev_loadN hT rfl rfl (hSt.at 1 rfl) hcs rfl) | (refine WL_alloc hT rfl rfl rfl hSt ?_; clear hSt; intro w nb hnb hSt; replace hSt := hSt.front; dsimp only [zcells] at hSt) | (refine WL_isCall (f := 60) ?_; refine WL_call (ok_call hT rfl) rfl rfl rfl (encode_any (hG.later hSt hn).v _ _ _ _ _ _ _) ?_; rintro v w2 ⟨rfl, hc2⟩; replace hSt := hSt.call0 hc2; clear hc2) | (apply WL_ev rfl rfl; exact Ev_str_add rfl rfl (by simp only [List.length_append, List.length_cons, List.length_nil]; omega)) | (refine WL_isCall (f := 59) ?_; refine WL_call (ok_call hT rfl) rfl rfl rfl (hrc (X := _ :: He) (hG.later hSt hn) (St.hasE (Ha := [_, _]) hSt) (NoG.r (Ha := [_, _]) (hG.no hSt hn))) ?_; rintro v w2 ⟨rfl, Hj2, hJ2, hc2⟩; replace hSt := St.callE (Ha := [_, _]) hSt hc2; clear hc2; replace hSt := hSt.perm (List.Perm.cons _ (List.Perm.cons _ (List.Perm.cons _ (List.Perm.cons _ (List.perm_append_comm)))))) | (refine W_tail 7 hT (by decide +kernel) hSt ?_; clear hSt; intro w hSt; simp only [List.take_succ_cons, List.take_zero]; (repeat' (first | (apply SL_ev rfl rfl; (first | (exact Ev_loadN hT rfl rfl (hSt.at 1 rfl) hcs rfl) | (exact Ev_str_add rfl rfl (by simp only [List.length_append, List.length_cons, List.length_nil]; omega)) | exact Ev_auto)) | refine SL_pass rfl rfl ?_ | (refine SL_guardP rfl rfl (fun hc => ?_) (fun hc => ?_) <;> try exact absA) | (refine SL_guard rfl rfl (fun hc => ?_) (fun hc => ?_) <;> (try exact absA) <;> (fail_if_success (change true = true at hc)) <;> (fail_if_success (change false = false at hc))))); all_goals (refine SL_nil ?_; simp only [List.drop_succ_cons, List.drop_zero])) | (refine WL_storeN hT rfl rfl 3 rfl rfl hSt rfl rfl rfl (cell_room hil rs1) ?_; clear hSt; intro w hSt; dsimp only [List.set] at hSt; replace hSt := St.row4 (cell_row (y := ⟨c, n, st, at0, at_, rq0, rs⟩) hil rs1) hSt) | (refine WL_push1 hT rfl rfl rfl rfl rfl rfl rfl rfl rfl rfl rfl rfl (fun _ => rfl) rfl (H0 := _ :: _ :: _ :: _ :: Hj2) hSt hoe (by omega) (by omega) ?_; clear hSt; intro ev2 w He2 u hoe2 hSt; obtain ⟨ea2, ec2, rfl⟩ := hoe2.len; dsimp only [List.cons_append] at hSt) | (refine WL_store1 hT rfl rfl 2 rfl rfl hSt rfl rfl rfl ?_; clear hSt; intro w hSt; dsimp only [List.set] at hSt) | refine stepA ?_ | (refine stepS ?_; clear hSt; intro w hSt; dsimp only [spl, List.set] at hSt) | (refine stepB ?_; clear hSt; intro w nb hnb hSt; dsimp only [zcells, List.nil_append, List.cons_append] at hSt) | (refine stepG ?_ ?_ <;> intro hc <;> (try exact absA) <;> (fail_if_success (change true = true at hc)) <;> (fail_if_success (change false = false at hc))) | fail)
      all_goals exact ret1 rfl rfl ⟨rfl, _, ⟨_, _, _, _, _, own_set hgc hrs, own_int hoe2, hJ2, rfl⟩, St.right (Ha := [_, _]) (hSt.perm (List.Perm.cons _ (List.Perm.cons _ (List.Perm.cons _ (List.Perm.cons _ List.perm_append_comm)))))⟩
    · rw [if_neg hcu]
      refine enter Tryz.func32 rfl Tryz.ntmps32 rfl ?_
      repeat' (first | (apply WL_ev rfl rfl; exact Ev_loadN hT rfl rfl (hSt.at 1 rfl) hcs rfl) | (refine WL_alloc hT rfl rfl rfl hSt ?_; clear hSt; intro w nb hnb hSt; replace hSt := hSt.front; dsimp only [zcells] at hSt) | (refine WL_isCall (f := 60) ?_; refine WL_call (ok_call hT rfl) rfl rfl rfl (encode_any (hG.later hSt hn).v _ _ _ _ _ _ _) ?_; rintro v w2 ⟨rfl, hc2⟩; replace hSt := hSt.call0 hc2; clear hc2) | (apply WL_ev rfl rfl; exact Ev_str_add rfl rfl (by simp only [List.length_append, List.length_cons, List.length_nil]; omega)) | (refine WL_isCall (f := 59) ?_; refine WL_call (ok_call hT rfl) rfl rfl rfl (hrc (X := _ :: He) (hG.later hSt hn) (St.hasE (Ha := [_, _]) hSt) (NoG.r (Ha := [_, _]) (hG.no hSt hn))) ?_; rintro v w2 ⟨rfl, Hj2, hJ2, hc2⟩; replace hSt := St.callE (Ha := [_, _]) hSt hc2; clear hc2; replace hSt := hSt.perm (List.Perm.cons _ (List.Perm.cons _ (List.Perm.cons _ (List.Perm.cons _ (List.perm_append_comm)))))) | (refine W_tail 7 hT (by decide +kernel) hSt ?_; clear hSt; intro w hSt; simp only [List.take_succ_cons, List.take_zero]; (repeat' (first | (apply SL_ev rfl rfl; (first | (exact Ev_loadN hT rfl rfl (hSt.at 1 rfl) hcs rfl) | (exact Ev_str_add rfl rfl (by simp only [List.length_append, List.length_cons, List.length_nil]; omega)) | exact Ev_auto)) | refine SL_pass rfl rfl ?_ | (refine SL_guardP rfl rfl (fun hc => ?_) (fun hc => ?_) <;> try exact absA) | (refine SL_guard rfl rfl (fun hc => ?_) (fun hc => ?_) <;> (try exact absA) <;> (fail_if_success (change true = true at hc)) <;> (fail_if_success (change false = false at hc))))); all_goals (refine SL_nil ?_; simp only [List.drop_succ_cons, List.drop_zero])) | (refine WL_storeN hT rfl rfl 3 rfl rfl hSt rfl rfl rfl (cell_room hil rs1) ?_; clear hSt; intro w hSt; dsimp only [List.set] at hSt; replace hSt := St.row4 (cell_row (y := ⟨c, n, st, at0, at_, rq0, rs⟩) hil rs1) hSt) | (refine WL_push1 hT rfl rfl rfl rfl rfl rfl rfl rfl rfl rfl rfl rfl (fun _ => rfl) rfl (H0 := _ :: _ :: _ :: _ :: Hj2) hSt hoe (by omega) (by omega) ?_; clear hSt; intro ev2 w He2 u hoe2 hSt; obtain ⟨ea2, ec2, rfl⟩ := hoe2.len; dsimp only [List.cons_append] at hSt) | (refine WL_store1 hT rfl rfl 2 rfl rfl hSt rfl rfl rfl ?_; clear hSt; intro w hSt; dsimp only [List.set] at hSt) | refine stepA ?_ | (refine stepS ?_; clear hSt; intro w hSt; dsimp only [spl, List.set] at hSt) | (refine stepB ?_; clear hSt; intro w nb hnb hSt; dsimp only [zcells, List.nil_append, List.cons_append] at hSt) | (refine stepG ?_ ?_ <;> intro hc <;> (try exact absA) <;> (fail_if_success (change true = true at hc)) <;> (fail_if_success (change false = false at hc))) | fail)
      all_goals exact ret1 rfl rfl ⟨rfl, _, ⟨_, _, _, _, _, own_set hgc hrs, own_int hoe2, hJ2, rfl⟩, St.right (Ha := [_, _]) (hSt.perm (List.Perm.cons _ (List.Perm.cons _ (List.Perm.cons _ (List.Perm.cons _ List.perm_append_comm)))))⟩
  · rw [if_pos he]
    refine enter Tryz.func32 rfl Tryz.ntmps32 rfl ?_
    repeat' (first | (apply WL_ev rfl rfl; exact Ev_loadN hT rfl rfl (hSt.at 1 rfl) hcs rfl) | (refine WL_alloc hT rfl rfl rfl hSt ?_; clear hSt; intro w nb hnb hSt; replace hSt := hSt.front; dsimp only [zcells] at hSt) | (refine WL_isCall (f := 60) ?_; refine WL_call (ok_call hT rfl) rfl rfl rfl (encode_any (hG.later hSt hn).v _ _ _ _ _ _ _) ?_; rintro v w2 ⟨rfl, hc2⟩; replace hSt := hSt.call0 hc2; clear hc2) | (apply WL_ev rfl rfl; exact Ev_str_add rfl rfl (by simp only [List.length_append, List.length_cons, List.length_nil]; omega)) | (refine WL_isCall (f := 59) ?_; refine WL_call (ok_call hT rfl) rfl rfl rfl (hrc (X := _ :: He) (hG.later hSt hn) (St.hasE (Ha := [_, _]) hSt) (NoG.r (Ha := [_, _]) (hG.no hSt hn))) ?_; rintro v w2 ⟨rfl, Hj2, hJ2, hc2⟩; replace hSt := St.callE (Ha := [_, _]) hSt hc2; clear hc2; replace hSt := hSt.perm (List.Perm.cons _ (List.Perm.cons _ (List.Perm.cons _ (List.Perm.cons _ (List.perm_append_comm)))))) | refine stepA ?_ | (refine stepS ?_; clear hSt; intro w hSt; dsimp only [spl, List.set] at hSt) | (refine stepB ?_; clear hSt; intro w nb hnb hSt; dsimp only [zcells, List.nil_append, List.cons_append] at hSt) | (refine stepG ?_ ?_ <;> intro hc <;> (try exact absA) <;> (fail_if_success (change true = true at hc)) <;> (fail_if_success (change false = false at hc))) | fail)
    all_goals exact ret1 rfl rfl ⟨rfl, _, ⟨_, _, _, _, _, hog, hoe, hJ2, rfl⟩, St.right (Ha := [_, _]) (hSt.perm (List.Perm.cons _ (List.Perm.cons _ (List.Perm.cons _ (List.Perm.cons _ List.perm_append_comm)))))⟩
end Go.Proofs.YthkimkgphaiagaaGreatDoor

namespace Go.Proofs.YthkimkgphaiagaaGreatDoor
open Go.RowKit
set_option maxRecDepth 4000
set_option linter.unusedVariables false
set_option linter.unusedSimpArgs false
set_option maxHeartbeats 4000000

theorem Svk.like {s t : Sv} {n : Nat} (h : Svk s n) (hm : t.m = s.m) (hj : t.j = s.j) (hl : t.l.length = s.l.length) (he : t.ends = s.ends) : Svk t n := ⟨hm ▸ h.m, hj ▸ h.j, by rw [hl]; exact h.l, he ▸ h.e⟩
theorem Svk.endS {s : Sv} {n : Nat} (h : Svk s (n + 1)) (i : Nat) (st at_ : Int) (rs : List UInt8) : Svk (endS s i st at_ rs).2 n := by
  have h1 := h.recd (endR (endG (gAt s.l i) st at_ rs))
  unfold Go.Proofs.YthkimkgphaiagaaGreatDoor.endS
  split
  · exact h1
  · have h2 := h.l
    have h3 := h.e
    exact ⟨h1.m, h1.j, by dsimp only; rw [List.length_set]; exact h2, by dsimp only; rw [List.length_append, List.length_singleton]; omega⟩
theorem Svk.endAll : ∀ {l : List Nat} {s : Sv} {n k : Nat}, Svk s k → n + l.length ≤ k → ∀ (st at_ : Int) (rs : List UInt8), Svk (endAll s l st at_ rs).2 n
  | [], s, n, k, h, hk, st, at_, rs => h.le (by simpa using hk)
  | i :: l, s, n, k, h, hk, st, at_, rs => by
    rw [List.length_cons] at hk
    unfold Go.Proofs.YthkimkgphaiagaaGreatDoor.endAll
    have h1 := (h.le (k := n + l.length + 1) hk).endS i st at_ rs
    split
    · exact h1.le (by omega)
    · exact h1.endAll (Nat.le_refl _) st at_ rs
theorem Svk.decideS {s : Sv} {n : Nat} (h : Svk s (n + 1)) (hl : s.l.length < 64) (g : Gl) (ok : Bool) : Svk (decideS s g ok).2 n := by
  have h1 := h.recd (114 :: enc (decG1 g ok))
  unfold Go.Proofs.YthkimkgphaiagaaGreatDoor.decideS
  split
  · exact h1
  · exact ⟨h1.m, h1.j, by dsimp only; rw [List.length_append, List.length_singleton]; omega, by have := h1.e; have e := (recS_like s (114 :: enc (decG1 g ok))).ends; exact h1.e⟩
theorem Svk.nextS {s : Sv} {n : Nat} (h : Svk s n) : Svk (nextS s) n := by
  unfold Go.Proofs.YthkimkgphaiagaaGreatDoor.nextS
  split
  · exact h
  split
  · exact h
  · exact ⟨h.m, h.j, by dsimp only; rw [List.length_set]; exact h.l, h.e⟩
theorem openL_len (l : List Gl) : (openL l).length ≤ l.length := by
  have := List.length_filter_le (fun k => !termF (gAt l k).st) (List.range l.length)
  rw [List.length_range] at this; exact this
theorem filt_skip {L : List Nat} {i x : Nat} {c : Int} (hx : L[i]? = some x) (h : (x : Int) = c) : (L.drop i).filter (fun i : Nat => decide ((i : Int) ≠ c)) = (L.drop (i + 1)).filter (fun i : Nat => decide ((i : Int) ≠ c)) := by
  obtain ⟨hi, rfl⟩ := List.getElem?_eq_some_iff.1 hx
  rw [List.drop_eq_getElem_cons hi, List.filter_cons, if_neg (by simp [h])]
theorem filt_take {L : List Nat} {i x : Nat} {c : Int} (hx : L[i]? = some x) (h : (x : Int) ≠ c) : (L.drop i).filter (fun i : Nat => decide ((i : Int) ≠ c)) = x :: (L.drop (i + 1)).filter (fun i : Nat => decide ((i : Int) ≠ c)) := by
  obtain ⟨hi, rfl⟩ := List.getElem?_eq_some_iff.1 hx
  rw [List.drop_eq_getElem_cons hi, List.filter_cons, if_pos (by simpa using h)]
theorem endAll_no {s : Sv} {x : Nat} {l : List Nat} {st at_ : Int} {rs : List UInt8} (h : (endS s x st at_ rs).1 ≠ 0) : endAll s (x :: l) st at_ rs = endS s x st at_ rs := by
  rw [endAll, if_pos h]
theorem endAll_ok {s : Sv} {x : Nat} {l : List Nat} {st at_ : Int} {rs : List UInt8} (h : (endS s x st at_ rs).1 = 0) : endAll s (x :: l) st at_ rs = endAll (endS s x st at_ rs).2 l st at_ rs := by
  rw [endAll, if_neg (by simpa using h)]
theorem ints_at {L : List Nat} {i x : Nat} (hx : L[i]? = some x) (rs : List Value) : (ints L ++ rs)[0 + (i : Int).toNat * 1]? = some (I (x : Int)) := by
  rw [Nat.zero_add, Int.toNat_natCast, Nat.mul_one, List.getElem?_append_left (by rw [List.length_map]; exact (List.getElem?_eq_some_iff.1 hx).1), List.getElem?_map, hx]; rfl
theorem accepts_any {w0 : World} {bs bj : Nat} {gv ev : Value} {s : Sv} (hb : w0.heap[bs]? = some (svO bj gv ev s)) (hg : SlAt w0 gv 7 (s.l.map gC)) (hl : s.l.length ≤ 1000000) :
    Cl Tryz.prog 46 [Ptr bs] w0 (fun v w' => v = B (acceptsB s) ∧ St w0 NoneS [] w') := by
  have hSt := St.refl w0 NoneS
  obtain ⟨pol, lim, l, ends, cur, fb, stop, m, j⟩ := s
  dsimp only at hb hg hl ⊢
  have hol := openL_len l
  unfold acceptsB; dsimp only
  by_cases h1 : pol = 1
  · rw [if_pos h1]
    refine enter Tryz.func46 rfl Tryz.ntmps46 rfl ?_
    repeat' (first | (refine WL_isCall (f := 31) ?_; refine WL_call (ok_call hT rfl) rfl rfl rfl (open_any (s := ⟨pol, lim, l, ends, cur, fb, stop, m, j⟩) hb (hg.later hSt (fun _ e => e)) hl) ?_; rintro v w2 ⟨H1, ho1, hc2⟩; replace hSt := hSt.newN hc2; clear hc2; dsimp only at ho1; obtain ⟨a1, c1, rfl⟩ := ho1.len) | (apply WL_ev rfl rfl; exact Ev_load1 hT rfl rfl (hSt.base hb (fun e => e)) rfl) | refine stepA ?_ | (refine stepS ?_; clear hSt; intro w hSt; dsimp only [spl, List.set] at hSt) | (refine stepB ?_; clear hSt; intro w nb hnb hSt; dsimp only [zcells, List.nil_append, List.cons_append] at hSt) | (refine stepG ?_ ?_ <;> intro hc <;> (try exact absA) <;> (fail_if_success (change true = true at hc)) <;> (fail_if_success (change false = false at hc))) | fail)
    all_goals exact ret1 rfl rfl ⟨by congr 1; simp only [decide_eq_decide]; omega, hSt.nil⟩
  · rw [if_neg h1]
    by_cases h3 : pol = 3
    · rw [if_pos h3]
      by_cases hcu : cur < 0
      · refine enter Tryz.func46 rfl Tryz.ntmps46 rfl ?_
        repeat' (first | (refine WL_isCall (f := 31) ?_; refine WL_call (ok_call hT rfl) rfl rfl rfl (open_any (s := ⟨pol, lim, l, ends, cur, fb, stop, m, j⟩) hb (hg.later hSt (fun _ e => e)) hl) ?_; rintro v w2 ⟨H1, ho1, hc2⟩; replace hSt := hSt.newN hc2; clear hc2; dsimp only at ho1; obtain ⟨a1, c1, rfl⟩ := ho1.len) | (apply WL_ev rfl rfl; exact Ev_load1 hT rfl rfl (hSt.base hb (fun e => e)) rfl) | refine stepA ?_ | (refine stepS ?_; clear hSt; intro w hSt; dsimp only [spl, List.set] at hSt) | (refine stepB ?_; clear hSt; intro w nb hnb hSt; dsimp only [zcells, List.nil_append, List.cons_append] at hSt) | (refine stepG ?_ ?_ <;> intro hc <;> (try exact absA) <;> (fail_if_success (change true = true at hc)) <;> (fail_if_success (change false = false at hc))) | fail)
        all_goals exact ret1 rfl rfl ⟨by congr 1; simp [hcu], hSt.nil⟩
      · refine enter Tryz.func46 rfl Tryz.ntmps46 rfl ?_
        repeat' (first | (refine WL_isCall (f := 31) ?_; refine WL_call (ok_call hT rfl) rfl rfl rfl (open_any (s := ⟨pol, lim, l, ends, cur, fb, stop, m, j⟩) hb (hg.later hSt (fun _ e => e)) hl) ?_; rintro v w2 ⟨H1, ho1, hc2⟩; replace hSt := hSt.newN hc2; clear hc2; dsimp only at ho1; obtain ⟨a1, c1, rfl⟩ := ho1.len) | (apply WL_ev rfl rfl; exact Ev_load1 hT rfl rfl (hSt.base hb (fun e => e)) rfl) | refine stepA ?_ | (refine stepS ?_; clear hSt; intro w hSt; dsimp only [spl, List.set] at hSt) | (refine stepB ?_; clear hSt; intro w nb hnb hSt; dsimp only [zcells, List.nil_append, List.cons_append] at hSt) | (refine stepG ?_ ?_ <;> intro hc <;> (try exact absA) <;> (fail_if_success (change true = true at hc)) <;> (fail_if_success (change false = false at hc))) | fail)
        all_goals exact ret1 rfl rfl ⟨by congr 1; simp only [decide_eq_decide]; omega, hSt.nil⟩
    · rw [if_neg h3]
      refine enter Tryz.func46 rfl Tryz.ntmps46 rfl ?_
      repeat' (first | (refine WL_isCall (f := 31) ?_; refine WL_call (ok_call hT rfl) rfl rfl rfl (open_any (s := ⟨pol, lim, l, ends, cur, fb, stop, m, j⟩) hb (hg.later hSt (fun _ e => e)) hl) ?_; rintro v w2 ⟨H1, ho1, hc2⟩; replace hSt := hSt.newN hc2; clear hc2; dsimp only at ho1; obtain ⟨a1, c1, rfl⟩ := ho1.len) | (apply WL_ev rfl rfl; exact Ev_load1 hT rfl rfl (hSt.base hb (fun e => e)) rfl) | refine stepA ?_ | (refine stepS ?_; clear hSt; intro w hSt; dsimp only [spl, List.set] at hSt) | (refine stepB ?_; clear hSt; intro w nb hnb hSt; dsimp only [zcells, List.nil_append, List.cons_append] at hSt) | (refine stepG ?_ ?_ <;> intro hc <;> (try exact absA) <;> (fail_if_success (change true = true at hc)) <;> (fail_if_success (change false = false at hc))) | fail)
      all_goals exact ret1 rfl rfl ⟨rfl, hSt.nil⟩
theorem clear_any {w0 : World} (hG : Gb w0) {bs bj bm : Nat} {s : Sv} {H : List (Nat × Obj)} (hW : SW bs bj bm s H) {n : Nat} (hk : Svk s (n + 64)) (hh : Has w0 H) (hn : NoG (InH H)) (at_ : Int) :
    Cl Tryz.prog 47 [Ptr bs, I at_] w0 (fun v w' => v = I (clearS s at_).1 ∧ ∃ H', SW bs bj bm (clearS s at_).2 H' ∧ St w0 (InH H) H' w') := by
  have hSt := hh.st
  generalize InH _ = SS at hSt hn ⊢
  clear hh
  have hl := hk.l
  have hol := openL_len s.l
  unfold clearS
  have hlo : ∀ i ∈ openL s.l, i < s.l.length := fun i hi => (openL_mem.1 hi).1
  obtain ⟨pol, lim, l, ends, cur, fb, stop, m, j⟩ := s
  dsimp only at hol hlo hl ⊢
  obtain ⟨L, hL⟩ : ∃ L, L = openL l := ⟨_, rfl⟩
  rw [← hL] at hol hlo ⊢
  obtain ⟨gv, Hg, ev, He, Hj, hog, hoe, hJ, rfl⟩ := id hW
  dsimp only at hog hoe hJ hSt
  refine enter Tryz.func47 rfl Tryz.ntmps47 rfl ?_
  repeat' (first | (refine WL_isCall (f := 31) ?_; refine WL_call (ok_call hT rfl) rfl rfl rfl (open_any (s := ⟨pol, lim, l, ends, cur, fb, stop, m, j⟩) (hSt.own 0 _ _ rfl).1 (OwnSl.slAt gC_len hog (hSt.has.sublist sub_g)) (by dsimp only; omega)) ?_; rintro v w2 ⟨H1, ho1, hc2⟩; replace hSt := hSt.newN hc2; clear hc2; dsimp only at ho1; rw [← hL] at ho1; obtain ⟨a1, c1, rfl⟩ := ho1.len) | refine stepA ?_ | (refine stepS ?_; clear hSt; intro w hSt; dsimp only [spl, List.set] at hSt) | (refine stepB ?_; clear hSt; intro w nb hnb hSt; dsimp only [zcells, List.nil_append, List.cons_append] at hSt) | (refine stepG ?_ ?_ <;> intro hc <;> (try exact absA) <;> (fail_if_success (change true = true at hc)) <;> (fail_if_success (change false = false at hc))) | fail)
  replace hSt := hSt.perm List.perm_append_comm
  refine W_sub (L' := [(11, I ((0 : Nat) : Int)), (0, Ptr bs), (1, I at_), (9, .slice a1 L.length c1), (10, I L.length)]) (by (repeat (first | exact Sub.nil _ | refine Sub.cons rfl ?_))) ?_
  refine W_loop1 (fun k (i : Nat) w => k = L.length - i ∧ i ≤ L.length ∧ ∃ s' Hs, SW bs bj bm s' Hs ∧ Svk s' (n + 64 - i) ∧ s'.cur = cur ∧ s'.l.length = l.length ∧ endAll ⟨pol, lim, l, ends, cur, fb, stop, m, j⟩ (L.filter fun i : Nat => decide ((i : Int) ≠ cur)) 6 at_ wCanceled = endAll s' ((L.drop i).filter fun i : Nat => decide ((i : Int) ≠ cur)) 6 at_ wCanceled ∧ St w0 SS (H1 ++ Hs) w) (fun i => [(11, I (i : Int))]) L.length 0 rfl (by (repeat (first | exact Str.nil _ | apply Str.drop rfl | apply Str.keepU rfl | apply Str.keep rfl))) ⟨rfl, by omega, _, _, hW, hk.le (by omega), rfl, rfl, rfl, hSt⟩ (by (repeat (first | exact Sub.nil _ | refine Sub.cons rfl ?_))) ?_
  clear hSt hW hk hog hoe hJ
  rintro k i w ⟨hk, hi, s', Hs, hW, hkv, hcur, hsl, heq, hSt⟩ K hK
  rw [heq]
  by_cases hil : i < L.length
  · obtain ⟨x, hx⟩ : ∃ x, L[i]? = some x := ⟨_, List.getElem?_eq_getElem hil⟩
    have hxl := hlo x (List.mem_of_getElem? hx)
    have hlt9 : L.length - (i + 1) < k := by omega
    obtain ⟨ob, oc, rs2, hsv, hoc, hrs2, rfl⟩ := ho1.some_ (by omega)
    injection hsv with e1 e2 e3
    subst e1 e3
    have hend := fun {w : World} (hG : Gb w) hh hn => end_any (w0 := w) hG hW (hkv.le (k := 1) (by omega)) hh hn (by rw [hsl]; exact hxl) 6 at_ wCanceled
    have hcell := ints_at hx rs2
    by_cases hcu : (x : Int) = cur
    · rw [filt_skip hx hcu] at heq ⊢
      rw [← hcur] at hcu
      obtain ⟨gv2, Hg2, ev2, He2, Hj2, hog2, hoe2, hJ2, rfl⟩ := id hW
      repeat' (first | (apply WL_ev rfl rfl; exact Ev_load1 hT rfl rfl (hSt.at 0 rfl) hcell) | (apply WL_ev rfl rfl; exact Ev_load1 hT rfl rfl (hSt.at 1 rfl) rfl) | refine stepA ?_ | (refine stepS ?_; clear hSt; intro w hSt; dsimp only [spl, List.set] at hSt) | (refine stepB ?_; clear hSt; intro w nb hnb hSt; dsimp only [zcells, List.nil_append, List.cons_append] at hSt) | (refine stepG ?_ ?_ <;> intro hc <;> (try exact absA) <;> (fail_if_success (change true = true at hc)) <;> (fail_if_success (change false = false at hc))) | fail)
      exact At_loop1 hK (k' := L.length - (i + 1)) (i + 1) hlt9 ⟨rfl, hil, s', _, hW, hkv.le (by omega), hcur, hsl, heq, hSt⟩ (by (repeat (first | exact Sub.nil _ | refine Sub.cons rfl ?_)))
    · rw [filt_take hx hcu] at heq ⊢
      rw [← hcur] at hcu
      have hk2 := (hkv.le (k := n + 64 - (i + 1) + 1) (by omega)).endS x 6 at_ wCanceled
      have hl2 := endS_len s' x 6 at_ wCanceled
      have hcc := endS_cur hcu 6 at_ wCanceled
      obtain ⟨gv2, Hg2, ev2, He2, Hj2, hog2, hoe2, hJ2, rfl⟩ := hW
      by_cases he : (endS s' x 6 at_ wCanceled).1 = 0
      · rw [endAll_ok he] at heq ⊢
        generalize endS s' x 6 at_ wCanceled = r at hend he hk2 hl2 hcc heq ⊢
        obtain ⟨e, s2⟩ := r
        dsimp only at hend he hk2 hl2 hcc heq ⊢
        subst he
        repeat' (first | (apply WL_ev rfl rfl; exact Ev_load1 hT rfl rfl (hSt.at 0 rfl) hcell) | (apply WL_ev rfl rfl; exact Ev_load1 hT rfl rfl (hSt.at 1 rfl) rfl) | (refine WL_isCall (f := 32) ?_; refine WL_call (ok_call hT rfl) rfl rfl rfl (hend (hG.later hSt hn) (St.hasE (Ha := [_]) hSt) (NoG.r (Ha := [_]) (hG.no hSt hn))) ?_; rintro v w2 ⟨rfl, H2, hW2, hc2⟩; replace hSt := St.callE (Ha := [_]) hSt hc2; clear hc2) | refine stepA ?_ | (refine stepS ?_; clear hSt; intro w hSt; dsimp only [spl, List.set] at hSt) | (refine stepB ?_; clear hSt; intro w nb hnb hSt; dsimp only [zcells, List.nil_append, List.cons_append] at hSt) | (refine stepG ?_ ?_ <;> intro hc <;> (try exact absA) <;> (fail_if_success (change true = true at hc)) <;> (fail_if_success (change false = false at hc))) | fail)
        exact At_loop1 hK (k' := L.length - (i + 1)) (i + 1) hlt9 ⟨rfl, hil, s2, _, hW2, hk2, hcc.trans hcur, hl2.trans hsl, heq, hSt⟩ (by (repeat (first | exact Sub.nil _ | refine Sub.cons rfl ?_)))
      · rw [endAll_no he]
        generalize endS s' x 6 at_ wCanceled = r at hend he hk2 hl2 hcc ⊢
        obtain ⟨e, s2⟩ := r
        dsimp only at hend he hk2 hl2 hcc ⊢
        repeat' (first | (apply WL_ev rfl rfl; exact Ev_load1 hT rfl rfl (hSt.at 0 rfl) hcell) | (apply WL_ev rfl rfl; exact Ev_load1 hT rfl rfl (hSt.at 1 rfl) rfl) | (refine WL_isCall (f := 32) ?_; refine WL_call (ok_call hT rfl) rfl rfl rfl (hend (hG.later hSt hn) (St.hasE (Ha := [_]) hSt) (NoG.r (Ha := [_]) (hG.no hSt hn))) ?_; rintro v w2 ⟨rfl, H2, hW2, hc2⟩; replace hSt := St.callE (Ha := [_]) hSt hc2; clear hc2) | refine stepA ?_ | (refine stepS ?_; clear hSt; intro w hSt; dsimp only [spl, List.set] at hSt) | (refine stepB ?_; clear hSt; intro w nb hnb hSt; dsimp only [zcells, List.nil_append, List.cons_append] at hSt) | (refine stepG ?_ ?_ <;> intro hc <;> (try exact absA) <;> (fail_if_success (change true = true at hc)) <;> (fail_if_success (change false = false at hc))) | fail)
        exact ret1 rfl rfl ⟨rfl, _, hW2, hSt.right (Ha := [_])⟩
  · obtain rfl : i = L.length := by omega
    rw [List.drop_length, List.filter_nil, endAll]
    repeat' (first | refine stepA ?_ | (refine stepS ?_; clear hSt; intro w hSt; dsimp only [spl, List.set] at hSt) | (refine stepB ?_; clear hSt; intro w nb hnb hSt; dsimp only [zcells, List.nil_append, List.cons_append] at hSt) | (refine stepG ?_ ?_ <;> intro hc <;> (try exact absA) <;> (fail_if_success (change true = true at hc)) <;> (fail_if_success (change false = false at hc))) | fail)
    exact ret1 rfl rfl ⟨rfl, _, hW, hSt.right (Ha := H1)⟩
end Go.Proofs.YthkimkgphaiagaaGreatDoor
