/- The law Once: what is known of goals holds. No conditions. -/
import Derived.Test.YtndkifkaejmibaaGreatDoorSwb

namespace Go.Proofs.YtndkifkaejmibaaGreatDoor
open Go.RowKit
set_option maxRecDepth 4000
set_option linter.unusedVariables false
set_option linter.unusedSimpArgs false
set_option maxHeartbeats 16000000

def cntA (l : List Gl) (i : Nat) : Nat := (l.take i).countP fun g => g.st == 2 || g.st == 3
def cntW (l : List Gl) (i : Nat) : Nat := (l.take i).countP fun g => g.st == 1
def cntE (l : List Gl) (i : Nat) : Nat := (l.take i).countP fun g => decide (4 ≤ g.st) && decide (g.st ≤ 6)
def tms (l : List Gl) (i : Nat) : List Gl := (l.take i).filter fun g => termF g.st
theorem cnt_le (l : List Gl) (i : Nat) : cntA l i ≤ i ∧ cntW l i ≤ i ∧ cntE l i ≤ i := by
  have h : (l.take i).length ≤ i := by rw [List.length_take]; omega
  exact ⟨Nat.le_trans List.countP_le_length h, Nat.le_trans List.countP_le_length h, Nat.le_trans List.countP_le_length h⟩
theorem take_snoc {l : List Gl} {i : Nat} {x : Gl} (hx : l[i]? = some x) : l.take (i + 1) = l.take i ++ [x] := by rw [List.take_add_one, hx]; rfl
theorem cntA_step {l : List Gl} {i : Nat} {x : Gl} (hx : l[i]? = some x) : ((cntA l (i + 1) : Nat) : Int) = if x.st = 2 ∨ x.st = 3 then (cntA l i : Int) + 1 else (cntA l i : Int) := by
  unfold cntA
  rw [take_snoc hx, List.countP_append, List.countP_singleton]
  by_cases h : x.st = 2 ∨ x.st = 3
  · rw [if_pos h, if_pos (by simpa using h)]; rfl
  · rw [if_neg h, if_neg (by simpa using h)]; rfl
theorem cntW_step {l : List Gl} {i : Nat} {x : Gl} (hx : l[i]? = some x) : ((cntW l (i + 1) : Nat) : Int) = if x.st = 1 then (cntW l i : Int) + 1 else (cntW l i : Int) := by
  unfold cntW
  rw [take_snoc hx, List.countP_append, List.countP_singleton]
  by_cases h : x.st = 1
  · rw [if_pos h, if_pos (by simpa using h)]; rfl
  · rw [if_neg h, if_neg (by simpa using h)]; rfl
theorem cntE_step {l : List Gl} {i : Nat} {x : Gl} (hx : l[i]? = some x) : ((cntE l (i + 1) : Nat) : Int) = if 4 ≤ x.st ∧ x.st ≤ 6 then (cntE l i : Int) + 1 else (cntE l i : Int) := by
  unfold cntE
  rw [take_snoc hx, List.countP_append, List.countP_singleton]
  by_cases h : 4 ≤ x.st ∧ x.st ≤ 6
  · rw [if_pos h, if_pos (by simpa using h)]; rfl
  · rw [if_neg h, if_neg (by simpa using h)]; rfl
theorem tms_step {l : List Gl} {i : Nat} {x : Gl} (hx : l[i]? = some x) : tms l (i + 1) = tms l i ++ if termF x.st = true then [x] else [] := by
  unfold tms
  rw [take_snoc hx, List.filter_append]
  congr 1
  cases h : termF x.st <;> simp [List.filter_cons, h]
theorem own_gl {v : Value} {l : List Gl} {x : Gl} {H : List (Nat × Obj)} (h : OwnSl v 35 7 (l.flatMap gC ++ gC x) (l.length + 1) H) : OwnSl v 35 7 ((l ++ [x]).flatMap gC) (l ++ [x]).length H := own_snoc h
theorem count_one {l : List Gl} (h : ∀ i j : Nat, ∀ x y : Gl, l[i]? = some x → l[j]? = some y → (x.st = 2 ∨ x.st = 3) → (y.st = 2 ∨ y.st = 3) → i = j) : ∀ i, cntA l i ≤ 1 ∧ (∀ (k : Nat) (x : Gl), l[k]? = some x → (x.st = 2 ∨ x.st = 3) → cntA l i = if k < i then 1 else 0)
  | 0 => ⟨by simp [cntA], fun k x _ _ => by simp [cntA]⟩
  | i + 1 => by
    obtain ⟨h1, h2⟩ := count_one h i
    rcases hx : l[i]? with _ | x
    · have e : cntA l (i + 1) = cntA l i := by unfold cntA; rw [List.take_add_one, hx]; simp
      rw [e]
      refine ⟨h1, fun k y hk hy => ?_⟩
      have hki : k < i := by
        have a := (List.getElem?_eq_some_iff.1 hk).1
        have b := List.getElem?_eq_none_iff.1 hx
        omega
      rw [h2 k y hk hy, if_pos hki, if_pos (by omega)]
    · have hs := cntA_step hx
      by_cases hst : x.st = 2 ∨ x.st = 3
      · rw [if_pos hst] at hs
        have h0 : cntA l i = 0 := by rw [h2 i x hx hst, if_neg (by omega)]
        refine ⟨by omega, fun k y hk hy => ?_⟩
        have := h i k x y hx hk hst hy
        subst this
        rw [if_pos (by omega)]; omega
      · rw [if_neg hst] at hs
        refine ⟨by omega, fun k y hk hy => ?_⟩
        have hki : k ≠ i := by rintro rfl; rw [hx] at hk; injection hk with hk; subst hk; exact hst hy
        have := h2 k y hk hy
        by_cases hlt : k < i
        · rw [if_pos hlt] at this; rw [if_pos (by omega)]; omega
        · rw [if_neg hlt] at this; rw [if_neg (by omega)]; omega
theorem cntW_zero {l : List Gl} (h : ∀ i, i < l.length → (gAt l i).st ≠ 1) : cntW l l.length = 0 := by
  unfold cntW
  rw [List.take_length, List.countP_eq_zero]
  intro g hg
  obtain ⟨k, hk, rfl⟩ := List.getElem_of_mem hg
  have := h k hk
  have e : gAt l k = l[k] := by unfold gAt; rw [List.getD_eq_getElem?_getD, List.getElem?_eq_getElem hk]; rfl
  rw [e] at this
  simpa using this
theorem Inv.counts {s : Sv} (h : Inv s) : (cntA s.l s.l.length : Int) ≤ 1 ∧ ((cntA s.l s.l.length : Int) = 1 ∨ (cntW s.l s.l.length : Int) = 0) := by
  have hone : ∀ i j : Nat, ∀ x y : Gl, s.l[i]? = some x → s.l[j]? = some y → (x.st = 2 ∨ x.st = 3) → (y.st = 2 ∨ y.st = 3) → i = j := by
    intro i j x y hx hy h1 h2
    have hi := (List.getElem?_eq_some_iff.1 hx).1
    have hj := (List.getElem?_eq_some_iff.1 hy).1
    rw [gAt_some hi] at hx
    rw [gAt_some hj] at hy
    injection hx with hx
    injection hy with hy
    subst hx hy
    have a := h.c1 i hi h1
    have b := h.c1 j hj h2
    omega
  obtain ⟨a, b⟩ := count_one hone s.l.length
  refine ⟨by omega, ?_⟩
  by_cases hc : 0 ≤ s.cur
  · obtain ⟨c1, c2⟩ := h.c2 hc
    have := b _ _ (gAt_some c1) c2
    rw [if_pos c1] at this
    omega
  · have := cntW_zero (h.idle (by omega))
    omega
theorem ends_count {p : GE} (h : GI p) : p.2.length = cntE p.1 p.1.length := by
  have key : ∀ n, n ≤ p.1.length → cntE p.1 n = ((List.range n).filter fun i => decide (4 ≤ (gAt p.1 i).st) && decide ((gAt p.1 i).st ≤ 6)).length := by
    intro n
    induction n with
    | zero => intro _; simp [cntE]
    | succ n ih =>
      intro hn
      have hx := gAt_some (l := p.1) (i := n) (by omega)
      have hs := cntE_step hx
      rw [List.range_succ, List.filter_append, List.length_append, ← ih (by omega)]
      by_cases hst : 4 ≤ (gAt p.1 n).st ∧ (gAt p.1 n).st ≤ 6
      · rw [if_pos hst] at hs
        rw [List.filter_cons, if_pos (by simpa using hst)]
        simp only [List.filter_nil, List.length_cons, List.length_nil]; omega
      · rw [if_neg hst] at hs
        rw [List.filter_cons, if_neg (by simpa using hst)]
        simp only [List.filter_nil, List.length_nil]; omega
  rw [key _ (Nat.le_refl _)]
  apply List.Perm.length_eq
  rw [List.perm_iff_count]
  intro a
  rw [List.Nodup.count h.nodup, List.Nodup.count (List.Pairwise.filter _ List.nodup_range)]
  have e : a ∈ p.2 ↔ a ∈ (List.range p.1.length).filter fun i => decide (4 ≤ (gAt p.1 i).st) && decide ((gAt p.1 i).st ≤ 6) := by
    rw [h.ends a, List.mem_filter, List.mem_range]; simp
  simp only [e]
theorem outsS_ln (s : Sv) : (outsS s).length = s.ends.length := by unfold outsS; rw [List.length_map]
theorem St.nil_r {w0 w : World} {Sx : Nat → Prop} {H : List (Nat × Obj)} (h : St w0 Sx H w) : St w0 Sx (H ++ []) w := by rw [List.append_nil]; exact h
theorem goalS_at {s : Sv} (h : GI (s.l, s.ends)) {k : Nat} (hk : k < s.l.length) : goalS s (gAt s.l k).c (gAt s.l k).n = (gAt s.l k, true) := by
  unfold goalS
  have := h.find (p := (s.l, s.ends)) hk
  dsimp only at this
  rw [this]
theorem permP1 {k : Nat × Obj} {H1 H2 H3 H5 H : List (Nat × Obj)} : List.Perm (k :: (((H1 ++ H2) ++ (H3 ++ H5)) ++ H)) ((k :: (((H1 ++ H2) ++ H3) ++ H)) ++ H5) := by
  rw [List.cons_append]
  refine List.Perm.cons _ ?_
  rw [← List.append_assoc (H1 ++ H2) H3 H5, List.append_assoc _ H5 H, List.append_assoc _ H H5]
  exact List.Perm.append_left _ List.perm_append_comm
theorem permP2 {k : Nat × Obj} {H1 H2 H3 H5 H : List (Nat × Obj)} : List.Perm (k :: ((H3 ++ ((H1 ++ H2) ++ H5)) ++ H)) (k :: (((H1 ++ H2) ++ (H3 ++ H5)) ++ H)) := by
  refine List.Perm.cons _ (List.Perm.append_right H ?_)
  rw [← List.append_assoc H3, ← List.append_assoc (H1 ++ H2)]
  exact List.Perm.append_right H5 List.perm_append_comm
theorem permP3 {k : Nat × Obj} {H1 H2 H3 H5 H : List (Nat × Obj)} : List.Perm (k :: ((H5 ++ ((H1 ++ H2) ++ H)) ++ H3)) (k :: ((H3 ++ ((H1 ++ H2) ++ H5)) ++ H)) := by
  refine List.Perm.cons _ ?_
  have a : List.Perm ((H5 ++ ((H1 ++ H2) ++ H)) ++ H3) (H3 ++ (H5 ++ ((H1 ++ H2) ++ H))) := List.perm_append_comm
  refine a.trans ?_
  rw [List.append_assoc H3]
  refine List.Perm.append_left H3 ?_
  rw [← List.append_assoc H5]
  exact List.Perm.append_right H List.perm_append_comm
theorem subQ {k : Nat × Obj} {H5 H12 H H3 : List (Nat × Obj)} : List.Sublist (k :: ((H12 ++ H) ++ H3)) ((k :: (H5 ++ (H12 ++ H))) ++ H3) := by
  rw [List.cons_append]
  exact List.Sublist.cons_cons _ (List.Sublist.append (List.sublist_append_right _ _) (List.Sublist.refl _))
theorem permQ {k : Nat × Obj} {H1 H2 H3 H : List (Nat × Obj)} : List.Perm ((k :: ((H1 ++ H2) ++ H3)) ++ H) (k :: (((H1 ++ H2) ++ H) ++ H3)) := by
  rw [List.cons_append]
  refine List.Perm.cons _ ?_
  rw [List.append_assoc, List.append_assoc (H1 ++ H2)]
  exact List.Perm.append_left _ List.perm_append_comm
section
variable {w0 : World} {kb bs bj bm : Nat} {s : Sv} {ids : List (Int × Int)} {acc : List Bool} {fin : List Gl} {HK H : List (Nat × Obj)}
theorem holds_any (hW : SW bs bj bm s H) (hI : Inv s) (hgi : GI (s.l, s.ends)) (hkn : Kn ids acc fin s.l) (hK0 : KW kb ids acc fin HK) (hil0 : ids.length ≤ 100) (hfl : fin.length ≤ 100) (hh : Has w0 (HK ++ H)) :
    Cl Tryz.prog 22 [Ptr kb, Ptr bs] w0 (fun v w' => v = B true ∧ ∃ HK', KW kb ids acc (tms s.l s.l.length) HK' ∧ St w0 (InH (HK ++ H)) (HK' ++ H) w') := by
  obtain ⟨v1, H1, v2, H2, v3, H3, ho1, ho2, ho3, rfl⟩ := hK0
  have hSt := hh.st
  generalize InH _ = SS at hSt ⊢
  clear hh
  obtain ⟨l, hl⟩ : ∃ l, l = s.l := ⟨_, rfl⟩
  have hlen := hI.len
  have hst17 := hI.st
  have hel := ends_count hgi
  have hcnt := hI.counts
  have hdist := hgi.dist
  dsimp only at hdist hel
  rw [← hl] at hlen hst17 hel hcnt hdist ⊢
  have hendl : s.ends.length ≤ 64 := by
    rw [hel]; unfold cntE
    have := List.countP_le_length (p := fun g : Gl => decide (4 ≤ g.st) && decide (g.st ≤ 6)) (l := l.take l.length)
    rw [List.length_take] at this; omega
  obtain ⟨n, hn⟩ : ∃ n, n = ids.length := ⟨_, rfl⟩
  have hla := hkn.len
  rw [← hla, ← hn] at ho2
  rw [← hn] at ho1 hla hil0
  obtain ⟨ia, ic, rfl⟩ := ho1.len
  obtain ⟨aa, ac, rfl⟩ := ho2.len
  obtain ⟨fa, fc, rfl⟩ := ho3.len
  dsimp only [List.cons_append] at hSt
  refine enter Tryz.func22 rfl Tryz.ntmps22 rfl ?_
  repeat' (first | (refine WL_isCall (f := 14) ?_; refine WL_call (ok_call hT rfl) rfl rfl rfl (goals_any hW hI.len (St.hasE (Ha := _ :: ((H1 ++ H2) ++ H3)) hSt)) ?_; rintro v w2 ⟨H5, ho5, hc2⟩; replace hSt := hSt.newN hc2; clear hc2; obtain ⟨ga, gcc, rfl⟩ := ho5.len) | refine W_seq ?_ | refine W_block ?_ | refine W_region ?_ | refine WL_nil ?_ | refine W_true rfl ?_ | refine W_false rfl ?_ | refine W_skip ?_ | refine W_exit ?_ | refine W_ret ?_ | refine W_goto ?_ | refine W_label ?_ | refine At_calm ?_ | refine At_then_normal ?_ | refine At_then ?_ | refine At_then_ret ?_ | refine At_in_normal ?_ | refine At_in_ret ?_ | refine At_in_hit ?_ | refine At_in_miss rfl ?_ | refine At_jump_normal ?_ | refine At_jump_ret ?_ | refine At_jump_exit ?_ | refine At_then_goto ?_ | refine At_in_goto ?_ | (apply WL_ev rfl rfl; (first | exact Ev_auto)) | refine WL_pass rfl rfl ?_ | refine WL_pass0 rfl ?_ | (refine WL_store1 hT rfl rfl 0 rfl rfl hSt rfl rfl rfl ?_; clear hSt; intro w hSt; dsimp only [List.set] at hSt) | (refine WL_store1 hT rfl rfl 1 rfl rfl hSt rfl rfl rfl ?_; clear hSt; intro w hSt; dsimp only [List.set] at hSt) | (refine WL_store1 hT rfl rfl 2 rfl rfl hSt rfl rfl rfl ?_; clear hSt; intro w hSt; dsimp only [List.set] at hSt) | (refine WL_store1 hT rfl rfl 3 rfl rfl hSt rfl rfl rfl ?_; clear hSt; intro w hSt; dsimp only [List.set] at hSt) | (refine WL_storeN hT rfl rfl 0 rfl rfl hSt rfl rfl rfl rfl ?_; clear hSt; intro w hSt; dsimp only [spl, List.set] at hSt) | (refine WL_storeN hT rfl rfl 1 rfl rfl hSt rfl rfl rfl rfl ?_; clear hSt; intro w hSt; dsimp only [spl, List.set] at hSt) | (refine WL_storeN hT rfl rfl 2 rfl rfl hSt rfl rfl rfl rfl ?_; clear hSt; intro w hSt; dsimp only [spl, List.set] at hSt) | (refine WL_storeN hT rfl rfl 3 rfl rfl hSt rfl rfl rfl rfl ?_; clear hSt; intro w hSt; dsimp only [spl, List.set] at hSt) | (refine WL_box rfl rfl rfl hSt ?_; clear hSt; intro w nb hnb hSt; dsimp only [zcells, List.nil_append, List.cons_append] at hSt) | (refine WL_alloc hT rfl rfl rfl hSt ?_; clear hSt; intro w nb hnb hSt; dsimp only [zcells, List.nil_append, List.cons_append] at hSt) | (refine WL_guardP rfl rfl (fun hc => ?_) (fun hc => ?_) <;> try exact absA) | (refine WL_guard rfl rfl (fun hc => ?_) (fun hc => ?_) <;> (try exact absA) <;> (fail_if_success (change true = true at hc)) <;> (fail_if_success (change false = false at hc))) | (refine W_quiet hT (by decide +kernel) hSt ?_; clear hSt; (repeat' (first | (apply QL_ev rfl rfl; (intro w hSt; (first | exact Ev_auto))) | refine QL_pass rfl rfl ?_ | (refine QL_guardP rfl rfl (fun hc => ?_) (fun hc => ?_) <;> try exact absA) | (refine QL_guard rfl rfl (fun hc => ?_) (fun hc => ?_) <;> (try exact absA) <;> (fail_if_success (change true = true at hc)) <;> (fail_if_success (change false = false at hc))))); all_goals (refine QL_nil (fun w hSt => ?_))) | refine ret0' rfl ?_ | (refine W_if rfl (fun hc => ?_) (fun hc => ?_) <;> try exact absA) | (refine W_cond rfl (fun hc => ?_) (fun hc => ?_) <;> try exact absA))
  rw [← hl] at ho5
  replace hSt := hSt.perm (Hn := (kb, blk [.slice ia n ic, .slice aa n ac, .slice fa fin.length fc] 50) :: (((H1 ++ H2) ++ (H3 ++ H5)) ++ H)) (permP1 ..)
  refine W_sub (L' := [(6, I ((0 : Nat) : Int)), (0, Ptr kb), (1, Ptr bs), (5, .slice ga l.length gcc)]) (by rw [hl]; (repeat (first | exact Sub.nil _ | refine Sub.cons rfl ?_))) ?_
  refine W_loop1 (fun k (i : Nat) w => k = n - i ∧ i ≤ n ∧ St w0 SS ((kb, blk [.slice ia n ic, .slice aa n ac, .slice fa fin.length fc] 50) :: (((H1 ++ H2) ++ (H3 ++ H5)) ++ H)) w) (fun i => [(6, I (i : Int))]) n 0 rfl (by (repeat (first | exact Str.nil _ | apply Str.drop rfl | apply Str.keepU rfl | apply Str.keep rfl))) ⟨rfl, by omega, hSt⟩ (by (repeat (first | exact Sub.nil _ | refine Sub.cons rfl ?_))) ?_
  clear hSt
  rintro k i w ⟨hk, hi, hSt⟩ K hK
  by_cases hil : i < n
  · obtain ⟨x, hx⟩ : ∃ x, ids[i]? = some x := ⟨_, List.getElem?_eq_getElem (by omega)⟩
    obtain ⟨b, hb⟩ : ∃ b, acc[i]? = some b := ⟨_, List.getElem?_eq_getElem (by omega)⟩
    have hlt9 : n - (i + 1) < k := by omega
    obtain ⟨m, hm, hmc, hmn, hmb⟩ := hkn.dec i x b hx hb
    have hg := goalS_at hgi hm
    rw [hmc, hmn] at hg
    rw [← hl] at hg hmc hmn hmb
    generalize gAt l m = g at hg hmc hmn hmb
    obtain ⟨c0, n0, s0, a0, e0, q0, y0⟩ := g
    obtain ⟨x1, x2⟩ := x
    dsimp only at hg hmc hmn hmb
    subst hmc hmn
    have h7 : decide (s0 ≠ 7) = b := by cases b <;> simp_all
    obtain ⟨b1, c1, rs1, hsv1, hoc1, hrs1, rfl⟩ := ho1.some_ (by omega)
    injection hsv1 with e1 e2 e3
    subst e1 e3
    obtain ⟨b2, c2, rs2, hsv2, hoc2, hrs2, rfl⟩ := ho2.some_ (by omega)
    injection hsv2 with e1 e2 e3
    subst e1 e3
    dsimp only [List.cons_append, List.nil_append] at hSt
    have hcs := rowT idC_len hx rs1
    have hcb := bools_at hb rs2
    repeat' (first | (apply WL_ev rfl rfl; exact Ev_loadN hT rfl rfl (hSt.at 1 rfl) hcs rfl) | (refine WL_isCall (f := 16) ?_; refine WL_call (ok_call hT rfl) rfl rfl rfl (goal_to hW hI (St.hasE (Ha := _ :: _ :: _ :: (H3 ++ H5)) hSt) hg) ?_; rintro v w2 ⟨rfl, hc2⟩; replace hSt := hSt.call0 hc2; clear hc2) | (refine WL_alloc hT rfl rfl rfl hSt ?_; clear hSt; intro w nb hnb hSt; replace hSt := hSt.front; dsimp only [zcells] at hSt) | (apply WL_ev rfl rfl; exact Ev_loadN hT rfl rfl (hSt.at 2 rfl) hcs rfl) | (apply WL_ev rfl rfl; exact Ev_load1 hT rfl rfl (hSt.at 3 rfl) hcb) | (apply WL_ev rfl rfl; exact Ev_struct_nyes (ok_eq rfl) rfl rfl rfl) | (apply WL_ev rfl rfl; exact Ev_as (v2 := .bool b) (Ev_neq rfl rfl) (congrArg Value.bool h7)) | refine W_seq ?_ | refine W_block ?_ | refine W_region ?_ | refine WL_nil ?_ | refine W_true rfl ?_ | refine W_false rfl ?_ | refine W_skip ?_ | refine W_exit ?_ | refine W_ret ?_ | refine W_goto ?_ | refine W_label ?_ | refine At_calm ?_ | refine At_then_normal ?_ | refine At_then ?_ | refine At_then_ret ?_ | refine At_in_normal ?_ | refine At_in_ret ?_ | refine At_in_hit ?_ | refine At_in_miss rfl ?_ | refine At_jump_normal ?_ | refine At_jump_ret ?_ | refine At_jump_exit ?_ | refine At_then_goto ?_ | refine At_in_goto ?_ | (apply WL_ev rfl rfl; (first | exact Ev_auto)) | refine WL_pass rfl rfl ?_ | refine WL_pass0 rfl ?_ | (refine WL_store1 hT rfl rfl 0 rfl rfl hSt rfl rfl rfl ?_; clear hSt; intro w hSt; dsimp only [List.set] at hSt) | (refine WL_store1 hT rfl rfl 1 rfl rfl hSt rfl rfl rfl ?_; clear hSt; intro w hSt; dsimp only [List.set] at hSt) | (refine WL_store1 hT rfl rfl 2 rfl rfl hSt rfl rfl rfl ?_; clear hSt; intro w hSt; dsimp only [List.set] at hSt) | (refine WL_store1 hT rfl rfl 3 rfl rfl hSt rfl rfl rfl ?_; clear hSt; intro w hSt; dsimp only [List.set] at hSt) | (refine WL_storeN hT rfl rfl 0 rfl rfl hSt rfl rfl rfl rfl ?_; clear hSt; intro w hSt; dsimp only [spl, List.set] at hSt) | (refine WL_storeN hT rfl rfl 1 rfl rfl hSt rfl rfl rfl rfl ?_; clear hSt; intro w hSt; dsimp only [spl, List.set] at hSt) | (refine WL_storeN hT rfl rfl 2 rfl rfl hSt rfl rfl rfl rfl ?_; clear hSt; intro w hSt; dsimp only [spl, List.set] at hSt) | (refine WL_storeN hT rfl rfl 3 rfl rfl hSt rfl rfl rfl rfl ?_; clear hSt; intro w hSt; dsimp only [spl, List.set] at hSt) | (refine WL_box rfl rfl rfl hSt ?_; clear hSt; intro w nb hnb hSt; dsimp only [zcells, List.nil_append, List.cons_append] at hSt) | (refine WL_alloc hT rfl rfl rfl hSt ?_; clear hSt; intro w nb hnb hSt; dsimp only [zcells, List.nil_append, List.cons_append] at hSt) | (refine WL_guardP rfl rfl (fun hc => ?_) (fun hc => ?_) <;> try exact absA) | (refine WL_guard rfl rfl (fun hc => ?_) (fun hc => ?_) <;> (try exact absA) <;> (fail_if_success (change true = true at hc)) <;> (fail_if_success (change false = false at hc))) | (refine W_quiet hT (by decide +kernel) hSt ?_; clear hSt; (repeat' (first | (apply QL_ev rfl rfl; (intro w hSt; (first | (exact Ev_loadN hT rfl rfl (hSt.at 1 rfl) hcs rfl) | (exact Ev_loadN hT rfl rfl (hSt.at 2 rfl) hcs rfl) | (exact Ev_load1 hT rfl rfl (hSt.at 3 rfl) hcb) | (exact Ev_struct_nyes (ok_eq rfl) rfl rfl rfl) | (exact Ev_as (v2 := .bool b) (Ev_neq rfl rfl) (congrArg Value.bool h7)) | exact Ev_auto))) | refine QL_pass rfl rfl ?_ | (refine QL_guardP rfl rfl (fun hc => ?_) (fun hc => ?_) <;> try exact absA) | (refine QL_guard rfl rfl (fun hc => ?_) (fun hc => ?_) <;> (try exact absA) <;> (fail_if_success (change true = true at hc)) <;> (fail_if_success (change false = false at hc))))); all_goals (refine QL_nil (fun w hSt => ?_))) | refine ret0' rfl ?_ | (refine W_if rfl (fun hc => ?_) (fun hc => ?_) <;> try exact absA) | (refine W_cond rfl (fun hc => ?_) (fun hc => ?_) <;> try exact absA))
    all_goals try (exfalso; first | omega | (simp at hc; done) | (exact hc rfl))
    all_goals exact At_loop1 hK (k' := n - (i + 1)) (i + 1) hlt9 ⟨rfl, by omega, hSt.right (Ha := [_])⟩ (by (repeat (first | exact Sub.nil _ | refine Sub.cons rfl ?_)))
  obtain rfl : i = n := by omega
  clear hil
  replace hSt := hSt.perm (Hn := (kb, blk [.slice ia i ic, .slice aa i ac, .slice fa fin.length fc] 50) :: ((H3 ++ ((H1 ++ H2) ++ H5)) ++ H)) (permP2 ..)
  repeat' (first | refine W_seq ?_ | refine W_block ?_ | refine W_region ?_ | refine WL_nil ?_ | refine W_true rfl ?_ | refine W_false rfl ?_ | refine W_skip ?_ | refine W_exit ?_ | refine W_ret ?_ | refine W_goto ?_ | refine W_label ?_ | refine At_calm ?_ | refine At_then_normal ?_ | refine At_then ?_ | refine At_then_ret ?_ | refine At_in_normal ?_ | refine At_in_ret ?_ | refine At_in_hit ?_ | refine At_in_miss rfl ?_ | refine At_jump_normal ?_ | refine At_jump_ret ?_ | refine At_jump_exit ?_ | refine At_then_goto ?_ | refine At_in_goto ?_ | (apply WL_ev rfl rfl; (first | exact Ev_auto)) | refine WL_pass rfl rfl ?_ | refine WL_pass0 rfl ?_ | (refine WL_store1 hT rfl rfl 0 rfl rfl hSt rfl rfl rfl ?_; clear hSt; intro w hSt; dsimp only [List.set] at hSt) | (refine WL_store1 hT rfl rfl 1 rfl rfl hSt rfl rfl rfl ?_; clear hSt; intro w hSt; dsimp only [List.set] at hSt) | (refine WL_store1 hT rfl rfl 2 rfl rfl hSt rfl rfl rfl ?_; clear hSt; intro w hSt; dsimp only [List.set] at hSt) | (refine WL_store1 hT rfl rfl 3 rfl rfl hSt rfl rfl rfl ?_; clear hSt; intro w hSt; dsimp only [List.set] at hSt) | (refine WL_storeN hT rfl rfl 0 rfl rfl hSt rfl rfl rfl rfl ?_; clear hSt; intro w hSt; dsimp only [spl, List.set] at hSt) | (refine WL_storeN hT rfl rfl 1 rfl rfl hSt rfl rfl rfl rfl ?_; clear hSt; intro w hSt; dsimp only [spl, List.set] at hSt) | (refine WL_storeN hT rfl rfl 2 rfl rfl hSt rfl rfl rfl rfl ?_; clear hSt; intro w hSt; dsimp only [spl, List.set] at hSt) | (refine WL_storeN hT rfl rfl 3 rfl rfl hSt rfl rfl rfl rfl ?_; clear hSt; intro w hSt; dsimp only [spl, List.set] at hSt) | (refine WL_box rfl rfl rfl hSt ?_; clear hSt; intro w nb hnb hSt; dsimp only [zcells, List.nil_append, List.cons_append] at hSt) | (refine WL_alloc hT rfl rfl rfl hSt ?_; clear hSt; intro w nb hnb hSt; dsimp only [zcells, List.nil_append, List.cons_append] at hSt) | (refine WL_guardP rfl rfl (fun hc => ?_) (fun hc => ?_) <;> try exact absA) | (refine WL_guard rfl rfl (fun hc => ?_) (fun hc => ?_) <;> (try exact absA) <;> (fail_if_success (change true = true at hc)) <;> (fail_if_success (change false = false at hc))) | (refine W_quiet hT (by decide +kernel) hSt ?_; clear hSt; (repeat' (first | (apply QL_ev rfl rfl; (intro w hSt; (first | exact Ev_auto))) | refine QL_pass rfl rfl ?_ | (refine QL_guardP rfl rfl (fun hc => ?_) (fun hc => ?_) <;> try exact absA) | (refine QL_guard rfl rfl (fun hc => ?_) (fun hc => ?_) <;> (try exact absA) <;> (fail_if_success (change true = true at hc)) <;> (fail_if_success (change false = false at hc))))); all_goals (refine QL_nil (fun w hSt => ?_))) | refine ret0' rfl ?_ | (refine W_if rfl (fun hc => ?_) (fun hc => ?_) <;> try exact absA) | (refine W_cond rfl (fun hc => ?_) (fun hc => ?_) <;> try exact absA))
  all_goals try (exfalso; first | omega | (simp at hc; done) | (exact hc rfl))
  refine W_sub (L' := [(9, I ((0 : Nat) : Int)), (0, Ptr kb), (1, Ptr bs), (5, .slice ga l.length gcc)]) (by (repeat (first | exact Sub.nil _ | refine Sub.cons rfl ?_))) ?_
  refine W_loop1 (fun k (j : Nat) w => k = fin.length - j ∧ j ≤ fin.length ∧ St w0 SS ((kb, blk [.slice ia i ic, .slice aa i ac, .slice fa fin.length fc] 50) :: ((H3 ++ ((H1 ++ H2) ++ H5)) ++ H)) w) (fun j => [(9, I (j : Int))]) fin.length 0 rfl (by (repeat (first | exact Str.nil _ | apply Str.drop rfl | apply Str.keepU rfl | apply Str.keep rfl))) ⟨rfl, by omega, hSt⟩ (by (repeat (first | exact Sub.nil _ | refine Sub.cons rfl ?_))) ?_
  clear hSt
  rintro k j w ⟨hk, hj, hSt⟩ K hK
  by_cases hjl : j < fin.length
  · obtain ⟨x, hx⟩ : ∃ x, fin[j]? = some x := ⟨_, List.getElem?_eq_getElem hjl⟩
    have hlt9 : fin.length - (j + 1) < k := by omega
    obtain ⟨m, hm, hmg, hm4⟩ := hkn.fin x (List.mem_of_getElem? hx)
    have hg := goalS_at hgi hm
    rw [hmg] at hg
    obtain ⟨b3, c3, rs3, hsv3, hoc3, hrs3, rfl⟩ := ho3.some_ (by omega)
    injection hsv3 with e1 e2 e3
    subst e1 e3
    dsimp only [List.cons_append, List.nil_append] at hSt
    have hcs := rowT gC_len hx rs3
    have hq2 := SlAt.cells2 hcs
    obtain ⟨c0, n0, s0, a0, e0, q0, y0⟩ := x
    repeat' (first | (apply WL_ev rfl rfl; exact Ev_loadN hT rfl rfl (hSt.at 1 rfl) hq2 rfl) | (refine WL_isCall (f := 16) ?_; refine WL_call (ok_call hT rfl) rfl rfl rfl (goal_to hW hI (St.hasE (Ha := _ :: _ :: ((H1 ++ H2) ++ H5)) hSt) hg) ?_; rintro v w2 ⟨rfl, hc2⟩; replace hSt := hSt.call0 hc2; clear hc2) | (refine WL_alloc hT rfl rfl rfl hSt ?_; clear hSt; intro w nb hnb hSt; replace hSt := hSt.front; dsimp only [zcells] at hSt) | (apply WL_ev rfl rfl; exact Ev_loadN hT rfl rfl (hSt.at 2 rfl) hcs rfl) | (apply WL_ev rfl rfl; exact Ev_struct_nyes (ok_eq rfl) rfl rfl rfl) | refine W_seq ?_ | refine W_block ?_ | refine W_region ?_ | refine WL_nil ?_ | refine W_true rfl ?_ | refine W_false rfl ?_ | refine W_skip ?_ | refine W_exit ?_ | refine W_ret ?_ | refine W_goto ?_ | refine W_label ?_ | refine At_calm ?_ | refine At_then_normal ?_ | refine At_then ?_ | refine At_then_ret ?_ | refine At_in_normal ?_ | refine At_in_ret ?_ | refine At_in_hit ?_ | refine At_in_miss rfl ?_ | refine At_jump_normal ?_ | refine At_jump_ret ?_ | refine At_jump_exit ?_ | refine At_then_goto ?_ | refine At_in_goto ?_ | (apply WL_ev rfl rfl; (first | exact Ev_auto)) | refine WL_pass rfl rfl ?_ | refine WL_pass0 rfl ?_ | (refine WL_store1 hT rfl rfl 0 rfl rfl hSt rfl rfl rfl ?_; clear hSt; intro w hSt; dsimp only [List.set] at hSt) | (refine WL_store1 hT rfl rfl 1 rfl rfl hSt rfl rfl rfl ?_; clear hSt; intro w hSt; dsimp only [List.set] at hSt) | (refine WL_store1 hT rfl rfl 2 rfl rfl hSt rfl rfl rfl ?_; clear hSt; intro w hSt; dsimp only [List.set] at hSt) | (refine WL_store1 hT rfl rfl 3 rfl rfl hSt rfl rfl rfl ?_; clear hSt; intro w hSt; dsimp only [List.set] at hSt) | (refine WL_storeN hT rfl rfl 0 rfl rfl hSt rfl rfl rfl rfl ?_; clear hSt; intro w hSt; dsimp only [spl, List.set] at hSt) | (refine WL_storeN hT rfl rfl 1 rfl rfl hSt rfl rfl rfl rfl ?_; clear hSt; intro w hSt; dsimp only [spl, List.set] at hSt) | (refine WL_storeN hT rfl rfl 2 rfl rfl hSt rfl rfl rfl rfl ?_; clear hSt; intro w hSt; dsimp only [spl, List.set] at hSt) | (refine WL_storeN hT rfl rfl 3 rfl rfl hSt rfl rfl rfl rfl ?_; clear hSt; intro w hSt; dsimp only [spl, List.set] at hSt) | (refine WL_box rfl rfl rfl hSt ?_; clear hSt; intro w nb hnb hSt; dsimp only [zcells, List.nil_append, List.cons_append] at hSt) | (refine WL_alloc hT rfl rfl rfl hSt ?_; clear hSt; intro w nb hnb hSt; dsimp only [zcells, List.nil_append, List.cons_append] at hSt) | (refine WL_guardP rfl rfl (fun hc => ?_) (fun hc => ?_) <;> try exact absA) | (refine WL_guard rfl rfl (fun hc => ?_) (fun hc => ?_) <;> (try exact absA) <;> (fail_if_success (change true = true at hc)) <;> (fail_if_success (change false = false at hc))) | (refine W_quiet hT (by decide +kernel) hSt ?_; clear hSt; (repeat' (first | (apply QL_ev rfl rfl; (intro w hSt; (first | (exact Ev_loadN hT rfl rfl (hSt.at 1 rfl) hq2 rfl) | (exact Ev_loadN hT rfl rfl (hSt.at 2 rfl) hcs rfl) | (exact Ev_struct_nyes (ok_eq rfl) rfl rfl rfl) | exact Ev_auto))) | refine QL_pass rfl rfl ?_ | (refine QL_guardP rfl rfl (fun hc => ?_) (fun hc => ?_) <;> try exact absA) | (refine QL_guard rfl rfl (fun hc => ?_) (fun hc => ?_) <;> (try exact absA) <;> (fail_if_success (change true = true at hc)) <;> (fail_if_success (change false = false at hc))))); all_goals (refine QL_nil (fun w hSt => ?_))) | refine ret0' rfl ?_ | (refine W_if rfl (fun hc => ?_) (fun hc => ?_) <;> try exact absA) | (refine W_cond rfl (fun hc => ?_) (fun hc => ?_) <;> try exact absA))
    all_goals try (exfalso; first | omega | (simp at hc; done) | (exact hc rfl))
    all_goals exact At_loop1 hK (k' := fin.length - (j + 1)) (j + 1) hlt9 ⟨rfl, by omega, hSt.right (Ha := [_])⟩ (by (repeat (first | exact Sub.nil _ | refine Sub.cons rfl ?_)))
  obtain rfl : j = fin.length := by omega
  clear hjl
  replace hSt := hSt.perm (Hn := (kb, blk [.slice ia i ic, .slice aa i ac, .slice fa fin.length fc] 50) :: ((H5 ++ ((H1 ++ H2) ++ H)) ++ H3)) (permP3 ..)
  repeat' (first | (refine WL_store1 hT rfl rfl 0 rfl rfl hSt rfl rfl rfl ?_; clear hSt; intro w hSt; dsimp only [List.set] at hSt) | refine W_seq ?_ | refine W_block ?_ | refine W_region ?_ | refine WL_nil ?_ | refine W_true rfl ?_ | refine W_false rfl ?_ | refine W_skip ?_ | refine W_exit ?_ | refine W_ret ?_ | refine W_goto ?_ | refine W_label ?_ | refine At_calm ?_ | refine At_then_normal ?_ | refine At_then ?_ | refine At_then_ret ?_ | refine At_in_normal ?_ | refine At_in_ret ?_ | refine At_in_hit ?_ | refine At_in_miss rfl ?_ | refine At_jump_normal ?_ | refine At_jump_ret ?_ | refine At_jump_exit ?_ | refine At_then_goto ?_ | refine At_in_goto ?_ | (apply WL_ev rfl rfl; (first | exact Ev_auto)) | refine WL_pass rfl rfl ?_ | refine WL_pass0 rfl ?_ | (refine WL_store1 hT rfl rfl 0 rfl rfl hSt rfl rfl rfl ?_; clear hSt; intro w hSt; dsimp only [List.set] at hSt) | (refine WL_store1 hT rfl rfl 1 rfl rfl hSt rfl rfl rfl ?_; clear hSt; intro w hSt; dsimp only [List.set] at hSt) | (refine WL_store1 hT rfl rfl 2 rfl rfl hSt rfl rfl rfl ?_; clear hSt; intro w hSt; dsimp only [List.set] at hSt) | (refine WL_store1 hT rfl rfl 3 rfl rfl hSt rfl rfl rfl ?_; clear hSt; intro w hSt; dsimp only [List.set] at hSt) | (refine WL_storeN hT rfl rfl 0 rfl rfl hSt rfl rfl rfl rfl ?_; clear hSt; intro w hSt; dsimp only [spl, List.set] at hSt) | (refine WL_storeN hT rfl rfl 1 rfl rfl hSt rfl rfl rfl rfl ?_; clear hSt; intro w hSt; dsimp only [spl, List.set] at hSt) | (refine WL_storeN hT rfl rfl 2 rfl rfl hSt rfl rfl rfl rfl ?_; clear hSt; intro w hSt; dsimp only [spl, List.set] at hSt) | (refine WL_storeN hT rfl rfl 3 rfl rfl hSt rfl rfl rfl rfl ?_; clear hSt; intro w hSt; dsimp only [spl, List.set] at hSt) | (refine WL_box rfl rfl rfl hSt ?_; clear hSt; intro w nb hnb hSt; dsimp only [zcells, List.nil_append, List.cons_append] at hSt) | (refine WL_alloc hT rfl rfl rfl hSt ?_; clear hSt; intro w nb hnb hSt; dsimp only [zcells, List.nil_append, List.cons_append] at hSt) | (refine WL_guardP rfl rfl (fun hc => ?_) (fun hc => ?_) <;> try exact absA) | (refine WL_guard rfl rfl (fun hc => ?_) (fun hc => ?_) <;> (try exact absA) <;> (fail_if_success (change true = true at hc)) <;> (fail_if_success (change false = false at hc))) | (refine W_quiet hT (by decide +kernel) hSt ?_; clear hSt; (repeat' (first | (apply QL_ev rfl rfl; (intro w hSt; (first | exact Ev_auto))) | refine QL_pass rfl rfl ?_ | (refine QL_guardP rfl rfl (fun hc => ?_) (fun hc => ?_) <;> try exact absA) | (refine QL_guard rfl rfl (fun hc => ?_) (fun hc => ?_) <;> (try exact absA) <;> (fail_if_success (change true = true at hc)) <;> (fail_if_success (change false = false at hc))))); all_goals (refine QL_nil (fun w hSt => ?_))) | refine ret0' rfl ?_ | (refine W_if rfl (fun hc => ?_) (fun hc => ?_) <;> try exact absA) | (refine W_cond rfl (fun hc => ?_) (fun hc => ?_) <;> try exact absA))
  all_goals try (exfalso; first | omega | (simp at hc; done) | (exact hc rfl))
  replace hSt := St.nil_r (St.left (H0 := (kb, blk [.slice ia i ic, .slice aa i ac, .slice none 0 0] 50) :: (H5 ++ ((H1 ++ H2) ++ H))) (H1 := H3) hSt)
  clear ho3
  refine W_sub (L' := [(15, I ((0 : Nat) : Int)), (12, I (cntA l 0 : Int)), (13, I (cntW l 0 : Int)), (14, I (cntE l 0 : Int)), (0, Ptr kb), (1, Ptr bs), (5, .slice ga l.length gcc)]) (by (repeat (first | exact Sub.nil _ | refine Sub.cons rfl ?_))) ?_
  refine W_loop1 (fun k (j : Nat) w => k = l.length - j ∧ j ≤ l.length ∧ ∃ v3 H3, OwnSl v3 35 7 ((tms l j).flatMap gC) (tms l j).length H3 ∧ St w0 SS (((kb, blk [.slice ia i ic, .slice aa i ac, v3] 50) :: (H5 ++ ((H1 ++ H2) ++ H))) ++ H3) w) (fun j => [(15, I (j : Int)), (12, I (cntA l j : Int)), (13, I (cntW l j : Int)), (14, I (cntE l j : Int))]) l.length 0 rfl (by (repeat (first | exact Str.nil _ | apply Str.drop rfl | apply Str.keepU rfl | apply Str.keep rfl))) ⟨rfl, by omega, _, [], OwnSl.nil _ _, hSt⟩ (by (repeat (first | exact Sub.nil _ | refine Sub.cons rfl ?_))) ?_
  clear hSt
  rintro k j w ⟨hk, hj, v3, H3, ho3, hSt⟩ K hK
  obtain ⟨fa3, fc3, rfl⟩ := ho3.len
  have htl : (tms l j).length ≤ j := by unfold tms; have := List.length_filter_le (fun g : Gl => termF g.st) (l.take j); rw [List.length_take] at this; omega
  by_cases hjl : j < l.length
  · obtain ⟨x, hx⟩ : ∃ x, l[j]? = some x := ⟨_, List.getElem?_eq_getElem hjl⟩
    have hlt9 : l.length - (j + 1) < k := by omega
    obtain ⟨gb, gc, rs5, hsv5, hoc5, hrs5, rfl⟩ := ho5.some_ (by omega)
    injection hsv5 with e1 e2 e3
    subst e1 e3
    dsimp only [List.cons_append, List.nil_append] at hSt
    have hcs := rowT gC_len hx rs5
    have hqi := SlAt.cells2 hcs
    have hsx := hst17 j hjl
    have hxg := gAt_some hjl
    rw [hx] at hxg
    injection hxg with hxg
    repeat' (first | refine W_seq ?_ | refine W_block ?_ | refine W_region ?_ | refine WL_nil ?_ | refine W_true rfl ?_ | refine W_false rfl ?_ | refine W_skip ?_ | refine W_exit ?_ | refine W_ret ?_ | refine W_goto ?_ | refine W_label ?_ | refine At_calm ?_ | refine At_then_normal ?_ | refine At_then ?_ | refine At_then_ret ?_ | refine At_in_normal ?_ | refine At_in_ret ?_ | refine At_in_hit ?_ | refine At_in_miss rfl ?_ | refine At_jump_normal ?_ | refine At_jump_ret ?_ | refine At_jump_exit ?_ | refine At_then_goto ?_ | refine At_in_goto ?_ | (apply WL_ev rfl rfl; (first | exact Ev_auto)) | refine WL_pass rfl rfl ?_ | refine WL_pass0 rfl ?_ | (refine WL_store1 hT rfl rfl 0 rfl rfl hSt rfl rfl rfl ?_; clear hSt; intro w hSt; dsimp only [List.set] at hSt) | (refine WL_store1 hT rfl rfl 1 rfl rfl hSt rfl rfl rfl ?_; clear hSt; intro w hSt; dsimp only [List.set] at hSt) | (refine WL_store1 hT rfl rfl 2 rfl rfl hSt rfl rfl rfl ?_; clear hSt; intro w hSt; dsimp only [List.set] at hSt) | (refine WL_store1 hT rfl rfl 3 rfl rfl hSt rfl rfl rfl ?_; clear hSt; intro w hSt; dsimp only [List.set] at hSt) | (refine WL_storeN hT rfl rfl 0 rfl rfl hSt rfl rfl rfl rfl ?_; clear hSt; intro w hSt; dsimp only [spl, List.set] at hSt) | (refine WL_storeN hT rfl rfl 1 rfl rfl hSt rfl rfl rfl rfl ?_; clear hSt; intro w hSt; dsimp only [spl, List.set] at hSt) | (refine WL_storeN hT rfl rfl 2 rfl rfl hSt rfl rfl rfl rfl ?_; clear hSt; intro w hSt; dsimp only [spl, List.set] at hSt) | (refine WL_storeN hT rfl rfl 3 rfl rfl hSt rfl rfl rfl rfl ?_; clear hSt; intro w hSt; dsimp only [spl, List.set] at hSt) | (refine WL_box rfl rfl rfl hSt ?_; clear hSt; intro w nb hnb hSt; dsimp only [zcells, List.nil_append, List.cons_append] at hSt) | (refine WL_alloc hT rfl rfl rfl hSt ?_; clear hSt; intro w nb hnb hSt; dsimp only [zcells, List.nil_append, List.cons_append] at hSt) | (refine WL_guardP rfl rfl (fun hc => ?_) (fun hc => ?_) <;> try exact absA) | (refine WL_guard rfl rfl (fun hc => ?_) (fun hc => ?_) <;> (try exact absA) <;> (fail_if_success (change true = true at hc)) <;> (fail_if_success (change false = false at hc))) | (refine W_quiet hT (by decide +kernel) hSt ?_; clear hSt; (repeat' (first | (apply QL_ev rfl rfl; (intro w hSt; (first | exact Ev_auto))) | refine QL_pass rfl rfl ?_ | (refine QL_guardP rfl rfl (fun hc => ?_) (fun hc => ?_) <;> try exact absA) | (refine QL_guard rfl rfl (fun hc => ?_) (fun hc => ?_) <;> (try exact absA) <;> (fail_if_success (change true = true at hc)) <;> (fail_if_success (change false = false at hc))))); all_goals (refine QL_nil (fun w hSt => ?_))) | refine ret0' rfl ?_ | (refine W_if rfl (fun hc => ?_) (fun hc => ?_) <;> try exact absA) | (refine W_cond rfl (fun hc => ?_) (fun hc => ?_) <;> try exact absA))
    refine W_sub (L' := [(16, I ((0 : Nat) : Int)), (15, I (j : Int)), (12, I (cntA l j : Int)), (13, I (cntW l j : Int)), (14, I (cntE l j : Int)), (0, Ptr kb), (1, Ptr bs), (5, .slice (some ⟨gb, 0, none⟩) l.length gcc)]) (by (repeat (first | exact Sub.nil _ | refine Sub.cons rfl ?_))) ?_
    refine W_loop1 (fun k (m : Nat) w => k = j - m ∧ m ≤ j ∧ St w0 SS ((kb, blk [.slice ia i ic, .slice aa i ac, .slice fa3 (tms l j).length fc3] 50) :: (gb, blk (l.flatMap gC ++ rs5) 35) :: (((H1 ++ H2) ++ H) ++ H3)) w) (fun m => [(16, I (m : Int))]) j 0 rfl (by (repeat (first | exact Str.nil _ | apply Str.drop rfl | apply Str.keepU rfl | apply Str.keep rfl))) ⟨rfl, by omega, hSt⟩ (by (repeat (first | exact Sub.nil _ | refine Sub.cons rfl ?_))) ?_
    clear hSt
    rintro k2 m w ⟨hk2, hm, hSt⟩ K2 hK2
    by_cases hmj : m < j
    · obtain ⟨y, hy⟩ : ∃ y, l[m]? = some y := ⟨_, List.getElem?_eq_getElem (by omega)⟩
      have hyg := gAt_some (l := l) (i := m) (by omega)
      rw [hy] at hyg
      injection hyg with hyg
      have hlt8 : j - (m + 1) < k2 := by omega
      have hne : [I x.c, I x.n] ≠ [I y.c, I y.n] := by
        intro e
        have e2 := id_eq2 e
        have := hdist j m hjl (by omega) (by rw [← hxg, ← hyg]; exact e2.1) (by rw [← hxg, ← hyg]; exact e2.2)
        omega
      have hcy := SlAt.cells2 (rowT gC_len hy rs5)
      repeat' (first | (apply WL_ev rfl rfl; exact Ev_loadN hT rfl rfl (hSt.at 1 rfl) hqi rfl) | (apply WL_ev rfl rfl; exact Ev_loadN hT rfl rfl (hSt.at 1 rfl) hcy rfl) | (apply WL_ev rfl rfl; exact Ev_struct_no (ok_eq rfl) rfl rfl rfl rfl hne) | refine W_seq ?_ | refine W_block ?_ | refine W_region ?_ | refine WL_nil ?_ | refine W_true rfl ?_ | refine W_false rfl ?_ | refine W_skip ?_ | refine W_exit ?_ | refine W_ret ?_ | refine W_goto ?_ | refine W_label ?_ | refine At_calm ?_ | refine At_then_normal ?_ | refine At_then ?_ | refine At_then_ret ?_ | refine At_in_normal ?_ | refine At_in_ret ?_ | refine At_in_hit ?_ | refine At_in_miss rfl ?_ | refine At_jump_normal ?_ | refine At_jump_ret ?_ | refine At_jump_exit ?_ | refine At_then_goto ?_ | refine At_in_goto ?_ | (apply WL_ev rfl rfl; (first | exact Ev_auto)) | refine WL_pass rfl rfl ?_ | refine WL_pass0 rfl ?_ | (refine WL_store1 hT rfl rfl 0 rfl rfl hSt rfl rfl rfl ?_; clear hSt; intro w hSt; dsimp only [List.set] at hSt) | (refine WL_store1 hT rfl rfl 1 rfl rfl hSt rfl rfl rfl ?_; clear hSt; intro w hSt; dsimp only [List.set] at hSt) | (refine WL_store1 hT rfl rfl 2 rfl rfl hSt rfl rfl rfl ?_; clear hSt; intro w hSt; dsimp only [List.set] at hSt) | (refine WL_store1 hT rfl rfl 3 rfl rfl hSt rfl rfl rfl ?_; clear hSt; intro w hSt; dsimp only [List.set] at hSt) | (refine WL_storeN hT rfl rfl 0 rfl rfl hSt rfl rfl rfl rfl ?_; clear hSt; intro w hSt; dsimp only [spl, List.set] at hSt) | (refine WL_storeN hT rfl rfl 1 rfl rfl hSt rfl rfl rfl rfl ?_; clear hSt; intro w hSt; dsimp only [spl, List.set] at hSt) | (refine WL_storeN hT rfl rfl 2 rfl rfl hSt rfl rfl rfl rfl ?_; clear hSt; intro w hSt; dsimp only [spl, List.set] at hSt) | (refine WL_storeN hT rfl rfl 3 rfl rfl hSt rfl rfl rfl rfl ?_; clear hSt; intro w hSt; dsimp only [spl, List.set] at hSt) | (refine WL_box rfl rfl rfl hSt ?_; clear hSt; intro w nb hnb hSt; dsimp only [zcells, List.nil_append, List.cons_append] at hSt) | (refine WL_alloc hT rfl rfl rfl hSt ?_; clear hSt; intro w nb hnb hSt; dsimp only [zcells, List.nil_append, List.cons_append] at hSt) | (refine WL_guardP rfl rfl (fun hc => ?_) (fun hc => ?_) <;> try exact absA) | (refine WL_guard rfl rfl (fun hc => ?_) (fun hc => ?_) <;> (try exact absA) <;> (fail_if_success (change true = true at hc)) <;> (fail_if_success (change false = false at hc))) | (refine W_quiet hT (by decide +kernel) hSt ?_; clear hSt; (repeat' (first | (apply QL_ev rfl rfl; (intro w hSt; (first | (exact Ev_loadN hT rfl rfl (hSt.at 1 rfl) hqi rfl) | (exact Ev_loadN hT rfl rfl (hSt.at 1 rfl) hcy rfl) | (exact Ev_struct_no (ok_eq rfl) rfl rfl rfl rfl hne) | exact Ev_auto))) | refine QL_pass rfl rfl ?_ | (refine QL_guardP rfl rfl (fun hc => ?_) (fun hc => ?_) <;> try exact absA) | (refine QL_guard rfl rfl (fun hc => ?_) (fun hc => ?_) <;> (try exact absA) <;> (fail_if_success (change true = true at hc)) <;> (fail_if_success (change false = false at hc))))); all_goals (refine QL_nil (fun w hSt => ?_))) | refine ret0' rfl ?_ | (refine W_if rfl (fun hc => ?_) (fun hc => ?_) <;> try exact absA) | (refine W_cond rfl (fun hc => ?_) (fun hc => ?_) <;> try exact absA))
      all_goals try (exfalso; first | omega | (simp at hc; done) | (exact hc rfl))
      all_goals exact At_loop1 hK2 (k' := j - (m + 1)) (m + 1) hlt8 ⟨rfl, by omega, hSt⟩ (by (repeat (first | exact Sub.nil _ | refine Sub.cons rfl ?_)))
    obtain rfl : m = j := by omega
    clear hmj
    obtain ⟨c0, n0, s0, a0, e0, q0, y0⟩ := x
    dsimp only at hsx hqi
    rw [← hxg] at hsx
    dsimp only at hsx
    have h7 : s0 = 1 ∨ s0 = 2 ∨ s0 = 3 ∨ s0 = 4 ∨ s0 = 5 ∨ s0 = 6 ∨ s0 = 7 := by omega
    have hcl := cnt_le l m
    rcases h7 with rfl | rfl | rfl | rfl | rfl | rfl | rfl
    · have hA := cntA_step hx
      have hW1 := cntW_step hx
      have hE := cntE_step hx
      have hF := tms_step hx
      dsimp only at hA hW1 hE hF
      rw [if_neg (by decide)] at hA
      rw [if_pos (by decide)] at hW1
      rw [if_neg (by decide)] at hE
      rw [show termF 1 = false from rfl, if_neg (by simp), List.append_nil] at hF
      have hq2 := cell_get (c := I 1) hx (j := 2) rfl rs5
      repeat' (first | (apply WL_ev rfl rfl; exact Ev_loadN hT rfl rfl (hSt.at 1 rfl) hcs rfl) | (apply WL_ev rfl rfl; exact Ev_load1 hT rfl rfl (hSt.at 1 rfl) hq2) | (refine WL_isCall (f := 20) ?_; refine WL_call (ok_call hT rfl) rfl rfl rfl (rterm_dec _) ?_; rintro v w' ⟨rfl, hc2⟩; replace hSt := hSt.call0 hc2; clear hc2) | refine W_seq ?_ | refine W_block ?_ | refine W_region ?_ | refine WL_nil ?_ | refine W_true rfl ?_ | refine W_false rfl ?_ | refine W_skip ?_ | refine W_exit ?_ | refine W_ret ?_ | refine W_goto ?_ | refine W_label ?_ | refine At_calm ?_ | refine At_then_normal ?_ | refine At_then ?_ | refine At_then_ret ?_ | refine At_in_normal ?_ | refine At_in_ret ?_ | refine At_in_hit ?_ | refine At_in_miss rfl ?_ | refine At_jump_normal ?_ | refine At_jump_ret ?_ | refine At_jump_exit ?_ | refine At_then_goto ?_ | refine At_in_goto ?_ | (apply WL_ev rfl rfl; (first | exact Ev_auto)) | refine WL_pass rfl rfl ?_ | refine WL_pass0 rfl ?_ | (refine WL_store1 hT rfl rfl 0 rfl rfl hSt rfl rfl rfl ?_; clear hSt; intro w hSt; dsimp only [List.set] at hSt) | (refine WL_store1 hT rfl rfl 1 rfl rfl hSt rfl rfl rfl ?_; clear hSt; intro w hSt; dsimp only [List.set] at hSt) | (refine WL_store1 hT rfl rfl 2 rfl rfl hSt rfl rfl rfl ?_; clear hSt; intro w hSt; dsimp only [List.set] at hSt) | (refine WL_store1 hT rfl rfl 3 rfl rfl hSt rfl rfl rfl ?_; clear hSt; intro w hSt; dsimp only [List.set] at hSt) | (refine WL_storeN hT rfl rfl 0 rfl rfl hSt rfl rfl rfl rfl ?_; clear hSt; intro w hSt; dsimp only [spl, List.set] at hSt) | (refine WL_storeN hT rfl rfl 1 rfl rfl hSt rfl rfl rfl rfl ?_; clear hSt; intro w hSt; dsimp only [spl, List.set] at hSt) | (refine WL_storeN hT rfl rfl 2 rfl rfl hSt rfl rfl rfl rfl ?_; clear hSt; intro w hSt; dsimp only [spl, List.set] at hSt) | (refine WL_storeN hT rfl rfl 3 rfl rfl hSt rfl rfl rfl rfl ?_; clear hSt; intro w hSt; dsimp only [spl, List.set] at hSt) | (refine WL_box rfl rfl rfl hSt ?_; clear hSt; intro w nb hnb hSt; dsimp only [zcells, List.nil_append, List.cons_append] at hSt) | (refine WL_alloc hT rfl rfl rfl hSt ?_; clear hSt; intro w nb hnb hSt; dsimp only [zcells, List.nil_append, List.cons_append] at hSt) | (refine WL_guardP rfl rfl (fun hc => ?_) (fun hc => ?_) <;> try exact absA) | (refine WL_guard rfl rfl (fun hc => ?_) (fun hc => ?_) <;> (try exact absA) <;> (fail_if_success (change true = true at hc)) <;> (fail_if_success (change false = false at hc))) | (refine W_quiet hT (by decide +kernel) hSt ?_; clear hSt; (repeat' (first | (apply QL_ev rfl rfl; (intro w hSt; (first | (exact Ev_loadN hT rfl rfl (hSt.at 1 rfl) hcs rfl) | (exact Ev_load1 hT rfl rfl (hSt.at 1 rfl) hq2) | exact Ev_auto))) | refine QL_pass rfl rfl ?_ | (refine QL_guardP rfl rfl (fun hc => ?_) (fun hc => ?_) <;> try exact absA) | (refine QL_guard rfl rfl (fun hc => ?_) (fun hc => ?_) <;> (try exact absA) <;> (fail_if_success (change true = true at hc)) <;> (fail_if_success (change false = false at hc))))); all_goals (refine QL_nil (fun w hSt => ?_))) | refine ret0' rfl ?_ | (refine W_if rfl (fun hc => ?_) (fun hc => ?_) <;> try exact absA) | (refine W_cond rfl (fun hc => ?_) (fun hc => ?_) <;> try exact absA))
      all_goals try (exfalso; first | omega | (simp at hc; done) | (exact hc rfl))
      all_goals exact At_loop1 hK (k' := l.length - (m + 1)) (m + 1) hlt9 ⟨rfl, by omega, _, _, (by rw [hF]; exact ho3), hSt⟩ (by rw [hA, hW1, hE]; (repeat (first | exact Sub.nil _ | refine Sub.cons rfl ?_)))
    · have hA := cntA_step hx
      have hW1 := cntW_step hx
      have hE := cntE_step hx
      have hF := tms_step hx
      dsimp only at hA hW1 hE hF
      rw [if_pos (by decide)] at hA
      rw [if_neg (by decide)] at hW1
      rw [if_neg (by decide)] at hE
      rw [show termF 2 = false from rfl, if_neg (by simp), List.append_nil] at hF
      have hq2 := cell_get (c := I 2) hx (j := 2) rfl rs5
      repeat' (first | (apply WL_ev rfl rfl; exact Ev_loadN hT rfl rfl (hSt.at 1 rfl) hcs rfl) | (apply WL_ev rfl rfl; exact Ev_load1 hT rfl rfl (hSt.at 1 rfl) hq2) | (refine WL_isCall (f := 20) ?_; refine WL_call (ok_call hT rfl) rfl rfl rfl (rterm_dec _) ?_; rintro v w' ⟨rfl, hc2⟩; replace hSt := hSt.call0 hc2; clear hc2) | refine W_seq ?_ | refine W_block ?_ | refine W_region ?_ | refine WL_nil ?_ | refine W_true rfl ?_ | refine W_false rfl ?_ | refine W_skip ?_ | refine W_exit ?_ | refine W_ret ?_ | refine W_goto ?_ | refine W_label ?_ | refine At_calm ?_ | refine At_then_normal ?_ | refine At_then ?_ | refine At_then_ret ?_ | refine At_in_normal ?_ | refine At_in_ret ?_ | refine At_in_hit ?_ | refine At_in_miss rfl ?_ | refine At_jump_normal ?_ | refine At_jump_ret ?_ | refine At_jump_exit ?_ | refine At_then_goto ?_ | refine At_in_goto ?_ | (apply WL_ev rfl rfl; (first | exact Ev_auto)) | refine WL_pass rfl rfl ?_ | refine WL_pass0 rfl ?_ | (refine WL_store1 hT rfl rfl 0 rfl rfl hSt rfl rfl rfl ?_; clear hSt; intro w hSt; dsimp only [List.set] at hSt) | (refine WL_store1 hT rfl rfl 1 rfl rfl hSt rfl rfl rfl ?_; clear hSt; intro w hSt; dsimp only [List.set] at hSt) | (refine WL_store1 hT rfl rfl 2 rfl rfl hSt rfl rfl rfl ?_; clear hSt; intro w hSt; dsimp only [List.set] at hSt) | (refine WL_store1 hT rfl rfl 3 rfl rfl hSt rfl rfl rfl ?_; clear hSt; intro w hSt; dsimp only [List.set] at hSt) | (refine WL_storeN hT rfl rfl 0 rfl rfl hSt rfl rfl rfl rfl ?_; clear hSt; intro w hSt; dsimp only [spl, List.set] at hSt) | (refine WL_storeN hT rfl rfl 1 rfl rfl hSt rfl rfl rfl rfl ?_; clear hSt; intro w hSt; dsimp only [spl, List.set] at hSt) | (refine WL_storeN hT rfl rfl 2 rfl rfl hSt rfl rfl rfl rfl ?_; clear hSt; intro w hSt; dsimp only [spl, List.set] at hSt) | (refine WL_storeN hT rfl rfl 3 rfl rfl hSt rfl rfl rfl rfl ?_; clear hSt; intro w hSt; dsimp only [spl, List.set] at hSt) | (refine WL_box rfl rfl rfl hSt ?_; clear hSt; intro w nb hnb hSt; dsimp only [zcells, List.nil_append, List.cons_append] at hSt) | (refine WL_alloc hT rfl rfl rfl hSt ?_; clear hSt; intro w nb hnb hSt; dsimp only [zcells, List.nil_append, List.cons_append] at hSt) | (refine WL_guardP rfl rfl (fun hc => ?_) (fun hc => ?_) <;> try exact absA) | (refine WL_guard rfl rfl (fun hc => ?_) (fun hc => ?_) <;> (try exact absA) <;> (fail_if_success (change true = true at hc)) <;> (fail_if_success (change false = false at hc))) | (refine W_quiet hT (by decide +kernel) hSt ?_; clear hSt; (repeat' (first | (apply QL_ev rfl rfl; (intro w hSt; (first | (exact Ev_loadN hT rfl rfl (hSt.at 1 rfl) hcs rfl) | (exact Ev_load1 hT rfl rfl (hSt.at 1 rfl) hq2) | exact Ev_auto))) | refine QL_pass rfl rfl ?_ | (refine QL_guardP rfl rfl (fun hc => ?_) (fun hc => ?_) <;> try exact absA) | (refine QL_guard rfl rfl (fun hc => ?_) (fun hc => ?_) <;> (try exact absA) <;> (fail_if_success (change true = true at hc)) <;> (fail_if_success (change false = false at hc))))); all_goals (refine QL_nil (fun w hSt => ?_))) | refine ret0' rfl ?_ | (refine W_if rfl (fun hc => ?_) (fun hc => ?_) <;> try exact absA) | (refine W_cond rfl (fun hc => ?_) (fun hc => ?_) <;> try exact absA))
      all_goals try (exfalso; first | omega | (simp at hc; done) | (exact hc rfl))
      all_goals exact At_loop1 hK (k' := l.length - (m + 1)) (m + 1) hlt9 ⟨rfl, by omega, _, _, (by rw [hF]; exact ho3), hSt⟩ (by rw [hA, hW1, hE]; (repeat (first | exact Sub.nil _ | refine Sub.cons rfl ?_)))
    · have hA := cntA_step hx
      have hW1 := cntW_step hx
      have hE := cntE_step hx
      have hF := tms_step hx
      dsimp only at hA hW1 hE hF
      rw [if_pos (by decide)] at hA
      rw [if_neg (by decide)] at hW1
      rw [if_neg (by decide)] at hE
      rw [show termF 3 = false from rfl, if_neg (by simp), List.append_nil] at hF
      have hq2 := cell_get (c := I 3) hx (j := 2) rfl rs5
      repeat' (first | (apply WL_ev rfl rfl; exact Ev_loadN hT rfl rfl (hSt.at 1 rfl) hcs rfl) | (apply WL_ev rfl rfl; exact Ev_load1 hT rfl rfl (hSt.at 1 rfl) hq2) | (refine WL_isCall (f := 20) ?_; refine WL_call (ok_call hT rfl) rfl rfl rfl (rterm_dec _) ?_; rintro v w' ⟨rfl, hc2⟩; replace hSt := hSt.call0 hc2; clear hc2) | refine W_seq ?_ | refine W_block ?_ | refine W_region ?_ | refine WL_nil ?_ | refine W_true rfl ?_ | refine W_false rfl ?_ | refine W_skip ?_ | refine W_exit ?_ | refine W_ret ?_ | refine W_goto ?_ | refine W_label ?_ | refine At_calm ?_ | refine At_then_normal ?_ | refine At_then ?_ | refine At_then_ret ?_ | refine At_in_normal ?_ | refine At_in_ret ?_ | refine At_in_hit ?_ | refine At_in_miss rfl ?_ | refine At_jump_normal ?_ | refine At_jump_ret ?_ | refine At_jump_exit ?_ | refine At_then_goto ?_ | refine At_in_goto ?_ | (apply WL_ev rfl rfl; (first | exact Ev_auto)) | refine WL_pass rfl rfl ?_ | refine WL_pass0 rfl ?_ | (refine WL_store1 hT rfl rfl 0 rfl rfl hSt rfl rfl rfl ?_; clear hSt; intro w hSt; dsimp only [List.set] at hSt) | (refine WL_store1 hT rfl rfl 1 rfl rfl hSt rfl rfl rfl ?_; clear hSt; intro w hSt; dsimp only [List.set] at hSt) | (refine WL_store1 hT rfl rfl 2 rfl rfl hSt rfl rfl rfl ?_; clear hSt; intro w hSt; dsimp only [List.set] at hSt) | (refine WL_store1 hT rfl rfl 3 rfl rfl hSt rfl rfl rfl ?_; clear hSt; intro w hSt; dsimp only [List.set] at hSt) | (refine WL_storeN hT rfl rfl 0 rfl rfl hSt rfl rfl rfl rfl ?_; clear hSt; intro w hSt; dsimp only [spl, List.set] at hSt) | (refine WL_storeN hT rfl rfl 1 rfl rfl hSt rfl rfl rfl rfl ?_; clear hSt; intro w hSt; dsimp only [spl, List.set] at hSt) | (refine WL_storeN hT rfl rfl 2 rfl rfl hSt rfl rfl rfl rfl ?_; clear hSt; intro w hSt; dsimp only [spl, List.set] at hSt) | (refine WL_storeN hT rfl rfl 3 rfl rfl hSt rfl rfl rfl rfl ?_; clear hSt; intro w hSt; dsimp only [spl, List.set] at hSt) | (refine WL_box rfl rfl rfl hSt ?_; clear hSt; intro w nb hnb hSt; dsimp only [zcells, List.nil_append, List.cons_append] at hSt) | (refine WL_alloc hT rfl rfl rfl hSt ?_; clear hSt; intro w nb hnb hSt; dsimp only [zcells, List.nil_append, List.cons_append] at hSt) | (refine WL_guardP rfl rfl (fun hc => ?_) (fun hc => ?_) <;> try exact absA) | (refine WL_guard rfl rfl (fun hc => ?_) (fun hc => ?_) <;> (try exact absA) <;> (fail_if_success (change true = true at hc)) <;> (fail_if_success (change false = false at hc))) | (refine W_quiet hT (by decide +kernel) hSt ?_; clear hSt; (repeat' (first | (apply QL_ev rfl rfl; (intro w hSt; (first | (exact Ev_loadN hT rfl rfl (hSt.at 1 rfl) hcs rfl) | (exact Ev_load1 hT rfl rfl (hSt.at 1 rfl) hq2) | exact Ev_auto))) | refine QL_pass rfl rfl ?_ | (refine QL_guardP rfl rfl (fun hc => ?_) (fun hc => ?_) <;> try exact absA) | (refine QL_guard rfl rfl (fun hc => ?_) (fun hc => ?_) <;> (try exact absA) <;> (fail_if_success (change true = true at hc)) <;> (fail_if_success (change false = false at hc))))); all_goals (refine QL_nil (fun w hSt => ?_))) | refine ret0' rfl ?_ | (refine W_if rfl (fun hc => ?_) (fun hc => ?_) <;> try exact absA) | (refine W_cond rfl (fun hc => ?_) (fun hc => ?_) <;> try exact absA))
      all_goals try (exfalso; first | omega | (simp at hc; done) | (exact hc rfl))
      all_goals exact At_loop1 hK (k' := l.length - (m + 1)) (m + 1) hlt9 ⟨rfl, by omega, _, _, (by rw [hF]; exact ho3), hSt⟩ (by rw [hA, hW1, hE]; (repeat (first | exact Sub.nil _ | refine Sub.cons rfl ?_)))
    · have hA := cntA_step hx
      have hW1 := cntW_step hx
      have hE := cntE_step hx
      have hF := tms_step hx
      dsimp only at hA hW1 hE hF
      rw [if_neg (by decide)] at hA
      rw [if_neg (by decide)] at hW1
      rw [if_pos (by decide)] at hE
      rw [show termF 4 = true from rfl, if_pos rfl] at hF
      have hq2 := cell_get (c := I 4) hx (j := 2) rfl rs5
      repeat' (first | (apply WL_ev rfl rfl; exact Ev_loadN hT rfl rfl (hSt.at 1 rfl) hcs rfl) | (apply WL_ev rfl rfl; exact Ev_load1 hT rfl rfl (hSt.at 1 rfl) hq2) | (refine WL_isCall (f := 20) ?_; refine WL_call (ok_call hT rfl) rfl rfl rfl (rterm_dec _) ?_; rintro v w' ⟨rfl, hc2⟩; replace hSt := hSt.call0 hc2; clear hc2) | (refine W_ownS (Hs := [_, _]) [(0, false), (1, false), (2, false), (3, false), (4, false), (5, false), (6, false), (7, false), (8, false), (9, true), (10, true)] hT (by decide +kernel) rfl hSt ?_; clear hSt; intro w hSt; (repeat' (first | (apply HL_ev rfl rfl (St.left (H0 := [_, _]) hSt); (intro w hSt; first | exact Ev_loadN hT rfl rfl (hSt.at 1 rfl) hcs rfl | (first | exact Ev_auto))) | (refine HL_one ?_; refine WL_buildSlice hT rfl rfl rfl rfl rfl rfl rfl rfl hSt ?_; clear hSt; intro w nb hnb hSt; refine WL_nil (At_oneH (St.left (H0 := [_, _]) hSt) ?_)) | (refine HL_one ?_; refine WL_appendL (H0 := _ :: _ :: ((H1 ++ H2) ++ H)) (H1 := H3) hT rfl rfl rfl rfl rfl rfl rfl hSt ho3 rfl rfl (by omega) (by omega) ?_; clear hSt; intro fv2 w H3b ho3b hSt; obtain ⟨fa2, fc2, rfl⟩ := ho3b.len; dsimp only [List.cons_append] at hSt; refine WL_nil (At_oneH (St.left (H0 := [_, _]) hSt) ?_)))); refine HL_end ?_; simp only [List.length_cons, List.length_nil, List.drop_succ_cons, List.drop_zero]) | (refine WL_store1 hT rfl rfl 0 rfl rfl hSt rfl rfl rfl ?_; clear hSt; intro w hSt; dsimp only [List.set] at hSt) | refine W_seq ?_ | refine W_block ?_ | refine W_region ?_ | refine WL_nil ?_ | refine W_true rfl ?_ | refine W_false rfl ?_ | refine W_skip ?_ | refine W_exit ?_ | refine W_ret ?_ | refine W_goto ?_ | refine W_label ?_ | refine At_calm ?_ | refine At_then_normal ?_ | refine At_then ?_ | refine At_then_ret ?_ | refine At_in_normal ?_ | refine At_in_ret ?_ | refine At_in_hit ?_ | refine At_in_miss rfl ?_ | refine At_jump_normal ?_ | refine At_jump_ret ?_ | refine At_jump_exit ?_ | refine At_then_goto ?_ | refine At_in_goto ?_ | (apply WL_ev rfl rfl; (first | exact Ev_auto)) | refine WL_pass rfl rfl ?_ | refine WL_pass0 rfl ?_ | (refine WL_store1 hT rfl rfl 0 rfl rfl hSt rfl rfl rfl ?_; clear hSt; intro w hSt; dsimp only [List.set] at hSt) | (refine WL_store1 hT rfl rfl 1 rfl rfl hSt rfl rfl rfl ?_; clear hSt; intro w hSt; dsimp only [List.set] at hSt) | (refine WL_store1 hT rfl rfl 2 rfl rfl hSt rfl rfl rfl ?_; clear hSt; intro w hSt; dsimp only [List.set] at hSt) | (refine WL_store1 hT rfl rfl 3 rfl rfl hSt rfl rfl rfl ?_; clear hSt; intro w hSt; dsimp only [List.set] at hSt) | (refine WL_storeN hT rfl rfl 0 rfl rfl hSt rfl rfl rfl rfl ?_; clear hSt; intro w hSt; dsimp only [spl, List.set] at hSt) | (refine WL_storeN hT rfl rfl 1 rfl rfl hSt rfl rfl rfl rfl ?_; clear hSt; intro w hSt; dsimp only [spl, List.set] at hSt) | (refine WL_storeN hT rfl rfl 2 rfl rfl hSt rfl rfl rfl rfl ?_; clear hSt; intro w hSt; dsimp only [spl, List.set] at hSt) | (refine WL_storeN hT rfl rfl 3 rfl rfl hSt rfl rfl rfl rfl ?_; clear hSt; intro w hSt; dsimp only [spl, List.set] at hSt) | (refine WL_box rfl rfl rfl hSt ?_; clear hSt; intro w nb hnb hSt; dsimp only [zcells, List.nil_append, List.cons_append] at hSt) | (refine WL_alloc hT rfl rfl rfl hSt ?_; clear hSt; intro w nb hnb hSt; dsimp only [zcells, List.nil_append, List.cons_append] at hSt) | (refine WL_guardP rfl rfl (fun hc => ?_) (fun hc => ?_) <;> try exact absA) | (refine WL_guard rfl rfl (fun hc => ?_) (fun hc => ?_) <;> (try exact absA) <;> (fail_if_success (change true = true at hc)) <;> (fail_if_success (change false = false at hc))) | (refine W_quiet hT (by decide +kernel) hSt ?_; clear hSt; (repeat' (first | (apply QL_ev rfl rfl; (intro w hSt; (first | (exact Ev_loadN hT rfl rfl (hSt.at 1 rfl) hcs rfl) | (exact Ev_load1 hT rfl rfl (hSt.at 1 rfl) hq2) | exact Ev_auto))) | refine QL_pass rfl rfl ?_ | (refine QL_guardP rfl rfl (fun hc => ?_) (fun hc => ?_) <;> try exact absA) | (refine QL_guard rfl rfl (fun hc => ?_) (fun hc => ?_) <;> (try exact absA) <;> (fail_if_success (change true = true at hc)) <;> (fail_if_success (change false = false at hc))))); all_goals (refine QL_nil (fun w hSt => ?_))) | refine ret0' rfl ?_ | (refine W_if rfl (fun hc => ?_) (fun hc => ?_) <;> try exact absA) | (refine W_cond rfl (fun hc => ?_) (fun hc => ?_) <;> try exact absA))
      all_goals try (exfalso; first | omega | (simp at hc; done) | (exact hc rfl))
      all_goals exact At_loop1 hK (k' := l.length - (m + 1)) (m + 1) hlt9 ⟨rfl, by omega, _, _, (by rw [hF]; exact own_gl ho3b), hSt⟩ (by rw [hA, hW1, hE]; (repeat (first | exact Sub.nil _ | refine Sub.cons rfl ?_)))
    · have hA := cntA_step hx
      have hW1 := cntW_step hx
      have hE := cntE_step hx
      have hF := tms_step hx
      dsimp only at hA hW1 hE hF
      rw [if_neg (by decide)] at hA
      rw [if_neg (by decide)] at hW1
      rw [if_pos (by decide)] at hE
      rw [show termF 5 = true from rfl, if_pos rfl] at hF
      have hq2 := cell_get (c := I 5) hx (j := 2) rfl rs5
      repeat' (first | (apply WL_ev rfl rfl; exact Ev_loadN hT rfl rfl (hSt.at 1 rfl) hcs rfl) | (apply WL_ev rfl rfl; exact Ev_load1 hT rfl rfl (hSt.at 1 rfl) hq2) | (refine WL_isCall (f := 20) ?_; refine WL_call (ok_call hT rfl) rfl rfl rfl (rterm_dec _) ?_; rintro v w' ⟨rfl, hc2⟩; replace hSt := hSt.call0 hc2; clear hc2) | (refine W_ownS (Hs := [_, _]) [(0, false), (1, false), (2, false), (3, false), (4, false), (5, false), (6, false), (7, false), (8, false), (9, true), (10, true)] hT (by decide +kernel) rfl hSt ?_; clear hSt; intro w hSt; (repeat' (first | (apply HL_ev rfl rfl (St.left (H0 := [_, _]) hSt); (intro w hSt; first | exact Ev_loadN hT rfl rfl (hSt.at 1 rfl) hcs rfl | (first | exact Ev_auto))) | (refine HL_one ?_; refine WL_buildSlice hT rfl rfl rfl rfl rfl rfl rfl rfl hSt ?_; clear hSt; intro w nb hnb hSt; refine WL_nil (At_oneH (St.left (H0 := [_, _]) hSt) ?_)) | (refine HL_one ?_; refine WL_appendL (H0 := _ :: _ :: ((H1 ++ H2) ++ H)) (H1 := H3) hT rfl rfl rfl rfl rfl rfl rfl hSt ho3 rfl rfl (by omega) (by omega) ?_; clear hSt; intro fv2 w H3b ho3b hSt; obtain ⟨fa2, fc2, rfl⟩ := ho3b.len; dsimp only [List.cons_append] at hSt; refine WL_nil (At_oneH (St.left (H0 := [_, _]) hSt) ?_)))); refine HL_end ?_; simp only [List.length_cons, List.length_nil, List.drop_succ_cons, List.drop_zero]) | (refine WL_store1 hT rfl rfl 0 rfl rfl hSt rfl rfl rfl ?_; clear hSt; intro w hSt; dsimp only [List.set] at hSt) | refine W_seq ?_ | refine W_block ?_ | refine W_region ?_ | refine WL_nil ?_ | refine W_true rfl ?_ | refine W_false rfl ?_ | refine W_skip ?_ | refine W_exit ?_ | refine W_ret ?_ | refine W_goto ?_ | refine W_label ?_ | refine At_calm ?_ | refine At_then_normal ?_ | refine At_then ?_ | refine At_then_ret ?_ | refine At_in_normal ?_ | refine At_in_ret ?_ | refine At_in_hit ?_ | refine At_in_miss rfl ?_ | refine At_jump_normal ?_ | refine At_jump_ret ?_ | refine At_jump_exit ?_ | refine At_then_goto ?_ | refine At_in_goto ?_ | (apply WL_ev rfl rfl; (first | exact Ev_auto)) | refine WL_pass rfl rfl ?_ | refine WL_pass0 rfl ?_ | (refine WL_store1 hT rfl rfl 0 rfl rfl hSt rfl rfl rfl ?_; clear hSt; intro w hSt; dsimp only [List.set] at hSt) | (refine WL_store1 hT rfl rfl 1 rfl rfl hSt rfl rfl rfl ?_; clear hSt; intro w hSt; dsimp only [List.set] at hSt) | (refine WL_store1 hT rfl rfl 2 rfl rfl hSt rfl rfl rfl ?_; clear hSt; intro w hSt; dsimp only [List.set] at hSt) | (refine WL_store1 hT rfl rfl 3 rfl rfl hSt rfl rfl rfl ?_; clear hSt; intro w hSt; dsimp only [List.set] at hSt) | (refine WL_storeN hT rfl rfl 0 rfl rfl hSt rfl rfl rfl rfl ?_; clear hSt; intro w hSt; dsimp only [spl, List.set] at hSt) | (refine WL_storeN hT rfl rfl 1 rfl rfl hSt rfl rfl rfl rfl ?_; clear hSt; intro w hSt; dsimp only [spl, List.set] at hSt) | (refine WL_storeN hT rfl rfl 2 rfl rfl hSt rfl rfl rfl rfl ?_; clear hSt; intro w hSt; dsimp only [spl, List.set] at hSt) | (refine WL_storeN hT rfl rfl 3 rfl rfl hSt rfl rfl rfl rfl ?_; clear hSt; intro w hSt; dsimp only [spl, List.set] at hSt) | (refine WL_box rfl rfl rfl hSt ?_; clear hSt; intro w nb hnb hSt; dsimp only [zcells, List.nil_append, List.cons_append] at hSt) | (refine WL_alloc hT rfl rfl rfl hSt ?_; clear hSt; intro w nb hnb hSt; dsimp only [zcells, List.nil_append, List.cons_append] at hSt) | (refine WL_guardP rfl rfl (fun hc => ?_) (fun hc => ?_) <;> try exact absA) | (refine WL_guard rfl rfl (fun hc => ?_) (fun hc => ?_) <;> (try exact absA) <;> (fail_if_success (change true = true at hc)) <;> (fail_if_success (change false = false at hc))) | (refine W_quiet hT (by decide +kernel) hSt ?_; clear hSt; (repeat' (first | (apply QL_ev rfl rfl; (intro w hSt; (first | (exact Ev_loadN hT rfl rfl (hSt.at 1 rfl) hcs rfl) | (exact Ev_load1 hT rfl rfl (hSt.at 1 rfl) hq2) | exact Ev_auto))) | refine QL_pass rfl rfl ?_ | (refine QL_guardP rfl rfl (fun hc => ?_) (fun hc => ?_) <;> try exact absA) | (refine QL_guard rfl rfl (fun hc => ?_) (fun hc => ?_) <;> (try exact absA) <;> (fail_if_success (change true = true at hc)) <;> (fail_if_success (change false = false at hc))))); all_goals (refine QL_nil (fun w hSt => ?_))) | refine ret0' rfl ?_ | (refine W_if rfl (fun hc => ?_) (fun hc => ?_) <;> try exact absA) | (refine W_cond rfl (fun hc => ?_) (fun hc => ?_) <;> try exact absA))
      all_goals try (exfalso; first | omega | (simp at hc; done) | (exact hc rfl))
      all_goals exact At_loop1 hK (k' := l.length - (m + 1)) (m + 1) hlt9 ⟨rfl, by omega, _, _, (by rw [hF]; exact own_gl ho3b), hSt⟩ (by rw [hA, hW1, hE]; (repeat (first | exact Sub.nil _ | refine Sub.cons rfl ?_)))
    · have hA := cntA_step hx
      have hW1 := cntW_step hx
      have hE := cntE_step hx
      have hF := tms_step hx
      dsimp only at hA hW1 hE hF
      rw [if_neg (by decide)] at hA
      rw [if_neg (by decide)] at hW1
      rw [if_pos (by decide)] at hE
      rw [show termF 6 = true from rfl, if_pos rfl] at hF
      have hq2 := cell_get (c := I 6) hx (j := 2) rfl rs5
      repeat' (first | (apply WL_ev rfl rfl; exact Ev_loadN hT rfl rfl (hSt.at 1 rfl) hcs rfl) | (apply WL_ev rfl rfl; exact Ev_load1 hT rfl rfl (hSt.at 1 rfl) hq2) | (refine WL_isCall (f := 20) ?_; refine WL_call (ok_call hT rfl) rfl rfl rfl (rterm_dec _) ?_; rintro v w' ⟨rfl, hc2⟩; replace hSt := hSt.call0 hc2; clear hc2) | (refine W_ownS (Hs := [_, _]) [(0, false), (1, false), (2, false), (3, false), (4, false), (5, false), (6, false), (7, false), (8, false), (9, true), (10, true)] hT (by decide +kernel) rfl hSt ?_; clear hSt; intro w hSt; (repeat' (first | (apply HL_ev rfl rfl (St.left (H0 := [_, _]) hSt); (intro w hSt; first | exact Ev_loadN hT rfl rfl (hSt.at 1 rfl) hcs rfl | (first | exact Ev_auto))) | (refine HL_one ?_; refine WL_buildSlice hT rfl rfl rfl rfl rfl rfl rfl rfl hSt ?_; clear hSt; intro w nb hnb hSt; refine WL_nil (At_oneH (St.left (H0 := [_, _]) hSt) ?_)) | (refine HL_one ?_; refine WL_appendL (H0 := _ :: _ :: ((H1 ++ H2) ++ H)) (H1 := H3) hT rfl rfl rfl rfl rfl rfl rfl hSt ho3 rfl rfl (by omega) (by omega) ?_; clear hSt; intro fv2 w H3b ho3b hSt; obtain ⟨fa2, fc2, rfl⟩ := ho3b.len; dsimp only [List.cons_append] at hSt; refine WL_nil (At_oneH (St.left (H0 := [_, _]) hSt) ?_)))); refine HL_end ?_; simp only [List.length_cons, List.length_nil, List.drop_succ_cons, List.drop_zero]) | (refine WL_store1 hT rfl rfl 0 rfl rfl hSt rfl rfl rfl ?_; clear hSt; intro w hSt; dsimp only [List.set] at hSt) | refine W_seq ?_ | refine W_block ?_ | refine W_region ?_ | refine WL_nil ?_ | refine W_true rfl ?_ | refine W_false rfl ?_ | refine W_skip ?_ | refine W_exit ?_ | refine W_ret ?_ | refine W_goto ?_ | refine W_label ?_ | refine At_calm ?_ | refine At_then_normal ?_ | refine At_then ?_ | refine At_then_ret ?_ | refine At_in_normal ?_ | refine At_in_ret ?_ | refine At_in_hit ?_ | refine At_in_miss rfl ?_ | refine At_jump_normal ?_ | refine At_jump_ret ?_ | refine At_jump_exit ?_ | refine At_then_goto ?_ | refine At_in_goto ?_ | (apply WL_ev rfl rfl; (first | exact Ev_auto)) | refine WL_pass rfl rfl ?_ | refine WL_pass0 rfl ?_ | (refine WL_store1 hT rfl rfl 0 rfl rfl hSt rfl rfl rfl ?_; clear hSt; intro w hSt; dsimp only [List.set] at hSt) | (refine WL_store1 hT rfl rfl 1 rfl rfl hSt rfl rfl rfl ?_; clear hSt; intro w hSt; dsimp only [List.set] at hSt) | (refine WL_store1 hT rfl rfl 2 rfl rfl hSt rfl rfl rfl ?_; clear hSt; intro w hSt; dsimp only [List.set] at hSt) | (refine WL_store1 hT rfl rfl 3 rfl rfl hSt rfl rfl rfl ?_; clear hSt; intro w hSt; dsimp only [List.set] at hSt) | (refine WL_storeN hT rfl rfl 0 rfl rfl hSt rfl rfl rfl rfl ?_; clear hSt; intro w hSt; dsimp only [spl, List.set] at hSt) | (refine WL_storeN hT rfl rfl 1 rfl rfl hSt rfl rfl rfl rfl ?_; clear hSt; intro w hSt; dsimp only [spl, List.set] at hSt) | (refine WL_storeN hT rfl rfl 2 rfl rfl hSt rfl rfl rfl rfl ?_; clear hSt; intro w hSt; dsimp only [spl, List.set] at hSt) | (refine WL_storeN hT rfl rfl 3 rfl rfl hSt rfl rfl rfl rfl ?_; clear hSt; intro w hSt; dsimp only [spl, List.set] at hSt) | (refine WL_box rfl rfl rfl hSt ?_; clear hSt; intro w nb hnb hSt; dsimp only [zcells, List.nil_append, List.cons_append] at hSt) | (refine WL_alloc hT rfl rfl rfl hSt ?_; clear hSt; intro w nb hnb hSt; dsimp only [zcells, List.nil_append, List.cons_append] at hSt) | (refine WL_guardP rfl rfl (fun hc => ?_) (fun hc => ?_) <;> try exact absA) | (refine WL_guard rfl rfl (fun hc => ?_) (fun hc => ?_) <;> (try exact absA) <;> (fail_if_success (change true = true at hc)) <;> (fail_if_success (change false = false at hc))) | (refine W_quiet hT (by decide +kernel) hSt ?_; clear hSt; (repeat' (first | (apply QL_ev rfl rfl; (intro w hSt; (first | (exact Ev_loadN hT rfl rfl (hSt.at 1 rfl) hcs rfl) | (exact Ev_load1 hT rfl rfl (hSt.at 1 rfl) hq2) | exact Ev_auto))) | refine QL_pass rfl rfl ?_ | (refine QL_guardP rfl rfl (fun hc => ?_) (fun hc => ?_) <;> try exact absA) | (refine QL_guard rfl rfl (fun hc => ?_) (fun hc => ?_) <;> (try exact absA) <;> (fail_if_success (change true = true at hc)) <;> (fail_if_success (change false = false at hc))))); all_goals (refine QL_nil (fun w hSt => ?_))) | refine ret0' rfl ?_ | (refine W_if rfl (fun hc => ?_) (fun hc => ?_) <;> try exact absA) | (refine W_cond rfl (fun hc => ?_) (fun hc => ?_) <;> try exact absA))
      all_goals try (exfalso; first | omega | (simp at hc; done) | (exact hc rfl))
      all_goals exact At_loop1 hK (k' := l.length - (m + 1)) (m + 1) hlt9 ⟨rfl, by omega, _, _, (by rw [hF]; exact own_gl ho3b), hSt⟩ (by rw [hA, hW1, hE]; (repeat (first | exact Sub.nil _ | refine Sub.cons rfl ?_)))
    · have hA := cntA_step hx
      have hW1 := cntW_step hx
      have hE := cntE_step hx
      have hF := tms_step hx
      dsimp only at hA hW1 hE hF
      rw [if_neg (by decide)] at hA
      rw [if_neg (by decide)] at hW1
      rw [if_neg (by decide)] at hE
      rw [show termF 7 = true from rfl, if_pos rfl] at hF
      have hq2 := cell_get (c := I 7) hx (j := 2) rfl rs5
      repeat' (first | (apply WL_ev rfl rfl; exact Ev_loadN hT rfl rfl (hSt.at 1 rfl) hcs rfl) | (apply WL_ev rfl rfl; exact Ev_load1 hT rfl rfl (hSt.at 1 rfl) hq2) | (refine WL_isCall (f := 20) ?_; refine WL_call (ok_call hT rfl) rfl rfl rfl (rterm_dec _) ?_; rintro v w' ⟨rfl, hc2⟩; replace hSt := hSt.call0 hc2; clear hc2) | (refine W_ownS (Hs := [_, _]) [(0, false), (1, false), (2, false), (3, false), (4, false), (5, false), (6, false), (7, false), (8, false), (9, true), (10, true)] hT (by decide +kernel) rfl hSt ?_; clear hSt; intro w hSt; (repeat' (first | (apply HL_ev rfl rfl (St.left (H0 := [_, _]) hSt); (intro w hSt; first | exact Ev_loadN hT rfl rfl (hSt.at 1 rfl) hcs rfl | (first | exact Ev_auto))) | (refine HL_one ?_; refine WL_buildSlice hT rfl rfl rfl rfl rfl rfl rfl rfl hSt ?_; clear hSt; intro w nb hnb hSt; refine WL_nil (At_oneH (St.left (H0 := [_, _]) hSt) ?_)) | (refine HL_one ?_; refine WL_appendL (H0 := _ :: _ :: ((H1 ++ H2) ++ H)) (H1 := H3) hT rfl rfl rfl rfl rfl rfl rfl hSt ho3 rfl rfl (by omega) (by omega) ?_; clear hSt; intro fv2 w H3b ho3b hSt; obtain ⟨fa2, fc2, rfl⟩ := ho3b.len; dsimp only [List.cons_append] at hSt; refine WL_nil (At_oneH (St.left (H0 := [_, _]) hSt) ?_)))); refine HL_end ?_; simp only [List.length_cons, List.length_nil, List.drop_succ_cons, List.drop_zero]) | (refine WL_store1 hT rfl rfl 0 rfl rfl hSt rfl rfl rfl ?_; clear hSt; intro w hSt; dsimp only [List.set] at hSt) | refine W_seq ?_ | refine W_block ?_ | refine W_region ?_ | refine WL_nil ?_ | refine W_true rfl ?_ | refine W_false rfl ?_ | refine W_skip ?_ | refine W_exit ?_ | refine W_ret ?_ | refine W_goto ?_ | refine W_label ?_ | refine At_calm ?_ | refine At_then_normal ?_ | refine At_then ?_ | refine At_then_ret ?_ | refine At_in_normal ?_ | refine At_in_ret ?_ | refine At_in_hit ?_ | refine At_in_miss rfl ?_ | refine At_jump_normal ?_ | refine At_jump_ret ?_ | refine At_jump_exit ?_ | refine At_then_goto ?_ | refine At_in_goto ?_ | (apply WL_ev rfl rfl; (first | exact Ev_auto)) | refine WL_pass rfl rfl ?_ | refine WL_pass0 rfl ?_ | (refine WL_store1 hT rfl rfl 0 rfl rfl hSt rfl rfl rfl ?_; clear hSt; intro w hSt; dsimp only [List.set] at hSt) | (refine WL_store1 hT rfl rfl 1 rfl rfl hSt rfl rfl rfl ?_; clear hSt; intro w hSt; dsimp only [List.set] at hSt) | (refine WL_store1 hT rfl rfl 2 rfl rfl hSt rfl rfl rfl ?_; clear hSt; intro w hSt; dsimp only [List.set] at hSt) | (refine WL_store1 hT rfl rfl 3 rfl rfl hSt rfl rfl rfl ?_; clear hSt; intro w hSt; dsimp only [List.set] at hSt) | (refine WL_storeN hT rfl rfl 0 rfl rfl hSt rfl rfl rfl rfl ?_; clear hSt; intro w hSt; dsimp only [spl, List.set] at hSt) | (refine WL_storeN hT rfl rfl 1 rfl rfl hSt rfl rfl rfl rfl ?_; clear hSt; intro w hSt; dsimp only [spl, List.set] at hSt) | (refine WL_storeN hT rfl rfl 2 rfl rfl hSt rfl rfl rfl rfl ?_; clear hSt; intro w hSt; dsimp only [spl, List.set] at hSt) | (refine WL_storeN hT rfl rfl 3 rfl rfl hSt rfl rfl rfl rfl ?_; clear hSt; intro w hSt; dsimp only [spl, List.set] at hSt) | (refine WL_box rfl rfl rfl hSt ?_; clear hSt; intro w nb hnb hSt; dsimp only [zcells, List.nil_append, List.cons_append] at hSt) | (refine WL_alloc hT rfl rfl rfl hSt ?_; clear hSt; intro w nb hnb hSt; dsimp only [zcells, List.nil_append, List.cons_append] at hSt) | (refine WL_guardP rfl rfl (fun hc => ?_) (fun hc => ?_) <;> try exact absA) | (refine WL_guard rfl rfl (fun hc => ?_) (fun hc => ?_) <;> (try exact absA) <;> (fail_if_success (change true = true at hc)) <;> (fail_if_success (change false = false at hc))) | (refine W_quiet hT (by decide +kernel) hSt ?_; clear hSt; (repeat' (first | (apply QL_ev rfl rfl; (intro w hSt; (first | (exact Ev_loadN hT rfl rfl (hSt.at 1 rfl) hcs rfl) | (exact Ev_load1 hT rfl rfl (hSt.at 1 rfl) hq2) | exact Ev_auto))) | refine QL_pass rfl rfl ?_ | (refine QL_guardP rfl rfl (fun hc => ?_) (fun hc => ?_) <;> try exact absA) | (refine QL_guard rfl rfl (fun hc => ?_) (fun hc => ?_) <;> (try exact absA) <;> (fail_if_success (change true = true at hc)) <;> (fail_if_success (change false = false at hc))))); all_goals (refine QL_nil (fun w hSt => ?_))) | refine ret0' rfl ?_ | (refine W_if rfl (fun hc => ?_) (fun hc => ?_) <;> try exact absA) | (refine W_cond rfl (fun hc => ?_) (fun hc => ?_) <;> try exact absA))
      all_goals try (exfalso; first | omega | (simp at hc; done) | (exact hc rfl))
      all_goals exact At_loop1 hK (k' := l.length - (m + 1)) (m + 1) hlt9 ⟨rfl, by omega, _, _, (by rw [hF]; exact own_gl ho3b), hSt⟩ (by rw [hA, hW1, hE]; (repeat (first | exact Sub.nil _ | refine Sub.cons rfl ?_)))
  obtain rfl : j = l.length := by omega
  have hin : ∀ g ∈ outsS s, g ∈ l := by
    intro g hg
    unfold outsS at hg
    rw [List.mem_map] at hg
    obtain ⟨a, ha, rfl⟩ := hg
    rw [hl]; exact gAt_mem (hI.ends a ha)
  have hdd : ∀ (i j : Nat) (x y : Gl), i < j → (outsS s)[i]? = some x → (outsS s)[j]? = some y → ¬ (x.c = y.c ∧ x.n = y.n) := by
    intro i j x y hij hx hy h2
    unfold outsS at hx hy
    rw [List.getElem?_map] at hx hy
    obtain ⟨a, ha, rfl⟩ := Option.map_eq_some_iff.1 hx
    obtain ⟨b, hb, rfl⟩ := Option.map_eq_some_iff.1 hy
    have := hdist a b (by rw [hl]; exact hI.ends a (List.mem_of_getElem? ha)) (by rw [hl]; exact hI.ends b (List.mem_of_getElem? hb)) (by rw [hl]; exact h2.1) (by rw [hl]; exact h2.2)
    subst this
    have hnd := hgi.nodup
    dsimp only at hnd
    have e := (List.getElem?_eq_some_iff.1 ha).2
    have e2 := (List.getElem?_eq_some_iff.1 hb).2
    exact List.pairwise_iff_getElem.1 hnd i j (List.getElem?_eq_some_iff.1 ha).1 (List.getElem?_eq_some_iff.1 hb).1 hij (e.trans e2.symm)
  have hul : (outsS s).length = s.ends.length := outsS_ln s
  have subH : List.Sublist H (((kb, blk [.slice ia i ic, .slice aa i ac, .slice fa3 (tms l l.length).length fc3] 50) :: (H5 ++ ((H1 ++ H2) ++ H))) ++ H3) := (((List.sublist_append_right (H1 ++ H2) H).trans (List.sublist_append_right H5 _)).trans (List.sublist_cons_self _ _)).trans (List.sublist_append_left _ H3)
  have subH5 : List.Sublist H5 (((kb, blk [.slice ia i ic, .slice aa i ac, .slice fa3 (tms l l.length).length fc3] 50) :: (H5 ++ ((H1 ++ H2) ++ H))) ++ H3) := ((List.sublist_append_left H5 _).trans (List.sublist_cons_self _ _)).trans (List.sublist_append_left _ H3)
  repeat' (first | (refine WL_isCall (f := 13) ?_; refine WL_call (ok_call hT rfl) rfl rfl rfl (outcomes_any hW hI.len (by omega) hI.ends (hSt.has.sublist subH)) ?_; rintro v w2 ⟨H6, ho6, hc2⟩; have hs6 := OwnSl.slAt gC_len ho6 hc2.has; have hs5 := (OwnSl.slAt gC_len ho5 (hSt.has.sublist subH5)); replace hSt := hSt.newN hc2; have hs5 := OwnSl.slAt gC_len ho5 (hSt.has.sublist (subH5.trans (List.sublist_append_left _ _))); clear hc2; obtain ⟨ua, uc, rfl⟩ := ho6.len) | (refine WL_isCall (f := 44) ?_; refine WL_call (ok_call hT rfl) rfl rfl rfl (unique_any hs6 hs5 (by rw [outsS_ln]; omega) (by omega) hin hdd) ?_; rintro v w2 ⟨rfl, hc2⟩; replace hSt := (hSt.call0 hc2).left; clear hc2) | refine W_seq ?_ | refine W_block ?_ | refine W_region ?_ | refine WL_nil ?_ | refine W_true rfl ?_ | refine W_false rfl ?_ | refine W_skip ?_ | refine W_exit ?_ | refine W_ret ?_ | refine W_goto ?_ | refine W_label ?_ | refine At_calm ?_ | refine At_then_normal ?_ | refine At_then ?_ | refine At_then_ret ?_ | refine At_in_normal ?_ | refine At_in_ret ?_ | refine At_in_hit ?_ | refine At_in_miss rfl ?_ | refine At_jump_normal ?_ | refine At_jump_ret ?_ | refine At_jump_exit ?_ | refine At_then_goto ?_ | refine At_in_goto ?_ | (apply WL_ev rfl rfl; (first | exact Ev_auto)) | refine WL_pass rfl rfl ?_ | refine WL_pass0 rfl ?_ | (refine WL_store1 hT rfl rfl 0 rfl rfl hSt rfl rfl rfl ?_; clear hSt; intro w hSt; dsimp only [List.set] at hSt) | (refine WL_store1 hT rfl rfl 1 rfl rfl hSt rfl rfl rfl ?_; clear hSt; intro w hSt; dsimp only [List.set] at hSt) | (refine WL_store1 hT rfl rfl 2 rfl rfl hSt rfl rfl rfl ?_; clear hSt; intro w hSt; dsimp only [List.set] at hSt) | (refine WL_store1 hT rfl rfl 3 rfl rfl hSt rfl rfl rfl ?_; clear hSt; intro w hSt; dsimp only [List.set] at hSt) | (refine WL_storeN hT rfl rfl 0 rfl rfl hSt rfl rfl rfl rfl ?_; clear hSt; intro w hSt; dsimp only [spl, List.set] at hSt) | (refine WL_storeN hT rfl rfl 1 rfl rfl hSt rfl rfl rfl rfl ?_; clear hSt; intro w hSt; dsimp only [spl, List.set] at hSt) | (refine WL_storeN hT rfl rfl 2 rfl rfl hSt rfl rfl rfl rfl ?_; clear hSt; intro w hSt; dsimp only [spl, List.set] at hSt) | (refine WL_storeN hT rfl rfl 3 rfl rfl hSt rfl rfl rfl rfl ?_; clear hSt; intro w hSt; dsimp only [spl, List.set] at hSt) | (refine WL_box rfl rfl rfl hSt ?_; clear hSt; intro w nb hnb hSt; dsimp only [zcells, List.nil_append, List.cons_append] at hSt) | (refine WL_alloc hT rfl rfl rfl hSt ?_; clear hSt; intro w nb hnb hSt; dsimp only [zcells, List.nil_append, List.cons_append] at hSt) | (refine WL_guardP rfl rfl (fun hc => ?_) (fun hc => ?_) <;> try exact absA) | (refine WL_guard rfl rfl (fun hc => ?_) (fun hc => ?_) <;> (try exact absA) <;> (fail_if_success (change true = true at hc)) <;> (fail_if_success (change false = false at hc))) | (refine W_quiet hT (by decide +kernel) hSt ?_; clear hSt; (repeat' (first | (apply QL_ev rfl rfl; (intro w hSt; (first | exact Ev_auto))) | refine QL_pass rfl rfl ?_ | (refine QL_guardP rfl rfl (fun hc => ?_) (fun hc => ?_) <;> try exact absA) | (refine QL_guard rfl rfl (fun hc => ?_) (fun hc => ?_) <;> (try exact absA) <;> (fail_if_success (change true = true at hc)) <;> (fail_if_success (change false = false at hc))))); all_goals (refine QL_nil (fun w hSt => ?_))) | refine ret0' rfl ?_ | (refine W_if rfl (fun hc => ?_) (fun hc => ?_) <;> try exact absA) | (refine W_cond rfl (fun hc => ?_) (fun hc => ?_) <;> try exact absA))
  all_goals try (exfalso; first | omega | (simp at hc; done) | (exact hc rfl))
  all_goals subst hn
  all_goals refine ret1 rfl rfl ⟨?_, _, ⟨_, _, _, _, _, _, ho1, own_len ho2 hla, ho3, rfl⟩, (hSt.sublist (subQ ..)).perm permQ⟩
  all_goals first | rfl | (congr 1; simp only [decide_eq_true_eq]; rw [hul, hel]) | skip
end
end Go.Proofs.YtndkifkaejmibaaGreatDoor
