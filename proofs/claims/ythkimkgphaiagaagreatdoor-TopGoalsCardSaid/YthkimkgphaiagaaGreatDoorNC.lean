/- The client's Poll. No conditions. -/
import Derived.Test.YthkimkgphaiagaaGreatDoorNB

namespace Go.Proofs.YthkimkgphaiagaaGreatDoor
open Go.RowKit
set_option maxRecDepth 4000
set_option linter.unusedVariables false
set_option linter.unusedSimpArgs false
set_option maxHeartbeats 4000000

theorem poll_any {w0 : World} {cb mb : Nat} {bs : List Nat} {num retry : Int} {gs : List Ce} (hh : Has w0 (CH cb mb bs num retry gs)) (hl : bs.length = gs.length) (hb : gs.length ≤ 1000) (hr : 0 ≤ retry ∧ retry ≤ 1099511627776) (at_ : Int) (hat : 0 ≤ at_ ∧ at_ ≤ 1099511627776) :
    Cl Tryz.prog 13 [Ptr cb, I at_] w0 (fun v w' => ∃ H1, OwnSl v 54 5 (pollM num at_ 1 gs) (pollC at_ gs) H1 ∧ St w0 (InH (CH cb mb bs num retry gs)) (CH cb mb bs num retry (pollA retry at_ gs.length gs) ++ H1) w') := by
  have hSt := hh.st
  refine enter Tryz.func13 rfl Tryz.ntmps13 rfl ?_
  repeat' (first | (refine WL_isCall (f := 41) ?_; refine WL_call (ok_call hT rfl) rfl rfl rfl (valid_any _) ?_; rintro v w' ⟨rfl, hc2⟩; replace hSt := hSt.call0 hc2; clear hc2) | refine stepA ?_ | (refine stepS ?_; clear hSt; intro w hSt; dsimp only [spl, List.set] at hSt) | (refine stepB ?_; clear hSt; intro w nb hnb hSt; dsimp only [zcells, List.nil_append, List.cons_append] at hSt) | (refine W_quiet hT (by decide +kernel) hSt ?_; clear hSt; (repeat' (first | (apply QL_ev rfl rfl; (intro w hSt; (first | exact Ev_auto))) | refine QL_pass rfl rfl ?_ | (refine QL_guardP rfl rfl (fun hc => ?_) (fun hc => ?_) <;> try exact absA) | (refine QL_guard rfl rfl (fun hc => ?_) (fun hc => ?_) <;> (try exact absA) <;> (fail_if_success (change true = true at hc)) <;> (fail_if_success (change false = false at hc))))); all_goals (refine QL_nil (fun w hSt => ?_))) | (refine stepG ?_ ?_ <;> intro hc <;> (try exact absA) <;> (fail_if_success (change true = true at hc)) <;> (fail_if_success (change false = false at hc))) | fail)
  refine WL_call (ok_call hT rfl) rfl rfl rfl (copen_any hSt.has hl hb) ?_
  rintro v w' ⟨HO, hoO, hc2⟩
  obtain ⟨oa, oc, rfl⟩ := hoO.len
  replace hSt := hSt.newN hc2
  clear hc2
  repeat' (first | refine stepA ?_ | (refine stepS ?_; clear hSt; intro w hSt; dsimp only [spl, List.set] at hSt) | (refine stepB ?_; clear hSt; intro w nb hnb hSt; dsimp only [zcells, List.nil_append, List.cons_append] at hSt) | (refine W_quiet hT (by decide +kernel) hSt ?_; clear hSt; (repeat' (first | (apply QL_ev rfl rfl; (intro w hSt; (first | exact Ev_auto))) | refine QL_pass rfl rfl ?_ | (refine QL_guardP rfl rfl (fun hc => ?_) (fun hc => ?_) <;> try exact absA) | (refine QL_guard rfl rfl (fun hc => ?_) (fun hc => ?_) <;> (try exact absA) <;> (fail_if_success (change true = true at hc)) <;> (fail_if_success (change false = false at hc))))); all_goals (refine QL_nil (fun w hSt => ?_))) | (refine stepG ?_ ?_ <;> intro hc <;> (try exact absA) <;> (fail_if_success (change true = true at hc)) <;> (fail_if_success (change false = false at hc))) | fail)
  generalize hlo : copL 1 gs = lo at hoO
  have hlol : lo.length ≤ 1000 := by rw [← hlo]; exact Nat.le_trans (copL_len gs 1) hb
  refine W_loop3 (fun k (j p : Nat) (v : Value) w => k = lo.length - j ∧ j ≤ lo.length ∧ p ≤ gs.length ∧ copL ((p : Int) + 1) (gs.drop p) = lo.drop j ∧ ∃ H1, OwnSl v 54 5 (pollM num at_ 1 (gs.take p)) (pollC at_ (gs.take p)) H1 ∧ St w0 (InH (CH cb mb bs num retry gs)) (CH cb mb bs num retry (pollA retry at_ p gs) ++ HO ++ H1) w)
    (fun j p v => [(20, I (j : Int)), (5, v)]) lo.length 0 0 (.slice none 0 0) rfl (by (repeat (first | exact Str.nil _ | apply Str.drop rfl | apply Str.keepU rfl | apply Str.keep rfl))) ⟨by omega, by omega, by omega, by simpa using hlo, [], OwnSl.nil _ _, by simpa [pollA] using hSt⟩ (by (repeat (first | exact Sub.nil _ | refine Sub.cons rfl ?_))) ?_
  rintro k j p v w ⟨hk, hj, hp, hdj, H1, ho, hSt⟩ K hK
  by_cases hjl : j < lo.length
  · obtain ⟨n, hnj⟩ : ∃ n, lo[j]? = some n := ⟨_, List.getElem?_eq_getElem hjl⟩
    have hdr : lo.drop j = n :: lo.drop (j + 1) := by rw [List.drop_eq_getElem_cons hjl, (List.getElem?_eq_some_iff.1 hnj).2]
    rw [hdr] at hdj
    obtain ⟨a, g, b, hd, hae, hg, hn, hrest⟩ := copen_split _ _ hdj
    obtain ⟨e1, e2, e3⟩ := pollA_skip (num := num) (retry := retry) (at_ := at_) a hd hae
    have hgi : gs[p + a.length]? = some g := by
      have := congrArg (·[a.length]?) hd
      simpa [List.getElem?_drop] using this
    have hdr2 : gs.drop (p + a.length + 1) = b := by
      have := congrArg (List.drop (a.length + 1)) hd
      rw [List.drop_drop, ← Nat.add_assoc] at this
      rw [this]
      simp
    rw [← e2, ← e3] at ho
    rw [← e1] at hSt
    generalize hi : p + a.length = i at *
    have hil : i < gs.length := (List.getElem?_eq_some_iff.1 hgi).1
    obtain ⟨gb, hbi⟩ : ∃ b, bs[i]? = some b := ⟨_, List.getElem?_eq_getElem (by omega)⟩
    have hga : (pollA retry at_ i gs)[i]? = some g := by rw [pollA_at (Nat.le_refl _)]; exact hgi
    have hla : bs.length = (pollA retry at_ i gs).length := by rw [pollA_len]; exact hl
    obtain ⟨R, hRc, hRm, hR⟩ := CH_perm (cb := cb) (mb := mb) (num := num) (retry := retry) hla hbi
    have hR0 := hR g
    rw [set_self hga] at hR0
    have hSt1 := hSt.perm (perm4 (HO := HO) (H1 := H1) hR0)
    have hcw := (hSt1.mem (x := (cb, cliO num retry (pollA retry at_ i gs).length mb)) (by simp [hRc])).1
    have hmw := (hSt1.mem (x := (mb, mapO bs)) (by simp [hRm])).1
    have hcn := hSt1.notin (x := (cb, cliO num retry (pollA retry at_ i gs).length mb)) (by simp [hRc])
    have hmn := hSt1.notin (x := (mb, mapO bs)) (by simp [hRm])
    obtain ⟨ob, oc', rs, hov, _, _, hHO⟩ := hoO.some_ (by omega)
    injection hov with hoa _ hoc
    subst hoa; subst hoc
    have how := (hSt1.mem (x := (ob, blk (lo.map I ++ rs) 3)) (by simp [hHO])).1
    have hon := hSt1.notin (x := (ob, blk (lo.map I ++ rs) 3)) (by simp [hHO])
    have hoc : (lo.map I ++ rs)[0 + ((j : Int)).toNat * 1]? = some (I n) := by
      rw [Nat.zero_add, Nat.mul_one, Int.toNat_natCast, List.getElem?_append_left (by simpa using hjl), List.getElem?_map, hnj]; rfl
    have hpc := pollC_le at_ (gs.take i)
    rw [List.length_take] at hpc
    have fin : ∀ {g' : Ce} {cells : List Value} {c : Nat} {v : Value} {H2 : List (Nat × Obj)} {w3 : World} {x : Nat × Obj}, St w (InH ((gb, g.obj) :: H1)) ((gb, g'.obj) :: x :: H2) w3 → OwnSl v 54 5 cells c H2 → g' = g.pg retry at_ → cells = pollM num at_ 1 (gs.take i) ++ g.pm num at_ n → c = pollC at_ (gs.take i) + g.pc at_ →
        (lo.length - (j + 1) = lo.length - (j + 1) ∧ j + 1 ≤ lo.length ∧ i + 1 ≤ gs.length ∧ copL (((i + 1 : Nat) : Int) + 1) (gs.drop (i + 1)) = lo.drop (j + 1) ∧ ∃ H1, OwnSl v 54 5 (pollM num at_ 1 (gs.take (i + 1))) (pollC at_ (gs.take (i + 1))) H1 ∧ St w0 (InH (CH cb mb bs num retry gs)) (CH cb mb bs num retry (pollA retry at_ (i + 1) gs) ++ HO ++ H1) w3) := by
      intro g' cells c v H2 w3 x h1 h2 h3 h4 h5
      subst h3; subst h4; subst h5
      refine ⟨rfl, by omega, by omega, ?_, H2, ?_, ?_⟩
      · rw [hdr2, ← hrest]; congr 1; omega
      · rw [take_succ_of hgi, pollM_snoc, pollC_snoc, List.length_take, Nat.min_eq_left (by omega), show (1 : Int) + (i : Int) = n by omega]
        exact h2
      · have h6 := hSt1.callE (h1.sublist (Hn := (gb, (g.pg retry at_).obj) :: H2) ((List.sublist_cons_self x H2).cons_cons _))
        have h7 := hR (g.pg retry at_)
        rw [← pollA_succ hgi] at h7
        exact h6.perm (perm4 h7).symm
    replace hSt : St w (InH ((gb, g.obj) :: H1)) ((gb, g.obj) :: H1) w := hSt1.hasE.st
    obtain ⟨q, r, st, fb, nx, cn, nc⟩ := g
    have hst : st < 4 := hg
    have fin2 : ∀ (x y : Bool) {v : Value} {H2 : List (Nat × Obj)} {w3 : World} {z : Nat × Obj}, (x = true ↔ nx ≤ at_) → (y = true ↔ cn = true ∧ nc ≤ at_) →
        St w (InH ((gb, (Ce.mk q r st fb nx cn nc).obj) :: H1)) ((gb, (Ce.mk q r st fb (bif x then at_ + retry else nx) cn (bif y then at_ + retry else nc)).obj) :: z :: H2) w3 →
        OwnSl v 54 5 (bif y then (bif x then pollM num at_ 1 (gs.take i) ++ msg 1 num n q else pollM num at_ 1 (gs.take i)) ++ msg 2 num n [] else (bif x then pollM num at_ 1 (gs.take i) ++ msg 1 num n q else pollM num at_ 1 (gs.take i)))
          (bif y then (bif x then pollC at_ (gs.take i) + 1 else pollC at_ (gs.take i)) + 1 else (bif x then pollC at_ (gs.take i) + 1 else pollC at_ (gs.take i))) H2 →
        (lo.length - (j + 1) = lo.length - (j + 1) ∧ j + 1 ≤ lo.length ∧ i + 1 ≤ gs.length ∧ copL (((i + 1 : Nat) : Int) + 1) (gs.drop (i + 1)) = lo.drop (j + 1) ∧ ∃ H1, OwnSl v 54 5 (pollM num at_ 1 (gs.take (i + 1))) (pollC at_ (gs.take (i + 1))) H1 ∧ St w0 (InH (CH cb mb bs num retry gs)) (CH cb mb bs num retry (pollA retry at_ (i + 1) gs) ++ HO ++ H1) w3) := by
      intro x y v H2 w3 z hx hy h1 h2
      refine fin (g' := ⟨q, r, st, fb, bif x then at_ + retry else nx, cn, bif y then at_ + retry else nc⟩) h1 h2 ?_ ?_ ?_
      · rw [Ce.pg, if_pos hst]
        simp only [← hx, ← hy]
        cases x <;> cases y <;> simp
      · rw [Ce.pm, if_pos hst]
        simp only [← hx, ← hy]
        cases x <;> cases y <;> simp
      · rw [Ce.pc, if_pos hst]
        simp only [← hx, ← hy]
        cases x <;> cases y <;> simp
    clear fin
    dsimp only [Ce.obj, Ce.cells] at hSt
    repeat' (first | (apply WL_ev rfl rfl; exact Ev_load1 hT rfl rfl (hSt.base hcw hcn) rfl) | (apply WL_ev rfl rfl; exact Ev_load1 hT rfl rfl (hSt.base how hon) hoc) | (apply WL_ev rfl rfl; exact Ev_lookup Tryz.underlying87 Tryz.underlying3 (by simp [MapKept.IsKey]) rfl rfl (hSt.base hmw hmn) (findNow_in _ bs 0 0 i gb hbi (by omega))) | (refine WL_alloc hT rfl rfl rfl hSt ?_; clear hSt; intro w ib hib hSt; dsimp only [zcells] at hSt; replace hSt := hSt.rot) | (refine W_grow [false, false, false, false, false, false, false, true] hT (by decide +kernel) hSt ?_; clear hSt; intro w hSt hG; simp only [List.take_succ_cons, List.take_zero, List.length_cons, List.length_nil]; (repeat' (first | (apply GL_ev rfl rfl hG; (intro w hG1; have hSt := hSt.call0 hG1; (first | (exact Ev_load1 hT rfl rfl (hSt.base hcw hcn) rfl) | (exact Ev_load1 hT rfl rfl (hSt.base how hon) hoc) | (exact Ev_lookup Tryz.underlying87 Tryz.underlying3 (by simp [MapKept.IsKey]) rfl rfl (hSt.base hmw hmn) (findNow_in _ bs 0 0 i gb hbi (by omega))) | exact Ev_auto))) | refine GL_pass rfl rfl hG ?_ | (refine GL_one ?_; (first | (refine WL_box rfl rfl rfl hG ?_; clear hG; intro w nb hnb hG) | (refine WL_alloc hT rfl rfl rfl hG ?_; clear hG; intro w nb hnb hG) | (refine WL_buildSlice hT rfl rfl rfl rfl rfl rfl rfl rfl hG ?_; clear hG; intro w nb hnb hG) | (refine WL_makeMap rfl rfl hG ?_; clear hG; intro w nb hnb hG)); (try dsimp only [zcells, List.nil_append, List.cons_append] at hG); replace hnb := Nat.le_trans hSt.size hnb; refine WL_nil (At_one hG ?_)) | (refine GL_guardP rfl rfl (fun hc => ?_) (fun hc => ?_) <;> try exact absA) | (refine GL_guard rfl rfl (fun hc => ?_) (fun hc => ?_) <;> (try exact absA) <;> (fail_if_success (change true = true at hc)) <;> (fail_if_success (change false = false at hc))))); all_goals (refine GL_end ?_; replace hSt := hSt.newN hG; clear hG; simp only [List.drop_succ_cons, List.drop_zero]; dsimp only [List.nil_append, List.cons_append] at hSt)) | (refine WL_appendL hT rfl rfl rfl rfl rfl rfl rfl (H0 := [_, _]) (H1 := H1) hSt ho rfl rfl (by omega) (by omega) ?_; clear hSt ho; intro v w H2 ho hSt; dsimp only [List.cons_append, List.nil_append] at hSt) | (refine WL_push1 hT rfl rfl rfl rfl rfl rfl rfl rfl rfl rfl rfl rfl (fun _ => rfl) rfl hSt (H0 := [_, _]) ho (by omega) (by omega) ?_; clear hSt ho; intro v w H2 u ho hSt; dsimp only [List.cons_append, List.nil_append] at hSt) | refine stepA ?_ | (refine stepS ?_; clear hSt; intro w hSt; dsimp only [spl, List.set] at hSt) | (refine stepB ?_; clear hSt; intro w nb hnb hSt; dsimp only [zcells, List.nil_append, List.cons_append] at hSt) | (refine W_quiet hT (by decide +kernel) hSt ?_; clear hSt; (repeat' (first | (apply QL_ev rfl rfl; (intro w hSt; (first | (exact Ev_load1 hT rfl rfl (hSt.base hcw hcn) rfl) | (exact Ev_load1 hT rfl rfl (hSt.base how hon) hoc) | (exact Ev_lookup Tryz.underlying87 Tryz.underlying3 (by simp [MapKept.IsKey]) rfl rfl (hSt.base hmw hmn) (findNow_in _ bs 0 0 i gb hbi (by omega))) | exact Ev_auto))) | refine QL_pass rfl rfl ?_ | (refine QL_guardP rfl rfl (fun hc => ?_) (fun hc => ?_) <;> try exact absA) | (refine QL_guard rfl rfl (fun hc => ?_) (fun hc => ?_) <;> (try exact absA) <;> (fail_if_success (change true = true at hc)) <;> (fail_if_success (change false = false at hc))))); all_goals (refine QL_nil (fun w hSt => ?_))) | (refine stepG ?_ ?_ <;> intro hc <;> (try exact absA) <;> (fail_if_success (change true = true at hc)) <;> (fail_if_success (change false = false at hc))) | fail)
    all_goals first
      | exact At_loop3 hK (k' := lo.length - (j + 1)) (j + 1) (i + 1) _ (by omega) (fin2 true true (by simp [*]) (by simp [*]) hSt ho) (by (repeat (first | exact Sub.nil _ | refine Sub.cons rfl ?_)))
      | exact At_loop3 hK (k' := lo.length - (j + 1)) (j + 1) (i + 1) _ (by omega) (fin2 true false (by simp [*]) (by simp [*]) hSt ho) (by (repeat (first | exact Sub.nil _ | refine Sub.cons rfl ?_)))
      | exact At_loop3 hK (k' := lo.length - (j + 1)) (j + 1) (i + 1) _ (by omega) (fin2 false true (by simp [*]) (by simp [*]) hSt ho) (by (repeat (first | exact Sub.nil _ | refine Sub.cons rfl ?_)))
      | exact At_loop3 hK (k' := lo.length - (j + 1)) (j + 1) (i + 1) _ (by omega) (fin2 false false (by simp [*]) (by simp [*]) hSt ho) (by (repeat (first | exact Sub.nil _ | refine Sub.cons rfl ?_)))
  · have hj' : j = lo.length := by omega
    subst hj'
    rw [List.drop_length] at hdj
    have hpl : p + (gs.drop p).length = gs.length := by rw [List.length_drop]; omega
    obtain ⟨e1, e2, e3⟩ := pollA_skip (num := num) (retry := retry) (at_ := at_) (gs.drop p) (rest := []) (p := p) (gs := gs) (by simp) (copen_none _ _ hdj)
    rw [hpl, List.take_length] at e2 e3
    rw [hpl] at e1
    rw [← e2, ← e3] at ho
    rw [← e1] at hSt
    repeat' (first | refine stepA ?_ | (refine stepS ?_; clear hSt; intro w hSt; dsimp only [spl, List.set] at hSt) | (refine stepB ?_; clear hSt; intro w nb hnb hSt; dsimp only [zcells, List.nil_append, List.cons_append] at hSt) | (refine W_quiet hT (by decide +kernel) hSt ?_; clear hSt; (repeat' (first | (apply QL_ev rfl rfl; (intro w hSt; (first | exact Ev_auto))) | refine QL_pass rfl rfl ?_ | (refine QL_guardP rfl rfl (fun hc => ?_) (fun hc => ?_) <;> try exact absA) | (refine QL_guard rfl rfl (fun hc => ?_) (fun hc => ?_) <;> (try exact absA) <;> (fail_if_success (change true = true at hc)) <;> (fail_if_success (change false = false at hc))))); all_goals (refine QL_nil (fun w hSt => ?_))) | (refine stepG ?_ ?_ <;> intro hc <;> (try exact absA) <;> (fail_if_success (change true = true at hc)) <;> (fail_if_success (change false = false at hc))) | fail)
    refine ret1 rfl rfl ⟨H1, ho, hSt.sublist ?_⟩
    rw [List.append_assoc]
    exact (List.Sublist.refl _).append (List.sublist_append_right _ _)
theorem poll_bad {w0 : World} {cb : Nat} {at_ : Int} (hat : ¬ (0 ≤ at_ ∧ at_ ≤ 1099511627776)) :
    Cl Tryz.prog 13 [Ptr cb, I at_] w0 (fun v w' => v = .slice none 0 0 ∧ St w0 NoneS [] w') := by
  have hSt := St.refl w0 NoneS
  refine enter Tryz.func13 rfl Tryz.ntmps13 rfl ?_
  repeat' (first | (refine WL_isCall (f := 41) ?_; refine WL_call (ok_call hT rfl) rfl rfl rfl (valid_any _) ?_; rintro v w' ⟨rfl, hc2⟩; replace hSt := hSt.call0 hc2; clear hc2) | refine stepA ?_ | (refine stepS ?_; clear hSt; intro w hSt; dsimp only [spl, List.set] at hSt) | (refine stepB ?_; clear hSt; intro w nb hnb hSt; dsimp only [zcells, List.nil_append, List.cons_append] at hSt) | (refine W_quiet hT (by decide +kernel) hSt ?_; clear hSt; (repeat' (first | (apply QL_ev rfl rfl; (intro w hSt; (first | exact Ev_auto))) | refine QL_pass rfl rfl ?_ | (refine QL_guardP rfl rfl (fun hc => ?_) (fun hc => ?_) <;> try exact absA) | (refine QL_guard rfl rfl (fun hc => ?_) (fun hc => ?_) <;> (try exact absA) <;> (fail_if_success (change true = true at hc)) <;> (fail_if_success (change false = false at hc))))); all_goals (refine QL_nil (fun w hSt => ?_))) | (refine stepG ?_ ?_ <;> intro hc <;> (try exact absA) <;> (fail_if_success (change true = true at hc)) <;> (fail_if_success (change false = false at hc))) | fail)
  exact ret1 rfl rfl ⟨rfl, hSt⟩
theorem poll_nil {w0 : World} {at_ : Int} :
    Cl Tryz.prog 13 [.pointer none, I at_] w0 (fun v w' => v = .slice none 0 0 ∧ St w0 NoneS [] w') := by
  have hSt := St.refl w0 NoneS
  refine enter Tryz.func13 rfl Tryz.ntmps13 rfl ?_
  repeat' (first | refine stepA ?_ | (refine stepS ?_; clear hSt; intro w hSt; dsimp only [spl, List.set] at hSt) | (refine stepB ?_; clear hSt; intro w nb hnb hSt; dsimp only [zcells, List.nil_append, List.cons_append] at hSt) | (refine W_quiet hT (by decide +kernel) hSt ?_; clear hSt; (repeat' (first | (apply QL_ev rfl rfl; (intro w hSt; (first | exact Ev_auto))) | refine QL_pass rfl rfl ?_ | (refine QL_guardP rfl rfl (fun hc => ?_) (fun hc => ?_) <;> try exact absA) | (refine QL_guard rfl rfl (fun hc => ?_) (fun hc => ?_) <;> (try exact absA) <;> (fail_if_success (change true = true at hc)) <;> (fail_if_success (change false = false at hc))))); all_goals (refine QL_nil (fun w hSt => ?_))) | (refine stepG ?_ ?_ <;> intro hc <;> (try exact absA) <;> (fail_if_success (change true = true at hc)) <;> (fail_if_success (change false = false at hc))) | fail)
  exact ret1 rfl rfl ⟨rfl, hSt⟩
end Go.Proofs.YthkimkgphaiagaaGreatDoor

namespace Go.Proofs.YthkimkgphaiagaaGreatDoor
open Go.RowKit
set_option maxRecDepth 4000
set_option linter.unusedVariables false
set_option linter.unusedSimpArgs false
set_option maxHeartbeats 2000000

theorem CH_perm3 {cb mb i b : Nat} {bs : List Nat} {num retry : Int} {gs : List Ce} (hl : bs.length = gs.length) (hbi : bs[i]? = some b) : ∃ R : List (Nat × Obj), ∀ g' : Ce, List.Perm (R ++ H3 cb mb b num retry gs.length bs g') (CH cb mb bs num retry (gs.set i g')) := by
  have hi := (List.getElem?_eq_some_iff.1 hbi).1
  let zw := List.zipWith (fun b (g : Ce) => (b, g.obj)) bs gs
  refine ⟨zw.take i ++ zw.drop (i + 1), fun g' => ?_⟩
  have e : List.zipWith (fun b (g : Ce) => (b, g.obj)) bs (gs.set i g') = zw.set i (b, g'.obj) := by
    apply List.ext_getElem?
    intro j
    rw [List.getElem?_set, List.getElem?_zipWith, List.getElem?_set]
    by_cases hij : i = j
    · subst hij
      simp [hbi, zw, hl.symm.symm, hi, show i < gs.length by omega]
      simpa using (List.getElem?_eq_some_iff.1 hbi).2
    · simp [hij, zw, List.getElem?_zipWith]
  have hzl : i < zw.length := by simp only [zw, List.length_zipWith]; omega
  show List.Perm _ ((cb, cliO num retry (gs.set i g').length mb) :: (mb, mapO bs) :: List.zipWith (fun b (g : Ce) => (b, g.obj)) bs (gs.set i g'))
  rw [e, List.length_set]
  have h1 := (set_perm (l := zw) (b, g'.obj) hzl).symm
  refine List.Perm.trans ?_ ((h1.cons _).cons _)
  refine List.Perm.trans List.perm_append_comm ?_
  exact ((List.perm_append_comm (l₁ := [(b, g'.obj)]) (l₂ := zw.take i ++ zw.drop (i + 1))).cons _).cons _

theorem CH_in {w0 : World} {cb mb i b : Nat} {bs : List Nat} {num retry : Int} {gs : List Ce} {g : Ce} (hh : Has w0 (CH cb mb bs num retry gs)) (hl : bs.length = gs.length) (hbi : bs[i]? = some b) (hgi : gs[i]? = some g) :
    Has w0 (H3 cb mb b num retry gs.length bs g) ∧ ∀ {g' : Ce} {w' : World}, St w0 (InH (H3 cb mb b num retry gs.length bs g)) (H3 cb mb b num retry gs.length bs g') w' → St w0 (InH (CH cb mb bs num retry gs)) (CH cb mb bs num retry (gs.set i g')) w' := by
  obtain ⟨R, hR⟩ := CH_perm3 (cb := cb) (mb := mb) (num := num) (retry := retry) hl hbi
  have h0 := hR g
  rw [set_self hgi] at h0
  have h1 := hh.st.perm h0
  exact ⟨h1.hasE, fun k => (h1.callE k).perm (hR _).symm⟩

theorem receive_any {w0 : World} {cb mb : Nat} {bs : List Nat} {num retry : Int} {gs : List Ce} (hh : Has w0 (CH cb mb bs num retry gs)) (hl : bs.length = gs.length) (kind client number told : Int) (text : List UInt8) :
    Cl Tryz.prog 17 [Ptr cb, .agg ⟨[I kind, I client, I number, I told, S text]⟩] w0 (fun v w' => v = I (recvF num gs kind client number told text).1 ∧ St w0 (InH (CH cb mb bs num retry gs)) (CH cb mb bs num retry (recvF num gs kind client number told text).2) w') := by
  have hcb := hh.own 0 _ _ rfl
  have hmb := hh.own 1 _ _ rfl
  have keep : ∀ {w : World} {H : List (Nat × Obj)}, St w0 NoneS H w → St w0 (InH (CH cb mb bs num retry gs)) (CH cb mb bs num retry gs) w := fun h =>
    h.regroup (fun _ e => e.elim) (fun x hx => .inr ⟨hh.mem hx, fun e => e, InH_of hx⟩) hh.nodup
  by_cases hk : kind < 3 ∨ 9 < kind
  · rw [show recvF num gs kind client number told text = (4, gs) by simp [recvF, hk]]
    have hSt := St.refl w0 NoneS
    refine enter Tryz.func17 rfl Tryz.ntmps17 rfl ?_
    repeat' (first | refine stepA ?_ | (refine stepS ?_; clear hSt; intro w hSt; dsimp only [spl, List.set] at hSt) | (refine stepB ?_; clear hSt; intro w nb hnb hSt; dsimp only [zcells, List.nil_append, List.cons_append] at hSt) | (refine W_quiet hT (by decide +kernel) hSt ?_; clear hSt; (repeat' (first | (apply QL_ev rfl rfl; (intro w hSt; (first | exact Ev_auto))) | refine QL_pass rfl rfl ?_ | (refine QL_guardP rfl rfl (fun hc => ?_) (fun hc => ?_) <;> try exact absA) | (refine QL_guard rfl rfl (fun hc => ?_) (fun hc => ?_) <;> (try exact absA) <;> (fail_if_success (change true = true at hc)) <;> (fail_if_success (change false = false at hc))))); all_goals (refine QL_nil (fun w hSt => ?_))) | (refine stepG ?_ ?_ <;> intro hc <;> (try exact absA) <;> (fail_if_success (change true = true at hc)) <;> (fail_if_success (change false = false at hc))) | fail)
    all_goals exact ret1 rfl rfl ⟨rfl, keep hSt⟩
  · by_cases hcn : client = num
    · subst hcn
      cases hga : cAt gs number with
      | none =>
        have hn := cAt_none hl hga
        rw [show recvF client gs kind client number told text = (6, gs) by simp [recvF, hk, hga]]
        have hSt := St.refl w0 NoneS
        refine enter Tryz.func17 rfl Tryz.ntmps17 rfl ?_
        repeat' (first | (apply WL_ev rfl rfl; exact Ev_load1 hT rfl rfl (hSt.base hcb (fun e => e)) rfl) | (refine WL_isCall (f := 42) ?_; refine WL_call (ok_call hT rfl) rfl rfl rfl (find_out (hSt.base hcb (fun e => e)) (hSt.base hmb (fun e => e)) hn) ?_; rintro v w' ⟨rfl, hc2⟩; replace hSt := hSt.call0 hc2; clear hc2) | refine stepA ?_ | (refine stepS ?_; clear hSt; intro w hSt; dsimp only [spl, List.set] at hSt) | (refine stepB ?_; clear hSt; intro w nb hnb hSt; dsimp only [zcells, List.nil_append, List.cons_append] at hSt) | (refine W_quiet hT (by decide +kernel) hSt ?_; clear hSt; (repeat' (first | (apply QL_ev rfl rfl; (intro w hSt; (first | (exact Ev_load1 hT rfl rfl (hSt.base hcb (fun e => e)) rfl) | exact Ev_auto))) | refine QL_pass rfl rfl ?_ | (refine QL_guardP rfl rfl (fun hc => ?_) (fun hc => ?_) <;> try exact absA) | (refine QL_guard rfl rfl (fun hc => ?_) (fun hc => ?_) <;> (try exact absA) <;> (fail_if_success (change true = true at hc)) <;> (fail_if_success (change false = false at hc))))); all_goals (refine QL_nil (fun w hSt => ?_))) | (refine stepG ?_ ?_ <;> intro hc <;> (try exact absA) <;> (fail_if_success (change true = true at hc)) <;> (fail_if_success (change false = false at hc))) | fail)
        all_goals exact ret1 rfl rfl ⟨rfl, keep hSt⟩
      | some g =>
        obtain ⟨i, b, hbi, hgi, hn⟩ := cAt_some hl hga
        obtain ⟨h3, hback⟩ := CH_in hh hl hbi hgi
        rw [show recvF client gs kind client number told text = ((g.recv kind told text).1, gs.set i (g.recv kind told text).2) by simp [recvF, hk, hga]; congr; omega]
        exact (receive_in h3 hbi hn kind told text (by omega)).mono (fun v w' h => ⟨h.1, hback h.2⟩)
    · rw [show recvF num gs kind client number told text = (6, gs) by simp [recvF, hk, hcn]]
      have hSt := St.refl w0 NoneS
      cases hga : cAt gs number with
      | none =>
        have hn := cAt_none hl hga
        refine enter Tryz.func17 rfl Tryz.ntmps17 rfl ?_
        repeat' (first | (apply WL_ev rfl rfl; exact Ev_load1 hT rfl rfl (hSt.base hcb (fun e => e)) rfl) | (refine WL_isCall (f := 42) ?_; refine WL_call (ok_call hT rfl) rfl rfl rfl (find_out (hSt.base hcb (fun e => e)) (hSt.base hmb (fun e => e)) hn) ?_; rintro v w' ⟨rfl, hc2⟩; replace hSt := hSt.call0 hc2; clear hc2) | refine stepA ?_ | (refine stepS ?_; clear hSt; intro w hSt; dsimp only [spl, List.set] at hSt) | (refine stepB ?_; clear hSt; intro w nb hnb hSt; dsimp only [zcells, List.nil_append, List.cons_append] at hSt) | (refine W_quiet hT (by decide +kernel) hSt ?_; clear hSt; (repeat' (first | (apply QL_ev rfl rfl; (intro w hSt; (first | (exact Ev_load1 hT rfl rfl (hSt.base hcb (fun e => e)) rfl) | exact Ev_auto))) | refine QL_pass rfl rfl ?_ | (refine QL_guardP rfl rfl (fun hc => ?_) (fun hc => ?_) <;> try exact absA) | (refine QL_guard rfl rfl (fun hc => ?_) (fun hc => ?_) <;> (try exact absA) <;> (fail_if_success (change true = true at hc)) <;> (fail_if_success (change false = false at hc))))); all_goals (refine QL_nil (fun w hSt => ?_))) | (refine stepG ?_ ?_ <;> intro hc <;> (try exact absA) <;> (fail_if_success (change true = true at hc)) <;> (fail_if_success (change false = false at hc))) | fail)
        all_goals exact ret1 rfl rfl ⟨rfl, keep hSt⟩
      | some g =>
        obtain ⟨i, b, hbi, hgi, hn⟩ := cAt_some hl hga
        refine enter Tryz.func17 rfl Tryz.ntmps17 rfl ?_
        repeat' (first | (apply WL_ev rfl rfl; exact Ev_load1 hT rfl rfl (hSt.base hcb (fun e => e)) rfl) | (refine WL_isCall (f := 42) ?_; refine WL_call (ok_call hT rfl) rfl rfl rfl (find_in (hSt.base hcb (fun e => e)) (hSt.base hmb (fun e => e)) hbi hn) ?_; rintro v w' ⟨rfl, hc2⟩; replace hSt := hSt.call0 hc2; clear hc2) | refine stepA ?_ | (refine stepS ?_; clear hSt; intro w hSt; dsimp only [spl, List.set] at hSt) | (refine stepB ?_; clear hSt; intro w nb hnb hSt; dsimp only [zcells, List.nil_append, List.cons_append] at hSt) | (refine W_quiet hT (by decide +kernel) hSt ?_; clear hSt; (repeat' (first | (apply QL_ev rfl rfl; (intro w hSt; (first | (exact Ev_load1 hT rfl rfl (hSt.base hcb (fun e => e)) rfl) | exact Ev_auto))) | refine QL_pass rfl rfl ?_ | (refine QL_guardP rfl rfl (fun hc => ?_) (fun hc => ?_) <;> try exact absA) | (refine QL_guard rfl rfl (fun hc => ?_) (fun hc => ?_) <;> (try exact absA) <;> (fail_if_success (change true = true at hc)) <;> (fail_if_success (change false = false at hc))))); all_goals (refine QL_nil (fun w hSt => ?_))) | (refine stepG ?_ ?_ <;> intro hc <;> (try exact absA) <;> (fail_if_success (change true = true at hc)) <;> (fail_if_success (change false = false at hc))) | fail)
        all_goals exact ret1 rfl rfl ⟨rfl, keep hSt⟩
theorem ccancel_any {w0 : World} {cb mb : Nat} {bs : List Nat} {num retry : Int} {gs : List Ce} (hh : Has w0 (CH cb mb bs num retry gs)) (hl : bs.length = gs.length) (number at_ : Int) :
    Cl Tryz.prog 12 [Ptr cb, I number, I at_] w0 (fun v w' => v = I (cancF gs number at_).1 ∧ St w0 (InH (CH cb mb bs num retry gs)) (CH cb mb bs num retry (cancF gs number at_).2) w') := by
  have hcb := hh.own 0 _ _ rfl
  have hmb := hh.own 1 _ _ rfl
  have keep : ∀ {w : World} {H : List (Nat × Obj)}, St w0 NoneS H w → St w0 (InH (CH cb mb bs num retry gs)) (CH cb mb bs num retry gs) w := fun h =>
    h.regroup (fun _ e => e.elim) (fun x hx => .inr ⟨hh.mem hx, fun e => e, InH_of hx⟩) hh.nodup
  cases hga : cAt gs number with
  | none =>
    have hn := cAt_none hl hga
    rw [show cancF gs number at_ = (6, gs) by simp [cancF, hga]]
    have hSt := St.refl w0 NoneS
    refine enter Tryz.func12 rfl Tryz.ntmps12 rfl ?_
    repeat' (first | (refine WL_isCall (f := 42) ?_; refine WL_call (ok_call hT rfl) rfl rfl rfl (find_out (hSt.base hcb (fun e => e)) (hSt.base hmb (fun e => e)) hn) ?_; rintro v w' ⟨rfl, hc2⟩; replace hSt := hSt.call0 hc2; clear hc2) | refine stepA ?_ | (refine stepS ?_; clear hSt; intro w hSt; dsimp only [spl, List.set] at hSt) | (refine stepB ?_; clear hSt; intro w nb hnb hSt; dsimp only [zcells, List.nil_append, List.cons_append] at hSt) | (refine W_quiet hT (by decide +kernel) hSt ?_; clear hSt; (repeat' (first | (apply QL_ev rfl rfl; (intro w hSt; (first | exact Ev_auto))) | refine QL_pass rfl rfl ?_ | (refine QL_guardP rfl rfl (fun hc => ?_) (fun hc => ?_) <;> try exact absA) | (refine QL_guard rfl rfl (fun hc => ?_) (fun hc => ?_) <;> (try exact absA) <;> (fail_if_success (change true = true at hc)) <;> (fail_if_success (change false = false at hc))))); all_goals (refine QL_nil (fun w hSt => ?_))) | (refine stepG ?_ ?_ <;> intro hc <;> (try exact absA) <;> (fail_if_success (change true = true at hc)) <;> (fail_if_success (change false = false at hc))) | fail)
    all_goals exact ret1 rfl rfl ⟨rfl, keep hSt⟩
  | some g =>
    obtain ⟨i, b, hbi, hgi, hn⟩ := cAt_some hl hga
    by_cases hat : 0 ≤ at_ ∧ at_ ≤ 1099511627776
    · obtain ⟨h3, hback⟩ := CH_in hh hl hbi hgi
      rw [show cancF gs number at_ = ((g.cancel at_).1, gs.set i (g.cancel at_).2) by simp [cancF, hat, hga]; congr; omega]
      exact (cancel_in h3 hbi hn at_ hat).mono (fun v w' h => ⟨h.1, hback h.2⟩)
    · rw [show cancF gs number at_ = (17, gs) by simp only [cancF, hga, if_neg hat]]
      have hSt := St.refl w0 NoneS
      refine enter Tryz.func12 rfl Tryz.ntmps12 rfl ?_
      repeat' (first | (refine WL_isCall (f := 42) ?_; refine WL_call (ok_call hT rfl) rfl rfl rfl (find_in (hSt.base hcb (fun e => e)) (hSt.base hmb (fun e => e)) hbi hn) ?_; rintro v w' ⟨rfl, hc2⟩; replace hSt := hSt.call0 hc2; clear hc2) | (refine WL_isCall (f := 41) ?_; refine WL_call (ok_call hT rfl) rfl rfl rfl (valid_any _) ?_; rintro v w' ⟨rfl, hc2⟩; replace hSt := hSt.call0 hc2; clear hc2) | refine stepA ?_ | (refine stepS ?_; clear hSt; intro w hSt; dsimp only [spl, List.set] at hSt) | (refine stepB ?_; clear hSt; intro w nb hnb hSt; dsimp only [zcells, List.nil_append, List.cons_append] at hSt) | (refine W_quiet hT (by decide +kernel) hSt ?_; clear hSt; (repeat' (first | (apply QL_ev rfl rfl; (intro w hSt; (first | exact Ev_auto))) | refine QL_pass rfl rfl ?_ | (refine QL_guardP rfl rfl (fun hc => ?_) (fun hc => ?_) <;> try exact absA) | (refine QL_guard rfl rfl (fun hc => ?_) (fun hc => ?_) <;> (try exact absA) <;> (fail_if_success (change true = true at hc)) <;> (fail_if_success (change false = false at hc))))); all_goals (refine QL_nil (fun w hSt => ?_))) | (refine stepG ?_ ?_ <;> intro hc <;> (try exact absA) <;> (fail_if_success (change true = true at hc)) <;> (fail_if_success (change false = false at hc))) | fail)
      all_goals exact ret1 rfl rfl ⟨rfl, keep hSt⟩
theorem find_nil {w0 : World} (n : Int) : Cl Tryz.prog 42 [.pointer none, I n] w0 (fun v w' => v = .pointer none ∧ St w0 NoneS [] w') := by
  have hSt := St.refl w0 NoneS
  refine enter Tryz.func42 rfl Tryz.ntmps42 rfl ?_
  repeat' (first | refine stepA ?_ | (refine stepS ?_; clear hSt; intro w hSt; dsimp only [spl, List.set] at hSt) | (refine stepB ?_; clear hSt; intro w nb hnb hSt; dsimp only [zcells, List.nil_append, List.cons_append] at hSt) | (refine W_quiet hT (by decide +kernel) hSt ?_; clear hSt; (repeat' (first | (apply QL_ev rfl rfl; (intro w hSt; (first | exact Ev_auto))) | refine QL_pass rfl rfl ?_ | (refine QL_guardP rfl rfl (fun hc => ?_) (fun hc => ?_) <;> try exact absA) | (refine QL_guard rfl rfl (fun hc => ?_) (fun hc => ?_) <;> (try exact absA) <;> (fail_if_success (change true = true at hc)) <;> (fail_if_success (change false = false at hc))))); all_goals (refine QL_nil (fun w hSt => ?_))) | (refine stepG ?_ ?_ <;> intro hc <;> (try exact absA) <;> (fail_if_success (change true = true at hc)) <;> (fail_if_success (change false = false at hc))) | fail)
  exact ret1 rfl rfl ⟨rfl, hSt⟩
theorem cancel_nil {w0 : World} (n at_ : Int) : Cl Tryz.prog 12 [.pointer none, I n, I at_] w0 (fun v w' => v = I 6 ∧ St w0 NoneS [] w') := by
  have hSt := St.refl w0 NoneS
  refine enter Tryz.func12 rfl Tryz.ntmps12 rfl ?_
  repeat' (first | (refine WL_isCall (f := 42) ?_; refine WL_call (ok_call hT rfl) rfl rfl rfl (find_nil _) ?_; rintro v w' ⟨rfl, hc2⟩; replace hSt := hSt.call0 hc2; clear hc2) | refine stepA ?_ | (refine stepS ?_; clear hSt; intro w hSt; dsimp only [spl, List.set] at hSt) | (refine stepB ?_; clear hSt; intro w nb hnb hSt; dsimp only [zcells, List.nil_append, List.cons_append] at hSt) | (refine W_quiet hT (by decide +kernel) hSt ?_; clear hSt; (repeat' (first | (apply QL_ev rfl rfl; (intro w hSt; (first | exact Ev_auto))) | refine QL_pass rfl rfl ?_ | (refine QL_guardP rfl rfl (fun hc => ?_) (fun hc => ?_) <;> try exact absA) | (refine QL_guard rfl rfl (fun hc => ?_) (fun hc => ?_) <;> (try exact absA) <;> (fail_if_success (change true = true at hc)) <;> (fail_if_success (change false = false at hc))))); all_goals (refine QL_nil (fun w hSt => ?_))) | (refine stepG ?_ ?_ <;> intro hc <;> (try exact absA) <;> (fail_if_success (change true = true at hc)) <;> (fail_if_success (change false = false at hc))) | fail)
  exact ret1 rfl rfl ⟨rfl, hSt⟩
theorem state_nil {w0 : World} (n : Int) : Cl Tryz.prog 21 [.pointer none, I n] w0 (fun v w' => v = .tuple ⟨[I 0, I 6]⟩ ∧ St w0 NoneS [] w') := by
  have hSt := St.refl w0 NoneS
  refine enter Tryz.func21 rfl Tryz.ntmps21 rfl ?_
  repeat' (first | (refine WL_isCall (f := 42) ?_; refine WL_call (ok_call hT rfl) rfl rfl rfl (find_nil _) ?_; rintro v w' ⟨rfl, hc2⟩; replace hSt := hSt.call0 hc2; clear hc2) | refine stepA ?_ | (refine stepS ?_; clear hSt; intro w hSt; dsimp only [spl, List.set] at hSt) | (refine stepB ?_; clear hSt; intro w nb hnb hSt; dsimp only [zcells, List.nil_append, List.cons_append] at hSt) | (refine W_quiet hT (by decide +kernel) hSt ?_; clear hSt; (repeat' (first | (apply QL_ev rfl rfl; (intro w hSt; (first | exact Ev_auto))) | refine QL_pass rfl rfl ?_ | (refine QL_guardP rfl rfl (fun hc => ?_) (fun hc => ?_) <;> try exact absA) | (refine QL_guard rfl rfl (fun hc => ?_) (fun hc => ?_) <;> (try exact absA) <;> (fail_if_success (change true = true at hc)) <;> (fail_if_success (change false = false at hc))))); all_goals (refine QL_nil (fun w hSt => ?_))) | (refine stepG ?_ ?_ <;> intro hc <;> (try exact absA) <;> (fail_if_success (change true = true at hc)) <;> (fail_if_success (change false = false at hc))) | fail)
  exact ret2 rfl rfl rfl ⟨rfl, hSt⟩
theorem send_nil {w0 : World} (at_ : Int) (text : List UInt8) : Cl Tryz.prog 11 [.pointer none, I at_, S text] w0 (fun v w' => v = .tuple ⟨[.agg ⟨[I 0, I 0]⟩, I 6]⟩ ∧ St w0 NoneS [] w') := by
  have hSt := St.refl w0 NoneS
  refine enter Tryz.func11 rfl Tryz.ntmps11 rfl ?_
  repeat' (first | refine stepA ?_ | (refine stepS ?_; clear hSt; intro w hSt; dsimp only [spl, List.set] at hSt) | (refine stepB ?_; clear hSt; intro w nb hnb hSt; dsimp only [zcells, List.nil_append, List.cons_append] at hSt) | (refine W_quiet hT (by decide +kernel) hSt ?_; clear hSt; (repeat' (first | (apply QL_ev rfl rfl; (intro w hSt; (first | exact Ev_auto))) | refine QL_pass rfl rfl ?_ | (refine QL_guardP rfl rfl (fun hc => ?_) (fun hc => ?_) <;> try exact absA) | (refine QL_guard rfl rfl (fun hc => ?_) (fun hc => ?_) <;> (try exact absA) <;> (fail_if_success (change true = true at hc)) <;> (fail_if_success (change false = false at hc))))); all_goals (refine QL_nil (fun w hSt => ?_))) | (refine stepG ?_ ?_ <;> intro hc <;> (try exact absA) <;> (fail_if_success (change true = true at hc)) <;> (fail_if_success (change false = false at hc))) | fail)
  exact end_of (resc2 rfl hT rfl rfl rfl (hSt.at 0 rfl) rfl rfl) ⟨rfl, hSt.nil⟩
theorem receive_nil {w0 : World} (kind client number told : Int) (text : List UInt8) : Cl Tryz.prog 17 [.pointer none, .agg ⟨[I kind, I client, I number, I told, S text]⟩] w0 (fun v w' => v = I 6 ∧ St w0 NoneS [] w') := by
  have hSt := St.refl w0 NoneS
  refine enter Tryz.func17 rfl Tryz.ntmps17 rfl ?_
  repeat' (first | refine stepA ?_ | (refine stepS ?_; clear hSt; intro w hSt; dsimp only [spl, List.set] at hSt) | (refine stepB ?_; clear hSt; intro w nb hnb hSt; dsimp only [zcells, List.nil_append, List.cons_append] at hSt) | (refine W_quiet hT (by decide +kernel) hSt ?_; clear hSt; (repeat' (first | (apply QL_ev rfl rfl; (intro w hSt; (first | exact Ev_auto))) | refine QL_pass rfl rfl ?_ | (refine QL_guardP rfl rfl (fun hc => ?_) (fun hc => ?_) <;> try exact absA) | (refine QL_guard rfl rfl (fun hc => ?_) (fun hc => ?_) <;> (try exact absA) <;> (fail_if_success (change true = true at hc)) <;> (fail_if_success (change false = false at hc))))); all_goals (refine QL_nil (fun w hSt => ?_))) | (refine stepG ?_ ?_ <;> intro hc <;> (try exact absA) <;> (fail_if_success (change true = true at hc)) <;> (fail_if_success (change false = false at hc))) | fail)
  exact ret1 rfl rfl ⟨rfl, hSt.nil⟩
end Go.Proofs.YthkimkgphaiagaaGreatDoor
