/- The law Plays: whatever is requested, canceled and ended, and whenever the medium crashes, the server does what the specification says. No conditions. -/
import Derived.Test.YtndkifkaejmibaaGreatDoorRvh

namespace Go.Proofs.YtndkifkaejmibaaGreatDoor
open Go.RowKit
set_option maxRecDepth 4000
set_option linter.unusedVariables false
set_option linter.unusedSimpArgs false
set_option maxHeartbeats 16000000

/-- the two servers after i operations -/
def PX (pb bm bv : Nat) (pol lim : Int) (i : Nat) (H : List (Nat × Obj)) : Prop :=
  (∃ m, POff pb bm bv m H ∧ m.Ok ∧ (1 ≤ pol ∧ pol ≤ 3 ∧ 0 ≤ lim ∧ lim ≤ 64 → ∃ L safe p, Off m L safe (300 * i) p)) ∨
  (∃ s, PRun pb bm bv s H ∧ (1 ≤ pol ∧ pol ≤ 3 ∧ 0 ≤ lim ∧ lim ≤ 64) ∧ Inv s ∧ R4 s ∧ (∃ L safe, On s L safe (300 * i)) ∧ 0 ≤ s.fb ∧ s.fb ≤ (i : Int))
theorem openS_bad {pol lim : Int} (h : ¬ (1 ≤ pol ∧ pol ≤ 3 ∧ 0 ≤ lim ∧ lim ≤ 64)) (m : Med) : openS pol lim m = (4, ⟨pol, lim, [], [], -1, 0, false, m, ⟨[], 0, false⟩⟩) := by
  unfold openS; rw [if_pos h]
theorem px_open {pb bm bv i : Nat} {pol lim : Int} {m : Med} {H : List (Nat × Obj)} (hm : m.Ok) (ho : 1 ≤ pol ∧ pol ≤ 3 ∧ 0 ≤ lim ∧ lim ≤ 64 → ∃ L safe p, Off m L safe (300 * i) p) (kp : Int)
    (h : ((openS pol lim (m.crashOp kp).2.recover.2).1 ≠ 0 ∧ POff pb bm bv (openS pol lim (m.crashOp kp).2.recover.2).2.m H) ∨ ((openS pol lim (m.crashOp kp).2.recover.2).1 = 0 ∧ PRun pb bm bv (openS pol lim (m.crashOp kp).2.recover.2).2 H)) : PX pb bm bv pol lim (i + 1) H := by
  have hm1 : (m.crashOp kp).2.Ok := crashOp_ok hm kp
  have hm2 : (m.crashOp kp).2.recover.2.Ok := hm1.recover
  have hm3 : (openS pol lim (m.crashOp kp).2.recover.2).2.m.Ok := openS_mok hm2
  by_cases hg : 1 ≤ pol ∧ pol ≤ 3 ∧ 0 ≤ lim ∧ lim ≤ 64
  · obtain ⟨L, safe, p, hoff⟩ := ho hg
    obtain ⟨h1, h2⟩ := (hoff.crash kp).open hg
    rcases h with ⟨he, hP⟩ | ⟨he, hP⟩
    · obtain ⟨L', safe', p', hoff', _⟩ := h1 he
      exact .inl ⟨_, hP, hm3, fun _ => ⟨L', safe', p', hoff'.later (by omega)⟩⟩
    · obtain ⟨L', safe', hon, _, hI, _⟩ := h2 he
      have hfb := openS_fb pol lim (m.crashOp kp).2.recover.2
      exact .inr ⟨_, hP, hg, hI, openS_r4, ⟨L', safe', hon.later (by omega)⟩, by rw [hfb]; omega, by rw [hfb]; omega⟩
  · rcases h with ⟨he, hP⟩ | ⟨he, hP⟩
    · exact .inl ⟨_, hP, hm3, fun h => absurd h hg⟩
    · rw [openS_bad hg] at he; exact absurd he (by simp)
section
variable {w0 : World} {pb bm bv i : Nat} {H : List (Nat × Obj)} {pol lim kd c d at_ sp kp : Int} {tx : List UInt8}
theorem inh_sub {H1 H2 : List (Nat × Obj)} (h : List.Sublist H1 H2) : ∀ b, InH H1 b → InH H2 b := by
  intro b hb
  obtain ⟨x, hx, rfl⟩ := hb.out
  exact InH_of (h.mem hx)
theorem pstep_any (hG : Gb w0) (hX : PX pb bm bv pol lim i H) (hi : i < 80) (hh : Has w0 H) (hn : NoG (InH H)) (hkd : 0 ≤ kd ∧ kd ≤ 255) (hsp : sp ≤ 9223372036854775807) :
    Cl Tryz.prog 25 [Ptr pb, I pol, I lim, .agg ⟨opC kd c d at_ sp kp tx⟩] w0 (fun v w' => v = B true ∧ ∃ H', PX pb bm bv pol lim (i + 1) H' ∧ St w0 (InH H) H' w') := by
  rcases hX with ⟨m, hP, hm, hoff⟩ | ⟨s, hP, hg, hI, h4, ⟨L, safe, hon⟩, hf0, hfi⟩
  · by_cases h5 : kd % 16 = 5
    · obtain ⟨o, hro, rfl⟩ := hP
      refine (pstep_restart hG hro hm ⟨rfl, rfl⟩ hh hn hkd h5).mono ?_
      rintro v w' ⟨h1, H', h2, h3⟩
      exact ⟨h1, H', px_open hm hoff kp h2, h3⟩
    by_cases h6 : kd % 16 = 6
    · refine (poff_arm hP hm hh hkd h6).mono ?_
      rintro v w' ⟨h1, H', h2, h3⟩
      exact ⟨h1, H', .inl ⟨_, h2, hm.arm kp hsp, fun hg => by obtain ⟨L, safe, p, ho⟩ := hoff hg; exact ⟨L, safe, p, (ho.arm sp kp hsp).later (by omega)⟩⟩, h3⟩
    · refine (poff_other hP hh hkd h5 h6).mono ?_
      rintro v w' ⟨h1, H', h2, h3⟩
      exact ⟨h1, H', .inl ⟨_, h2, hm, fun hg => by obtain ⟨L, safe, p, ho⟩ := hoff hg; exact ⟨L, safe, p, ho.later (by omega)⟩⟩, h3⟩
  · by_cases h5 : kd % 16 = 5
    · obtain ⟨bs, bj, br, bw, H1, H2, hW, hR, rfl⟩ := hP
      obtain ⟨o, hro, hs2⟩ := RW.med hR
      have hsub : List.Sublist [(pb, prO bm bv (Ptr bs) (Ptr br)), (bm, s.m.obj), (bv, o)] ((pb, prO bm bv (Ptr bs) (Ptr br)) :: (H1 ++ H2)) := List.Sublist.cons_cons _ (List.Sublist.append (SW.med hW) hs2)
      refine (pstep_restart hG hro hon.pre.ok ⟨rfl, rfl⟩ (hh.sublist hsub) (hn.mono (inh_sub hsub)) hkd h5).mono ?_
      rintro v w' ⟨h1, H', h2, h3⟩
      exact ⟨h1, H', px_open hon.pre.ok (fun _ => ⟨L, safe, _, hon.off⟩) kp h2, h3.wider (inh_sub hsub)⟩
    by_cases h6 : kd % 16 = 6
    · refine (pstep_arm hP hon.pre.ok hh hkd h6).mono ?_
      rintro v w' ⟨h1, H', h2, h3⟩
      exact ⟨h1, H', .inr ⟨_, h2, hg, hI.like ⟨rfl, rfl, rfl⟩, h4, ⟨L, safe, (hon.arm sp kp hsp).later (by omega)⟩, hf0, by dsimp only; omega⟩, h3⟩
    · refine (pstep_run hG hP (hon.svk (by omega)) h4 hI ⟨by omega, hf0⟩ hh hn hkd h5 h6).mono ?_
      rintro v w' ⟨h1, H', h2, h3⟩
      obtain ⟨⟨L', safe', hon'⟩, _, hI'⟩ := perfS_on hon hI kd c d at_ tx
      have hfb := perfS_fb hf0 kd c d at_ tx
      exact ⟨h1, H', .inr ⟨_, h2, hg, hI', h4.perfS kd c d at_ tx, ⟨L', safe', hon'.later (by omega)⟩, hfb.1, by omega⟩, h3⟩
theorem palike_any (hX : PX pb bm bv pol lim i H) (hi : i ≤ 80) (hh : Has w0 H) (c d : Int) :
    Cl Tryz.prog 26 [Ptr pb, idV c d] w0 (fun v w' => v = B true ∧ ∃ H', PX pb bm bv pol lim i H' ∧ St w0 (InH H) H' w') := by
  rcases hX with ⟨m, hP, hm, hoff⟩ | ⟨s, hP, hg, hI, h4, ⟨L, safe, hon⟩, hf⟩
  · refine (palike_off hP hm hh c d).mono ?_
    rintro v w' ⟨h1, H', h2, h3⟩
    exact ⟨h1, H', .inl ⟨_, h2, hm, hoff⟩, h3⟩
  · refine (palike_run hP (hon.svk (by omega)) hI hh c d).mono ?_
    rintro v w' ⟨h1, H', h2, h3⟩
    exact ⟨h1, H', .inr ⟨_, h2, hg, hI, h4, ⟨L, safe, hon⟩, hf⟩, h3⟩
end
theorem refO_new9 (size : Int) : RefO (refO size [] 0 false false 0 0 0) (newM size) := ⟨false, 0, 0, 0, rfl, rfl, fun h => absurd h (by simp [newM])⟩
theorem sopen_nil {w0 : World} (pol lim : Int) : Cl Tryz.prog 8 [I pol, I lim, .pointer none] w0 (fun v w' => v = .tuple ⟨[.pointer none, I 6]⟩ ∧ St w0 NoneS [] w') := by
  have hSt := St.refl w0 NoneS
  refine enter Tryz.func8 rfl Tryz.ntmps8 rfl ?_
  repeat' (first | refine stepA ?_ | (refine stepS ?_; clear hSt; intro w hSt; dsimp only [spl, List.set] at hSt) | (refine stepB ?_; clear hSt; intro w nb hnb hSt; dsimp only [zcells, List.nil_append, List.cons_append] at hSt) | (refine stepG ?_ ?_ <;> intro hc <;> (try exact absA) <;> (fail_if_success (change true = true at hc)) <;> (fail_if_success (change false = false at hc))) | fail)
  all_goals first | exact ret2 rfl rfl rfl ⟨rfl, hSt⟩ | (exfalso; omega)
theorem perm9 {a b c d : Nat × Obj} : List.Perm [c, a, d, b] [a, b, c, d] := (List.Perm.swap a c [d, b]).trans (List.Perm.cons a (List.perm_append_comm (l₁ := [c, d]) (l₂ := [b])))
theorem cells_sub {L X : List Value} {p a b n : Nat} (h : (L.drop p).take n = X) (hab : a + b ≤ n) : (L.drop (p + a)).take b = (X.drop a).take b := by
  rw [← h, List.drop_take, List.take_take, List.drop_drop, Nat.min_eq_left (by omega)]
theorem plays_any {w0 : World} (hG : Gb w0) (pol lim size : Int) {sv : Value} {ops : List OpR} (hs : SlAt w0 sv 7 (ops.map OpR.cells)) (hlen : ops.length ≤ 9223372036854775807) (hops : ∀ x ∈ ops, (0 ≤ x.kd ∧ x.kd ≤ 255) ∧ x.sp ≤ 9223372036854775807) :
    Cl Tryz.prog 6 [.agg ⟨[I pol, I lim, I size, sv]⟩] w0 (fun v w' => v = B true ∧ St w0 NoneS [] w') := by
  have hSt := St.refl w0 NoneS
  obtain ⟨a, cap, rfl, hcs⟩ := hs.map
  by_cases hsz : ¬ (1 ≤ size ∧ size ≤ 262144)
  · refine enter Tryz.func6 rfl Tryz.ntmps6 rfl ?_
    repeat' (first | (refine WL_box rfl rfl rfl hSt ?_; clear hSt; intro w nb hnb hSt; replace hSt := hSt.front; dsimp only [zcells] at hSt) | (refine WL_alloc hT rfl rfl rfl hSt ?_; clear hSt; intro w nb hnb hSt; replace hSt := hSt.front; dsimp only [zcells] at hSt) | (refine WL_isCall (f := 7) ?_; refine WL_call (ok_call hT rfl) rfl rfl rfl (new_bad size (by omega)) ?_; rintro v w2 ⟨rfl, hc2⟩; replace hSt := hSt.call0 hc2; clear hc2) | (refine WL_isCall (f := 23) ?_; refine WL_call (ok_call hT rfl) rfl rfl rfl (rnew_bad size (by omega)) ?_; rintro v w2 ⟨rfl, hc2⟩; replace hSt := hSt.call0 hc2; clear hc2) | (refine WL_isCall (f := 8) ?_; refine WL_call (ok_call hT rfl) rfl rfl rfl (sopen_nil pol lim) ?_; rintro v w' ⟨rfl, hc2⟩; replace hSt := hSt.call0 hc2; clear hc2) | (refine WL_isCall (f := 9) ?_; refine WL_call (ok_call hT rfl) rfl rfl rfl (awake_any (hG.later hSt NoG.none)) ?_; rintro v w' ⟨rfl, hc2⟩; replace hSt := hSt.call0 hc2; clear hc2) | refine stepA ?_ | (refine stepS ?_; clear hSt; intro w hSt; dsimp only [spl, List.set] at hSt) | (refine stepB ?_; clear hSt; intro w nb hnb hSt; dsimp only [zcells, List.nil_append, List.cons_append] at hSt) | (refine stepG ?_ ?_ <;> intro hc <;> (try exact absA) <;> (fail_if_success (change true = true at hc)) <;> (fail_if_success (change false = false at hc))) | fail)
    all_goals try (exfalso; first | omega | (simp at hc; done) | (exact hc rfl))
    all_goals exact ret1 rfl rfl ⟨rfl, hSt.nil⟩
  replace hsz := Decidable.not_not.1 hsz
  obtain ⟨n, hn⟩ : ∃ n, n = min ops.length 80 := ⟨_, rfl⟩
  have hrow : ∀ (i : Nat) (x : OpR), ops[i]? = some x → ∃ b1 o1 L1 E1 z1, a = some ⟨b1, o1, none⟩ ∧ w0.heap[b1]? = some (.cells ⟨L1⟩ E1 z1) ∧ (L1.drop (o1 + (i : Int).toNat * 7)).take 7 = x.cells := by
    intro i x hx
    obtain ⟨b1, o1, L1, E1, z1, h1, h2, h3, _⟩ := hcs i x hx
    exact ⟨b1, o1, L1, E1, z1, h1, h2, by rw [Int.toNat_natCast]; exact h3⟩
  clear hcs hs
  have hpo := fun {w : World} (hG : Gb w) {pb bm bv : Nat} hh hn => popen_any (w0 := w) (sv := .pointer none) (xv := .pointer none) (pb := pb) (bm := bm) (bv := bv) hG (refO_new9 size) (newM_ok hsz) hh ⟨rfl, rfl⟩ hn pol lim
  have hst : ∀ {pb bm bv : Nat} {H : List (Nat × Obj)}, (((openS pol lim (newM size)).1 ≠ 0 ∧ POff pb bm bv (openS pol lim (newM size)).2.m H) ∨ ((openS pol lim (newM size)).1 = 0 ∧ PRun pb bm bv (openS pol lim (newM size)).2 H)) → PX pb bm bv pol lim 0 H := by
    intro pb bm bv H h
    by_cases hg : 1 ≤ pol ∧ pol ≤ 3 ∧ 0 ≤ lim ∧ lim ≤ 64
    · rw [openS_new hsz hg] at h
      rcases h with ⟨h, _⟩ | ⟨_, h⟩
      · exact absurd rfl h
      · exact .inr ⟨_, h, hg, inv_new pol lim (newM size) ⟨[], 0, false⟩, (fun x hx => by cases hx), ⟨_, _, on_new hsz⟩, Int.le_refl _, Int.le_refl _⟩
    · rw [openS_bad hg] at h
      rcases h with ⟨_, h⟩ | ⟨h, _⟩
      · exact .inl ⟨_, h, newM_ok hsz, fun h => absurd h hg⟩
      · exact absurd h (by simp)
  refine enter Tryz.func6 rfl Tryz.ntmps6 rfl ?_
  repeat' (first | (refine WL_box rfl rfl rfl hSt ?_; clear hSt; intro w nb hnb hSt; replace hSt := hSt.front; dsimp only [zcells] at hSt) | (refine WL_alloc hT rfl rfl rfl hSt ?_; clear hSt; intro w nb hnb hSt; replace hSt := hSt.front; dsimp only [zcells] at hSt) | (refine WL_isCall (f := 7) ?_; refine WL_call (ok_call hT rfl) rfl rfl rfl (new_good size hsz.1 hsz.2) ?_; rintro v w2 ⟨bm, rfl, hc2⟩; replace hSt := hSt.new1 hc2; clear hc2; obtain ⟨xb, rfl⟩ : ∃ xb, xb = nb := ⟨nb, rfl⟩) | (refine WL_isCall (f := 23) ?_; refine WL_call (ok_call hT rfl) rfl rfl rfl (rnew_good size hsz.1 hsz.2) ?_; rintro v w2 ⟨rfl, hc2⟩; replace hSt := hSt.call0 hc2; clear hc2) | (refine WL_isCall (f := 24) ?_; replace hSt := hSt.perm perm9; refine WL_call (ok_call hT rfl) rfl rfl rfl (hpo (hG.later hSt NoG.none) (St.hasE (Ha := [_]) hSt) (NoG.r (Ha := [_]) (hG.no hSt NoG.none))) ?_; rintro v w2 ⟨rfl, H0, hX0, hc2⟩; replace hSt := St.callE (Ha := [_]) hSt hc2; clear hc2) | refine stepA ?_ | (refine stepS ?_; clear hSt; intro w hSt; dsimp only [spl, List.set] at hSt) | (refine stepB ?_; clear hSt; intro w nb hnb hSt; dsimp only [zcells, List.nil_append, List.cons_append] at hSt) | (refine stepG ?_ ?_ <;> intro hc <;> (try exact absA) <;> (fail_if_success (change true = true at hc)) <;> (fail_if_success (change false = false at hc))) | fail)
  all_goals try (exfalso; first | omega | (simp at hc; done) | (exact hc rfl))
  obtain ⟨pb, rfl⟩ : ∃ pb, pb = nb := ⟨nb, rfl⟩
  have hX := hst hX0
  clear hX0 hpo hst
  refine W_sub (L' := [(10, I ((0 : Nat) : Int)), (1, Ptr xb), (9, Ptr pb)]) (by (repeat (first | exact Sub.nil _ | refine Sub.cons rfl ?_))) ?_
  refine W_loop1 (fun k (i : Nat) w => k = n - i ∧ i ≤ n ∧ ∃ H, PX pb bm _ pol lim i H ∧ St w0 NoneS ((xb, blk [I pol, I lim, I size, .slice a ops.length cap] 45) :: H) w) (fun i => [(10, I (i : Int))]) n 0 rfl (by (repeat (first | exact Str.nil _ | apply Str.drop rfl | apply Str.keepU rfl | apply Str.keep rfl))) ⟨rfl, by omega, H0, hX, hSt⟩ (by (repeat (first | exact Sub.nil _ | refine Sub.cons rfl ?_))) ?_
  clear hSt hX
  rintro k i w ⟨hk, hi, H, hX, hSt⟩ K hK
  by_cases hin : i < n
  · obtain ⟨x, hx⟩ : ∃ x, ops[i]? = some x := ⟨_, List.getElem?_eq_getElem (by omega)⟩
    have hlt9 : n - (i + 1) < k := by omega
    have hi80 : i < 80 := by omega
    have hi81 : i + 1 ≤ 80 := by omega
    obtain ⟨b1, o1, L1, E1, z1, rfl, hb1, hcells⟩ := hrow i x hx
    obtain ⟨hkd, hspb⟩ := hops x (List.mem_of_getElem? hx)
    obtain ⟨kd, c, d, at_, sp, kp, tx⟩ := x
    dsimp only at hkd hspb
    have hcid : (L1.drop (o1 + (i : Int).toNat * 7 + 1)).take 2 = [I c, I d] := cells_sub hcells (a := 1) (b := 2) (by decide)
    repeat' (first | (refine W_ownS (Hs := [_]) [(0, false), (1, false), (2, false), (3, false), (4, false), (5, false), (6, false), (7, false), (8, false), (9, false), (10, true), (11, false), (12, false), (13, false), (14, false), (15, false), (16, false), (17, false), (18, false), (19, false), (20, true)] hT (by decide +kernel) rfl hSt ?_; clear hSt; intro w hSt; (repeat' (first | (apply HL_ev rfl rfl (St.left (H0 := [_]) hSt); (intro w hSt; first | exact Ev_loadN hT rfl rfl (hSt.base hb1 (fun e => e)) hcells rfl | exact Ev_loadN hT rfl rfl (hSt.base hb1 (fun e => e)) hcid rfl | (first | exact Ev_auto))) | (refine HL_pass rfl rfl (St.left (H0 := [_]) hSt) ?_) | (refine HL_one ?_; refine WL_isCall (f := 25) ?_; refine WL_call (ok_call hT rfl) rfl rfl rfl (pstep_any (hG.later hSt NoG.none) hX hi80 (St.hasE (Ha := [_]) hSt) (NoG.r (Ha := [_]) (hG.no hSt NoG.none)) hkd hspb) ?_; rintro v w2 ⟨rfl, H2, hX2, hc2⟩; replace hSt := St.callE (Ha := [_]) hSt hc2; clear hc2; refine WL_nil (At_oneH (St.left (H0 := [_]) hSt) ?_)) | (refine HL_one ?_; refine WL_isCall (f := 26) ?_; refine WL_call (ok_call hT rfl) rfl rfl rfl (palike_any hX2 hi81 (St.hasE (Ha := [_]) hSt) c d) ?_; rintro v w2 ⟨rfl, H3, hX3, hc2⟩; replace hSt := St.callE (Ha := [_]) hSt hc2; clear hc2; refine WL_nil (At_oneH (St.left (H0 := [_]) hSt) ?_)) | fail)); refine HL_end ?_; simp only [List.length_cons, List.length_nil, List.drop_succ_cons, List.drop_zero]) | refine stepA ?_ | (refine stepS ?_; clear hSt; intro w hSt; dsimp only [spl, List.set] at hSt) | (refine stepB ?_; clear hSt; intro w nb hnb hSt; dsimp only [zcells, List.nil_append, List.cons_append] at hSt) | (refine stepG ?_ ?_ <;> intro hc <;> (try exact absA) <;> (fail_if_success (change true = true at hc)) <;> (fail_if_success (change false = false at hc))) | fail)
    all_goals try (exfalso; first | omega | (simp at hc; done) | (exact hc rfl))
    all_goals exact At_loop1 hK (k' := n - (i + 1)) (i + 1) hlt9 ⟨rfl, by omega, _, hX3, hSt⟩ (by (repeat (first | exact Sub.nil _ | refine Sub.cons rfl ?_)))
  · obtain rfl : i = n := by omega
    repeat' (first | (refine WL_isCall (f := 9) ?_; refine WL_call (ok_call hT rfl) rfl rfl rfl (awake_any (hG.later hSt NoG.none)) ?_; rintro v w' ⟨rfl, hc2⟩; replace hSt := hSt.call0 hc2; clear hc2) | refine stepA ?_ | (refine stepS ?_; clear hSt; intro w hSt; dsimp only [spl, List.set] at hSt) | (refine stepB ?_; clear hSt; intro w nb hnb hSt; dsimp only [zcells, List.nil_append, List.cons_append] at hSt) | (refine stepG ?_ ?_ <;> intro hc <;> (try exact absA) <;> (fail_if_success (change true = true at hc)) <;> (fail_if_success (change false = false at hc))) | fail)
    all_goals try (exfalso; first | omega | (simp at hc; done) | (exact hc rfl))
    all_goals exact ret1 rfl rfl ⟨rfl, hSt.nil⟩
end Go.Proofs.YtndkifkaejmibaaGreatDoor
