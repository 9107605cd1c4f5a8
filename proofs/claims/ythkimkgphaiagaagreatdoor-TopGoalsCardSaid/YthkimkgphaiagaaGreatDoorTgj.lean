/- The law TopGoals: the example, and the law. No conditions. -/
import Derived.Test.YthkimkgphaiagaaGreatDoorTgh
import Derived.Test.YthkimkgphaiagaaGreatDoorTgi
import Derived.Test.YthkimkgphaiagaaGreatDoorNB
import Derived.Test.YthkimkgphaiagaaGreatDoorNC
import Derived.Test.YthkimkgphaiagaaGreatDoorNA

namespace Go.Proofs.YthkimkgphaiagaaGreatDoor
open Go.RowKit
set_option maxRecDepth 4000
set_option linter.unusedVariables false
set_option linter.unusedSimpArgs false
set_option maxHeartbeats 16000000

theorem topen_new {w0 : World} (hG : Gb w0) {bm : Nat} {size pol lim : Int} (hb : w0.heap[bm]? = some (newM size).obj) (hn : NoG (· = bm)) (h : 1 ≤ size ∧ size ≤ 262144) (hp : 1 ≤ pol ∧ pol ≤ 3 ∧ 0 ≤ lim ∧ lim ≤ 64) :
    Cl Tryz.prog 7 [I pol, I lim, Ptr bm] w0 (fun v w' => ∃ bs bj H', v = .tuple ⟨[Ptr bs, I 0]⟩ ∧ SW bs bj bm ⟨pol, lim, [], [], -1, 0, false, newM size, ⟨[], 0, false⟩⟩ H' ∧ St w0 (· = bm) H' w') := by
  refine (sopen_any hG hb (newM_ok h) hn pol lim).mono ?_
  rintro v w' (⟨h1, _⟩ | ⟨_, h2⟩)
  · rw [openS_new h hp] at h1; exact absurd rfl h1
  · rw [openS_new h hp] at h2; exact h2
theorem ton_new {pol lim size : Int} (h : 1 ≤ size ∧ size ≤ 262144) : On ⟨pol, lim, [], [], -1, 0, false, newM size, ⟨[], 0, false⟩⟩ [] 0 0 :=
  ⟨⟨newM_ok h, ⟨0, rfl⟩, fun _ => ⟨rfl, rfl, rfl⟩, Nat.le_refl _, by show ((0 : Nat) : Int) ≤ 0; decide, fun x hx => by simp at hx, Nat.le_refl _, Nat.le_refl _⟩, ⟨_, rfl⟩, rfl, fun _ => rfl, GI.nil⟩
theorem tg_new {pol lim size : Int} (h : 1 ≤ size ∧ size ≤ 262144) (nu : Int) : TG ⟨pol, lim, [], [], -1, 0, false, newM size, ⟨[], 0, false⟩⟩ nu [] [] :=
  ⟨inv_new pol lim (newM size) ⟨[], 0, false⟩, ⟨[], 0, (ton_new h).later (by omega)⟩, fun hd => (by cases hd), KL.nil _ _, fun x hx => (by simp at hx)⟩
theorem zero_own {e : TypeId} {z : Nat} : OwnSl (.slice none 0 0) e z ([] : List Value) 0 [] := OwnSl.nil e z
/-- the example's states -/
def AwR (A1 A2 : Sv) (i : Nat) (s : Sv) (gs : List Ce) : Prop := (i = 0 ∧ s = exT ∧ gs = []) ∨ (i = 1 ∧ s = exT ∧ gs = tg1) ∨ (i = 2 ∧ s = A1 ∧ gs = tg2) ∨ (i = 3 ∧ s = A2 ∧ gs = tg2) ∨ (i = 4 ∧ s = A2 ∧ gs = tg4)
theorem AwR.next {A1 A2 : Sv} (h1 : playS 1 110 1 50 exT [] 0 0 0 = some (exT, tg1) ∧ calmP 1 110 1 50 exT [] 0 0 0) (h2 : playS 1 220 1 50 exT tg1 2 0 0 = some (A1, tg2) ∧ calmP 1 220 1 50 exT tg1 2 0 0)
    (h3 : playS 1 330 1 50 A1 tg2 3 0 0 = some (A2, tg2) ∧ calmP 1 330 1 50 A1 tg2 3 0 0) (h4 : playS 1 440 1 50 A2 tg2 2 0 0 = some (A2, tg4) ∧ calmP 1 440 1 50 A2 tg2 2 0 0) {i : Nat} {s : Sv} {gs : List Ce} (h : AwR A1 A2 i s gs) (hi : i < 4) {at_ : Int} (ha : at_ = 110 * (i : Int)) :
    ∃ kd t hs, (([I 0, I 0, I 0, I 2, I 0, I 0, I 3, I 0, I 0, I 2, I 0, I 0] : List Value).drop (0 + (i : Int).toNat * 3)).take 3 = [I kd, I 0, I 0] ∧ playS 1 (at_ + 100 + 10) 1 50 s gs kd 0 0 = some (t, hs) ∧ calmP 1 (at_ + 100 + 10) 1 50 s gs kd 0 0 ∧ AwR A1 A2 (i + 1) t hs := by
  rcases h with ⟨rfl, rfl, rfl⟩ | ⟨rfl, rfl, rfl⟩ | ⟨rfl, rfl, rfl⟩ | ⟨rfl, rfl, rfl⟩ | ⟨rfl, rfl, rfl⟩
  · rw [show at_ + 100 + 10 = 110 by omega]; exact ⟨0, _, _, rfl, h1.1, h1.2, .inr (.inl ⟨rfl, rfl, rfl⟩)⟩
  · rw [show at_ + 100 + 10 = 220 by omega]; exact ⟨2, _, _, rfl, h2.1, h2.2, .inr (.inr (.inl ⟨rfl, rfl, rfl⟩))⟩
  · rw [show at_ + 100 + 10 = 330 by omega]; exact ⟨3, _, _, rfl, h3.1, h3.2, .inr (.inr (.inr (.inl ⟨rfl, rfl, rfl⟩)))⟩
  · rw [show at_ + 100 + 10 = 440 by omega]; exact ⟨2, _, _, rfl, h4.1, h4.2, .inr (.inr (.inr (.inr ⟨rfl, rfl, rfl⟩)))⟩
  · omega
theorem tawake_any {w0 : World} (hG : Gb w0) : Cl Tryz.prog 5 [] w0 (fun v w' => v = B true ∧ St w0 NoneS [] w') := by
  have hSt := St.refl w0 NoneS
  obtain ⟨A1, A2, p1, p2, p3, p4, hout⟩ := aw_run
  refine enter Tryz.func5 rfl Tryz.ntmps5 rfl ?_
  repeat' (first | (refine WL_isCall (f := 6) ?_; refine WL_call (ok_call hT rfl) rfl rfl rfl (new_good 9000 (by decide) (by decide)) ?_; rintro v w2 ⟨bm, rfl, hc2⟩; replace hSt := hSt.newN hc2; clear hc2; rw [List.nil_append] at hSt) | (refine WL_isCall (f := 7) ?_; refine WL_call (ok_call hT rfl) rfl rfl rfl (topen_new (hG.later hSt NoG.none) (hSt.at 0 rfl) ((hG.no hSt NoG.none).atb (i := 0) rfl) (size := 9000) ⟨by decide, by decide⟩ ⟨by decide, by decide, by decide, by decide⟩) ?_; rintro v w2 ⟨bs, bj, HS, rfl, hW, hc2⟩; replace hSt := St.open1 hSt hc2; clear hc2) | (refine WL_isCall (f := 8) ?_; refine WL_call (ok_call hT rfl) rfl rfl rfl (cnew_good (c := 1) (r := 50) (by omega)) ?_; rintro v w2 ⟨ca, ma, rfl, hc2⟩; replace hSt := hSt.newN hc2; clear hc2) | (refine WL_buildSlice hT rfl rfl rfl rfl rfl rfl rfl rfl hSt ?_; clear hSt; intro w nb hnb hSt; replace hSt := hSt.front) | (refine WL_box rfl rfl rfl hSt ?_; clear hSt; intro w nb hnb hSt; replace hSt := hSt.front; dsimp only [zcells] at hSt) | refine stepA ?_ | (refine stepS ?_; clear hSt; intro w hSt; dsimp only [spl, List.set] at hSt) | (refine stepB ?_; clear hSt; intro w nb hnb hSt; dsimp only [zcells, List.nil_append, List.cons_append] at hSt) | (refine stepG ?_ ?_ <;> intro hc <;> (try exact absA) <;> (fail_if_success (change true = true at hc)) <;> (fail_if_success (change false = false at hc))) | fail)
  all_goals try (exfalso; first | omega | (simp at hc; done) | (exact hc rfl))
  rename_i _ ar har _ sg hsg
  replace hSt : St w0 NoneS ((nb, blk [I 0, I 0, I 0, I 2, I 0, I 0, I 3, I 0, I 0, I 2, I 0, I 0] 42) :: (sg, stO ar (Ptr bs) bm 1 0 (.slice none 0 0) false) :: (ar, arO ca ca) :: ([] ++ (HS ++ CH ca ma [] 1 50 []))) w := hSt
  refine W_sub (L' := [(9, I ((0 : Nat) : Int)), (8, .slice (some ⟨nb, 0, none⟩) 4 4), (7, Ptr sg), (3, Ptr bs), (5, Ptr ca)]) (by (repeat (first | exact Sub.nil _ | refine Sub.cons rfl ?_))) ?_
  refine W_loop1 (fun k (i : Nat) w => k = 4 - i ∧ i ≤ 4 ∧ ∃ s gs HS bj bl vt HT told at_, SW bs bj bm s HS ∧ TG s 1 gs told ∧ s.m.down = false ∧ (0 ≤ s.fb ∧ s.fb ≤ (i : Int)) ∧ bl.length = gs.length ∧ gs.length ≤ i ∧ OwnSl vt 62 7 (told.flatMap gC) told.length HT ∧ told.length ≤ 1000000 ∧ at_ = 110 * (i : Int) ∧ AwR A1 A2 i s gs ∧ St w0 NoneS ((nb, blk [I 0, I 0, I 0, I 2, I 0, I 0, I 3, I 0, I 0, I 2, I 0, I 0] 42) :: (sg, stO ar (Ptr bs) bm 1 at_ vt false) :: (ar, arO ca ca) :: (HT ++ (HS ++ CH ca ma bl 1 50 gs))) w) (fun i => [(9, I (i : Int))]) 4 0 rfl (by (repeat (first | exact Str.nil _ | apply Str.drop rfl | apply Str.keepU rfl | apply Str.keep rfl))) ⟨rfl, by omega, exT, [], HS, bj, [], .slice none 0 0, [], [], 0, hW, tg_new ⟨by decide, by decide⟩ 1, rfl, ⟨by decide, by decide⟩, rfl, Nat.le_refl 0, zero_own, Nat.zero_le _, rfl, .inl ⟨rfl, rfl, rfl⟩, hSt⟩ (by (repeat (first | exact Sub.nil _ | refine Sub.cons rfl ?_))) ?_
  clear hSt hW har hsg hnb
  clear HS bj
  rintro k i w ⟨hk, hi, s, gs, HS, bj, bl, vt, HT, told, at_, hW, hTG, hup, hfb, hl, hgl, ho, htl, hat, hR, hSt⟩ K hK
  by_cases hi4 : i < 4
  · obtain ⟨kd, t, hs, hcell, hP, hC, hR2⟩ := hR.next p1 p2 p3 p4 hi4 hat
    have hlt9 : 4 - (i + 1) < k := by omega
    have hst := fun {w : World} (hG : Gb w) hh hn => tstep_any (w0 := w) (sg := sg) (ar := ar) (c0 := ca) (c1 := ca) (cz := ca) (mb := ma) (at_ := at_ + 100) (kd := kd) (pA := 0) (pB := 0) (pol := 1) (retry := 50) hG (.inl ⟨rfl, rfl, by decide⟩) ⟨by decide, by decide⟩ hTG hup ⟨hfb.1, by omega⟩ hW hl (by omega) ⟨by decide, by decide⟩ ⟨by omega, by omega⟩ ho htl (by decide) hh hn
    have hTn := hTG.play hup ⟨by decide, by decide⟩ (by decide) hP
    repeat' (first | (apply WL_ev rfl rfl; exact Ev_loadN hT rfl rfl (hSt.at 0 rfl) hcell rfl) | (refine WL_isCall (f := 9) ?_; refine WL_call (ok_call hT rfl) rfl rfl rfl (hst (hG.later hSt NoG.none) (St.hasE (Ha := [_]) hSt) (NoG.r (Ha := [_]) (hG.no hSt NoG.none))) ?_; rintro v w2 ⟨rfl, h⟩; rcases h with ⟨bs2, bj2, s2, HS2, gs2, bl2, vt2, HT2, hW2, hp2, hq2, hl2, ho2, hc2⟩ | ⟨hp2, hc2⟩; (all_goals (rw [hP] at hp2)); (rotate_left 1; (exact absurd hp2 (by simp))); injection hp2 with hp2; injection hp2 with e1 e2; subst e1 e2; obtain rfl := hq2 hC; replace hSt := St.callE (Ha := [_]) hSt hc2; clear hc2; dsimp only [List.cons_append, List.nil_append] at hSt) | refine stepA ?_ | (refine stepS ?_; clear hSt; intro w hSt; dsimp only [spl, List.set] at hSt) | (refine stepB ?_; clear hSt; intro w nb hnb hSt; dsimp only [zcells, List.nil_append, List.cons_append] at hSt) | (refine stepG ?_ ?_ <;> intro hc <;> (try exact absA) <;> (fail_if_success (change true = true at hc)) <;> (fail_if_success (change false = false at hc))) | fail)
    all_goals try (exfalso; first | omega | (simp at hc; done) | (exact hc rfl))
    all_goals exact At_loop1 hK (k' := 4 - (i + 1)) (i + 1) hlt9 ⟨rfl, by omega, _, _, HS2, bj2, bl2, vt2, HT2, outsS _, _, hW2, hTn.1.tg.note, hTn.2, by have := hTn.1.fb hfb.1; omega, hl2, by have := hTn.1.len; omega, ho2, by unfold outsS; rw [List.length_map]; exact (hTn.1.tg.svk (n := 0) (by omega)).e, by omega, hR2, hSt⟩ (by (repeat (first | exact Sub.nil _ | refine Sub.cons rfl ?_)))
  · obtain rfl : i = 4 := by omega
    obtain ⟨rfl, rfl⟩ : s = A2 ∧ gs = tg4 := by
      rcases hR with ⟨h, _⟩ | ⟨h, _⟩ | ⟨h, _⟩ | ⟨h, _⟩ | ⟨_, h1, h2⟩
      · omega
      · omega
      · omega
      · omega
      · exact ⟨h1, h2⟩
    have hsa := fun {w : World} hh => cstate_any (w0 := w) (cb := ca) (mb := ma) (bs := bl) (num := 1) (retry := 50) (gs := tg4) hh hl 1
    rw [show cAt tg4 1 = some ⟨wGo, wDone_, 4, 0, 490, false, 0⟩ from rfl] at hsa
    dsimp only at hsa
    have hkk := hTG.svk (n := 0) (by omega)
    have hel : ∀ i ∈ s.ends, i < s.l.length := fun i hi => by
      obtain ⟨L, safe, hon⟩ := hTG.on
      exact ((hon.gi.ends i).1 hi).1
    repeat' (first | (refine WL_isCall (f := 21) ?_; refine WL_call (ok_call hT rfl) rfl rfl rfl (hsa (hSt.hR (X := _ :: _ :: _ :: HT))) ?_; rintro v w2 ⟨rfl, hc2⟩; replace hSt := hSt.call0 hc2; clear hc2) | (refine WL_isCall (f := 25) ?_; refine WL_call (ok_call hT rfl) rfl rfl rfl (outcomes_any hW hkk.l hkk.e hel (hSt.hC (X := _ :: _ :: _ :: HT))) ?_; rintro v w2 ⟨HO, hoo, hc2⟩; replace hSt := hSt.newN hc2; clear hc2; rw [hout] at hoo; obtain ⟨oa, oc, rfl⟩ := hoo.len) | refine stepA ?_ | (refine stepS ?_; clear hSt; intro w hSt; dsimp only [spl, List.set] at hSt) | (refine stepB ?_; clear hSt; intro w nb hnb hSt; dsimp only [zcells, List.nil_append, List.cons_append] at hSt) | (refine stepG ?_ ?_ <;> intro hc <;> (try exact absA) <;> (fail_if_success (change true = true at hc)) <;> (fail_if_success (change false = false at hc))) | fail)
    all_goals try (exfalso; first | omega | (simp at hc; done) | (exact hc rfl))
    all_goals exact ret1 rfl rfl ⟨by first | rfl | simp, hSt.nil⟩

/-! ## The law -/
abbrev plC (x : Int × Int × Int) : List Value := [I x.1, I x.2.1, I x.2.2]
section
variable {CA CB HS HT X : List (Nat × Obj)} {a b : Nat × Obj}
theorem perm_ca : List.Perm (CB ++ (a :: b :: (HT ++ (HS ++ CA)))) (a :: b :: (HT ++ (HS ++ (CA ++ CB)))) :=
  List.perm_append_comm.trans (List.Perm.of_eq (by simp only [List.cons_append, List.append_assoc]))
theorem perm_cb : List.Perm (CA ++ (a :: b :: (HT ++ (HS ++ CB)))) (a :: b :: (HT ++ (HS ++ (CA ++ CB)))) :=
  perm_ca.trans (List.Perm.cons a (List.Perm.cons b (List.Perm.append_left HT (List.Perm.append_left HS List.perm_append_comm))))
end
theorem topGoals_any {w0 : World} (hG : Gb w0) (g8 n16 : Int) (hg8 : 0 ≤ g8 ∧ g8 ≤ 255) (hn16 : 0 ≤ n16 ∧ n16 ≤ 65535) {v : Value} {l : List (Int × Int × Int)} (hs : SlAt w0 v 3 (l.map plC)) (hb : ∀ (i : Nat) (x : Int × Int × Int), l[i]? = some x → x.2.1 ≤ 9223372036854775807) (hll : l.length ≤ 9223372036854775807) :
    Cl Tryz.prog 3 [.int .u8 g8, .int .u16 n16, v] w0 (fun v w' => v = B true ∧ St w0 NoneS [] w') := by
  have hSt := St.refl w0 NoneS
  obtain ⟨a, cap, rfl, hcs⟩ := hs.map
  obtain ⟨r3, hr3⟩ : ∃ r, r = g8 % 3 := ⟨_, rfl⟩
  obtain ⟨r4, hr4⟩ : ∃ r, r = n16 % 20000 := ⟨_, rfl⟩
  have hr3b : 0 ≤ r3 ∧ r3 < 3 := by omega
  have hr4b : 0 ≤ r4 ∧ r4 < 20000 := by omega
  refine enter Tryz.func3 rfl Tryz.ntmps3 rfl ?_
  by_cases hbig : 40 < l.length
  · repeat' (first | (refine WL_isCall (f := 5) ?_; refine WL_call (ok_call hT rfl) rfl rfl rfl (tawake_any (hG.later hSt NoG.none)) ?_; rintro v w2 ⟨rfl, hc2⟩; replace hSt := hSt.call0 hc2; clear hc2) | refine stepA ?_ | (refine stepS ?_; clear hSt; intro w hSt; dsimp only [spl, List.set] at hSt) | (refine stepB ?_; clear hSt; intro w nb hnb hSt; dsimp only [zcells, List.nil_append, List.cons_append] at hSt) | (refine stepG ?_ ?_ <;> intro hc <;> (try exact absA) <;> (fail_if_success (change true = true at hc)) <;> (fail_if_success (change false = false at hc))) | fail)
    all_goals try (exfalso; first | omega | (simp at hc; done) | (exact hc rfl))
    all_goals exact ret1 rfl rfl ⟨rfl, hSt⟩
  repeat' (first | (apply WL_ev rfl rfl; exact Ev_as (v2 := I r3) (Ev_remP rfl rfl (by omega) (by omega)) (congrArg (Value.int .i64) hr3.symm)) | (apply WL_ev rfl rfl; exact Ev_as (v2 := I r4) (Ev_remP rfl rfl (by omega) (by omega)) (congrArg (Value.int .i64) hr4.symm)) | (refine WL_isCall (f := 6) ?_; refine WL_call (ok_call hT rfl) rfl rfl rfl (new_good (500 + r4) (by omega) (by omega)) ?_; rintro v w2 ⟨bm, rfl, hc2⟩; replace hSt := hSt.newN hc2; clear hc2; rw [List.nil_append] at hSt) | (refine WL_isCall (f := 7) ?_; refine WL_call (ok_call hT rfl) rfl rfl rfl (topen_new (hG.later hSt NoG.none) (hSt.at 0 rfl) ((hG.no hSt NoG.none).atb (i := 0) rfl) (size := 500 + r4) ⟨by omega, by omega⟩ ⟨by omega, by omega, by decide, by decide⟩) ?_; rintro v w2 ⟨bs, bj, HS, rfl, hW, hc2⟩; replace hSt := St.open1 hSt hc2; clear hc2) | (refine WL_isCall (f := 8) ?_; refine WL_call (ok_call hT rfl) rfl rfl rfl (cnew_good (c := 1) (r := 20) (by omega)) ?_; rintro v w2 ⟨ca, ma, rfl, hc2⟩; replace hSt := hSt.newN hc2; clear hc2) | (refine WL_isCall (f := 8) ?_; refine WL_call (ok_call hT rfl) rfl rfl rfl (cnew_good (c := 2) (r := 30) (by omega)) ?_; rintro v w2 ⟨cb, mb, rfl, hc2⟩; replace hSt := hSt.newN hc2; clear hc2) | (refine WL_buildSlice hT rfl rfl rfl rfl rfl rfl rfl rfl hSt ?_; clear hSt; intro w nb hnb hSt; replace hSt := hSt.front) | (refine WL_box rfl rfl rfl hSt ?_; clear hSt; intro w nb hnb hSt; replace hSt := hSt.front; dsimp only [zcells] at hSt) | refine stepA ?_ | (refine stepS ?_; clear hSt; intro w hSt; dsimp only [spl, List.set] at hSt) | (refine stepB ?_; clear hSt; intro w nb hnb hSt; dsimp only [zcells, List.nil_append, List.cons_append] at hSt) | (refine stepG ?_ ?_ <;> intro hc <;> (try exact absA) <;> (fail_if_success (change true = true at hc)) <;> (fail_if_success (change false = false at hc))) | fail)
  all_goals try (exfalso; first | omega | (simp at hc; done) | (exact hc rfl))
  rename_i _ ar har
  obtain ⟨pol, hpol⟩ : ∃ p, p = 1 + r3 := ⟨_, rfl⟩
  rw [← hpol] at hSt hW ⊢
  have hp13 : 1 ≤ pol ∧ pol ≤ 3 := by omega
  obtain ⟨sg, hsg⟩ : ∃ x, x = nb := ⟨_, rfl⟩
  rw [← hsg] at hSt ⊢
  replace hSt : St w0 NoneS ((sg, stO ar (Ptr bs) bm pol 0 (.slice none 0 0) false) :: (ar, arO ca cb) :: ([] ++ (HS ++ (CH ca ma [] 1 20 [] ++ CH cb mb [] 2 30 [])))) w := by rw [← List.append_assoc HS]; exact hSt
  refine W_sub (L' := [(17, I ((0 : Nat) : Int)), (2, .slice a l.length cap), (16, Ptr sg)]) (by (repeat (first | exact Sub.nil _ | refine Sub.cons rfl ?_))) ?_
  refine W_loop1 (fun k (i : Nat) w => k = l.length - i ∧ i ≤ l.length ∧ ((∃ s ga gb HS bs bj bla blb vt HT told at_, SW bs bj bm s HS ∧ TG s 1 ga told ∧ KL s.l 2 gb ∧ s.m.down = false ∧ (0 ≤ s.fb ∧ s.fb ≤ (i : Int)) ∧ bla.length = ga.length ∧ blb.length = gb.length ∧ (ga.length ≤ i ∧ gb.length ≤ i) ∧ OwnSl vt 62 7 (told.flatMap gC) told.length HT ∧ told.length ≤ 1000000 ∧ at_ = 10 * (i : Int) ∧ St w0 NoneS ((sg, stO ar (Ptr bs) bm pol at_ vt false) :: (ar, arO ca cb) :: (HT ++ (HS ++ (CH ca ma bla 1 20 ga ++ CH cb mb blb 2 30 gb)))) w) ∨ (∃ at_ vt, St w0 NoneS [(sg, stO ar (.pointer none) bm pol at_ vt true)] w))) (fun i => [(17, I (i : Int))]) l.length 0 rfl (by (repeat (first | exact Str.nil _ | apply Str.drop rfl | apply Str.keepU rfl | apply Str.keep rfl))) ⟨rfl, by omega, .inl ⟨_, [], [], HS, bs, bj, [], [], .slice none 0 0, [], [], 0, hW, tg_new ⟨by omega, by omega⟩ 1, KL.nil _ _, rfl, ⟨Int.le_refl 0, Int.le_refl 0⟩, rfl, rfl, ⟨Nat.le_refl 0, Nat.le_refl 0⟩, zero_own, Nat.zero_le _, rfl, hSt⟩⟩ (by (repeat (first | exact Sub.nil _ | refine Sub.cons rfl ?_))) ?_
  clear hSt hW har hsg hnb hpol
  clear HS bj bs
  rintro k i w ⟨hk, hi, hcase⟩ K hK
  rcases hcase with ⟨s, ga, gb, HS, bs, bj, bla, blb, vt, HT, told, at_, hW, hTG, hkl, hup, hfb, hla, hlb, hgl, ho, htl, hat, hSt⟩ | ⟨at_, vt, hSt⟩
  · by_cases hil : i < l.length
    · obtain ⟨⟨kd, pA, pB⟩, hx⟩ : ∃ x, l[i]? = some x := ⟨_, List.getElem?_eq_getElem hil⟩
      have hlt9 : l.length - (i + 1) < k := by omega
      have hAm := hb i _ hx
      obtain ⟨b1, o1, m1, E1, z1, rfl, hb1, hc1, _⟩ := hcs i _ hx
      rw [← Int.toNat_natCast i] at hc1
      dsimp only at hAm
      by_cases hA2 : pA.tmod 2 = 0
      · have hst := fun {w : World} (hG : Gb w) hh hn => tstep_any (w0 := w) (sg := sg) (ar := ar) (c0 := ca) (c1 := cb) (cz := ca) (mb := ma) (at_ := at_) (kd := kd) (pA := pA) (pB := pB) (pol := pol) (retry := 20) hG (.inl ⟨rfl, rfl, hA2⟩) hp13 hTG hup ⟨hfb.1, by omega⟩ hW hla (by omega) ⟨by decide, by decide⟩ ⟨by omega, by omega⟩ ho htl hAm hh hn
        repeat' (first | (apply WL_ev rfl rfl; exact Ev_loadN hT rfl rfl (hSt.base hb1 (fun e => e)) hc1 rfl) | (refine WL_isCall (f := 9) ?_; refine WL_call (ok_call hT rfl) rfl rfl rfl (hst (hG.later hSt NoG.none) (hSt.perm perm_ca).right.has (NoG.r (hG.no (hSt.perm perm_ca) NoG.none))) ?_; rintro v w2 ⟨rfl, h⟩; rcases h with ⟨bs2, bj2, s2, HS2, gs2, bl2, vt2, HT2, hW2, hp2, hq2, hl2, ho2, hc2⟩ | ⟨hp2, hc2⟩; (all_goals first | (have hTn := hTG.play hup hp13 hAm hp2; replace hSt := ((hSt.perm perm_ca).callE hc2).perm perm_ca.symm; clear hc2) | (replace hSt := ((hSt.perm perm_ca).callE hc2).right; clear hc2))) | refine stepA ?_ | (refine stepS ?_; clear hSt; intro w hSt; dsimp only [spl, List.set] at hSt) | (refine stepB ?_; clear hSt; intro w nb hnb hSt; dsimp only [zcells, List.nil_append, List.cons_append] at hSt) | (refine stepG ?_ ?_ <;> intro hc <;> (try exact absA) <;> (fail_if_success (change true = true at hc)) <;> (fail_if_success (change false = false at hc))) | fail)
        all_goals try (exfalso; first | omega | (simp at hc; done) | (exact hc rfl))
        all_goals first
          | exact At_loop1 hK (k' := l.length - (i + 1)) (i + 1) hlt9 ⟨rfl, by omega, .inl ⟨s2, gs2, gb, HS2, bs2, bj2, bl2, blb, vt2, HT2, outsS s2, at_ + 10, hW2, hTn.1.tg.note, hkl.up hTn.1.up, hTn.2, by have := hTn.1.fb hfb.1; omega, hl2, hlb, by have := hTn.1.len; omega, ho2, by unfold outsS; rw [List.length_map]; exact (hTn.1.tg.svk (n := 0) (by omega)).e, by omega, hSt⟩⟩ (by (repeat (first | exact Sub.nil _ | refine Sub.cons rfl ?_)))
          | exact At_loop1 hK (k' := l.length - (i + 1)) (i + 1) hlt9 ⟨rfl, by omega, .inr ⟨_, vt, hSt⟩⟩ (by (repeat (first | exact Sub.nil _ | refine Sub.cons rfl ?_)))
      · have hst := fun {w : World} (hG : Gb w) hh hn => tstep_any (w0 := w) (sg := sg) (ar := ar) (c0 := ca) (c1 := cb) (cz := cb) (mb := mb) (at_ := at_) (kd := kd) (pA := pA) (pB := pB) (pol := pol) (retry := 30) hG (.inr ⟨rfl, rfl, hA2⟩) hp13 (hTG.other hkl) hup ⟨hfb.1, by omega⟩ hW hlb (by omega) ⟨by decide, by decide⟩ ⟨by omega, by omega⟩ ho htl hAm hh hn
        repeat' (first | (apply WL_ev rfl rfl; exact Ev_loadN hT rfl rfl (hSt.base hb1 (fun e => e)) hc1 rfl) | (refine WL_isCall (f := 9) ?_; refine WL_call (ok_call hT rfl) rfl rfl rfl (hst (hG.later hSt NoG.none) (hSt.perm perm_cb).right.has (NoG.r (hG.no (hSt.perm perm_cb) NoG.none))) ?_; rintro v w2 ⟨rfl, h⟩; rcases h with ⟨bs2, bj2, s2, HS2, gs2, bl2, vt2, HT2, hW2, hp2, hq2, hl2, ho2, hc2⟩ | ⟨hp2, hc2⟩; (all_goals first | (have hTn := (hTG.other hkl).play hup hp13 hAm hp2; replace hSt := ((hSt.perm perm_cb).callE hc2).perm perm_cb.symm; clear hc2) | (replace hSt := ((hSt.perm perm_cb).callE hc2).right; clear hc2))) | refine stepA ?_ | (refine stepS ?_; clear hSt; intro w hSt; dsimp only [spl, List.set] at hSt) | (refine stepB ?_; clear hSt; intro w nb hnb hSt; dsimp only [zcells, List.nil_append, List.cons_append] at hSt) | (refine stepG ?_ ?_ <;> intro hc <;> (try exact absA) <;> (fail_if_success (change true = true at hc)) <;> (fail_if_success (change false = false at hc))) | fail)
        all_goals try (exfalso; first | omega | (simp at hc; done) | (exact hc rfl))
        all_goals first
          | exact At_loop1 hK (k' := l.length - (i + 1)) (i + 1) hlt9 ⟨rfl, by omega, .inl ⟨s2, ga, gs2, HS2, bs2, bj2, bla, bl2, vt2, HT2, outsS s2, at_ + 10, hW2, (hTn.1.tg.other (hTG.kl.up hTn.1.up)).note, hTn.1.tg.kl, hTn.2, by have := hTn.1.fb hfb.1; omega, hla, hl2, by have := hTn.1.len; omega, ho2, by unfold outsS; rw [List.length_map]; exact (hTn.1.tg.svk (n := 0) (by omega)).e, by omega, hSt⟩⟩ (by (repeat (first | exact Sub.nil _ | refine Sub.cons rfl ?_)))
          | exact At_loop1 hK (k' := l.length - (i + 1)) (i + 1) hlt9 ⟨rfl, by omega, .inr ⟨_, vt, hSt⟩⟩ (by (repeat (first | exact Sub.nil _ | refine Sub.cons rfl ?_)))
    · repeat' (first | (refine WL_isCall (f := 5) ?_; refine WL_call (ok_call hT rfl) rfl rfl rfl (tawake_any (hG.later hSt NoG.none)) ?_; rintro v w2 ⟨rfl, hc2⟩; replace hSt := hSt.call0 hc2; clear hc2) | refine stepA ?_ | (refine stepS ?_; clear hSt; intro w hSt; dsimp only [spl, List.set] at hSt) | (refine stepB ?_; clear hSt; intro w nb hnb hSt; dsimp only [zcells, List.nil_append, List.cons_append] at hSt) | (refine stepG ?_ ?_ <;> intro hc <;> (try exact absA) <;> (fail_if_success (change true = true at hc)) <;> (fail_if_success (change false = false at hc))) | fail)
      all_goals try (exfalso; first | omega | (simp at hc; done) | (exact hc rfl))
      all_goals exact ret1 rfl rfl ⟨rfl, hSt.nil⟩
  · repeat' (first | (refine WL_isCall (f := 5) ?_; refine WL_call (ok_call hT rfl) rfl rfl rfl (tawake_any (hG.later hSt NoG.none)) ?_; rintro v w2 ⟨rfl, hc2⟩; replace hSt := hSt.call0 hc2; clear hc2) | refine stepA ?_ | (refine stepS ?_; clear hSt; intro w hSt; dsimp only [spl, List.set] at hSt) | (refine stepB ?_; clear hSt; intro w nb hnb hSt; dsimp only [zcells, List.nil_append, List.cons_append] at hSt) | (refine stepG ?_ ?_ <;> intro hc <;> (try exact absA) <;> (fail_if_success (change true = true at hc)) <;> (fail_if_success (change false = false at hc))) | fail)
    all_goals try (exfalso; first | omega | (simp at hc; done) | (exact hc rfl))
    all_goals exact ret1 rfl rfl ⟨rfl, hSt.nil⟩
end Go.Proofs.YthkimkgphaiagaaGreatDoor
