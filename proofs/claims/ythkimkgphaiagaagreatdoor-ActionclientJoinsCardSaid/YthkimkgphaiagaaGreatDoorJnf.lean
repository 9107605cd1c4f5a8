/- The law Joins: a client and a server that are joined agree. No conditions. -/
import Derived.Test.YthkimkgphaiagaaGreatDoorJne
import Derived.Test.YthkimkgphaiagaaGreatDoorSvh
import Derived.Test.YthkimkgphaiagaaGreatDoorMO

namespace Go.Proofs.YthkimkgphaiagaaGreatDoor
open Go.RowKit
set_option maxRecDepth 4000
set_option linter.unusedVariables false
set_option linter.unusedSimpArgs false
set_option maxHeartbeats 16000000

theorem NoG.atb {H : List (Nat × Obj)} (h : NoG (InH H)) {i b : Nat} {o : Obj} (hi : H[i]? = some (b, o)) : NoG (· = b) := h.mono fun c e => e ▸ ⟨i, o, hi⟩
theorem NoG.c {X H1 H2 : List (Nat × Obj)} (h : NoG (InH (X ++ (H1 ++ H2)))) : NoG (InH H1) := h.sub fun x hx => List.mem_append_right _ (List.mem_append_left _ hx)
theorem sopen_new {w0 : World} (hG : Gb w0) {bm : Nat} {size pol lim : Int} (hb : w0.heap[bm]? = some (newM size).obj) (hn : NoG (· = bm)) (h : 1 ≤ size ∧ size ≤ 262144) (hp : 1 ≤ pol ∧ pol ≤ 3 ∧ 0 ≤ lim ∧ lim ≤ 64) :
    Cl Tryz.prog 7 [I pol, I lim, Ptr bm] w0 (fun v w' => ∃ bs bj H', v = .tuple ⟨[Ptr bs, I 0]⟩ ∧ SW bs bj bm ⟨pol, lim, [], [], -1, 0, false, newM size, ⟨[], 0, false⟩⟩ H' ∧ St w0 (· = bm) H' w') := by
  refine (sopen_any hG hb (newM_ok h) hn pol lim).mono ?_
  rintro v w' (⟨h1, _⟩ | ⟨_, h2⟩)
  · rw [openS_new h hp] at h1; exact absurd rfl h1
  · rw [openS_new h hp] at h2; exact h2
section
variable {ms : List Ms} {i : Nat} {m : Ms}
theorem msg_cell (h : ms[i]? = some m) {j : Nat} {c : Value} (hj : (mC m)[j]? = some c) (rs : List Value) : (ms.flatMap mC ++ rs)[0 + (i : Int).toNat * 5 + j]? = some c := by
  rw [Nat.zero_add, Int.toNat_natCast]; exact flat_cell mC_len h rs hj
theorem msg_id (h : ms[i]? = some m) (rs : List Value) : ((ms.flatMap mC ++ rs).drop (0 + (i : Int).toNat * 5 + 1)).take 2 = [I m.2.1, I m.2.2.1] := by
  have hc := flat_take mC_len h rs
  rw [Nat.zero_add, Int.toNat_natCast, ← List.drop_drop]
  have e : (((ms.flatMap mC ++ rs).drop (i * 5)).drop 1).take 2 = ((((ms.flatMap mC ++ rs).drop (i * 5)).take 5).drop 1).take 2 := by
    rw [List.drop_take, List.take_take]; rfl
  rw [e, hc]; rfl
end
theorem copL_fresh : ∀ (gs : List Ce) (k : Int), (∀ g ∈ gs, g.st = 0) → (copL k gs).length = gs.length
  | [], k, _ => rfl
  | g :: gs, k, h => by
    have h1 : g.st = 0 := h g (List.mem_cons_self ..)
    have := copL_fresh gs (k + 1) (fun x hx => h x (List.mem_cons_of_mem _ hx))
    rw [copL, if_pos (by omega), List.length_cons, List.length_cons, this]
theorem sendE_rep {i : Nat} (hi : i < 64) : sendE 0 wGo (List.replicate i (goal0 wGo 0)) = 0 := by
  unfold sendE
  rw [if_neg (by omega), if_neg (by decide), copL_fresh _ _ (fun g hg => by rw [List.eq_of_mem_replicate hg]; rfl), List.length_replicate, if_neg (by omega)]
theorem on_newJ {pol lim : Int} : On ⟨pol, lim, [], [], -1, 0, false, newM 100000, ⟨[], 0, false⟩⟩ [] 0 0 :=
  ⟨⟨newM_ok ⟨by decide, by decide⟩, ⟨0, rfl⟩, fun _ => ⟨rfl, rfl, rfl⟩, Nat.le_refl _, by show ((0 : Nat) : Int) ≤ 0; decide, fun x hx => by simp at hx, Nat.le_refl _, Nat.le_refl _⟩, ⟨_, rfl⟩, rfl, fun _ => rfl, GI.nil⟩
theorem JR.start {N lc : Nat} (hN : N ≤ 12) : JR N lc 0 ⟨3, 5, [], [], -1, 0, false, newM 100000, ⟨[], 0, false⟩⟩ (List.replicate N (goal0 wGo 0)) := by
  refine ⟨⟨inv_new 3 5 (newM 100000) ⟨[], 0, false⟩, ⟨[], 0, (on_newJ).later (by omega)⟩, calm_new ⟨by decide, by decide⟩ ?_, fun g hg => by simp at hg, rfl, by omega, hN⟩, ⟨List.length_replicate, fun i g hg => ?_⟩, fun h => by omega, fun h => by omega⟩
  · show ((240 * (N - 0) + 120 * 0 : Nat) : Int) ≤ 100000
    omega
  · have hm := List.mem_of_getElem? hg
    rw [List.eq_of_mem_replicate hm]
    exact ⟨Knows.new _ _ _ _ _, rfl, by show (0 : Int) ≤ _; omega⟩
theorem joins_any {w0 : World} (hG : Gb w0) (g8 : Int) (hg8 : 0 ≤ g8 ∧ g8 ≤ 255) {v1 v2 : Value} {cs lost : List Int} (hcb : ∀ (i : Nat) (x : Int), cs[i]? = some x → 0 ≤ x ∧ x ≤ 255) (hlb : ∀ (i : Nat) (x : Int), lost[i]? = some x → 0 ≤ x ∧ x ≤ 255)
    (hsc : SlAt w0 v1 1 (cs.map u8c)) (hsl : SlAt w0 v2 1 (lost.map u8c)) (hcl : cs.length ≤ 9223372036854775807) (hll : lost.length ≤ 9223372036854775807) :
    Cl Tryz.prog 4 [.int .u8 g8, v1, v2] w0 (fun v w' => v = B true ∧ St w0 NoneS [] w') := by
  have hSt := St.refl w0 NoneS
  have hsl' := hsl
  obtain ⟨ca, ccap, rfl, hcc⟩ := hsc.map
  obtain ⟨la, lcap, rfl, _⟩ := hsl'.map
  obtain ⟨N, hN⟩ : ∃ N : Nat, g8 % 13 = (N : Int) := ⟨(g8 % 13).toNat, by omega⟩
  have hN12 : N ≤ 12 := by omega
  refine enter Tryz.func4 rfl Tryz.ntmps4 rfl ?_
  by_cases hbig : 20 < cs.length ∨ 200 < lost.length
  · repeat' (first | (apply WL_ev rfl rfl; exact Ev_as (v2 := .int .u8 (N : Int)) (Ev_remP rfl rfl (by omega) (by omega)) (by rw [hN])) | (refine WL_isCall (f := 10) ?_; refine WL_call (ok_call hT rfl) rfl rfl rfl (cawake_any) ?_; rintro v w2 ⟨rfl, hc2⟩; replace hSt := hSt.call0 hc2; clear hc2) | refine stepA ?_ | (refine stepS ?_; clear hSt; intro w hSt; dsimp only [spl, List.set] at hSt) | (refine stepB ?_; clear hSt; intro w nb hnb hSt; dsimp only [zcells, List.nil_append, List.cons_append] at hSt) | (refine stepG ?_ ?_ <;> intro hc <;> (try exact absA) <;> (fail_if_success (change true = true at hc)) <;> (fail_if_success (change false = false at hc))) | fail)
    all_goals try (exfalso; first | omega | (simp at hc; done) | (exact hc rfl))
    all_goals exact ret1 rfl rfl ⟨rfl, hSt⟩
  obtain ⟨lc, hlc⟩ : ∃ lc, lc = cs.length := ⟨_, rfl⟩
  have hlc20 : lc ≤ 20 := by omega
  repeat' (first | (apply WL_ev rfl rfl; exact Ev_as (v2 := .int .u8 (N : Int)) (Ev_remP rfl rfl (by omega) (by omega)) (by rw [hN])) | (refine WL_isCall (f := 6) ?_; refine WL_call (ok_call hT rfl) rfl rfl rfl (new_good 100000 (by decide) (by decide)) ?_; rintro v w2 ⟨bm, rfl, hc2⟩; replace hSt := hSt.newN hc2; clear hc2; rw [List.nil_append] at hSt) | (refine WL_isCall (f := 7) ?_; refine WL_call (ok_call hT rfl) rfl rfl rfl (sopen_new (hG.later hSt NoG.none) (hSt.at 0 rfl) ((hG.no hSt NoG.none).atb (i := 0) rfl) ⟨by decide, by decide⟩ ⟨by decide, by decide, by decide, by decide⟩) ?_; rintro v w2 ⟨bs, bj, H, rfl, hW, hc2⟩; replace hSt := St.open1 hSt hc2; clear hc2) | (refine WL_isCall (f := 8) ?_; refine WL_call (ok_call hT rfl) rfl rfl rfl (cnew_good (c := 5) (r := 100) (by omega)) ?_; rintro v w2 ⟨cb, mb0, rfl, hc2⟩; replace hSt := hSt.newN hc2; clear hc2) | refine stepA ?_ | (refine stepS ?_; clear hSt; intro w hSt; dsimp only [spl, List.set] at hSt) | (refine stepB ?_; clear hSt; intro w nb hnb hSt; dsimp only [zcells, List.nil_append, List.cons_append] at hSt) | (refine stepG ?_ ?_ <;> intro hc <;> (try exact absA) <;> (fail_if_success (change true = true at hc)) <;> (fail_if_success (change false = false at hc))) | fail)
  all_goals try (exfalso; first | omega | (simp at hc; done) | (exact hc rfl))
  have hgs0 : ∀ {r : Nat}, True := fun {_} => trivial
  refine W_sub (L' := [(14, I ((0 : Nat) : Int)), (1, .slice ca cs.length ccap), (2, .slice la lost.length lcap), (7, I (N : Int)), (10, Ptr bs), (12, Ptr cb)]) (by (repeat (first | exact Sub.nil _ | refine Sub.cons rfl ?_))) ?_
  refine W_loop1 (fun k (i : Nat) w => k = N - i ∧ i ≤ N ∧ ∃ mb bl gs, bl.length = gs.length ∧ gs = List.replicate i (goal0 wGo 0) ∧ St w0 NoneS (H ++ CH cb mb bl 5 100 gs) w) (fun i => [(14, I (i : Int))]) N 0 rfl (by (repeat (first | exact Str.nil _ | apply Str.drop rfl | apply Str.keepU rfl | apply Str.keep rfl))) ⟨rfl, by omega, mb0, [], [], rfl, rfl, hSt⟩ (by (repeat (first | exact Sub.nil _ | refine Sub.cons rfl ?_))) ?_
  clear hSt
  rintro k i w ⟨hk, hi, mb, bl, gs, hl, hgs, hSt⟩ K hK
  have hgl : gs.length = i := by rw [hgs, List.length_replicate]
  by_cases hin : i < N
  · have hlt9 : N - (i + 1) < k := by omega
    have hE : sendE 0 wGo gs = 0 := by rw [hgs]; exact sendE_rep (by omega)
    have eV : sendV 5 0 wGo gs = .tuple ⟨[.agg ⟨[I 5, I ((i : Int) + 1)]⟩, I 0]⟩ := by unfold sendV; rw [hE, if_pos rfl, hgl]
    have eG : sendG 0 wGo gs = gs ++ [goal0 wGo 0] := by rw [sendG, if_pos hE]
    repeat' (first | (refine WL_isCall (f := 11) ?_; refine WL_call (ok_call hT rfl) rfl rfl rfl (send_any (St.hasE (Ha := H) hSt) hl (by rw [hgl]; omega) 0 wGo) ?_; rintro v w2 ⟨rfl, bl2, hl2, hc2⟩; replace hSt := St.callE (Ha := H) hSt hc2; clear hc2; rw [eG] at hSt hl2; rw [eV]) | (refine WL_alloc hT rfl rfl rfl hSt ?_; clear hSt; intro w nb hnb hSt; replace hSt := hSt.front; dsimp only [zcells] at hSt) | (apply WL_ev rfl rfl; exact Ev_struct_nyes (ok_eq rfl) rfl rfl rfl) | refine stepA ?_ | (refine stepS ?_; clear hSt; intro w hSt; dsimp only [spl, List.set] at hSt) | (refine stepB ?_; clear hSt; intro w nb hnb hSt; dsimp only [zcells, List.nil_append, List.cons_append] at hSt) | (refine stepG ?_ ?_ <;> intro hc <;> (try exact absA) <;> (fail_if_success (change true = true at hc)) <;> (fail_if_success (change false = false at hc))) | fail)
    all_goals try (exfalso; first | omega | (simp at hc; done) | (exact hc rfl))
    all_goals exact At_loop1 hK (k' := N - (i + 1)) (i + 1) hlt9 ⟨rfl, by omega, mb, bl2, _, hl2, by rw [hgs, List.replicate_succ'], hSt.right (Ha := [_])⟩ (by (repeat (first | exact Sub.nil _ | refine Sub.cons rfl ?_)))
  have hiN : i = N := by omega
  subst hiN
  repeat' (first | refine stepA ?_ | (refine stepS ?_; clear hSt; intro w hSt; dsimp only [spl, List.set] at hSt) | (refine stepB ?_; clear hSt; intro w nb hnb hSt; dsimp only [zcells, List.nil_append, List.cons_append] at hSt) | (refine stepG ?_ ?_ <;> intro hc <;> (try exact absA) <;> (fail_if_success (change true = true at hc)) <;> (fail_if_success (change false = false at hc))) | fail)
  refine W_sub (L' := [(18, I ((0 : Nat) : Int)), (17, I 0), (1, .slice ca cs.length ccap), (2, .slice la lost.length lcap), (7, I (i : Int)), (10, Ptr bs), (12, Ptr cb)]) (by (repeat (first | exact Sub.nil _ | refine Sub.cons rfl ?_))) ?_
  have hR0 : JR i lc 0 ⟨3, 5, [], [], -1, 0, false, newM 100000, ⟨[], 0, false⟩⟩ gs := by rw [hgs]; exact JR.start hN12
  obtain ⟨s0, hs0⟩ : ∃ s0 : Sv, s0 = ⟨3, 5, [], [], -1, 0, false, newM 100000, ⟨[], 0, false⟩⟩ := ⟨_, rfl⟩
  rw [← hs0] at hR0 hW
  refine W_loop2 (fun k (r : Nat) (at_ : Int) w => k = (lc + 20) - r ∧ r ≤ lc + 20 ∧ (0 ≤ at_ ∧ at_ ≤ 48 * (r : Int)) ∧ ∃ s gs H mb bl, JR i lc r s gs ∧ SW bs bj bm s H ∧ bl.length = gs.length ∧ St w0 NoneS (H ++ CH cb mb bl 5 100 gs) w) (fun r at_ => [(18, I (r : Int)), (17, I at_)]) (lc + 20) 0 0 rfl (by (repeat (first | exact Str.nil _ | apply Str.drop rfl | apply Str.keepU rfl | apply Str.keep rfl))) ⟨rfl, by omega, by omega, s0, gs, H, mb, bl, hR0, hW, hl, hSt⟩ (by (repeat (first | exact Sub.nil _ | refine Sub.cons rfl ?_))) ?_
  clear hSt hR0 hW hl hgs hgl hs0 hk hK
  clear gs H mb bl mb0 K k w
  rintro k r at_ w ⟨hk, hr, hat, s, gs, H, mb, bl, hR, hW, hl, hSt⟩ K hK
  have hN12' := hR.js.n12
  by_cases hrn : r < lc + 20
  · have hlt9 : lc + 20 - (r + 1) < k := by omega
    have hnow := hR.js.now
    by_cases hlo : r < lc
    · -- with losses
      have hlov : ((r : Int) < (cs.length : Int)) := by omega
      obtain ⟨x, hx⟩ : ∃ x, cs[((r : Nat) : Int).toNat]? = some x := ⟨_, List.getElem?_eq_getElem (by omega)⟩
      obtain ⟨sb, so, sc, sE, sz, rfl, hbs, _, hcell⟩ := hcc _ x hx
      have hc1 := hcell 0 _ rfl
      have hxx := hcb _ x hx
      have hxm : 0 < (i : Int) → 0 ≤ x % (i : Int) ∧ x % (i : Int) < (i : Int) := fun h => ⟨Int.emod_nonneg _ (by omega), Int.emod_lt_of_pos _ h⟩
      have hl0 := hR.jc.len
      repeat' (first | (refine W_midAtL 25 (fun L' w' => ∃ gs1, JC i (100 * ((r : Int) + 1)) s.l gs1 ∧ bl.length = gs1.length ∧ St w0 NoneS (H ++ CH cb mb bl 5 100 gs1) w' ∧ L' = [(1, .slice (some ⟨sb, so, none⟩) cs.length ccap), (2, .slice la lost.length lcap), (7, I (i : Int)), (10, Ptr bs), (12, Ptr cb), (18, I (r : Int)), (19, I (100 * ((r : Int) + 1))), (17, I at_), (20, B true)]) (fun K2 hK2 => ?_) (fun L' w' hm => ?_); rotate_left 1; (obtain ⟨gs1, hJC, hl1, hSt, rfl⟩ := hm)) | (apply WL_ev rfl rfl; exact Ev_as (v2 := B true) (Ev_lss rfl rfl) (by rw [decide_eq_true hlov])) | (apply WL_ev rfl rfl; exact Ev_load1 hT rfl rfl (hSt.base hbs (fun e => e)) hc1) | (refine WL_isCall (f := 12) ?_; refine WL_call (ok_call hT rfl) rfl rfl rfl (ccancel_any (St.hasE (Ha := H) hSt) hl _ (100 * ((r : Int) + 1))) ?_; rintro v w2 ⟨rfl, hc2⟩; replace hSt := St.callE (Ha := H) hSt hc2; clear hc2) | refine stepA ?_ | (refine stepS ?_; clear hSt; intro w hSt; dsimp only [spl, List.set] at hSt) | (refine stepB ?_; clear hSt; intro w nb hnb hSt; dsimp only [zcells, List.nil_append, List.cons_append] at hSt) | (refine stepG ?_ ?_ <;> intro hc <;> (try exact absA) <;> (fail_if_success (change true = true at hc)) <;> (fail_if_success (change false = false at hc))) | fail)
      rotate_left 1
      · exact At_K hK2 ⟨_, hR.jc.cancel _ _, hl.trans (hl0.trans (hR.jc.cancel _ _).len.symm), hSt, rfl⟩ (by (repeat (first | exact Sub.nil _ | refine Sub.cons rfl ?_)))
      · exact At_K hK2 ⟨gs, hR.jc, hl, hSt, rfl⟩ (by (repeat (first | exact Sub.nil _ | refine Sub.cons rfl ?_)))
      have hgl1 := hJC.len
      obtain ⟨gs0, hgs0⟩ : ∃ gs0, gs0 = pollA 100 (100 * ((r : Int) + 1)) gs1.length gs1 := ⟨_, rfl⟩
      obtain ⟨ms, hms⟩ : ∃ ms, ms = pollL 5 (100 * ((r : Int) + 1)) 1 gs1 := ⟨_, rfl⟩
      have hJP : JC i ((100 * ((r : Int) + 1)) + 100) s.l gs0 := hgs0 ▸ hJC.poll
      refine WL_call (ok_call hT rfl) rfl rfl rfl (poll_any (St.hasE (Ha := H) hSt) hl1 (by omega) (by omega) (100 * ((r : Int) + 1)) (by omega)) ?_
      rintro v w2 ⟨P1, hp, hc2⟩
      replace hSt := St.callE (Ha := H) hSt hc2
      clear hc2
      have hpl := pollC_le (100 * ((r : Int) + 1)) gs1
      rw [(pollL_spec 5 (100 * ((r : Int) + 1)) gs1 1).2, ← hms] at hpl
      rw [(pollL_spec 5 (100 * ((r : Int) + 1)) gs1 1).2, (pollL_spec 5 (100 * ((r : Int) + 1)) gs1 1).1, ← hms] at hp
      rw [← hgs0] at hSt
      replace hSt : St w0 NoneS (P1 ++ (H ++ CH cb mb bl 5 100 gs0)) w2 := hSt.perm (List.perm_append_comm.trans (by rw [List.append_assoc]))
      have hlP : bl.length = gs0.length := hl1.trans (hgl1.trans hJP.len.symm)
      obtain ⟨pa, pc, rfl⟩ := hp.len
      repeat' (first | (refine W_midAtL 39 (fun L' w' => ∃ at2 s1 gs2 H2, (at_ ≤ at2 ∧ at2 ≤ at_ + 48) ∧ JM i (100 * ((r : Int) + 1)) ms s gs0 false ms.length s1 gs2 ∧ SW bs bj bm s1 H2 ∧ bl.length = gs2.length ∧ St w0 NoneS (H2 ++ CH cb mb bl 5 100 gs2) w' ∧ L' = [(1, .slice (some ⟨sb, so, none⟩) cs.length ccap), (2, .slice la lost.length lcap), (7, I (i : Int)), (10, Ptr bs), (12, Ptr cb), (18, I (r : Int)), (19, I (100 * ((r : Int) + 1))), (17, I at2), (20, B true)]) (fun K2 hK2 => ?_) (fun L' w' hm => ?_); rotate_left 1; (obtain ⟨at2, s1, gs2, H2, hat2, hM, hW2, hl2, hSt, rfl⟩ := hm)) | (refine WL_isCall (f := 19) ?_; refine WL_call (ok_call hT rfl) rfl rfl rfl (progress_any (hG.later hSt NoG.none) hM.js hW2 (hSt.hC (X := [])) (NoG.c (X := []) (hG.no hSt NoG.none))) ?_; rintro v w2 ⟨rfl, t, H3, ht, hW3, hc2⟩; replace hSt := hSt.cC (X := []) hc2; clear hc2) | refine stepA ?_ | (refine stepS ?_; clear hSt; intro w hSt; dsimp only [spl, List.set] at hSt) | (refine stepB ?_; clear hSt; intro w nb hnb hSt; dsimp only [zcells, List.nil_append, List.cons_append] at hSt) | (refine stepG ?_ ?_ <;> intro hc <;> (try exact absA) <;> (fail_if_success (change true = true at hc)) <;> (fail_if_success (change false = false at hc))) | fail)
      all_goals try (exfalso; first | omega | (simp at hc; done) | (exact hc rfl))
      all_goals try first | exact At_loop2 hK (k' := lc + 20 - (r + 1)) (r + 1) at2 hlt9 ⟨rfl, by omega, by omega, t, gs2, H3, mb, bl, hR.lossy hlo hlc20 hM (ht.elim (fun h => .inl h.1) (fun h => .inr ⟨h.1, h.2.1⟩)), hW3, hl2, hSt⟩ (by (repeat (first | exact Sub.nil _ | refine Sub.cons rfl ?_))) | exact At_loop2 hK (k' := lc + 20 - (r + 1)) (r + 1) at2 hlt9 ⟨rfl, by omega, by omega, s1, gs2, H2, mb, bl, hR.lossy hlo hlc20 hM (.inl rfl), hW2, hl2, hSt⟩ (by (repeat (first | exact Sub.nil _ | refine Sub.cons rfl ?_)))
      refine W_sub (L' := [(22, I ((0 : Nat) : Int)), (17, I at_), (1, .slice (some ⟨sb, so, none⟩) cs.length ccap), (2, .slice la lost.length lcap), (7, I (i : Int)), (10, Ptr bs), (12, Ptr cb), (18, I (r : Int)), (19, I (100 * ((r : Int) + 1))), (20, B true), (21, .slice pa ms.length pc)]) (by (repeat (first | exact Sub.nil _ | refine Sub.cons rfl ?_))) ?_
      refine W_loop2 (fun k (q : Nat) (at1 : Int) w => k = ms.length - q ∧ q ≤ ms.length ∧ (at_ ≤ at1 ∧ at1 ≤ at_ + 2 * (q : Int)) ∧ ∃ s1 gs2 H1, JM i (100 * ((r : Int) + 1)) ms s gs0 false q s1 gs2 ∧ SW bs bj bm s1 H1 ∧ bl.length = gs2.length ∧ St w0 NoneS (P1 ++ (H1 ++ CH cb mb bl 5 100 gs2)) w) (fun q at1 => [(22, I (q : Int)), (17, I at1)]) ms.length 0 at_ rfl (by (repeat (first | exact Str.nil _ | apply Str.drop rfl | apply Str.keepU rfl | apply Str.keep rfl))) ⟨rfl, by omega, by omega, s, gs0, H, JM.start hR.js hJP false, hW, hlP, hSt⟩ (by (repeat (first | exact Sub.nil _ | refine Sub.cons rfl ?_))) ?_
      clear hSt
      rintro k1 q at1 w3 ⟨hk1, hq, hat1, s1, gs2, H1, hM, hW1, hl2, hSt⟩ K3 hK3
      by_cases hqn : q < ms.length
      · obtain ⟨m, hmq⟩ : ∃ m, ms[q]? = some m := ⟨_, List.getElem?_eq_getElem hqn⟩
        obtain ⟨b1, cap1, rs, e1, _, _, rfl⟩ := hp.some_ (by omega)
        injection e1 with e1 _ e2
        subst e1 e2
        have hmem := List.mem_of_getElem? hmq
        rw [hms] at hmem
        obtain ⟨j, g, hgj, _, hmm⟩ := pollL_mem hmem
        clear hmem
        have hkn := hJC.kn j g hgj
        have hjl := (List.getElem?_eq_some_iff.1 hgj).1
        obtain ⟨n, hnj⟩ : ∃ n : Int, n = 1 + (j : Int) := ⟨_, rfl⟩
        rw [← hnj, hkn.2.1] at hmm
        have hn : 1 ≤ n ∧ n ≤ (i : Int) := by omega
        have hlt8 : ms.length - (q + 1) < k1 := by omega
        clear hkn hgj
        rcases hmm with rfl | rfl
        · obtain ⟨s2, hs2⟩ : ∃ s2, s2 = (requestS s1 5 n (100 * ((r : Int) + 1)) wGo).2.2 := ⟨_, rfl⟩
          obtain ⟨e0, hq2, _, ⟨kk, hkk, hf⟩, _⟩ := hM.js.request hn
          have hrq := fun {w : World} (hG : Gb w) hh hn => request_any (n := 0) (w0 := w) hG hW1 (hM.js.svk (by omega)) hM.js.inv hh hn 5 n (100 * ((r : Int) + 1)) wGo
          rw [e0] at hrq
          obtain ⟨e9, hJa⟩ := hM.answer hn hmq hf
          have hst := hq2.st hkk
          have hl9 := hq2.len
          rw [← hs2] at hrq e9 hJa hst hf hl9
          replace hl9 : s2.l.length ≤ 64 := by omega
          generalize (requestS s1 5 n (100 * ((r : Int) + 1)) wGo).1 = yes at hrq
          have hJs := hM.silent hn
          rw [← hs2] at hJs
          obtain ⟨rv, hrv⟩ : ∃ rv, rv = recvF 5 gs2 (repK (gAt s2.l kk).st) 5 n 0 (repT (gAt s2.l kk)) := ⟨_, rfl⟩
          have hrc := fun {w : World} hh => receive_any (w0 := w) (cb := cb) (mb := mb) (bs := bl) (num := 5) (retry := 100) (gs := gs2) hh hl2 (repK (gAt s2.l kk).st) 5 n 0 (repT (gAt s2.l kk))
          rw [← hrv] at e9 hJa hrc
          rw [e9] at hrc
          have hl3 : bl.length = rv.2.length := hl2.trans (hM.jc.len.trans hJa.jc.len.symm)
          repeat' (first | (refine WL_isCall (f := 14) ?_; refine WL_call (ok_call hT rfl) rfl rfl rfl (bit_any hlb (hsl.later hSt (fun _ e => e)) _ (by omega)) ?_; rintro v w2 ⟨b, rfl, hc2⟩; replace hSt := hSt.call0 hc2; clear hc2) | (apply WL_ev rfl rfl; exact Ev_load1 hT rfl rfl (hSt.at 0 rfl) (msg_cell hmq (j := 0) (c := I 1) rfl rs)) | (refine W_ownS (Hs := [_]) [(0, false), (1, false), (2, false), (3, false), (4, false), (5, false), (6, false), (7, false), (8, false), (9, false), (10, false), (11, false), (12, true), (13, false), (14, false), (15, false), (16, false)] hT (by decide +kernel) rfl hSt ?_; clear hSt; intro w hSt; (repeat' (first | (apply HL_ev rfl rfl (St.left (H0 := [_]) hSt); (intro w hSt; first | exact Ev_load1 hT rfl rfl (hSt.at 0 rfl) (msg_cell hmq (j := 4) (c := S wGo) rfl rs) | exact Ev_loadN hT rfl rfl (hSt.at 0 rfl) (msg_id hmq rs) rfl | (first | exact Ev_auto))) | (refine HL_pass rfl rfl (St.left (H0 := [_]) hSt) ?_) | (refine HL_one ?_; refine WL_isCall (f := 16) ?_; refine WL_call (ok_call hT rfl) rfl rfl rfl (hrq (hG.later hSt NoG.none) (hSt.hC (X := [_])) (NoG.c (X := [_]) (hG.no hSt NoG.none))) ?_; rintro v w2 ⟨rfl, H2, hW2, hc2⟩; replace hSt := hSt.cC (X := [_]) hc2; clear hc2; dsimp only [List.cons_append, List.nil_append] at hSt; refine WL_nil (At_oneH (St.left (H0 := [_]) hSt) ?_)) | fail)); refine HL_end ?_; simp only [List.length_cons, List.length_nil, List.drop_succ_cons, List.drop_zero]) | (apply WL_ev rfl rfl; exact Ev_loadN hT rfl rfl (hSt.at 0 rfl) (msg_id hmq rs) rfl) | (refine WL_isCall (f := 18) ?_; refine WL_call (ok_call hT rfl) rfl rfl rfl (reply_any hW2 hl9 (hSt.hC (X := [_])) hf hst) ?_; rintro v w2 ⟨rfl, hc2⟩; replace hSt := hSt.call0 hc2; clear hc2) | (refine WL_isCall (f := 17) ?_; refine WL_call (ok_call hT rfl) rfl rfl rfl (hrc (hSt.hR (X := [_]))) ?_; rintro v w2 ⟨rfl, hc2⟩; replace hSt := hSt.cR (X := [_]) hc2; clear hc2) | refine stepA ?_ | (refine stepS ?_; clear hSt; intro w hSt; dsimp only [spl, List.set] at hSt) | (refine stepB ?_; clear hSt; intro w nb hnb hSt; dsimp only [zcells, List.nil_append, List.cons_append] at hSt) | (refine stepG ?_ ?_ <;> intro hc <;> (try exact absA) <;> (fail_if_success (change true = true at hc)) <;> (fail_if_success (change false = false at hc))) | fail)
          all_goals try (exfalso; first | omega | (simp at hc; done) | (exact hc rfl))
          all_goals first | exact At_loop2 hK3 (k' := ms.length - (q + 1)) (q + 1) (at1 + 2) hlt8 ⟨rfl, by omega, by omega, s2, rv.2, H2, hJa, hW2, hl3, hSt⟩ (by (repeat (first | exact Sub.nil _ | refine Sub.cons rfl ?_))) | exact At_loop2 hK3 (k' := ms.length - (q + 1)) (q + 1) (at1 + 2) hlt8 ⟨rfl, by omega, by omega, s1, gs2, H1, hM.lost, hW1, hl2, hSt⟩ (by (repeat (first | exact Sub.nil _ | refine Sub.cons rfl ?_))) | exact At_loop2 hK3 (k' := ms.length - (q + 1)) (q + 1) (at1 + 2) hlt8 ⟨rfl, by omega, by omega, s2, gs2, H2, hJs, hW2, hl2, hSt⟩ (by (repeat (first | exact Sub.nil _ | refine Sub.cons rfl ?_)))
        · repeat' (first | (refine WL_isCall (f := 14) ?_; refine WL_call (ok_call hT rfl) rfl rfl rfl (bit_any hlb (hsl.later hSt (fun _ e => e)) _ (by omega)) ?_; rintro v w2 ⟨b, rfl, hc2⟩; replace hSt := hSt.call0 hc2; clear hc2) | (apply WL_ev rfl rfl; exact Ev_load1 hT rfl rfl (hSt.at 0 rfl) (msg_cell hmq (j := 0) (c := I 2) rfl rs)) | (apply WL_ev rfl rfl; exact Ev_loadN hT rfl rfl (hSt.at 0 rfl) (msg_id hmq rs) rfl) | (refine WL_isCall (f := 15) ?_; refine WL_call (ok_call hT rfl) rfl rfl rfl (cancel_any (n := 0) (hG.later hSt NoG.none) hW1 (hM.js.svk (by omega)) (hSt.hC (X := [_])) (NoG.c (X := [_]) (hG.no hSt NoG.none)) 5 n (100 * ((r : Int) + 1))) ?_; rintro v w2 ⟨rfl, H2, hW2, hc2⟩; replace hSt := hSt.cC (X := [_]) hc2; clear hc2) | refine stepA ?_ | (refine stepS ?_; clear hSt; intro w hSt; dsimp only [spl, List.set] at hSt) | (refine stepB ?_; clear hSt; intro w nb hnb hSt; dsimp only [zcells, List.nil_append, List.cons_append] at hSt) | (refine stepG ?_ ?_ <;> intro hc <;> (try exact absA) <;> (fail_if_success (change true = true at hc)) <;> (fail_if_success (change false = false at hc))) | fail)
          all_goals try (exfalso; first | omega | (simp at hc; done) | (exact hc rfl))
          all_goals first | exact At_loop2 hK3 (k' := ms.length - (q + 1)) (q + 1) (at1 + 2) hlt8 ⟨rfl, by omega, by omega, _, gs2, H2, (hM.cancel hmq), hW2, hl2, hSt⟩ (by (repeat (first | exact Sub.nil _ | refine Sub.cons rfl ?_))) | exact At_loop2 hK3 (k' := ms.length - (q + 1)) (q + 1) (at1 + 2) hlt8 ⟨rfl, by omega, by omega, s1, gs2, H1, hM.lost, hW1, hl2, hSt⟩ (by (repeat (first | exact Sub.nil _ | refine Sub.cons rfl ?_)))
      · obtain rfl : q = ms.length := by omega
        repeat' (first | refine stepA ?_ | (refine stepS ?_; clear hSt; intro w hSt; dsimp only [spl, List.set] at hSt) | (refine stepB ?_; clear hSt; intro w nb hnb hSt; dsimp only [zcells, List.nil_append, List.cons_append] at hSt) | (refine stepG ?_ ?_ <;> intro hc <;> (try exact absA) <;> (fail_if_success (change true = true at hc)) <;> (fail_if_success (change false = false at hc))) | fail)
        exact At_K hK2 ⟨at1, s1, gs2, H1, by omega, hM, hW1, hl2, hSt.right (Ha := P1), rfl⟩ (by (repeat (first | exact Sub.nil _ | refine Sub.cons rfl ?_)))
    · -- without losses
      have hlov : ¬ ((r : Int) < (cs.length : Int)) := by omega
      have hl0 := hR.jc.len
      repeat' (first | (refine W_midAtL 25 (fun L' w' => ∃ gs1, gs1 = gs ∧ JC i (100 * ((r : Int) + 1)) s.l gs1 ∧ bl.length = gs1.length ∧ St w0 NoneS (H ++ CH cb mb bl 5 100 gs1) w' ∧ L' = [(1, .slice ca cs.length ccap), (2, .slice la lost.length lcap), (7, I (i : Int)), (10, Ptr bs), (12, Ptr cb), (18, I (r : Int)), (19, I (100 * ((r : Int) + 1))), (17, I at_), (20, B false)]) (fun K2 hK2 => ?_) (fun L' w' hm => ?_); rotate_left 1; (obtain ⟨gs1, hgs1, hJC, hl1, hSt, rfl⟩ := hm)) | (apply WL_ev rfl rfl; exact Ev_as (v2 := B false) (Ev_lss rfl rfl) (by rw [decide_eq_false hlov])) | refine stepA ?_ | (refine stepS ?_; clear hSt; intro w hSt; dsimp only [spl, List.set] at hSt) | (refine stepB ?_; clear hSt; intro w nb hnb hSt; dsimp only [zcells, List.nil_append, List.cons_append] at hSt) | (refine stepG ?_ ?_ <;> intro hc <;> (try exact absA) <;> (fail_if_success (change true = true at hc)) <;> (fail_if_success (change false = false at hc))) | fail)
      rotate_left 1
      · exact At_K hK2 ⟨gs, rfl, hR.jc, hl, hSt, rfl⟩ (by (repeat (first | exact Sub.nil _ | refine Sub.cons rfl ?_)))
      have hgl1 := hJC.len
      obtain ⟨gs0, hgs0⟩ : ∃ gs0, gs0 = pollA 100 (100 * ((r : Int) + 1)) gs1.length gs1 := ⟨_, rfl⟩
      obtain ⟨ms, hms⟩ : ∃ ms, ms = pollL 5 (100 * ((r : Int) + 1)) 1 gs1 := ⟨_, rfl⟩
      have hJP : JC i ((100 * ((r : Int) + 1)) + 100) s.l gs0 := hgs0 ▸ hJC.poll
      refine WL_call (ok_call hT rfl) rfl rfl rfl (poll_any (St.hasE (Ha := H) hSt) hl1 (by omega) (by omega) (100 * ((r : Int) + 1)) (by omega)) ?_
      rintro v w2 ⟨P1, hp, hc2⟩
      replace hSt := St.callE (Ha := H) hSt hc2
      clear hc2
      have hpl := pollC_le (100 * ((r : Int) + 1)) gs1
      rw [(pollL_spec 5 (100 * ((r : Int) + 1)) gs1 1).2, ← hms] at hpl
      rw [(pollL_spec 5 (100 * ((r : Int) + 1)) gs1 1).2, (pollL_spec 5 (100 * ((r : Int) + 1)) gs1 1).1, ← hms] at hp
      rw [← hgs0] at hSt
      replace hSt : St w0 NoneS (P1 ++ (H ++ CH cb mb bl 5 100 gs0)) w2 := hSt.perm (List.perm_append_comm.trans (by rw [List.append_assoc]))
      have hlP : bl.length = gs0.length := hl1.trans (hgl1.trans hJP.len.symm)
      obtain ⟨pa, pc, rfl⟩ := hp.len
      repeat' (first | (refine W_midAtL 39 (fun L' w' => ∃ at2 s1 gs2 H2, (at_ ≤ at2 ∧ at2 ≤ at_ + 48) ∧ JM i (100 * ((r : Int) + 1)) ms s gs0 true ms.length s1 gs2 ∧ SW bs bj bm s1 H2 ∧ bl.length = gs2.length ∧ St w0 NoneS (H2 ++ CH cb mb bl 5 100 gs2) w' ∧ L' = [(1, .slice ca cs.length ccap), (2, .slice la lost.length lcap), (7, I (i : Int)), (10, Ptr bs), (12, Ptr cb), (18, I (r : Int)), (19, I (100 * ((r : Int) + 1))), (17, I at2), (20, B false)]) (fun K2 hK2 => ?_) (fun L' w' hm => ?_); rotate_left 1; (obtain ⟨at2, s1, gs2, H2, hat2, hM, hW2, hl2, hSt, rfl⟩ := hm)) | (refine WL_isCall (f := 19) ?_; refine WL_call (ok_call hT rfl) rfl rfl rfl (progress_any (hG.later hSt NoG.none) hM.js hW2 (hSt.hC (X := [])) (NoG.c (X := []) (hG.no hSt NoG.none))) ?_; rintro v w2 ⟨rfl, t, H3, ht, hW3, hc2⟩; replace hSt := hSt.cC (X := []) hc2; clear hc2) | refine stepA ?_ | (refine stepS ?_; clear hSt; intro w hSt; dsimp only [spl, List.set] at hSt) | (refine stepB ?_; clear hSt; intro w nb hnb hSt; dsimp only [zcells, List.nil_append, List.cons_append] at hSt) | (refine stepG ?_ ?_ <;> intro hc <;> (try exact absA) <;> (fail_if_success (change true = true at hc)) <;> (fail_if_success (change false = false at hc))) | fail)
      all_goals try (exfalso; first | omega | (simp at hc; done) | (exact hc rfl))
      all_goals try first | exact At_loop2 hK (k' := lc + 20 - (r + 1)) (r + 1) at2 hlt9 ⟨rfl, by omega, by omega, t, gs2, H3, mb, bl, hR.clear (by omega) hlc20 hrn (by rw [hms, hgs0, hgs1] at hM; exact hM) ht, hW3, hl2, hSt⟩ (by (repeat (first | exact Sub.nil _ | refine Sub.cons rfl ?_)))
      refine W_sub (L' := [(22, I ((0 : Nat) : Int)), (17, I at_), (1, .slice ca cs.length ccap), (2, .slice la lost.length lcap), (7, I (i : Int)), (10, Ptr bs), (12, Ptr cb), (18, I (r : Int)), (19, I (100 * ((r : Int) + 1))), (20, B false), (21, .slice pa ms.length pc)]) (by (repeat (first | exact Sub.nil _ | refine Sub.cons rfl ?_))) ?_
      refine W_loop2 (fun k (q : Nat) (at1 : Int) w => k = ms.length - q ∧ q ≤ ms.length ∧ (at_ ≤ at1 ∧ at1 ≤ at_ + 2 * (q : Int)) ∧ ∃ s1 gs2 H1, JM i (100 * ((r : Int) + 1)) ms s gs0 true q s1 gs2 ∧ SW bs bj bm s1 H1 ∧ bl.length = gs2.length ∧ St w0 NoneS (P1 ++ (H1 ++ CH cb mb bl 5 100 gs2)) w) (fun q at1 => [(22, I (q : Int)), (17, I at1)]) ms.length 0 at_ rfl (by (repeat (first | exact Str.nil _ | apply Str.drop rfl | apply Str.keepU rfl | apply Str.keep rfl))) ⟨rfl, by omega, by omega, s, gs0, H, JM.start hR.js hJP true, hW, hlP, hSt⟩ (by (repeat (first | exact Sub.nil _ | refine Sub.cons rfl ?_))) ?_
      clear hSt
      rintro k1 q at1 w3 ⟨hk1, hq, hat1, s1, gs2, H1, hM, hW1, hl2, hSt⟩ K3 hK3
      by_cases hqn : q < ms.length
      · obtain ⟨m, hmq⟩ : ∃ m, ms[q]? = some m := ⟨_, List.getElem?_eq_getElem hqn⟩
        obtain ⟨b1, cap1, rs, e1, _, _, rfl⟩ := hp.some_ (by omega)
        injection e1 with e1 _ e2
        subst e1 e2
        have hmem := List.mem_of_getElem? hmq
        rw [hms] at hmem
        obtain ⟨j, g, hgj, _, hmm⟩ := pollL_mem hmem
        clear hmem
        have hkn := hJC.kn j g hgj
        have hjl := (List.getElem?_eq_some_iff.1 hgj).1
        obtain ⟨n, hnj⟩ : ∃ n : Int, n = 1 + (j : Int) := ⟨_, rfl⟩
        rw [← hnj, hkn.2.1] at hmm
        have hn : 1 ≤ n ∧ n ≤ (i : Int) := by omega
        have hlt8 : ms.length - (q + 1) < k1 := by omega
        clear hkn hgj
        rcases hmm with rfl | rfl
        · obtain ⟨s2, hs2⟩ : ∃ s2, s2 = (requestS s1 5 n (100 * ((r : Int) + 1)) wGo).2.2 := ⟨_, rfl⟩
          obtain ⟨e0, hq2, _, ⟨kk, hkk, hf⟩, _⟩ := hM.js.request hn
          have hrq := fun {w : World} (hG : Gb w) hh hn => request_any (n := 0) (w0 := w) hG hW1 (hM.js.svk (by omega)) hM.js.inv hh hn 5 n (100 * ((r : Int) + 1)) wGo
          rw [e0] at hrq
          obtain ⟨e9, hJa⟩ := hM.answer hn hmq hf
          have hst := hq2.st hkk
          have hl9 := hq2.len
          rw [← hs2] at hrq e9 hJa hst hf hl9
          replace hl9 : s2.l.length ≤ 64 := by omega
          generalize (requestS s1 5 n (100 * ((r : Int) + 1)) wGo).1 = yes at hrq
          obtain ⟨rv, hrv⟩ : ∃ rv, rv = recvF 5 gs2 (repK (gAt s2.l kk).st) 5 n 0 (repT (gAt s2.l kk)) := ⟨_, rfl⟩
          have hrc := fun {w : World} hh => receive_any (w0 := w) (cb := cb) (mb := mb) (bs := bl) (num := 5) (retry := 100) (gs := gs2) hh hl2 (repK (gAt s2.l kk).st) 5 n 0 (repT (gAt s2.l kk))
          rw [← hrv] at e9 hJa hrc
          rw [e9] at hrc
          have hl3 : bl.length = rv.2.length := hl2.trans (hM.jc.len.trans hJa.jc.len.symm)
          repeat' (first | (apply WL_ev rfl rfl; exact Ev_load1 hT rfl rfl (hSt.at 0 rfl) (msg_cell hmq (j := 0) (c := I 1) rfl rs)) | (refine W_ownS (Hs := [_]) [(0, false), (1, false), (2, false), (3, false), (4, false), (5, false), (6, false), (7, false), (8, false), (9, false), (10, false), (11, false), (12, true), (13, false), (14, false), (15, false), (16, false)] hT (by decide +kernel) rfl hSt ?_; clear hSt; intro w hSt; (repeat' (first | (apply HL_ev rfl rfl (St.left (H0 := [_]) hSt); (intro w hSt; first | exact Ev_load1 hT rfl rfl (hSt.at 0 rfl) (msg_cell hmq (j := 4) (c := S wGo) rfl rs) | exact Ev_loadN hT rfl rfl (hSt.at 0 rfl) (msg_id hmq rs) rfl | (first | exact Ev_auto))) | (refine HL_pass rfl rfl (St.left (H0 := [_]) hSt) ?_) | (refine HL_one ?_; refine WL_isCall (f := 16) ?_; refine WL_call (ok_call hT rfl) rfl rfl rfl (hrq (hG.later hSt NoG.none) (hSt.hC (X := [_])) (NoG.c (X := [_]) (hG.no hSt NoG.none))) ?_; rintro v w2 ⟨rfl, H2, hW2, hc2⟩; replace hSt := hSt.cC (X := [_]) hc2; clear hc2; dsimp only [List.cons_append, List.nil_append] at hSt; refine WL_nil (At_oneH (St.left (H0 := [_]) hSt) ?_)) | fail)); refine HL_end ?_; simp only [List.length_cons, List.length_nil, List.drop_succ_cons, List.drop_zero]) | (apply WL_ev rfl rfl; exact Ev_loadN hT rfl rfl (hSt.at 0 rfl) (msg_id hmq rs) rfl) | (refine WL_isCall (f := 18) ?_; refine WL_call (ok_call hT rfl) rfl rfl rfl (reply_any hW2 hl9 (hSt.hC (X := [_])) hf hst) ?_; rintro v w2 ⟨rfl, hc2⟩; replace hSt := hSt.call0 hc2; clear hc2) | (refine WL_isCall (f := 17) ?_; refine WL_call (ok_call hT rfl) rfl rfl rfl (hrc (hSt.hR (X := [_]))) ?_; rintro v w2 ⟨rfl, hc2⟩; replace hSt := hSt.cR (X := [_]) hc2; clear hc2) | refine stepA ?_ | (refine stepS ?_; clear hSt; intro w hSt; dsimp only [spl, List.set] at hSt) | (refine stepB ?_; clear hSt; intro w nb hnb hSt; dsimp only [zcells, List.nil_append, List.cons_append] at hSt) | (refine stepG ?_ ?_ <;> intro hc <;> (try exact absA) <;> (fail_if_success (change true = true at hc)) <;> (fail_if_success (change false = false at hc))) | fail)
          all_goals try (exfalso; first | omega | (simp at hc; done) | (exact hc rfl))
          all_goals first | exact At_loop2 hK3 (k' := ms.length - (q + 1)) (q + 1) (at1 + 2) hlt8 ⟨rfl, by omega, by omega, s2, rv.2, H2, hJa, hW2, hl3, hSt⟩ (by (repeat (first | exact Sub.nil _ | refine Sub.cons rfl ?_)))
        · repeat' (first | (apply WL_ev rfl rfl; exact Ev_load1 hT rfl rfl (hSt.at 0 rfl) (msg_cell hmq (j := 0) (c := I 2) rfl rs)) | (apply WL_ev rfl rfl; exact Ev_loadN hT rfl rfl (hSt.at 0 rfl) (msg_id hmq rs) rfl) | (refine WL_isCall (f := 15) ?_; refine WL_call (ok_call hT rfl) rfl rfl rfl (cancel_any (n := 0) (hG.later hSt NoG.none) hW1 (hM.js.svk (by omega)) (hSt.hC (X := [_])) (NoG.c (X := [_]) (hG.no hSt NoG.none)) 5 n (100 * ((r : Int) + 1))) ?_; rintro v w2 ⟨rfl, H2, hW2, hc2⟩; replace hSt := hSt.cC (X := [_]) hc2; clear hc2) | refine stepA ?_ | (refine stepS ?_; clear hSt; intro w hSt; dsimp only [spl, List.set] at hSt) | (refine stepB ?_; clear hSt; intro w nb hnb hSt; dsimp only [zcells, List.nil_append, List.cons_append] at hSt) | (refine stepG ?_ ?_ <;> intro hc <;> (try exact absA) <;> (fail_if_success (change true = true at hc)) <;> (fail_if_success (change false = false at hc))) | fail)
          all_goals try (exfalso; first | omega | (simp at hc; done) | (exact hc rfl))
          all_goals first | exact At_loop2 hK3 (k' := ms.length - (q + 1)) (q + 1) (at1 + 2) hlt8 ⟨rfl, by omega, by omega, _, gs2, H2, (hM.cancel hmq), hW2, hl2, hSt⟩ (by (repeat (first | exact Sub.nil _ | refine Sub.cons rfl ?_)))
      · obtain rfl : q = ms.length := by omega
        repeat' (first | refine stepA ?_ | (refine stepS ?_; clear hSt; intro w hSt; dsimp only [spl, List.set] at hSt) | (refine stepB ?_; clear hSt; intro w nb hnb hSt; dsimp only [zcells, List.nil_append, List.cons_append] at hSt) | (refine stepG ?_ ?_ <;> intro hc <;> (try exact absA) <;> (fail_if_success (change true = true at hc)) <;> (fail_if_success (change false = false at hc))) | fail)
        exact At_K hK2 ⟨at1, s1, gs2, H1, by omega, hM, hW1, hl2, hSt.right (Ha := P1), rfl⟩ (by (repeat (first | exact Sub.nil _ | refine Sub.cons rfl ?_)))
  · obtain rfl : r = lc + 20 := by omega
    have hfin := hR.fin (by omega)
    have hgl := hR.jc.len
    repeat' (first | refine stepA ?_ | (refine stepS ?_; clear hSt; intro w hSt; dsimp only [spl, List.set] at hSt) | (refine stepB ?_; clear hSt; intro w nb hnb hSt; dsimp only [zcells, List.nil_append, List.cons_append] at hSt) | (refine stepG ?_ ?_ <;> intro hc <;> (try exact absA) <;> (fail_if_success (change true = true at hc)) <;> (fail_if_success (change false = false at hc))) | fail)
    refine W_sub (L' := [(25, I ((0 : Nat) + 1 : Int)), (7, I (i : Int)), (10, Ptr bs), (12, Ptr cb)]) (by (repeat (first | exact Sub.nil _ | refine Sub.cons rfl ?_))) ?_
    refine W_loop1 (fun k (q : Nat) w => k = i - q ∧ q ≤ i ∧ St w0 NoneS (H ++ CH cb mb bl 5 100 gs) w) (fun q => [(25, I ((q : Int) + 1))]) i 0 rfl (by (repeat (first | exact Str.nil _ | apply Str.drop rfl | apply Str.keepU rfl | apply Str.keep rfl))) ⟨rfl, by omega, hSt⟩ (by (repeat (first | exact Sub.nil _ | refine Sub.cons rfl ?_))) ?_
    clear hSt
    rintro k q w ⟨hk, hq, hSt⟩ K hK
    by_cases hqn : q < i
    · obtain ⟨g, kk, hg, hf, hst, hrs, h4, h7⟩ := hR.done hfin (n := (q : Int) + 1) (by omega)
      have hlt9 : i - (q + 1) < k := by omega
      have hgo := fun {w : World} hh => goal_any (w0 := w) hW (by have := hR.js.len; omega) hh 5 ((q : Int) + 1)
      have e : goalS s 5 ((q : Int) + 1) = (gAt s.l kk, true) := by unfold goalS; rw [hf]
      rw [e] at hgo
      generalize gAt s.l kk = x at hgo hst hrs
      obtain ⟨xc, xn, xs, xa, xe, xq, xr⟩ := x
      dsimp only at hgo hst hrs
      subst hst hrs
      have hsa := fun {w : World} hh => cstate_any (w0 := w) (cb := cb) (mb := mb) (bs := bl) (num := 5) (retry := 100) (gs := gs) hh hl ((q : Int) + 1)
      have hra := fun {w : World} hh => result_any (w0 := w) (cb := cb) (mb := mb) (bs := bl) (num := 5) (retry := 100) (gs := gs) hh hl ((q : Int) + 1)
      rw [hg] at hsa hra
      have e2 : cresultOf (some g) = (g.res, 0) := by unfold cresultOf; exact if_neg (by omega)
      rw [e2] at hra
      dsimp only at hsa hra
      have hend : B (decide (g.st = 4 ∨ g.st = 5 ∨ g.st = 6 ∨ g.st = 7)) = B true := by rw [decide_eq_true (by omega)]
      repeat' (first | (refine WL_isCall (f := 20) ?_; refine WL_call (ok_call hT rfl) rfl rfl rfl (hgo hSt.left.has) ?_; rintro v w2 ⟨rfl, hc2⟩; replace hSt := hSt.call0 hc2; clear hc2) | (refine WL_alloc hT rfl rfl rfl hSt ?_; clear hSt; intro w nb hnb hSt; replace hSt := hSt.front; dsimp only [zcells] at hSt) | (refine WL_isCall (f := 21) ?_; refine WL_call (ok_call hT rfl) rfl rfl rfl (hsa (St.right (Ha := [_]) hSt).right.has) ?_; rintro v w2 ⟨rfl, hc2⟩; replace hSt := hSt.call0 hc2; clear hc2) | (refine WL_isCall (f := 22) ?_; refine WL_call (ok_call hT rfl) rfl rfl rfl (hra (St.right (Ha := [_]) hSt).right.has) ?_; rintro v w2 ⟨rfl, hc2⟩; replace hSt := hSt.call0 hc2; clear hc2) | (refine WL_isCall (f := 23) ?_; refine WL_call (ok_call hT rfl) rfl rfl rfl (rended_any g.st) ?_; rintro v w2 ⟨rfl, hc2⟩; replace hSt := hSt.call0 hc2; clear hc2; rw [hend]) | refine stepA ?_ | (refine stepS ?_; clear hSt; intro w hSt; dsimp only [spl, List.set] at hSt) | (refine stepB ?_; clear hSt; intro w nb hnb hSt; dsimp only [zcells, List.nil_append, List.cons_append] at hSt) | (refine stepG ?_ ?_ <;> intro hc <;> (try exact absA) <;> (fail_if_success (change true = true at hc)) <;> (fail_if_success (change false = false at hc))) | fail)
      all_goals try (exfalso; first | omega | (simp at hc; done) | (exact hc rfl))
      all_goals exact At_loop1 hK (k' := i - (q + 1)) (q + 1) hlt9 ⟨rfl, by omega, hSt.right (Ha := [_])⟩ (by (repeat (first | exact Sub.nil _ | refine Sub.cons rfl ?_)))
    · obtain rfl : q = i := by omega
      have hco := hfin.open hgl
      repeat' (first | (refine WL_isCall (f := 24) ?_; refine WL_call (ok_call hT rfl) rfl rfl rfl (copen_any hSt.right.has hl (by omega)) ?_; rintro v w2 ⟨H1, ho1, hc2⟩; replace hSt := hSt.newN hc2; clear hc2; rw [hco] at ho1; obtain ⟨oa, oc, rfl⟩ := ho1.len) | (refine WL_isCall (f := 10) ?_; refine WL_call (ok_call hT rfl) rfl rfl rfl (cawake_any) ?_; rintro v w2 ⟨rfl, hc2⟩; replace hSt := hSt.call0 hc2; clear hc2) | refine stepA ?_ | (refine stepS ?_; clear hSt; intro w hSt; dsimp only [spl, List.set] at hSt) | (refine stepB ?_; clear hSt; intro w nb hnb hSt; dsimp only [zcells, List.nil_append, List.cons_append] at hSt) | (refine stepG ?_ ?_ <;> intro hc <;> (try exact absA) <;> (fail_if_success (change true = true at hc)) <;> (fail_if_success (change false = false at hc))) | fail)
      all_goals try (exfalso; first | omega | (simp at hc; done) | (exact hc rfl))
      all_goals exact ret1 rfl rfl ⟨by simp, hSt.nil⟩
end Go.Proofs.YthkimkgphaiagaaGreatDoor
