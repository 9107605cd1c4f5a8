/- The law Once: an operation is performed. No conditions. -/
import Derived.Test.YtndkifkaejmibaaGreatDoorSwc

namespace Go.Proofs.YtndkifkaejmibaaGreatDoor
open Go.RowKit
set_option maxRecDepth 4000
set_option linter.unusedVariables false
set_option linter.unusedSimpArgs false
set_option maxHeartbeats 16000000

theorem St.hasM {w0 w : World} {Sx : Nat → Prop} {X HK H : List (Nat × Obj)} (h : St w0 Sx (X ++ (HK ++ H)) w) : Has w HK := h.hC
theorem St.callX {w0 w w' : World} {Sx : Nat → Prop} {X HK HK' H : List (Nat × Obj)} (h : St w0 Sx (X ++ (HK ++ H)) w) (k : St w (InH HK) HK' w') : St w0 Sx (X ++ (HK' ++ H)) w' := h.cC k
/-- what an operation does to a running server -/
noncomputable def perfS (s : Sv) (kd c d at_ : Int) (tx : List UInt8) : Sv :=
  if kd % 16 = 1 then (cancelS s c d at_).2 else if kd % 16 = 2 then (feedbackS s tx).2.2 else if kd % 16 = 3 then (finishS s 4 at_ tx).2 else if kd % 16 = 4 then (finishS s 5 at_ tx).2 else (requestS s c d at_ tx).2.2
theorem perfS_on {s : Sv} {L : List (List UInt8)} {safe i : Nat} (h : On s L safe i) (hI : Inv s) (kd c d at_ : Int) (tx : List UInt8) : (∃ L' safe', On (perfS s kd c d at_ tx) L' safe' (i + 200)) ∧ Up s.l (perfS s kd c d at_ tx).l ∧ Inv (perfS s kd c d at_ tx) := by
  unfold perfS
  split
  · obtain ⟨a, b⟩ := h.cancelS hI c d at_
    exact ⟨a, b, hI.cancelS c d at_⟩
  split
  · obtain ⟨a, b⟩ := h.feedbackS tx
    exact ⟨⟨_, _, a.later (by omega)⟩, b, hI.feedbackS tx⟩
  split
  · obtain ⟨a, b⟩ := h.finishS hI (st := 4) (by omega) at_ tx
    exact ⟨a, b, hI.finishS (by omega) at_ tx⟩
  split
  · obtain ⟨a, b⟩ := h.finishS hI (st := 5) (by omega) at_ tx
    exact ⟨a, b, hI.finishS (by omega) at_ tx⟩
  · obtain ⟨a, b, _⟩ := h.requestS hI c d at_ tx
    exact ⟨a, b, hI.requestS c d at_ tx⟩
abbrev opC (kd c d at_ sp kp : Int) (tx : List UInt8) : List Value := [.int .u8 kd, I c, I d, I at_, I sp, I kp, S tx]
theorem Kn.add {ids : List (Int × Int)} {acc : List Bool} {fin l : List Gl} (h : Kn ids acc fin l) {c d : Int} {b : Bool} (hx : ∃ k, k < l.length ∧ (gAt l k).c = c ∧ (gAt l k).n = d ∧ (b = true ↔ (gAt l k).st ≠ 7)) : Kn (ids ++ [(c, d)]) (acc ++ [b]) fin l := by
  refine ⟨by rw [List.length_append, List.length_append, h.len]; rfl, fun j x e h1 h2 => ?_, h.fin⟩
  rcases Nat.lt_or_ge j ids.length with hj | hj
  · rw [List.getElem?_append_left hj] at h1
    rw [List.getElem?_append_left (by rw [← h.len]; exact hj)] at h2
    exact h.dec j x e h1 h2
  · rw [List.getElem?_append_right hj] at h1
    rw [List.getElem?_append_right (by rw [← h.len]; exact hj), ← h.len] at h2
    have hz : j - ids.length = 0 := by
      have := (List.getElem?_eq_some_iff.1 h1).1
      simpa using this
    rw [hz] at h1 h2
    simp only [List.getElem?_cons_zero, Option.some.injEq] at h1 h2
    subst h1 h2
    exact hx
section
variable {w0 : World} {kb bs bj bm : Nat} {s : Sv} {ids : List (Int × Int)} {acc : List Bool} {fin : List Gl} {HK H : List (Nat × Obj)}
theorem perform_any (hG : Gb w0) (hW : SW bs bj bm s H) (hk : Svk s 66) (hI : Inv s) (hfb : s.fb ≤ 1000000 ∧ 0 ≤ s.fb) {L : List (List UInt8)} {safe i : Nat} (ho : On s L safe i) (hkn : Kn ids acc fin s.l) (hK0 : KW kb ids acc fin HK) (hil : ids.length ≤ 100) (hh : Has w0 (HK ++ H)) (hn : NoG (InH (HK ++ H))) (kd c d at_ sp kp : Int) (hkd : 0 ≤ kd ∧ kd ≤ 255) (tx : List UInt8) :
    Cl Tryz.prog 21 [Ptr bs, Ptr kb, .agg ⟨opC kd c d at_ sp kp tx⟩] w0 (fun v w' => v = B true ∧ ∃ ids' acc' HK' H', KW kb ids' acc' fin HK' ∧ SW bs bj bm (perfS s kd c d at_ tx) H' ∧ ids'.length ≤ ids.length + 1 ∧ Kn ids' acc' fin (perfS s kd c d at_ tx).l ∧ St w0 (InH (HK ++ H)) (HK' ++ H') w') := by
  have hSt := hh.st
  generalize InH _ = SS at hSt hn ⊢
  have hla := hkn.len
  obtain ⟨_, hup, _⟩ := perfS_on ho hI kd c d at_ tx
  have hkn2 := hkn.up hup
  have hup0 := hup
  obtain ⟨mm, hmm⟩ : ∃ mm, mm = kd % 16 := ⟨_, rfl⟩
  have hmd : Value.int .u8 (kd % 16) = .int .u8 mm := by rw [hmm]
  unfold perfS at hup hkn2 ⊢
  rw [← hmm] at hup hkn2 ⊢
  by_cases h1 : mm = 1
  · rw [if_pos h1] at hkn2 ⊢
    refine enter Tryz.func21 rfl Tryz.ntmps21 rfl ?_
    repeat' (first | (refine WL_box rfl rfl rfl hSt ?_; clear hSt; intro w nb hnb hSt; replace hSt := hSt.front; dsimp only [zcells] at hSt) | (apply WL_ev rfl rfl; exact Ev_as (v2 := .int .u8 mm) (Ev_remP rfl rfl (by omega) (by omega)) hmd) | (refine WL_isCall (f := 41) ?_; refine WL_call (ok_call hT rfl) rfl rfl rfl (cancel_any (n := 0) (hG.later hSt hn) hW (hk.le (by omega)) (St.hasE (Ha := _ :: HK) hSt) (NoG.r (Ha := _ :: HK) (hG.no hSt hn)) c d at_) ?_; rintro v w2 ⟨rfl, H2, hW2, hc2⟩; replace hSt := St.callE (Ha := _ :: HK) hSt hc2; clear hc2) | refine W_seq ?_ | refine W_block ?_ | refine W_region ?_ | refine WL_nil ?_ | refine W_true rfl ?_ | refine W_false rfl ?_ | refine W_skip ?_ | refine W_exit ?_ | refine W_ret ?_ | refine W_goto ?_ | refine W_label ?_ | refine At_calm ?_ | refine At_then_normal ?_ | refine At_then ?_ | refine At_then_ret ?_ | refine At_in_normal ?_ | refine At_in_ret ?_ | refine At_in_hit ?_ | refine At_in_miss rfl ?_ | refine At_jump_normal ?_ | refine At_jump_ret ?_ | refine At_jump_exit ?_ | refine At_then_goto ?_ | refine At_in_goto ?_ | (apply WL_ev rfl rfl; (first | exact Ev_auto)) | refine WL_pass rfl rfl ?_ | refine WL_pass0 rfl ?_ | (refine WL_store1 hT rfl rfl 0 rfl rfl hSt rfl rfl rfl ?_; clear hSt; intro w hSt; dsimp only [List.set] at hSt) | (refine WL_store1 hT rfl rfl 1 rfl rfl hSt rfl rfl rfl ?_; clear hSt; intro w hSt; dsimp only [List.set] at hSt) | (refine WL_store1 hT rfl rfl 2 rfl rfl hSt rfl rfl rfl ?_; clear hSt; intro w hSt; dsimp only [List.set] at hSt) | (refine WL_store1 hT rfl rfl 3 rfl rfl hSt rfl rfl rfl ?_; clear hSt; intro w hSt; dsimp only [List.set] at hSt) | (refine WL_storeN hT rfl rfl 0 rfl rfl hSt rfl rfl rfl rfl ?_; clear hSt; intro w hSt; dsimp only [spl, List.set] at hSt) | (refine WL_storeN hT rfl rfl 1 rfl rfl hSt rfl rfl rfl rfl ?_; clear hSt; intro w hSt; dsimp only [spl, List.set] at hSt) | (refine WL_storeN hT rfl rfl 2 rfl rfl hSt rfl rfl rfl rfl ?_; clear hSt; intro w hSt; dsimp only [spl, List.set] at hSt) | (refine WL_storeN hT rfl rfl 3 rfl rfl hSt rfl rfl rfl rfl ?_; clear hSt; intro w hSt; dsimp only [spl, List.set] at hSt) | (refine WL_box rfl rfl rfl hSt ?_; clear hSt; intro w nb hnb hSt; dsimp only [zcells, List.nil_append, List.cons_append] at hSt) | (refine WL_alloc hT rfl rfl rfl hSt ?_; clear hSt; intro w nb hnb hSt; dsimp only [zcells, List.nil_append, List.cons_append] at hSt) | (refine WL_guardP rfl rfl (fun hc => ?_) (fun hc => ?_) <;> try exact absA) | (refine WL_guard rfl rfl (fun hc => ?_) (fun hc => ?_) <;> (try exact absA) <;> (fail_if_success (change true = true at hc)) <;> (fail_if_success (change false = false at hc))) | refine ret0' rfl ?_ | (refine W_if rfl (fun hc => ?_) (fun hc => ?_) <;> try exact absA) | (refine W_cond rfl (fun hc => ?_) (fun hc => ?_) <;> try exact absA))
    all_goals try (exfalso; first | omega | (simp at hc; done) | (exact hc rfl))
    all_goals exact ret1 rfl rfl ⟨rfl, _, _, _, _, hK0, hW2, by omega, hkn2, hSt.right (Ha := [_])⟩
  rw [if_neg h1] at hkn2 ⊢
  by_cases h2 : mm = 2
  · rw [if_pos h2] at hkn2 ⊢
    refine enter Tryz.func21 rfl Tryz.ntmps21 rfl ?_
    repeat' (first | (refine WL_box rfl rfl rfl hSt ?_; clear hSt; intro w nb hnb hSt; replace hSt := hSt.front; dsimp only [zcells] at hSt) | (apply WL_ev rfl rfl; exact Ev_as (v2 := .int .u8 mm) (Ev_remP rfl rfl (by omega) (by omega)) hmd) | (refine WL_isCall (f := 42) ?_; refine WL_call (ok_call hT rfl) rfl rfl rfl (feedback_any hW (St.hasE (Ha := _ :: HK) hSt) hfb tx) ?_; rintro v w2 ⟨rfl, H2, hW2, hc2⟩; replace hSt := St.callE (Ha := _ :: HK) hSt hc2; clear hc2) | refine W_seq ?_ | refine W_block ?_ | refine W_region ?_ | refine WL_nil ?_ | refine W_true rfl ?_ | refine W_false rfl ?_ | refine W_skip ?_ | refine W_exit ?_ | refine W_ret ?_ | refine W_goto ?_ | refine W_label ?_ | refine At_calm ?_ | refine At_then_normal ?_ | refine At_then ?_ | refine At_then_ret ?_ | refine At_in_normal ?_ | refine At_in_ret ?_ | refine At_in_hit ?_ | refine At_in_miss rfl ?_ | refine At_jump_normal ?_ | refine At_jump_ret ?_ | refine At_jump_exit ?_ | refine At_then_goto ?_ | refine At_in_goto ?_ | (apply WL_ev rfl rfl; (first | exact Ev_auto)) | refine WL_pass rfl rfl ?_ | refine WL_pass0 rfl ?_ | (refine WL_store1 hT rfl rfl 0 rfl rfl hSt rfl rfl rfl ?_; clear hSt; intro w hSt; dsimp only [List.set] at hSt) | (refine WL_store1 hT rfl rfl 1 rfl rfl hSt rfl rfl rfl ?_; clear hSt; intro w hSt; dsimp only [List.set] at hSt) | (refine WL_store1 hT rfl rfl 2 rfl rfl hSt rfl rfl rfl ?_; clear hSt; intro w hSt; dsimp only [List.set] at hSt) | (refine WL_store1 hT rfl rfl 3 rfl rfl hSt rfl rfl rfl ?_; clear hSt; intro w hSt; dsimp only [List.set] at hSt) | (refine WL_storeN hT rfl rfl 0 rfl rfl hSt rfl rfl rfl rfl ?_; clear hSt; intro w hSt; dsimp only [spl, List.set] at hSt) | (refine WL_storeN hT rfl rfl 1 rfl rfl hSt rfl rfl rfl rfl ?_; clear hSt; intro w hSt; dsimp only [spl, List.set] at hSt) | (refine WL_storeN hT rfl rfl 2 rfl rfl hSt rfl rfl rfl rfl ?_; clear hSt; intro w hSt; dsimp only [spl, List.set] at hSt) | (refine WL_storeN hT rfl rfl 3 rfl rfl hSt rfl rfl rfl rfl ?_; clear hSt; intro w hSt; dsimp only [spl, List.set] at hSt) | (refine WL_box rfl rfl rfl hSt ?_; clear hSt; intro w nb hnb hSt; dsimp only [zcells, List.nil_append, List.cons_append] at hSt) | (refine WL_alloc hT rfl rfl rfl hSt ?_; clear hSt; intro w nb hnb hSt; dsimp only [zcells, List.nil_append, List.cons_append] at hSt) | (refine WL_guardP rfl rfl (fun hc => ?_) (fun hc => ?_) <;> try exact absA) | (refine WL_guard rfl rfl (fun hc => ?_) (fun hc => ?_) <;> (try exact absA) <;> (fail_if_success (change true = true at hc)) <;> (fail_if_success (change false = false at hc))) | refine ret0' rfl ?_ | (refine W_if rfl (fun hc => ?_) (fun hc => ?_) <;> try exact absA) | (refine W_cond rfl (fun hc => ?_) (fun hc => ?_) <;> try exact absA))
    all_goals try (exfalso; first | omega | (simp at hc; done) | (exact hc rfl))
    all_goals exact ret1 rfl rfl ⟨rfl, _, _, _, _, hK0, hW2, by omega, hkn2, hSt.right (Ha := [_])⟩
  rw [if_neg h2] at hkn2 ⊢
  by_cases h3 : mm = 3
  · rw [if_pos h3] at hkn2 ⊢
    refine enter Tryz.func21 rfl Tryz.ntmps21 rfl ?_
    repeat' (first | (refine WL_box rfl rfl rfl hSt ?_; clear hSt; intro w nb hnb hSt; replace hSt := hSt.front; dsimp only [zcells] at hSt) | (apply WL_ev rfl rfl; exact Ev_as (v2 := .int .u8 mm) (Ev_remP rfl rfl (by omega) (by omega)) hmd) | (refine WL_isCall (f := 12) ?_; refine WL_call (ok_call hT rfl) rfl rfl rfl (succeed_any (n := 0) (hG.later hSt hn) hW (hk.le (by omega)) hI.toInv0 (St.hasE (Ha := _ :: HK) hSt) (NoG.r (Ha := _ :: HK) (hG.no hSt hn)) at_ tx) ?_; rintro v w2 ⟨rfl, H2, hW2, hc2⟩; replace hSt := St.callE (Ha := _ :: HK) hSt hc2; clear hc2) | refine W_seq ?_ | refine W_block ?_ | refine W_region ?_ | refine WL_nil ?_ | refine W_true rfl ?_ | refine W_false rfl ?_ | refine W_skip ?_ | refine W_exit ?_ | refine W_ret ?_ | refine W_goto ?_ | refine W_label ?_ | refine At_calm ?_ | refine At_then_normal ?_ | refine At_then ?_ | refine At_then_ret ?_ | refine At_in_normal ?_ | refine At_in_ret ?_ | refine At_in_hit ?_ | refine At_in_miss rfl ?_ | refine At_jump_normal ?_ | refine At_jump_ret ?_ | refine At_jump_exit ?_ | refine At_then_goto ?_ | refine At_in_goto ?_ | (apply WL_ev rfl rfl; (first | exact Ev_auto)) | refine WL_pass rfl rfl ?_ | refine WL_pass0 rfl ?_ | (refine WL_store1 hT rfl rfl 0 rfl rfl hSt rfl rfl rfl ?_; clear hSt; intro w hSt; dsimp only [List.set] at hSt) | (refine WL_store1 hT rfl rfl 1 rfl rfl hSt rfl rfl rfl ?_; clear hSt; intro w hSt; dsimp only [List.set] at hSt) | (refine WL_store1 hT rfl rfl 2 rfl rfl hSt rfl rfl rfl ?_; clear hSt; intro w hSt; dsimp only [List.set] at hSt) | (refine WL_store1 hT rfl rfl 3 rfl rfl hSt rfl rfl rfl ?_; clear hSt; intro w hSt; dsimp only [List.set] at hSt) | (refine WL_storeN hT rfl rfl 0 rfl rfl hSt rfl rfl rfl rfl ?_; clear hSt; intro w hSt; dsimp only [spl, List.set] at hSt) | (refine WL_storeN hT rfl rfl 1 rfl rfl hSt rfl rfl rfl rfl ?_; clear hSt; intro w hSt; dsimp only [spl, List.set] at hSt) | (refine WL_storeN hT rfl rfl 2 rfl rfl hSt rfl rfl rfl rfl ?_; clear hSt; intro w hSt; dsimp only [spl, List.set] at hSt) | (refine WL_storeN hT rfl rfl 3 rfl rfl hSt rfl rfl rfl rfl ?_; clear hSt; intro w hSt; dsimp only [spl, List.set] at hSt) | (refine WL_box rfl rfl rfl hSt ?_; clear hSt; intro w nb hnb hSt; dsimp only [zcells, List.nil_append, List.cons_append] at hSt) | (refine WL_alloc hT rfl rfl rfl hSt ?_; clear hSt; intro w nb hnb hSt; dsimp only [zcells, List.nil_append, List.cons_append] at hSt) | (refine WL_guardP rfl rfl (fun hc => ?_) (fun hc => ?_) <;> try exact absA) | (refine WL_guard rfl rfl (fun hc => ?_) (fun hc => ?_) <;> (try exact absA) <;> (fail_if_success (change true = true at hc)) <;> (fail_if_success (change false = false at hc))) | refine ret0' rfl ?_ | (refine W_if rfl (fun hc => ?_) (fun hc => ?_) <;> try exact absA) | (refine W_cond rfl (fun hc => ?_) (fun hc => ?_) <;> try exact absA))
    all_goals try (exfalso; first | omega | (simp at hc; done) | (exact hc rfl))
    all_goals exact ret1 rfl rfl ⟨rfl, _, _, _, _, hK0, hW2, by omega, hkn2, hSt.right (Ha := [_])⟩
  rw [if_neg h3] at hkn2 ⊢
  by_cases h4 : mm = 4
  · rw [if_pos h4] at hkn2 ⊢
    refine enter Tryz.func21 rfl Tryz.ntmps21 rfl ?_
    repeat' (first | (refine WL_box rfl rfl rfl hSt ?_; clear hSt; intro w nb hnb hSt; replace hSt := hSt.front; dsimp only [zcells] at hSt) | (apply WL_ev rfl rfl; exact Ev_as (v2 := .int .u8 mm) (Ev_remP rfl rfl (by omega) (by omega)) hmd) | (refine WL_isCall (f := 15) ?_; refine WL_call (ok_call hT rfl) rfl rfl rfl (abort_any (n := 0) (hG.later hSt hn) hW (hk.le (by omega)) hI.toInv0 (St.hasE (Ha := _ :: HK) hSt) (NoG.r (Ha := _ :: HK) (hG.no hSt hn)) at_ tx) ?_; rintro v w2 ⟨rfl, H2, hW2, hc2⟩; replace hSt := St.callE (Ha := _ :: HK) hSt hc2; clear hc2) | refine W_seq ?_ | refine W_block ?_ | refine W_region ?_ | refine WL_nil ?_ | refine W_true rfl ?_ | refine W_false rfl ?_ | refine W_skip ?_ | refine W_exit ?_ | refine W_ret ?_ | refine W_goto ?_ | refine W_label ?_ | refine At_calm ?_ | refine At_then_normal ?_ | refine At_then ?_ | refine At_then_ret ?_ | refine At_in_normal ?_ | refine At_in_ret ?_ | refine At_in_hit ?_ | refine At_in_miss rfl ?_ | refine At_jump_normal ?_ | refine At_jump_ret ?_ | refine At_jump_exit ?_ | refine At_then_goto ?_ | refine At_in_goto ?_ | (apply WL_ev rfl rfl; (first | exact Ev_auto)) | refine WL_pass rfl rfl ?_ | refine WL_pass0 rfl ?_ | (refine WL_store1 hT rfl rfl 0 rfl rfl hSt rfl rfl rfl ?_; clear hSt; intro w hSt; dsimp only [List.set] at hSt) | (refine WL_store1 hT rfl rfl 1 rfl rfl hSt rfl rfl rfl ?_; clear hSt; intro w hSt; dsimp only [List.set] at hSt) | (refine WL_store1 hT rfl rfl 2 rfl rfl hSt rfl rfl rfl ?_; clear hSt; intro w hSt; dsimp only [List.set] at hSt) | (refine WL_store1 hT rfl rfl 3 rfl rfl hSt rfl rfl rfl ?_; clear hSt; intro w hSt; dsimp only [List.set] at hSt) | (refine WL_storeN hT rfl rfl 0 rfl rfl hSt rfl rfl rfl rfl ?_; clear hSt; intro w hSt; dsimp only [spl, List.set] at hSt) | (refine WL_storeN hT rfl rfl 1 rfl rfl hSt rfl rfl rfl rfl ?_; clear hSt; intro w hSt; dsimp only [spl, List.set] at hSt) | (refine WL_storeN hT rfl rfl 2 rfl rfl hSt rfl rfl rfl rfl ?_; clear hSt; intro w hSt; dsimp only [spl, List.set] at hSt) | (refine WL_storeN hT rfl rfl 3 rfl rfl hSt rfl rfl rfl rfl ?_; clear hSt; intro w hSt; dsimp only [spl, List.set] at hSt) | (refine WL_box rfl rfl rfl hSt ?_; clear hSt; intro w nb hnb hSt; dsimp only [zcells, List.nil_append, List.cons_append] at hSt) | (refine WL_alloc hT rfl rfl rfl hSt ?_; clear hSt; intro w nb hnb hSt; dsimp only [zcells, List.nil_append, List.cons_append] at hSt) | (refine WL_guardP rfl rfl (fun hc => ?_) (fun hc => ?_) <;> try exact absA) | (refine WL_guard rfl rfl (fun hc => ?_) (fun hc => ?_) <;> (try exact absA) <;> (fail_if_success (change true = true at hc)) <;> (fail_if_success (change false = false at hc))) | refine ret0' rfl ?_ | (refine W_if rfl (fun hc => ?_) (fun hc => ?_) <;> try exact absA) | (refine W_cond rfl (fun hc => ?_) (fun hc => ?_) <;> try exact absA))
    all_goals try (exfalso; first | omega | (simp at hc; done) | (exact hc rfl))
    all_goals exact ret1 rfl rfl ⟨rfl, _, _, _, _, hK0, hW2, by omega, hkn2, hSt.right (Ha := [_])⟩
  rw [if_neg h4] at hkn2 ⊢
  rw [if_neg h1, if_neg h2, if_neg h3, if_neg h4] at hup
  obtain ⟨⟨L2, s2, o2⟩, _, hres⟩ := ho.requestS hI c d at_ tx
  have hgi2 := o2.gi
  have hrq0 := fun {w : World} (hG : Gb w) hh hn => request_any (w0 := w) (n := 0) hG hW hk hI hh hn c d at_ tx
  generalize requestS s c d at_ tx = r at hres hkn2 hup hgi2 hrq0 ⊢
  clear o2
  obtain ⟨b, e, t⟩ := r
  dsimp only at hres hkn2 hup hgi2 hrq0 ⊢
  by_cases he : e = 0
  · have hx := hres he
    have hdec : ∀ (j : Nat) (b2 : Bool), ids[j]? = some (c, d) → acc[j]? = some b2 → b2 = b := by
      intro j b2 hj hb2
      obtain ⟨k1, k2, k3, k4, k5⟩ := hkn2.dec j (c, d) b2 hj hb2
      obtain ⟨m1, m2, m3, m4, m5⟩ := hx
      have := hgi2.dist k1 m1 k2 m2 (k3.trans m3.symm) (k4.trans m4.symm)
      subst this
      have : b2 = true ↔ b = true := k5.trans m5.symm
      cases b <;> cases b2 <;> simp_all
    subst he
    refine enter Tryz.func21 rfl Tryz.ntmps21 rfl ?_
    repeat' (first | (refine WL_box rfl rfl rfl hSt ?_; clear hSt; intro w nb hnb hSt; replace hSt := hSt.front; dsimp only [zcells] at hSt) | (apply WL_ev rfl rfl; exact Ev_as (v2 := .int .u8 mm) (Ev_remP rfl rfl (by omega) (by omega)) hmd) | (refine WL_isCall (f := 10) ?_; refine WL_call (ok_call hT rfl) rfl rfl rfl (hrq0 (hG.later hSt hn) (St.hasE (Ha := _ :: HK) hSt) (NoG.r (Ha := _ :: HK) (hG.no hSt hn))) ?_; rintro v w2 ⟨rfl, H2, hW2, hc2⟩; replace hSt := St.callE (Ha := _ :: HK) hSt hc2; clear hc2) | (refine WL_isCall (f := 43) ?_; refine WL_call (ok_call hT rfl) rfl rfl rfl (decided_any hK0 hla hil (St.hasM (X := [_]) (H := H2) hSt) c d b hdec) ?_; rintro v w2 ⟨rfl, ids2, acc2, HK2, hK2, hor, hc2⟩; replace hSt := St.callX (X := [_]) hSt hc2; clear hc2) | refine W_seq ?_ | refine W_block ?_ | refine W_region ?_ | refine WL_nil ?_ | refine W_true rfl ?_ | refine W_false rfl ?_ | refine W_skip ?_ | refine W_exit ?_ | refine W_ret ?_ | refine W_goto ?_ | refine W_label ?_ | refine At_calm ?_ | refine At_then_normal ?_ | refine At_then ?_ | refine At_then_ret ?_ | refine At_in_normal ?_ | refine At_in_ret ?_ | refine At_in_hit ?_ | refine At_in_miss rfl ?_ | refine At_jump_normal ?_ | refine At_jump_ret ?_ | refine At_jump_exit ?_ | refine At_then_goto ?_ | refine At_in_goto ?_ | (apply WL_ev rfl rfl; (first | exact Ev_auto)) | refine WL_pass rfl rfl ?_ | refine WL_pass0 rfl ?_ | (refine WL_store1 hT rfl rfl 0 rfl rfl hSt rfl rfl rfl ?_; clear hSt; intro w hSt; dsimp only [List.set] at hSt) | (refine WL_store1 hT rfl rfl 1 rfl rfl hSt rfl rfl rfl ?_; clear hSt; intro w hSt; dsimp only [List.set] at hSt) | (refine WL_store1 hT rfl rfl 2 rfl rfl hSt rfl rfl rfl ?_; clear hSt; intro w hSt; dsimp only [List.set] at hSt) | (refine WL_store1 hT rfl rfl 3 rfl rfl hSt rfl rfl rfl ?_; clear hSt; intro w hSt; dsimp only [List.set] at hSt) | (refine WL_storeN hT rfl rfl 0 rfl rfl hSt rfl rfl rfl rfl ?_; clear hSt; intro w hSt; dsimp only [spl, List.set] at hSt) | (refine WL_storeN hT rfl rfl 1 rfl rfl hSt rfl rfl rfl rfl ?_; clear hSt; intro w hSt; dsimp only [spl, List.set] at hSt) | (refine WL_storeN hT rfl rfl 2 rfl rfl hSt rfl rfl rfl rfl ?_; clear hSt; intro w hSt; dsimp only [spl, List.set] at hSt) | (refine WL_storeN hT rfl rfl 3 rfl rfl hSt rfl rfl rfl rfl ?_; clear hSt; intro w hSt; dsimp only [spl, List.set] at hSt) | (refine WL_box rfl rfl rfl hSt ?_; clear hSt; intro w nb hnb hSt; dsimp only [zcells, List.nil_append, List.cons_append] at hSt) | (refine WL_alloc hT rfl rfl rfl hSt ?_; clear hSt; intro w nb hnb hSt; dsimp only [zcells, List.nil_append, List.cons_append] at hSt) | (refine WL_guardP rfl rfl (fun hc => ?_) (fun hc => ?_) <;> try exact absA) | (refine WL_guard rfl rfl (fun hc => ?_) (fun hc => ?_) <;> (try exact absA) <;> (fail_if_success (change true = true at hc)) <;> (fail_if_success (change false = false at hc))) | refine ret0' rfl ?_ | (refine W_if rfl (fun hc => ?_) (fun hc => ?_) <;> try exact absA) | (refine W_cond rfl (fun hc => ?_) (fun hc => ?_) <;> try exact absA))
    all_goals try (exfalso; first | omega | (simp at hc; done) | (exact hc rfl))
    all_goals
      rcases hor with ⟨rfl, rfl, _⟩ | ⟨rfl, rfl, _⟩
      · exact ret1 rfl rfl ⟨rfl, _, _, _, _, hK2, hW2, by omega, hkn2, St.right (Ha := [_]) hSt⟩
      · exact ret1 rfl rfl ⟨rfl, _, _, _, _, hK2, hW2, by rw [List.length_append]; exact Nat.le_refl _, hkn2.add hx, St.right (Ha := [_]) hSt⟩
  · refine enter Tryz.func21 rfl Tryz.ntmps21 rfl ?_
    repeat' (first | (refine WL_box rfl rfl rfl hSt ?_; clear hSt; intro w nb hnb hSt; replace hSt := hSt.front; dsimp only [zcells] at hSt) | (apply WL_ev rfl rfl; exact Ev_as (v2 := .int .u8 mm) (Ev_remP rfl rfl (by omega) (by omega)) hmd) | (refine WL_isCall (f := 10) ?_; refine WL_call (ok_call hT rfl) rfl rfl rfl (hrq0 (hG.later hSt hn) (St.hasE (Ha := _ :: HK) hSt) (NoG.r (Ha := _ :: HK) (hG.no hSt hn))) ?_; rintro v w2 ⟨rfl, H2, hW2, hc2⟩; replace hSt := St.callE (Ha := _ :: HK) hSt hc2; clear hc2) | refine W_seq ?_ | refine W_block ?_ | refine W_region ?_ | refine WL_nil ?_ | refine W_true rfl ?_ | refine W_false rfl ?_ | refine W_skip ?_ | refine W_exit ?_ | refine W_ret ?_ | refine W_goto ?_ | refine W_label ?_ | refine At_calm ?_ | refine At_then_normal ?_ | refine At_then ?_ | refine At_then_ret ?_ | refine At_in_normal ?_ | refine At_in_ret ?_ | refine At_in_hit ?_ | refine At_in_miss rfl ?_ | refine At_jump_normal ?_ | refine At_jump_ret ?_ | refine At_jump_exit ?_ | refine At_then_goto ?_ | refine At_in_goto ?_ | (apply WL_ev rfl rfl; (first | exact Ev_auto)) | refine WL_pass rfl rfl ?_ | refine WL_pass0 rfl ?_ | (refine WL_store1 hT rfl rfl 0 rfl rfl hSt rfl rfl rfl ?_; clear hSt; intro w hSt; dsimp only [List.set] at hSt) | (refine WL_store1 hT rfl rfl 1 rfl rfl hSt rfl rfl rfl ?_; clear hSt; intro w hSt; dsimp only [List.set] at hSt) | (refine WL_store1 hT rfl rfl 2 rfl rfl hSt rfl rfl rfl ?_; clear hSt; intro w hSt; dsimp only [List.set] at hSt) | (refine WL_store1 hT rfl rfl 3 rfl rfl hSt rfl rfl rfl ?_; clear hSt; intro w hSt; dsimp only [List.set] at hSt) | (refine WL_storeN hT rfl rfl 0 rfl rfl hSt rfl rfl rfl rfl ?_; clear hSt; intro w hSt; dsimp only [spl, List.set] at hSt) | (refine WL_storeN hT rfl rfl 1 rfl rfl hSt rfl rfl rfl rfl ?_; clear hSt; intro w hSt; dsimp only [spl, List.set] at hSt) | (refine WL_storeN hT rfl rfl 2 rfl rfl hSt rfl rfl rfl rfl ?_; clear hSt; intro w hSt; dsimp only [spl, List.set] at hSt) | (refine WL_storeN hT rfl rfl 3 rfl rfl hSt rfl rfl rfl rfl ?_; clear hSt; intro w hSt; dsimp only [spl, List.set] at hSt) | (refine WL_box rfl rfl rfl hSt ?_; clear hSt; intro w nb hnb hSt; dsimp only [zcells, List.nil_append, List.cons_append] at hSt) | (refine WL_alloc hT rfl rfl rfl hSt ?_; clear hSt; intro w nb hnb hSt; dsimp only [zcells, List.nil_append, List.cons_append] at hSt) | (refine WL_guardP rfl rfl (fun hc => ?_) (fun hc => ?_) <;> try exact absA) | (refine WL_guard rfl rfl (fun hc => ?_) (fun hc => ?_) <;> (try exact absA) <;> (fail_if_success (change true = true at hc)) <;> (fail_if_success (change false = false at hc))) | refine ret0' rfl ?_ | (refine W_if rfl (fun hc => ?_) (fun hc => ?_) <;> try exact absA) | (refine W_cond rfl (fun hc => ?_) (fun hc => ?_) <;> try exact absA))
    all_goals try (exfalso; first | omega | (simp at hc; done) | (exact hc rfl))
    all_goals exact ret1 rfl rfl ⟨rfl, _, _, _, _, hK0, hW2, by omega, hkn2, hSt.right (Ha := [_])⟩
end
end Go.Proofs.YtndkifkaejmibaaGreatDoor
