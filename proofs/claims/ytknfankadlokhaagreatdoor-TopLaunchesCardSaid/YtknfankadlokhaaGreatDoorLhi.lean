/- A copy of a condition in new memory. No conditions. -/
import Derived.Test.YtknfankadlokhaaGreatDoorLhh
import Derived.Test.YtknfankadlokhaaGreatDoorMD

namespace Go.Proofs.YtknfankadlokhaaGreatDoor
open Go.RowKit
set_option maxRecDepth 4000
set_option linter.unusedVariables false
set_option linter.unusedSimpArgs false
set_option maxHeartbeats 4000000

theorem form_len {op : Int} {n t : Tx} {ar : List Cn} (h : formC (.mk op n t ar) = true) : ar.length ≤ 2 := by
  rw [formC, Bool.and_eq_true] at h
  have h1 := h.1
  unfold kindF at h1
  by_cases h2 : op = 2
  · rw [if_pos h2, Bool.and_eq_true] at h1
    have := of_decide_eq_true h1.1
    omega
  · rw [if_neg h2, Bool.and_eq_true] at h1
    have := of_decide_eq_true h1.1
    omega
abbrev Q4 := {y : List Value // y.length = 4}
theorem clone_any : ∀ (c : Cn) {w0 : World} {cs : List Value} (h : CondAt w0 c cs) (hf : formC c = true), Cl Tryz.prog 43 [.agg ⟨cs⟩] w0 (fun v w' => ∃ nv H1, v = .agg ⟨[I c.op, S c.name, S c.text, nv]⟩ ∧ (∃ a n k, nv = .slice a n k) ∧ (∀ w, Has w H1 → CondAt w c [I c.op, S c.name, S c.text, nv]) ∧ St w0 NoneS H1 w') := by
  intro c
  induction c using Cn.ind with
  | h op n t ar ih =>
  intro w0 cs h hf
  obtain ⟨v0, xs, rfl, hs, hcs, htl, hal⟩ := h.cells
  have hlen := form_len hf
  have hfs := (form_inv hf).2
  dsimp only [Cn.op, Cn.name, Cn.text, Cn.args] at *
  have hSt := St.refl w0 NoneS
  obtain ⟨a1, p1, rfl, hc1⟩ := hs.some_ hcs.len
  refine enter Tryz.func43 rfl Tryz.ntmps43 rfl ?_
  repeat' (first | (refine WL_box rfl rfl rfl hSt ?_; clear hSt; intro w b1 hb1n hSt; dsimp only [zcells, List.nil_append, List.cons_append] at hSt) | refine stepA ?_ | (refine stepS ?_; clear hSt; intro w hSt; dsimp only [spl, List.set] at hSt) | (refine stepB ?_; clear hSt; intro w nb hnb hSt; dsimp only [zcells, List.nil_append, List.cons_append] at hSt) | (refine stepG ?_ ?_ <;> intro hc <;> (try exact absA) <;> (fail_if_success (change true = true at hc)) <;> (fail_if_success (change false = false at hc))) | fail)
  refine W_loop2 (fun k (i : Nat) (nv : Value) w => k = ar.length - i ∧ i ≤ ar.length ∧ ∃ (ys : List Q4) (HD H1 : List (Nat × Obj)), ys.length = i ∧ OwnSl nv 38 4 (ys.flatMap (·.1)) i H1 ∧
      (∀ w, Has w HD → ∀ (j : Nat) (a : Cn) (y : Q4), ar[j]? = some a → ys[j]? = some y → CondAt w a y.1) ∧
      St w0 NoneS ((b1, blk [I op, S n, S t, .slice a1 ar.length p1] 38) :: (nb, blk [I 0, S [], S [], .slice none 0 0] 38) :: (HD ++ H1)) w) (fun i nv => [(9, I (i : Int)), (3, nv)]) ar.length 0 (.slice none 0 0) rfl (by (repeat (first | exact Str.nil _ | apply Str.drop rfl | apply Str.keepU rfl | apply Str.keep rfl)))
    ⟨rfl, by omega, [], [], [], rfl, OwnSl.nil _ _, fun w _ j a y _ hy => by simp at hy, hSt⟩ (by (repeat (first | exact Sub.nil _ | refine Sub.cons rfl ?_))) ?_
  clear hSt
  rintro k i nv w ⟨hk, hi, ys, HD, H1, hys, ho, hD, hSt⟩ K hK
  by_cases hil : i < ar.length
  · obtain ⟨a, ha⟩ : ∃ a, ar[i]? = some a := ⟨_, List.getElem?_eq_getElem hil⟩
    obtain ⟨x, hx, hca⟩ := hcs.at ha
    obtain ⟨bb, o1, m1, E1, z1, rfl, hbb, q1, hl1⟩ := hc1 i x hx
    have hcx := hca
    obtain ⟨va, xa, rfl, hsa, _⟩ := hca.cells
    obtain ⟨a2, p2, rfl, _⟩ := hsa.some_ rfl
    rw [← Int.toNat_natCast i] at q1
    have ham := List.mem_of_getElem? ha
    repeat' (first | (refine WL_alloc hT rfl rfl rfl hSt ?_; clear hSt; intro w b5 hb5 hSt; replace hSt := hSt.front; dsimp only [zcells, List.nil_append, List.cons_append] at hSt) | (apply WL_ev rfl rfl; exact Ev_loadN hT rfl rfl (hSt.base hbb (fun e => e)) q1 rfl) | refine stepA ?_ | (refine stepS ?_; clear hSt; intro w hSt; dsimp only [spl, List.set] at hSt) | (refine stepB ?_; clear hSt; intro w nb hnb hSt; dsimp only [zcells, List.nil_append, List.cons_append] at hSt) | (refine stepG ?_ ?_ <;> intro hc <;> (try exact absA) <;> (fail_if_success (change true = true at hc)) <;> (fail_if_success (change false = false at hc))) | fail)
    refine WL_call (ok_call hT rfl) rfl rfl rfl (ih a ham (hcx.kept hSt.keeps) (hfs a ham)) ?_
    rintro v w' ⟨nv2, Hn, rfl, ⟨an, nn, kn, rfl⟩, hDn, hc2⟩
    replace hSt := hSt.newN hc2
    clear hc2
    replace hSt := hSt.perm (Hn := ((b5, blk [I a.op, S a.name, S a.text, .slice a2 xa.length p2] 38) :: (b1, blk [I op, S n, S t, .slice (some ⟨bb, o1, none⟩) ar.length p1] 38) :: (nb, blk [I 0, S [], S [], .slice none 0 0] 38) :: (HD ++ Hn)) ++ H1) (by
      simp only [List.cons_append, List.append_assoc]
      exact List.Perm.cons _ (List.Perm.cons _ (List.Perm.cons _ (List.Perm.append_left _ List.perm_append_comm))))
    repeat' (first | (refine WL_push1 hT rfl rfl rfl rfl rfl rfl rfl rfl rfl rfl rfl rfl (fun _ => rfl) rfl hSt ho (by omega) (by omega) ?_; clear hSt ho; intro v' w H2 u ho hSt) | refine stepA ?_ | (refine stepS ?_; clear hSt; intro w hSt; dsimp only [spl, List.set] at hSt) | (refine stepB ?_; clear hSt; intro w nb hnb hSt; dsimp only [zcells, List.nil_append, List.cons_append] at hSt) | (refine stepG ?_ ?_ <;> intro hc <;> (try exact absA) <;> (fail_if_success (change true = true at hc)) <;> (fail_if_success (change false = false at hc))) | fail)
    refine At_loop2 hK (k' := ar.length - (i + 1)) (i + 1) _ (by omega) ⟨rfl, by omega, ys ++ [⟨[I a.op, S a.name, S a.text, .slice an nn kn], rfl⟩], HD ++ Hn, H2, by simp [hys], ?_, ?_, hSt.sublist (List.sublist_cons_self _ _)⟩ (by (repeat (first | exact Sub.nil _ | refine Sub.cons rfl ?_)))
    · rw [List.flatMap_append]; exact ho
    · intro w hh j b y hb hy
      rw [List.getElem?_append] at hy
      split at hy
      · exact hD w (hh.sublist (List.sublist_append_left _ _)) j b y hb hy
      · rename_i hj
        have hj2 : j = i := by
          rcases Nat.lt_or_ge (j - ys.length) 1 with h1 | h1
          · omega
          · rw [List.getElem?_eq_none (by simpa using h1)] at hy; cases hy
        subst hj2
        rw [hys, Nat.sub_self] at hy
        injection hy with hy
        subst hy
        rw [ha] at hb; injection hb with hb; subst hb
        exact hDn w (hh.sublist (List.sublist_append_right _ _))
  · have hi2 : i = ar.length := by omega
    obtain ⟨oa, oc, rfl⟩ := ho.len
    repeat' (first | refine stepA ?_ | (refine stepS ?_; clear hSt; intro w hSt; dsimp only [spl, List.set] at hSt) | (refine stepB ?_; clear hSt; intro w nb hnb hSt; dsimp only [zcells, List.nil_append, List.cons_append] at hSt) | (refine stepG ?_ ?_ <;> intro hc <;> (try exact absA) <;> (fail_if_success (change true = true at hc)) <;> (fail_if_success (change false = false at hc))) | fail)
    refine end_of (resc1 rfl hT rfl rfl (hSt.at 1 rfl) rfl rfl) ⟨_, HD ++ H1, rfl, ⟨_, _, _, rfl⟩, ?_, hSt.sublist (List.Sublist.trans (List.sublist_cons_self _ _) (List.sublist_cons_self _ _))⟩
    intro w hh
    have hys2 : OwnSl (.slice oa i oc) 38 4 (ys.flatMap (·.1)) ys.length H1 := by rw [hys]; exact ho
    have hsl := OwnSl.slAt (f := fun y : Q4 => y.1) (z := 4) (l := ys) (fun a => a.2) hys2 (hh.sublist (List.sublist_append_right _ _))
    refine CondAt.mk_ (c := .mk op n t ar) hsl (CondsAt.of (by rw [List.length_map, hys]; exact hi2) (fun j a y ha hy => ?_)) htl hal
    rw [List.getElem?_map] at hy
    cases hyj : ys[j]? with
    | none => rw [hyj] at hy; cases hy
    | some q =>
      rw [hyj] at hy; injection hy with hy; subst hy
      exact hD w (hh.sublist (List.sublist_append_left _ _)) j a q ha hyj
end Go.Proofs.YtknfankadlokhaaGreatDoor
