/- The settings of an entry with their references replaced; copies of lists and of conditions. No conditions. -/
import Derived.Test.YtknfankadlokhaaGreatDoorLhg
import Derived.Test.YtknfankadlokhaaGreatDoorMD

namespace Go.Proofs.YtknfankadlokhaaGreatDoor
open Go.RowKit
set_option maxRecDepth 4000
set_option linter.unusedVariables false
set_option linter.unusedSimpArgs false
set_option maxHeartbeats 4000000

theorem fl_tc (l : List Tx) : (l.map tc).flatten = l.map S := by induction l <;> simp_all
theorem one_tc (l : List Tx) : (l.map tc).flatten.all oneV = true := by rw [fl_tc]; induction l <;> simp_all [oneV]
theorem sclone_any {w0 : World} {v0 : Value} {l : List Tx} (hs : SlAt w0 v0 1 (l.map tc)) (hlen : l.length ≤ 1000000000) : Cl Tryz.prog 44 [v0] w0 (fun v w' => ∃ H1, OwnSl v 9 1 (l.map S) l.length H1 ∧ St w0 NoneS H1 w') := by
  have hSt := St.refl w0 NoneS
  have hs' := hs
  obtain ⟨a, cap, rfl, hcs⟩ := hs'.map
  refine enter Tryz.func44 rfl Tryz.ntmps44 rfl ?_
  cases a with
  | none =>
    have h0 : l = [] := by
      cases l with
      | nil => rfl
      | cons c cs => obtain ⟨b, off, _, _, _, h, _⟩ := hcs 0 c rfl; cases h
    subst h0
    repeat' (first | refine stepA ?_ | (refine stepS ?_; clear hSt; intro w hSt; dsimp only [spl, List.set] at hSt) | (refine stepB ?_; clear hSt; intro w nb hnb hSt; dsimp only [zcells, List.nil_append, List.cons_append] at hSt) | (refine stepG ?_ ?_ <;> intro hc <;> (try exact absA) <;> (fail_if_success (change true = true at hc)) <;> (fail_if_success (change false = false at hc))) | fail)
    exact ret1 rfl rfl ⟨[], OwnSl.nil _ _, hSt⟩
  | some a =>
    repeat' (first | (refine WL_buildSlice0 hT rfl rfl rfl hSt ?_; clear hSt; intro w zb hzb hSt; dsimp only [List.nil_append, List.cons_append] at hSt) | refine stepA ?_ | (refine stepS ?_; clear hSt; intro w hSt; dsimp only [spl, List.set] at hSt) | (refine stepB ?_; clear hSt; intro w nb hnb hSt; dsimp only [zcells, List.nil_append, List.cons_append] at hSt) | (refine stepG ?_ ?_ <;> intro hc <;> (try exact absA) <;> (fail_if_success (change true = true at hc)) <;> (fail_if_success (change false = false at hc))) | fail)
    refine WL_appendS (H0 := []) (H2 := []) hT rfl rfl rfl rfl rfl rfl rfl (by simpa using hSt) (OwnSl.zero zb _ _) (hs.later hSt (fun _ e => e)) (one_tc l) (by simp; omega) (by simp; omega) ?_
    intro v' w' H1' ho hSt'
    repeat' (first | refine stepA ?_ | (refine stepS ?_; clear hSt; intro w hSt; dsimp only [spl, List.set] at hSt) | (refine stepB ?_; clear hSt; intro w nb hnb hSt; dsimp only [zcells, List.nil_append, List.cons_append] at hSt) | (refine stepG ?_ ?_ <;> intro hc <;> (try exact absA) <;> (fail_if_success (change true = true at hc)) <;> (fail_if_success (change false = false at hc))) | fail)
    refine ret1 rfl rfl ⟨H1', ?_, by simpa using hSt'⟩
    rw [fl_tc] at ho
    simpa using ho
def errS (g : List Sg) (s : Sg) : Int := if (subF g s.2).2 ≠ 0 then (subF g s.2).2 else if (!plainF (subF g s.2).1) = true then 2 else 0
def errAt (g : List Sg) (l : List Sg) (i : Nat) : Int := match l[i]? with | none => 0 | some s => errS g s
def setsE (g : List Sg) (l : List Sg) : Int := firstE (errAt g l) l.length
def setsO (g : List Sg) (l : List Sg) : List Sg := l.map fun s => (s.1, (subF g s.2).1)
theorem errAt_at {g l : List Sg} {i : Nat} {s : Sg} (h : l[i]? = some s) : errAt g l i = errS g s := by unfold errAt; rw [h]
theorem setsO_snoc {g l : List Sg} {i : Nat} {s : Sg} (h : l[i]? = some s) : setsO g (l.take (i + 1)) = setsO g (l.take i) ++ [(s.1, (subF g s.2).1)] := by
  unfold setsO; rw [List.take_add_one, h]; simp
theorem setsO_len {g l : List Sg} {i : Nat} (h : i ≤ l.length) : (setsO g (l.take i)).length = i := by unfold setsO; simp; omega
theorem settings_any {w0 : World} (hV : Mx w0) {v0 v1 : Value} {l g : List Sg} (hl : SlAt w0 v0 2 (l.map sgC)) (hll : l.length ≤ 1000000000) (hlt : ∀ a ∈ l, a.2.length ≤ 100000) (hg : SlAt w0 v1 2 (g.map sgC)) (hgl : g.length ≤ 9223372036854775807) (hgt : ∀ a ∈ g, a.2.length ≤ 100000) :
    Cl Tryz.prog 42 [v0, v1] w0 (fun v w' => ∃ nv H1, v = .tuple ⟨[nv, I (setsE g l)]⟩ ∧ OwnSl nv 57 2 ((if setsE g l = 0 then setsO g l else []).flatMap sgC) (if setsE g l = 0 then setsO g l else []).length H1 ∧ St w0 NoneS H1 w') := by
  have hSt := St.refl w0 NoneS
  obtain ⟨a1, p1, rfl, hc1⟩ := hl.map
  refine enter Tryz.func42 rfl Tryz.ntmps42 rfl ?_
  repeat' (first | refine stepA ?_ | (refine stepS ?_; clear hSt; intro w hSt; dsimp only [spl, List.set] at hSt) | (refine stepB ?_; clear hSt; intro w nb hnb hSt; dsimp only [zcells, List.nil_append, List.cons_append] at hSt) | (refine stepG ?_ ?_ <;> intro hc <;> (try exact absA) <;> (fail_if_success (change true = true at hc)) <;> (fail_if_success (change false = false at hc))) | fail)
  refine W_loop2 (fun k (i : Nat) (nv : Value) w => k = l.length - i ∧ i ≤ l.length ∧ (∀ j, j < i → errAt g l j = 0) ∧ ∃ H1, OwnSl nv 57 2 ((setsO g (l.take i)).flatMap sgC) i H1 ∧ St w0 NoneS H1 w) (fun i nv => [(13, I (i : Int)), (6, nv)]) l.length 0 (.slice none 0 0) rfl (by (repeat (first | exact Str.nil _ | apply Str.drop rfl | apply Str.keepU rfl | apply Str.keep rfl))) ⟨rfl, by omega, by intro j hj; omega, [], OwnSl.nil _ _, hSt⟩ (by (repeat (first | exact Sub.nil _ | refine Sub.cons rfl ?_))) ?_
  clear hSt
  rintro k i nv w ⟨hk, hi, hno, H1, ho, hSt⟩ K hK
  by_cases hil : i < l.length
  · obtain ⟨s, hs⟩ : ∃ s, l[i]? = some s := ⟨_, List.getElem?_eq_getElem hil⟩
    obtain ⟨b1, o1, m1, E1, z1, rfl, hb1, q, _⟩ := hc1 i _ hs
    rw [← Int.toNat_natCast i] at q
    have hse := errAt_at (g := g) hs
    have hst := hlt s (List.mem_of_getElem? hs)
    have hsn := setsO_snoc (g := g) hs
    have hln := setsO_len (g := g) (l := l) hi
    have hln2 := setsO_len (g := g) (l := l) (i := i + 1) (by omega)
    have hfirst : ∀ e, errAt g l i = e → e ≠ 0 → setsE g l = e := fun e he h0 => by unfold setsE; rw [firstE_hit hil (by rw [he]; exact h0) hno, he]
    unfold errS at hse
    repeat' (first | (refine WL_alloc hT rfl rfl rfl hSt ?_; clear hSt; intro w nb hnb hSt; replace hSt := hSt.front; dsimp only [zcells, List.nil_append, List.cons_append] at hSt) | (apply WL_ev rfl rfl; exact Ev_loadN hT rfl rfl (hSt.base hb1 (fun e => e)) q rfl) | (refine WL_isCall (f := 86) ?_; refine WL_call (ok_call hT rfl) rfl rfl rfl (plain_any _) ?_; rintro v w' ⟨rfl, hc2⟩; replace hSt := hSt.call0 hc2; clear hc2) | (refine WL_isCall (f := 85) ?_; refine WL_call (ok_call hT rfl) rfl rfl rfl (substitute_any (hV.kept hSt.nil.keeps) s.2 hst (hg.kept hSt.nil.keeps) hgl hgt) ?_; rintro v w' ⟨rfl, hc2⟩; replace hSt := hSt.call0 hc2; clear hc2) | (refine WL_push1 hT rfl rfl rfl rfl rfl rfl rfl rfl rfl rfl rfl rfl (fun _ => rfl) rfl (H0 := [_]) hSt ho (by omega) (by omega) ?_; clear hSt ho; intro v' w H2 u ho hSt) | refine stepA ?_ | (refine stepS ?_; clear hSt; intro w hSt; dsimp only [spl, List.set] at hSt) | (refine stepB ?_; clear hSt; intro w nb hnb hSt; dsimp only [zcells, List.nil_append, List.cons_append] at hSt) | (refine stepG ?_ ?_ <;> intro hc <;> (try exact absA) <;> (fail_if_success (change true = true at hc)) <;> (fail_if_success (change false = false at hc))) | fail)
    · rw [hfirst _ (by rw [hse, if_pos (by assumption)]) (by assumption)]
      exact ret2 rfl rfl rfl ⟨_, [], rfl, by rw [if_neg (by assumption)]; exact OwnSl.nil _ _, hSt.nil⟩
    · rw [hfirst 2 (by rw [hse, if_neg (by assumption), if_pos (by assumption)]) (by omega)]
      exact ret2 rfl rfl rfl ⟨_, [], rfl, by rw [if_neg (by omega)]; exact OwnSl.nil _ _, hSt.nil⟩
    · refine At_loop2 hK (k' := l.length - (i + 1)) (i + 1) _ (by omega) ⟨rfl, by omega, fno_snoc hno (by rw [hse, if_neg (by assumption), if_neg (Bool.eq_false_iff.1 (by assumption))]), H2, ?_, St.right (Ha := [_]) hSt⟩ (by (repeat (first | exact Sub.nil _ | refine Sub.cons rfl ?_)))
      rw [hsn, List.flatMap_append]
      exact ho
  · have hi2 : i = l.length := by omega
    subst hi2
    have h0 : setsE g l = 0 := firstE_none hno
    rw [h0, if_pos rfl]
    rw [List.take_length] at ho
    have hln := setsO_len (g := g) (l := l) (i := l.length) (Nat.le_refl _)
    rw [List.take_length] at hln
    repeat' (first | refine stepA ?_ | (refine stepS ?_; clear hSt; intro w hSt; dsimp only [spl, List.set] at hSt) | (refine stepB ?_; clear hSt; intro w nb hnb hSt; dsimp only [zcells, List.nil_append, List.cons_append] at hSt) | (refine stepG ?_ ?_ <;> intro hc <;> (try exact absA) <;> (fail_if_success (change true = true at hc)) <;> (fail_if_success (change false = false at hc))) | fail)
    exact ret2 rfl rfl rfl ⟨_, H1, rfl, by rw [hln]; exact ho, hSt⟩
end Go.Proofs.YtknfankadlokhaaGreatDoor
