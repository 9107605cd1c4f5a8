/- Substitute, and the settings of an entry; a copy of a list. No conditions. -/
import Derived.Test.YtknfankadlokhaaGreatDoorND
import Derived.Test.YtknfankadlokhaaGreatDoorLcm
import Derived.Test.YtknfankadlokhaaGreatDoorMD
import Derived.Test.YtknfankadlokhaaGreatDoorLhs

namespace Go.Proofs.YtknfankadlokhaaGreatDoor
open Go.RowKit
set_option maxRecDepth 4000
set_option linter.unusedVariables false
set_option linter.unusedSimpArgs false
set_option maxHeartbeats 4000000

theorem St.drewN (w : World) (n : Nat) : St w NoneS [] (w.drewN n) := ⟨rfl, rfl, rfl, Nat.le_refl _, fun _ _ _ => rfl, fun i b o h => by simp at h, fun i j b c o u h => by simp at h⟩
theorem cut_any {w0 : World} (hV : Mx w0) (s p : Tx) (hl : s.length < 4294967281) : Cl Tryz.prog 119 [S s, S p] w0 (fun v w' => v = .tuple ⟨[S (Lib.cut s p).1, S (Lib.cut s p).2.1, B (Lib.cut s p).2.2]⟩ ∧ St w0 NoneS [] w') := by
  obtain ⟨x, E, fz, hm⟩ := hV
  have hm' : w0.cell? ⟨1, 0, none⟩ = some (.int .i64 x) := by rw [cell_of hm]; rfl
  refine ⟨(Tryz.strings_Cut ⟨⟨s⟩⟩ ⟨⟨p⟩⟩ x w0 hl hm').mono ?_⟩
  rintro e w' ⟨rfl, k, rfl⟩
  exact ⟨_, rfl, rfl, St.drewN w0 k⟩
theorem cut_at {w0 : World} (hV : Mx w0) {s p a b : Tx} {k : Bool} (hl : s.length < 4294967281) (h : Lib.cut s p = (a, b, k)) : Cl Tryz.prog 119 [S s, S p] w0 (fun v w' => v = .tuple ⟨[S a, S b, B k]⟩ ∧ St w0 NoneS [] w') := by
  have := cut_any hV s p hl
  rw [h] at this; exact this
theorem blen_any {w0 : World} {b : Nat} {l : List UInt8} {H : List (Nat × Obj)} (hB : Bld b l H) (hh : Has w0 H) : Cl Tryz.prog 53 [Ptr b] w0 (fun r w' => r = I l.length ∧ St w0 NoneS [] w') := by
  obtain ⟨p, v, H1, hp, ho, hcb, rfl⟩ := hB
  have hb := hh.own 0 b _ rfl
  obtain ⟨oa, oc, rfl⟩ := ho.len
  have hSt := St.refl w0 NoneS
  refine enter Tryz.func53 rfl Tryz.ntmps53 rfl ?_
  repeat' (first | (apply WL_ev rfl rfl; exact Ev_load1 hT rfl rfl (hSt.base hb (fun e => e)) rfl) | refine stepA ?_ | (refine stepS ?_; clear hSt; intro w hSt; dsimp only [spl, List.set] at hSt) | (refine stepB ?_; clear hSt; intro w nb hnb hSt; dsimp only [zcells, List.nil_append, List.cons_append] at hSt) | (refine stepG ?_ ?_ <;> intro hc <;> (try exact absA) <;> (fail_if_success (change true = true at hc)) <;> (fail_if_success (change false = false at hc))) | fail)
  exact ret1 rfl rfl ⟨rfl, hSt.nil⟩
theorem subR_open_ {g : List Sg} {k : Nat} {s : Tx} (hf : s.length < k) (h : (Lib.cut s [36, 40]).2.2 = true) (h2 : (Lib.cut (Lib.cut s [36, 40]).2.1 [41]).2.2 = false) : subR g k s = ([], 2) := by
  obtain ⟨j, rfl⟩ : ∃ j, k = j + 1 := ⟨k - 1, by omega⟩
  exact subR_open h h2
theorem subR_none_ {g : List Sg} {k : Nat} {s : Tx} (hf : s.length < k) (h : (Lib.cut s [36, 40]).2.2 = true) (h2 : (Lib.cut (Lib.cut s [36, 40]).2.1 [41]).2.2 = true) (hv : valF g (Lib.cut (Lib.cut s [36, 40]).2.1 [41]).1 = none) : subR g k s = ([], 6) := by
  obtain ⟨j, rfl⟩ : ∃ j, k = j + 1 := ⟨k - 1, by omega⟩
  exact subR_none h h2 hv
theorem substitute_any {w0 : World} (hV : Mx w0) {v0 : Value} {g : List Sg} (s : Tx) (hs : s.length ≤ 100000) (hg : SlAt w0 v0 2 (g.map sgC)) (hgl : g.length ≤ 9223372036854775807) (hgt : ∀ a ∈ g, a.2.length ≤ 100000) :
    Cl Tryz.prog 85 [S s, v0] w0 (fun v w' => v = .tuple ⟨[S (subF g s).1, I (subF g s).2]⟩ ∧ St w0 NoneS [] w') := by
  have hSt := St.refl w0 NoneS
  refine enter Tryz.func85 rfl Tryz.ntmps85 rfl ?_
  repeat' (first | refine stepA ?_ | (refine stepS ?_; clear hSt; intro w hSt; dsimp only [spl, List.set] at hSt) | (refine stepB ?_; clear hSt; intro w nb hnb hSt; dsimp only [zcells, List.nil_append, List.cons_append] at hSt) | (refine stepG ?_ ?_ <;> intro hc <;> (try exact absA) <;> (fail_if_success (change true = true at hc)) <;> (fail_if_success (change false = false at hc))) | fail)
  refine W_loop1 (fun k (rest : Tx) w => ∃ f out H, k = rest.length ∧ SubAt g s out rest f ∧ out.length + rest.length * 100000 ≤ s.length * 100000 ∧ Bld nb out H ∧ St w0 NoneS H w) (fun rest => [(0, S rest)]) s.length s rfl (by (repeat (first | exact Str.nil _ | apply Str.drop rfl | apply Str.keepU rfl | apply Str.keep rfl))) ⟨_, [], _, rfl, SubAt.start g s, by simp, Bld.fresh nb, hSt⟩ (by (repeat (first | exact Sub.nil _ | refine Sub.cons rfl ?_))) ?_
  clear hSt
  rintro k rest w ⟨f, out, H, hk, hsub, hol, hB, hSt⟩ K hK
  obtain ⟨⟨c1, c2, c3⟩, hcc⟩ : ∃ c, Lib.cut rest [36, 40] = c := ⟨_, rfl⟩
  cases c3 with
  | false =>
    have hcn : (Lib.cut rest [36, 40]).2.2 = false := by rw [hcc]
    have hc1 := cut_no hcn
    rw [hcc] at hc1
    replace hc1 : c1 = rest := hc1
    subst hc1
    have hfin := sub_last hsub hcn
    rw [hfin]
    repeat' (first | (refine WL_isCall (f := 119) ?_; refine WL_call (ok_call hT rfl) rfl rfl rfl (cut_at (hV.kept hSt.nil.keeps) (by omega) hcc) ?_; rintro v w' ⟨rfl, hc2⟩; replace hSt := hSt.call0 hc2; clear hc2) | (refine WL_isCall (f := 49) ?_; refine WL_call (ok_call hT rfl) rfl rfl rfl (write_any hB hSt.has _ (by omega)) ?_; rintro v w' ⟨rfl, H', hB', hc2⟩; replace hSt := St.callE (Ha := []) hSt hc2; dsimp only [List.nil_append] at hSt; clear hc2 hB; have hB := hB'; clear hB') | (refine WL_isCall (f := 53) ?_; refine WL_call (ok_call hT rfl) rfl rfl rfl (blen_any hB hSt.has) ?_; rintro v w' ⟨rfl, hc2⟩; replace hSt := hSt.call0 hc2; clear hc2) | (refine WL_isCall (f := 54) ?_; refine WL_call (ok_call hT rfl) rfl rfl rfl (string_any (H0 := []) hB hSt) ?_; rintro v w' ⟨rfl, hc2⟩; replace hSt := hc2; clear hc2) | refine stepA ?_ | (refine stepS ?_; clear hSt; intro w hSt; dsimp only [spl, List.set] at hSt) | (refine stepB ?_; clear hSt; intro w nb hnb hSt; dsimp only [zcells, List.nil_append, List.cons_append] at hSt) | (refine stepG ?_ ?_ <;> intro hc <;> (try exact absA) <;> (fail_if_success (change true = true at hc)) <;> (fail_if_success (change false = false at hc))) | fail)
    · refine ret2 rfl rfl rfl ⟨?_, hSt.nil⟩
      rw [if_pos (by omega)]
    · refine ret2 rfl rfl rfl ⟨?_, hSt.nil⟩
      rw [if_neg (by omega)]
  | true =>
    have hcn : (Lib.cut rest [36, 40]).2.2 = true := by rw [hcc]
    have hl1 := cut_len hcn
    rw [hcc] at hl1
    replace hl1 : c1.length + 2 + c2.length = rest.length := hl1
    obtain ⟨⟨d1, d2, d3⟩, hdd⟩ : ∃ c, Lib.cut c2 [41] = c := ⟨_, rfl⟩
    have hdd' : Lib.cut (Lib.cut rest [36, 40]).2.1 [41] = (d1, d2, d3) := by rw [hcc]; exact hdd
    cases d3 with
    | false =>
      rw [sub_err hsub (subR_open_ hsub.fuel hcn (by rw [hdd'])) (by omega)]
      repeat' (first | (refine WL_isCall (f := 119) ?_; refine WL_call (ok_call hT rfl) rfl rfl rfl (cut_at (hV.kept hSt.nil.keeps) (by omega) hcc) ?_; rintro v w' ⟨rfl, hc2⟩; replace hSt := hSt.call0 hc2; clear hc2) | (refine WL_isCall (f := 119) ?_; refine WL_call (ok_call hT rfl) rfl rfl rfl (cut_at (hV.kept hSt.nil.keeps) (by omega) hdd) ?_; rintro v w' ⟨rfl, hc2⟩; replace hSt := hSt.call0 hc2; clear hc2) | (refine WL_isCall (f := 49) ?_; refine WL_call (ok_call hT rfl) rfl rfl rfl (write_any hB hSt.has _ (by omega)) ?_; rintro v w' ⟨rfl, H', hB', hc2⟩; replace hSt := St.callE (Ha := []) hSt hc2; dsimp only [List.nil_append] at hSt; clear hc2 hB; have hB := hB'; clear hB') | refine stepA ?_ | (refine stepS ?_; clear hSt; intro w hSt; dsimp only [spl, List.set] at hSt) | (refine stepB ?_; clear hSt; intro w nb hnb hSt; dsimp only [zcells, List.nil_append, List.cons_append] at hSt) | (refine stepG ?_ ?_ <;> intro hc <;> (try exact absA) <;> (fail_if_success (change true = true at hc)) <;> (fail_if_success (change false = false at hc))) | fail)
      exact ret2 rfl rfl rfl ⟨rfl, hSt.nil⟩
    | true =>
      have hdn : (Lib.cut (Lib.cut rest [36, 40]).2.1 [41]).2.2 = true := by rw [hdd']
      have hl2 := cut_len hdn
      rw [hdd', hcc] at hl2
      replace hl2 : d1.length + 1 + d2.length = c2.length := hl2
      cases hv : valF g d1 with
      | none =>
        have hval : ∀ {w1 : World}, SlAt w1 v0 2 (g.map sgC) → Cl Tryz.prog 81 [v0, S d1] w1 (fun r w' => r = .tuple ⟨[S [], B false]⟩ ∧ St w1 NoneS [] w') := fun h => by have := value_any d1 h hgl; rw [hv] at this; exact this
        rw [sub_err hsub (subR_none_ hsub.fuel hcn hdn (by rw [hdd']; exact hv)) (by omega)]
        repeat' (first | (refine WL_isCall (f := 119) ?_; refine WL_call (ok_call hT rfl) rfl rfl rfl (cut_at (hV.kept hSt.nil.keeps) (by omega) hcc) ?_; rintro v w' ⟨rfl, hc2⟩; replace hSt := hSt.call0 hc2; clear hc2) | (refine WL_isCall (f := 119) ?_; refine WL_call (ok_call hT rfl) rfl rfl rfl (cut_at (hV.kept hSt.nil.keeps) (by omega) hdd) ?_; rintro v w' ⟨rfl, hc2⟩; replace hSt := hSt.call0 hc2; clear hc2) | (refine WL_isCall (f := 49) ?_; refine WL_call (ok_call hT rfl) rfl rfl rfl (write_any hB hSt.has _ (by omega)) ?_; rintro v w' ⟨rfl, H', hB', hc2⟩; replace hSt := St.callE (Ha := []) hSt hc2; dsimp only [List.nil_append] at hSt; clear hc2 hB; have hB := hB'; clear hB') | (refine WL_isCall (f := 81) ?_; refine WL_call (ok_call hT rfl) rfl rfl rfl (hval (hg.kept hSt.nil.keeps)) ?_; rintro v w' ⟨rfl, hc2⟩; replace hSt := hSt.call0 hc2; clear hc2) | refine stepA ?_ | (refine stepS ?_; clear hSt; intro w hSt; dsimp only [spl, List.set] at hSt) | (refine stepB ?_; clear hSt; intro w nb hnb hSt; dsimp only [zcells, List.nil_append, List.cons_append] at hSt) | (refine stepG ?_ ?_ <;> intro hc <;> (try exact absA) <;> (fail_if_success (change true = true at hc)) <;> (fail_if_success (change false = false at hc))) | fail)
        exact ret2 rfl rfl rfl ⟨rfl, hSt.nil⟩
      | some x =>
        have hxl := hgt _ (valF_mem hv)
        dsimp only at hxl
        have hval : ∀ {w1 : World}, SlAt w1 v0 2 (g.map sgC) → Cl Tryz.prog 81 [v0, S d1] w1 (fun r w' => r = .tuple ⟨[S x, B true]⟩ ∧ St w1 NoneS [] w') := fun h => by have := value_any d1 h hgl; rw [hv] at this; exact this
        have hst := hsub.step hcn hdn (x := x) (by rw [hdd']; exact hv)
        rw [hdd', hcc] at hst
        dsimp only at hst
        have hal : (out ++ c1).length = out.length + c1.length := List.length_append
        have hal2 : (out ++ c1 ++ x).length = out.length + c1.length + x.length := by simp; omega
        repeat' (first | (refine WL_isCall (f := 119) ?_; refine WL_call (ok_call hT rfl) rfl rfl rfl (cut_at (hV.kept hSt.nil.keeps) (by omega) hcc) ?_; rintro v w' ⟨rfl, hc2⟩; replace hSt := hSt.call0 hc2; clear hc2) | (refine WL_isCall (f := 119) ?_; refine WL_call (ok_call hT rfl) rfl rfl rfl (cut_at (hV.kept hSt.nil.keeps) (by omega) hdd) ?_; rintro v w' ⟨rfl, hc2⟩; replace hSt := hSt.call0 hc2; clear hc2) | (refine WL_isCall (f := 49) ?_; refine WL_call (ok_call hT rfl) rfl rfl rfl (write_any hB hSt.has _ (by omega)) ?_; rintro v w' ⟨rfl, H', hB', hc2⟩; replace hSt := St.callE (Ha := []) hSt hc2; dsimp only [List.nil_append] at hSt; clear hc2 hB; have hB := hB'; clear hB') | (refine WL_isCall (f := 81) ?_; refine WL_call (ok_call hT rfl) rfl rfl rfl (hval (hg.kept hSt.nil.keeps)) ?_; rintro v w' ⟨rfl, hc2⟩; replace hSt := hSt.call0 hc2; clear hc2) | refine stepA ?_ | (refine stepS ?_; clear hSt; intro w hSt; dsimp only [spl, List.set] at hSt) | (refine stepB ?_; clear hSt; intro w nb hnb hSt; dsimp only [zcells, List.nil_append, List.cons_append] at hSt) | (refine stepG ?_ ?_ <;> intro hc <;> (try exact absA) <;> (fail_if_success (change true = true at hc)) <;> (fail_if_success (change false = false at hc))) | fail)
        exact At_loop1 hK (k' := d2.length) d2 (by omega) ⟨_, _, _, rfl, hst, by omega, hB, hSt⟩ (by (repeat (first | exact Sub.nil _ | refine Sub.cons rfl ?_)))
end Go.Proofs.YtknfankadlokhaaGreatDoor
