/- The reading of a launch description, with its size. No conditions. -/
import Derived.Test.YtknfankadlokhaaGreatDoorLhv

namespace Go.Proofs.YtknfankadlokhaaGreatDoor
open Go.RowKit Go.ChangeShapes Go.WideShapes Go.Deep
set_option maxRecDepth 100000
set_option linter.unusedVariables false
set_option linter.unusedSimpArgs false

theorem rd_str : Rd Tryz.prog 9 (fun _ cs (s : Tx) => cs = tc s) := fun _ _ _ _ _ _ _ _ _ h => by
  obtain ⟨l, h1, _⟩ := rd_string Tryz.underlying9 _ _ _ _ _ _ _ _ _ h
  exact ⟨l, h1⟩
theorem rd_cap {P : Program} {t e : TypeId} (ht : P.underlying t = some (.slice e)) {H : Type} {enc : TypeId × Value → H} {w : World} {base : Nat} {sp : Nat → Bool} {held : Bool} {fuel : Nat} {v : Value} {x : DataW H × List MemPlace}
    (h : DataW.trod enc P w base sp held fuel t [v] = some x) : capO v := by
  rcases DataW.trod_slice ht h with ⟨e3, _⟩ | ⟨a, len, cap, elems, rest, m, hnm, e3, hx3, _, hle, hcap, _⟩
  · injection e3 with e3; subst e3; exact capO.mk (Nat.le_refl _)
  · injection e3 with e3; subst e3; exact capO.mk hle
theorem rd_texts : Rd Tryz.prog 32 (fun w cs (l : List Tx) => ∃ v, cs = [v] ∧ SlAt w v 1 (l.map tc) ∧ l.length ≤ maxLen ∧ capO v) := by
  intro H enc w base sp held fuel cs x h
  obtain ⟨l, v, rfl, hs, hm⟩ := rd_slice (z := 1) Tryz.underlying32 (by kernel_rfl) (by decide) rd_str _ _ _ _ _ _ _ _ _ h
  exact ⟨l, v, rfl, hs.at (fun x a hx => hx), hm, rd_cap Tryz.underlying32 h⟩
theorem rd_sets : Rd Tryz.prog 27 (fun w cs (l : List Sg) => ∃ v, cs = [v] ∧ SlAt w v 2 (l.map sgC) ∧ l.length ≤ maxLen ∧ capO v ∧ ∀ s ∈ l, s.2.length ≤ maxLen) := by
  intro H enc w base sp held fuel cs x h
  obtain ⟨l, v, rfl, hs, hm⟩ := rd_slice (z := 2) Tryz.underlying27 (by kernel_rfl) (by decide) rd_sg _ _ _ _ _ _ _ _ _ h
  refine ⟨l, v, rfl, hs.at (fun x a hx => hx.1), hm, rd_cap Tryz.underlying27 h, fun s hsg => ?_⟩
  obtain ⟨i, hi⟩ := List.getElem?_of_mem hsg
  obtain ⟨x, _, h2⟩ := hs.each hi
  exact h2
theorem rd_ln : Rd Tryz.prog 40 LnAt := by
  intro H enc w base sp held fuel cs x h
  obtain ⟨xs, n, hfn, hx, hl, hxl, hg⟩ := DataW.trod_struct Tryz.underlying40 h
  have hl : cs.length = 8 := hl.trans (by kernel_rfl)
  have hxl : xs.length = 5 := hxl
  match cs, hl, xs, hxl, hg with
  | [c0, c1, c2, c3, c4, c5, c6, c7], _, [x0, x1, x2, x3, x4], _, hg =>
    have g0 := trod_field hg 0 rfl (o := 0) rfl (z := 1) (by kernel_rfl) (vs := [c0]) rfl (xi := x0) rfl
    have g1 := trod_field hg 1 rfl (o := 1) rfl (z := 1) (by kernel_rfl) (vs := [c1]) rfl (xi := x1) rfl
    have g2 := trod_field hg 2 rfl (o := 2) rfl (z := 4) (by kernel_rfl) (vs := [c2, c3, c4, c5]) rfl (xi := x2) rfl
    have g3 := trod_field hg 3 rfl (o := 6) rfl (z := 1) (by kernel_rfl) (vs := [c6]) rfl (xi := x3) rfl
    have g4 := trod_field hg 4 rfl (o := 7) rfl (z := 1) (by kernel_rfl) (vs := [c7]) rfl (xi := x4) rfl
    obtain ⟨nd, e0⟩ := rd_str _ _ _ _ _ _ _ _ _ g0
    obtain ⟨pg, e1⟩ := rd_str _ _ _ _ _ _ _ _ _ g1
    obtain ⟨c, hc, _⟩ := trod_cond _ _ _ g2
    obtain ⟨af, va, e3, hsa, hla, hca⟩ := rd_texts _ _ _ _ _ _ _ _ _ g3
    obtain ⟨st, vs, e4, hss, hls, hcs, hst⟩ := rd_sets _ _ _ _ _ _ _ _ _ g4
    injection e0 with e0; injection e1 with e1; injection e3 with e3; injection e4 with e4
    subst e0; subst e1; subst e3; subst e4
    obtain ⟨v, us, e2, h1, h2⟩ := hc.cells
    injection e2 with a1 e2; injection e2 with a2 e2; injection e2 with a3 e2; injection e2 with a4 e2
    subst a1; subst a2; subst a3; subst a4
    exact ⟨⟨nd, pg, c, af, st⟩, c5, c6, c7, rfl, hc, hsa, hss, hca, hcs, max63 ▸ hla, max63 ▸ hls, fun s hs => max63 ▸ hst s hs⟩
theorem rd_int1 : Rd Tryz.prog 3 (fun _ cs (n : Int) => cs = [I n]) := fun _ _ _ _ _ _ _ _ _ h => by
  obtain ⟨n, h1, _⟩ := rd_int Tryz.underlying3 _ _ _ _ _ _ _ _ _ h
  exact ⟨n, h1⟩
section
variable {H : Type} {enc : TypeId × Value → H} {W : World} {b0 base : Nat} {r : Reach} {sp : Nat → Bool} {held : Bool} {v : Value} {d : DataW H} {p : List MemPlace}
theorem lns_of (hv : Value.okWide Tryz.prog W r b0 23 v) (k : DataW.Trod enc Tryz.prog W base sp held 23 v d p) : ∃ l : List Ln, Lns W v l := by
  obtain ⟨a, len, cap, rfl⟩ := okWide_slice Tryz.underlying23 hv
  have k2 := k
  obtain ⟨fuel, hf⟩ := k2
  have hc := rd_cap Tryz.underlying23 hf
  obtain ⟨l, u, e, hs, hm⟩ := (rd_slice (z := 8) Tryz.underlying23 (by kernel_rfl) (by decide) rd_ln).of_trod k
  injection e with e
  subst e
  exact ⟨l, hs, hc, max63 ▸ hm⟩
theorem ints_of (hv : Value.okWide Tryz.prog W r b0 80 v) (k : DataW.Trod enc Tryz.prog W base sp held 80 v d p) : ∃ l : List Int, SlAt W v 1 (l.map fun n => [I n]) ∧ l.length ≤ 9223372036854775807 := by
  obtain ⟨a, len, cap, rfl⟩ := okWide_slice Tryz.underlying80 hv
  obtain ⟨l, u, e, hs, hm⟩ := (rd_slice (z := 1) Tryz.underlying80 (by kernel_rfl) (by decide) rd_int1).of_trod k
  injection e with e
  subst e
  exact ⟨l, hs.at (fun x a hx => hx), max63 ▸ hm⟩
end
theorem bulk_len {H : Type} : ∀ (l : List (DataW H)), l.length ≤ Rows.uptoBulkAll l
  | [] => by simp [Rows.uptoBulkAll]
  | d :: l => by
    have h1 := bulk_one d
    have h2 := bulk_len l
    simp only [Rows.uptoBulkAll, List.length_cons]; omega
section
variable {H : Type} {enc : TypeId × Value → H} {W : World} {b0 base : Nat} {r : Reach} {sp : Nat → Bool} {held : Bool} {v : Value} {d : DataW H} {p : List MemPlace}
theorem trod_len {P : Program} {t e : TypeId} (ht : P.underlying t = some (.slice e)) {fuel : Nat} {x : DataW H × List MemPlace} {a : Option Addr} {n c : Nat}
    (h : DataW.trod enc P W base sp held fuel t [.slice a n c] = some x) : n ≤ Rows.uptoBulk x.1 := by
  rcases DataW.trod_slice ht h with ⟨e3, hx⟩ | ⟨a, len, cap, elems, rest, m, hnm, e3, hx3, _, hle, hcap, hel, _⟩
  · injection e3 with e3; injection e3 with _ e3 _
    omega
  · injection e3 with e3; injection e3 with _ e3 _
    have : x.1 = .slice (elems.map (·.1)) (rest.map (·.1)) := by rw [hx3]
    rw [this]
    have h1 := bulk_len (elems.map (·.1))
    rw [List.length_map] at h1
    simp only [Rows.uptoBulk]
    omega
theorem trod_ln (fuel : Nat) (cs : List Value) (x : DataW H × List MemPlace) (h : DataW.trod enc Tryz.prog W base sp held fuel 40 cs = some x) : ∃ e, LnAt W cs e ∧ levC e.cond ≤ Rows.uptoBulk x.1 ∧ e.sets.length ≤ Rows.uptoBulk x.1 := by
  obtain ⟨xs, n, hfn, hx, hl, hxl, hg⟩ := DataW.trod_struct Tryz.underlying40 h
  have hl : cs.length = 8 := hl.trans (by kernel_rfl)
  have hxl : xs.length = 5 := hxl
  match cs, hl, xs, hxl, hg, hx with
  | [c0, c1, c2, c3, c4, c5, c6, c7], _, [x0, x1, x2, x3, x4], _, hg, hx =>
    have g0 := trod_field hg 0 rfl (o := 0) rfl (z := 1) (by kernel_rfl) (vs := [c0]) rfl (xi := x0) rfl
    have g1 := trod_field hg 1 rfl (o := 1) rfl (z := 1) (by kernel_rfl) (vs := [c1]) rfl (xi := x1) rfl
    have g2 := trod_field hg 2 rfl (o := 2) rfl (z := 4) (by kernel_rfl) (vs := [c2, c3, c4, c5]) rfl (xi := x2) rfl
    have g3 := trod_field hg 3 rfl (o := 6) rfl (z := 1) (by kernel_rfl) (vs := [c6]) rfl (xi := x3) rfl
    have g4 := trod_field hg 4 rfl (o := 7) rfl (z := 1) (by kernel_rfl) (vs := [c7]) rfl (xi := x4) rfl
    obtain ⟨nd, e0⟩ := rd_str _ _ _ _ _ _ _ _ _ g0
    obtain ⟨pg, e1⟩ := rd_str _ _ _ _ _ _ _ _ _ g1
    obtain ⟨c, hc, hlc⟩ := trod_cond _ _ _ g2
    obtain ⟨af, va, e3, hsa, hla, hca⟩ := rd_texts _ _ _ _ _ _ _ _ _ g3
    obtain ⟨st, vs, e4, hss, hls, hcs, hst⟩ := rd_sets _ _ _ _ _ _ _ _ _ g4
    injection e0 with e0; injection e1 with e1; injection e3 with e3; injection e4 with e4
    subst e0; subst e1; subst e3; subst e4
    obtain ⟨v, us, e2, h1, h2⟩ := hc.cells
    injection e2 with a1 e2; injection e2 with a2 e2; injection e2 with a3 e2; injection e2 with a4 e2
    subst a1; subst a2; subst a3; subst a4
    have hx1 : x.1 = .agg [x0.1, x1.1, x2.1, x3.1, x4.1] := by rw [hx]; rfl
    have hsl : st.length ≤ Rows.uptoBulk x4.1 := by
      obtain ⟨a, cp, e, _⟩ := hss
      rw [e] at g4
      have := trod_len Tryz.underlying27 g4
      rwa [List.length_map] at this
    refine ⟨⟨nd, pg, c, af, st⟩, ⟨c5, c6, c7, rfl, hc, hsa, hss, hca, hcs, max63 ▸ hla, max63 ▸ hls, fun s hs => max63 ▸ hst s hs⟩, ?_, ?_⟩
    · rw [hx1]; simp only [Rows.uptoBulk, Rows.uptoBulkAll]; omega
    · rw [hx1]; simp only [Rows.uptoBulk, Rows.uptoBulkAll]; omega
theorem lns_bulk (hv : Value.okWide Tryz.prog W r b0 23 v) (k : DataW.Trod enc Tryz.prog W base sp held 23 v d p) : ∃ l : List Ln, Lns W v l ∧ (∀ e ∈ l, levC e.cond ≤ Rows.uptoBulk d ∧ e.sets.length ≤ Rows.uptoBulk d) := by
  obtain ⟨a, len, cap, rfl⟩ := okWide_slice Tryz.underlying23 hv
  obtain ⟨fuel, hf⟩ := k
  have hf : DataW.trod enc Tryz.prog W base sp held fuel 23 [.slice a len cap] = some (d, p) := hf
  rcases DataW.trod_slice Tryz.underlying23 hf with ⟨e3, hx⟩ | ⟨a, len, cap, elems, rest, m, hnm, e3, hx3, _, hle, hcap, hel, hi, _⟩
  · injection e3 with e3; injection e3 with e1 e2 e3
    subst e1; subst e2; subst e3
    exact ⟨[], ⟨⟨[], SlAt.nil W 8, rfl, fun i x e hx => by simp at hx⟩, capO.mk (Nat.le_refl _), Nat.zero_le _⟩, fun e he => by simp at he⟩
  · injection e3 with e3; injection e3 with e1 e2 e3
    subst e1; subst e2; subst e3
    have hz : Tryz.prog.cellsOf 40 = 8 := by kernel_rfl
    obtain ⟨ps, hpl, hps⟩ := list_of (p := fun i (q : List Value × Ln) => q.1.length = 8 ∧ (∀ j d, q.1[j]? = some d → W.cell? (a.add (i * 8 + j)) = some d) ∧ LnAt W q.1 q.2 ∧ ∃ y ∈ elems, levC q.2.cond ≤ Rows.uptoBulk y.1 ∧ q.2.sets.length ≤ Rows.uptoBulk y.1) len (fun i hlt => by
      have h1 := hi i hlt
      have hie : i < elems.length := hel.symm ▸ hlt
      have hei : elems[i]? = some elems[i] := List.getElem?_eq_getElem hie
      rw [hei, Option.bind_eq_some_iff] at h1
      obtain ⟨cs', hc1, hc2⟩ := h1
      rw [hz] at hc1
      obtain ⟨_, hcl, hat⟩ := World.cells?_some hc1
      obtain ⟨c, hcc, hlc⟩ := trod_ln m cs' _ hc2
      refine ⟨(cs', c), hcl, fun j d hj => ?_, hcc, elems[i], List.getElem_mem hie, hlc⟩
      have hjl : j < cs'.length := (List.getElem?_eq_some_iff.1 hj).1
      rw [← Go.Deep.add_add, hat j (by omega)]; exact hj)
    have hd : d = .slice (elems.map (·.1)) (rest.map (·.1)) := by
      have := congrArg Prod.fst hx3
      exact this
    refine ⟨ps.map (·.2), Lns.of (xs := ps.map (·.1)) (slAt_of (a := a) (len := len) (cap := cap) (by decide) (by simp [hpl]) ?_) (by simp) ?_ hle (by rw [max63] at hcap; simp; omega), ?_⟩
    · intro i x hx
      rw [List.getElem?_map] at hx
      cases hq : ps[i]? with
      | none => simp [hq] at hx
      | some q => simp [hq] at hx; subst hx; exact ⟨(hps i q hq).1, (hps i q hq).2.1⟩
    · intro i x e hx he
      rw [List.getElem?_map] at hx he
      cases hq : ps[i]? with
      | none => simp [hq] at hx
      | some q => simp [hq] at hx he; subst hx; subst he; exact (hps i q hq).2.2.1
    · intro e he
      obtain ⟨q, hq, rfl⟩ := List.mem_map.1 he
      obtain ⟨i, hqi⟩ := List.getElem?_of_mem hq
      obtain ⟨_, _, _, y, hy, h1, h2⟩ := hps i q hqi
      have hb := bulk_part (List.mem_map.2 ⟨y, hy, rfl⟩ : y.1 ∈ elems.map (·.1))
      rw [hd]
      simp only [Rows.uptoBulk]
      omega
end
end Go.Proofs.YtknfankadlokhaaGreatDoor
