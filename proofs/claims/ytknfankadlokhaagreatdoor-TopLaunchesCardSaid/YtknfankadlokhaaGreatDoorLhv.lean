/- What the readings of a launch description's arguments tell; the lifts that keep the start's shape. No conditions. -/
import Derived.Test.YtknfankadlokhaaGreatDoorLcm
import Derived.Test.YtknfankadlokhaaGreatDoorMD
import Derived.Test.YtknfankadlokhaaGreatDoorRows
import Derived.JoinedCond
import Derived.Handed

namespace Go.Proofs.YtknfankadlokhaaGreatDoor
open Go.RowKit Go.ChangeShapes Go.WideShapes Go.Deep
set_option maxRecDepth 100000
set_option linter.unusedVariables false
set_option linter.unusedSimpArgs false

theorem returns_shape {H : Type} {enc : TypeId × Value → H} {a : Assume} {C : Checked} {os : Os} {f : FuncId} {fn : Func} {s : ChangeSpec} {conds : List PathCond} {apart fresh handsOn again : Bool}
    (own : ownKnob C.prog.godebug = none) (started : os.Started) (noInit : C.prog.inits.idxOf? f = none) (hfn : C.prog.funcs[f]? = some fn)
    (witness : ∃ (w : World) (tape : Tape) (i : Input), w.os = os ∧ (w.forCall tape i).Shaped C.prog ∧ i.vars = [] ∧ Input.okWide C.prog (w.forCall tape i) .any w.heap.size f i ∧
      s.pre6 enc C.prog fn conds apart (w.forCall tape i).memory i.args ∧ a.holds C.prog (lone (Frame.enter C.prog f i.args .normal) [] (w.forCall tape i)))
    (contract : ∀ (W : World) (base : Nat) (args : Array Value) (ds gs : List (DataW H)) (before : List MemPlace), W.ShapedOpen C.prog →
      (∀ (j : Nat) t v, fn.params[j]? = some t → args[j]? = some v → Value.okWide C.prog W .any base t v) →
      DataW.Whole enc C.prog fn.params.toList s.vars apart W args.toList ds gs before →
      conds.all (PathCond.test C.prog ⟨fn.params.toList, ds, s.plain.varTypes C.prog, gs⟩) = true →
      a.holds C.prog (lone (Frame.enter C.prog f args .normal) [] W) →
      Calls C.prog f args W fun e W' => ∃ v, e = .returned v ∧ s.post enc C.prog fn apart fresh handsOn again W args v W') :
    ReturnsInHanded a C os f .any (s.pre6 enc C.prog fn conds apart) (s.post enc C.prog fn apart fresh handsOn again) := by
  refine returnsInHanded_of_calls own started noInit witness ?_
  intro w tape i _ hsh _ hok hpre hholds
  obtain ⟨_, _, _, fn', hfn', _, _, _, _, hval⟩ := hok
  have e : fn' = fn := Option.some.inj (hfn'.symm.trans hfn)
  subst e
  obtain ⟨⟨ds, gs, before, hw, hc⟩, _⟩ := hpre
  have hw' := DataW.Whole.of_heap (w' := w.forCall tape i) (by rfl) hw
  refine (contract (w.forCall tape i) w.heap.size i.args ds gs before hsh hval hw' hc hholds).mono fun e W' ⟨v, he, hp⟩ => ?_
  subst he
  exact ChangeSpec.post_blind hp
theorem returns_cond_shape {H : Type} {enc : TypeId × Value → H} {a : Assume} {C : Checked} {os : Os} {f : FuncId} {fn : Func} {s : OpenSpec} {k : (H : Type) → List (DataW H) → Bool} (hk : s.cond = some k) {F : Stop.Interp} {conds : List PathCond} {apart fresh handsOn again : Bool}
    (own : ownKnob C.prog.godebug = none) (started : os.Started) (noInit : C.prog.inits.idxOf? f = none) (hfn : C.prog.funcs[f]? = some fn)
    (witness : ∃ (w : World) (tape : Tape) (i : Input), w.os = os ∧ (w.forCall tape i).Shaped C.prog ∧ i.vars = [] ∧ Input.okWide C.prog (w.forCall tape i) .any w.heap.size f i ∧
      s.pre6 enc C.prog fn conds apart (w.forCall tape i).memory i.args ∧ a.holds C.prog (lone (Frame.enter C.prog f i.args .normal) [] (w.forCall tape i)))
    (contract : ∀ (W : World) (base : Nat) (args : Array Value) (ds gs : List (DataW H)) (before : List MemPlace), W.ShapedOpen C.prog →
      (∀ (j : Nat) t v, fn.params[j]? = some t → args[j]? = some v → Value.okWide C.prog W .any base t v) →
      DataW.Whole enc C.prog fn.params.toList s.vars apart W args.toList ds gs before →
      conds.all (PathCond.test C.prog ⟨fn.params.toList, ds, s.bare.plain.varTypes C.prog, gs⟩) = true → k H (ds ++ gs) = true →
      a.holds C.prog (lone (Frame.enter C.prog f args .normal) [] W) →
      Calls C.prog f args W fun e W' => ∃ v, e = .returned v ∧ (s.at F).post enc C.prog fn apart fresh handsOn again W args v W') :
    ReturnsInHanded a C os f .any (s.pre6 enc C.prog fn conds apart) ((s.at F).post enc C.prog fn apart fresh handsOn again) := by
  refine returnsInHanded_of_calls own started noInit witness ?_
  intro w tape i _ hsh _ hok hpre hholds
  obtain ⟨_, _, _, fn', hfn', _, _, _, _, hval⟩ := hok
  have e : fn' = fn := Option.some.inj (hfn'.symm.trans hfn)
  subst e
  obtain ⟨ds, gs, before, hw, hc, hkk⟩ := (OpenSpec.pre_some hk conds apart _ _).1 hpre.1
  have hw' := DataW.Whole.of_heap (w' := w.forCall tape i) (by rfl) hw
  refine (contract (w.forCall tape i) w.heap.size i.args ds gs before hsh hval hw' hc hkk hholds).mono fun e W' ⟨v, he, hp⟩ => ?_
  subst he
  exact ChangeSpec.post_blind hp
theorem mx_of {W : World} (h : W.ShapedOpen Tryz.prog) : Mx W := by
  obtain ⟨n, fz, hh⟩ := int_of_shape (g := 1) (t := 3) (zero := #[.int .i64 0]) h (of_decide_eq_true (by kernel_rfl)) (by kernel_rfl) rfl (by kernel_rfl) (by kernel_rfl) Tryz.underlying3
  exact ⟨n, _, _, hh⟩
theorem max63 : maxLen = 9223372036854775807 := by decide
theorem bulk_one {H : Type} (d : DataW H) : 1 ≤ Rows.uptoBulk d := by
  cases d with
  | lit l => cases l <;> simp [Rows.uptoBulk]
  | nil => simp [Rows.uptoBulk]
  | ptr d => simp [Rows.uptoBulk]
  | slice elems spare => simp [Rows.uptoBulk]
  | agg parts => simp [Rows.uptoBulk]
  | iface t d => simp [Rows.uptoBulk]
  | map entries => simp [Rows.uptoBulk]
  | held h => simp [Rows.uptoBulk]
theorem bulk_part {H : Type} {d : DataW H} {l : List (DataW H)} (h : d ∈ l) : Rows.uptoBulk d ≤ Rows.uptoBulkAll l := by
  induction l with
  | nil => cases h
  | cons x r ih =>
    simp only [Rows.uptoBulkAll]
    cases List.mem_cons.1 h with
    | inl e => subst e; omega
    | inr e => have := ih e; omega
theorem levCs_bound {B : Nat} : ∀ {l : List Cn}, (∀ a ∈ l, levC a ≤ B) → levCs l ≤ B
  | [], _ => by rw [levCs]; omega
  | a :: l, h => by
    rw [levCs]
    have h1 := h a List.mem_cons_self
    have h2 := levCs_bound (l := l) (fun b hb => h b (List.mem_cons_of_mem _ hb))
    omega
section
variable {H : Type} {enc : TypeId × Value → H} {W : World} {b0 base : Nat} {r : Reach} {sp : Nat → Bool} {held : Bool} {v : Value} {d : DataW H} {p : List MemPlace}
theorem trod_field {P : Program} {fs : Array Field} {cs vs : List Value} {xs : List (DataW H × List MemPlace)} {n : Nat} {xi : DataW H × List MemPlace}
    (hg : ∀ (i : Nat) (f : Field), fs[i]? = some f → DataW.trod enc P W base sp held n f.type ((cs.drop f.offset).take (P.cellsOf f.type)) = xs[i]?) (i : Nat) {f : Field} (hf : fs[i]? = some f) {o z : Nat} (ho : f.offset = o) (hz : P.cellsOf f.type = z) (hv : (cs.drop o).take z = vs) (hx : xs[i]? = some xi) :
    DataW.trod enc P W base sp held n f.type vs = some xi := by
  have := hg i f hf
  rw [ho, hz, hv, hx] at this
  exact this
theorem trod_cond : ∀ (fuel : Nat) (cs : List Value) (x : DataW H × List MemPlace), DataW.trod enc Tryz.prog W base sp held fuel 38 cs = some x → ∃ c, CondAt W c cs ∧ levC c ≤ Rows.uptoBulk x.1 := by
  intro fuel
  induction fuel using Nat.strongRecOn with
  | ind fuel ih =>
  intro cs x h
  obtain ⟨xs, n, hfn, hx, hl, hxl, hg⟩ := DataW.trod_struct Tryz.underlying38 h
  have hl : cs.length = 4 := hl.trans (by kernel_rfl)
  have hxl : xs.length = 4 := hxl
  match cs, hl, xs, hxl, hg, hx with
  | [c0, c1, c2, c3], _, [x0, x1, x2, x3], _, hg, hx =>
    have g0 := trod_field hg 0 rfl (o := 0) rfl (z := 1) (by kernel_rfl) (vs := [c0]) rfl (xi := x0) rfl
    have g1 := trod_field hg 1 rfl (o := 1) rfl (z := 1) (by kernel_rfl) (vs := [c1]) rfl (xi := x1) rfl
    have g2 := trod_field hg 2 rfl (o := 2) rfl (z := 1) (by kernel_rfl) (vs := [c2]) rfl (xi := x2) rfl
    have g3 := trod_field hg 3 rfl (o := 3) rfl (z := 1) (by kernel_rfl) (vs := [c3]) rfl (xi := x3) rfl
    obtain ⟨op, e0, _⟩ := DataW.trod_int Tryz.underlying3 g0
    obtain ⟨⟨⟨nm⟩⟩, e1, _, _⟩ := DataW.trod_string Tryz.underlying9 g1
    obtain ⟨⟨⟨tx⟩⟩, e2, _, htx⟩ := DataW.trod_string Tryz.underlying9 g2
    injection e0 with e0; injection e1 with e1; injection e2 with e2
    subst e0; subst e1; subst e2
    have htx : tx.length ≤ 9223372036854775807 := max63 ▸ htx
    have hx1 : x.1 = .agg [x0.1, x1.1, x2.1, x3.1] := by rw [hx]; rfl
    rw [hx1]
    rcases DataW.trod_slice Tryz.underlying36 g3 with ⟨e3, hx3⟩ | ⟨a, len, cap, elems, rest, m, hnm, e3, hx3, _, hle, hcap, hel, hi, _⟩
    · injection e3 with e3
      subst e3
      refine ⟨.mk op nm tx [], CondAt.mk_ (c := .mk op nm tx []) (SlAt.nil W 4) (by show CondsAt W [] []; rw [CondsAt]) htx (by simp [Cn.args]), ?_⟩
      rw [levC, levCs]
      simp only [Rows.uptoBulk]; omega
    · injection e3 with e3
      subst e3
      have hz : Tryz.prog.cellsOf 38 = 4 := by kernel_rfl
      obtain ⟨ps, hpl, hps⟩ := list_of (p := fun i (q : List Value × Cn) => q.1.length = 4 ∧ (∀ j d, q.1[j]? = some d → W.cell? (a.add (i * 4 + j)) = some d) ∧ CondAt W q.2 q.1 ∧ ∃ y ∈ elems, levC q.2 ≤ Rows.uptoBulk y.1) len (fun i hlt => by
        have h1 := hi i hlt
        have hei : elems[i]? = some elems[i] := List.getElem?_eq_getElem (by omega)
        rw [hei, Option.bind_eq_some_iff] at h1
        obtain ⟨cs', hc1, hc2⟩ := h1
        rw [hz] at hc1
        obtain ⟨_, hcl, hat⟩ := World.cells?_some hc1
        obtain ⟨c, hcc, hlc⟩ := ih m (by omega) cs' _ hc2
        refine ⟨(cs', c), hcl, fun j d hj => ?_, hcc, elems[i], List.getElem_mem (by omega), hlc⟩
        have hjl : j < cs'.length := (List.getElem?_eq_some_iff.1 hj).1
        rw [← Go.Deep.add_add, hat j (by omega)]; exact hj)
      refine ⟨.mk op nm tx (ps.map (·.2)), ?_, ?_⟩
      · refine CondAt.mk_ (c := .mk op nm tx (ps.map (·.2))) (xs := ps.map (·.1)) (slAt_of (a := a) (len := len) (cap := cap) (by decide) (by simp [hpl]) ?_) (CondsAt.of (by simp [Cn.args]) ?_) htx (by rw [max63] at hcap; simp [Cn.args]; omega)
        · intro i x hx
          rw [List.getElem?_map] at hx
          cases hq : ps[i]? with
          | none => simp [hq] at hx
          | some q => simp [hq] at hx; subst hx; exact ⟨(hps i q hq).1, (hps i q hq).2.1⟩
        · intro i c x hc hx
          change (ps.map (·.2))[i]? = some c at hc
          rw [List.getElem?_map] at hc hx
          cases hq : ps[i]? with
          | none => simp [hq] at hx
          | some q => simp [hq] at hx hc; subst hx; subst hc; exact (hps i q hq).2.2.1
      · rw [levC]
        have hb : levCs (ps.map (·.2)) ≤ Rows.uptoBulkAll (elems.map (·.1)) := levCs_bound fun c hc => by
          obtain ⟨q, hq, rfl⟩ := List.mem_map.1 hc
          obtain ⟨i, hqi⟩ := List.getElem?_of_mem hq
          obtain ⟨_, _, _, y, hy, hle⟩ := hps i q hqi
          exact Nat.le_trans hle (bulk_part (List.mem_map.2 ⟨y, hy, rfl⟩))
        have hx31 : x3.1 = .slice (elems.map (·.1)) (rest.map (·.1)) := by rw [hx3]
        rw [hx31]
        simp only [Rows.uptoBulk, Rows.uptoBulkAll]
        omega
theorem cond_of (hv : Value.okWide Tryz.prog W r b0 38 v) (k : DataW.Trod enc Tryz.prog W base sp held 38 v d p) : ∃ c cs, v = .agg ⟨cs⟩ ∧ CondAt W c cs ∧ levC c ≤ Rows.uptoBulk d := by
  obtain ⟨cs, rfl, _⟩ := okWide_struct Tryz.underlying38 hv
  obtain ⟨fuel, hf⟩ := k
  obtain ⟨l⟩ := cs
  obtain ⟨c, h1, h2⟩ := trod_cond fuel _ _ hf
  exact ⟨c, l, rfl, h1, h2⟩
theorem rd_sg : Rd Tryz.prog 57 (fun _ cs (s : Sg) => cs = sgC s ∧ s.2.length ≤ maxLen) := by
  intro H enc w base spare held fuel cs x h
  obtain ⟨xs, n, hfn, hx, hl, hxl, hg⟩ := DataW.trod_struct Tryz.underlying57 h
  have hl : cs.length = 2 := hl.trans (by kernel_rfl)
  have hxl : xs.length = 2 := hxl
  match cs, hl, xs, hxl, hg with
  | [c0, c1], _, [x0, x1], _, hg =>
    have g0 := trod_field hg 0 rfl (o := 0) rfl (z := 1) (by kernel_rfl) (vs := [c0]) rfl (xi := x0) rfl
    have g1 := trod_field hg 1 rfl (o := 1) rfl (z := 1) (by kernel_rfl) (vs := [c1]) rfl (xi := x1) rfl
    obtain ⟨⟨⟨nm⟩⟩, e1, _, _⟩ := DataW.trod_string Tryz.underlying9 g0
    obtain ⟨⟨⟨tx⟩⟩, e2, _, htx⟩ := DataW.trod_string Tryz.underlying9 g1
    injection e1 with e1; injection e2 with e2
    subst e1; subst e2
    exact ⟨(nm, tx), rfl, htx⟩
theorem args_of (hv : Value.okWide Tryz.prog W r b0 27 v) (k : DataW.Trod enc Tryz.prog W base sp held 27 v d p) : ∃ g : List Sg, SlAt W v 2 (g.map sgC) ∧ g.length ≤ 9223372036854775807 ∧ ∀ s ∈ g, s.2.length ≤ 9223372036854775807 := by
  obtain ⟨a, len, cap, rfl⟩ := okWide_slice Tryz.underlying27 hv
  obtain ⟨g, u, e, hs, hm⟩ := (rd_slice (z := 2) Tryz.underlying27 (by kernel_rfl) (by decide) rd_sg).of_trod k
  injection e with e
  subst e
  refine ⟨g, hs.at (fun x a hx => hx.1), max63 ▸ hm, fun s hsg => ?_⟩
  obtain ⟨i, hi⟩ := List.getElem?_of_mem hsg
  obtain ⟨x, _, h2⟩ := hs.each hi
  exact max63 ▸ h2
end
end Go.Proofs.YtknfankadlokhaaGreatDoor
