/- Rows whose package-level variables are listed: the lift that keeps the start's shape; a variable of one number; a table of pairs of numbers. No conditions. -/
import Derived.Test.YtmlbgdhkacajaaaDoorRd
import Derived.Handed
import Derived.LaidMore
import Derived.Lay
import Derived.Stop.Joined
import Derived.ChangeSame
namespace Go.Proofs.YtmlbgdhkacajaaaDoor
open Go.RowKit Go.ChangeShapes Go.WideShapes Go.Deep
set_option linter.unusedVariables false
set_option linter.unusedSimpArgs false

theorem returns_of_laid {H : Type} {enc : TypeId × Value → H} {a : Assume} {C : Checked} {os : Os} {f : FuncId} {fn : Func} {s : ChangeSpec} {conds : List PathCond} {apart fresh handsOn again : Bool} {L : List (String × DataW Unit)}
    (own : ownKnob C.prog.godebug = none) (started : os.Started) (noInit : C.prog.inits.idxOf? f = none) (hfn : C.prog.funcs[f]? = some fn)
    (witness : ∃ (w : World) (tape : Tape) (i : Input), w.os = os ∧ (w.forCall tape i).Shaped C.prog ∧ i.vars = [] ∧ Input.okWide C.prog (w.forCall tape i) .any w.heap.size f i ∧
      ((s.pre enc C.prog fn conds apart (w.forCall tape i).memory i.args ∧ laidMetH C.prog L (w.forCall tape i).memory) ∧ sizedMet enc C.prog fn (OpenSpec.ofChange s) apart (w.forCall tape i).memory i.args) ∧ a.holds C.prog (lone (Frame.enter C.prog f i.args .normal) [] (w.forCall tape i)))
    (contract : ∀ (W : World) (base : Nat) (args : Array Value) (ds gs : List (DataW H)) (before : List MemPlace), W.ShapedOpen C.prog →
      (∀ (j : Nat) t v, fn.params[j]? = some t → args[j]? = some v → Value.okWide C.prog W .any base t v) →
      DataW.Whole enc C.prog fn.params.toList s.vars apart W args.toList ds gs before →
      conds.all (PathCond.test C.prog ⟨fn.params.toList, ds, s.plain.varTypes C.prog, gs⟩) = true →
      (DataW.weightsEach C.prog (fn.params.toList ++ s.plain.varTypes C.prog) (ds ++ gs)).all (· ≤ reachBytes) = true → laidMetH C.prog L W →
      a.holds C.prog (lone (Frame.enter C.prog f args .normal) [] W) →
      Calls C.prog f args W fun e W' => ∃ v, e = .returned v ∧ s.post enc C.prog fn apart fresh handsOn again W args v W') :
    ReturnsInHanded a C os f .any (fun w args => (s.pre enc C.prog fn conds apart w args ∧ laidMetH C.prog L w) ∧ sizedMet enc C.prog fn (OpenSpec.ofChange s) apart w args) (s.post enc C.prog fn apart fresh handsOn again) := by
  refine returnsInHanded_of_calls own started noInit witness ?_
  intro w tape i _ hsh _ hok hpre hholds
  obtain ⟨_, _, _, fn', hfn', _, _, _, _, hval⟩ := hok
  have e : fn' = fn := Option.some.inj (hfn'.symm.trans hfn)
  subst e
  obtain ⟨⟨⟨ds, gs, before, hw, hc⟩, hx⟩, hz⟩ := hpre
  have hw' := DataW.Whole.of_heap (w' := w.forCall tape i) (by rfl) hw
  refine (contract (w.forCall tape i) w.heap.size i.args ds gs before hsh hval hw' hc (hz.weights hw) (hx.of_heap (by rfl)) hholds).mono fun e W' ⟨v, he, hp⟩ => ?_
  subst he
  exact ChangeSpec.post_blind hp
/-- a variable of one number holds some number -/
theorem int_of_shape {P : Program} {w : World} {g : Nat} {t : TypeId} {k : IntKind} {zero : Array Value} (h : w.ShapedOpen P) (hg : g < P.globals.size)
    (h0 : ((begin P (fun _ _ => 0) default).world.heap[g]?).bind Obj.row? = some (zero, t)) (hz : zero.size = 1)
    (hb : P.buildable t = true) (hc : P.cellTypes P.depth t = some [t]) (hu : P.underlying t = some (.int k)) : ∃ (n : Int) (fz : Nat × Nat), w.heap[g]? = some (.cells ⟨[.int k n]⟩ t fz) := by
  obtain ⟨cs, hh, hs, hr⟩ := h.1 g zero t hg h0
  obtain ⟨ts, hts, _, hall⟩ := hr hb
  rw [hc] at hts
  cases hts
  obtain ⟨l⟩ := cs
  have hs1 : l.length = 1 := by simpa [hz] using hs
  match l, hs1 with
  | [c], _ =>
    obtain ⟨u, hu', hok⟩ := hall 0 c rfl
    have : u = t := by simpa using hu'.symm
    subst this
    unfold Cell.ok at hok
    rw [hu] at hok
    cases c with
    | int k' n => obtain ⟨rfl, _⟩ := hok; exact ⟨n, _, hh⟩
    | _ => exact absurd hok (by simp)
/-- rows of two -/
theorem pairs_flat {α : Type} {f : α → List Value} : ∀ (ds : List α) (cs : List Value), (∀ a, (f a).length = 2) → cs.length = 2 * ds.length → (∀ (i : Nat) (d : α), ds[i]? = some d → (cs.drop (i * 2)).take 2 = f d) → cs = ds.flatMap f
  | [], cs, _, hl, _ => by simpa using hl
  | d :: ds, cs, hf, hl, h => by
    have h0 := h 0 d rfl
    rw [Nat.zero_mul, List.drop_zero] at h0
    have ih := pairs_flat ds (cs.drop 2) hf (by rw [List.length_drop, hl, List.length_cons]; omega) (fun i x hx => by
      have := h (i + 1) x (by simpa using hx)
      rw [List.drop_drop]
      rwa [show (i + 1) * 2 = 2 + i * 2 by omega] at this)
    rw [List.flatMap_cons, ← ih, ← h0, List.take_append_drop]
/-- a table of pairs of numbers is laid out pair by pair -/
theorem trod_pairs {P : Program} {H : Type} {enc : TypeId × Value → H} {w : World} {base : Nat} {sp : Nat → Bool} {held : Bool} {fuel : Nat} {t e : TypeId} {n : Nat} {f0 f1 : Field} {k : IntKind} {cs : List Value} {p : List MemPlace} {ds : List (Int × Int)}
    (ht : P.underlying t = some (.array n e)) (he : P.underlying e = some (.struct #[f0, f1])) (ho : f0.offset = 0 ∧ f1.offset = 1) (hk0 : P.underlying f0.type = some (.int k)) (hk1 : P.underlying f1.type = some (.int k))
    (hc : P.cellsOf f0.type = 1 ∧ P.cellsOf f1.type = 1) (he2 : P.cellsOf e = 2) (hct : P.cellsOf t = 2 * n)
    (h : DataW.trod enc P w base sp held fuel t cs = some (.agg (ds.map fun d => .agg [.lit (.int k d.1), .lit (.int k d.2)]), p)) : cs = ds.flatMap fun d => [.int k d.1, .int k d.2] := by
  obtain ⟨xs, m, _, ex, hl, hxl, hel⟩ := DataW.trod_array ht h
  simp only [Prod.mk.injEq, DataW.agg.injEq] at ex
  have hdl : ds.length = n := by
    have := congrArg List.length ex.1
    simpa [hxl] using this
  refine pairs_flat ds cs (fun _ => rfl) (by omega) (fun i d hd => ?_)
  have hi : i < n := by rw [← hdl]; exact (List.getElem?_eq_some_iff.1 hd).1
  have hE := hel i hi
  rw [he2, List.getElem?_eq_getElem (by omega)] at hE
  obtain ⟨y0, y1, m2, hx, hcl, h0, h1⟩ := trod_struct2 he hE
  have e1 : (xs.map (·.1))[i]? = (ds.map fun d => (DataW.agg [.lit (.int k d.1), .lit (.int k d.2)] : DataW H))[i]? := by rw [ex.1]
  rw [List.getElem?_map, List.getElem?_map, List.getElem?_eq_getElem (by omega : i < xs.length), hd, hx] at e1
  simp only [Option.map_some, Option.some.injEq, DataW.agg.injEq, List.cons.injEq, and_true] at e1
  rw [ho.1, hc.1] at h0
  rw [ho.2, hc.2] at h1
  obtain ⟨z0, a1, a2, _⟩ := DataW.trod_int hk0 h0
  obtain ⟨z1, b1, b2, _⟩ := DataW.trod_int hk1 h1
  subst a2; subst b2
  have q0 : z0 = d.1 := by simpa using e1.1
  have q1 : z1 = d.2 := by simpa using e1.2
  subst q0; subst q1
  have hlen : ((cs.drop (i * 2)).take 2).length = 2 := hcl.trans he2
  generalize (cs.drop (i * 2)).take 2 = l at *
  match l, hlen with
  | [c0, c1], _ =>
    simp at a1 b1
    rw [a1, b1]
end Go.Proofs.YtmlbgdhkacajaaaDoor
