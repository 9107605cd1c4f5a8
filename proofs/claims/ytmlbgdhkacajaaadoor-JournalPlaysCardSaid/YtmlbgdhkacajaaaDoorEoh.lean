/- Calls of function values: a closure's captured values come behind its arguments. No conditions. -/
import Derived.Test.YtmlbgdhkacajaaaDoorEnw
namespace Go.Proofs.YtmlbgdhkacajaaaDoor
open Go.RowKit
set_option linter.unusedVariables false
set_option linter.unusedSimpArgs false
section
variable {T : Tys} {P : Program} {n : Nat} {ops : Array Oper} {Q : Exit → Act → World → Prop} {L L' : Fr} {w w' w0 : World} {rest : List Oper} {ty t t' : TypeId} {xo yo zo : Operand}
  {Sx : Nat → Prop} {H : List (Nat × Obj)} {pos : String} {af : Array Edge} {g : Option (Nat × Bool)} {c : Code}
theorem run_callV {a : Act} {f : FuncId} {xs : List Operand} {vs caps : List Value} (hf : callB P f = true) (ho : opd L xo = some (.func (.func f) ⟨[]⟩ ⟨caps⟩)) (hx : opds L xs = some vs) (ha : Fits n L a) {at_ : Array TypeId} {dst : Option Tmp} :
    (execOp a.eval ⟨dst, .call ⟨.value xo, ⟨xs⟩, at_⟩, ty, pos, af, g⟩).run P w = .ok (.enter f ⟨vs ++ caps⟩) w := by
  have hm := opds_spec hx ha
  have he0 := ha.eval ho
  unfold callB at hf
  cases hfn : P.funcs[f]? with
  | none => simp [hfn] at hf
  | some fn =>
    simp only [hfn, Bool.and_eq_true, Bool.not_eq_true', Option.isSome_iff_exists] at hf
    obtain ⟨⟨b, hb⟩, hname⟩ := hf
    have hname' : ¬ (fn.name = "runtime.NumGoroutine") := by simpa using hname
    have he : (execOp a.eval ⟨dst, .call ⟨.value xo, ⟨xs⟩, at_⟩, ty, pos, af, g⟩) = callFunc f (⟨vs⟩ ++ ⟨caps⟩) := by
      simp only [execOp, resolve, he0, Deferred.ofValue]
      have : (Array.map a.eval ⟨xs⟩) = ⟨vs⟩ := by rw [← hm]; simp
      rw [this]
      simp [invoke]
    rw [he]
    simp [callFunc, hfn, hname', hb]
theorem WL_callV {d : Nat} {f : FuncId} {xs : List Operand} {vs caps : List Value} {R : Value → World → Prop} {at_ : Array TypeId} (hf : callB P f = true) (ho : opd L xo = some (.func (.func f) ⟨[]⟩ ⟨caps⟩)) (hx : opds L xs = some vs) (hg : wantB ops g L = some true) (hn : Nat.blt d n = true)
    (hc : Cl P f (vs ++ caps) w R) (k : ∀ v w', R v w' → WL P n ops Q rest ((d, v) :: L) w') : WL P n ops Q (⟨some d, .call ⟨.value xo, ⟨xs⟩, at_⟩, ty, pos, af, g⟩ :: rest) L w := by
  refine ⟨fun a ha => ?_⟩
  unfold wpList
  rw [wantB_spec (o := ⟨some d, .call ⟨.value xo, ⟨xs⟩, at_⟩, ty, pos, af, g⟩) hg ha, if_pos rfl]
  refine .inl ?_
  unfold Oper.wp
  rw [run_callV hf ho hx ha, Oper.upon_enter]
  refine Calls.mono hc.run ?_
  rintro e w' ⟨v, rfl, hr⟩
  exact (k v w' hr).run _ (ha.put hn v)
theorem QL_callV {C : World → Prop} {K : Act → Prop} {d : Nat} {f : FuncId} {xs : List Operand} {vs caps : List Value} {v : Value} {at_ : Array TypeId} (hf : callB P f = true) (ho : opd L xo = some (.func (.func f) ⟨[]⟩ ⟨caps⟩)) (hx : opds L xs = some vs) (hg : wantB ops g L = some true) (hn : Nat.blt d n = true)
    (hc : ∀ w, C w → Cl P f (vs ++ caps) w (fun r w' => r = v ∧ C w')) (k : QL P n ops C K rest ((d, v) :: L)) : QL P n ops C K (⟨some d, .call ⟨.value xo, ⟨xs⟩, at_⟩, ty, pos, af, g⟩ :: rest) L := by
  refine ⟨fun a ha => ?_⟩
  unfold wpQuiet
  rw [wantB_spec (o := ⟨some d, .call ⟨.value xo, ⟨xs⟩, at_⟩, ty, pos, af, g⟩) hg ha, if_pos rfl]
  refine ⟨v, fun w hw => ?_, k.run _ (ha.put hn v)⟩
  unfold Oper.quietAt
  rw [run_callV hf ho hx ha]
  refine ⟨rfl, Calls.mono (hc w hw).run ?_⟩
  rintro e w' ⟨u, rfl, rfl, hu⟩
  exact ⟨rfl, hu⟩
theorem Ev_makeFunc {f : FuncId} {xs : List Operand} {vs : List Value} (hx : opds L xs = some vs) : Ev P L (.makeFunc (.func f) #[] ⟨xs⟩) ty w (.func (.func f) ⟨[]⟩ ⟨vs⟩) w := by
  refine ⟨fun n a ha _ _ _ _ => ?_⟩
  have hm := opds_spec hx ha
  have : (Array.map a.eval ⟨xs⟩) = ⟨vs⟩ := by rw [← hm]; simp
  simp [execOp, Instr.makeFunc, this]
end
end Go.Proofs.YtmlbgdhkacajaaaDoor
