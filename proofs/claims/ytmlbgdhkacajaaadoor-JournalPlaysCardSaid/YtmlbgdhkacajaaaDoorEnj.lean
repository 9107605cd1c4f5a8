/- Calls, statements that draw their order, labels, a function's two ends: the last of the rules with which this claim's walks are made. No conditions. -/
import Derived.Test.YtmlbgdhkacajaaaDoorEni
namespace Go.Proofs.YtmlbgdhkacajaaaDoor
open Go.RowKit
set_option linter.unusedVariables false
set_option linter.unusedSimpArgs false
set_option linter.unusedSectionVars false

section
variable {T : Tys} {P : Program} {n : Nat} {ops : Array Oper} {Q : Exit → Act → World → Prop} {L L' : Fr} {w w' w0 : World} {rest : List Oper} {ty t t' : TypeId} {xo yo zo : Operand}
  {Sx : Nat → Prop} {H : List (Nat × Obj)} {pos : String} {af : Array Edge} {g : Option (Nat × Bool)} {c : Code}

/-! ## Calls -/

/-- the call returns a value, and R holds of it and of the world behind -/
structure Cl (P : Program) (f : FuncId) (args : List Value) (w : World) (R : Value → World → Prop) : Prop where
  run : Calls P f ⟨args⟩ w (fun e w' => ∃ v, e = .returned v ∧ R v w')

theorem Cl.mono {f : FuncId} {args : List Value} {R R' : Value → World → Prop} (h : Cl P f args w R) (k : ∀ v w', R v w' → R' v w') : Cl P f args w R' :=
  ⟨Calls.mono h.run (fun e w' ⟨v, he, hr⟩ => ⟨v, he, k v w' hr⟩)⟩

def opds (L : Fr) : List Operand → Option (List Value)
  | [] => some []
  | x :: xs => match opd L x, opds L xs with
    | some v, some vs => some (v :: vs)
    | _, _ => none

theorem opds_spec {xs : List Operand} {vs : List Value} (h : opds L xs = some vs) {a : Act} (ha : Fits n L a) : xs.map a.eval = vs := by
  induction xs generalizing vs with
  | nil => simp only [opds, Option.some.injEq] at h; subst h; rfl
  | cons x xs ih =>
    simp only [opds] at h
    split at h
    · rename_i v us hv hus
      injection h with h; subst h
      simp [ha.eval hv, ih hus]
    · cases h

theorem run_call {a : Act} {f : FuncId} {xs : List Operand} {vs : List Value} (hf : callB P f = true) (hx : opds L xs = some vs) (ha : Fits n L a) {at_ : Array TypeId} {dst : Option Tmp} :
    (execOp a.eval ⟨dst, .call ⟨.value (.func f), ⟨xs⟩, at_⟩, ty, pos, af, g⟩).run P w = .ok (.enter f ⟨vs⟩) w := by
  have hm := opds_spec hx ha
  unfold callB at hf
  cases hfn : P.funcs[f]? with
  | none => simp [hfn] at hf
  | some fn =>
    simp only [hfn, Bool.and_eq_true, Bool.not_eq_true', Option.isSome_iff_exists] at hf
    obtain ⟨⟨b, hb⟩, hname⟩ := hf
    have hname' : ¬ (fn.name = "runtime.NumGoroutine") := by simpa using hname
    have he : (execOp a.eval ⟨dst, .call ⟨.value (.func f), ⟨xs⟩, at_⟩, ty, pos, af, g⟩) = callFunc f (⟨vs⟩ ++ #[]) := by
      simp only [execOp, resolve, Act.eval, Deferred.ofValue]
      have : (Array.map a.eval ⟨xs⟩) = ⟨vs⟩ := by rw [← hm]; simp
      rw [this]
      show invoke (Target.fn (Fn.func f) #[]) (#[] ++ ⟨vs⟩) = _
      simp [invoke]
    rw [he]
    simp [callFunc, hfn, hname', hb]

theorem WL_call {d : Nat} {f : FuncId} {xs : List Operand} {vs : List Value} {R : Value → World → Prop} {at_ : Array TypeId} (hf : callB P f = true) (hx : opds L xs = some vs) (hg : wantB ops g L = some true) (hn : Nat.blt d n = true)
    (hc : Cl P f vs w R) (k : ∀ v w', R v w' → WL P n ops Q rest ((d, v) :: L) w') : WL P n ops Q (⟨some d, .call ⟨.value (.func f), ⟨xs⟩, at_⟩, ty, pos, af, g⟩ :: rest) L w := by
  refine ⟨fun a ha => ?_⟩
  unfold wpList
  rw [wantB_spec (o := ⟨some d, .call ⟨.value (.func f), ⟨xs⟩, at_⟩, ty, pos, af, g⟩) hg ha, if_pos rfl]
  refine .inl ?_
  unfold Oper.wp
  rw [run_call hf hx ha, Oper.upon_enter]
  refine Calls.mono hc.run ?_
  rintro e w' ⟨v, rfl, hr⟩
  exact (k v w' hr).run _ (ha.put hn v)

theorem WL_isCall {dst : Option Tmp} {f : FuncId} {xs : Array Operand} {at_ : Array TypeId} (h : WL P n ops Q (⟨dst, .call ⟨.value (.func f), xs, at_⟩, ty, pos, af, g⟩ :: rest) L w) : WL P n ops Q (⟨dst, .call ⟨.value (.func f), xs, at_⟩, ty, pos, af, g⟩ :: rest) L w := h
theorem WL_call0 {f : FuncId} {xs : List Operand} {vs : List Value} {R : Value → World → Prop} {at_ : Array TypeId} (hf : callB P f = true) (hx : opds L xs = some vs) (hg : wantB ops g L = some true)
    (hc : Cl P f vs w R) (k : ∀ v w', R v w' → WL P n ops Q rest L w') : WL P n ops Q (⟨none, .call ⟨.value (.func f), ⟨xs⟩, at_⟩, ty, pos, af, g⟩ :: rest) L w := by
  refine ⟨fun a ha => ?_⟩
  unfold wpList
  rw [wantB_spec (o := ⟨none, .call ⟨.value (.func f), ⟨xs⟩, at_⟩, ty, pos, af, g⟩) hg ha, if_pos rfl]
  refine .inl ?_
  unfold Oper.wp
  rw [run_call hf hx ha, Oper.upon_enter]
  refine Calls.mono hc.run ?_
  rintro e w' ⟨v, rfl, hr⟩
  exact (k v w' hr).run _ ha

/-! ## Statements that draw their order: their operations only read, and call what leaves old memory alone -/

structure QL (P : Program) (n : Nat) (ops : Array Oper) (C : World → Prop) (K : Act → Prop) (rest : List Oper) (L : Fr) : Prop where
  run : ∀ a, Fits n L a → wpQuiet P ops C K rest a

theorem W_quiet {id : Nat} {l : List Oper} (hT : T.Ok P) (hB : Region.lexB .any l.toArray = true) (hSt : St w0 Sx H w)
    (h : QL P n l.toArray (St w0 Sx H) (fun a' => ∀ w', St w0 Sx H w' → Q .normal a' w') l L) : W P n (.region id l.toArray true) Q L w := by
  refine ⟨fun a ha => ?_⟩
  exact wp_region_quiet hT.mixed hB hSt.drew (h.run a ha)

section
variable {C : World → Prop} {K : Act → Prop}
theorem QL_ev {d : Nat} {op : Op} {v : Value} (hg : wantB ops g L = some true) (hn : Nat.blt d n = true) (h : ∀ w, C w → Ev P L op ty w v w) (k : QL P n ops C K rest ((d, v) :: L)) : QL P n ops C K (⟨some d, op, ty, pos, af, g⟩ :: rest) L := by
  refine ⟨fun a ha => ?_⟩
  unfold wpQuiet
  rw [wantB_spec (o := ⟨some d, op, ty, pos, af, g⟩) hg ha, if_pos rfl]
  refine ⟨v, fun w hw => ?_, k.run _ (ha.put hn v)⟩
  unfold Oper.quietAt
  rw [(h w hw).run n a ha]
  exact ⟨rfl, rfl⟩
theorem QL_call {d : Nat} {f : FuncId} {xs : List Operand} {vs : List Value} {v : Value} {at_ : Array TypeId} (hf : callB P f = true) (hx : opds L xs = some vs) (hg : wantB ops g L = some true) (hn : Nat.blt d n = true)
    (hc : ∀ w, C w → Cl P f vs w (fun r w' => r = v ∧ C w')) (k : QL P n ops C K rest ((d, v) :: L)) : QL P n ops C K (⟨some d, .call ⟨.value (.func f), ⟨xs⟩, at_⟩, ty, pos, af, g⟩ :: rest) L := by
  refine ⟨fun a ha => ?_⟩
  unfold wpQuiet
  rw [wantB_spec (o := ⟨some d, .call ⟨.value (.func f), ⟨xs⟩, at_⟩, ty, pos, af, g⟩) hg ha, if_pos rfl]
  refine ⟨v, fun w hw => ?_, k.run _ (ha.put hn v)⟩
  unfold Oper.quietAt
  rw [run_call hf hx ha]
  refine ⟨rfl, Calls.mono (hc w hw).run ?_⟩
  rintro e w' ⟨u, rfl, rfl, hu⟩
  exact ⟨rfl, hu⟩
theorem QL_isCall {dst : Option Tmp} {f : FuncId} {xs : Array Operand} {at_ : Array TypeId} (h : QL P n ops C K (⟨dst, .call ⟨.value (.func f), xs, at_⟩, ty, pos, af, g⟩ :: rest) L) : QL P n ops C K (⟨dst, .call ⟨.value (.func f), xs, at_⟩, ty, pos, af, g⟩ :: rest) L := h
theorem QL_pass {d : Nat} {op : Op} (hg : wantB ops g L = some false) (hn : Nat.blt d n = true) (k : QL P n ops C K rest ((d, undef) :: L)) : QL P n ops C K (⟨some d, op, ty, pos, af, g⟩ :: rest) L := by
  refine ⟨fun a ha => ?_⟩
  unfold wpQuiet
  rw [wantB_spec (o := ⟨some d, op, ty, pos, af, g⟩) hg ha]
  exact k.run _ (ha.put hn undef)
theorem QL_sub (hs : Sub L' L) (h : QL P n ops C K rest L') : QL P n ops C K rest L := ⟨fun a ha => h.run a (ha.sub hs)⟩
theorem QL_case {j : Nat} {b : Bool} (h : look L j = some (.bool b)) (ht : b = true → QL P n ops C K rest ((j, .bool true) :: L)) (hf : b = false → QL P n ops C K rest ((j, .bool false) :: L)) : QL P n ops C K rest L := by
  cases b
  · exact QL_sub (Sub.cons h (Sub.refl _)) (hf rfl)
  · exact QL_sub (Sub.cons h (Sub.refl _)) (ht rfl)
theorem QL_nil (h : ∀ w', C w' → At n Q .normal L w') : QL P n ops C (fun a' => ∀ w', C w' → Q .normal a' w') [] L := ⟨fun a ha w' hw => (h w' hw).run a ha⟩
end

/-! ## Statements that draw their order: all but the last operations only read, and the last ones wait for all before them -/

structure SL (P : Program) (n : Nat) (ops : Array Oper) (w : World) (K : Act → Prop) (rest : List Oper) (L : Fr) : Prop where
  run : ∀ a, Fits n L a → wpStill P ops w K rest a

theorem W_tail {id : Nat} {l : List Oper} (m : Nat) (hT : T.Ok P) (hB : Region.lexTailB .any l.toArray m = true) (hSt : St w0 Sx H w)
    (h : ∀ w1, St w0 Sx H w1 → SL P n l.toArray w1 (fun a' => wpList P l.toArray Q (l.drop m) a' w1) (l.take m) L) : W P n (.region id l.toArray true) Q L w := by
  refine ⟨fun a ha => ?_⟩
  exact wp_region_still_tail m hT.mixed hB ((h _ hSt.drew).run a ha)

section
variable {K : Act → Prop}
theorem SL_ev {d : Nat} {op : Op} {v : Value} (hg : wantB ops g L = some true) (hn : Nat.blt d n = true) (h : Ev P L op ty w v w) (k : SL P n ops w K rest ((d, v) :: L)) : SL P n ops w K (⟨some d, op, ty, pos, af, g⟩ :: rest) L := by
  refine ⟨fun a ha => ?_⟩
  unfold wpStill
  rw [wantB_spec (o := ⟨some d, op, ty, pos, af, g⟩) hg ha, if_pos rfl]
  unfold Oper.still
  rw [h.run n a ha, Oper.stillUpon_value]
  exact k.run _ (ha.put hn v)
theorem SL_pass {d : Nat} {op : Op} (hg : wantB ops g L = some false) (hn : Nat.blt d n = true) (k : SL P n ops w K rest ((d, undef) :: L)) : SL P n ops w K (⟨some d, op, ty, pos, af, g⟩ :: rest) L := by
  refine ⟨fun a ha => ?_⟩
  unfold wpStill
  rw [wantB_spec (o := ⟨some d, op, ty, pos, af, g⟩) hg ha]
  exact k.run _ (ha.put hn undef)
theorem SL_sub (hs : Sub L' L) (h : SL P n ops w K rest L') : SL P n ops w K rest L := ⟨fun a ha => h.run a (ha.sub hs)⟩
theorem SL_case {j : Nat} {b : Bool} (h : look L j = some (.bool b)) (ht : b = true → SL P n ops w K rest ((j, .bool true) :: L)) (hf : b = false → SL P n ops w K rest ((j, .bool false) :: L)) : SL P n ops w K rest L := by
  cases b
  · exact SL_sub (Sub.cons h (Sub.refl _)) (hf rfl)
  · exact SL_sub (Sub.cons h (Sub.refl _)) (ht rfl)
theorem SL_nil {l : List Oper} {m : Nat} (k : WL P n ops Q (l.drop m) L w) : SL P n ops w (fun a' => wpList P ops Q (l.drop m) a' w) [] L := ⟨k.run⟩
end

/-! ## A guard that is not known: both ways -/

theorem WL_guard {dst : Option Tmp} {op : Op} {j d : Nat} {b x : Bool} (hd : (ops[j]?).bind (·.dst) = some d) (hl : look L d = some (.bool x)) (ht : x = true → WL P n ops Q (⟨dst, op, ty, pos, af, some (j, b)⟩ :: rest) ((d, .bool true) :: L) w)
    (hf : x = false → WL P n ops Q (⟨dst, op, ty, pos, af, some (j, b)⟩ :: rest) ((d, .bool false) :: L) w) : WL P n ops Q (⟨dst, op, ty, pos, af, some (j, b)⟩ :: rest) L w := WL_case hl ht hf
theorem WL_guardP {dst : Option Tmp} {op : Op} {j d : Nat} {b : Bool} {p : Prop} {d0 : Decidable p} (hd : (ops[j]?).bind (·.dst) = some d) (hl : look L d = some (.bool (decide p))) (ht : p → WL P n ops Q (⟨dst, op, ty, pos, af, some (j, b)⟩ :: rest) ((d, .bool true) :: L) w)
    (hf : ¬ p → WL P n ops Q (⟨dst, op, ty, pos, af, some (j, b)⟩ :: rest) ((d, .bool false) :: L) w) : WL P n ops Q (⟨dst, op, ty, pos, af, some (j, b)⟩ :: rest) L w := WL_case hl (fun e => ht (of_decide_eq_true e)) (fun e => hf (of_decide_eq_false e))
theorem QL_guard {C : World → Prop} {K : Act → Prop} {dst : Option Tmp} {op : Op} {j d : Nat} {b x : Bool} (hd : (ops[j]?).bind (·.dst) = some d) (hl : look L d = some (.bool x)) (ht : x = true → QL P n ops C K (⟨dst, op, ty, pos, af, some (j, b)⟩ :: rest) ((d, .bool true) :: L))
    (hf : x = false → QL P n ops C K (⟨dst, op, ty, pos, af, some (j, b)⟩ :: rest) ((d, .bool false) :: L)) : QL P n ops C K (⟨dst, op, ty, pos, af, some (j, b)⟩ :: rest) L := QL_case hl ht hf
theorem QL_guardP {C : World → Prop} {K : Act → Prop} {dst : Option Tmp} {op : Op} {j d : Nat} {b : Bool} {p : Prop} {d0 : Decidable p} (hd : (ops[j]?).bind (·.dst) = some d) (hl : look L d = some (.bool (decide p))) (ht : p → QL P n ops C K (⟨dst, op, ty, pos, af, some (j, b)⟩ :: rest) ((d, .bool true) :: L))
    (hf : ¬ p → QL P n ops C K (⟨dst, op, ty, pos, af, some (j, b)⟩ :: rest) ((d, .bool false) :: L)) : QL P n ops C K (⟨dst, op, ty, pos, af, some (j, b)⟩ :: rest) L := QL_case hl (fun e => ht (of_decide_eq_true e)) (fun e => hf (of_decide_eq_false e))

theorem SL_guard {K : Act → Prop} {dst : Option Tmp} {op : Op} {j d : Nat} {b x : Bool} (hd : (ops[j]?).bind (·.dst) = some d) (hl : look L d = some (.bool x)) (ht : x = true → SL P n ops w K (⟨dst, op, ty, pos, af, some (j, b)⟩ :: rest) ((d, .bool true) :: L))
    (hf : x = false → SL P n ops w K (⟨dst, op, ty, pos, af, some (j, b)⟩ :: rest) ((d, .bool false) :: L)) : SL P n ops w K (⟨dst, op, ty, pos, af, some (j, b)⟩ :: rest) L := SL_case hl ht hf
theorem SL_guardP {K : Act → Prop} {dst : Option Tmp} {op : Op} {j d : Nat} {b : Bool} {p : Prop} {d0 : Decidable p} (hd : (ops[j]?).bind (·.dst) = some d) (hl : look L d = some (.bool (decide p))) (ht : p → SL P n ops w K (⟨dst, op, ty, pos, af, some (j, b)⟩ :: rest) ((d, .bool true) :: L))
    (hf : ¬ p → SL P n ops w K (⟨dst, op, ty, pos, af, some (j, b)⟩ :: rest) ((d, .bool false) :: L)) : SL P n ops w K (⟨dst, op, ty, pos, af, some (j, b)⟩ :: rest) L := SL_case hl (fun e => ht (of_decide_eq_true e)) (fun e => hf (of_decide_eq_false e))

/-! ## A label that is jumped to from ahead of it, once -/

theorem W_scope {rest : Code} (l : Nat) (J : Fr → World → Prop) (hf : findLabel c l = some rest)
    (first : ∀ K : Act → World → Prop, (∀ L' w' a, J L' w' → Fits n L' a → K a w') → W P n c (Exit.jump l K Q) L w)
    (pass : ∀ L' w', J L' w' → W P n rest (Exit.jump l (fun _ _ => False) Q) L' w') : W P n (.scope c) Q L w := by
  refine ⟨fun a ha => ?_⟩
  refine wp_scope_jumps l (fun a w => ∃ L', J L' w ∧ Fits n L' a) (fun _ _ => 0) hf ((first _ (fun L' w' a hj hfit => ⟨L', hj, hfit⟩)).run a ha) ?_
  rintro a' w' ⟨L', hj, hfit⟩
  refine wp_mono ((pass L' w' hj).run a' hfit) ?_
  intro e a2 w2 hq
  cases e with
  | goto m => exact hq.2.elim
  | _ => exact hq
theorem At_jump_normal {l : Nat} {K : Act → World → Prop} (h : At n Q .normal L w) : At n (Exit.jump l K Q) .normal L w := ⟨h.run⟩
theorem At_jump_ret {l : Nat} {K : Act → World → Prop} (h : At n Q .ret L w) : At n (Exit.jump l K Q) .ret L w := ⟨h.run⟩
theorem At_jump_exit {l id : Nat} {K : Act → World → Prop} (h : At n Q (.exit id) L w) : At n (Exit.jump l K Q) (.exit id) L w := ⟨h.run⟩
theorem At_jump {l : Nat} {K : Act → World → Prop} {L0 : Fr} {J : Fr → World → Prop} (hK : ∀ L' w' a, J L' w' → Fits n L' a → K a w') (hm : J L0 w) (hs : Sub L0 L) : At n (Exit.jump l K Q) (.goto l) L w :=
  ⟨fun a ha => ⟨rfl, hK L0 w a hm (ha.sub hs)⟩⟩
theorem W_goto {l : Nat} (h : At n Q (.goto l) L w) : W P n (.goto l) Q L w := ⟨fun a ha => wp_goto (h.run a ha)⟩
theorem W_label {l : Nat} (h : At n Q .normal L w) : W P n (.label l) Q L w := ⟨fun a ha => wp_label (h.run a ha)⟩

/-! ## A function's two ends -/

def frOf : Nat → List Value → Fr
  | _, [] => []
  | i, v :: vs => (i, v) :: frOf (i + 1) vs

theorem frOf_look (vs : List Value) : ∀ (k i : Nat) (v : Value), look (frOf k vs) i = some v → k ≤ i ∧ vs[i - k]? = some v := by
  induction vs with
  | nil => intro k i v h; simp [frOf, look] at h
  | cons u vs ih =>
    intro k i v h
    simp only [frOf, look] at h
    cases hb : Nat.beq k i
    · simp only [hb, cond_false] at h
      obtain ⟨h1, h2⟩ := ih (k + 1) i v h
      refine ⟨by omega, ?_⟩
      rw [show i - k = (i - (k + 1)) + 1 by omega]
      simpa using h2
    · have he : k = i := by simpa using hb
      subst he
      simp only [hb, cond_true, Option.some.injEq] at h
      subst h; simp

theorem enter {f : FuncId} {fn : Func} {vs : List Value} {R : Value → World → Prop} {m : Nat} (hf : P.funcs[f]? = some fn) (hb : fn.body = some c) (hn : fn.ntmps = m) (hl : Nat.ble vs.length m = true)
    (h : W P m c (bodyPost P fn (fun e w' => ∃ v, e = .returned v ∧ R v w')) (frOf 0 vs) w) : Cl P f vs w R := by
  have hl' : vs.length ≤ m := by simpa [Nat.ble_eq] using hl
  refine ⟨calls_of_wp hf hb (h.run _ ⟨?_, rfl, ?_⟩)⟩
  · simp [hn]; omega
  · intro i v hi
    obtain ⟨_, h2⟩ := frOf_look vs 0 i v hi
    have hlt : i < vs.length := by have := (List.getElem?_eq_some_iff.1 h2).1; simpa using this
    simp only [Nat.sub_zero] at h2
    rw [Array.getElem?_append]
    simp [hlt]
    exact (List.getElem?_eq_some_iff.1 h2).2

theorem end_of {fn : Func} {R : Value → World → Prop} {v : Value} (hr : ∀ a, Fits n L a → (results fn a.tmps).run P w = .ok v w) (h : R v w) : At n (bodyPost P fn (fun e w' => ∃ v, e = .returned v ∧ R v w')) .ret L w :=
  ⟨fun a ha => ⟨ha.defers, v, hr a ha, v, rfl, h⟩⟩
theorem end_of' {fn : Func} {R : Value → World → Prop} {v : Value} (hr : ∀ a, Fits n L a → (results fn a.tmps).run P w = .ok v w) (h : R v w) : At n (bodyPost P fn (fun e w' => ∃ v, e = .returned v ∧ R v w')) .normal L w :=
  ⟨fun a ha => ⟨ha.defers, v, hr a ha, v, rfl, h⟩⟩

theorem fits_getD {a : Act} (ha : Fits n L a) {i : Nat} {v : Value} (h : look L i = some v) : a.tmps.getD i undef = v := by
  have := ha.val i v h
  simp [Array.getD_eq_getD_getElem?, this]

section
variable {fn : Func} {R : Value → World → Prop} {i j m : Nat} {u v x : Value}
theorem res0 (hr : fn.results = #[]) (a : Act) (_ : Fits n L a) : (results fn a.tmps).run P w = .ok (.tuple #[]) w := results_none hr _ _ _
theorem res1 (hr : fn.results = #[.tmp i]) (hv : look L i = some v) (a : Act) (ha : Fits n L a) : (results fn a.tmps).run P w = .ok v w := by
  rw [results_tmp hr, fits_getD ha hv]
theorem res2 (hr : fn.results = #[.tmp i, .tmp j]) (hv : look L i = some v) (hu : look L j = some u) (a : Act) (ha : Fits n L a) : (results fn a.tmps).run P w = .ok (.tuple ⟨[v, u]⟩) w := by
  rw [results_tmp2 hr, fits_getD ha hv, fits_getD ha hu]
theorem res3 (hr : fn.results = #[.tmp i, .tmp j, .tmp m]) (hv : look L i = some v) (hu : look L j = some u) (hx : look L m = some x) (a : Act) (ha : Fits n L a) : (results fn a.tmps).run P w = .ok (.tuple ⟨[v, u, x]⟩) w := by
  simp [results, hr, Array.getD_eq_getD_getElem?, ha.val _ _ hv, ha.val _ _ hu, ha.val _ _ hx]

theorem resc2 {l vs : List Value} {E k b o : Nat} {fz : Nat × Nat} (hr : fn.results = #[.cell i t, .tmp j]) (hT : T.Ok P) (ht : asc T.agg t = some k) (hp : look L i = some (.pointer (some ⟨b, o, none⟩))) (hu : look L j = some u)
    (hb : w.heap[b]? = some (.cells ⟨l⟩ E fz)) (hvs : (l.drop o).take k = vs) (hl : vs.length = k) (a : Act) (ha : Fits n L a) : (results fn a.tmps).run P w = .ok (.tuple ⟨[.agg ⟨vs⟩, u]⟩) w := by
  have hload := (Ev_loadN (P := P) (L := [(0, .pointer (some ⟨b, o, none⟩))]) (w := w) (ty := 0) (xo := .tmp 0) hT ht rfl hb hvs hl).run 1 ⟨#[.pointer (some ⟨b, o, none⟩)], []⟩ ⟨rfl, rfl, fun i v h => by
    simp only [look] at h
    cases hb : Nat.beq 0 i
    · simp [hb] at h
    · have he : 0 = i := by simpa using hb
      subst he; simp at h; subst h; rfl⟩ none "" #[] none
  simp [execOp, Act.eval, Instr.loadAt, Instr.sureAddr] at hload
  rw [results_cell_tmp hr, fits_getD ha hp, fits_getD ha hu]
  simp only [asAddr, Sem.run_pure, Result.andThen_ok]
  cases hx : (loadVar t ⟨b, o, none⟩).run P w with
  | ok v w2 => rw [hx] at hload; simp at hload; obtain ⟨rfl, rfl⟩ := hload; rfl
  | halt h w2 => rw [hx] at hload; simp at hload
theorem resc1 {l vs : List Value} {E k b o : Nat} {fz : Nat × Nat} (hr : fn.results = #[.cell i t]) (hT : T.Ok P) (ht : asc T.agg t = some k) (hp : look L i = some (.pointer (some ⟨b, o, none⟩)))
    (hb : w.heap[b]? = some (.cells ⟨l⟩ E fz)) (hvs : (l.drop o).take k = vs) (hl : vs.length = k) (a : Act) (ha : Fits n L a) : (results fn a.tmps).run P w = .ok (.agg ⟨vs⟩) w := by
  have hload := (Ev_loadN (P := P) (L := [(0, .pointer (some ⟨b, o, none⟩))]) (w := w) (ty := 0) (xo := .tmp 0) hT ht rfl hb hvs hl).run 1 ⟨#[.pointer (some ⟨b, o, none⟩)], []⟩ ⟨rfl, rfl, fun i v h => by
    simp only [look] at h
    cases hb : Nat.beq 0 i
    · simp [hb] at h
    · have he : 0 = i := by simpa using hb
      subst he; simp at h; subst h; rfl⟩ none "" #[] none
  simp [execOp, Act.eval, Instr.loadAt, Instr.sureAddr] at hload
  cases hx : (loadVar t ⟨b, o, none⟩).run P w with
  | ok v w2 => rw [hx] at hload; simp at hload; obtain ⟨rfl, rfl⟩ := hload; simp [results, hr, Array.getD_eq_getD_getElem?, ha.val _ _ hp, asAddr, hx]
  | halt h w2 => rw [hx] at hload; simp at hload

theorem ret0 (hr : fn.results = #[]) (h : R (.tuple #[]) w) : At n (bodyPost P fn (fun e w' => ∃ v, e = .returned v ∧ R v w')) .ret L w := end_of (res0 hr) h
theorem ret0' (hr : fn.results = #[]) (h : R (.tuple #[]) w) : At n (bodyPost P fn (fun e w' => ∃ v, e = .returned v ∧ R v w')) .normal L w := end_of' (res0 hr) h
theorem ret1 (hr : fn.results = #[.tmp i]) (hv : look L i = some v) (h : R v w) : At n (bodyPost P fn (fun e w' => ∃ v, e = .returned v ∧ R v w')) .ret L w := end_of (res1 hr hv) h
theorem ret2 (hr : fn.results = #[.tmp i, .tmp j]) (hv : look L i = some v) (hu : look L j = some u) (h : R (.tuple ⟨[v, u]⟩) w) : At n (bodyPost P fn (fun e w' => ∃ v, e = .returned v ∧ R v w')) .ret L w := end_of (res2 hr hv hu) h
theorem ret3 (hr : fn.results = #[.tmp i, .tmp j, .tmp m]) (hv : look L i = some v) (hu : look L j = some u) (hx : look L m = some x) (h : R (.tuple ⟨[v, u, x]⟩) w) : At n (bodyPost P fn (fun e w' => ∃ v, e = .returned v ∧ R v w')) .ret L w := end_of (res3 hr hv hu hx) h
end
end
end Go.Proofs.YtmlbgdhkacajaaaDoor
