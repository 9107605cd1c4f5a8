/- Worlds without a block: what lies beside a block that changes. No conditions. -/
import Derived.Test.YtknfankadlokhaaGreatDoorNB
import Derived.Test.YtknfankadlokhaaGreatDoorNA
import Derived.Test.YtknfankadlokhaaGreatDoorMD

namespace Go.Proofs.YtknfankadlokhaaGreatDoor
open Go.RowKit
set_option linter.unusedVariables false
set_option linter.unusedSimpArgs false

/-- a world without the block b -/
def wo (b : Nat) (w : World) : World := { w with heap := w.heap.setIfInBounds b (.cells #[] 0) }
theorem wo_ne {b c : Nat} {w : World} (h : c ≠ b) : (wo b w).heap[c]? = w.heap[c]? := by
  unfold wo; dsimp only; rw [Array.getElem?_setIfInBounds, if_neg (Ne.symm h)]
theorem wo_eq {b : Nat} {w : World} {l : List Value} {E : TypeId} {fz : Nat × Nat} (h : (wo b w).heap[b]? = some (.cells ⟨l⟩ E fz)) : l = [] := by
  unfold wo at h; dsimp only at h
  rw [Array.getElem?_setIfInBounds, if_pos rfl] at h
  split at h
  · injection h with h; injection h with h; exact (congrArg Array.toList h).symm
  · cases h
theorem SlAt.unwo {b : Nat} {w : World} {v : Value} {z : Nat} {xs : List (List Value)} (h : SlAt (wo b w) v z xs) (hz : 0 < z) : SlAt w v z xs := by
  obtain ⟨a, cap, hv, h⟩ := h
  refine ⟨a, cap, hv, fun i x hi => ?_⟩
  obtain ⟨c, off, l, E, fz, ha, hb, hc, hl⟩ := h i x hi
  refine ⟨c, off, l, E, fz, ha, ?_, hc, hl⟩
  by_cases e : c = b
  · subst e
    have := wo_eq hb
    subst this
    simp at hc
    subst hc
    simp at hl
    omega
  · rwa [wo_ne e] at hb
theorem CondAt.unwo {b : Nat} {w : World} : ∀ {c : Cn} {cs : List Value}, CondAt (wo b w) c cs → CondAt w c cs := by
  intro c
  induction c using Cn.ind with
  | h op n t ars ih =>
    intro cs h
    obtain ⟨v, xs, rfl, h1, h2, h3, h4⟩ := h.cells
    refine CondAt.mk_ (h1.unwo (by decide)) (CondsAt.of h2.len fun i a x ha hx => ?_) h3 h4
    obtain ⟨y, hy, hc⟩ := h2.at ha
    rw [hx] at hy; injection hy with hy; subst hy
    exact ih a (List.mem_of_getElem? ha) hc
theorem LnAt.unwo {b : Nat} {w : World} {cs : List Value} {x : Ln} (h : LnAt (wo b w) cs x) : LnAt w cs x := by
  obtain ⟨v, va, vs, e, h1, h2, h3, h4⟩ := h
  exact ⟨v, va, vs, e, h1.unwo, h2.unwo (by decide), h3.unwo (by decide), h4⟩
/-- a call that changes the block b alone keeps the rest -/
theorem St.keepB {b : Nat} {w w' : World} {H : List (Nat × Obj)} (h : St w (· = b) H w') : Keeps (wo b w) (wo b w') := by
  intro c o hc
  by_cases e : c = b
  · subst e
    unfold wo at hc ⊢
    dsimp only at hc ⊢
    rw [Array.getElem?_setIfInBounds, if_pos rfl] at hc ⊢
    split at hc
    · rename_i hlt
      rw [if_pos (Nat.lt_of_lt_of_le hlt h.size)]; exact hc
    · cases hc
  · rw [wo_ne e] at hc ⊢
    exact h.base hc e
theorem St.keepB0 {b : Nat} {w w' : World} {H : List (Nat × Obj)} (h : St w NoneS H w') : Keeps (wo b w) (wo b w') := (h.wider (fun c hc => hc.elim)).keepB
/-- a slice in a block that is known, beside b -/
theorem slAt_wo {b c : Nat} {w : World} {z n cap : Nat} {xs : List (List Value)} {l rs : List Value} {E : TypeId} {fz : Nat × Nat} (hne : c ≠ b) (hb : w.heap[c]? = some (.cells ⟨l⟩ E fz)) (hn : xs.length = n) (hx : ∀ (i : Nat) (x : List Value), xs[i]? = some x → (l.drop (i * z)).take z = x ∧ x.length = z) :
    SlAt (wo b w) (.slice (some ⟨c, 0, none⟩) n cap) z xs := by
  subst hn
  refine ⟨some ⟨c, 0, none⟩, cap, rfl, fun i x hi => ?_⟩
  obtain ⟨h1, h2⟩ := hx i x hi
  exact ⟨c, 0, l, E, fz, rfl, by rw [wo_ne hne]; exact hb, by rw [Nat.zero_add]; exact h1, h2⟩
theorem slAt_nil {w : World} {z : Nat} : SlAt w (.slice none 0 0) z [] := SlAt.nil w z
end Go.Proofs.YtknfankadlokhaaGreatDoor

namespace Go.Proofs.YtknfankadlokhaaGreatDoor
open Go.RowKit
set_option linter.unusedVariables false
set_option linter.unusedSimpArgs false

section
variable {T : Tys} {P : Program} {n : Fz} {ops : Array Oper} {Q : Exit → Act → World → Prop} {L L' L0 : Fr} {w w' w0 : World} {rest : List Oper} {ty t t' s : TypeId} {c x y : Code} {pos : String} {af : Array Edge} {g : Option (Nat × Bool)} {m m9 : Nat} {xo : Operand} {v : Value} {fs : Array Field}
theorem Ev_makeIface (hu : P.underlying s = some (.struct fs)) (hx : opd L xo = some v) : Ev P L (.makeInterface s xo) ty w (.iface s v) w := by
  refine ⟨fun n c ha _ _ _ _ => ?_⟩
  simp [execOp, ha.eval hx, Instr.makeInterface, run_underlying' hu]
theorem Ev_assertYes (hu : P.underlying s = some (.struct fs)) (hx : opd L xo = some (.iface s v)) : Ev P L (.typeAssert xo t s true) ty w (.tuple ⟨[v, .bool true]⟩) w := by
  refine ⟨fun n c ha _ _ _ _ => ?_⟩
  simp [execOp, ha.eval hx, Instr.typeAssert, run_underlying' hu]
theorem Ev_makeFunc0 {f : FuncId} {cs : List Operand} {vs : List Value} (hc : opds L cs = some vs) : Ev P L (.makeFunc (.func f) #[] ⟨cs⟩) ty w (.func (.func f) #[] ⟨vs⟩) w := by
  refine ⟨fun n c ha _ _ _ _ => ?_⟩
  have hm := opds_spec hc ha
  have e : (Array.map c.eval ⟨cs⟩) = ⟨vs⟩ := by rw [← hm]; simp
  simp only [execOp, Instr.makeFunc, e]
  simp
theorem WL_defer {f : FuncId} {vs : List Value} {at_ : Array TypeId} (hx : opd L xo = some (.func (.func f) #[] ⟨vs⟩)) (hg : wantB ops g L = some true)
    (k : WL P (n.1, ⟨.fn (.func f) ⟨vs⟩, #[]⟩ :: n.2) ops Q rest L w) : WL P n ops Q (⟨none, .defer ⟨.value xo, #[], at_⟩, ty, pos, af, g⟩ :: rest) L w := by
  refine ⟨fun a ha => ?_⟩
  unfold wpList
  rw [wantB_spec (o := ⟨none, .defer ⟨.value xo, #[], at_⟩, ty, pos, af, g⟩) hg ha, if_pos rfl]
  refine .inl ?_
  unfold Oper.wp
  have : (execOp a.eval ⟨none, .defer ⟨.value xo, #[], at_⟩, ty, pos, af, g⟩).run P w = .ok (.defer ⟨.fn (.func f) ⟨vs⟩, #[]⟩) w := by
    simp [execOp, resolve, ha.eval hx, Deferred.ofValue]
  rw [this, Oper.upon_defer]
  refine k.run _ ⟨by simpa [Act.put] using ha.size, by simp [Act.put, ha.defers], fun i u hi => by simpa [Act.put] using ha.val i u hi⟩
theorem enterD {f : FuncId} {fn : Func} {vs : List Value} {R : Value → World → Prop} (hf : P.funcs[f]? = some fn) (hb : fn.body = some c) (hn : fn.ntmps = m) (hl : Nat.ble vs.length m = true)
    (h : W P (m, []) c (bodyPostD P fn (fun e w' => ∃ v, e = .returned v ∧ R v w')) (frOf 0 vs) w) : Cl P f vs w R := by
  have hl' : vs.length ≤ m := by simpa [Nat.ble_eq] using hl
  refine ⟨calls_of_wp_defers hf hb (h.run _ ⟨?_, rfl, ?_⟩)⟩
  · simp [hn]; omega
  · intro i v hi
    obtain ⟨_, h2⟩ := frOf_look vs 0 i v hi
    have hlt : i < vs.length := by have := (List.getElem?_eq_some_iff.1 h2).1; simpa using this
    simp only [Nat.sub_zero] at h2
    rw [Array.getElem?_append]
    simp [hlt]
    exact (List.getElem?_eq_some_iff.1 h2).2
/-- a deferred call behind a return, and behind a panic that it ends -/
structure CDr (P : Program) (f : FuncId) (vs : List Value) (w : World) (R : World → Prop) : Prop where
  run : CallsD P f ⟨vs⟩ .returning w (fun e u' w' => (∃ v, e = .returned v) ∧ u' = .returning ∧ R w')
structure CDp (P : Program) (f : FuncId) (vs : List Value) (pv : Value) (w : World) (R : World → Prop) : Prop where
  run : CallsD P f ⟨vs⟩ (.panicking (pan pv)) w (fun e u' w' => (∃ v, e = .returned v) ∧ u' = .panicking [{ v := pv, recovered := true }] ∧ R w')
theorem invoke_fn {f : FuncId} {vs : List Value} (hf : callB P f = true) : (invoke (.fn (.func f) ⟨vs⟩) #[]).run P w = .ok (.enter f ⟨vs⟩) w := by
  unfold callB at hf
  cases hfn : P.funcs[f]? with
  | none => simp [hfn] at hf
  | some fn =>
    simp only [hfn, Bool.and_eq_true, Bool.not_eq_true', Option.isSome_iff_exists] at hf
    obtain ⟨⟨b, hb⟩, hname⟩ := hf
    have hname' : ¬ (fn.name = "runtime.NumGoroutine") := by simpa using hname
    have he : invoke (.fn (.func f) ⟨vs⟩) #[] = callFunc f ⟨vs⟩ := by simp [invoke]
    rw [he]
    simp [callFunc, hfn, hname', hb]
theorem At_deferRet {fn : Func} {f : FuncId} {vs : List Value} {R : Value → World → Prop} {Rw : World → Prop} (hf : callB P f = true) (hc : CDr P f vs w Rw) (h : ∀ w', Rw w' → ∃ v, (∀ a, Fits (m9, [⟨.fn (.func f) ⟨vs⟩, #[]⟩]) L a → (results fn a.tmps).run P w' = .ok v w') ∧ R v w') :
    At (m9, [⟨.fn (.func f) ⟨vs⟩, #[]⟩]) (bodyPostD P fn (fun e w' => ∃ v, e = .returned v ∧ R v w')) .ret L w := by
  refine ⟨fun a ha => ?_⟩
  show Leaves P fn a.tmps _ a.defers .returning w
  rw [show a.defers = [⟨.fn (.func f) ⟨vs⟩, #[]⟩] from ha.defers]
  refine leaves_cons (by simp) (invoke_fn hf) (hc.run.mono ?_)
  rintro e u' w' ⟨⟨v, rfl⟩, rfl, hr⟩
  obtain ⟨v, h1, h2⟩ := h w' hr
  exact ⟨v, h1 a ha, v, rfl, h2⟩
theorem At_deferPan {fn : Func} {f : FuncId} {vs : List Value} {pv : Value} {R : Value → World → Prop} {Rw : World → Prop} (hf : callB P f = true) (hc : CDp P f vs pv w Rw) (h : ∀ w', Rw w' → ∃ v, (∀ a, Fits (m9, [⟨.fn (.func f) ⟨vs⟩, #[]⟩]) L a → (results fn a.tmps).run P w' = .ok v w') ∧ R v w') :
    At (m9, [⟨.fn (.func f) ⟨vs⟩, #[]⟩]) (bodyPostD P fn (fun e w' => ∃ v, e = .returned v ∧ R v w')) (.panic (pan pv)) L w := by
  refine ⟨fun a ha => ?_⟩
  show Leaves P fn a.tmps _ a.defers (.panicking (pan pv)) w
  rw [show a.defers = [⟨.fn (.func f) ⟨vs⟩, #[]⟩] from ha.defers]
  refine leaves_cons (by simp) (invoke_fn hf) (hc.run.mono ?_)
  rintro e u' w' ⟨⟨v, rfl⟩, rfl, hr⟩
  obtain ⟨v, h1, h2⟩ := h w' hr
  exact ⟨v, h1 a ha, v, rfl, h2⟩

/-! ## The deferred closure -/
theorem fits0 {fn : Func} {vs : List Value} (hn : fn.ntmps = m) (hl : Nat.ble vs.length m = true) : Fits (m, []) (frOf 0 vs) { tmps := ⟨vs⟩ ++ Array.replicate (fn.ntmps - (⟨vs⟩ : Array Value).size) undef, defers := [] } := by
  have hl' : vs.length ≤ m := by simpa [Nat.ble_eq] using hl
  refine ⟨?_, rfl, ?_⟩
  · simp [hn]; omega
  · intro i v hi
    obtain ⟨_, h2⟩ := frOf_look vs 0 i v hi
    have hlt : i < vs.length := by have := (List.getElem?_eq_some_iff.1 h2).1; simpa using this
    simp only [Nat.sub_zero] at h2
    rw [Array.getElem?_append]
    simp [hlt]
    exact (List.getElem?_eq_some_iff.1 h2).2
theorem wpS_recover {QS : Exit → Act → List Frame → World → Prop} {id d1 d2 : Nat} {ty1 ty2 : TypeId} {p1 p2 : String} {af1 af2 : Array Edge} {ats : Array TypeId} {a : Act} {cs cs' : List Frame} (hF : Fits n L a) (h1 : Nat.blt d1 n.1 = true) (h2 : Nat.blt d2 n.1 = true)
    (hr : recoverD cs = some (v, cs') ∨ (recoverD cs = none ∧ v = .nilIface ∧ cs' = cs)) (k : ∀ a', Fits n ((d2, v) :: (d1, v) :: L) a' → y.wpS P QS a' cs' w) :
    (Code.seq (.region id #[⟨some d1, .call ⟨.builtin .recover, #[], ats⟩, ty1, p1, af1, none⟩, ⟨some d2, .assign (.tmp d1), ty2, p2, af2, none⟩] false) y).wpS P QS a cs w := by
  apply wpS_seq
  apply wpS_region
  have e0 : (execOp a.eval ⟨some d1, .call ⟨.builtin .recover, #[], ats⟩, ty1, p1, af1, none⟩).run P w = .ok .recover w := by
    simp [execOp, resolve, invoke, builtin]
  have hput : Fits n ((d1, v) :: L) (a.put (some d1) v) := hF.put h1 v
  have e1 : (execOp (a.put (some d1) v).eval ⟨some d2, .assign (.tmp d1), ty2, p2, af2, none⟩).run P w = .ok (.value v) w := by
    have : (a.put (some d1) v).eval (.tmp d1) = v := hput.eval (x := .tmp d1) (by simp [opd, look])
    simp [execOp, this]
  have hk := k _ (hput.put h2 v)
  show wpOpsS P _ _ [0, 1] a cs w
  unfold wpOpsS
  simp only [List.getElem?_toArray, List.getElem?_cons_zero, Region.wanted, if_true]
  rw [e0]
  rcases hr with hr | ⟨hr, rfl, rfl⟩
  · simp only [hr]
    unfold wpOpsS
    simp only [List.getElem?_toArray, List.getElem?_cons_succ, List.getElem?_cons_zero, Region.wanted, if_true]
    rw [e1]
    simp only [Oper.upon, wpOpsS]
    exact hk
  · simp only [hr]
    unfold wpOpsS
    simp only [List.getElem?_toArray, List.getElem?_cons_succ, List.getElem?_cons_zero, Region.wanted, if_true]
    rw [e1]
    simp only [Oper.upon, wpOpsS]
    exact hk
/-- the rest of a deferred closure, which does not recover any more -/
theorem wpS_rest {QS : Exit → Act → List Frame → World → Prop} {a : Act} {cs : List Frame} (hF : Fits n L a) (h : W P n y (fun e a' w' => QS e a' cs w') L w) : y.wpS P QS a cs w := wpS_of_wp (h.run a hF)
theorem At_bodyS {fn : Func} {c₀ : Frame} {cs : List Frame} {R : Ending → FrameMode → World → Prop} {u' : FrameMode} (hr : fn.results = #[]) (h : R (.returned (.tuple #[])) u' w) :
    At (m9, []) (fun e a' w' => bodyPostS P fn c₀ cs R e a' ({ c₀ with mode := u' } :: cs) w') .normal L w :=
  ⟨fun a ha => ⟨ha.defers, u', rfl, _, results_none hr _ _ _, h⟩⟩

/-! ## Results that lie in cells -/
theorem loadV1 {l : List Value} {E b o : Nat} {fz : Nat × Nat} (hT : T.Ok P) (ht : mem1 T.one t = true) (hb : w.heap[b]? = some (.cells ⟨l⟩ E fz)) (hv : l[o]? = some v) : (loadVar t ⟨b, o, none⟩).run P w = .ok v w := by
  have hload := (Ev_load1 (P := P) (L := [(0, .pointer (some ⟨b, o, none⟩))]) (w := w) (ty := 0) (xo := .tmp 0) hT ht rfl hb hv).run (1, []) ⟨#[.pointer (some ⟨b, o, none⟩)], []⟩ ⟨rfl, rfl, fun i v h => by
    simp only [look] at h
    cases hb : Nat.beq 0 i
    · simp [hb] at h
    · have he : 0 = i := by simpa using hb
      subst he; simp at h; subst h; rfl⟩ none "" #[] none
  simp [execOp, Act.eval, Instr.loadAt, Instr.sureAddr] at hload
  cases hx : (loadVar t ⟨b, o, none⟩).run P w with
  | ok v w2 => rw [hx] at hload; simp at hload; obtain ⟨rfl, rfl⟩ := hload; rfl
  | halt h w2 => rw [hx] at hload; simp at hload
theorem loadVN {l vs : List Value} {E k b o : Nat} {fz : Nat × Nat} (hT : T.Ok P) (ht : asc T.agg t = some k) (hb : w.heap[b]? = some (.cells ⟨l⟩ E fz)) (hvs : (l.drop o).take k = vs) (hl : vs.length = k) : (loadVar t ⟨b, o, none⟩).run P w = .ok (.agg ⟨vs⟩) w := by
  have hload := (Ev_loadN (P := P) (L := [(0, .pointer (some ⟨b, o, none⟩))]) (w := w) (ty := 0) (xo := .tmp 0) hT ht rfl hb hvs hl).run (1, []) ⟨#[.pointer (some ⟨b, o, none⟩)], []⟩ ⟨rfl, rfl, fun i v h => by
    simp only [look] at h
    cases hb : Nat.beq 0 i
    · simp [hb] at h
    · have he : 0 = i := by simpa using hb
      subst he; simp at h; subst h; rfl⟩ none "" #[] none
  simp [execOp, Act.eval, Instr.loadAt, Instr.sureAddr] at hload
  cases hx : (loadVar t ⟨b, o, none⟩).run P w with
  | ok v w2 => rw [hx] at hload; simp at hload; obtain ⟨rfl, rfl⟩ := hload; rfl
  | halt h w2 => rw [hx] at hload; simp at hload
theorem resC3 {fn : Func} {i j k : Nat} {t1 t2 t3 : TypeId} {b1 b2 b3 : Nat} {v1 v2 v3 : Value} (hr : fn.results = #[.cell i t1, .cell j t2, .cell k t3]) (h1 : look L i = some (Ptr b1)) (h2 : look L j = some (Ptr b2)) (h3 : look L k = some (Ptr b3))
    (l1 : (loadVar t1 ⟨b1, 0, none⟩).run P w = .ok v1 w) (l2 : (loadVar t2 ⟨b2, 0, none⟩).run P w = .ok v2 w) (l3 : (loadVar t3 ⟨b3, 0, none⟩).run P w = .ok v3 w) (a : Act) (ha : Fits n L a) : (results fn a.tmps).run P w = .ok (.tuple ⟨[v1, v2, v3]⟩) w := by
  have e1 := ha.val _ _ h1
  have e2 := ha.val _ _ h2
  have e3 := ha.val _ _ h3
  simp [results, hr, Array.getD_eq_getD_getElem?, e1, e2, e3, asAddr, l1, l2, l3]
end
end Go.Proofs.YtknfankadlokhaaGreatDoor

namespace Go.Proofs.YtknfankadlokhaaGreatDoor
open Go.RowKit
set_option maxRecDepth 4000
set_option linter.unusedVariables false
set_option linter.unusedSimpArgs false
set_option maxHeartbeats 8000000

/-! ## The scanner -/
abbrev scO (v : Value) (p : Nat) : Obj := blk [v, I (p : Int)] 115
section
variable {w0 : World} {sc p : Nat} {v : Value} {ts : List Tk}
theorem peek_any (hs : w0.heap[sc]? = some (scO v p)) (ht : SlAt w0 v 4 (ts.map tkC)) (hp : p < ts.length) : Cl Tryz.prog 33 [Ptr sc] w0 (fun r w' => r = .agg ⟨tkC (tkAt ts p)⟩ ∧ St w0 NoneS [] w') := by
  have hSt := St.refl w0 NoneS
  obtain ⟨a, cap, rfl, hcs⟩ := ht.map
  obtain ⟨b, o, m, E, z, rfl, hb, hcc, _⟩ := hcs p _ (tkAt_some hp)
  generalize tkAt ts p = t at hcc ⊢
  obtain ⟨kd, tx, nn, at_⟩ := t
  rw [← Int.toNat_natCast p] at hcc
  refine enter Tryz.func33 rfl Tryz.ntmps33 rfl ?_
  repeat' (first | (refine WL_alloc hT rfl rfl rfl hSt ?_; clear hSt; intro w nb hnb hSt; replace hSt := hSt.front; dsimp only [zcells] at hSt) | (apply WL_ev rfl rfl; exact Ev_load1 hT rfl rfl (hSt.base hs (fun e => e)) rfl) | (apply WL_ev rfl rfl; exact Ev_loadN hT rfl rfl (hSt.base hb (fun e => e)) hcc rfl) | (refine W_tail 10 hT (by decide +kernel) hSt ?_; clear hSt; intro w hSt; simp only [List.take_succ_cons, List.take_zero]; (repeat' (first | (apply SL_ev rfl rfl; (first | (exact Ev_load1 hT rfl rfl (hSt.base hs (fun e => e)) rfl) | (exact Ev_loadN hT rfl rfl (hSt.base hb (fun e => e)) hcc rfl) | exact Ev_auto)) | refine SL_pass rfl rfl ?_ | (refine SL_guardP rfl rfl (fun hc => ?_) (fun hc => ?_) <;> try exact absA) | (refine SL_guard rfl rfl (fun hc => ?_) (fun hc => ?_) <;> (try exact absA) <;> (fail_if_success (change true = true at hc)) <;> (fail_if_success (change false = false at hc))))); all_goals (refine SL_nil ?_; simp only [List.drop_succ_cons, List.drop_zero])) | refine stepA ?_ | (refine stepS ?_; clear hSt; intro w hSt; dsimp only [spl, List.set] at hSt) | (refine stepB ?_; clear hSt; intro w nb hnb hSt; dsimp only [zcells, List.nil_append, List.cons_append] at hSt) | (refine W_quiet hT (by decide +kernel) hSt ?_; clear hSt; (repeat' (first | (apply QL_ev rfl rfl; (intro w hSt; (first | (exact Ev_load1 hT rfl rfl (hSt.base hs (fun e => e)) rfl) | (exact Ev_loadN hT rfl rfl (hSt.base hb (fun e => e)) hcc rfl) | exact Ev_auto))) | refine QL_pass rfl rfl ?_ | (refine QL_guardP rfl rfl (fun hc => ?_) (fun hc => ?_) <;> try exact absA) | (refine QL_guard rfl rfl (fun hc => ?_) (fun hc => ?_) <;> (try exact absA) <;> (fail_if_success (change true = true at hc)) <;> (fail_if_success (change false = false at hc))))); all_goals (refine QL_nil (fun w hSt => ?_))) | (refine stepG ?_ ?_ <;> intro hc <;> (try exact absA) <;> (fail_if_success (change true = true at hc)) <;> (fail_if_success (change false = false at hc))) | fail)
  all_goals try (exfalso; first | omega | (simp at hc; done) | (exact hc rfl) | contradiction)
  all_goals exact end_of (resc1 rfl hT rfl rfl (hSt.at 0 rfl) rfl rfl) ⟨rfl, hSt.nil⟩
/-- the next place -/
def nxt (ts : List Tk) (p : Nat) : Nat := if p + 1 < ts.length then p + 1 else p
theorem next_any (hs : w0.heap[sc]? = some (scO v p)) (ht : SlAt (wo sc w0) v 4 (ts.map tkC)) (hp : p < ts.length) (hl : ts.length ≤ 4611686018427387904) : Cl Tryz.prog 118 [Ptr sc] w0 (fun r w' => r = .agg ⟨tkC (tkAt ts p)⟩ ∧ St w0 (· = sc) [(sc, scO v (nxt ts p))] w') := by
  have hSt := (St.refl w0 (· = sc)).know hs (Or.inl rfl) (by simp)
  dsimp only [List.nil_append, List.cons_append] at hSt
  have hpk := fun {w : World} (h1 : w.heap[sc]? = some (scO v p)) (h2 : SlAt w v 4 (ts.map tkC)) => peek_any h1 h2 hp
  obtain ⟨a, cap, rfl, _⟩ := (ht.unwo (by decide)).map
  refine enter Tryz.func118 rfl Tryz.ntmps118 rfl ?_
  by_cases h1 : p + 1 < ts.length
  · have e : nxt ts p = p + 1 := if_pos h1
    rw [e]
    repeat' (first | (refine WL_alloc hT rfl rfl rfl hSt ?_; clear hSt; intro w nb hnb hSt; replace hSt := hSt.front; dsimp only [zcells] at hSt) | (refine WL_isCall (f := 33) ?_; refine WL_call (ok_call hT rfl) rfl rfl rfl (hpk (hSt.own 1 _ _ rfl).1 ((ht.kept hSt.keepB).unwo (by decide))) ?_; rintro v w2 ⟨rfl, hc2⟩; replace hSt := hSt.call0 hc2; clear hc2) | refine stepA ?_ | (refine stepS ?_; clear hSt; intro w hSt; dsimp only [spl, List.set] at hSt) | (refine stepB ?_; clear hSt; intro w nb hnb hSt; dsimp only [zcells, List.nil_append, List.cons_append] at hSt) | (refine W_quiet hT (by decide +kernel) hSt ?_; clear hSt; (repeat' (first | (apply QL_ev rfl rfl; (intro w hSt; (first | exact Ev_auto))) | refine QL_pass rfl rfl ?_ | (refine QL_guardP rfl rfl (fun hc => ?_) (fun hc => ?_) <;> try exact absA) | (refine QL_guard rfl rfl (fun hc => ?_) (fun hc => ?_) <;> (try exact absA) <;> (fail_if_success (change true = true at hc)) <;> (fail_if_success (change false = false at hc))))); all_goals (refine QL_nil (fun w hSt => ?_))) | (refine stepG ?_ ?_ <;> intro hc <;> (try exact absA) <;> (fail_if_success (change true = true at hc)) <;> (fail_if_success (change false = false at hc))) | fail)
    all_goals try (exfalso; first | omega | (simp at hc; done) | (exact hc rfl) | contradiction)
    all_goals exact end_of (resc1 rfl hT rfl rfl (hSt.at 1 rfl) rfl rfl) ⟨rfl, hSt.right (Ha := [_, _])⟩
  · have e : nxt ts p = p := if_neg h1
    rw [e]
    repeat' (first | (refine WL_alloc hT rfl rfl rfl hSt ?_; clear hSt; intro w nb hnb hSt; replace hSt := hSt.front; dsimp only [zcells] at hSt) | (refine WL_isCall (f := 33) ?_; refine WL_call (ok_call hT rfl) rfl rfl rfl (hpk (hSt.own 1 _ _ rfl).1 ((ht.kept hSt.keepB).unwo (by decide))) ?_; rintro v w2 ⟨rfl, hc2⟩; replace hSt := hSt.call0 hc2; clear hc2) | refine stepA ?_ | (refine stepS ?_; clear hSt; intro w hSt; dsimp only [spl, List.set] at hSt) | (refine stepB ?_; clear hSt; intro w nb hnb hSt; dsimp only [zcells, List.nil_append, List.cons_append] at hSt) | (refine W_quiet hT (by decide +kernel) hSt ?_; clear hSt; (repeat' (first | (apply QL_ev rfl rfl; (intro w hSt; (first | exact Ev_auto))) | refine QL_pass rfl rfl ?_ | (refine QL_guardP rfl rfl (fun hc => ?_) (fun hc => ?_) <;> try exact absA) | (refine QL_guard rfl rfl (fun hc => ?_) (fun hc => ?_) <;> (try exact absA) <;> (fail_if_success (change true = true at hc)) <;> (fail_if_success (change false = false at hc))))); all_goals (refine QL_nil (fun w hSt => ?_))) | (refine stepG ?_ ?_ <;> intro hc <;> (try exact absA) <;> (fail_if_success (change true = true at hc)) <;> (fail_if_success (change false = false at hc))) | fail)
    all_goals try (exfalso; first | omega | (simp at hc; done) | (exact hc rfl) | contradiction)
    all_goals exact end_of (resc1 rfl hT rfl rfl (hSt.at 1 rfl) rfl rfl) ⟨rfl, hSt.right (Ha := [_, _])⟩
/-- past a mark or a word -/
theorem stake_any (hs : w0.heap[sc]? = some (scO v p)) (ht : SlAt (wo sc w0) v 4 (ts.map tkC)) (hk : TkOk ts) (hp : p < ts.length) (hl : ts.length ≤ 4611686018427387904) (k : Int) (s : Tx) (h0 : k ≠ 0) :
    Cl Tryz.prog 117 [Ptr sc, I k, S s] w0 (fun r w' => r = B (decide ((tkAt ts p).kd = k) && decide ((tkAt ts p).tx = s)) ∧ St w0 (· = sc) [(sc, scO v (if (decide ((tkAt ts p).kd = k) && decide ((tkAt ts p).tx = s)) = true then p + 1 else p))] w') := by
  have hSt := (St.refl w0 (· = sc)).know hs (Or.inl rfl) (by simp)
  dsimp only [List.nil_append, List.cons_append] at hSt
  have hpk := fun {w : World} (h1 : w.heap[sc]? = some (scO v p)) (h2 : SlAt w v 4 (ts.map tkC)) => peek_any h1 h2 hp
  have hnx := fun {w : World} (h1 : w.heap[sc]? = some (scO v p)) (h2 : SlAt (wo sc w) v 4 (ts.map tkC)) => next_any h1 h2 hp hl
  have hnp : (tkAt ts p).kd = k → nxt ts p = p + 1 := fun e => if_pos (hk.next hp (by omega))
  generalize tkAt ts p = t at hpk hnx hnp ⊢
  obtain ⟨kd, tx, nn, at_⟩ := t
  dsimp only at hpk hnx hnp ⊢
  by_cases h1 : kd = k
  · by_cases h2 : tx = s
    · subst h1 h2
      rw [hnp rfl] at hnx
      rw [decide_eq_true rfl, decide_eq_true rfl, show (if (true && true) = true then p + 1 else p) = p + 1 from rfl, show (true && true) = true from rfl]
      refine enter Tryz.func117 rfl Tryz.ntmps117 rfl ?_
      repeat' (first | (refine WL_alloc hT rfl rfl rfl hSt ?_; clear hSt; intro w nb hnb hSt; replace hSt := hSt.front; dsimp only [zcells] at hSt) | (refine WL_isCall (f := 33) ?_; refine WL_call (ok_call hT rfl) rfl rfl rfl (hpk (hSt.own 0 _ _ rfl).1 ((ht.kept hSt.keepB).unwo (by decide))) ?_; rintro v w2 ⟨rfl, hc2⟩; replace hSt := hSt.call0 hc2; clear hc2) | (refine WL_isCall (f := 118) ?_; refine WL_call (ok_call hT rfl) rfl rfl rfl (hnx (hSt.own 1 _ _ rfl).1 (ht.kept hSt.keepB)) ?_; rintro v w2 ⟨rfl, hc2⟩; replace hSt := hSt.call1 (i := 1) rfl hc2; clear hc2; dsimp only [List.set] at hSt) | refine stepA ?_ | (refine stepS ?_; clear hSt; intro w hSt; dsimp only [spl, List.set] at hSt) | (refine stepB ?_; clear hSt; intro w nb hnb hSt; dsimp only [zcells, List.nil_append, List.cons_append] at hSt) | (refine W_quiet hT (by decide +kernel) hSt ?_; clear hSt; (repeat' (first | (apply QL_ev rfl rfl; (intro w hSt; (first | exact Ev_auto))) | refine QL_pass rfl rfl ?_ | (refine QL_guardP rfl rfl (fun hc => ?_) (fun hc => ?_) <;> try exact absA) | (refine QL_guard rfl rfl (fun hc => ?_) (fun hc => ?_) <;> (try exact absA) <;> (fail_if_success (change true = true at hc)) <;> (fail_if_success (change false = false at hc))))); all_goals (refine QL_nil (fun w hSt => ?_))) | (refine stepG ?_ ?_ <;> intro hc <;> (try exact absA) <;> (fail_if_success (change true = true at hc)) <;> (fail_if_success (change false = false at hc))) | fail)
      all_goals try (exfalso; first | omega | (simp at hc; done) | (exact hc rfl) | contradiction)
      all_goals exact ret1 rfl rfl ⟨rfl, hSt.right (Ha := [_])⟩
    · rw [decide_eq_false h2, Bool.and_false, if_neg (by simp)]
      refine enter Tryz.func117 rfl Tryz.ntmps117 rfl ?_
      repeat' (first | (refine WL_alloc hT rfl rfl rfl hSt ?_; clear hSt; intro w nb hnb hSt; replace hSt := hSt.front; dsimp only [zcells] at hSt) | (refine WL_isCall (f := 33) ?_; refine WL_call (ok_call hT rfl) rfl rfl rfl (hpk (hSt.own 0 _ _ rfl).1 ((ht.kept hSt.keepB).unwo (by decide))) ?_; rintro v w2 ⟨rfl, hc2⟩; replace hSt := hSt.call0 hc2; clear hc2) | refine stepA ?_ | (refine stepS ?_; clear hSt; intro w hSt; dsimp only [spl, List.set] at hSt) | (refine stepB ?_; clear hSt; intro w nb hnb hSt; dsimp only [zcells, List.nil_append, List.cons_append] at hSt) | (refine W_quiet hT (by decide +kernel) hSt ?_; clear hSt; (repeat' (first | (apply QL_ev rfl rfl; (intro w hSt; (first | exact Ev_auto))) | refine QL_pass rfl rfl ?_ | (refine QL_guardP rfl rfl (fun hc => ?_) (fun hc => ?_) <;> try exact absA) | (refine QL_guard rfl rfl (fun hc => ?_) (fun hc => ?_) <;> (try exact absA) <;> (fail_if_success (change true = true at hc)) <;> (fail_if_success (change false = false at hc))))); all_goals (refine QL_nil (fun w hSt => ?_))) | (refine stepG ?_ ?_ <;> intro hc <;> (try exact absA) <;> (fail_if_success (change true = true at hc)) <;> (fail_if_success (change false = false at hc))) | fail)
      all_goals try (exfalso; first | omega | (simp at hc; done) | (exact hc rfl) | contradiction)
      all_goals exact ret1 rfl rfl ⟨rfl, hSt.right (Ha := [_])⟩
  · rw [decide_eq_false h1, Bool.false_and, if_neg (by simp)]
    refine enter Tryz.func117 rfl Tryz.ntmps117 rfl ?_
    repeat' (first | (refine WL_alloc hT rfl rfl rfl hSt ?_; clear hSt; intro w nb hnb hSt; replace hSt := hSt.front; dsimp only [zcells] at hSt) | (refine WL_isCall (f := 33) ?_; refine WL_call (ok_call hT rfl) rfl rfl rfl (hpk (hSt.own 0 _ _ rfl).1 ((ht.kept hSt.keepB).unwo (by decide))) ?_; rintro v w2 ⟨rfl, hc2⟩; replace hSt := hSt.call0 hc2; clear hc2) | refine stepA ?_ | (refine stepS ?_; clear hSt; intro w hSt; dsimp only [spl, List.set] at hSt) | (refine stepB ?_; clear hSt; intro w nb hnb hSt; dsimp only [zcells, List.nil_append, List.cons_append] at hSt) | (refine W_quiet hT (by decide +kernel) hSt ?_; clear hSt; (repeat' (first | (apply QL_ev rfl rfl; (intro w hSt; (first | exact Ev_auto))) | refine QL_pass rfl rfl ?_ | (refine QL_guardP rfl rfl (fun hc => ?_) (fun hc => ?_) <;> try exact absA) | (refine QL_guard rfl rfl (fun hc => ?_) (fun hc => ?_) <;> (try exact absA) <;> (fail_if_success (change true = true at hc)) <;> (fail_if_success (change false = false at hc))))); all_goals (refine QL_nil (fun w hSt => ?_))) | (refine stepG ?_ ?_ <;> intro hc <;> (try exact absA) <;> (fail_if_success (change true = true at hc)) <;> (fail_if_success (change false = false at hc))) | fail)
    all_goals try (exfalso; first | omega | (simp at hc; done) | (exact hc rfl) | contradiction)
    all_goals exact ret1 rfl rfl ⟨rfl, hSt.right (Ha := [_])⟩
def mkN (ts : List Tk) (p : Nat) (c : UInt8) : Nat := if mkB ts p c = true then p + 1 else p
def wdN (ts : List Tk) (p : Nat) (s : Tx) : Nat := if wdB ts p s = true then p + 1 else p
theorem mark_any (hs : w0.heap[sc]? = some (scO v p)) (ht : SlAt (wo sc w0) v 4 (ts.map tkC)) (hk : TkOk ts) (hp : p < ts.length) (hl : ts.length ≤ 4611686018427387904) (c : UInt8) :
    Cl Tryz.prog 78 [Ptr sc, S [c]] w0 (fun r w' => r = B (mkB ts p c) ∧ St w0 (· = sc) [(sc, scO v (mkN ts p c))] w') := by
  have hSt := (St.refl w0 (· = sc)).know hs (Or.inl rfl) (by simp)
  dsimp only [List.nil_append, List.cons_append] at hSt
  refine enter Tryz.func78 rfl Tryz.ntmps78 rfl ?_
  repeat' (first | (refine WL_isCall (f := 117) ?_; refine WL_call (ok_call hT rfl) rfl rfl rfl (stake_any (hSt.own 0 _ _ rfl).1 (ht.kept hSt.keepB) hk hp hl 4 [c] (by decide)) ?_; rintro v w2 ⟨rfl, hc2⟩; replace hSt := hSt.call1 (i := 0) rfl hc2; clear hc2; dsimp only [List.set] at hSt) | refine stepA ?_ | (refine stepS ?_; clear hSt; intro w hSt; dsimp only [spl, List.set] at hSt) | (refine stepB ?_; clear hSt; intro w nb hnb hSt; dsimp only [zcells, List.nil_append, List.cons_append] at hSt) | (refine W_quiet hT (by decide +kernel) hSt ?_; clear hSt; (repeat' (first | (apply QL_ev rfl rfl; (intro w hSt; (first | exact Ev_auto))) | refine QL_pass rfl rfl ?_ | (refine QL_guardP rfl rfl (fun hc => ?_) (fun hc => ?_) <;> try exact absA) | (refine QL_guard rfl rfl (fun hc => ?_) (fun hc => ?_) <;> (try exact absA) <;> (fail_if_success (change true = true at hc)) <;> (fail_if_success (change false = false at hc))))); all_goals (refine QL_nil (fun w hSt => ?_))) | (refine stepG ?_ ?_ <;> intro hc <;> (try exact absA) <;> (fail_if_success (change true = true at hc)) <;> (fail_if_success (change false = false at hc))) | fail)
  all_goals exact ret1 rfl rfl ⟨rfl, hSt⟩
theorem word_any (hs : w0.heap[sc]? = some (scO v p)) (ht : SlAt (wo sc w0) v 4 (ts.map tkC)) (hk : TkOk ts) (hp : p < ts.length) (hl : ts.length ≤ 4611686018427387904) (s : Tx) :
    Cl Tryz.prog 74 [Ptr sc, S s] w0 (fun r w' => r = B (wdB ts p s) ∧ St w0 (· = sc) [(sc, scO v (wdN ts p s))] w') := by
  have hSt := (St.refl w0 (· = sc)).know hs (Or.inl rfl) (by simp)
  dsimp only [List.nil_append, List.cons_append] at hSt
  refine enter Tryz.func74 rfl Tryz.ntmps74 rfl ?_
  repeat' (first | (refine WL_isCall (f := 117) ?_; refine WL_call (ok_call hT rfl) rfl rfl rfl (stake_any (hSt.own 0 _ _ rfl).1 (ht.kept hSt.keepB) hk hp hl 1 s (by decide)) ?_; rintro v w2 ⟨rfl, hc2⟩; replace hSt := hSt.call1 (i := 0) rfl hc2; clear hc2; dsimp only [List.set] at hSt) | refine stepA ?_ | (refine stepS ?_; clear hSt; intro w hSt; dsimp only [spl, List.set] at hSt) | (refine stepB ?_; clear hSt; intro w nb hnb hSt; dsimp only [zcells, List.nil_append, List.cons_append] at hSt) | (refine W_quiet hT (by decide +kernel) hSt ?_; clear hSt; (repeat' (first | (apply QL_ev rfl rfl; (intro w hSt; (first | exact Ev_auto))) | refine QL_pass rfl rfl ?_ | (refine QL_guardP rfl rfl (fun hc => ?_) (fun hc => ?_) <;> try exact absA) | (refine QL_guard rfl rfl (fun hc => ?_) (fun hc => ?_) <;> (try exact absA) <;> (fail_if_success (change true = true at hc)) <;> (fail_if_success (change false = false at hc))))); all_goals (refine QL_nil (fun w hSt => ?_))) | (refine stepG ?_ ?_ <;> intro hc <;> (try exact absA) <;> (fail_if_success (change true = true at hc)) <;> (fail_if_success (change false = false at hc))) | fail)
  all_goals exact ret1 rfl rfl ⟨rfl, hSt⟩
end
end Go.Proofs.YtknfankadlokhaaGreatDoor

namespace Go.Proofs.YtknfankadlokhaaGreatDoor
open Go.RowKit
set_option maxRecDepth 4000
set_option linter.unusedVariables false
set_option linter.unusedSimpArgs false
set_option maxHeartbeats 8000000

theorem retQ {P : Program} {m9 : Nat} {L : Fr} {w : World} {fn : Func} {R Rp : Value → World → Prop} (h : At (m9, []) (bodyPost P fn (fun e w' => ∃ v, e = .returned v ∧ R v w')) .ret L w) : At (m9, []) (bodyPost P fn (RP R Rp)) .ret L w := retP (e := .ret) h
theorem retQ' {P : Program} {m9 : Nat} {L : Fr} {w : World} {fn : Func} {R Rp : Value → World → Prop} (h : At (m9, []) (bodyPost P fn (fun e w' => ∃ v, e = .returned v ∧ R v w')) .normal L w) : At (m9, []) (bodyPost P fn (RP R Rp)) .normal L w := retP' (e := .ret) h
theorem St.only {w0 w : World} {Sx : Nat → Prop} {H : List (Nat × Obj)} {x : Nat × Obj} (h : St w0 Sx H w) (hx : x ∈ H) : St w0 Sx [x] w := h.sublist (List.singleton_sublist.2 hx)
/-- the value that a panic bears -/
abbrev failV (e a : Int) : Value := .iface 110 (.agg ⟨[I e, I a]⟩)
/-- a parser in memory -/
structure PS (w : World) (pb sc : Nat) (ts : List Tk) (v : Value) (p : Nat) : Prop where
  hp : w.heap[pb]? = some (blk [Ptr sc] 66)
  hs : w.heap[sc]? = some (scO v p)
  ht : SlAt (wo sc w) v 4 (ts.map tkC)
  ne : pb ≠ sc
  ok : TkOk ts
  len : ts.length ≤ 100000
  tl : ∀ p, (tkAt ts p).tx.length ≤ 9223372036854775807
  lt : p < ts.length
section
variable {w0 w : World} {pb sc p q : Nat} {v : Value} {ts : List Tk} {H : List (Nat × Obj)}
theorem PS.len9 (h : PS w0 pb sc ts v p) : ts.length ≤ 4611686018427387904 := by have := h.len; omega
theorem PS.next (h : PS w0 pb sc ts v p) (hSt : St w0 (· = sc) H w) {i : Nat} (hi : H[i]? = some (sc, scO v q)) (hq : q < ts.length) : PS w pb sc ts v q :=
  ⟨hSt.base h.hp (fun e => h.ne e), (hSt.own i _ _ hi).1, h.ht.kept hSt.keepB, h.ne, h.ok, h.len, h.tl, hq⟩
theorem PS.start (h : PS w0 pb sc ts v p) : St w0 (· = sc) [(sc, scO v p)] w0 := (St.refl w0 (· = sc)).know h.hs (Or.inl rfl) (by simp)
theorem PS.kept (h : PS w0 pb sc ts v p) (hSt : St w0 NoneS H w) : PS w pb sc ts v p :=
  ⟨hSt.base h.hp (fun e => e), hSt.base h.hs (fun e => e), h.ht.kept hSt.keepB0, h.ne, h.ok, h.len, h.tl, h.lt⟩
abbrev OkR {α : Type} (r : Rs α) (R : α → Value → World → Prop) (sc : Nat) (v : Value) (w0 : World) : Value → World → Prop := fun x w' => ∃ a q, r = .ok a q ∧ R a x w' ∧ St w0 (· = sc) [(sc, scO v q)] w'
abbrev BadR {α : Type} (ts : List Tk) (r : Rs α) (sc : Nat) (v : Value) (w0 : World) : Value → World → Prop := fun x w' => ∃ q q', r = .bad q ∧ x = failV 2 (tkAt ts q).at_ ∧ St w0 (· = sc) [(sc, scO v q')] w'
theorem misfit_any (h : PS w0 pb sc ts v p) : Cp Tryz.prog 75 [Ptr pb] w0 (fun _ _ => False) (fun x w' => x = failV 2 (tkAt ts p).at_ ∧ St w0 NoneS [] w') := by
  have hSt := St.refl w0 NoneS
  have hpk := fun {w : World} (h : PS w pb sc ts v p) => peek_any h.hs (h.ht.unwo (by decide)) h.lt
  generalize tkAt ts p = t at hpk ⊢
  obtain ⟨kd, tx, nn, at_⟩ := t
  refine enterP Tryz.func75 rfl Tryz.ntmps75 rfl ?_
  repeat' (first | (apply WL_ev rfl rfl; exact Ev_load1 hT rfl rfl (hSt.base h.hp (fun e => e)) rfl) | (refine WL_isCall (f := 33) ?_; refine WL_call (ok_call hT rfl) rfl rfl rfl (hpk (h.kept hSt)) ?_; rintro v w2 ⟨rfl, hc2⟩; replace hSt := hSt.call0 hc2; clear hc2) | (apply WL_ev rfl rfl; exact Ev_field1 hT rfl rfl rfl (by intro fs x h1 h2; rw [Tryz.underlying63] at h1; injection h1 with h1; injection h1 with h1; subst h1; injection h2 with h2; subst h2; decide +kernel)) | (apply WL_ev rfl rfl; exact Ev_makeIface Tryz.underlying110 rfl) | (refine WL_panic rfl rfl ?_) | refine stepA ?_ | (refine stepS ?_; clear hSt; intro w hSt; dsimp only [spl, List.set] at hSt) | (refine stepB ?_; clear hSt; intro w nb hnb hSt; dsimp only [zcells, List.nil_append, List.cons_append] at hSt) | (refine W_quiet hT (by decide +kernel) hSt ?_; clear hSt; (repeat' (first | (apply QL_ev rfl rfl; (intro w hSt; (first | (exact Ev_load1 hT rfl rfl (hSt.base h.hp (fun e => e)) rfl) | (exact Ev_field1 hT rfl rfl rfl (by intro fs x h1 h2; rw [Tryz.underlying63] at h1; injection h1 with h1; injection h1 with h1; subst h1; injection h2 with h2; subst h2; decide +kernel)) | (exact Ev_makeIface Tryz.underlying110 rfl) | exact Ev_auto))) | refine QL_pass rfl rfl ?_ | (refine QL_guardP rfl rfl (fun hc => ?_) (fun hc => ?_) <;> try exact absA) | (refine QL_guard rfl rfl (fun hc => ?_) (fun hc => ?_) <;> (try exact absA) <;> (fail_if_success (change true = true at hc)) <;> (fail_if_success (change false = false at hc))))); all_goals (refine QL_nil (fun w hSt => ?_))) | (refine stepG ?_ ?_ <;> intro hc <;> (try exact absA) <;> (fail_if_success (change true = true at hc)) <;> (fail_if_success (change false = false at hc))) | fail)
  exact panP ⟨rfl, hSt⟩
theorem ptake_any (h : PS w0 pb sc ts v p) (k : Int) (h0 : k ≠ 0) : Cp Tryz.prog 76 [Ptr pb, I k] w0 (OkR (takeR ts k p) (fun s x _ => x = S s) sc v w0) (BadR ts (takeR ts k p) sc v w0) := by
  have hSt := h.start
  have hpk := fun {w : World} (h : PS w pb sc ts v p) => peek_any h.hs (h.ht.unwo (by decide)) h.lt
  have hnx := fun {w : World} (h : PS w pb sc ts v p) => next_any h.hs h.ht h.lt h.len9
  have hmf := fun {w : World} (h : PS w pb sc ts v p) => misfit_any h
  have hnp : (tkAt ts p).kd = k → nxt ts p = p + 1 := fun e => if_pos (h.ok.next h.lt (by omega))
  have e1 : takeR ts k p = if (tkAt ts p).kd = k then .ok (tkAt ts p).tx (p + 1) else .bad p := rfl
  rw [e1]
  have e2 : (tkAt ts p).at_ = (tkAt ts p).at_ := rfl
  generalize ht0 : tkAt ts p = t at hpk hnx hnp hmf
  obtain ⟨kd, tx, nn, at_⟩ := t
  dsimp only at hpk hnx hnp hmf ⊢
  by_cases hk : kd = k
  · subst hk
    rw [if_pos rfl]
    rw [hnp rfl] at hnx
    refine enterP Tryz.func76 rfl Tryz.ntmps76 rfl ?_
    repeat' (first | (apply WL_ev rfl rfl; exact Ev_load1 hT rfl rfl (hSt.base h.hp (fun e => h.ne e)) rfl) | (refine WL_isCall (f := 33) ?_; refine WL_call (ok_call hT rfl) rfl rfl rfl (hpk (h.next hSt (i := 0) rfl h.lt)) ?_; rintro v w2 ⟨rfl, hc2⟩; replace hSt := hSt.call0 hc2; clear hc2) | (apply WL_ev rfl rfl; exact Ev_field1 hT rfl rfl rfl (by intro fs x h1 h2; rw [Tryz.underlying63] at h1; injection h1 with h1; injection h1 with h1; subst h1; injection h2 with h2; subst h2; decide +kernel)) | (refine WL_isCall (f := 118) ?_; refine WL_call (ok_call hT rfl) rfl rfl rfl (hnx (h.next hSt (i := 0) rfl h.lt)) ?_; rintro v w2 ⟨rfl, hc2⟩; replace hSt := hSt.call1 (i := 0) rfl hc2; clear hc2; dsimp only [List.set] at hSt) | refine stepA ?_ | (refine stepS ?_; clear hSt; intro w hSt; dsimp only [spl, List.set] at hSt) | (refine stepB ?_; clear hSt; intro w nb hnb hSt; dsimp only [zcells, List.nil_append, List.cons_append] at hSt) | (refine W_quiet hT (by decide +kernel) hSt ?_; clear hSt; (repeat' (first | (apply QL_ev rfl rfl; (intro w hSt; (first | (exact Ev_load1 hT rfl rfl (hSt.base h.hp (fun e => h.ne e)) rfl) | (exact Ev_field1 hT rfl rfl rfl (by intro fs x h1 h2; rw [Tryz.underlying63] at h1; injection h1 with h1; injection h1 with h1; subst h1; injection h2 with h2; subst h2; decide +kernel)) | exact Ev_auto))) | refine QL_pass rfl rfl ?_ | (refine QL_guardP rfl rfl (fun hc => ?_) (fun hc => ?_) <;> try exact absA) | (refine QL_guard rfl rfl (fun hc => ?_) (fun hc => ?_) <;> (try exact absA) <;> (fail_if_success (change true = true at hc)) <;> (fail_if_success (change false = false at hc))))); all_goals (refine QL_nil (fun w hSt => ?_))) | (refine stepG ?_ ?_ <;> intro hc <;> (try exact absA) <;> (fail_if_success (change true = true at hc)) <;> (fail_if_success (change false = false at hc))) | fail)
    all_goals try (exfalso; first | omega | (simp at hc; done) | (exact hc rfl) | contradiction)
    all_goals exact retQ (ret1 rfl rfl ⟨tx, p + 1, rfl, rfl, hSt⟩)
  · rw [if_neg hk]
    refine enterP Tryz.func76 rfl Tryz.ntmps76 rfl ?_
    repeat' (first | (apply WL_ev rfl rfl; exact Ev_load1 hT rfl rfl (hSt.base h.hp (fun e => h.ne e)) rfl) | (refine WL_isCall (f := 33) ?_; refine WL_call (ok_call hT rfl) rfl rfl rfl (hpk (h.next hSt (i := 0) rfl h.lt)) ?_; rintro v w2 ⟨rfl, hc2⟩; replace hSt := hSt.call0 hc2; clear hc2) | (apply WL_ev rfl rfl; exact Ev_field1 hT rfl rfl rfl (by intro fs x h1 h2; rw [Tryz.underlying63] at h1; injection h1 with h1; injection h1 with h1; subst h1; injection h2 with h2; subst h2; decide +kernel)) | (refine WL_isCall (f := 75) ?_; refine WL_callP (ok_call hT rfl) rfl rfl rfl (hmf (h.next hSt (i := 0) rfl h.lt)) (fun _ _ e => e.elim) ?_; (rintro x w2 ⟨rfl, hc2⟩; (repeat (first | refine At_then_panic ?_ | refine At_in_panic ?_ | fail)); exact panP ⟨p, p, rfl, by rw [ht0], (hSt.call0 hc2)⟩)) | refine stepA ?_ | (refine stepS ?_; clear hSt; intro w hSt; dsimp only [spl, List.set] at hSt) | (refine stepB ?_; clear hSt; intro w nb hnb hSt; dsimp only [zcells, List.nil_append, List.cons_append] at hSt) | (refine W_quiet hT (by decide +kernel) hSt ?_; clear hSt; (repeat' (first | (apply QL_ev rfl rfl; (intro w hSt; (first | (exact Ev_load1 hT rfl rfl (hSt.base h.hp (fun e => h.ne e)) rfl) | (exact Ev_field1 hT rfl rfl rfl (by intro fs x h1 h2; rw [Tryz.underlying63] at h1; injection h1 with h1; injection h1 with h1; subst h1; injection h2 with h2; subst h2; decide +kernel)) | exact Ev_auto))) | refine QL_pass rfl rfl ?_ | (refine QL_guardP rfl rfl (fun hc => ?_) (fun hc => ?_) <;> try exact absA) | (refine QL_guard rfl rfl (fun hc => ?_) (fun hc => ?_) <;> (try exact absA) <;> (fail_if_success (change true = true at hc)) <;> (fail_if_success (change false = false at hc))))); all_goals (refine QL_nil (fun w hSt => ?_))) | (refine stepG ?_ ?_ <;> intro hc <;> (try exact absA) <;> (fail_if_success (change true = true at hc)) <;> (fail_if_success (change false = false at hc))) | fail)
    all_goals try (exfalso; first | omega | (simp at hc; done) | (exact hc rfl) | contradiction)
    all_goals trivial
theorem pmark_any (h : PS w0 pb sc ts v p) (c : UInt8) : Cp Tryz.prog 77 [Ptr pb, S [c]] w0 (OkR (markR ts c p) (fun _ _ _ => True) sc v w0) (BadR ts (markR ts c p) sc v w0) := by
  have hSt := h.start
  have hmk := fun {w : World} (h : PS w pb sc ts v p) => mark_any h.hs h.ht h.ok h.lt h.len9 c
  have hmf := fun {w : World} (h : PS w pb sc ts v p) => misfit_any h
  have e1 : markR ts c p = if mkB ts p c = true then .ok () (p + 1) else .bad p := rfl
  have e2 : mkN ts p c = if mkB ts p c = true then p + 1 else p := rfl
  rw [e1]
  rw [e2] at hmk
  generalize mkB ts p c = bb at hmk ⊢
  cases bb
  · rw [if_neg (by simp)] at hmk ⊢
    refine enterP Tryz.func77 rfl Tryz.ntmps77 rfl ?_
    repeat' (first | (apply WL_ev rfl rfl; exact Ev_load1 hT rfl rfl (hSt.base h.hp (fun e => h.ne e)) rfl) | (refine WL_isCall (f := 78) ?_; refine WL_call (ok_call hT rfl) rfl rfl rfl (hmk (h.next hSt (i := 0) rfl h.lt)) ?_; rintro v w2 ⟨rfl, hc2⟩; replace hSt := hSt.call1 (i := 0) rfl hc2; clear hc2; dsimp only [List.set] at hSt) | (refine WL_isCall (f := 75) ?_; refine WL_callP (ok_call hT rfl) rfl rfl rfl (hmf (h.next hSt (i := 0) rfl h.lt)) (fun _ _ e => e.elim) ?_; (rintro x w2 ⟨rfl, hc2⟩; (repeat (first | refine At_then_panic ?_ | refine At_in_panic ?_ | fail)); exact panP ⟨p, p, rfl, rfl, (hSt.call0 hc2)⟩)) | refine stepA ?_ | (refine stepS ?_; clear hSt; intro w hSt; dsimp only [spl, List.set] at hSt) | (refine stepB ?_; clear hSt; intro w nb hnb hSt; dsimp only [zcells, List.nil_append, List.cons_append] at hSt) | (refine W_quiet hT (by decide +kernel) hSt ?_; clear hSt; (repeat' (first | (apply QL_ev rfl rfl; (intro w hSt; (first | (exact Ev_load1 hT rfl rfl (hSt.base h.hp (fun e => h.ne e)) rfl) | exact Ev_auto))) | refine QL_pass rfl rfl ?_ | (refine QL_guardP rfl rfl (fun hc => ?_) (fun hc => ?_) <;> try exact absA) | (refine QL_guard rfl rfl (fun hc => ?_) (fun hc => ?_) <;> (try exact absA) <;> (fail_if_success (change true = true at hc)) <;> (fail_if_success (change false = false at hc))))); all_goals (refine QL_nil (fun w hSt => ?_))) | (refine stepG ?_ ?_ <;> intro hc <;> (try exact absA) <;> (fail_if_success (change true = true at hc)) <;> (fail_if_success (change false = false at hc))) | fail)
    all_goals try (exfalso; first | omega | (simp at hc; done) | (exact hc rfl) | contradiction)
    all_goals trivial
  · rw [if_pos rfl] at hmk ⊢
    refine enterP Tryz.func77 rfl Tryz.ntmps77 rfl ?_
    repeat' (first | (apply WL_ev rfl rfl; exact Ev_load1 hT rfl rfl (hSt.base h.hp (fun e => h.ne e)) rfl) | (refine WL_isCall (f := 78) ?_; refine WL_call (ok_call hT rfl) rfl rfl rfl (hmk (h.next hSt (i := 0) rfl h.lt)) ?_; rintro v w2 ⟨rfl, hc2⟩; replace hSt := hSt.call1 (i := 0) rfl hc2; clear hc2; dsimp only [List.set] at hSt) | refine stepA ?_ | (refine stepS ?_; clear hSt; intro w hSt; dsimp only [spl, List.set] at hSt) | (refine stepB ?_; clear hSt; intro w nb hnb hSt; dsimp only [zcells, List.nil_append, List.cons_append] at hSt) | (refine W_quiet hT (by decide +kernel) hSt ?_; clear hSt; (repeat' (first | (apply QL_ev rfl rfl; (intro w hSt; (first | (exact Ev_load1 hT rfl rfl (hSt.base h.hp (fun e => h.ne e)) rfl) | exact Ev_auto))) | refine QL_pass rfl rfl ?_ | (refine QL_guardP rfl rfl (fun hc => ?_) (fun hc => ?_) <;> try exact absA) | (refine QL_guard rfl rfl (fun hc => ?_) (fun hc => ?_) <;> (try exact absA) <;> (fail_if_success (change true = true at hc)) <;> (fail_if_success (change false = false at hc))))); all_goals (refine QL_nil (fun w hSt => ?_))) | (refine stepG ?_ ?_ <;> intro hc <;> (try exact absA) <;> (fail_if_success (change true = true at hc)) <;> (fail_if_success (change false = false at hc))) | fail)
    all_goals try (exfalso; first | omega | (simp at hc; done) | (exact hc rfl) | contradiction)
    all_goals exact retQ' (ret0' rfl ⟨(), p + 1, rfl, trivial, hSt⟩)
theorem pend_any (h : PS w0 pb sc ts v p) : Cp Tryz.prog 37 [Ptr pb] w0 (fun x w' => (tkAt ts p).kd = 0 ∧ St w0 NoneS [] w') (fun x w' => (tkAt ts p).kd ≠ 0 ∧ x = failV 2 (tkAt ts p).at_ ∧ St w0 NoneS [] w') := by
  have hSt := St.refl w0 NoneS
  have hpk := fun {w : World} (h : PS w pb sc ts v p) => peek_any h.hs (h.ht.unwo (by decide)) h.lt
  have hmf := fun {w : World} (h : PS w pb sc ts v p) => misfit_any h
  generalize tkAt ts p = t at hpk hmf ⊢
  obtain ⟨kd, tx, nn, at_⟩ := t
  dsimp only at hpk hmf ⊢
  by_cases hk : kd = 0
  · subst hk
    refine enterP Tryz.func37 rfl Tryz.ntmps37 rfl ?_
    repeat' (first | (apply WL_ev rfl rfl; exact Ev_load1 hT rfl rfl (hSt.base h.hp (fun e => e)) rfl) | (refine WL_isCall (f := 33) ?_; refine WL_call (ok_call hT rfl) rfl rfl rfl (hpk (h.kept hSt)) ?_; rintro v w2 ⟨rfl, hc2⟩; replace hSt := hSt.call0 hc2; clear hc2) | (apply WL_ev rfl rfl; exact Ev_field1 hT rfl rfl rfl (by intro fs x h1 h2; rw [Tryz.underlying63] at h1; injection h1 with h1; injection h1 with h1; subst h1; injection h2 with h2; subst h2; decide +kernel)) | refine stepA ?_ | (refine stepS ?_; clear hSt; intro w hSt; dsimp only [spl, List.set] at hSt) | (refine stepB ?_; clear hSt; intro w nb hnb hSt; dsimp only [zcells, List.nil_append, List.cons_append] at hSt) | (refine W_quiet hT (by decide +kernel) hSt ?_; clear hSt; (repeat' (first | (apply QL_ev rfl rfl; (intro w hSt; (first | (exact Ev_load1 hT rfl rfl (hSt.base h.hp (fun e => e)) rfl) | (exact Ev_field1 hT rfl rfl rfl (by intro fs x h1 h2; rw [Tryz.underlying63] at h1; injection h1 with h1; injection h1 with h1; subst h1; injection h2 with h2; subst h2; decide +kernel)) | exact Ev_auto))) | refine QL_pass rfl rfl ?_ | (refine QL_guardP rfl rfl (fun hc => ?_) (fun hc => ?_) <;> try exact absA) | (refine QL_guard rfl rfl (fun hc => ?_) (fun hc => ?_) <;> (try exact absA) <;> (fail_if_success (change true = true at hc)) <;> (fail_if_success (change false = false at hc))))); all_goals (refine QL_nil (fun w hSt => ?_))) | (refine stepG ?_ ?_ <;> intro hc <;> (try exact absA) <;> (fail_if_success (change true = true at hc)) <;> (fail_if_success (change false = false at hc))) | fail)
    all_goals try (exfalso; first | omega | (simp at hc; done) | (exact hc rfl) | contradiction)
    all_goals exact retQ' (ret0' rfl ⟨rfl, hSt⟩)
  · refine enterP Tryz.func37 rfl Tryz.ntmps37 rfl ?_
    repeat' (first | (apply WL_ev rfl rfl; exact Ev_load1 hT rfl rfl (hSt.base h.hp (fun e => e)) rfl) | (refine WL_isCall (f := 33) ?_; refine WL_call (ok_call hT rfl) rfl rfl rfl (hpk (h.kept hSt)) ?_; rintro v w2 ⟨rfl, hc2⟩; replace hSt := hSt.call0 hc2; clear hc2) | (apply WL_ev rfl rfl; exact Ev_field1 hT rfl rfl rfl (by intro fs x h1 h2; rw [Tryz.underlying63] at h1; injection h1 with h1; injection h1 with h1; subst h1; injection h2 with h2; subst h2; decide +kernel)) | (refine WL_isCall (f := 75) ?_; refine WL_callP (ok_call hT rfl) rfl rfl rfl (hmf (h.kept hSt)) (fun _ _ e => e.elim) ?_; (rintro x w2 ⟨rfl, hc2⟩; (repeat (first | refine At_then_panic ?_ | refine At_in_panic ?_ | fail)); exact panP ⟨hk, rfl, hSt.call0 hc2⟩)) | refine stepA ?_ | (refine stepS ?_; clear hSt; intro w hSt; dsimp only [spl, List.set] at hSt) | (refine stepB ?_; clear hSt; intro w nb hnb hSt; dsimp only [zcells, List.nil_append, List.cons_append] at hSt) | (refine W_quiet hT (by decide +kernel) hSt ?_; clear hSt; (repeat' (first | (apply QL_ev rfl rfl; (intro w hSt; (first | (exact Ev_load1 hT rfl rfl (hSt.base h.hp (fun e => e)) rfl) | (exact Ev_field1 hT rfl rfl rfl (by intro fs x h1 h2; rw [Tryz.underlying63] at h1; injection h1 with h1; injection h1 with h1; subst h1; injection h2 with h2; subst h2; decide +kernel)) | exact Ev_auto))) | refine QL_pass rfl rfl ?_ | (refine QL_guardP rfl rfl (fun hc => ?_) (fun hc => ?_) <;> try exact absA) | (refine QL_guard rfl rfl (fun hc => ?_) (fun hc => ?_) <;> (try exact absA) <;> (fail_if_success (change true = true at hc)) <;> (fail_if_success (change false = false at hc))))); all_goals (refine QL_nil (fun w hSt => ?_))) | (refine stepG ?_ ?_ <;> intro hc <;> (try exact absA) <;> (fail_if_success (change true = true at hc)) <;> (fail_if_success (change false = false at hc))) | fail)
    all_goals try (exfalso; first | omega | (simp at hc; done) | (exact hc rfl) | contradiction)
    all_goals trivial
/-- the places of results -/
theorem takeR_ok {k : Int} {s : Tx} (h : TkOk ts) (hp : p < ts.length) (h0 : k ≠ 0) (e : takeR ts k p = .ok s q) : (tkAt ts p).kd = k ∧ s = (tkAt ts p).tx ∧ q = p + 1 ∧ q < ts.length := by
  unfold takeR at e
  split at e
  · rename_i hk
    injection e with e1 e2
    subst e1 e2
    exact ⟨hk, rfl, rfl, h.next hp (by omega)⟩
  · cases e
theorem markR_ok {c : UInt8} {u : Unit} (h : TkOk ts) (hp : p < ts.length) (e : markR ts c p = .ok u q) : mkB ts p c = true ∧ q = p + 1 ∧ q < ts.length := by
  unfold markR at e
  split at e
  · rename_i hk
    injection e with e1 e2
    subst e2
    exact ⟨hk, rfl, h.next hp (by rw [mkB_kd hk]; decide)⟩
  · cases e
theorem psetting_any (h : PS w0 pb sc ts v p) : Cp Tryz.prog 79 [Ptr pb] w0 (OkR (setR ts p) (fun s x _ => x = .agg ⟨[S s.1, S s.2]⟩) sc v w0) (BadR ts (setR ts p) sc v w0) := by
  have hSt := h.start
  refine enterP Tryz.func79 rfl Tryz.ntmps79 rfl ?_
  repeat' (first | (refine WL_alloc hT rfl rfl rfl hSt ?_; clear hSt; intro w nb hnb hSt; replace hSt := hSt.front; dsimp only [zcells] at hSt) | refine stepA ?_ | (refine stepS ?_; clear hSt; intro w hSt; dsimp only [spl, List.set] at hSt) | (refine stepB ?_; clear hSt; intro w nb hnb hSt; dsimp only [zcells, List.nil_append, List.cons_append] at hSt) | (refine W_quiet hT (by decide +kernel) hSt ?_; clear hSt; (repeat' (first | (apply QL_ev rfl rfl; (intro w hSt; (first | exact Ev_auto))) | refine QL_pass rfl rfl ?_ | (refine QL_guardP rfl rfl (fun hc => ?_) (fun hc => ?_) <;> try exact absA) | (refine QL_guard rfl rfl (fun hc => ?_) (fun hc => ?_) <;> (try exact absA) <;> (fail_if_success (change true = true at hc)) <;> (fail_if_success (change false = false at hc))))); all_goals (refine QL_nil (fun w hSt => ?_))) | (refine stepG ?_ ?_ <;> intro hc <;> (try exact absA) <;> (fail_if_success (change true = true at hc)) <;> (fail_if_success (change false = false at hc))) | fail)
  refine WL_callP (ok_call hT rfl) rfl rfl rfl (ptake_any (h.next hSt (i := 1) rfl h.lt) 1 (by decide)) ?_ ?_
  rotate_left 1
  · rintro x w2 ⟨q1, q9, r1, rfl, hc2⟩
    (repeat (first | refine At_then_panic ?_ | refine At_in_panic ?_ | fail))
    exact panP ⟨q1, q9, by unfold setR; rw [r1], rfl, (hSt.call1 (i := 1) rfl hc2).only (by simp)⟩
  rintro x w2 ⟨n1, q1, r1, rfl, hc2⟩
  replace hSt := hSt.call1 (i := 1) rfl hc2
  clear hc2
  dsimp only [List.set] at hSt
  have h1 := (takeR_ok h.ok h.lt (by decide) r1).2.2.2
  repeat' (first | refine stepA ?_ | (refine stepS ?_; clear hSt; intro w hSt; dsimp only [spl, List.set] at hSt) | (refine stepB ?_; clear hSt; intro w nb hnb hSt; dsimp only [zcells, List.nil_append, List.cons_append] at hSt) | (refine W_quiet hT (by decide +kernel) hSt ?_; clear hSt; (repeat' (first | (apply QL_ev rfl rfl; (intro w hSt; (first | exact Ev_auto))) | refine QL_pass rfl rfl ?_ | (refine QL_guardP rfl rfl (fun hc => ?_) (fun hc => ?_) <;> try exact absA) | (refine QL_guard rfl rfl (fun hc => ?_) (fun hc => ?_) <;> (try exact absA) <;> (fail_if_success (change true = true at hc)) <;> (fail_if_success (change false = false at hc))))); all_goals (refine QL_nil (fun w hSt => ?_))) | (refine stepG ?_ ?_ <;> intro hc <;> (try exact absA) <;> (fail_if_success (change true = true at hc)) <;> (fail_if_success (change false = false at hc))) | fail)
  refine WL_callP (ok_call hT rfl) rfl rfl rfl (pmark_any (h.next hSt (i := 1) rfl h1) 61) ?_ ?_
  rotate_left 1
  · rintro x w2 ⟨q2, q9, r2, rfl, hc2⟩
    (repeat (first | refine At_then_panic ?_ | refine At_in_panic ?_ | fail))
    exact panP ⟨q2, q9, by unfold setR; rw [r1]; dsimp only; rw [r2], rfl, (hSt.call1 (i := 1) rfl hc2).only (by simp)⟩
  rintro x w2 ⟨u2, q2, r2, _, hc2⟩
  replace hSt := hSt.call1 (i := 1) rfl hc2
  clear hc2
  dsimp only [List.set] at hSt
  have h2 := (markR_ok h.ok h1 r2).2.2
  repeat' (first | refine stepA ?_ | (refine stepS ?_; clear hSt; intro w hSt; dsimp only [spl, List.set] at hSt) | (refine stepB ?_; clear hSt; intro w nb hnb hSt; dsimp only [zcells, List.nil_append, List.cons_append] at hSt) | (refine W_quiet hT (by decide +kernel) hSt ?_; clear hSt; (repeat' (first | (apply QL_ev rfl rfl; (intro w hSt; (first | exact Ev_auto))) | refine QL_pass rfl rfl ?_ | (refine QL_guardP rfl rfl (fun hc => ?_) (fun hc => ?_) <;> try exact absA) | (refine QL_guard rfl rfl (fun hc => ?_) (fun hc => ?_) <;> (try exact absA) <;> (fail_if_success (change true = true at hc)) <;> (fail_if_success (change false = false at hc))))); all_goals (refine QL_nil (fun w hSt => ?_))) | (refine stepG ?_ ?_ <;> intro hc <;> (try exact absA) <;> (fail_if_success (change true = true at hc)) <;> (fail_if_success (change false = false at hc))) | fail)
  refine WL_callP (ok_call hT rfl) rfl rfl rfl (ptake_any (h.next hSt (i := 1) rfl h2) 3 (by decide)) ?_ ?_
  rotate_left 1
  · rintro x w2 ⟨q3, q9, r3, rfl, hc2⟩
    (repeat (first | refine At_then_panic ?_ | refine At_in_panic ?_ | fail))
    exact panP ⟨q3, q9, by unfold setR; rw [r1]; dsimp only; rw [r2]; dsimp only; rw [r3], rfl, (hSt.call1 (i := 1) rfl hc2).only (by simp)⟩
  rintro x w2 ⟨n3, q3, r3, rfl, hc2⟩
  replace hSt := hSt.call1 (i := 1) rfl hc2
  clear hc2
  dsimp only [List.set] at hSt
  repeat' (first | refine stepA ?_ | (refine stepS ?_; clear hSt; intro w hSt; dsimp only [spl, List.set] at hSt) | (refine stepB ?_; clear hSt; intro w nb hnb hSt; dsimp only [zcells, List.nil_append, List.cons_append] at hSt) | (refine W_quiet hT (by decide +kernel) hSt ?_; clear hSt; (repeat' (first | (apply QL_ev rfl rfl; (intro w hSt; (first | exact Ev_auto))) | refine QL_pass rfl rfl ?_ | (refine QL_guardP rfl rfl (fun hc => ?_) (fun hc => ?_) <;> try exact absA) | (refine QL_guard rfl rfl (fun hc => ?_) (fun hc => ?_) <;> (try exact absA) <;> (fail_if_success (change true = true at hc)) <;> (fail_if_success (change false = false at hc))))); all_goals (refine QL_nil (fun w hSt => ?_))) | (refine stepG ?_ ?_ <;> intro hc <;> (try exact absA) <;> (fail_if_success (change true = true at hc)) <;> (fail_if_success (change false = false at hc))) | fail)
  exact retQ (end_of (resc1 rfl hT rfl rfl (hSt.at 0 rfl) rfl rfl) ⟨(n1, n3), q3, by unfold setR; rw [r1]; dsimp only; rw [r2]; dsimp only; rw [r3], rfl, hSt.only (by simp)⟩)
end
end Go.Proofs.YtknfankadlokhaaGreatDoor
