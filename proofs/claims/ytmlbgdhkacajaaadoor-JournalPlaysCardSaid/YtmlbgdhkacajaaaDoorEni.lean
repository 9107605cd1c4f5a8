/- The rest of the rules with which this claim's walks are made: stores, new memory, calls, statements that draw their order, a function's two ends. No conditions. -/
import Derived.Test.YtmlbgdhkacajaaaDoorEnh
namespace Go.Proofs.YtmlbgdhkacajaaaDoor
open Go.RowKit
set_option linter.unusedVariables false
set_option linter.unusedSimpArgs false
set_option linter.unusedSectionVars false

section
variable {T : Tys} {P : Program} {n : Nat} {ops : Array Oper} {Q : Exit → Act → World → Prop} {L L' : Fr} {w w' w0 : World} {rest : List Oper} {ty t t' : TypeId} {xo yo zo : Operand}
  {Sx : Nat → Prop} {H : List (Nat × Obj)} {pos : String} {af : Array Edge} {g : Option (Nat × Bool)}

/-! ## Stores -/

/-- cells laid over a list from a place on -/
def spl : List Value → Nat → List Value → List Value
  | l, _, [] => l
  | l, o, v :: vs => spl (l.set o v) (o + 1) vs

theorem run_store1 {P : Program} {w : World} {b o : Nat} {l : List Value} {E : TypeId} {v : Value} (hb : w.heap[b]? = some (blk l E)) (ho : o < l.length) (hv : oneV v = true) :
    (store ⟨b, o, none⟩ v).run P w = .ok () (w.setCell ⟨b, o, none⟩ v) := by
  have h1 : w.cell? ⟨b, o, none⟩ = some l[o] := by rw [cell_of hb]; exact List.getElem?_eq_getElem ho
  have h2 : w.frozen? ⟨b, o, none⟩ = false := by simp [World.frozen?, hb, blk]
  cases v <;> simp only [oneV, Bool.false_eq_true] at hv <;> simp [store, Sem.run, h1, h2]

theorem run_storeN {P : Program} {i b : Nat} {E : TypeId} (vs : List Value) : ∀ (j o : Nat) (l : List Value) (w : World) (H : List (Nat × Obj)), St w0 Sx H w → H[i]? = some (b, blk l E) → o + j + vs.length ≤ l.length → vs.all oneV = true →
    ∃ w', (storeCells ⟨b, o, none⟩ vs j).run P w = .ok () w' ∧ St w0 Sx (H.set i (b, blk (spl l (o + j) vs) E)) w' := by
  induction vs with
  | nil =>
    intro j o l w H hSt hi _ _
    refine ⟨w, by simp [storeCells], ?_⟩
    have e : H.set i (b, blk (spl l (o + j) []) E) = H := by
      simp only [spl]
      apply List.ext_getElem?
      intro m
      rw [List.getElem?_set]
      split
      · rename_i h; subst h
        split
        · exact hi.symm
        · rw [List.getElem?_eq_none (by omega)] at hi; cases hi
      · rfl
    rw [e]; exact hSt
  | cons v vs ih =>
    intro j o l w H hSt hi hl hv
    simp only [List.all_cons, Bool.and_eq_true] at hv
    simp only [List.length_cons] at hl
    have ha : (Addr.add ⟨b, o, none⟩ j) = ⟨b, o + j, none⟩ := by
      simp only [Addr.add]; split
      · rename_i h; rw [h]; rfl
      · rfl
    have h1 := run_store1 (P := P) (hSt.own i b _ hi).1 (o := o + j) (v := v) (by omega) hv.1
    have h2 := hSt.store hi (o + j) v
    have hil : i < H.length := (List.getElem?_eq_some_iff.1 hi).1
    obtain ⟨w', h3, h4⟩ := ih (j + 1) o (l.set (o + j) v) _ _ h2 (by rw [List.getElem?_set]; simp [hil]) (by simp; omega) hv.2
    refine ⟨w', ?_, ?_⟩
    · simp only [storeCells, Sem.run_bind, ha, h1, Result.andThen_ok, h3]
    · simp only [List.set_set] at h4
      exact h4

theorem WL_store1 (hT : T.Ok P) (ht : mem1 T.one t = true) (hg : wantB ops g L = some true) {b o : Nat} (i : Nat) {l : List Value} {E : TypeId} {v : Value} (hx : opd L xo = some (.pointer (some ⟨b, o, none⟩))) (hy : opd L yo = some v)
    (hSt : St w0 Sx H w) (hi : H[i]? = some (b, blk l E)) (hv : oneV v = true) (ho : Nat.blt o l.length = true)
    (k : ∀ w', St w0 Sx (H.set i (b, blk (l.set o v) E)) w' → WL P n ops Q rest L w') : WL P n ops Q (⟨none, .store t xo yo, ty, pos, af, g⟩ :: rest) L w := by
  refine ⟨fun a ha => ?_⟩
  obtain ⟨_, d, hd, hsz⟩ := ok_one hT ht
  have ho' : o < l.length := by simpa [Nat.blt_eq] using ho
  have hr := run_store1 (P := P) (hSt.own i b _ hi).1 ho' hv
  unfold wpList
  rw [wantB_spec (o := ⟨none, .store t xo yo, ty, pos, af, g⟩) hg ha, if_pos rfl]
  refine .inl ?_
  have hrun : (execOp a.eval ⟨none, .store t xo yo, ty, pos, af, g⟩).run P w = .ok .skip (w.setCell ⟨b, o, none⟩ v) := by
    simp [execOp, ha.eval hx, ha.eval hy, Instr.storeAt, Instr.sureAddr, storeVar, run_sizeOf' hd, hsz, oneV_cells hv, storeCells, Addr.add_zero', hr]
  unfold Oper.wp
  rw [hrun, Oper.upon_skip]
  exact (k _ (hSt.store hi o v)).run a ha

theorem WL_storeN (hT : T.Ok P) {m : Nat} (ht : asc T.agg t = some m) (hg : wantB ops g L = some true) {b o : Nat} (i : Nat) {l vs : List Value} {E : TypeId} (hx : opd L xo = some (.pointer (some ⟨b, o, none⟩))) (hy : opd L yo = some (.agg ⟨vs⟩))
    (hSt : St w0 Sx H w) (hi : H[i]? = some (b, blk l E)) (hm : vs.length = m) (hv : vs.all oneV = true) (ho : Nat.ble (o + vs.length) l.length = true)
    (k : ∀ w', St w0 Sx (H.set i (b, blk (spl l o vs) E)) w' → WL P n ops Q rest L w') : WL P n ops Q (⟨none, .store t xo yo, ty, pos, af, g⟩ :: rest) L w := by
  refine ⟨fun a ha => ?_⟩
  obtain ⟨_, d, hd, hsz⟩ := ok_agg hT ht
  have ho' : o + vs.length ≤ l.length := by simpa [Nat.ble_eq] using ho
  obtain ⟨w', hr, hSt'⟩ := run_storeN (P := P) vs 0 o l w H hSt hi (by omega) hv
  unfold wpList
  rw [wantB_spec (o := ⟨none, .store t xo yo, ty, pos, af, g⟩) hg ha, if_pos rfl]
  refine .inl ?_
  have hrun : (execOp a.eval ⟨none, .store t xo yo, ty, pos, af, g⟩).run P w = .ok .skip w' := by
    simp [execOp, ha.eval hx, ha.eval hy, Instr.storeAt, Instr.sureAddr, storeVar, run_sizeOf' hd, hsz, Value.cells, hm, hr]
  unfold Oper.wp
  rw [hrun, Oper.upon_skip]
  exact (k _ (by simpa using hSt')).run a ha

/-! ## New memory -/

theorem WL_new {d : Nat} {op : Op} {l : List Value} {E : TypeId} (hg : wantB ops g L = some true) (hn : Nat.blt d n = true) (hSt : St w0 Sx H w)
    (h : Ev P L op ty w (.pointer (some ⟨w.heap.size, 0, none⟩)) (w.alloc (blk l E)))
    (k : ∀ w' b, w0.heap.size ≤ b → St w0 Sx (H ++ [(b, blk l E)]) w' → WL P n ops Q rest ((d, .pointer (some ⟨b, 0, none⟩)) :: L) w') : WL P n ops Q (⟨some d, op, ty, pos, af, g⟩ :: rest) L w :=
  WL_ev hg hn h (k _ _ hSt.size (hSt.alloc _))

theorem WL_alloc (hT : T.Ok P) {e : TypeId} {z : Value} {d : Nat} (hz : asc T.zero e = some z) (hg : wantB ops g L = some true) (hn : Nat.blt d n = true) (hSt : St w0 Sx H w)
    (k : ∀ w' b, w0.heap.size ≤ b → St w0 Sx (H ++ [(b, blk (zcells z) e)]) w' → WL P n ops Q rest ((d, .pointer (some ⟨b, 0, none⟩)) :: L) w') : WL P n ops Q (⟨some d, .alloc e, ty, pos, af, g⟩ :: rest) L w := by
  refine WL_new hg hn hSt ?_ k
  refine ⟨fun n a ha _ _ _ _ => ?_⟩
  obtain ⟨i, hi, hz'⟩ := ok_zero hT hz
  simp [execOp, Instr.alloc, zeroValue, typeInfo, hi, hz', newVar, newRow, zcells_cells, blk]

theorem WL_box {e : TypeId} {v : Value} {d : Nat} (hx : opd L xo = some v) (hg : wantB ops g L = some true) (hn : Nat.blt d n = true) (hSt : St w0 Sx H w)
    (k : ∀ w' b, w0.heap.size ≤ b → St w0 Sx (H ++ [(b, blk (zcells v) e)]) w' → WL P n ops Q rest ((d, .pointer (some ⟨b, 0, none⟩)) :: L) w') : WL P n ops Q (⟨some d, .box e xo, ty, pos, af, g⟩ :: rest) L w := by
  refine WL_new hg hn hSt ?_ k
  refine ⟨fun n a ha _ _ _ _ => ?_⟩
  simp [execOp, ha.eval hx, Instr.box, newVar, newRow, zcells_cells, blk]

/-- a struct's parts: where they lie, and what they are -/
def evParts (T : Tys) (L : Fr) (t : TypeId) : List (Nat × Operand) → Option (List (Nat × Nat × Value))
  | [] => some []
  | (f, x) :: r => match asc2 T.fld t f, opd L x, evParts T L t r with
    | some (o, z), some v, some ps => some ((o, z, v) :: ps)
    | _, _, _ => none
def laid : List Value → List (Nat × Nat × Value) → Option (List Value)
  | l, [] => some l
  | l, (o, z, v) :: ps => bif Nat.beq (zcells v).length z && Nat.ble (o + z) l.length then laid (spl l o (zcells v)) ps else none

theorem spl_length (vs : List Value) : ∀ (l : List Value) (o : Nat), (spl l o vs).length = l.length := by
  induction vs with
  | nil => intros; rfl
  | cons v vs ih => intro l o; simp [spl, ih]

theorem fill_spl (vs : List Value) : ∀ (l : List Value) (o k : Nat), ((⟨vs⟩ : Array Value).zipIdx k).foldl (fun (cs : Array Value) (x : Value × Nat) => cs.setIfInBounds (o + x.2) x.1) ⟨l⟩ = ⟨spl l (o + k) vs⟩ := by
  intro l o k
  rw [← Array.foldl_toList]
  simp only [Array.toList_zipIdx]
  induction vs generalizing l k with
  | nil => rfl
  | cons v vs ih =>
    simp only [List.zipIdx_cons, List.foldl_cons, spl]
    have := ih (l.set (o + k) v) (k + 1)
    rw [Nat.add_assoc]; simpa [List.setIfInBounds_toArray] using this

theorem places_of {P : Program} : ∀ (fs : List Field), (∀ x ∈ fs, (P.info? x.type).isSome = true) → fs.mapM (fun f => (P.info? f.type).map fun i => (f.offset, i.size)) = some (fs.map fun f => (f.offset, szB P f.type))
  | [], _ => rfl
  | f :: fs, h => by
    obtain ⟨i, hi⟩ := Option.isSome_iff_exists.1 (h f List.mem_cons_self)
    have := places_of fs (fun x hx => h x (List.mem_cons_of_mem _ hx))
    simp [List.mapM_cons, hi, this, szB]

theorem fill_laid {place : Nat → Option (Nat × Nat)} : ∀ (qs : List (Nat × Value)) (ps : List (Nat × Nat × Value)) (l vs : List Value), qs.map (fun q => (place q.1, q.2)) = ps.map (fun p => (some (p.1, p.2.1), p.2.2)) → laid l ps = some vs →
    Instr.fill place ⟨l⟩ qs = some ⟨vs⟩
  | [], [], l, vs, _, h => by simp only [laid, Option.some.injEq] at h; subst h; rfl
  | [], p :: ps, l, vs, hq, _ => by simp at hq
  | q :: qs, [], l, vs, hq, _ => by simp at hq
  | (i, v) :: qs, (o, z, u) :: ps, l, vs, hq, h => by
    simp only [List.map_cons, List.cons.injEq, Prod.mk.injEq] at hq
    obtain ⟨⟨hp, rfl⟩, hq⟩ := hq
    simp only [laid] at h
    cases hc : (Nat.beq (zcells v).length z && Nat.ble (o + z) l.length)
    · simp [hc] at h
    · simp only [hc, cond_true] at h
      simp only [Bool.and_eq_true] at hc
      have h1 := Nat.eq_of_beq_eq_true hc.1
      have h2 := Nat.le_of_ble_eq_true hc.2
      simp only [Instr.fill, hp, zcells_cells, List.size_toArray, h1]
      rw [if_neg (by simp; omega)]
      have := fill_spl (zcells v) l o 0
      simp only [Nat.add_zero] at this
      rw [this]
      exact fill_laid qs ps _ vs hq h

theorem evParts_spec (hT : T.Ok P) {fs : Array Field} (hu : P.underlying t = some (.struct fs)) {a : Act} (ha : Fits n L a) : ∀ (parts : List (Nat × Operand)) (ps : List (Nat × Nat × Value)), evParts T L t parts = some ps →
    (parts.map fun x => (x.1, a.eval x.2)).map (fun q => (((fs.toList.map fun f => (f.offset, szB P f.type)).toArray[q.1]? : Option (Nat × Nat)), q.2)) = ps.map (fun p => (some (p.1, p.2.1), p.2.2))
  | [], ps, h => by simp only [evParts, Option.some.injEq] at h; subst h; rfl
  | (f, x) :: parts, ps, h => by
    simp only [evParts] at h
    split at h
    · rename_i o z v qs hf hx hr
      injection h with h; subst h
      obtain ⟨fs', y, i, hu', hfx, ho, hi, hz, hne⟩ := ok_fld hT hf
      rw [hu] at hu'; injection hu' with hu'; injection hu' with hu'; subst hu'
      have ih := evParts_spec hT hu ha parts qs hr
      have hy : fs.toList[f]? = some y := by simpa using hfx
      have hs : szB P y.type = z := by simp [szB, hi, hz]
      simp only [List.map_cons, ha.eval hx, ih]
      simp [hy, ho, hs]
    · cases h

theorem Ev_build (hT : T.Ok P) {z vs : List Value} {parts : List (Nat × Operand)} {ps : List (Nat × Nat × Value)} {m : Nat} (hag : asc T.agg t = some m) (hz : asc T.zero t = some (.agg ⟨z⟩)) (hna : asc T.arr t = none)
    (hp : evParts T L t parts = some ps) (hv : laid z ps = some vs) (hs : structB P t = true) : Ev P L (.build t ⟨parts⟩) ty w (.agg ⟨vs⟩) w := by
  refine ⟨fun n a ha _ _ _ _ => ?_⟩
  obtain ⟨fs, hu⟩ := structB_spec hs
  obtain ⟨it, hit, hzz⟩ := ok_zero hT hz
  obtain ⟨⟨d, hd, hd'⟩, _⟩ := ok_agg hT hag
  rw [hu] at hd; injection hd with hd; subst hd
  have hall : ∀ x ∈ fs.toList, (P.info? x.type).isSome = true := by
    rcases hd' with ⟨f, hf, h⟩ | ⟨n, e, hf⟩
    · injection hf with hf; subst hf; intro x hx; exact h x (by simpa using hx)
    · cases hf
  have hb : P.built t (parts.map fun x => (x.1, a.eval x.2)) = some ⟨vs⟩ := by
    simp only [Program.built, hit, hu, hzz, places_of fs.toList hall, Value.cells]
    exact fill_laid _ ps z vs (evParts_spec hT hu ha parts ps hp) hv
  have := run_build (P := P) w t ⟨parts.map fun x => (x.1, a.eval x.2)⟩ ⟨vs⟩ hb
  simp only [execOp]
  have e : (Array.map (fun (x : Nat × Operand) => (x.1, a.eval x.2)) ⟨parts⟩) = ⟨parts.map fun x => (x.1, a.eval x.2)⟩ := by simp
  rw [show (fun (x : Nat × Operand) => match x with | (i, x) => (i, a.eval x)) = (fun (x : Nat × Operand) => (x.1, a.eval x.2)) from rfl, e]
  simp only [Sem.run_bind, this, Result.andThen_ok, Sem.run_pure]
end
end Go.Proofs.YtmlbgdhkacajaaaDoor
