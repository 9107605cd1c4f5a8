/- Rules for maps with plain keys, and for slice literals. No conditions. -/
import Derived.Test.YtmlbgdhkacajaaaDoorEnk
import Derived.MapKept
import Derived.Carry
namespace Go.Proofs.YtmlbgdhkacajaaaDoor
open Go.RowKit
open Go.MapKept (IsKey run_checkKey run_findKey run_setObj_map heap_set)
set_option linter.unusedVariables false
set_option linter.unusedSimpArgs false

section
variable {T : Tys} {P : Program} {n : Nat} {ops : Array Oper} {Q : Exit → Act → World → Prop} {L L' : Fr} {w w' w0 : World} {rest : List Oper} {ty t t' : TypeId} {xo yo zo : Operand}
  {Sx : Nat → Prop} {H H0 H1 H2 : List (Nat × Obj)} {pos : String} {af : Array Edge} {g : Option (Nat × Bool)}

theorem Ev_lookup {kt et r : Nat} {es : Array MapEntry} {clock : Nat} {key v : Value} {d : TypeDesc} {i : Nat} (hm : P.underlying t = some (.map kt et)) (hd : P.underlying kt = some d) (hk : IsKey d key)
    (hx : opd L xo = some (.map (some r))) (hy : opd L yo = some key) (hb : w.heap[r]? = some (.map es clock)) (hf : Instr.findNow d key es.toList 0 = some (some (i, v))) : Ev P L (.lookup t xo yo false) ty w v w := by
  refine ⟨fun n c ha _ _ _ _ => ?_⟩
  simp [execOp, ha.eval hx, ha.eval hy, Instr.lookup, run_underlying hm, Go.MapKept.run_getObj_map hb, run_checkKey hd hk, run_findKey hd hf]
theorem Ev_lookup_none {kt et r : Nat} {es : Array MapEntry} {clock : Nat} {key zv : Value} {d : TypeDesc} (hT : T.Ok P) (hm : P.underlying t = some (.map kt et)) (hd : P.underlying kt = some d) (hk : IsKey d key) (hz : asc T.zero et = some zv)
    (hx : opd L xo = some (.map (some r))) (hy : opd L yo = some key) (hb : w.heap[r]? = some (.map es clock)) (hf : Instr.findNow d key es.toList 0 = some none) : Ev P L (.lookup t xo yo false) ty w zv w := by
  refine ⟨fun n c ha _ _ _ _ => ?_⟩
  obtain ⟨i', hi', hzz⟩ := ok_zero hT hz
  simp [execOp, ha.eval hx, ha.eval hy, Instr.lookup, run_underlying hm, Go.MapKept.run_getObj_map hb, run_checkKey hd hk, run_findKey hd hf, zeroValue, typeInfo, hi', hzz]

theorem WL_makeMap {d : Nat} (hg : wantB ops g L = some true) (hn : Nat.blt d n = true) (hSt : St w0 Sx H w)
    (k : ∀ w' b, w0.heap.size ≤ b → St w0 Sx (H ++ [(b, .map #[] 0)]) w' → WL P n ops Q rest ((d, .map (some b)) :: L) w') : WL P n ops Q (⟨some d, .makeMap t none, ty, pos, af, g⟩ :: rest) L w := by
  refine WL_ev hg hn (v := .map (some w.heap.size)) (w' := w.alloc (.map #[] 0)) ⟨fun n c ha _ _ _ _ => ?_⟩ (k _ _ hSt.size (hSt.alloc _))
  simp [execOp, run_makeMap]

theorem WL_mapUpdate_new {kt et r : Nat} {es : Array MapEntry} {clock : Nat} {key v : Value} {d : TypeDesc} (i : Nat) (hm : P.underlying t = some (.map kt et)) (hd : P.underlying kt = some d) (hk : IsKey d key)
    (hg : wantB ops g L = some true) (hx : opd L xo = some (.map (some r))) (hy : opd L yo = some key) (hz : opd L zo = some v) (hSt : St w0 Sx H w) (hi : H[i]? = some (r, .map es clock)) (hf : Instr.findNow d key es.toList 0 = some none)
    (k : ∀ w', St w0 Sx (H.set i (r, .map (es.push { key := key, val := v, born := clock }) (clock + 1))) w' → WL P n ops Q rest L w') : WL P n ops Q (⟨none, .mapUpdate t xo yo zo, ty, pos, af, g⟩ :: rest) L w := by
  refine ⟨fun a ha => ?_⟩
  have hb := (hSt.own i r _ hi).1
  have hs := heap_set (o' := Obj.map (es.push { key := key, val := v, born := clock }) (clock + 1)) hb
  unfold wpList
  rw [wantB_spec (o := ⟨none, .mapUpdate t xo yo zo, ty, pos, af, g⟩) hg ha, if_pos rfl]
  refine .inl ?_
  have hrun : (execOp a.eval ⟨none, .mapUpdate t xo yo zo, ty, pos, af, g⟩).run P w = .ok .skip { w with heap := w.heap.setIfInBounds r (.map (es.push { key := key, val := v, born := clock }) (clock + 1)) } := by
    simp [execOp, ha.eval hx, ha.eval hy, ha.eval hz, Instr.mapUpdate, run_underlying hm, Go.MapKept.run_getObj_map hb, run_checkKey hd hk, run_findKey hd hf, run_setObj_map _ hb]
  unfold Oper.wp
  rw [hrun, Oper.upon_skip]
  exact (k _ (St.turn (w' := { w with heap := w.heap.setIfInBounds r (.map (es.push { key := key, val := v, born := clock }) (clock + 1)) }) hSt hi rfl rfl rfl (by simp) (fun j _ hj => hs.2 j hj) hs.1 (Or.inl rfl))).run a ha

/-! ## Slice literals -/

def evElems (L : Fr) (z : Nat) : List (Nat × Operand) → Option (List (Nat × Nat × Value))
  | [] => some []
  | (i, x) :: r => match opd L x, evElems L z r with
    | some v, some ps => some ((i * z, z, v) :: ps)
    | _, _ => none
theorem evElems_spec {z : Nat} {a : Act} (ha : Fits n L a) : ∀ (parts : List (Nat × Operand)) (ps : List (Nat × Nat × Value)), evElems L z parts = some ps →
    (parts.map fun x => (x.1, a.eval x.2)).map (fun q => ((some (q.1 * z, z) : Option (Nat × Nat)), q.2)) = ps.map (fun p => (some (p.1, p.2.1), p.2.2))
  | [], ps, h => by simp only [evElems, Option.some.injEq] at h; subst h; rfl
  | (i, x) :: parts, ps, h => by
    simp only [evElems] at h
    split at h
    · rename_i v qs hx hr
      injection h with h; subst h
      simp [ha.eval hx, evElems_spec ha parts qs hr]
    · cases h
def zrow (zv : Value) (k : Nat) : List Value := (List.range k).map fun j => (zcells zv)[j % (zcells zv).length]!

theorem WL_buildSlice {d m e z y : Nat} {zv : Value} {parts : List (Nat × Operand)} {ps : List (Nat × Nat × Value)} {vs : List Value} (hT : T.Ok P) (ht : asc T.sl t = some (e, z, y)) (hz : asc T.zero e = some zv)
    (hg : wantB ops g L = some true) (hn : Nat.blt d n = true) (hp : evElems L z parts = some ps) (hv : laid (zrow zv (m * z)) ps = some vs) (h0 : Nat.blt 0 (m * z) = true) (h1 : Nat.ble (m * z) 16777216 = true) (hSt : St w0 Sx H w)
    (k : ∀ w' b, w0.heap.size ≤ b → St w0 Sx (H ++ [(b, blk vs e)]) w' → WL P n ops Q rest ((d, .slice (some ⟨b, 0, none⟩) m m) :: L) w') : WL P n ops Q (⟨some d, .buildSlice t m ⟨parts⟩, ty, pos, af, g⟩ :: rest) L w := by
  obtain ⟨hu, i, hi, hiz, hiy⟩ := ok_sl hT ht
  obtain ⟨i', hi', hzz⟩ := ok_zero hT hz
  have hii : i' = i := Option.some.inj (hi'.symm.trans hi)
  subst hii
  have h0' : 0 < m * z := by simpa [Nat.blt_eq] using h0
  have h1' : m * z ≤ 16777216 := by simpa [Nat.ble_eq] using h1
  refine WL_ev hg hn (v := .slice (some ⟨w.heap.size, 0, none⟩) m m) (w' := w.alloc (blk vs e)) ⟨fun n c ha _ _ _ _ => ?_⟩ (k _ _ hSt.size (hSt.alloc _))
  have hfill : Instr.fill (fun i => some (i * i'.size, i'.size)) ((Array.range (m * i'.size)).map (zv.cells[· % zv.cells.size]!)) (((⟨parts⟩ : Array (Nat × Operand)).map fun (i, x) => (i, c.eval x)).toList) = some ⟨vs⟩ := by
    have e1 : ((Array.range (m * i'.size)).map (zv.cells[· % zv.cells.size]!)) = ⟨zrow zv (m * z)⟩ := by
      rw [hiz]
      apply Array.ext'
      simp [zrow, zcells_cells]
    have e2 : (((⟨parts⟩ : Array (Nat × Operand)).map fun (i, x) => (i, c.eval x)).toList) = parts.map fun x => (x.1, c.eval x.2) := by simp
    rw [e1, e2, hiz]
    exact fill_laid _ ps _ vs (evElems_spec ha parts ps hp) hv
  have hr := run_buildSlice (P := P) w t e m ((⟨parts⟩ : Array (Nat × Operand)).map fun (i, x) => (i, c.eval x)) ⟨vs⟩ i' zv hu hi' hzz (by rw [hiz]; omega) (by rw [hiz]; omega) hfill
  simp only [execOp, Sem.run_bind, hr, Result.andThen_ok, Sem.run_pure]
end
end Go.Proofs.YtmlbgdhkacajaaaDoor
