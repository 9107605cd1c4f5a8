/- More of the rules with which this claim's walks are made: four results; a struct and two values as results; the rest of a slice. No conditions. -/
import Derived.Test.YtkgioanjdbfcdaaDoorEob
namespace Go.Proofs.YtkgioanjdbfcdaaDoor
open Go.RowKit
set_option linter.unusedVariables false
set_option linter.unusedSimpArgs false
set_option linter.unusedSectionVars false
section
variable {T : Tys} {P : Program} {n : Nat} {ops : Array Oper} {Q : Exit → Act → World → Prop} {L : Fr} {w w' w0 : World} {rest : List Oper} {ty t t' : TypeId} {xo yo zo : Operand}
  {Sx : Nat → Prop} {H : List (Nat × Obj)} {pos : String} {af : Array Edge} {g : Option (Nat × Bool)}
section
variable {fn : Func} {R : Value → World → Prop} {i j m q : Nat} {u v x y : Value}
theorem res4 (hr : fn.results = #[.tmp i, .tmp j, .tmp m, .tmp q]) (hv : look L i = some v) (hu : look L j = some u) (hx : look L m = some x) (hy : look L q = some y) (a : Act) (ha : Fits n L a) : (results fn a.tmps).run P w = .ok (.tuple ⟨[v, u, x, y]⟩) w := by
  simp [results, hr, Array.getD_eq_getD_getElem?, ha.val _ _ hv, ha.val _ _ hu, ha.val _ _ hx, ha.val _ _ hy]
theorem ret4 (hr : fn.results = #[.tmp i, .tmp j, .tmp m, .tmp q]) (hv : look L i = some v) (hu : look L j = some u) (hx : look L m = some x) (hy : look L q = some y) (h : R (.tuple ⟨[v, u, x, y]⟩) w) : At n (bodyPost P fn (fun e w' => ∃ v, e = .returned v ∧ R v w')) .ret L w := end_of (res4 hr hv hu hx hy) h
theorem resc3 {l vs : List Value} {E k b o : Nat} {fz : Nat × Nat} (hr : fn.results = #[.cell i t, .tmp j, .tmp m]) (hT : T.Ok P) (ht : asc T.agg t = some k) (hp : look L i = some (.pointer (some ⟨b, o, none⟩))) (hu : look L j = some u) (hx : look L m = some x)
    (hb : w.heap[b]? = some (.cells ⟨l⟩ E fz)) (hvs : (l.drop o).take k = vs) (hl : vs.length = k) (a : Act) (ha : Fits n L a) : (results fn a.tmps).run P w = .ok (.tuple ⟨[.agg ⟨vs⟩, u, x]⟩) w := by
  have hload := (Ev_loadN (P := P) (L := [(0, .pointer (some ⟨b, o, none⟩))]) (w := w) (ty := 0) (xo := .tmp 0) hT ht rfl hb hvs hl).run 1 ⟨#[.pointer (some ⟨b, o, none⟩)], []⟩ ⟨rfl, rfl, fun i v h => by
    simp only [look] at h
    cases hb : Nat.beq 0 i
    · simp [hb] at h
    · have he : 0 = i := by simpa using hb
      subst he; simp at h; subst h; rfl⟩ none "" #[] none
  simp [execOp, Act.eval, Instr.loadAt, Instr.sureAddr] at hload
  cases hxx : (loadVar t ⟨b, o, none⟩).run P w with
  | ok v w2 => rw [hxx] at hload; simp at hload; obtain ⟨rfl, rfl⟩ := hload; simp [results, hr, Array.getD_eq_getD_getElem?, ha.val _ _ hp, ha.val _ _ hu, ha.val _ _ hx, asAddr, hxx]
  | halt h w2 => rw [hxx] at hload; simp at hload
end
/-- the rest of a slice, from a place on; what it holds is told of all worlds of a kind -/
theorem WL_sliceD {α : Type} {f : α → List Value} {d e z y cap i : Nat} {a : Option Addr} {lo : Operand} {xs : List α} {G : World → Prop} (hT : T.Ok P) (ht : asc T.sl t = some (e, z, y)) (hx : opd L xo = some (.slice a xs.length cap)) (hlo : opd L lo = some (.int .i64 (i : Int))) (hg : wantB ops g L = some true) (hn : Nat.blt d n = true)
    (hs : ∀ w1, G w1 → SlAt w1 (.slice a xs.length cap) z (xs.map f)) (hi : i ≤ xs.length) (hc : xs.length ≤ cap)
    (k : ∀ a1 c1, (∀ w1, G w1 → SlAt w1 (.slice a1 (xs.drop i).length c1) z ((xs.drop i).map f)) → (xs.drop i).length ≤ c1 → WL P n ops Q rest ((d, .slice a1 (xs.drop i).length c1) :: L) w) : WL P n ops Q (⟨some d, .slice t xo (some lo) none none, ty, pos, af, g⟩ :: rest) L w := by
  have hb : bnd L (some lo) 0 = some (i : Int) := by simp only [bnd, hlo]
  have hev := Ev_sliceS (w := w) (ty := ty) hT ht hx (lo := some lo) (hi := none) (i := (i : Int)) (j := (xs.length : Int)) hb rfl (by omega) (by omega) (by omega)
  rw [Int.toNat_natCast, Int.toNat_natCast] at hev
  have e : xs.length - i = (xs.drop i).length := by rw [List.length_drop]
  rw [e] at hev
  refine WL_ev hg hn hev (k _ _ (fun w1 hw => ?_) (by rw [List.length_drop]; omega))
  have hd := SlAt.drop (i := i) (xs := xs.map f) (cap := cap) (a := a) (w := w1) (z := z) (by rw [List.length_map]; exact hs w1 hw) (by rw [List.length_map]; exact hi) (by rw [List.length_map]; exact hc)
  rw [List.length_map, ← List.map_drop, e] at hd
  exact hd
theorem SlAt.restV {α : Type} {f : α → List Value} {a : Option Addr} {cap z i : Nat} {xs : List α} {G : World → Prop} (hs : ∀ w1, G w1 → SlAt w1 (.slice a xs.length cap) z (xs.map f)) (hi : i ≤ xs.length) (hc : xs.length ≤ cap) :
    ∃ a1 c1, Value.slice (if cap = ((i : Nat) : Int).toNat then a else a.map (·.add (((i : Nat) : Int).toNat * z))) ((xs.length : Int).toNat - ((i : Nat) : Int).toNat) (cap - ((i : Nat) : Int).toNat) = .slice a1 (xs.drop i).length c1 ∧ (∀ w1, G w1 → SlAt w1 (.slice a1 (xs.drop i).length c1) z ((xs.drop i).map f)) ∧ (xs.drop i).length ≤ c1 := by
  have e : xs.length - i = (xs.drop i).length := by rw [List.length_drop]
  refine ⟨if cap = i then a else a.map (·.add (i * z)), cap - i, ?_, fun w1 hw => ?_, by rw [List.length_drop]; omega⟩
  · rw [Int.toNat_natCast, Int.toNat_natCast, e]
  · have hd := SlAt.drop (i := i) (xs := xs.map f) (cap := cap) (a := a) (w := w1) (z := z) (by rw [List.length_map]; exact hs w1 hw) (by rw [List.length_map]; exact hi) (by rw [List.length_map]; exact hc)
    rw [List.length_map, ← List.map_drop, e] at hd
    exact hd
end
end Go.Proofs.YtkgioanjdbfcdaaDoor
