/- More of the rules with which this claim's walks are made: arrays that are values, of one cell an element; an interface value against nil. No conditions. -/
import Derived.Test.YtmlbgdhkacajaaaDoorEnw
import Derived.Test.YtmlbgdhkacajaaaDoorEnv
namespace Go.Proofs.YtmlbgdhkacajaaaDoor
open Go.RowKit
set_option linter.unusedVariables false
set_option linter.unusedSimpArgs false
set_option linter.unusedSectionVars false
section
variable {T : Tys} {P : Program} {n : Nat} {ops : Array Oper} {Q : Exit → Act → World → Prop} {L L' : Fr} {w w' w0 : World} {rest : List Oper} {ty t t' : TypeId} {xo yo zo : Operand}
  {Sx : Nat → Prop} {H : List (Nat × Obj)}

/-- an array's literal, as a value -/
theorem Ev_buildArr (hT : T.Ok P) {m e z : Nat} {zs vs : List Value} {parts : List (Nat × Operand)} {ps : List (Nat × Nat × Value)} (ht : asc T.arr t = some (m, e, z)) (hz : asc T.zero t = some (.agg ⟨zs⟩))
    (hp : evElems L z parts = some ps) (hv : laid zs ps = some vs) : Ev P L (.build t ⟨parts⟩) ty w (.agg ⟨vs⟩) w := by
  refine ⟨fun n a ha _ _ _ _ => ?_⟩
  obtain ⟨hu, j, hj, hjz⟩ := ok_arr hT ht
  obtain ⟨it, hit, hzz⟩ := ok_zero hT hz
  have hb : P.built t (parts.map fun x => (x.1, a.eval x.2)) = some ⟨vs⟩ := by
    simp only [Program.built, hit, hu, hzz, hj, Value.cells]
    rw [hjz]
    exact fill_laid _ ps zs vs (evElems_spec ha parts ps hp) hv
  have := run_build (P := P) w t ⟨parts.map fun x => (x.1, a.eval x.2)⟩ ⟨vs⟩ hb
  simp only [execOp]
  have e : (Array.map (fun (x : Nat × Operand) => (x.1, a.eval x.2)) ⟨parts⟩) = ⟨parts.map fun x => (x.1, a.eval x.2)⟩ := by simp
  rw [show (fun (x : Nat × Operand) => match x with | (i, x) => (i, a.eval x)) = (fun (x : Nat × Operand) => (x.1, a.eval x.2)) from rfl, e]
  simp only [Sem.run_bind, this, Result.andThen_ok, Sem.run_pure]
/-- an element of one cell, of an array that is a value -/
theorem Ev_arrIndex1 {i : Int} {k : IntKind} {cs : List Value} {v : Value} {m e : Nat} (hT : T.Ok P) (ht : asc T.arr t = some (m, e, 1)) (he : mem1 T.one e = true) (hx : opd L xo = some (.agg ⟨cs⟩)) (hy : opd L yo = some (.int k i)) (h0 : 0 ≤ i) (h1 : i < m)
    (hv : cs[i.toNat]? = some v) : Ev P L (.index t xo yo) ty w v w := by
  obtain ⟨hu, j, hj, hjz⟩ := ok_arr hT ht
  refine ⟨fun n c ha _ _ _ _ => ?_⟩
  simp only [execOp, ha.eval hx, ha.eval hy, Instr.index, asIntOf, Sem.run_bind, Sem.run_pure, Result.andThen_ok, run_underlying' hu]
  rw [if_pos ⟨h0, h1⟩]
  simp [part, run_sizeOf' hj, hjz, run_isAgg_no hT he, hv]
theorem eqIn_iface_nil {ms : Array (String × TypeId)} {tx : TypeId} {v : Value} (ht : P.underlying t = some (.interface ms)) (d : Nat) : (Op.equalIn (d + 2) t (.iface tx v) .nilIface).run P w = .ok false w := by
  simp only [Op.equalIn, Sem.run_bind, run_underlying' ht, Result.andThen_ok]; rfl
theorem eqIn_nilI_nil {ms : Array (String × TypeId)} (ht : P.underlying t = some (.interface ms)) (d : Nat) : (Op.equalIn (d + 2) t .nilIface .nilIface).run P w = .ok true w := by
  simp only [Op.equalIn, Sem.run_bind, run_underlying' ht, Result.andThen_ok]; rfl
theorem eqGuard_ifaceN (op : BinOp) (tx : TypeId) (v : Value) : eqGuard op t xo yo (.iface tx v) .nilIface = pure () := by cases op <;> rfl
theorem Ev_iface_nil_neq {ms : Array (String × TypeId)} {tx : TypeId} {v : Value} (ht : P.underlying t = some (.interface ms)) (hx : opd L xo = some (.iface tx v)) (hy : opd L yo = some .nilIface) : Ev P L (.binOp .neq t xo yo t') ty w (.bool true) w :=
  Ev_ne_of hx hy (eqGuard_ifaceN ..) rfl (eqIn_iface_nil ht)
/-- nil against the constant nil -/
theorem Ev_nilI_nil_neq {ms : Array (String × TypeId)} {c : Value} (ht : P.underlying t = some (.interface ms)) (hx : opd L xo = some .nilIface) (hy : opd L (.const c) = some .nilIface) : Ev P L (.binOp .neq t xo (.const c) t') ty w (.bool false) w :=
  Ev_ne_of hx hy (eqGuard_nil_constR ..) rfl (eqIn_nilI_nil ht)
/-- a slice of a slice -/
theorem Ev_sliceS (hT : T.Ok P) {e z y len cap : Nat} {a : Option Addr} {lo hi : Option Operand} {i j : Int} (ht : asc T.sl t = some (e, z, y)) (hx : opd L xo = some (.slice a len cap)) (hlo : bnd L lo 0 = some i) (hhi : bnd L hi len = some j)
    (h0 : 0 ≤ i) (h1 : i ≤ j) (h2 : j ≤ cap) : Ev P L (.slice t xo lo hi none) ty w (.slice (if cap = i.toNat then a else a.map (·.add (i.toNat * z))) (j.toNat - i.toNat) (cap - i.toNat)) w := by
  refine ⟨fun n c ha _ _ _ _ => ?_⟩
  obtain ⟨hu, d, hd, hz, _⟩ := ok_sl hT ht
  have hs := sliceBounds_spec (P := P) true hlo hhi ha h0 h1 h2 w
  simp only [execOp, ha.eval hx, Sem.run_bind, Instr.sliceAt, run_underlying' hu, Result.andThen_ok, Instr.slice, Option.map_none, hs, run_sizeOf' hd, hz, Sem.run_pure]
theorem SlAt.drop {w : World} {a : Option Addr} {cap z : Nat} {xs : List (List Value)} (h : SlAt w (.slice a xs.length cap) z xs) {i : Nat} (hi : i ≤ xs.length) (hc : xs.length ≤ cap) :
    SlAt w (.slice (if cap = i then a else a.map (·.add (i * z))) (xs.length - i) (cap - i)) z (xs.drop i) := by
  obtain ⟨a', cap', hv, h⟩ := h
  injection hv with e1 _ e2
  subst e1; subst e2
  refine ⟨_, _, by rw [List.length_drop], fun k x hx => ?_⟩
  rw [List.getElem?_drop] at hx
  have hl := (List.getElem?_eq_some_iff.1 hx).1
  obtain ⟨b, off, l, E, fz, rfl, hb, ht, hz⟩ := h _ x hx
  rw [if_neg (by omega)]
  have e : (Addr.add ⟨b, off, none⟩ (i * z)) = ⟨b, off + i * z, none⟩ := by
    simp only [Addr.add]; split
    · rename_i h; rw [h]; rfl
    · rfl
  refine ⟨b, off + i * z, l, E, fz, by rw [Option.map_some, e], hb, ?_, hz⟩
  rw [Nat.add_mul, ← Nat.add_assoc] at ht
  exact ht
end
end Go.Proofs.YtmlbgdhkacajaaaDoor
