/- Equality of structs whose parts are numbers, bools and strings; maps and slices against nil. No conditions. -/
import Derived.Test.YtmlbgdhkacajaaaDoorEno
import Derived.Laws.StructEq
import Derived.Laws.Cover3
namespace Go.Proofs.YtmlbgdhkacajaaaDoor
open Go.RowKit
set_option linter.unusedVariables false
set_option linter.unusedSimpArgs false

inductive CK where
  | i (k : IntKind)
  | b
  | s
  deriving DecidableEq
def fit1 : CK → Value → Bool
  | .i k, .int k' _ => k == k'
  | .b, .bool _ => true
  | .s, .string _ => true
  | _, _ => false
def fitK : List CK → List Value → Bool
  | [], [] => true
  | k :: ks, x :: xs => fit1 k x && fitK ks xs
  | _, _ => false
def eq1 : Value → Value → Bool
  | .int _ a, .int _ b => a == b
  | .bool a, .bool b => a == b
  | .string a, .string b => a.toList == b.toList
  | _, _ => true
def eqCells : List Value → List Value → Bool
  | x :: xs, y :: ys => eq1 x y && eqCells xs ys
  | _, _ => true

def flatFs (P : Program) (F : TypeId → Option (List CK)) : List Field → Nat → Option (List CK)
  | [], _ => some []
  | f :: fs, o => if (f.name ≠ "_" ∧ f.offset = o) ∧ (P.info? f.type).isSome = true then
      match F f.type with
      | some ks => if szB P f.type = ks.length then (flatFs P F fs (o + ks.length)).map (ks ++ ·) else none
      | none => none
    else none
def flatB (P : Program) : Nat → TypeId → Option (List CK)
  | 0, _ => none
  | d + 1, t => match P.underlying t with
    | some .bool => some [.b]
    | some (.int k) => some [.i k]
    | some .string => some [.s]
    | some (.struct fs) => if P.stoodInHeld t then none else flatFs P (flatB P d) fs.toList 0
    | _ => none

def valOf (P : Program) (t : TypeId) (xs : List Value) : Value := match P.underlying t with
  | some (.struct _) => .agg ⟨xs⟩
  | _ => xs.headD undef

theorem fitK_append : ∀ {ks ls : List CK} {xs : List Value}, fitK (ks ++ ls) xs = true → fitK ks (xs.take ks.length) = true ∧ fitK ls (xs.drop ks.length) = true
  | [], ls, xs, h => ⟨by simp [fitK], by simpa using h⟩
  | k :: ks, ls, [], h => by simp [fitK] at h
  | k :: ks, ls, x :: xs, h => by
    simp only [List.cons_append, fitK, Bool.and_eq_true] at h
    obtain ⟨h1, h2⟩ := fitK_append h.2
    exact ⟨by simp only [List.length_cons, List.take_succ_cons, fitK, Bool.and_eq_true]; exact ⟨h.1, h1⟩, by simpa using h2⟩
theorem fitK_len : ∀ {ks : List CK} {xs : List Value}, fitK ks xs = true → xs.length = ks.length
  | [], [], _ => rfl
  | [], _ :: _, h => by simp [fitK] at h
  | _ :: _, [], h => by simp [fitK] at h
  | k :: ks, x :: xs, h => by
    simp only [fitK, Bool.and_eq_true] at h
    simp [fitK_len h.2]
theorem eqCells_append : ∀ {xs ys us vs : List Value}, xs.length = ys.length → eqCells (xs ++ us) (ys ++ vs) = (eqCells xs ys && eqCells us vs)
  | [], [], us, vs, _ => by simp [eqCells]
  | [], _ :: _, _, _, h => by simp at h
  | _ :: _, [], _, _, h => by simp at h
  | x :: xs, y :: ys, us, vs, h => by
    simp only [List.cons_append, eqCells, eqCells_append (by simpa using h), Bool.and_assoc]
theorem bytes_inj {a b : ByteArray} (h : a.toList = b.toList) : a = b := by
  obtain ⟨⟨x⟩⟩ := a
  obtain ⟨⟨y⟩⟩ := b
  rw [ByteArray.toList_eq, ByteArray.toList_eq] at h
  simp only at h
  rw [h]
theorem eqCells_eq : ∀ {ks : List CK} {xs ys : List Value}, fitK ks xs = true → fitK ks ys = true → (eqCells xs ys = true ↔ xs = ys)
  | [], [], [], _, _ => by simp [eqCells]
  | [], _ :: _, _, h, _ => by simp [fitK] at h
  | [], [], _ :: _, _, h => by simp [fitK] at h
  | _ :: _, [], _, h, _ => by simp [fitK] at h
  | _ :: _, _ :: _, [], _, h => by simp [fitK] at h
  | k :: ks, x :: xs, y :: ys, hx, hy => by
    simp only [fitK, Bool.and_eq_true] at hx hy
    have ih := eqCells_eq hx.2 hy.2
    have h1 : eq1 x y = true ↔ x = y := by
      have hx1 := hx.1
      have hy1 := hy.1
      cases k <;> cases x <;> simp [fit1] at hx1 <;> cases y <;> simp [fit1] at hy1
      · subst hx1; subst hy1; simp [eq1]
      · simp [eq1]
      · rename_i a b
        simp only [eq1, beq_iff_eq, Value.string.injEq]
        exact ⟨bytes_inj, fun e => by rw [e]⟩
    simp only [eqCells, Bool.and_eq_true, ih, h1, List.cons.injEq]

section
variable {P : Program}
theorem sem_ok_bind {α β : Type} {m : Sem α} {k : α → Sem β} {w w' : World} {x : α} (h : m.run P w = .ok x w') : (m >>= k).run P w = (k x).run P w' := by
  simp [Sem.run_bind, h]
theorem part_flat {d : Nat} {t : TypeId} {ks : List CK} (hf : flatB P d t = some ks) (hi : (P.info? t).isSome = true) (hz : szB P t = ks.length) {xs : List Value} {o : Nat} (hfit : fitK ks ((xs.drop o).take ks.length) = true) (w : World) :
    (part t ⟨xs⟩ o).run P w = .ok (valOf P t ((xs.drop o).take ks.length)) w := by
  obtain ⟨i, hi⟩ := Option.isSome_iff_exists.1 hi
  simp only [szB, hi, Option.map_some, Option.getD_some] at hz
  have one : ∀ {k : CK}, ks = [k] → ∃ v, xs[o]? = some v ∧ (xs.drop o).take ks.length = [v] := by
    rintro k rfl
    have hl := fitK_len hfit
    simp only [List.length_take, List.length_drop, List.length_cons, List.length_nil] at hl
    have hlt : o < xs.length := by omega
    refine ⟨xs[o], List.getElem?_eq_getElem hlt, ?_⟩
    rw [List.drop_eq_getElem_cons hlt]; rfl
  cases d with
  | zero => simp [flatB] at hf
  | succ d =>
    simp only [flatB] at hf
    unfold part isAgg
    split at hf
    · rename_i hu
      injection hf with hf
      obtain ⟨v, hv, hv2⟩ := one hf.symm
      rw [hv2]
      simp [Sem.run_bind, run_underlying' hu, hv, valOf, hu]
    · rename_i k hu
      injection hf with hf
      obtain ⟨v, hv, hv2⟩ := one hf.symm
      rw [hv2]
      simp [Sem.run_bind, run_underlying' hu, hv, valOf, hu]
    · rename_i hu
      injection hf with hf
      obtain ⟨v, hv, hv2⟩ := one hf.symm
      rw [hv2]
      simp [Sem.run_bind, run_underlying' hu, hv, valOf, hu]
    · rename_i fs hu
      simp only [Sem.run_bind, run_underlying' hu, Result.andThen_ok, Sem.run_pure, if_true, run_sizeOf' hi, valOf, hu, hz]
      congr 2
      apply Array.ext'
      rw [Array.toList_extract, List.extract_eq_take_drop]
      simp
    · cases hf

theorem eqFs_flat (d : Nat) (ih : ∀ (t : TypeId) (ks : List CK), flatB P d t = some ks → ∀ (xs ys : List Value), fitK ks xs = true → fitK ks ys = true → ∀ (D : Nat) (w : World), (Op.equalIn (d + D) t (valOf P t xs) (valOf P t ys)).run P w = .ok (eqCells xs ys) w) (xs ys : List Value) (D : Nat) (w : World) : ∀ (fs : List Field) (o : Nat) (ks : List CK), flatFs P (flatB P d) fs o = some ks → fitK ks (xs.drop o) = true → fitK ks (ys.drop o) = true →
    (Op.eqFields (d + D) ⟨xs⟩ ⟨ys⟩ fs).run P w = .ok (eqCells (xs.drop o) (ys.drop o)) w := by
  intro fs
  induction fs with
  | nil =>
    intro o ks hf hx hy
    simp only [flatFs, Option.some.injEq] at hf
    subst hf
    have h1 := fitK_len hx
    have h2 : xs.drop o = [] := List.eq_nil_of_length_eq_zero h1
    simp [Op.eqFields, h2, eqCells]
  | cons f fs ihf =>
    intro o ks hf hx hy
    simp only [flatFs] at hf
    split at hf
    · rename_i hc
      obtain ⟨⟨hn, rfl⟩, hi⟩ := hc
      split at hf
      · rename_i k1 hk1
        split at hf
        · rename_i hz
          cases hr : flatFs P (flatB P d) fs (f.offset + k1.length) with
          | none => simp [hr] at hf
          | some k2 =>
            simp only [hr, Option.map_some, Option.some.injEq] at hf
            subst hf
            obtain ⟨hx1, hx2⟩ := fitK_append hx
            obtain ⟨hy1, hy2⟩ := fitK_append hy
            simp only [Op.eqFields, if_pos hn]
            rw [sem_ok_bind (part_flat hk1 hi hz hx1 w), sem_ok_bind (part_flat hk1 hi hz hy1 w), sem_ok_bind (ih f.type k1 hk1 _ _ hx1 hy1 D w)]
            have hl1 := fitK_len hx1
            have hl2 := fitK_len hy1
            have e : eqCells (xs.drop f.offset) (ys.drop f.offset) = (eqCells ((xs.drop f.offset).take k1.length) ((ys.drop f.offset).take k1.length) && eqCells ((xs.drop f.offset).drop k1.length) ((ys.drop f.offset).drop k1.length)) := by
              rw [← eqCells_append (by rw [hl1, hl2]), List.take_append_drop, List.take_append_drop]
            rw [e]
            cases hq : eqCells ((xs.drop f.offset).take k1.length) ((ys.drop f.offset).take k1.length)
            · simp
            · simp only [Bool.not_true, Bool.false_eq_true, if_false, Bool.true_and]
              rw [List.drop_drop, List.drop_drop] at *
              exact ihf (f.offset + k1.length) k2 hr hx2 hy2
        · cases hf
      · cases hf
    · cases hf
theorem eqIn_flat (d : Nat) : ∀ (t : TypeId) (ks : List CK), flatB P d t = some ks → ∀ (xs ys : List Value), fitK ks xs = true → fitK ks ys = true → ∀ (D : Nat) (w : World), (Op.equalIn (d + D) t (valOf P t xs) (valOf P t ys)).run P w = .ok (eqCells xs ys) w := by
  induction d with
  | zero => intro t ks hf; simp [flatB] at hf
  | succ d ih =>
    intro t ks hf xs ys hx hy D w
    rw [show d + 1 + D = (d + D) + 1 by omega]
    simp only [flatB] at hf
    have one : ∀ {k : CK} {zs : List Value}, ks = [k] → fitK ks zs = true → ∃ v, zs = [v] ∧ fit1 k v = true := by
      rintro k zs rfl h
      match zs, h with
      | [v], h => exact ⟨v, rfl, by simpa [fitK] using h⟩
      | [], h => simp [fitK] at h
      | _ :: _ :: _, h => simp [fitK] at h
    split at hf
    · rename_i hu
      injection hf with hf
      obtain ⟨u, rfl, hu1⟩ := one hf.symm hx
      obtain ⟨v, rfl, hv1⟩ := one hf.symm hy
      cases u <;> simp [fit1] at hu1
      cases v <;> simp [fit1] at hv1
      simp [valOf, hu, eqCells, eq1, Op.equalIn, run_underlying' hu, Sem.run_bind]
    · rename_i k hu
      injection hf with hf
      obtain ⟨u, rfl, hu1⟩ := one hf.symm hx
      obtain ⟨v, rfl, hv1⟩ := one hf.symm hy
      cases u <;> simp [fit1] at hu1
      cases v <;> simp [fit1] at hv1
      subst hu1; subst hv1
      simp [valOf, hu, eqCells, eq1, Op.equalIn, run_underlying' hu, Sem.run_bind]
    · rename_i hu
      injection hf with hf
      obtain ⟨u, rfl, hu1⟩ := one hf.symm hx
      obtain ⟨v, rfl, hv1⟩ := one hf.symm hy
      cases u <;> simp [fit1] at hu1
      cases v <;> simp [fit1] at hv1
      simp [valOf, hu, eqCells, eq1, Op.equalIn, run_underlying' hu, Sem.run_bind, beq_toListBytes]
    · rename_i fs hu
      split at hf
      · cases hf
      · rename_i hs
        have hfs : P.fieldsOf t = fs := by simp [Program.fieldsOf, hu]
        have e1 : ∀ zs, valOf P t zs = .agg ⟨zs⟩ := fun zs => by simp [valOf, hu]
        rw [e1, e1, run_equalIn_struct w (d + D) t _ _ (by rw [hfs]; exact hu) (by simpa using hs), hfs]
        have := eqFs_flat d ih xs ys D w fs.toList 0 ks hf (by simpa using hx) (by simpa using hy)
        simpa using this
    · cases hf
def eqsB (P : Program) (x : Nat × List CK) : Bool := structB P x.1 && (flatB P 8 x.1 == some x.2) && !(P.eqGuardType P.depth x.1)
section
variable {n : Nat} {L : Fr} {w : World} {ty t t' : TypeId} {xo yo : Operand}
theorem struct_eq {ks : List CK} {xs ys : List Value} (h : eqsB P (t, ks) = true) (hx : fitK ks xs = true) (hy : fitK ks ys = true) (w : World) : (Op.equalIn 10000 t (.agg ⟨xs⟩) (.agg ⟨ys⟩)).run P w = .ok (@decide (xs = ys) (Classical.propDecidable _)) w := by
  simp only [eqsB, Bool.and_eq_true] at h
  obtain ⟨fs, hs⟩ := structB_spec h.1.1
  have hf : flatB P 8 t = some ks := by simpa using h.1.2
  have e1 : ∀ zs, valOf P t zs = .agg ⟨zs⟩ := fun zs => by simp [valOf, hs]
  have := eqIn_flat 8 t ks hf xs ys hx hy 9992 w
  rw [e1, e1] at this
  rw [this]
  congr 1
  have hiff := eqCells_eq hx hy
  cases hq : eqCells xs ys
  · have hne : ¬ xs = ys := fun e => by rw [hiff.2 e] at hq; cases hq
    simp [hne]
  · simp [hiff.1 hq]
theorem Ev_struct_eql {ks : List CK} {xs ys : List Value} (h : eqsB P (t, ks) = true) (hx : opd L xo = some (.agg ⟨xs⟩)) (hy : opd L yo = some (.agg ⟨ys⟩)) (hfx : fitK ks xs = true) (hfy : fitK ks ys = true) :
    Ev P L (.binOp .eql t xo yo t') ty w (.bool (@decide (xs = ys) (Classical.propDecidable _))) w := by
  refine ⟨fun n a ha _ _ _ _ => ?_⟩
  have hg : P.eqGuardType P.depth t = false := by simp only [eqsB, Bool.and_eq_true] at h; simpa using h.2
  simp only [execOp, ha.eval hx, ha.eval hy, Sem.run_bind, run_eqGuard_agg w .eql t xo yo _ _ hg, Result.andThen_ok, run_eql_struct, struct_eq h hfx hfy, Sem.run_pure]
theorem Ev_struct_neq {ks : List CK} {xs ys : List Value} (h : eqsB P (t, ks) = true) (hx : opd L xo = some (.agg ⟨xs⟩)) (hy : opd L yo = some (.agg ⟨ys⟩)) (hfx : fitK ks xs = true) (hfy : fitK ks ys = true) :
    Ev P L (.binOp .neq t xo yo t') ty w (.bool (@decide (¬ xs = ys) (Classical.propDecidable _))) w := by
  refine ⟨fun n a ha _ _ _ _ => ?_⟩
  have hg : P.eqGuardType P.depth t = false := by simp only [eqsB, Bool.and_eq_true] at h; simpa using h.2
  simp only [execOp, ha.eval hx, ha.eval hy, Sem.run_bind, run_eqGuard_agg w .neq t xo yo _ _ hg, Result.andThen_ok, run_neq_struct, struct_eq h hfx hfy, Sem.run_pure]
  congr 3
  by_cases e : xs = ys <;> simp [e]
def mapB (P : Program) (t : Nat) : Bool := match P.underlying t with | some (.map _ _) => true | _ => false
theorem Ev_map_nil_eql {r : Option Nat} (ht : mapB P t = true) (hx : opd L xo = some (.map r)) (hy : opd L yo = some (.map none)) : Ev P L (.binOp .eql t xo yo t') ty w (.bool r.isNone) w := by
  unfold mapB at ht
  split at ht
  · rename_i k e hm
    exact Ev_eq_of hx hy (eqGuard_at_map ..) (by cases r <;> rfl) (fun d => run_equalIn_map_nil w (d + 1) t k e r hm)
  · cases ht
theorem Ev_slice_nil_eql {e z y : Nat} {T : Tys} (hT : T.Ok P) {a : Option Addr} {l c : Nat} (ht : asc T.sl t = some (e, z, y)) (hx : opd L xo = some (.slice a l c)) (hy : opd L yo = some (.slice none 0 0)) : Ev P L (.binOp .eql t xo yo t') ty w (.bool a.isNone) w :=
  Ev_eq_of hx hy (eqGuard_at_slice ..) (by cases a <;> rfl) (fun d => run_equalIn_slice_nil w (d + 1) t e a l c (ok_sl hT ht).1)
theorem Ev_slice_nil_neq {e z y : Nat} {T : Tys} (hT : T.Ok P) {a : Option Addr} {l c : Nat} (ht : asc T.sl t = some (e, z, y)) (hx : opd L xo = some (.slice a l c)) (hy : opd L yo = some (.slice none 0 0)) : Ev P L (.binOp .neq t xo yo t') ty w (.bool !a.isNone) w :=
  Ev_ne_of hx hy (eqGuard_at_slice ..) (by cases a <;> rfl) (fun d => run_equalIn_slice_nil w (d + 1) t e a l c (ok_sl hT ht).1)
end
end
end Go.Proofs.YtmlbgdhkacajaaaDoor
