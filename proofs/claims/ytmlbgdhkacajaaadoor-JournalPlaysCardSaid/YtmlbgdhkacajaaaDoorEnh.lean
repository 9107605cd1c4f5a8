/- More of the rules with which this claim's walks are made: strings, slices, memory, calls, statements that draw their order, and a function's two ends. No conditions. -/
import Derived.Test.YtmlbgdhkacajaaaDoorEng
import Derived.Lib.Strings
namespace Go.Proofs.YtmlbgdhkacajaaaDoor
open Go.RowKit
set_option linter.unusedVariables false
set_option linter.unusedSimpArgs false
set_option linter.unusedSectionVars false

section
variable {T : Tys} {P : Program} {n : Nat} {ops : Array Oper} {Q : Exit → Act → World → Prop} {L L' : Fr} {w w' w0 : World} {rest : List Oper} {ty t t' : TypeId} {xo yo zo : Operand}
  {Sx : Nat → Prop} {H : List (Nat × Obj)}

/-! ## Strings -/

theorem str_size (l : List UInt8) : (ByteArray.mk ⟨l⟩).size = l.length := rfl
theorem str_extract (l : List UInt8) (a b : Nat) : (ByteArray.mk ⟨l⟩).extract a b = ⟨⟨(l.drop a).take (b - a)⟩⟩ := by
  rw [Lib.extract_eq]
theorem str_append (a b : List UInt8) : (ByteArray.mk ⟨a⟩) ++ (ByteArray.mk ⟨b⟩) = ⟨⟨a ++ b⟩⟩ := by
  apply ByteArray.ext
  simp

section
variable {a b : List UInt8} (hx : opd L xo = some (S a))
include hx
theorem Ev_len_str (hT : T.Ok P) {at_ : TypeId} (ht : mem1 T.str at_ = true) : Ev P L (.call ⟨.builtin .len, #[xo], #[at_]⟩) ty w (I a.length) w := by
  refine ⟨fun n c ha _ _ _ _ => ?_⟩
  simp [execOp, resolve, invoke, builtin, Builtin.len_, ha.eval hx, run_underlying' (ok_str hT ht), goInt, str_size, pure]
theorem Ev_str_eql (hy : opd L yo = some (S b)) : Ev P L (.binOp .eql t xo yo t') ty w (.bool (decide (a = b))) w := by
  refine Ev_bin hx hy (eqGuard_at_string ..) ?_
  rw [binOp_string_eql]; simp only [ByteArray.toList_eq, Sem.run_pure]
  congr 2; by_cases h : a = b <;> simp [h]
theorem Ev_str_neq (hy : opd L yo = some (S b)) : Ev P L (.binOp .neq t xo yo t') ty w (.bool (decide (a ≠ b))) w := by
  refine Ev_bin hx hy (eqGuard_at_string ..) ?_
  rw [binOp_string_neq]; simp only [ByteArray.toList_eq, Sem.run_pure]
  by_cases h : a = b <;> simp [h]
theorem Ev_str_add (hy : opd L yo = some (S b)) (hl : a.length + b.length ≤ 9223372036854775807) : Ev P L (.binOp .add t xo yo t') ty w (S (a ++ b)) w := by
  refine ⟨fun n c ha _ _ _ _ => ?_⟩
  have h1 : ¬ ((a.length : Int) + (b.length : Int) > IntKind.i64.max) := by simp [IntKind.max, IntKind.signed, IntKind.bits]; omega
  simp only [execOp, ha.eval hx, ha.eval hy, Sem.run_bind, eqGuard_add, Sem.run_pure, Result.andThen_ok, binOp_string_add, Op.stringOp, str_size, str_append]
  rw [if_neg (by simpa using h1)]
  rfl
theorem Ev_str_index (hT : T.Ok P) (ht : mem1 T.str t = true) {k : IntKind} {i : Int} (hy : opd L yo = some (.int k i)) (h0 : 0 ≤ i) {c : UInt8} (hc : a[i.toNat]? = some c) : Ev P L (.index t xo yo) ty w (.int .u8 c.toNat) w := by
  refine ⟨fun n d ha _ _ _ _ => ?_⟩
  have hlt := (List.getElem?_eq_some_iff.1 hc).1
  have he := (List.getElem?_eq_some_iff.1 hc).2
  have hb : (ByteArray.mk ⟨a⟩)[i.toNat]? = some c := by
    have hs : i.toNat < (ByteArray.mk ⟨a⟩).size := by rw [str_size]; exact hlt
    rw [getElem?_pos (ByteArray.mk ⟨a⟩) i.toNat hs]; simp [ByteArray.getElem_eq_getElem_data, he]
  simp [execOp, ha.eval hx, ha.eval hy, Instr.index, asIntOf, run_underlying' (ok_str hT ht), h0, hb]
end

/-- the bounds of a slice expression: what stands there, or nothing -/
def bnd (L : Fr) (o : Option Operand) (d : Nat) : Option Int :=
  match o with
  | none => some d
  | some x => match opd L x with
    | some (.int _ i) => some i
    | _ => none

theorem bnd_spec {o : Option Operand} {d : Nat} {i : Int} (h : bnd L o d = some i) {a : Act} (ha : Fits n L a) (y : Nat) (code : BoundsCode) (h0 : 0 ≤ i) (h1 : i ≤ y) (w : World) :
    ((match o.map a.eval with | some v => Instr.sliceBound v y code | none => pure d : Sem Nat).run P w) = .ok i.toNat w := by
  cases o with
  | none => simp only [bnd, Option.some.injEq] at h; subst h; simp
  | some x =>
    simp only [bnd] at h
    split at h
    · rename_i k j hj
      injection h with h; subst h
      simp [ha.eval hj, Instr.sliceBound, asIntOf, h0, h1]
    · cases h

theorem sliceBounds_spec {lo hi : Option Operand} {len cap : Nat} {i j : Int} (isS : Bool) (hlo : bnd L lo 0 = some i) (hhi : bnd L hi len = some j) {a : Act} (ha : Fits n L a) (h0 : 0 ≤ i) (h1 : i ≤ j) (h2 : j ≤ cap) (w : World) :
    (Instr.sliceBounds isS len cap (lo.map a.eval) (hi.map a.eval) none).run P w = .ok (i.toNat, j.toNat, cap) w := by
  have hj := fun code => bnd_spec (P := P) hhi ha cap code (by omega) h2 w
  have hi' := fun code => bnd_spec (P := P) hlo ha j.toNat code h0 (by omega) w
  unfold Instr.sliceBounds
  cases lo with
  | none =>
    simp only [bnd, Option.some.injEq] at hlo; subst hlo
    cases hi with
    | none => simp only [bnd, Option.some.injEq] at hhi; subst hhi; simp
    | some y => simp only [Option.map_some] at hj ⊢; simp [hj]
  | some x =>
    cases hi with
    | none =>
      simp only [bnd, Option.some.injEq] at hhi; subst hhi
      simp only [Option.map_some, Int.toNat_natCast] at hi' ⊢; simp [hi']
    | some y => simp only [Option.map_some] at hj hi' ⊢; simp [hj, hi']

theorem Ev_str_slice (hT : T.Ok P) (ht : mem1 T.str t = true) {a : List UInt8} (hx : opd L xo = some (S a)) {lo hi : Option Operand} {i j : Int} (hlo : bnd L lo 0 = some i) (hhi : bnd L hi a.length = some j)
    (h0 : 0 ≤ i) (h1 : i ≤ j) (h2 : j ≤ a.length) : Ev P L (.slice t xo lo hi none) ty w (S ((a.drop i.toNat).take (j.toNat - i.toNat))) w := by
  refine ⟨fun n c ha _ _ _ _ => ?_⟩
  have hs := sliceBounds_spec (P := P) false hlo hhi ha h0 h1 h2 w
  simp only [execOp, ha.eval hx, Sem.run_bind, Instr.sliceAt, run_underlying' (ok_str hT ht), Result.andThen_ok, Instr.slice, Option.map_none, Option.isSome_none, Bool.false_eq_true, if_false, str_size, hs, str_extract, Sem.run_pure]

/-! ## Tuples, structs, addresses -/

theorem Ev_extract {l : List Value} {i : Nat} {v : Value} (hx : opd L xo = some (.tuple ⟨l⟩)) (h : l[i]? = some v) : Ev P L (.extract xo i) ty w v w := by
  refine ⟨fun n c ha _ _ _ _ => ?_⟩
  simp [execOp, ha.eval hx, Instr.extract, h]

theorem Ev_fieldAddr (hT : T.Ok P) {s f o z b off : Nat} (hf : asc2 T.fld s f = some (o, z)) (hx : opd L xo = some (.pointer (some ⟨b, off, none⟩))) : Ev P L (.fieldAddr s xo f) ty w (.pointer (some ⟨b, off + o, none⟩)) w := by
  refine ⟨fun n c ha _ _ _ _ => ?_⟩
  obtain ⟨fs, x, i, hu, hfx, ho, hi, hz, hne⟩ := ok_fld hT hf
  have e : (Addr.add ⟨b, off, none⟩ o) = ⟨b, off + o, none⟩ := by simp [Addr.add]
  simp [execOp, ha.eval hx, Instr.fieldAt, run_underlying' hu, hfx, Instr.sureAddr, fieldPlace, run_sizeOf' hi, hz, hne, ho, e]

theorem Ev_field1 (hT : T.Ok P) {s f o : Nat} {l : List Value} {v : Value} (hf : asc2 T.fld s f = some (o, 1)) (hx : opd L xo = some (.agg ⟨l⟩)) (hv : l[o]? = some v) (hone : ∀ fs x, P.underlying s = some (.struct fs) → fs[f]? = some x → mem1 T.one x.type = true) :
    Ev P L (.field s xo f) ty w v w := by
  refine ⟨fun n c ha _ _ _ _ => ?_⟩
  obtain ⟨fs, x, i, hu, hfx, ho, hi, hz, hne⟩ := ok_fld hT hf
  simp [execOp, ha.eval hx, Instr.field, run_underlying' hu, hfx, part, asAgg, run_isAgg_no hT (hone fs x hu hfx), ho, hv]

theorem Ev_indexAddr (hT : T.Ok P) {e z y b off len cap : Nat} {k : IntKind} {i : Int} (ht : asc T.sl t = some (e, z, y)) (hx : opd L xo = some (.slice (some ⟨b, off, none⟩) len cap)) (hy : opd L yo = some (.int k i))
    (h0 : 0 ≤ i) (h1 : i < len) : Ev P L (.indexAddr t xo yo) ty w (.pointer (some ⟨b, off + i.toNat * z, none⟩)) w := by
  refine ⟨fun n c ha _ _ _ _ => ?_⟩
  obtain ⟨hu, d, hi, hz, _⟩ := ok_sl hT ht
  have e : (Addr.add ⟨b, off, none⟩ (i.toNat * z)) = ⟨b, off + i.toNat * z, none⟩ := by
    simp only [Addr.add]; split
    · rename_i h; rw [h]; rfl
    · rfl
  simp [execOp, ha.eval hx, ha.eval hy, Instr.indexAt, asIntOf, run_underlying' hu, h0, h1, run_sizeOf' hi, hz, e]

theorem Ev_indexAddrArr (hT : T.Ok P) {m e z b off : Nat} {k : IntKind} {i : Int} (ht : asc T.arr t = some (m, e, z)) (hx : opd L xo = some (.pointer (some ⟨b, off, none⟩))) (hy : opd L yo = some (.int k i))
    (h0 : 0 ≤ i) (h1 : i < m) : Ev P L (.indexAddr t xo yo) ty w (.pointer (some ⟨b, off + i.toNat * z, none⟩)) w := by
  refine ⟨fun n c ha _ _ _ _ => ?_⟩
  obtain ⟨hu, d, hi, hz⟩ := ok_arr hT ht
  have e : (Addr.add ⟨b, off, none⟩ (i.toNat * z)) = ⟨b, off + i.toNat * z, none⟩ := by
    simp only [Addr.add]; split
    · rename_i h; rw [h]; rfl
    · rfl
  simp [execOp, ha.eval hx, ha.eval hy, Instr.indexAt, asIntOf, run_underlying' hu, Instr.sureAddr, h0, h1, run_sizeOf' hi, hz, e]

theorem Ev_len_slice (hT : T.Ok P) {at_ e z y len cap : Nat} {a : Option Addr} (ht : asc T.sl at_ = some (e, z, y)) (hx : opd L xo = some (.slice a len cap)) : Ev P L (.call ⟨.builtin .len, #[xo], #[at_]⟩) ty w (I len) w := by
  refine ⟨fun n c ha _ _ _ _ => ?_⟩
  simp [execOp, resolve, invoke, builtin, Builtin.len_, ha.eval hx, run_underlying' (ok_sl hT ht).1, goInt, pure]

theorem Ev_min {x y : Int} {k : IntKind} {ts : Array TypeId} (hx : opd L xo = some (.int k x)) (hy : opd L yo = some (.int k y)) : Ev P L (.call ⟨.builtin .min, #[xo, yo], ts⟩) ty w (.int k (min x y)) w := by
  refine ⟨fun n c ha _ _ _ _ => ?_⟩
  have e : (if y < x then y else x) = min x y := by omega
  simp [execOp, resolve, invoke, builtin, Builtin.min_, Builtin.min2, ha.eval hx, ha.eval hy, e]
theorem Ev_max {x y : Int} {k : IntKind} {ts : Array TypeId} (hx : opd L xo = some (.int k x)) (hy : opd L yo = some (.int k y)) : Ev P L (.call ⟨.builtin .max, #[xo, yo], ts⟩) ty w (.int k (max x y)) w := by
  refine ⟨fun n c ha _ _ _ _ => ?_⟩
  have e : (if y > x then y else x) = max x y := by omega
  simp [execOp, resolve, invoke, builtin, Builtin.max_, Builtin.max2, ha.eval hx, ha.eval hy, e]

theorem Ev_conv_int (hT : T.Ok P) {j k : IntKind} {x : Int} {s d : TypeId} (hs : asc T.int s = some j) (hd : asc T.int d = some k) (hx : opd L xo = some (.int j x)) : Ev P L (.convert s d xo) ty w (.int k (k.wrap x)) w := by
  refine ⟨fun n c ha _ _ _ _ => ?_⟩
  simp [execOp, ha.eval hx, convert, run_underlying' (ok_int hT hs), run_underlying' (ok_int hT hd), Conv.intToInt]
theorem Ev_conv_in (hT : T.Ok P) {j k : IntKind} {x : Int} {s d : TypeId} (hs : asc T.int s = some j) (hd : asc T.int d = some k) (hx : opd L xo = some (.int j x)) (h : inK k x) : Ev P L (.convert s d xo) ty w (.int k x) w := by
  have := Ev_conv_int (w := w) (ty := ty) hT hs hd hx
  rwa [wrap_in h] at this
theorem Ev_conv_str (hT : T.Ok P) {a : List UInt8} {s d : TypeId} (hs : mem1 T.str s = true) (hd : mem1 T.str d = true) (hx : opd L xo = some (S a)) : Ev P L (.convert s d xo) ty w (S a) w := by
  refine ⟨fun n c ha _ _ _ _ => ?_⟩
  simp [execOp, ha.eval hx, convert, run_underlying' (ok_str hT hs), run_underlying' (ok_str hT hd)]

/-- a pointer against nil -/
theorem eqIn_ptr_nil {e : TypeId} (ht : P.underlying t = some (.pointer e)) (p : Option Addr) (d : Nat) : (Op.equalIn (d + 2) t (.pointer p) (.pointer none)).run P w = .ok p.isNone w := by
  cases p <;> simp only [Op.equalIn, Sem.run_bind, run_underlying' ht, Result.andThen_ok] <;> rfl
theorem Ev_ptr_nil_eql (ht : ptrB P t = true) {p : Option Addr} (hx : opd L xo = some (.pointer p)) (hy : opd L yo = some (.pointer none)) : Ev P L (.binOp .eql t xo yo t') ty w (.bool p.isNone) w := by
  obtain ⟨e, he⟩ := ptrB_spec ht
  exact Ev_eq_of hx hy (eqGuard_at_pointer ..) (by cases p <;> rfl) (eqIn_ptr_nil he p)
theorem Ev_ptr_nil_neq (ht : ptrB P t = true) {p : Option Addr} (hx : opd L xo = some (.pointer p)) (hy : opd L yo = some (.pointer none)) : Ev P L (.binOp .neq t xo yo t') ty w (.bool !p.isNone) w := by
  obtain ⟨e, he⟩ := ptrB_spec ht
  exact Ev_ne_of hx hy (eqGuard_at_pointer ..) (by cases p <;> rfl) (eqIn_ptr_nil he p)
/-- against nil, the pointer known -/
theorem Ev_some_nil_eql (ht : ptrB P t = true) {p : Addr} (hx : opd L xo = some (.pointer (some p))) (hy : opd L yo = some (.pointer none)) : Ev P L (.binOp .eql t xo yo t') ty w (.bool false) w := Ev_ptr_nil_eql ht hx hy
theorem Ev_some_nil_neq (ht : ptrB P t = true) {p : Addr} (hx : opd L xo = some (.pointer (some p))) (hy : opd L yo = some (.pointer none)) : Ev P L (.binOp .neq t xo yo t') ty w (.bool true) w := Ev_ptr_nil_neq ht hx hy
theorem Ev_nil_nil_eql (ht : ptrB P t = true) (hx : opd L xo = some (.pointer none)) (hy : opd L yo = some (.pointer none)) : Ev P L (.binOp .eql t xo yo t') ty w (.bool true) w := Ev_ptr_nil_eql ht hx hy
theorem Ev_nil_nil_neq (ht : ptrB P t = true) (hx : opd L xo = some (.pointer none)) (hy : opd L yo = some (.pointer none)) : Ev P L (.binOp .neq t xo yo t') ty w (.bool false) w := Ev_ptr_nil_neq ht hx hy

/-! ## Memory -/

theorem St.at (h : St w0 Sx H w) (i : Nat) {b : Nat} {o : Obj} (hi : H[i]? = some (b, o)) : w.heap[b]? = some o := (h.own i b o hi).1

theorem Ev_load1 (hT : T.Ok P) (ht : mem1 T.one t = true) {b o : Nat} {l : List Value} {E : TypeId} {fz : Nat × Nat} {v : Value} (hx : opd L xo = some (.pointer (some ⟨b, o, none⟩))) (hb : w.heap[b]? = some (.cells ⟨l⟩ E fz)) (hv : l[o]? = some v) :
    Ev P L (.load t xo) ty w v w := by
  refine ⟨fun n c ha _ _ _ _ => ?_⟩
  simp [execOp, ha.eval hx, Instr.loadAt, Instr.sureAddr, loadVar, run_isAgg_no hT ht, run_load, cell_of hb, hv]

theorem Ev_loadN (hT : T.Ok P) {k : Nat} (ht : asc T.agg t = some k) {b o : Nat} {l : List Value} {E : TypeId} {fz : Nat × Nat} {vs : List Value} (hx : opd L xo = some (.pointer (some ⟨b, o, none⟩))) (hb : w.heap[b]? = some (.cells ⟨l⟩ E fz)) (hvs : (l.drop o).take k = vs) (hl : vs.length = k) :
    Ev P L (.load t xo) ty w (.agg ⟨vs⟩) w := by
  refine ⟨fun n c ha _ _ _ _ => ?_⟩
  obtain ⟨_, i, hi, hk⟩ := ok_agg hT ht
  have hl' := run_loadCells_list (P := P) w ⟨b, o, none⟩ vs (fun j v hj => by
    have e : (Addr.add ⟨b, o, none⟩ j) = ⟨b, o + j, none⟩ := by
      simp only [Addr.add]; split
      · rename_i h; rw [h]; rfl
      · rfl
    rw [e, cell_of hb]
    rw [← hvs] at hj
    rw [List.getElem?_take] at hj
    split at hj
    · rw [List.getElem?_drop] at hj; exact hj
    · cases hj)
  rw [hl] at hl'
  simp [execOp, ha.eval hx, Instr.loadAt, Instr.sureAddr, loadVar, run_isAgg_yes hT ht, run_sizeOf' hi, hk, hl']
end
end Go.Proofs.YtmlbgdhkacajaaaDoor
