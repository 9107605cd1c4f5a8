/- More of the rules with which this claim's walks are made: numbers of 64 bits told by naturals, shifts, and ranges over strings. No conditions. -/
import Derived.Test.YtmlbgdhkacajaaaDoorEoh
import Derived.Test.YtmlbgdhkacajaaaDoorEoa
import Derived.Laws.Bits64
import Derived.Laws.RangeString
namespace Go.Proofs.YtmlbgdhkacajaaaDoor
open Go.RowKit
set_option linter.unusedVariables false
set_option linter.unusedSimpArgs false
set_option linter.unusedSectionVars false

abbrev U (n : Nat) : Value := .int .u64 (n : Int)
abbrev Y (n : Nat) : Value := .int .u8 (n : Int)

section
variable {T : Tys} {P : Program} {n : Nat} {ops : Array Oper} {Q : Exit → Act → World → Prop} {L L' : Fr} {w w' w0 : World} {rest : List Oper} {ty t t' : TypeId} {xo yo zo : Operand}
  {Sx : Nat → Prop} {H H0 H1 H2 : List (Nat × Obj)} {pos : String} {af : Array Edge} {g : Option (Nat × Bool)}

theorem nat_modU (n : Nat) (h : n < 18446744073709551616) : (n : Int) % 18446744073709551616 = (n : Int) := by omega
section u64
variable {x y : Int} (a b : Nat) (hx : opd L xo = some (.int .u64 x)) (hy : opd L yo = some (.int .u64 y)) (ex : x = (a : Int)) (ey : y = (b : Int))
include hx hy ex ey
theorem Ev_xorU (ha : a < 18446744073709551616) (hb : b < 18446744073709551616) : Ev P L (.binOp .xor t xo yo t') ty w (U (a ^^^ b)) w := by
  subst ex; subst ey
  have := Ev_xor (P := P) (t := t) (t' := t') (ty := ty) (w := w) hx hy
  rwa [bits_xor_u64_nat a b ha hb] at this
theorem Ev_mulU : Ev P L (.binOp .mul t xo yo t') ty w (U (a * b % 18446744073709551616)) w := by
  subst ex; subst ey
  have := Ev_mulw (P := P) (t := t) (t' := t') (ty := ty) (w := w) hx hy
  rwa [IntKind.wrap_u64, ← Int.natCast_mul, show ((a * b : Nat) : Int) % 18446744073709551616 = ((a * b % 18446744073709551616 : Nat) : Int) by omega] at this
theorem Ev_addU (h : a + b < 18446744073709551616) : Ev P L (.binOp .add t xo yo t') ty w (U (a + b)) w := by
  subst ex; subst ey
  have := Ev_addw (P := P) (t := t) (t' := t') (ty := ty) (w := w) hx hy
  rwa [IntKind.wrap_u64, show ((a : Int) + (b : Int)) % 18446744073709551616 = ((a + b : Nat) : Int) by omega] at this
theorem Ev_divU (h : 0 < b) (ha : a < 18446744073709551616) : Ev P L (.binOp .quo t xo yo t') ty w (U (a / b)) w := by
  subst ex; subst ey
  have := Ev_quow (P := P) (t := t) (t' := t') (ty := ty) (w := w) hx hy (by omega)
  have h1 : a / b ≤ a := Nat.div_le_self a b
  rwa [IntKind.wrap_u64, Int.tdiv_eq_ediv_of_nonneg (by omega), ← Int.natCast_ediv, nat_modU (a / b) (Nat.lt_of_le_of_lt h1 ha)] at this
theorem Ev_remU (h : 0 < b) : Ev P L (.binOp .rem t xo yo t') ty w (U (a % b)) w := by
  subst ex; subst ey
  have := Ev_rem (P := P) (t := t) (t' := t') (ty := ty) (w := w) hx hy (by omega)
  rwa [Int.tmod_eq_emod_of_nonneg (by omega), ← Int.natCast_emod] at this
theorem Ev_orU (ha : a < 18446744073709551616) (hb : b < 18446744073709551616) : Ev P L (.binOp .or t xo yo t') ty w (U (a ||| b)) w := by
  subst ex; subst ey
  have h := Ev_or (P := P) (t := t) (t' := t') (ty := ty) (w := w) hx hy
  have h1 : (BitVec.ofInt 64 (a : Int)).toNat = a := by
    rw [BitVec.ofInt_natCast, BitVec.toNat_ofNat]; exact Nat.mod_eq_of_lt (by omega)
  have h2 : (BitVec.ofInt 64 (b : Int)).toNat = b := by
    rw [BitVec.ofInt_natCast, BitVec.toNat_ofNat]; exact Nat.mod_eq_of_lt (by omega)
  have h3 : a ||| b < 2 ^ 64 := Nat.or_lt_two_pow (by omega) (by omega)
  have e : bits .or .u64 (a : Int) (b : Int) = ((a ||| b : Nat) : Int) := by
    show IntKind.u64.wrap ((BitVec.ofInt 64 (a : Int) ||| BitVec.ofInt 64 (b : Int)).toNat : Int) = _
    rw [BitVec.toNat_or, h1, h2, IntKind.wrap_u64]; omega
  rwa [e] at h
theorem Ev_andU (ha : a < 18446744073709551616) (hb : b < 18446744073709551616) : Ev P L (.binOp .and t xo yo t') ty w (U (a &&& b)) w := by
  subst ex; subst ey
  have h := Ev_and (P := P) (t := t) (t' := t') (ty := ty) (w := w) hx hy
  have h1 : (BitVec.ofInt 64 (a : Int)).toNat = a := by
    rw [BitVec.ofInt_natCast, BitVec.toNat_ofNat]; exact Nat.mod_eq_of_lt (by omega)
  have h2 : (BitVec.ofInt 64 (b : Int)).toNat = b := by
    rw [BitVec.ofInt_natCast, BitVec.toNat_ofNat]; exact Nat.mod_eq_of_lt (by omega)
  have h3 : a &&& b < 2 ^ 64 := Nat.and_lt_two_pow a (by omega)
  have e : bits .and .u64 (a : Int) (b : Int) = ((a &&& b : Nat) : Int) := by
    show IntKind.u64.wrap ((BitVec.ofInt 64 (a : Int) &&& BitVec.ofInt 64 (b : Int)).toNat : Int) = _
    rw [BitVec.toNat_and, h1, h2, IntKind.wrap_u64]; omega
  rwa [e] at h
end u64

section u8
variable {x y : Int} (a b : Nat) (hx : opd L xo = some (.int .u8 x)) (hy : opd L yo = some (.int .u8 y)) (ex : x = (a : Int)) (ey : y = (b : Int)) (ha : a < 256) (hb : b < 256)
include hx hy ex ey
include ha hb in
theorem Ev_orY : Ev P L (.binOp .or t xo yo t') ty w (Y (a ||| b)) w := by
  subst ex; subst ey
  have h := Ev_or (P := P) (t := t) (t' := t') (ty := ty) (w := w) hx hy
  have h1 : (BitVec.ofInt 8 (a : Int)).toNat = a := by
    rw [BitVec.ofInt_natCast, BitVec.toNat_ofNat]; exact Nat.mod_eq_of_lt (by omega)
  have h2 : (BitVec.ofInt 8 (b : Int)).toNat = b := by
    rw [BitVec.ofInt_natCast, BitVec.toNat_ofNat]; exact Nat.mod_eq_of_lt (by omega)
  have h3 : a ||| b < 2 ^ 8 := Nat.or_lt_two_pow (by omega) (by omega)
  have e : bits .or .u8 (a : Int) (b : Int) = ((a ||| b : Nat) : Int) := by
    show IntKind.u8.wrap ((BitVec.ofInt 8 (a : Int) ||| BitVec.ofInt 8 (b : Int)).toNat : Int) = _
    rw [BitVec.toNat_or, h1, h2]; simp [IntKind.wrap, IntKind.signed, IntKind.bits]; omega
  rwa [e] at h
include ha hb in
theorem Ev_andY : Ev P L (.binOp .and t xo yo t') ty w (Y (a &&& b)) w := by
  subst ex; subst ey
  have h := Ev_and (P := P) (t := t) (t' := t') (ty := ty) (w := w) hx hy
  have h1 : (BitVec.ofInt 8 (a : Int)).toNat = a := by
    rw [BitVec.ofInt_natCast, BitVec.toNat_ofNat]; exact Nat.mod_eq_of_lt (by omega)
  have h2 : (BitVec.ofInt 8 (b : Int)).toNat = b := by
    rw [BitVec.ofInt_natCast, BitVec.toNat_ofNat]; exact Nat.mod_eq_of_lt (by omega)
  have h3 : a &&& b < 2 ^ 8 := Nat.and_lt_two_pow a (by omega)
  have e : bits .and .u8 (a : Int) (b : Int) = ((a &&& b : Nat) : Int) := by
    show IntKind.u8.wrap ((BitVec.ofInt 8 (a : Int) &&& BitVec.ofInt 8 (b : Int)).toNat : Int) = _
    rw [BitVec.toNat_and, h1, h2]; simp [IntKind.wrap, IntKind.signed, IntKind.bits]; omega
  rwa [e] at h
theorem Ev_remY (h : 0 < b) : Ev P L (.binOp .rem t xo yo t') ty w (Y (a % b)) w := by
  subst ex; subst ey
  have := Ev_rem (P := P) (t := t) (t' := t') (ty := ty) (w := w) hx hy (by omega)
  rwa [Int.tmod_eq_emod_of_nonneg (by omega), ← Int.natCast_emod] at this
end u8

theorem Ev_shrU {k : IntKind} {x y : Int} (a c : Nat) (hx : opd L xo = some (.int .u64 x)) (hy : opd L yo = some (.int k y)) (ex : x = (a : Int)) (ey : y = (c : Int)) (hc : c ≤ 64) : Ev P L (.binOp .shr t xo yo t') ty w (U (a / 2 ^ c)) w := by
  subst ex; subst ey
  have h := Ev_bin (P := P) (t := t) (t' := t') (ty := ty) (w := w) (op := .shr) (r := U (a / 2 ^ c)) hx hy (eqGuard_shr ..) (by
    rw [binOp_shr, shift_shr _ _ _ _ (by omega) (by simp [IntKind.bits]; omega), Sem.run_pure]
    rw [Int.toNat_natCast, U, Int.natCast_ediv, Int.natCast_pow]; rfl)
  exact h
theorem Ev_shlU {k : IntKind} {x y : Int} (a c : Nat) (hx : opd L xo = some (.int .u64 x)) (hy : opd L yo = some (.int k y)) (ex : x = (a : Int)) (ey : y = (c : Int)) (hc : c ≤ 64) : Ev P L (.binOp .shl t xo yo t') ty w (U (a * 2 ^ c % 18446744073709551616)) w := by
  subst ex; subst ey
  have h := Ev_bin (P := P) (t := t) (t' := t') (ty := ty) (w := w) (op := .shl) (r := U (a * 2 ^ c % 18446744073709551616)) hx hy (eqGuard_shl ..) (by
    rw [binOp_shl, shift_shl _ _ _ _ (by omega) (by simp [IntKind.bits]; omega), Sem.run_pure]
    rw [Int.toNat_natCast, U, IntKind.wrap_u64, Int.natCast_emod, Int.natCast_mul, Int.natCast_pow]; rfl)
  exact h
theorem Ev_shlY {k : IntKind} {x y : Int} (a c : Nat) (hx : opd L xo = some (.int .u8 x)) (hy : opd L yo = some (.int k y)) (ex : x = (a : Int)) (ey : y = (c : Int)) (hc : c ≤ 8) : Ev P L (.binOp .shl t xo yo t') ty w (Y (a * 2 ^ c % 256)) w := by
  subst ex; subst ey
  have h := Ev_bin (P := P) (t := t) (t' := t') (ty := ty) (w := w) (op := .shl) (r := Y (a * 2 ^ c % 256)) hx hy (eqGuard_shl ..) (by
    rw [binOp_shl, shift_shl _ _ _ _ (by omega) (by simp [IntKind.bits]; omega), Sem.run_pure]
    rw [Int.toNat_natCast, Y, Int.natCast_emod, Int.natCast_mul, Int.natCast_pow]
    simp [IntKind.wrap, IntKind.signed, IntKind.bits])
  exact h

theorem inU {x : Int} (h1 : 0 ≤ x) (h2 : x ≤ 18446744073709551615) : inK .u64 x := by
  simp [inK, IntKind.min, IntKind.max, IntKind.signed, IntKind.bits]; omega
theorem inY {x : Int} (h1 : 0 ≤ x) (h2 : x ≤ 255) : inK .u8 x := by
  simp [inK, IntKind.min, IntKind.max, IntKind.signed, IntKind.bits]; omega
/-- a number becomes a byte -/
theorem Ev_conv_byte (hT : T.Ok P) {j : IntKind} {x : Int} (a : Nat) {s d : TypeId} (hs : asc T.int s = some j) (hd : asc T.int d = some .u8) (hx : opd L xo = some (.int j x)) (ex : x = (a : Int)) : Ev P L (.convert s d xo) ty w (Y (a % 256)) w := by
  subst ex
  have h := Ev_conv_int (w := w) (ty := ty) hT hs hd hx
  rwa [show IntKind.u8.wrap (a : Int) = ((a % 256 : Nat) : Int) by simp [IntKind.wrap, IntKind.signed, IntKind.bits]] at h
/-- a number that is not negative becomes one of 64 bits -/
theorem Ev_convU (hT : T.Ok P) {j : IntKind} {x : Int} (a : Nat) {s d : TypeId} (hs : asc T.int s = some j) (hd : asc T.int d = some .u64) (hx : opd L xo = some (.int j x)) (ex : x = (a : Int)) (ha : a < 18446744073709551616) : Ev P L (.convert s d xo) ty w (U a) w := by
  subst ex
  exact Ev_conv_in hT hs hd hx (inU (by omega) (by omega))
theorem Ev_convI (hT : T.Ok P) {j : IntKind} {x : Int} (a : Nat) {s d : TypeId} (hs : asc T.int s = some j) (hd : asc T.int d = some .i64) (hx : opd L xo = some (.int j x)) (ex : x = (a : Int)) (ha : a ≤ 9223372036854775807) : Ev P L (.convert s d xo) ty w (I a) w := by
  subst ex
  exact Ev_conv_in hT hs hd hx (inI (by omega) (by omega))

/-- a slice of an array that lies in memory -/
theorem Ev_sliceArr (hT : T.Ok P) {m e z b off : Nat} {lo hi : Option Operand} {i j : Int} (ht : asc T.arr t = some (m, e, z)) (hx : opd L xo = some (.pointer (some ⟨b, off, none⟩))) (hlo : bnd L lo 0 = some i) (hhi : bnd L hi m = some j)
    (h0 : 0 ≤ i) (h1 : i ≤ j) (h2 : j ≤ m) (h3 : i < m) : Ev P L (.slice t xo lo hi none) ty w (.slice (some ⟨b, off + i.toNat * z, none⟩) (j.toNat - i.toNat) (m - i.toNat)) w := by
  refine ⟨fun n c ha _ _ _ _ => ?_⟩
  obtain ⟨hu, d, hd, hz⟩ := ok_arr hT ht
  have hs := sliceBounds_spec (P := P) false hlo hhi ha h0 h1 h2 w
  have e : (Addr.add ⟨b, off, none⟩ (i.toNat * z)) = ⟨b, off + i.toNat * z, none⟩ := by
    simp only [Addr.add]; split
    · rename_i h; rw [h]; rfl
    · rfl
  have hne : ¬ m = i.toNat := by omega
  simp only [execOp, ha.eval hx, Sem.run_bind, Instr.sliceAt, Instr.sureAddr, run_underlying' hu, Result.andThen_ok, Option.map_none, hs, run_sizeOf' hd, hz, Sem.run_pure, if_neg hne, e]

/-! ## Ranges over strings -/

theorem WL_range {d : Nat} {s : List UInt8} (hT : T.Ok P) (ht : mem1 T.str t = true) (hx : opd L xo = some (S s)) (hg : wantB ops g L = some true) (hn : Nat.blt d n = true) (hSt : St w0 Sx H w)
    (k : ∀ w' b, w0.heap.size ≤ b → St w0 Sx (H ++ [(b, .stringIter ⟨⟨s⟩⟩ 0)]) w' → WL P n ops Q rest ((d, .pointer (some ⟨b, 0, none⟩)) :: L) w') : WL P n ops Q (⟨some d, .range t xo, ty, pos, af, g⟩ :: rest) L w := by
  refine WL_ev hg hn (v := .pointer (some ⟨w.heap.size, 0, none⟩)) (w' := w.alloc (.stringIter ⟨⟨s⟩⟩ 0)) ⟨fun n c ha _ _ _ _ => ?_⟩ (k _ _ hSt.size (hSt.alloc _))
  simp only [execOp, ha.eval hx, Sem.run_bind, run_range_string w t ⟨⟨s⟩⟩ (ok_str hT ht), World.iter, Result.andThen_ok, Sem.run_pure]

theorem heap_setAt {w : World} {r : Nat} {o o' : Obj} (hb : w.heap[r]? = some o) : (w.heap.setIfInBounds r o')[r]? = some o' ∧ ∀ j, j ≠ r → (w.heap.setIfInBounds r o')[j]? = w.heap[j]? := by
  have hlt := (Array.getElem?_eq_some_iff.1 hb).1
  refine ⟨by simp [Array.getElem?_setIfInBounds, hlt], fun j hj => ?_⟩
  rw [Array.getElem?_setIfInBounds, if_neg (fun e => hj e.symm)]

theorem WL_next {d r p : Nat} {s : List UInt8} (i : Nat) (hx : opd L xo = some (.pointer (some ⟨r, 0, none⟩))) (hg : wantB ops g L = some true) (hn : Nat.blt d n = true) (hSt : St w0 Sx H w) (hi : H[i]? = some (r, .stringIter ⟨⟨s⟩⟩ p)) (hp : p < s.length)
    (k : ∀ w' (c m : Nat), Utf8.decode ⟨⟨s⟩⟩ p = (c, m) → St w0 Sx (H.set i (r, .stringIter ⟨⟨s⟩⟩ (p + m))) w' → WL P n ops Q rest ((d, .tuple ⟨[B true, I p, .int .i32 (c : Nat)]⟩) :: L) w') : WL P n ops Q (⟨some d, .next xo true, ty, pos, af, g⟩ :: rest) L w := by
  have hb := (hSt.own i r _ hi).1
  obtain ⟨c, m, hcm⟩ : ∃ c m, Utf8.decode ⟨⟨s⟩⟩ p = (c, m) := ⟨_, _, rfl⟩
  have hs := heap_setAt (o' := Obj.stringIter ⟨⟨s⟩⟩ (p + m)) hb
  refine WL_ev hg hn (v := .tuple ⟨[B true, I p, .int .i32 (c : Nat)]⟩) (w' := { w with heap := w.heap.setIfInBounds r (.stringIter ⟨⟨s⟩⟩ (p + m)) }) ⟨fun n a ha _ _ _ _ => ?_⟩
    (k _ c m hcm (St.turn (w' := { w with heap := w.heap.setIfInBounds r (.stringIter ⟨⟨s⟩⟩ (p + m)) }) hSt hi rfl rfl rfl (by simp) (fun j _ hj => hs.2 j hj) hs.1 (Or.inl rfl)))
  have hp' : p < (ByteArray.mk ⟨s⟩).size := hp
  simp [execOp, ha.eval hx, Instr.next, getObj, setObj, Sem.run, hb, hp', hcm, goInt]

theorem WL_nextEnd {d r p : Nat} {s : List UInt8} (hx : opd L xo = some (.pointer (some ⟨r, 0, none⟩))) (hg : wantB ops g L = some true) (hn : Nat.blt d n = true) (hb : w.heap[r]? = some (.stringIter ⟨⟨s⟩⟩ p)) (hp : ¬ p < s.length)
    (k : WL P n ops Q rest ((d, .tuple ⟨[B false]⟩) :: L) w) : WL P n ops Q (⟨some d, .next xo true, ty, pos, af, g⟩ :: rest) L w := by
  refine WL_ev hg hn (v := .tuple ⟨[B false]⟩) (w' := w) ⟨fun n a ha _ _ _ _ => ?_⟩ k
  have hp' : ¬ p < (ByteArray.mk ⟨s⟩).size := hp
  simp [execOp, ha.eval hx, Instr.next, getObj, Sem.run, hb, hp']

theorem decode_some (s : List UInt8) (p : Nat) (hp : p < s.length) {c m : Nat} (h : Utf8.decode ⟨⟨s⟩⟩ p = (c, m)) : 1 ≤ m ∧ p + m ≤ s.length := by
  unfold Utf8.decode at h
  have e : (ByteArray.mk ⟨s⟩).size = s.length := rfl
  simp only [e] at h
  repeat' split at h
  all_goals (injection h with h1 h2; subst h2)
  all_goals simp_all
  all_goals omega
theorem decode_low (s : List UInt8) (p : Nat) {b : UInt8} (hp : s[p]? = some b) (hb : b.toNat < 128) : Utf8.decode ⟨⟨s⟩⟩ p = (b.toNat, 1) := by
  obtain ⟨h1, h2⟩ := List.getElem?_eq_some_iff.1 hp
  have hs : p < (ByteArray.mk ⟨s⟩).size := h1
  have e : ((ByteArray.mk ⟨s⟩)[p]'hs) = b := by simp [ByteArray.getElem_eq_getElem_data, h2]
  have := decode_ascii ⟨⟨s⟩⟩ p hs (by rw [e]; exact hb)
  rw [this, e]
end
end Go.Proofs.YtmlbgdhkacajaaaDoor
