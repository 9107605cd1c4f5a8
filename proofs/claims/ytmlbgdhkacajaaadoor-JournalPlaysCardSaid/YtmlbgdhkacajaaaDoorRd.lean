/- What the readings of arguments tell: numbers in their kind's range, strings, structs and slices by their cells. No conditions. -/
import Derived.Test.YtmlbgdhkacajaaaDoorSl
import Derived.ProofKit
import Derived.OpenShut
import Derived.ShutString
import Derived.Deep.Slices
import Derived.Deep.Fields
namespace Go.Proofs.YtmlbgdhkacajaaaDoor
open Go.RowKit Go.ChangeShapes Go.WideShapes Go.Deep
set_option linter.unusedVariables false
set_option linter.unusedSimpArgs false
set_option linter.unusedSectionVars false

theorem wf_range {k : IntKind} {n : Int} (h : (Lit.int k n).wf = true) : k.min ≤ n ∧ n ≤ k.max := by
  simpa [Lit.wf] using h
theorem range_wf {k : IntKind} {n : Int} (h : k.min ≤ n ∧ n ≤ k.max) : (Lit.int k n).wf = true := by
  simpa [Lit.wf] using h
theorem rg_i64 {n : Int} (h : IntKind.i64.min ≤ n ∧ n ≤ IntKind.i64.max) : -9223372036854775808 ≤ n ∧ n ≤ 9223372036854775807 := by
  simpa [IntKind.min, IntKind.max, IntKind.signed, IntKind.bits] using h
theorem rg_u16 {n : Int} (h : IntKind.u16.min ≤ n ∧ n ≤ IntKind.u16.max) : 0 ≤ n ∧ n ≤ 65535 := by
  simpa [IntKind.min, IntKind.max, IntKind.signed, IntKind.bits] using h
theorem rg_i16 {n : Int} (h : IntKind.i16.min ≤ n ∧ n ≤ IntKind.i16.max) : -32768 ≤ n ∧ n ≤ 32767 := by
  simpa [IntKind.min, IntKind.max, IntKind.signed, IntKind.bits] using h
theorem rg_u8 {n : Int} (h : IntKind.u8.min ≤ n ∧ n ≤ IntKind.u8.max) : 0 ≤ n ∧ n ≤ 255 := by
  simpa [IntKind.min, IntKind.max, IntKind.signed, IntKind.bits] using h
theorem rg_i8 {n : Int} (h : IntKind.i8.min ≤ n ∧ n ≤ IntKind.i8.max) : -128 ≤ n ∧ n ≤ 127 := by
  simpa [IntKind.min, IntKind.max, IntKind.signed, IntKind.bits] using h
theorem rg_i32 {n : Int} (h : IntKind.i32.min ≤ n ∧ n ≤ IntKind.i32.max) : -2147483648 ≤ n ∧ n ≤ 2147483647 := by
  simpa [IntKind.min, IntKind.max, IntKind.signed, IntKind.bits] using h
theorem rg_u32 {n : Int} (h : IntKind.u32.min ≤ n ∧ n ≤ IntKind.u32.max) : 0 ≤ n ∧ n ≤ 4294967295 := by
  simpa [IntKind.min, IntKind.max, IntKind.signed, IntKind.bits] using h
theorem rg_u64 {n : Int} (h : IntKind.u64.min ≤ n ∧ n ≤ IntKind.u64.max) : 0 ≤ n ∧ n ≤ 18446744073709551615 := by
  simpa [IntKind.min, IntKind.max, IntKind.signed, IntKind.bits] using h

/-- whatever is read at the type, of k cells, holds something of α as told by c -/
def Rd {α : Type} (P : Program) (t : TypeId) (c : World → List Value → α → Prop) : Prop :=
  ∀ (H : Type) (enc : TypeId × Value → H) (w : World) (base : Nat) (spare : Nat → Bool) (held : Bool) (fuel : Nat) (cs : List Value) (x : DataW H × List MemPlace),
    DataW.trod enc P w base spare held fuel t cs = some x → ∃ a : α, c w cs a

theorem rd_int {P : Program} {t : TypeId} {k : IntKind} (ht : P.underlying t = some (.int k)) : Rd P t (fun _ cs (n : Int) => cs = [.int k n] ∧ k.min ≤ n ∧ n ≤ k.max) := by
  intro H enc w base spare held fuel cs x h
  obtain ⟨n, h1, _, h2⟩ := DataW.trod_int ht h
  exact ⟨n, h1, wf_range h2⟩
theorem rd_string {P : Program} {t : TypeId} (ht : P.underlying t = some .string) : Rd P t (fun _ cs (l : List UInt8) => cs = [S l] ∧ l.length ≤ maxLen) := by
  intro H enc w base spare held fuel cs x h
  obtain ⟨⟨⟨l⟩⟩, h1, _, h2⟩ := DataW.trod_string ht h
  exact ⟨l, h1, h2⟩
theorem rd_bool {P : Program} {t : TypeId} (ht : P.underlying t = some .bool) : Rd P t (fun _ cs (b : Bool) => cs = [B b]) := by
  intro H enc w base spare held fuel cs x h
  obtain ⟨b, h1, _⟩ := DataW.trod_bool ht h
  exact ⟨b, h1⟩
/-- the fields of a struct, one after the other -/
theorem rd_fields {P : Program} {t : TypeId} {fs : Array Field} (ht : P.underlying t = some (.struct fs)) {H : Type} {enc : TypeId × Value → H} {w : World} {base : Nat} {spare : Nat → Bool} {held : Bool} {fuel : Nat} {cs : List Value} {x : DataW H × List MemPlace}
    (h : DataW.trod enc P w base spare held fuel t cs = some x) : cs.length = P.cellsOf t ∧ ∀ (i : Nat) (f : Field), fs[i]? = some f → ∃ (n : Nat) (y : DataW H × List MemPlace), DataW.trod enc P w base spare held n f.type ((cs.drop f.offset).take (P.cellsOf f.type)) = some y := by
  obtain ⟨xs, n, _, _, hl, hxl, hg⟩ := DataW.trod_struct ht h
  refine ⟨hl, fun i f hf => ?_⟩
  have hi : i < xs.length := by rw [hxl]; exact (Array.getElem?_eq_some_iff.1 hf).1
  exact ⟨n, xs[i], by rw [hg i f hf]; exact List.getElem?_eq_getElem hi⟩

theorem rd_field1 {α : Type} {P : Program} {t : TypeId} {fs : Array Field} {c : World → List Value → α → Prop} (ht : P.underlying t = some (.struct fs)) (hone : oneCellFields P fs = true) {H : Type} {enc : TypeId × Value → H} {w : World} {base : Nat} {spare : Nat → Bool} {held : Bool} {fuel : Nat} {cs : List Value} {x : DataW H × List MemPlace}
    (h : DataW.trod enc P w base spare held fuel t cs = some x) (i : Nat) {f : Field} (hf : fs[i]? = some f) (hc : Rd P f.type c) {v : Value} (hv : cs[i]? = some v) : ∃ a : α, c w [v] a := by
  obtain ⟨_, hall⟩ := rd_fields ht h
  obtain ⟨n, y, hy⟩ := hall i f hf
  obtain ⟨ho, hk⟩ := hone_of hone i f hf
  have e : (cs.drop f.offset).take (P.cellsOf f.type) = [v] := by
    rw [ho, hk]
    apply List.ext_getElem?
    intro j
    rw [List.getElem?_take]
    split
    · rename_i hj
      have : j = 0 := by omega
      subst this
      rw [List.getElem?_drop]; simpa using hv
    · rw [List.getElem?_eq_none]; simp; omega
  rw [e] at hy
  exact hc _ _ _ _ _ _ _ _ _ hy

/-- a slice: its elements' cells, and what they hold -/
def Sls {α : Type} (z : Nat) (c : World → List Value → α → Prop) (w : World) (v : Value) (l : List α) : Prop :=
  ∃ xs, SlAt w v z xs ∧ xs.length = l.length ∧ ∀ (i : Nat) (x : List Value) (a : α), xs[i]? = some x → l[i]? = some a → c w x a

theorem rd_slice {α : Type} {P : Program} {t e : TypeId} {c : World → List Value → α → Prop} {z : Nat} (ht : P.underlying t = some (.slice e)) (hz : P.cellsOf e = z) (h0 : 0 < z) (hc : Rd P e c) :
    Rd P t (fun w cs (l : List α) => ∃ v, cs = [v] ∧ Sls z c w v l ∧ l.length ≤ maxLen) := by
  intro H enc w base spare held fuel cs x h
  rcases open_slice ht h with ⟨hcs, _⟩ | ⟨a, len, cap, m, n, D, Pl, hcs, _, hl, hm, hmm, _, hi⟩
  · exact ⟨[], _, hcs, ⟨[], SlAt.nil w z, rfl, fun i x a hx => by simp at hx⟩, by simp⟩
  · rw [hz] at hi
    have hlm : len ≤ m := by rw [hmm]; split <;> omega
    obtain ⟨ps, hpl, hps⟩ := list_of (p := fun i (q : List Value × α) => q.1.length = z ∧ (∀ j d, q.1[j]? = some d → w.cell? (a.add (i * z + j)) = some d) ∧ c w q.1 q.2) len (fun i hlt => by
      obtain ⟨cs', hc1, hc2⟩ := hi i (by omega)
      obtain ⟨_, hcl, hat⟩ := World.cells?_some hc1
      obtain ⟨b, hb⟩ := hc _ _ _ _ _ _ _ _ _ hc2
      refine ⟨(cs', b), hcl, fun j d hj => ?_, hb⟩
      have hjl : j < cs'.length := (List.getElem?_eq_some_iff.1 hj).1
      rw [← Go.Deep.add_add, hat j (by omega)]; exact hj)
    refine ⟨ps.map (·.2), _, hcs, ⟨ps.map (·.1), slAt_of h0 (by simp [hpl]) ?_, by simp, ?_⟩, by simp; omega⟩
    · intro i x hx
      rw [List.getElem?_map] at hx
      cases hq : ps[i]? with
      | none => simp [hq] at hx
      | some q => simp [hq] at hx; subst hx; exact ⟨(hps i q hq).1, (hps i q hq).2.1⟩
    · intro i x b hx hb
      rw [List.getElem?_map] at hx hb
      cases hq : ps[i]? with
      | none => simp [hq] at hx
      | some q => simp [hq] at hx hb; subst hx; subst hb; exact (hps i q hq).2.2

/-- by value -/
theorem Rd.of_trod {α : Type} {P : Program} {t : TypeId} {c : World → List Value → α → Prop} (h : Rd P t c) {H : Type} {enc : TypeId × Value → H} {w : World} {base : Nat} {spare : Nat → Bool} {held : Bool} {v : Value} {d : DataW H} {p : List MemPlace}
    (ht : DataW.Trod enc P w base spare held t v d p) : ∃ a : α, c w (zcells v) a := by
  obtain ⟨fuel, hf⟩ := ht
  rw [zcells_cells] at hf
  exact h _ _ _ _ _ _ _ _ _ hf
/-- a slice of structs told by their cells -/
theorem Sls.at {α : Type} {z : Nat} {c : World → List Value → α → Prop} {f : α → List Value} {w : World} {v : Value} {l : List α} (h : Sls z c w v l) (hf : ∀ x a, c w x a → x = f a) : SlAt w v z (l.map f) := by
  obtain ⟨xs, h1, h2, h3⟩ := h
  have e : xs = l.map f := by
    apply List.ext_getElem?
    intro i
    rw [List.getElem?_map]
    cases hx : xs[i]? with
    | none => rw [List.getElem?_eq_none_iff] at hx; rw [List.getElem?_eq_none (by omega)]; rfl
    | some x =>
      have hi := (List.getElem?_eq_some_iff.1 hx).1
      rw [List.getElem?_eq_getElem (by omega : i < l.length)]
      simp only [Option.map_some]
      rw [hf x _ (h3 i x _ hx (List.getElem?_eq_getElem (by omega)))]
  rw [← e]; exact h1
theorem Sls.each {α : Type} {z : Nat} {c : World → List Value → α → Prop} {w : World} {v : Value} {l : List α} (h : Sls z c w v l) {i : Nat} {a : α} (hi : l[i]? = some a) : ∃ x, c w x a := by
  obtain ⟨xs, _, h2, h3⟩ := h
  have hl := (List.getElem?_eq_some_iff.1 hi).1
  exact ⟨_, h3 i _ a (List.getElem?_eq_getElem (by omega)) hi⟩
end Go.Proofs.YtmlbgdhkacajaaaDoor
