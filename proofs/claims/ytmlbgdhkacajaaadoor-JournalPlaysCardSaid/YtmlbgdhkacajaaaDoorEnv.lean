/- Rows of bytes and other elements that came in, appended or laid new; a string's byte; an array's element; bytes turned to a string. No conditions. -/
import Derived.Test.YtmlbgdhkacajaaaDoorEnt
import Derived.Laws.MakeOwn
import Derived.Deep.Upon
import Derived.Laws.IdiomStrings
namespace Go.Proofs.YtmlbgdhkacajaaaDoor
open Go.RowKit
set_option linter.unusedVariables false
set_option linter.unusedSimpArgs false

theorem SlAt.row {w : World} {v : Value} {z : Nat} {xs : List (List Value)} (h : SlAt w v z xs) (h0 : 0 < xs.length) :
    ∃ b o l E fz cap, v = .slice (some ⟨b, o, none⟩) xs.length cap ∧ w.heap[b]? = some (.cells ⟨l⟩ E fz) ∧ (l.drop o).take (xs.length * z) = xs.flatten ∧ xs.flatten.length = xs.length * z := by
  obtain ⟨a, cap, rfl, hc⟩ := h
  obtain ⟨b, o, l, E, fz, rfl, hb, _, _⟩ := hc 0 _ (List.getElem?_eq_getElem h0)
  have all : ∀ i x, xs[i]? = some x → (l.drop (o + i * z)).take z = x ∧ x.length = z := fun i x hi => by
    obtain ⟨b', o', l', E', fz', e, hb', h1, h2⟩ := hc i x hi
    injection e with e
    injection e with e1 e2 _
    subst e1; subst e2
    rw [hb] at hb'
    injection hb' with e3
    injection e3 with e3
    injection e3 with e3
    subst e3
    exact ⟨h1, h2⟩
  have key : ∀ k, k ≤ xs.length → (l.drop o).take (k * z) = (xs.take k).flatten ∧ (xs.take k).flatten.length = k * z := by
    intro k
    induction k with
    | zero => intro _; simp
    | succ k ih =>
      intro hk
      obtain ⟨ih1, ih2⟩ := ih (by omega)
      have hx : xs[k]? = some xs[k] := List.getElem?_eq_getElem (by omega)
      obtain ⟨h1, h2⟩ := all k _ hx
      have ht : xs.take (k + 1) = xs.take k ++ [xs[k]] := by rw [List.take_add_one, hx]; rfl
      rw [ht, Nat.add_mul, Nat.one_mul, List.take_add, ih1, List.drop_drop, h1, List.flatten_append, List.length_append, ih2]
      simp [h2]
  have := key xs.length (Nat.le_refl _)
  rw [List.take_length] at this
  exact ⟨b, o, l, E, fz, cap, rfl, hb, this.1, this.2⟩

section
variable {T : Tys} {P : Program} {n : Nat} {ops : Array Oper} {Q : Exit → Act → World → Prop} {L L' : Fr} {w w' w0 : World} {rest : List Oper} {ty t t' : TypeId} {xo yo zo : Operand}
  {Sx : Nat → Prop} {H H0 H1 H2 : List (Nat × Obj)} {pos : String} {af : Array Edge} {g : Option (Nat × Bool)}

theorem Ev_append0 {e : TypeId} {z y len cap c : Nat} {a a2 : Option Addr} (hT : T.Ok P) (ht : asc T.sl t = some (e, z, y)) (hx : opd L xo = some (.slice a len cap)) (hy : opd L yo = some (.slice a2 0 c)) (hle : len ≤ cap) :
    Ev P L (.call ⟨.builtin .append, #[xo, yo], #[t, t]⟩) ty w (.slice a len cap) w := by
  obtain ⟨hu, i, hi, hiz, hiy⟩ := ok_sl hT ht
  refine Ev_append hx hy (run_append_nothing w t t ty e i hu hi a len cap hle _ ?_)
  cases a2 with
  | none => exact Go.Src.ofNil w hu c
  | some a2 => exact Go.Src.ofSlice w hu a2 0 c [] (by simp) (fun j u h => by simp at h) (fun u h => by cases h)

theorem OwnSl.cap {v : Value} {e : TypeId} {z k : Nat} {xs : List Value} (h : OwnSl v e z xs k H1) : ∃ a cap, v = .slice a k cap ∧ k ≤ cap := by
  rcases h.2 with ⟨rfl, rfl, _⟩ | ⟨b, cap, rs, rfl, hle, _⟩
  · exact ⟨_, _, rfl, Nat.le_refl _⟩
  · exact ⟨_, _, rfl, hle⟩

/-- append(x, y...): x a slice of one's own, y one that came in -/
theorem WL_appendS {d k : Nat} {e : TypeId} {z y : Nat} {xs : List Value} {xss : List (List Value)} {zv v v2 : Value} (hT : T.Ok P) (ht : asc T.sl t = some (e, z, y)) (hz : asc T.zero e = some zv) (hzl : (zcells zv).length = z)
    (hg : wantB ops g L = some true) (hn : Nat.blt d n = true) (hx : opd L xo = some v) (hy : opd L yo = some v2) (hSt : St w0 Sx (H0 ++ H1 ++ H2) w) (ho : OwnSl v e z xs k H1)
    (hs : SlAt w v2 z xss) (h1 : xss.flatten.all oneV = true) (hmax : k + xss.length ≤ 140737488355328) (hby : (k + xss.length) * y ≤ 140737488355328)
    (K : ∀ v' w' H1', OwnSl v' e z (xs ++ xss.flatten) (k + xss.length) H1' → St w0 Sx (H0 ++ H1') w' → WL P n ops Q rest ((d, v') :: L) w') : WL P n ops Q (⟨some d, .call ⟨.builtin .append, #[xo, yo], #[t, t]⟩, ty, pos, af, g⟩ :: rest) L w := by
  rcases Nat.eq_zero_or_pos xss.length with h0 | h0
  · obtain ⟨a2, c, hv2, _⟩ := hs
    rw [h0] at hv2
    subst hv2
    obtain ⟨a, cap, rfl, hle⟩ := ho.cap
    refine WL_ev hg hn (Ev_append0 hT ht hx hy hle) (K _ _ H1 ?_ hSt.left)
    have : xss = [] := List.eq_nil_of_length_eq_zero h0
    subst this
    simpa using ho
  · obtain ⟨b, o, l, E, fz, cap, rfl, hb, hr, hl⟩ := hs.row h0
    exact WL_append hT ht hz hzl hg hn hx hy hSt ho hb hr hl h1 h0 hmax hby K

/-- make([]T, n): elements of one cell -/
theorem WL_makeSlice1 {d : Nat} {e : TypeId} {y : Nat} {zv : Value} {l : Int} (hT : T.Ok P) (ht : asc T.sl t = some (e, 1, y)) (hz : asc T.zero e = some zv) (hzl : zcells zv = [zv]) (hg : wantB ops g L = some true) (hn : Nat.blt d n = true)
    (hx : opd L xo = some (I l)) (hy : opd L yo = some (I l)) (h0 : 0 ≤ l) (hm : l ≤ 16777216) (hb : (y : Int) * l ≤ 281474976710656) (hSt : St w0 Sx H w)
    (k : ∀ w' b, w0.heap.size ≤ b → St w0 Sx (H ++ [(b, blk (List.replicate l.toNat zv) e)]) w' → WL P n ops Q rest ((d, .slice (some ⟨b, 0, none⟩) l.toNat l.toNat) :: L) w') :
    WL P n ops Q (⟨some d, .makeSlice t xo yo, ty, pos, af, g⟩ :: rest) L w := by
  obtain ⟨hu, i, hi, hiz, hiy⟩ := ok_sl hT ht
  obtain ⟨i', hi', hzz⟩ := ok_zero hT hz
  have hii : i' = i := Option.some.inj (hi'.symm.trans hi)
  subst hii
  have hr := run_makeSlice (P := P) w.drew t e i' zv hu hi' hzz .i64 .i64 l l h0 (Int.le_refl _) (by rw [hiz]; omega) (by rw [hiy]; exact hb) (by omega)
  have hr2 := run_makeSlice (P := P) w t e i' zv hu hi' hzz .i64 .i64 l l h0 (Int.le_refl _) (by rw [hiz]; omega) (by rw [hiy]; exact hb) (by omega)
  have hev : Ev P L (.makeSlice t xo yo) ty w (.slice (some ⟨w.heap.size, 0, none⟩) l.toNat l.toNat) (w.alloc (.cells (madeCells zv.cells (l.toNat * i'.size)) e)) := by
    refine ⟨fun n c ha _ _ _ _ => ?_⟩
    simp only [execOp, ha.eval hx, ha.eval hy, Sem.run_bind, hr2, Result.andThen_ok, Sem.run_pure]
  refine WL_ev hg hn hev (k _ _ hSt.size ?_)
  have e1 : (Obj.cells (madeCells zv.cells (l.toNat * i'.size)) e) = blk (List.replicate l.toNat zv) e := by
    congr 1
    rw [hiz, Nat.mul_one, zcells_cells, hzl]
    apply Array.ext'
    simp only [madeCells, Array.toList_map, Array.toList_range]
    apply List.ext_getElem?
    intro j
    rw [List.getElem?_map, List.getElem?_replicate]
    by_cases hj : j < l.toNat
    · rw [List.getElem?_range hj, if_pos hj]; simp [Nat.mod_one]
    · rw [List.getElem?_eq_none (by simpa using hj), if_neg hj]; rfl
  rw [← e1]
  exact hSt.alloc _

/-- a string's byte -/
theorem Ev_strIndex {i : Int} {k : IntKind} {s : List UInt8} {b : UInt8} (hT : T.Ok P) (ht : mem1 T.str t = true) (hx : opd L xo = some (S s)) (hy : opd L yo = some (.int k i)) (h0 : 0 ≤ i) (hb : s[i.toNat]? = some b) : Ev P L (.index t xo yo) ty w (.int .u8 b.toNat) w := by
  refine ⟨fun n c ha _ _ _ _ => ?_⟩
  have hb' : (ByteArray.mk ⟨s⟩)[i.toNat]? = some b := by
    obtain ⟨h1, h2⟩ := List.getElem?_eq_some_iff.1 hb
    have hsz : i.toNat < (ByteArray.mk ⟨s⟩).size := h1
    rw [getElem?_pos (ByteArray.mk ⟨s⟩) i.toNat hsz, ← h2]
    rfl
  have hbb : (if 0 ≤ i then (ByteArray.mk ⟨s⟩)[i.toNat]? else none) = some b := by rw [if_pos h0, hb']
  simp only [execOp, ha.eval hx, ha.eval hy, Instr.index, asIntOf, Sem.run_bind, Sem.run_pure, Result.andThen_ok, run_underlying' (ok_str hT ht), hbb]

/-- an element of an array that is a value -/
theorem Ev_arrIndex {i : Int} {k : IntKind} {cs vs : List Value} {m e z : Nat} (hT : T.Ok P) (ht : asc T.arr t = some (m, e, z)) (he : asc T.agg e = some z) (hx : opd L xo = some (.agg ⟨cs⟩)) (hy : opd L yo = some (.int k i)) (h0 : 0 ≤ i) (h1 : i < m)
    (hv : (cs.drop (i.toNat * z)).take z = vs) : Ev P L (.index t xo yo) ty w (.agg ⟨vs⟩) w := by
  obtain ⟨hu, j, hj, hjz⟩ := ok_arr hT ht
  refine ⟨fun n c ha _ _ _ _ => ?_⟩
  have e1 : ((⟨cs⟩ : Array Value).extract (i.toNat * z) (i.toNat * z + z)) = ⟨vs⟩ := by
    rw [← hv]
    apply Array.ext'
    simp [List.extract_eq_take_drop]
  simp only [execOp, ha.eval hx, ha.eval hy, Instr.index, asIntOf, Sem.run_bind, Sem.run_pure, Result.andThen_ok, run_underlying' hu]
  rw [if_pos ⟨h0, h1⟩]
  simp only [part, Sem.run_bind, run_sizeOf' hj, hjz, Result.andThen_ok, run_isAgg_yes hT he, if_true, Sem.run_pure, e1]

/-- string(bytes), of a row -/
theorem Ev_bytesStr {b off cap : Nat} {l : List Value} {s : List UInt8} {E e z y : Nat} {fz : Nat × Nat} {sd : TypeId} (hT : T.Ok P) (ht : asc T.sl t = some (e, z, y)) (he : asc T.int e = some .u8) (hd : mem1 T.str sd = true)
    (hx : opd L xo = some (.slice (some ⟨b, off, none⟩) s.length cap)) (hb : w.heap[b]? = some (.cells ⟨l⟩ E fz)) (hl : (l.drop off).take s.length = s.map (fun c => Value.int .u8 c.toNat)) : Ev P L (.convert t sd xo) ty w (S s) w := by
  obtain ⟨hu, i, hi, hiz, hiy⟩ := ok_sl hT ht
  refine ⟨fun n c ha _ _ _ _ => ?_⟩
  have hc : ∀ j (hj : j < s.length), w.cell? ((⟨b, off, none⟩ : Addr).add j) = some (.int .u8 (s[j].toNat : Int)) := fun j hj => by
    refine cells_at (m := s.length) (E := E) (fz := fz) hb hl j _ ?_
    rw [List.getElem?_map, List.getElem?_eq_getElem hj]; rfl
  have := run_convert_bytes_back (P := P) w t sd e ⟨b, off, none⟩ cap s hu (ok_int hT he) (ok_str hT hd) hc
  simp only [execOp, ha.eval hx, Sem.run_bind, this, Result.andThen_ok, Sem.run_pure]
/-- []T{}: a row of no cells -/
theorem WL_buildSlice0 {d e z y : Nat} (hT : T.Ok P) (ht : asc T.sl t = some (e, z, y)) (hg : wantB ops g L = some true) (hn : Nat.blt d n = true) (hSt : St w0 Sx H w)
    (k : ∀ w' b, w0.heap.size ≤ b → St w0 Sx (H ++ [(b, blk [] e)]) w' → WL P n ops Q rest ((d, .slice (some ⟨b, 0, none⟩) 0 0) :: L) w') : WL P n ops Q (⟨some d, .buildSlice t 0 #[], ty, pos, af, g⟩ :: rest) L w := by
  obtain ⟨hu, i, hi, hiz, hiy⟩ := ok_sl hT ht
  have hev : Ev P L (.buildSlice t 0 #[]) ty w (.slice (some ⟨w.heap.size, 0, none⟩) 0 0) (w.alloc (blk [] e)) := by
    refine ⟨fun n c ha _ _ _ _ => ?_⟩
    simp [execOp, Instr.buildSlice, run_underlying' hu, run_sizeOf' hi, Instr.fill, newRow, Array.range_zero', blk]
  exact WL_ev hg hn hev (k _ _ hSt.size (hSt.alloc _))
theorem OwnSl.zero (b : Nat) (e : TypeId) (z : Nat) : OwnSl (.slice (some ⟨b, 0, none⟩) 0 0) e z [] 0 [(b, blk [] e)] := ⟨by simp, .inr ⟨b, 0, [], rfl, Nat.le_refl _, by simp, by simp⟩⟩
theorem OwnSl.whole (b : Nat) (e : TypeId) (xs : List Value) : OwnSl (.slice (some ⟨b, 0, none⟩) xs.length xs.length) e 1 xs xs.length [(b, blk xs e)] := ⟨by simp, .inr ⟨b, xs.length, [], rfl, Nat.le_refl _, by simp, by simp⟩⟩
theorem OwnSl.slAt {α : Type} {f : α → List Value} {z : Nat} (hz : ∀ a, (f a).length = z) {l : List α} {v : Value} {e : TypeId} (h : OwnSl v e z (l.flatMap f) l.length H1) (hh : Has w H1) : SlAt w v z (l.map f) := by
  rcases h.2 with ⟨rfl, h0, rfl⟩ | ⟨b, cap, rs, rfl, hle, _, rfl⟩
  · have : l = [] := List.eq_nil_of_length_eq_zero h0
    subst this
    exact SlAt.nil w z
  · refine ⟨some ⟨b, 0, none⟩, cap, by rw [List.length_map], fun i x hi => ?_⟩
    rw [List.getElem?_map] at hi
    obtain ⟨a, ha, rfl⟩ := Option.map_eq_some_iff.1 hi
    refine ⟨b, 0, _, e, (0, 0), rfl, hh.own 0 b _ rfl, ?_, hz a⟩
    rw [Nat.zero_add]
    exact flat_take hz ha rs
end
end Go.Proofs.YtmlbgdhkacajaaaDoor
