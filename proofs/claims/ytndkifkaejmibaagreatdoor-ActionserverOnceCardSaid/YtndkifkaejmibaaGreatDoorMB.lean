/- Rules for slices that are made and grow. No conditions. -/
import Derived.Test.YtndkifkaejmibaaGreatDoorMA
import Derived.Laws.AppendOwn
import Derived.Great.BuildSlice
import Derived.MapKept
import Derived.Carry
import Derived.Laws.StructEq
import Derived.Laws.Cover3
import Derived.OrdersHeld

namespace Go.Proofs.YtndkifkaejmibaaGreatDoor
open Go.RowKit
set_option linter.unusedVariables false
set_option linter.unusedSimpArgs false

section
variable {T : Tys} {P : Program} {n : Nat} {ops : Array Oper} {Q : Exit → Act → World → Prop} {L L' : Fr} {w w' w0 : World} {rest : List Oper} {ty t t' : TypeId} {xo yo zo : Operand}
  {Sx : Nat → Prop} {H H0 H1 H2 : List (Nat × Obj)} {pos : String} {af : Array Edge} {g : Option (Nat × Bool)}

/-- one known block gives way to another: itself changed, or a new one -/
theorem St.turn (h : St w0 Sx H w) {i b b' : Nat} {o o' : Obj} (hi : H[i]? = some (b, o)) (hos : w'.os = w.os) (htp : w'.tape = w.tape) (hou : w'.output = w.output) (hs : w.heap.size ≤ w'.heap.size)
    (hold : ∀ k, k < w.heap.size → k ≠ b → w'.heap[k]? = w.heap[k]?) (hb' : w'.heap[b']? = some o') (hor : b' = b ∨ w.heap.size ≤ b') : St w0 Sx (H.set i (b', o')) w' := by
  have hb := h.own i b _ hi
  have hil : i < H.length := (List.getElem?_eq_some_iff.1 hi).1
  have key : ∀ (j c : Nat) (u : Obj), (H.set i (b', o'))[j]? = some (c, u) → (j = i ∧ c = b' ∧ u = o') ∨ (j ≠ i ∧ H[j]? = some (c, u)) := by
    intro j c u hj
    rw [List.getElem?_set] at hj
    split at hj
    · rename_i e; subst e
      simp only [hil, if_true, Option.some.injEq, Prod.mk.injEq] at hj
      exact .inl ⟨rfl, hj.1.symm, hj.2.symm⟩
    · rename_i e; exact .inr ⟨fun h => e h.symm, hj⟩
  have far : ∀ (j c : Nat) (u : Obj), j ≠ i → H[j]? = some (c, u) → c ≠ b ∧ c < w.heap.size := by
    intro j c u hne hj
    exact ⟨by rintro rfl; exact hne (h.apart j i c c u _ hj hi rfl), h.lt hj⟩
  refine ⟨hos.trans h.os, htp.trans h.tape, hou.trans h.output, Nat.le_trans h.size hs, ?_, ?_, ?_⟩
  · intro k hk hS
    have hkb : k ≠ b := by
      intro e
      rcases hb.2 with h1 | h1
      · exact hS (e ▸ h1)
      · omega
    rw [hold k (Nat.lt_of_lt_of_le hk h.size) hkb]; exact h.old k hk hS
  · intro j c u hj
    rcases key j c u hj with ⟨rfl, rfl, rfl⟩ | ⟨hne, hj'⟩
    · refine ⟨hb', ?_⟩
      rcases hor with e | e
      · rw [e]; exact hb.2
      · exact Or.inr (Nat.le_trans h.size e)
    · obtain ⟨h1, h2⟩ := far j c u hne hj'
      have hc := h.own j c u hj'
      rw [hold c h2 h1]; exact hc
  · intro j k c d u x hj hk hcd
    rcases key j c u hj with ⟨rfl, rfl, rfl⟩ | ⟨hne, hj'⟩ <;> rcases key k d x hk with ⟨rfl, rfl, rfl⟩ | ⟨hne', hk'⟩
    · rfl
    · obtain ⟨h1, h2⟩ := far k d x hne' hk'
      rcases hor with e | e
      · exact absurd (hcd.symm.trans e) h1
      · omega
    · obtain ⟨h1, h2⟩ := far j c u hne hj'
      rcases hor with e | e
      · exact absurd (hcd.trans e) h1
      · omega
    · exact h.apart j k c d u x hj' hk' hcd

theorem oneV_cell {v : Value} (h : oneV v = true) : v.oneCell' = true := by cases v <;> first | rfl | cases h

/-! ## A slice of one's own -/

/-- the value is a slice of k elements, of z cells each, whose cells are xs: it has no block, or one of its own -/
def OwnSl (v : Value) (e : TypeId) (z : Nat) (xs : List Value) (k : Nat) (H1 : List (Nat × Obj)) : Prop :=
  xs.length = k * z ∧ ((v = .slice none 0 0 ∧ k = 0 ∧ H1 = []) ∨ ∃ b cap rs, v = .slice (some ⟨b, 0, none⟩) k cap ∧ k ≤ cap ∧ rs.length = (cap - k) * z ∧ H1 = [(b, blk (xs ++ rs) e)])

theorem OwnSl.nil (e : TypeId) (z : Nat) : OwnSl (.slice none 0 0) e z [] 0 [] := ⟨by simp, .inl ⟨rfl, rfl, rfl⟩⟩
theorem OwnSl.some_ {v : Value} {e : TypeId} {z k : Nat} {xs : List Value} (h : OwnSl v e z xs k H1) (hk : 0 < k) : ∃ b cap rs, v = .slice (some ⟨b, 0, none⟩) k cap ∧ k ≤ cap ∧ rs.length = (cap - k) * z ∧ H1 = [(b, blk (xs ++ rs) e)] := by
  rcases h.2 with ⟨_, h0, _⟩ | h
  · omega
  · exact h
theorem OwnSl.len {v : Value} {e : TypeId} {z k : Nat} {xs : List Value} (h : OwnSl v e z xs k H1) : ∃ a cap, v = .slice a k cap := by
  rcases h.2 with ⟨rfl, rfl, _⟩ | ⟨b, cap, rs, rfl, _⟩
  · exact ⟨_, _, rfl⟩
  · exact ⟨_, _, rfl⟩

theorem St.left (h : St w0 Sx (H0 ++ H1) w) : St w0 Sx H0 w := h.take (fun i x hx => by
  rw [List.getElem?_append_left (List.getElem?_eq_some_iff.1 hx).1]; exact hx)

theorem Ev_append {u v v' : Value} (hx : opd L xo = some u) (hy : opd L yo = some v) (h : (Builtin.append_ #[t, t'] ty #[u, v]).run P w = .ok v' w') : Ev P L (.call ⟨.builtin .append, #[xo, yo], #[t, t']⟩) ty w v' w' := by
  refine ⟨fun n c ha _ _ _ _ => ?_⟩
  simp only [execOp, resolve, invoke, builtin, Sem.run_bind, Sem.run_pure, Result.andThen_ok, List.map_toArray, List.map_cons, List.map_nil, ha.eval hx, ha.eval hy, h]

theorem cells_at {b o : Nat} {l : List Value} {E : TypeId} {fz : Nat × Nat} {news : List Value} {m : Nat} (hb : w.heap[b]? = some (.cells ⟨l⟩ E fz)) (hn : (l.drop o).take m = news) : ∀ (j : Nat) (u : Value), news[j]? = some u → w.cell? ((⟨b, o, none⟩ : Addr).add j) = some u := by
  intro j u hj
  have e : (Addr.add ⟨b, o, none⟩ j) = ⟨b, o + j, none⟩ := by
    simp only [Addr.add]; split
    · rename_i h; rw [h]; rfl
    · rfl
  rw [e, cell_of hb]
  exact SlAt.cell hn hj

theorem WL_append {d m c b2 o2 k : Nat} {e : TypeId} {z y : Nat} {l2 news xs : List Value} {E2 : TypeId} {fz2 : Nat × Nat} {zv v : Value} (hT : T.Ok P) (ht : asc T.sl t = some (e, z, y)) (hz : asc T.zero e = some zv) (hzl : (zcells zv).length = z)
    (hg : wantB ops g L = some true) (hn : Nat.blt d n = true) (hx : opd L xo = some v) (hy : opd L yo = some (.slice (some ⟨b2, o2, none⟩) m c)) (hSt : St w0 Sx (H0 ++ H1 ++ H2) w) (ho : OwnSl v e z xs k H1)
    (hb : w.heap[b2]? = some (.cells ⟨l2⟩ E2 fz2)) (hnews : (l2.drop o2).take (m * z) = news) (hl : news.length = m * z) (h1 : news.all oneV = true) (hm : 0 < m) (hmax : k + m ≤ 140737488355328) (hby : (k + m) * y ≤ 140737488355328)
    (K : ∀ v' w' H1', OwnSl v' e z (xs ++ news) (k + m) H1' → St w0 Sx (H0 ++ H1') w' → WL P n ops Q rest ((d, v') :: L) w') : WL P n ops Q (⟨some d, .call ⟨.builtin .append, #[xo, yo], #[t, t]⟩, ty, pos, af, g⟩ :: rest) L w := by
  obtain ⟨hu, i, hi, hiz, hiy⟩ := ok_sl hT ht
  obtain ⟨i', hi', hzz⟩ := ok_zero hT hz
  have hii : i' = i := Option.some.inj (hi'.symm.trans hi)
  subst hii
  have hzs : zv.cells.size = z := by rw [zcells_cells]; simpa using hzl
  have hcell := cells_at hb hnews
  have hone : ∀ u ∈ news, u.oneCell' = true := fun u hu => oneV_cell (List.all_eq_true.1 h1 u hu)
  obtain ⟨hxl, hv⟩ := ho
  have h01 : St w0 Sx (H0 ++ H1) w := hSt.left
  rcases hv with ⟨rfl, rfl, rfl⟩ | ⟨b, cap, rs, rfl, hkc, hrs, rfl⟩
  · have hxs : xs = [] := List.eq_nil_of_length_eq_zero (by omega)
    subst hxs
    have hr := run_append_nil (P := P) w t ty e i' zv hu hi' hzz ⟨b2, o2, none⟩ m c news (by rw [hiz]; exact hl) hcell hm (by omega) (by rw [hiy]; simp only [Nat.zero_add] at hby; omega)
    refine WL_ev hg hn (Ev_append hx hy hr) ?_
    have hge := grownCap_ge w m 0 e
    have hst2 := (St.drew hSt.left.left).alloc (.cells (news.toArray ++ Builtin.zeroCells zv.cells (grownCap w m 0 e - m)) e)
    refine K _ _ [(w.heap.size, blk (news ++ (Builtin.zeroCells zv.cells (grownCap w m 0 e - m)).toList) e)] ?_ ?_
    · refine ⟨by simpa using hl, .inr ⟨w.heap.size, grownCap w m 0 e, (Builtin.zeroCells zv.cells (grownCap w m 0 e - m)).toList, by rw [Nat.zero_add], by omega, ?_, by simp⟩⟩
      simp [size_zeroCells, hzs]
    · have e1 : (Obj.cells (news.toArray ++ Builtin.zeroCells zv.cells (grownCap w m 0 e - m)) e) = blk (news ++ (Builtin.zeroCells zv.cells (grownCap w m 0 e - m)).toList) e := by
        congr 1
        apply Array.ext'
        simp
      rw [← e1]; exact hst2
  · have hib : (H0 ++ [(b, blk (xs ++ rs) e)])[H0.length]? = some (b, blk (xs ++ rs) e) := by simp
    have hblk := (h01.own _ _ _ hib).1
    have hset : ∀ (b' : Nat) (o' : Obj), (H0 ++ [(b, blk (xs ++ rs) e)]).set H0.length (b', o') = H0 ++ [(b', o')] := fun b' o' => by simp
    by_cases hroom : k + m ≤ cap
    · have hrs2 : rs.length = (cap - k) * z := hrs
      have hlen : m * z ≤ rs.length := by rw [hrs2]; exact Nat.mul_le_mul_right _ (by omega)
      have hr := run_append_room (P := P) w t ty e i' hu hi' b k cap ⟨xs ++ rs⟩ hblk ⟨b2, o2, none⟩ m c news (by rw [hiz]; exact hl) hcell hone hroom (by rw [hiz]; simp; omega)
      refine WL_ev hg hn (Ev_append hx hy hr) ?_
      have e1 : ((⟨xs ++ rs⟩ : Array Value).toList.take (k * i'.size) ++ news ++ (⟨xs ++ rs⟩ : Array Value).toList.drop (k * i'.size + news.length)) = xs ++ news ++ rs.drop news.length := by
        rw [hiz]
        simp only
        rw [← hxl, List.take_left, List.drop_append, List.drop_eq_nil_of_le (by omega)]
        simp
      rw [e1]
      refine K _ _ [(b, blk (xs ++ news ++ rs.drop news.length) e)] ⟨by simp [hxl, hl, Nat.add_mul], .inr ⟨b, cap, rs.drop news.length, rfl, hroom, ?_, rfl⟩⟩ ?_
      · rw [List.length_drop, hrs, hl, ← Nat.sub_mul, Nat.sub_sub]
      · rw [← hset]
        exact h01.turn hib rfl rfl rfl (by simp) (fun j _ hj => setRow_other w b j _ hj) (setRow_heap w b _ _ e (0, 0) hblk) (Or.inl rfl)
    · have hxat : ∀ j v, xs[j]? = some v → w.cell? ((⟨b, 0, none⟩ : Addr).add j) = some v := cells_at (m := k * z) hblk (by rw [List.drop_zero, ← hxl, List.take_left])
      have hfit : Builtin.nextslicecap (k + m) cap * i'.bytes ≤ 281474976710656 := by
        rw [hiy]; exact growslice_fits (by omega) hby
      have hr := run_append_grow (P := P) w t ty e i' zv hu hi' hzz ⟨b, 0, none⟩ k cap xs (by rw [hiz]; exact hxl) hxat ⟨b2, o2, none⟩ m c news (by rw [hiz]; exact hl) hcell (by omega) (by omega) hfit
      refine WL_ev hg hn (Ev_append hx hy hr) ?_
      have hge := grownCap_ge w (k + m) cap e
      have e1 : (Obj.cells (xs.toArray ++ news.toArray ++ Builtin.zeroCells zv.cells (grownCap w (k + m) cap e - (k + m))) e) = blk (xs ++ news ++ (Builtin.zeroCells zv.cells (grownCap w (k + m) cap e - (k + m))).toList) e := by
        congr 1
        apply Array.ext'
        simp
      refine K _ _ [(w.heap.size, blk (xs ++ news ++ (Builtin.zeroCells zv.cells (grownCap w (k + m) cap e - (k + m))).toList) e)] ⟨by simp [hxl, hl, Nat.add_mul], .inr ⟨w.heap.size, _, _, rfl, hge, ?_, rfl⟩⟩ ?_
      · simp [size_zeroCells, hzs]
      · rw [← e1]
        exact (St.drew hSt.left.left).alloc _
end
end Go.Proofs.YtndkifkaejmibaaGreatDoor

namespace Go.Proofs.YtndkifkaejmibaaGreatDoor
open Go.RowKit
open Go.MapKept (IsKey run_checkKey run_findKey run_setObj_map heap_set)
set_option linter.unusedVariables false
set_option linter.unusedSimpArgs false

section
variable {T : Tys} {P : Program} {n : Nat} {ops : Array Oper} {Q : Exit → Act → World → Prop} {L L' : Fr} {w w' w0 : World} {rest : List Oper} {ty t t' : TypeId} {xo yo zo : Operand}
  {Sx : Nat → Prop} {H H0 H1 H2 : List (Nat × Obj)} {pos : String} {af : Array Edge} {g : Option (Nat × Bool)}

theorem WL_makeMap {d : Nat} (hg : wantB ops g L = some true) (hn : Nat.blt d n = true) (hSt : St w0 Sx H w)
    (k : ∀ w' b, w0.heap.size ≤ b → St w0 Sx (H ++ [(b, .map #[] 0)]) w' → WL P n ops Q rest ((d, .map (some b)) :: L) w') : WL P n ops Q (⟨some d, .makeMap t none, ty, pos, af, g⟩ :: rest) L w := by
  refine WL_ev hg hn (v := .map (some w.heap.size)) (w' := w.alloc (.map #[] 0)) ⟨fun n c ha _ _ _ _ => ?_⟩ (k _ _ hSt.size (hSt.alloc _))
  simp [execOp, run_makeMap]

/-! ## Slice literals -/

def evElems (L : Fr) (z : Nat) : List (Nat × Operand) → Option (List (Nat × Nat × Value))
  | [] => some []
  | (i, x) :: r => match opd L x, evElems L z r with
    | some v, some ps => some ((i * z, z, v) :: ps)
    | _, _ => none
theorem evElems_spec {z : Nat} {a : Act} (ha : Fits n L a) : ∀ (parts : List (Nat × Operand)) (ps : List (Nat × Nat × Value)), evElems L z parts = some ps →
    (parts.map fun x => (x.1, a.eval x.2)).map (fun q => ((some (q.1 * z, z) : Option (Nat × Nat)), q.2)) = ps.map (fun p => (some (p.1, p.2.1), p.2.2))
  | [], ps, h => by simp only [evElems, Option.some.injEq] at h; subst h; rfl
  | (i, x) :: parts, ps, h => by
    simp only [evElems] at h
    split at h
    · rename_i v qs hx hr
      injection h with h; subst h
      simp [ha.eval hx, evElems_spec ha parts qs hr]
    · cases h
def zrow (zv : Value) (k : Nat) : List Value := (List.range k).map fun j => (zcells zv)[j % (zcells zv).length]!

theorem WL_buildSlice {d m e z y : Nat} {zv : Value} {parts : List (Nat × Operand)} {ps : List (Nat × Nat × Value)} {vs : List Value} (hT : T.Ok P) (ht : asc T.sl t = some (e, z, y)) (hz : asc T.zero e = some zv)
    (hg : wantB ops g L = some true) (hn : Nat.blt d n = true) (hp : evElems L z parts = some ps) (hv : laid (zrow zv (m * z)) ps = some vs) (h0 : Nat.blt 0 (m * z) = true) (h1 : Nat.ble (m * z) 16777216 = true) (hSt : St w0 Sx H w)
    (k : ∀ w' b, w0.heap.size ≤ b → St w0 Sx (H ++ [(b, blk vs e)]) w' → WL P n ops Q rest ((d, .slice (some ⟨b, 0, none⟩) m m) :: L) w') : WL P n ops Q (⟨some d, .buildSlice t m ⟨parts⟩, ty, pos, af, g⟩ :: rest) L w := by
  obtain ⟨hu, i, hi, hiz, hiy⟩ := ok_sl hT ht
  obtain ⟨i', hi', hzz⟩ := ok_zero hT hz
  have hii : i' = i := Option.some.inj (hi'.symm.trans hi)
  subst hii
  have h0' : 0 < m * z := by simpa [Nat.blt_eq] using h0
  have h1' : m * z ≤ 16777216 := by simpa [Nat.ble_eq] using h1
  refine WL_ev hg hn (v := .slice (some ⟨w.heap.size, 0, none⟩) m m) (w' := w.alloc (blk vs e)) ⟨fun n c ha _ _ _ _ => ?_⟩ (k _ _ hSt.size (hSt.alloc _))
  have hfill : Instr.fill (fun i => some (i * i'.size, i'.size)) ((Array.range (m * i'.size)).map (zv.cells[· % zv.cells.size]!)) (((⟨parts⟩ : Array (Nat × Operand)).map fun (i, x) => (i, c.eval x)).toList) = some ⟨vs⟩ := by
    have e1 : ((Array.range (m * i'.size)).map (zv.cells[· % zv.cells.size]!)) = ⟨zrow zv (m * z)⟩ := by
      rw [hiz]
      apply Array.ext'
      simp [zrow, zcells_cells]
    have e2 : (((⟨parts⟩ : Array (Nat × Operand)).map fun (i, x) => (i, c.eval x)).toList) = parts.map fun x => (x.1, c.eval x.2) := by simp
    rw [e1, e2, hiz]
    exact fill_laid _ ps _ vs (evElems_spec ha parts ps hp) hv
  have hr := run_buildSlice (P := P) w t e m ((⟨parts⟩ : Array (Nat × Operand)).map fun (i, x) => (i, c.eval x)) ⟨vs⟩ i' zv hu hi' hzz (by rw [hiz]; omega) (by rw [hiz]; omega) hfill
  simp only [execOp, Sem.run_bind, hr, Result.andThen_ok, Sem.run_pure]
end
end Go.Proofs.YtndkifkaejmibaaGreatDoor

namespace Go.Proofs.YtndkifkaejmibaaGreatDoor
open Go.RowKit
set_option linter.unusedVariables false
set_option linter.unusedSimpArgs false

section
variable {w w' w0 : World} {Sx : Nat → Prop} {H H' Ha Hc : List (Nat × Obj)}

/-- the blocks of H hold what is listed, and are not the same -/
structure Has (w : World) (H : List (Nat × Obj)) : Prop where
  own : ∀ (i b : Nat) (o : Obj), H[i]? = some (b, o) → w.heap[b]? = some o
  apart : ∀ (i j b c : Nat) (o u : Obj), H[i]? = some (b, o) → H[j]? = some (c, u) → b = c → i = j
def InH (H : List (Nat × Obj)) : Nat → Prop := fun b => ∃ (i : Nat) (o : Obj), H[i]? = some (b, o)

theorem St.has (h : St w0 Sx H w) : Has w H := ⟨fun i b o hi => (h.own i b o hi).1, h.apart⟩
theorem Has.st (h : Has w H) : St w (InH H) H w := ⟨rfl, rfl, rfl, Nat.le_refl _, fun _ _ _ => rfl, fun i b o hi => ⟨h.own i b o hi, Or.inl ⟨i, o, hi⟩⟩, h.apart⟩
/-- a call that takes the blocks of H, and leaves H' of them -/
theorem St.callM (h : St w0 Sx (Ha ++ H ++ Hc) w) (k : St w (InH H) H' w') : St w0 Sx (Ha ++ H' ++ Hc) w' := by
  have at_ : ∀ (i : Nat) (x : Nat × Obj), H[i]? = some x → (Ha ++ H ++ Hc)[Ha.length + i]? = some x := by
    intro i x hi
    have hlt := (List.getElem?_eq_some_iff.1 hi).1
    rw [List.append_assoc, List.getElem?_append_right (by omega), Nat.add_sub_cancel_left, List.getElem?_append_left hlt]
    exact hi
  have key : ∀ (i : Nat) (x : Nat × Obj), (Ha ++ H' ++ Hc)[i]? = some x → (∃ j, i = Ha.length + j ∧ H'[j]? = some x) ∨
      (∃ j, (Ha ++ H ++ Hc)[j]? = some x ∧ (∀ (i' : Nat) (o' : Obj), H[i']? ≠ some (x.1, o')) ∧ (i < Ha.length ∧ j = i ∨ Ha.length + H'.length ≤ i ∧ j + H'.length = i + H.length)) := by
    intro i x hi
    have hlt := (List.getElem?_eq_some_iff.1 hi).1
    simp only [List.length_append] at hlt
    rcases Nat.lt_or_ge i Ha.length with h1 | h1
    · have e : (Ha ++ H ++ Hc)[i]? = some x := by
        rw [List.append_assoc, List.getElem?_append_left h1] at hi ⊢; exact hi
      refine .inr ⟨i, e, fun i' o' hi' => ?_, .inl ⟨h1, rfl⟩⟩
      have := h.apart i (Ha.length + i') x.1 x.1 x.2 o' e (at_ i' _ hi') rfl
      omega
    · rcases Nat.lt_or_ge i (Ha.length + H'.length) with h2 | h2
      · refine .inl ⟨i - Ha.length, by omega, ?_⟩
        rw [List.append_assoc, List.getElem?_append_right h1, List.getElem?_append_left (by omega)] at hi
        exact hi
      · have e : (Ha ++ H ++ Hc)[i - H'.length + H.length]? = some x := by
          rw [List.getElem?_append_right (by simp; omega)] at hi ⊢
          rw [← hi]
          congr 1
          simp only [List.length_append]
          omega
        refine .inr ⟨i - H'.length + H.length, e, fun i' o' hi' => ?_, .inr ⟨h2, by omega⟩⟩
        have h3 := (List.getElem?_eq_some_iff.1 hi').1
        have := h.apart (i - H'.length + H.length) (Ha.length + i') x.1 x.1 x.2 o' e (at_ i' _ hi') rfl
        omega
  have far : ∀ (j : Nat) (x y : Nat × Obj), H'[j]? = some x → ∀ (m : Nat), (Ha ++ H ++ Hc)[m]? = some y → (∀ (i' : Nat) (o' : Obj), H[i']? ≠ some (y.1, o')) → x.1 ≠ y.1 := by
    intro j x y hj m hm hn e
    rcases (k.own j x.1 x.2 hj).2 with ⟨i', o', hi'⟩ | hge
    · exact hn i' o' (e ▸ hi')
    · have := h.lt (b := y.1) (o := y.2) hm; omega
  refine h.trans k ?_ ?_ ?_
  · rintro b ⟨i, o, hi⟩; exact (h.own _ b o (at_ i _ hi)).2
  · intro i b o hi
    rcases key i _ hi with ⟨j, _, hj⟩ | ⟨j, hj, hn, _⟩
    · exact .inl ⟨j, hj⟩
    · exact .inr ⟨j, hj, fun ⟨i', o', h'⟩ => hn i' o' h'⟩
  · intro i j b c o u hi hj hbc
    rcases key i _ hi with ⟨i1, e1, h1⟩ | ⟨i1, h1, n1, e1⟩ <;> rcases key j _ hj with ⟨j1, e2, h2⟩ | ⟨j1, h2, n2, e2⟩
    · have := k.apart i1 j1 b c o u h1 h2 hbc; omega
    · exact absurd hbc (far i1 _ _ h1 j1 h2 n2)
    · exact absurd hbc.symm (far j1 _ _ h2 i1 h1 n1)
    · have := h.apart i1 j1 b c o u h1 h2 hbc; omega
end
end Go.Proofs.YtndkifkaejmibaaGreatDoor

namespace Go.Proofs.YtndkifkaejmibaaGreatDoor
open Go.RowKit
set_option linter.unusedVariables false
set_option linter.unusedSimpArgs false

section
variable {P : Program} {n : Nat} {Q : Exit → Act → World → Prop} {L : Fr} {w : World} {c : Code}

/-- the list without the slots ks -/
structure Str (ks : List Nat) (L L' : Fr) : Prop where
  all : ∀ i v, mem1 ks i = false → (look L' i = some v → look L i = some v)
  off : ∀ i, mem1 ks i = true → look L' i = none
theorem Str.nil (ks : List Nat) : Str ks [] [] := ⟨fun i v _ h => h, fun i _ => rfl⟩
theorem Str.drop {ks : List Nat} {i : Nat} {v : Value} {L L' : Fr} (h : mem1 ks i = true) (k : Str ks L L') : Str ks ((i, v) :: L) L' := by
  refine ⟨fun j u hj hl => ?_, k.off⟩
  simp only [look]
  cases hb : Nat.beq i j
  · exact k.all j u hj hl
  · have e : i = j := by simpa using hb
    subst e; rw [h] at hj; cases hj
theorem Str.keep {ks : List Nat} {i : Nat} {v : Value} {L L' : Fr} (h : mem1 ks i = false) (k : Str ks L L') : Str ks ((i, v) :: L) ((i, v) :: L') := by
  refine ⟨fun j u hj hl => ?_, fun j hj => ?_⟩
  · simp only [look] at hl ⊢
    cases hb : Nat.beq i j
    · simp only [hb, cond_false] at hl ⊢; exact k.all j u hj hl
    · simpa [hb] using hl
  · simp only [look]
    cases hb : Nat.beq i j
    · exact k.off j hj
    · have e : i = j := by simpa using hb
      subst e; rw [h] at hj; cases hj
theorem Str.sub {ks : List Nat} {L L' : Fr} (h : Str ks L L') : Sub L' L := by
  refine ⟨fun i v hl => ?_⟩
  cases hm : mem1 ks i
  · exact h.all i v hm hl
  · rw [h.off i hm] at hl; cases hl

theorem Sub.app {A B L : Fr} (h : Sub A L) (k : ∀ i v, look A i = none → look B i = some v → look L i = some v) : Sub (A ++ B) L := by
  refine ⟨fun i v hi => ?_⟩
  cases hA : look A i with
  | some u =>
    have : look (A ++ B) i = some u := by
      clear h k hi
      induction A with
      | nil => simp [look] at hA
      | cons x A ih =>
        obtain ⟨j, y⟩ := x
        simp only [look, List.cons_append] at hA ⊢
        cases hb : Nat.beq j i
        · simp only [hb, cond_false] at hA ⊢; exact ih hA
        · simpa [hb] using hA
    rw [this] at hi; injection hi with hi; subst hi; exact h.all i u hA
  | none =>
    have : look (A ++ B) i = look B i := by
      clear h k hi
      induction A with
      | nil => rfl
      | cons x A ih =>
        obtain ⟨j, y⟩ := x
        simp only [look, List.cons_append] at hA ⊢
        cases hb : Nat.beq j i
        · simp only [hb, cond_false] at hA ⊢; exact ih hA
        · simp [hb] at hA
    rw [this] at hi; exact k i v hA hi
/-- a loop: s is what it changes, m s the slots that hold it; I k s w holds at the head of a round with k rounds to go at most; all else that is known stays known -/
theorem W_loopM {σ : Type} (I : Nat → σ → World → Prop) (m : σ → Fr) (k0 : Nat) (s0 : σ) {L0 : Fr} {ks : List Nat} (hks : (m s0).map Prod.fst = ks) (hst : Str ks L L0) (h0 : I k0 s0 w) (hs : Sub (m s0) L)
    (step : ∀ k s w, I k s w → ∀ K : Act → World → Prop, (∀ k' s' w' a, k' < k → I k' s' w' → Fits n (m s' ++ L0) a → K a w') → W P n c (Exit.then K Q) (m s ++ L0) w) : W P n (.loop c) Q L w := by
  refine W_loop (fun k L' w' => ∃ s, I k s w' ∧ L' = m s ++ L0) k0 (L0 := m s0 ++ L0) ⟨s0, h0, rfl⟩ (Sub.app hs (fun i v _ h => hst.sub.all i v h)) ?_
  rintro k L' w' ⟨s, hI, rfl⟩ K hK
  exact step k s w' hI K (fun k' s' w'' a hlt hi hf => hK k' _ w'' a hlt ⟨s', hi, rfl⟩ hf)
theorem W_loop1 {α : Type} (I : Nat → α → World → Prop) (m : α → Fr) (k0 : Nat) (x0 : α) {L0 : Fr} {ks : List Nat} (hks : (m x0).map Prod.fst = ks) (hst : Str ks L L0) (h0 : I k0 x0 w) (hs : Sub (m x0) L)
    (step : ∀ k x w, I k x w → ∀ K : Act → World → Prop, (∀ k' x' w' a, k' < k → I k' x' w' → Fits n (m x' ++ L0) a → K a w') → W P n c (Exit.then K Q) (m x ++ L0) w) : W P n (.loop c) Q L w :=
  W_loopM (σ := α) (fun k s w => I k s w) (fun s => m s) k0 x0 hks hst h0 hs
    (fun k s w hi K hK => step k s w hi K (fun k' x' w' a hlt hi hf => hK k' x' w' a hlt hi hf))
theorem At_loop1 {α : Type} {K : Act → World → Prop} {I : Nat → α → World → Prop} {m : α → Fr} {k k' : Nat} {L0 L1 : Fr} (hK : ∀ k' x' w' a, k' < k → I k' x' w' → Fits n (m x' ++ L0) a → K a w') (x : α)
    (hlt : k' < k) (hi : I k' x w) (hs : Sub (m x ++ L0) L1) : At n (Exit.then K Q) .normal L1 w := ⟨fun a ha => hK k' x w a hlt hi (ha.sub hs)⟩
theorem W_loop2 {α β : Type} (I : Nat → α → β → World → Prop) (m : α → β → Fr) (k0 : Nat) (x0 : α) (y0 : β) {L0 : Fr} {ks : List Nat} (hks : (m x0 y0).map Prod.fst = ks) (hst : Str ks L L0) (h0 : I k0 x0 y0 w) (hs : Sub (m x0 y0) L)
    (step : ∀ k x y w, I k x y w → ∀ K : Act → World → Prop, (∀ k' x' y' w' a, k' < k → I k' x' y' w' → Fits n (m x' y' ++ L0) a → K a w') → W P n c (Exit.then K Q) (m x y ++ L0) w) : W P n (.loop c) Q L w :=
  W_loopM (σ := α × β) (fun k s w => I k s.1 s.2 w) (fun s => m s.1 s.2) k0 (x0, y0) hks hst h0 hs
    (fun k s w hi K hK => step k s.1 s.2 w hi K (fun k' x' y' w' a hlt hi hf => hK k' (x', y') w' a hlt hi hf))
theorem At_loop2 {α β : Type} {K : Act → World → Prop} {I : Nat → α → β → World → Prop} {m : α → β → Fr} {k k' : Nat} {L0 L1 : Fr} (hK : ∀ k' x' y' w' a, k' < k → I k' x' y' w' → Fits n (m x' y' ++ L0) a → K a w') (x : α) (y : β)
    (hlt : k' < k) (hi : I k' x y w) (hs : Sub (m x y ++ L0) L1) : At n (Exit.then K Q) .normal L1 w := ⟨fun a ha => hK k' x y w a hlt hi (ha.sub hs)⟩
theorem W_loop3 {α β γ : Type} (I : Nat → α → β → γ → World → Prop) (m : α → β → γ → Fr) (k0 : Nat) (x0 : α) (y0 : β) (z0 : γ) {L0 : Fr} {ks : List Nat} (hks : (m x0 y0 z0).map Prod.fst = ks) (hst : Str ks L L0) (h0 : I k0 x0 y0 z0 w) (hs : Sub (m x0 y0 z0) L)
    (step : ∀ k x y z w, I k x y z w → ∀ K : Act → World → Prop, (∀ k' x' y' z' w' a, k' < k → I k' x' y' z' w' → Fits n (m x' y' z' ++ L0) a → K a w') → W P n c (Exit.then K Q) (m x y z ++ L0) w) : W P n (.loop c) Q L w :=
  W_loopM (σ := α × β × γ) (fun k s w => I k s.1 s.2.1 s.2.2 w) (fun s => m s.1 s.2.1 s.2.2) k0 (x0, y0, z0) hks hst h0 hs
    (fun k s w hi K hK => step k s.1 s.2.1 s.2.2 w hi K (fun k' x' y' z' w' a hlt hi hf => hK k' (x', y', z') w' a hlt hi hf))
theorem At_loop3 {α β γ : Type} {K : Act → World → Prop} {I : Nat → α → β → γ → World → Prop} {m : α → β → γ → Fr} {k k' : Nat} {L0 L1 : Fr} (hK : ∀ k' x' y' z' w' a, k' < k → I k' x' y' z' w' → Fits n (m x' y' z' ++ L0) a → K a w') (x : α) (y : β) (z : γ)
    (hlt : k' < k) (hi : I k' x y z w) (hs : Sub (m x y z ++ L0) L1) : At n (Exit.then K Q) .normal L1 w := ⟨fun a ha => hK k' x y z w a hlt hi (ha.sub hs)⟩
/-- the frame's list of what is known, with the slots of the list d struck -/
def only : List Nat → Fr → Fr
  | _, [] => []
  | ks, (i, v) :: L => bif mem1 ks i then (i, v) :: only ks L else only ks L
end

section
variable {T : Tys} {P : Program} {n : Nat} {ops : Array Oper} {Q : Exit → Act → World → Prop} {L L' : Fr} {w w' w0 : World} {rest : List Oper} {ty t t' : TypeId} {xo yo zo : Operand}
  {Sx : Nat → Prop} {H H0 H1 H2 : List (Nat × Obj)}
theorem at_last {b : Nat} {o : Obj} (h : St w0 Sx (H ++ [(b, o)]) w) : w.heap[b]? = some o := (h.own H.length b o (by simp)).1
/-- a literal of m elements, appended to a slice of one's own -/
theorem WL_push {d1 d2 m k : Nat} {e z y : Nat} {zv v : Value} {parts : List (Nat × Operand)} {ps : List (Nat × Nat × Value)} {vs xs : List Value} {ty1 ty2 : TypeId} {pos1 pos2 : String} {af1 af2 : Array Edge} {g1 g2 : Option (Nat × Bool)}
    (hT : T.Ok P) (ht : asc T.sl t = some (e, z, y)) (hz : asc T.zero e = some zv) (hzl : (zcells zv).length = z)
    (hg1 : wantB ops g1 L = some true) (hn1 : Nat.blt d1 n = true) (hp : evElems L z parts = some ps) (hv : laid (zrow zv (m * z)) ps = some vs) (h0 : Nat.blt 0 (m * z) = true) (h1 : Nat.ble (m * z) 16777216 = true) (h2 : Nat.blt 0 m = true) (hvl : Nat.beq vs.length (m * z) = true) (hone : vs.all oneV = true)
    (hx : opd L xo = some v) (hxd : match xo with | .tmp i => Nat.beq d1 i = false | _ => True) (hg2 : ∀ u, wantB ops g2 ((d1, u) :: L) = some true) (hn2 : Nat.blt d2 n = true)
    (hSt : St w0 Sx (H0 ++ H1) w) (ho : OwnSl v e z xs k H1) (hmax : k + m ≤ 140737488355328) (hby : (k + m) * y ≤ 140737488355328)
    (K : ∀ v' w' H1' u, OwnSl v' e z (xs ++ vs) (k + m) H1' → St w0 Sx (H0 ++ H1') w' → WL P n ops Q rest ((d2, v') :: (d1, u) :: L) w') :
    WL P n ops Q (⟨some d1, .buildSlice t m ⟨parts⟩, ty1, pos1, af1, g1⟩ :: ⟨some d2, .call ⟨.builtin .append, #[xo, .tmp d1], #[t, t]⟩, ty2, pos2, af2, g2⟩ :: rest) L w := by
  refine WL_buildSlice hT ht hz hg1 hn1 hp hv h0 h1 hSt ?_
  intro w' b hb hSt'
  have hxx : opd ((d1, .slice (some ⟨b, 0, none⟩) m m) :: L) xo = some v := by
    cases xo with
    | tmp i => simp only at hxd; simpa only [opd, look, hxd, cond_false] using hx
    | const u => exact hx
    | global g => exact hx
    | func f => exact hx
  have hvl' : vs.length = m * z := Nat.eq_of_beq_eq_true hvl
  refine WL_append hT ht hz hzl (hg2 _) hn2 hxx (m := m) (c := m) (b2 := b) (o2 := 0) (by simp [opd, look]) hSt' ho (at_last hSt') (by rw [List.drop_zero, ← hvl', List.take_length]) hvl' hone (by simpa [Nat.blt_eq] using h2) hmax hby ?_
  intro v' w2 H1' ho' hs
  exact K v' w2 H1' _ ho' hs
theorem spl_eq (vs : List Value) : ∀ (l : List Value) (o : Nat), o + vs.length ≤ l.length → spl l o vs = l.take o ++ vs ++ l.drop (o + vs.length) := by
  induction vs with
  | nil => intro l o _; simp [spl]
  | cons v vs ih =>
    intro l o h
    simp only [List.length_cons] at h
    rw [spl, ih _ _ (by simp; omega)]
    rw [List.take_set, List.drop_set_of_lt (by omega), List.take_add_one]
    have ho : o < l.length := by omega
    rw [List.getElem?_eq_getElem ho]
    simp only [Option.toList_some, List.length_cons]
    rw [List.set_append_right _ _ (by simp; omega)]
    have : o - (List.take o l).length = 0 := by simp; omega
    rw [this]
    simp only [List.set_cons_zero, List.append_assoc, List.cons_append, List.nil_append]
    rw [show o + 1 + vs.length = o + (vs.length + 1) by omega]
/-- one element, appended to a slice of one's own -/
theorem WL_push1 {d1 d2 k : Nat} {e z y : Nat} {zv v u0 : Value} {eo : Operand} {xs : List Value} {ty1 ty2 : TypeId} {pos1 pos2 : String} {af1 af2 : Array Edge} {g1 g2 : Option (Nat × Bool)}
    (hT : T.Ok P) (ht : asc T.sl t = some (e, z, y)) (hz : asc T.zero e = some zv) (hzl : Nat.beq (zcells zv).length z = true)
    (hg1 : wantB ops g1 L = some true) (hn1 : Nat.blt d1 n = true) (hp : opd L eo = some u0) (hvl : Nat.beq (zcells u0).length z = true) (hone : (zcells u0).all oneV = true) (h0 : Nat.blt 0 z = true) (h1 : Nat.ble z 16777216 = true)
    (hx : opd L xo = some v) (hxd : match xo with | .tmp i => Nat.beq d1 i = false | _ => True) (hg2 : ∀ u, wantB ops g2 ((d1, u) :: L) = some true) (hn2 : Nat.blt d2 n = true)
    (hSt : St w0 Sx (H0 ++ H1) w) (ho : OwnSl v e z xs k H1) (hmax : k + 1 ≤ 140737488355328) (hby : (k + 1) * y ≤ 140737488355328)
    (K : ∀ v' w' H1' u, OwnSl v' e z (xs ++ zcells u0) (k + 1) H1' → St w0 Sx (H0 ++ H1') w' → WL P n ops Q rest ((d2, v') :: (d1, u) :: L) w') :
    WL P n ops Q (⟨some d1, .buildSlice t 1 ⟨[(0, eo)]⟩, ty1, pos1, af1, g1⟩ :: ⟨some d2, .call ⟨.builtin .append, #[xo, .tmp d1], #[t, t]⟩, ty2, pos2, af2, g2⟩ :: rest) L w := by
  have hzl' := Nat.eq_of_beq_eq_true hzl
  have hvl' := Nat.eq_of_beq_eq_true hvl
  have hzr : (zrow zv (1 * z)).length = z := by simp [zrow]
  refine WL_push (m := 1) (ps := [(0 * z, z, u0)]) (vs := zcells u0) hT ht hz hzl' hg1 hn1 (by simp [evElems, hp]) ?_ (by simpa using h0) (by simpa using h1) rfl (by simpa using hvl) hone hx hxd hg2 hn2 hSt ho hmax hby K
  have hb : Nat.ble z z = true := Nat.ble_eq_true_of_le (Nat.le_refl _)
  simp only [laid, hvl, Nat.zero_mul, Nat.zero_add, hzr, hb, Bool.and_self, cond_true]
  rw [spl_eq _ _ _ (by rw [hzr]; omega)]
  simp [hvl', hzr, zrow]
/-- a literal of one element that was made last, appended to a slice of one's own -/
theorem WL_appendL {d b2 k : Nat} {e z y : Nat} {zv v : Value} {news xs : List Value} {E2 : TypeId} {ty : TypeId} {pos : String} {af : Array Edge} {g : Option (Nat × Bool)} (hT : T.Ok P) (ht : asc T.sl t = some (e, z, y)) (hz : asc T.zero e = some zv) (hzl : Nat.beq (zcells zv).length z = true)
    (hg : wantB ops g L = some true) (hn : Nat.blt d n = true) (hx : opd L xo = some v) (hy : opd L yo = some (.slice (some ⟨b2, 0, none⟩) 1 1)) (hSt : St w0 Sx (H0 ++ H1 ++ [(b2, blk news E2)]) w) (ho : OwnSl v e z xs k H1)
    (hl : Nat.beq news.length z = true) (h1 : news.all oneV = true) (hmax : k + 1 ≤ 140737488355328) (hby : (k + 1) * y ≤ 140737488355328)
    (K : ∀ v' w' H1', OwnSl v' e z (xs ++ news) (k + 1) H1' → St w0 Sx (H0 ++ H1') w' → WL P n ops Q rest ((d, v') :: L) w') : WL P n ops Q (⟨some d, .call ⟨.builtin .append, #[xo, yo], #[t, t]⟩, ty, pos, af, g⟩ :: rest) L w := by
  have hl' := Nat.eq_of_beq_eq_true hl
  exact WL_append hT ht hz (Nat.eq_of_beq_eq_true hzl) hg hn hx hy hSt ho (at_last hSt) (by rw [List.drop_zero, Nat.one_mul, ← hl', List.take_length]) (by rw [Nat.one_mul]; exact hl') h1 (by omega) hmax hby K
end
end Go.Proofs.YtndkifkaejmibaaGreatDoor

namespace Go.Proofs.YtndkifkaejmibaaGreatDoor
open Go.RowKit
set_option linter.unusedVariables false
set_option linter.unusedSimpArgs false

theorem nodup_of_apart : ∀ {H : List (Nat × Obj)}, (∀ (i j b c : Nat) (o u : Obj), H[i]? = some (b, o) → H[j]? = some (c, u) → b = c → i = j) → (H.map Prod.fst).Nodup
  | [], _ => List.nodup_nil
  | x :: H, h => by
    rw [List.map_cons, List.nodup_cons]
    refine ⟨fun hm => ?_, nodup_of_apart (H := H) (fun i j b c o u hi hj e => by have := h (i + 1) (j + 1) b c o u (by simpa using hi) (by simpa using hj) e; omega)⟩
    obtain ⟨y, hy, e⟩ := List.mem_map.1 hm
    obtain ⟨i, hi, rfl⟩ := List.mem_iff_getElem.1 hy
    have := h 0 (i + 1) x.1 H[i].1 x.2 H[i].2 rfl (by simp [List.getElem?_eq_getElem hi]) e.symm
    omega
theorem apart_of_nodup {H : List (Nat × Obj)} (h : (H.map Prod.fst).Nodup) (i j b c : Nat) (o u : Obj) (hi : H[i]? = some (b, o)) (hj : H[j]? = some (c, u)) (e : b = c) : i = j := by
  obtain ⟨h1, h2⟩ := List.getElem?_eq_some_iff.1 hi
  obtain ⟨h3, h4⟩ := List.getElem?_eq_some_iff.1 hj
  have hp := List.pairwise_iff_getElem.1 h
  rcases Nat.lt_trichotomy i j with hlt | heq | hlt
  · have := hp i j (by simpa using h1) (by simpa using h3) hlt
    simp [h2, h4, e] at this
  · exact heq
  · have := hp j i (by simpa using h3) (by simpa using h1) hlt
    simp [h2, h4, e] at this

section
variable {w w' w0 : World} {Sx S2 : Nat → Prop} {H H' H2 Ha Hc Hn : List (Nat × Obj)}
theorem St.nodup (h : St w0 Sx H w) : (H.map Prod.fst).Nodup := nodup_of_apart h.apart
theorem Has.nodup (h : Has w H) : (H.map Prod.fst).Nodup := nodup_of_apart h.apart
theorem St.mem (h : St w0 Sx H w) {x : Nat × Obj} (hx : x ∈ H) : w.heap[x.1]? = some x.2 ∧ (Sx x.1 ∨ w0.heap.size ≤ x.1) := by
  obtain ⟨i, hi, rfl⟩ := List.mem_iff_getElem.1 hx
  exact h.own i _ _ (List.getElem?_eq_getElem hi)
theorem Has.mem (h : Has w H) {x : Nat × Obj} (hx : x ∈ H) : w.heap[x.1]? = some x.2 := by
  obtain ⟨i, hi, rfl⟩ := List.mem_iff_getElem.1 hx
  exact h.own i _ _ (List.getElem?_eq_getElem hi)
theorem Has.of (h : ∀ x ∈ H, w.heap[x.1]? = some x.2) (hn : (H.map Prod.fst).Nodup) : Has w H :=
  ⟨fun i b o hi => h (b, o) (List.mem_of_getElem? hi), apart_of_nodup hn⟩
theorem InH_of {x : Nat × Obj} (hx : x ∈ H) : InH H x.1 := by
  obtain ⟨i, hi, rfl⟩ := List.mem_iff_getElem.1 hx
  exact ⟨i, _, List.getElem?_eq_getElem hi⟩
theorem InH.out {b : Nat} (h : InH H b) : ∃ x ∈ H, x.1 = b := by
  obtain ⟨i, o, hi⟩ := h
  exact ⟨_, List.mem_of_getElem? hi, rfl⟩
/-- what is listed may be listed anew: of what is known, or of what lay in the base and was not touched -/
theorem St.regroup (h : St w0 S2 H w) (hS : ∀ b, S2 b → Sx b) (hm : ∀ x ∈ Hn, x ∈ H ∨ (w0.heap[x.1]? = some x.2 ∧ ¬ S2 x.1 ∧ Sx x.1)) (hn : (Hn.map Prod.fst).Nodup) : St w0 Sx Hn w := by
  refine ⟨h.os, h.tape, h.output, h.size, fun k hk hs => h.old k hk (fun e => hs (hS k e)), fun i b o hi => ?_, apart_of_nodup hn⟩
  rcases hm (b, o) (List.mem_of_getElem? hi) with hx | ⟨h1, h2, h3⟩
  · have := h.mem hx
    exact ⟨this.1, this.2.imp (hS b) id⟩
  · exact ⟨h.base h1 h2, Or.inl h3⟩
theorem St.perm (h : St w0 Sx H w) (p : List.Perm Hn H) : St w0 Sx Hn w :=
  h.regroup (fun _ e => e) (fun x hx => .inl (p.mem_iff.1 hx)) ((p.map Prod.fst).nodup_iff.2 h.nodup)
theorem St.sublist (h : St w0 Sx H w) (p : List.Sublist Hn H) : St w0 Sx Hn w :=
  h.regroup (fun _ e => e) (fun x hx => .inl (p.mem hx)) ((p.map Prod.fst).nodup h.nodup)
theorem St.right (h : St w0 Sx (Ha ++ H) w) : St w0 Sx H w := h.sublist (List.sublist_append_right _ _)
theorem Has.sublist (h : Has w H) (p : List.Sublist Hn H) : Has w Hn :=
  Has.of (fun x hx => h.mem (p.mem hx)) ((p.map Prod.fst).nodup h.nodup)
theorem Has.perm (h : Has w H) (p : List.Perm Hn H) : Has w Hn :=
  Has.of (fun x hx => h.mem (p.mem_iff.1 hx)) ((p.map Prod.fst).nodup_iff.2 h.nodup)
theorem Has.later (h : Has w0 H) (k : St w0 NoneS H2 w) : Has w H :=
  Has.of (fun x hx => k.base (h.mem hx) (fun e => e)) h.nodup
/-- a call that touches nothing, and leaves new blocks -/
theorem St.newN (h : St w0 Sx H w) (k : St w NoneS H2 w') : St w0 Sx (H ++ H2) w' := by
  refine h.trans k (fun _ e => e.elim) (fun i b o hi => ?_) (apart_of_nodup ?_)
  · rw [List.getElem?_append] at hi
    split at hi
    · exact .inr ⟨i, hi, fun e => e⟩
    · exact .inl ⟨_, hi⟩
  · rw [List.map_append, List.nodup_append]
    refine ⟨h.nodup, k.nodup, ?_⟩
    intro a ha b hb e
    obtain ⟨x, hx, rfl⟩ := List.mem_map.1 ha
    obtain ⟨y, hy, rfl⟩ := List.mem_map.1 hb
    have h1 := (k.mem hy).2
    obtain ⟨i, hi, rfl⟩ := List.mem_iff_getElem.1 hx
    have h2 := h.lt (i := i) (b := H[i].1) (o := H[i].2) (List.getElem?_eq_getElem hi)
    rcases h1 with h1 | h1
    · exact h1.elim
    · omega
/-- a call that takes the blocks of H, which stand at the list's end, and leaves H' of them -/
theorem St.callE (h : St w0 Sx (Ha ++ H) w) (k : St w (InH H) H' w') : St w0 Sx (Ha ++ H') w' := by
  have := St.callM (Ha := Ha) (Hc := []) (by simpa using h) k
  simpa using this
theorem St.front {y : Nat × Obj} (h : St w0 Sx (H ++ [y]) w) : St w0 Sx (y :: H) w := h.perm (List.perm_append_singleton y H).symm
theorem St.cC {X Hr : List (Nat × Obj)} (h : St w0 Sx (X ++ (H ++ Hr)) w) (k : St w (InH H) H' w') : St w0 Sx (X ++ (H' ++ Hr)) w' := by
  have := St.callM (Ha := X) (Hc := Hr) (by simpa using h) k
  simpa using this
theorem St.hC {X Hr : List (Nat × Obj)} (h : St w0 Sx (X ++ (H ++ Hr)) w) : Has w H :=
  h.has.sublist ((List.sublist_append_left H Hr).trans (List.sublist_append_right X _))
theorem St.hR {X Hr : List (Nat × Obj)} (h : St w0 Sx (X ++ (H ++ Hr)) w) : Has w Hr :=
  h.has.sublist ((List.sublist_append_right H Hr).trans (List.sublist_append_right X _))
theorem St.hasE (h : St w0 Sx (Ha ++ H) w) : Has w H := h.right.has
end
end Go.Proofs.YtndkifkaejmibaaGreatDoor

namespace Go.Proofs.YtndkifkaejmibaaGreatDoor
open Go.RowKit
set_option linter.unusedVariables false
set_option linter.unusedSimpArgs false

inductive CK where
  | i (k : IntKind)
  | b
  | s
  deriving DecidableEq
def fit1 : CK → Value → Bool
  | .i k, .int k' _ => k == k'
  | .b, .bool _ => true
  | .s, .string _ => true
  | _, _ => false
def fitK : List CK → List Value → Bool
  | [], [] => true
  | k :: ks, x :: xs => fit1 k x && fitK ks xs
  | _, _ => false
def eq1 : Value → Value → Bool
  | .int _ a, .int _ b => a == b
  | .bool a, .bool b => a == b
  | .string a, .string b => a.toList == b.toList
  | _, _ => true
def eqCells : List Value → List Value → Bool
  | x :: xs, y :: ys => eq1 x y && eqCells xs ys
  | _, _ => true

def flatFs (P : Program) (F : TypeId → Option (List CK)) : List Field → Nat → Option (List CK)
  | [], _ => some []
  | f :: fs, o => if (f.name ≠ "_" ∧ f.offset = o) ∧ (P.info? f.type).isSome = true then
      match F f.type with
      | some ks => if szB P f.type = ks.length then (flatFs P F fs (o + ks.length)).map (ks ++ ·) else none
      | none => none
    else none
def flatB (P : Program) : Nat → TypeId → Option (List CK)
  | 0, _ => none
  | d + 1, t => match P.underlying t with
    | some .bool => some [.b]
    | some (.int k) => some [.i k]
    | some .string => some [.s]
    | some (.struct fs) => if P.stoodInHeld t then none else flatFs P (flatB P d) fs.toList 0
    | _ => none

def valOf (P : Program) (t : TypeId) (xs : List Value) : Value := match P.underlying t with
  | some (.struct _) => .agg ⟨xs⟩
  | _ => xs.headD undef

theorem fitK_append : ∀ {ks ls : List CK} {xs : List Value}, fitK (ks ++ ls) xs = true → fitK ks (xs.take ks.length) = true ∧ fitK ls (xs.drop ks.length) = true
  | [], ls, xs, h => ⟨by simp [fitK], by simpa using h⟩
  | k :: ks, ls, [], h => by simp [fitK] at h
  | k :: ks, ls, x :: xs, h => by
    simp only [List.cons_append, fitK, Bool.and_eq_true] at h
    obtain ⟨h1, h2⟩ := fitK_append h.2
    exact ⟨by simp only [List.length_cons, List.take_succ_cons, fitK, Bool.and_eq_true]; exact ⟨h.1, h1⟩, by simpa using h2⟩
theorem fitK_len : ∀ {ks : List CK} {xs : List Value}, fitK ks xs = true → xs.length = ks.length
  | [], [], _ => rfl
  | [], _ :: _, h => by simp [fitK] at h
  | _ :: _, [], h => by simp [fitK] at h
  | k :: ks, x :: xs, h => by
    simp only [fitK, Bool.and_eq_true] at h
    simp [fitK_len h.2]
theorem eqCells_append : ∀ {xs ys us vs : List Value}, xs.length = ys.length → eqCells (xs ++ us) (ys ++ vs) = (eqCells xs ys && eqCells us vs)
  | [], [], us, vs, _ => by simp [eqCells]
  | [], _ :: _, _, _, h => by simp at h
  | _ :: _, [], _, _, h => by simp at h
  | x :: xs, y :: ys, us, vs, h => by
    simp only [List.cons_append, eqCells, eqCells_append (by simpa using h), Bool.and_assoc]
theorem bytes_inj {a b : ByteArray} (h : a.toList = b.toList) : a = b := by
  obtain ⟨⟨x⟩⟩ := a
  obtain ⟨⟨y⟩⟩ := b
  rw [ByteArray.toList_eq, ByteArray.toList_eq] at h
  simp only at h
  rw [h]
theorem eqCells_eq : ∀ {ks : List CK} {xs ys : List Value}, fitK ks xs = true → fitK ks ys = true → (eqCells xs ys = true ↔ xs = ys)
  | [], [], [], _, _ => by simp [eqCells]
  | [], _ :: _, _, h, _ => by simp [fitK] at h
  | [], [], _ :: _, _, h => by simp [fitK] at h
  | _ :: _, [], _, h, _ => by simp [fitK] at h
  | _ :: _, _ :: _, [], _, h => by simp [fitK] at h
  | k :: ks, x :: xs, y :: ys, hx, hy => by
    simp only [fitK, Bool.and_eq_true] at hx hy
    have ih := eqCells_eq hx.2 hy.2
    have h1 : eq1 x y = true ↔ x = y := by
      have hx1 := hx.1
      have hy1 := hy.1
      cases k <;> cases x <;> simp [fit1] at hx1 <;> cases y <;> simp [fit1] at hy1
      · subst hx1; subst hy1; simp [eq1]
      · simp [eq1]
      · rename_i a b
        simp only [eq1, beq_iff_eq, Value.string.injEq]
        exact ⟨bytes_inj, fun e => by rw [e]⟩
    simp only [eqCells, Bool.and_eq_true, ih, h1, List.cons.injEq]

section
variable {P : Program}
theorem sem_ok_bind {α β : Type} {m : Sem α} {k : α → Sem β} {w w' : World} {x : α} (h : m.run P w = .ok x w') : (m >>= k).run P w = (k x).run P w' := by
  simp [Sem.run_bind, h]
theorem part_flat {d : Nat} {t : TypeId} {ks : List CK} (hf : flatB P d t = some ks) (hi : (P.info? t).isSome = true) (hz : szB P t = ks.length) {xs : List Value} {o : Nat} (hfit : fitK ks ((xs.drop o).take ks.length) = true) (w : World) :
    (part t ⟨xs⟩ o).run P w = .ok (valOf P t ((xs.drop o).take ks.length)) w := by
  obtain ⟨i, hi⟩ := Option.isSome_iff_exists.1 hi
  simp only [szB, hi, Option.map_some, Option.getD_some] at hz
  have one : ∀ {k : CK}, ks = [k] → ∃ v, xs[o]? = some v ∧ (xs.drop o).take ks.length = [v] := by
    rintro k rfl
    have hl := fitK_len hfit
    simp only [List.length_take, List.length_drop, List.length_cons, List.length_nil] at hl
    have hlt : o < xs.length := by omega
    refine ⟨xs[o], List.getElem?_eq_getElem hlt, ?_⟩
    rw [List.drop_eq_getElem_cons hlt]; rfl
  cases d with
  | zero => simp [flatB] at hf
  | succ d =>
    simp only [flatB] at hf
    unfold part isAgg
    split at hf
    · rename_i hu
      injection hf with hf
      obtain ⟨v, hv, hv2⟩ := one hf.symm
      rw [hv2]
      simp [Sem.run_bind, run_underlying' hu, hv, valOf, hu]
    · rename_i k hu
      injection hf with hf
      obtain ⟨v, hv, hv2⟩ := one hf.symm
      rw [hv2]
      simp [Sem.run_bind, run_underlying' hu, hv, valOf, hu]
    · rename_i hu
      injection hf with hf
      obtain ⟨v, hv, hv2⟩ := one hf.symm
      rw [hv2]
      simp [Sem.run_bind, run_underlying' hu, hv, valOf, hu]
    · rename_i fs hu
      simp only [Sem.run_bind, run_underlying' hu, Result.andThen_ok, Sem.run_pure, if_true, run_sizeOf' hi, valOf, hu, hz]
      congr 2
      apply Array.ext'
      rw [Array.toList_extract, List.extract_eq_take_drop]
      simp
    · cases hf

theorem eqFs_flat (d : Nat) (ih : ∀ (t : TypeId) (ks : List CK), flatB P d t = some ks → ∀ (xs ys : List Value), fitK ks xs = true → fitK ks ys = true → ∀ (D : Nat) (w : World), (Op.equalIn (d + D) t (valOf P t xs) (valOf P t ys)).run P w = .ok (eqCells xs ys) w) (xs ys : List Value) (D : Nat) (w : World) : ∀ (fs : List Field) (o : Nat) (ks : List CK), flatFs P (flatB P d) fs o = some ks → fitK ks (xs.drop o) = true → fitK ks (ys.drop o) = true →
    (Op.eqFields (d + D) ⟨xs⟩ ⟨ys⟩ fs).run P w = .ok (eqCells (xs.drop o) (ys.drop o)) w := by
  intro fs
  induction fs with
  | nil =>
    intro o ks hf hx hy
    simp only [flatFs, Option.some.injEq] at hf
    subst hf
    have h1 := fitK_len hx
    have h2 : xs.drop o = [] := List.eq_nil_of_length_eq_zero h1
    simp [Op.eqFields, h2, eqCells]
  | cons f fs ihf =>
    intro o ks hf hx hy
    simp only [flatFs] at hf
    split at hf
    · rename_i hc
      obtain ⟨⟨hn, rfl⟩, hi⟩ := hc
      split at hf
      · rename_i k1 hk1
        split at hf
        · rename_i hz
          cases hr : flatFs P (flatB P d) fs (f.offset + k1.length) with
          | none => simp [hr] at hf
          | some k2 =>
            simp only [hr, Option.map_some, Option.some.injEq] at hf
            subst hf
            obtain ⟨hx1, hx2⟩ := fitK_append hx
            obtain ⟨hy1, hy2⟩ := fitK_append hy
            simp only [Op.eqFields, if_pos hn]
            rw [sem_ok_bind (part_flat hk1 hi hz hx1 w), sem_ok_bind (part_flat hk1 hi hz hy1 w), sem_ok_bind (ih f.type k1 hk1 _ _ hx1 hy1 D w)]
            have hl1 := fitK_len hx1
            have hl2 := fitK_len hy1
            have e : eqCells (xs.drop f.offset) (ys.drop f.offset) = (eqCells ((xs.drop f.offset).take k1.length) ((ys.drop f.offset).take k1.length) && eqCells ((xs.drop f.offset).drop k1.length) ((ys.drop f.offset).drop k1.length)) := by
              rw [← eqCells_append (by rw [hl1, hl2]), List.take_append_drop, List.take_append_drop]
            rw [e]
            cases hq : eqCells ((xs.drop f.offset).take k1.length) ((ys.drop f.offset).take k1.length)
            · simp
            · simp only [Bool.not_true, Bool.false_eq_true, if_false, Bool.true_and]
              rw [List.drop_drop, List.drop_drop] at *
              exact ihf (f.offset + k1.length) k2 hr hx2 hy2
        · cases hf
      · cases hf
    · cases hf
theorem eqIn_flat (d : Nat) : ∀ (t : TypeId) (ks : List CK), flatB P d t = some ks → ∀ (xs ys : List Value), fitK ks xs = true → fitK ks ys = true → ∀ (D : Nat) (w : World), (Op.equalIn (d + D) t (valOf P t xs) (valOf P t ys)).run P w = .ok (eqCells xs ys) w := by
  induction d with
  | zero => intro t ks hf; simp [flatB] at hf
  | succ d ih =>
    intro t ks hf xs ys hx hy D w
    rw [show d + 1 + D = (d + D) + 1 by omega]
    simp only [flatB] at hf
    have one : ∀ {k : CK} {zs : List Value}, ks = [k] → fitK ks zs = true → ∃ v, zs = [v] ∧ fit1 k v = true := by
      rintro k zs rfl h
      match zs, h with
      | [v], h => exact ⟨v, rfl, by simpa [fitK] using h⟩
      | [], h => simp [fitK] at h
      | _ :: _ :: _, h => simp [fitK] at h
    split at hf
    · rename_i hu
      injection hf with hf
      obtain ⟨u, rfl, hu1⟩ := one hf.symm hx
      obtain ⟨v, rfl, hv1⟩ := one hf.symm hy
      cases u <;> simp [fit1] at hu1
      cases v <;> simp [fit1] at hv1
      simp [valOf, hu, eqCells, eq1, Op.equalIn, run_underlying' hu, Sem.run_bind]
    · rename_i k hu
      injection hf with hf
      obtain ⟨u, rfl, hu1⟩ := one hf.symm hx
      obtain ⟨v, rfl, hv1⟩ := one hf.symm hy
      cases u <;> simp [fit1] at hu1
      cases v <;> simp [fit1] at hv1
      subst hu1; subst hv1
      simp [valOf, hu, eqCells, eq1, Op.equalIn, run_underlying' hu, Sem.run_bind]
    · rename_i hu
      injection hf with hf
      obtain ⟨u, rfl, hu1⟩ := one hf.symm hx
      obtain ⟨v, rfl, hv1⟩ := one hf.symm hy
      cases u <;> simp [fit1] at hu1
      cases v <;> simp [fit1] at hv1
      simp [valOf, hu, eqCells, eq1, Op.equalIn, run_underlying' hu, Sem.run_bind, beq_toListBytes]
    · rename_i fs hu
      split at hf
      · cases hf
      · rename_i hs
        have hfs : P.fieldsOf t = fs := by simp [Program.fieldsOf, hu]
        have e1 : ∀ zs, valOf P t zs = .agg ⟨zs⟩ := fun zs => by simp [valOf, hu]
        rw [e1, e1, run_equalIn_struct w (d + D) t _ _ (by rw [hfs]; exact hu) (by simpa using hs), hfs]
        have := eqFs_flat d ih xs ys D w fs.toList 0 ks hf (by simpa using hx) (by simpa using hy)
        simpa using this
    · cases hf
def eqsB (P : Program) (x : Nat × List CK) : Bool := structB P x.1 && (flatB P 8 x.1 == some x.2) && !(P.eqGuardType P.depth x.1)
section
variable {n : Nat} {L : Fr} {w : World} {ty t t' : TypeId} {xo yo : Operand}
theorem struct_eq {ks : List CK} {xs ys : List Value} (h : eqsB P (t, ks) = true) (hx : fitK ks xs = true) (hy : fitK ks ys = true) (w : World) : (Op.equalIn 10000 t (.agg ⟨xs⟩) (.agg ⟨ys⟩)).run P w = .ok (@decide (xs = ys) (Classical.propDecidable _)) w := by
  simp only [eqsB, Bool.and_eq_true] at h
  obtain ⟨fs, hs⟩ := structB_spec h.1.1
  have hf : flatB P 8 t = some ks := by simpa using h.1.2
  have e1 : ∀ zs, valOf P t zs = .agg ⟨zs⟩ := fun zs => by simp [valOf, hs]
  have := eqIn_flat 8 t ks hf xs ys hx hy 9992 w
  rw [e1, e1] at this
  rw [this]
  congr 1
  have hiff := eqCells_eq hx hy
  cases hq : eqCells xs ys
  · have hne : ¬ xs = ys := fun e => by rw [hiff.2 e] at hq; cases hq
    simp [hne]
  · simp [hiff.1 hq]
theorem Ev_struct_eql {ks : List CK} {xs ys : List Value} (h : eqsB P (t, ks) = true) (hx : opd L xo = some (.agg ⟨xs⟩)) (hy : opd L yo = some (.agg ⟨ys⟩)) (hfx : fitK ks xs = true) (hfy : fitK ks ys = true) :
    Ev P L (.binOp .eql t xo yo t') ty w (.bool (@decide (xs = ys) (Classical.propDecidable _))) w := by
  refine ⟨fun n a ha _ _ _ _ => ?_⟩
  have hg : P.eqGuardType P.depth t = false := by simp only [eqsB, Bool.and_eq_true] at h; simpa using h.2
  simp only [execOp, ha.eval hx, ha.eval hy, Sem.run_bind, run_eqGuard_agg w .eql t xo yo _ _ hg, Result.andThen_ok, run_eql_struct, struct_eq h hfx hfy, Sem.run_pure]
theorem Ev_struct_neq {ks : List CK} {xs ys : List Value} (h : eqsB P (t, ks) = true) (hx : opd L xo = some (.agg ⟨xs⟩)) (hy : opd L yo = some (.agg ⟨ys⟩)) (hfx : fitK ks xs = true) (hfy : fitK ks ys = true) :
    Ev P L (.binOp .neq t xo yo t') ty w (.bool (@decide (¬ xs = ys) (Classical.propDecidable _))) w := by
  refine ⟨fun n a ha _ _ _ _ => ?_⟩
  have hg : P.eqGuardType P.depth t = false := by simp only [eqsB, Bool.and_eq_true] at h; simpa using h.2
  simp only [execOp, ha.eval hx, ha.eval hy, Sem.run_bind, run_eqGuard_agg w .neq t xo yo _ _ hg, Result.andThen_ok, run_neq_struct, struct_eq h hfx hfy, Sem.run_pure]
  congr 3
  by_cases e : xs = ys <;> simp [e]
def mapB (P : Program) (t : Nat) : Bool := match P.underlying t with | some (.map _ _) => true | _ => false
theorem Ev_map_nil_eql {r : Option Nat} (ht : mapB P t = true) (hx : opd L xo = some (.map r)) (hy : opd L yo = some (.map none)) : Ev P L (.binOp .eql t xo yo t') ty w (.bool r.isNone) w := by
  unfold mapB at ht
  split at ht
  · rename_i k e hm
    exact Ev_eq_of hx hy (eqGuard_at_map ..) (by cases r <;> rfl) (fun d => run_equalIn_map_nil w (d + 1) t k e r hm)
  · cases ht
theorem Ev_slice_nil_eql {e z y : Nat} {T : Tys} (hT : T.Ok P) {a : Option Addr} {l c : Nat} (ht : asc T.sl t = some (e, z, y)) (hx : opd L xo = some (.slice a l c)) (hy : opd L yo = some (.slice none 0 0)) : Ev P L (.binOp .eql t xo yo t') ty w (.bool a.isNone) w :=
  Ev_eq_of hx hy (eqGuard_at_slice ..) (by cases a <;> rfl) (fun d => run_equalIn_slice_nil w (d + 1) t e a l c (ok_sl hT ht).1)
theorem Ev_slice_nil_neq {e z y : Nat} {T : Tys} (hT : T.Ok P) {a : Option Addr} {l c : Nat} (ht : asc T.sl t = some (e, z, y)) (hx : opd L xo = some (.slice a l c)) (hy : opd L yo = some (.slice none 0 0)) : Ev P L (.binOp .neq t xo yo t') ty w (.bool !a.isNone) w :=
  Ev_ne_of hx hy (eqGuard_at_slice ..) (by cases a <;> rfl) (fun d => run_equalIn_slice_nil w (d + 1) t e a l c (ok_sl hT ht).1)
end
end
end Go.Proofs.YtndkifkaejmibaaGreatDoor

namespace Go.Proofs.YtndkifkaejmibaaGreatDoor
open Go.RowKit
set_option linter.unusedVariables false
set_option linter.unusedSimpArgs false

section
variable {P : Program} {ops : Array Oper} {md : Region.Mode} {S : World → Prop} {Q : Exit → Act → World → Prop}

def wpAnyG (P : Program) (md : Region.Mode) (ops : Array Oper) (Q : Exit → Act → World → Prop) (S : World → Prop) (n : Nat) (LL : Array Bool → Act → World → Prop) : Nat → Array Bool → Act → World → Prop
  | 0, listed, a, w => LL listed a w
  | f + 1, listed, a, w => Region.ready md ops listed ≠ [] ∧ ∀ i ∈ Region.ready md ops listed, i < n ∧ wpOp P ops Q i (fun a' w' => S w' ∧ wpAnyG P md ops Q S n LL f (listed.setIfInBounds i true) a' w') a w

theorem wpAny_of_headG {n g : Nat} {LL : Array Bool → Act → World → Prop} (hL : ∀ listed a w, LL listed a w → wpAny P md ops Q g listed a w) :
    ∀ (f : Nat) (listed : Array Bool) (a : Act) (w : World), wpAnyG P md ops Q S n LL f listed a w → wpAny P md ops Q (f + g) listed a w
  | 0, listed, a, w, h => by rw [Nat.zero_add]; exact hL _ _ _ h
  | f + 1, listed, a, w, h => by
    rw [show f + 1 + g = (f + g) + 1 by omega]
    exact ⟨fun h0 => absurd h0 h.1, fun i hi => wpOp_mono (fun a' w' h' => wpAny_of_headG hL f _ a' w' h'.2) (h.2 i hi).2⟩

theorem wpAnyG_first {n i : Nat} {oi : Oper} {v : Value} {LL : Array Bool → Act → World → Prop} (hi : ops[i]? = some oi) (hsel : ∀ (j : Nat) (o : Oper) cs b, ops[j]? = some o → o.op ≠ .select cs b)
    (hs : Region.sinkB md ops n = true) (hc : Region.chainB md ops n = true) (hn : n < ops.size) (hin : i < n) (hQ : ∀ c a w, ¬ Q (.panic c) a w)
    (hdone : ∀ listed a w, LL listed a w → ∀ j ∈ Region.ready md ops listed, n ≤ j) :
    ∀ (f : Nat) (listed : Array Bool) (a : Act) (w : World), HeadInv md ops n listed →
      (∀ j oj, ops[j]? = some oj → j ≠ i → listed.getD j true = false → (∀ e ∈ oj.after, Region.binds md e = true → e.on ≠ i) → oi.apart ops oj = true) →
      i ∈ Region.ready md ops listed → YieldsIf P ops S oi v a → S w →
      wpAnyG P md ops Q S n LL f (listed.setIfInBounds i true) (a.put oi.dst v) w → wpAnyG P md ops Q S n LL (f + 1) listed a w := by
  intro f
  induction f with
  | zero =>
    intro listed a w inv _ hr hy hS H
    have hun := (mem_ready.1 hr).1
    refine ⟨fun h => (by rw [h] at hr; cases hr), fun j hj => ?_⟩
    have hjn : j < n := by
      rcases Nat.lt_or_ge j n with h | h
      · exact h
      · exact absurd hj (tail_waits hs hc hn inv _ i rfl hin hun j h)
    refine ⟨hjn, ?_⟩
    by_cases hji : j = i
    · subst hji; exact hy.wpOp hi hS ⟨hS, H⟩
    · have := hdone _ _ _ H j (ready_mono hj hji)
      omega
  | succ f ih =>
    intro listed a w inv hfree hr hy hS H
    have hun := (mem_ready.1 hr).1
    refine ⟨fun h => (by rw [h] at hr; cases hr), fun j hj => ?_⟩
    have hjn : j < n := by
      rcases Nat.lt_or_ge j n with h | h
      · exact h
      · exact absurd hj (tail_waits hs hc hn inv _ i rfl hin hun j h)
    refine ⟨hjn, ?_⟩
    by_cases hji : j = i
    · subst hji; exact hy.wpOp hi hS ⟨hS, H⟩
    · have h1 := (H.2 j (ready_mono hj hji)).2
      obtain ⟨hjun, oj, hoj, hall⟩ := mem_ready.1 hj
      have hnot : ∀ e ∈ oj.after, Region.binds md e = true → e.on ≠ i := fun e he hb heq => by
        have h1 := hall e he hb
        rw [heq, getD_both hun] at h1
        cases h1
      have h2 := wpOp_putIf hoj (hfree j oj hoj hji hjun hnot) (fun cs b => hsel i oi cs b hi) (fun cs b => hsel j oj cs b hoj) (fun c a w h => absurd h (hQ _ _ _)) hy h1
      have hfree' : ∀ k ok, ops[k]? = some ok → k ≠ i → (listed.setIfInBounds j true).getD k true = false →
          (∀ e ∈ ok.after, Region.binds md e = true → e.on ≠ i) → oi.apart ops ok = true := fun k ok hk hki hun hno => by
        refine hfree k ok hk hki ?_ hno
        by_cases hjk : j = k
        · subst hjk; exact hjun
        · rw [getD_set_ne true hjk] at hun; exact hun
      refine wpOp_mono (fun a' w' h3 => ⟨h3.2.1, ih (listed.setIfInBounds j true) a' w' (inv.set hj hjn) hfree' (ready_mono hr (Ne.symm hji)) h3.1 h3.2.1 ?_⟩) h2
      rw [Array.setIfInBounds_comm _ _ hji]
      exact h3.2.2

/-- the head's operations: what only reads may be taken at its place in the list; what makes new memory must be the only one that may come up -/
def lexG (md : Region.Mode) (ops : Array Oper) (g : Nat) : List Bool → Nat → Array Bool → Bool
  | [], k, listed => Region.seqB md ops g k listed
  | b :: bs, k, listed => (bif b then decide (Region.ready md ops listed = [k]) else (Region.ready md ops listed).contains k && Region.free md ops listed k) && lexG md ops g bs (k + 1) (listed.setIfInBounds k true)
def lexGB (md : Region.Mode) (ops : Array Oper) (imps : List Bool) : Bool :=
  Region.noSelect ops && decide (imps.length < ops.size) && Region.sinkB md ops imps.length && Region.chainB md ops imps.length && lexG md ops (ops.size - imps.length) imps 0 (Array.replicate ops.size false)

def wpHeadG (P : Program) (ops : Array Oper) (S : World → Prop) (K : Act → World → Prop) : List Oper → List Bool → Act → World → Prop
  | o :: l, true :: m, a, w => wpList P ops (fun e a' w' => e = .normal ∧ S w' ∧ wpHeadG P ops S K l m a' w') [o] a w
  | o :: l, false :: m, a, w => ∃ v, YieldsIf P ops S o v a ∧ S w ∧ wpHeadG P ops S K l m (a.put o.dst v) w
  | _, _, a, w => K a w

theorem wp_weaken {o : Oper} {a : Act} {w : World} {K : Act → World → Prop} {Q1 Q2 : Exit → Act → World → Prop} (h1 : ∀ c a w, ¬ Q1 (.panic c) a w) (h2 : ¬ LetsOut Q1) (h : o.wp P a w K Q1) : o.wp P a w K Q2 := by
  unfold Oper.wp at *
  generalize (execOp a.eval o).run P w = r at *
  cases r with
  | ok n w' =>
    cases n <;> simp only [Oper.upon] at h ⊢ <;>
      first
        | exact h
        | exact Calls.mono h (fun e w'' he => by cases e <;> first | exact he | exact absurd he (h1 _ _ _) | exact absurd he h2)
  | halt x w' => cases x <;> simp only [Oper.upon] at h ⊢ <;> exact absurd h (h1 _ _ _)

end

/-! ## as goals -/
section
variable {T : Tys} {P : Program} {n : Nat} {ops : Array Oper} {Q : Exit → Act → World → Prop} {L L' : Fr} {w w' w0 w1 : World} {rest : List Oper} {ty t t' : TypeId} {imps : List Bool}
  {Sx : Nat → Prop} {H HG : List (Nat × Obj)} {pos : String} {af : Array Edge} {g : Option (Nat × Bool)} {K : Act → World → Prop}
structure GL (P : Program) (n : Nat) (ops : Array Oper) (wb : World) (K : Act → World → Prop) (rest : List Oper) (imps : List Bool) (L : Fr) (w : World) : Prop where
  run : ∀ a, Fits n L a → wpHeadG P ops (fun w' => St wb NoneS [] w') K rest imps a w
/-- an operation that makes new memory: by the rules of a list of one -/
def GK (P : Program) (ops : Array Oper) (wb : World) (K : Act → World → Prop) (rest : List Oper) (imps : List Bool) : Exit → Act → World → Prop := fun e a' w' => e = .normal ∧ St wb NoneS [] w' ∧ wpHeadG P ops (fun w' => St wb NoneS [] w') K rest imps a' w'
theorem At_calm {L0 : Fr} (h : At n Q .normal L0 w) : At n (fun e a w => (∀ c, e ≠ .panic c) ∧ Q e a w) .normal L0 w := ⟨fun a ha => ⟨fun c h => (by cases h), h.run a ha⟩⟩
end
end Go.Proofs.YtndkifkaejmibaaGreatDoor

namespace Go.Proofs.YtndkifkaejmibaaGreatDoor
open Go.RowKit
set_option linter.unusedVariables false
set_option linter.unusedSimpArgs false
section
variable {α : Type} {f : α → List Value} {z : Nat}
theorem flat_len (hz : ∀ a, (f a).length = z) : ∀ (l : List α), (l.flatMap f).length = l.length * z
  | [] => by simp
  | x :: l => by rw [List.flatMap_cons, List.length_append, hz, flat_len hz l, List.length_cons, Nat.add_mul]; omega
theorem flat_drop (hz : ∀ a, (f a).length = z) : ∀ (l : List α) (i : Nat), i ≤ l.length → (l.flatMap f).drop (i * z) = (l.drop i).flatMap f
  | l, 0, _ => by simp
  | [], i + 1, h => by simp at h
  | x :: l, i + 1, h => by
    rw [List.flatMap_cons, Nat.add_mul, Nat.one_mul, Nat.add_comm, List.drop_append, hz, List.drop_eq_nil_of_le (by rw [hz]; omega)]
    have : z + i * z - z = i * z := by omega
    rw [this, List.nil_append, List.drop_succ_cons]
    exact flat_drop hz l i (by simpa using h)
theorem flat_take (hz : ∀ a, (f a).length = z) {l : List α} {i : Nat} {x : α} (h : l[i]? = some x) (rs : List Value) : ((l.flatMap f ++ rs).drop (i * z)).take z = f x := by
  have hi := (List.getElem?_eq_some_iff.1 h).1
  have h2 : i * z + z ≤ l.length * z := by
    have := Nat.mul_le_mul_right z (show i + 1 ≤ l.length by omega)
    rw [Nat.add_mul, Nat.one_mul] at this; exact this
  rw [List.drop_append_of_le_length (by rw [flat_len hz]; omega), flat_drop hz l i (by omega), List.drop_eq_getElem_cons hi, (List.getElem?_eq_some_iff.1 h).2, List.flatMap_cons, List.append_assoc]
  have := hz x
  rw [← this, List.take_left]
theorem flat_cell (hz : ∀ a, (f a).length = z) {l : List α} {i : Nat} {x : α} (h : l[i]? = some x) (rs : List Value) {j : Nat} {c : Value} (hj : (f x)[j]? = some c) : (l.flatMap f ++ rs)[i * z + j]? = some c := SlAt.cell (flat_take hz h rs) hj
theorem flat_set (hz : ∀ a, (f a).length = z) {l : List α} {i : Nat} (y : α) (hi : i < l.length) (rs : List Value) : spl (l.flatMap f ++ rs) (i * z) (f y) = (l.set i y).flatMap f ++ rs := by
  have h2 : i * z + z ≤ l.length * z := by
    have := Nat.mul_le_mul_right z (show i + 1 ≤ l.length by omega)
    rw [Nat.add_mul, Nat.one_mul] at this; exact this
  have hl := flat_len hz l
  rw [spl_eq _ _ _ (by rw [List.length_append, hl, hz]; omega), hz]
  have e1 : (l.flatMap f ++ rs).take (i * z) = (l.take i).flatMap f := by
    have hlt : (List.take i l).length = i := by rw [List.length_take]; omega
    have h3 := flat_len hz (l.take i)
    rw [hlt] at h3
    conv => lhs; rw [← List.take_append_drop i l, List.flatMap_append, List.append_assoc]
    rw [← h3, List.take_left]
  have e2 : (l.flatMap f ++ rs).drop (i * z + z) = (l.drop (i + 1)).flatMap f ++ rs := by
    have : i * z + z = (i + 1) * z := by rw [Nat.add_mul, Nat.one_mul]
    rw [this, List.drop_append_of_le_length (by rw [hl]; exact Nat.mul_le_mul_right z (by omega)), flat_drop hz l (i + 1) (by omega)]
  rw [e1, e2, List.set_eq_take_append_cons_drop, if_pos hi, List.flatMap_append, List.flatMap_cons]
  simp only [List.append_assoc]
theorem flat_room (hz : ∀ a, (f a).length = z) {l : List α} {i : Nat} (hi : i < l.length) (rs : List Value) : Nat.ble (i * z + z) (l.flatMap f ++ rs).length = true := by
  have h2 : i * z + z ≤ l.length * z := by
    have := Nat.mul_le_mul_right z (show i + 1 ≤ l.length by omega)
    rw [Nat.add_mul, Nat.one_mul] at this; exact this
  apply Nat.ble_eq_true_of_le
  rw [List.length_append, flat_len hz]; omega
end
end Go.Proofs.YtndkifkaejmibaaGreatDoor
