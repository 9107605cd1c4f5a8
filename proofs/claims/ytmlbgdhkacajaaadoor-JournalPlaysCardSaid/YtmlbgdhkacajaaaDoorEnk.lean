/- Rules for slices that are made and grow. No conditions. -/
import Derived.Test.YtmlbgdhkacajaaaDoorSl
import Derived.Laws.AppendOwn
import Derived.Great.BuildSlice
namespace Go.Proofs.YtmlbgdhkacajaaaDoor
open Go.RowKit
set_option linter.unusedVariables false
set_option linter.unusedSimpArgs false

section
variable {T : Tys} {P : Program} {n : Nat} {ops : Array Oper} {Q : Exit → Act → World → Prop} {L L' : Fr} {w w' w0 : World} {rest : List Oper} {ty t t' : TypeId} {xo yo zo : Operand}
  {Sx : Nat → Prop} {H H0 H1 H2 : List (Nat × Obj)} {pos : String} {af : Array Edge} {g : Option (Nat × Bool)}

/-- one known block gives way to another: itself changed, or a new one -/
theorem St.turn (h : St w0 Sx H w) {i b b' : Nat} {o o' : Obj} (hi : H[i]? = some (b, o)) (hos : w'.os = w.os) (htp : w'.tape = w.tape) (hou : w'.output = w.output) (hs : w.heap.size ≤ w'.heap.size)
    (hold : ∀ k, k < w.heap.size → k ≠ b → w'.heap[k]? = w.heap[k]?) (hb' : w'.heap[b']? = some o') (hor : b' = b ∨ w.heap.size ≤ b') : St w0 Sx (H.set i (b', o')) w' := by
  have hb := h.own i b _ hi
  have hil : i < H.length := (List.getElem?_eq_some_iff.1 hi).1
  have key : ∀ (j c : Nat) (u : Obj), (H.set i (b', o'))[j]? = some (c, u) → (j = i ∧ c = b' ∧ u = o') ∨ (j ≠ i ∧ H[j]? = some (c, u)) := by
    intro j c u hj
    rw [List.getElem?_set] at hj
    split at hj
    · rename_i e; subst e
      simp only [hil, if_true, Option.some.injEq, Prod.mk.injEq] at hj
      exact .inl ⟨rfl, hj.1.symm, hj.2.symm⟩
    · rename_i e; exact .inr ⟨fun h => e h.symm, hj⟩
  have far : ∀ (j c : Nat) (u : Obj), j ≠ i → H[j]? = some (c, u) → c ≠ b ∧ c < w.heap.size := by
    intro j c u hne hj
    exact ⟨by rintro rfl; exact hne (h.apart j i c c u _ hj hi rfl), h.lt hj⟩
  refine ⟨hos.trans h.os, htp.trans h.tape, hou.trans h.output, Nat.le_trans h.size hs, ?_, ?_, ?_⟩
  · intro k hk hS
    have hkb : k ≠ b := by
      intro e
      rcases hb.2 with h1 | h1
      · exact hS (e ▸ h1)
      · omega
    rw [hold k (Nat.lt_of_lt_of_le hk h.size) hkb]; exact h.old k hk hS
  · intro j c u hj
    rcases key j c u hj with ⟨rfl, rfl, rfl⟩ | ⟨hne, hj'⟩
    · refine ⟨hb', ?_⟩
      rcases hor with e | e
      · rw [e]; exact hb.2
      · exact Or.inr (Nat.le_trans h.size e)
    · obtain ⟨h1, h2⟩ := far j c u hne hj'
      have hc := h.own j c u hj'
      rw [hold c h2 h1]; exact hc
  · intro j k c d u x hj hk hcd
    rcases key j c u hj with ⟨rfl, rfl, rfl⟩ | ⟨hne, hj'⟩ <;> rcases key k d x hk with ⟨rfl, rfl, rfl⟩ | ⟨hne', hk'⟩
    · rfl
    · obtain ⟨h1, h2⟩ := far k d x hne' hk'
      rcases hor with e | e
      · exact absurd (hcd.symm.trans e) h1
      · omega
    · obtain ⟨h1, h2⟩ := far j c u hne hj'
      rcases hor with e | e
      · exact absurd (hcd.trans e) h1
      · omega
    · exact h.apart j k c d u x hj' hk' hcd

theorem oneV_cell {v : Value} (h : oneV v = true) : v.oneCell' = true := by cases v <;> first | rfl | cases h

/-! ## A slice of one's own -/

/-- the value is a slice of k elements, of z cells each, whose cells are xs: it has no block, or one of its own -/
def OwnSl (v : Value) (e : TypeId) (z : Nat) (xs : List Value) (k : Nat) (H1 : List (Nat × Obj)) : Prop :=
  xs.length = k * z ∧ ((v = .slice none 0 0 ∧ k = 0 ∧ H1 = []) ∨ ∃ b cap rs, v = .slice (some ⟨b, 0, none⟩) k cap ∧ k ≤ cap ∧ rs.length = (cap - k) * z ∧ H1 = [(b, blk (xs ++ rs) e)])

theorem OwnSl.nil (e : TypeId) (z : Nat) : OwnSl (.slice none 0 0) e z [] 0 [] := ⟨by simp, .inl ⟨rfl, rfl, rfl⟩⟩
theorem OwnSl.some_ {v : Value} {e : TypeId} {z k : Nat} {xs : List Value} (h : OwnSl v e z xs k H1) (hk : 0 < k) : ∃ b cap rs, v = .slice (some ⟨b, 0, none⟩) k cap ∧ k ≤ cap ∧ rs.length = (cap - k) * z ∧ H1 = [(b, blk (xs ++ rs) e)] := by
  rcases h.2 with ⟨_, h0, _⟩ | h
  · omega
  · exact h
theorem OwnSl.len {v : Value} {e : TypeId} {z k : Nat} {xs : List Value} (h : OwnSl v e z xs k H1) : ∃ a cap, v = .slice a k cap := by
  rcases h.2 with ⟨rfl, rfl, _⟩ | ⟨b, cap, rs, rfl, _⟩
  · exact ⟨_, _, rfl⟩
  · exact ⟨_, _, rfl⟩

theorem St.left (h : St w0 Sx (H0 ++ H1) w) : St w0 Sx H0 w := h.take (fun i x hx => by
  rw [List.getElem?_append_left (List.getElem?_eq_some_iff.1 hx).1]; exact hx)

theorem Ev_append {u v v' : Value} (hx : opd L xo = some u) (hy : opd L yo = some v) (h : (Builtin.append_ #[t, t'] ty #[u, v]).run P w = .ok v' w') : Ev P L (.call ⟨.builtin .append, #[xo, yo], #[t, t']⟩) ty w v' w' := by
  refine ⟨fun n c ha _ _ _ _ => ?_⟩
  simp only [execOp, resolve, invoke, builtin, Sem.run_bind, Sem.run_pure, Result.andThen_ok, List.map_toArray, List.map_cons, List.map_nil, ha.eval hx, ha.eval hy, h]

theorem cells_at {b o : Nat} {l : List Value} {E : TypeId} {fz : Nat × Nat} {news : List Value} {m : Nat} (hb : w.heap[b]? = some (.cells ⟨l⟩ E fz)) (hn : (l.drop o).take m = news) : ∀ (j : Nat) (u : Value), news[j]? = some u → w.cell? ((⟨b, o, none⟩ : Addr).add j) = some u := by
  intro j u hj
  have e : (Addr.add ⟨b, o, none⟩ j) = ⟨b, o + j, none⟩ := by
    simp only [Addr.add]; split
    · rename_i h; rw [h]; rfl
    · rfl
  rw [e, cell_of hb]
  exact SlAt.cell hn hj

theorem WL_append {d m c b2 o2 k : Nat} {e : TypeId} {z y : Nat} {l2 news xs : List Value} {E2 : TypeId} {fz2 : Nat × Nat} {zv v : Value} (hT : T.Ok P) (ht : asc T.sl t = some (e, z, y)) (hz : asc T.zero e = some zv) (hzl : (zcells zv).length = z)
    (hg : wantB ops g L = some true) (hn : Nat.blt d n = true) (hx : opd L xo = some v) (hy : opd L yo = some (.slice (some ⟨b2, o2, none⟩) m c)) (hSt : St w0 Sx (H0 ++ H1 ++ H2) w) (ho : OwnSl v e z xs k H1)
    (hb : w.heap[b2]? = some (.cells ⟨l2⟩ E2 fz2)) (hnews : (l2.drop o2).take (m * z) = news) (hl : news.length = m * z) (h1 : news.all oneV = true) (hm : 0 < m) (hmax : k + m ≤ 140737488355328) (hby : (k + m) * y ≤ 140737488355328)
    (K : ∀ v' w' H1', OwnSl v' e z (xs ++ news) (k + m) H1' → St w0 Sx (H0 ++ H1') w' → WL P n ops Q rest ((d, v') :: L) w') : WL P n ops Q (⟨some d, .call ⟨.builtin .append, #[xo, yo], #[t, t]⟩, ty, pos, af, g⟩ :: rest) L w := by
  obtain ⟨hu, i, hi, hiz, hiy⟩ := ok_sl hT ht
  obtain ⟨i', hi', hzz⟩ := ok_zero hT hz
  have hii : i' = i := Option.some.inj (hi'.symm.trans hi)
  subst hii
  have hzs : zv.cells.size = z := by rw [zcells_cells]; simpa using hzl
  have hcell := cells_at hb hnews
  have hone : ∀ u ∈ news, u.oneCell' = true := fun u hu => oneV_cell (List.all_eq_true.1 h1 u hu)
  obtain ⟨hxl, hv⟩ := ho
  have h01 : St w0 Sx (H0 ++ H1) w := hSt.left
  rcases hv with ⟨rfl, rfl, rfl⟩ | ⟨b, cap, rs, rfl, hkc, hrs, rfl⟩
  · have hxs : xs = [] := List.eq_nil_of_length_eq_zero (by omega)
    subst hxs
    have hr := run_append_nil (P := P) w t ty e i' zv hu hi' hzz ⟨b2, o2, none⟩ m c news (by rw [hiz]; exact hl) hcell hm (by omega) (by rw [hiy]; simp only [Nat.zero_add] at hby; omega)
    refine WL_ev hg hn (Ev_append hx hy hr) ?_
    have hge := grownCap_ge w m 0 e
    have hst2 := (St.drew hSt.left.left).alloc (.cells (news.toArray ++ Builtin.zeroCells zv.cells (grownCap w m 0 e - m)) e)
    refine K _ _ [(w.heap.size, blk (news ++ (Builtin.zeroCells zv.cells (grownCap w m 0 e - m)).toList) e)] ?_ ?_
    · refine ⟨by simpa using hl, .inr ⟨w.heap.size, grownCap w m 0 e, (Builtin.zeroCells zv.cells (grownCap w m 0 e - m)).toList, by rw [Nat.zero_add], by omega, ?_, by simp⟩⟩
      simp [size_zeroCells, hzs]
    · have e1 : (Obj.cells (news.toArray ++ Builtin.zeroCells zv.cells (grownCap w m 0 e - m)) e) = blk (news ++ (Builtin.zeroCells zv.cells (grownCap w m 0 e - m)).toList) e := by
        congr 1
        apply Array.ext'
        simp
      rw [← e1]; exact hst2
  · have hib : (H0 ++ [(b, blk (xs ++ rs) e)])[H0.length]? = some (b, blk (xs ++ rs) e) := by simp
    have hblk := (h01.own _ _ _ hib).1
    have hset : ∀ (b' : Nat) (o' : Obj), (H0 ++ [(b, blk (xs ++ rs) e)]).set H0.length (b', o') = H0 ++ [(b', o')] := fun b' o' => by simp
    by_cases hroom : k + m ≤ cap
    · have hrs2 : rs.length = (cap - k) * z := hrs
      have hlen : m * z ≤ rs.length := by rw [hrs2]; exact Nat.mul_le_mul_right _ (by omega)
      have hr := run_append_room (P := P) w t ty e i' hu hi' b k cap ⟨xs ++ rs⟩ hblk ⟨b2, o2, none⟩ m c news (by rw [hiz]; exact hl) hcell hone hroom (by rw [hiz]; simp; omega)
      refine WL_ev hg hn (Ev_append hx hy hr) ?_
      have e1 : ((⟨xs ++ rs⟩ : Array Value).toList.take (k * i'.size) ++ news ++ (⟨xs ++ rs⟩ : Array Value).toList.drop (k * i'.size + news.length)) = xs ++ news ++ rs.drop news.length := by
        rw [hiz]
        simp only
        rw [← hxl, List.take_left, List.drop_append, List.drop_eq_nil_of_le (by omega)]
        simp
      rw [e1]
      refine K _ _ [(b, blk (xs ++ news ++ rs.drop news.length) e)] ⟨by simp [hxl, hl, Nat.add_mul], .inr ⟨b, cap, rs.drop news.length, rfl, hroom, ?_, rfl⟩⟩ ?_
      · rw [List.length_drop, hrs, hl, ← Nat.sub_mul, Nat.sub_sub]
      · rw [← hset]
        exact h01.turn hib rfl rfl rfl (by simp) (fun j _ hj => setRow_other w b j _ hj) (setRow_heap w b _ _ e (0, 0) hblk) (Or.inl rfl)
    · have hxat : ∀ j v, xs[j]? = some v → w.cell? ((⟨b, 0, none⟩ : Addr).add j) = some v := cells_at (m := k * z) hblk (by rw [List.drop_zero, ← hxl, List.take_left])
      have hfit : Builtin.nextslicecap (k + m) cap * i'.bytes ≤ 281474976710656 := by
        rw [hiy]; exact growslice_fits (by omega) hby
      have hr := run_append_grow (P := P) w t ty e i' zv hu hi' hzz ⟨b, 0, none⟩ k cap xs (by rw [hiz]; exact hxl) hxat ⟨b2, o2, none⟩ m c news (by rw [hiz]; exact hl) hcell (by omega) (by omega) hfit
      refine WL_ev hg hn (Ev_append hx hy hr) ?_
      have hge := grownCap_ge w (k + m) cap e
      have e1 : (Obj.cells (xs.toArray ++ news.toArray ++ Builtin.zeroCells zv.cells (grownCap w (k + m) cap e - (k + m))) e) = blk (xs ++ news ++ (Builtin.zeroCells zv.cells (grownCap w (k + m) cap e - (k + m))).toList) e := by
        congr 1
        apply Array.ext'
        simp
      refine K _ _ [(w.heap.size, blk (xs ++ news ++ (Builtin.zeroCells zv.cells (grownCap w (k + m) cap e - (k + m))).toList) e)] ⟨by simp [hxl, hl, Nat.add_mul], .inr ⟨w.heap.size, _, _, rfl, hge, ?_, rfl⟩⟩ ?_
      · simp [size_zeroCells, hzs]
      · rw [← e1]
        exact (St.drew hSt.left.left).alloc _
end
end Go.Proofs.YtmlbgdhkacajaaaDoor
