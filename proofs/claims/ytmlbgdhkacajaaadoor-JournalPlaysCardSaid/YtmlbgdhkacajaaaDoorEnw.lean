/- A string's bytes appended to a row of one's own; a builder. No conditions. -/
import Derived.Test.YtmlbgdhkacajaaaDoorEnv
import Derived.Deep.AppendSrc
import Derived.Lib.Builder
import Derived.Laws.Externs
namespace Go.Proofs.YtmlbgdhkacajaaaDoor
open Go.RowKit
set_option linter.unusedVariables false
set_option linter.unusedSimpArgs false

/-- a capacity within the model's bound -/
def capB (v : Value) : Prop := ∀ (a : Option Addr) (k c : Nat), v = .slice a k c → c ≤ maxLen
theorem capB.mk {a : Option Addr} {k c : Nat} (h : c ≤ maxLen) : capB (.slice a k c) := fun a' k' c' e => by injection e with _ _ e; exact e ▸ h
abbrev bcs (s : List UInt8) : List Value := s.map fun c => Value.int .u8 c.toNat
section
variable {T : Tys} {P : Program} {n : Nat} {ops : Array Oper} {Q : Exit → Act → World → Prop} {L L' : Fr} {w w' w0 : World} {rest : List Oper} {ty t t' : TypeId} {xo yo zo : Operand}
  {Sx : Nat → Prop} {H H0 H1 H2 : List (Nat × Obj)} {pos : String} {af : Array Edge} {g : Option (Nat × Bool)}

theorem St.storeMany {i b : Nat} {E : TypeId} : ∀ (vs : List Value) (o : Nat) {w : World} {l : List Value} {H : List (Nat × Obj)}, St w0 Sx H w → H[i]? = some (b, blk l E) → St w0 Sx (H.set i (b, blk (spl l o vs) E)) (w.setCells b o vs)
  | [], o, w, l, H, h, hi => by
    have : H.set i (b, blk l E) = H := by
      apply List.ext_getElem?
      intro j
      rw [List.getElem?_set]
      split
      · rename_i e; subst e
        obtain ⟨h1, h2⟩ := List.getElem?_eq_some_iff.1 hi
        rw [if_pos h1, hi]
      · rfl
    simpa [spl, World.setCells, this] using h
  | v :: vs, o, w, l, H, h, hi => by
    have hil := (List.getElem?_eq_some_iff.1 hi).1
    have h1 := h.store hi o v
    have hi2 : (H.set i (b, blk (l.set o v) E))[i]? = some (b, blk (l.set o v) E) := by rw [List.getElem?_set]; simp [hil]
    have h2 := St.storeMany (i := i) vs (o + 1) h1 hi2
    rw [List.set_set] at h2
    exact h2

theorem WL_appendStr {d k : Nat} {e y : Nat} {xs : List Value} {s : List UInt8} {zv v : Value} {t2 : TypeId} (hT : T.Ok P) (ht : asc T.sl t = some (e, 1, y)) (hts : mem1 T.str t2 = true) (hz : asc T.zero e = some zv) (hzl : (zcells zv).length = 1)
    (hg : wantB ops g L = some true) (hn : Nat.blt d n = true) (hx : opd L xo = some v) (hy : opd L yo = some (S s)) (hSt : St w0 Sx (H0 ++ H1 ++ H2) w) (ho : OwnSl v e 1 xs k H1) (hcb : capB v)
    (hmax : k + s.length ≤ 140737488355328) (hby : (k + s.length) * y ≤ 140737488355328)
    (K : ∀ v' w' H1', OwnSl v' e 1 (xs ++ bcs s) (k + s.length) H1' → capB v' → St w0 Sx (H0 ++ H1') w' → WL P n ops Q rest ((d, v') :: L) w') : WL P n ops Q (⟨some d, .call ⟨.builtin .append, #[xo, yo], #[t, t2]⟩, ty, pos, af, g⟩ :: rest) L w := by
  obtain ⟨hu, i, hi, hiz, hiy⟩ := ok_sl hT ht
  obtain ⟨i', hi', hzz⟩ := ok_zero hT hz
  have hii : i' = i := Option.some.inj (hi'.symm.trans hi)
  subst hii
  have hs : Go.Src P i'.size t2 (S s) s.length (bcs s) w := by
    rw [hiz]
    exact Go.Src.ofString w (ok_str hT hts) (ByteArray.mk ⟨s⟩)
  obtain ⟨a0, cap0, hv0, hle0⟩ := ho.cap
  rcases Nat.eq_zero_or_pos s.length with h0 | h0
  · have hs0 : s = [] := List.eq_nil_of_length_eq_zero h0
    subst hs0
    subst hv0
    exact WL_ev hg hn (Ev_append hx hy (run_append_nothing w t t2 ty e i' hu hi' a0 k cap0 hle0 _ hs)) (K _ _ H1 (by simpa using ho) hcb hSt.left)
  have hzs : zv.cells.size = 1 := by rw [zcells_cells]; simpa using hzl
  have h01 : St w0 Sx (H0 ++ H1) w := hSt.left
  obtain ⟨hxl, hv⟩ := ho
  have hcl : (bcs s).length = s.length := by simp
  rcases hv with ⟨rfl, rfl, rfl⟩ | ⟨b, cap, rs, rfl, hkc, hrs, rfl⟩
  · have hxs : xs = [] := List.eq_nil_of_length_eq_zero (by omega)
    subst hxs
    have hr := run_append_grow_src w t t2 ty e i' zv hu hi' hzz none 0 0 [] (run_firstCells_none w.drew i'.size 0 0 0) (S s) s.length (bcs s) hs (by omega) (by omega) (by rw [hiy]; exact growslice_fits (by omega) (by simpa using hby))
    refine WL_ev hg hn (Ev_append hx hy hr) ?_
    have hge := grownCap_ge w (0 + s.length) 0 e
    have hst2 := (St.drew hSt.left.left).alloc (.cells (([] ++ bcs s).toArray ++ Builtin.zeroCells zv.cells (grownCap w (0 + s.length) 0 e - (0 + s.length))) e)
    refine K _ _ [(w.heap.size, blk ([] ++ bcs s ++ (Builtin.zeroCells zv.cells (grownCap w (0 + s.length) 0 e - (0 + s.length))).toList) e)] ?_ (capB.mk (grownCap_le_maxLen w _ 0 e (by unfold maxLen; omega))) ?_
    · refine ⟨by simp, .inr ⟨w.heap.size, grownCap w (0 + s.length) 0 e, (Builtin.zeroCells zv.cells (grownCap w (0 + s.length) 0 e - (0 + s.length))).toList, rfl, hge, ?_, rfl⟩⟩
      simp [size_zeroCells, hzs]
    · have e1 : (Obj.cells (([] ++ bcs s).toArray ++ Builtin.zeroCells zv.cells (grownCap w (0 + s.length) 0 e - (0 + s.length))) e) = blk ([] ++ bcs s ++ (Builtin.zeroCells zv.cells (grownCap w (0 + s.length) 0 e - (0 + s.length))).toList) e := by
        congr 1
        apply Array.ext'
        simp
      rw [← e1]; exact hst2
  · have hib : (H0 ++ [(b, blk (xs ++ rs) e)])[H0.length]? = some (b, blk (xs ++ rs) e) := by simp
    have hblk := (h01.own _ _ _ hib).1
    have hset : ∀ (b' : Nat) (o' : Obj), (H0 ++ [(b, blk (xs ++ rs) e)]).set H0.length (b', o') = H0 ++ [(b', o')] := fun b' o' => by simp
    by_cases hroom : k + s.length ≤ cap
    · have hlen : s.length ≤ rs.length := by rw [hrs]; omega
      have hr := run_append_room_src w t t2 ty e i' hu hi' b 0 k cap (S s) s.length (bcs s) hs hroom (fun j hj => by
        rw [hcl] at hj
        rw [cell_of hblk, hiz, List.getElem?_eq_getElem (by simp; omega)]; rfl) (fun j hj => by simp [World.frozen?, hblk])
      refine WL_ev hg hn (Ev_append hx hy hr) ?_
      have e1 : spl (xs ++ rs) (0 + k * i'.size) (bcs s) = xs ++ bcs s ++ rs.drop s.length := by
        rw [hiz, Nat.zero_add, Nat.mul_one, spl_eq _ _ _ (by simp; omega)]
        have hk : k = xs.length := by omega
        rw [hk, List.take_left, List.drop_append, List.drop_eq_nil_of_le (by omega), hcl]
        simp
      refine K _ _ [(b, blk (xs ++ bcs s ++ rs.drop s.length) e)] ⟨by simp [hxl], .inr ⟨b, cap, rs.drop s.length, rfl, hroom, ?_, rfl⟩⟩ (capB.mk (hcb _ _ _ rfl)) ?_
      · rw [List.length_drop, hrs]; omega
      · rw [← hset, ← e1]
        exact h01.storeMany (bcs s) _ hib
    · have hxat : ∀ j v, xs[j]? = some v → w.drew.cell? ((⟨b, 0, none⟩ : Addr).add j) = some v := fun j v hj => by
        have := cells_at (m := k * 1) (w := w) hblk (news := xs) (by rw [List.drop_zero, ← hxl, List.take_left]) j v hj
        simpa using this
      have hold : (Builtin.firstCells i'.size k (.slice (some ⟨b, 0, none⟩) k cap)).run P w.drew = .ok xs.toArray w.drew := run_firstCells_some (P := P) w.drew i'.size k ⟨b, 0, none⟩ k cap xs (by rw [hiz]; exact hxl) hxat
      have hr := run_append_grow_src w t t2 ty e i' zv hu hi' hzz (some ⟨b, 0, none⟩) k cap xs hold (S s) s.length (bcs s) hs (by omega) (by omega) (by rw [hiy]; exact growslice_fits (by omega) hby)
      refine WL_ev hg hn (Ev_append hx hy hr) ?_
      have hge := grownCap_ge w (k + s.length) cap e
      have e1 : (Obj.cells ((xs ++ bcs s).toArray ++ Builtin.zeroCells zv.cells (grownCap w (k + s.length) cap e - (k + s.length))) e) = blk (xs ++ bcs s ++ (Builtin.zeroCells zv.cells (grownCap w (k + s.length) cap e - (k + s.length))).toList) e := by
        congr 1
        apply Array.ext'
        simp
      refine K _ _ [(w.heap.size, blk (xs ++ bcs s ++ (Builtin.zeroCells zv.cells (grownCap w (k + s.length) cap e - (k + s.length))).toList) e)] ⟨by simp [hxl], .inr ⟨w.heap.size, _, _, rfl, hge, ?_, rfl⟩⟩ (capB.mk (grownCap_le_maxLen w _ cap e (by unfold maxLen; omega))) ?_
      · simp [size_zeroCells, hzs]
      · rw [← e1]
        exact (St.drew hSt.left.left).alloc _
/-- a call of a function without a body -/
theorem Ev_extern {f : FuncId} {fn : Func} {e : Array Value → Sem Value} {xs : List Operand} {vs : List Value} {r : Value} {at_ : Array TypeId} (hf : P.funcs[f]? = some fn) (hname : (fn.name == "runtime.NumGoroutine") = false) (hb : fn.body.isNone = true) (hnx : Extern.findNext fn = none)
    (he : Extern.find fn = some e) (hx : opds L xs = some vs) (hr : (e ⟨vs⟩).run P w = .ok r w') : Ev P L (.call ⟨.value (.func f), ⟨xs⟩, at_⟩) ty w r w' := by
  refine ⟨fun n a ha _ _ _ _ => ?_⟩
  have hm := opds_spec hx ha
  have he2 : (execOp a.eval ⟨‹_›, .call ⟨.value (.func f), ⟨xs⟩, at_⟩, ty, ‹_›, ‹_›, ‹_›⟩) = callFunc f (⟨vs⟩ ++ #[]) := by
    simp only [execOp, resolve, Act.eval, Deferred.ofValue]
    have : (Array.map a.eval ⟨xs⟩) = ⟨vs⟩ := by rw [← hm]; simp
    rw [this]
    show invoke (Target.fn (Fn.func f) #[]) (#[] ++ ⟨vs⟩) = _
    simp [invoke]
  rw [he2, Array.append_empty, run_callFunc_extern hf hname hb hnx he, hr]
  rfl
theorem shape_of {b : Nat} {l : List Value} {E : TypeId} {fz : Nat × Nat} (h : w.heap[b]? = some (.cells ⟨l⟩ E fz)) : w.shape? b = some (E, l.length) := by
  simp [World.shape?, h]
theorem Ev_toUnsafe {src dst pt : TypeId} {j : TypeInfo} {b : Nat} {l : List Value} {E : TypeId} {fz : Nat × Nat} (hs : P.underlying src = some (.pointer pt)) (hd : P.underlying dst = some .unsafePointer) (hi : P.info? pt = some j) (hj : j.size ≠ 0)
    (hx : opd L xo = some (Ptr b)) (hb : w.heap[b]? = some (.cells ⟨l⟩ E fz)) (hl : 0 < l.length) : Ev P L (.convert src dst xo) ty w (Ptr b) w := by
  refine ⟨fun n c ha _ _ _ _ => ?_⟩
  simp only [execOp, ha.eval hx, Sem.run_bind, Lib.run_to_unsafe w ⟨b, 0, none⟩ hs hd hi hj (shape_of hb) hl, Result.andThen_ok, Sem.run_pure]
theorem Ev_fromUnsafe {src dst pt : TypeId} {j : TypeInfo} {b : Nat} {l : List Value} {E : TypeId} {fz : Nat × Nat} (hs : P.underlying src = some .unsafePointer) (hd : P.underlying dst = some (.pointer pt)) (hi : P.info? pt = some j)
    (hx : opd L xo = some (Ptr b)) (hb : w.heap[b]? = some (.cells ⟨l⟩ E fz)) (hlies : liesAt P P.depth E (l.length / P.cellsOf E) 0 pt 1 = true) : Ev P L (.convert src dst xo) ty w (Ptr b) w := by
  refine ⟨fun n c ha _ _ _ _ => ?_⟩
  simp only [execOp, ha.eval hx, Sem.run_bind, Lib.run_from_unsafe w ⟨b, 0, none⟩ hs hd hi (shape_of hb) hlies, Result.andThen_ok, Sem.run_pure]
theorem Ev_neqPtr {pt : TypeId} {j : TypeInfo} {p : Addr} (hp : P.underlying t = some (.pointer pt)) (hi : P.info? pt = some j) (hx : opd L xo = some (.pointer (some p))) (hy : opd L yo = some (.pointer (some p))) : Ev P L (.binOp .neq t xo yo t') ty w (.bool false) w :=
  Ev_bin hx hy (eqGuard_at_pointer ..) (Lib.run_neq_ptr_same w p hp hi)
end
end Go.Proofs.YtmlbgdhkacajaaaDoor
