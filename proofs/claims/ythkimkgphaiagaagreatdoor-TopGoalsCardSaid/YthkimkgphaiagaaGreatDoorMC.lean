/- Statements that draw their order, taken in an order of one's own; a place in a sequence. No conditions. -/
import Derived.Test.YthkimkgphaiagaaGreatDoorMB
import Derived.Laws.MakeOwn
import Derived.Deep.Upon
import Derived.Laws.IdiomStrings
import Derived.Deep.AppendSrc
import Derived.Lib.Builder
import Derived.Laws.Externs
import Derived.Laws.Bits64
import Derived.Laws.RangeString
import Derived.Test.YthkimkgphaiagaaGreatDoorTys
import Derived.Test.YthkimkgphaiagaaGreatDoorMA
import Derived.Handed
import Derived.LaidMore
import Derived.Lay
import Derived.Stop.Joined
import Derived.ChangeSame

namespace Go.Proofs.YthkimkgphaiagaaGreatDoor
open Go.RowKit
set_option linter.unusedVariables false
set_option linter.unusedSimpArgs false

theorem of_dec {p : Prop} {d : Decidable p} (h : @decide p d = true) : p := @of_decide_eq_true p d h
theorem of_decF {p : Prop} {d : Decidable p} (h : @decide p d = false) : ¬ p := @of_decide_eq_false p d h
theorem Str.keepU {ks : List Nat} {i : Nat} {v : Value} {L L' : Fr} (h : mem1 ks i = false) (k : Str (i :: ks) L L') : Str ks ((i, v) :: L) ((i, v) :: L') := by
  have hm : ∀ j, Nat.beq i j = false → mem1 (i :: ks) j = mem1 ks j := fun j hj => by simp [mem1, hj]
  refine ⟨fun j u hj hl => ?_, fun j hj => ?_⟩
  · simp only [look] at hl ⊢
    cases hb : Nat.beq i j
    · simp only [hb, cond_false] at hl ⊢; exact k.all j u (by rw [hm j hb]; exact hj) hl
    · simpa [hb] using hl
  · simp only [look]
    cases hb : Nat.beq i j
    · exact k.off j (by rw [hm j hb]; exact hj)
    · have e : i = j := by simpa using hb
      subst e; rw [h] at hj; cases hj
section
variable {P : Program} {n : Nat} {Q : Exit → Act → World → Prop} {L : Fr} {w : World} {x : Code}
/-- a sequence whose second part is the region N, with what is known between its parts said -/
theorem W_midAtL (N : Nat) {x y : Code} {ops : Array Oper} {d : Bool} (Mid : Fr → World → Prop) (h : ∀ K : Act → World → Prop, (∀ L' w' a, Mid L' w' → Fits n L' a → K a w') → W P n x (Exit.then K Q) L w) (k : ∀ L' w', Mid L' w' → W P n (.seq (.region N ops d) y) Q L' w') :
    W P n (.seq x (.seq (.region N ops d) y)) Q L w := W_mid Mid h k
theorem W_midAt (N : Nat) {x : Code} {ops : Array Oper} {d : Bool} (Mid : Fr → World → Prop) (h : ∀ K : Act → World → Prop, (∀ L' w' a, Mid L' w' → Fits n L' a → K a w') → W P n x (Exit.then K Q) L w) (k : ∀ L' w', Mid L' w' → W P n (.region N ops d) Q L' w') :
    W P n (.seq x (.region N ops d)) Q L w := W_mid Mid h k
end

/-! ## the same in an order of one's own, over any condition S -/
section
variable {P : Program} {ops : Array Oper} {md : Region.Mode} {S : World → Prop} {Q : Exit → Act → World → Prop}
def lexP (md : Region.Mode) (ops : Array Oper) (g n : Nat) : List (Nat × Bool) → Array Bool → Bool
  | [], listed => Region.seqB md ops g n listed
  | (k, b) :: os, listed => decide (k < n) && (bif b then decide (Region.ready md ops listed = [k]) else (Region.ready md ops listed).contains k && Region.free md ops listed k) && lexP md ops g n os (listed.setIfInBounds k true)
def lexPB (md : Region.Mode) (ops : Array Oper) (os : List (Nat × Bool)) : Bool :=
  Region.noSelect ops && decide (os.length < ops.size) && Region.sinkB md ops os.length && Region.chainB md ops os.length && lexP md ops (ops.size - os.length) os.length os (Array.replicate ops.size false)
theorem wpAnyG_lexP {n g : Nat} {K : Act → World → Prop} (hsel : Region.noSelect ops = true) (hs : Region.sinkB md ops n = true) (hc : Region.chainB md ops n = true) (hn : n < ops.size) (hQ : ∀ c a w, ¬ Q (.panic c) a w) :
    ∀ (l : List Oper) (os : List (Nat × Bool)) (listed : Array Bool) (a : Act) (w : World), l.map some = os.map (fun x => ops[x.1]?) → HeadInv md ops n listed →
    lexP md ops g n os listed = true → wpHeadG P ops S K l (os.map Prod.snd) a w →
    wpAnyG P md ops Q S n (fun listed' a' w' => Region.seqB md ops g n listed' = true ∧ K a' w') l.length listed a w
  | [], [], listed, a, w, _, _, hB, h => ⟨by simpa [lexP] using hB, h⟩
  | [], _ :: _, listed, a, w, hl, _, _, _ => by simp at hl
  | _ :: _, [], listed, a, w, hl, _, _, _ => by simp at hl
  | o :: l, (k, b) :: os, listed, a, w, hl, inv, hB, h => by
    simp only [List.map_cons, List.cons.injEq] at hl
    have h0 : ops[k]? = some o := hl.1.symm
    simp only [lexP, Bool.and_eq_true, decide_eq_true_eq] at hB
    obtain ⟨⟨hkn, hb⟩, hB'⟩ := hB
    have hnext : ∀ {a' : Act} {w' : World} (hr : k ∈ Region.ready md ops listed), wpHeadG P ops S K l (os.map Prod.snd) a' w' → wpAnyG P md ops Q S n (fun listed' a' w' => Region.seqB md ops g n listed' = true ∧ K a' w') l.length (listed.setIfInBounds k true) a' w' := fun hr h' =>
      wpAnyG_lexP hsel hs hc hn hQ l os _ _ _ hl.2 (inv.set hr hkn) hB' h'
    cases b
    · simp only [cond_false, Bool.and_eq_true] at hb
      have hr : k ∈ Region.ready md ops listed := by simpa using hb.1
      obtain ⟨v, hy, hS, h'⟩ := h
      exact wpAnyG_first h0 (Region.noSelect_spec hsel) hs hc hn hkn hQ (fun listed' a' w' hL => seqB_ready hL.1) l.length listed a w inv (Region.free_spec h0 hb.2) hr hy hS (hnext hr h')
    · have hr : Region.ready md ops listed = [k] := by simpa using hb
      have hr' : k ∈ Region.ready md ops listed := by rw [hr]; simp
      refine ⟨by rw [hr]; simp, fun i hi => ?_⟩
      rw [hr] at hi
      have : i = k := by simpa using hi
      subst this
      refine ⟨hkn, ?_⟩
      unfold wpOp
      simp only [h0]
      simp only [List.map_cons, wpHeadG, wpList] at h
      split
      · rename_i hw
        simp only [hw, if_true] at h
        rcases h with h | ⟨_, x, y, hq, _⟩
        · refine .inl (Oper.wp_mono (fun a' w' hk' => ?_) (wp_weaken (Q1 := fun e a' w' => e = .normal ∧ S w' ∧ wpHeadG P ops S K l (os.map Prod.snd) a' w') (fun c a w hq => by cases hq.1) (fun hq => by obtain ⟨a, w, hq, _⟩ := hq; cases hq) h))
          exact ⟨hk'.2.1, hnext hr' hk'.2.2⟩
        · cases hq
      · rename_i hw
        simp only [hw] at h
        exact ⟨h.2.1, hnext hr' h.2.2⟩
theorem wp_region_own {id : Nat} {a : Act} {w : World} {l lh : List Oper} (os : List (Nat × Bool)) (hm : P.follows .mixedOrders = true) (hB : lexPB .any l.toArray os = true) (hlh : lh.map some = os.map (fun x => l.toArray[x.1]?))
    (h : wpHeadG P l.toArray S (fun a' w' => wpList P l.toArray (fun e a w => (∀ c, e ≠ .panic c) ∧ Q e a w) (l.drop os.length) a' w') lh (os.map Prod.snd) a { w with drawn := w.drawn + 1 }) : (Code.region id l.toArray true).wp P Q a w := by
  refine wp_mono (Q := fun e a w => (∀ c, e ≠ .panic c) ∧ Q e a w) ?_ (fun e a w hq => hq.2)
  simp only [lexPB, Bool.and_eq_true, decide_eq_true_eq] at hB
  obtain ⟨⟨⟨⟨hsel, hn⟩, hs⟩, hc⟩, hlex⟩ := hB
  have htl : lh.length = os.length := by simpa using congrArg List.length hlh
  have hdl : (l.drop os.length).length = l.toArray.size - os.length := by simp
  have inv0 : HeadInv .any l.toArray os.length (Array.replicate l.toArray.size false) :=
    ⟨by simp, fun j oj _ hl => (by rw [getD_replicate_false] at hl; cases hl), fun t _ ht => getD_in (by simpa using ht) (getD_replicate_false _ _)⟩
  have H := wpAnyG_lexP (md := .any) (g := l.toArray.size - os.length) (Q := fun e a w => (∀ c, e ≠ .panic c) ∧ Q e a w) hsel hs hc hn (fun c a w hq => hq.1 c rfl) lh os _ a _ hlh inv0 hlex h
  refine wp_region_any hm ?_
  have := wpAny_of_headG (g := l.toArray.size - os.length) (fun listed a' w' hL => by
    have := wpAny_of_seq (md := .any) (Q' := fun e a w => (∀ c, e ≠ .panic c) ∧ Q e a w) (l.drop os.length) os.length listed a' w' (fun j => by simp [List.getElem?_drop]) (by rw [hdl]; exact hL.1) hL.2
    rwa [hdl] at this) _ _ _ _ H
  have hsz : os.length < l.toArray.size := hn
  rw [htl, show os.length + (l.toArray.size - os.length) = l.toArray.size by omega] at this
  exact this
end

section
variable {T : Tys} {P : Program} {n : Nat} {ops : Array Oper} {Q : Exit → Act → World → Prop} {L L' : Fr} {w w' w0 w1 : World} {rest : List Oper} {ty t t' : TypeId} {imps : List Bool}
  {Sx : Nat → Prop} {H HG : List (Nat × Obj)} {pos : String} {af : Array Edge} {g : Option (Nat × Bool)} {K : Act → World → Prop}
/-! ## in an order of one's own -/
structure HL (P : Program) (n : Nat) (ops : Array Oper) (S : World → Prop) (K : Act → World → Prop) (rest : List Oper) (imps : List Bool) (L : Fr) (w : World) : Prop where
  run : ∀ a, Fits n L a → wpHeadG P ops S K rest imps a w
theorem W_own {id : Nat} {l lh : List Oper} (S : World → Prop) (os : List (Nat × Bool)) (hT : T.Ok P) (hB : lexPB .any l.toArray os = true) (hlh : lh.map some = os.map (fun x => l.toArray[x.1]?)) (hSt : St w0 Sx H w)
    (h : ∀ w1, St w0 Sx H w1 → HL P n l.toArray S (fun a' w' => wpList P l.toArray (fun e a w => (∀ c, e ≠ .panic c) ∧ Q e a w) (l.drop os.length) a' w') lh (os.map Prod.snd) L w1) : W P n (.region id l.toArray true) Q L w :=
  ⟨fun a ha => wp_region_own os hT.mixed hB hlh ((h _ hSt.drew).run a ha)⟩
def pickOps (l : List Oper) (os : List (Nat × Bool)) : List Oper := os.filterMap fun x => l[x.1]?
/-- over the first blocks of the list, which nobody in the region writes -/
theorem W_ownS {id : Nat} {l : List Oper} {Hs Hr : List (Nat × Obj)} (os : List (Nat × Bool)) (hT : T.Ok P) (hB : lexPB .any l.toArray os = true) (hlh : (pickOps l os).map some = os.map (fun x => l.toArray[x.1]?)) (hSt : St w0 Sx (Hs ++ Hr) w)
    (h : ∀ w1, St w0 Sx (Hs ++ Hr) w1 → HL P n l.toArray (fun w' => St w0 Sx Hs w') (fun a' w' => wpList P l.toArray (fun e a w => (∀ c, e ≠ .panic c) ∧ Q e a w) (l.drop os.length) a' w') (pickOps l os) (os.map Prod.snd) L w1) : W P n (.region id l.toArray true) Q L w := W_own _ os hT hB hlh hSt h
section
variable {S : World → Prop}
theorem HL_ev {d : Nat} {op : Op} {v : Value} (hg : wantB ops g L = some true) (hn : Nat.blt d n = true) (hS : S w) (h : ∀ w', S w' → Ev P L op ty w' v w') (k : HL P n ops S K rest imps ((d, v) :: L) w) : HL P n ops S K (⟨some d, op, ty, pos, af, g⟩ :: rest) (false :: imps) L w := by
  refine ⟨fun a ha => ⟨v, .inl ⟨wantB_spec (o := ⟨some d, op, ty, pos, af, g⟩) hg ha, fun w' hw' => (h w' hw').run n a ha _ _ _ _⟩, hS, k.run _ (ha.put hn v)⟩⟩
theorem HL_pass {d : Nat} {op : Op} (hg : wantB ops g L = some false) (hn : Nat.blt d n = true) (hS : S w) (k : HL P n ops S K rest imps ((d, undef) :: L) w) : HL P n ops S K (⟨some d, op, ty, pos, af, g⟩ :: rest) (false :: imps) L w := by
  refine ⟨fun a ha => ⟨undef, .inr ⟨wantB_spec (o := ⟨some d, op, ty, pos, af, g⟩) hg ha, rfl⟩, hS, k.run _ (ha.put hn undef)⟩⟩
theorem HL_sub (hs : Sub L' L) (h : HL P n ops S K rest imps L' w) : HL P n ops S K rest imps L w := ⟨fun a ha => h.run a (ha.sub hs)⟩
def HK (P : Program) (ops : Array Oper) (S : World → Prop) (K : Act → World → Prop) (rest : List Oper) (imps : List Bool) : Exit → Act → World → Prop := fun e a' w' => e = .normal ∧ S w' ∧ wpHeadG P ops S K rest imps a' w'
theorem HL_one {o : Oper} (h : WL P n ops (HK P ops S K rest imps) [o] L w) : HL P n ops S K (o :: rest) (true :: imps) L w := ⟨fun a ha => h.run a ha⟩
theorem At_oneH (hS : S w) (h : HL P n ops S K rest imps L w) : At n (HK P ops S K rest imps) .normal L w := ⟨fun a ha => ⟨rfl, hS, h.run a ha⟩⟩
theorem HL_end {Q' : Exit → Act → World → Prop} {l : List Oper} (h : WL P n ops Q' l L w) : HL P n ops S (fun a' w' => wpList P ops Q' l a' w') [] [] L w := ⟨fun a ha => h.run a ha⟩
end
end
end Go.Proofs.YthkimkgphaiagaaGreatDoor

namespace Go.Proofs.YthkimkgphaiagaaGreatDoor
open Go.RowKit
set_option linter.unusedVariables false
set_option linter.unusedSimpArgs false
section
variable {T : Tys} {P : Program} {L : Fr} {w : World} {ty t t' : TypeId} {xo yo : Operand}
theorem inU8 {x : Int} (h1 : 0 ≤ x) (h2 : x ≤ 255) : inK .u8 x := by
  simp [inK, IntKind.min, IntKind.max, IntKind.signed, IntKind.bits]; omega
/-- a quotient of numbers that are not negative, in the kind -/
theorem Ev_quoP {k : IntKind} {x y : Int} (hx : opd L xo = some (.int k x)) (hy : opd L yo = some (.int k y)) (h0 : 0 ≤ x) (hk : inK k x) (h2 : 0 < y) : Ev P L (.binOp .quo t xo yo t') ty w (.int k (x / y)) w := by
  have := Ev_quow (P := P) (t := t) (t' := t') (ty := ty) (w := w) hx hy (by omega)
  rw [Int.tdiv_eq_ediv_of_nonneg h0] at this
  have hb : 0 ≤ x / y := Int.ediv_nonneg h0 (by omega)
  have hc : x / y ≤ x := Int.ediv_le_self y h0
  have hm : k.min ≤ 0 := by cases k <;> simp [IntKind.min, IntKind.signed, IntKind.bits]
  rwa [wrap_in ⟨by have := hk.1; omega, by have := hk.2; omega⟩] at this
theorem Ev_quoT {x y : Int} (hx : opd L xo = some (.int .i64 x)) (hy : opd L yo = some (.int .i64 y)) (h0 : y ≠ 0) (h : -9223372036854775808 ≤ x.tdiv y ∧ x.tdiv y ≤ 9223372036854775807) : Ev P L (.binOp .quo t xo yo t') ty w (.int .i64 (x.tdiv y)) w := by
  have := Ev_quow (P := P) (t := t) (t' := t') (ty := ty) (w := w) hx hy h0
  rwa [wrap_in (inI h.1 h.2)] at this
theorem Ev_negI {x : Int} (hx : opd L xo = some (.int .i64 x)) (h : -9223372036854775808 ≤ -x ∧ -x ≤ 9223372036854775807) : Ev P L (.unOp .neg t xo) ty w (.int .i64 (-x)) w := by
  have := Ev_neg (P := P) (t := t) (ty := ty) (w := w) hx
  rw [show (0 - x) = -x by omega] at this
  rwa [wrap_in (inI h.1 h.2)] at this
theorem Ev_addP {k : IntKind} {x y : Int} (hx : opd L xo = some (.int k x)) (hy : opd L yo = some (.int k y)) (h : inK k (x + y)) : Ev P L (.binOp .add t xo yo t') ty w (.int k (x + y)) w := by
  have := Ev_addw (P := P) (t := t) (t' := t') (ty := ty) (w := w) hx hy
  rwa [wrap_in h] at this
theorem Ev_subP {k : IntKind} {x y : Int} (hx : opd L xo = some (.int k x)) (hy : opd L yo = some (.int k y)) (h : inK k (x - y)) : Ev P L (.binOp .sub t xo yo t') ty w (.int k (x - y)) w := by
  have := Ev_subw (P := P) (t := t) (t' := t') (ty := ty) (w := w) hx hy
  rwa [wrap_in h] at this
end
end Go.Proofs.YthkimkgphaiagaaGreatDoor

namespace Go.Proofs.YthkimkgphaiagaaGreatDoor
open Go.RowKit
set_option linter.unusedVariables false
set_option linter.unusedSimpArgs false

theorem SlAt.row {w : World} {v : Value} {z : Nat} {xs : List (List Value)} (h : SlAt w v z xs) (h0 : 0 < xs.length) :
    ∃ b o l E fz cap, v = .slice (some ⟨b, o, none⟩) xs.length cap ∧ w.heap[b]? = some (.cells ⟨l⟩ E fz) ∧ (l.drop o).take (xs.length * z) = xs.flatten ∧ xs.flatten.length = xs.length * z := by
  obtain ⟨a, cap, rfl, hc⟩ := h
  obtain ⟨b, o, l, E, fz, rfl, hb, _, _⟩ := hc 0 _ (List.getElem?_eq_getElem h0)
  have all : ∀ i x, xs[i]? = some x → (l.drop (o + i * z)).take z = x ∧ x.length = z := fun i x hi => by
    obtain ⟨b', o', l', E', fz', e, hb', h1, h2⟩ := hc i x hi
    injection e with e
    injection e with e1 e2 _
    subst e1; subst e2
    rw [hb] at hb'
    injection hb' with e3
    injection e3 with e3
    injection e3 with e3
    subst e3
    exact ⟨h1, h2⟩
  have key : ∀ k, k ≤ xs.length → (l.drop o).take (k * z) = (xs.take k).flatten ∧ (xs.take k).flatten.length = k * z := by
    intro k
    induction k with
    | zero => intro _; simp
    | succ k ih =>
      intro hk
      obtain ⟨ih1, ih2⟩ := ih (by omega)
      have hx : xs[k]? = some xs[k] := List.getElem?_eq_getElem (by omega)
      obtain ⟨h1, h2⟩ := all k _ hx
      have ht : xs.take (k + 1) = xs.take k ++ [xs[k]] := by rw [List.take_add_one, hx]; rfl
      rw [ht, Nat.add_mul, Nat.one_mul, List.take_add, ih1, List.drop_drop, h1, List.flatten_append, List.length_append, ih2]
      simp [h2]
  have := key xs.length (Nat.le_refl _)
  rw [List.take_length] at this
  exact ⟨b, o, l, E, fz, cap, rfl, hb, this.1, this.2⟩

section
variable {T : Tys} {P : Program} {n : Nat} {ops : Array Oper} {Q : Exit → Act → World → Prop} {L L' : Fr} {w w' w0 : World} {rest : List Oper} {ty t t' : TypeId} {xo yo zo : Operand}
  {Sx : Nat → Prop} {H H0 H1 H2 : List (Nat × Obj)} {pos : String} {af : Array Edge} {g : Option (Nat × Bool)}

theorem Ev_append0 {e : TypeId} {z y len cap c : Nat} {a a2 : Option Addr} (hT : T.Ok P) (ht : asc T.sl t = some (e, z, y)) (hx : opd L xo = some (.slice a len cap)) (hy : opd L yo = some (.slice a2 0 c)) (hle : len ≤ cap) :
    Ev P L (.call ⟨.builtin .append, #[xo, yo], #[t, t]⟩) ty w (.slice a len cap) w := by
  obtain ⟨hu, i, hi, hiz, hiy⟩ := ok_sl hT ht
  refine Ev_append hx hy (run_append_nothing w t t ty e i hu hi a len cap hle _ ?_)
  cases a2 with
  | none => exact Go.Src.ofNil w hu c
  | some a2 => exact Go.Src.ofSlice w hu a2 0 c [] (by simp) (fun j u h => by simp at h) (fun u h => by cases h)

theorem OwnSl.cap {v : Value} {e : TypeId} {z k : Nat} {xs : List Value} (h : OwnSl v e z xs k H1) : ∃ a cap, v = .slice a k cap ∧ k ≤ cap := by
  rcases h.2 with ⟨rfl, rfl, _⟩ | ⟨b, cap, rs, rfl, hle, _⟩
  · exact ⟨_, _, rfl, Nat.le_refl _⟩
  · exact ⟨_, _, rfl, hle⟩

/-- append(x, y...): x a slice of one's own, y one that came in -/
theorem WL_appendS {d k : Nat} {e : TypeId} {z y : Nat} {xs : List Value} {xss : List (List Value)} {zv v v2 : Value} (hT : T.Ok P) (ht : asc T.sl t = some (e, z, y)) (hz : asc T.zero e = some zv) (hzl : (zcells zv).length = z)
    (hg : wantB ops g L = some true) (hn : Nat.blt d n = true) (hx : opd L xo = some v) (hy : opd L yo = some v2) (hSt : St w0 Sx (H0 ++ H1 ++ H2) w) (ho : OwnSl v e z xs k H1)
    (hs : SlAt w v2 z xss) (h1 : xss.flatten.all oneV = true) (hmax : k + xss.length ≤ 140737488355328) (hby : (k + xss.length) * y ≤ 140737488355328)
    (K : ∀ v' w' H1', OwnSl v' e z (xs ++ xss.flatten) (k + xss.length) H1' → St w0 Sx (H0 ++ H1') w' → WL P n ops Q rest ((d, v') :: L) w') : WL P n ops Q (⟨some d, .call ⟨.builtin .append, #[xo, yo], #[t, t]⟩, ty, pos, af, g⟩ :: rest) L w := by
  rcases Nat.eq_zero_or_pos xss.length with h0 | h0
  · obtain ⟨a2, c, hv2, _⟩ := hs
    rw [h0] at hv2
    subst hv2
    obtain ⟨a, cap, rfl, hle⟩ := ho.cap
    refine WL_ev hg hn (Ev_append0 hT ht hx hy hle) (K _ _ H1 ?_ hSt.left)
    have : xss = [] := List.eq_nil_of_length_eq_zero h0
    subst this
    simpa using ho
  · obtain ⟨b, o, l, E, fz, cap, rfl, hb, hr, hl⟩ := hs.row h0
    exact WL_append hT ht hz hzl hg hn hx hy hSt ho hb hr hl h1 h0 hmax hby K

/-- make([]T, n): elements of one cell -/
theorem WL_makeSlice1 {d : Nat} {e : TypeId} {y : Nat} {zv : Value} {l : Int} (hT : T.Ok P) (ht : asc T.sl t = some (e, 1, y)) (hz : asc T.zero e = some zv) (hzl : zcells zv = [zv]) (hg : wantB ops g L = some true) (hn : Nat.blt d n = true)
    (hx : opd L xo = some (I l)) (hy : opd L yo = some (I l)) (h0 : 0 ≤ l) (hm : l ≤ 16777216) (hb : (y : Int) * l ≤ 281474976710656) (hSt : St w0 Sx H w)
    (k : ∀ w' b, w0.heap.size ≤ b → St w0 Sx (H ++ [(b, blk (List.replicate l.toNat zv) e)]) w' → WL P n ops Q rest ((d, .slice (some ⟨b, 0, none⟩) l.toNat l.toNat) :: L) w') :
    WL P n ops Q (⟨some d, .makeSlice t xo yo, ty, pos, af, g⟩ :: rest) L w := by
  obtain ⟨hu, i, hi, hiz, hiy⟩ := ok_sl hT ht
  obtain ⟨i', hi', hzz⟩ := ok_zero hT hz
  have hii : i' = i := Option.some.inj (hi'.symm.trans hi)
  subst hii
  have hr := run_makeSlice (P := P) w.drew t e i' zv hu hi' hzz .i64 .i64 l l h0 (Int.le_refl _) (by rw [hiz]; omega) (by rw [hiy]; exact hb) (by omega)
  have hr2 := run_makeSlice (P := P) w t e i' zv hu hi' hzz .i64 .i64 l l h0 (Int.le_refl _) (by rw [hiz]; omega) (by rw [hiy]; exact hb) (by omega)
  have hev : Ev P L (.makeSlice t xo yo) ty w (.slice (some ⟨w.heap.size, 0, none⟩) l.toNat l.toNat) (w.alloc (.cells (madeCells zv.cells (l.toNat * i'.size)) e)) := by
    refine ⟨fun n c ha _ _ _ _ => ?_⟩
    simp only [execOp, ha.eval hx, ha.eval hy, Sem.run_bind, hr2, Result.andThen_ok, Sem.run_pure]
  refine WL_ev hg hn hev (k _ _ hSt.size ?_)
  have e1 : (Obj.cells (madeCells zv.cells (l.toNat * i'.size)) e) = blk (List.replicate l.toNat zv) e := by
    congr 1
    rw [hiz, Nat.mul_one, zcells_cells, hzl]
    apply Array.ext'
    simp only [madeCells, Array.toList_map, Array.toList_range]
    apply List.ext_getElem?
    intro j
    rw [List.getElem?_map, List.getElem?_replicate]
    by_cases hj : j < l.toNat
    · rw [List.getElem?_range hj, if_pos hj]; simp [Nat.mod_one]
    · rw [List.getElem?_eq_none (by simpa using hj), if_neg hj]; rfl
  rw [← e1]
  exact hSt.alloc _

/-- a string's byte -/
theorem Ev_strIndex {i : Int} {k : IntKind} {s : List UInt8} {b : UInt8} (hT : T.Ok P) (ht : mem1 T.str t = true) (hx : opd L xo = some (S s)) (hy : opd L yo = some (.int k i)) (h0 : 0 ≤ i) (hb : s[i.toNat]? = some b) : Ev P L (.index t xo yo) ty w (.int .u8 b.toNat) w := by
  refine ⟨fun n c ha _ _ _ _ => ?_⟩
  have hb' : (ByteArray.mk ⟨s⟩)[i.toNat]? = some b := by
    obtain ⟨h1, h2⟩ := List.getElem?_eq_some_iff.1 hb
    have hsz : i.toNat < (ByteArray.mk ⟨s⟩).size := h1
    rw [getElem?_pos (ByteArray.mk ⟨s⟩) i.toNat hsz, ← h2]
    rfl
  have hbb : (if 0 ≤ i then (ByteArray.mk ⟨s⟩)[i.toNat]? else none) = some b := by rw [if_pos h0, hb']
  simp only [execOp, ha.eval hx, ha.eval hy, Instr.index, asIntOf, Sem.run_bind, Sem.run_pure, Result.andThen_ok, run_underlying' (ok_str hT ht), hbb]

/-- an element of an array that is a value -/
theorem Ev_arrIndex {i : Int} {k : IntKind} {cs vs : List Value} {m e z : Nat} (hT : T.Ok P) (ht : asc T.arr t = some (m, e, z)) (he : asc T.agg e = some z) (hx : opd L xo = some (.agg ⟨cs⟩)) (hy : opd L yo = some (.int k i)) (h0 : 0 ≤ i) (h1 : i < m)
    (hv : (cs.drop (i.toNat * z)).take z = vs) : Ev P L (.index t xo yo) ty w (.agg ⟨vs⟩) w := by
  obtain ⟨hu, j, hj, hjz⟩ := ok_arr hT ht
  refine ⟨fun n c ha _ _ _ _ => ?_⟩
  have e1 : ((⟨cs⟩ : Array Value).extract (i.toNat * z) (i.toNat * z + z)) = ⟨vs⟩ := by
    rw [← hv]
    apply Array.ext'
    simp [List.extract_eq_take_drop]
  simp only [execOp, ha.eval hx, ha.eval hy, Instr.index, asIntOf, Sem.run_bind, Sem.run_pure, Result.andThen_ok, run_underlying' hu]
  rw [if_pos ⟨h0, h1⟩]
  simp only [part, Sem.run_bind, run_sizeOf' hj, hjz, Result.andThen_ok, run_isAgg_yes hT he, if_true, Sem.run_pure, e1]

/-- string(bytes), of a row -/
theorem Ev_bytesStr {b off cap : Nat} {l : List Value} {s : List UInt8} {E e z y : Nat} {fz : Nat × Nat} {sd : TypeId} (hT : T.Ok P) (ht : asc T.sl t = some (e, z, y)) (he : asc T.int e = some .u8) (hd : mem1 T.str sd = true)
    (hx : opd L xo = some (.slice (some ⟨b, off, none⟩) s.length cap)) (hb : w.heap[b]? = some (.cells ⟨l⟩ E fz)) (hl : (l.drop off).take s.length = s.map (fun c => Value.int .u8 c.toNat)) : Ev P L (.convert t sd xo) ty w (S s) w := by
  obtain ⟨hu, i, hi, hiz, hiy⟩ := ok_sl hT ht
  refine ⟨fun n c ha _ _ _ _ => ?_⟩
  have hc : ∀ j (hj : j < s.length), w.cell? ((⟨b, off, none⟩ : Addr).add j) = some (.int .u8 (s[j].toNat : Int)) := fun j hj => by
    refine cells_at (m := s.length) (E := E) (fz := fz) hb hl j _ ?_
    rw [List.getElem?_map, List.getElem?_eq_getElem hj]; rfl
  have := run_convert_bytes_back (P := P) w t sd e ⟨b, off, none⟩ cap s hu (ok_int hT he) (ok_str hT hd) hc
  simp only [execOp, ha.eval hx, Sem.run_bind, this, Result.andThen_ok, Sem.run_pure]
/-- []T{}: a row of no cells -/
theorem WL_buildSlice0 {d e z y : Nat} (hT : T.Ok P) (ht : asc T.sl t = some (e, z, y)) (hg : wantB ops g L = some true) (hn : Nat.blt d n = true) (hSt : St w0 Sx H w)
    (k : ∀ w' b, w0.heap.size ≤ b → St w0 Sx (H ++ [(b, blk [] e)]) w' → WL P n ops Q rest ((d, .slice (some ⟨b, 0, none⟩) 0 0) :: L) w') : WL P n ops Q (⟨some d, .buildSlice t 0 #[], ty, pos, af, g⟩ :: rest) L w := by
  obtain ⟨hu, i, hi, hiz, hiy⟩ := ok_sl hT ht
  have hev : Ev P L (.buildSlice t 0 #[]) ty w (.slice (some ⟨w.heap.size, 0, none⟩) 0 0) (w.alloc (blk [] e)) := by
    refine ⟨fun n c ha _ _ _ _ => ?_⟩
    simp [execOp, Instr.buildSlice, run_underlying' hu, run_sizeOf' hi, Instr.fill, newRow, Array.range_zero', blk]
  exact WL_ev hg hn hev (k _ _ hSt.size (hSt.alloc _))
theorem OwnSl.zero (b : Nat) (e : TypeId) (z : Nat) : OwnSl (.slice (some ⟨b, 0, none⟩) 0 0) e z [] 0 [(b, blk [] e)] := ⟨by simp, .inr ⟨b, 0, [], rfl, Nat.le_refl _, by simp, by simp⟩⟩
theorem OwnSl.whole (b : Nat) (e : TypeId) (xs : List Value) : OwnSl (.slice (some ⟨b, 0, none⟩) xs.length xs.length) e 1 xs xs.length [(b, blk xs e)] := ⟨by simp, .inr ⟨b, xs.length, [], rfl, Nat.le_refl _, by simp, by simp⟩⟩
theorem OwnSl.slAt {α : Type} {f : α → List Value} {z : Nat} (hz : ∀ a, (f a).length = z) {l : List α} {v : Value} {e : TypeId} (h : OwnSl v e z (l.flatMap f) l.length H1) (hh : Has w H1) : SlAt w v z (l.map f) := by
  rcases h.2 with ⟨rfl, h0, rfl⟩ | ⟨b, cap, rs, rfl, hle, _, rfl⟩
  · have : l = [] := List.eq_nil_of_length_eq_zero h0
    subst this
    exact SlAt.nil w z
  · refine ⟨some ⟨b, 0, none⟩, cap, by rw [List.length_map], fun i x hi => ?_⟩
    rw [List.getElem?_map] at hi
    obtain ⟨a, ha, rfl⟩ := Option.map_eq_some_iff.1 hi
    refine ⟨b, 0, _, e, (0, 0), rfl, hh.own 0 b _ rfl, ?_, hz a⟩
    rw [Nat.zero_add]
    exact flat_take hz ha rs
end
end Go.Proofs.YthkimkgphaiagaaGreatDoor

namespace Go.Proofs.YthkimkgphaiagaaGreatDoor
open Go.RowKit
set_option linter.unusedVariables false
set_option linter.unusedSimpArgs false

/-- a capacity within the model's bound -/
def capB (v : Value) : Prop := ∀ (a : Option Addr) (k c : Nat), v = .slice a k c → c ≤ maxLen
theorem capB.mk {a : Option Addr} {k c : Nat} (h : c ≤ maxLen) : capB (.slice a k c) := fun a' k' c' e => by injection e with _ _ e; exact e ▸ h
abbrev bcs (s : List UInt8) : List Value := s.map fun c => Value.int .u8 c.toNat
section
variable {T : Tys} {P : Program} {n : Nat} {ops : Array Oper} {Q : Exit → Act → World → Prop} {L L' : Fr} {w w' w0 : World} {rest : List Oper} {ty t t' : TypeId} {xo yo zo : Operand}
  {Sx : Nat → Prop} {H H0 H1 H2 : List (Nat × Obj)} {pos : String} {af : Array Edge} {g : Option (Nat × Bool)}

theorem St.storeMany {i b : Nat} {E : TypeId} : ∀ (vs : List Value) (o : Nat) {w : World} {l : List Value} {H : List (Nat × Obj)}, St w0 Sx H w → H[i]? = some (b, blk l E) → St w0 Sx (H.set i (b, blk (spl l o vs) E)) (w.setCells b o vs)
  | [], o, w, l, H, h, hi => by
    have : H.set i (b, blk l E) = H := by
      apply List.ext_getElem?
      intro j
      rw [List.getElem?_set]
      split
      · rename_i e; subst e
        obtain ⟨h1, h2⟩ := List.getElem?_eq_some_iff.1 hi
        rw [if_pos h1, hi]
      · rfl
    simpa [spl, World.setCells, this] using h
  | v :: vs, o, w, l, H, h, hi => by
    have hil := (List.getElem?_eq_some_iff.1 hi).1
    have h1 := h.store hi o v
    have hi2 : (H.set i (b, blk (l.set o v) E))[i]? = some (b, blk (l.set o v) E) := by rw [List.getElem?_set]; simp [hil]
    have h2 := St.storeMany (i := i) vs (o + 1) h1 hi2
    rw [List.set_set] at h2
    exact h2

theorem WL_appendStr {d k : Nat} {e y : Nat} {xs : List Value} {s : List UInt8} {zv v : Value} {t2 : TypeId} (hT : T.Ok P) (ht : asc T.sl t = some (e, 1, y)) (hts : mem1 T.str t2 = true) (hz : asc T.zero e = some zv) (hzl : (zcells zv).length = 1)
    (hg : wantB ops g L = some true) (hn : Nat.blt d n = true) (hx : opd L xo = some v) (hy : opd L yo = some (S s)) (hSt : St w0 Sx (H0 ++ H1 ++ H2) w) (ho : OwnSl v e 1 xs k H1) (hcb : capB v)
    (hmax : k + s.length ≤ 140737488355328) (hby : (k + s.length) * y ≤ 140737488355328)
    (K : ∀ v' w' H1', OwnSl v' e 1 (xs ++ bcs s) (k + s.length) H1' → capB v' → St w0 Sx (H0 ++ H1') w' → WL P n ops Q rest ((d, v') :: L) w') : WL P n ops Q (⟨some d, .call ⟨.builtin .append, #[xo, yo], #[t, t2]⟩, ty, pos, af, g⟩ :: rest) L w := by
  obtain ⟨hu, i, hi, hiz, hiy⟩ := ok_sl hT ht
  obtain ⟨i', hi', hzz⟩ := ok_zero hT hz
  have hii : i' = i := Option.some.inj (hi'.symm.trans hi)
  subst hii
  have hs : Go.Src P i'.size t2 (S s) s.length (bcs s) w := by
    rw [hiz]
    exact Go.Src.ofString w (ok_str hT hts) (ByteArray.mk ⟨s⟩)
  obtain ⟨a0, cap0, hv0, hle0⟩ := ho.cap
  rcases Nat.eq_zero_or_pos s.length with h0 | h0
  · have hs0 : s = [] := List.eq_nil_of_length_eq_zero h0
    subst hs0
    subst hv0
    exact WL_ev hg hn (Ev_append hx hy (run_append_nothing w t t2 ty e i' hu hi' a0 k cap0 hle0 _ hs)) (K _ _ H1 (by simpa using ho) hcb hSt.left)
  have hzs : zv.cells.size = 1 := by rw [zcells_cells]; simpa using hzl
  have h01 : St w0 Sx (H0 ++ H1) w := hSt.left
  obtain ⟨hxl, hv⟩ := ho
  have hcl : (bcs s).length = s.length := by simp
  rcases hv with ⟨rfl, rfl, rfl⟩ | ⟨b, cap, rs, rfl, hkc, hrs, rfl⟩
  · have hxs : xs = [] := List.eq_nil_of_length_eq_zero (by omega)
    subst hxs
    have hr := run_append_grow_src w t t2 ty e i' zv hu hi' hzz none 0 0 [] (run_firstCells_none w.drew i'.size 0 0 0) (S s) s.length (bcs s) hs (by omega) (by omega) (by rw [hiy]; exact growslice_fits (by omega) (by simpa using hby))
    refine WL_ev hg hn (Ev_append hx hy hr) ?_
    have hge := grownCap_ge w (0 + s.length) 0 e
    have hst2 := (St.drew hSt.left.left).alloc (.cells (([] ++ bcs s).toArray ++ Builtin.zeroCells zv.cells (grownCap w (0 + s.length) 0 e - (0 + s.length))) e)
    refine K _ _ [(w.heap.size, blk ([] ++ bcs s ++ (Builtin.zeroCells zv.cells (grownCap w (0 + s.length) 0 e - (0 + s.length))).toList) e)] ?_ (capB.mk (grownCap_le_maxLen w _ 0 e (by unfold maxLen; omega))) ?_
    · refine ⟨by simp, .inr ⟨w.heap.size, grownCap w (0 + s.length) 0 e, (Builtin.zeroCells zv.cells (grownCap w (0 + s.length) 0 e - (0 + s.length))).toList, rfl, hge, ?_, rfl⟩⟩
      simp [size_zeroCells, hzs]
    · have e1 : (Obj.cells (([] ++ bcs s).toArray ++ Builtin.zeroCells zv.cells (grownCap w (0 + s.length) 0 e - (0 + s.length))) e) = blk ([] ++ bcs s ++ (Builtin.zeroCells zv.cells (grownCap w (0 + s.length) 0 e - (0 + s.length))).toList) e := by
        congr 1
        apply Array.ext'
        simp
      rw [← e1]; exact hst2
  · have hib : (H0 ++ [(b, blk (xs ++ rs) e)])[H0.length]? = some (b, blk (xs ++ rs) e) := by simp
    have hblk := (h01.own _ _ _ hib).1
    have hset : ∀ (b' : Nat) (o' : Obj), (H0 ++ [(b, blk (xs ++ rs) e)]).set H0.length (b', o') = H0 ++ [(b', o')] := fun b' o' => by simp
    by_cases hroom : k + s.length ≤ cap
    · have hlen : s.length ≤ rs.length := by rw [hrs]; omega
      have hr := run_append_room_src w t t2 ty e i' hu hi' b 0 k cap (S s) s.length (bcs s) hs hroom (fun j hj => by
        rw [hcl] at hj
        rw [cell_of hblk, hiz, List.getElem?_eq_getElem (by simp; omega)]; rfl) (fun j hj => by simp [World.frozen?, hblk])
      refine WL_ev hg hn (Ev_append hx hy hr) ?_
      have e1 : spl (xs ++ rs) (0 + k * i'.size) (bcs s) = xs ++ bcs s ++ rs.drop s.length := by
        rw [hiz, Nat.zero_add, Nat.mul_one, spl_eq _ _ _ (by simp; omega)]
        have hk : k = xs.length := by omega
        rw [hk, List.take_left, List.drop_append, List.drop_eq_nil_of_le (by omega), hcl]
        simp
      refine K _ _ [(b, blk (xs ++ bcs s ++ rs.drop s.length) e)] ⟨by simp [hxl], .inr ⟨b, cap, rs.drop s.length, rfl, hroom, ?_, rfl⟩⟩ (capB.mk (hcb _ _ _ rfl)) ?_
      · rw [List.length_drop, hrs]; omega
      · rw [← hset, ← e1]
        exact h01.storeMany (bcs s) _ hib
    · have hxat : ∀ j v, xs[j]? = some v → w.drew.cell? ((⟨b, 0, none⟩ : Addr).add j) = some v := fun j v hj => by
        have := cells_at (m := k * 1) (w := w) hblk (news := xs) (by rw [List.drop_zero, ← hxl, List.take_left]) j v hj
        simpa using this
      have hold : (Builtin.firstCells i'.size k (.slice (some ⟨b, 0, none⟩) k cap)).run P w.drew = .ok xs.toArray w.drew := run_firstCells_some (P := P) w.drew i'.size k ⟨b, 0, none⟩ k cap xs (by rw [hiz]; exact hxl) hxat
      have hr := run_append_grow_src w t t2 ty e i' zv hu hi' hzz (some ⟨b, 0, none⟩) k cap xs hold (S s) s.length (bcs s) hs (by omega) (by omega) (by rw [hiy]; exact growslice_fits (by omega) hby)
      refine WL_ev hg hn (Ev_append hx hy hr) ?_
      have hge := grownCap_ge w (k + s.length) cap e
      have e1 : (Obj.cells ((xs ++ bcs s).toArray ++ Builtin.zeroCells zv.cells (grownCap w (k + s.length) cap e - (k + s.length))) e) = blk (xs ++ bcs s ++ (Builtin.zeroCells zv.cells (grownCap w (k + s.length) cap e - (k + s.length))).toList) e := by
        congr 1
        apply Array.ext'
        simp
      refine K _ _ [(w.heap.size, blk (xs ++ bcs s ++ (Builtin.zeroCells zv.cells (grownCap w (k + s.length) cap e - (k + s.length))).toList) e)] ⟨by simp [hxl], .inr ⟨w.heap.size, _, _, rfl, hge, ?_, rfl⟩⟩ (capB.mk (grownCap_le_maxLen w _ cap e (by unfold maxLen; omega))) ?_
      · simp [size_zeroCells, hzs]
      · rw [← e1]
        exact (St.drew hSt.left.left).alloc _
/-- a call of a function without a body -/
theorem Ev_extern {f : FuncId} {fn : Func} {e : Array Value → Sem Value} {xs : List Operand} {vs : List Value} {r : Value} {at_ : Array TypeId} (hf : P.funcs[f]? = some fn) (hname : (fn.name == "runtime.NumGoroutine") = false) (hb : fn.body.isNone = true) (hnx : Extern.findNext fn = none)
    (he : Extern.find fn = some e) (hx : opds L xs = some vs) (hr : (e ⟨vs⟩).run P w = .ok r w') : Ev P L (.call ⟨.value (.func f), ⟨xs⟩, at_⟩) ty w r w' := by
  refine ⟨fun n a ha _ _ _ _ => ?_⟩
  have hm := opds_spec hx ha
  have he2 : (execOp a.eval ⟨‹_›, .call ⟨.value (.func f), ⟨xs⟩, at_⟩, ty, ‹_›, ‹_›, ‹_›⟩) = callFunc f (⟨vs⟩ ++ #[]) := by
    simp only [execOp, resolve, Act.eval, Deferred.ofValue]
    have : (Array.map a.eval ⟨xs⟩) = ⟨vs⟩ := by rw [← hm]; simp
    rw [this]
    show invoke (Target.fn (Fn.func f) #[]) (#[] ++ ⟨vs⟩) = _
    simp [invoke]
  rw [he2, Array.append_empty, run_callFunc_extern hf hname hb hnx he, hr]
  rfl
theorem shape_of {b : Nat} {l : List Value} {E : TypeId} {fz : Nat × Nat} (h : w.heap[b]? = some (.cells ⟨l⟩ E fz)) : w.shape? b = some (E, l.length) := by
  simp [World.shape?, h]
theorem Ev_toUnsafe {src dst pt : TypeId} {j : TypeInfo} {b : Nat} {l : List Value} {E : TypeId} {fz : Nat × Nat} (hs : P.underlying src = some (.pointer pt)) (hd : P.underlying dst = some .unsafePointer) (hi : P.info? pt = some j) (hj : j.size ≠ 0)
    (hx : opd L xo = some (Ptr b)) (hb : w.heap[b]? = some (.cells ⟨l⟩ E fz)) (hl : 0 < l.length) : Ev P L (.convert src dst xo) ty w (Ptr b) w := by
  refine ⟨fun n c ha _ _ _ _ => ?_⟩
  simp only [execOp, ha.eval hx, Sem.run_bind, Lib.run_to_unsafe w ⟨b, 0, none⟩ hs hd hi hj (shape_of hb) hl, Result.andThen_ok, Sem.run_pure]
theorem Ev_fromUnsafe {src dst pt : TypeId} {j : TypeInfo} {b : Nat} {l : List Value} {E : TypeId} {fz : Nat × Nat} (hs : P.underlying src = some .unsafePointer) (hd : P.underlying dst = some (.pointer pt)) (hi : P.info? pt = some j)
    (hx : opd L xo = some (Ptr b)) (hb : w.heap[b]? = some (.cells ⟨l⟩ E fz)) (hlies : liesAt P P.depth E (l.length / P.cellsOf E) 0 pt 1 = true) : Ev P L (.convert src dst xo) ty w (Ptr b) w := by
  refine ⟨fun n c ha _ _ _ _ => ?_⟩
  simp only [execOp, ha.eval hx, Sem.run_bind, Lib.run_from_unsafe w ⟨b, 0, none⟩ hs hd hi (shape_of hb) hlies, Result.andThen_ok, Sem.run_pure]
theorem Ev_neqPtr {pt : TypeId} {j : TypeInfo} {p : Addr} (hp : P.underlying t = some (.pointer pt)) (hi : P.info? pt = some j) (hx : opd L xo = some (.pointer (some p))) (hy : opd L yo = some (.pointer (some p))) : Ev P L (.binOp .neq t xo yo t') ty w (.bool false) w :=
  Ev_bin hx hy (eqGuard_at_pointer ..) (Lib.run_neq_ptr_same w p hp hi)
end
end Go.Proofs.YthkimkgphaiagaaGreatDoor

namespace Go.Proofs.YthkimkgphaiagaaGreatDoor
open Go.RowKit
set_option linter.unusedVariables false
set_option linter.unusedSimpArgs false
section
variable {T : Tys} {P : Program} {n : Nat} {ops : Array Oper} {Q : Exit → Act → World → Prop} {L L' : Fr} {w w' w0 : World} {rest : List Oper} {ty t t' : TypeId} {xo yo zo : Operand}
  {Sx : Nat → Prop} {H : List (Nat × Obj)} {pos : String} {af : Array Edge} {g : Option (Nat × Bool)} {c : Code}
theorem run_callV {a : Act} {f : FuncId} {xs : List Operand} {vs caps : List Value} (hf : callB P f = true) (ho : opd L xo = some (.func (.func f) ⟨[]⟩ ⟨caps⟩)) (hx : opds L xs = some vs) (ha : Fits n L a) {at_ : Array TypeId} {dst : Option Tmp} :
    (execOp a.eval ⟨dst, .call ⟨.value xo, ⟨xs⟩, at_⟩, ty, pos, af, g⟩).run P w = .ok (.enter f ⟨vs ++ caps⟩) w := by
  have hm := opds_spec hx ha
  have he0 := ha.eval ho
  unfold callB at hf
  cases hfn : P.funcs[f]? with
  | none => simp [hfn] at hf
  | some fn =>
    simp only [hfn, Bool.and_eq_true, Bool.not_eq_true', Option.isSome_iff_exists] at hf
    obtain ⟨⟨b, hb⟩, hname⟩ := hf
    have hname' : ¬ (fn.name = "runtime.NumGoroutine") := by simpa using hname
    have he : (execOp a.eval ⟨dst, .call ⟨.value xo, ⟨xs⟩, at_⟩, ty, pos, af, g⟩) = callFunc f (⟨vs⟩ ++ ⟨caps⟩) := by
      simp only [execOp, resolve, he0, Deferred.ofValue]
      have : (Array.map a.eval ⟨xs⟩) = ⟨vs⟩ := by rw [← hm]; simp
      rw [this]
      simp [invoke]
    rw [he]
    simp [callFunc, hfn, hname', hb]
theorem WL_callV {d : Nat} {f : FuncId} {xs : List Operand} {vs caps : List Value} {R : Value → World → Prop} {at_ : Array TypeId} (hf : callB P f = true) (ho : opd L xo = some (.func (.func f) ⟨[]⟩ ⟨caps⟩)) (hx : opds L xs = some vs) (hg : wantB ops g L = some true) (hn : Nat.blt d n = true)
    (hc : Cl P f (vs ++ caps) w R) (k : ∀ v w', R v w' → WL P n ops Q rest ((d, v) :: L) w') : WL P n ops Q (⟨some d, .call ⟨.value xo, ⟨xs⟩, at_⟩, ty, pos, af, g⟩ :: rest) L w := by
  refine ⟨fun a ha => ?_⟩
  unfold wpList
  rw [wantB_spec (o := ⟨some d, .call ⟨.value xo, ⟨xs⟩, at_⟩, ty, pos, af, g⟩) hg ha, if_pos rfl]
  refine .inl ?_
  unfold Oper.wp
  rw [run_callV hf ho hx ha, Oper.upon_enter]
  refine Calls.mono hc.run ?_
  rintro e w' ⟨v, rfl, hr⟩
  exact (k v w' hr).run _ (ha.put hn v)
theorem QL_callV {C : World → Prop} {K : Act → Prop} {d : Nat} {f : FuncId} {xs : List Operand} {vs caps : List Value} {v : Value} {at_ : Array TypeId} (hf : callB P f = true) (ho : opd L xo = some (.func (.func f) ⟨[]⟩ ⟨caps⟩)) (hx : opds L xs = some vs) (hg : wantB ops g L = some true) (hn : Nat.blt d n = true)
    (hc : ∀ w, C w → Cl P f (vs ++ caps) w (fun r w' => r = v ∧ C w')) (k : QL P n ops C K rest ((d, v) :: L)) : QL P n ops C K (⟨some d, .call ⟨.value xo, ⟨xs⟩, at_⟩, ty, pos, af, g⟩ :: rest) L := by
  refine ⟨fun a ha => ?_⟩
  unfold wpQuiet
  rw [wantB_spec (o := ⟨some d, .call ⟨.value xo, ⟨xs⟩, at_⟩, ty, pos, af, g⟩) hg ha, if_pos rfl]
  refine ⟨v, fun w hw => ?_, k.run _ (ha.put hn v)⟩
  unfold Oper.quietAt
  rw [run_callV hf ho hx ha]
  refine ⟨rfl, Calls.mono (hc w hw).run ?_⟩
  rintro e w' ⟨u, rfl, rfl, hu⟩
  exact ⟨rfl, hu⟩
theorem Ev_makeFunc {f : FuncId} {xs : List Operand} {vs : List Value} (hx : opds L xs = some vs) : Ev P L (.makeFunc (.func f) #[] ⟨xs⟩) ty w (.func (.func f) ⟨[]⟩ ⟨vs⟩) w := by
  refine ⟨fun n a ha _ _ _ _ => ?_⟩
  have hm := opds_spec hx ha
  have : (Array.map a.eval ⟨xs⟩) = ⟨vs⟩ := by rw [← hm]; simp
  simp [execOp, Instr.makeFunc, this]
end
end Go.Proofs.YthkimkgphaiagaaGreatDoor

namespace Go.Proofs.YthkimkgphaiagaaGreatDoor
open Go.RowKit
set_option linter.unusedVariables false
set_option linter.unusedSimpArgs false
set_option linter.unusedSectionVars false
section
variable {T : Tys} {P : Program} {n : Nat} {ops : Array Oper} {Q : Exit → Act → World → Prop} {L L' : Fr} {w w' w0 : World} {rest : List Oper} {ty t t' : TypeId} {xo yo zo : Operand}
  {Sx : Nat → Prop} {H : List (Nat × Obj)}

/-- an array's literal, as a value -/
theorem Ev_buildArr (hT : T.Ok P) {m e z : Nat} {zs vs : List Value} {parts : List (Nat × Operand)} {ps : List (Nat × Nat × Value)} (ht : asc T.arr t = some (m, e, z)) (hz : asc T.zero t = some (.agg ⟨zs⟩))
    (hp : evElems L z parts = some ps) (hv : laid zs ps = some vs) : Ev P L (.build t ⟨parts⟩) ty w (.agg ⟨vs⟩) w := by
  refine ⟨fun n a ha _ _ _ _ => ?_⟩
  obtain ⟨hu, j, hj, hjz⟩ := ok_arr hT ht
  obtain ⟨it, hit, hzz⟩ := ok_zero hT hz
  have hb : P.built t (parts.map fun x => (x.1, a.eval x.2)) = some ⟨vs⟩ := by
    simp only [Program.built, hit, hu, hzz, hj, Value.cells]
    rw [hjz]
    exact fill_laid _ ps zs vs (evElems_spec ha parts ps hp) hv
  have := run_build (P := P) w t ⟨parts.map fun x => (x.1, a.eval x.2)⟩ ⟨vs⟩ hb
  simp only [execOp]
  have e : (Array.map (fun (x : Nat × Operand) => (x.1, a.eval x.2)) ⟨parts⟩) = ⟨parts.map fun x => (x.1, a.eval x.2)⟩ := by simp
  rw [show (fun (x : Nat × Operand) => match x with | (i, x) => (i, a.eval x)) = (fun (x : Nat × Operand) => (x.1, a.eval x.2)) from rfl, e]
  simp only [Sem.run_bind, this, Result.andThen_ok, Sem.run_pure]
/-- an element of one cell, of an array that is a value -/
theorem Ev_arrIndex1 {i : Int} {k : IntKind} {cs : List Value} {v : Value} {m e : Nat} (hT : T.Ok P) (ht : asc T.arr t = some (m, e, 1)) (he : mem1 T.one e = true) (hx : opd L xo = some (.agg ⟨cs⟩)) (hy : opd L yo = some (.int k i)) (h0 : 0 ≤ i) (h1 : i < m)
    (hv : cs[i.toNat]? = some v) : Ev P L (.index t xo yo) ty w v w := by
  obtain ⟨hu, j, hj, hjz⟩ := ok_arr hT ht
  refine ⟨fun n c ha _ _ _ _ => ?_⟩
  simp only [execOp, ha.eval hx, ha.eval hy, Instr.index, asIntOf, Sem.run_bind, Sem.run_pure, Result.andThen_ok, run_underlying' hu]
  rw [if_pos ⟨h0, h1⟩]
  simp [part, run_sizeOf' hj, hjz, run_isAgg_no hT he, hv]
theorem eqIn_iface_nil {ms : Array (String × TypeId)} {tx : TypeId} {v : Value} (ht : P.underlying t = some (.interface ms)) (d : Nat) : (Op.equalIn (d + 2) t (.iface tx v) .nilIface).run P w = .ok false w := by
  simp only [Op.equalIn, Sem.run_bind, run_underlying' ht, Result.andThen_ok]; rfl
theorem eqIn_nilI_nil {ms : Array (String × TypeId)} (ht : P.underlying t = some (.interface ms)) (d : Nat) : (Op.equalIn (d + 2) t .nilIface .nilIface).run P w = .ok true w := by
  simp only [Op.equalIn, Sem.run_bind, run_underlying' ht, Result.andThen_ok]; rfl
theorem eqGuard_ifaceN (op : BinOp) (tx : TypeId) (v : Value) : eqGuard op t xo yo (.iface tx v) .nilIface = pure () := by cases op <;> rfl
theorem Ev_iface_nil_neq {ms : Array (String × TypeId)} {tx : TypeId} {v : Value} (ht : P.underlying t = some (.interface ms)) (hx : opd L xo = some (.iface tx v)) (hy : opd L yo = some .nilIface) : Ev P L (.binOp .neq t xo yo t') ty w (.bool true) w :=
  Ev_ne_of hx hy (eqGuard_ifaceN ..) rfl (eqIn_iface_nil ht)
/-- nil against the constant nil -/
theorem Ev_nilI_nil_neq {ms : Array (String × TypeId)} {c : Value} (ht : P.underlying t = some (.interface ms)) (hx : opd L xo = some .nilIface) (hy : opd L (.const c) = some .nilIface) : Ev P L (.binOp .neq t xo (.const c) t') ty w (.bool false) w :=
  Ev_ne_of hx hy (eqGuard_nil_constR ..) rfl (eqIn_nilI_nil ht)
/-- a slice of a slice -/
theorem Ev_sliceS (hT : T.Ok P) {e z y len cap : Nat} {a : Option Addr} {lo hi : Option Operand} {i j : Int} (ht : asc T.sl t = some (e, z, y)) (hx : opd L xo = some (.slice a len cap)) (hlo : bnd L lo 0 = some i) (hhi : bnd L hi len = some j)
    (h0 : 0 ≤ i) (h1 : i ≤ j) (h2 : j ≤ cap) : Ev P L (.slice t xo lo hi none) ty w (.slice (if cap = i.toNat then a else a.map (·.add (i.toNat * z))) (j.toNat - i.toNat) (cap - i.toNat)) w := by
  refine ⟨fun n c ha _ _ _ _ => ?_⟩
  obtain ⟨hu, d, hd, hz, _⟩ := ok_sl hT ht
  have hs := sliceBounds_spec (P := P) true hlo hhi ha h0 h1 h2 w
  simp only [execOp, ha.eval hx, Sem.run_bind, Instr.sliceAt, run_underlying' hu, Result.andThen_ok, Instr.slice, Option.map_none, hs, run_sizeOf' hd, hz, Sem.run_pure]
theorem SlAt.drop {w : World} {a : Option Addr} {cap z : Nat} {xs : List (List Value)} (h : SlAt w (.slice a xs.length cap) z xs) {i : Nat} (hi : i ≤ xs.length) (hc : xs.length ≤ cap) :
    SlAt w (.slice (if cap = i then a else a.map (·.add (i * z))) (xs.length - i) (cap - i)) z (xs.drop i) := by
  obtain ⟨a', cap', hv, h⟩ := h
  injection hv with e1 _ e2
  subst e1; subst e2
  refine ⟨_, _, by rw [List.length_drop], fun k x hx => ?_⟩
  rw [List.getElem?_drop] at hx
  have hl := (List.getElem?_eq_some_iff.1 hx).1
  obtain ⟨b, off, l, E, fz, rfl, hb, ht, hz⟩ := h _ x hx
  rw [if_neg (by omega)]
  have e : (Addr.add ⟨b, off, none⟩ (i * z)) = ⟨b, off + i * z, none⟩ := by
    simp only [Addr.add]; split
    · rename_i h; rw [h]; rfl
    · rfl
  refine ⟨b, off + i * z, l, E, fz, by rw [Option.map_some, e], hb, ?_, hz⟩
  rw [Nat.add_mul, ← Nat.add_assoc] at ht
  exact ht
end
end Go.Proofs.YthkimkgphaiagaaGreatDoor

namespace Go.Proofs.YthkimkgphaiagaaGreatDoor
open Go.RowKit
set_option linter.unusedVariables false
set_option linter.unusedSimpArgs false
set_option linter.unusedSectionVars false

abbrev U (n : Nat) : Value := .int .u64 (n : Int)
abbrev Y (n : Nat) : Value := .int .u8 (n : Int)

section
variable {T : Tys} {P : Program} {n : Nat} {ops : Array Oper} {Q : Exit → Act → World → Prop} {L L' : Fr} {w w' w0 : World} {rest : List Oper} {ty t t' : TypeId} {xo yo zo : Operand}
  {Sx : Nat → Prop} {H H0 H1 H2 : List (Nat × Obj)} {pos : String} {af : Array Edge} {g : Option (Nat × Bool)}

theorem nat_modU (n : Nat) (h : n < 18446744073709551616) : (n : Int) % 18446744073709551616 = (n : Int) := by omega
section u64
variable {x y : Int} (a b : Nat) (hx : opd L xo = some (.int .u64 x)) (hy : opd L yo = some (.int .u64 y)) (ex : x = (a : Int)) (ey : y = (b : Int))
include hx hy ex ey
theorem Ev_xorU (ha : a < 18446744073709551616) (hb : b < 18446744073709551616) : Ev P L (.binOp .xor t xo yo t') ty w (U (a ^^^ b)) w := by
  subst ex; subst ey
  have := Ev_xor (P := P) (t := t) (t' := t') (ty := ty) (w := w) hx hy
  rwa [bits_xor_u64_nat a b ha hb] at this
theorem Ev_mulU : Ev P L (.binOp .mul t xo yo t') ty w (U (a * b % 18446744073709551616)) w := by
  subst ex; subst ey
  have := Ev_mulw (P := P) (t := t) (t' := t') (ty := ty) (w := w) hx hy
  rwa [IntKind.wrap_u64, ← Int.natCast_mul, show ((a * b : Nat) : Int) % 18446744073709551616 = ((a * b % 18446744073709551616 : Nat) : Int) by omega] at this
theorem Ev_addU (h : a + b < 18446744073709551616) : Ev P L (.binOp .add t xo yo t') ty w (U (a + b)) w := by
  subst ex; subst ey
  have := Ev_addw (P := P) (t := t) (t' := t') (ty := ty) (w := w) hx hy
  rwa [IntKind.wrap_u64, show ((a : Int) + (b : Int)) % 18446744073709551616 = ((a + b : Nat) : Int) by omega] at this
theorem Ev_divU (h : 0 < b) (ha : a < 18446744073709551616) : Ev P L (.binOp .quo t xo yo t') ty w (U (a / b)) w := by
  subst ex; subst ey
  have := Ev_quow (P := P) (t := t) (t' := t') (ty := ty) (w := w) hx hy (by omega)
  have h1 : a / b ≤ a := Nat.div_le_self a b
  rwa [IntKind.wrap_u64, Int.tdiv_eq_ediv_of_nonneg (by omega), ← Int.natCast_ediv, nat_modU (a / b) (Nat.lt_of_le_of_lt h1 ha)] at this
theorem Ev_remU (h : 0 < b) : Ev P L (.binOp .rem t xo yo t') ty w (U (a % b)) w := by
  subst ex; subst ey
  have := Ev_rem (P := P) (t := t) (t' := t') (ty := ty) (w := w) hx hy (by omega)
  rwa [Int.tmod_eq_emod_of_nonneg (by omega), ← Int.natCast_emod] at this
theorem Ev_orU (ha : a < 18446744073709551616) (hb : b < 18446744073709551616) : Ev P L (.binOp .or t xo yo t') ty w (U (a ||| b)) w := by
  subst ex; subst ey
  have h := Ev_or (P := P) (t := t) (t' := t') (ty := ty) (w := w) hx hy
  have h1 : (BitVec.ofInt 64 (a : Int)).toNat = a := by
    rw [BitVec.ofInt_natCast, BitVec.toNat_ofNat]; exact Nat.mod_eq_of_lt (by omega)
  have h2 : (BitVec.ofInt 64 (b : Int)).toNat = b := by
    rw [BitVec.ofInt_natCast, BitVec.toNat_ofNat]; exact Nat.mod_eq_of_lt (by omega)
  have h3 : a ||| b < 2 ^ 64 := Nat.or_lt_two_pow (by omega) (by omega)
  have e : bits .or .u64 (a : Int) (b : Int) = ((a ||| b : Nat) : Int) := by
    show IntKind.u64.wrap ((BitVec.ofInt 64 (a : Int) ||| BitVec.ofInt 64 (b : Int)).toNat : Int) = _
    rw [BitVec.toNat_or, h1, h2, IntKind.wrap_u64]; omega
  rwa [e] at h
theorem Ev_andU (ha : a < 18446744073709551616) (hb : b < 18446744073709551616) : Ev P L (.binOp .and t xo yo t') ty w (U (a &&& b)) w := by
  subst ex; subst ey
  have h := Ev_and (P := P) (t := t) (t' := t') (ty := ty) (w := w) hx hy
  have h1 : (BitVec.ofInt 64 (a : Int)).toNat = a := by
    rw [BitVec.ofInt_natCast, BitVec.toNat_ofNat]; exact Nat.mod_eq_of_lt (by omega)
  have h2 : (BitVec.ofInt 64 (b : Int)).toNat = b := by
    rw [BitVec.ofInt_natCast, BitVec.toNat_ofNat]; exact Nat.mod_eq_of_lt (by omega)
  have h3 : a &&& b < 2 ^ 64 := Nat.and_lt_two_pow a (by omega)
  have e : bits .and .u64 (a : Int) (b : Int) = ((a &&& b : Nat) : Int) := by
    show IntKind.u64.wrap ((BitVec.ofInt 64 (a : Int) &&& BitVec.ofInt 64 (b : Int)).toNat : Int) = _
    rw [BitVec.toNat_and, h1, h2, IntKind.wrap_u64]; omega
  rwa [e] at h
end u64

section u8
variable {x y : Int} (a b : Nat) (hx : opd L xo = some (.int .u8 x)) (hy : opd L yo = some (.int .u8 y)) (ex : x = (a : Int)) (ey : y = (b : Int)) (ha : a < 256) (hb : b < 256)
include hx hy ex ey
include ha hb in
theorem Ev_orY : Ev P L (.binOp .or t xo yo t') ty w (Y (a ||| b)) w := by
  subst ex; subst ey
  have h := Ev_or (P := P) (t := t) (t' := t') (ty := ty) (w := w) hx hy
  have h1 : (BitVec.ofInt 8 (a : Int)).toNat = a := by
    rw [BitVec.ofInt_natCast, BitVec.toNat_ofNat]; exact Nat.mod_eq_of_lt (by omega)
  have h2 : (BitVec.ofInt 8 (b : Int)).toNat = b := by
    rw [BitVec.ofInt_natCast, BitVec.toNat_ofNat]; exact Nat.mod_eq_of_lt (by omega)
  have h3 : a ||| b < 2 ^ 8 := Nat.or_lt_two_pow (by omega) (by omega)
  have e : bits .or .u8 (a : Int) (b : Int) = ((a ||| b : Nat) : Int) := by
    show IntKind.u8.wrap ((BitVec.ofInt 8 (a : Int) ||| BitVec.ofInt 8 (b : Int)).toNat : Int) = _
    rw [BitVec.toNat_or, h1, h2]; simp [IntKind.wrap, IntKind.signed, IntKind.bits]; omega
  rwa [e] at h
include ha hb in
theorem Ev_andY : Ev P L (.binOp .and t xo yo t') ty w (Y (a &&& b)) w := by
  subst ex; subst ey
  have h := Ev_and (P := P) (t := t) (t' := t') (ty := ty) (w := w) hx hy
  have h1 : (BitVec.ofInt 8 (a : Int)).toNat = a := by
    rw [BitVec.ofInt_natCast, BitVec.toNat_ofNat]; exact Nat.mod_eq_of_lt (by omega)
  have h2 : (BitVec.ofInt 8 (b : Int)).toNat = b := by
    rw [BitVec.ofInt_natCast, BitVec.toNat_ofNat]; exact Nat.mod_eq_of_lt (by omega)
  have h3 : a &&& b < 2 ^ 8 := Nat.and_lt_two_pow a (by omega)
  have e : bits .and .u8 (a : Int) (b : Int) = ((a &&& b : Nat) : Int) := by
    show IntKind.u8.wrap ((BitVec.ofInt 8 (a : Int) &&& BitVec.ofInt 8 (b : Int)).toNat : Int) = _
    rw [BitVec.toNat_and, h1, h2]; simp [IntKind.wrap, IntKind.signed, IntKind.bits]; omega
  rwa [e] at h
theorem Ev_remY (h : 0 < b) : Ev P L (.binOp .rem t xo yo t') ty w (Y (a % b)) w := by
  subst ex; subst ey
  have := Ev_rem (P := P) (t := t) (t' := t') (ty := ty) (w := w) hx hy (by omega)
  rwa [Int.tmod_eq_emod_of_nonneg (by omega), ← Int.natCast_emod] at this
end u8

theorem Ev_shrU {k : IntKind} {x y : Int} (a c : Nat) (hx : opd L xo = some (.int .u64 x)) (hy : opd L yo = some (.int k y)) (ex : x = (a : Int)) (ey : y = (c : Int)) (hc : c ≤ 64) : Ev P L (.binOp .shr t xo yo t') ty w (U (a / 2 ^ c)) w := by
  subst ex; subst ey
  have h := Ev_bin (P := P) (t := t) (t' := t') (ty := ty) (w := w) (op := .shr) (r := U (a / 2 ^ c)) hx hy (eqGuard_shr ..) (by
    rw [binOp_shr, shift_shr _ _ _ _ (by omega) (by simp [IntKind.bits]; omega), Sem.run_pure]
    rw [Int.toNat_natCast, U, Int.natCast_ediv, Int.natCast_pow]; rfl)
  exact h
theorem Ev_shlU {k : IntKind} {x y : Int} (a c : Nat) (hx : opd L xo = some (.int .u64 x)) (hy : opd L yo = some (.int k y)) (ex : x = (a : Int)) (ey : y = (c : Int)) (hc : c ≤ 64) : Ev P L (.binOp .shl t xo yo t') ty w (U (a * 2 ^ c % 18446744073709551616)) w := by
  subst ex; subst ey
  have h := Ev_bin (P := P) (t := t) (t' := t') (ty := ty) (w := w) (op := .shl) (r := U (a * 2 ^ c % 18446744073709551616)) hx hy (eqGuard_shl ..) (by
    rw [binOp_shl, shift_shl _ _ _ _ (by omega) (by simp [IntKind.bits]; omega), Sem.run_pure]
    rw [Int.toNat_natCast, U, IntKind.wrap_u64, Int.natCast_emod, Int.natCast_mul, Int.natCast_pow]; rfl)
  exact h
theorem Ev_shlY {k : IntKind} {x y : Int} (a c : Nat) (hx : opd L xo = some (.int .u8 x)) (hy : opd L yo = some (.int k y)) (ex : x = (a : Int)) (ey : y = (c : Int)) (hc : c ≤ 8) : Ev P L (.binOp .shl t xo yo t') ty w (Y (a * 2 ^ c % 256)) w := by
  subst ex; subst ey
  have h := Ev_bin (P := P) (t := t) (t' := t') (ty := ty) (w := w) (op := .shl) (r := Y (a * 2 ^ c % 256)) hx hy (eqGuard_shl ..) (by
    rw [binOp_shl, shift_shl _ _ _ _ (by omega) (by simp [IntKind.bits]; omega), Sem.run_pure]
    rw [Int.toNat_natCast, Y, Int.natCast_emod, Int.natCast_mul, Int.natCast_pow]
    simp [IntKind.wrap, IntKind.signed, IntKind.bits])
  exact h

theorem inU {x : Int} (h1 : 0 ≤ x) (h2 : x ≤ 18446744073709551615) : inK .u64 x := by
  simp [inK, IntKind.min, IntKind.max, IntKind.signed, IntKind.bits]; omega
theorem inY {x : Int} (h1 : 0 ≤ x) (h2 : x ≤ 255) : inK .u8 x := by
  simp [inK, IntKind.min, IntKind.max, IntKind.signed, IntKind.bits]; omega
/-- a number becomes a byte -/
theorem Ev_conv_byte (hT : T.Ok P) {j : IntKind} {x : Int} (a : Nat) {s d : TypeId} (hs : asc T.int s = some j) (hd : asc T.int d = some .u8) (hx : opd L xo = some (.int j x)) (ex : x = (a : Int)) : Ev P L (.convert s d xo) ty w (Y (a % 256)) w := by
  subst ex
  have h := Ev_conv_int (w := w) (ty := ty) hT hs hd hx
  rwa [show IntKind.u8.wrap (a : Int) = ((a % 256 : Nat) : Int) by simp [IntKind.wrap, IntKind.signed, IntKind.bits]] at h
/-- a number that is not negative becomes one of 64 bits -/
theorem Ev_convU (hT : T.Ok P) {j : IntKind} {x : Int} (a : Nat) {s d : TypeId} (hs : asc T.int s = some j) (hd : asc T.int d = some .u64) (hx : opd L xo = some (.int j x)) (ex : x = (a : Int)) (ha : a < 18446744073709551616) : Ev P L (.convert s d xo) ty w (U a) w := by
  subst ex
  exact Ev_conv_in hT hs hd hx (inU (by omega) (by omega))
theorem Ev_convI (hT : T.Ok P) {j : IntKind} {x : Int} (a : Nat) {s d : TypeId} (hs : asc T.int s = some j) (hd : asc T.int d = some .i64) (hx : opd L xo = some (.int j x)) (ex : x = (a : Int)) (ha : a ≤ 9223372036854775807) : Ev P L (.convert s d xo) ty w (I a) w := by
  subst ex
  exact Ev_conv_in hT hs hd hx (inI (by omega) (by omega))

/-- a slice of an array that lies in memory -/
theorem Ev_sliceArr (hT : T.Ok P) {m e z b off : Nat} {lo hi : Option Operand} {i j : Int} (ht : asc T.arr t = some (m, e, z)) (hx : opd L xo = some (.pointer (some ⟨b, off, none⟩))) (hlo : bnd L lo 0 = some i) (hhi : bnd L hi m = some j)
    (h0 : 0 ≤ i) (h1 : i ≤ j) (h2 : j ≤ m) (h3 : i < m) : Ev P L (.slice t xo lo hi none) ty w (.slice (some ⟨b, off + i.toNat * z, none⟩) (j.toNat - i.toNat) (m - i.toNat)) w := by
  refine ⟨fun n c ha _ _ _ _ => ?_⟩
  obtain ⟨hu, d, hd, hz⟩ := ok_arr hT ht
  have hs := sliceBounds_spec (P := P) false hlo hhi ha h0 h1 h2 w
  have e : (Addr.add ⟨b, off, none⟩ (i.toNat * z)) = ⟨b, off + i.toNat * z, none⟩ := by
    simp only [Addr.add]; split
    · rename_i h; rw [h]; rfl
    · rfl
  have hne : ¬ m = i.toNat := by omega
  simp only [execOp, ha.eval hx, Sem.run_bind, Instr.sliceAt, Instr.sureAddr, run_underlying' hu, Result.andThen_ok, Option.map_none, hs, run_sizeOf' hd, hz, Sem.run_pure, if_neg hne, e]

/-! ## Ranges over strings -/

theorem WL_range {d : Nat} {s : List UInt8} (hT : T.Ok P) (ht : mem1 T.str t = true) (hx : opd L xo = some (S s)) (hg : wantB ops g L = some true) (hn : Nat.blt d n = true) (hSt : St w0 Sx H w)
    (k : ∀ w' b, w0.heap.size ≤ b → St w0 Sx (H ++ [(b, .stringIter ⟨⟨s⟩⟩ 0)]) w' → WL P n ops Q rest ((d, .pointer (some ⟨b, 0, none⟩)) :: L) w') : WL P n ops Q (⟨some d, .range t xo, ty, pos, af, g⟩ :: rest) L w := by
  refine WL_ev hg hn (v := .pointer (some ⟨w.heap.size, 0, none⟩)) (w' := w.alloc (.stringIter ⟨⟨s⟩⟩ 0)) ⟨fun n c ha _ _ _ _ => ?_⟩ (k _ _ hSt.size (hSt.alloc _))
  simp only [execOp, ha.eval hx, Sem.run_bind, run_range_string w t ⟨⟨s⟩⟩ (ok_str hT ht), World.iter, Result.andThen_ok, Sem.run_pure]

theorem heap_setAt {w : World} {r : Nat} {o o' : Obj} (hb : w.heap[r]? = some o) : (w.heap.setIfInBounds r o')[r]? = some o' ∧ ∀ j, j ≠ r → (w.heap.setIfInBounds r o')[j]? = w.heap[j]? := by
  have hlt := (Array.getElem?_eq_some_iff.1 hb).1
  refine ⟨by simp [Array.getElem?_setIfInBounds, hlt], fun j hj => ?_⟩
  rw [Array.getElem?_setIfInBounds, if_neg (fun e => hj e.symm)]

theorem WL_next {d r p : Nat} {s : List UInt8} (i : Nat) (hx : opd L xo = some (.pointer (some ⟨r, 0, none⟩))) (hg : wantB ops g L = some true) (hn : Nat.blt d n = true) (hSt : St w0 Sx H w) (hi : H[i]? = some (r, .stringIter ⟨⟨s⟩⟩ p)) (hp : p < s.length)
    (k : ∀ w' (c m : Nat), Utf8.decode ⟨⟨s⟩⟩ p = (c, m) → St w0 Sx (H.set i (r, .stringIter ⟨⟨s⟩⟩ (p + m))) w' → WL P n ops Q rest ((d, .tuple ⟨[B true, I p, .int .i32 (c : Nat)]⟩) :: L) w') : WL P n ops Q (⟨some d, .next xo true, ty, pos, af, g⟩ :: rest) L w := by
  have hb := (hSt.own i r _ hi).1
  obtain ⟨c, m, hcm⟩ : ∃ c m, Utf8.decode ⟨⟨s⟩⟩ p = (c, m) := ⟨_, _, rfl⟩
  have hs := heap_setAt (o' := Obj.stringIter ⟨⟨s⟩⟩ (p + m)) hb
  refine WL_ev hg hn (v := .tuple ⟨[B true, I p, .int .i32 (c : Nat)]⟩) (w' := { w with heap := w.heap.setIfInBounds r (.stringIter ⟨⟨s⟩⟩ (p + m)) }) ⟨fun n a ha _ _ _ _ => ?_⟩
    (k _ c m hcm (St.turn (w' := { w with heap := w.heap.setIfInBounds r (.stringIter ⟨⟨s⟩⟩ (p + m)) }) hSt hi rfl rfl rfl (by simp) (fun j _ hj => hs.2 j hj) hs.1 (Or.inl rfl)))
  have hp' : p < (ByteArray.mk ⟨s⟩).size := hp
  simp [execOp, ha.eval hx, Instr.next, getObj, setObj, Sem.run, hb, hp', hcm, goInt]

theorem WL_nextEnd {d r p : Nat} {s : List UInt8} (hx : opd L xo = some (.pointer (some ⟨r, 0, none⟩))) (hg : wantB ops g L = some true) (hn : Nat.blt d n = true) (hb : w.heap[r]? = some (.stringIter ⟨⟨s⟩⟩ p)) (hp : ¬ p < s.length)
    (k : WL P n ops Q rest ((d, .tuple ⟨[B false]⟩) :: L) w) : WL P n ops Q (⟨some d, .next xo true, ty, pos, af, g⟩ :: rest) L w := by
  refine WL_ev hg hn (v := .tuple ⟨[B false]⟩) (w' := w) ⟨fun n a ha _ _ _ _ => ?_⟩ k
  have hp' : ¬ p < (ByteArray.mk ⟨s⟩).size := hp
  simp [execOp, ha.eval hx, Instr.next, getObj, Sem.run, hb, hp']

theorem decode_some (s : List UInt8) (p : Nat) (hp : p < s.length) {c m : Nat} (h : Utf8.decode ⟨⟨s⟩⟩ p = (c, m)) : 1 ≤ m ∧ p + m ≤ s.length := by
  unfold Utf8.decode at h
  have e : (ByteArray.mk ⟨s⟩).size = s.length := rfl
  simp only [e] at h
  repeat' split at h
  all_goals (injection h with h1 h2; subst h2)
  all_goals simp_all
  all_goals omega
theorem decode_low (s : List UInt8) (p : Nat) {b : UInt8} (hp : s[p]? = some b) (hb : b.toNat < 128) : Utf8.decode ⟨⟨s⟩⟩ p = (b.toNat, 1) := by
  obtain ⟨h1, h2⟩ := List.getElem?_eq_some_iff.1 hp
  have hs : p < (ByteArray.mk ⟨s⟩).size := h1
  have e : ((ByteArray.mk ⟨s⟩)[p]'hs) = b := by simp [ByteArray.getElem_eq_getElem_data, h2]
  have := decode_ascii ⟨⟨s⟩⟩ p hs (by rw [e]; exact hb)
  rw [this, e]
end
end Go.Proofs.YthkimkgphaiagaaGreatDoor

namespace Go.Proofs.YthkimkgphaiagaaGreatDoor
open Go.RowKit
set_option linter.unusedVariables false
set_option linter.unusedSimpArgs false
theorem Ev_auto {P : Program} {L : Fr} {op : Op} {ty : TypeId} {w w' : World} {v : Value} (h : Ev P L op ty w v w' := by (first | exact Ev_move rfl | exact Ev_assign rfl | exact Ev_nilCheck rfl | exact Ev_fieldAddr hT rfl rfl | exact Ev_load1 hT rfl rfl (hSt.at 0 rfl) rfl | exact Ev_load1 hT rfl rfl (hSt.at 1 rfl) rfl | exact Ev_load1 hT rfl rfl (hSt.at 2 rfl) rfl | exact Ev_load1 hT rfl rfl (hSt.at 3 rfl) rfl | exact Ev_loadN hT rfl rfl (hSt.at 0 rfl) rfl rfl | exact Ev_loadN hT rfl rfl (hSt.at 1 rfl) rfl rfl | exact Ev_loadN hT rfl rfl (hSt.at 2 rfl) rfl rfl | exact Ev_loadN hT rfl rfl (hSt.at 3 rfl) rfl rfl | exact Ev_pickT rfl rfl | exact Ev_pickF rfl rfl | exact Ev_eql rfl rfl | exact Ev_neq rfl rfl | exact Ev_lss rfl rfl | exact Ev_leq rfl rfl | exact Ev_gtr rfl rfl | exact Ev_geq rfl rfl | exact Ev_add rfl rfl (by omega) | exact Ev_sub rfl rfl (by omega) | exact Ev_len_str rfl hT rfl | exact Ev_len_slice hT rfl rfl | exact Ev_extract rfl rfl | exact Ev_notP rfl | exact Ev_not rfl | exact Ev_str_eql rfl rfl | exact Ev_str_neq rfl rfl | exact Ev_min rfl rfl | exact Ev_max rfl rfl | exact Ev_some_nil_eql (ok_ptr hT rfl) rfl rfl | exact Ev_some_nil_neq (ok_ptr hT rfl) rfl rfl | exact Ev_nil_nil_eql (ok_ptr hT rfl) rfl rfl | exact Ev_nil_nil_neq (ok_ptr hT rfl) rfl rfl | exact Ev_str_slice hT rfl rfl rfl rfl (by omega) (by omega) (by omega) | exact Ev_str_add rfl rfl (by omega) | exact Ev_conv_in hT rfl rfl rfl (inI (by omega) (by omega)) | exact Ev_build hT rfl rfl rfl rfl rfl (ok_stc hT rfl) | exact Ev_addw rfl rfl | exact Ev_beql rfl rfl (ok_boo hT rfl) | exact Ev_bneq rfl rfl (ok_boo hT rfl) | exact Ev_indexAddr hT rfl rfl rfl (by omega) (by omega) | exact Ev_remP rfl rfl (by omega) (by omega) | exact Ev_struct_eql (ok_eq rfl) rfl rfl rfl rfl | exact Ev_struct_neq (ok_eq rfl) rfl rfl rfl rfl | exact Ev_map_nil_eql (ok_map rfl) rfl rfl | exact Ev_quo rfl rfl (by omega) (by omega) (by omega) | exact Ev_mul rfl rfl (by omega) | exact Ev_slice_nil_eql hT rfl rfl rfl | exact Ev_slice_nil_neq hT rfl rfl rfl)) : Ev P L op ty w v w' := h
theorem absA {G : Prop} (h : False := by first | omega | contradiction | exact of_dec hc rfl | exact hc rfl | (simp at hc <;> fail)) : G := h.elim
theorem stepA {p q : Prop} (h : q) (k : q → p := by intro h; (first | exact W_seq h | exact W_block h | exact W_region h | exact WL_nil h | exact W_true rfl h | exact W_false rfl h | exact W_skip h | exact W_exit h | exact W_ret h | exact W_goto h | exact W_label h | exact At_calm h | exact At_then_normal h | exact At_then h | exact At_then_ret h | exact At_in_normal h | exact At_in_ret h | exact At_in_hit h | exact At_in_miss rfl h | exact At_jump_normal h | exact At_jump_ret h | exact At_jump_exit h | exact At_then_goto h | exact At_in_goto h | exact WL_ev rfl rfl Ev_auto h | exact WL_pass rfl rfl h | exact WL_pass0 rfl h | exact ret0' rfl h | fail)) : p := k h
theorem stepS {p q : Prop} (h : q) (k : q → p := by intro h; (first | exact WL_store1 hT rfl rfl 0 rfl rfl hSt rfl rfl rfl h | exact WL_store1 hT rfl rfl 1 rfl rfl hSt rfl rfl rfl h | exact WL_store1 hT rfl rfl 2 rfl rfl hSt rfl rfl rfl h | exact WL_store1 hT rfl rfl 3 rfl rfl hSt rfl rfl rfl h | exact WL_storeN hT rfl rfl 0 rfl rfl hSt rfl rfl rfl rfl h | exact WL_storeN hT rfl rfl 1 rfl rfl hSt rfl rfl rfl rfl h | exact WL_storeN hT rfl rfl 2 rfl rfl hSt rfl rfl rfl rfl h | exact WL_storeN hT rfl rfl 3 rfl rfl hSt rfl rfl rfl rfl h | fail)) : p := k h
theorem stepB {p q : Prop} (h : q) (k : q → p := by intro h; (first | exact WL_box rfl rfl rfl hSt h | exact WL_alloc hT rfl rfl rfl hSt h | fail)) : p := k h
theorem stepG {p a b : Prop} (h1 : a) (h2 : b) (k : a → b → p := by intro h1 h2; (first | exact WL_guardP rfl rfl h1 h2 | exact WL_guard rfl rfl h1 h2 | exact W_if rfl h1 h2 | exact W_cond rfl h1 h2 | fail)) : p := k h1 h2
end Go.Proofs.YthkimkgphaiagaaGreatDoor

namespace Go.Proofs.YthkimkgphaiagaaGreatDoor
open Go.RowKit
set_option linter.unusedVariables false
set_option linter.unusedSimpArgs false
set_option linter.unusedSectionVars false
section
variable {P : Program} {L : Fr} {w : World} {t t' ty : TypeId} {xo yo zo : Operand}
theorem Ev_struct_no {ks : List CK} {xs ys : List Value} (h : eqsB P (t, ks) = true) (hx : opd L xo = some (.agg ⟨xs⟩)) (hy : opd L yo = some (.agg ⟨ys⟩)) (hfx : fitK ks xs = true) (hfy : fitK ks ys = true) (hne : xs ≠ ys) :
    Ev P L (.binOp .eql t xo yo t') ty w (.bool false) w := by
  have := Ev_struct_eql (w := w) (ty := ty) (t' := t') h hx hy hfx hfy
  rwa [show @decide (xs = ys) (Classical.propDecidable _) = false from @decide_eq_false _ (Classical.propDecidable _) hne] at this
theorem Ev_struct_yes {ks : List CK} {xs : List Value} (h : eqsB P (t, ks) = true) (hx : opd L xo = some (.agg ⟨xs⟩)) (hy : opd L yo = some (.agg ⟨xs⟩)) (hfx : fitK ks xs = true) :
    Ev P L (.binOp .eql t xo yo t') ty w (.bool true) w := by
  have := Ev_struct_eql (w := w) (ty := ty) (t' := t') h hx hy hfx hfx
  rwa [show @decide (xs = xs) (Classical.propDecidable _) = true from @decide_eq_true _ (Classical.propDecidable _) rfl] at this
theorem Ev_struct_nyes {ks : List CK} {xs : List Value} (h : eqsB P (t, ks) = true) (hx : opd L xo = some (.agg ⟨xs⟩)) (hy : opd L yo = some (.agg ⟨xs⟩)) (hfx : fitK ks xs = true) :
    Ev P L (.binOp .neq t xo yo t') ty w (.bool false) w := by
  have := Ev_struct_neq (w := w) (ty := ty) (t' := t') h hx hy hfx hfx
  rwa [show @decide (xs ≠ xs) (Classical.propDecidable _) = false from @decide_eq_false _ (Classical.propDecidable _) (fun e => e rfl)] at this
theorem Ev_max3 {x y z : Int} {k : IntKind} {ts : Array TypeId} (hx : opd L xo = some (.int k x)) (hy : opd L yo = some (.int k y)) (hz : opd L zo = some (.int k z)) : Ev P L (.call ⟨.builtin .max, #[xo, yo, zo], ts⟩) ty w (.int k (max (max x y) z)) w := by
  refine ⟨fun n c ha _ _ _ _ => ?_⟩
  have e : (if y > x then y else x) = max x y := by omega
  have e2 : (if z > max x y then z else max x y) = max (max x y) z := by omega
  simp [execOp, resolve, invoke, builtin, Builtin.max_, Builtin.max2, ha.eval hx, ha.eval hy, ha.eval hz, e, e2]
end
end Go.Proofs.YthkimkgphaiagaaGreatDoor

namespace Go.Proofs.YthkimkgphaiagaaGreatDoor
open Go.RowKit Go.ChangeShapes Go.WideShapes Go.Deep
set_option linter.unusedVariables false
set_option linter.unusedSimpArgs false

theorem returns_of_laid {H : Type} {enc : TypeId × Value → H} {a : Assume} {C : Checked} {os : Os} {f : FuncId} {fn : Func} {s : ChangeSpec} {conds : List PathCond} {apart fresh handsOn again : Bool} {L : List (String × DataW Unit)}
    (own : ownKnob C.prog.godebug = none) (started : os.Started) (noInit : C.prog.inits.idxOf? f = none) (hfn : C.prog.funcs[f]? = some fn)
    (witness : ∃ (w : World) (tape : Tape) (i : Input), w.os = os ∧ (w.forCall tape i).Shaped C.prog ∧ i.vars = [] ∧ Input.okWide C.prog (w.forCall tape i) .any w.heap.size f i ∧
      ((s.pre enc C.prog fn conds apart (w.forCall tape i).memory i.args ∧ laidMetH C.prog L (w.forCall tape i).memory) ∧ sizedMet enc C.prog fn (OpenSpec.ofChange s) apart (w.forCall tape i).memory i.args) ∧ a.holds C.prog (lone (Frame.enter C.prog f i.args .normal) [] (w.forCall tape i)))
    (contract : ∀ (W : World) (base : Nat) (args : Array Value) (ds gs : List (DataW H)) (before : List MemPlace), W.ShapedOpen C.prog →
      (∀ (j : Nat) t v, fn.params[j]? = some t → args[j]? = some v → Value.okWide C.prog W .any base t v) →
      DataW.Whole enc C.prog fn.params.toList s.vars apart W args.toList ds gs before →
      conds.all (PathCond.test C.prog ⟨fn.params.toList, ds, s.plain.varTypes C.prog, gs⟩) = true →
      (DataW.weightsEach C.prog (fn.params.toList ++ s.plain.varTypes C.prog) (ds ++ gs)).all (· ≤ reachBytes) = true → laidMetH C.prog L W →
      a.holds C.prog (lone (Frame.enter C.prog f args .normal) [] W) →
      Calls C.prog f args W fun e W' => ∃ v, e = .returned v ∧ s.post enc C.prog fn apart fresh handsOn again W args v W') :
    ReturnsInHanded a C os f .any (fun w args => (s.pre enc C.prog fn conds apart w args ∧ laidMetH C.prog L w) ∧ sizedMet enc C.prog fn (OpenSpec.ofChange s) apart w args) (s.post enc C.prog fn apart fresh handsOn again) := by
  refine returnsInHanded_of_calls own started noInit witness ?_
  intro w tape i _ hsh _ hok hpre hholds
  obtain ⟨_, _, _, fn', hfn', _, _, _, _, hval⟩ := hok
  have e : fn' = fn := Option.some.inj (hfn'.symm.trans hfn)
  subst e
  obtain ⟨⟨⟨ds, gs, before, hw, hc⟩, hx⟩, hz⟩ := hpre
  have hw' := DataW.Whole.of_heap (w' := w.forCall tape i) (by rfl) hw
  refine (contract (w.forCall tape i) w.heap.size i.args ds gs before hsh hval hw' hc (hz.weights hw) (hx.of_heap (by rfl)) hholds).mono fun e W' ⟨v, he, hp⟩ => ?_
  subst he
  exact ChangeSpec.post_blind hp
/-- a variable of one number holds some number -/
theorem int_of_shape {P : Program} {w : World} {g : Nat} {t : TypeId} {k : IntKind} {zero : Array Value} (h : w.ShapedOpen P) (hg : g < P.globals.size)
    (h0 : ((begin P (fun _ _ => 0) default).world.heap[g]?).bind Obj.row? = some (zero, t)) (hz : zero.size = 1)
    (hb : P.buildable t = true) (hc : P.cellTypes P.depth t = some [t]) (hu : P.underlying t = some (.int k)) : ∃ (n : Int) (fz : Nat × Nat), w.heap[g]? = some (.cells ⟨[.int k n]⟩ t fz) := by
  obtain ⟨cs, hh, hs, hr⟩ := h.1 g zero t hg h0
  obtain ⟨ts, hts, _, hall⟩ := hr hb
  rw [hc] at hts
  cases hts
  obtain ⟨l⟩ := cs
  have hs1 : l.length = 1 := by simpa [hz] using hs
  match l, hs1 with
  | [c], _ =>
    obtain ⟨u, hu', hok⟩ := hall 0 c rfl
    have : u = t := by simpa using hu'.symm
    subst this
    unfold Cell.ok at hok
    rw [hu] at hok
    cases c with
    | int k' n => obtain ⟨rfl, _⟩ := hok; exact ⟨n, _, hh⟩
    | _ => exact absurd hok (by simp)
/-- rows of two -/
theorem pairs_flat {α : Type} {f : α → List Value} : ∀ (ds : List α) (cs : List Value), (∀ a, (f a).length = 2) → cs.length = 2 * ds.length → (∀ (i : Nat) (d : α), ds[i]? = some d → (cs.drop (i * 2)).take 2 = f d) → cs = ds.flatMap f
  | [], cs, _, hl, _ => by simpa using hl
  | d :: ds, cs, hf, hl, h => by
    have h0 := h 0 d rfl
    rw [Nat.zero_mul, List.drop_zero] at h0
    have ih := pairs_flat ds (cs.drop 2) hf (by rw [List.length_drop, hl, List.length_cons]; omega) (fun i x hx => by
      have := h (i + 1) x (by simpa using hx)
      rw [List.drop_drop]
      rwa [show (i + 1) * 2 = 2 + i * 2 by omega] at this)
    rw [List.flatMap_cons, ← ih, ← h0, List.take_append_drop]
/-- a table of pairs of numbers is laid out pair by pair -/
theorem trod_pairs {P : Program} {H : Type} {enc : TypeId × Value → H} {w : World} {base : Nat} {sp : Nat → Bool} {held : Bool} {fuel : Nat} {t e : TypeId} {n : Nat} {f0 f1 : Field} {k : IntKind} {cs : List Value} {p : List MemPlace} {ds : List (Int × Int)}
    (ht : P.underlying t = some (.array n e)) (he : P.underlying e = some (.struct #[f0, f1])) (ho : f0.offset = 0 ∧ f1.offset = 1) (hk0 : P.underlying f0.type = some (.int k)) (hk1 : P.underlying f1.type = some (.int k))
    (hc : P.cellsOf f0.type = 1 ∧ P.cellsOf f1.type = 1) (he2 : P.cellsOf e = 2) (hct : P.cellsOf t = 2 * n)
    (h : DataW.trod enc P w base sp held fuel t cs = some (.agg (ds.map fun d => .agg [.lit (.int k d.1), .lit (.int k d.2)]), p)) : cs = ds.flatMap fun d => [.int k d.1, .int k d.2] := by
  obtain ⟨xs, m, _, ex, hl, hxl, hel⟩ := DataW.trod_array ht h
  simp only [Prod.mk.injEq, DataW.agg.injEq] at ex
  have hdl : ds.length = n := by
    have := congrArg List.length ex.1
    simpa [hxl] using this
  refine pairs_flat ds cs (fun _ => rfl) (by omega) (fun i d hd => ?_)
  have hi : i < n := by rw [← hdl]; exact (List.getElem?_eq_some_iff.1 hd).1
  have hE := hel i hi
  rw [he2, List.getElem?_eq_getElem (by omega)] at hE
  obtain ⟨y0, y1, m2, hx, hcl, h0, h1⟩ := trod_struct2 he hE
  have e1 : (xs.map (·.1))[i]? = (ds.map fun d => (DataW.agg [.lit (.int k d.1), .lit (.int k d.2)] : DataW H))[i]? := by rw [ex.1]
  rw [List.getElem?_map, List.getElem?_map, List.getElem?_eq_getElem (by omega : i < xs.length), hd, hx] at e1
  simp only [Option.map_some, Option.some.injEq, DataW.agg.injEq, List.cons.injEq, and_true] at e1
  rw [ho.1, hc.1] at h0
  rw [ho.2, hc.2] at h1
  obtain ⟨z0, a1, a2, _⟩ := DataW.trod_int hk0 h0
  obtain ⟨z1, b1, b2, _⟩ := DataW.trod_int hk1 h1
  subst a2; subst b2
  have q0 : z0 = d.1 := by simpa using e1.1
  have q1 : z1 = d.2 := by simpa using e1.2
  subst q0; subst q1
  have hlen : ((cs.drop (i * 2)).take 2).length = 2 := hcl.trans he2
  generalize (cs.drop (i * 2)).take 2 = l at *
  match l, hlen with
  | [c0, c1], _ =>
    simp at a1 b1
    rw [a1, b1]
end Go.Proofs.YthkimkgphaiagaaGreatDoor
