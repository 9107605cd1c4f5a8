/- Statements that draw their order, taken in an order of one's own; a place in a sequence. No conditions. -/
import Derived.Test.YtknfankadlokhaaGreatDoorMB
import Derived.Deep.Quiet
import Derived.Laws.MakeOwn
import Derived.Deep.Upon
import Derived.Laws.IdiomStrings
import Derived.Deep.AppendSrc
import Derived.Lib.Builder
import Derived.Laws.Externs

namespace Go.Proofs.YtknfankadlokhaaGreatDoor
open Go.RowKit
set_option linter.unusedVariables false
set_option linter.unusedSimpArgs false

theorem of_dec {p : Prop} {d : Decidable p} (h : @decide p d = true) : p := @of_decide_eq_true p d h
theorem of_decF {p : Prop} {d : Decidable p} (h : @decide p d = false) : ¬ p := @of_decide_eq_false p d h
theorem Str.keepU {ks : List Nat} {i : Nat} {v : Value} {L L' : Fr} (h : mem1 ks i = false) (k : Str (i :: ks) L L') : Str ks ((i, v) :: L) ((i, v) :: L') := by
  have hm : ∀ j, Nat.beq i j = false → mem1 (i :: ks) j = mem1 ks j := fun j hj => by simp [mem1, hj]
  refine ⟨fun j u hj hl => ?_, fun j hj => ?_⟩
  · simp only [look] at hl ⊢
    cases hb : Nat.beq i j
    · simp only [hb, cond_false] at hl ⊢; exact k.all j u (by rw [hm j hb]; exact hj) hl
    · simpa [hb] using hl
  · simp only [look]
    cases hb : Nat.beq i j
    · exact k.off j (by rw [hm j hb]; exact hj)
    · have e : i = j := by simpa using hb
      subst e; rw [h] at hj; cases hj
section
variable {P : Program} {n : Fz} {Q : Exit → Act → World → Prop} {L : Fr} {w : World} {x : Code}
/-- a sequence whose second part is the region N, with what is known between its parts said -/
theorem W_midAtL (N : Nat) {x y : Code} {ops : Array Oper} {d : Bool} (Mid : Fr → World → Prop) (h : ∀ K : Act → World → Prop, (∀ L' w' a, Mid L' w' → Fits n L' a → K a w') → W P n x (Exit.then K Q) L w) (k : ∀ L' w', Mid L' w' → W P n (.seq (.region N ops d) y) Q L' w') :
    W P n (.seq x (.seq (.region N ops d) y)) Q L w := W_mid Mid h k
theorem W_midAt (N : Nat) {x : Code} {ops : Array Oper} {d : Bool} (Mid : Fr → World → Prop) (h : ∀ K : Act → World → Prop, (∀ L' w' a, Mid L' w' → Fits n L' a → K a w') → W P n x (Exit.then K Q) L w) (k : ∀ L' w', Mid L' w' → W P n (.region N ops d) Q L' w') :
    W P n (.seq x (.region N ops d)) Q L w := W_mid Mid h k
end

/-! ## the same in an order of one's own, over any condition S -/
section
variable {P : Program} {ops : Array Oper} {md : Region.Mode} {S : World → Prop} {Q : Exit → Act → World → Prop}
def lexP (md : Region.Mode) (ops : Array Oper) (g n : Nat) : List (Nat × Bool) → Array Bool → Bool
  | [], listed => Region.seqB md ops g n listed
  | (k, b) :: os, listed => decide (k < n) && (bif b then decide (Region.ready md ops listed = [k]) else (Region.ready md ops listed).contains k && Region.free md ops listed k) && lexP md ops g n os (listed.setIfInBounds k true)
def lexPB (md : Region.Mode) (ops : Array Oper) (os : List (Nat × Bool)) : Bool :=
  Region.noSelect ops && decide (os.length < ops.size) && Region.sinkB md ops os.length && Region.chainB md ops os.length && lexP md ops (ops.size - os.length) os.length os (Array.replicate ops.size false)
theorem wpAnyG_lexP {n g : Nat} {K : Act → World → Prop} (hsel : Region.noSelect ops = true) (hs : Region.sinkB md ops n = true) (hc : Region.chainB md ops n = true) (hn : n < ops.size) (hQ : ∀ c a w, ¬ Q (.panic c) a w) :
    ∀ (l : List Oper) (os : List (Nat × Bool)) (listed : Array Bool) (a : Act) (w : World), l.map some = os.map (fun x => ops[x.1]?) → HeadInv md ops n listed →
    lexP md ops g n os listed = true → wpHeadG P ops S K l (os.map Prod.snd) a w →
    wpAnyG P md ops Q S n (fun listed' a' w' => Region.seqB md ops g n listed' = true ∧ K a' w') l.length listed a w
  | [], [], listed, a, w, _, _, hB, h => ⟨by simpa [lexP] using hB, h⟩
  | [], _ :: _, listed, a, w, hl, _, _, _ => by simp at hl
  | _ :: _, [], listed, a, w, hl, _, _, _ => by simp at hl
  | o :: l, (k, b) :: os, listed, a, w, hl, inv, hB, h => by
    simp only [List.map_cons, List.cons.injEq] at hl
    have h0 : ops[k]? = some o := hl.1.symm
    simp only [lexP, Bool.and_eq_true, decide_eq_true_eq] at hB
    obtain ⟨⟨hkn, hb⟩, hB'⟩ := hB
    have hnext : ∀ {a' : Act} {w' : World} (hr : k ∈ Region.ready md ops listed), wpHeadG P ops S K l (os.map Prod.snd) a' w' → wpAnyG P md ops Q S n (fun listed' a' w' => Region.seqB md ops g n listed' = true ∧ K a' w') l.length (listed.setIfInBounds k true) a' w' := fun hr h' =>
      wpAnyG_lexP hsel hs hc hn hQ l os _ _ _ hl.2 (inv.set hr hkn) hB' h'
    cases b
    · simp only [cond_false, Bool.and_eq_true] at hb
      have hr : k ∈ Region.ready md ops listed := by simpa using hb.1
      obtain ⟨v, hy, hS, h'⟩ := h
      exact wpAnyG_first h0 (Region.noSelect_spec hsel) hs hc hn hkn hQ (fun listed' a' w' hL => seqB_ready hL.1) l.length listed a w inv (Region.free_spec h0 hb.2) hr hy hS (hnext hr h')
    · have hr : Region.ready md ops listed = [k] := by simpa using hb
      have hr' : k ∈ Region.ready md ops listed := by rw [hr]; simp
      refine ⟨by rw [hr]; simp, fun i hi => ?_⟩
      rw [hr] at hi
      have : i = k := by simpa using hi
      subst this
      refine ⟨hkn, ?_⟩
      unfold wpOp
      simp only [h0]
      simp only [List.map_cons, wpHeadG, wpList] at h
      split
      · rename_i hw
        simp only [hw, if_true] at h
        rcases h with h | ⟨_, x, y, hq, _⟩
        · refine .inl (Oper.wp_mono (fun a' w' hk' => ?_) (wp_weaken (Q1 := fun e a' w' => e = .normal ∧ S w' ∧ wpHeadG P ops S K l (os.map Prod.snd) a' w') (fun c a w hq => by cases hq.1) (fun hq => by obtain ⟨a, w, hq, _⟩ := hq; cases hq) h))
          exact ⟨hk'.2.1, hnext hr' hk'.2.2⟩
        · cases hq
      · rename_i hw
        simp only [hw] at h
        exact ⟨h.2.1, hnext hr' h.2.2⟩
theorem wp_region_own {id : Nat} {a : Act} {w : World} {l lh : List Oper} (os : List (Nat × Bool)) (hm : P.follows .mixedOrders = true) (hB : lexPB .any l.toArray os = true) (hlh : lh.map some = os.map (fun x => l.toArray[x.1]?))
    (h : wpHeadG P l.toArray S (fun a' w' => wpList P l.toArray (fun e a w => (∀ c, e ≠ .panic c) ∧ Q e a w) (l.drop os.length) a' w') lh (os.map Prod.snd) a { w with drawn := w.drawn + 1 }) : (Code.region id l.toArray true).wp P Q a w := by
  refine wp_mono (Q := fun e a w => (∀ c, e ≠ .panic c) ∧ Q e a w) ?_ (fun e a w hq => hq.2)
  simp only [lexPB, Bool.and_eq_true, decide_eq_true_eq] at hB
  obtain ⟨⟨⟨⟨hsel, hn⟩, hs⟩, hc⟩, hlex⟩ := hB
  have htl : lh.length = os.length := by simpa using congrArg List.length hlh
  have hdl : (l.drop os.length).length = l.toArray.size - os.length := by simp
  have inv0 : HeadInv .any l.toArray os.length (Array.replicate l.toArray.size false) :=
    ⟨by simp, fun j oj _ hl => (by rw [getD_replicate_false] at hl; cases hl), fun t _ ht => getD_in (by simpa using ht) (getD_replicate_false _ _)⟩
  have H := wpAnyG_lexP (md := .any) (g := l.toArray.size - os.length) (Q := fun e a w => (∀ c, e ≠ .panic c) ∧ Q e a w) hsel hs hc hn (fun c a w hq => hq.1 c rfl) lh os _ a _ hlh inv0 hlex h
  refine wp_region_any hm ?_
  have := wpAny_of_headG (g := l.toArray.size - os.length) (fun listed a' w' hL => by
    have := wpAny_of_seq (md := .any) (Q' := fun e a w => (∀ c, e ≠ .panic c) ∧ Q e a w) (l.drop os.length) os.length listed a' w' (fun j => by simp [List.getElem?_drop]) (by rw [hdl]; exact hL.1) hL.2
    rwa [hdl] at this) _ _ _ _ H
  have hsz : os.length < l.toArray.size := hn
  rw [htl, show os.length + (l.toArray.size - os.length) = l.toArray.size by omega] at this
  exact this
end

section
variable {T : Tys} {P : Program} {n : Fz} {ops : Array Oper} {Q : Exit → Act → World → Prop} {L L' : Fr} {w w' w0 w1 : World} {rest : List Oper} {ty t t' : TypeId} {imps : List Bool}
  {Sx : Nat → Prop} {H HG : List (Nat × Obj)} {pos : String} {af : Array Edge} {g : Option (Nat × Bool)} {K : Act → World → Prop}
/-! ## in an order of one's own -/
structure HL (P : Program) (n : Fz) (ops : Array Oper) (S : World → Prop) (K : Act → World → Prop) (rest : List Oper) (imps : List Bool) (L : Fr) (w : World) : Prop where
  run : ∀ a, Fits n L a → wpHeadG P ops S K rest imps a w
theorem W_own {id : Nat} {l lh : List Oper} (S : World → Prop) (os : List (Nat × Bool)) (hT : T.Ok P) (hB : lexPB .any l.toArray os = true) (hlh : lh.map some = os.map (fun x => l.toArray[x.1]?)) (hSt : St w0 Sx H w)
    (h : ∀ w1, St w0 Sx H w1 → HL P n l.toArray S (fun a' w' => wpList P l.toArray (fun e a w => (∀ c, e ≠ .panic c) ∧ Q e a w) (l.drop os.length) a' w') lh (os.map Prod.snd) L w1) : W P n (.region id l.toArray true) Q L w :=
  ⟨fun a ha => wp_region_own os hT.mixed hB hlh ((h _ hSt.drew).run a ha)⟩
def pickOps (l : List Oper) (os : List (Nat × Bool)) : List Oper := os.filterMap fun x => l[x.1]?
/-- over the first blocks of the list, which nobody in the region writes -/
theorem W_ownS {id : Nat} {l : List Oper} {Hs Hr : List (Nat × Obj)} (os : List (Nat × Bool)) (hT : T.Ok P) (hB : lexPB .any l.toArray os = true) (hlh : (pickOps l os).map some = os.map (fun x => l.toArray[x.1]?)) (hSt : St w0 Sx (Hs ++ Hr) w)
    (h : ∀ w1, St w0 Sx (Hs ++ Hr) w1 → HL P n l.toArray (fun w' => St w0 Sx Hs w') (fun a' w' => wpList P l.toArray (fun e a w => (∀ c, e ≠ .panic c) ∧ Q e a w) (l.drop os.length) a' w') (pickOps l os) (os.map Prod.snd) L w1) : W P n (.region id l.toArray true) Q L w := W_own _ os hT hB hlh hSt h
section
variable {S : World → Prop}
theorem HL_ev {d : Nat} {op : Op} {v : Value} (hg : wantB ops g L = some true) (hn : Nat.blt d n.1 = true) (hS : S w) (h : ∀ w', S w' → Ev P L op ty w' v w') (k : HL P n ops S K rest imps ((d, v) :: L) w) : HL P n ops S K (⟨some d, op, ty, pos, af, g⟩ :: rest) (false :: imps) L w := by
  refine ⟨fun a ha => ⟨v, .inl ⟨wantB_spec (o := ⟨some d, op, ty, pos, af, g⟩) hg ha, fun w' hw' => (h w' hw').run n a ha _ _ _ _⟩, hS, k.run _ (ha.put hn v)⟩⟩
theorem HL_pass {d : Nat} {op : Op} (hg : wantB ops g L = some false) (hn : Nat.blt d n.1 = true) (hS : S w) (k : HL P n ops S K rest imps ((d, undef) :: L) w) : HL P n ops S K (⟨some d, op, ty, pos, af, g⟩ :: rest) (false :: imps) L w := by
  refine ⟨fun a ha => ⟨undef, .inr ⟨wantB_spec (o := ⟨some d, op, ty, pos, af, g⟩) hg ha, rfl⟩, hS, k.run _ (ha.put hn undef)⟩⟩
theorem HL_sub (hs : Sub L' L) (h : HL P n ops S K rest imps L' w) : HL P n ops S K rest imps L w := ⟨fun a ha => h.run a (ha.sub hs)⟩
def HK (P : Program) (ops : Array Oper) (S : World → Prop) (K : Act → World → Prop) (rest : List Oper) (imps : List Bool) : Exit → Act → World → Prop := fun e a' w' => e = .normal ∧ S w' ∧ wpHeadG P ops S K rest imps a' w'
theorem HL_one {o : Oper} (h : WL P n ops (HK P ops S K rest imps) [o] L w) : HL P n ops S K (o :: rest) (true :: imps) L w := ⟨fun a ha => h.run a ha⟩
theorem At_oneH (hS : S w) (h : HL P n ops S K rest imps L w) : At n (HK P ops S K rest imps) .normal L w := ⟨fun a ha => ⟨rfl, hS, h.run a ha⟩⟩
theorem HL_end {Q' : Exit → Act → World → Prop} {l : List Oper} (h : WL P n ops Q' l L w) : HL P n ops S (fun a' w' => wpList P ops Q' l a' w') [] [] L w := ⟨fun a ha => h.run a ha⟩
end
end
end Go.Proofs.YtknfankadlokhaaGreatDoor

namespace Go.Proofs.YtknfankadlokhaaGreatDoor
open Go.RowKit
set_option linter.unusedVariables false
set_option linter.unusedSimpArgs false
section
variable {T : Tys} {P : Program} {L : Fr} {w : World} {ty t t' : TypeId} {xo yo : Operand}
theorem inU8 {x : Int} (h1 : 0 ≤ x) (h2 : x ≤ 255) : inK .u8 x := by
  simp [inK, IntKind.min, IntKind.max, IntKind.signed, IntKind.bits]; omega
/-- a quotient of numbers that are not negative, in the kind -/
theorem Ev_quoP {k : IntKind} {x y : Int} (hx : opd L xo = some (.int k x)) (hy : opd L yo = some (.int k y)) (h0 : 0 ≤ x) (hk : inK k x) (h2 : 0 < y) : Ev P L (.binOp .quo t xo yo t') ty w (.int k (x / y)) w := by
  have := Ev_quow (P := P) (t := t) (t' := t') (ty := ty) (w := w) hx hy (by omega)
  rw [Int.tdiv_eq_ediv_of_nonneg h0] at this
  have hb : 0 ≤ x / y := Int.ediv_nonneg h0 (by omega)
  have hc : x / y ≤ x := Int.ediv_le_self y h0
  have hm : k.min ≤ 0 := by cases k <;> simp [IntKind.min, IntKind.signed, IntKind.bits]
  rwa [wrap_in ⟨by have := hk.1; omega, by have := hk.2; omega⟩] at this
theorem Ev_quoT {x y : Int} (hx : opd L xo = some (.int .i64 x)) (hy : opd L yo = some (.int .i64 y)) (h0 : y ≠ 0) (h : -9223372036854775808 ≤ x.tdiv y ∧ x.tdiv y ≤ 9223372036854775807) : Ev P L (.binOp .quo t xo yo t') ty w (.int .i64 (x.tdiv y)) w := by
  have := Ev_quow (P := P) (t := t) (t' := t') (ty := ty) (w := w) hx hy h0
  rwa [wrap_in (inI h.1 h.2)] at this
theorem Ev_negI {x : Int} (hx : opd L xo = some (.int .i64 x)) (h : -9223372036854775808 ≤ -x ∧ -x ≤ 9223372036854775807) : Ev P L (.unOp .neg t xo) ty w (.int .i64 (-x)) w := by
  have := Ev_neg (P := P) (t := t) (ty := ty) (w := w) hx
  rw [show (0 - x) = -x by omega] at this
  rwa [wrap_in (inI h.1 h.2)] at this
theorem Ev_addP {k : IntKind} {x y : Int} (hx : opd L xo = some (.int k x)) (hy : opd L yo = some (.int k y)) (h : inK k (x + y)) : Ev P L (.binOp .add t xo yo t') ty w (.int k (x + y)) w := by
  have := Ev_addw (P := P) (t := t) (t' := t') (ty := ty) (w := w) hx hy
  rwa [wrap_in h] at this
theorem Ev_subP {k : IntKind} {x y : Int} (hx : opd L xo = some (.int k x)) (hy : opd L yo = some (.int k y)) (h : inK k (x - y)) : Ev P L (.binOp .sub t xo yo t') ty w (.int k (x - y)) w := by
  have := Ev_subw (P := P) (t := t) (t' := t') (ty := ty) (w := w) hx hy
  rwa [wrap_in h] at this
end
end Go.Proofs.YtknfankadlokhaaGreatDoor

namespace Go.Proofs.YtknfankadlokhaaGreatDoor
open Go.RowKit
set_option linter.unusedVariables false
set_option linter.unusedSimpArgs false
set_option linter.unusedSectionVars false

section
variable {P : Program} {ops : Array Oper} {md : Region.Mode} {S : World → Prop} {Q : Exit → Act → World → Prop}

def preB (md : Region.Mode) (ops : Array Oper) (i : Nat) : Nat → Nat → Bool
  | 0, _ => false
  | f + 1, j => match ops[j]? with
    | some o => o.after.any fun e => Region.binds md e && (e.on == i || preB md ops i f e.on)
    | none => false
theorem preB_listed {i n : Nat} {listed : Array Bool} (inv : HeadInv md ops n listed) : ∀ (f j : Nat), listed.getD j false = true → preB md ops i f j = true → listed.getD i false = true
  | 0, _, _, h => by simp [preB] at h
  | f + 1, j, hl, h => by
    simp only [preB] at h
    split at h
    · rename_i o ho
      obtain ⟨e, he, hb⟩ := Array.any_eq_true'.1 h
      simp only [Bool.and_eq_true, Bool.or_eq_true, beq_iff_eq] at hb
      have hle := inv.closed j o ho hl e he hb.1
      rcases hb.2 with h2 | h2
      · exact h2 ▸ hle
      · exact preB_listed inv f e.on hle h2
    · cases h
theorem preB_ready {i n f j : Nat} {listed : Array Bool} (inv : HeadInv md ops n listed) (hr : j ∈ Region.ready md ops listed) (h : preB md ops i f j = true) : listed.getD i false = true := by
  obtain ⟨_, o, ho, hall⟩ := mem_ready.1 hr
  cases f with
  | zero => simp [preB] at h
  | succ f =>
    simp only [preB, ho] at h
    obtain ⟨e, he, hb⟩ := Array.any_eq_true'.1 h
    simp only [Bool.and_eq_true, Bool.or_eq_true, beq_iff_eq] at hb
    have hle := hall e he hb.1
    rcases hb.2 with h2 | h2
    · exact h2 ▸ hle
    · exact preB_listed inv f e.on hle h2

theorem YieldsIf.same {o : Oper} {v v' : Value} {a : Act} {w : World} (h : YieldsIf P ops S o v a) (h' : YieldsIf P ops S o v' a) (hS : S w) : v = v' := by
  rcases h with ⟨h1, h2⟩ | ⟨h1, h2⟩ <;> rcases h' with ⟨h3, h4⟩ | ⟨h3, h4⟩
  · have := (h2 w hS).symm.trans (h4 w hS)
    injection this with e _
    injection e
  · rw [h1] at h3; cases h3
  · rw [h1] at h3; cases h3
  · rw [h2, h4]
theorem YieldsIn.wpOp {i : Nat} {o : Oper} {v : Value} {a : Act} (hi : ops[i]? = some o) (hy : YieldsIn P ops S o v a) {K : Act → World → Prop} {w : World} (hS : S w) (h : ∀ w', S w' → K (a.put o.dst v) w') : wpOp P ops Q i K a w :=
  wpOp_of_qOp (C := S) (K := fun a' => ∀ w', S w' → K a' w') hS (fun a w' hw' h => h w' hw') (hy.qOp hi h)

/-- one operation, by its kind: new memory or a write (some true), a read (some false), a call that changes nothing (none) -/
def stepH (P : Program) (ops : Array Oper) (S : World → Prop) (Q : Exit → Act → World → Prop) (b : Option Bool) (i : Nat) (K : Act → World → Prop) (a : Act) (w : World) : Prop :=
  match b with
  | some true => wpOp P ops Q i K a w
  | some false => ∃ o v, ops[i]? = some o ∧ YieldsIf P ops S o v a ∧ S w ∧ K (a.put o.dst v) w
  | none => ∃ o v, ops[i]? = some o ∧ YieldsIn P ops S o v a ∧ S w ∧ ∀ w', S w' → K (a.put o.dst v) w'
theorem stepH.wpOp {b : Option Bool} {i : Nat} {K : Act → World → Prop} {a : Act} {w : World} (h : stepH P ops S Q b i K a w) : wpOp P ops Q i K a w := by
  match b, h with
  | some true, h => exact h
  | some false, ⟨o, v, ho, hy, hS, hK⟩ => exact hy.wpOp ho hS hK
  | none, ⟨o, v, ho, hy, hS, hK⟩ => exact YieldsIn.wpOp ho hy hS hK

def wpAnyH (P : Program) (md : Region.Mode) (ops : Array Oper) (Q : Exit → Act → World → Prop) (S : World → Prop) (kd : Nat → Option Bool) (n : Nat) (LL : Array Bool → Act → World → Prop) : Nat → Array Bool → Act → World → Prop
  | 0, listed, a, w => LL listed a w
  | f + 1, listed, a, w => Region.ready md ops listed ≠ [] ∧ ∀ i ∈ Region.ready md ops listed, i < n ∧ stepH P ops S Q (kd i) i (fun a' w' => S w' ∧ wpAnyH P md ops Q S kd n LL f (listed.setIfInBounds i true) a' w') a w

theorem wpAny_of_headH {kd : Nat → Option Bool} {n g : Nat} {LL : Array Bool → Act → World → Prop} (hL : ∀ listed a w, LL listed a w → wpAny P md ops Q g listed a w) :
    ∀ (f : Nat) (listed : Array Bool) (a : Act) (w : World), wpAnyH P md ops Q S kd n LL f listed a w → wpAny P md ops Q (f + g) listed a w
  | 0, listed, a, w, h => by rw [Nat.zero_add]; exact hL _ _ _ h
  | f + 1, listed, a, w, h => by
    rw [show f + 1 + g = (f + g) + 1 by omega]
    exact ⟨fun h0 => absurd h0 h.1, fun i hi => wpOp_mono (fun a' w' h' => wpAny_of_headH hL f _ a' w' h'.2) (h.2 i hi).2.wpOp⟩

section
variable {kd : Nat → Option Bool} {n i : Nat} {oi : Oper} {v : Value} {LL : Array Bool → Act → World → Prop} (hi : ops[i]? = some oi) (hsel : ∀ (j : Nat) (o : Oper) cs b, ops[j]? = some o → o.op ≠ .select cs b)
    (hs : Region.sinkB md ops n = true) (hc : Region.chainB md ops n = true) (hn : n < ops.size) (hin : i < n) (hQ : ∀ c a w, ¬ Q (.panic c) a w)
    (hdone : ∀ listed a w, LL listed a w → ∀ j ∈ Region.ready md ops listed, n ≤ j)
include hi hsel hs hc hn hin hQ hdone
theorem wpAnyH_pure (hki : kd i = some false) :
    ∀ (f : Nat) (listed : Array Bool) (a : Act) (w : World), HeadInv md ops n listed →
      (∀ j oj, ops[j]? = some oj → j ≠ i → listed.getD j true = false → (∀ e ∈ oj.after, Region.binds md e = true → e.on ≠ i) → oi.apart ops oj = true) →
      i ∈ Region.ready md ops listed → YieldsIf P ops S oi v a → S w →
      wpAnyH P md ops Q S kd n LL f (listed.setIfInBounds i true) (a.put oi.dst v) w → wpAnyH P md ops Q S kd n LL (f + 1) listed a w := by
  intro f
  induction f with
  | zero =>
    intro listed a w inv _ hr hy hS H
    have hun := (mem_ready.1 hr).1
    refine ⟨fun h => (by rw [h] at hr; cases hr), fun j hj => ?_⟩
    have hjn : j < n := by
      rcases Nat.lt_or_ge j n with h | h
      · exact h
      · exact absurd hj (tail_waits hs hc hn inv _ i rfl hin hun j h)
    refine ⟨hjn, ?_⟩
    by_cases hji : j = i
    · subst hji; rw [hki]; exact ⟨oi, v, hi, hy, hS, hS, H⟩
    · have := hdone _ _ _ H j (ready_mono hj hji)
      omega
  | succ f ih =>
    intro listed a w inv hfree hr hy hS H
    have hun := (mem_ready.1 hr).1
    refine ⟨fun h => (by rw [h] at hr; cases hr), fun j hj => ?_⟩
    have hjn : j < n := by
      rcases Nat.lt_or_ge j n with h | h
      · exact h
      · exact absurd hj (tail_waits hs hc hn inv _ i rfl hin hun j h)
    refine ⟨hjn, ?_⟩
    by_cases hji : j = i
    · subst hji; rw [hki]; exact ⟨oi, v, hi, hy, hS, hS, H⟩
    · have h1 := (H.2 j (ready_mono hj hji)).2
      obtain ⟨hjun, oj, hoj, hall⟩ := mem_ready.1 hj
      have hnot : ∀ e ∈ oj.after, Region.binds md e = true → e.on ≠ i := fun e he hb heq => by
        have h1 := hall e he hb
        rw [heq, getD_both hun] at h1
        cases h1
      have hap := hfree j oj hoj hji hjun hnot
      obtain ⟨p1, p2, p3⟩ := Oper.apart_spec hap
      have hfree' : ∀ k ok, ops[k]? = some ok → k ≠ i → (listed.setIfInBounds j true).getD k true = false →
          (∀ e ∈ ok.after, Region.binds md e = true → e.on ≠ i) → oi.apart ops ok = true := fun k ok hk hki hun hno => by
        refine hfree k ok hk hki ?_ hno
        by_cases hjk : j = k
        · subst hjk; exact hjun
        · rw [getD_set_ne true hjk] at hun; exact hun
      have keep : ∀ u, YieldsIf P ops S oi v (a.put oj.dst u) := fun u => hy.of_same (execOp_put oi (fun cs b => hsel i oi cs b hi) a oj.dst u p3) (wanted_put oi a oj.dst u p3)
      have next : ∀ (u : Value) (w' : World), S w' → wpAnyH P md ops Q S kd n LL f ((listed.setIfInBounds i true).setIfInBounds j true) ((a.put oi.dst v).put oj.dst u) w' →
          wpAnyH P md ops Q S kd n LL (f + 1) (listed.setIfInBounds j true) (a.put oj.dst u) w' := fun u w' hw' h => by
        refine ih (listed.setIfInBounds j true) _ w' (inv.set hj hjn) hfree' (ready_mono hr (Ne.symm hji)) (keep u) hw' ?_
        rw [Array.setIfInBounds_comm _ _ hji, ← Act.put_comm a v u p2]
        exact h
      unfold stepH at h1 ⊢
      split
      · rename_i hk
        simp only [hk] at h1
        have h2 := wpOp_putIf hoj hap (fun cs b => hsel i oi cs b hi) (fun cs b => hsel j oj cs b hoj) (fun c a w h => absurd h (hQ _ _ _)) hy h1
        refine wpOp_mono (fun a' w' h3 => ⟨h3.2.1, ih (listed.setIfInBounds j true) a' w' (inv.set hj hjn) hfree' (ready_mono hr (Ne.symm hji)) h3.1 h3.2.1 ?_⟩) h2
        rw [Array.setIfInBounds_comm _ _ hji]
        exact h3.2.2
      · rename_i hk
        simp only [hk] at h1
        obtain ⟨o, u, ho, hy2, hS2, hS3, hK⟩ := h1
        have e : o = oj := Option.some.inj (ho.symm.trans hoj)
        subst e
        exact ⟨o, u, ho, hy2.of_same (execOp_put o (fun cs b => hsel j o cs b hoj) a oi.dst v p1).symm (wanted_put o a oi.dst v p1).symm, hS, hS, next u w hS hK⟩
      · rename_i hk
        simp only [hk] at h1
        obtain ⟨o, u, ho, hy2, hS2, hK⟩ := h1
        have e : o = oj := Option.some.inj (ho.symm.trans hoj)
        subst e
        exact ⟨o, u, ho, hy2.of_same (execOp_put o (fun cs b => hsel j o cs b hoj) a oi.dst v p1).symm (wanted_put o a oi.dst v p1).symm, hS, fun w' hw' => ⟨hw', next u w' hw' (hK w' hw').2⟩⟩

theorem wpAnyH_call {F : Nat} (hki : kd i = none) (hpre : ∀ j, j < n → kd j = some true → preB md ops i F j = true) :
    ∀ (f : Nat) (listed : Array Bool) (a : Act) (w : World), HeadInv md ops n listed →
      (∀ j oj, ops[j]? = some oj → j ≠ i → listed.getD j true = false → (∀ e ∈ oj.after, Region.binds md e = true → e.on ≠ i) → oi.apart ops oj = true) →
      i ∈ Region.ready md ops listed → YieldsIn P ops S oi v a → S w →
      (∀ w', S w' → wpAnyH P md ops Q S kd n LL f (listed.setIfInBounds i true) (a.put oi.dst v) w') → wpAnyH P md ops Q S kd n LL (f + 1) listed a w := by
  intro f
  induction f with
  | zero =>
    intro listed a w inv _ hr hy hS H
    have hun := (mem_ready.1 hr).1
    refine ⟨fun h => (by rw [h] at hr; cases hr), fun j hj => ?_⟩
    have hjn : j < n := by
      rcases Nat.lt_or_ge j n with h | h
      · exact h
      · exact absurd hj (tail_waits hs hc hn inv _ i rfl hin hun j h)
    refine ⟨hjn, ?_⟩
    by_cases hji : j = i
    · subst hji; rw [hki]; exact ⟨oi, v, hi, hy, hS, fun w' hw' => ⟨hw', H w' hw'⟩⟩
    · have := hdone _ _ _ (H w hS) j (ready_mono hj hji)
      omega
  | succ f ih =>
    intro listed a w inv hfree hr hy hS H
    have hun := (mem_ready.1 hr).1
    refine ⟨fun h => (by rw [h] at hr; cases hr), fun j hj => ?_⟩
    have hjn : j < n := by
      rcases Nat.lt_or_ge j n with h | h
      · exact h
      · exact absurd hj (tail_waits hs hc hn inv _ i rfl hin hun j h)
    refine ⟨hjn, ?_⟩
    by_cases hji : j = i
    · subst hji; rw [hki]; exact ⟨oi, v, hi, hy, hS, fun w' hw' => ⟨hw', H w' hw'⟩⟩
    · have h1 := fun w' hw' => ((H w' hw').2 j (ready_mono hj hji)).2
      obtain ⟨hjun, oj, hoj, hall⟩ := mem_ready.1 hj
      have hnot : ∀ e ∈ oj.after, Region.binds md e = true → e.on ≠ i := fun e he hb heq => by
        have h1 := hall e he hb
        rw [heq, getD_both hun] at h1
        cases h1
      have hap := hfree j oj hoj hji hjun hnot
      obtain ⟨p1, p2, p3⟩ := Oper.apart_spec hap
      have hfree' : ∀ k ok, ops[k]? = some ok → k ≠ i → (listed.setIfInBounds j true).getD k true = false →
          (∀ e ∈ ok.after, Region.binds md e = true → e.on ≠ i) → oi.apart ops ok = true := fun k ok hk hki hun hno => by
        refine hfree k ok hk hki ?_ hno
        by_cases hjk : j = k
        · subst hjk; exact hjun
        · rw [getD_set_ne true hjk] at hun; exact hun
      have keep : ∀ u, YieldsIn P ops S oi v (a.put oj.dst u) := fun u => hy.of_same (execOp_put oi (fun cs b => hsel i oi cs b hi) a oj.dst u p3) (wanted_put oi a oj.dst u p3)
      have next : ∀ (u : Value) (w' : World), S w' → (∀ w'', S w'' → wpAnyH P md ops Q S kd n LL f ((listed.setIfInBounds i true).setIfInBounds j true) ((a.put oi.dst v).put oj.dst u) w'') →
          wpAnyH P md ops Q S kd n LL (f + 1) (listed.setIfInBounds j true) (a.put oj.dst u) w' := fun u w' hw' h => by
        refine ih (listed.setIfInBounds j true) _ w' (inv.set hj hjn) hfree' (ready_mono hr (Ne.symm hji)) (keep u) hw' (fun w'' hw'' => ?_)
        rw [Array.setIfInBounds_comm _ _ hji, ← Act.put_comm a v u p2]
        exact h w'' hw''
      unfold stepH at h1 ⊢
      split
      · rename_i hk
        have := preB_ready inv hj (hpre j hjn hk)
        rw [getD_both hun] at this
        cases this
      · rename_i hk
        simp only [hk] at h1
        obtain ⟨o, u, ho, hy2, hS2, hS3, hK⟩ := h1 w hS
        have e : o = oj := Option.some.inj (ho.symm.trans hoj)
        subst e
        refine ⟨o, u, ho, hy2.of_same (execOp_put o (fun cs b => hsel j o cs b hoj) a oi.dst v p1).symm (wanted_put o a oi.dst v p1).symm, hS, hS, next u w hS (fun w'' hw'' => ?_)⟩
        obtain ⟨o', u', ho', hy', _, _, hK'⟩ := h1 w'' hw''
        have e : o' = o := Option.some.inj (ho'.symm.trans hoj)
        subst e
        rw [YieldsIf.same hy2 hy' hS]
        exact hK'
      · rename_i hk
        simp only [hk] at h1
        obtain ⟨o, u, ho, hy2, hS2, hK⟩ := h1 w hS
        have e : o = oj := Option.some.inj (ho.symm.trans hoj)
        subst e
        exact ⟨o, u, ho, hy2.of_same (execOp_put o (fun cs b => hsel j o cs b hoj) a oi.dst v p1).symm (wanted_put o a oi.dst v p1).symm, hS, fun w' hw' => ⟨hw', next u w' hw' (fun w'' hw'' => (hK w'' hw'').2)⟩⟩
end

/-- an order of one's own: one operation after the other, by kind; or two that make memory, either of which may come first -/
inductive OTree where
  | done
  | op (k : Nat) (b : Option Bool) (t : OTree)
  | fork (k1 : Nat) (t1 : OTree) (k2 : Nat) (t2 : OTree)
def OTree.depth : OTree → Nat
  | .done => 0
  | .op _ _ t => t.depth + 1
  | .fork _ t1 _ _ => t1.depth + 1
def OTree.kds : OTree → List (Nat × Option Bool)
  | .done => []
  | .op k b t => (k, b) :: t.kds
  | .fork k1 t1 _ _ => (k1, some true) :: t1.kds
def kdOf (os : List (Nat × Option Bool)) (i : Nat) : Option Bool := match os.find? (fun x => x.1 == i) with
  | some x => x.2
  | none => some true
def lexT (md : Region.Mode) (ops : Array Oper) (ks : List (Nat × Option Bool)) (g n : Nat) : OTree → Array Bool → Bool
  | .done, listed => Region.seqB md ops g n listed
  | .op k b t, listed => decide (k < n) && decide (kdOf ks k = b) && (match b with
      | some true => decide (Region.ready md ops listed = [k])
      | some false => (Region.ready md ops listed).contains k && Region.free md ops listed k
      | none => (Region.ready md ops listed).contains k && Region.free md ops listed k && (List.range n).all fun j => !decide (kdOf ks j = some true) || preB md ops k n j)
    && lexT md ops ks g n t (listed.setIfInBounds k true)
  | .fork k1 t1 k2 t2, listed => decide (k1 < n) && decide (k2 < n) && decide (kdOf ks k1 = some true) && decide (kdOf ks k2 = some true) && decide (Region.ready md ops listed = [k1, k2]) && decide (t1.depth = t2.depth)
    && lexT md ops ks g n t1 (listed.setIfInBounds k1 true) && lexT md ops ks g n t2 (listed.setIfInBounds k2 true)
def lexTB (md : Region.Mode) (ops : Array Oper) (t : OTree) : Bool :=
  Region.noSelect ops && decide (t.depth < ops.size) && Region.sinkB md ops t.depth && Region.chainB md ops t.depth && lexT md ops t.kds (ops.size - t.depth) t.depth t (Array.replicate ops.size false)

def impT (P : Program) (ops : Array Oper) (S : World → Prop) (k : Nat) (N : Act → World → Prop) (a : Act) (w : World) : Prop := ∃ o, ops[k]? = some o ∧ wpList P ops (fun e a' w' => e = .normal ∧ S w' ∧ N a' w') [o] a w
def wpTree (P : Program) (ops : Array Oper) (S : World → Prop) (K : Act → World → Prop) : OTree → Act → World → Prop
  | .done, a, w => K a w
  | .op k (some true) t, a, w => impT P ops S k (wpTree P ops S K t) a w
  | .op k (some false) t, a, w => ∃ o v, ops[k]? = some o ∧ YieldsIf P ops S o v a ∧ S w ∧ wpTree P ops S K t (a.put o.dst v) w
  | .op k none t, a, w => ∃ o v, ops[k]? = some o ∧ YieldsIn P ops S o v a ∧ S w ∧ ∀ w', S w' → wpTree P ops S K t (a.put o.dst v) w'
  | .fork k1 t1 k2 t2, a, w => impT P ops S k1 (wpTree P ops S K t1) a w ∧ impT P ops S k2 (wpTree P ops S K t2) a w

theorem impT.wpOp {k : Nat} {N N' : Act → World → Prop} {a : Act} {w : World} (h : impT P ops S k N a w) (hN : ∀ a w, N a w → N' a w) : wpOp P ops Q k (fun a' w' => S w' ∧ N' a' w') a w := by
  obtain ⟨o, h0, h⟩ := h
  unfold Go.wpOp
  simp only [h0]
  simp only [wpList] at h
  split
  · rename_i hw
    simp only [hw, if_true] at h
    rcases h with h | ⟨_, x, y, hq, _⟩
    · refine .inl (Oper.wp_mono (fun a' w' hk' => ?_) (wp_weaken (Q1 := fun e a' w' => e = .normal ∧ S w' ∧ N a' w') (fun c a w hq => by cases hq.1) (fun hq => by obtain ⟨a, w, hq, _⟩ := hq; cases hq) h))
      exact ⟨hk'.2.1, hN _ _ hk'.2.2⟩
    · cases hq
  · rename_i hw
    simp only [hw] at h
    exact ⟨h.2.1, hN _ _ h.2.2⟩

theorem wpAnyH_lexT {ks : List (Nat × Option Bool)} {n g : Nat} {K : Act → World → Prop} (hsel : Region.noSelect ops = true) (hs : Region.sinkB md ops n = true) (hc : Region.chainB md ops n = true) (hn : n < ops.size) (hQ : ∀ c a w, ¬ Q (.panic c) a w) :
    ∀ (t : OTree) (listed : Array Bool) (a : Act) (w : World), HeadInv md ops n listed → lexT md ops ks g n t listed = true → wpTree P ops S K t a w →
    wpAnyH P md ops Q S (kdOf ks) n (fun listed' a' w' => Region.seqB md ops g n listed' = true ∧ K a' w') t.depth listed a w
  | .done, listed, a, w, _, hB, h => ⟨by simpa [lexT] using hB, h⟩
  | .op k b t, listed, a, w, inv, hB, h => by
    simp only [lexT, Bool.and_eq_true, decide_eq_true_eq] at hB
    obtain ⟨⟨⟨hkn, hkd⟩, hb⟩, hB'⟩ := hB
    have hnext : ∀ {a' : Act} {w' : World} (hr : k ∈ Region.ready md ops listed), wpTree P ops S K t a' w' → wpAnyH P md ops Q S (kdOf ks) n (fun listed' a' w' => Region.seqB md ops g n listed' = true ∧ K a' w') t.depth (listed.setIfInBounds k true) a' w' := fun hr h' =>
      wpAnyH_lexT hsel hs hc hn hQ t _ _ _ (inv.set hr hkn) hB' h'
    match b, hb, hkd, h with
    | some false, hb, hkd, h =>
      simp only [Bool.and_eq_true] at hb
      have hr : k ∈ Region.ready md ops listed := by simpa using hb.1
      obtain ⟨o, v, h0, hy, hS, h'⟩ := h
      exact wpAnyH_pure h0 (Region.noSelect_spec hsel) hs hc hn hkn hQ (fun listed' a' w' hL => seqB_ready hL.1) hkd t.depth listed a w inv (Region.free_spec h0 hb.2) hr hy hS (hnext hr h')
    | none, hb, hkd, h =>
      simp only [Bool.and_eq_true] at hb
      have hr : k ∈ Region.ready md ops listed := by simpa using hb.1.1
      obtain ⟨o, v, h0, hy, hS, h'⟩ := h
      exact wpAnyH_call (F := n) h0 (Region.noSelect_spec hsel) hs hc hn hkn hQ (fun listed' a' w' hL => seqB_ready hL.1) hkd (fun j hj hk => by
        have := List.all_eq_true.1 hb.2 j (List.mem_range.2 hj)
        simpa [hk] using this) t.depth listed a w inv (Region.free_spec h0 hb.1.2) hr hy hS (fun w' hw' => hnext hr (h' w' hw'))
    | some true, hb, hkd, h =>
      have hr : Region.ready md ops listed = [k] := by simpa using hb
      have hr' : k ∈ Region.ready md ops listed := by rw [hr]; simp
      refine ⟨by rw [hr]; simp, fun i hi => ?_⟩
      rw [hr] at hi
      have : i = k := by simpa using hi
      subst this
      refine ⟨hkn, ?_⟩
      rw [hkd]
      simp only [stepH]
      simp only [wpTree] at h
      exact h.wpOp (fun a w h' => hnext hr' h')
  | .fork k1 t1 k2 t2, listed, a, w, inv, hB, h => by
    simp only [lexT, Bool.and_eq_true, decide_eq_true_eq] at hB
    obtain ⟨⟨⟨⟨⟨⟨⟨hk1, hk2⟩, hd1⟩, hd2⟩, hr⟩, hdep⟩, hB1⟩, hB2⟩ := hB
    simp only [wpTree] at h
    have hr1 : k1 ∈ Region.ready md ops listed := by rw [hr]; simp
    have hr2 : k2 ∈ Region.ready md ops listed := by rw [hr]; simp
    refine ⟨by rw [hr]; simp, fun i hi => ?_⟩
    rw [hr] at hi
    simp only [List.mem_cons, List.mem_nil_iff, or_false] at hi
    rcases hi with rfl | rfl
    · refine ⟨hk1, ?_⟩
      rw [hd1]
      simp only [stepH]
      exact h.1.wpOp (fun a w h' => wpAnyH_lexT hsel hs hc hn hQ t1 _ _ _ (inv.set hr1 hk1) hB1 h')
    · refine ⟨hk2, ?_⟩
      rw [hd2]
      simp only [stepH]
      exact h.2.wpOp (fun a w h' => by rw [hdep]; exact wpAnyH_lexT hsel hs hc hn hQ t2 _ _ _ (inv.set hr2 hk2) hB2 h')

theorem wp_region_mix {id : Nat} {a : Act} {w : World} {l : List Oper} (t : OTree) (hm : P.follows .mixedOrders = true) (hB : lexTB .any l.toArray t = true)
    (h : wpTree P l.toArray S (fun a' w' => wpList P l.toArray (fun e a w => (∀ c, e ≠ .panic c) ∧ Q e a w) (l.drop t.depth) a' w') t a { w with drawn := w.drawn + 1 }) : (Code.region id l.toArray true).wp P Q a w := by
  refine wp_mono (Q := fun e a w => (∀ c, e ≠ .panic c) ∧ Q e a w) ?_ (fun e a w hq => hq.2)
  simp only [lexTB, Bool.and_eq_true, decide_eq_true_eq] at hB
  obtain ⟨⟨⟨⟨hsel, hn⟩, hs⟩, hc⟩, hlex⟩ := hB
  have hdl : (l.drop t.depth).length = l.toArray.size - t.depth := by simp
  have inv0 : HeadInv .any l.toArray t.depth (Array.replicate l.toArray.size false) :=
    ⟨by simp, fun j oj _ hl => (by rw [getD_replicate_false] at hl; cases hl), fun t _ ht => getD_in (by simpa using ht) (getD_replicate_false _ _)⟩
  have H := wpAnyH_lexT (md := .any) (ks := t.kds) (g := l.toArray.size - t.depth) (Q := fun e a w => (∀ c, e ≠ .panic c) ∧ Q e a w) hsel hs hc hn (fun c a w hq => hq.1 c rfl) t _ a _ inv0 hlex h
  refine wp_region_any hm ?_
  have := wpAny_of_headH (g := l.toArray.size - t.depth) (fun listed a' w' hL => by
    have := wpAny_of_seq (md := .any) (Q' := fun e a w => (∀ c, e ≠ .panic c) ∧ Q e a w) (l.drop t.depth) t.depth listed a' w' (fun j => by simp [List.getElem?_drop]) (by rw [hdl]; exact hL.1) hL.2
    rwa [hdl] at this) _ _ _ _ H
  have hsz : t.depth < l.toArray.size := hn
  rw [show t.depth + (l.toArray.size - t.depth) = l.toArray.size by omega] at this
  exact this
end

/-! ## as goals -/
section
variable {T : Tys} {P : Program} {n : Fz} {ops : Array Oper} {Q : Exit → Act → World → Prop} {L L' : Fr} {w w' w0 w1 : World} {rest : List Oper} {ty t t' : TypeId} {tr tr2 : OTree} {k k2 : Nat}
  {Sx : Nat → Prop} {H HG : List (Nat × Obj)} {pos : String} {af : Array Edge} {g : Option (Nat × Bool)} {K : Act → World → Prop} {xo yo zo : Operand}
structure ML (P : Program) (n : Fz) (ops : Array Oper) (wb : World) (K : Act → World → Prop) (tr : OTree) (L : Fr) (w : World) : Prop where
  run : ∀ a, Fits n L a → wpTree P ops (fun w' => St wb NoneS [] w') K tr a w
theorem W_mix {id : Nat} {l : List Oper} (tr : OTree) (hT : T.Ok P) (hB : lexTB .any l.toArray tr = true) (hSt : St w0 Sx H w)
    (h : ∀ w1, St w0 Sx H w1 → St w1 NoneS [] w1 → ML P n l.toArray w1 (fun a' w' => wpList P l.toArray (fun e a w => (∀ c, e ≠ .panic c) ∧ Q e a w) (l.drop tr.depth) a' w') tr L w1) : W P n (.region id l.toArray true) Q L w :=
  ⟨fun a ha => wp_region_mix tr hT.mixed hB ((h _ hSt.drew (St.refl _ _)).run a ha)⟩
section
variable {wb : World}
theorem ML_ev {d : Nat} {op : Op} {v : Value} (h0 : ops[k]? = some ⟨some d, op, ty, pos, af, g⟩) (hg : wantB ops g L = some true) (hn : Nat.blt d n.1 = true) (hG : St wb NoneS HG w) (h : ∀ w', St wb NoneS [] w' → Ev P L op ty w' v w') (k1 : ML P n ops wb K tr ((d, v) :: L) w) : ML P n ops wb K (.op k (some false) tr) L w := by
  refine ⟨fun a ha => ⟨_, v, h0, .inl ⟨wantB_spec (o := ⟨some d, op, ty, pos, af, g⟩) hg ha, fun w' hw' => (h w' hw').run n a ha _ _ _ _⟩, hG.nil, k1.run _ (ha.put hn v)⟩⟩
theorem ML_pass {d : Nat} {op : Op} (h0 : ops[k]? = some ⟨some d, op, ty, pos, af, g⟩) (hg : wantB ops g L = some false) (hn : Nat.blt d n.1 = true) (hG : St wb NoneS HG w) (k1 : ML P n ops wb K tr ((d, undef) :: L) w) : ML P n ops wb K (.op k (some false) tr) L w := by
  refine ⟨fun a ha => ⟨_, undef, h0, .inr ⟨wantB_spec (o := ⟨some d, op, ty, pos, af, g⟩) hg ha, rfl⟩, hG.nil, k1.run _ (ha.put hn undef)⟩⟩
theorem ML_passC {d : Nat} {op : Op} (h0 : ops[k]? = some ⟨some d, op, ty, pos, af, g⟩) (hg : wantB ops g L = some false) (hn : Nat.blt d n.1 = true) (hG : St wb NoneS HG w) (k1 : ∀ w', St wb NoneS [] w' → ML P n ops wb K tr ((d, undef) :: L) w') : ML P n ops wb K (.op k none tr) L w := by
  refine ⟨fun a ha => ⟨_, undef, h0, .inr ⟨wantB_spec (o := ⟨some d, op, ty, pos, af, g⟩) hg ha, rfl⟩, hG.nil, fun w' hw' => (k1 w' hw').run _ (ha.put hn undef)⟩⟩
/-- a call that changes nothing -/
theorem ML_call (f : FuncId) {d : Nat} {xs : List Operand} {vs : List Value} {v : Value} {at_ : Array TypeId} (h0 : ops[k]? = some ⟨some d, .call ⟨.value (.func f), ⟨xs⟩, at_⟩, ty, pos, af, g⟩) (hf : callB P f = true) (hx : opds L xs = some vs) (hg : wantB ops g L = some true) (hn : Nat.blt d n.1 = true) (hG : St wb NoneS HG w)
    (hc : ∀ w, St wb NoneS [] w → Cl P f vs w (fun r w' => r = v ∧ St w NoneS [] w')) (k1 : ∀ w', St wb NoneS [] w' → ML P n ops wb K tr ((d, v) :: L) w') : ML P n ops wb K (.op k none tr) L w := by
  refine ⟨fun a ha => ⟨_, v, h0, .inl ⟨wantB_spec (o := ⟨some d, .call ⟨.value (.func f), ⟨xs⟩, at_⟩, ty, pos, af, g⟩) hg ha, fun w hw => ?_⟩, hG.nil, fun w' hw' => (k1 w' hw').run _ (ha.put hn v)⟩⟩
  unfold Oper.quietAt
  rw [run_call hf hx ha]
  refine ⟨rfl, Calls.mono (hc w hw).run ?_⟩
  rintro e w' ⟨u, rfl, rfl, hu⟩
  exact ⟨rfl, hw.call0 hu⟩
theorem ML_sub (hs : Sub L' L) (h : ML P n ops wb K tr L' w) : ML P n ops wb K tr L w := ⟨fun a ha => h.run a (ha.sub hs)⟩
theorem ML_case {j : Nat} {b : Bool} (h : look L j = some (.bool b)) (ht : b = true → ML P n ops wb K tr ((j, .bool true) :: L) w) (hf : b = false → ML P n ops wb K tr ((j, .bool false) :: L) w) : ML P n ops wb K tr L w := by
  cases b
  · exact ML_sub (Sub.cons h (Sub.refl _)) (hf rfl)
  · exact ML_sub (Sub.cons h (Sub.refl _)) (ht rfl)
/-- what an operation's guard hangs on -/
def guardOf (ops : Array Oper) (k : Nat) : Option Nat := (ops[k]?).bind fun o => o.guard.bind fun x => (ops[x.1]?).bind (·.dst)
theorem ML_guard {kd : Option Bool} {d : Nat} {x : Bool} (hd : guardOf ops k = some d) (hl : look L d = some (.bool x)) (ht : x = true → ML P n ops wb K (.op k kd tr) ((d, .bool true) :: L) w) (hf : x = false → ML P n ops wb K (.op k kd tr) ((d, .bool false) :: L) w) : ML P n ops wb K (.op k kd tr) L w := ML_case hl ht hf
theorem ML_guardP {kd : Option Bool} {d : Nat} {p : Prop} {d0 : Decidable p} (hd : guardOf ops k = some d) (hl : look L d = some (.bool (decide p))) (ht : p → ML P n ops wb K (.op k kd tr) ((d, .bool true) :: L) w) (hf : ¬ p → ML P n ops wb K (.op k kd tr) ((d, .bool false) :: L) w) : ML P n ops wb K (.op k kd tr) L w :=
  ML_case hl (fun e => ht (of_decide_eq_true e)) (fun e => hf (of_decide_eq_false e))
/-- an operation that makes new memory: by the rules of a list of one -/
def MK (P : Program) (ops : Array Oper) (wb : World) (K : Act → World → Prop) (tr : OTree) : Exit → Act → World → Prop := fun e a' w' => e = .normal ∧ St wb NoneS [] w' ∧ wpTree P ops (fun w' => St wb NoneS [] w') K tr a' w'
theorem ML_one {o : Oper} (h0 : ops[k]? = some o) (h : WL P n ops (MK P ops wb K tr) [o] L w) : ML P n ops wb K (.op k (some true) tr) L w := ⟨fun a ha => ⟨o, h0, h.run a ha⟩⟩
theorem ML_fork (h1 : ML P n ops wb K (.op k (some true) tr) L w) (h2 : ML P n ops wb K (.op k2 (some true) tr2) L w) : ML P n ops wb K (.fork k tr k2 tr2) L w := ⟨fun a ha => ⟨h1.run a ha, h2.run a ha⟩⟩
theorem At_oneM (hG : St wb NoneS HG w) (h : ML P n ops wb K tr L w) : At n (MK P ops wb K tr) .normal L w := ⟨fun a ha => ⟨rfl, hG.nil, h.run a ha⟩⟩
theorem ML_end {Q' : Exit → Act → World → Prop} {l : List Oper} (h : WL P n ops Q' l L w) : ML P n ops wb (fun a' w' => wpList P ops Q' l a' w') .done L w := ⟨fun a ha => h.run a ha⟩
end
end
end Go.Proofs.YtknfankadlokhaaGreatDoor

namespace Go.Proofs.YtknfankadlokhaaGreatDoor
open Go.RowKit
set_option linter.unusedVariables false
set_option linter.unusedSimpArgs false

theorem SlAt.row {w : World} {v : Value} {z : Nat} {xs : List (List Value)} (h : SlAt w v z xs) (h0 : 0 < xs.length) :
    ∃ b o l E fz cap, v = .slice (some ⟨b, o, none⟩) xs.length cap ∧ w.heap[b]? = some (.cells ⟨l⟩ E fz) ∧ (l.drop o).take (xs.length * z) = xs.flatten ∧ xs.flatten.length = xs.length * z := by
  obtain ⟨a, cap, rfl, hc⟩ := h
  obtain ⟨b, o, l, E, fz, rfl, hb, _, _⟩ := hc 0 _ (List.getElem?_eq_getElem h0)
  have all : ∀ i x, xs[i]? = some x → (l.drop (o + i * z)).take z = x ∧ x.length = z := fun i x hi => by
    obtain ⟨b', o', l', E', fz', e, hb', h1, h2⟩ := hc i x hi
    injection e with e
    injection e with e1 e2 _
    subst e1; subst e2
    rw [hb] at hb'
    injection hb' with e3
    injection e3 with e3
    injection e3 with e3
    subst e3
    exact ⟨h1, h2⟩
  have key : ∀ k, k ≤ xs.length → (l.drop o).take (k * z) = (xs.take k).flatten ∧ (xs.take k).flatten.length = k * z := by
    intro k
    induction k with
    | zero => intro _; simp
    | succ k ih =>
      intro hk
      obtain ⟨ih1, ih2⟩ := ih (by omega)
      have hx : xs[k]? = some xs[k] := List.getElem?_eq_getElem (by omega)
      obtain ⟨h1, h2⟩ := all k _ hx
      have ht : xs.take (k + 1) = xs.take k ++ [xs[k]] := by rw [List.take_add_one, hx]; rfl
      rw [ht, Nat.add_mul, Nat.one_mul, List.take_add, ih1, List.drop_drop, h1, List.flatten_append, List.length_append, ih2]
      simp [h2]
  have := key xs.length (Nat.le_refl _)
  rw [List.take_length] at this
  exact ⟨b, o, l, E, fz, cap, rfl, hb, this.1, this.2⟩

section
variable {T : Tys} {P : Program} {n : Fz} {ops : Array Oper} {Q : Exit → Act → World → Prop} {L L' : Fr} {w w' w0 : World} {rest : List Oper} {ty t t' : TypeId} {xo yo zo : Operand}
  {Sx : Nat → Prop} {H H0 H1 H2 : List (Nat × Obj)} {pos : String} {af : Array Edge} {g : Option (Nat × Bool)}

theorem Ev_append0 {e : TypeId} {z y len cap c : Nat} {a a2 : Option Addr} (hT : T.Ok P) (ht : asc T.sl t = some (e, z, y)) (hx : opd L xo = some (.slice a len cap)) (hy : opd L yo = some (.slice a2 0 c)) (hle : len ≤ cap) :
    Ev P L (.call ⟨.builtin .append, #[xo, yo], #[t, t]⟩) ty w (.slice a len cap) w := by
  obtain ⟨hu, i, hi, hiz, hiy⟩ := ok_sl hT ht
  refine Ev_append hx hy (run_append_nothing w t t ty e i hu hi a len cap hle _ ?_)
  cases a2 with
  | none => exact Go.Src.ofNil w hu c
  | some a2 => exact Go.Src.ofSlice w hu a2 0 c [] (by simp) (fun j u h => by simp at h) (fun u h => by cases h)

theorem OwnSl.cap {v : Value} {e : TypeId} {z k : Nat} {xs : List Value} (h : OwnSl v e z xs k H1) : ∃ a cap, v = .slice a k cap ∧ k ≤ cap := by
  rcases h.2 with ⟨rfl, rfl, _⟩ | ⟨b, cap, rs, rfl, hle, _⟩
  · exact ⟨_, _, rfl, Nat.le_refl _⟩
  · exact ⟨_, _, rfl, hle⟩

/-- append(x, y...): x a slice of one's own, y one that came in -/
theorem WL_appendS {d k : Nat} {e : TypeId} {z y : Nat} {xs : List Value} {xss : List (List Value)} {zv v v2 : Value} (hT : T.Ok P) (ht : asc T.sl t = some (e, z, y)) (hz : asc T.zero e = some zv) (hzl : (zcells zv).length = z)
    (hg : wantB ops g L = some true) (hn : Nat.blt d n.1 = true) (hx : opd L xo = some v) (hy : opd L yo = some v2) (hSt : St w0 Sx (H0 ++ H1 ++ H2) w) (ho : OwnSl v e z xs k H1)
    (hs : SlAt w v2 z xss) (h1 : xss.flatten.all oneV = true) (hmax : k + xss.length ≤ 140737488355328) (hby : (k + xss.length) * y ≤ 140737488355328)
    (K : ∀ v' w' H1', OwnSl v' e z (xs ++ xss.flatten) (k + xss.length) H1' → St w0 Sx (H0 ++ H1') w' → WL P n ops Q rest ((d, v') :: L) w') : WL P n ops Q (⟨some d, .call ⟨.builtin .append, #[xo, yo], #[t, t]⟩, ty, pos, af, g⟩ :: rest) L w := by
  rcases Nat.eq_zero_or_pos xss.length with h0 | h0
  · obtain ⟨a2, c, hv2, _⟩ := hs
    rw [h0] at hv2
    subst hv2
    obtain ⟨a, cap, rfl, hle⟩ := ho.cap
    refine WL_ev hg hn (Ev_append0 hT ht hx hy hle) (K _ _ H1 ?_ hSt.left)
    have : xss = [] := List.eq_nil_of_length_eq_zero h0
    subst this
    simpa using ho
  · obtain ⟨b, o, l, E, fz, cap, rfl, hb, hr, hl⟩ := hs.row h0
    exact WL_append hT ht hz hzl hg hn hx hy hSt ho hb hr hl h1 h0 hmax hby K

/-- make([]T, n): elements of one cell -/
theorem WL_makeSlice1 {d : Nat} {e : TypeId} {y : Nat} {zv : Value} {l : Int} (hT : T.Ok P) (ht : asc T.sl t = some (e, 1, y)) (hz : asc T.zero e = some zv) (hzl : zcells zv = [zv]) (hg : wantB ops g L = some true) (hn : Nat.blt d n.1 = true)
    (hx : opd L xo = some (I l)) (hy : opd L yo = some (I l)) (h0 : 0 ≤ l) (hm : l ≤ 16777216) (hb : (y : Int) * l ≤ 281474976710656) (hSt : St w0 Sx H w)
    (k : ∀ w' b, w0.heap.size ≤ b → St w0 Sx (H ++ [(b, blk (List.replicate l.toNat zv) e)]) w' → WL P n ops Q rest ((d, .slice (some ⟨b, 0, none⟩) l.toNat l.toNat) :: L) w') :
    WL P n ops Q (⟨some d, .makeSlice t xo yo, ty, pos, af, g⟩ :: rest) L w := by
  obtain ⟨hu, i, hi, hiz, hiy⟩ := ok_sl hT ht
  obtain ⟨i', hi', hzz⟩ := ok_zero hT hz
  have hii : i' = i := Option.some.inj (hi'.symm.trans hi)
  subst hii
  have hr := run_makeSlice (P := P) w.drew t e i' zv hu hi' hzz .i64 .i64 l l h0 (Int.le_refl _) (by rw [hiz]; omega) (by rw [hiy]; exact hb) (by omega)
  have hr2 := run_makeSlice (P := P) w t e i' zv hu hi' hzz .i64 .i64 l l h0 (Int.le_refl _) (by rw [hiz]; omega) (by rw [hiy]; exact hb) (by omega)
  have hev : Ev P L (.makeSlice t xo yo) ty w (.slice (some ⟨w.heap.size, 0, none⟩) l.toNat l.toNat) (w.alloc (.cells (madeCells zv.cells (l.toNat * i'.size)) e)) := by
    refine ⟨fun n c ha _ _ _ _ => ?_⟩
    simp only [execOp, ha.eval hx, ha.eval hy, Sem.run_bind, hr2, Result.andThen_ok, Sem.run_pure]
  refine WL_ev hg hn hev (k _ _ hSt.size ?_)
  have e1 : (Obj.cells (madeCells zv.cells (l.toNat * i'.size)) e) = blk (List.replicate l.toNat zv) e := by
    congr 1
    rw [hiz, Nat.mul_one, zcells_cells, hzl]
    apply Array.ext'
    simp only [madeCells, Array.toList_map, Array.toList_range]
    apply List.ext_getElem?
    intro j
    rw [List.getElem?_map, List.getElem?_replicate]
    by_cases hj : j < l.toNat
    · rw [List.getElem?_range hj, if_pos hj]; simp [Nat.mod_one]
    · rw [List.getElem?_eq_none (by simpa using hj), if_neg hj]; rfl
  rw [← e1]
  exact hSt.alloc _

/-- a string's byte -/
theorem Ev_strIndex {i : Int} {k : IntKind} {s : List UInt8} {b : UInt8} (hT : T.Ok P) (ht : mem1 T.str t = true) (hx : opd L xo = some (S s)) (hy : opd L yo = some (.int k i)) (h0 : 0 ≤ i) (hb : s[i.toNat]? = some b) : Ev P L (.index t xo yo) ty w (.int .u8 b.toNat) w := by
  refine ⟨fun n c ha _ _ _ _ => ?_⟩
  have hb' : (ByteArray.mk ⟨s⟩)[i.toNat]? = some b := by
    obtain ⟨h1, h2⟩ := List.getElem?_eq_some_iff.1 hb
    have hsz : i.toNat < (ByteArray.mk ⟨s⟩).size := h1
    rw [getElem?_pos (ByteArray.mk ⟨s⟩) i.toNat hsz, ← h2]
    rfl
  have hbb : (if 0 ≤ i then (ByteArray.mk ⟨s⟩)[i.toNat]? else none) = some b := by rw [if_pos h0, hb']
  simp only [execOp, ha.eval hx, ha.eval hy, Instr.index, asIntOf, Sem.run_bind, Sem.run_pure, Result.andThen_ok, run_underlying' (ok_str hT ht), hbb]

/-- an element of an array that is a value -/
theorem Ev_arrIndex {i : Int} {k : IntKind} {cs vs : List Value} {m e z : Nat} (hT : T.Ok P) (ht : asc T.arr t = some (m, e, z)) (he : asc T.agg e = some z) (hx : opd L xo = some (.agg ⟨cs⟩)) (hy : opd L yo = some (.int k i)) (h0 : 0 ≤ i) (h1 : i < m)
    (hv : (cs.drop (i.toNat * z)).take z = vs) : Ev P L (.index t xo yo) ty w (.agg ⟨vs⟩) w := by
  obtain ⟨hu, j, hj, hjz⟩ := ok_arr hT ht
  refine ⟨fun n c ha _ _ _ _ => ?_⟩
  have e1 : ((⟨cs⟩ : Array Value).extract (i.toNat * z) (i.toNat * z + z)) = ⟨vs⟩ := by
    rw [← hv]
    apply Array.ext'
    simp [List.extract_eq_take_drop]
  simp only [execOp, ha.eval hx, ha.eval hy, Instr.index, asIntOf, Sem.run_bind, Sem.run_pure, Result.andThen_ok, run_underlying' hu]
  rw [if_pos ⟨h0, h1⟩]
  simp only [part, Sem.run_bind, run_sizeOf' hj, hjz, Result.andThen_ok, run_isAgg_yes hT he, if_true, Sem.run_pure, e1]

/-- string(bytes), of a row -/
theorem Ev_bytesStr {b off cap : Nat} {l : List Value} {s : List UInt8} {E e z y : Nat} {fz : Nat × Nat} {sd : TypeId} (hT : T.Ok P) (ht : asc T.sl t = some (e, z, y)) (he : asc T.int e = some .u8) (hd : mem1 T.str sd = true)
    (hx : opd L xo = some (.slice (some ⟨b, off, none⟩) s.length cap)) (hb : w.heap[b]? = some (.cells ⟨l⟩ E fz)) (hl : (l.drop off).take s.length = s.map (fun c => Value.int .u8 c.toNat)) : Ev P L (.convert t sd xo) ty w (S s) w := by
  obtain ⟨hu, i, hi, hiz, hiy⟩ := ok_sl hT ht
  refine ⟨fun n c ha _ _ _ _ => ?_⟩
  have hc : ∀ j (hj : j < s.length), w.cell? ((⟨b, off, none⟩ : Addr).add j) = some (.int .u8 (s[j].toNat : Int)) := fun j hj => by
    refine cells_at (m := s.length) (E := E) (fz := fz) hb hl j _ ?_
    rw [List.getElem?_map, List.getElem?_eq_getElem hj]; rfl
  have := run_convert_bytes_back (P := P) w t sd e ⟨b, off, none⟩ cap s hu (ok_int hT he) (ok_str hT hd) hc
  simp only [execOp, ha.eval hx, Sem.run_bind, this, Result.andThen_ok, Sem.run_pure]
/-- []T{}: a row of no cells -/
theorem WL_buildSlice0 {d e z y : Nat} (hT : T.Ok P) (ht : asc T.sl t = some (e, z, y)) (hg : wantB ops g L = some true) (hn : Nat.blt d n.1 = true) (hSt : St w0 Sx H w)
    (k : ∀ w' b, w0.heap.size ≤ b → St w0 Sx (H ++ [(b, blk [] e)]) w' → WL P n ops Q rest ((d, .slice (some ⟨b, 0, none⟩) 0 0) :: L) w') : WL P n ops Q (⟨some d, .buildSlice t 0 #[], ty, pos, af, g⟩ :: rest) L w := by
  obtain ⟨hu, i, hi, hiz, hiy⟩ := ok_sl hT ht
  have hev : Ev P L (.buildSlice t 0 #[]) ty w (.slice (some ⟨w.heap.size, 0, none⟩) 0 0) (w.alloc (blk [] e)) := by
    refine ⟨fun n c ha _ _ _ _ => ?_⟩
    simp [execOp, Instr.buildSlice, run_underlying' hu, run_sizeOf' hi, Instr.fill, newRow, Array.range_zero', blk]
  exact WL_ev hg hn hev (k _ _ hSt.size (hSt.alloc _))
theorem OwnSl.zero (b : Nat) (e : TypeId) (z : Nat) : OwnSl (.slice (some ⟨b, 0, none⟩) 0 0) e z [] 0 [(b, blk [] e)] := ⟨by simp, .inr ⟨b, 0, [], rfl, Nat.le_refl _, by simp, by simp⟩⟩
theorem OwnSl.whole (b : Nat) (e : TypeId) (xs : List Value) : OwnSl (.slice (some ⟨b, 0, none⟩) xs.length xs.length) e 1 xs xs.length [(b, blk xs e)] := ⟨by simp, .inr ⟨b, xs.length, [], rfl, Nat.le_refl _, by simp, by simp⟩⟩
theorem OwnSl.slAt {α : Type} {f : α → List Value} {z : Nat} (hz : ∀ a, (f a).length = z) {l : List α} {v : Value} {e : TypeId} (h : OwnSl v e z (l.flatMap f) l.length H1) (hh : Has w H1) : SlAt w v z (l.map f) := by
  rcases h.2 with ⟨rfl, h0, rfl⟩ | ⟨b, cap, rs, rfl, hle, _, rfl⟩
  · have : l = [] := List.eq_nil_of_length_eq_zero h0
    subst this
    exact SlAt.nil w z
  · refine ⟨some ⟨b, 0, none⟩, cap, by rw [List.length_map], fun i x hi => ?_⟩
    rw [List.getElem?_map] at hi
    obtain ⟨a, ha, rfl⟩ := Option.map_eq_some_iff.1 hi
    refine ⟨b, 0, _, e, (0, 0), rfl, hh.own 0 b _ rfl, ?_, hz a⟩
    rw [Nat.zero_add]
    exact flat_take hz ha rs
end
end Go.Proofs.YtknfankadlokhaaGreatDoor

namespace Go.Proofs.YtknfankadlokhaaGreatDoor
open Go.RowKit
set_option linter.unusedVariables false
set_option linter.unusedSimpArgs false

/-- a capacity within the model's bound -/
def capB (v : Value) : Prop := ∀ (a : Option Addr) (k c : Nat), v = .slice a k c → c ≤ maxLen
theorem capB.mk {a : Option Addr} {k c : Nat} (h : c ≤ maxLen) : capB (.slice a k c) := fun a' k' c' e => by injection e with _ _ e; exact e ▸ h
abbrev bcs (s : List UInt8) : List Value := s.map fun c => Value.int .u8 c.toNat
section
variable {T : Tys} {P : Program} {n : Fz} {ops : Array Oper} {Q : Exit → Act → World → Prop} {L L' : Fr} {w w' w0 : World} {rest : List Oper} {ty t t' : TypeId} {xo yo zo : Operand}
  {Sx : Nat → Prop} {H H0 H1 H2 : List (Nat × Obj)} {pos : String} {af : Array Edge} {g : Option (Nat × Bool)}

theorem St.storeMany {i b : Nat} {E : TypeId} : ∀ (vs : List Value) (o : Nat) {w : World} {l : List Value} {H : List (Nat × Obj)}, St w0 Sx H w → H[i]? = some (b, blk l E) → St w0 Sx (H.set i (b, blk (spl l o vs) E)) (w.setCells b o vs)
  | [], o, w, l, H, h, hi => by
    have : H.set i (b, blk l E) = H := by
      apply List.ext_getElem?
      intro j
      rw [List.getElem?_set]
      split
      · rename_i e; subst e
        obtain ⟨h1, h2⟩ := List.getElem?_eq_some_iff.1 hi
        rw [if_pos h1, hi]
      · rfl
    simpa [spl, World.setCells, this] using h
  | v :: vs, o, w, l, H, h, hi => by
    have hil := (List.getElem?_eq_some_iff.1 hi).1
    have h1 := h.store hi o v
    have hi2 : (H.set i (b, blk (l.set o v) E))[i]? = some (b, blk (l.set o v) E) := by rw [List.getElem?_set]; simp [hil]
    have h2 := St.storeMany (i := i) vs (o + 1) h1 hi2
    rw [List.set_set] at h2
    exact h2

theorem WL_appendStr {d k : Nat} {e y : Nat} {xs : List Value} {s : List UInt8} {zv v : Value} {t2 : TypeId} (hT : T.Ok P) (ht : asc T.sl t = some (e, 1, y)) (hts : mem1 T.str t2 = true) (hz : asc T.zero e = some zv) (hzl : (zcells zv).length = 1)
    (hg : wantB ops g L = some true) (hn : Nat.blt d n.1 = true) (hx : opd L xo = some v) (hy : opd L yo = some (S s)) (hSt : St w0 Sx (H0 ++ H1 ++ H2) w) (ho : OwnSl v e 1 xs k H1) (hcb : capB v)
    (hmax : k + s.length ≤ 140737488355328) (hby : (k + s.length) * y ≤ 140737488355328)
    (K : ∀ v' w' H1', OwnSl v' e 1 (xs ++ bcs s) (k + s.length) H1' → capB v' → St w0 Sx (H0 ++ H1') w' → WL P n ops Q rest ((d, v') :: L) w') : WL P n ops Q (⟨some d, .call ⟨.builtin .append, #[xo, yo], #[t, t2]⟩, ty, pos, af, g⟩ :: rest) L w := by
  obtain ⟨hu, i, hi, hiz, hiy⟩ := ok_sl hT ht
  obtain ⟨i', hi', hzz⟩ := ok_zero hT hz
  have hii : i' = i := Option.some.inj (hi'.symm.trans hi)
  subst hii
  have hs : Go.Src P i'.size t2 (S s) s.length (bcs s) w := by
    rw [hiz]
    exact Go.Src.ofString w (ok_str hT hts) (ByteArray.mk ⟨s⟩)
  obtain ⟨a0, cap0, hv0, hle0⟩ := ho.cap
  rcases Nat.eq_zero_or_pos s.length with h0 | h0
  · have hs0 : s = [] := List.eq_nil_of_length_eq_zero h0
    subst hs0
    subst hv0
    exact WL_ev hg hn (Ev_append hx hy (run_append_nothing w t t2 ty e i' hu hi' a0 k cap0 hle0 _ hs)) (K _ _ H1 (by simpa using ho) hcb hSt.left)
  have hzs : zv.cells.size = 1 := by rw [zcells_cells]; simpa using hzl
  have h01 : St w0 Sx (H0 ++ H1) w := hSt.left
  obtain ⟨hxl, hv⟩ := ho
  have hcl : (bcs s).length = s.length := by simp
  rcases hv with ⟨rfl, rfl, rfl⟩ | ⟨b, cap, rs, rfl, hkc, hrs, rfl⟩
  · have hxs : xs = [] := List.eq_nil_of_length_eq_zero (by omega)
    subst hxs
    have hr := run_append_grow_src w t t2 ty e i' zv hu hi' hzz none 0 0 [] (run_firstCells_none w.drew i'.size 0 0 0) (S s) s.length (bcs s) hs (by omega) (by omega) (by rw [hiy]; exact growslice_fits (by omega) (by simpa using hby))
    refine WL_ev hg hn (Ev_append hx hy hr) ?_
    have hge := grownCap_ge w (0 + s.length) 0 e
    have hst2 := (St.drew hSt.left.left).alloc (.cells (([] ++ bcs s).toArray ++ Builtin.zeroCells zv.cells (grownCap w (0 + s.length) 0 e - (0 + s.length))) e)
    refine K _ _ [(w.heap.size, blk ([] ++ bcs s ++ (Builtin.zeroCells zv.cells (grownCap w (0 + s.length) 0 e - (0 + s.length))).toList) e)] ?_ (capB.mk (grownCap_le_maxLen w _ 0 e (by unfold maxLen; omega))) ?_
    · refine ⟨by simp, .inr ⟨w.heap.size, grownCap w (0 + s.length) 0 e, (Builtin.zeroCells zv.cells (grownCap w (0 + s.length) 0 e - (0 + s.length))).toList, rfl, hge, ?_, rfl⟩⟩
      simp [size_zeroCells, hzs]
    · have e1 : (Obj.cells (([] ++ bcs s).toArray ++ Builtin.zeroCells zv.cells (grownCap w (0 + s.length) 0 e - (0 + s.length))) e) = blk ([] ++ bcs s ++ (Builtin.zeroCells zv.cells (grownCap w (0 + s.length) 0 e - (0 + s.length))).toList) e := by
        congr 1
        apply Array.ext'
        simp
      rw [← e1]; exact hst2
  · have hib : (H0 ++ [(b, blk (xs ++ rs) e)])[H0.length]? = some (b, blk (xs ++ rs) e) := by simp
    have hblk := (h01.own _ _ _ hib).1
    have hset : ∀ (b' : Nat) (o' : Obj), (H0 ++ [(b, blk (xs ++ rs) e)]).set H0.length (b', o') = H0 ++ [(b', o')] := fun b' o' => by simp
    by_cases hroom : k + s.length ≤ cap
    · have hlen : s.length ≤ rs.length := by rw [hrs]; omega
      have hr := run_append_room_src w t t2 ty e i' hu hi' b 0 k cap (S s) s.length (bcs s) hs hroom (fun j hj => by
        rw [hcl] at hj
        rw [cell_of hblk, hiz, List.getElem?_eq_getElem (by simp; omega)]; rfl) (fun j hj => by simp [World.frozen?, hblk])
      refine WL_ev hg hn (Ev_append hx hy hr) ?_
      have e1 : spl (xs ++ rs) (0 + k * i'.size) (bcs s) = xs ++ bcs s ++ rs.drop s.length := by
        rw [hiz, Nat.zero_add, Nat.mul_one, spl_eq _ _ _ (by simp; omega)]
        have hk : k = xs.length := by omega
        rw [hk, List.take_left, List.drop_append, List.drop_eq_nil_of_le (by omega), hcl]
        simp
      refine K _ _ [(b, blk (xs ++ bcs s ++ rs.drop s.length) e)] ⟨by simp [hxl], .inr ⟨b, cap, rs.drop s.length, rfl, hroom, ?_, rfl⟩⟩ (capB.mk (hcb _ _ _ rfl)) ?_
      · rw [List.length_drop, hrs]; omega
      · rw [← hset, ← e1]
        exact h01.storeMany (bcs s) _ hib
    · have hxat : ∀ j v, xs[j]? = some v → w.drew.cell? ((⟨b, 0, none⟩ : Addr).add j) = some v := fun j v hj => by
        have := cells_at (m := k * 1) (w := w) hblk (news := xs) (by rw [List.drop_zero, ← hxl, List.take_left]) j v hj
        simpa using this
      have hold : (Builtin.firstCells i'.size k (.slice (some ⟨b, 0, none⟩) k cap)).run P w.drew = .ok xs.toArray w.drew := run_firstCells_some (P := P) w.drew i'.size k ⟨b, 0, none⟩ k cap xs (by rw [hiz]; exact hxl) hxat
      have hr := run_append_grow_src w t t2 ty e i' zv hu hi' hzz (some ⟨b, 0, none⟩) k cap xs hold (S s) s.length (bcs s) hs (by omega) (by omega) (by rw [hiy]; exact growslice_fits (by omega) hby)
      refine WL_ev hg hn (Ev_append hx hy hr) ?_
      have hge := grownCap_ge w (k + s.length) cap e
      have e1 : (Obj.cells ((xs ++ bcs s).toArray ++ Builtin.zeroCells zv.cells (grownCap w (k + s.length) cap e - (k + s.length))) e) = blk (xs ++ bcs s ++ (Builtin.zeroCells zv.cells (grownCap w (k + s.length) cap e - (k + s.length))).toList) e := by
        congr 1
        apply Array.ext'
        simp
      refine K _ _ [(w.heap.size, blk (xs ++ bcs s ++ (Builtin.zeroCells zv.cells (grownCap w (k + s.length) cap e - (k + s.length))).toList) e)] ⟨by simp [hxl], .inr ⟨w.heap.size, _, _, rfl, hge, ?_, rfl⟩⟩ (capB.mk (grownCap_le_maxLen w _ cap e (by unfold maxLen; omega))) ?_
      · simp [size_zeroCells, hzs]
      · rw [← e1]
        exact (St.drew hSt.left.left).alloc _
/-- a call of a function without a body -/
theorem Ev_extern {f : FuncId} {fn : Func} {e : Array Value → Sem Value} {xs : List Operand} {vs : List Value} {r : Value} {at_ : Array TypeId} (hf : P.funcs[f]? = some fn) (hname : (fn.name == "runtime.NumGoroutine") = false) (hb : fn.body.isNone = true) (hnx : Extern.findNext fn = none)
    (he : Extern.find fn = some e) (hx : opds L xs = some vs) (hr : (e ⟨vs⟩).run P w = .ok r w') : Ev P L (.call ⟨.value (.func f), ⟨xs⟩, at_⟩) ty w r w' := by
  refine ⟨fun n a ha _ _ _ _ => ?_⟩
  have hm := opds_spec hx ha
  have he2 : (execOp a.eval ⟨‹_›, .call ⟨.value (.func f), ⟨xs⟩, at_⟩, ty, ‹_›, ‹_›, ‹_›⟩) = callFunc f (⟨vs⟩ ++ #[]) := by
    simp only [execOp, resolve, Act.eval, Deferred.ofValue]
    have : (Array.map a.eval ⟨xs⟩) = ⟨vs⟩ := by rw [← hm]; simp
    rw [this]
    show invoke (Target.fn (Fn.func f) #[]) (#[] ++ ⟨vs⟩) = _
    simp [invoke]
  rw [he2, Array.append_empty, run_callFunc_extern hf hname hb hnx he, hr]
  rfl
theorem shape_of {b : Nat} {l : List Value} {E : TypeId} {fz : Nat × Nat} (h : w.heap[b]? = some (.cells ⟨l⟩ E fz)) : w.shape? b = some (E, l.length) := by
  simp [World.shape?, h]
theorem Ev_toUnsafe {src dst pt : TypeId} {j : TypeInfo} {b : Nat} {l : List Value} {E : TypeId} {fz : Nat × Nat} (hs : P.underlying src = some (.pointer pt)) (hd : P.underlying dst = some .unsafePointer) (hi : P.info? pt = some j) (hj : j.size ≠ 0)
    (hx : opd L xo = some (Ptr b)) (hb : w.heap[b]? = some (.cells ⟨l⟩ E fz)) (hl : 0 < l.length) : Ev P L (.convert src dst xo) ty w (Ptr b) w := by
  refine ⟨fun n c ha _ _ _ _ => ?_⟩
  simp only [execOp, ha.eval hx, Sem.run_bind, Lib.run_to_unsafe w ⟨b, 0, none⟩ hs hd hi hj (shape_of hb) hl, Result.andThen_ok, Sem.run_pure]
theorem Ev_fromUnsafe {src dst pt : TypeId} {j : TypeInfo} {b : Nat} {l : List Value} {E : TypeId} {fz : Nat × Nat} (hs : P.underlying src = some .unsafePointer) (hd : P.underlying dst = some (.pointer pt)) (hi : P.info? pt = some j)
    (hx : opd L xo = some (Ptr b)) (hb : w.heap[b]? = some (.cells ⟨l⟩ E fz)) (hlies : liesAt P P.depth E (l.length / P.cellsOf E) 0 pt 1 = true) : Ev P L (.convert src dst xo) ty w (Ptr b) w := by
  refine ⟨fun n c ha _ _ _ _ => ?_⟩
  simp only [execOp, ha.eval hx, Sem.run_bind, Lib.run_from_unsafe w ⟨b, 0, none⟩ hs hd hi (shape_of hb) hlies, Result.andThen_ok, Sem.run_pure]
theorem Ev_neqPtr {pt : TypeId} {j : TypeInfo} {p : Addr} (hp : P.underlying t = some (.pointer pt)) (hi : P.info? pt = some j) (hx : opd L xo = some (.pointer (some p))) (hy : opd L yo = some (.pointer (some p))) : Ev P L (.binOp .neq t xo yo t') ty w (.bool false) w :=
  Ev_bin hx hy (eqGuard_at_pointer ..) (Lib.run_neq_ptr_same w p hp hi)
end
end Go.Proofs.YtknfankadlokhaaGreatDoor
