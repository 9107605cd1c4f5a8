/- Statements that draw their order, taken in an order of one's own; a place in a sequence. No conditions. -/
import Derived.Test.YtmlbgdhkacajaaaDoorEnr
namespace Go.Proofs.YtmlbgdhkacajaaaDoor
open Go.RowKit
set_option linter.unusedVariables false
set_option linter.unusedSimpArgs false

theorem of_dec {p : Prop} {d : Decidable p} (h : @decide p d = true) : p := @of_decide_eq_true p d h
theorem of_decF {p : Prop} {d : Decidable p} (h : @decide p d = false) : ¬ p := @of_decide_eq_false p d h
theorem Str.keepU {ks : List Nat} {i : Nat} {v : Value} {L L' : Fr} (h : mem1 ks i = false) (k : Str (i :: ks) L L') : Str ks ((i, v) :: L) ((i, v) :: L') := by
  have hm : ∀ j, Nat.beq i j = false → mem1 (i :: ks) j = mem1 ks j := fun j hj => by simp [mem1, hj]
  refine ⟨fun j u hj hl => ?_, fun j hj => ?_⟩
  · simp only [look] at hl ⊢
    cases hb : Nat.beq i j
    · simp only [hb, cond_false] at hl ⊢; exact k.all j u (by rw [hm j hb]; exact hj) hl
    · simpa [hb] using hl
  · simp only [look]
    cases hb : Nat.beq i j
    · exact k.off j (by rw [hm j hb]; exact hj)
    · have e : i = j := by simpa using hb
      subst e; rw [h] at hj; cases hj
section
variable {P : Program} {n : Nat} {Q : Exit → Act → World → Prop} {L : Fr} {w : World} {x : Code}
/-- a sequence whose second part is the region N, with what is known between its parts said -/
theorem W_midAtL (N : Nat) {x y : Code} {ops : Array Oper} {d : Bool} (Mid : Fr → World → Prop) (h : ∀ K : Act → World → Prop, (∀ L' w' a, Mid L' w' → Fits n L' a → K a w') → W P n x (Exit.then K Q) L w) (k : ∀ L' w', Mid L' w' → W P n (.seq (.region N ops d) y) Q L' w') :
    W P n (.seq x (.seq (.region N ops d) y)) Q L w := W_mid Mid h k
theorem W_midAt (N : Nat) {x : Code} {ops : Array Oper} {d : Bool} (Mid : Fr → World → Prop) (h : ∀ K : Act → World → Prop, (∀ L' w' a, Mid L' w' → Fits n L' a → K a w') → W P n x (Exit.then K Q) L w) (k : ∀ L' w', Mid L' w' → W P n (.region N ops d) Q L' w') :
    W P n (.seq x (.region N ops d)) Q L w := W_mid Mid h k
end

/-! ## the same in an order of one's own, over any condition S -/
section
variable {P : Program} {ops : Array Oper} {md : Region.Mode} {S : World → Prop} {Q : Exit → Act → World → Prop}
def lexP (md : Region.Mode) (ops : Array Oper) (g n : Nat) : List (Nat × Bool) → Array Bool → Bool
  | [], listed => Region.seqB md ops g n listed
  | (k, b) :: os, listed => decide (k < n) && (bif b then decide (Region.ready md ops listed = [k]) else (Region.ready md ops listed).contains k && Region.free md ops listed k) && lexP md ops g n os (listed.setIfInBounds k true)
def lexPB (md : Region.Mode) (ops : Array Oper) (os : List (Nat × Bool)) : Bool :=
  Region.noSelect ops && decide (os.length < ops.size) && Region.sinkB md ops os.length && Region.chainB md ops os.length && lexP md ops (ops.size - os.length) os.length os (Array.replicate ops.size false)
theorem wpAnyG_lexP {n g : Nat} {K : Act → World → Prop} (hsel : Region.noSelect ops = true) (hs : Region.sinkB md ops n = true) (hc : Region.chainB md ops n = true) (hn : n < ops.size) (hQ : ∀ c a w, ¬ Q (.panic c) a w) :
    ∀ (l : List Oper) (os : List (Nat × Bool)) (listed : Array Bool) (a : Act) (w : World), l.map some = os.map (fun x => ops[x.1]?) → HeadInv md ops n listed →
    lexP md ops g n os listed = true → wpHeadG P ops S K l (os.map Prod.snd) a w →
    wpAnyG P md ops Q S n (fun listed' a' w' => Region.seqB md ops g n listed' = true ∧ K a' w') l.length listed a w
  | [], [], listed, a, w, _, _, hB, h => ⟨by simpa [lexP] using hB, h⟩
  | [], _ :: _, listed, a, w, hl, _, _, _ => by simp at hl
  | _ :: _, [], listed, a, w, hl, _, _, _ => by simp at hl
  | o :: l, (k, b) :: os, listed, a, w, hl, inv, hB, h => by
    simp only [List.map_cons, List.cons.injEq] at hl
    have h0 : ops[k]? = some o := hl.1.symm
    simp only [lexP, Bool.and_eq_true, decide_eq_true_eq] at hB
    obtain ⟨⟨hkn, hb⟩, hB'⟩ := hB
    have hnext : ∀ {a' : Act} {w' : World} (hr : k ∈ Region.ready md ops listed), wpHeadG P ops S K l (os.map Prod.snd) a' w' → wpAnyG P md ops Q S n (fun listed' a' w' => Region.seqB md ops g n listed' = true ∧ K a' w') l.length (listed.setIfInBounds k true) a' w' := fun hr h' =>
      wpAnyG_lexP hsel hs hc hn hQ l os _ _ _ hl.2 (inv.set hr hkn) hB' h'
    cases b
    · simp only [cond_false, Bool.and_eq_true] at hb
      have hr : k ∈ Region.ready md ops listed := by simpa using hb.1
      obtain ⟨v, hy, hS, h'⟩ := h
      exact wpAnyG_first h0 (Region.noSelect_spec hsel) hs hc hn hkn hQ (fun listed' a' w' hL => seqB_ready hL.1) l.length listed a w inv (Region.free_spec h0 hb.2) hr hy hS (hnext hr h')
    · have hr : Region.ready md ops listed = [k] := by simpa using hb
      have hr' : k ∈ Region.ready md ops listed := by rw [hr]; simp
      refine ⟨by rw [hr]; simp, fun i hi => ?_⟩
      rw [hr] at hi
      have : i = k := by simpa using hi
      subst this
      refine ⟨hkn, ?_⟩
      unfold wpOp
      simp only [h0]
      simp only [List.map_cons, wpHeadG, wpList] at h
      split
      · rename_i hw
        simp only [hw, if_true] at h
        rcases h with h | ⟨_, x, y, hq, _⟩
        · refine .inl (Oper.wp_mono (fun a' w' hk' => ?_) (wp_weaken (Q1 := fun e a' w' => e = .normal ∧ S w' ∧ wpHeadG P ops S K l (os.map Prod.snd) a' w') (fun c a w hq => by cases hq.1) (fun hq => by obtain ⟨a, w, hq, _⟩ := hq; cases hq) h))
          exact ⟨hk'.2.1, hnext hr' hk'.2.2⟩
        · cases hq
      · rename_i hw
        simp only [hw] at h
        exact ⟨h.2.1, hnext hr' h.2.2⟩
theorem wp_region_own {id : Nat} {a : Act} {w : World} {l lh : List Oper} (os : List (Nat × Bool)) (hm : P.follows .mixedOrders = true) (hB : lexPB .any l.toArray os = true) (hlh : lh.map some = os.map (fun x => l.toArray[x.1]?))
    (h : wpHeadG P l.toArray S (fun a' w' => wpList P l.toArray (fun e a w => (∀ c, e ≠ .panic c) ∧ Q e a w) (l.drop os.length) a' w') lh (os.map Prod.snd) a { w with drawn := w.drawn + 1 }) : (Code.region id l.toArray true).wp P Q a w := by
  refine wp_mono (Q := fun e a w => (∀ c, e ≠ .panic c) ∧ Q e a w) ?_ (fun e a w hq => hq.2)
  simp only [lexPB, Bool.and_eq_true, decide_eq_true_eq] at hB
  obtain ⟨⟨⟨⟨hsel, hn⟩, hs⟩, hc⟩, hlex⟩ := hB
  have htl : lh.length = os.length := by simpa using congrArg List.length hlh
  have hdl : (l.drop os.length).length = l.toArray.size - os.length := by simp
  have inv0 : HeadInv .any l.toArray os.length (Array.replicate l.toArray.size false) :=
    ⟨by simp, fun j oj _ hl => (by rw [getD_replicate_false] at hl; cases hl), fun t _ ht => getD_in (by simpa using ht) (getD_replicate_false _ _)⟩
  have H := wpAnyG_lexP (md := .any) (g := l.toArray.size - os.length) (Q := fun e a w => (∀ c, e ≠ .panic c) ∧ Q e a w) hsel hs hc hn (fun c a w hq => hq.1 c rfl) lh os _ a _ hlh inv0 hlex h
  refine wp_region_any hm ?_
  have := wpAny_of_headG (g := l.toArray.size - os.length) (fun listed a' w' hL => by
    have := wpAny_of_seq (md := .any) (Q' := fun e a w => (∀ c, e ≠ .panic c) ∧ Q e a w) (l.drop os.length) os.length listed a' w' (fun j => by simp [List.getElem?_drop]) (by rw [hdl]; exact hL.1) hL.2
    rwa [hdl] at this) _ _ _ _ H
  have hsz : os.length < l.toArray.size := hn
  rw [htl, show os.length + (l.toArray.size - os.length) = l.toArray.size by omega] at this
  exact this
end

section
variable {T : Tys} {P : Program} {n : Nat} {ops : Array Oper} {Q : Exit → Act → World → Prop} {L L' : Fr} {w w' w0 w1 : World} {rest : List Oper} {ty t t' : TypeId} {imps : List Bool}
  {Sx : Nat → Prop} {H HG : List (Nat × Obj)} {pos : String} {af : Array Edge} {g : Option (Nat × Bool)} {K : Act → World → Prop}
/-! ## in an order of one's own -/
structure HL (P : Program) (n : Nat) (ops : Array Oper) (S : World → Prop) (K : Act → World → Prop) (rest : List Oper) (imps : List Bool) (L : Fr) (w : World) : Prop where
  run : ∀ a, Fits n L a → wpHeadG P ops S K rest imps a w
theorem W_own {id : Nat} {l lh : List Oper} (S : World → Prop) (os : List (Nat × Bool)) (hT : T.Ok P) (hB : lexPB .any l.toArray os = true) (hlh : lh.map some = os.map (fun x => l.toArray[x.1]?)) (hSt : St w0 Sx H w)
    (h : ∀ w1, St w0 Sx H w1 → HL P n l.toArray S (fun a' w' => wpList P l.toArray (fun e a w => (∀ c, e ≠ .panic c) ∧ Q e a w) (l.drop os.length) a' w') lh (os.map Prod.snd) L w1) : W P n (.region id l.toArray true) Q L w :=
  ⟨fun a ha => wp_region_own os hT.mixed hB hlh ((h _ hSt.drew).run a ha)⟩
def pickOps (l : List Oper) (os : List (Nat × Bool)) : List Oper := os.filterMap fun x => l[x.1]?
/-- over the first blocks of the list, which nobody in the region writes -/
theorem W_ownS {id : Nat} {l : List Oper} {Hs Hr : List (Nat × Obj)} (os : List (Nat × Bool)) (hT : T.Ok P) (hB : lexPB .any l.toArray os = true) (hlh : (pickOps l os).map some = os.map (fun x => l.toArray[x.1]?)) (hSt : St w0 Sx (Hs ++ Hr) w)
    (h : ∀ w1, St w0 Sx (Hs ++ Hr) w1 → HL P n l.toArray (fun w' => St w0 Sx Hs w') (fun a' w' => wpList P l.toArray (fun e a w => (∀ c, e ≠ .panic c) ∧ Q e a w) (l.drop os.length) a' w') (pickOps l os) (os.map Prod.snd) L w1) : W P n (.region id l.toArray true) Q L w := W_own _ os hT hB hlh hSt h
section
variable {S : World → Prop}
theorem HL_ev {d : Nat} {op : Op} {v : Value} (hg : wantB ops g L = some true) (hn : Nat.blt d n = true) (hS : S w) (h : ∀ w', S w' → Ev P L op ty w' v w') (k : HL P n ops S K rest imps ((d, v) :: L) w) : HL P n ops S K (⟨some d, op, ty, pos, af, g⟩ :: rest) (false :: imps) L w := by
  refine ⟨fun a ha => ⟨v, .inl ⟨wantB_spec (o := ⟨some d, op, ty, pos, af, g⟩) hg ha, fun w' hw' => (h w' hw').run n a ha _ _ _ _⟩, hS, k.run _ (ha.put hn v)⟩⟩
theorem HL_pass {d : Nat} {op : Op} (hg : wantB ops g L = some false) (hn : Nat.blt d n = true) (hS : S w) (k : HL P n ops S K rest imps ((d, undef) :: L) w) : HL P n ops S K (⟨some d, op, ty, pos, af, g⟩ :: rest) (false :: imps) L w := by
  refine ⟨fun a ha => ⟨undef, .inr ⟨wantB_spec (o := ⟨some d, op, ty, pos, af, g⟩) hg ha, rfl⟩, hS, k.run _ (ha.put hn undef)⟩⟩
theorem HL_sub (hs : Sub L' L) (h : HL P n ops S K rest imps L' w) : HL P n ops S K rest imps L w := ⟨fun a ha => h.run a (ha.sub hs)⟩
def HK (P : Program) (ops : Array Oper) (S : World → Prop) (K : Act → World → Prop) (rest : List Oper) (imps : List Bool) : Exit → Act → World → Prop := fun e a' w' => e = .normal ∧ S w' ∧ wpHeadG P ops S K rest imps a' w'
theorem HL_one {o : Oper} (h : WL P n ops (HK P ops S K rest imps) [o] L w) : HL P n ops S K (o :: rest) (true :: imps) L w := ⟨fun a ha => h.run a ha⟩
theorem At_oneH (hS : S w) (h : HL P n ops S K rest imps L w) : At n (HK P ops S K rest imps) .normal L w := ⟨fun a ha => ⟨rfl, hS, h.run a ha⟩⟩
theorem HL_end {Q' : Exit → Act → World → Prop} {l : List Oper} (h : WL P n ops Q' l L w) : HL P n ops S (fun a' w' => wpList P ops Q' l a' w') [] [] L w := ⟨fun a ha => h.run a ha⟩
end
end
end Go.Proofs.YtmlbgdhkacajaaaDoor
