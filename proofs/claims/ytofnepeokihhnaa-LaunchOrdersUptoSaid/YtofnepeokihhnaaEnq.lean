/- Statements that draw their order, whose first operations only read or make new memory, and whose last ones wait for all before them. No conditions. -/
import Derived.Test.YtofnepeokihhnaaEnp
import Derived.OrdersHeld
namespace Go.Proofs.Ytofnepeokihhnaa
open Go.RowKit
set_option linter.unusedVariables false
set_option linter.unusedSimpArgs false

section
variable {P : Program} {ops : Array Oper} {md : Region.Mode} {S : World → Prop} {Q : Exit → Act → World → Prop}

def wpAnyG (P : Program) (md : Region.Mode) (ops : Array Oper) (Q : Exit → Act → World → Prop) (S : World → Prop) (n : Nat) (LL : Array Bool → Act → World → Prop) : Nat → Array Bool → Act → World → Prop
  | 0, listed, a, w => LL listed a w
  | f + 1, listed, a, w => Region.ready md ops listed ≠ [] ∧ ∀ i ∈ Region.ready md ops listed, i < n ∧ wpOp P ops Q i (fun a' w' => S w' ∧ wpAnyG P md ops Q S n LL f (listed.setIfInBounds i true) a' w') a w

theorem wpAny_of_headG {n g : Nat} {LL : Array Bool → Act → World → Prop} (hL : ∀ listed a w, LL listed a w → wpAny P md ops Q g listed a w) :
    ∀ (f : Nat) (listed : Array Bool) (a : Act) (w : World), wpAnyG P md ops Q S n LL f listed a w → wpAny P md ops Q (f + g) listed a w
  | 0, listed, a, w, h => by rw [Nat.zero_add]; exact hL _ _ _ h
  | f + 1, listed, a, w, h => by
    rw [show f + 1 + g = (f + g) + 1 by omega]
    exact ⟨fun h0 => absurd h0 h.1, fun i hi => wpOp_mono (fun a' w' h' => wpAny_of_headG hL f _ a' w' h'.2) (h.2 i hi).2⟩

theorem wpAnyG_first {n i : Nat} {oi : Oper} {v : Value} {LL : Array Bool → Act → World → Prop} (hi : ops[i]? = some oi) (hsel : ∀ (j : Nat) (o : Oper) cs b, ops[j]? = some o → o.op ≠ .select cs b)
    (hs : Region.sinkB md ops n = true) (hc : Region.chainB md ops n = true) (hn : n < ops.size) (hin : i < n) (hQ : ∀ c a w, ¬ Q (.panic c) a w)
    (hdone : ∀ listed a w, LL listed a w → ∀ j ∈ Region.ready md ops listed, n ≤ j) :
    ∀ (f : Nat) (listed : Array Bool) (a : Act) (w : World), HeadInv md ops n listed →
      (∀ j oj, ops[j]? = some oj → j ≠ i → listed.getD j true = false → (∀ e ∈ oj.after, Region.binds md e = true → e.on ≠ i) → oi.apart ops oj = true) →
      i ∈ Region.ready md ops listed → YieldsIf P ops S oi v a → S w →
      wpAnyG P md ops Q S n LL f (listed.setIfInBounds i true) (a.put oi.dst v) w → wpAnyG P md ops Q S n LL (f + 1) listed a w := by
  intro f
  induction f with
  | zero =>
    intro listed a w inv _ hr hy hS H
    have hun := (mem_ready.1 hr).1
    refine ⟨fun h => (by rw [h] at hr; cases hr), fun j hj => ?_⟩
    have hjn : j < n := by
      rcases Nat.lt_or_ge j n with h | h
      · exact h
      · exact absurd hj (tail_waits hs hc hn inv _ i rfl hin hun j h)
    refine ⟨hjn, ?_⟩
    by_cases hji : j = i
    · subst hji; exact hy.wpOp hi hS ⟨hS, H⟩
    · have := hdone _ _ _ H j (ready_mono hj hji)
      omega
  | succ f ih =>
    intro listed a w inv hfree hr hy hS H
    have hun := (mem_ready.1 hr).1
    refine ⟨fun h => (by rw [h] at hr; cases hr), fun j hj => ?_⟩
    have hjn : j < n := by
      rcases Nat.lt_or_ge j n with h | h
      · exact h
      · exact absurd hj (tail_waits hs hc hn inv _ i rfl hin hun j h)
    refine ⟨hjn, ?_⟩
    by_cases hji : j = i
    · subst hji; exact hy.wpOp hi hS ⟨hS, H⟩
    · have h1 := (H.2 j (ready_mono hj hji)).2
      obtain ⟨hjun, oj, hoj, hall⟩ := mem_ready.1 hj
      have hnot : ∀ e ∈ oj.after, Region.binds md e = true → e.on ≠ i := fun e he hb heq => by
        have h1 := hall e he hb
        rw [heq, getD_both hun] at h1
        cases h1
      have h2 := wpOp_putIf hoj (hfree j oj hoj hji hjun hnot) (fun cs b => hsel i oi cs b hi) (fun cs b => hsel j oj cs b hoj) (fun c a w h => absurd h (hQ _ _ _)) hy h1
      have hfree' : ∀ k ok, ops[k]? = some ok → k ≠ i → (listed.setIfInBounds j true).getD k true = false →
          (∀ e ∈ ok.after, Region.binds md e = true → e.on ≠ i) → oi.apart ops ok = true := fun k ok hk hki hun hno => by
        refine hfree k ok hk hki ?_ hno
        by_cases hjk : j = k
        · subst hjk; exact hjun
        · rw [getD_set_ne true hjk] at hun; exact hun
      refine wpOp_mono (fun a' w' h3 => ⟨h3.2.1, ih (listed.setIfInBounds j true) a' w' (inv.set hj hjn) hfree' (ready_mono hr (Ne.symm hji)) h3.1 h3.2.1 ?_⟩) h2
      rw [Array.setIfInBounds_comm _ _ hji]
      exact h3.2.2

/-- the head's operations: what only reads may be taken at its place in the list; what makes new memory must be the only one that may come up -/
def lexG (md : Region.Mode) (ops : Array Oper) (g : Nat) : List Bool → Nat → Array Bool → Bool
  | [], k, listed => Region.seqB md ops g k listed
  | b :: bs, k, listed => (bif b then decide (Region.ready md ops listed = [k]) else (Region.ready md ops listed).contains k && Region.free md ops listed k) && lexG md ops g bs (k + 1) (listed.setIfInBounds k true)
def lexGB (md : Region.Mode) (ops : Array Oper) (imps : List Bool) : Bool :=
  Region.noSelect ops && decide (imps.length < ops.size) && Region.sinkB md ops imps.length && Region.chainB md ops imps.length && lexG md ops (ops.size - imps.length) imps 0 (Array.replicate ops.size false)

def wpHeadG (P : Program) (ops : Array Oper) (S : World → Prop) (K : Act → World → Prop) : List Oper → List Bool → Act → World → Prop
  | o :: l, true :: m, a, w => wpList P ops (fun e a' w' => e = .normal ∧ S w' ∧ wpHeadG P ops S K l m a' w') [o] a w
  | o :: l, false :: m, a, w => ∃ v, YieldsIf P ops S o v a ∧ S w ∧ wpHeadG P ops S K l m (a.put o.dst v) w
  | _, _, a, w => K a w

theorem wp_weaken {o : Oper} {a : Act} {w : World} {K : Act → World → Prop} {Q1 Q2 : Exit → Act → World → Prop} (h1 : ∀ c a w, ¬ Q1 (.panic c) a w) (h2 : ¬ LetsOut Q1) (h : o.wp P a w K Q1) : o.wp P a w K Q2 := by
  unfold Oper.wp at *
  generalize (execOp a.eval o).run P w = r at *
  cases r with
  | ok n w' =>
    cases n <;> simp only [Oper.upon] at h ⊢ <;>
      first
        | exact h
        | exact Calls.mono h (fun e w'' he => by cases e <;> first | exact he | exact absurd he (h1 _ _ _) | exact absurd he h2)
  | halt x w' => cases x <;> simp only [Oper.upon] at h ⊢ <;> exact absurd h (h1 _ _ _)

theorem wpAnyG_lex {n g : Nat} {K : Act → World → Prop} (hsel : Region.noSelect ops = true) (hs : Region.sinkB md ops n = true) (hc : Region.chainB md ops n = true) (hn : n < ops.size) (hQ : ∀ c a w, ¬ Q (.panic c) a w) :
    ∀ (l : List Oper) (imps : List Bool) (k : Nat) (listed : Array Bool) (a : Act) (w : World), l.length = imps.length → (∀ j, j < l.length → l[j]? = ops[k + j]?) → k + l.length = n → HeadInv md ops n listed →
    lexG md ops g imps k listed = true → wpHeadG P ops S K l imps a w →
    wpAnyG P md ops Q S n (fun listed' a' w' => Region.seqB md ops g n listed' = true ∧ K a' w') l.length listed a w
  | [], [], k, listed, a, w, _, _, hk, _, hB, h => by
    have : k = n := by simpa using hk
    subst this
    exact ⟨by simpa [lexG] using hB, h⟩
  | [], _ :: _, k, listed, a, w, hl, _, _, _, _, _ => by simp at hl
  | _ :: _, [], k, listed, a, w, hl, _, _, _, _, _ => by simp at hl
  | o :: l, b :: imps, k, listed, a, w, hlen, hl, hk, inv, hB, h => by
    have h0 : ops[k]? = some o := by simpa using (hl 0 (by simp)).symm
    simp only [lexG, Bool.and_eq_true] at hB
    obtain ⟨hb, hB'⟩ := hB
    have hkn : k < n := by simp only [List.length_cons] at hk; omega
    have hnext : ∀ {a' : Act} {w' : World} (hr : k ∈ Region.ready md ops listed), wpHeadG P ops S K l imps a' w' → wpAnyG P md ops Q S n (fun listed' a' w' => Region.seqB md ops g n listed' = true ∧ K a' w') l.length (listed.setIfInBounds k true) a' w' := fun hr h' =>
      wpAnyG_lex hsel hs hc hn hQ l imps (k + 1) _ _ _ (by simpa using hlen) (fun j hj => by have := hl (j + 1) (by simp; omega); simpa [Nat.add_assoc, Nat.add_comm 1 j] using this) (by simp only [List.length_cons] at hk; omega) (inv.set hr hkn) hB' h'
    cases b
    · simp only [cond_false, Bool.and_eq_true] at hb
      have hr : k ∈ Region.ready md ops listed := by simpa using hb.1
      obtain ⟨v, hy, hS, h'⟩ := h
      exact wpAnyG_first h0 (Region.noSelect_spec hsel) hs hc hn hkn hQ (fun listed' a' w' hL => seqB_ready hL.1) l.length listed a w inv (Region.free_spec h0 hb.2) hr hy hS (hnext hr h')
    · have hr : Region.ready md ops listed = [k] := by simpa using hb
      have hr' : k ∈ Region.ready md ops listed := by rw [hr]; simp
      refine ⟨by rw [hr]; simp, fun i hi => ?_⟩
      rw [hr] at hi
      have : i = k := by simpa using hi
      subst this
      refine ⟨hkn, ?_⟩
      unfold wpOp
      simp only [h0]
      simp only [wpHeadG, wpList] at h
      split
      · rename_i hw
        simp only [hw, if_true] at h
        rcases h with h | ⟨_, x, y, hq, _⟩
        · refine .inl (Oper.wp_mono (fun a' w' hk' => ?_) (wp_weaken (Q1 := fun e a' w' => e = .normal ∧ S w' ∧ wpHeadG P ops S K l imps a' w') (fun c a w hq => by cases hq.1) (fun hq => by obtain ⟨a, w, hq, _⟩ := hq; cases hq) h))
          exact ⟨hk'.2.1, hnext hr' hk'.2.2⟩
        · cases hq
      · rename_i hw
        simp only [hw] at h
        exact ⟨h.2.1, hnext hr' h.2.2⟩

theorem wp_region_growG {id : Nat} {a : Act} {w : World} {l : List Oper} (imps : List Bool) (hm : P.follows .mixedOrders = true) (hB : lexGB .any l.toArray imps = true)
    (h : wpHeadG P l.toArray S (fun a' w' => wpList P l.toArray (fun e a w => (∀ c, e ≠ .panic c) ∧ Q e a w) (l.drop imps.length) a' w') (l.take imps.length) imps a { w with drawn := w.drawn + 1 }) : (Code.region id l.toArray true).wp P Q a w := by
  refine wp_mono (Q := fun e a w => (∀ c, e ≠ .panic c) ∧ Q e a w) ?_ (fun e a w hq => hq.2)
  simp only [lexGB, Bool.and_eq_true, decide_eq_true_eq] at hB
  obtain ⟨⟨⟨⟨hsel, hn⟩, hs⟩, hc⟩, hlex⟩ := hB
  have hn' : imps.length < l.length := by simpa using hn
  have htl : (l.take imps.length).length = imps.length := by simp; omega
  have hdl : (l.drop imps.length).length = l.toArray.size - imps.length := by simp
  have inv0 : HeadInv .any l.toArray imps.length (Array.replicate l.toArray.size false) :=
    ⟨by simp, fun j oj _ hl => (by rw [getD_replicate_false] at hl; cases hl), fun t _ ht => getD_in (by simpa using ht) (getD_replicate_false _ _)⟩
  have H := wpAnyG_lex (md := .any) (g := l.toArray.size - imps.length) (Q := fun e a w => (∀ c, e ≠ .panic c) ∧ Q e a w) hsel hs hc hn (fun c a w hq => hq.1 c rfl) (l.take imps.length) imps 0 _ a _ htl (fun j hj => by
    have hj' : j < imps.length := by rw [htl] at hj; exact hj
    simp [hj']) (by simpa using htl) inv0 hlex h
  refine wp_region_any hm ?_
  have := wpAny_of_headG (g := l.toArray.size - imps.length) (fun listed a' w' hL => by
    have := wpAny_of_seq (md := .any) (Q' := fun e a w => (∀ c, e ≠ .panic c) ∧ Q e a w) (l.drop imps.length) imps.length listed a' w' (fun j => by simp [List.getElem?_drop]) (by rw [hdl]; exact hL.1) hL.2
    rwa [hdl] at this) _ _ _ _ H
  rw [htl, show imps.length + (l.toArray.size - imps.length) = l.toArray.size by omega] at this
  exact this
end

/-! ## as goals -/
section
variable {T : Tys} {P : Program} {n : Nat} {ops : Array Oper} {Q : Exit → Act → World → Prop} {L L' : Fr} {w w' w0 w1 : World} {rest : List Oper} {ty t t' : TypeId} {imps : List Bool}
  {Sx : Nat → Prop} {H HG : List (Nat × Obj)} {pos : String} {af : Array Edge} {g : Option (Nat × Bool)} {K : Act → World → Prop}
structure GL (P : Program) (n : Nat) (ops : Array Oper) (wb : World) (K : Act → World → Prop) (rest : List Oper) (imps : List Bool) (L : Fr) (w : World) : Prop where
  run : ∀ a, Fits n L a → wpHeadG P ops (fun w' => St wb NoneS [] w') K rest imps a w
theorem W_grow {id : Nat} {l : List Oper} (imps : List Bool) (hT : T.Ok P) (hB : lexGB .any l.toArray imps = true) (hSt : St w0 Sx H w)
    (h : ∀ w1, St w0 Sx H w1 → St w1 NoneS [] w1 → GL P n l.toArray w1 (fun a' w' => wpList P l.toArray (fun e a w => (∀ c, e ≠ .panic c) ∧ Q e a w) (l.drop imps.length) a' w') (l.take imps.length) imps L w1) : W P n (.region id l.toArray true) Q L w :=
  ⟨fun a ha => wp_region_growG imps hT.mixed hB ((h _ hSt.drew (St.refl _ _)).run a ha)⟩
theorem GL_ev {wb : World} {d : Nat} {op : Op} {v : Value} (hg : wantB ops g L = some true) (hn : Nat.blt d n = true) (hG : St wb NoneS HG w) (h : ∀ w', St wb NoneS [] w' → Ev P L op ty w' v w') (k : GL P n ops wb K rest imps ((d, v) :: L) w) : GL P n ops wb K (⟨some d, op, ty, pos, af, g⟩ :: rest) (false :: imps) L w := by
  refine ⟨fun a ha => ⟨v, .inl ⟨wantB_spec (o := ⟨some d, op, ty, pos, af, g⟩) hg ha, fun w' hw' => (h w' hw').run n a ha _ _ _ _⟩, hG.nil, k.run _ (ha.put hn v)⟩⟩
theorem GL_pass {wb : World} {d : Nat} {op : Op} (hg : wantB ops g L = some false) (hn : Nat.blt d n = true) (hG : St wb NoneS HG w) (k : GL P n ops wb K rest imps ((d, undef) :: L) w) : GL P n ops wb K (⟨some d, op, ty, pos, af, g⟩ :: rest) (false :: imps) L w := by
  refine ⟨fun a ha => ⟨undef, .inr ⟨wantB_spec (o := ⟨some d, op, ty, pos, af, g⟩) hg ha, rfl⟩, hG.nil, k.run _ (ha.put hn undef)⟩⟩
theorem GL_sub {wb : World} (hs : Sub L' L) (h : GL P n ops wb K rest imps L' w) : GL P n ops wb K rest imps L w := ⟨fun a ha => h.run a (ha.sub hs)⟩
theorem GL_case {wb : World} {j : Nat} {b : Bool} (h : look L j = some (.bool b)) (ht : b = true → GL P n ops wb K rest imps ((j, .bool true) :: L) w) (hf : b = false → GL P n ops wb K rest imps ((j, .bool false) :: L) w) : GL P n ops wb K rest imps L w := by
  cases b
  · exact GL_sub (Sub.cons h (Sub.refl _)) (hf rfl)
  · exact GL_sub (Sub.cons h (Sub.refl _)) (ht rfl)
theorem GL_guard {wb : World} {dst : Option Tmp} {op : Op} {j d : Nat} {b x : Bool} (hd : (ops[j]?).bind (·.dst) = some d) (hl : look L d = some (.bool x)) (ht : x = true → GL P n ops wb K (⟨dst, op, ty, pos, af, some (j, b)⟩ :: rest) imps ((d, .bool true) :: L) w)
    (hf : x = false → GL P n ops wb K (⟨dst, op, ty, pos, af, some (j, b)⟩ :: rest) imps ((d, .bool false) :: L) w) : GL P n ops wb K (⟨dst, op, ty, pos, af, some (j, b)⟩ :: rest) imps L w := GL_case hl ht hf
theorem GL_guardP {wb : World} {dst : Option Tmp} {op : Op} {j d : Nat} {b : Bool} {p : Prop} {d0 : Decidable p} (hd : (ops[j]?).bind (·.dst) = some d) (hl : look L d = some (.bool (decide p))) (ht : p → GL P n ops wb K (⟨dst, op, ty, pos, af, some (j, b)⟩ :: rest) imps ((d, .bool true) :: L) w)
    (hf : ¬ p → GL P n ops wb K (⟨dst, op, ty, pos, af, some (j, b)⟩ :: rest) imps ((d, .bool false) :: L) w) : GL P n ops wb K (⟨dst, op, ty, pos, af, some (j, b)⟩ :: rest) imps L w := GL_case hl (fun e => ht (of_decide_eq_true e)) (fun e => hf (of_decide_eq_false e))
/-- an operation that makes new memory: by the rules of a list of one -/
def GK (P : Program) (ops : Array Oper) (wb : World) (K : Act → World → Prop) (rest : List Oper) (imps : List Bool) : Exit → Act → World → Prop := fun e a' w' => e = .normal ∧ St wb NoneS [] w' ∧ wpHeadG P ops (fun w' => St wb NoneS [] w') K rest imps a' w'
theorem GL_one {wb : World} {o : Oper} (h : WL P n ops (GK P ops wb K rest imps) [o] L w) : GL P n ops wb K (o :: rest) (true :: imps) L w := ⟨fun a ha => h.run a ha⟩
theorem At_one {wb : World} (hG : St wb NoneS HG w) (h : GL P n ops wb K rest imps L w) : At n (GK P ops wb K rest imps) .normal L w := ⟨fun a ha => ⟨rfl, hG.nil, h.run a ha⟩⟩
theorem GL_end {wb : World} {Q' : Exit → Act → World → Prop} {l : List Oper} (h : WL P n ops Q' l L w) : GL P n ops wb (fun a' w' => wpList P ops Q' l a' w') [] [] L w := ⟨fun a ha => h.run a ha⟩
theorem At_calm {L0 : Fr} (h : At n Q .normal L0 w) : At n (fun e a w => (∀ c, e ≠ .panic c) ∧ Q e a w) .normal L0 w := ⟨fun a ha => ⟨fun c h => (by cases h), h.run a ha⟩⟩
end
end Go.Proofs.Ytofnepeokihhnaa
