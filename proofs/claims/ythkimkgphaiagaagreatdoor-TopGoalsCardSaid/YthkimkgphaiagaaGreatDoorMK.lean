/- Statements that draw their order and hold calls that change nothing, beside reads and new memory, and whose last operations wait for all before them. No conditions. -/
import Derived.Test.YthkimkgphaiagaaGreatDoorMC
import Derived.Deep.Quiet
import Derived.Test.YthkimkgphaiagaaGreatDoorMJ
import Derived.Test.YthkimkgphaiagaaGreatDoorShelf
import Derived.Lib.AtoiBound

namespace Go.Proofs.YthkimkgphaiagaaGreatDoor
open Go.RowKit
set_option linter.unusedVariables false
set_option linter.unusedSimpArgs false
set_option linter.unusedSectionVars false

section
variable {P : Program} {ops : Array Oper} {md : Region.Mode} {S : World → Prop} {Q : Exit → Act → World → Prop}

def preB (md : Region.Mode) (ops : Array Oper) (i : Nat) : Nat → Nat → Bool
  | 0, _ => false
  | f + 1, j => match ops[j]? with
    | some o => o.after.any fun e => Region.binds md e && (e.on == i || preB md ops i f e.on)
    | none => false
theorem preB_listed {i n : Nat} {listed : Array Bool} (inv : HeadInv md ops n listed) : ∀ (f j : Nat), listed.getD j false = true → preB md ops i f j = true → listed.getD i false = true
  | 0, _, _, h => by simp [preB] at h
  | f + 1, j, hl, h => by
    simp only [preB] at h
    split at h
    · rename_i o ho
      obtain ⟨e, he, hb⟩ := Array.any_eq_true'.1 h
      simp only [Bool.and_eq_true, Bool.or_eq_true, beq_iff_eq] at hb
      have hle := inv.closed j o ho hl e he hb.1
      rcases hb.2 with h2 | h2
      · exact h2 ▸ hle
      · exact preB_listed inv f e.on hle h2
    · cases h
theorem preB_ready {i n f j : Nat} {listed : Array Bool} (inv : HeadInv md ops n listed) (hr : j ∈ Region.ready md ops listed) (h : preB md ops i f j = true) : listed.getD i false = true := by
  obtain ⟨_, o, ho, hall⟩ := mem_ready.1 hr
  cases f with
  | zero => simp [preB] at h
  | succ f =>
    simp only [preB, ho] at h
    obtain ⟨e, he, hb⟩ := Array.any_eq_true'.1 h
    simp only [Bool.and_eq_true, Bool.or_eq_true, beq_iff_eq] at hb
    have hle := hall e he hb.1
    rcases hb.2 with h2 | h2
    · exact h2 ▸ hle
    · exact preB_listed inv f e.on hle h2

theorem YieldsIf.same {o : Oper} {v v' : Value} {a : Act} {w : World} (h : YieldsIf P ops S o v a) (h' : YieldsIf P ops S o v' a) (hS : S w) : v = v' := by
  rcases h with ⟨h1, h2⟩ | ⟨h1, h2⟩ <;> rcases h' with ⟨h3, h4⟩ | ⟨h3, h4⟩
  · have := (h2 w hS).symm.trans (h4 w hS)
    injection this with e _
    injection e
  · rw [h1] at h3; cases h3
  · rw [h1] at h3; cases h3
  · rw [h2, h4]
theorem YieldsIn.wpOp {i : Nat} {o : Oper} {v : Value} {a : Act} (hi : ops[i]? = some o) (hy : YieldsIn P ops S o v a) {K : Act → World → Prop} {w : World} (hS : S w) (h : ∀ w', S w' → K (a.put o.dst v) w') : wpOp P ops Q i K a w :=
  wpOp_of_qOp (C := S) (K := fun a' => ∀ w', S w' → K a' w') hS (fun a w' hw' h => h w' hw') (hy.qOp hi h)

/-- one operation, by its kind: new memory or a write (some true), a read (some false), a call that changes nothing (none) -/
def stepH (P : Program) (ops : Array Oper) (S : World → Prop) (Q : Exit → Act → World → Prop) (b : Option Bool) (i : Nat) (K : Act → World → Prop) (a : Act) (w : World) : Prop :=
  match b with
  | some true => wpOp P ops Q i K a w
  | some false => ∃ o v, ops[i]? = some o ∧ YieldsIf P ops S o v a ∧ S w ∧ K (a.put o.dst v) w
  | none => ∃ o v, ops[i]? = some o ∧ YieldsIn P ops S o v a ∧ S w ∧ ∀ w', S w' → K (a.put o.dst v) w'
theorem stepH.wpOp {b : Option Bool} {i : Nat} {K : Act → World → Prop} {a : Act} {w : World} (h : stepH P ops S Q b i K a w) : wpOp P ops Q i K a w := by
  match b, h with
  | some true, h => exact h
  | some false, ⟨o, v, ho, hy, hS, hK⟩ => exact hy.wpOp ho hS hK
  | none, ⟨o, v, ho, hy, hS, hK⟩ => exact YieldsIn.wpOp ho hy hS hK

def wpAnyH (P : Program) (md : Region.Mode) (ops : Array Oper) (Q : Exit → Act → World → Prop) (S : World → Prop) (kd : Nat → Option Bool) (n : Nat) (LL : Array Bool → Act → World → Prop) : Nat → Array Bool → Act → World → Prop
  | 0, listed, a, w => LL listed a w
  | f + 1, listed, a, w => Region.ready md ops listed ≠ [] ∧ ∀ i ∈ Region.ready md ops listed, i < n ∧ stepH P ops S Q (kd i) i (fun a' w' => S w' ∧ wpAnyH P md ops Q S kd n LL f (listed.setIfInBounds i true) a' w') a w

theorem wpAny_of_headH {kd : Nat → Option Bool} {n g : Nat} {LL : Array Bool → Act → World → Prop} (hL : ∀ listed a w, LL listed a w → wpAny P md ops Q g listed a w) :
    ∀ (f : Nat) (listed : Array Bool) (a : Act) (w : World), wpAnyH P md ops Q S kd n LL f listed a w → wpAny P md ops Q (f + g) listed a w
  | 0, listed, a, w, h => by rw [Nat.zero_add]; exact hL _ _ _ h
  | f + 1, listed, a, w, h => by
    rw [show f + 1 + g = (f + g) + 1 by omega]
    exact ⟨fun h0 => absurd h0 h.1, fun i hi => wpOp_mono (fun a' w' h' => wpAny_of_headH hL f _ a' w' h'.2) (h.2 i hi).2.wpOp⟩

section
variable {kd : Nat → Option Bool} {n i : Nat} {oi : Oper} {v : Value} {LL : Array Bool → Act → World → Prop} (hi : ops[i]? = some oi) (hsel : ∀ (j : Nat) (o : Oper) cs b, ops[j]? = some o → o.op ≠ .select cs b)
    (hs : Region.sinkB md ops n = true) (hc : Region.chainB md ops n = true) (hn : n < ops.size) (hin : i < n) (hQ : ∀ c a w, ¬ Q (.panic c) a w)
    (hdone : ∀ listed a w, LL listed a w → ∀ j ∈ Region.ready md ops listed, n ≤ j)
include hi hsel hs hc hn hin hQ hdone
theorem wpAnyH_pure (hki : kd i = some false) :
    ∀ (f : Nat) (listed : Array Bool) (a : Act) (w : World), HeadInv md ops n listed →
      (∀ j oj, ops[j]? = some oj → j ≠ i → listed.getD j true = false → (∀ e ∈ oj.after, Region.binds md e = true → e.on ≠ i) → oi.apart ops oj = true) →
      i ∈ Region.ready md ops listed → YieldsIf P ops S oi v a → S w →
      wpAnyH P md ops Q S kd n LL f (listed.setIfInBounds i true) (a.put oi.dst v) w → wpAnyH P md ops Q S kd n LL (f + 1) listed a w := by
  intro f
  induction f with
  | zero =>
    intro listed a w inv _ hr hy hS H
    have hun := (mem_ready.1 hr).1
    refine ⟨fun h => (by rw [h] at hr; cases hr), fun j hj => ?_⟩
    have hjn : j < n := by
      rcases Nat.lt_or_ge j n with h | h
      · exact h
      · exact absurd hj (tail_waits hs hc hn inv _ i rfl hin hun j h)
    refine ⟨hjn, ?_⟩
    by_cases hji : j = i
    · subst hji; rw [hki]; exact ⟨oi, v, hi, hy, hS, hS, H⟩
    · have := hdone _ _ _ H j (ready_mono hj hji)
      omega
  | succ f ih =>
    intro listed a w inv hfree hr hy hS H
    have hun := (mem_ready.1 hr).1
    refine ⟨fun h => (by rw [h] at hr; cases hr), fun j hj => ?_⟩
    have hjn : j < n := by
      rcases Nat.lt_or_ge j n with h | h
      · exact h
      · exact absurd hj (tail_waits hs hc hn inv _ i rfl hin hun j h)
    refine ⟨hjn, ?_⟩
    by_cases hji : j = i
    · subst hji; rw [hki]; exact ⟨oi, v, hi, hy, hS, hS, H⟩
    · have h1 := (H.2 j (ready_mono hj hji)).2
      obtain ⟨hjun, oj, hoj, hall⟩ := mem_ready.1 hj
      have hnot : ∀ e ∈ oj.after, Region.binds md e = true → e.on ≠ i := fun e he hb heq => by
        have h1 := hall e he hb
        rw [heq, getD_both hun] at h1
        cases h1
      have hap := hfree j oj hoj hji hjun hnot
      obtain ⟨p1, p2, p3⟩ := Oper.apart_spec hap
      have hfree' : ∀ k ok, ops[k]? = some ok → k ≠ i → (listed.setIfInBounds j true).getD k true = false →
          (∀ e ∈ ok.after, Region.binds md e = true → e.on ≠ i) → oi.apart ops ok = true := fun k ok hk hki hun hno => by
        refine hfree k ok hk hki ?_ hno
        by_cases hjk : j = k
        · subst hjk; exact hjun
        · rw [getD_set_ne true hjk] at hun; exact hun
      have keep : ∀ u, YieldsIf P ops S oi v (a.put oj.dst u) := fun u => hy.of_same (execOp_put oi (fun cs b => hsel i oi cs b hi) a oj.dst u p3) (wanted_put oi a oj.dst u p3)
      have next : ∀ (u : Value) (w' : World), S w' → wpAnyH P md ops Q S kd n LL f ((listed.setIfInBounds i true).setIfInBounds j true) ((a.put oi.dst v).put oj.dst u) w' →
          wpAnyH P md ops Q S kd n LL (f + 1) (listed.setIfInBounds j true) (a.put oj.dst u) w' := fun u w' hw' h => by
        refine ih (listed.setIfInBounds j true) _ w' (inv.set hj hjn) hfree' (ready_mono hr (Ne.symm hji)) (keep u) hw' ?_
        rw [Array.setIfInBounds_comm _ _ hji, ← Act.put_comm a v u p2]
        exact h
      unfold stepH at h1 ⊢
      split
      · rename_i hk
        simp only [hk] at h1
        have h2 := wpOp_putIf hoj hap (fun cs b => hsel i oi cs b hi) (fun cs b => hsel j oj cs b hoj) (fun c a w h => absurd h (hQ _ _ _)) hy h1
        refine wpOp_mono (fun a' w' h3 => ⟨h3.2.1, ih (listed.setIfInBounds j true) a' w' (inv.set hj hjn) hfree' (ready_mono hr (Ne.symm hji)) h3.1 h3.2.1 ?_⟩) h2
        rw [Array.setIfInBounds_comm _ _ hji]
        exact h3.2.2
      · rename_i hk
        simp only [hk] at h1
        obtain ⟨o, u, ho, hy2, hS2, hS3, hK⟩ := h1
        have e : o = oj := Option.some.inj (ho.symm.trans hoj)
        subst e
        exact ⟨o, u, ho, hy2.of_same (execOp_put o (fun cs b => hsel j o cs b hoj) a oi.dst v p1).symm (wanted_put o a oi.dst v p1).symm, hS, hS, next u w hS hK⟩
      · rename_i hk
        simp only [hk] at h1
        obtain ⟨o, u, ho, hy2, hS2, hK⟩ := h1
        have e : o = oj := Option.some.inj (ho.symm.trans hoj)
        subst e
        exact ⟨o, u, ho, hy2.of_same (execOp_put o (fun cs b => hsel j o cs b hoj) a oi.dst v p1).symm (wanted_put o a oi.dst v p1).symm, hS, fun w' hw' => ⟨hw', next u w' hw' (hK w' hw').2⟩⟩

theorem wpAnyH_call {F : Nat} (hki : kd i = none) (hpre : ∀ j, j < n → kd j = some true → preB md ops i F j = true) :
    ∀ (f : Nat) (listed : Array Bool) (a : Act) (w : World), HeadInv md ops n listed →
      (∀ j oj, ops[j]? = some oj → j ≠ i → listed.getD j true = false → (∀ e ∈ oj.after, Region.binds md e = true → e.on ≠ i) → oi.apart ops oj = true) →
      i ∈ Region.ready md ops listed → YieldsIn P ops S oi v a → S w →
      (∀ w', S w' → wpAnyH P md ops Q S kd n LL f (listed.setIfInBounds i true) (a.put oi.dst v) w') → wpAnyH P md ops Q S kd n LL (f + 1) listed a w := by
  intro f
  induction f with
  | zero =>
    intro listed a w inv _ hr hy hS H
    have hun := (mem_ready.1 hr).1
    refine ⟨fun h => (by rw [h] at hr; cases hr), fun j hj => ?_⟩
    have hjn : j < n := by
      rcases Nat.lt_or_ge j n with h | h
      · exact h
      · exact absurd hj (tail_waits hs hc hn inv _ i rfl hin hun j h)
    refine ⟨hjn, ?_⟩
    by_cases hji : j = i
    · subst hji; rw [hki]; exact ⟨oi, v, hi, hy, hS, fun w' hw' => ⟨hw', H w' hw'⟩⟩
    · have := hdone _ _ _ (H w hS) j (ready_mono hj hji)
      omega
  | succ f ih =>
    intro listed a w inv hfree hr hy hS H
    have hun := (mem_ready.1 hr).1
    refine ⟨fun h => (by rw [h] at hr; cases hr), fun j hj => ?_⟩
    have hjn : j < n := by
      rcases Nat.lt_or_ge j n with h | h
      · exact h
      · exact absurd hj (tail_waits hs hc hn inv _ i rfl hin hun j h)
    refine ⟨hjn, ?_⟩
    by_cases hji : j = i
    · subst hji; rw [hki]; exact ⟨oi, v, hi, hy, hS, fun w' hw' => ⟨hw', H w' hw'⟩⟩
    · have h1 := fun w' hw' => ((H w' hw').2 j (ready_mono hj hji)).2
      obtain ⟨hjun, oj, hoj, hall⟩ := mem_ready.1 hj
      have hnot : ∀ e ∈ oj.after, Region.binds md e = true → e.on ≠ i := fun e he hb heq => by
        have h1 := hall e he hb
        rw [heq, getD_both hun] at h1
        cases h1
      have hap := hfree j oj hoj hji hjun hnot
      obtain ⟨p1, p2, p3⟩ := Oper.apart_spec hap
      have hfree' : ∀ k ok, ops[k]? = some ok → k ≠ i → (listed.setIfInBounds j true).getD k true = false →
          (∀ e ∈ ok.after, Region.binds md e = true → e.on ≠ i) → oi.apart ops ok = true := fun k ok hk hki hun hno => by
        refine hfree k ok hk hki ?_ hno
        by_cases hjk : j = k
        · subst hjk; exact hjun
        · rw [getD_set_ne true hjk] at hun; exact hun
      have keep : ∀ u, YieldsIn P ops S oi v (a.put oj.dst u) := fun u => hy.of_same (execOp_put oi (fun cs b => hsel i oi cs b hi) a oj.dst u p3) (wanted_put oi a oj.dst u p3)
      have next : ∀ (u : Value) (w' : World), S w' → (∀ w'', S w'' → wpAnyH P md ops Q S kd n LL f ((listed.setIfInBounds i true).setIfInBounds j true) ((a.put oi.dst v).put oj.dst u) w'') →
          wpAnyH P md ops Q S kd n LL (f + 1) (listed.setIfInBounds j true) (a.put oj.dst u) w' := fun u w' hw' h => by
        refine ih (listed.setIfInBounds j true) _ w' (inv.set hj hjn) hfree' (ready_mono hr (Ne.symm hji)) (keep u) hw' (fun w'' hw'' => ?_)
        rw [Array.setIfInBounds_comm _ _ hji, ← Act.put_comm a v u p2]
        exact h w'' hw''
      unfold stepH at h1 ⊢
      split
      · rename_i hk
        have := preB_ready inv hj (hpre j hjn hk)
        rw [getD_both hun] at this
        cases this
      · rename_i hk
        simp only [hk] at h1
        obtain ⟨o, u, ho, hy2, hS2, hS3, hK⟩ := h1 w hS
        have e : o = oj := Option.some.inj (ho.symm.trans hoj)
        subst e
        refine ⟨o, u, ho, hy2.of_same (execOp_put o (fun cs b => hsel j o cs b hoj) a oi.dst v p1).symm (wanted_put o a oi.dst v p1).symm, hS, hS, next u w hS (fun w'' hw'' => ?_)⟩
        obtain ⟨o', u', ho', hy', _, _, hK'⟩ := h1 w'' hw''
        have e : o' = o := Option.some.inj (ho'.symm.trans hoj)
        subst e
        rw [YieldsIf.same hy2 hy' hS]
        exact hK'
      · rename_i hk
        simp only [hk] at h1
        obtain ⟨o, u, ho, hy2, hS2, hK⟩ := h1 w hS
        have e : o = oj := Option.some.inj (ho.symm.trans hoj)
        subst e
        exact ⟨o, u, ho, hy2.of_same (execOp_put o (fun cs b => hsel j o cs b hoj) a oi.dst v p1).symm (wanted_put o a oi.dst v p1).symm, hS, fun w' hw' => ⟨hw', next u w' hw' (fun w'' hw'' => (hK w'' hw'').2)⟩⟩
end

/-- an order of one's own: one operation after the other, by kind; or two that make memory, either of which may come first -/
inductive OTree where
  | done
  | op (k : Nat) (b : Option Bool) (t : OTree)
  | fork (k1 : Nat) (t1 : OTree) (k2 : Nat) (t2 : OTree)
def OTree.depth : OTree → Nat
  | .done => 0
  | .op _ _ t => t.depth + 1
  | .fork _ t1 _ _ => t1.depth + 1
def OTree.kds : OTree → List (Nat × Option Bool)
  | .done => []
  | .op k b t => (k, b) :: t.kds
  | .fork k1 t1 _ _ => (k1, some true) :: t1.kds
def kdOf (os : List (Nat × Option Bool)) (i : Nat) : Option Bool := match os.find? (fun x => x.1 == i) with
  | some x => x.2
  | none => some true
def lexT (md : Region.Mode) (ops : Array Oper) (ks : List (Nat × Option Bool)) (g n : Nat) : OTree → Array Bool → Bool
  | .done, listed => Region.seqB md ops g n listed
  | .op k b t, listed => decide (k < n) && decide (kdOf ks k = b) && (match b with
      | some true => decide (Region.ready md ops listed = [k])
      | some false => (Region.ready md ops listed).contains k && Region.free md ops listed k
      | none => (Region.ready md ops listed).contains k && Region.free md ops listed k && (List.range n).all fun j => !decide (kdOf ks j = some true) || preB md ops k n j)
    && lexT md ops ks g n t (listed.setIfInBounds k true)
  | .fork k1 t1 k2 t2, listed => decide (k1 < n) && decide (k2 < n) && decide (kdOf ks k1 = some true) && decide (kdOf ks k2 = some true) && decide (Region.ready md ops listed = [k1, k2]) && decide (t1.depth = t2.depth)
    && lexT md ops ks g n t1 (listed.setIfInBounds k1 true) && lexT md ops ks g n t2 (listed.setIfInBounds k2 true)
def lexTB (md : Region.Mode) (ops : Array Oper) (t : OTree) : Bool :=
  Region.noSelect ops && decide (t.depth < ops.size) && Region.sinkB md ops t.depth && Region.chainB md ops t.depth && lexT md ops t.kds (ops.size - t.depth) t.depth t (Array.replicate ops.size false)

def impT (P : Program) (ops : Array Oper) (S : World → Prop) (k : Nat) (N : Act → World → Prop) (a : Act) (w : World) : Prop := ∃ o, ops[k]? = some o ∧ wpList P ops (fun e a' w' => e = .normal ∧ S w' ∧ N a' w') [o] a w
def wpTree (P : Program) (ops : Array Oper) (S : World → Prop) (K : Act → World → Prop) : OTree → Act → World → Prop
  | .done, a, w => K a w
  | .op k (some true) t, a, w => impT P ops S k (wpTree P ops S K t) a w
  | .op k (some false) t, a, w => ∃ o v, ops[k]? = some o ∧ YieldsIf P ops S o v a ∧ S w ∧ wpTree P ops S K t (a.put o.dst v) w
  | .op k none t, a, w => ∃ o v, ops[k]? = some o ∧ YieldsIn P ops S o v a ∧ S w ∧ ∀ w', S w' → wpTree P ops S K t (a.put o.dst v) w'
  | .fork k1 t1 k2 t2, a, w => impT P ops S k1 (wpTree P ops S K t1) a w ∧ impT P ops S k2 (wpTree P ops S K t2) a w

theorem impT.wpOp {k : Nat} {N N' : Act → World → Prop} {a : Act} {w : World} (h : impT P ops S k N a w) (hN : ∀ a w, N a w → N' a w) : wpOp P ops Q k (fun a' w' => S w' ∧ N' a' w') a w := by
  obtain ⟨o, h0, h⟩ := h
  unfold Go.wpOp
  simp only [h0]
  simp only [wpList] at h
  split
  · rename_i hw
    simp only [hw, if_true] at h
    rcases h with h | ⟨_, x, y, hq, _⟩
    · refine .inl (Oper.wp_mono (fun a' w' hk' => ?_) (wp_weaken (Q1 := fun e a' w' => e = .normal ∧ S w' ∧ N a' w') (fun c a w hq => by cases hq.1) (fun hq => by obtain ⟨a, w, hq, _⟩ := hq; cases hq) h))
      exact ⟨hk'.2.1, hN _ _ hk'.2.2⟩
    · cases hq
  · rename_i hw
    simp only [hw] at h
    exact ⟨h.2.1, hN _ _ h.2.2⟩

theorem wpAnyH_lexT {ks : List (Nat × Option Bool)} {n g : Nat} {K : Act → World → Prop} (hsel : Region.noSelect ops = true) (hs : Region.sinkB md ops n = true) (hc : Region.chainB md ops n = true) (hn : n < ops.size) (hQ : ∀ c a w, ¬ Q (.panic c) a w) :
    ∀ (t : OTree) (listed : Array Bool) (a : Act) (w : World), HeadInv md ops n listed → lexT md ops ks g n t listed = true → wpTree P ops S K t a w →
    wpAnyH P md ops Q S (kdOf ks) n (fun listed' a' w' => Region.seqB md ops g n listed' = true ∧ K a' w') t.depth listed a w
  | .done, listed, a, w, _, hB, h => ⟨by simpa [lexT] using hB, h⟩
  | .op k b t, listed, a, w, inv, hB, h => by
    simp only [lexT, Bool.and_eq_true, decide_eq_true_eq] at hB
    obtain ⟨⟨⟨hkn, hkd⟩, hb⟩, hB'⟩ := hB
    have hnext : ∀ {a' : Act} {w' : World} (hr : k ∈ Region.ready md ops listed), wpTree P ops S K t a' w' → wpAnyH P md ops Q S (kdOf ks) n (fun listed' a' w' => Region.seqB md ops g n listed' = true ∧ K a' w') t.depth (listed.setIfInBounds k true) a' w' := fun hr h' =>
      wpAnyH_lexT hsel hs hc hn hQ t _ _ _ (inv.set hr hkn) hB' h'
    match b, hb, hkd, h with
    | some false, hb, hkd, h =>
      simp only [Bool.and_eq_true] at hb
      have hr : k ∈ Region.ready md ops listed := by simpa using hb.1
      obtain ⟨o, v, h0, hy, hS, h'⟩ := h
      exact wpAnyH_pure h0 (Region.noSelect_spec hsel) hs hc hn hkn hQ (fun listed' a' w' hL => seqB_ready hL.1) hkd t.depth listed a w inv (Region.free_spec h0 hb.2) hr hy hS (hnext hr h')
    | none, hb, hkd, h =>
      simp only [Bool.and_eq_true] at hb
      have hr : k ∈ Region.ready md ops listed := by simpa using hb.1.1
      obtain ⟨o, v, h0, hy, hS, h'⟩ := h
      exact wpAnyH_call (F := n) h0 (Region.noSelect_spec hsel) hs hc hn hkn hQ (fun listed' a' w' hL => seqB_ready hL.1) hkd (fun j hj hk => by
        have := List.all_eq_true.1 hb.2 j (List.mem_range.2 hj)
        simpa [hk] using this) t.depth listed a w inv (Region.free_spec h0 hb.1.2) hr hy hS (fun w' hw' => hnext hr (h' w' hw'))
    | some true, hb, hkd, h =>
      have hr : Region.ready md ops listed = [k] := by simpa using hb
      have hr' : k ∈ Region.ready md ops listed := by rw [hr]; simp
      refine ⟨by rw [hr]; simp, fun i hi => ?_⟩
      rw [hr] at hi
      have : i = k := by simpa using hi
      subst this
      refine ⟨hkn, ?_⟩
      rw [hkd]
      simp only [stepH]
      simp only [wpTree] at h
      exact h.wpOp (fun a w h' => hnext hr' h')
  | .fork k1 t1 k2 t2, listed, a, w, inv, hB, h => by
    simp only [lexT, Bool.and_eq_true, decide_eq_true_eq] at hB
    obtain ⟨⟨⟨⟨⟨⟨⟨hk1, hk2⟩, hd1⟩, hd2⟩, hr⟩, hdep⟩, hB1⟩, hB2⟩ := hB
    simp only [wpTree] at h
    have hr1 : k1 ∈ Region.ready md ops listed := by rw [hr]; simp
    have hr2 : k2 ∈ Region.ready md ops listed := by rw [hr]; simp
    refine ⟨by rw [hr]; simp, fun i hi => ?_⟩
    rw [hr] at hi
    simp only [List.mem_cons, List.mem_nil_iff, or_false] at hi
    rcases hi with rfl | rfl
    · refine ⟨hk1, ?_⟩
      rw [hd1]
      simp only [stepH]
      exact h.1.wpOp (fun a w h' => wpAnyH_lexT hsel hs hc hn hQ t1 _ _ _ (inv.set hr1 hk1) hB1 h')
    · refine ⟨hk2, ?_⟩
      rw [hd2]
      simp only [stepH]
      exact h.2.wpOp (fun a w h' => by rw [hdep]; exact wpAnyH_lexT hsel hs hc hn hQ t2 _ _ _ (inv.set hr2 hk2) hB2 h')

theorem wp_region_mix {id : Nat} {a : Act} {w : World} {l : List Oper} (t : OTree) (hm : P.follows .mixedOrders = true) (hB : lexTB .any l.toArray t = true)
    (h : wpTree P l.toArray S (fun a' w' => wpList P l.toArray (fun e a w => (∀ c, e ≠ .panic c) ∧ Q e a w) (l.drop t.depth) a' w') t a { w with drawn := w.drawn + 1 }) : (Code.region id l.toArray true).wp P Q a w := by
  refine wp_mono (Q := fun e a w => (∀ c, e ≠ .panic c) ∧ Q e a w) ?_ (fun e a w hq => hq.2)
  simp only [lexTB, Bool.and_eq_true, decide_eq_true_eq] at hB
  obtain ⟨⟨⟨⟨hsel, hn⟩, hs⟩, hc⟩, hlex⟩ := hB
  have hdl : (l.drop t.depth).length = l.toArray.size - t.depth := by simp
  have inv0 : HeadInv .any l.toArray t.depth (Array.replicate l.toArray.size false) :=
    ⟨by simp, fun j oj _ hl => (by rw [getD_replicate_false] at hl; cases hl), fun t _ ht => getD_in (by simpa using ht) (getD_replicate_false _ _)⟩
  have H := wpAnyH_lexT (md := .any) (ks := t.kds) (g := l.toArray.size - t.depth) (Q := fun e a w => (∀ c, e ≠ .panic c) ∧ Q e a w) hsel hs hc hn (fun c a w hq => hq.1 c rfl) t _ a _ inv0 hlex h
  refine wp_region_any hm ?_
  have := wpAny_of_headH (g := l.toArray.size - t.depth) (fun listed a' w' hL => by
    have := wpAny_of_seq (md := .any) (Q' := fun e a w => (∀ c, e ≠ .panic c) ∧ Q e a w) (l.drop t.depth) t.depth listed a' w' (fun j => by simp [List.getElem?_drop]) (by rw [hdl]; exact hL.1) hL.2
    rwa [hdl] at this) _ _ _ _ H
  have hsz : t.depth < l.toArray.size := hn
  rw [show t.depth + (l.toArray.size - t.depth) = l.toArray.size by omega] at this
  exact this
end

/-! ## as goals -/
section
variable {T : Tys} {P : Program} {n : Nat} {ops : Array Oper} {Q : Exit → Act → World → Prop} {L L' : Fr} {w w' w0 w1 : World} {rest : List Oper} {ty t t' : TypeId} {tr tr2 : OTree} {k k2 : Nat}
  {Sx : Nat → Prop} {H HG : List (Nat × Obj)} {pos : String} {af : Array Edge} {g : Option (Nat × Bool)} {K : Act → World → Prop} {xo yo zo : Operand}
structure ML (P : Program) (n : Nat) (ops : Array Oper) (wb : World) (K : Act → World → Prop) (tr : OTree) (L : Fr) (w : World) : Prop where
  run : ∀ a, Fits n L a → wpTree P ops (fun w' => St wb NoneS [] w') K tr a w
theorem W_mix {id : Nat} {l : List Oper} (tr : OTree) (hT : T.Ok P) (hB : lexTB .any l.toArray tr = true) (hSt : St w0 Sx H w)
    (h : ∀ w1, St w0 Sx H w1 → St w1 NoneS [] w1 → ML P n l.toArray w1 (fun a' w' => wpList P l.toArray (fun e a w => (∀ c, e ≠ .panic c) ∧ Q e a w) (l.drop tr.depth) a' w') tr L w1) : W P n (.region id l.toArray true) Q L w :=
  ⟨fun a ha => wp_region_mix tr hT.mixed hB ((h _ hSt.drew (St.refl _ _)).run a ha)⟩
section
variable {wb : World}
theorem ML_ev {d : Nat} {op : Op} {v : Value} (h0 : ops[k]? = some ⟨some d, op, ty, pos, af, g⟩) (hg : wantB ops g L = some true) (hn : Nat.blt d n = true) (hG : St wb NoneS HG w) (h : ∀ w', St wb NoneS [] w' → Ev P L op ty w' v w') (k1 : ML P n ops wb K tr ((d, v) :: L) w) : ML P n ops wb K (.op k (some false) tr) L w := by
  refine ⟨fun a ha => ⟨_, v, h0, .inl ⟨wantB_spec (o := ⟨some d, op, ty, pos, af, g⟩) hg ha, fun w' hw' => (h w' hw').run n a ha _ _ _ _⟩, hG.nil, k1.run _ (ha.put hn v)⟩⟩
theorem ML_pass {d : Nat} {op : Op} (h0 : ops[k]? = some ⟨some d, op, ty, pos, af, g⟩) (hg : wantB ops g L = some false) (hn : Nat.blt d n = true) (hG : St wb NoneS HG w) (k1 : ML P n ops wb K tr ((d, undef) :: L) w) : ML P n ops wb K (.op k (some false) tr) L w := by
  refine ⟨fun a ha => ⟨_, undef, h0, .inr ⟨wantB_spec (o := ⟨some d, op, ty, pos, af, g⟩) hg ha, rfl⟩, hG.nil, k1.run _ (ha.put hn undef)⟩⟩
theorem ML_passC {d : Nat} {op : Op} (h0 : ops[k]? = some ⟨some d, op, ty, pos, af, g⟩) (hg : wantB ops g L = some false) (hn : Nat.blt d n = true) (hG : St wb NoneS HG w) (k1 : ∀ w', St wb NoneS [] w' → ML P n ops wb K tr ((d, undef) :: L) w') : ML P n ops wb K (.op k none tr) L w := by
  refine ⟨fun a ha => ⟨_, undef, h0, .inr ⟨wantB_spec (o := ⟨some d, op, ty, pos, af, g⟩) hg ha, rfl⟩, hG.nil, fun w' hw' => (k1 w' hw').run _ (ha.put hn undef)⟩⟩
/-- a call that changes nothing -/
theorem ML_call (f : FuncId) {d : Nat} {xs : List Operand} {vs : List Value} {v : Value} {at_ : Array TypeId} (h0 : ops[k]? = some ⟨some d, .call ⟨.value (.func f), ⟨xs⟩, at_⟩, ty, pos, af, g⟩) (hf : callB P f = true) (hx : opds L xs = some vs) (hg : wantB ops g L = some true) (hn : Nat.blt d n = true) (hG : St wb NoneS HG w)
    (hc : ∀ w, St wb NoneS [] w → Cl P f vs w (fun r w' => r = v ∧ St w NoneS [] w')) (k1 : ∀ w', St wb NoneS [] w' → ML P n ops wb K tr ((d, v) :: L) w') : ML P n ops wb K (.op k none tr) L w := by
  refine ⟨fun a ha => ⟨_, v, h0, .inl ⟨wantB_spec (o := ⟨some d, .call ⟨.value (.func f), ⟨xs⟩, at_⟩, ty, pos, af, g⟩) hg ha, fun w hw => ?_⟩, hG.nil, fun w' hw' => (k1 w' hw').run _ (ha.put hn v)⟩⟩
  unfold Oper.quietAt
  rw [run_call hf hx ha]
  refine ⟨rfl, Calls.mono (hc w hw).run ?_⟩
  rintro e w' ⟨u, rfl, rfl, hu⟩
  exact ⟨rfl, hw.call0 hu⟩
theorem ML_sub (hs : Sub L' L) (h : ML P n ops wb K tr L' w) : ML P n ops wb K tr L w := ⟨fun a ha => h.run a (ha.sub hs)⟩
theorem ML_case {j : Nat} {b : Bool} (h : look L j = some (.bool b)) (ht : b = true → ML P n ops wb K tr ((j, .bool true) :: L) w) (hf : b = false → ML P n ops wb K tr ((j, .bool false) :: L) w) : ML P n ops wb K tr L w := by
  cases b
  · exact ML_sub (Sub.cons h (Sub.refl _)) (hf rfl)
  · exact ML_sub (Sub.cons h (Sub.refl _)) (ht rfl)
/-- what an operation's guard hangs on -/
def guardOf (ops : Array Oper) (k : Nat) : Option Nat := (ops[k]?).bind fun o => o.guard.bind fun x => (ops[x.1]?).bind (·.dst)
theorem ML_guard {kd : Option Bool} {d : Nat} {x : Bool} (hd : guardOf ops k = some d) (hl : look L d = some (.bool x)) (ht : x = true → ML P n ops wb K (.op k kd tr) ((d, .bool true) :: L) w) (hf : x = false → ML P n ops wb K (.op k kd tr) ((d, .bool false) :: L) w) : ML P n ops wb K (.op k kd tr) L w := ML_case hl ht hf
theorem ML_guardP {kd : Option Bool} {d : Nat} {p : Prop} {d0 : Decidable p} (hd : guardOf ops k = some d) (hl : look L d = some (.bool (decide p))) (ht : p → ML P n ops wb K (.op k kd tr) ((d, .bool true) :: L) w) (hf : ¬ p → ML P n ops wb K (.op k kd tr) ((d, .bool false) :: L) w) : ML P n ops wb K (.op k kd tr) L w :=
  ML_case hl (fun e => ht (of_decide_eq_true e)) (fun e => hf (of_decide_eq_false e))
/-- an operation that makes new memory: by the rules of a list of one -/
def MK (P : Program) (ops : Array Oper) (wb : World) (K : Act → World → Prop) (tr : OTree) : Exit → Act → World → Prop := fun e a' w' => e = .normal ∧ St wb NoneS [] w' ∧ wpTree P ops (fun w' => St wb NoneS [] w') K tr a' w'
theorem ML_one {o : Oper} (h0 : ops[k]? = some o) (h : WL P n ops (MK P ops wb K tr) [o] L w) : ML P n ops wb K (.op k (some true) tr) L w := ⟨fun a ha => ⟨o, h0, h.run a ha⟩⟩
theorem ML_fork (h1 : ML P n ops wb K (.op k (some true) tr) L w) (h2 : ML P n ops wb K (.op k2 (some true) tr2) L w) : ML P n ops wb K (.fork k tr k2 tr2) L w := ⟨fun a ha => ⟨h1.run a ha, h2.run a ha⟩⟩
theorem At_oneM (hG : St wb NoneS HG w) (h : ML P n ops wb K tr L w) : At n (MK P ops wb K tr) .normal L w := ⟨fun a ha => ⟨rfl, hG.nil, h.run a ha⟩⟩
theorem ML_end {Q' : Exit → Act → World → Prop} {l : List Oper} (h : WL P n ops Q' l L w) : ML P n ops wb (fun a' w' => wpList P ops Q' l a' w') .done L w := ⟨fun a ha => h.run a ha⟩
end
end
end Go.Proofs.YthkimkgphaiagaaGreatDoor

namespace Go.Proofs.YthkimkgphaiagaaGreatDoor
open Go.RowKit Go.Sort
set_option maxRecDepth 4000
set_option linter.unusedVariables false
set_option linter.unusedSimpArgs false
set_option maxHeartbeats 4000000

/-! ## What the library reads -/
structure Vars (w : World) : Prop where
  pow : ∃ E fz, w.heap[3]? = some (.cells ⟨Lib.pow10Tab.map fun z => Value.int .u64 z⟩ E fz)
  max : ∃ (m : Int) (E : TypeId) (fz : Nat × Nat), w.heap[0]? = some (.cells ⟨[.int .i64 m]⟩ E fz)
  err : ∃ (tp : TypeId) (p : Value) (E : TypeId) (fz : Nat × Nat), w.heap[1]? = some (.cells ⟨[.iface tp p]⟩ E fz)
theorem Vars.later {w0 w : World} {H : List (Nat × Obj)} (h : Vars w0) (k : St w0 NoneS H w) : Vars w := by
  obtain ⟨⟨E1, z1, h1⟩, ⟨m, E2, z2, h2⟩, ⟨tp, p, E3, z3, h3⟩⟩ := h
  exact ⟨⟨E1, z1, k.base h1 (fun e => e)⟩, ⟨m, E2, z2, k.base h2 (fun e => e)⟩, ⟨tp, p, E3, z3, k.base h3 (fun e => e)⟩⟩
theorem St.same {w w' : World} (h1 : w'.os = w.os) (h2 : w'.tape = w.tape) (h3 : w'.output = w.output) (h4 : w.heap.size ≤ w'.heap.size) (h5 : ∀ k, k < w.heap.size → w'.heap[k]? = w.heap[k]?) : St w NoneS [] w' :=
  ⟨h1, h2, h3, h4, fun k hk _ => h5 k hk, fun i b o h => by simp at h, fun i j b c o u h => by simp at h⟩
theorem St.ofBelow {w w' : World} (h : Below w.heap.size w w') : St w NoneS [] w' := St.same h.os h.tape h.output h.size (fun k hk => h.block k hk)
theorem St.drewN (w : World) (n : Nat) : St w NoneS [] (w.drewN n) := ⟨rfl, rfl, rfl, Nat.le_refl _, fun _ _ _ => rfl, fun i b o h => by simp at h, fun i j b c o u h => by simp at h⟩
theorem St.ofGrow (w : World) (k : Nat) (os : Array Obj) : St w NoneS [] (grow (w.drewN k) os) :=
  St.same rfl rfl rfl (by simp [grow, World.drewN]) (fun j hj => heap_grow_old (w.drewN k) os hj)
theorem tab_is {w : World} (h : Vars w) : Lib.TabIs Tryz.prog w "internal/strconv.uint64pow10" .u64 Lib.pow10Tab := by
  obtain ⟨E, fz, h⟩ := h.pow
  unfold Lib.TabIs World.var?
  rw [show Tryz.prog.globalNamed "internal/strconv.uint64pow10" = some 3 by kernel_rfl]
  simp only [Option.bind_some, h]
theorem itoa_any {w0 : World} (hV : Vars w0) (n : Int) (h : -9223372036854775808 ≤ n ∧ n ≤ 9223372036854775807) : Cl Tryz.prog 75 [I n] w0 (fun v w' => v = S (Lib.itoa n) ∧ St w0 NoneS [] w') := by
  refine ⟨(Tryz.strconv_Itoa n h.1 h.2 w0 (tab_is hV)).mono ?_⟩
  rintro e w' ⟨rfl, k, os, rfl⟩
  exact ⟨_, rfl, rfl, St.ofGrow w0 k os⟩

/-! ## The specification's numerals -/
abbrev dgB (m : Nat) : UInt8 := UInt8.ofNat (48 + m % 10)
theorem dec_step (m : Nat) : Lib.decDigits m = (if 0 < m / 10 then Lib.decDigits (m / 10) else []) ++ [UInt8.ofNat (48 + m % 10)] := by
  rw [Lib.decDigits]
  split
  · rename_i h
    rw [if_neg (by omega), Nat.mod_eq_of_lt h]; rfl
  · rw [if_pos (by omega)]
theorem dig_cell (m : Nat) : [Value.int .u8 (48 + (m : Int) % 10)] = [UInt8.ofNat (48 + m % 10)].map fun c => Value.int .u8 c.toNat := by
  simp only [List.map_cons, List.map_nil]
  rw [ofNat_toNat (by omega)]
  congr 2
/-! ## Which goals have a text -/
theorem cod_iff (c n st a e : Int) (q x : List UInt8) : Cod ⟨c, n, st, a, e, q, x⟩ ↔ (1 ≤ c ∧ c ≤ 2147483647) ∧ (1 ≤ n ∧ n ≤ 2147483647) ∧ (1 ≤ st ∧ st ≤ 7) ∧ (0 ≤ a ∧ a ≤ 1099511627776) ∧ (q.length ≤ 4000 ∧ x.length ≤ 4000) ∧ (4 ≤ st → a ≤ e ∧ e ≤ 1099511627776) ∧ (¬ 4 ≤ st → e = 0 ∧ x.length = 0) := by
  constructor
  · rintro ⟨h1, h2, h3, h4, h5, h6, h7⟩
    exact ⟨h1, h2, h3, h4, h5, h6, fun h => ⟨(h7 h).1, by have h8 : x = [] := (h7 h).2; rw [h8]; rfl⟩⟩
  · rintro ⟨h1, h2, h3, h4, h5, h6, h7⟩
    exact ⟨h1, h2, h3, h4, h5, h6, fun h => ⟨(h7 h).1, List.eq_nil_of_length_eq_zero (h7 h).2⟩⟩
theorem cod_len {c n st a e : Int} {q x : List UInt8} (h : Cod ⟨c, n, st, a, e, q, x⟩) : q.length ≤ 4000 ∧ x.length ≤ 4000 := h.l
noncomputable def codB (g : Gl) : Bool := @decide (Cod g) (Classical.propDecidable _)
theorem codB_yes {g : Gl} (h : Cod g) : codB g = true := @decide_eq_true _ (Classical.propDecidable _) h
theorem codB_no {g : Gl} (h : ¬ Cod g) : codB g = false := @decide_eq_false _ (Classical.propDecidable _) h
theorem codB_dec {g : Gl} {p : Prop} {d : Decidable p} (h : p ↔ Cod g) : decide p = codB g := by
  by_cases hp : p
  · rw [codB_yes (h.1 hp), decide_eq_true hp]
  · rw [codB_no (fun e => hp (h.2 e)), decide_eq_false hp]
theorem term_dec {w0 : World} (st : Int) : Cl Tryz.prog 45 [I st] w0 (fun v w' => v = B (decide (4 ≤ st ∧ st ≤ 7)) ∧ St w0 NoneS [] w') := term_any st
set_option maxHeartbeats 16000000 in
theorem codable_any {w0 : World} (c n st a e : Int) (q x : List UInt8) : Cl Tryz.prog 74 [goV c n st a e q x] w0 (fun v w' => v = B (codB ⟨c, n, st, a, e, q, x⟩) ∧ St w0 NoneS [] w') := by
  have hSt := St.refl w0 NoneS
  refine enter Tryz.func74 rfl Tryz.ntmps74 rfl ?_
  have hx0 : x = [] ↔ x.length = 0 := List.length_eq_zero_iff.symm
  repeat' (first | (refine WL_isCall (f := 45) ?_; refine WL_call (ok_call hT rfl) rfl rfl rfl (term_dec _) ?_; rintro v w' ⟨rfl, hc2⟩; replace hSt := hSt.call0 hc2; clear hc2) | refine stepA ?_ | (refine stepS ?_; clear hSt; intro w hSt; dsimp only [spl, List.set] at hSt) | (refine stepB ?_; clear hSt; intro w nb hnb hSt; dsimp only [zcells, List.nil_append, List.cons_append] at hSt) | (refine W_quiet hT (by decide +kernel) hSt ?_; clear hSt; (repeat' (first | (apply QL_ev rfl rfl; (intro w hSt; (first | exact Ev_auto))) | refine QL_pass rfl rfl ?_ | (refine QL_guardP rfl rfl (fun hc => ?_) (fun hc => ?_) <;> try exact absA) | (refine QL_guard rfl rfl (fun hc => ?_) (fun hc => ?_) <;> (try exact absA) <;> (fail_if_success (change true = true at hc)) <;> (fail_if_success (change false = false at hc))))); all_goals (refine QL_nil (fun w hSt => ?_))) | (refine stepG ?_ ?_ <;> intro hc <;> (try exact absA) <;> (fail_if_success (change true = true at hc)) <;> (fail_if_success (change false = false at hc))) | fail)
  all_goals
    refine ret1 rfl rfl ⟨?_, hSt.nil⟩
    first | exact congrArg B (codB_no (by rw [cod_iff]; omega)).symm | exact congrArg B (codB_yes (by rw [cod_iff]; omega)).symm | exact congrArg B (codB_dec (by rw [cod_iff]; omega)) | exact congrArg B (codB_dec (by rw [hx0, cod_iff]; omega))
theorem codable_at {w0 : World} {c n st a e : Int} {q x : List UInt8} {b : Bool} (h : codB ⟨c, n, st, a, e, q, x⟩ = b) : Cl Tryz.prog 74 [goV c n st a e q x] w0 (fun v w' => v = B b ∧ St w0 NoneS [] w') := h ▸ codable_any c n st a e q x
theorem itoa_max {n : Int} (h : -9223372036854775808 ≤ n ∧ n ≤ 9223372036854775807) : (Lib.itoa n).length ≤ 21 := by
  unfold Lib.itoa
  have h1 := dec_len 19 n.natAbs (by omega)
  have h2 := dec_len 19 n.toNat (by omega)
  split
  · rw [List.length_cons]; omega
  · omega
theorem nums_len : ∀ (l : List Int), (∀ n ∈ l, -9223372036854775808 ≤ n ∧ n ≤ 9223372036854775807) → (nums l).length ≤ 22 * l.length
  | [], _ => by simp [nums]
  | n :: l, h => by
    have h1 := itoa_max (h n List.mem_cons_self)
    have h2 := nums_len l (fun x hx => h x (List.mem_cons_of_mem _ hx))
    simp only [nums, List.length_append, List.length_cons]; omega
theorem encode_any {w0 : World} (hV : Vars w0) (c n st a e : Int) (q x : List UInt8) : Cl Tryz.prog 60 [goV c n st a e q x] w0 (fun v w' => v = S (enc ⟨c, n, st, a, e, q, x⟩) ∧ St w0 NoneS [] w') := by
  have hSt := St.refl w0 NoneS
  refine enter Tryz.func60 rfl Tryz.ntmps60 rfl ?_
  by_cases hc0 : Cod ⟨c, n, st, a, e, q, x⟩
  · rw [enc_cod hc0]
    have hb := codB_yes hc0
    have hc1 := (cod_iff c n st a e q x).1 hc0
    have hen := hc0.en
    simp only at hen
    repeat' (first | (refine WL_isCall (f := 74) ?_; refine WL_call (ok_call hT rfl) rfl rfl rfl (codable_at hb) ?_; rintro v w' ⟨rfl, hc2⟩; replace hSt := hSt.call0 hc2; clear hc2) | (refine WL_buildSlice hT rfl rfl rfl rfl rfl rfl rfl rfl hSt ?_; clear hSt; intro w nb hnb hSt; dsimp only [List.nil_append, List.cons_append] at hSt) | refine stepA ?_ | (refine stepS ?_; clear hSt; intro w hSt; dsimp only [spl, List.set] at hSt) | (refine stepB ?_; clear hSt; intro w nb hnb hSt; dsimp only [zcells, List.nil_append, List.cons_append] at hSt) | (refine W_quiet hT (by decide +kernel) hSt ?_; clear hSt; (repeat' (first | (apply QL_ev rfl rfl; (intro w hSt; (first | exact Ev_auto))) | refine QL_pass rfl rfl ?_ | (refine QL_guardP rfl rfl (fun hc => ?_) (fun hc => ?_) <;> try exact absA) | (refine QL_guard rfl rfl (fun hc => ?_) (fun hc => ?_) <;> (try exact absA) <;> (fail_if_success (change true = true at hc)) <;> (fail_if_success (change false = false at hc))))); all_goals (refine QL_nil (fun w hSt => ?_))) | (refine stepG ?_ ?_ <;> intro hc <;> (try exact absA) <;> (fail_if_success (change true = true at hc)) <;> (fail_if_success (change false = false at hc))) | fail)
    all_goals try (exfalso; simp at hc; done)
    have hl5 : ∀ y ∈ [c, n, st, a, e], -9223372036854775808 ≤ y ∧ y ≤ 9223372036854775807 := by
      intro y hy
      simp only [List.mem_cons, List.not_mem_nil, or_false] at hy
      rcases hy with rfl | rfl | rfl | rfl | rfl <;> omega
    refine W_loop1 (fun k (i : Nat) w => k = 5 - i ∧ i ≤ 5 ∧ St w0 NoneS [_, _] w) (fun i => [(23, I (i : Int)), (3, S (nums ([c, n, st, a, e].take i)))]) 5 0 rfl (by (repeat (first | exact Str.nil _ | apply Str.drop rfl | apply Str.keepU rfl | apply Str.keep rfl))) ⟨rfl, by omega, hSt⟩ (by (repeat (first | exact Sub.nil _ | refine Sub.cons rfl ?_))) ?_
    clear hSt
    rintro k i w ⟨hk, hi, hSt⟩ K hK
    have hnl := nums_len ([c, n, st, a, e].take i) (fun y hy => hl5 y (List.mem_of_mem_take hy))
    rw [List.length_take] at hnl
    by_cases hil : i < 5
    · obtain ⟨y, hy⟩ : ∃ y, [c, n, st, a, e][i]? = some y := ⟨_, List.getElem?_eq_getElem (by simpa using hil)⟩
      have hyr := hl5 y (List.mem_of_getElem? hy)
      have hym := itoa_max hyr
      have hq := row_at hy []
      have htk : nums ([c, n, st, a, e].take (i + 1)) = nums ([c, n, st, a, e].take i) ++ (Lib.itoa y ++ [32]) := by rw [List.take_add_one, hy]; exact nums_snoc _ _
      repeat' (first | (refine WL_isCall (f := 75) ?_; refine WL_call (ok_call hT rfl) rfl rfl rfl (itoa_any (hV.later hSt) y hyr) ?_; rintro v w' ⟨rfl, hc2⟩; replace hSt := hSt.call0 hc2; clear hc2) | (apply WL_ev rfl rfl; exact Ev_load1 hT rfl rfl (hSt.own 1 _ _ rfl).1 hq) | (apply WL_ev rfl rfl; exact Ev_str_add rfl rfl (by simp only [List.length_append, List.length_cons, List.length_nil]; omega)) | refine stepA ?_ | (refine stepS ?_; clear hSt; intro w hSt; dsimp only [spl, List.set] at hSt) | (refine stepB ?_; clear hSt; intro w nb hnb hSt; dsimp only [zcells, List.nil_append, List.cons_append] at hSt) | (refine W_quiet hT (by decide +kernel) hSt ?_; clear hSt; (repeat' (first | (apply QL_ev rfl rfl; (intro w hSt; (first | (exact Ev_load1 hT rfl rfl (hSt.own 1 _ _ rfl).1 hq) | (exact Ev_str_add rfl rfl (by simp only [List.length_append, List.length_cons, List.length_nil]; omega)) | exact Ev_auto))) | refine QL_pass rfl rfl ?_ | (refine QL_guardP rfl rfl (fun hc => ?_) (fun hc => ?_) <;> try exact absA) | (refine QL_guard rfl rfl (fun hc => ?_) (fun hc => ?_) <;> (try exact absA) <;> (fail_if_success (change true = true at hc)) <;> (fail_if_success (change false = false at hc))))); all_goals (refine QL_nil (fun w hSt => ?_))) | (refine stepG ?_ ?_ <;> intro hc <;> (try exact absA) <;> (fail_if_success (change true = true at hc)) <;> (fail_if_success (change false = false at hc))) | fail)
      refine At_loop1 hK (k' := 5 - (i + 1)) (i + 1) (by omega) ⟨rfl, by omega, hSt⟩ ?_
      rw [htk]
      (repeat (first | exact Sub.nil _ | refine Sub.cons rfl ?_))
    · have h5 : i = 5 := by omega
      subst h5
      have hq1 := itoa_max (n := (q.length : Int)) (by omega)
      have hx1 := itoa_max (n := (x.length : Int)) (by omega)
      simp only [List.length_cons, List.length_nil] at hnl
      repeat' (first | (refine W_mix (.op 0 (some false) (.op 1 (some false) (.op 2 (some false) (.op 3 (some false) (.op 4 none (.op 5 (some false) (.op 6 (some false) (.op 7 (some false) (.op 8 (some false) (.op 9 (some false) (.op 10 (some false) (.op 11 (some false) (.op 12 (some false) (.op 13 none (.op 14 (some false) (.op 15 (some false) (.op 16 (some false) (.op 17 (some false) (.op 18 (some false) .done))))))))))))))))))) hT (by decide +kernel) hSt ?_; clear hSt; intro w hSt hG; (repeat' (first | (apply ML_ev rfl rfl rfl hG; (intro w hG1; have hSt := hSt.call0 hG1; (first | (exact Ev_str_add rfl rfl (by simp only [List.length_append, List.length_cons, List.length_nil]; omega)) | exact Ev_auto))) | refine ML_pass rfl rfl rfl hG ?_ | (refine ML_passC rfl rfl rfl hG ?_; clear hG; intro w hG) | (refine ML_call 75 rfl (ok_call hT rfl) rfl rfl rfl hG (fun w hG1 => (by have hSt := hSt.call0 hG1; exact itoa_any (hV.later hSt) _ (by omega))) ?_; clear hG; intro w hG) | refine ML_fork ?_ ?_ | (refine ML_one rfl ?_; (first | (refine WL_box rfl rfl rfl hG ?_; clear hG; intro w nb hnb hG) | (refine WL_alloc hT rfl rfl rfl hG ?_; clear hG; intro w nb hnb hG) | (refine WL_buildSlice hT rfl rfl rfl rfl rfl rfl rfl rfl hG ?_; clear hG; intro w nb hnb hG) | (refine WL_makeMap rfl rfl hG ?_; clear hG; intro w nb hnb hG)); (try dsimp only [zcells, List.nil_append, List.cons_append] at hG); replace hnb := Nat.le_trans hSt.size hnb; refine WL_nil (At_oneM hG ?_)) | (refine ML_guardP rfl rfl (fun hc => ?_) (fun hc => ?_) <;> try exact absA) | (refine ML_guard rfl rfl (fun hc => ?_) (fun hc => ?_) <;> (try exact absA) <;> (fail_if_success (change true = true at hc)) <;> (fail_if_success (change false = false at hc))))); all_goals (refine ML_end ?_; replace hSt := hSt.newN hG; clear hG; simp only [OTree.depth, List.drop_succ_cons, List.drop_zero]; dsimp only [List.nil_append, List.cons_append] at hSt)) | (apply WL_ev rfl rfl; exact Ev_str_add rfl rfl (by simp only [List.length_append, List.length_cons, List.length_nil]; omega)) | refine stepA ?_ | (refine stepS ?_; clear hSt; intro w hSt; dsimp only [spl, List.set] at hSt) | (refine stepB ?_; clear hSt; intro w nb hnb hSt; dsimp only [zcells, List.nil_append, List.cons_append] at hSt) | (refine W_quiet hT (by decide +kernel) hSt ?_; clear hSt; (repeat' (first | (apply QL_ev rfl rfl; (intro w hSt; (first | (exact Ev_str_add rfl rfl (by simp only [List.length_append, List.length_cons, List.length_nil]; omega)) | exact Ev_auto))) | refine QL_pass rfl rfl ?_ | (refine QL_guardP rfl rfl (fun hc => ?_) (fun hc => ?_) <;> try exact absA) | (refine QL_guard rfl rfl (fun hc => ?_) (fun hc => ?_) <;> (try exact absA) <;> (fail_if_success (change true = true at hc)) <;> (fail_if_success (change false = false at hc))))); all_goals (refine QL_nil (fun w hSt => ?_))) | (refine stepG ?_ ?_ <;> intro hc <;> (try exact absA) <;> (fail_if_success (change true = true at hc)) <;> (fail_if_success (change false = false at hc))) | fail)
      refine ret1 rfl rfl ⟨?_, hSt.nil⟩
      simp [body, txt]
  · rw [enc_not hc0]
    have hb := codB_no hc0
    repeat' (first | (refine WL_isCall (f := 74) ?_; refine WL_call (ok_call hT rfl) rfl rfl rfl (codable_at hb) ?_; rintro v w' ⟨rfl, hc2⟩; replace hSt := hSt.call0 hc2; clear hc2) | refine stepA ?_ | (refine stepS ?_; clear hSt; intro w hSt; dsimp only [spl, List.set] at hSt) | (refine stepB ?_; clear hSt; intro w nb hnb hSt; dsimp only [zcells, List.nil_append, List.cons_append] at hSt) | (refine W_quiet hT (by decide +kernel) hSt ?_; clear hSt; (repeat' (first | (apply QL_ev rfl rfl; (intro w hSt; (first | exact Ev_auto))) | refine QL_pass rfl rfl ?_ | (refine QL_guardP rfl rfl (fun hc => ?_) (fun hc => ?_) <;> try exact absA) | (refine QL_guard rfl rfl (fun hc => ?_) (fun hc => ?_) <;> (try exact absA) <;> (fail_if_success (change true = true at hc)) <;> (fail_if_success (change false = false at hc))))); all_goals (refine QL_nil (fun w hSt => ?_))) | (refine stepG ?_ ?_ <;> intro hc <;> (try exact absA) <;> (fail_if_success (change true = true at hc)) <;> (fail_if_success (change false = false at hc))) | fail)
    all_goals try (exfalso; simp at hc; done)
    exact ret1 rfl rfl ⟨rfl, hSt.nil⟩
end Go.Proofs.YthkimkgphaiagaaGreatDoor

namespace Go.Proofs.YthkimkgphaiagaaGreatDoor
open Go.RowKit Go.Sort
set_option maxRecDepth 4000
set_option linter.unusedVariables false
set_option linter.unusedSimpArgs false
set_option maxHeartbeats 4000000

theorem cut_any {w0 : World} (hV : Vars w0) (s : List UInt8) (m : UInt8) (hl : s.length < 4294967281) : Cl Tryz.prog 84 [S s, S [m]] w0 (fun v w' => v = .tuple ⟨[S (Lib.cut s [m]).1, S (Lib.cut s [m]).2.1, B (Lib.cut s [m]).2.2]⟩ ∧ St w0 NoneS [] w') := by
  obtain ⟨x, E, fz, hm⟩ := hV.max
  have hm' : w0.cell? ⟨0, 0, none⟩ = some (.int .i64 x) := by rw [cell_of hm]; rfl
  refine ⟨(Tryz.strings_Cut ⟨⟨s⟩⟩ ⟨⟨[m]⟩⟩ x w0 hl hm').mono ?_⟩
  rintro e w' ⟨rfl, k, rfl⟩
  exact ⟨_, rfl, rfl, St.drewN w0 k⟩
theorem atoi_ok {w0 : World} {s : List UInt8} {n : Int} (hl : s.length ≤ 18) (h : Lib.atoi s = some n) : Cl Tryz.prog 85 [S s] w0 (fun v w' => v = .tuple ⟨[I n, .nilIface]⟩ ∧ St w0 NoneS [] w') := by
  refine ⟨(Tryz.strconv_Atoi ⟨⟨s⟩⟩ n hl h w0).mono ?_⟩
  rintro e w' ⟨rfl, k, rfl⟩
  exact ⟨_, rfl, rfl, St.ofBelow (Lib.bytesWorld_below w0 _ k)⟩
theorem atoi_bad {w0 : World} (hV : Vars w0) {s : List UInt8} (hl : s.length ≤ 18) (h : Lib.atoi s = none) : Cl Tryz.prog 85 [S s] w0 (fun v w' => ∃ N, v = .tuple ⟨[I 0, .iface 152 (Ptr N)]⟩ ∧ St w0 NoneS [] w') := by
  obtain ⟨tp, p, E, fz, he⟩ := hV.err
  have hv : w0.var? Tryz.prog "strconv.ErrSyntax" = some #[.iface tp p] := by
    unfold World.var?
    rw [show Tryz.prog.globalNamed "strconv.ErrSyntax" = some 1 by kernel_rfl]
    simp only [Option.bind_some, he]
  refine ⟨(Tryz.strconv_Atoi_err_var ⟨⟨s⟩⟩ hl h tp p w0 hv).mono ?_⟩
  rintro e w' ⟨N, rfl, _, _, hb⟩
  exact ⟨_, rfl, N, rfl, St.ofBelow hb⟩
def numV : Option (Int × List UInt8) → Value
  | none => .tuple ⟨[I 0, S [], B false]⟩
  | some (n, r) => .tuple ⟨[I n, S r, B true]⟩
theorem number_any {w0 : World} (hV : Vars w0) (s : List UInt8) (m : UInt8) (hl : s.length ≤ 8100) : Cl Tryz.prog 70 [S s, S [m]] w0 (fun v w' => v = numV (numG s m) ∧ St w0 NoneS [] w') := by
  have hSt := St.refl w0 NoneS
  have hcut := cut_ch m s
  refine enter Tryz.func70 rfl Tryz.ntmps70 rfl ?_
  by_cases hm : m ∈ s
  · rw [if_pos hm] at hcut
    have hcu : ∀ {w1 : World}, Vars w1 → Cl Tryz.prog 84 [S s, S [m]] w1 (fun v w' => v = .tuple ⟨[S (upto m s), S (s.drop ((upto m s).length + 1)), B true]⟩ ∧ St w1 NoneS [] w') := fun h => by
      have := cut_any h s m (by omega)
      rw [hcut] at this
      exact this
    by_cases h15 : (upto m s).length ≤ 15
    · cases ha : Lib.atoi (upto m s) with
      | none =>
        rw [show numV (numG s m) = .tuple ⟨[I 0, S [], B false]⟩ by simp only [numG, if_pos (show m ∈ s ∧ (upto m s).length ≤ 15 from ⟨hm, h15⟩), ha]; rfl]
        repeat' (first | (refine WL_isCall (f := 84) ?_; refine WL_call (ok_call hT rfl) rfl rfl rfl (hcu (hV.later hSt)) ?_; rintro v w' ⟨rfl, hc2⟩; replace hSt := hSt.call0 hc2; clear hc2) | (refine WL_isCall (f := 85) ?_; refine WL_call (ok_call hT rfl) rfl rfl rfl (atoi_bad (hV.later hSt) (by omega) ha) ?_; rintro v w' ⟨N, rfl, hc2⟩; replace hSt := hSt.call0 hc2; clear hc2) | (apply WL_ev rfl rfl; exact Ev_iface_nil_neq Tryz.underlying135 rfl rfl) | (apply WL_ev rfl rfl; exact Ev_nilI_nil_neq Tryz.underlying135 rfl rfl) | refine stepA ?_ | (refine stepS ?_; clear hSt; intro w hSt; dsimp only [spl, List.set] at hSt) | (refine stepB ?_; clear hSt; intro w nb hnb hSt; dsimp only [zcells, List.nil_append, List.cons_append] at hSt) | (refine W_quiet hT (by decide +kernel) hSt ?_; clear hSt; (repeat' (first | (apply QL_ev rfl rfl; (intro w hSt; (first | (exact Ev_iface_nil_neq Tryz.underlying135 rfl rfl) | (exact Ev_nilI_nil_neq Tryz.underlying135 rfl rfl) | exact Ev_auto))) | refine QL_pass rfl rfl ?_ | (refine QL_guardP rfl rfl (fun hc => ?_) (fun hc => ?_) <;> try exact absA) | (refine QL_guard rfl rfl (fun hc => ?_) (fun hc => ?_) <;> (try exact absA) <;> (fail_if_success (change true = true at hc)) <;> (fail_if_success (change false = false at hc))))); all_goals (refine QL_nil (fun w hSt => ?_))) | (refine stepG ?_ ?_ <;> intro hc <;> (try exact absA) <;> (fail_if_success (change true = true at hc)) <;> (fail_if_success (change false = false at hc))) | fail)
        all_goals first | exact ret3 rfl rfl rfl rfl ⟨rfl, hSt⟩ | (exfalso; omega)
      | some n =>
        have hb := Lib.atoi_bound ha (by omega)
        by_cases hi : Lib.itoa n = upto m s
        · rw [show numV (numG s m) = .tuple ⟨[I n, S (s.drop ((upto m s).length + 1)), B true]⟩ by simp only [numG, if_pos (show m ∈ s ∧ (upto m s).length ≤ 15 from ⟨hm, h15⟩), ha, if_pos hi]; rfl]
          repeat' (first | (refine WL_isCall (f := 84) ?_; refine WL_call (ok_call hT rfl) rfl rfl rfl (hcu (hV.later hSt)) ?_; rintro v w' ⟨rfl, hc2⟩; replace hSt := hSt.call0 hc2; clear hc2) | (refine WL_isCall (f := 85) ?_; refine WL_call (ok_call hT rfl) rfl rfl rfl (atoi_ok (by omega) ha) ?_; rintro v w' ⟨rfl, hc2⟩; replace hSt := hSt.call0 hc2; clear hc2) | (apply WL_ev rfl rfl; exact Ev_iface_nil_neq Tryz.underlying135 rfl rfl) | (apply WL_ev rfl rfl; exact Ev_nilI_nil_neq Tryz.underlying135 rfl rfl) | (refine WL_isCall (f := 75) ?_; refine WL_call (ok_call hT rfl) rfl rfl rfl (itoa_any (hV.later hSt) n (by omega)) ?_; rintro v w' ⟨rfl, hc2⟩; replace hSt := hSt.call0 hc2; clear hc2) | refine stepA ?_ | (refine stepS ?_; clear hSt; intro w hSt; dsimp only [spl, List.set] at hSt) | (refine stepB ?_; clear hSt; intro w nb hnb hSt; dsimp only [zcells, List.nil_append, List.cons_append] at hSt) | (refine W_quiet hT (by decide +kernel) hSt ?_; clear hSt; (repeat' (first | (apply QL_ev rfl rfl; (intro w hSt; (first | (exact Ev_iface_nil_neq Tryz.underlying135 rfl rfl) | (exact Ev_nilI_nil_neq Tryz.underlying135 rfl rfl) | exact Ev_auto))) | refine QL_pass rfl rfl ?_ | (refine QL_guardP rfl rfl (fun hc => ?_) (fun hc => ?_) <;> try exact absA) | (refine QL_guard rfl rfl (fun hc => ?_) (fun hc => ?_) <;> (try exact absA) <;> (fail_if_success (change true = true at hc)) <;> (fail_if_success (change false = false at hc))))); all_goals (refine QL_nil (fun w hSt => ?_))) | (refine stepG ?_ ?_ <;> intro hc <;> (try exact absA) <;> (fail_if_success (change true = true at hc)) <;> (fail_if_success (change false = false at hc))) | fail)
          all_goals first | exact ret3 rfl rfl rfl rfl ⟨rfl, hSt⟩ | (exfalso; first | omega | exact hc hi)
        · rw [show numV (numG s m) = .tuple ⟨[I 0, S [], B false]⟩ by simp only [numG, if_pos (show m ∈ s ∧ (upto m s).length ≤ 15 from ⟨hm, h15⟩), ha, if_neg hi]; rfl]
          repeat' (first | (refine WL_isCall (f := 84) ?_; refine WL_call (ok_call hT rfl) rfl rfl rfl (hcu (hV.later hSt)) ?_; rintro v w' ⟨rfl, hc2⟩; replace hSt := hSt.call0 hc2; clear hc2) | (refine WL_isCall (f := 85) ?_; refine WL_call (ok_call hT rfl) rfl rfl rfl (atoi_ok (by omega) ha) ?_; rintro v w' ⟨rfl, hc2⟩; replace hSt := hSt.call0 hc2; clear hc2) | (apply WL_ev rfl rfl; exact Ev_iface_nil_neq Tryz.underlying135 rfl rfl) | (apply WL_ev rfl rfl; exact Ev_nilI_nil_neq Tryz.underlying135 rfl rfl) | (refine WL_isCall (f := 75) ?_; refine WL_call (ok_call hT rfl) rfl rfl rfl (itoa_any (hV.later hSt) n (by omega)) ?_; rintro v w' ⟨rfl, hc2⟩; replace hSt := hSt.call0 hc2; clear hc2) | refine stepA ?_ | (refine stepS ?_; clear hSt; intro w hSt; dsimp only [spl, List.set] at hSt) | (refine stepB ?_; clear hSt; intro w nb hnb hSt; dsimp only [zcells, List.nil_append, List.cons_append] at hSt) | (refine W_quiet hT (by decide +kernel) hSt ?_; clear hSt; (repeat' (first | (apply QL_ev rfl rfl; (intro w hSt; (first | (exact Ev_iface_nil_neq Tryz.underlying135 rfl rfl) | (exact Ev_nilI_nil_neq Tryz.underlying135 rfl rfl) | exact Ev_auto))) | refine QL_pass rfl rfl ?_ | (refine QL_guardP rfl rfl (fun hc => ?_) (fun hc => ?_) <;> try exact absA) | (refine QL_guard rfl rfl (fun hc => ?_) (fun hc => ?_) <;> (try exact absA) <;> (fail_if_success (change true = true at hc)) <;> (fail_if_success (change false = false at hc))))); all_goals (refine QL_nil (fun w hSt => ?_))) | (refine stepG ?_ ?_ <;> intro hc <;> (try exact absA) <;> (fail_if_success (change true = true at hc)) <;> (fail_if_success (change false = false at hc))) | fail)
          all_goals first | exact ret3 rfl rfl rfl rfl ⟨rfl, hSt⟩ | (exfalso; first | omega | exact hc hi | (simp at hc; exact hi hc))
    · rw [show numV (numG s m) = .tuple ⟨[I 0, S [], B false]⟩ by simp only [numG, if_neg (show ¬ (m ∈ s ∧ (upto m s).length ≤ 15) from fun e => h15 e.2)]; rfl]
      repeat' (first | (refine WL_isCall (f := 84) ?_; refine WL_call (ok_call hT rfl) rfl rfl rfl (hcu (hV.later hSt)) ?_; rintro v w' ⟨rfl, hc2⟩; replace hSt := hSt.call0 hc2; clear hc2) | refine stepA ?_ | (refine stepS ?_; clear hSt; intro w hSt; dsimp only [spl, List.set] at hSt) | (refine stepB ?_; clear hSt; intro w nb hnb hSt; dsimp only [zcells, List.nil_append, List.cons_append] at hSt) | (refine W_quiet hT (by decide +kernel) hSt ?_; clear hSt; (repeat' (first | (apply QL_ev rfl rfl; (intro w hSt; (first | exact Ev_auto))) | refine QL_pass rfl rfl ?_ | (refine QL_guardP rfl rfl (fun hc => ?_) (fun hc => ?_) <;> try exact absA) | (refine QL_guard rfl rfl (fun hc => ?_) (fun hc => ?_) <;> (try exact absA) <;> (fail_if_success (change true = true at hc)) <;> (fail_if_success (change false = false at hc))))); all_goals (refine QL_nil (fun w hSt => ?_))) | (refine stepG ?_ ?_ <;> intro hc <;> (try exact absA) <;> (fail_if_success (change true = true at hc)) <;> (fail_if_success (change false = false at hc))) | fail)
      all_goals first | exact ret3 rfl rfl rfl rfl ⟨rfl, hSt⟩ | (exfalso; omega)
  · rw [if_neg hm] at hcut
    rw [show numV (numG s m) = .tuple ⟨[I 0, S [], B false]⟩ by simp only [numG, if_neg (show ¬ (m ∈ s ∧ (upto m s).length ≤ 15) from fun e => hm e.1)]; rfl]
    have hcu : ∀ {w1 : World}, Vars w1 → Cl Tryz.prog 84 [S s, S [m]] w1 (fun v w' => v = .tuple ⟨[S s, S [], B false]⟩ ∧ St w1 NoneS [] w') := fun h => by
      have := cut_any h s m (by omega)
      rw [hcut] at this
      exact this
    repeat' (first | (refine WL_isCall (f := 84) ?_; refine WL_call (ok_call hT rfl) rfl rfl rfl (hcu (hV.later hSt)) ?_; rintro v w' ⟨rfl, hc2⟩; replace hSt := hSt.call0 hc2; clear hc2) | refine stepA ?_ | (refine stepS ?_; clear hSt; intro w hSt; dsimp only [spl, List.set] at hSt) | (refine stepB ?_; clear hSt; intro w nb hnb hSt; dsimp only [zcells, List.nil_append, List.cons_append] at hSt) | (refine W_quiet hT (by decide +kernel) hSt ?_; clear hSt; (repeat' (first | (apply QL_ev rfl rfl; (intro w hSt; (first | exact Ev_auto))) | refine QL_pass rfl rfl ?_ | (refine QL_guardP rfl rfl (fun hc => ?_) (fun hc => ?_) <;> try exact absA) | (refine QL_guard rfl rfl (fun hc => ?_) (fun hc => ?_) <;> (try exact absA) <;> (fail_if_success (change true = true at hc)) <;> (fail_if_success (change false = false at hc))))); all_goals (refine QL_nil (fun w hSt => ?_))) | (refine stepG ?_ ?_ <;> intro hc <;> (try exact absA) <;> (fail_if_success (change true = true at hc)) <;> (fail_if_success (change false = false at hc))) | fail)
    all_goals first | exact ret3 rfl rfl rfl rfl ⟨rfl, hSt⟩ | (exfalso; omega)
theorem number_at {w0 : World} (hV : Vars w0) {s : List UInt8} {m : UInt8} (hl : s.length ≤ 8100) {o : Option (Int × List UInt8)} (h : numG s m = o) : Cl Tryz.prog 70 [S s, S [m]] w0 (fun v w' => v = numV o ∧ St w0 NoneS [] w') := h ▸ number_any hV s m hl
theorem numG_len {s r : List UInt8} {m : UInt8} {n : Int} (h : numG s m = some (n, r)) : r.length ≤ s.length ∧ -1000000000000000000 < n ∧ n < 1000000000000000000 := by
  unfold numG at h
  split at h
  · rename_i h1
    split at h
    · rename_i k hk
      have hb := Lib.atoi_bound hk (by omega)
      split at h
      · simp only [Option.some.injEq, Prod.mk.injEq] at h
        obtain ⟨rfl, rfl⟩ := h
        exact ⟨by simp, hb⟩
      · cases h
    · cases h
  · cases h
def txtV : Option (List UInt8 × List UInt8) → Value
  | none => .tuple ⟨[S [], S [], B false]⟩
  | some (q, r) => .tuple ⟨[S q, S r, B true]⟩
theorem gtext_any {w0 : World} (hV : Vars w0) (s : List UInt8) (hl : s.length ≤ 8100) : Cl Tryz.prog 71 [S s] w0 (fun v w' => v = txtV (textP numG s) ∧ St w0 NoneS [] w') := by
  have hSt := St.refl w0 NoneS
  refine enter Tryz.func71 rfl Tryz.ntmps71 rfl ?_
  cases hn : numG s 58 with
  | none =>
    rw [show txtV (textP numG s) = .tuple ⟨[S [], S [], B false]⟩ by simp only [textP, hn]; rfl]
    repeat' (first | (refine WL_isCall (f := 70) ?_; refine WL_call (ok_call hT rfl) rfl rfl rfl (number_at (hV.later hSt) hl hn) ?_; rintro v w' ⟨rfl, hc2⟩; replace hSt := hSt.call0 hc2; clear hc2) | refine stepA ?_ | (refine stepS ?_; clear hSt; intro w hSt; dsimp only [spl, List.set] at hSt) | (refine stepB ?_; clear hSt; intro w nb hnb hSt; dsimp only [zcells, List.nil_append, List.cons_append] at hSt) | (refine W_quiet hT (by decide +kernel) hSt ?_; clear hSt; (repeat' (first | (apply QL_ev rfl rfl; (intro w hSt; (first | exact Ev_auto))) | refine QL_pass rfl rfl ?_ | (refine QL_guardP rfl rfl (fun hc => ?_) (fun hc => ?_) <;> try exact absA) | (refine QL_guard rfl rfl (fun hc => ?_) (fun hc => ?_) <;> (try exact absA) <;> (fail_if_success (change true = true at hc)) <;> (fail_if_success (change false = false at hc))))); all_goals (refine QL_nil (fun w hSt => ?_))) | (refine stepG ?_ ?_ <;> intro hc <;> (try exact absA) <;> (fail_if_success (change true = true at hc)) <;> (fail_if_success (change false = false at hc))) | fail)
    exact ret3 rfl rfl rfl rfl ⟨rfl, hSt⟩
  | some x =>
    obtain ⟨n, r⟩ := x
    by_cases h0 : 0 ≤ n ∧ n ≤ r.length
    · rw [show txtV (textP numG s) = .tuple ⟨[S (r.take n.toNat), S (r.drop n.toNat), B true]⟩ by simp only [textP, hn, if_pos h0]; rfl]
      repeat' (first | (refine WL_isCall (f := 70) ?_; refine WL_call (ok_call hT rfl) rfl rfl rfl (number_at (hV.later hSt) hl hn) ?_; rintro v w' ⟨rfl, hc2⟩; replace hSt := hSt.call0 hc2; clear hc2) | refine stepA ?_ | (refine stepS ?_; clear hSt; intro w hSt; dsimp only [spl, List.set] at hSt) | (refine stepB ?_; clear hSt; intro w nb hnb hSt; dsimp only [zcells, List.nil_append, List.cons_append] at hSt) | (refine W_quiet hT (by decide +kernel) hSt ?_; clear hSt; (repeat' (first | (apply QL_ev rfl rfl; (intro w hSt; (first | exact Ev_auto))) | refine QL_pass rfl rfl ?_ | (refine QL_guardP rfl rfl (fun hc => ?_) (fun hc => ?_) <;> try exact absA) | (refine QL_guard rfl rfl (fun hc => ?_) (fun hc => ?_) <;> (try exact absA) <;> (fail_if_success (change true = true at hc)) <;> (fail_if_success (change false = false at hc))))); all_goals (refine QL_nil (fun w hSt => ?_))) | (refine stepG ?_ ?_ <;> intro hc <;> (try exact absA) <;> (fail_if_success (change true = true at hc)) <;> (fail_if_success (change false = false at hc))) | fail)
      all_goals try (exfalso; omega)
      refine ret3 rfl rfl rfl rfl ⟨?_, hSt⟩
      have : (r.drop n.toNat).take ((r.length : Int).toNat - n.toNat) = r.drop n.toNat := List.take_of_length_le (by rw [List.length_drop]; omega)
      exact congrArg (fun z => Value.tuple ⟨[S (r.take n.toNat), S z, B true]⟩) this
    · rw [show txtV (textP numG s) = .tuple ⟨[S [], S [], B false]⟩ by simp only [textP, hn, if_neg h0]; rfl]
      repeat' (first | (refine WL_isCall (f := 70) ?_; refine WL_call (ok_call hT rfl) rfl rfl rfl (number_at (hV.later hSt) hl hn) ?_; rintro v w' ⟨rfl, hc2⟩; replace hSt := hSt.call0 hc2; clear hc2) | refine stepA ?_ | (refine stepS ?_; clear hSt; intro w hSt; dsimp only [spl, List.set] at hSt) | (refine stepB ?_; clear hSt; intro w nb hnb hSt; dsimp only [zcells, List.nil_append, List.cons_append] at hSt) | (refine W_quiet hT (by decide +kernel) hSt ?_; clear hSt; (repeat' (first | (apply QL_ev rfl rfl; (intro w hSt; (first | exact Ev_auto))) | refine QL_pass rfl rfl ?_ | (refine QL_guardP rfl rfl (fun hc => ?_) (fun hc => ?_) <;> try exact absA) | (refine QL_guard rfl rfl (fun hc => ?_) (fun hc => ?_) <;> (try exact absA) <;> (fail_if_success (change true = true at hc)) <;> (fail_if_success (change false = false at hc))))); all_goals (refine QL_nil (fun w hSt => ?_))) | (refine stepG ?_ ?_ <;> intro hc <;> (try exact absA) <;> (fail_if_success (change true = true at hc)) <;> (fail_if_success (change false = false at hc))) | fail)
      all_goals first | exact ret3 rfl rfl rfl rfl ⟨rfl, hSt⟩ | (exfalso; omega)
theorem gtext_at {w0 : World} (hV : Vars w0) {s : List UInt8} (hl : s.length ≤ 8100) {o : Option (List UInt8 × List UInt8)} (h : textP numG s = o) : Cl Tryz.prog 71 [S s] w0 (fun v w' => v = txtV o ∧ St w0 NoneS [] w') := h ▸ gtext_any hV s hl
theorem textP_len {s q r : List UInt8} (h : textP numG s = some (q, r)) : r.length ≤ s.length := by
  unfold textP at h
  split at h
  · rename_i n r0 hn
    have := (numG_len hn).1
    split at h
    · simp only [Option.some.injEq, Prod.mk.injEq] at h
      rw [← h.2, List.length_drop]; omega
    · cases h
  · cases h
theorem arr_set {ns : List Int} {i : Nat} (h : ns.length = i) (hi : i < 5) (n : Int) : (ns.map I ++ List.replicate (5 - i) (I 0)).set (0 + ((i : Int)).toNat * 1) (I n) = (ns ++ [n]).map I ++ List.replicate (5 - (i + 1)) (I 0) := by
  rw [Int.toNat_natCast, Nat.zero_add, Nat.mul_one, List.set_append_right _ _ (by simp; omega), List.length_map, h, Nat.sub_self, show 5 - i = (5 - (i + 1)) + 1 by omega, List.replicate_succ, List.set_cons_zero]
  simp
theorem St.setArr {w0 w : World} {x : Nat × Obj} {b : Nat} {E : TypeId} {ns : List Int} {i : Nat} (h : ns.length = i) (hi : i < 5) (n : Int) (hSt : St w0 NoneS ([x, (b, blk (ns.map I ++ List.replicate (5 - i) (I 0)) E)].set 1 (b, blk ((ns.map I ++ List.replicate (5 - i) (I 0)).set (0 + ((i : Int)).toNat * 1) (I n)) E)) w) :
    St w0 NoneS [x, (b, blk ((ns ++ [n]).map I ++ List.replicate (5 - (i + 1)) (I 0)) E)] w := by
  rw [arr_set h hi n] at hSt; exact hSt
theorem numsP_step (num) (k : Nat) (s : List UInt8) : numsP num (k + 1) s = match num s 32 with | some (n, r) => (numsP num k r).map fun x => (n :: x.1, x.2) | none => none := rfl
set_option maxHeartbeats 16000000 in
theorem decode_any {w0 : World} (hV : Vars w0) (s : List UInt8) : Cl Tryz.prog 58 [S s] w0 (fun v w' => ∃ c n st a e q x er, decG s = (⟨c, n, st, a, e, q, x⟩, er) ∧ v = .tuple ⟨[goV c n st a e q x, I er]⟩ ∧ St w0 NoneS [] w') := by
  have hSt := St.refl w0 NoneS
  refine enter Tryz.func58 rfl Tryz.ntmps58 rfl ?_
  by_cases hl : 8100 < s.length
  · repeat' (first | refine stepA ?_ | (refine stepS ?_; clear hSt; intro w hSt; dsimp only [spl, List.set] at hSt) | (refine stepB ?_; clear hSt; intro w nb hnb hSt; dsimp only [zcells, List.nil_append, List.cons_append] at hSt) | (refine W_quiet hT (by decide +kernel) hSt ?_; clear hSt; (repeat' (first | (apply QL_ev rfl rfl; (intro w hSt; (first | exact Ev_auto))) | refine QL_pass rfl rfl ?_ | (refine QL_guardP rfl rfl (fun hc => ?_) (fun hc => ?_) <;> try exact absA) | (refine QL_guard rfl rfl (fun hc => ?_) (fun hc => ?_) <;> (try exact absA) <;> (fail_if_success (change true = true at hc)) <;> (fail_if_success (change false = false at hc))))); all_goals (refine QL_nil (fun w hSt => ?_))) | (refine stepG ?_ ?_ <;> intro hc <;> (try exact absA) <;> (fail_if_success (change true = true at hc)) <;> (fail_if_success (change false = false at hc))) | fail)
    all_goals try (exfalso; omega)
    exact end_of (resc2 rfl hT rfl rfl rfl (hSt.at 0 rfl) rfl rfl) ⟨_, _, _, _, _, _, _, _, dec_long hl, rfl, hSt.nil⟩
  · replace hl : s.length ≤ 8100 := by omega
    repeat' (first | refine stepA ?_ | (refine stepS ?_; clear hSt; intro w hSt; dsimp only [spl, List.set] at hSt) | (refine stepB ?_; clear hSt; intro w nb hnb hSt; dsimp only [zcells, List.nil_append, List.cons_append] at hSt) | (refine W_quiet hT (by decide +kernel) hSt ?_; clear hSt; (repeat' (first | (apply QL_ev rfl rfl; (intro w hSt; (first | exact Ev_auto))) | refine QL_pass rfl rfl ?_ | (refine QL_guardP rfl rfl (fun hc => ?_) (fun hc => ?_) <;> try exact absA) | (refine QL_guard rfl rfl (fun hc => ?_) (fun hc => ?_) <;> (try exact absA) <;> (fail_if_success (change true = true at hc)) <;> (fail_if_success (change false = false at hc))))); all_goals (refine QL_nil (fun w hSt => ?_))) | (refine stepG ?_ ?_ <;> intro hc <;> (try exact absA) <;> (fail_if_success (change true = true at hc)) <;> (fail_if_success (change false = false at hc))) | fail)
    all_goals try (exfalso; omega)
    refine W_loop2 (fun k (i : Nat) (r : List UInt8) w => k = 5 - i ∧ i ≤ 5 ∧ r.length ≤ 8100 ∧ ∃ ns : List Int, ns.length = i ∧ numsP numG 5 s = (numsP numG (5 - i) r).map (fun x => (ns ++ x.1, x.2)) ∧ St w0 NoneS [_, (nb, blk (ns.map I ++ List.replicate (5 - i) (I 0)) _)] w) (fun i r => [(14, I (i : Int)), (6, S r), (5, B true)]) 5 0 s rfl (by (repeat (first | exact Str.nil _ | apply Str.drop rfl | apply Str.keepU rfl | apply Str.keep rfl))) ⟨rfl, by omega, hl, [], rfl, by simp, hSt⟩ (by (repeat (first | exact Sub.nil _ | refine Sub.cons rfl ?_))) ?_
    clear hSt
    rintro k i r w ⟨hk, hi, hrl, ns, hns, hpp, hSt⟩ K hK
    by_cases hil : i < 5
    · rw [show 5 - i = (5 - (i + 1)) + 1 by omega, numsP_step numG (5 - (i + 1)) r] at hpp
      have hroom : ∀ n : Nat, n = 5 - i → Nat.blt (0 + ((i : Int)).toNat * 1) (ns.map I ++ List.replicate n (I 0)).length = true := fun n hn => by
        rw [Nat.blt_eq, List.length_append, List.length_map, List.length_replicate]; omega
      cases hn : numG r 32 with
      | none =>
        rw [hn] at hpp
        repeat' (first | (refine WL_isCall (f := 70) ?_; refine WL_call (ok_call hT rfl) rfl rfl rfl (number_at (hV.later hSt) hrl hn) ?_; rintro v w' ⟨rfl, hc2⟩; replace hSt := hSt.call0 hc2; clear hc2) | (apply WL_ev rfl rfl; exact Ev_indexAddrArr hT rfl rfl rfl (by omega) (by omega)) | (refine WL_store1 hT rfl rfl 1 rfl rfl hSt rfl rfl (hroom _ rfl) ?_; clear hSt; intro w hSt; dsimp only [List.set] at hSt) | refine stepA ?_ | (refine stepS ?_; clear hSt; intro w hSt; dsimp only [spl, List.set] at hSt) | (refine stepB ?_; clear hSt; intro w nb hnb hSt; dsimp only [zcells, List.nil_append, List.cons_append] at hSt) | (refine W_quiet hT (by decide +kernel) hSt ?_; clear hSt; (repeat' (first | (apply QL_ev rfl rfl; (intro w hSt; (first | (exact Ev_indexAddrArr hT rfl rfl rfl (by omega) (by omega)) | exact Ev_auto))) | refine QL_pass rfl rfl ?_ | (refine QL_guardP rfl rfl (fun hc => ?_) (fun hc => ?_) <;> try exact absA) | (refine QL_guard rfl rfl (fun hc => ?_) (fun hc => ?_) <;> (try exact absA) <;> (fail_if_success (change true = true at hc)) <;> (fail_if_success (change false = false at hc))))); all_goals (refine QL_nil (fun w hSt => ?_))) | (refine stepG ?_ ?_ <;> intro hc <;> (try exact absA) <;> (fail_if_success (change true = true at hc)) <;> (fail_if_success (change false = false at hc))) | fail)
        all_goals try (exfalso; omega)
        exact end_of (resc2 rfl hT rfl rfl rfl (hSt.at 0 rfl) rfl rfl) ⟨_, _, _, _, _, _, _, _, dec_bad goodG hl (.nums hpp), rfl, hSt.nil⟩
      | some x =>
        obtain ⟨n, r'⟩ := x
        rw [hn] at hpp
        have hrl' := (numG_len hn).1
        repeat' (first | (refine WL_isCall (f := 70) ?_; refine WL_call (ok_call hT rfl) rfl rfl rfl (number_at (hV.later hSt) hrl hn) ?_; rintro v w' ⟨rfl, hc2⟩; replace hSt := hSt.call0 hc2; clear hc2) | (apply WL_ev rfl rfl; exact Ev_indexAddrArr hT rfl rfl rfl (by omega) (by omega)) | (refine WL_store1 hT rfl rfl 1 rfl rfl hSt rfl rfl (hroom _ rfl) ?_; clear hSt; intro w hSt; replace hSt := St.setArr hns hil n hSt) | refine stepA ?_ | (refine stepS ?_; clear hSt; intro w hSt; dsimp only [spl, List.set] at hSt) | (refine stepB ?_; clear hSt; intro w nb hnb hSt; dsimp only [zcells, List.nil_append, List.cons_append] at hSt) | (refine W_quiet hT (by decide +kernel) hSt ?_; clear hSt; (repeat' (first | (apply QL_ev rfl rfl; (intro w hSt; (first | (exact Ev_indexAddrArr hT rfl rfl rfl (by omega) (by omega)) | exact Ev_auto))) | refine QL_pass rfl rfl ?_ | (refine QL_guardP rfl rfl (fun hc => ?_) (fun hc => ?_) <;> try exact absA) | (refine QL_guard rfl rfl (fun hc => ?_) (fun hc => ?_) <;> (try exact absA) <;> (fail_if_success (change true = true at hc)) <;> (fail_if_success (change false = false at hc))))); all_goals (refine QL_nil (fun w hSt => ?_))) | (refine stepG ?_ ?_ <;> intro hc <;> (try exact absA) <;> (fail_if_success (change true = true at hc)) <;> (fail_if_success (change false = false at hc))) | fail)
        refine At_loop2 hK (k' := 5 - (i + 1)) (i + 1) r' (by omega) ⟨rfl, by omega, by omega, ns ++ [n], by simp [hns], ?_, hSt⟩ (by (repeat (first | exact Sub.nil _ | refine Sub.cons rfl ?_)))
        rw [hpp]
        simp only [Option.map_map]
        congr 1
        funext x
        simp
    · have h5 : i = 5 := by omega
      subst h5
      have hp5 : numsP numG 5 s = some (ns, r) := by rw [hpp]; simp [numsP]
      match ns, hns, hp5, hSt with
      | [c, n, st, a, e], _, hp5, hSt =>
      simp only [List.map_cons, List.map_nil, Nat.sub_self, List.replicate_zero, List.append_nil] at hSt
      cases h1 : textP numG r with
      | none =>
        repeat' (first | (refine WL_isCall (f := 71) ?_; refine WL_call (ok_call hT rfl) rfl rfl rfl (gtext_at (hV.later hSt) hrl h1) ?_; rintro v w' ⟨rfl, hc2⟩; replace hSt := hSt.call0 hc2; clear hc2) | (apply WL_ev rfl rfl; exact Ev_indexAddrArr hT rfl rfl rfl (by omega) (by omega)) | refine stepA ?_ | (refine stepS ?_; clear hSt; intro w hSt; dsimp only [spl, List.set] at hSt) | (refine stepB ?_; clear hSt; intro w nb hnb hSt; dsimp only [zcells, List.nil_append, List.cons_append] at hSt) | (refine W_quiet hT (by decide +kernel) hSt ?_; clear hSt; (repeat' (first | (apply QL_ev rfl rfl; (intro w hSt; (first | (exact Ev_indexAddrArr hT rfl rfl rfl (by omega) (by omega)) | exact Ev_auto))) | refine QL_pass rfl rfl ?_ | (refine QL_guardP rfl rfl (fun hc => ?_) (fun hc => ?_) <;> try exact absA) | (refine QL_guard rfl rfl (fun hc => ?_) (fun hc => ?_) <;> (try exact absA) <;> (fail_if_success (change true = true at hc)) <;> (fail_if_success (change false = false at hc))))); all_goals (refine QL_nil (fun w hSt => ?_))) | (refine stepG ?_ ?_ <;> intro hc <;> (try exact absA) <;> (fail_if_success (change true = true at hc)) <;> (fail_if_success (change false = false at hc))) | fail)
        exact end_of (resc2 rfl hT rfl rfl rfl (hSt.at 0 rfl) rfl rfl) ⟨_, _, _, _, _, _, _, _, dec_bad goodG hl (.rq _ _ hp5 h1), rfl, hSt.nil⟩
      | some y =>
        obtain ⟨q, r1⟩ := y
        have hl1 := textP_len h1
        cases h2 : textP numG r1 with
        | none =>
          repeat' (first | (refine WL_isCall (f := 71) ?_; refine WL_call (ok_call hT rfl) rfl rfl rfl (gtext_at (hV.later hSt) hrl h1) ?_; rintro v w' ⟨rfl, hc2⟩; replace hSt := hSt.call0 hc2; clear hc2) | (refine WL_isCall (f := 71) ?_; refine WL_call (ok_call hT rfl) rfl rfl rfl (gtext_at (hV.later hSt) (by omega) h2) ?_; rintro v w' ⟨rfl, hc2⟩; replace hSt := hSt.call0 hc2; clear hc2) | (apply WL_ev rfl rfl; exact Ev_indexAddrArr hT rfl rfl rfl (by omega) (by omega)) | refine stepA ?_ | (refine stepS ?_; clear hSt; intro w hSt; dsimp only [spl, List.set] at hSt) | (refine stepB ?_; clear hSt; intro w nb hnb hSt; dsimp only [zcells, List.nil_append, List.cons_append] at hSt) | (refine W_quiet hT (by decide +kernel) hSt ?_; clear hSt; (repeat' (first | (apply QL_ev rfl rfl; (intro w hSt; (first | (exact Ev_indexAddrArr hT rfl rfl rfl (by omega) (by omega)) | exact Ev_auto))) | refine QL_pass rfl rfl ?_ | (refine QL_guardP rfl rfl (fun hc => ?_) (fun hc => ?_) <;> try exact absA) | (refine QL_guard rfl rfl (fun hc => ?_) (fun hc => ?_) <;> (try exact absA) <;> (fail_if_success (change true = true at hc)) <;> (fail_if_success (change false = false at hc))))); all_goals (refine QL_nil (fun w hSt => ?_))) | (refine stepG ?_ ?_ <;> intro hc <;> (try exact absA) <;> (fail_if_success (change true = true at hc)) <;> (fail_if_success (change false = false at hc))) | fail)
          all_goals try (exfalso; omega)
          exact end_of (resc2 rfl hT rfl rfl rfl (hSt.at 0 rfl) rfl rfl) ⟨_, _, _, _, _, _, _, _, dec_bad goodG hl (.rs _ _ _ _ hp5 h1 h2), rfl, hSt.nil⟩
        | some z =>
          obtain ⟨x, r2⟩ := z
          have hrd := Rdg.ok c n st a e r q r1 x r2 hp5 h1 h2
          repeat' (first | (refine WL_isCall (f := 71) ?_; refine WL_call (ok_call hT rfl) rfl rfl rfl (gtext_at (hV.later hSt) hrl h1) ?_; rintro v w' ⟨rfl, hc2⟩; replace hSt := hSt.call0 hc2; clear hc2) | (refine WL_isCall (f := 71) ?_; refine WL_call (ok_call hT rfl) rfl rfl rfl (gtext_at (hV.later hSt) (by omega) h2) ?_; rintro v w' ⟨rfl, hc2⟩; replace hSt := hSt.call0 hc2; clear hc2) | (apply WL_ev rfl rfl; exact Ev_indexAddrArr hT rfl rfl rfl (by omega) (by omega)) | (refine WL_isCall (f := 60) ?_; refine WL_call (ok_call hT rfl) rfl rfl rfl (encode_any (hV.later hSt) c n st a e q x) ?_; rintro v w' ⟨rfl, hc2⟩; replace hSt := hSt.call0 hc2; clear hc2) | refine stepA ?_ | (refine stepS ?_; clear hSt; intro w hSt; dsimp only [spl, List.set] at hSt) | (refine stepB ?_; clear hSt; intro w nb hnb hSt; dsimp only [zcells, List.nil_append, List.cons_append] at hSt) | (refine W_quiet hT (by decide +kernel) hSt ?_; clear hSt; (repeat' (first | (apply QL_ev rfl rfl; (intro w hSt; (first | (exact Ev_indexAddrArr hT rfl rfl rfl (by omega) (by omega)) | exact Ev_auto))) | refine QL_pass rfl rfl ?_ | (refine QL_guardP rfl rfl (fun hc => ?_) (fun hc => ?_) <;> try exact absA) | (refine QL_guard rfl rfl (fun hc => ?_) (fun hc => ?_) <;> (try exact absA) <;> (fail_if_success (change true = true at hc)) <;> (fail_if_success (change false = false at hc))))); all_goals (refine QL_nil (fun w hSt => ?_))) | (refine stepG ?_ ?_ <;> intro hc <;> (try exact absA) <;> (fail_if_success (change true = true at hc)) <;> (fail_if_success (change false = false at hc))) | fail)
          · exact end_of (resc2 rfl hT rfl rfl rfl (hSt.at 0 rfl) rfl rfl) ⟨_, _, _, _, _, _, _, _, dec_rest goodG hl hrd hc, rfl, hSt.nil⟩
          · exact end_of (resc2 rfl hT rfl rfl rfl (hSt.at 0 rfl) rfl rfl) ⟨_, _, _, _, _, _, _, _, dec_other goodG hl hrd hc, rfl, hSt.nil⟩
          · exact end_of (resc2 rfl hT rfl rfl rfl (hSt.at 0 rfl) rfl rfl) ⟨_, _, _, _, _, _, _, _, dec_good goodG hrd (by simpa using hc), rfl, hSt.nil⟩
end Go.Proofs.YthkimkgphaiagaaGreatDoor
