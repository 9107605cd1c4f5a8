/- Statements that draw their order and hold calls that change nothing, beside reads and new memory, and whose last operations wait for all before them. No conditions. -/
import Derived.Test.YtmlbgdhkacajaaaDoorEnt
import Derived.Deep.Quiet
namespace Go.Proofs.YtmlbgdhkacajaaaDoor
open Go.RowKit
set_option linter.unusedVariables false
set_option linter.unusedSimpArgs false
set_option linter.unusedSectionVars false

section
variable {P : Program} {ops : Array Oper} {md : Region.Mode} {S : World → Prop} {Q : Exit → Act → World → Prop}

def preB (md : Region.Mode) (ops : Array Oper) (i : Nat) : Nat → Nat → Bool
  | 0, _ => false
  | f + 1, j => match ops[j]? with
    | some o => o.after.any fun e => Region.binds md e && (e.on == i || preB md ops i f e.on)
    | none => false
theorem preB_listed {i n : Nat} {listed : Array Bool} (inv : HeadInv md ops n listed) : ∀ (f j : Nat), listed.getD j false = true → preB md ops i f j = true → listed.getD i false = true
  | 0, _, _, h => by simp [preB] at h
  | f + 1, j, hl, h => by
    simp only [preB] at h
    split at h
    · rename_i o ho
      obtain ⟨e, he, hb⟩ := Array.any_eq_true'.1 h
      simp only [Bool.and_eq_true, Bool.or_eq_true, beq_iff_eq] at hb
      have hle := inv.closed j o ho hl e he hb.1
      rcases hb.2 with h2 | h2
      · exact h2 ▸ hle
      · exact preB_listed inv f e.on hle h2
    · cases h
theorem preB_ready {i n f j : Nat} {listed : Array Bool} (inv : HeadInv md ops n listed) (hr : j ∈ Region.ready md ops listed) (h : preB md ops i f j = true) : listed.getD i false = true := by
  obtain ⟨_, o, ho, hall⟩ := mem_ready.1 hr
  cases f with
  | zero => simp [preB] at h
  | succ f =>
    simp only [preB, ho] at h
    obtain ⟨e, he, hb⟩ := Array.any_eq_true'.1 h
    simp only [Bool.and_eq_true, Bool.or_eq_true, beq_iff_eq] at hb
    have hle := hall e he hb.1
    rcases hb.2 with h2 | h2
    · exact h2 ▸ hle
    · exact preB_listed inv f e.on hle h2

theorem YieldsIf.same {o : Oper} {v v' : Value} {a : Act} {w : World} (h : YieldsIf P ops S o v a) (h' : YieldsIf P ops S o v' a) (hS : S w) : v = v' := by
  rcases h with ⟨h1, h2⟩ | ⟨h1, h2⟩ <;> rcases h' with ⟨h3, h4⟩ | ⟨h3, h4⟩
  · have := (h2 w hS).symm.trans (h4 w hS)
    injection this with e _
    injection e
  · rw [h1] at h3; cases h3
  · rw [h1] at h3; cases h3
  · rw [h2, h4]
theorem YieldsIn.wpOp {i : Nat} {o : Oper} {v : Value} {a : Act} (hi : ops[i]? = some o) (hy : YieldsIn P ops S o v a) {K : Act → World → Prop} {w : World} (hS : S w) (h : ∀ w', S w' → K (a.put o.dst v) w') : wpOp P ops Q i K a w :=
  wpOp_of_qOp (C := S) (K := fun a' => ∀ w', S w' → K a' w') hS (fun a w' hw' h => h w' hw') (hy.qOp hi h)

/-- one operation, by its kind: new memory or a write (some true), a read (some false), a call that changes nothing (none) -/
def stepH (P : Program) (ops : Array Oper) (S : World → Prop) (Q : Exit → Act → World → Prop) (b : Option Bool) (i : Nat) (K : Act → World → Prop) (a : Act) (w : World) : Prop :=
  match b with
  | some true => wpOp P ops Q i K a w
  | some false => ∃ o v, ops[i]? = some o ∧ YieldsIf P ops S o v a ∧ S w ∧ K (a.put o.dst v) w
  | none => ∃ o v, ops[i]? = some o ∧ YieldsIn P ops S o v a ∧ S w ∧ ∀ w', S w' → K (a.put o.dst v) w'
theorem stepH.wpOp {b : Option Bool} {i : Nat} {K : Act → World → Prop} {a : Act} {w : World} (h : stepH P ops S Q b i K a w) : wpOp P ops Q i K a w := by
  match b, h with
  | some true, h => exact h
  | some false, ⟨o, v, ho, hy, hS, hK⟩ => exact hy.wpOp ho hS hK
  | none, ⟨o, v, ho, hy, hS, hK⟩ => exact YieldsIn.wpOp ho hy hS hK

def wpAnyH (P : Program) (md : Region.Mode) (ops : Array Oper) (Q : Exit → Act → World → Prop) (S : World → Prop) (kd : Nat → Option Bool) (n : Nat) (LL : Array Bool → Act → World → Prop) : Nat → Array Bool → Act → World → Prop
  | 0, listed, a, w => LL listed a w
  | f + 1, listed, a, w => Region.ready md ops listed ≠ [] ∧ ∀ i ∈ Region.ready md ops listed, i < n ∧ stepH P ops S Q (kd i) i (fun a' w' => S w' ∧ wpAnyH P md ops Q S kd n LL f (listed.setIfInBounds i true) a' w') a w

theorem wpAny_of_headH {kd : Nat → Option Bool} {n g : Nat} {LL : Array Bool → Act → World → Prop} (hL : ∀ listed a w, LL listed a w → wpAny P md ops Q g listed a w) :
    ∀ (f : Nat) (listed : Array Bool) (a : Act) (w : World), wpAnyH P md ops Q S kd n LL f listed a w → wpAny P md ops Q (f + g) listed a w
  | 0, listed, a, w, h => by rw [Nat.zero_add]; exact hL _ _ _ h
  | f + 1, listed, a, w, h => by
    rw [show f + 1 + g = (f + g) + 1 by omega]
    exact ⟨fun h0 => absurd h0 h.1, fun i hi => wpOp_mono (fun a' w' h' => wpAny_of_headH hL f _ a' w' h'.2) (h.2 i hi).2.wpOp⟩

section
variable {kd : Nat → Option Bool} {n i : Nat} {oi : Oper} {v : Value} {LL : Array Bool → Act → World → Prop} (hi : ops[i]? = some oi) (hsel : ∀ (j : Nat) (o : Oper) cs b, ops[j]? = some o → o.op ≠ .select cs b)
    (hs : Region.sinkB md ops n = true) (hc : Region.chainB md ops n = true) (hn : n < ops.size) (hin : i < n) (hQ : ∀ c a w, ¬ Q (.panic c) a w)
    (hdone : ∀ listed a w, LL listed a w → ∀ j ∈ Region.ready md ops listed, n ≤ j)
include hi hsel hs hc hn hin hQ hdone
theorem wpAnyH_pure (hki : kd i = some false) :
    ∀ (f : Nat) (listed : Array Bool) (a : Act) (w : World), HeadInv md ops n listed →
      (∀ j oj, ops[j]? = some oj → j ≠ i → listed.getD j true = false → (∀ e ∈ oj.after, Region.binds md e = true → e.on ≠ i) → oi.apart ops oj = true) →
      i ∈ Region.ready md ops listed → YieldsIf P ops S oi v a → S w →
      wpAnyH P md ops Q S kd n LL f (listed.setIfInBounds i true) (a.put oi.dst v) w → wpAnyH P md ops Q S kd n LL (f + 1) listed a w := by
  intro f
  induction f with
  | zero =>
    intro listed a w inv _ hr hy hS H
    have hun := (mem_ready.1 hr).1
    refine ⟨fun h => (by rw [h] at hr; cases hr), fun j hj => ?_⟩
    have hjn : j < n := by
      rcases Nat.lt_or_ge j n with h | h
      · exact h
      · exact absurd hj (tail_waits hs hc hn inv _ i rfl hin hun j h)
    refine ⟨hjn, ?_⟩
    by_cases hji : j = i
    · subst hji; rw [hki]; exact ⟨oi, v, hi, hy, hS, hS, H⟩
    · have := hdone _ _ _ H j (ready_mono hj hji)
      omega
  | succ f ih =>
    intro listed a w inv hfree hr hy hS H
    have hun := (mem_ready.1 hr).1
    refine ⟨fun h => (by rw [h] at hr; cases hr), fun j hj => ?_⟩
    have hjn : j < n := by
      rcases Nat.lt_or_ge j n with h | h
      · exact h
      · exact absurd hj (tail_waits hs hc hn inv _ i rfl hin hun j h)
    refine ⟨hjn, ?_⟩
    by_cases hji : j = i
    · subst hji; rw [hki]; exact ⟨oi, v, hi, hy, hS, hS, H⟩
    · have h1 := (H.2 j (ready_mono hj hji)).2
      obtain ⟨hjun, oj, hoj, hall⟩ := mem_ready.1 hj
      have hnot : ∀ e ∈ oj.after, Region.binds md e = true → e.on ≠ i := fun e he hb heq => by
        have h1 := hall e he hb
        rw [heq, getD_both hun] at h1
        cases h1
      have hap := hfree j oj hoj hji hjun hnot
      obtain ⟨p1, p2, p3⟩ := Oper.apart_spec hap
      have hfree' : ∀ k ok, ops[k]? = some ok → k ≠ i → (listed.setIfInBounds j true).getD k true = false →
          (∀ e ∈ ok.after, Region.binds md e = true → e.on ≠ i) → oi.apart ops ok = true := fun k ok hk hki hun hno => by
        refine hfree k ok hk hki ?_ hno
        by_cases hjk : j = k
        · subst hjk; exact hjun
        · rw [getD_set_ne true hjk] at hun; exact hun
      have keep : ∀ u, YieldsIf P ops S oi v (a.put oj.dst u) := fun u => hy.of_same (execOp_put oi (fun cs b => hsel i oi cs b hi) a oj.dst u p3) (wanted_put oi a oj.dst u p3)
      have next : ∀ (u : Value) (w' : World), S w' → wpAnyH P md ops Q S kd n LL f ((listed.setIfInBounds i true).setIfInBounds j true) ((a.put oi.dst v).put oj.dst u) w' →
          wpAnyH P md ops Q S kd n LL (f + 1) (listed.setIfInBounds j true) (a.put oj.dst u) w' := fun u w' hw' h => by
        refine ih (listed.setIfInBounds j true) _ w' (inv.set hj hjn) hfree' (ready_mono hr (Ne.symm hji)) (keep u) hw' ?_
        rw [Array.setIfInBounds_comm _ _ hji, ← Act.put_comm a v u p2]
        exact h
      unfold stepH at h1 ⊢
      split
      · rename_i hk
        simp only [hk] at h1
        have h2 := wpOp_putIf hoj hap (fun cs b => hsel i oi cs b hi) (fun cs b => hsel j oj cs b hoj) (fun c a w h => absurd h (hQ _ _ _)) hy h1
        refine wpOp_mono (fun a' w' h3 => ⟨h3.2.1, ih (listed.setIfInBounds j true) a' w' (inv.set hj hjn) hfree' (ready_mono hr (Ne.symm hji)) h3.1 h3.2.1 ?_⟩) h2
        rw [Array.setIfInBounds_comm _ _ hji]
        exact h3.2.2
      · rename_i hk
        simp only [hk] at h1
        obtain ⟨o, u, ho, hy2, hS2, hS3, hK⟩ := h1
        have e : o = oj := Option.some.inj (ho.symm.trans hoj)
        subst e
        exact ⟨o, u, ho, hy2.of_same (execOp_put o (fun cs b => hsel j o cs b hoj) a oi.dst v p1).symm (wanted_put o a oi.dst v p1).symm, hS, hS, next u w hS hK⟩
      · rename_i hk
        simp only [hk] at h1
        obtain ⟨o, u, ho, hy2, hS2, hK⟩ := h1
        have e : o = oj := Option.some.inj (ho.symm.trans hoj)
        subst e
        exact ⟨o, u, ho, hy2.of_same (execOp_put o (fun cs b => hsel j o cs b hoj) a oi.dst v p1).symm (wanted_put o a oi.dst v p1).symm, hS, fun w' hw' => ⟨hw', next u w' hw' (hK w' hw').2⟩⟩

theorem wpAnyH_call {F : Nat} (hki : kd i = none) (hpre : ∀ j, j < n → kd j = some true → preB md ops i F j = true) :
    ∀ (f : Nat) (listed : Array Bool) (a : Act) (w : World), HeadInv md ops n listed →
      (∀ j oj, ops[j]? = some oj → j ≠ i → listed.getD j true = false → (∀ e ∈ oj.after, Region.binds md e = true → e.on ≠ i) → oi.apart ops oj = true) →
      i ∈ Region.ready md ops listed → YieldsIn P ops S oi v a → S w →
      (∀ w', S w' → wpAnyH P md ops Q S kd n LL f (listed.setIfInBounds i true) (a.put oi.dst v) w') → wpAnyH P md ops Q S kd n LL (f + 1) listed a w := by
  intro f
  induction f with
  | zero =>
    intro listed a w inv _ hr hy hS H
    have hun := (mem_ready.1 hr).1
    refine ⟨fun h => (by rw [h] at hr; cases hr), fun j hj => ?_⟩
    have hjn : j < n := by
      rcases Nat.lt_or_ge j n with h | h
      · exact h
      · exact absurd hj (tail_waits hs hc hn inv _ i rfl hin hun j h)
    refine ⟨hjn, ?_⟩
    by_cases hji : j = i
    · subst hji; rw [hki]; exact ⟨oi, v, hi, hy, hS, fun w' hw' => ⟨hw', H w' hw'⟩⟩
    · have := hdone _ _ _ (H w hS) j (ready_mono hj hji)
      omega
  | succ f ih =>
    intro listed a w inv hfree hr hy hS H
    have hun := (mem_ready.1 hr).1
    refine ⟨fun h => (by rw [h] at hr; cases hr), fun j hj => ?_⟩
    have hjn : j < n := by
      rcases Nat.lt_or_ge j n with h | h
      · exact h
      · exact absurd hj (tail_waits hs hc hn inv _ i rfl hin hun j h)
    refine ⟨hjn, ?_⟩
    by_cases hji : j = i
    · subst hji; rw [hki]; exact ⟨oi, v, hi, hy, hS, fun w' hw' => ⟨hw', H w' hw'⟩⟩
    · have h1 := fun w' hw' => ((H w' hw').2 j (ready_mono hj hji)).2
      obtain ⟨hjun, oj, hoj, hall⟩ := mem_ready.1 hj
      have hnot : ∀ e ∈ oj.after, Region.binds md e = true → e.on ≠ i := fun e he hb heq => by
        have h1 := hall e he hb
        rw [heq, getD_both hun] at h1
        cases h1
      have hap := hfree j oj hoj hji hjun hnot
      obtain ⟨p1, p2, p3⟩ := Oper.apart_spec hap
      have hfree' : ∀ k ok, ops[k]? = some ok → k ≠ i → (listed.setIfInBounds j true).getD k true = false →
          (∀ e ∈ ok.after, Region.binds md e = true → e.on ≠ i) → oi.apart ops ok = true := fun k ok hk hki hun hno => by
        refine hfree k ok hk hki ?_ hno
        by_cases hjk : j = k
        · subst hjk; exact hjun
        · rw [getD_set_ne true hjk] at hun; exact hun
      have keep : ∀ u, YieldsIn P ops S oi v (a.put oj.dst u) := fun u => hy.of_same (execOp_put oi (fun cs b => hsel i oi cs b hi) a oj.dst u p3) (wanted_put oi a oj.dst u p3)
      have next : ∀ (u : Value) (w' : World), S w' → (∀ w'', S w'' → wpAnyH P md ops Q S kd n LL f ((listed.setIfInBounds i true).setIfInBounds j true) ((a.put oi.dst v).put oj.dst u) w'') →
          wpAnyH P md ops Q S kd n LL (f + 1) (listed.setIfInBounds j true) (a.put oj.dst u) w' := fun u w' hw' h => by
        refine ih (listed.setIfInBounds j true) _ w' (inv.set hj hjn) hfree' (ready_mono hr (Ne.symm hji)) (keep u) hw' (fun w'' hw'' => ?_)
        rw [Array.setIfInBounds_comm _ _ hji, ← Act.put_comm a v u p2]
        exact h w'' hw''
      unfold stepH at h1 ⊢
      split
      · rename_i hk
        have := preB_ready inv hj (hpre j hjn hk)
        rw [getD_both hun] at this
        cases this
      · rename_i hk
        simp only [hk] at h1
        obtain ⟨o, u, ho, hy2, hS2, hS3, hK⟩ := h1 w hS
        have e : o = oj := Option.some.inj (ho.symm.trans hoj)
        subst e
        refine ⟨o, u, ho, hy2.of_same (execOp_put o (fun cs b => hsel j o cs b hoj) a oi.dst v p1).symm (wanted_put o a oi.dst v p1).symm, hS, hS, next u w hS (fun w'' hw'' => ?_)⟩
        obtain ⟨o', u', ho', hy', _, _, hK'⟩ := h1 w'' hw''
        have e : o' = o := Option.some.inj (ho'.symm.trans hoj)
        subst e
        rw [YieldsIf.same hy2 hy' hS]
        exact hK'
      · rename_i hk
        simp only [hk] at h1
        obtain ⟨o, u, ho, hy2, hS2, hK⟩ := h1 w hS
        have e : o = oj := Option.some.inj (ho.symm.trans hoj)
        subst e
        exact ⟨o, u, ho, hy2.of_same (execOp_put o (fun cs b => hsel j o cs b hoj) a oi.dst v p1).symm (wanted_put o a oi.dst v p1).symm, hS, fun w' hw' => ⟨hw', next u w' hw' (fun w'' hw'' => (hK w'' hw'').2)⟩⟩
end

/-- an order of one's own: one operation after the other, by kind; or two that make memory, either of which may come first -/
inductive OTree where
  | done
  | op (k : Nat) (b : Option Bool) (t : OTree)
  | fork (k1 : Nat) (t1 : OTree) (k2 : Nat) (t2 : OTree)
def OTree.depth : OTree → Nat
  | .done => 0
  | .op _ _ t => t.depth + 1
  | .fork _ t1 _ _ => t1.depth + 1
def OTree.kds : OTree → List (Nat × Option Bool)
  | .done => []
  | .op k b t => (k, b) :: t.kds
  | .fork k1 t1 _ _ => (k1, some true) :: t1.kds
def kdOf (os : List (Nat × Option Bool)) (i : Nat) : Option Bool := match os.find? (fun x => x.1 == i) with
  | some x => x.2
  | none => some true
def lexT (md : Region.Mode) (ops : Array Oper) (ks : List (Nat × Option Bool)) (g n : Nat) : OTree → Array Bool → Bool
  | .done, listed => Region.seqB md ops g n listed
  | .op k b t, listed => decide (k < n) && decide (kdOf ks k = b) && (match b with
      | some true => decide (Region.ready md ops listed = [k])
      | some false => (Region.ready md ops listed).contains k && Region.free md ops listed k
      | none => (Region.ready md ops listed).contains k && Region.free md ops listed k && (List.range n).all fun j => !decide (kdOf ks j = some true) || preB md ops k n j)
    && lexT md ops ks g n t (listed.setIfInBounds k true)
  | .fork k1 t1 k2 t2, listed => decide (k1 < n) && decide (k2 < n) && decide (kdOf ks k1 = some true) && decide (kdOf ks k2 = some true) && decide (Region.ready md ops listed = [k1, k2]) && decide (t1.depth = t2.depth)
    && lexT md ops ks g n t1 (listed.setIfInBounds k1 true) && lexT md ops ks g n t2 (listed.setIfInBounds k2 true)
def lexTB (md : Region.Mode) (ops : Array Oper) (t : OTree) : Bool :=
  Region.noSelect ops && decide (t.depth < ops.size) && Region.sinkB md ops t.depth && Region.chainB md ops t.depth && lexT md ops t.kds (ops.size - t.depth) t.depth t (Array.replicate ops.size false)

def impT (P : Program) (ops : Array Oper) (S : World → Prop) (k : Nat) (N : Act → World → Prop) (a : Act) (w : World) : Prop := ∃ o, ops[k]? = some o ∧ wpList P ops (fun e a' w' => e = .normal ∧ S w' ∧ N a' w') [o] a w
def wpTree (P : Program) (ops : Array Oper) (S : World → Prop) (K : Act → World → Prop) : OTree → Act → World → Prop
  | .done, a, w => K a w
  | .op k (some true) t, a, w => impT P ops S k (wpTree P ops S K t) a w
  | .op k (some false) t, a, w => ∃ o v, ops[k]? = some o ∧ YieldsIf P ops S o v a ∧ S w ∧ wpTree P ops S K t (a.put o.dst v) w
  | .op k none t, a, w => ∃ o v, ops[k]? = some o ∧ YieldsIn P ops S o v a ∧ S w ∧ ∀ w', S w' → wpTree P ops S K t (a.put o.dst v) w'
  | .fork k1 t1 k2 t2, a, w => impT P ops S k1 (wpTree P ops S K t1) a w ∧ impT P ops S k2 (wpTree P ops S K t2) a w

theorem impT.wpOp {k : Nat} {N N' : Act → World → Prop} {a : Act} {w : World} (h : impT P ops S k N a w) (hN : ∀ a w, N a w → N' a w) : wpOp P ops Q k (fun a' w' => S w' ∧ N' a' w') a w := by
  obtain ⟨o, h0, h⟩ := h
  unfold Go.wpOp
  simp only [h0]
  simp only [wpList] at h
  split
  · rename_i hw
    simp only [hw, if_true] at h
    rcases h with h | ⟨_, x, y, hq, _⟩
    · refine .inl (Oper.wp_mono (fun a' w' hk' => ?_) (wp_weaken (Q1 := fun e a' w' => e = .normal ∧ S w' ∧ N a' w') (fun c a w hq => by cases hq.1) (fun hq => by obtain ⟨a, w, hq, _⟩ := hq; cases hq) h))
      exact ⟨hk'.2.1, hN _ _ hk'.2.2⟩
    · cases hq
  · rename_i hw
    simp only [hw] at h
    exact ⟨h.2.1, hN _ _ h.2.2⟩

theorem wpAnyH_lexT {ks : List (Nat × Option Bool)} {n g : Nat} {K : Act → World → Prop} (hsel : Region.noSelect ops = true) (hs : Region.sinkB md ops n = true) (hc : Region.chainB md ops n = true) (hn : n < ops.size) (hQ : ∀ c a w, ¬ Q (.panic c) a w) :
    ∀ (t : OTree) (listed : Array Bool) (a : Act) (w : World), HeadInv md ops n listed → lexT md ops ks g n t listed = true → wpTree P ops S K t a w →
    wpAnyH P md ops Q S (kdOf ks) n (fun listed' a' w' => Region.seqB md ops g n listed' = true ∧ K a' w') t.depth listed a w
  | .done, listed, a, w, _, hB, h => ⟨by simpa [lexT] using hB, h⟩
  | .op k b t, listed, a, w, inv, hB, h => by
    simp only [lexT, Bool.and_eq_true, decide_eq_true_eq] at hB
    obtain ⟨⟨⟨hkn, hkd⟩, hb⟩, hB'⟩ := hB
    have hnext : ∀ {a' : Act} {w' : World} (hr : k ∈ Region.ready md ops listed), wpTree P ops S K t a' w' → wpAnyH P md ops Q S (kdOf ks) n (fun listed' a' w' => Region.seqB md ops g n listed' = true ∧ K a' w') t.depth (listed.setIfInBounds k true) a' w' := fun hr h' =>
      wpAnyH_lexT hsel hs hc hn hQ t _ _ _ (inv.set hr hkn) hB' h'
    match b, hb, hkd, h with
    | some false, hb, hkd, h =>
      simp only [Bool.and_eq_true] at hb
      have hr : k ∈ Region.ready md ops listed := by simpa using hb.1
      obtain ⟨o, v, h0, hy, hS, h'⟩ := h
      exact wpAnyH_pure h0 (Region.noSelect_spec hsel) hs hc hn hkn hQ (fun listed' a' w' hL => seqB_ready hL.1) hkd t.depth listed a w inv (Region.free_spec h0 hb.2) hr hy hS (hnext hr h')
    | none, hb, hkd, h =>
      simp only [Bool.and_eq_true] at hb
      have hr : k ∈ Region.ready md ops listed := by simpa using hb.1.1
      obtain ⟨o, v, h0, hy, hS, h'⟩ := h
      exact wpAnyH_call (F := n) h0 (Region.noSelect_spec hsel) hs hc hn hkn hQ (fun listed' a' w' hL => seqB_ready hL.1) hkd (fun j hj hk => by
        have := List.all_eq_true.1 hb.2 j (List.mem_range.2 hj)
        simpa [hk] using this) t.depth listed a w inv (Region.free_spec h0 hb.1.2) hr hy hS (fun w' hw' => hnext hr (h' w' hw'))
    | some true, hb, hkd, h =>
      have hr : Region.ready md ops listed = [k] := by simpa using hb
      have hr' : k ∈ Region.ready md ops listed := by rw [hr]; simp
      refine ⟨by rw [hr]; simp, fun i hi => ?_⟩
      rw [hr] at hi
      have : i = k := by simpa using hi
      subst this
      refine ⟨hkn, ?_⟩
      rw [hkd]
      simp only [stepH]
      simp only [wpTree] at h
      exact h.wpOp (fun a w h' => hnext hr' h')
  | .fork k1 t1 k2 t2, listed, a, w, inv, hB, h => by
    simp only [lexT, Bool.and_eq_true, decide_eq_true_eq] at hB
    obtain ⟨⟨⟨⟨⟨⟨⟨hk1, hk2⟩, hd1⟩, hd2⟩, hr⟩, hdep⟩, hB1⟩, hB2⟩ := hB
    simp only [wpTree] at h
    have hr1 : k1 ∈ Region.ready md ops listed := by rw [hr]; simp
    have hr2 : k2 ∈ Region.ready md ops listed := by rw [hr]; simp
    refine ⟨by rw [hr]; simp, fun i hi => ?_⟩
    rw [hr] at hi
    simp only [List.mem_cons, List.mem_nil_iff, or_false] at hi
    rcases hi with rfl | rfl
    · refine ⟨hk1, ?_⟩
      rw [hd1]
      simp only [stepH]
      exact h.1.wpOp (fun a w h' => wpAnyH_lexT hsel hs hc hn hQ t1 _ _ _ (inv.set hr1 hk1) hB1 h')
    · refine ⟨hk2, ?_⟩
      rw [hd2]
      simp only [stepH]
      exact h.2.wpOp (fun a w h' => by rw [hdep]; exact wpAnyH_lexT hsel hs hc hn hQ t2 _ _ _ (inv.set hr2 hk2) hB2 h')

theorem wp_region_mix {id : Nat} {a : Act} {w : World} {l : List Oper} (t : OTree) (hm : P.follows .mixedOrders = true) (hB : lexTB .any l.toArray t = true)
    (h : wpTree P l.toArray S (fun a' w' => wpList P l.toArray (fun e a w => (∀ c, e ≠ .panic c) ∧ Q e a w) (l.drop t.depth) a' w') t a { w with drawn := w.drawn + 1 }) : (Code.region id l.toArray true).wp P Q a w := by
  refine wp_mono (Q := fun e a w => (∀ c, e ≠ .panic c) ∧ Q e a w) ?_ (fun e a w hq => hq.2)
  simp only [lexTB, Bool.and_eq_true, decide_eq_true_eq] at hB
  obtain ⟨⟨⟨⟨hsel, hn⟩, hs⟩, hc⟩, hlex⟩ := hB
  have hdl : (l.drop t.depth).length = l.toArray.size - t.depth := by simp
  have inv0 : HeadInv .any l.toArray t.depth (Array.replicate l.toArray.size false) :=
    ⟨by simp, fun j oj _ hl => (by rw [getD_replicate_false] at hl; cases hl), fun t _ ht => getD_in (by simpa using ht) (getD_replicate_false _ _)⟩
  have H := wpAnyH_lexT (md := .any) (ks := t.kds) (g := l.toArray.size - t.depth) (Q := fun e a w => (∀ c, e ≠ .panic c) ∧ Q e a w) hsel hs hc hn (fun c a w hq => hq.1 c rfl) t _ a _ inv0 hlex h
  refine wp_region_any hm ?_
  have := wpAny_of_headH (g := l.toArray.size - t.depth) (fun listed a' w' hL => by
    have := wpAny_of_seq (md := .any) (Q' := fun e a w => (∀ c, e ≠ .panic c) ∧ Q e a w) (l.drop t.depth) t.depth listed a' w' (fun j => by simp [List.getElem?_drop]) (by rw [hdl]; exact hL.1) hL.2
    rwa [hdl] at this) _ _ _ _ H
  have hsz : t.depth < l.toArray.size := hn
  rw [show t.depth + (l.toArray.size - t.depth) = l.toArray.size by omega] at this
  exact this
end

/-! ## as goals -/
section
variable {T : Tys} {P : Program} {n : Nat} {ops : Array Oper} {Q : Exit → Act → World → Prop} {L L' : Fr} {w w' w0 w1 : World} {rest : List Oper} {ty t t' : TypeId} {tr tr2 : OTree} {k k2 : Nat}
  {Sx : Nat → Prop} {H HG : List (Nat × Obj)} {pos : String} {af : Array Edge} {g : Option (Nat × Bool)} {K : Act → World → Prop} {xo yo zo : Operand}
structure ML (P : Program) (n : Nat) (ops : Array Oper) (wb : World) (K : Act → World → Prop) (tr : OTree) (L : Fr) (w : World) : Prop where
  run : ∀ a, Fits n L a → wpTree P ops (fun w' => St wb NoneS [] w') K tr a w
theorem W_mix {id : Nat} {l : List Oper} (tr : OTree) (hT : T.Ok P) (hB : lexTB .any l.toArray tr = true) (hSt : St w0 Sx H w)
    (h : ∀ w1, St w0 Sx H w1 → St w1 NoneS [] w1 → ML P n l.toArray w1 (fun a' w' => wpList P l.toArray (fun e a w => (∀ c, e ≠ .panic c) ∧ Q e a w) (l.drop tr.depth) a' w') tr L w1) : W P n (.region id l.toArray true) Q L w :=
  ⟨fun a ha => wp_region_mix tr hT.mixed hB ((h _ hSt.drew (St.refl _ _)).run a ha)⟩
section
variable {wb : World}
theorem ML_ev {d : Nat} {op : Op} {v : Value} (h0 : ops[k]? = some ⟨some d, op, ty, pos, af, g⟩) (hg : wantB ops g L = some true) (hn : Nat.blt d n = true) (hG : St wb NoneS HG w) (h : ∀ w', St wb NoneS [] w' → Ev P L op ty w' v w') (k1 : ML P n ops wb K tr ((d, v) :: L) w) : ML P n ops wb K (.op k (some false) tr) L w := by
  refine ⟨fun a ha => ⟨_, v, h0, .inl ⟨wantB_spec (o := ⟨some d, op, ty, pos, af, g⟩) hg ha, fun w' hw' => (h w' hw').run n a ha _ _ _ _⟩, hG.nil, k1.run _ (ha.put hn v)⟩⟩
theorem ML_pass {d : Nat} {op : Op} (h0 : ops[k]? = some ⟨some d, op, ty, pos, af, g⟩) (hg : wantB ops g L = some false) (hn : Nat.blt d n = true) (hG : St wb NoneS HG w) (k1 : ML P n ops wb K tr ((d, undef) :: L) w) : ML P n ops wb K (.op k (some false) tr) L w := by
  refine ⟨fun a ha => ⟨_, undef, h0, .inr ⟨wantB_spec (o := ⟨some d, op, ty, pos, af, g⟩) hg ha, rfl⟩, hG.nil, k1.run _ (ha.put hn undef)⟩⟩
theorem ML_passC {d : Nat} {op : Op} (h0 : ops[k]? = some ⟨some d, op, ty, pos, af, g⟩) (hg : wantB ops g L = some false) (hn : Nat.blt d n = true) (hG : St wb NoneS HG w) (k1 : ∀ w', St wb NoneS [] w' → ML P n ops wb K tr ((d, undef) :: L) w') : ML P n ops wb K (.op k none tr) L w := by
  refine ⟨fun a ha => ⟨_, undef, h0, .inr ⟨wantB_spec (o := ⟨some d, op, ty, pos, af, g⟩) hg ha, rfl⟩, hG.nil, fun w' hw' => (k1 w' hw').run _ (ha.put hn undef)⟩⟩
/-- a call that changes nothing -/
theorem ML_call (f : FuncId) {d : Nat} {xs : List Operand} {vs : List Value} {v : Value} {at_ : Array TypeId} (h0 : ops[k]? = some ⟨some d, .call ⟨.value (.func f), ⟨xs⟩, at_⟩, ty, pos, af, g⟩) (hf : callB P f = true) (hx : opds L xs = some vs) (hg : wantB ops g L = some true) (hn : Nat.blt d n = true) (hG : St wb NoneS HG w)
    (hc : ∀ w, St wb NoneS [] w → Cl P f vs w (fun r w' => r = v ∧ St w NoneS [] w')) (k1 : ∀ w', St wb NoneS [] w' → ML P n ops wb K tr ((d, v) :: L) w') : ML P n ops wb K (.op k none tr) L w := by
  refine ⟨fun a ha => ⟨_, v, h0, .inl ⟨wantB_spec (o := ⟨some d, .call ⟨.value (.func f), ⟨xs⟩, at_⟩, ty, pos, af, g⟩) hg ha, fun w hw => ?_⟩, hG.nil, fun w' hw' => (k1 w' hw').run _ (ha.put hn v)⟩⟩
  unfold Oper.quietAt
  rw [run_call hf hx ha]
  refine ⟨rfl, Calls.mono (hc w hw).run ?_⟩
  rintro e w' ⟨u, rfl, rfl, hu⟩
  exact ⟨rfl, hw.call0 hu⟩
theorem ML_sub (hs : Sub L' L) (h : ML P n ops wb K tr L' w) : ML P n ops wb K tr L w := ⟨fun a ha => h.run a (ha.sub hs)⟩
theorem ML_case {j : Nat} {b : Bool} (h : look L j = some (.bool b)) (ht : b = true → ML P n ops wb K tr ((j, .bool true) :: L) w) (hf : b = false → ML P n ops wb K tr ((j, .bool false) :: L) w) : ML P n ops wb K tr L w := by
  cases b
  · exact ML_sub (Sub.cons h (Sub.refl _)) (hf rfl)
  · exact ML_sub (Sub.cons h (Sub.refl _)) (ht rfl)
/-- what an operation's guard hangs on -/
def guardOf (ops : Array Oper) (k : Nat) : Option Nat := (ops[k]?).bind fun o => o.guard.bind fun x => (ops[x.1]?).bind (·.dst)
theorem ML_guard {kd : Option Bool} {d : Nat} {x : Bool} (hd : guardOf ops k = some d) (hl : look L d = some (.bool x)) (ht : x = true → ML P n ops wb K (.op k kd tr) ((d, .bool true) :: L) w) (hf : x = false → ML P n ops wb K (.op k kd tr) ((d, .bool false) :: L) w) : ML P n ops wb K (.op k kd tr) L w := ML_case hl ht hf
theorem ML_guardP {kd : Option Bool} {d : Nat} {p : Prop} {d0 : Decidable p} (hd : guardOf ops k = some d) (hl : look L d = some (.bool (decide p))) (ht : p → ML P n ops wb K (.op k kd tr) ((d, .bool true) :: L) w) (hf : ¬ p → ML P n ops wb K (.op k kd tr) ((d, .bool false) :: L) w) : ML P n ops wb K (.op k kd tr) L w :=
  ML_case hl (fun e => ht (of_decide_eq_true e)) (fun e => hf (of_decide_eq_false e))
/-- an operation that makes new memory: by the rules of a list of one -/
def MK (P : Program) (ops : Array Oper) (wb : World) (K : Act → World → Prop) (tr : OTree) : Exit → Act → World → Prop := fun e a' w' => e = .normal ∧ St wb NoneS [] w' ∧ wpTree P ops (fun w' => St wb NoneS [] w') K tr a' w'
theorem ML_one {o : Oper} (h0 : ops[k]? = some o) (h : WL P n ops (MK P ops wb K tr) [o] L w) : ML P n ops wb K (.op k (some true) tr) L w := ⟨fun a ha => ⟨o, h0, h.run a ha⟩⟩
theorem ML_fork (h1 : ML P n ops wb K (.op k (some true) tr) L w) (h2 : ML P n ops wb K (.op k2 (some true) tr2) L w) : ML P n ops wb K (.fork k tr k2 tr2) L w := ⟨fun a ha => ⟨h1.run a ha, h2.run a ha⟩⟩
theorem At_oneM (hG : St wb NoneS HG w) (h : ML P n ops wb K tr L w) : At n (MK P ops wb K tr) .normal L w := ⟨fun a ha => ⟨rfl, hG.nil, h.run a ha⟩⟩
theorem ML_end {Q' : Exit → Act → World → Prop} {l : List Oper} (h : WL P n ops Q' l L w) : ML P n ops wb (fun a' w' => wpList P ops Q' l a' w') .done L w := ⟨fun a ha => h.run a ha⟩
end
end
end Go.Proofs.YtmlbgdhkacajaaaDoor
