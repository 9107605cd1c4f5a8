/- Statements that draw their order, with several operations any of which may come next. No conditions. -/
import Derived.Test.YtofnepeokihhnaaEod
namespace Go.Proofs.Ytofnepeokihhnaa
open Go.RowKit
set_option linter.unusedVariables false
set_option linter.unusedSimpArgs false
set_option linter.unusedSectionVars false
section
variable {P : Program} {ops : Array Oper} {md : Region.Mode} {S : World → Prop} {Q : Exit → Act → World → Prop}
/-- an order of one's own: a read, one operation that must be next, or one of several -/
inductive NTree where
  | done
  | op (k : Nat) (b : Bool) (t : NTree)
  | alt (k : Nat) (t : NTree) (r : NTree)
def NTree.depth : NTree → Nat
  | .done => 0
  | .op _ _ t => t.depth + 1
  | .alt _ t _ => t.depth + 1
def NTree.keys : NTree → List Nat
  | .done => []
  | .op k b _ => if b then [k] else []
  | .alt k _ r => k :: r.keys
def NTree.kds : NTree → List (Nat × Option Bool)
  | .done => []
  | .op k b t => (k, some b) :: t.kds
  | .alt k t _ => (k, some true) :: t.kds
def lexN (md : Region.Mode) (ops : Array Oper) (ks : List (Nat × Option Bool)) (g n : Nat) : NTree → Bool → Array Bool → Bool
  | .done, _, listed => Region.seqB md ops g n listed
  | .op k b t, inch, listed => decide (k < n) && decide (kdOf ks k = some b) && (if b then (inch || decide (Region.ready md ops listed = [k])) else (Region.ready md ops listed).contains k && Region.free md ops listed k)
    && lexN md ops ks g n t false (listed.setIfInBounds k true)
  | .alt k t r, inch, listed => decide (k < n) && decide (kdOf ks k = some true) && decide (t.depth + 1 = r.depth) && (inch || decide (Region.ready md ops listed = k :: r.keys))
    && lexN md ops ks g n t false (listed.setIfInBounds k true) && lexN md ops ks g n r true listed
def lexNB (md : Region.Mode) (ops : Array Oper) (t : NTree) : Bool :=
  Region.noSelect ops && decide (t.depth < ops.size) && Region.sinkB md ops t.depth && Region.chainB md ops t.depth && lexN md ops t.kds (ops.size - t.depth) t.depth t false (Array.replicate ops.size false)
def wpTreeN (P : Program) (ops : Array Oper) (S : World → Prop) (K : Act → World → Prop) : NTree → Act → World → Prop
  | .done, a, w => K a w
  | .op k true t, a, w => impT P ops S k (wpTreeN P ops S K t) a w
  | .op k false t, a, w => ∃ o v, ops[k]? = some o ∧ YieldsIf P ops S o v a ∧ S w ∧ wpTreeN P ops S K t (a.put o.dst v) w
  | .alt k t r, a, w => impT P ops S k (wpTreeN P ops S K t) a w ∧ wpTreeN P ops S K r a w
section
variable {ks : List (Nat × Option Bool)} {n g : Nat} {K : Act → World → Prop} (hsel : Region.noSelect ops = true) (hs : Region.sinkB md ops n = true) (hc : Region.chainB md ops n = true) (hn : n < ops.size) (hQ : ∀ c a w, ¬ Q (.panic c) a w)
include hsel hs hc hn hQ
theorem wpAnyH_lexN : ∀ (t : NTree),
    (∀ (listed : Array Bool) (a : Act) (w : World), HeadInv md ops n listed → lexN md ops ks g n t false listed = true → wpTreeN P ops S K t a w →
      wpAnyH P md ops Q S (kdOf ks) n (fun listed' a' w' => Region.seqB md ops g n listed' = true ∧ K a' w') t.depth listed a w) ∧
    (∀ (listed : Array Bool) (a : Act) (w : World), HeadInv md ops n listed → (∀ i ∈ t.keys, i ∈ Region.ready md ops listed) → lexN md ops ks g n t true listed = true → wpTreeN P ops S K t a w →
      ∀ i ∈ t.keys, i < n ∧ stepH P ops S Q (kdOf ks i) i (fun a' w' => S w' ∧ wpAnyH P md ops Q S (kdOf ks) n (fun listed' a' w' => Region.seqB md ops g n listed' = true ∧ K a' w') (t.depth - 1) (listed.setIfInBounds i true) a' w') a w)
  | .done => ⟨fun listed a w inv hB h => ⟨by simpa [lexN] using hB, h⟩, fun listed a w inv hr hB h i hi => by simp [NTree.keys] at hi⟩
  | .op k b t => by
    have iht := wpAnyH_lexN t
    refine ⟨fun listed a w inv hB h => ?_, fun listed a w inv hr hB h i hi => ?_⟩
    · simp only [lexN, Bool.and_eq_true, decide_eq_true_eq] at hB
      obtain ⟨⟨⟨hkn, hkd⟩, hb⟩, hB'⟩ := hB
      cases b with
      | false =>
        simp only [Bool.false_eq_true, if_false, Bool.and_eq_true] at hb
        have hr : k ∈ Region.ready md ops listed := by simpa using hb.1
        obtain ⟨o, v, h0, hy, hS, h'⟩ := h
        exact wpAnyH_pure h0 (Region.noSelect_spec hsel) hs hc hn hkn hQ (fun listed' a' w' hL => seqB_ready hL.1) hkd t.depth listed a w inv (Region.free_spec h0 hb.2) hr hy hS (iht.1 _ _ _ (inv.set hr hkn) hB' h')
      | true =>
        have hr : Region.ready md ops listed = [k] := by simpa using hb
        have hr' : k ∈ Region.ready md ops listed := by rw [hr]; simp
        refine ⟨by rw [hr]; simp, fun i hi => ?_⟩
        rw [hr] at hi
        have : i = k := by simpa using hi
        subst this
        refine ⟨hkn, ?_⟩
        rw [hkd]
        simp only [stepH]
        simp only [wpTreeN] at h
        exact h.wpOp (fun a w h' => iht.1 _ _ _ (inv.set hr' hkn) hB' h')
    · simp only [lexN, Bool.and_eq_true, decide_eq_true_eq] at hB
      obtain ⟨⟨⟨hkn, hkd⟩, hb⟩, hB'⟩ := hB
      cases b with
      | false => simp [NTree.keys] at hi
      | true =>
        have : i = k := by simpa [NTree.keys] using hi
        subst this
        have hr' := hr i hi
        refine ⟨hkn, ?_⟩
        rw [hkd]
        simp only [stepH]
        simp only [wpTreeN] at h
        exact h.wpOp (fun a w h' => iht.1 _ _ _ (inv.set hr' hkn) hB' h')
  | .alt k t r => by
    have iht := wpAnyH_lexN t
    have ihr := wpAnyH_lexN r
    have key : ∀ (listed : Array Bool) (a : Act) (w : World), HeadInv md ops n listed → (∀ i ∈ k :: r.keys, i ∈ Region.ready md ops listed) → k < n → kdOf ks k = some true → t.depth + 1 = r.depth → lexN md ops ks g n t false (listed.setIfInBounds k true) = true → lexN md ops ks g n r true listed = true → wpTreeN P ops S K (.alt k t r) a w →
        ∀ i ∈ k :: r.keys, i < n ∧ stepH P ops S Q (kdOf ks i) i (fun a' w' => S w' ∧ wpAnyH P md ops Q S (kdOf ks) n (fun listed' a' w' => Region.seqB md ops g n listed' = true ∧ K a' w') t.depth (listed.setIfInBounds i true) a' w') a w := by
      intro listed a w inv hr hkn hkd hdep hB1 hB2 h i hi
      simp only [wpTreeN] at h
      by_cases hik : i = k
      · subst hik
        refine ⟨hkn, ?_⟩
        rw [hkd]
        simp only [stepH]
        exact h.1.wpOp (fun a w h' => iht.1 _ _ _ (inv.set (hr _ List.mem_cons_self) hkn) hB1 h')
      · have hir : i ∈ r.keys := (List.mem_cons.1 hi).resolve_left hik
        have := ihr.2 listed a w inv (fun j hj => hr j (List.mem_cons_of_mem _ hj)) hB2 h.2 i hir
        rw [show r.depth - 1 = t.depth by omega] at this
        exact this
    refine ⟨fun listed a w inv hB h => ?_, fun listed a w inv hr hB h i hi => ?_⟩
    · simp only [lexN, Bool.and_eq_true, decide_eq_true_eq, Bool.false_or] at hB
      obtain ⟨⟨⟨⟨⟨hkn, hkd⟩, hdep⟩, hrd⟩, hB1⟩, hB2⟩ := hB
      refine ⟨by rw [hrd]; simp, fun i hi => ?_⟩
      rw [hrd] at hi
      exact key listed a w inv (fun j hj => by rw [hrd]; exact hj) hkn hkd hdep hB1 hB2 h i hi
    · simp only [lexN, Bool.and_eq_true, decide_eq_true_eq, Bool.true_or] at hB
      obtain ⟨⟨⟨⟨⟨hkn, hkd⟩, hdep⟩, _⟩, hB1⟩, hB2⟩ := hB
      exact key listed a w inv hr hkn hkd hdep hB1 hB2 h i hi
end
theorem wp_region_N {id : Nat} {a : Act} {w : World} {l : List Oper} (t : NTree) (hm : P.follows .mixedOrders = true) (hB : lexNB .any l.toArray t = true)
    (h : wpTreeN P l.toArray S (fun a' w' => wpList P l.toArray (fun e a w => (∀ c, e ≠ .panic c) ∧ Q e a w) (l.drop t.depth) a' w') t a { w with drawn := w.drawn + 1 }) : (Code.region id l.toArray true).wp P Q a w := by
  refine wp_mono (Q := fun e a w => (∀ c, e ≠ .panic c) ∧ Q e a w) ?_ (fun e a w hq => hq.2)
  simp only [lexNB, Bool.and_eq_true, decide_eq_true_eq] at hB
  obtain ⟨⟨⟨⟨hsel, hn⟩, hs⟩, hc⟩, hlex⟩ := hB
  have hdl : (l.drop t.depth).length = l.toArray.size - t.depth := by simp
  have inv0 : HeadInv .any l.toArray t.depth (Array.replicate l.toArray.size false) :=
    ⟨by simp, fun j oj _ hl => (by rw [getD_replicate_false] at hl; cases hl), fun t _ ht => getD_in (by simpa using ht) (getD_replicate_false _ _)⟩
  have H := (wpAnyH_lexN (P := P) (S := S) (md := .any) (ks := t.kds) (g := l.toArray.size - t.depth) (Q := fun e a w => (∀ c, e ≠ .panic c) ∧ Q e a w) hsel hs hc hn (fun c a w hq => hq.1 c rfl) t).1 _ a _ inv0 hlex h
  refine wp_region_any hm ?_
  have := wpAny_of_headH (g := l.toArray.size - t.depth) (fun listed a' w' hL => by
    have := wpAny_of_seq (md := .any) (Q' := fun e a w => (∀ c, e ≠ .panic c) ∧ Q e a w) (l.drop t.depth) t.depth listed a' w' (fun j => by simp [List.getElem?_drop]) (by rw [hdl]; exact hL.1) hL.2
    rwa [hdl] at this) _ _ _ _ H
  have hsz : t.depth < l.toArray.size := hn
  rw [show t.depth + (l.toArray.size - t.depth) = l.toArray.size by omega] at this
  exact this
end
section
variable {T : Tys} {P : Program} {n : Nat} {ops : Array Oper} {Q : Exit → Act → World → Prop} {L L' : Fr} {w w' w0 : World} {rest : List Oper} {ty t t' : TypeId} {tr tr2 : NTree} {k k2 : Nat}
  {Sx : Nat → Prop} {H : List (Nat × Obj)} {pos : String} {af : Array Edge} {g : Option (Nat × Bool)} {K : Act → World → Prop} {S : World → Prop}
structure MN (P : Program) (n : Nat) (ops : Array Oper) (S : World → Prop) (K : Act → World → Prop) (tr : NTree) (L : Fr) (w : World) : Prop where
  run : ∀ a, Fits n L a → wpTreeN P ops S K tr a w
theorem W_mixN {id : Nat} {l : List Oper} (tr : NTree) (S : World → Prop) (hT : T.Ok P) (hB : lexNB .any l.toArray tr = true) (hSt : St w0 Sx H w)
    (h : ∀ w1, St w0 Sx H w1 → MN P n l.toArray S (fun a' w' => wpList P l.toArray (fun e a w => (∀ c, e ≠ .panic c) ∧ Q e a w) (l.drop tr.depth) a' w') tr L w1) : W P n (.region id l.toArray true) Q L w :=
  ⟨fun a ha => wp_region_N tr hT.mixed hB ((h _ hSt.drew).run a ha)⟩
theorem MN_ev {d : Nat} {op : Op} {v : Value} (h0 : ops[k]? = some ⟨some d, op, ty, pos, af, g⟩) (hg : wantB ops g L = some true) (hn : Nat.blt d n = true) (hS : S w) (h : ∀ w', S w' → Ev P L op ty w' v w') (k1 : MN P n ops S K tr ((d, v) :: L) w) : MN P n ops S K (.op k false tr) L w := by
  refine ⟨fun a ha => ⟨_, v, h0, .inl ⟨wantB_spec (o := ⟨some d, op, ty, pos, af, g⟩) hg ha, fun w' hw => (h w' hw).run n a ha _ _ _ _⟩, hS, k1.run _ (ha.put hn v)⟩⟩
def NK (P : Program) (ops : Array Oper) (S : World → Prop) (K : Act → World → Prop) (tr : NTree) : Exit → Act → World → Prop := fun e a' w' => e = .normal ∧ S w' ∧ wpTreeN P ops S K tr a' w'
theorem MN_one {o : Oper} (h0 : ops[k]? = some o) (h : WL P n ops (NK P ops S K tr) [o] L w) : MN P n ops S K (.op k true tr) L w := ⟨fun a ha => ⟨o, h0, h.run a ha⟩⟩
theorem MN_alt {o : Oper} (h0 : ops[k]? = some o) (h1 : WL P n ops (NK P ops S K tr) [o] L w) (h2 : MN P n ops S K tr2 L w) : MN P n ops S K (.alt k tr tr2) L w := ⟨fun a ha => ⟨⟨o, h0, h1.run a ha⟩, h2.run a ha⟩⟩
theorem At_oneN (hS : S w) (h : MN P n ops S K tr L w) : At n (NK P ops S K tr) .normal L w := ⟨fun a ha => ⟨rfl, hS, h.run a ha⟩⟩
theorem MN_end {Q' : Exit → Act → World → Prop} {l : List Oper} (h : WL P n ops Q' l L w) : MN P n ops S (fun a' w' => wpList P ops Q' l a' w') .done L w := ⟨fun a ha => h.run a ha⟩
end
end Go.Proofs.Ytofnepeokihhnaa
