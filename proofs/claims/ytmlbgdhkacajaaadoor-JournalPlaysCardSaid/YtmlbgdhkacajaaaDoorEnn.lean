/- Loops that are told by what they change. No conditions. -/
import Derived.Test.YtmlbgdhkacajaaaDoorEnm
namespace Go.Proofs.YtmlbgdhkacajaaaDoor
open Go.RowKit
set_option linter.unusedVariables false
set_option linter.unusedSimpArgs false

section
variable {P : Program} {n : Nat} {Q : Exit → Act → World → Prop} {L : Fr} {w : World} {c : Code}

/-- the list without the slots ks -/
structure Str (ks : List Nat) (L L' : Fr) : Prop where
  all : ∀ i v, mem1 ks i = false → (look L' i = some v → look L i = some v)
  off : ∀ i, mem1 ks i = true → look L' i = none
theorem Str.nil (ks : List Nat) : Str ks [] [] := ⟨fun i v _ h => h, fun i _ => rfl⟩
theorem Str.drop {ks : List Nat} {i : Nat} {v : Value} {L L' : Fr} (h : mem1 ks i = true) (k : Str ks L L') : Str ks ((i, v) :: L) L' := by
  refine ⟨fun j u hj hl => ?_, k.off⟩
  simp only [look]
  cases hb : Nat.beq i j
  · exact k.all j u hj hl
  · have e : i = j := by simpa using hb
    subst e; rw [h] at hj; cases hj
theorem Str.keep {ks : List Nat} {i : Nat} {v : Value} {L L' : Fr} (h : mem1 ks i = false) (k : Str ks L L') : Str ks ((i, v) :: L) ((i, v) :: L') := by
  refine ⟨fun j u hj hl => ?_, fun j hj => ?_⟩
  · simp only [look] at hl ⊢
    cases hb : Nat.beq i j
    · simp only [hb, cond_false] at hl ⊢; exact k.all j u hj hl
    · simpa [hb] using hl
  · simp only [look]
    cases hb : Nat.beq i j
    · exact k.off j hj
    · have e : i = j := by simpa using hb
      subst e; rw [h] at hj; cases hj
theorem Str.sub {ks : List Nat} {L L' : Fr} (h : Str ks L L') : Sub L' L := by
  refine ⟨fun i v hl => ?_⟩
  cases hm : mem1 ks i
  · exact h.all i v hm hl
  · rw [h.off i hm] at hl; cases hl

theorem Sub.app {A B L : Fr} (h : Sub A L) (k : ∀ i v, look A i = none → look B i = some v → look L i = some v) : Sub (A ++ B) L := by
  refine ⟨fun i v hi => ?_⟩
  cases hA : look A i with
  | some u =>
    have : look (A ++ B) i = some u := by
      clear h k hi
      induction A with
      | nil => simp [look] at hA
      | cons x A ih =>
        obtain ⟨j, y⟩ := x
        simp only [look, List.cons_append] at hA ⊢
        cases hb : Nat.beq j i
        · simp only [hb, cond_false] at hA ⊢; exact ih hA
        · simpa [hb] using hA
    rw [this] at hi; injection hi with hi; subst hi; exact h.all i u hA
  | none =>
    have : look (A ++ B) i = look B i := by
      clear h k hi
      induction A with
      | nil => rfl
      | cons x A ih =>
        obtain ⟨j, y⟩ := x
        simp only [look, List.cons_append] at hA ⊢
        cases hb : Nat.beq j i
        · simp only [hb, cond_false] at hA ⊢; exact ih hA
        · simp [hb] at hA
    rw [this] at hi; exact k i v hA hi
/-- a loop: s is what it changes, m s the slots that hold it; I k s w holds at the head of a round with k rounds to go at most; all else that is known stays known -/
theorem W_loopM {σ : Type} (I : Nat → σ → World → Prop) (m : σ → Fr) (k0 : Nat) (s0 : σ) {L0 : Fr} {ks : List Nat} (hks : (m s0).map Prod.fst = ks) (hst : Str ks L L0) (h0 : I k0 s0 w) (hs : Sub (m s0) L)
    (step : ∀ k s w, I k s w → ∀ K : Act → World → Prop, (∀ k' s' w' a, k' < k → I k' s' w' → Fits n (m s' ++ L0) a → K a w') → W P n c (Exit.then K Q) (m s ++ L0) w) : W P n (.loop c) Q L w := by
  refine W_loop (fun k L' w' => ∃ s, I k s w' ∧ L' = m s ++ L0) k0 (L0 := m s0 ++ L0) ⟨s0, h0, rfl⟩ (Sub.app hs (fun i v _ h => hst.sub.all i v h)) ?_
  rintro k L' w' ⟨s, hI, rfl⟩ K hK
  exact step k s w' hI K (fun k' s' w'' a hlt hi hf => hK k' _ w'' a hlt ⟨s', hi, rfl⟩ hf)
theorem At_loopM {σ : Type} {K : Act → World → Prop} {I : Nat → σ → World → Prop} {m : σ → Fr} {k k' : Nat} {L0 L1 : Fr} (hK : ∀ k' s' w' a, k' < k → I k' s' w' → Fits n (m s' ++ L0) a → K a w') (s' : σ)
    (hlt : k' < k) (hi : I k' s' w) (hs : Sub (m s' ++ L0) L1) : At n (Exit.then K Q) .normal L1 w := ⟨fun a ha => hK k' s' w a hlt hi (ha.sub hs)⟩
theorem W_loop1 {α : Type} (I : Nat → α → World → Prop) (m : α → Fr) (k0 : Nat) (x0 : α) {L0 : Fr} {ks : List Nat} (hks : (m x0).map Prod.fst = ks) (hst : Str ks L L0) (h0 : I k0 x0 w) (hs : Sub (m x0) L)
    (step : ∀ k x w, I k x w → ∀ K : Act → World → Prop, (∀ k' x' w' a, k' < k → I k' x' w' → Fits n (m x' ++ L0) a → K a w') → W P n c (Exit.then K Q) (m x ++ L0) w) : W P n (.loop c) Q L w :=
  W_loopM (σ := α) (fun k s w => I k s w) (fun s => m s) k0 x0 hks hst h0 hs
    (fun k s w hi K hK => step k s w hi K (fun k' x' w' a hlt hi hf => hK k' x' w' a hlt hi hf))
theorem At_loop1 {α : Type} {K : Act → World → Prop} {I : Nat → α → World → Prop} {m : α → Fr} {k k' : Nat} {L0 L1 : Fr} (hK : ∀ k' x' w' a, k' < k → I k' x' w' → Fits n (m x' ++ L0) a → K a w') (x : α)
    (hlt : k' < k) (hi : I k' x w) (hs : Sub (m x ++ L0) L1) : At n (Exit.then K Q) .normal L1 w := ⟨fun a ha => hK k' x w a hlt hi (ha.sub hs)⟩
theorem W_loop2 {α β : Type} (I : Nat → α → β → World → Prop) (m : α → β → Fr) (k0 : Nat) (x0 : α) (y0 : β) {L0 : Fr} {ks : List Nat} (hks : (m x0 y0).map Prod.fst = ks) (hst : Str ks L L0) (h0 : I k0 x0 y0 w) (hs : Sub (m x0 y0) L)
    (step : ∀ k x y w, I k x y w → ∀ K : Act → World → Prop, (∀ k' x' y' w' a, k' < k → I k' x' y' w' → Fits n (m x' y' ++ L0) a → K a w') → W P n c (Exit.then K Q) (m x y ++ L0) w) : W P n (.loop c) Q L w :=
  W_loopM (σ := α × β) (fun k s w => I k s.1 s.2 w) (fun s => m s.1 s.2) k0 (x0, y0) hks hst h0 hs
    (fun k s w hi K hK => step k s.1 s.2 w hi K (fun k' x' y' w' a hlt hi hf => hK k' (x', y') w' a hlt hi hf))
theorem At_loop2 {α β : Type} {K : Act → World → Prop} {I : Nat → α → β → World → Prop} {m : α → β → Fr} {k k' : Nat} {L0 L1 : Fr} (hK : ∀ k' x' y' w' a, k' < k → I k' x' y' w' → Fits n (m x' y' ++ L0) a → K a w') (x : α) (y : β)
    (hlt : k' < k) (hi : I k' x y w) (hs : Sub (m x y ++ L0) L1) : At n (Exit.then K Q) .normal L1 w := ⟨fun a ha => hK k' x y w a hlt hi (ha.sub hs)⟩
theorem W_loop3 {α β γ : Type} (I : Nat → α → β → γ → World → Prop) (m : α → β → γ → Fr) (k0 : Nat) (x0 : α) (y0 : β) (z0 : γ) {L0 : Fr} {ks : List Nat} (hks : (m x0 y0 z0).map Prod.fst = ks) (hst : Str ks L L0) (h0 : I k0 x0 y0 z0 w) (hs : Sub (m x0 y0 z0) L)
    (step : ∀ k x y z w, I k x y z w → ∀ K : Act → World → Prop, (∀ k' x' y' z' w' a, k' < k → I k' x' y' z' w' → Fits n (m x' y' z' ++ L0) a → K a w') → W P n c (Exit.then K Q) (m x y z ++ L0) w) : W P n (.loop c) Q L w :=
  W_loopM (σ := α × β × γ) (fun k s w => I k s.1 s.2.1 s.2.2 w) (fun s => m s.1 s.2.1 s.2.2) k0 (x0, y0, z0) hks hst h0 hs
    (fun k s w hi K hK => step k s.1 s.2.1 s.2.2 w hi K (fun k' x' y' z' w' a hlt hi hf => hK k' (x', y', z') w' a hlt hi hf))
theorem At_loop3 {α β γ : Type} {K : Act → World → Prop} {I : Nat → α → β → γ → World → Prop} {m : α → β → γ → Fr} {k k' : Nat} {L0 L1 : Fr} (hK : ∀ k' x' y' z' w' a, k' < k → I k' x' y' z' w' → Fits n (m x' y' z' ++ L0) a → K a w') (x : α) (y : β) (z : γ)
    (hlt : k' < k) (hi : I k' x y z w) (hs : Sub (m x y z ++ L0) L1) : At n (Exit.then K Q) .normal L1 w := ⟨fun a ha => hK k' x y z w a hlt hi (ha.sub hs)⟩
theorem W_loop4 {α β γ δ : Type} (I : Nat → α → β → γ → δ → World → Prop) (m : α → β → γ → δ → Fr) (k0 : Nat) (x0 : α) (y0 : β) (z0 : γ) (u0 : δ) {L0 : Fr} {ks : List Nat} (hks : (m x0 y0 z0 u0).map Prod.fst = ks) (hst : Str ks L L0) (h0 : I k0 x0 y0 z0 u0 w) (hs : Sub (m x0 y0 z0 u0) L)
    (step : ∀ k x y z u w, I k x y z u w → ∀ K : Act → World → Prop, (∀ k' x' y' z' u' w' a, k' < k → I k' x' y' z' u' w' → Fits n (m x' y' z' u' ++ L0) a → K a w') → W P n c (Exit.then K Q) (m x y z u ++ L0) w) : W P n (.loop c) Q L w :=
  W_loopM (σ := α × β × γ × δ) (fun k s w => I k s.1 s.2.1 s.2.2.1 s.2.2.2 w) (fun s => m s.1 s.2.1 s.2.2.1 s.2.2.2) k0 (x0, y0, z0, u0) hks hst h0 hs
    (fun k s w hi K hK => step k s.1 s.2.1 s.2.2.1 s.2.2.2 w hi K (fun k' x' y' z' u' w' a hlt hi hf => hK k' (x', y', z', u') w' a hlt hi hf))
theorem At_loop4 {α β γ δ : Type} {K : Act → World → Prop} {I : Nat → α → β → γ → δ → World → Prop} {m : α → β → γ → δ → Fr} {k k' : Nat} {L0 L1 : Fr} (hK : ∀ k' x' y' z' u' w' a, k' < k → I k' x' y' z' u' w' → Fits n (m x' y' z' u' ++ L0) a → K a w') (x : α) (y : β) (z : γ) (u : δ)
    (hlt : k' < k) (hi : I k' x y z u w) (hs : Sub (m x y z u ++ L0) L1) : At n (Exit.then K Q) .normal L1 w := ⟨fun a ha => hK k' x y z u w a hlt hi (ha.sub hs)⟩
theorem W_loop5 {α β γ δ ε : Type} (I : Nat → α → β → γ → δ → ε → World → Prop) (m : α → β → γ → δ → ε → Fr) (k0 : Nat) (x0 : α) (y0 : β) (z0 : γ) (u0 : δ) (v0 : ε) {L0 : Fr} {ks : List Nat} (hks : (m x0 y0 z0 u0 v0).map Prod.fst = ks) (hst : Str ks L L0) (h0 : I k0 x0 y0 z0 u0 v0 w) (hs : Sub (m x0 y0 z0 u0 v0) L)
    (step : ∀ k x y z u v w, I k x y z u v w → ∀ K : Act → World → Prop, (∀ k' x' y' z' u' v' w' a, k' < k → I k' x' y' z' u' v' w' → Fits n (m x' y' z' u' v' ++ L0) a → K a w') → W P n c (Exit.then K Q) (m x y z u v ++ L0) w) : W P n (.loop c) Q L w :=
  W_loopM (σ := α × β × γ × δ × ε) (fun k s w => I k s.1 s.2.1 s.2.2.1 s.2.2.2.1 s.2.2.2.2 w) (fun s => m s.1 s.2.1 s.2.2.1 s.2.2.2.1 s.2.2.2.2) k0 (x0, y0, z0, u0, v0) hks hst h0 hs
    (fun k s w hi K hK => step k s.1 s.2.1 s.2.2.1 s.2.2.2.1 s.2.2.2.2 w hi K (fun k' x' y' z' u' v' w' a hlt hi hf => hK k' (x', y', z', u', v') w' a hlt hi hf))
theorem At_loop5 {α β γ δ ε : Type} {K : Act → World → Prop} {I : Nat → α → β → γ → δ → ε → World → Prop} {m : α → β → γ → δ → ε → Fr} {k k' : Nat} {L0 L1 : Fr} (hK : ∀ k' x' y' z' u' v' w' a, k' < k → I k' x' y' z' u' v' w' → Fits n (m x' y' z' u' v' ++ L0) a → K a w') (x : α) (y : β) (z : γ) (u : δ) (v : ε)
    (hlt : k' < k) (hi : I k' x y z u v w) (hs : Sub (m x y z u v ++ L0) L1) : At n (Exit.then K Q) .normal L1 w := ⟨fun a ha => hK k' x y z u v w a hlt hi (ha.sub hs)⟩
/-- the frame's list of what is known, with the slots of the list d struck -/
def only : List Nat → Fr → Fr
  | _, [] => []
  | ks, (i, v) :: L => bif mem1 ks i then (i, v) :: only ks L else only ks L
theorem only_sub (ks : List Nat) : ∀ (L : Fr) (i : Nat) (v : Value), look (only ks L) i = some v → look L i = some v
  | [], i, v, h => by simp [only, look] at h
  | (j, u) :: L, i, v, h => by
    simp only [only] at h
    cases hm : mem1 ks j
    · simp only [hm, cond_false] at h
      have := only_sub ks L i v h
      simp only [look]
      cases hb : Nat.beq j i
      · simpa using this
      · have e : j = i := by simpa using hb
        subst e
        exfalso
        -- j is not kept
        clear this
        induction L with
        | nil => simp [only, look] at h
        | cons x L ih =>
          obtain ⟨k, y⟩ := x
          simp only [only] at h
          cases hk : mem1 ks k
          · simp only [hk, cond_false] at h; exact ih h
          · simp only [hk, cond_true, look] at h
            cases hb2 : Nat.beq k j
            · simp only [hb2, cond_false] at h; exact ih h
            · have e2 : k = j := by simpa using hb2
              subst e2; rw [hm] at hk; cases hk
    · simp only [hm, cond_true, look] at h ⊢
      cases hb : Nat.beq j i
      · simp only [hb, cond_false] at h ⊢; exact only_sub ks L i v h
      · simpa [hb] using h
theorem W_only (ks : List Nat) (h : W P n c Q (only ks L) w) : W P n c Q L w := W_sub ⟨only_sub ks L⟩ h
end

section
variable {T : Tys} {P : Program} {n : Nat} {ops : Array Oper} {Q : Exit → Act → World → Prop} {L L' : Fr} {w w' w0 : World} {rest : List Oper} {ty t t' : TypeId} {xo yo zo : Operand}
  {Sx : Nat → Prop} {H H0 H1 H2 : List (Nat × Obj)}
theorem at_last {b : Nat} {o : Obj} (h : St w0 Sx (H ++ [(b, o)]) w) : w.heap[b]? = some o := (h.own H.length b o (by simp)).1
/-- a literal of m elements, appended to a slice of one's own -/
theorem WL_push {d1 d2 m k : Nat} {e z y : Nat} {zv v : Value} {parts : List (Nat × Operand)} {ps : List (Nat × Nat × Value)} {vs xs : List Value} {ty1 ty2 : TypeId} {pos1 pos2 : String} {af1 af2 : Array Edge} {g1 g2 : Option (Nat × Bool)}
    (hT : T.Ok P) (ht : asc T.sl t = some (e, z, y)) (hz : asc T.zero e = some zv) (hzl : (zcells zv).length = z)
    (hg1 : wantB ops g1 L = some true) (hn1 : Nat.blt d1 n = true) (hp : evElems L z parts = some ps) (hv : laid (zrow zv (m * z)) ps = some vs) (h0 : Nat.blt 0 (m * z) = true) (h1 : Nat.ble (m * z) 16777216 = true) (h2 : Nat.blt 0 m = true) (hvl : Nat.beq vs.length (m * z) = true) (hone : vs.all oneV = true)
    (hx : opd L xo = some v) (hxd : match xo with | .tmp i => Nat.beq d1 i = false | _ => True) (hg2 : ∀ u, wantB ops g2 ((d1, u) :: L) = some true) (hn2 : Nat.blt d2 n = true)
    (hSt : St w0 Sx (H0 ++ H1) w) (ho : OwnSl v e z xs k H1) (hmax : k + m ≤ 140737488355328) (hby : (k + m) * y ≤ 140737488355328)
    (K : ∀ v' w' H1' u, OwnSl v' e z (xs ++ vs) (k + m) H1' → St w0 Sx (H0 ++ H1') w' → WL P n ops Q rest ((d2, v') :: (d1, u) :: L) w') :
    WL P n ops Q (⟨some d1, .buildSlice t m ⟨parts⟩, ty1, pos1, af1, g1⟩ :: ⟨some d2, .call ⟨.builtin .append, #[xo, .tmp d1], #[t, t]⟩, ty2, pos2, af2, g2⟩ :: rest) L w := by
  refine WL_buildSlice hT ht hz hg1 hn1 hp hv h0 h1 hSt ?_
  intro w' b hb hSt'
  have hxx : opd ((d1, .slice (some ⟨b, 0, none⟩) m m) :: L) xo = some v := by
    cases xo with
    | tmp i => simp only at hxd; simpa only [opd, look, hxd, cond_false] using hx
    | const u => exact hx
    | global g => exact hx
    | func f => exact hx
  have hvl' : vs.length = m * z := Nat.eq_of_beq_eq_true hvl
  refine WL_append hT ht hz hzl (hg2 _) hn2 hxx (m := m) (c := m) (b2 := b) (o2 := 0) (by simp [opd, look]) hSt' ho (at_last hSt') (by rw [List.drop_zero, ← hvl', List.take_length]) hvl' hone (by simpa [Nat.blt_eq] using h2) hmax hby ?_
  intro v' w2 H1' ho' hs
  exact K v' w2 H1' _ ho' hs
theorem spl_eq (vs : List Value) : ∀ (l : List Value) (o : Nat), o + vs.length ≤ l.length → spl l o vs = l.take o ++ vs ++ l.drop (o + vs.length) := by
  induction vs with
  | nil => intro l o _; simp [spl]
  | cons v vs ih =>
    intro l o h
    simp only [List.length_cons] at h
    rw [spl, ih _ _ (by simp; omega)]
    rw [List.take_set, List.drop_set_of_lt (by omega), List.take_add_one]
    have ho : o < l.length := by omega
    rw [List.getElem?_eq_getElem ho]
    simp only [Option.toList_some, List.length_cons]
    rw [List.set_append_right _ _ (by simp; omega)]
    have : o - (List.take o l).length = 0 := by simp; omega
    rw [this]
    simp only [List.set_cons_zero, List.append_assoc, List.cons_append, List.nil_append]
    rw [show o + 1 + vs.length = o + (vs.length + 1) by omega]
/-- one element, appended to a slice of one's own -/
theorem WL_push1 {d1 d2 k : Nat} {e z y : Nat} {zv v u0 : Value} {eo : Operand} {xs : List Value} {ty1 ty2 : TypeId} {pos1 pos2 : String} {af1 af2 : Array Edge} {g1 g2 : Option (Nat × Bool)}
    (hT : T.Ok P) (ht : asc T.sl t = some (e, z, y)) (hz : asc T.zero e = some zv) (hzl : Nat.beq (zcells zv).length z = true)
    (hg1 : wantB ops g1 L = some true) (hn1 : Nat.blt d1 n = true) (hp : opd L eo = some u0) (hvl : Nat.beq (zcells u0).length z = true) (hone : (zcells u0).all oneV = true) (h0 : Nat.blt 0 z = true) (h1 : Nat.ble z 16777216 = true)
    (hx : opd L xo = some v) (hxd : match xo with | .tmp i => Nat.beq d1 i = false | _ => True) (hg2 : ∀ u, wantB ops g2 ((d1, u) :: L) = some true) (hn2 : Nat.blt d2 n = true)
    (hSt : St w0 Sx (H0 ++ H1) w) (ho : OwnSl v e z xs k H1) (hmax : k + 1 ≤ 140737488355328) (hby : (k + 1) * y ≤ 140737488355328)
    (K : ∀ v' w' H1' u, OwnSl v' e z (xs ++ zcells u0) (k + 1) H1' → St w0 Sx (H0 ++ H1') w' → WL P n ops Q rest ((d2, v') :: (d1, u) :: L) w') :
    WL P n ops Q (⟨some d1, .buildSlice t 1 ⟨[(0, eo)]⟩, ty1, pos1, af1, g1⟩ :: ⟨some d2, .call ⟨.builtin .append, #[xo, .tmp d1], #[t, t]⟩, ty2, pos2, af2, g2⟩ :: rest) L w := by
  have hzl' := Nat.eq_of_beq_eq_true hzl
  have hvl' := Nat.eq_of_beq_eq_true hvl
  have hzr : (zrow zv (1 * z)).length = z := by simp [zrow]
  refine WL_push (m := 1) (ps := [(0 * z, z, u0)]) (vs := zcells u0) hT ht hz hzl' hg1 hn1 (by simp [evElems, hp]) ?_ (by simpa using h0) (by simpa using h1) rfl (by simpa using hvl) hone hx hxd hg2 hn2 hSt ho hmax hby K
  have hb : Nat.ble z z = true := Nat.ble_eq_true_of_le (Nat.le_refl _)
  simp only [laid, hvl, Nat.zero_mul, Nat.zero_add, hzr, hb, Bool.and_self, cond_true]
  rw [spl_eq _ _ _ (by rw [hzr]; omega)]
  simp [hvl', hzr, zrow]
/-- a literal of one element that was made last, appended to a slice of one's own -/
theorem WL_appendL {d b2 k : Nat} {e z y : Nat} {zv v : Value} {news xs : List Value} {E2 : TypeId} {ty : TypeId} {pos : String} {af : Array Edge} {g : Option (Nat × Bool)} (hT : T.Ok P) (ht : asc T.sl t = some (e, z, y)) (hz : asc T.zero e = some zv) (hzl : Nat.beq (zcells zv).length z = true)
    (hg : wantB ops g L = some true) (hn : Nat.blt d n = true) (hx : opd L xo = some v) (hy : opd L yo = some (.slice (some ⟨b2, 0, none⟩) 1 1)) (hSt : St w0 Sx (H0 ++ H1 ++ [(b2, blk news E2)]) w) (ho : OwnSl v e z xs k H1)
    (hl : Nat.beq news.length z = true) (h1 : news.all oneV = true) (hmax : k + 1 ≤ 140737488355328) (hby : (k + 1) * y ≤ 140737488355328)
    (K : ∀ v' w' H1', OwnSl v' e z (xs ++ news) (k + 1) H1' → St w0 Sx (H0 ++ H1') w' → WL P n ops Q rest ((d, v') :: L) w') : WL P n ops Q (⟨some d, .call ⟨.builtin .append, #[xo, yo], #[t, t]⟩, ty, pos, af, g⟩ :: rest) L w := by
  have hl' := Nat.eq_of_beq_eq_true hl
  exact WL_append hT ht hz (Nat.eq_of_beq_eq_true hzl) hg hn hx hy hSt ho (at_last hSt) (by rw [List.drop_zero, Nat.one_mul, ← hl', List.take_length]) (by rw [Nat.one_mul]; exact hl') h1 (by omega) hmax hby K
end
end Go.Proofs.YtmlbgdhkacajaaaDoor
