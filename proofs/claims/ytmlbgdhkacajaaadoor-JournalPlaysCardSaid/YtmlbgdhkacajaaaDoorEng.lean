/- The rules with which this claim's walks are made: what is known of a frame (a short list of slots), what is known of the world (a list of blocks over a base world), and one rule for each form of code and each operation. No conditions. -/
import Derived.WalkKit
import Derived.WalkSpells
import Derived.WalkLawsBesides
import Derived.Deep.QuietTactic
import Derived.StillTailTactics
namespace Go.Proofs.YtmlbgdhkacajaaaDoor
open Go.RowKit
set_option linter.unusedVariables false
set_option linter.unusedSimpArgs false
set_option linter.unusedSectionVars false

/-! ## The world over a base -/

/-- w comes of the base w0: only blocks of S, and new ones, may differ; the blocks listed in H hold what is listed. -/
structure St (w0 : World) (S : Nat → Prop) (H : List (Nat × Obj)) (w : World) : Prop where
  os : w.os = w0.os
  tape : w.tape = w0.tape
  output : w.output = w0.output
  size : w0.heap.size ≤ w.heap.size
  old : ∀ k, k < w0.heap.size → ¬ S k → w.heap[k]? = w0.heap[k]?
  own : ∀ (i b : Nat) (o : Obj), H[i]? = some (b, o) → w.heap[b]? = some o ∧ (S b ∨ w0.heap.size ≤ b)
  apart : ∀ (i j b c : Nat) (o u : Obj), H[i]? = some (b, o) → H[j]? = some (c, u) → b = c → i = j

def NoneS : Nat → Prop := fun _ => False

/-- a row of cells that nothing has frozen -/
abbrev blk (l : List Value) (T : TypeId) : Obj := .cells ⟨l⟩ T (0, 0)

theorem St.refl (w : World) (S : Nat → Prop) : St w S [] w :=
  ⟨rfl, rfl, rfl, Nat.le_refl _, fun _ _ _ => rfl, fun i b o h => by simp at h, fun i j b c o u h => by simp at h⟩

section
variable {w0 w w' : World} {S S2 : Nat → Prop} {H H2 : List (Nat × Obj)}

theorem St.lt (h : St w0 S H w) {i b : Nat} {o : Obj} (hi : H[i]? = some (b, o)) : b < w.heap.size := by
  have := (h.own i b o hi).1
  exact (Array.getElem?_eq_some_iff.1 this).1

/-- a block that lay in the base, and may have been changed, becomes known -/
theorem St.know (h : St w0 S H w) {b : Nat} {o : Obj} (hb : w.heap[b]? = some o) (hS : S b ∨ w0.heap.size ≤ b) (hn : ∀ (i : Nat) (u : Obj), H[i]? ≠ some (b, u)) : St w0 S (H ++ [(b, o)]) w := by
  refine ⟨h.os, h.tape, h.output, h.size, h.old, ?_, ?_⟩
  · intro i c u hi
    rw [List.getElem?_append] at hi
    split at hi
    · exact h.own i c u hi
    · rename_i hlt
      have h1 : i - H.length = 0 := by
        rcases Nat.eq_zero_or_pos (i - H.length) with h | h
        · exact h
        · rw [List.getElem?_eq_none (by simp; omega)] at hi; cases hi
      rw [h1] at hi; simp at hi; obtain ⟨rfl, rfl⟩ := hi
      exact ⟨hb, hS⟩
  · intro i j c d u v hi hj hcd
    subst hcd
    rw [List.getElem?_append] at hi hj
    have last : ∀ (k : Nat) (x : Nat × Obj), ¬ k < H.length → [(b, o)][k - H.length]? = some x → k = H.length ∧ x = (b, o) := by
      intro k x hk hx
      have h1 : k - H.length = 0 := by
        rcases Nat.eq_zero_or_pos (k - H.length) with h | h
        · exact h
        · rw [List.getElem?_eq_none (by simp; omega)] at hx; cases hx
      rw [h1] at hx; simp at hx
      exact ⟨by omega, hx.symm⟩
    split at hi <;> split at hj
    · exact h.apart i j c c u v hi hj rfl
    · rename_i h1 h2
      obtain ⟨_, e⟩ := last j _ h2 hj
      injection e with e1 e2; subst e1
      exact absurd hi (hn i u)
    · rename_i h1 h2
      obtain ⟨_, e⟩ := last i _ h1 hi
      injection e with e1 e2; subst e1
      exact absurd hj (hn j v)
    · rename_i h1 h2
      have := (last i _ h1 hi).1
      have := (last j _ h2 hj).1
      omega

theorem St.drew (h : St w0 S H w) : St w0 S H { w with drawn := w.drawn + 1 } := ⟨h.os, h.tape, h.output, h.size, h.old, h.own, h.apart⟩

theorem St.alloc (h : St w0 S H w) (o : Obj) : St w0 S (H ++ [(w.heap.size, o)]) (w.alloc o) := by
  have h1 : St w0 S H (w.alloc o) := by
    refine ⟨h.os, h.tape, h.output, by have := h.size; simp; omega, ?_, ?_, h.apart⟩
    · intro k hk hS
      have := h.size
      rw [Below.heap_alloc _ _ _ (by omega)]; exact h.old k hk hS
    · intro i b u hi
      have hl := h.lt hi
      rw [Below.heap_alloc _ _ _ hl]; exact h.own i b u hi
  refine h1.know ?_ (Or.inr h.size) ?_
  · show (w.heap.push o)[w.heap.size]? = some o
    simp
  · intro i u hi
    have := h.lt hi
    omega

theorem St.store (h : St w0 S H w) {i b : Nat} {l : List Value} {T : TypeId} (hi : H[i]? = some (b, blk l T)) (o : Nat) (v : Value) :
    St w0 S (H.set i (b, blk (l.set o v) T)) (w.setCell ⟨b, o, none⟩ v) := by
  have hb := h.own i b _ hi
  have hil : i < H.length := by
    rcases Nat.lt_or_ge i H.length with h | h
    · exact h
    · rw [List.getElem?_eq_none h] at hi; cases hi
  have hnew : (w.setCell ⟨b, o, none⟩ v).heap[b]? = some (blk (l.set o v) T) := by
    simp [World.setCell, Array.getElem?_modify, hb.1, blk]
  have key : ∀ (j c : Nat) (u : Obj), (H.set i (b, blk (l.set o v) T))[j]? = some (c, u) → (j = i ∧ c = b ∧ u = blk (l.set o v) T) ∨ (j ≠ i ∧ H[j]? = some (c, u)) := by
    intro j c u hj
    rw [List.getElem?_set] at hj
    split at hj
    · rename_i e; subst e
      simp only [hil, if_true, Option.some.injEq, Prod.mk.injEq] at hj
      exact .inl ⟨rfl, hj.1.symm, hj.2.symm⟩
    · rename_i e; exact .inr ⟨fun h => e h.symm, hj⟩
  refine ⟨h.os, h.tape, h.output, by simpa [World.setCell] using h.size, ?_, ?_, ?_⟩
  · intro k hk hS
    have hkb : k ≠ b := by
      intro e
      rcases hb.2 with h1 | h1
      · exact hS (e ▸ h1)
      · omega
    rw [Below.heap_setCell _ _ _ _ hkb]
    exact h.old k hk hS
  · intro j c u hj
    rcases key j c u hj with ⟨rfl, rfl, rfl⟩ | ⟨hne, hj'⟩
    · exact ⟨hnew, hb.2⟩
    · have hc := h.own j c u hj'
      have hcb : c ≠ b := by rintro rfl; exact hne (h.apart j i c c u _ hj' hi rfl)
      rw [Below.heap_setCell _ _ _ _ hcb]; exact hc
  · intro j k c d u x hj hk hcd
    rcases key j c u hj with ⟨rfl, rfl, rfl⟩ | ⟨hne, hj'⟩ <;> rcases key k d x hk with ⟨rfl, rfl, rfl⟩ | ⟨hne', hk'⟩
    · rfl
    · exact absurd (h.apart k j d c x _ hk' hi hcd.symm) hne'
    · exact absurd (h.apart j k c d u _ hj' hi hcd) hne
    · exact h.apart j k c d u x hj' hk' hcd

/-- two stretches, one behind the other -/
theorem St.trans (h : St w0 S H w) (k : St w S2 H2 w') {H' : List (Nat × Obj)} (hS : ∀ b, S2 b → S b ∨ w0.heap.size ≤ b)
    (hH : ∀ (i b : Nat) (o : Obj), H'[i]? = some (b, o) → (∃ j : Nat, H2[j]? = some (b, o)) ∨ (∃ j : Nat, H[j]? = some (b, o) ∧ ¬ S2 b))
    (ha : ∀ (i j b c : Nat) (o u : Obj), H'[i]? = some (b, o) → H'[j]? = some (c, u) → b = c → i = j) : St w0 S H' w' := by
  refine ⟨k.os.trans h.os, k.tape.trans h.tape, k.output.trans h.output, Nat.le_trans h.size k.size, ?_, ?_, ha⟩
  · intro b hb hSb
    have h2 : ¬ S2 b := fun e => (hS b e).elim hSb (fun h => by omega)
    rw [k.old b (Nat.lt_of_lt_of_le hb h.size) h2]; exact h.old b hb hSb
  · intro i b o hi
    rcases hH i b o hi with ⟨j, hj⟩ | ⟨j, hj, h2⟩
    · obtain ⟨e1, e2⟩ := k.own j b o hj
      refine ⟨e1, ?_⟩
      rcases e2 with e2 | e2
      · exact hS b e2
      · exact Or.inr (Nat.le_trans h.size e2)
    · obtain ⟨e1, e2⟩ := h.own j b o hj
      exact ⟨by rw [k.old b (h.lt hj) h2]; exact e1, e2⟩

theorem St.call0 (h : St w0 S H w) (k : St w NoneS [] w') : St w0 S H w' :=
  h.trans k (fun _ e => e.elim) (fun i b o hi => .inr ⟨i, hi, fun e => e⟩) h.apart

theorem St.call1 (h : St w0 S H w) {i b : Nat} {o o' : Obj} (hi : H[i]? = some (b, o)) (kk : St w (· = b) [(b, o')] w') : St w0 S (H.set i (b, o')) w' := by
  have hil : i < H.length := by
    rcases Nat.lt_or_ge i H.length with h | h
    · exact h
    · rw [List.getElem?_eq_none h] at hi; cases hi
  have key : ∀ (j c : Nat) (u : Obj), (H.set i (b, o'))[j]? = some (c, u) → (j = i ∧ c = b ∧ u = o') ∨ (j ≠ i ∧ H[j]? = some (c, u)) := by
    intro j c u hj
    rw [List.getElem?_set] at hj
    split at hj
    · rename_i e; subst e
      simp only [hil, if_true, Option.some.injEq, Prod.mk.injEq] at hj
      exact .inl ⟨rfl, hj.1.symm, hj.2.symm⟩
    · rename_i e; exact .inr ⟨fun h => e h.symm, hj⟩
  refine h.trans kk (fun c e => by subst e; exact (h.own i _ o hi).2) ?_ ?_
  · intro j c u hj
    rcases key j c u hj with ⟨rfl, rfl, rfl⟩ | ⟨hne, hj'⟩
    · exact .inl ⟨0, rfl⟩
    · exact .inr ⟨j, hj', fun e => hne (h.apart j i c b u o hj' hi e)⟩
  · intro j k c d u x hj hk hcd
    rcases key j c u hj with ⟨rfl, rfl, rfl⟩ | ⟨hne, hj'⟩ <;> rcases key k d x hk with ⟨rfl, rfl, rfl⟩ | ⟨hne', hk'⟩
    · rfl
    · exact absurd (h.apart k j d c x _ hk' hi hcd.symm) hne'
    · exact absurd (h.apart j k c d u _ hj' hi hcd) hne
    · exact h.apart j k c d u x hj' hk' hcd

theorem St.new1 (h : St w0 S H w) {c : Nat} {o : Obj} (k : St w NoneS [(c, o)] w') : St w0 S (H ++ [(c, o)]) w' := by
  have h0 : St w0 S H w' := h.trans k (fun _ e => e.elim) (fun i b o hi => .inr ⟨i, hi, fun e => e⟩) h.apart
  have hc := k.own 0 c o rfl
  have hge : w.heap.size ≤ c := hc.2.elim (fun e => e.elim) id
  exact h0.know hc.1 (Or.inr (Nat.le_trans h.size hge)) (fun i u hi => by have := h.lt hi; omega)

/-- less is known -/
theorem St.take (h : St w0 S H w) {H' : List (Nat × Obj)} (hsub : ∀ (i : Nat) (x : Nat × Obj), H'[i]? = some x → H[i]? = some x) : St w0 S H' w :=
  ⟨h.os, h.tape, h.output, h.size, h.old, fun i b o hi => h.own i b o (hsub i _ hi), fun i j b c o u hi hj e => h.apart i j b c o u (hsub i _ hi) (hsub j _ hj) e⟩

theorem St.nil (h : St w0 S H w) : St w0 S [] w := h.take (fun i x hx => by simp at hx)

theorem St.one (h : St w0 S H w) {i b : Nat} {o : Obj} (hi : H[i]? = some (b, o)) : St w0 S [(b, o)] w := by
  refine ⟨h.os, h.tape, h.output, h.size, h.old, ?_, ?_⟩
  · intro j c u hj
    match j, hj with
    | 0, hj => simp at hj; obtain ⟨rfl, rfl⟩ := hj; exact h.own i _ _ hi
    | j + 1, hj => simp at hj
  · intro j k c d u x hj hk _
    match j, k, hj, hk with
    | 0, 0, _, _ => rfl
    | j + 1, _, hj, _ => simp at hj
    | 0, k + 1, _, hk => simp at hk

/-- what lay in the base and is in no block of S lies there still -/
theorem St.base (h : St w0 S H w) {b : Nat} {o : Obj} (hb : w0.heap[b]? = some o) (hS : ¬ S b) : w.heap[b]? = some o := by
  rw [h.old b (Array.getElem?_eq_some_iff.1 hb).1 hS]; exact hb

theorem St.wider (h : St w0 S H w) {S' : Nat → Prop} (hS : ∀ b, S b → S' b) : St w0 S' H w :=
  ⟨h.os, h.tape, h.output, h.size, fun k hk hn => h.old k hk (fun e => hn (hS k e)), fun i b o hi => ⟨(h.own i b o hi).1, (h.own i b o hi).2.imp (hS b) id⟩, h.apart⟩

theorem St.below (h : St w0 NoneS H w) : Below w0.heap.size w0 w :=
  ⟨h.os, h.tape, h.output, h.size, fun k hk => h.old k hk (fun e => e)⟩
end

/-! ## What is known of a frame -/

abbrev Fr := List (Nat × Value)
def look : Fr → Nat → Option Value
  | [], _ => none
  | (i, v) :: L, j => bif Nat.beq i j then some v else look L j

structure Fits (n : Nat) (L : Fr) (a : Act) : Prop where
  size : a.tmps.size = n
  defers : a.defers = []
  val : ∀ i v, look L i = some v → a.tmps[i]? = some v

def opd (L : Fr) : Operand → Option Value
  | .tmp t => look L t
  | .const v => some v
  | .global g => some (.pointer (some ⟨g, 0, none⟩))
  | .func f => some (.func (.func f) #[] #[])

section
variable {n : Nat} {L L' : Fr} {a : Act}

theorem Fits.eval (h : Fits n L a) {x : Operand} {v : Value} (hx : opd L x = some v) : a.eval x = v := by
  cases x with
  | tmp t => have := h.val t v hx; simp [Act.eval, Array.getD_eq_getD_getElem?, this]
  | const u => simpa [opd, Act.eval] using hx
  | global g => simpa [opd, Act.eval] using hx
  | func f => simpa [opd, Act.eval] using hx

theorem Fits.put (h : Fits n L a) {d : Nat} (hd : Nat.blt d n = true) (v : Value) : Fits n ((d, v) :: L) (a.put (some d) v) := by
  have hd' : d < n := by simpa [Nat.blt_eq] using hd
  refine ⟨by simp [Act.put, h.size], by simp [Act.put, h.defers], ?_⟩
  intro i u hi
  simp only [look] at hi
  simp only [Act.put]
  cases hb : Nat.beq d i
  · simp only [hb, cond_false] at hi
    have hne : d ≠ i := fun e => by simp [e] at hb
    rw [Array.getElem?_setIfInBounds, if_neg hne]
    exact h.val i u hi
  · simp only [hb, cond_true] at hi
    have he : d = i := by simpa using hb
    subst he; injection hi with hi; subst hi
    rw [Array.getElem?_setIfInBounds, if_pos rfl, if_pos (by rw [h.size]; exact hd')]

theorem Fits.forget (h : Fits n L a) (hs : ∀ i v, look L' i = some v → look L i = some v) : Fits n L' a := ⟨h.size, h.defers, fun i v hi => h.val i v (hs i v hi)⟩

/-- everything in L' is known in L -/
structure Sub (L' L : Fr) : Prop where
  all : ∀ i v, look L' i = some v → look L i = some v
theorem Sub.nil (L : Fr) : Sub [] L := ⟨fun i v h => by simp [look] at h⟩
theorem Sub.refl (L : Fr) : Sub L L := ⟨fun _ _ h => h⟩
theorem Sub.cons {i : Nat} {v : Value} (h : look L i = some v) (k : Sub L' L) : Sub ((i, v) :: L') L := by
  refine ⟨fun j u hj => ?_⟩
  simp only [look] at hj
  cases hb : Nat.beq i j
  · simp only [hb, cond_false] at hj; exact k.all j u hj
  · simp only [hb, cond_true] at hj
    have he : i = j := by simpa using hb
    subst he; injection hj with hj; subst hj; exact h
theorem Fits.sub (h : Fits n L a) (hs : Sub L' L) : Fits n L' a := h.forget hs.all
end

/-! ## Code -/

section
variable {P : Program} {n : Nat} {ops : Array Oper} {Q : Exit → Act → World → Prop} {L L' : Fr} {w w' : World} {rest : List Oper} {c x y : Code}

structure W (P : Program) (n : Nat) (c : Code) (Q : Exit → Act → World → Prop) (L : Fr) (w : World) : Prop where
  run : ∀ a, Fits n L a → c.wp P Q a w
structure WL (P : Program) (n : Nat) (ops : Array Oper) (Q : Exit → Act → World → Prop) (rest : List Oper) (L : Fr) (w : World) : Prop where
  run : ∀ a, Fits n L a → wpList P ops Q rest a w
/-- the code is left by way of e -/
structure At (n : Nat) (Q : Exit → Act → World → Prop) (e : Exit) (L : Fr) (w : World) : Prop where
  run : ∀ a, Fits n L a → Q e a w

theorem W_sub (hs : Sub L' L) (h : W P n c Q L' w) : W P n c Q L w := ⟨fun a ha => h.run a (ha.sub hs)⟩
theorem WL_sub (hs : Sub L' L) (h : WL P n ops Q rest L' w) : WL P n ops Q rest L w := ⟨fun a ha => h.run a (ha.sub hs)⟩
theorem At_sub {e : Exit} (hs : Sub L' L) (h : At n Q e L' w) : At n Q e L w := ⟨fun a ha => h.run a (ha.sub hs)⟩

theorem W_seq (h : W P n x (Exit.then (y.wp P Q) Q) L w) : W P n (.seq x y) Q L w := ⟨fun a ha => wp_seq (h.run a ha)⟩
/-- a sequence, with what is known between its parts said -/
theorem W_mid (Mid : Fr → World → Prop) (h : ∀ K : Act → World → Prop, (∀ L' w' a, Mid L' w' → Fits n L' a → K a w') → W P n x (Exit.then K Q) L w) (k : ∀ L' w', Mid L' w' → W P n y Q L' w') :
    W P n (.seq x y) Q L w := ⟨fun a ha => wp_seq ((h (y.wp P Q) (fun L' w' a' hm hf => (k L' w' hm).run a' hf)).run a ha)⟩
theorem W_block {id : Nat} (h : W P n c (Exit.inBlock id Q) L w) : W P n (.block id c) Q L w := ⟨fun a ha => wp_block (h.run a ha)⟩
theorem W_skip (h : At n Q .normal L w) : W P n .skip Q L w := ⟨fun a ha => wp_skip (h.run a ha)⟩
theorem W_exit {id : Nat} (h : At n Q (.exit id) L w) : W P n (.exit id) Q L w := ⟨fun a ha => wp_exit (h.run a ha)⟩
theorem W_ret (h : At n Q .ret L w) : W P n .ret Q L w := ⟨fun a ha => wp_ret (h.run a ha)⟩
theorem W_cond {o : Operand} {t : Bool} (hc : opd L o = some (.bool t)) (ht : t = true → W P n x Q L w) (hf : t = false → W P n y Q L w) : W P n (.cond o x y) Q L w :=
  ⟨fun a ha => wp_cond_split (ha.eval hc) (fun e => (ht e).run a ha) (fun e => (hf e).run a ha)⟩
theorem W_if {o : Operand} {p : Prop} {d0 : Decidable p} (hc : opd L o = some (.bool (decide p))) (ht : p → W P n x Q L w) (hf : ¬ p → W P n y Q L w) : W P n (.cond o x y) Q L w :=
  W_cond hc (fun e => ht (of_decide_eq_true e)) (fun e => hf (of_decide_eq_false e))
theorem W_true {o : Operand} (hc : opd L o = some (.bool true)) (h : W P n x Q L w) : W P n (.cond o x y) Q L w := ⟨fun a ha => wp_cond_true (ha.eval hc) (h.run a ha)⟩
theorem W_false {o : Operand} (hc : opd L o = some (.bool false)) (h : W P n y Q L w) : W P n (.cond o x y) Q L w := ⟨fun a ha => wp_cond_false (ha.eval hc) (h.run a ha)⟩

theorem At_then_normal {Q' : Exit → Act → World → Prop} (h : W P n y Q L w) : At n (Exit.then (y.wp P Q) Q') .normal L w := ⟨h.run⟩
theorem At_K {K : Act → World → Prop} {L0 : Fr} {Mid : Fr → World → Prop} (hK : ∀ L' w' a, Mid L' w' → Fits n L' a → K a w') (hm : Mid L0 w) (hs : Sub L0 L) : At n (Exit.then K Q) .normal L w :=
  ⟨fun a ha => hK L0 w a hm (ha.sub hs)⟩
theorem At_then {K : Act → World → Prop} {id : Nat} (h : At n Q (.exit id) L w) : At n (Exit.then K Q) (.exit id) L w := ⟨h.run⟩
theorem At_then_ret {K : Act → World → Prop} (h : At n Q .ret L w) : At n (Exit.then K Q) .ret L w := ⟨h.run⟩
theorem At_then_goto {K : Act → World → Prop} {l : Nat} (h : At n Q (.goto l) L w) : At n (Exit.then K Q) (.goto l) L w := ⟨h.run⟩
theorem At_in_normal {id : Nat} (h : At n Q .normal L w) : At n (Exit.inBlock id Q) .normal L w := ⟨h.run⟩
theorem At_in_ret {id : Nat} (h : At n Q .ret L w) : At n (Exit.inBlock id Q) .ret L w := ⟨h.run⟩
theorem At_in_goto {id l : Nat} (h : At n Q (.goto l) L w) : At n (Exit.inBlock id Q) (.goto l) L w := ⟨h.run⟩
theorem At_in_hit {id : Nat} (h : At n Q .normal L w) : At n (Exit.inBlock id Q) (.exit id) L w := ⟨fun a ha => by simp only [Exit.inBlock, if_true]; exact h.run a ha⟩
theorem At_in_miss {id id' : Nat} (hne : Nat.beq id' id = false) (h : At n Q (.exit id') L w) : At n (Exit.inBlock id Q) (.exit id') L w := ⟨fun a ha => by
  have : id' ≠ id := fun e => by simp [e] at hne
  simp only [Exit.inBlock, if_neg this]; exact h.run a ha⟩

theorem least {p : Nat → Prop} (h : ∃ k, p k) : ∃ k, p k ∧ ∀ j, p j → k ≤ j := by
  obtain ⟨k, hk⟩ := h
  induction k using Nat.strongRecOn with
  | _ k ih =>
    by_cases h : ∃ j, j < k ∧ p j
    · obtain ⟨j, hj, hp⟩ := h; exact ih j hj hp
    · exact ⟨k, hk, fun j hp => Nat.le_of_not_lt fun hlt => h ⟨j, hlt, hp⟩⟩

/-- a loop: R k is what holds at the head of a round with k rounds to go at most -/
theorem W_loop (R : Nat → Fr → World → Prop) (k0 : Nat) {L0 : Fr} (h0 : R k0 L0 w) (hs : Sub L0 L)
    (step : ∀ k L w, R k L w → ∀ K : Act → World → Prop, (∀ k' L' w' a, k' < k → R k' L' w' → Fits n L' a → K a w') → W P n c (Exit.then K Q) L w) : W P n (.loop c) Q L w := by
  refine ⟨fun a ha => ?_⟩
  let p : Act → World → Nat → Prop := fun a w k => ∃ L, R k L w ∧ Fits n L a
  let μ : Act → World → Nat := fun a w => @dite Nat (∃ k, p a w k) (Classical.propDecidable _) (fun h => Classical.choose (least h)) (fun _ => 0)
  have hμ : ∀ a w, (∃ k, p a w k) → p a w (μ a w) ∧ ∀ j, p a w j → μ a w ≤ j := by
    intro a w h
    have : μ a w = Classical.choose (least h) := by simp only [μ]; rw [dif_pos h]
    rw [this]; exact Classical.choose_spec (least h)
  refine wp_loop (fun a w => ∃ k, p a w k) μ ⟨k0, L0, h0, ha.sub hs⟩ ?_
  intro a' w' hI
  obtain ⟨⟨L1, hr, hf⟩, _⟩ := hμ a' w' hI
  refine (step (μ a' w') L1 w' hr _ ?_).run a' hf
  intro k' L2 w2 a2 hlt hr2 hf2
  have hI2 : ∃ k, p a2 w2 k := ⟨k', L2, hr2, hf2⟩
  exact ⟨hI2, Nat.lt_of_le_of_lt ((hμ a2 w2 hI2).2 k' ⟨L2, hr2, hf2⟩) hlt⟩

/-! ## Regions -/

theorem W_region {id : Nat} {l : List Oper} (h : WL P n l.toArray Q l L w) : W P n (.region id l.toArray false) Q L w := ⟨fun a ha => wp_region_lit (h.run a ha)⟩
theorem WL_nil (h : At n Q .normal L w) : WL P n ops Q [] L w := ⟨fun a ha => h.run a ha⟩

def wantV : Value → Bool → Bool
  | .bool x, b => x == b
  | _, _ => false
/-- is the operation carried out? -/
def wantB (ops : Array Oper) (g : Option (Nat × Bool)) (L : Fr) : Option Bool :=
  match g with
  | none => some true
  | some (j, b) => match (ops[j]?).bind (·.dst) with
    | some d => (look L d).map (wantV · b)
    | none => none

theorem wantB_spec {o : Oper} {b : Bool} {a : Act} (h : wantB ops o.guard L = some b) (ha : Fits n L a) : Region.wanted o (yielded ops a.tmps) = b := by
  unfold wantB at h
  unfold Region.wanted
  split at h
  · rename_i e; rw [e]; simpa using h
  · rename_i j c e; rw [e]
    split at h
    · rename_i d hd
      cases hl : look L d with
      | none => simp [hl] at h
      | some v =>
        simp only [hl, Option.map_some, Option.some.injEq] at h
        have hv := ha.val d v hl
        simp only [yielded, hd, Option.bind_some, hv]
        subst h
        cases v <;> simp [wantV]
    · cases h

/-- what an operation yields, and the world that it leaves -/
structure Ev (P : Program) (L : Fr) (op : Op) (ty : TypeId) (w : World) (v : Value) (w' : World) : Prop where
  run : ∀ (n : Nat) (a : Act), Fits n L a → ∀ (dst : Option Tmp) (pos : String) (af : Array Edge) (g : Option (Nat × Bool)), (execOp a.eval ⟨dst, op, ty, pos, af, g⟩).run P w = .ok (.value v) w'

theorem WL_ev {d : Nat} {op : Op} {ty : TypeId} {pos : String} {af : Array Edge} {g : Option (Nat × Bool)} {v : Value} (hg : wantB ops g L = some true) (hn : Nat.blt d n = true)
    (h : Ev P L op ty w v w') (k : WL P n ops Q rest ((d, v) :: L) w') : WL P n ops Q (⟨some d, op, ty, pos, af, g⟩ :: rest) L w := by
  refine ⟨fun a ha => ?_⟩
  unfold wpList
  rw [wantB_spec (o := ⟨some d, op, ty, pos, af, g⟩) hg ha, if_pos rfl]
  refine .inl ?_
  unfold Oper.wp
  rw [h.run n a ha, Oper.upon_value]
  exact k.run _ (ha.put hn v)

/-- an operation that is passed over -/
theorem WL_pass {d : Nat} {op : Op} {ty : TypeId} {pos : String} {af : Array Edge} {g : Option (Nat × Bool)} (hg : wantB ops g L = some false) (hn : Nat.blt d n = true)
    (k : WL P n ops Q rest ((d, undef) :: L) w) : WL P n ops Q (⟨some d, op, ty, pos, af, g⟩ :: rest) L w := by
  refine ⟨fun a ha => ?_⟩
  unfold wpList
  rw [wantB_spec (o := ⟨some d, op, ty, pos, af, g⟩) hg ha]
  exact k.run _ (ha.put hn undef)
theorem WL_pass0 {op : Op} {ty : TypeId} {pos : String} {af : Array Edge} {g : Option (Nat × Bool)} (hg : wantB ops g L = some false)
    (k : WL P n ops Q rest L w) : WL P n ops Q (⟨none, op, ty, pos, af, g⟩ :: rest) L w := by
  refine ⟨fun a ha => ?_⟩
  unfold wpList
  rw [wantB_spec (o := ⟨none, op, ty, pos, af, g⟩) hg ha]
  exact k.run _ ha

/-- a bool in a slot, looked at -/
theorem WL_case {j : Nat} {b : Bool} (h : look L j = some (.bool b)) (ht : b = true → WL P n ops Q rest ((j, .bool true) :: L) w) (hf : b = false → WL P n ops Q rest ((j, .bool false) :: L) w) : WL P n ops Q rest L w := by
  cases b
  · exact WL_sub (Sub.cons h (Sub.refl _)) (hf rfl)
  · exact WL_sub (Sub.cons h (Sub.refl _)) (ht rfl)

end

/-! ## What is known of the types -/

structure Tys where
  one : List Nat
  agg : List (Nat × Nat)
  fld : List (Nat × Nat × Nat × Nat)
  sl : List (Nat × Nat × Nat × Nat)
  arr : List (Nat × Nat × Nat × Nat)
  str : List Nat
  int : List (Nat × IntKind)
  zero : List (Nat × Value)
  ptr : List Nat := []
  boo : List Nat := []
  stc : List Nat := []
  calls : List Nat := []

def ptrB (P : Program) (t : Nat) : Bool := match P.underlying t with | some (.pointer _) => true | _ => false
theorem ptrB_spec {P : Program} {t : Nat} (h : ptrB P t = true) : ∃ e, P.underlying t = some (.pointer e) := by
  unfold ptrB at h
  split at h
  · rename_i e he; exact ⟨e, he⟩
  · cases h
def booB (P : Program) (t : Nat) : Bool := match P.underlying t with | some .bool => true | _ => false
theorem booB_spec {P : Program} {t : Nat} (h : booB P t = true) : P.underlying t = some .bool := by
  unfold booB at h
  split at h
  · rename_i he; exact he
  · cases h
def structB (P : Program) (t : Nat) : Bool := match P.underlying t with | some (.struct _) => true | _ => false
theorem structB_spec {P : Program} {t : Nat} (h : structB P t = true) : ∃ fs, P.underlying t = some (.struct fs) := by
  unfold structB at h
  split at h
  · rename_i e he; exact ⟨e, he⟩
  · cases h
def callB (P : Program) (f : FuncId) : Bool := match P.funcs[f]? with
  | some fn => fn.body.isSome && !(fn.name == "runtime.NumGoroutine")
  | none => false

def mem1 : List Nat → Nat → Bool
  | [], _ => false
  | x :: l, t => bif Nat.beq x t then true else mem1 l t
def asc {α : Type} : List (Nat × α) → Nat → Option α
  | [], _ => none
  | (x, a) :: l, t => bif Nat.beq x t then some a else asc l t
def asc2 {α : Type} : List (Nat × Nat × α) → Nat → Nat → Option α
  | [], _, _ => none
  | (x, y, a) :: l, t, u => bif Nat.beq x t && Nat.beq y u then some a else asc2 l t u

def szB (P : Program) (t : Nat) : Nat := ((P.info? t).map (·.size)).getD 0
def byB (P : Program) (t : Nat) : Nat := ((P.info? t).map (·.bytes)).getD 0
def oneB (P : Program) (t : Nat) : Bool := (match P.underlying t with | some (.struct _) => false | some (.array _ _) => false | some _ => true | none => false) && szB P t == 1 && (P.info? t).isSome
def aggB (P : Program) (t k : Nat) : Bool := (match P.underlying t with | some (.struct fs) => fs.all (fun f => (P.info? f.type).isSome) | some (.array _ _) => true | _ => false) && szB P t == k && (P.info? t).isSome
def foB (P : Program) (s f o z : Nat) : Bool := match P.underlying s with
  | some (.struct fs) => (match fs[f]? with | some x => x.offset == o && (P.info? x.type).isSome && szB P x.type == z && z != 0 | none => false)
  | _ => false
def slB (P : Program) (t e z y : Nat) : Bool := (match P.underlying t with | some (.slice d) => d == e | _ => false) && (P.info? e).isSome && szB P e == z && byB P e == y
def arB (P : Program) (t n e z : Nat) : Bool := (match P.underlying t with | some (.array m d) => m == n && d == e | _ => false) && (P.info? e).isSome && szB P e == z
def strB (P : Program) (t : Nat) : Bool := match P.underlying t with | some .string => true | _ => false
def intB (P : Program) (t : Nat) (k : IntKind) : Bool := match P.underlying t with | some (.int d) => d == k | _ => false

structure Tys.Ok (T : Tys) (P : Program) : Prop where
  one : T.one.all (oneB P) = true
  agg : T.agg.all (fun x => aggB P x.1 x.2) = true
  fld : T.fld.all (fun x => foB P x.1 x.2.1 x.2.2.1 x.2.2.2) = true
  sl : T.sl.all (fun x => slB P x.1 x.2.1 x.2.2.1 x.2.2.2) = true
  arr : T.arr.all (fun x => arB P x.1 x.2.1 x.2.2.1 x.2.2.2) = true
  str : T.str.all (strB P) = true
  int : T.int.all (fun x => intB P x.1 x.2) = true
  zero : T.zero.map (fun x => (P.info? x.1).bind (·.zero)) = T.zero.map (fun x => some x.2)
  mixed : P.follows .mixedOrders = true
  ptr : T.ptr.all (ptrB P) = true
  boo : T.boo.all (booB P) = true
  stc : T.stc.all (structB P) = true
  calls : T.calls.all (callB P) = true

theorem mem1_mem {l : List Nat} {t : Nat} (h : mem1 l t = true) : t ∈ l := by
  induction l with
  | nil => cases h
  | cons x l ih =>
    simp only [mem1] at h
    cases hb : Nat.beq x t
    · simp only [hb, cond_false] at h; exact List.mem_cons_of_mem _ (ih h)
    · have : x = t := by simpa using hb
      subst this; exact List.mem_cons_self
theorem asc_mem {α : Type} {l : List (Nat × α)} {t : Nat} {a : α} (h : asc l t = some a) : (t, a) ∈ l := by
  induction l with
  | nil => cases h
  | cons x l ih =>
    obtain ⟨x, b⟩ := x
    simp only [asc] at h
    cases hb : Nat.beq x t
    · simp only [hb, cond_false] at h; exact List.mem_cons_of_mem _ (ih h)
    · have : x = t := by simpa using hb
      subst this
      simp only [hb, cond_true, Option.some.injEq] at h
      subst h; exact List.mem_cons_self
theorem asc2_mem {α : Type} {l : List (Nat × Nat × α)} {t u : Nat} {a : α} (h : asc2 l t u = some a) : (t, u, a) ∈ l := by
  induction l with
  | nil => cases h
  | cons x l ih =>
    obtain ⟨x, y, b⟩ := x
    simp only [asc2] at h
    cases hb : (Nat.beq x t && Nat.beq y u)
    · simp only [hb, cond_false] at h; exact List.mem_cons_of_mem _ (ih h)
    · have hb' := hb
      simp only [Bool.and_eq_true] at hb'
      obtain ⟨h1, h2⟩ := hb'
      have h1 := Nat.eq_of_beq_eq_true h1
      have h2 := Nat.eq_of_beq_eq_true h2
      subst h1; subst h2
      simp at h
      subst h; exact List.mem_cons_self

section
variable {T : Tys} {P : Program} (hT : T.Ok P)
include hT
theorem ok_ptr {t : Nat} (h : mem1 T.ptr t = true) : ptrB P t = true := List.all_eq_true.1 hT.ptr t (mem1_mem h)
theorem ok_boo {t : Nat} (h : mem1 T.boo t = true) : P.underlying t = some .bool := booB_spec (List.all_eq_true.1 hT.boo t (mem1_mem h))
theorem ok_stc {t : Nat} (h : mem1 T.stc t = true) : structB P t = true := List.all_eq_true.1 hT.stc t (mem1_mem h)
theorem ok_call {t : Nat} (h : mem1 T.calls t = true) : callB P t = true := List.all_eq_true.1 hT.calls t (mem1_mem h)
theorem ok_one {t : Nat} (h : mem1 T.one t = true) : (∃ d, P.underlying t = some d ∧ (∀ f, d ≠ .struct f) ∧ (∀ n e, d ≠ .array n e)) ∧ ∃ i, P.info? t = some i ∧ i.size = 1 := by
  have := List.all_eq_true.1 hT.one t (mem1_mem h)
  simp only [oneB, Bool.and_eq_true, beq_iff_eq, szB] at this
  obtain ⟨⟨h1, h2⟩, h3⟩ := this
  refine ⟨?_, ?_⟩
  · cases hu : P.underlying t with
    | none => simp [hu] at h1
    | some d => refine ⟨d, rfl, ?_, ?_⟩ <;> (intros; rintro rfl; simp [hu] at h1)
  · obtain ⟨i, hi⟩ := Option.isSome_iff_exists.1 h3
    exact ⟨i, hi, by simpa [hi] using h2⟩
theorem ok_agg {t k : Nat} (h : asc T.agg t = some k) : (∃ d, P.underlying t = some d ∧ ((∃ f, d = .struct f ∧ ∀ x ∈ f, (P.info? x.type).isSome = true) ∨ (∃ n e, d = .array n e))) ∧ ∃ i, P.info? t = some i ∧ i.size = k := by
  have := List.all_eq_true.1 hT.agg _ (asc_mem h)
  simp only [aggB, Bool.and_eq_true, beq_iff_eq, szB] at this
  obtain ⟨⟨h1, h2⟩, h3⟩ := this
  refine ⟨?_, ?_⟩
  · cases hu : P.underlying t with
    | none => simp [hu] at h1
    | some d =>
      refine ⟨d, rfl, ?_⟩
      cases d <;> simp [hu] at h1 <;> simp
      intro x hx
      obtain ⟨j, hj, rfl⟩ := Array.mem_iff_getElem.1 hx
      exact h1 j hj
  · obtain ⟨i, hi⟩ := Option.isSome_iff_exists.1 h3
    exact ⟨i, hi, by simpa [hi] using h2⟩
theorem ok_fld {s f o z : Nat} (h : asc2 T.fld s f = some (o, z)) : ∃ fs x i, P.underlying s = some (.struct fs) ∧ fs[f]? = some x ∧ x.offset = o ∧ P.info? x.type = some i ∧ i.size = z ∧ z ≠ 0 := by
  have := List.all_eq_true.1 hT.fld _ (asc2_mem h)
  simp only [foB] at this
  cases hu : P.underlying s with
  | none => simp [hu] at this
  | some d =>
    cases d <;> simp [hu] at this
    case struct fs =>
      cases hx : fs[f]? with
      | none => simp [hx] at this
      | some x =>
        simp only [hx, Bool.and_eq_true, beq_iff_eq, bne_iff_ne, szB] at this
        obtain ⟨⟨⟨h1, h2⟩, h3⟩, h4⟩ := this
        obtain ⟨i, hi⟩ := Option.isSome_iff_exists.1 h2
        exact ⟨fs, x, i, rfl, hx, h1, hi, by simpa [hi] using h3, h4⟩
theorem ok_sl {t e z y : Nat} (h : asc T.sl t = some (e, z, y)) : P.underlying t = some (.slice e) ∧ ∃ i, P.info? e = some i ∧ i.size = z ∧ i.bytes = y := by
  have := List.all_eq_true.1 hT.sl _ (asc_mem h)
  simp only [slB, Bool.and_eq_true, beq_iff_eq, szB, byB] at this
  obtain ⟨⟨⟨h1, h2⟩, h3⟩, h4⟩ := this
  obtain ⟨i, hi⟩ := Option.isSome_iff_exists.1 h2
  refine ⟨?_, i, hi, by simpa [hi] using h3, by simpa [hi] using h4⟩
  cases hu : P.underlying t with
  | none => simp [hu] at h1
  | some d => cases d <;> simp [hu] at h1; subst h1; rfl
theorem ok_arr {t n e z : Nat} (h : asc T.arr t = some (n, e, z)) : P.underlying t = some (.array n e) ∧ ∃ i, P.info? e = some i ∧ i.size = z := by
  have := List.all_eq_true.1 hT.arr _ (asc_mem h)
  simp only [arB, Bool.and_eq_true, beq_iff_eq, szB] at this
  obtain ⟨⟨h1, h2⟩, h3⟩ := this
  obtain ⟨i, hi⟩ := Option.isSome_iff_exists.1 h2
  refine ⟨?_, i, hi, by simpa [hi] using h3⟩
  cases hu : P.underlying t with
  | none => simp [hu] at h1
  | some d => cases d <;> simp [hu] at h1; obtain ⟨rfl, rfl⟩ := h1; rfl
theorem ok_str {t : Nat} (h : mem1 T.str t = true) : P.underlying t = some .string := by
  have := List.all_eq_true.1 hT.str t (mem1_mem h)
  simp only [strB] at this
  cases hu : P.underlying t with
  | none => simp [hu] at this
  | some d => cases d <;> simp [hu] at this; rfl
theorem ok_int {t : Nat} {k : IntKind} (h : asc T.int t = some k) : P.underlying t = some (.int k) := by
  have := List.all_eq_true.1 hT.int _ (asc_mem h)
  simp only [intB] at this
  cases hu : P.underlying t with
  | none => simp [hu] at this
  | some d => cases d <;> simp [hu] at this; subst this; rfl
theorem ok_zero {t : Nat} {v : Value} (h : asc T.zero t = some v) : ∃ i, P.info? t = some i ∧ i.zero = some v := by
  have hm := asc_mem h
  have hz := hT.zero
  have : (P.info? t).bind (·.zero) = some v := List.map_inj_left.1 hz _ hm
  cases hi : P.info? t with
  | none => simp [hi] at this
  | some i => exact ⟨i, rfl, by simpa [hi] using this⟩
end

theorem run_underlying' {P : Program} {t : Nat} {d : TypeDesc} (h : P.underlying t = some d) (w : World) : (underlying t).run P w = .ok d w := by
  simp [underlying, h]
theorem run_sizeOf' {P : Program} {t : Nat} {i : TypeInfo} (h : P.info? t = some i) (w : World) : (sizeOf t).run P w = .ok i.size w := by
  simp [sizeOf, typeInfo, h]
theorem run_isAgg_no {T : Tys} {P : Program} (hT : T.Ok P) {t : Nat} (h : mem1 T.one t = true) (w : World) : (isAgg t).run P w = .ok false w := by
  obtain ⟨⟨d, hu, h1, h2⟩, _⟩ := ok_one hT h
  simp only [isAgg, Sem.run_bind, run_underlying' hu, Result.andThen_ok]
  cases d <;> simp <;> first | exact absurd rfl (h1 _) | exact absurd rfl (h2 _ _)
theorem run_isAgg_yes {T : Tys} {P : Program} (hT : T.Ok P) {t k : Nat} (h : asc T.agg t = some k) (w : World) : (isAgg t).run P w = .ok true w := by
  obtain ⟨⟨d, hu, h1⟩, _⟩ := ok_agg hT h
  simp only [isAgg, Sem.run_bind, run_underlying' hu, Result.andThen_ok]
  rcases h1 with ⟨f, rfl, _⟩ | ⟨n, e, rfl⟩ <;> rfl

/-! ## Values -/

/-- a string -/
abbrev S (l : List UInt8) : Value := .string ⟨⟨l⟩⟩
/-- an int -/
abbrev I (n : Int) : Value := .int .i64 n
abbrev B (b : Bool) : Value := .bool b
/-- a pointer to the head of a block -/
abbrev Ptr (b : Nat) : Value := .pointer (some ⟨b, 0, none⟩)

def zcells : Value → List Value
  | .agg ⟨l⟩ => l
  | v => [v]
theorem zcells_cells (v : Value) : v.cells = ⟨zcells v⟩ := by cases v <;> rfl

def oneV : Value → Bool
  | .agg _ => false
  | .tuple _ => false
  | _ => true
theorem oneV_cells {v : Value} (h : oneV v = true) : v.cells = #[v] := by cases v <;> first | rfl | cases h

theorem cell_of {w : World} {b : Nat} {l : List Value} {E : TypeId} {fz : Nat × Nat} (h : w.heap[b]? = some (.cells ⟨l⟩ E fz)) (o : Nat) : w.cell? ⟨b, o, none⟩ = l[o]? := by
  simp [World.cell?, h]

/-! ## Operations that only compute -/

section
variable {T : Tys} {P : Program} {n : Nat} {ops : Array Oper} {Q : Exit → Act → World → Prop} {L L' : Fr} {w w' : World} {rest : List Oper} {ty t t' : TypeId} {xo yo zo : Operand}

theorem Ev_move {v : Value} (h : opd L xo = some v) : Ev P L (.move xo) ty w v w := by
  refine ⟨fun n a ha _ _ _ _ => ?_⟩; simp [execOp, ha.eval h]
theorem Ev_assign {v : Value} (h : opd L xo = some v) : Ev P L (.assign xo) ty w v w := by
  refine ⟨fun n a ha _ _ _ _ => ?_⟩; simp [execOp, ha.eval h]
theorem Ev_pickT {v : Value} (hc : opd L xo = some (.bool true)) (h : opd L yo = some v) : Ev P L (.pick xo yo zo) ty w v w := by
  refine ⟨fun n a ha _ _ _ _ => ?_⟩; simp [execOp, ha.eval h, ha.eval hc, asBool]
theorem Ev_pickF {v : Value} (hc : opd L xo = some (.bool false)) (h : opd L zo = some v) : Ev P L (.pick xo yo zo) ty w v w := by
  refine ⟨fun n a ha _ _ _ _ => ?_⟩; simp [execOp, ha.eval h, ha.eval hc, asBool]
theorem Ev_nilCheck {p : Addr} (h : opd L xo = some (.pointer (some p))) : Ev P L (.nilCheck xo) ty w (.pointer (some p)) w := by
  refine ⟨fun n a ha _ _ _ _ => ?_⟩; simp [execOp, ha.eval h]
theorem Ev_not {b : Bool} (h : opd L xo = some (.bool b)) : Ev P L (.unOp .not t xo) ty w (.bool !b) w := by
  refine ⟨fun n a ha _ _ _ _ => ?_⟩; simp [execOp, ha.eval h, Op.unary]
theorem Ev_notP {p : Prop} {d0 : Decidable p} (h : opd L xo = some (.bool (decide p))) : Ev P L (.unOp .not t xo) ty w (.bool (decide (¬ p))) w := by
  have := Ev_not (P := P) (ty := ty) (w := w) (t := t) h
  rwa [← decide_not] at this
theorem Ev_neg {k : IntKind} {x : Int} (h : opd L xo = some (.int k x)) : Ev P L (.unOp .neg t xo) ty w (.int k (k.wrap (0 - x))) w := by
  refine ⟨fun n a ha _ _ _ _ => ?_⟩; simp [execOp, ha.eval h, Op.unary, Op.intArith]
theorem Ev_compl {k : IntKind} {x : Int} (h : opd L xo = some (.int k x)) : Ev P L (.unOp .xor t xo) ty w (.int k (bits .xor k (if k.signed then -1 else k.max) x)) w := by
  refine ⟨fun n a ha _ _ _ _ => ?_⟩; simp only [execOp, ha.eval h, Op.unary, Op.intBits]; rfl

theorem Ev_bin {op : BinOp} {u v r : Value} (hx : opd L xo = some u) (hy : opd L yo = some v) (hg : eqGuard op t xo yo u v = pure ()) (hb : (binOp op t u v).run P w = .ok r w) : Ev P L (.binOp op t xo yo t') ty w r w := by
  refine ⟨fun n a ha _ _ _ _ => ?_⟩
  simp only [execOp, ha.eval hx, ha.eval hy, Sem.run_bind, hg, Sem.run_pure, Result.andThen_ok, hb]

section ints
variable {k : IntKind} {x y : Int} (hx : opd L xo = some (.int k x)) (hy : opd L yo = some (.int k y))
include hx hy
theorem Ev_eql : Ev P L (.binOp .eql t xo yo t') ty w (.bool (decide (x = y))) w :=
  Ev_bin hx hy (eqGuard_at_int ..) (by rw [binOp_eql, Sem.run_pure]; rfl)
theorem Ev_neq : Ev P L (.binOp .neq t xo yo t') ty w (.bool (decide (x ≠ y))) w :=
  Ev_bin hx hy (eqGuard_at_int ..) (by rw [binOp_neq, Sem.run_pure]; congr 2; by_cases h : x = y <;> simp [h])
theorem Ev_lss : Ev P L (.binOp .lss t xo yo t') ty w (.bool (decide (x < y))) w :=
  Ev_bin hx hy (eqGuard_at_int ..) (by rw [binOp_lss, Sem.run_pure])
theorem Ev_leq : Ev P L (.binOp .leq t xo yo t') ty w (.bool (decide (x ≤ y))) w :=
  Ev_bin hx hy (eqGuard_at_int ..) (by rw [binOp_leq, Sem.run_pure])
theorem Ev_gtr : Ev P L (.binOp .gtr t xo yo t') ty w (.bool (decide (y < x))) w :=
  Ev_bin hx hy (eqGuard_at_int ..) (by rw [binOp_gtr, Sem.run_pure])
theorem Ev_geq : Ev P L (.binOp .geq t xo yo t') ty w (.bool (decide (y ≤ x))) w :=
  Ev_bin hx hy (eqGuard_at_int ..) (by rw [binOp_geq, Sem.run_pure])
theorem Ev_addw : Ev P L (.binOp .add t xo yo t') ty w (.int k (k.wrap (x + y))) w :=
  Ev_bin hx hy (eqGuard_add ..) (by rw [binOp_add]; rfl)
theorem Ev_subw : Ev P L (.binOp .sub t xo yo t') ty w (.int k (k.wrap (x - y))) w :=
  Ev_bin hx hy (eqGuard_sub ..) (by rw [binOp_sub]; rfl)
theorem Ev_mulw : Ev P L (.binOp .mul t xo yo t') ty w (.int k (k.wrap (x * y))) w :=
  Ev_bin hx hy (eqGuard_mul ..) (by rw [binOp_mul]; rfl)
theorem Ev_quow (h0 : y ≠ 0) : Ev P L (.binOp .quo t xo yo t') ty w (.int k (k.wrap (x.tdiv y))) w :=
  Ev_bin hx hy (eqGuard_quo ..) (by rw [binOp_quo]; simp only [Op.intDiv, if_neg h0]; rfl)
theorem Ev_rem (h0 : y ≠ 0) : Ev P L (.binOp .rem t xo yo t') ty w (.int k (x.tmod y)) w :=
  Ev_bin hx hy (eqGuard_rem ..) (by rw [binOp_rem]; simp only [Op.intDiv, if_neg h0]; rfl)
theorem Ev_and : Ev P L (.binOp .and t xo yo t') ty w (.int k (bits .and k x y)) w :=
  Ev_bin hx hy (eqGuard_and ..) (by rw [binOp_and]; rfl)
theorem Ev_or : Ev P L (.binOp .or t xo yo t') ty w (.int k (bits .or k x y)) w :=
  Ev_bin hx hy (eqGuard_or ..) (by rw [binOp_or]; rfl)
theorem Ev_xor : Ev P L (.binOp .xor t xo yo t') ty w (.int k (bits .xor k x y)) w :=
  Ev_bin hx hy (eqGuard_xor ..) (by rw [binOp_xor]; rfl)
end ints

/-- within the range of the kind -/
def inK (k : IntKind) (x : Int) : Prop := k.min ≤ x ∧ x ≤ k.max
theorem wrap_in {k : IntKind} {x : Int} (h : inK k x) : k.wrap x = x := by
  obtain ⟨h1, h2⟩ := h
  cases k <;> simp [IntKind.min, IntKind.max, IntKind.signed, IntKind.bits] at h1 h2 <;> simp [IntKind.wrap, IntKind.signed, IntKind.bits] <;> omega
theorem inI {x : Int} (h1 : -9223372036854775808 ≤ x) (h2 : x ≤ 9223372036854775807) : inK .i64 x := by
  simp [inK, IntKind.min, IntKind.max, IntKind.signed, IntKind.bits]; omega
theorem Ev_add {x y : Int} (hx : opd L xo = some (.int .i64 x)) (hy : opd L yo = some (.int .i64 y)) (h : -9223372036854775808 ≤ x + y ∧ x + y ≤ 9223372036854775807) : Ev P L (.binOp .add t xo yo t') ty w (.int .i64 (x + y)) w := by
  have := Ev_addw (P := P) (t := t) (t' := t') (ty := ty) (w := w) hx hy
  rwa [wrap_in (inI h.1 h.2)] at this
theorem Ev_sub {x y : Int} (hx : opd L xo = some (.int .i64 x)) (hy : opd L yo = some (.int .i64 y)) (h : -9223372036854775808 ≤ x - y ∧ x - y ≤ 9223372036854775807) : Ev P L (.binOp .sub t xo yo t') ty w (.int .i64 (x - y)) w := by
  have := Ev_subw (P := P) (t := t) (t' := t') (ty := ty) (w := w) hx hy
  rwa [wrap_in (inI h.1 h.2)] at this
theorem Ev_mul {x y : Int} (hx : opd L xo = some (.int .i64 x)) (hy : opd L yo = some (.int .i64 y)) (h : -9223372036854775808 ≤ x * y ∧ x * y ≤ 9223372036854775807) : Ev P L (.binOp .mul t xo yo t') ty w (.int .i64 (x * y)) w := by
  have := Ev_mulw (P := P) (t := t) (t' := t') (ty := ty) (w := w) hx hy
  rwa [wrap_in (inI h.1 h.2)] at this
/-- a quotient of numbers that are not negative -/
theorem Ev_quo {x y : Int} (hx : opd L xo = some (.int .i64 x)) (hy : opd L yo = some (.int .i64 y)) (h0 : 0 ≤ x) (h1 : x ≤ 9223372036854775807) (h2 : 0 < y) : Ev P L (.binOp .quo t xo yo t') ty w (.int .i64 (x / y)) w := by
  have := Ev_quow (P := P) (t := t) (t' := t') (ty := ty) (w := w) hx hy (by omega)
  rw [Int.tdiv_eq_ediv_of_nonneg h0] at this
  have hb : 0 ≤ x / y := Int.ediv_nonneg h0 (by omega)
  have hc : x / y ≤ x := Int.ediv_le_self y h0
  rwa [wrap_in (inI (by omega) (by omega))] at this
theorem Ev_remP {k : IntKind} {x y : Int} (hx : opd L xo = some (.int k x)) (hy : opd L yo = some (.int k y)) (h0 : 0 ≤ x) (h2 : 0 < y) : Ev P L (.binOp .rem t xo yo t') ty w (.int k (x % y)) w := by
  have := Ev_rem (P := P) (t := t) (t' := t') (ty := ty) (w := w) hx hy (by omega)
  rwa [Int.tmod_eq_emod_of_nonneg h0] at this

/-- '==' by the type's own comparison, at whatever depth -/
theorem Ev_eq_of {u v : Value} {b : Bool} (hx : opd L xo = some u) (hy : opd L yo = some v) (hg : eqGuard .eql t xo yo u v = pure ()) (hb : binOp .eql t u v = (do pure (.bool (← Op.equal t u v)))) (h : ∀ d, (Op.equalIn (d + 2) t u v).run P w = .ok b w) :
    Ev P L (.binOp .eql t xo yo t') ty w (.bool b) w :=
  Ev_bin hx hy hg (by rw [hb, Sem.run_bind, Op.equal, Op.maxDepth, h 9998]; rfl)
theorem Ev_ne_of {u v : Value} {b : Bool} (hx : opd L xo = some u) (hy : opd L yo = some v) (hg : eqGuard .neq t xo yo u v = pure ()) (hb : binOp .neq t u v = (do pure (.bool (!(← Op.equal t u v))))) (h : ∀ d, (Op.equalIn (d + 2) t u v).run P w = .ok b w) :
    Ev P L (.binOp .neq t xo yo t') ty w (.bool !b) w :=
  Ev_bin hx hy hg (by rw [hb, Sem.run_bind, Op.equal, Op.maxDepth, h 9998]; rfl)
theorem eqIn_bool {x y : Bool} (ht : P.underlying t = some .bool) (d : Nat) : (Op.equalIn (d + 2) t (.bool x) (.bool y)).run P w = .ok (x == y) w := by
  simp only [Op.equalIn, Sem.run_bind, run_underlying' ht, Result.andThen_ok]; rfl
theorem Ev_beql {x y : Bool} (hx : opd L xo = some (.bool x)) (hy : opd L yo = some (.bool y)) (ht : P.underlying t = some .bool) : Ev P L (.binOp .eql t xo yo t') ty w (.bool (x == y)) w :=
  Ev_eq_of hx hy (eqGuard_at_bool ..) rfl (eqIn_bool ht)
theorem Ev_bneq {x y : Bool} (hx : opd L xo = some (.bool x)) (hy : opd L yo = some (.bool y)) (ht : P.underlying t = some .bool) : Ev P L (.binOp .neq t xo yo t') ty w (.bool !(x == y)) w :=
  Ev_ne_of hx hy (eqGuard_at_bool ..) rfl (eqIn_bool ht)
end
end Go.Proofs.YtmlbgdhkacajaaaDoor
