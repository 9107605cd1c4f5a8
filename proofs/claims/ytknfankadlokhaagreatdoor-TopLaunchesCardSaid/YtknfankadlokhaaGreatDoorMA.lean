/- The rules with which this claim's walks are made: what is known of a frame (a short list of slots), what is known of the world (a list of blocks over a base world), and one rule for each form of code and each operation. No conditions. -/
import Derived.WalkKit
import Derived.WalkSpells
import Derived.WalkLawsBesides
import Derived.Deep.QuietTactic
import Derived.StillTailTactics
import Derived.Lib.Strings
import Derived.Deep.Slices
import Derived.ProofKit
import Derived.OpenShut
import Derived.ShutString
import Derived.Deep.Fields

namespace Go.Proofs.YtknfankadlokhaaGreatDoor
open Go.RowKit
set_option linter.unusedVariables false
set_option linter.unusedSimpArgs false
set_option linter.unusedSectionVars false

/-! ## The world over a base -/

/-- w comes of the base w0: only blocks of S, and new ones, may differ; the blocks listed in H hold what is listed. -/
structure St (w0 : World) (S : Nat → Prop) (H : List (Nat × Obj)) (w : World) : Prop where
  os : w.os = w0.os
  tape : w.tape = w0.tape
  output : w.output = w0.output
  size : w0.heap.size ≤ w.heap.size
  old : ∀ k, k < w0.heap.size → ¬ S k → w.heap[k]? = w0.heap[k]?
  own : ∀ (i b : Nat) (o : Obj), H[i]? = some (b, o) → w.heap[b]? = some o ∧ (S b ∨ w0.heap.size ≤ b)
  apart : ∀ (i j b c : Nat) (o u : Obj), H[i]? = some (b, o) → H[j]? = some (c, u) → b = c → i = j

def NoneS : Nat → Prop := fun _ => False

/-- a row of cells that nothing has frozen -/
abbrev blk (l : List Value) (T : TypeId) : Obj := .cells ⟨l⟩ T (0, 0)

theorem St.refl (w : World) (S : Nat → Prop) : St w S [] w :=
  ⟨rfl, rfl, rfl, Nat.le_refl _, fun _ _ _ => rfl, fun i b o h => by simp at h, fun i j b c o u h => by simp at h⟩

section
variable {w0 w w' : World} {S S2 : Nat → Prop} {H H2 : List (Nat × Obj)}

theorem St.lt (h : St w0 S H w) {i b : Nat} {o : Obj} (hi : H[i]? = some (b, o)) : b < w.heap.size := by
  have := (h.own i b o hi).1
  exact (Array.getElem?_eq_some_iff.1 this).1

/-- a block that lay in the base, and may have been changed, becomes known -/
theorem St.know (h : St w0 S H w) {b : Nat} {o : Obj} (hb : w.heap[b]? = some o) (hS : S b ∨ w0.heap.size ≤ b) (hn : ∀ (i : Nat) (u : Obj), H[i]? ≠ some (b, u)) : St w0 S (H ++ [(b, o)]) w := by
  refine ⟨h.os, h.tape, h.output, h.size, h.old, ?_, ?_⟩
  · intro i c u hi
    rw [List.getElem?_append] at hi
    split at hi
    · exact h.own i c u hi
    · rename_i hlt
      have h1 : i - H.length = 0 := by
        rcases Nat.eq_zero_or_pos (i - H.length) with h | h
        · exact h
        · rw [List.getElem?_eq_none (by simp; omega)] at hi; cases hi
      rw [h1] at hi; simp at hi; obtain ⟨rfl, rfl⟩ := hi
      exact ⟨hb, hS⟩
  · intro i j c d u v hi hj hcd
    subst hcd
    rw [List.getElem?_append] at hi hj
    have last : ∀ (k : Nat) (x : Nat × Obj), ¬ k < H.length → [(b, o)][k - H.length]? = some x → k = H.length ∧ x = (b, o) := by
      intro k x hk hx
      have h1 : k - H.length = 0 := by
        rcases Nat.eq_zero_or_pos (k - H.length) with h | h
        · exact h
        · rw [List.getElem?_eq_none (by simp; omega)] at hx; cases hx
      rw [h1] at hx; simp at hx
      exact ⟨by omega, hx.symm⟩
    split at hi <;> split at hj
    · exact h.apart i j c c u v hi hj rfl
    · rename_i h1 h2
      obtain ⟨_, e⟩ := last j _ h2 hj
      injection e with e1 e2; subst e1
      exact absurd hi (hn i u)
    · rename_i h1 h2
      obtain ⟨_, e⟩ := last i _ h1 hi
      injection e with e1 e2; subst e1
      exact absurd hj (hn j v)
    · rename_i h1 h2
      have := (last i _ h1 hi).1
      have := (last j _ h2 hj).1
      omega

theorem St.drew (h : St w0 S H w) : St w0 S H { w with drawn := w.drawn + 1 } := ⟨h.os, h.tape, h.output, h.size, h.old, h.own, h.apart⟩

theorem St.alloc (h : St w0 S H w) (o : Obj) : St w0 S (H ++ [(w.heap.size, o)]) (w.alloc o) := by
  have h1 : St w0 S H (w.alloc o) := by
    refine ⟨h.os, h.tape, h.output, by have := h.size; simp; omega, ?_, ?_, h.apart⟩
    · intro k hk hS
      have := h.size
      rw [Below.heap_alloc _ _ _ (by omega)]; exact h.old k hk hS
    · intro i b u hi
      have hl := h.lt hi
      rw [Below.heap_alloc _ _ _ hl]; exact h.own i b u hi
  refine h1.know ?_ (Or.inr h.size) ?_
  · show (w.heap.push o)[w.heap.size]? = some o
    simp
  · intro i u hi
    have := h.lt hi
    omega

theorem St.store (h : St w0 S H w) {i b : Nat} {l : List Value} {T : TypeId} (hi : H[i]? = some (b, blk l T)) (o : Nat) (v : Value) :
    St w0 S (H.set i (b, blk (l.set o v) T)) (w.setCell ⟨b, o, none⟩ v) := by
  have hb := h.own i b _ hi
  have hil : i < H.length := by
    rcases Nat.lt_or_ge i H.length with h | h
    · exact h
    · rw [List.getElem?_eq_none h] at hi; cases hi
  have hnew : (w.setCell ⟨b, o, none⟩ v).heap[b]? = some (blk (l.set o v) T) := by
    simp [World.setCell, Array.getElem?_modify, hb.1, blk]
  have key : ∀ (j c : Nat) (u : Obj), (H.set i (b, blk (l.set o v) T))[j]? = some (c, u) → (j = i ∧ c = b ∧ u = blk (l.set o v) T) ∨ (j ≠ i ∧ H[j]? = some (c, u)) := by
    intro j c u hj
    rw [List.getElem?_set] at hj
    split at hj
    · rename_i e; subst e
      simp only [hil, if_true, Option.some.injEq, Prod.mk.injEq] at hj
      exact .inl ⟨rfl, hj.1.symm, hj.2.symm⟩
    · rename_i e; exact .inr ⟨fun h => e h.symm, hj⟩
  refine ⟨h.os, h.tape, h.output, by simpa [World.setCell] using h.size, ?_, ?_, ?_⟩
  · intro k hk hS
    have hkb : k ≠ b := by
      intro e
      rcases hb.2 with h1 | h1
      · exact hS (e ▸ h1)
      · omega
    rw [Below.heap_setCell _ _ _ _ hkb]
    exact h.old k hk hS
  · intro j c u hj
    rcases key j c u hj with ⟨rfl, rfl, rfl⟩ | ⟨hne, hj'⟩
    · exact ⟨hnew, hb.2⟩
    · have hc := h.own j c u hj'
      have hcb : c ≠ b := by rintro rfl; exact hne (h.apart j i c c u _ hj' hi rfl)
      rw [Below.heap_setCell _ _ _ _ hcb]; exact hc
  · intro j k c d u x hj hk hcd
    rcases key j c u hj with ⟨rfl, rfl, rfl⟩ | ⟨hne, hj'⟩ <;> rcases key k d x hk with ⟨rfl, rfl, rfl⟩ | ⟨hne', hk'⟩
    · rfl
    · exact absurd (h.apart k j d c x _ hk' hi hcd.symm) hne'
    · exact absurd (h.apart j k c d u _ hj' hi hcd) hne
    · exact h.apart j k c d u x hj' hk' hcd

/-- two stretches, one behind the other -/
theorem St.trans (h : St w0 S H w) (k : St w S2 H2 w') {H' : List (Nat × Obj)} (hS : ∀ b, S2 b → S b ∨ w0.heap.size ≤ b)
    (hH : ∀ (i b : Nat) (o : Obj), H'[i]? = some (b, o) → (∃ j : Nat, H2[j]? = some (b, o)) ∨ (∃ j : Nat, H[j]? = some (b, o) ∧ ¬ S2 b))
    (ha : ∀ (i j b c : Nat) (o u : Obj), H'[i]? = some (b, o) → H'[j]? = some (c, u) → b = c → i = j) : St w0 S H' w' := by
  refine ⟨k.os.trans h.os, k.tape.trans h.tape, k.output.trans h.output, Nat.le_trans h.size k.size, ?_, ?_, ha⟩
  · intro b hb hSb
    have h2 : ¬ S2 b := fun e => (hS b e).elim hSb (fun h => by omega)
    rw [k.old b (Nat.lt_of_lt_of_le hb h.size) h2]; exact h.old b hb hSb
  · intro i b o hi
    rcases hH i b o hi with ⟨j, hj⟩ | ⟨j, hj, h2⟩
    · obtain ⟨e1, e2⟩ := k.own j b o hj
      refine ⟨e1, ?_⟩
      rcases e2 with e2 | e2
      · exact hS b e2
      · exact Or.inr (Nat.le_trans h.size e2)
    · obtain ⟨e1, e2⟩ := h.own j b o hj
      exact ⟨by rw [k.old b (h.lt hj) h2]; exact e1, e2⟩

theorem St.call0 (h : St w0 S H w) (k : St w NoneS [] w') : St w0 S H w' :=
  h.trans k (fun _ e => e.elim) (fun i b o hi => .inr ⟨i, hi, fun e => e⟩) h.apart

theorem St.call1 (h : St w0 S H w) {i b : Nat} {o o' : Obj} (hi : H[i]? = some (b, o)) (kk : St w (· = b) [(b, o')] w') : St w0 S (H.set i (b, o')) w' := by
  have hil : i < H.length := by
    rcases Nat.lt_or_ge i H.length with h | h
    · exact h
    · rw [List.getElem?_eq_none h] at hi; cases hi
  have key : ∀ (j c : Nat) (u : Obj), (H.set i (b, o'))[j]? = some (c, u) → (j = i ∧ c = b ∧ u = o') ∨ (j ≠ i ∧ H[j]? = some (c, u)) := by
    intro j c u hj
    rw [List.getElem?_set] at hj
    split at hj
    · rename_i e; subst e
      simp only [hil, if_true, Option.some.injEq, Prod.mk.injEq] at hj
      exact .inl ⟨rfl, hj.1.symm, hj.2.symm⟩
    · rename_i e; exact .inr ⟨fun h => e h.symm, hj⟩
  refine h.trans kk (fun c e => by subst e; exact (h.own i _ o hi).2) ?_ ?_
  · intro j c u hj
    rcases key j c u hj with ⟨rfl, rfl, rfl⟩ | ⟨hne, hj'⟩
    · exact .inl ⟨0, rfl⟩
    · exact .inr ⟨j, hj', fun e => hne (h.apart j i c b u o hj' hi e)⟩
  · intro j k c d u x hj hk hcd
    rcases key j c u hj with ⟨rfl, rfl, rfl⟩ | ⟨hne, hj'⟩ <;> rcases key k d x hk with ⟨rfl, rfl, rfl⟩ | ⟨hne', hk'⟩
    · rfl
    · exact absurd (h.apart k j d c x _ hk' hi hcd.symm) hne'
    · exact absurd (h.apart j k c d u _ hj' hi hcd) hne
    · exact h.apart j k c d u x hj' hk' hcd

theorem St.new1 (h : St w0 S H w) {c : Nat} {o : Obj} (k : St w NoneS [(c, o)] w') : St w0 S (H ++ [(c, o)]) w' := by
  have h0 : St w0 S H w' := h.trans k (fun _ e => e.elim) (fun i b o hi => .inr ⟨i, hi, fun e => e⟩) h.apart
  have hc := k.own 0 c o rfl
  have hge : w.heap.size ≤ c := hc.2.elim (fun e => e.elim) id
  exact h0.know hc.1 (Or.inr (Nat.le_trans h.size hge)) (fun i u hi => by have := h.lt hi; omega)

/-- less is known -/
theorem St.take (h : St w0 S H w) {H' : List (Nat × Obj)} (hsub : ∀ (i : Nat) (x : Nat × Obj), H'[i]? = some x → H[i]? = some x) : St w0 S H' w :=
  ⟨h.os, h.tape, h.output, h.size, h.old, fun i b o hi => h.own i b o (hsub i _ hi), fun i j b c o u hi hj e => h.apart i j b c o u (hsub i _ hi) (hsub j _ hj) e⟩

theorem St.nil (h : St w0 S H w) : St w0 S [] w := h.take (fun i x hx => by simp at hx)

theorem St.one (h : St w0 S H w) {i b : Nat} {o : Obj} (hi : H[i]? = some (b, o)) : St w0 S [(b, o)] w := by
  refine ⟨h.os, h.tape, h.output, h.size, h.old, ?_, ?_⟩
  · intro j c u hj
    match j, hj with
    | 0, hj => simp at hj; obtain ⟨rfl, rfl⟩ := hj; exact h.own i _ _ hi
    | j + 1, hj => simp at hj
  · intro j k c d u x hj hk _
    match j, k, hj, hk with
    | 0, 0, _, _ => rfl
    | j + 1, _, hj, _ => simp at hj
    | 0, k + 1, _, hk => simp at hk

/-- what lay in the base and is in no block of S lies there still -/
theorem St.base (h : St w0 S H w) {b : Nat} {o : Obj} (hb : w0.heap[b]? = some o) (hS : ¬ S b) : w.heap[b]? = some o := by
  rw [h.old b (Array.getElem?_eq_some_iff.1 hb).1 hS]; exact hb

theorem St.wider (h : St w0 S H w) {S' : Nat → Prop} (hS : ∀ b, S b → S' b) : St w0 S' H w :=
  ⟨h.os, h.tape, h.output, h.size, fun k hk hn => h.old k hk (fun e => hn (hS k e)), fun i b o hi => ⟨(h.own i b o hi).1, (h.own i b o hi).2.imp (hS b) id⟩, h.apart⟩

theorem St.below (h : St w0 NoneS H w) : Below w0.heap.size w0 w :=
  ⟨h.os, h.tape, h.output, h.size, fun k hk => h.old k hk (fun e => e)⟩
end

/-! ## What is known of a frame -/

abbrev Fr := List (Nat × Value)
def look : Fr → Nat → Option Value
  | [], _ => none
  | (i, v) :: L, j => bif Nat.beq i j then some v else look L j

/-- a frame: its size, its deferred calls -/
abbrev Fz := Nat × List Deferred
structure Fits (n : Fz) (L : Fr) (a : Act) : Prop where
  size : a.tmps.size = n.1
  defers : a.defers = n.2
  val : ∀ i v, look L i = some v → a.tmps[i]? = some v

def opd (L : Fr) : Operand → Option Value
  | .tmp t => look L t
  | .const v => some v
  | .global g => some (.pointer (some ⟨g, 0, none⟩))
  | .func f => some (.func (.func f) #[] #[])

section
variable {n : Fz} {L L' : Fr} {a : Act}

theorem Fits.eval (h : Fits n L a) {x : Operand} {v : Value} (hx : opd L x = some v) : a.eval x = v := by
  cases x with
  | tmp t => have := h.val t v hx; simp [Act.eval, Array.getD_eq_getD_getElem?, this]
  | const u => simpa [opd, Act.eval] using hx
  | global g => simpa [opd, Act.eval] using hx
  | func f => simpa [opd, Act.eval] using hx

theorem Fits.put (h : Fits n L a) {d : Nat} (hd : Nat.blt d n.1 = true) (v : Value) : Fits n ((d, v) :: L) (a.put (some d) v) := by
  have hd' : d < n.1 := by simpa [Nat.blt_eq] using hd
  refine ⟨by simp [Act.put, h.size], by simp [Act.put, h.defers], ?_⟩
  intro i u hi
  simp only [look] at hi
  simp only [Act.put]
  cases hb : Nat.beq d i
  · simp only [hb, cond_false] at hi
    have hne : d ≠ i := fun e => by simp [e] at hb
    rw [Array.getElem?_setIfInBounds, if_neg hne]
    exact h.val i u hi
  · simp only [hb, cond_true] at hi
    have he : d = i := by simpa using hb
    subst he; injection hi with hi; subst hi
    rw [Array.getElem?_setIfInBounds, if_pos rfl, if_pos (by rw [h.size]; exact hd')]

theorem Fits.forget (h : Fits n L a) (hs : ∀ i v, look L' i = some v → look L i = some v) : Fits n L' a := ⟨h.size, h.defers, fun i v hi => h.val i v (hs i v hi)⟩

/-- everything in L' is known in L -/
structure Sub (L' L : Fr) : Prop where
  all : ∀ i v, look L' i = some v → look L i = some v
theorem Sub.nil (L : Fr) : Sub [] L := ⟨fun i v h => by simp [look] at h⟩
theorem Sub.refl (L : Fr) : Sub L L := ⟨fun _ _ h => h⟩
theorem Sub.cons {i : Nat} {v : Value} (h : look L i = some v) (k : Sub L' L) : Sub ((i, v) :: L') L := by
  refine ⟨fun j u hj => ?_⟩
  simp only [look] at hj
  cases hb : Nat.beq i j
  · simp only [hb, cond_false] at hj; exact k.all j u hj
  · simp only [hb, cond_true] at hj
    have he : i = j := by simpa using hb
    subst he; injection hj with hj; subst hj; exact h
theorem Fits.sub (h : Fits n L a) (hs : Sub L' L) : Fits n L' a := h.forget hs.all
end

/-! ## Code -/

section
variable {P : Program} {n : Fz} {ops : Array Oper} {Q : Exit → Act → World → Prop} {L L' : Fr} {w w' : World} {rest : List Oper} {c x y : Code}

structure W (P : Program) (n : Fz) (c : Code) (Q : Exit → Act → World → Prop) (L : Fr) (w : World) : Prop where
  run : ∀ a, Fits n L a → c.wp P Q a w
structure WL (P : Program) (n : Fz) (ops : Array Oper) (Q : Exit → Act → World → Prop) (rest : List Oper) (L : Fr) (w : World) : Prop where
  run : ∀ a, Fits n L a → wpList P ops Q rest a w
/-- the code is left by way of e -/
structure At (n : Fz) (Q : Exit → Act → World → Prop) (e : Exit) (L : Fr) (w : World) : Prop where
  run : ∀ a, Fits n L a → Q e a w

theorem W_sub (hs : Sub L' L) (h : W P n c Q L' w) : W P n c Q L w := ⟨fun a ha => h.run a (ha.sub hs)⟩
theorem WL_sub (hs : Sub L' L) (h : WL P n ops Q rest L' w) : WL P n ops Q rest L w := ⟨fun a ha => h.run a (ha.sub hs)⟩
theorem At_sub {e : Exit} (hs : Sub L' L) (h : At n Q e L' w) : At n Q e L w := ⟨fun a ha => h.run a (ha.sub hs)⟩

theorem W_seq (h : W P n x (Exit.then (y.wp P Q) Q) L w) : W P n (.seq x y) Q L w := ⟨fun a ha => wp_seq (h.run a ha)⟩
/-- a sequence, with what is known between its parts said -/
theorem W_mid (Mid : Fr → World → Prop) (h : ∀ K : Act → World → Prop, (∀ L' w' a, Mid L' w' → Fits n L' a → K a w') → W P n x (Exit.then K Q) L w) (k : ∀ L' w', Mid L' w' → W P n y Q L' w') :
    W P n (.seq x y) Q L w := ⟨fun a ha => wp_seq ((h (y.wp P Q) (fun L' w' a' hm hf => (k L' w' hm).run a' hf)).run a ha)⟩
theorem W_block {id : Nat} (h : W P n c (Exit.inBlock id Q) L w) : W P n (.block id c) Q L w := ⟨fun a ha => wp_block (h.run a ha)⟩
theorem W_skip (h : At n Q .normal L w) : W P n .skip Q L w := ⟨fun a ha => wp_skip (h.run a ha)⟩
theorem W_exit {id : Nat} (h : At n Q (.exit id) L w) : W P n (.exit id) Q L w := ⟨fun a ha => wp_exit (h.run a ha)⟩
theorem W_ret (h : At n Q .ret L w) : W P n .ret Q L w := ⟨fun a ha => wp_ret (h.run a ha)⟩
theorem W_cond {o : Operand} {t : Bool} (hc : opd L o = some (.bool t)) (ht : t = true → W P n x Q L w) (hf : t = false → W P n y Q L w) : W P n (.cond o x y) Q L w :=
  ⟨fun a ha => wp_cond_split (ha.eval hc) (fun e => (ht e).run a ha) (fun e => (hf e).run a ha)⟩
theorem W_if {o : Operand} {p : Prop} {d0 : Decidable p} (hc : opd L o = some (.bool (decide p))) (ht : p → W P n x Q L w) (hf : ¬ p → W P n y Q L w) : W P n (.cond o x y) Q L w :=
  W_cond hc (fun e => ht (of_decide_eq_true e)) (fun e => hf (of_decide_eq_false e))
theorem W_true {o : Operand} (hc : opd L o = some (.bool true)) (h : W P n x Q L w) : W P n (.cond o x y) Q L w := ⟨fun a ha => wp_cond_true (ha.eval hc) (h.run a ha)⟩
theorem W_false {o : Operand} (hc : opd L o = some (.bool false)) (h : W P n y Q L w) : W P n (.cond o x y) Q L w := ⟨fun a ha => wp_cond_false (ha.eval hc) (h.run a ha)⟩

theorem At_then_normal {Q' : Exit → Act → World → Prop} (h : W P n y Q L w) : At n (Exit.then (y.wp P Q) Q') .normal L w := ⟨h.run⟩
theorem At_K {K : Act → World → Prop} {L0 : Fr} {Mid : Fr → World → Prop} (hK : ∀ L' w' a, Mid L' w' → Fits n L' a → K a w') (hm : Mid L0 w) (hs : Sub L0 L) : At n (Exit.then K Q) .normal L w :=
  ⟨fun a ha => hK L0 w a hm (ha.sub hs)⟩
theorem At_then {K : Act → World → Prop} {id : Nat} (h : At n Q (.exit id) L w) : At n (Exit.then K Q) (.exit id) L w := ⟨h.run⟩
theorem At_then_ret {K : Act → World → Prop} (h : At n Q .ret L w) : At n (Exit.then K Q) .ret L w := ⟨h.run⟩
theorem At_then_goto {K : Act → World → Prop} {l : Nat} (h : At n Q (.goto l) L w) : At n (Exit.then K Q) (.goto l) L w := ⟨h.run⟩
theorem At_in_normal {id : Nat} (h : At n Q .normal L w) : At n (Exit.inBlock id Q) .normal L w := ⟨h.run⟩
theorem At_in_ret {id : Nat} (h : At n Q .ret L w) : At n (Exit.inBlock id Q) .ret L w := ⟨h.run⟩
theorem At_in_goto {id l : Nat} (h : At n Q (.goto l) L w) : At n (Exit.inBlock id Q) (.goto l) L w := ⟨h.run⟩
theorem At_in_hit {id : Nat} (h : At n Q .normal L w) : At n (Exit.inBlock id Q) (.exit id) L w := ⟨fun a ha => by simp only [Exit.inBlock, if_true]; exact h.run a ha⟩
theorem At_in_miss {id id' : Nat} (hne : Nat.beq id' id = false) (h : At n Q (.exit id') L w) : At n (Exit.inBlock id Q) (.exit id') L w := ⟨fun a ha => by
  have : id' ≠ id := fun e => by simp [e] at hne
  simp only [Exit.inBlock, if_neg this]; exact h.run a ha⟩

theorem least {p : Nat → Prop} (h : ∃ k, p k) : ∃ k, p k ∧ ∀ j, p j → k ≤ j := by
  obtain ⟨k, hk⟩ := h
  induction k using Nat.strongRecOn with
  | _ k ih =>
    by_cases h : ∃ j, j < k ∧ p j
    · obtain ⟨j, hj, hp⟩ := h; exact ih j hj hp
    · exact ⟨k, hk, fun j hp => Nat.le_of_not_lt fun hlt => h ⟨j, hlt, hp⟩⟩

/-- a loop: R k is what holds at the head of a round with k rounds to go at most -/
theorem W_loop (R : Nat → Fr → World → Prop) (k0 : Nat) {L0 : Fr} (h0 : R k0 L0 w) (hs : Sub L0 L)
    (step : ∀ k L w, R k L w → ∀ K : Act → World → Prop, (∀ k' L' w' a, k' < k → R k' L' w' → Fits n L' a → K a w') → W P n c (Exit.then K Q) L w) : W P n (.loop c) Q L w := by
  refine ⟨fun a ha => ?_⟩
  let p : Act → World → Nat → Prop := fun a w k => ∃ L, R k L w ∧ Fits n L a
  let μ : Act → World → Nat := fun a w => @dite Nat (∃ k, p a w k) (Classical.propDecidable _) (fun h => Classical.choose (least h)) (fun _ => 0)
  have hμ : ∀ a w, (∃ k, p a w k) → p a w (μ a w) ∧ ∀ j, p a w j → μ a w ≤ j := by
    intro a w h
    have : μ a w = Classical.choose (least h) := by simp only [μ]; rw [dif_pos h]
    rw [this]; exact Classical.choose_spec (least h)
  refine wp_loop (fun a w => ∃ k, p a w k) μ ⟨k0, L0, h0, ha.sub hs⟩ ?_
  intro a' w' hI
  obtain ⟨⟨L1, hr, hf⟩, _⟩ := hμ a' w' hI
  refine (step (μ a' w') L1 w' hr _ ?_).run a' hf
  intro k' L2 w2 a2 hlt hr2 hf2
  have hI2 : ∃ k, p a2 w2 k := ⟨k', L2, hr2, hf2⟩
  exact ⟨hI2, Nat.lt_of_le_of_lt ((hμ a2 w2 hI2).2 k' ⟨L2, hr2, hf2⟩) hlt⟩

/-! ## Regions -/

theorem W_region {id : Nat} {l : List Oper} (h : WL P n l.toArray Q l L w) : W P n (.region id l.toArray false) Q L w := ⟨fun a ha => wp_region_lit (h.run a ha)⟩
theorem WL_nil (h : At n Q .normal L w) : WL P n ops Q [] L w := ⟨fun a ha => h.run a ha⟩

def wantV : Value → Bool → Bool
  | .bool x, b => x == b
  | _, _ => false
/-- is the operation carried out? -/
def wantB (ops : Array Oper) (g : Option (Nat × Bool)) (L : Fr) : Option Bool :=
  match g with
  | none => some true
  | some (j, b) => match (ops[j]?).bind (·.dst) with
    | some d => (look L d).map (wantV · b)
    | none => none

theorem wantB_spec {o : Oper} {b : Bool} {a : Act} (h : wantB ops o.guard L = some b) (ha : Fits n L a) : Region.wanted o (yielded ops a.tmps) = b := by
  unfold wantB at h
  unfold Region.wanted
  split at h
  · rename_i e; rw [e]; simpa using h
  · rename_i j c e; rw [e]
    split at h
    · rename_i d hd
      cases hl : look L d with
      | none => simp [hl] at h
      | some v =>
        simp only [hl, Option.map_some, Option.some.injEq] at h
        have hv := ha.val d v hl
        simp only [yielded, hd, Option.bind_some, hv]
        subst h
        cases v <;> simp [wantV]
    · cases h

/-- what an operation yields, and the world that it leaves -/
structure Ev (P : Program) (L : Fr) (op : Op) (ty : TypeId) (w : World) (v : Value) (w' : World) : Prop where
  run : ∀ (n : Fz) (a : Act), Fits n L a → ∀ (dst : Option Tmp) (pos : String) (af : Array Edge) (g : Option (Nat × Bool)), (execOp a.eval ⟨dst, op, ty, pos, af, g⟩).run P w = .ok (.value v) w'

theorem WL_ev {d : Nat} {op : Op} {ty : TypeId} {pos : String} {af : Array Edge} {g : Option (Nat × Bool)} {v : Value} (hg : wantB ops g L = some true) (hn : Nat.blt d n.1 = true)
    (h : Ev P L op ty w v w') (k : WL P n ops Q rest ((d, v) :: L) w') : WL P n ops Q (⟨some d, op, ty, pos, af, g⟩ :: rest) L w := by
  refine ⟨fun a ha => ?_⟩
  unfold wpList
  rw [wantB_spec (o := ⟨some d, op, ty, pos, af, g⟩) hg ha, if_pos rfl]
  refine .inl ?_
  unfold Oper.wp
  rw [h.run n a ha, Oper.upon_value]
  exact k.run _ (ha.put hn v)

/-- an operation that is passed over -/
theorem WL_pass {d : Nat} {op : Op} {ty : TypeId} {pos : String} {af : Array Edge} {g : Option (Nat × Bool)} (hg : wantB ops g L = some false) (hn : Nat.blt d n.1 = true)
    (k : WL P n ops Q rest ((d, undef) :: L) w) : WL P n ops Q (⟨some d, op, ty, pos, af, g⟩ :: rest) L w := by
  refine ⟨fun a ha => ?_⟩
  unfold wpList
  rw [wantB_spec (o := ⟨some d, op, ty, pos, af, g⟩) hg ha]
  exact k.run _ (ha.put hn undef)
theorem WL_pass0 {op : Op} {ty : TypeId} {pos : String} {af : Array Edge} {g : Option (Nat × Bool)} (hg : wantB ops g L = some false)
    (k : WL P n ops Q rest L w) : WL P n ops Q (⟨none, op, ty, pos, af, g⟩ :: rest) L w := by
  refine ⟨fun a ha => ?_⟩
  unfold wpList
  rw [wantB_spec (o := ⟨none, op, ty, pos, af, g⟩) hg ha]
  exact k.run _ ha

/-- a bool in a slot, looked at -/
theorem WL_case {j : Nat} {b : Bool} (h : look L j = some (.bool b)) (ht : b = true → WL P n ops Q rest ((j, .bool true) :: L) w) (hf : b = false → WL P n ops Q rest ((j, .bool false) :: L) w) : WL P n ops Q rest L w := by
  cases b
  · exact WL_sub (Sub.cons h (Sub.refl _)) (hf rfl)
  · exact WL_sub (Sub.cons h (Sub.refl _)) (ht rfl)

end

/-! ## What is known of the types -/

structure Tys where
  one : List Nat
  agg : List (Nat × Nat)
  fld : List (Nat × Nat × Nat × Nat)
  sl : List (Nat × Nat × Nat × Nat)
  arr : List (Nat × Nat × Nat × Nat)
  str : List Nat
  int : List (Nat × IntKind)
  zero : List (Nat × Value)
  ptr : List Nat := []
  boo : List Nat := []
  stc : List Nat := []
  calls : List Nat := []

def ptrB (P : Program) (t : Nat) : Bool := match P.underlying t with | some (.pointer _) => true | _ => false
theorem ptrB_spec {P : Program} {t : Nat} (h : ptrB P t = true) : ∃ e, P.underlying t = some (.pointer e) := by
  unfold ptrB at h
  split at h
  · rename_i e he; exact ⟨e, he⟩
  · cases h
def booB (P : Program) (t : Nat) : Bool := match P.underlying t with | some .bool => true | _ => false
theorem booB_spec {P : Program} {t : Nat} (h : booB P t = true) : P.underlying t = some .bool := by
  unfold booB at h
  split at h
  · rename_i he; exact he
  · cases h
def structB (P : Program) (t : Nat) : Bool := match P.underlying t with | some (.struct _) => true | _ => false
theorem structB_spec {P : Program} {t : Nat} (h : structB P t = true) : ∃ fs, P.underlying t = some (.struct fs) := by
  unfold structB at h
  split at h
  · rename_i e he; exact ⟨e, he⟩
  · cases h
def callB (P : Program) (f : FuncId) : Bool := match P.funcs[f]? with
  | some fn => fn.body.isSome && !(fn.name == "runtime.NumGoroutine")
  | none => false

def mem1 : List Nat → Nat → Bool
  | [], _ => false
  | x :: l, t => bif Nat.beq x t then true else mem1 l t
def asc {α : Type} : List (Nat × α) → Nat → Option α
  | [], _ => none
  | (x, a) :: l, t => bif Nat.beq x t then some a else asc l t
def asc2 {α : Type} : List (Nat × Nat × α) → Nat → Nat → Option α
  | [], _, _ => none
  | (x, y, a) :: l, t, u => bif Nat.beq x t && Nat.beq y u then some a else asc2 l t u

def szB (P : Program) (t : Nat) : Nat := ((P.info? t).map (·.size)).getD 0
def byB (P : Program) (t : Nat) : Nat := ((P.info? t).map (·.bytes)).getD 0
def oneB (P : Program) (t : Nat) : Bool := (match P.underlying t with | some (.struct _) => false | some (.array _ _) => false | some _ => true | none => false) && szB P t == 1 && (P.info? t).isSome
def aggB (P : Program) (t k : Nat) : Bool := (match P.underlying t with | some (.struct fs) => fs.all (fun f => (P.info? f.type).isSome) | some (.array _ _) => true | _ => false) && szB P t == k && (P.info? t).isSome
def foB (P : Program) (s f o z : Nat) : Bool := match P.underlying s with
  | some (.struct fs) => (match fs[f]? with | some x => x.offset == o && (P.info? x.type).isSome && szB P x.type == z && z != 0 | none => false)
  | _ => false
def slB (P : Program) (t e z y : Nat) : Bool := (match P.underlying t with | some (.slice d) => d == e | _ => false) && (P.info? e).isSome && szB P e == z && byB P e == y
def arB (P : Program) (t n e z : Nat) : Bool := (match P.underlying t with | some (.array m d) => m == n && d == e | _ => false) && (P.info? e).isSome && szB P e == z
def strB (P : Program) (t : Nat) : Bool := match P.underlying t with | some .string => true | _ => false
def intB (P : Program) (t : Nat) (k : IntKind) : Bool := match P.underlying t with | some (.int d) => d == k | _ => false

structure Tys.Ok (T : Tys) (P : Program) : Prop where
  one : T.one.all (oneB P) = true
  agg : T.agg.all (fun x => aggB P x.1 x.2) = true
  fld : T.fld.all (fun x => foB P x.1 x.2.1 x.2.2.1 x.2.2.2) = true
  sl : T.sl.all (fun x => slB P x.1 x.2.1 x.2.2.1 x.2.2.2) = true
  arr : T.arr.all (fun x => arB P x.1 x.2.1 x.2.2.1 x.2.2.2) = true
  str : T.str.all (strB P) = true
  int : T.int.all (fun x => intB P x.1 x.2) = true
  zero : T.zero.map (fun x => (P.info? x.1).bind (·.zero)) = T.zero.map (fun x => some x.2)
  mixed : P.follows .mixedOrders = true
  ptr : T.ptr.all (ptrB P) = true
  boo : T.boo.all (booB P) = true
  stc : T.stc.all (structB P) = true
  calls : T.calls.all (callB P) = true

theorem mem1_mem {l : List Nat} {t : Nat} (h : mem1 l t = true) : t ∈ l := by
  induction l with
  | nil => cases h
  | cons x l ih =>
    simp only [mem1] at h
    cases hb : Nat.beq x t
    · simp only [hb, cond_false] at h; exact List.mem_cons_of_mem _ (ih h)
    · have : x = t := by simpa using hb
      subst this; exact List.mem_cons_self
theorem asc_mem {α : Type} {l : List (Nat × α)} {t : Nat} {a : α} (h : asc l t = some a) : (t, a) ∈ l := by
  induction l with
  | nil => cases h
  | cons x l ih =>
    obtain ⟨x, b⟩ := x
    simp only [asc] at h
    cases hb : Nat.beq x t
    · simp only [hb, cond_false] at h; exact List.mem_cons_of_mem _ (ih h)
    · have : x = t := by simpa using hb
      subst this
      simp only [hb, cond_true, Option.some.injEq] at h
      subst h; exact List.mem_cons_self
theorem asc2_mem {α : Type} {l : List (Nat × Nat × α)} {t u : Nat} {a : α} (h : asc2 l t u = some a) : (t, u, a) ∈ l := by
  induction l with
  | nil => cases h
  | cons x l ih =>
    obtain ⟨x, y, b⟩ := x
    simp only [asc2] at h
    cases hb : (Nat.beq x t && Nat.beq y u)
    · simp only [hb, cond_false] at h; exact List.mem_cons_of_mem _ (ih h)
    · have hb' := hb
      simp only [Bool.and_eq_true] at hb'
      obtain ⟨h1, h2⟩ := hb'
      have h1 := Nat.eq_of_beq_eq_true h1
      have h2 := Nat.eq_of_beq_eq_true h2
      subst h1; subst h2
      simp at h
      subst h; exact List.mem_cons_self

section
variable {T : Tys} {P : Program} (hT : T.Ok P)
include hT
theorem ok_ptr {t : Nat} (h : mem1 T.ptr t = true) : ptrB P t = true := List.all_eq_true.1 hT.ptr t (mem1_mem h)
theorem ok_boo {t : Nat} (h : mem1 T.boo t = true) : P.underlying t = some .bool := booB_spec (List.all_eq_true.1 hT.boo t (mem1_mem h))
theorem ok_stc {t : Nat} (h : mem1 T.stc t = true) : structB P t = true := List.all_eq_true.1 hT.stc t (mem1_mem h)
theorem ok_call {t : Nat} (h : mem1 T.calls t = true) : callB P t = true := List.all_eq_true.1 hT.calls t (mem1_mem h)
theorem ok_one {t : Nat} (h : mem1 T.one t = true) : (∃ d, P.underlying t = some d ∧ (∀ f, d ≠ .struct f) ∧ (∀ n e, d ≠ .array n e)) ∧ ∃ i, P.info? t = some i ∧ i.size = 1 := by
  have := List.all_eq_true.1 hT.one t (mem1_mem h)
  simp only [oneB, Bool.and_eq_true, beq_iff_eq, szB] at this
  obtain ⟨⟨h1, h2⟩, h3⟩ := this
  refine ⟨?_, ?_⟩
  · cases hu : P.underlying t with
    | none => simp [hu] at h1
    | some d => refine ⟨d, rfl, ?_, ?_⟩ <;> (intros; rintro rfl; simp [hu] at h1)
  · obtain ⟨i, hi⟩ := Option.isSome_iff_exists.1 h3
    exact ⟨i, hi, by simpa [hi] using h2⟩
theorem ok_agg {t k : Nat} (h : asc T.agg t = some k) : (∃ d, P.underlying t = some d ∧ ((∃ f, d = .struct f ∧ ∀ x ∈ f, (P.info? x.type).isSome = true) ∨ (∃ n e, d = .array n e))) ∧ ∃ i, P.info? t = some i ∧ i.size = k := by
  have := List.all_eq_true.1 hT.agg _ (asc_mem h)
  simp only [aggB, Bool.and_eq_true, beq_iff_eq, szB] at this
  obtain ⟨⟨h1, h2⟩, h3⟩ := this
  refine ⟨?_, ?_⟩
  · cases hu : P.underlying t with
    | none => simp [hu] at h1
    | some d =>
      refine ⟨d, rfl, ?_⟩
      cases d <;> simp [hu] at h1 <;> simp
      intro x hx
      obtain ⟨j, hj, rfl⟩ := Array.mem_iff_getElem.1 hx
      exact h1 j hj
  · obtain ⟨i, hi⟩ := Option.isSome_iff_exists.1 h3
    exact ⟨i, hi, by simpa [hi] using h2⟩
theorem ok_fld {s f o z : Nat} (h : asc2 T.fld s f = some (o, z)) : ∃ fs x i, P.underlying s = some (.struct fs) ∧ fs[f]? = some x ∧ x.offset = o ∧ P.info? x.type = some i ∧ i.size = z ∧ z ≠ 0 := by
  have := List.all_eq_true.1 hT.fld _ (asc2_mem h)
  simp only [foB] at this
  cases hu : P.underlying s with
  | none => simp [hu] at this
  | some d =>
    cases d <;> simp [hu] at this
    case struct fs =>
      cases hx : fs[f]? with
      | none => simp [hx] at this
      | some x =>
        simp only [hx, Bool.and_eq_true, beq_iff_eq, bne_iff_ne, szB] at this
        obtain ⟨⟨⟨h1, h2⟩, h3⟩, h4⟩ := this
        obtain ⟨i, hi⟩ := Option.isSome_iff_exists.1 h2
        exact ⟨fs, x, i, rfl, hx, h1, hi, by simpa [hi] using h3, h4⟩
theorem ok_sl {t e z y : Nat} (h : asc T.sl t = some (e, z, y)) : P.underlying t = some (.slice e) ∧ ∃ i, P.info? e = some i ∧ i.size = z ∧ i.bytes = y := by
  have := List.all_eq_true.1 hT.sl _ (asc_mem h)
  simp only [slB, Bool.and_eq_true, beq_iff_eq, szB, byB] at this
  obtain ⟨⟨⟨h1, h2⟩, h3⟩, h4⟩ := this
  obtain ⟨i, hi⟩ := Option.isSome_iff_exists.1 h2
  refine ⟨?_, i, hi, by simpa [hi] using h3, by simpa [hi] using h4⟩
  cases hu : P.underlying t with
  | none => simp [hu] at h1
  | some d => cases d <;> simp [hu] at h1; subst h1; rfl
theorem ok_arr {t n e z : Nat} (h : asc T.arr t = some (n, e, z)) : P.underlying t = some (.array n e) ∧ ∃ i, P.info? e = some i ∧ i.size = z := by
  have := List.all_eq_true.1 hT.arr _ (asc_mem h)
  simp only [arB, Bool.and_eq_true, beq_iff_eq, szB] at this
  obtain ⟨⟨h1, h2⟩, h3⟩ := this
  obtain ⟨i, hi⟩ := Option.isSome_iff_exists.1 h2
  refine ⟨?_, i, hi, by simpa [hi] using h3⟩
  cases hu : P.underlying t with
  | none => simp [hu] at h1
  | some d => cases d <;> simp [hu] at h1; obtain ⟨rfl, rfl⟩ := h1; rfl
theorem ok_str {t : Nat} (h : mem1 T.str t = true) : P.underlying t = some .string := by
  have := List.all_eq_true.1 hT.str t (mem1_mem h)
  simp only [strB] at this
  cases hu : P.underlying t with
  | none => simp [hu] at this
  | some d => cases d <;> simp [hu] at this; rfl
theorem ok_int {t : Nat} {k : IntKind} (h : asc T.int t = some k) : P.underlying t = some (.int k) := by
  have := List.all_eq_true.1 hT.int _ (asc_mem h)
  simp only [intB] at this
  cases hu : P.underlying t with
  | none => simp [hu] at this
  | some d => cases d <;> simp [hu] at this; subst this; rfl
theorem ok_zero {t : Nat} {v : Value} (h : asc T.zero t = some v) : ∃ i, P.info? t = some i ∧ i.zero = some v := by
  have hm := asc_mem h
  have hz := hT.zero
  have : (P.info? t).bind (·.zero) = some v := List.map_inj_left.1 hz _ hm
  cases hi : P.info? t with
  | none => simp [hi] at this
  | some i => exact ⟨i, rfl, by simpa [hi] using this⟩
end

theorem run_underlying' {P : Program} {t : Nat} {d : TypeDesc} (h : P.underlying t = some d) (w : World) : (underlying t).run P w = .ok d w := by
  simp [underlying, h]
theorem run_sizeOf' {P : Program} {t : Nat} {i : TypeInfo} (h : P.info? t = some i) (w : World) : (sizeOf t).run P w = .ok i.size w := by
  simp [sizeOf, typeInfo, h]
theorem run_isAgg_no {T : Tys} {P : Program} (hT : T.Ok P) {t : Nat} (h : mem1 T.one t = true) (w : World) : (isAgg t).run P w = .ok false w := by
  obtain ⟨⟨d, hu, h1, h2⟩, _⟩ := ok_one hT h
  simp only [isAgg, Sem.run_bind, run_underlying' hu, Result.andThen_ok]
  cases d <;> simp <;> first | exact absurd rfl (h1 _) | exact absurd rfl (h2 _ _)
theorem run_isAgg_yes {T : Tys} {P : Program} (hT : T.Ok P) {t k : Nat} (h : asc T.agg t = some k) (w : World) : (isAgg t).run P w = .ok true w := by
  obtain ⟨⟨d, hu, h1⟩, _⟩ := ok_agg hT h
  simp only [isAgg, Sem.run_bind, run_underlying' hu, Result.andThen_ok]
  rcases h1 with ⟨f, rfl, _⟩ | ⟨n, e, rfl⟩ <;> rfl

/-! ## Values -/

/-- a string -/
abbrev S (l : List UInt8) : Value := .string ⟨⟨l⟩⟩
/-- an int -/
abbrev I (n : Int) : Value := .int .i64 n
abbrev B (b : Bool) : Value := .bool b
/-- a pointer to the head of a block -/
abbrev Ptr (b : Nat) : Value := .pointer (some ⟨b, 0, none⟩)

def zcells : Value → List Value
  | .agg ⟨l⟩ => l
  | v => [v]
theorem zcells_cells (v : Value) : v.cells = ⟨zcells v⟩ := by cases v <;> rfl

def oneV : Value → Bool
  | .agg _ => false
  | .tuple _ => false
  | _ => true
theorem oneV_cells {v : Value} (h : oneV v = true) : v.cells = #[v] := by cases v <;> first | rfl | cases h

theorem cell_of {w : World} {b : Nat} {l : List Value} {E : TypeId} {fz : Nat × Nat} (h : w.heap[b]? = some (.cells ⟨l⟩ E fz)) (o : Nat) : w.cell? ⟨b, o, none⟩ = l[o]? := by
  simp [World.cell?, h]

/-! ## Operations that only compute -/

section
variable {T : Tys} {P : Program} {n : Fz} {ops : Array Oper} {Q : Exit → Act → World → Prop} {L L' : Fr} {w w' : World} {rest : List Oper} {ty t t' : TypeId} {xo yo zo : Operand}

theorem Ev_move {v : Value} (h : opd L xo = some v) : Ev P L (.move xo) ty w v w := by
  refine ⟨fun n a ha _ _ _ _ => ?_⟩; simp [execOp, ha.eval h]
theorem Ev_assign {v : Value} (h : opd L xo = some v) : Ev P L (.assign xo) ty w v w := by
  refine ⟨fun n a ha _ _ _ _ => ?_⟩; simp [execOp, ha.eval h]
theorem Ev_pickT {v : Value} (hc : opd L xo = some (.bool true)) (h : opd L yo = some v) : Ev P L (.pick xo yo zo) ty w v w := by
  refine ⟨fun n a ha _ _ _ _ => ?_⟩; simp [execOp, ha.eval h, ha.eval hc, asBool]
theorem Ev_pickF {v : Value} (hc : opd L xo = some (.bool false)) (h : opd L zo = some v) : Ev P L (.pick xo yo zo) ty w v w := by
  refine ⟨fun n a ha _ _ _ _ => ?_⟩; simp [execOp, ha.eval h, ha.eval hc, asBool]
theorem Ev_nilCheck {p : Addr} (h : opd L xo = some (.pointer (some p))) : Ev P L (.nilCheck xo) ty w (.pointer (some p)) w := by
  refine ⟨fun n a ha _ _ _ _ => ?_⟩; simp [execOp, ha.eval h]
theorem Ev_not {b : Bool} (h : opd L xo = some (.bool b)) : Ev P L (.unOp .not t xo) ty w (.bool !b) w := by
  refine ⟨fun n a ha _ _ _ _ => ?_⟩; simp [execOp, ha.eval h, Op.unary]
theorem Ev_notP {p : Prop} {d0 : Decidable p} (h : opd L xo = some (.bool (decide p))) : Ev P L (.unOp .not t xo) ty w (.bool (decide (¬ p))) w := by
  have := Ev_not (P := P) (ty := ty) (w := w) (t := t) h
  rwa [← decide_not] at this
theorem Ev_neg {k : IntKind} {x : Int} (h : opd L xo = some (.int k x)) : Ev P L (.unOp .neg t xo) ty w (.int k (k.wrap (0 - x))) w := by
  refine ⟨fun n a ha _ _ _ _ => ?_⟩; simp [execOp, ha.eval h, Op.unary, Op.intArith]
theorem Ev_compl {k : IntKind} {x : Int} (h : opd L xo = some (.int k x)) : Ev P L (.unOp .xor t xo) ty w (.int k (bits .xor k (if k.signed then -1 else k.max) x)) w := by
  refine ⟨fun n a ha _ _ _ _ => ?_⟩; simp only [execOp, ha.eval h, Op.unary, Op.intBits]; rfl

theorem Ev_bin {op : BinOp} {u v r : Value} (hx : opd L xo = some u) (hy : opd L yo = some v) (hg : eqGuard op t xo yo u v = pure ()) (hb : (binOp op t u v).run P w = .ok r w) : Ev P L (.binOp op t xo yo t') ty w r w := by
  refine ⟨fun n a ha _ _ _ _ => ?_⟩
  simp only [execOp, ha.eval hx, ha.eval hy, Sem.run_bind, hg, Sem.run_pure, Result.andThen_ok, hb]

section ints
variable {k : IntKind} {x y : Int} (hx : opd L xo = some (.int k x)) (hy : opd L yo = some (.int k y))
include hx hy
theorem Ev_eql : Ev P L (.binOp .eql t xo yo t') ty w (.bool (decide (x = y))) w :=
  Ev_bin hx hy (eqGuard_at_int ..) (by rw [binOp_eql, Sem.run_pure]; rfl)
theorem Ev_neq : Ev P L (.binOp .neq t xo yo t') ty w (.bool (decide (x ≠ y))) w :=
  Ev_bin hx hy (eqGuard_at_int ..) (by rw [binOp_neq, Sem.run_pure]; congr 2; by_cases h : x = y <;> simp [h])
theorem Ev_lss : Ev P L (.binOp .lss t xo yo t') ty w (.bool (decide (x < y))) w :=
  Ev_bin hx hy (eqGuard_at_int ..) (by rw [binOp_lss, Sem.run_pure])
theorem Ev_leq : Ev P L (.binOp .leq t xo yo t') ty w (.bool (decide (x ≤ y))) w :=
  Ev_bin hx hy (eqGuard_at_int ..) (by rw [binOp_leq, Sem.run_pure])
theorem Ev_gtr : Ev P L (.binOp .gtr t xo yo t') ty w (.bool (decide (y < x))) w :=
  Ev_bin hx hy (eqGuard_at_int ..) (by rw [binOp_gtr, Sem.run_pure])
theorem Ev_geq : Ev P L (.binOp .geq t xo yo t') ty w (.bool (decide (y ≤ x))) w :=
  Ev_bin hx hy (eqGuard_at_int ..) (by rw [binOp_geq, Sem.run_pure])
theorem Ev_addw : Ev P L (.binOp .add t xo yo t') ty w (.int k (k.wrap (x + y))) w :=
  Ev_bin hx hy (eqGuard_add ..) (by rw [binOp_add]; rfl)
theorem Ev_subw : Ev P L (.binOp .sub t xo yo t') ty w (.int k (k.wrap (x - y))) w :=
  Ev_bin hx hy (eqGuard_sub ..) (by rw [binOp_sub]; rfl)
theorem Ev_mulw : Ev P L (.binOp .mul t xo yo t') ty w (.int k (k.wrap (x * y))) w :=
  Ev_bin hx hy (eqGuard_mul ..) (by rw [binOp_mul]; rfl)
theorem Ev_quow (h0 : y ≠ 0) : Ev P L (.binOp .quo t xo yo t') ty w (.int k (k.wrap (x.tdiv y))) w :=
  Ev_bin hx hy (eqGuard_quo ..) (by rw [binOp_quo]; simp only [Op.intDiv, if_neg h0]; rfl)
theorem Ev_rem (h0 : y ≠ 0) : Ev P L (.binOp .rem t xo yo t') ty w (.int k (x.tmod y)) w :=
  Ev_bin hx hy (eqGuard_rem ..) (by rw [binOp_rem]; simp only [Op.intDiv, if_neg h0]; rfl)
theorem Ev_and : Ev P L (.binOp .and t xo yo t') ty w (.int k (bits .and k x y)) w :=
  Ev_bin hx hy (eqGuard_and ..) (by rw [binOp_and]; rfl)
theorem Ev_or : Ev P L (.binOp .or t xo yo t') ty w (.int k (bits .or k x y)) w :=
  Ev_bin hx hy (eqGuard_or ..) (by rw [binOp_or]; rfl)
theorem Ev_xor : Ev P L (.binOp .xor t xo yo t') ty w (.int k (bits .xor k x y)) w :=
  Ev_bin hx hy (eqGuard_xor ..) (by rw [binOp_xor]; rfl)
end ints

/-- within the range of the kind -/
def inK (k : IntKind) (x : Int) : Prop := k.min ≤ x ∧ x ≤ k.max
theorem wrap_in {k : IntKind} {x : Int} (h : inK k x) : k.wrap x = x := by
  obtain ⟨h1, h2⟩ := h
  cases k <;> simp [IntKind.min, IntKind.max, IntKind.signed, IntKind.bits] at h1 h2 <;> simp [IntKind.wrap, IntKind.signed, IntKind.bits] <;> omega
theorem inI {x : Int} (h1 : -9223372036854775808 ≤ x) (h2 : x ≤ 9223372036854775807) : inK .i64 x := by
  simp [inK, IntKind.min, IntKind.max, IntKind.signed, IntKind.bits]; omega
theorem Ev_add {x y : Int} (hx : opd L xo = some (.int .i64 x)) (hy : opd L yo = some (.int .i64 y)) (h : -9223372036854775808 ≤ x + y ∧ x + y ≤ 9223372036854775807) : Ev P L (.binOp .add t xo yo t') ty w (.int .i64 (x + y)) w := by
  have := Ev_addw (P := P) (t := t) (t' := t') (ty := ty) (w := w) hx hy
  rwa [wrap_in (inI h.1 h.2)] at this
theorem Ev_sub {x y : Int} (hx : opd L xo = some (.int .i64 x)) (hy : opd L yo = some (.int .i64 y)) (h : -9223372036854775808 ≤ x - y ∧ x - y ≤ 9223372036854775807) : Ev P L (.binOp .sub t xo yo t') ty w (.int .i64 (x - y)) w := by
  have := Ev_subw (P := P) (t := t) (t' := t') (ty := ty) (w := w) hx hy
  rwa [wrap_in (inI h.1 h.2)] at this
theorem Ev_mul {x y : Int} (hx : opd L xo = some (.int .i64 x)) (hy : opd L yo = some (.int .i64 y)) (h : -9223372036854775808 ≤ x * y ∧ x * y ≤ 9223372036854775807) : Ev P L (.binOp .mul t xo yo t') ty w (.int .i64 (x * y)) w := by
  have := Ev_mulw (P := P) (t := t) (t' := t') (ty := ty) (w := w) hx hy
  rwa [wrap_in (inI h.1 h.2)] at this
/-- a quotient of numbers that are not negative -/
theorem Ev_quo {x y : Int} (hx : opd L xo = some (.int .i64 x)) (hy : opd L yo = some (.int .i64 y)) (h0 : 0 ≤ x) (h1 : x ≤ 9223372036854775807) (h2 : 0 < y) : Ev P L (.binOp .quo t xo yo t') ty w (.int .i64 (x / y)) w := by
  have := Ev_quow (P := P) (t := t) (t' := t') (ty := ty) (w := w) hx hy (by omega)
  rw [Int.tdiv_eq_ediv_of_nonneg h0] at this
  have hb : 0 ≤ x / y := Int.ediv_nonneg h0 (by omega)
  have hc : x / y ≤ x := Int.ediv_le_self y h0
  rwa [wrap_in (inI (by omega) (by omega))] at this
theorem Ev_remP {k : IntKind} {x y : Int} (hx : opd L xo = some (.int k x)) (hy : opd L yo = some (.int k y)) (h0 : 0 ≤ x) (h2 : 0 < y) : Ev P L (.binOp .rem t xo yo t') ty w (.int k (x % y)) w := by
  have := Ev_rem (P := P) (t := t) (t' := t') (ty := ty) (w := w) hx hy (by omega)
  rwa [Int.tmod_eq_emod_of_nonneg h0] at this

/-- '==' by the type's own comparison, at whatever depth -/
theorem Ev_eq_of {u v : Value} {b : Bool} (hx : opd L xo = some u) (hy : opd L yo = some v) (hg : eqGuard .eql t xo yo u v = pure ()) (hb : binOp .eql t u v = (do pure (.bool (← Op.equal t u v)))) (h : ∀ d, (Op.equalIn (d + 2) t u v).run P w = .ok b w) :
    Ev P L (.binOp .eql t xo yo t') ty w (.bool b) w :=
  Ev_bin hx hy hg (by rw [hb, Sem.run_bind, Op.equal, Op.maxDepth, h 9998]; rfl)
theorem Ev_ne_of {u v : Value} {b : Bool} (hx : opd L xo = some u) (hy : opd L yo = some v) (hg : eqGuard .neq t xo yo u v = pure ()) (hb : binOp .neq t u v = (do pure (.bool (!(← Op.equal t u v))))) (h : ∀ d, (Op.equalIn (d + 2) t u v).run P w = .ok b w) :
    Ev P L (.binOp .neq t xo yo t') ty w (.bool !b) w :=
  Ev_bin hx hy hg (by rw [hb, Sem.run_bind, Op.equal, Op.maxDepth, h 9998]; rfl)
theorem eqIn_bool {x y : Bool} (ht : P.underlying t = some .bool) (d : Nat) : (Op.equalIn (d + 2) t (.bool x) (.bool y)).run P w = .ok (x == y) w := by
  simp only [Op.equalIn, Sem.run_bind, run_underlying' ht, Result.andThen_ok]; rfl
theorem Ev_beql {x y : Bool} (hx : opd L xo = some (.bool x)) (hy : opd L yo = some (.bool y)) (ht : P.underlying t = some .bool) : Ev P L (.binOp .eql t xo yo t') ty w (.bool (x == y)) w :=
  Ev_eq_of hx hy (eqGuard_at_bool ..) rfl (eqIn_bool ht)
theorem Ev_bneq {x y : Bool} (hx : opd L xo = some (.bool x)) (hy : opd L yo = some (.bool y)) (ht : P.underlying t = some .bool) : Ev P L (.binOp .neq t xo yo t') ty w (.bool !(x == y)) w :=
  Ev_ne_of hx hy (eqGuard_at_bool ..) rfl (eqIn_bool ht)
end
end Go.Proofs.YtknfankadlokhaaGreatDoor

namespace Go.Proofs.YtknfankadlokhaaGreatDoor
open Go.RowKit
set_option linter.unusedVariables false
set_option linter.unusedSimpArgs false
set_option linter.unusedSectionVars false

section
variable {T : Tys} {P : Program} {n : Fz} {ops : Array Oper} {Q : Exit → Act → World → Prop} {L L' : Fr} {w w' w0 : World} {rest : List Oper} {ty t t' : TypeId} {xo yo zo : Operand}
  {Sx : Nat → Prop} {H : List (Nat × Obj)}

/-! ## Strings -/

theorem str_size (l : List UInt8) : (ByteArray.mk ⟨l⟩).size = l.length := rfl
theorem str_extract (l : List UInt8) (a b : Nat) : (ByteArray.mk ⟨l⟩).extract a b = ⟨⟨(l.drop a).take (b - a)⟩⟩ := by
  rw [Lib.extract_eq]
theorem str_append (a b : List UInt8) : (ByteArray.mk ⟨a⟩) ++ (ByteArray.mk ⟨b⟩) = ⟨⟨a ++ b⟩⟩ := by
  apply ByteArray.ext
  simp

section
variable {a b : List UInt8} (hx : opd L xo = some (S a))
include hx
theorem Ev_len_str (hT : T.Ok P) {at_ : TypeId} (ht : mem1 T.str at_ = true) : Ev P L (.call ⟨.builtin .len, #[xo], #[at_]⟩) ty w (I a.length) w := by
  refine ⟨fun n c ha _ _ _ _ => ?_⟩
  simp [execOp, resolve, invoke, builtin, Builtin.len_, ha.eval hx, run_underlying' (ok_str hT ht), goInt, str_size, pure]
theorem Ev_str_eql (hy : opd L yo = some (S b)) : Ev P L (.binOp .eql t xo yo t') ty w (.bool (decide (a = b))) w := by
  refine Ev_bin hx hy (eqGuard_at_string ..) ?_
  rw [binOp_string_eql]; simp only [ByteArray.toList_eq, Sem.run_pure]
  congr 2; by_cases h : a = b <;> simp [h]
theorem Ev_str_neq (hy : opd L yo = some (S b)) : Ev P L (.binOp .neq t xo yo t') ty w (.bool (decide (a ≠ b))) w := by
  refine Ev_bin hx hy (eqGuard_at_string ..) ?_
  rw [binOp_string_neq]; simp only [ByteArray.toList_eq, Sem.run_pure]
  by_cases h : a = b <;> simp [h]
theorem Ev_str_add (hy : opd L yo = some (S b)) (hl : a.length + b.length ≤ 9223372036854775807) : Ev P L (.binOp .add t xo yo t') ty w (S (a ++ b)) w := by
  refine ⟨fun n c ha _ _ _ _ => ?_⟩
  have h1 : ¬ ((a.length : Int) + (b.length : Int) > IntKind.i64.max) := by simp [IntKind.max, IntKind.signed, IntKind.bits]; omega
  simp only [execOp, ha.eval hx, ha.eval hy, Sem.run_bind, eqGuard_add, Sem.run_pure, Result.andThen_ok, binOp_string_add, Op.stringOp, str_size, str_append]
  rw [if_neg (by simpa using h1)]
  rfl
theorem Ev_str_index (hT : T.Ok P) (ht : mem1 T.str t = true) {k : IntKind} {i : Int} (hy : opd L yo = some (.int k i)) (h0 : 0 ≤ i) {c : UInt8} (hc : a[i.toNat]? = some c) : Ev P L (.index t xo yo) ty w (.int .u8 c.toNat) w := by
  refine ⟨fun n d ha _ _ _ _ => ?_⟩
  have hlt := (List.getElem?_eq_some_iff.1 hc).1
  have he := (List.getElem?_eq_some_iff.1 hc).2
  have hb : (ByteArray.mk ⟨a⟩)[i.toNat]? = some c := by
    have hs : i.toNat < (ByteArray.mk ⟨a⟩).size := by rw [str_size]; exact hlt
    rw [getElem?_pos (ByteArray.mk ⟨a⟩) i.toNat hs]; simp [ByteArray.getElem_eq_getElem_data, he]
  simp [execOp, ha.eval hx, ha.eval hy, Instr.index, asIntOf, run_underlying' (ok_str hT ht), h0, hb]
end

/-- the bounds of a slice expression: what stands there, or nothing -/
def bnd (L : Fr) (o : Option Operand) (d : Nat) : Option Int :=
  match o with
  | none => some d
  | some x => match opd L x with
    | some (.int _ i) => some i
    | _ => none

theorem bnd_spec {o : Option Operand} {d : Nat} {i : Int} (h : bnd L o d = some i) {a : Act} (ha : Fits n L a) (y : Nat) (code : BoundsCode) (h0 : 0 ≤ i) (h1 : i ≤ y) (w : World) :
    ((match o.map a.eval with | some v => Instr.sliceBound v y code | none => pure d : Sem Nat).run P w) = .ok i.toNat w := by
  cases o with
  | none => simp only [bnd, Option.some.injEq] at h; subst h; simp
  | some x =>
    simp only [bnd] at h
    split at h
    · rename_i k j hj
      injection h with h; subst h
      simp [ha.eval hj, Instr.sliceBound, asIntOf, h0, h1]
    · cases h

theorem sliceBounds_spec {lo hi : Option Operand} {len cap : Nat} {i j : Int} (isS : Bool) (hlo : bnd L lo 0 = some i) (hhi : bnd L hi len = some j) {a : Act} (ha : Fits n L a) (h0 : 0 ≤ i) (h1 : i ≤ j) (h2 : j ≤ cap) (w : World) :
    (Instr.sliceBounds isS len cap (lo.map a.eval) (hi.map a.eval) none).run P w = .ok (i.toNat, j.toNat, cap) w := by
  have hj := fun code => bnd_spec (P := P) hhi ha cap code (by omega) h2 w
  have hi' := fun code => bnd_spec (P := P) hlo ha j.toNat code h0 (by omega) w
  unfold Instr.sliceBounds
  cases lo with
  | none =>
    simp only [bnd, Option.some.injEq] at hlo; subst hlo
    cases hi with
    | none => simp only [bnd, Option.some.injEq] at hhi; subst hhi; simp
    | some y => simp only [Option.map_some] at hj ⊢; simp [hj]
  | some x =>
    cases hi with
    | none =>
      simp only [bnd, Option.some.injEq] at hhi; subst hhi
      simp only [Option.map_some, Int.toNat_natCast] at hi' ⊢; simp [hi']
    | some y => simp only [Option.map_some] at hj hi' ⊢; simp [hj, hi']

theorem Ev_str_slice (hT : T.Ok P) (ht : mem1 T.str t = true) {a : List UInt8} (hx : opd L xo = some (S a)) {lo hi : Option Operand} {i j : Int} (hlo : bnd L lo 0 = some i) (hhi : bnd L hi a.length = some j)
    (h0 : 0 ≤ i) (h1 : i ≤ j) (h2 : j ≤ a.length) : Ev P L (.slice t xo lo hi none) ty w (S ((a.drop i.toNat).take (j.toNat - i.toNat))) w := by
  refine ⟨fun n c ha _ _ _ _ => ?_⟩
  have hs := sliceBounds_spec (P := P) false hlo hhi ha h0 h1 h2 w
  simp only [execOp, ha.eval hx, Sem.run_bind, Instr.sliceAt, run_underlying' (ok_str hT ht), Result.andThen_ok, Instr.slice, Option.map_none, Option.isSome_none, Bool.false_eq_true, if_false, str_size, hs, str_extract, Sem.run_pure]

/-! ## Tuples, structs, addresses -/

theorem Ev_extract {l : List Value} {i : Nat} {v : Value} (hx : opd L xo = some (.tuple ⟨l⟩)) (h : l[i]? = some v) : Ev P L (.extract xo i) ty w v w := by
  refine ⟨fun n c ha _ _ _ _ => ?_⟩
  simp [execOp, ha.eval hx, Instr.extract, h]

theorem Ev_fieldAddr (hT : T.Ok P) {s f o z b off : Nat} (hf : asc2 T.fld s f = some (o, z)) (hx : opd L xo = some (.pointer (some ⟨b, off, none⟩))) : Ev P L (.fieldAddr s xo f) ty w (.pointer (some ⟨b, off + o, none⟩)) w := by
  refine ⟨fun n c ha _ _ _ _ => ?_⟩
  obtain ⟨fs, x, i, hu, hfx, ho, hi, hz, hne⟩ := ok_fld hT hf
  have e : (Addr.add ⟨b, off, none⟩ o) = ⟨b, off + o, none⟩ := by simp [Addr.add]
  simp [execOp, ha.eval hx, Instr.fieldAt, run_underlying' hu, hfx, Instr.sureAddr, fieldPlace, run_sizeOf' hi, hz, hne, ho, e]

theorem Ev_field1 (hT : T.Ok P) {s f o : Nat} {l : List Value} {v : Value} (hf : asc2 T.fld s f = some (o, 1)) (hx : opd L xo = some (.agg ⟨l⟩)) (hv : l[o]? = some v) (hone : ∀ fs x, P.underlying s = some (.struct fs) → fs[f]? = some x → mem1 T.one x.type = true) :
    Ev P L (.field s xo f) ty w v w := by
  refine ⟨fun n c ha _ _ _ _ => ?_⟩
  obtain ⟨fs, x, i, hu, hfx, ho, hi, hz, hne⟩ := ok_fld hT hf
  simp [execOp, ha.eval hx, Instr.field, run_underlying' hu, hfx, part, asAgg, run_isAgg_no hT (hone fs x hu hfx), ho, hv]

theorem Ev_indexAddr (hT : T.Ok P) {e z y b off len cap : Nat} {k : IntKind} {i : Int} (ht : asc T.sl t = some (e, z, y)) (hx : opd L xo = some (.slice (some ⟨b, off, none⟩) len cap)) (hy : opd L yo = some (.int k i))
    (h0 : 0 ≤ i) (h1 : i < len) : Ev P L (.indexAddr t xo yo) ty w (.pointer (some ⟨b, off + i.toNat * z, none⟩)) w := by
  refine ⟨fun n c ha _ _ _ _ => ?_⟩
  obtain ⟨hu, d, hi, hz, _⟩ := ok_sl hT ht
  have e : (Addr.add ⟨b, off, none⟩ (i.toNat * z)) = ⟨b, off + i.toNat * z, none⟩ := by
    simp only [Addr.add]; split
    · rename_i h; rw [h]; rfl
    · rfl
  simp [execOp, ha.eval hx, ha.eval hy, Instr.indexAt, asIntOf, run_underlying' hu, h0, h1, run_sizeOf' hi, hz, e]

theorem Ev_indexAddrArr (hT : T.Ok P) {m e z b off : Nat} {k : IntKind} {i : Int} (ht : asc T.arr t = some (m, e, z)) (hx : opd L xo = some (.pointer (some ⟨b, off, none⟩))) (hy : opd L yo = some (.int k i))
    (h0 : 0 ≤ i) (h1 : i < m) : Ev P L (.indexAddr t xo yo) ty w (.pointer (some ⟨b, off + i.toNat * z, none⟩)) w := by
  refine ⟨fun n c ha _ _ _ _ => ?_⟩
  obtain ⟨hu, d, hi, hz⟩ := ok_arr hT ht
  have e : (Addr.add ⟨b, off, none⟩ (i.toNat * z)) = ⟨b, off + i.toNat * z, none⟩ := by
    simp only [Addr.add]; split
    · rename_i h; rw [h]; rfl
    · rfl
  simp [execOp, ha.eval hx, ha.eval hy, Instr.indexAt, asIntOf, run_underlying' hu, Instr.sureAddr, h0, h1, run_sizeOf' hi, hz, e]

theorem Ev_len_slice (hT : T.Ok P) {at_ e z y len cap : Nat} {a : Option Addr} (ht : asc T.sl at_ = some (e, z, y)) (hx : opd L xo = some (.slice a len cap)) : Ev P L (.call ⟨.builtin .len, #[xo], #[at_]⟩) ty w (I len) w := by
  refine ⟨fun n c ha _ _ _ _ => ?_⟩
  simp [execOp, resolve, invoke, builtin, Builtin.len_, ha.eval hx, run_underlying' (ok_sl hT ht).1, goInt, pure]

theorem Ev_min {x y : Int} {k : IntKind} {ts : Array TypeId} (hx : opd L xo = some (.int k x)) (hy : opd L yo = some (.int k y)) : Ev P L (.call ⟨.builtin .min, #[xo, yo], ts⟩) ty w (.int k (min x y)) w := by
  refine ⟨fun n c ha _ _ _ _ => ?_⟩
  have e : (if y < x then y else x) = min x y := by omega
  simp [execOp, resolve, invoke, builtin, Builtin.min_, Builtin.min2, ha.eval hx, ha.eval hy, e]
theorem Ev_max {x y : Int} {k : IntKind} {ts : Array TypeId} (hx : opd L xo = some (.int k x)) (hy : opd L yo = some (.int k y)) : Ev P L (.call ⟨.builtin .max, #[xo, yo], ts⟩) ty w (.int k (max x y)) w := by
  refine ⟨fun n c ha _ _ _ _ => ?_⟩
  have e : (if y > x then y else x) = max x y := by omega
  simp [execOp, resolve, invoke, builtin, Builtin.max_, Builtin.max2, ha.eval hx, ha.eval hy, e]

theorem Ev_conv_int (hT : T.Ok P) {j k : IntKind} {x : Int} {s d : TypeId} (hs : asc T.int s = some j) (hd : asc T.int d = some k) (hx : opd L xo = some (.int j x)) : Ev P L (.convert s d xo) ty w (.int k (k.wrap x)) w := by
  refine ⟨fun n c ha _ _ _ _ => ?_⟩
  simp [execOp, ha.eval hx, convert, run_underlying' (ok_int hT hs), run_underlying' (ok_int hT hd), Conv.intToInt]
theorem Ev_conv_in (hT : T.Ok P) {j k : IntKind} {x : Int} {s d : TypeId} (hs : asc T.int s = some j) (hd : asc T.int d = some k) (hx : opd L xo = some (.int j x)) (h : inK k x) : Ev P L (.convert s d xo) ty w (.int k x) w := by
  have := Ev_conv_int (w := w) (ty := ty) hT hs hd hx
  rwa [wrap_in h] at this
theorem Ev_conv_str (hT : T.Ok P) {a : List UInt8} {s d : TypeId} (hs : mem1 T.str s = true) (hd : mem1 T.str d = true) (hx : opd L xo = some (S a)) : Ev P L (.convert s d xo) ty w (S a) w := by
  refine ⟨fun n c ha _ _ _ _ => ?_⟩
  simp [execOp, ha.eval hx, convert, run_underlying' (ok_str hT hs), run_underlying' (ok_str hT hd)]

/-- a pointer against nil -/
theorem eqIn_ptr_nil {e : TypeId} (ht : P.underlying t = some (.pointer e)) (p : Option Addr) (d : Nat) : (Op.equalIn (d + 2) t (.pointer p) (.pointer none)).run P w = .ok p.isNone w := by
  cases p <;> simp only [Op.equalIn, Sem.run_bind, run_underlying' ht, Result.andThen_ok] <;> rfl
theorem Ev_ptr_nil_eql (ht : ptrB P t = true) {p : Option Addr} (hx : opd L xo = some (.pointer p)) (hy : opd L yo = some (.pointer none)) : Ev P L (.binOp .eql t xo yo t') ty w (.bool p.isNone) w := by
  obtain ⟨e, he⟩ := ptrB_spec ht
  exact Ev_eq_of hx hy (eqGuard_at_pointer ..) (by cases p <;> rfl) (eqIn_ptr_nil he p)
theorem Ev_ptr_nil_neq (ht : ptrB P t = true) {p : Option Addr} (hx : opd L xo = some (.pointer p)) (hy : opd L yo = some (.pointer none)) : Ev P L (.binOp .neq t xo yo t') ty w (.bool !p.isNone) w := by
  obtain ⟨e, he⟩ := ptrB_spec ht
  exact Ev_ne_of hx hy (eqGuard_at_pointer ..) (by cases p <;> rfl) (eqIn_ptr_nil he p)
/-- against nil, the pointer known -/
theorem Ev_some_nil_eql (ht : ptrB P t = true) {p : Addr} (hx : opd L xo = some (.pointer (some p))) (hy : opd L yo = some (.pointer none)) : Ev P L (.binOp .eql t xo yo t') ty w (.bool false) w := Ev_ptr_nil_eql ht hx hy
theorem Ev_some_nil_neq (ht : ptrB P t = true) {p : Addr} (hx : opd L xo = some (.pointer (some p))) (hy : opd L yo = some (.pointer none)) : Ev P L (.binOp .neq t xo yo t') ty w (.bool true) w := Ev_ptr_nil_neq ht hx hy
theorem Ev_nil_nil_eql (ht : ptrB P t = true) (hx : opd L xo = some (.pointer none)) (hy : opd L yo = some (.pointer none)) : Ev P L (.binOp .eql t xo yo t') ty w (.bool true) w := Ev_ptr_nil_eql ht hx hy
theorem Ev_nil_nil_neq (ht : ptrB P t = true) (hx : opd L xo = some (.pointer none)) (hy : opd L yo = some (.pointer none)) : Ev P L (.binOp .neq t xo yo t') ty w (.bool false) w := Ev_ptr_nil_neq ht hx hy

/-! ## Memory -/

theorem St.at (h : St w0 Sx H w) (i : Nat) {b : Nat} {o : Obj} (hi : H[i]? = some (b, o)) : w.heap[b]? = some o := (h.own i b o hi).1

theorem Ev_load1 (hT : T.Ok P) (ht : mem1 T.one t = true) {b o : Nat} {l : List Value} {E : TypeId} {fz : Nat × Nat} {v : Value} (hx : opd L xo = some (.pointer (some ⟨b, o, none⟩))) (hb : w.heap[b]? = some (.cells ⟨l⟩ E fz)) (hv : l[o]? = some v) :
    Ev P L (.load t xo) ty w v w := by
  refine ⟨fun n c ha _ _ _ _ => ?_⟩
  simp [execOp, ha.eval hx, Instr.loadAt, Instr.sureAddr, loadVar, run_isAgg_no hT ht, run_load, cell_of hb, hv]

theorem Ev_loadN (hT : T.Ok P) {k : Nat} (ht : asc T.agg t = some k) {b o : Nat} {l : List Value} {E : TypeId} {fz : Nat × Nat} {vs : List Value} (hx : opd L xo = some (.pointer (some ⟨b, o, none⟩))) (hb : w.heap[b]? = some (.cells ⟨l⟩ E fz)) (hvs : (l.drop o).take k = vs) (hl : vs.length = k) :
    Ev P L (.load t xo) ty w (.agg ⟨vs⟩) w := by
  refine ⟨fun n c ha _ _ _ _ => ?_⟩
  obtain ⟨_, i, hi, hk⟩ := ok_agg hT ht
  have hl' := run_loadCells_list (P := P) w ⟨b, o, none⟩ vs (fun j v hj => by
    have e : (Addr.add ⟨b, o, none⟩ j) = ⟨b, o + j, none⟩ := by
      simp only [Addr.add]; split
      · rename_i h; rw [h]; rfl
      · rfl
    rw [e, cell_of hb]
    rw [← hvs] at hj
    rw [List.getElem?_take] at hj
    split at hj
    · rw [List.getElem?_drop] at hj; exact hj
    · cases hj)
  rw [hl] at hl'
  simp [execOp, ha.eval hx, Instr.loadAt, Instr.sureAddr, loadVar, run_isAgg_yes hT ht, run_sizeOf' hi, hk, hl']
end
end Go.Proofs.YtknfankadlokhaaGreatDoor

namespace Go.Proofs.YtknfankadlokhaaGreatDoor
open Go.RowKit
set_option linter.unusedVariables false
set_option linter.unusedSimpArgs false
set_option linter.unusedSectionVars false

section
variable {T : Tys} {P : Program} {n : Fz} {ops : Array Oper} {Q : Exit → Act → World → Prop} {L L' : Fr} {w w' w0 : World} {rest : List Oper} {ty t t' : TypeId} {xo yo zo : Operand}
  {Sx : Nat → Prop} {H : List (Nat × Obj)} {pos : String} {af : Array Edge} {g : Option (Nat × Bool)}

/-! ## Stores -/

/-- cells laid over a list from a place on -/
def spl : List Value → Nat → List Value → List Value
  | l, _, [] => l
  | l, o, v :: vs => spl (l.set o v) (o + 1) vs

theorem run_store1 {P : Program} {w : World} {b o : Nat} {l : List Value} {E : TypeId} {v : Value} (hb : w.heap[b]? = some (blk l E)) (ho : o < l.length) (hv : oneV v = true) :
    (store ⟨b, o, none⟩ v).run P w = .ok () (w.setCell ⟨b, o, none⟩ v) := by
  have h1 : w.cell? ⟨b, o, none⟩ = some l[o] := by rw [cell_of hb]; exact List.getElem?_eq_getElem ho
  have h2 : w.frozen? ⟨b, o, none⟩ = false := by simp [World.frozen?, hb, blk]
  cases v <;> simp only [oneV, Bool.false_eq_true] at hv <;> simp [store, Sem.run, h1, h2]

theorem run_storeN {P : Program} {i b : Nat} {E : TypeId} (vs : List Value) : ∀ (j o : Nat) (l : List Value) (w : World) (H : List (Nat × Obj)), St w0 Sx H w → H[i]? = some (b, blk l E) → o + j + vs.length ≤ l.length → vs.all oneV = true →
    ∃ w', (storeCells ⟨b, o, none⟩ vs j).run P w = .ok () w' ∧ St w0 Sx (H.set i (b, blk (spl l (o + j) vs) E)) w' := by
  induction vs with
  | nil =>
    intro j o l w H hSt hi _ _
    refine ⟨w, by simp [storeCells], ?_⟩
    have e : H.set i (b, blk (spl l (o + j) []) E) = H := by
      simp only [spl]
      apply List.ext_getElem?
      intro m
      rw [List.getElem?_set]
      split
      · rename_i h; subst h
        split
        · exact hi.symm
        · rw [List.getElem?_eq_none (by omega)] at hi; cases hi
      · rfl
    rw [e]; exact hSt
  | cons v vs ih =>
    intro j o l w H hSt hi hl hv
    simp only [List.all_cons, Bool.and_eq_true] at hv
    simp only [List.length_cons] at hl
    have ha : (Addr.add ⟨b, o, none⟩ j) = ⟨b, o + j, none⟩ := by
      simp only [Addr.add]; split
      · rename_i h; rw [h]; rfl
      · rfl
    have h1 := run_store1 (P := P) (hSt.own i b _ hi).1 (o := o + j) (v := v) (by omega) hv.1
    have h2 := hSt.store hi (o + j) v
    have hil : i < H.length := (List.getElem?_eq_some_iff.1 hi).1
    obtain ⟨w', h3, h4⟩ := ih (j + 1) o (l.set (o + j) v) _ _ h2 (by rw [List.getElem?_set]; simp [hil]) (by simp; omega) hv.2
    refine ⟨w', ?_, ?_⟩
    · simp only [storeCells, Sem.run_bind, ha, h1, Result.andThen_ok, h3]
    · simp only [List.set_set] at h4
      exact h4

theorem WL_store1 (hT : T.Ok P) (ht : mem1 T.one t = true) (hg : wantB ops g L = some true) {b o : Nat} (i : Nat) {l : List Value} {E : TypeId} {v : Value} (hx : opd L xo = some (.pointer (some ⟨b, o, none⟩))) (hy : opd L yo = some v)
    (hSt : St w0 Sx H w) (hi : H[i]? = some (b, blk l E)) (hv : oneV v = true) (ho : Nat.blt o l.length = true)
    (k : ∀ w', St w0 Sx (H.set i (b, blk (l.set o v) E)) w' → WL P n ops Q rest L w') : WL P n ops Q (⟨none, .store t xo yo, ty, pos, af, g⟩ :: rest) L w := by
  refine ⟨fun a ha => ?_⟩
  obtain ⟨_, d, hd, hsz⟩ := ok_one hT ht
  have ho' : o < l.length := by simpa [Nat.blt_eq] using ho
  have hr := run_store1 (P := P) (hSt.own i b _ hi).1 ho' hv
  unfold wpList
  rw [wantB_spec (o := ⟨none, .store t xo yo, ty, pos, af, g⟩) hg ha, if_pos rfl]
  refine .inl ?_
  have hrun : (execOp a.eval ⟨none, .store t xo yo, ty, pos, af, g⟩).run P w = .ok .skip (w.setCell ⟨b, o, none⟩ v) := by
    simp [execOp, ha.eval hx, ha.eval hy, Instr.storeAt, Instr.sureAddr, storeVar, run_sizeOf' hd, hsz, oneV_cells hv, storeCells, Addr.add_zero', hr]
  unfold Oper.wp
  rw [hrun, Oper.upon_skip]
  exact (k _ (hSt.store hi o v)).run a ha

theorem WL_storeN (hT : T.Ok P) {m : Nat} (ht : asc T.agg t = some m) (hg : wantB ops g L = some true) {b o : Nat} (i : Nat) {l vs : List Value} {E : TypeId} (hx : opd L xo = some (.pointer (some ⟨b, o, none⟩))) (hy : opd L yo = some (.agg ⟨vs⟩))
    (hSt : St w0 Sx H w) (hi : H[i]? = some (b, blk l E)) (hm : vs.length = m) (hv : vs.all oneV = true) (ho : Nat.ble (o + vs.length) l.length = true)
    (k : ∀ w', St w0 Sx (H.set i (b, blk (spl l o vs) E)) w' → WL P n ops Q rest L w') : WL P n ops Q (⟨none, .store t xo yo, ty, pos, af, g⟩ :: rest) L w := by
  refine ⟨fun a ha => ?_⟩
  obtain ⟨_, d, hd, hsz⟩ := ok_agg hT ht
  have ho' : o + vs.length ≤ l.length := by simpa [Nat.ble_eq] using ho
  obtain ⟨w', hr, hSt'⟩ := run_storeN (P := P) vs 0 o l w H hSt hi (by omega) hv
  unfold wpList
  rw [wantB_spec (o := ⟨none, .store t xo yo, ty, pos, af, g⟩) hg ha, if_pos rfl]
  refine .inl ?_
  have hrun : (execOp a.eval ⟨none, .store t xo yo, ty, pos, af, g⟩).run P w = .ok .skip w' := by
    simp [execOp, ha.eval hx, ha.eval hy, Instr.storeAt, Instr.sureAddr, storeVar, run_sizeOf' hd, hsz, Value.cells, hm, hr]
  unfold Oper.wp
  rw [hrun, Oper.upon_skip]
  exact (k _ (by simpa using hSt')).run a ha

/-! ## New memory -/

theorem WL_new {d : Nat} {op : Op} {l : List Value} {E : TypeId} (hg : wantB ops g L = some true) (hn : Nat.blt d n.1 = true) (hSt : St w0 Sx H w)
    (h : Ev P L op ty w (.pointer (some ⟨w.heap.size, 0, none⟩)) (w.alloc (blk l E)))
    (k : ∀ w' b, w0.heap.size ≤ b → St w0 Sx (H ++ [(b, blk l E)]) w' → WL P n ops Q rest ((d, .pointer (some ⟨b, 0, none⟩)) :: L) w') : WL P n ops Q (⟨some d, op, ty, pos, af, g⟩ :: rest) L w :=
  WL_ev hg hn h (k _ _ hSt.size (hSt.alloc _))

theorem WL_alloc (hT : T.Ok P) {e : TypeId} {z : Value} {d : Nat} (hz : asc T.zero e = some z) (hg : wantB ops g L = some true) (hn : Nat.blt d n.1 = true) (hSt : St w0 Sx H w)
    (k : ∀ w' b, w0.heap.size ≤ b → St w0 Sx (H ++ [(b, blk (zcells z) e)]) w' → WL P n ops Q rest ((d, .pointer (some ⟨b, 0, none⟩)) :: L) w') : WL P n ops Q (⟨some d, .alloc e, ty, pos, af, g⟩ :: rest) L w := by
  refine WL_new hg hn hSt ?_ k
  refine ⟨fun n a ha _ _ _ _ => ?_⟩
  obtain ⟨i, hi, hz'⟩ := ok_zero hT hz
  simp [execOp, Instr.alloc, zeroValue, typeInfo, hi, hz', newVar, newRow, zcells_cells, blk]

theorem WL_box {e : TypeId} {v : Value} {d : Nat} (hx : opd L xo = some v) (hg : wantB ops g L = some true) (hn : Nat.blt d n.1 = true) (hSt : St w0 Sx H w)
    (k : ∀ w' b, w0.heap.size ≤ b → St w0 Sx (H ++ [(b, blk (zcells v) e)]) w' → WL P n ops Q rest ((d, .pointer (some ⟨b, 0, none⟩)) :: L) w') : WL P n ops Q (⟨some d, .box e xo, ty, pos, af, g⟩ :: rest) L w := by
  refine WL_new hg hn hSt ?_ k
  refine ⟨fun n a ha _ _ _ _ => ?_⟩
  simp [execOp, ha.eval hx, Instr.box, newVar, newRow, zcells_cells, blk]

/-- a struct's parts: where they lie, and what they are -/
def evParts (T : Tys) (L : Fr) (t : TypeId) : List (Nat × Operand) → Option (List (Nat × Nat × Value))
  | [] => some []
  | (f, x) :: r => match asc2 T.fld t f, opd L x, evParts T L t r with
    | some (o, z), some v, some ps => some ((o, z, v) :: ps)
    | _, _, _ => none
def laid : List Value → List (Nat × Nat × Value) → Option (List Value)
  | l, [] => some l
  | l, (o, z, v) :: ps => bif Nat.beq (zcells v).length z && Nat.ble (o + z) l.length then laid (spl l o (zcells v)) ps else none

theorem spl_length (vs : List Value) : ∀ (l : List Value) (o : Nat), (spl l o vs).length = l.length := by
  induction vs with
  | nil => intros; rfl
  | cons v vs ih => intro l o; simp [spl, ih]

theorem fill_spl (vs : List Value) : ∀ (l : List Value) (o k : Nat), ((⟨vs⟩ : Array Value).zipIdx k).foldl (fun (cs : Array Value) (x : Value × Nat) => cs.setIfInBounds (o + x.2) x.1) ⟨l⟩ = ⟨spl l (o + k) vs⟩ := by
  intro l o k
  rw [← Array.foldl_toList]
  simp only [Array.toList_zipIdx]
  induction vs generalizing l k with
  | nil => rfl
  | cons v vs ih =>
    simp only [List.zipIdx_cons, List.foldl_cons, spl]
    have := ih (l.set (o + k) v) (k + 1)
    rw [Nat.add_assoc]; simpa [List.setIfInBounds_toArray] using this

theorem places_of {P : Program} : ∀ (fs : List Field), (∀ x ∈ fs, (P.info? x.type).isSome = true) → fs.mapM (fun f => (P.info? f.type).map fun i => (f.offset, i.size)) = some (fs.map fun f => (f.offset, szB P f.type))
  | [], _ => rfl
  | f :: fs, h => by
    obtain ⟨i, hi⟩ := Option.isSome_iff_exists.1 (h f List.mem_cons_self)
    have := places_of fs (fun x hx => h x (List.mem_cons_of_mem _ hx))
    simp [List.mapM_cons, hi, this, szB]

theorem fill_laid {place : Nat → Option (Nat × Nat)} : ∀ (qs : List (Nat × Value)) (ps : List (Nat × Nat × Value)) (l vs : List Value), qs.map (fun q => (place q.1, q.2)) = ps.map (fun p => (some (p.1, p.2.1), p.2.2)) → laid l ps = some vs →
    Instr.fill place ⟨l⟩ qs = some ⟨vs⟩
  | [], [], l, vs, _, h => by simp only [laid, Option.some.injEq] at h; subst h; rfl
  | [], p :: ps, l, vs, hq, _ => by simp at hq
  | q :: qs, [], l, vs, hq, _ => by simp at hq
  | (i, v) :: qs, (o, z, u) :: ps, l, vs, hq, h => by
    simp only [List.map_cons, List.cons.injEq, Prod.mk.injEq] at hq
    obtain ⟨⟨hp, rfl⟩, hq⟩ := hq
    simp only [laid] at h
    cases hc : (Nat.beq (zcells v).length z && Nat.ble (o + z) l.length)
    · simp [hc] at h
    · simp only [hc, cond_true] at h
      simp only [Bool.and_eq_true] at hc
      have h1 := Nat.eq_of_beq_eq_true hc.1
      have h2 := Nat.le_of_ble_eq_true hc.2
      simp only [Instr.fill, hp, zcells_cells, List.size_toArray, h1]
      rw [if_neg (by simp; omega)]
      have := fill_spl (zcells v) l o 0
      simp only [Nat.add_zero] at this
      rw [this]
      exact fill_laid qs ps _ vs hq h

theorem evParts_spec (hT : T.Ok P) {fs : Array Field} (hu : P.underlying t = some (.struct fs)) {a : Act} (ha : Fits n L a) : ∀ (parts : List (Nat × Operand)) (ps : List (Nat × Nat × Value)), evParts T L t parts = some ps →
    (parts.map fun x => (x.1, a.eval x.2)).map (fun q => (((fs.toList.map fun f => (f.offset, szB P f.type)).toArray[q.1]? : Option (Nat × Nat)), q.2)) = ps.map (fun p => (some (p.1, p.2.1), p.2.2))
  | [], ps, h => by simp only [evParts, Option.some.injEq] at h; subst h; rfl
  | (f, x) :: parts, ps, h => by
    simp only [evParts] at h
    split at h
    · rename_i o z v qs hf hx hr
      injection h with h; subst h
      obtain ⟨fs', y, i, hu', hfx, ho, hi, hz, hne⟩ := ok_fld hT hf
      rw [hu] at hu'; injection hu' with hu'; injection hu' with hu'; subst hu'
      have ih := evParts_spec hT hu ha parts qs hr
      have hy : fs.toList[f]? = some y := by simpa using hfx
      have hs : szB P y.type = z := by simp [szB, hi, hz]
      simp only [List.map_cons, ha.eval hx, ih]
      simp [hy, ho, hs]
    · cases h

theorem Ev_build (hT : T.Ok P) {z vs : List Value} {parts : List (Nat × Operand)} {ps : List (Nat × Nat × Value)} {m : Nat} (hag : asc T.agg t = some m) (hz : asc T.zero t = some (.agg ⟨z⟩)) (hna : asc T.arr t = none)
    (hp : evParts T L t parts = some ps) (hv : laid z ps = some vs) (hs : structB P t = true) : Ev P L (.build t ⟨parts⟩) ty w (.agg ⟨vs⟩) w := by
  refine ⟨fun n a ha _ _ _ _ => ?_⟩
  obtain ⟨fs, hu⟩ := structB_spec hs
  obtain ⟨it, hit, hzz⟩ := ok_zero hT hz
  obtain ⟨⟨d, hd, hd'⟩, _⟩ := ok_agg hT hag
  rw [hu] at hd; injection hd with hd; subst hd
  have hall : ∀ x ∈ fs.toList, (P.info? x.type).isSome = true := by
    rcases hd' with ⟨f, hf, h⟩ | ⟨n, e, hf⟩
    · injection hf with hf; subst hf; intro x hx; exact h x (by simpa using hx)
    · cases hf
  have hb : P.built t (parts.map fun x => (x.1, a.eval x.2)) = some ⟨vs⟩ := by
    simp only [Program.built, hit, hu, hzz, places_of fs.toList hall, Value.cells]
    exact fill_laid _ ps z vs (evParts_spec hT hu ha parts ps hp) hv
  have := run_build (P := P) w t ⟨parts.map fun x => (x.1, a.eval x.2)⟩ ⟨vs⟩ hb
  simp only [execOp]
  have e : (Array.map (fun (x : Nat × Operand) => (x.1, a.eval x.2)) ⟨parts⟩) = ⟨parts.map fun x => (x.1, a.eval x.2)⟩ := by simp
  rw [show (fun (x : Nat × Operand) => match x with | (i, x) => (i, a.eval x)) = (fun (x : Nat × Operand) => (x.1, a.eval x.2)) from rfl, e]
  simp only [Sem.run_bind, this, Result.andThen_ok, Sem.run_pure]
end
end Go.Proofs.YtknfankadlokhaaGreatDoor

namespace Go.Proofs.YtknfankadlokhaaGreatDoor
open Go.RowKit
set_option linter.unusedVariables false
set_option linter.unusedSimpArgs false
set_option linter.unusedSectionVars false

section
variable {T : Tys} {P : Program} {n : Fz} {ops : Array Oper} {Q : Exit → Act → World → Prop} {L L' : Fr} {w w' w0 : World} {rest : List Oper} {ty t t' : TypeId} {xo yo zo : Operand}
  {Sx : Nat → Prop} {H : List (Nat × Obj)} {pos : String} {af : Array Edge} {g : Option (Nat × Bool)} {c : Code}

/-! ## Calls -/

/-- the call returns a value, and R holds of it and of the world behind -/
structure Cl (P : Program) (f : FuncId) (args : List Value) (w : World) (R : Value → World → Prop) : Prop where
  run : Calls P f ⟨args⟩ w (fun e w' => ∃ v, e = .returned v ∧ R v w')

theorem Cl.mono {f : FuncId} {args : List Value} {R R' : Value → World → Prop} (h : Cl P f args w R) (k : ∀ v w', R v w' → R' v w') : Cl P f args w R' :=
  ⟨Calls.mono h.run (fun e w' ⟨v, he, hr⟩ => ⟨v, he, k v w' hr⟩)⟩

def opds (L : Fr) : List Operand → Option (List Value)
  | [] => some []
  | x :: xs => match opd L x, opds L xs with
    | some v, some vs => some (v :: vs)
    | _, _ => none

theorem opds_spec {xs : List Operand} {vs : List Value} (h : opds L xs = some vs) {a : Act} (ha : Fits n L a) : xs.map a.eval = vs := by
  induction xs generalizing vs with
  | nil => simp only [opds, Option.some.injEq] at h; subst h; rfl
  | cons x xs ih =>
    simp only [opds] at h
    split at h
    · rename_i v us hv hus
      injection h with h; subst h
      simp [ha.eval hv, ih hus]
    · cases h

theorem run_call {a : Act} {f : FuncId} {xs : List Operand} {vs : List Value} (hf : callB P f = true) (hx : opds L xs = some vs) (ha : Fits n L a) {at_ : Array TypeId} {dst : Option Tmp} :
    (execOp a.eval ⟨dst, .call ⟨.value (.func f), ⟨xs⟩, at_⟩, ty, pos, af, g⟩).run P w = .ok (.enter f ⟨vs⟩) w := by
  have hm := opds_spec hx ha
  unfold callB at hf
  cases hfn : P.funcs[f]? with
  | none => simp [hfn] at hf
  | some fn =>
    simp only [hfn, Bool.and_eq_true, Bool.not_eq_true', Option.isSome_iff_exists] at hf
    obtain ⟨⟨b, hb⟩, hname⟩ := hf
    have hname' : ¬ (fn.name = "runtime.NumGoroutine") := by simpa using hname
    have he : (execOp a.eval ⟨dst, .call ⟨.value (.func f), ⟨xs⟩, at_⟩, ty, pos, af, g⟩) = callFunc f (⟨vs⟩ ++ #[]) := by
      simp only [execOp, resolve, Act.eval, Deferred.ofValue]
      have : (Array.map a.eval ⟨xs⟩) = ⟨vs⟩ := by rw [← hm]; simp
      rw [this]
      show invoke (Target.fn (Fn.func f) #[]) (#[] ++ ⟨vs⟩) = _
      simp [invoke]
    rw [he]
    simp [callFunc, hfn, hname', hb]

theorem WL_call {d : Nat} {f : FuncId} {xs : List Operand} {vs : List Value} {R : Value → World → Prop} {at_ : Array TypeId} (hf : callB P f = true) (hx : opds L xs = some vs) (hg : wantB ops g L = some true) (hn : Nat.blt d n.1 = true)
    (hc : Cl P f vs w R) (k : ∀ v w', R v w' → WL P n ops Q rest ((d, v) :: L) w') : WL P n ops Q (⟨some d, .call ⟨.value (.func f), ⟨xs⟩, at_⟩, ty, pos, af, g⟩ :: rest) L w := by
  refine ⟨fun a ha => ?_⟩
  unfold wpList
  rw [wantB_spec (o := ⟨some d, .call ⟨.value (.func f), ⟨xs⟩, at_⟩, ty, pos, af, g⟩) hg ha, if_pos rfl]
  refine .inl ?_
  unfold Oper.wp
  rw [run_call hf hx ha, Oper.upon_enter]
  refine Calls.mono hc.run ?_
  rintro e w' ⟨v, rfl, hr⟩
  exact (k v w' hr).run _ (ha.put hn v)

theorem WL_isCall {dst : Option Tmp} {f : FuncId} {xs : Array Operand} {at_ : Array TypeId} (h : WL P n ops Q (⟨dst, .call ⟨.value (.func f), xs, at_⟩, ty, pos, af, g⟩ :: rest) L w) : WL P n ops Q (⟨dst, .call ⟨.value (.func f), xs, at_⟩, ty, pos, af, g⟩ :: rest) L w := h
theorem WL_call0 {f : FuncId} {xs : List Operand} {vs : List Value} {R : Value → World → Prop} {at_ : Array TypeId} (hf : callB P f = true) (hx : opds L xs = some vs) (hg : wantB ops g L = some true)
    (hc : Cl P f vs w R) (k : ∀ v w', R v w' → WL P n ops Q rest L w') : WL P n ops Q (⟨none, .call ⟨.value (.func f), ⟨xs⟩, at_⟩, ty, pos, af, g⟩ :: rest) L w := by
  refine ⟨fun a ha => ?_⟩
  unfold wpList
  rw [wantB_spec (o := ⟨none, .call ⟨.value (.func f), ⟨xs⟩, at_⟩, ty, pos, af, g⟩) hg ha, if_pos rfl]
  refine .inl ?_
  unfold Oper.wp
  rw [run_call hf hx ha, Oper.upon_enter]
  refine Calls.mono hc.run ?_
  rintro e w' ⟨v, rfl, hr⟩
  exact (k v w' hr).run _ ha

/-! ## Statements that draw their order: their operations only read, and call what leaves old memory alone -/

structure QL (P : Program) (n : Fz) (ops : Array Oper) (C : World → Prop) (K : Act → Prop) (rest : List Oper) (L : Fr) : Prop where
  run : ∀ a, Fits n L a → wpQuiet P ops C K rest a

theorem W_quiet {id : Nat} {l : List Oper} (hT : T.Ok P) (hB : Region.lexB .any l.toArray = true) (hSt : St w0 Sx H w)
    (h : QL P n l.toArray (St w0 Sx H) (fun a' => ∀ w', St w0 Sx H w' → Q .normal a' w') l L) : W P n (.region id l.toArray true) Q L w := by
  refine ⟨fun a ha => ?_⟩
  exact wp_region_quiet hT.mixed hB hSt.drew (h.run a ha)

section
variable {C : World → Prop} {K : Act → Prop}
theorem QL_ev {d : Nat} {op : Op} {v : Value} (hg : wantB ops g L = some true) (hn : Nat.blt d n.1 = true) (h : ∀ w, C w → Ev P L op ty w v w) (k : QL P n ops C K rest ((d, v) :: L)) : QL P n ops C K (⟨some d, op, ty, pos, af, g⟩ :: rest) L := by
  refine ⟨fun a ha => ?_⟩
  unfold wpQuiet
  rw [wantB_spec (o := ⟨some d, op, ty, pos, af, g⟩) hg ha, if_pos rfl]
  refine ⟨v, fun w hw => ?_, k.run _ (ha.put hn v)⟩
  unfold Oper.quietAt
  rw [(h w hw).run n a ha]
  exact ⟨rfl, rfl⟩
theorem QL_call {d : Nat} {f : FuncId} {xs : List Operand} {vs : List Value} {v : Value} {at_ : Array TypeId} (hf : callB P f = true) (hx : opds L xs = some vs) (hg : wantB ops g L = some true) (hn : Nat.blt d n.1 = true)
    (hc : ∀ w, C w → Cl P f vs w (fun r w' => r = v ∧ C w')) (k : QL P n ops C K rest ((d, v) :: L)) : QL P n ops C K (⟨some d, .call ⟨.value (.func f), ⟨xs⟩, at_⟩, ty, pos, af, g⟩ :: rest) L := by
  refine ⟨fun a ha => ?_⟩
  unfold wpQuiet
  rw [wantB_spec (o := ⟨some d, .call ⟨.value (.func f), ⟨xs⟩, at_⟩, ty, pos, af, g⟩) hg ha, if_pos rfl]
  refine ⟨v, fun w hw => ?_, k.run _ (ha.put hn v)⟩
  unfold Oper.quietAt
  rw [run_call hf hx ha]
  refine ⟨rfl, Calls.mono (hc w hw).run ?_⟩
  rintro e w' ⟨u, rfl, rfl, hu⟩
  exact ⟨rfl, hu⟩
theorem QL_isCall {dst : Option Tmp} {f : FuncId} {xs : Array Operand} {at_ : Array TypeId} (h : QL P n ops C K (⟨dst, .call ⟨.value (.func f), xs, at_⟩, ty, pos, af, g⟩ :: rest) L) : QL P n ops C K (⟨dst, .call ⟨.value (.func f), xs, at_⟩, ty, pos, af, g⟩ :: rest) L := h
theorem QL_pass {d : Nat} {op : Op} (hg : wantB ops g L = some false) (hn : Nat.blt d n.1 = true) (k : QL P n ops C K rest ((d, undef) :: L)) : QL P n ops C K (⟨some d, op, ty, pos, af, g⟩ :: rest) L := by
  refine ⟨fun a ha => ?_⟩
  unfold wpQuiet
  rw [wantB_spec (o := ⟨some d, op, ty, pos, af, g⟩) hg ha]
  exact k.run _ (ha.put hn undef)
theorem QL_sub (hs : Sub L' L) (h : QL P n ops C K rest L') : QL P n ops C K rest L := ⟨fun a ha => h.run a (ha.sub hs)⟩
theorem QL_case {j : Nat} {b : Bool} (h : look L j = some (.bool b)) (ht : b = true → QL P n ops C K rest ((j, .bool true) :: L)) (hf : b = false → QL P n ops C K rest ((j, .bool false) :: L)) : QL P n ops C K rest L := by
  cases b
  · exact QL_sub (Sub.cons h (Sub.refl _)) (hf rfl)
  · exact QL_sub (Sub.cons h (Sub.refl _)) (ht rfl)
theorem QL_nil (h : ∀ w', C w' → At n Q .normal L w') : QL P n ops C (fun a' => ∀ w', C w' → Q .normal a' w') [] L := ⟨fun a ha w' hw => (h w' hw).run a ha⟩
end

/-! ## Statements that draw their order: all but the last operations only read, and the last ones wait for all before them -/

structure SL (P : Program) (n : Fz) (ops : Array Oper) (w : World) (K : Act → Prop) (rest : List Oper) (L : Fr) : Prop where
  run : ∀ a, Fits n L a → wpStill P ops w K rest a

theorem W_tail {id : Nat} {l : List Oper} (m : Nat) (hT : T.Ok P) (hB : Region.lexTailB .any l.toArray m = true) (hSt : St w0 Sx H w)
    (h : ∀ w1, St w0 Sx H w1 → SL P n l.toArray w1 (fun a' => wpList P l.toArray Q (l.drop m) a' w1) (l.take m) L) : W P n (.region id l.toArray true) Q L w := by
  refine ⟨fun a ha => ?_⟩
  exact wp_region_still_tail m hT.mixed hB ((h _ hSt.drew).run a ha)

section
variable {K : Act → Prop}
theorem SL_ev {d : Nat} {op : Op} {v : Value} (hg : wantB ops g L = some true) (hn : Nat.blt d n.1 = true) (h : Ev P L op ty w v w) (k : SL P n ops w K rest ((d, v) :: L)) : SL P n ops w K (⟨some d, op, ty, pos, af, g⟩ :: rest) L := by
  refine ⟨fun a ha => ?_⟩
  unfold wpStill
  rw [wantB_spec (o := ⟨some d, op, ty, pos, af, g⟩) hg ha, if_pos rfl]
  unfold Oper.still
  rw [h.run n a ha, Oper.stillUpon_value]
  exact k.run _ (ha.put hn v)
theorem SL_pass {d : Nat} {op : Op} (hg : wantB ops g L = some false) (hn : Nat.blt d n.1 = true) (k : SL P n ops w K rest ((d, undef) :: L)) : SL P n ops w K (⟨some d, op, ty, pos, af, g⟩ :: rest) L := by
  refine ⟨fun a ha => ?_⟩
  unfold wpStill
  rw [wantB_spec (o := ⟨some d, op, ty, pos, af, g⟩) hg ha]
  exact k.run _ (ha.put hn undef)
theorem SL_sub (hs : Sub L' L) (h : SL P n ops w K rest L') : SL P n ops w K rest L := ⟨fun a ha => h.run a (ha.sub hs)⟩
theorem SL_case {j : Nat} {b : Bool} (h : look L j = some (.bool b)) (ht : b = true → SL P n ops w K rest ((j, .bool true) :: L)) (hf : b = false → SL P n ops w K rest ((j, .bool false) :: L)) : SL P n ops w K rest L := by
  cases b
  · exact SL_sub (Sub.cons h (Sub.refl _)) (hf rfl)
  · exact SL_sub (Sub.cons h (Sub.refl _)) (ht rfl)
theorem SL_nil {l : List Oper} {m : Nat} (k : WL P n ops Q (l.drop m) L w) : SL P n ops w (fun a' => wpList P ops Q (l.drop m) a' w) [] L := ⟨k.run⟩
end

/-! ## A guard that is not known: both ways -/

theorem WL_guard {dst : Option Tmp} {op : Op} {j d : Nat} {b x : Bool} (hd : (ops[j]?).bind (·.dst) = some d) (hl : look L d = some (.bool x)) (ht : x = true → WL P n ops Q (⟨dst, op, ty, pos, af, some (j, b)⟩ :: rest) ((d, .bool true) :: L) w)
    (hf : x = false → WL P n ops Q (⟨dst, op, ty, pos, af, some (j, b)⟩ :: rest) ((d, .bool false) :: L) w) : WL P n ops Q (⟨dst, op, ty, pos, af, some (j, b)⟩ :: rest) L w := WL_case hl ht hf
theorem WL_guardP {dst : Option Tmp} {op : Op} {j d : Nat} {b : Bool} {p : Prop} {d0 : Decidable p} (hd : (ops[j]?).bind (·.dst) = some d) (hl : look L d = some (.bool (decide p))) (ht : p → WL P n ops Q (⟨dst, op, ty, pos, af, some (j, b)⟩ :: rest) ((d, .bool true) :: L) w)
    (hf : ¬ p → WL P n ops Q (⟨dst, op, ty, pos, af, some (j, b)⟩ :: rest) ((d, .bool false) :: L) w) : WL P n ops Q (⟨dst, op, ty, pos, af, some (j, b)⟩ :: rest) L w := WL_case hl (fun e => ht (of_decide_eq_true e)) (fun e => hf (of_decide_eq_false e))
theorem QL_guard {C : World → Prop} {K : Act → Prop} {dst : Option Tmp} {op : Op} {j d : Nat} {b x : Bool} (hd : (ops[j]?).bind (·.dst) = some d) (hl : look L d = some (.bool x)) (ht : x = true → QL P n ops C K (⟨dst, op, ty, pos, af, some (j, b)⟩ :: rest) ((d, .bool true) :: L))
    (hf : x = false → QL P n ops C K (⟨dst, op, ty, pos, af, some (j, b)⟩ :: rest) ((d, .bool false) :: L)) : QL P n ops C K (⟨dst, op, ty, pos, af, some (j, b)⟩ :: rest) L := QL_case hl ht hf
theorem QL_guardP {C : World → Prop} {K : Act → Prop} {dst : Option Tmp} {op : Op} {j d : Nat} {b : Bool} {p : Prop} {d0 : Decidable p} (hd : (ops[j]?).bind (·.dst) = some d) (hl : look L d = some (.bool (decide p))) (ht : p → QL P n ops C K (⟨dst, op, ty, pos, af, some (j, b)⟩ :: rest) ((d, .bool true) :: L))
    (hf : ¬ p → QL P n ops C K (⟨dst, op, ty, pos, af, some (j, b)⟩ :: rest) ((d, .bool false) :: L)) : QL P n ops C K (⟨dst, op, ty, pos, af, some (j, b)⟩ :: rest) L := QL_case hl (fun e => ht (of_decide_eq_true e)) (fun e => hf (of_decide_eq_false e))

theorem SL_guard {K : Act → Prop} {dst : Option Tmp} {op : Op} {j d : Nat} {b x : Bool} (hd : (ops[j]?).bind (·.dst) = some d) (hl : look L d = some (.bool x)) (ht : x = true → SL P n ops w K (⟨dst, op, ty, pos, af, some (j, b)⟩ :: rest) ((d, .bool true) :: L))
    (hf : x = false → SL P n ops w K (⟨dst, op, ty, pos, af, some (j, b)⟩ :: rest) ((d, .bool false) :: L)) : SL P n ops w K (⟨dst, op, ty, pos, af, some (j, b)⟩ :: rest) L := SL_case hl ht hf
theorem SL_guardP {K : Act → Prop} {dst : Option Tmp} {op : Op} {j d : Nat} {b : Bool} {p : Prop} {d0 : Decidable p} (hd : (ops[j]?).bind (·.dst) = some d) (hl : look L d = some (.bool (decide p))) (ht : p → SL P n ops w K (⟨dst, op, ty, pos, af, some (j, b)⟩ :: rest) ((d, .bool true) :: L))
    (hf : ¬ p → SL P n ops w K (⟨dst, op, ty, pos, af, some (j, b)⟩ :: rest) ((d, .bool false) :: L)) : SL P n ops w K (⟨dst, op, ty, pos, af, some (j, b)⟩ :: rest) L := SL_case hl (fun e => ht (of_decide_eq_true e)) (fun e => hf (of_decide_eq_false e))

/-! ## A label that is jumped to from ahead of it, once -/

theorem W_scope {rest : Code} (l : Nat) (J : Fr → World → Prop) (hf : findLabel c l = some rest)
    (first : ∀ K : Act → World → Prop, (∀ L' w' a, J L' w' → Fits n L' a → K a w') → W P n c (Exit.jump l K Q) L w)
    (pass : ∀ L' w', J L' w' → W P n rest (Exit.jump l (fun _ _ => False) Q) L' w') : W P n (.scope c) Q L w := by
  refine ⟨fun a ha => ?_⟩
  refine wp_scope_jumps l (fun a w => ∃ L', J L' w ∧ Fits n L' a) (fun _ _ => 0) hf ((first _ (fun L' w' a hj hfit => ⟨L', hj, hfit⟩)).run a ha) ?_
  rintro a' w' ⟨L', hj, hfit⟩
  refine wp_mono ((pass L' w' hj).run a' hfit) ?_
  intro e a2 w2 hq
  cases e with
  | goto m => exact hq.2.elim
  | _ => exact hq
theorem At_jump_normal {l : Nat} {K : Act → World → Prop} (h : At n Q .normal L w) : At n (Exit.jump l K Q) .normal L w := ⟨h.run⟩
theorem At_jump_ret {l : Nat} {K : Act → World → Prop} (h : At n Q .ret L w) : At n (Exit.jump l K Q) .ret L w := ⟨h.run⟩
theorem At_jump_exit {l id : Nat} {K : Act → World → Prop} (h : At n Q (.exit id) L w) : At n (Exit.jump l K Q) (.exit id) L w := ⟨h.run⟩
theorem At_jump {l : Nat} {K : Act → World → Prop} {L0 : Fr} {J : Fr → World → Prop} (hK : ∀ L' w' a, J L' w' → Fits n L' a → K a w') (hm : J L0 w) (hs : Sub L0 L) : At n (Exit.jump l K Q) (.goto l) L w :=
  ⟨fun a ha => ⟨rfl, hK L0 w a hm (ha.sub hs)⟩⟩
theorem W_goto {l : Nat} (h : At n Q (.goto l) L w) : W P n (.goto l) Q L w := ⟨fun a ha => wp_goto (h.run a ha)⟩
theorem W_label {l : Nat} (h : At n Q .normal L w) : W P n (.label l) Q L w := ⟨fun a ha => wp_label (h.run a ha)⟩

/-! ## A function's two ends -/

def frOf : Nat → List Value → Fr
  | _, [] => []
  | i, v :: vs => (i, v) :: frOf (i + 1) vs

theorem frOf_look (vs : List Value) : ∀ (k i : Nat) (v : Value), look (frOf k vs) i = some v → k ≤ i ∧ vs[i - k]? = some v := by
  induction vs with
  | nil => intro k i v h; simp [frOf, look] at h
  | cons u vs ih =>
    intro k i v h
    simp only [frOf, look] at h
    cases hb : Nat.beq k i
    · simp only [hb, cond_false] at h
      obtain ⟨h1, h2⟩ := ih (k + 1) i v h
      refine ⟨by omega, ?_⟩
      rw [show i - k = (i - (k + 1)) + 1 by omega]
      simpa using h2
    · have he : k = i := by simpa using hb
      subst he
      simp only [hb, cond_true, Option.some.injEq] at h
      subst h; simp

theorem enter {f : FuncId} {fn : Func} {vs : List Value} {R : Value → World → Prop} {m : Nat} (hf : P.funcs[f]? = some fn) (hb : fn.body = some c) (hn : fn.ntmps = m) (hl : Nat.ble vs.length m = true)
    (h : W P (m, []) c (bodyPost P fn (fun e w' => ∃ v, e = .returned v ∧ R v w')) (frOf 0 vs) w) : Cl P f vs w R := by
  have hl' : vs.length ≤ m := by simpa [Nat.ble_eq] using hl
  refine ⟨calls_of_wp hf hb (h.run _ ⟨?_, rfl, ?_⟩)⟩
  · simp [hn]; omega
  · intro i v hi
    obtain ⟨_, h2⟩ := frOf_look vs 0 i v hi
    have hlt : i < vs.length := by have := (List.getElem?_eq_some_iff.1 h2).1; simpa using this
    simp only [Nat.sub_zero] at h2
    rw [Array.getElem?_append]
    simp [hlt]
    exact (List.getElem?_eq_some_iff.1 h2).2

variable {m9 : Nat}
theorem end_of {fn : Func} {R : Value → World → Prop} {v : Value} (hr : ∀ a, Fits (m9, []) L a → (results fn a.tmps).run P w = .ok v w) (h : R v w) : At (m9, []) (bodyPost P fn (fun e w' => ∃ v, e = .returned v ∧ R v w')) .ret L w :=
  ⟨fun a ha => ⟨ha.defers, v, hr a ha, v, rfl, h⟩⟩
theorem end_of' {fn : Func} {R : Value → World → Prop} {v : Value} (hr : ∀ a, Fits (m9, []) L a → (results fn a.tmps).run P w = .ok v w) (h : R v w) : At (m9, []) (bodyPost P fn (fun e w' => ∃ v, e = .returned v ∧ R v w')) .normal L w :=
  ⟨fun a ha => ⟨ha.defers, v, hr a ha, v, rfl, h⟩⟩

theorem fits_getD {a : Act} (ha : Fits n L a) {i : Nat} {v : Value} (h : look L i = some v) : a.tmps.getD i undef = v := by
  have := ha.val i v h
  simp [Array.getD_eq_getD_getElem?, this]

section
variable {fn : Func} {R : Value → World → Prop} {i j m : Nat} {u v x : Value}
theorem res0 (hr : fn.results = #[]) (a : Act) (_ : Fits n L a) : (results fn a.tmps).run P w = .ok (.tuple #[]) w := results_none hr _ _ _
theorem res1 (hr : fn.results = #[.tmp i]) (hv : look L i = some v) (a : Act) (ha : Fits n L a) : (results fn a.tmps).run P w = .ok v w := by
  rw [results_tmp hr, fits_getD ha hv]
theorem res2 (hr : fn.results = #[.tmp i, .tmp j]) (hv : look L i = some v) (hu : look L j = some u) (a : Act) (ha : Fits n L a) : (results fn a.tmps).run P w = .ok (.tuple ⟨[v, u]⟩) w := by
  rw [results_tmp2 hr, fits_getD ha hv, fits_getD ha hu]
theorem res3 (hr : fn.results = #[.tmp i, .tmp j, .tmp m]) (hv : look L i = some v) (hu : look L j = some u) (hx : look L m = some x) (a : Act) (ha : Fits n L a) : (results fn a.tmps).run P w = .ok (.tuple ⟨[v, u, x]⟩) w := by
  simp [results, hr, Array.getD_eq_getD_getElem?, ha.val _ _ hv, ha.val _ _ hu, ha.val _ _ hx]

theorem resc2 {l vs : List Value} {E k b o : Nat} {fz : Nat × Nat} (hr : fn.results = #[.cell i t, .tmp j]) (hT : T.Ok P) (ht : asc T.agg t = some k) (hp : look L i = some (.pointer (some ⟨b, o, none⟩))) (hu : look L j = some u)
    (hb : w.heap[b]? = some (.cells ⟨l⟩ E fz)) (hvs : (l.drop o).take k = vs) (hl : vs.length = k) (a : Act) (ha : Fits n L a) : (results fn a.tmps).run P w = .ok (.tuple ⟨[.agg ⟨vs⟩, u]⟩) w := by
  have hload := (Ev_loadN (P := P) (L := [(0, .pointer (some ⟨b, o, none⟩))]) (w := w) (ty := 0) (xo := .tmp 0) hT ht rfl hb hvs hl).run (1, []) ⟨#[.pointer (some ⟨b, o, none⟩)], []⟩ ⟨rfl, rfl, fun i v h => by
    simp only [look] at h
    cases hb : Nat.beq 0 i
    · simp [hb] at h
    · have he : 0 = i := by simpa using hb
      subst he; simp at h; subst h; rfl⟩ none "" #[] none
  simp [execOp, Act.eval, Instr.loadAt, Instr.sureAddr] at hload
  rw [results_cell_tmp hr, fits_getD ha hp, fits_getD ha hu]
  simp only [asAddr, Sem.run_pure, Result.andThen_ok]
  cases hx : (loadVar t ⟨b, o, none⟩).run P w with
  | ok v w2 => rw [hx] at hload; simp at hload; obtain ⟨rfl, rfl⟩ := hload; rfl
  | halt h w2 => rw [hx] at hload; simp at hload
theorem resc1 {l vs : List Value} {E k b o : Nat} {fz : Nat × Nat} (hr : fn.results = #[.cell i t]) (hT : T.Ok P) (ht : asc T.agg t = some k) (hp : look L i = some (.pointer (some ⟨b, o, none⟩)))
    (hb : w.heap[b]? = some (.cells ⟨l⟩ E fz)) (hvs : (l.drop o).take k = vs) (hl : vs.length = k) (a : Act) (ha : Fits n L a) : (results fn a.tmps).run P w = .ok (.agg ⟨vs⟩) w := by
  have hload := (Ev_loadN (P := P) (L := [(0, .pointer (some ⟨b, o, none⟩))]) (w := w) (ty := 0) (xo := .tmp 0) hT ht rfl hb hvs hl).run (1, []) ⟨#[.pointer (some ⟨b, o, none⟩)], []⟩ ⟨rfl, rfl, fun i v h => by
    simp only [look] at h
    cases hb : Nat.beq 0 i
    · simp [hb] at h
    · have he : 0 = i := by simpa using hb
      subst he; simp at h; subst h; rfl⟩ none "" #[] none
  simp [execOp, Act.eval, Instr.loadAt, Instr.sureAddr] at hload
  cases hx : (loadVar t ⟨b, o, none⟩).run P w with
  | ok v w2 => rw [hx] at hload; simp at hload; obtain ⟨rfl, rfl⟩ := hload; simp [results, hr, Array.getD_eq_getD_getElem?, ha.val _ _ hp, asAddr, hx]
  | halt h w2 => rw [hx] at hload; simp at hload

theorem ret0 (hr : fn.results = #[]) (h : R (.tuple #[]) w) : At (m9, []) (bodyPost P fn (fun e w' => ∃ v, e = .returned v ∧ R v w')) .ret L w := end_of (res0 hr) h
theorem ret0' (hr : fn.results = #[]) (h : R (.tuple #[]) w) : At (m9, []) (bodyPost P fn (fun e w' => ∃ v, e = .returned v ∧ R v w')) .normal L w := end_of' (res0 hr) h
theorem ret1 (hr : fn.results = #[.tmp i]) (hv : look L i = some v) (h : R v w) : At (m9, []) (bodyPost P fn (fun e w' => ∃ v, e = .returned v ∧ R v w')) .ret L w := end_of (res1 hr hv) h
theorem ret2 (hr : fn.results = #[.tmp i, .tmp j]) (hv : look L i = some v) (hu : look L j = some u) (h : R (.tuple ⟨[v, u]⟩) w) : At (m9, []) (bodyPost P fn (fun e w' => ∃ v, e = .returned v ∧ R v w')) .ret L w := end_of (res2 hr hv hu) h
theorem ret3 (hr : fn.results = #[.tmp i, .tmp j, .tmp m]) (hv : look L i = some v) (hu : look L j = some u) (hx : look L m = some x) (h : R (.tuple ⟨[v, u, x]⟩) w) : At (m9, []) (bodyPost P fn (fun e w' => ∃ v, e = .returned v ∧ R v w')) .ret L w := end_of (res3 hr hv hu hx) h
end
end
end Go.Proofs.YtknfankadlokhaaGreatDoor

namespace Go.Proofs.YtknfankadlokhaaGreatDoor
open Go.RowKit
set_option linter.unusedVariables false
set_option linter.unusedSimpArgs false
set_option linter.unusedSectionVars false

/-- the value is a slice, and its elements' cells are the lists xs, z cells each -/
def SlAt (w : World) (v : Value) (z : Nat) (xs : List (List Value)) : Prop :=
  ∃ a cap, v = .slice a xs.length cap ∧ ∀ (i : Nat) (x : List Value), xs[i]? = some x → ∃ b off l E fz, a = some ⟨b, off, none⟩ ∧ w.heap[b]? = some (.cells ⟨l⟩ E fz) ∧ (l.drop (off + i * z)).take z = x ∧ x.length = z

theorem SlAt.nil (w : World) (z : Nat) : SlAt w (.slice none 0 0) z [] := ⟨none, 0, rfl, fun i x h => by simp at h⟩

theorem cell_add {w : World} {a : Addr} {v0 : Value} (h : w.cell? a = some v0) : ∃ b off l E fz, a = ⟨b, off, none⟩ ∧ w.heap[b]? = some (.cells ⟨l⟩ E fz) ∧ ∀ k, w.cell? (a.add k) = l[off + k]? := by
  obtain ⟨b, off, spot⟩ := a
  unfold World.cell? at h
  dsimp only at h
  split at h
  · rename_i c E fz hb
    cases spot with
    | some s => simp at h
    | none =>
      obtain ⟨l⟩ := c
      refine ⟨b, off, l, E, fz, rfl, hb, fun k => ?_⟩
      have e : (Addr.add ⟨b, off, none⟩ k) = ⟨b, off + k, none⟩ := by
        simp only [Addr.add]; split
        · rename_i h; rw [h]; rfl
        · rfl
      rw [e, cell_of hb]
  · cases h

theorem slAt_of {w : World} {a : Addr} {len cap z : Nat} {xs : List (List Value)} (hz : 0 < z) (hlen : xs.length = len)
    (h : ∀ (i : Nat) (x : List Value), xs[i]? = some x → x.length = z ∧ ∀ (j : Nat) (c : Value), x[j]? = some c → w.cell? (a.add (i * z + j)) = some c) : SlAt w (.slice (some a) len cap) z xs := by
  subst hlen
  refine ⟨some a, cap, rfl, fun i x hi => ?_⟩
  have hlt : i < xs.length := (List.getElem?_eq_some_iff.1 hi).1
  have h0 : xs[0]? = some (xs[0]'(by omega)) := List.getElem?_eq_getElem (by omega)
  obtain ⟨hl0, hc0⟩ := h 0 _ h0
  have hf : (xs[0]'(by omega))[0]? = some ((xs[0]'(by omega))[0]'(by omega)) := List.getElem?_eq_getElem (by omega)
  have hcell := hc0 0 _ hf
  simp only [Nat.zero_mul, Nat.zero_add, Addr.add, if_true] at hcell
  obtain ⟨b, off, l, E, fz, rfl, hb, hk⟩ := cell_add hcell
  obtain ⟨hl, hc⟩ := h i x hi
  refine ⟨b, off, l, E, fz, rfl, hb, ?_, hl⟩
  apply List.ext_getElem?
  intro j
  rw [List.getElem?_take, List.getElem?_drop]
  split
  · rename_i hj
    have hx : x[j]? = some (x[j]'(by omega)) := List.getElem?_eq_getElem (by omega)
    have := hc j _ hx
    rw [hk] at this
    rw [hx, ← this, Nat.add_assoc]
  · rw [List.getElem?_eq_none (by omega)]

theorem SlAt.cell {l x : List Value} {o z j : Nat} (h : (l.drop o).take z = x) {c : Value} (hj : x[j]? = some c) : l[o + j]? = some c := by
  subst h
  rw [List.getElem?_take] at hj
  split at hj
  · rwa [List.getElem?_drop] at hj
  · cases hj

theorem SlAt.map {α : Type} {w : World} {v : Value} {z : Nat} {f : α → List Value} {l : List α} (h : SlAt w v z (l.map f)) : ∃ a cap, v = .slice a l.length cap ∧
    ∀ (i : Nat) (x : α), l[i]? = some x → ∃ b off c E fz, a = some ⟨b, off, none⟩ ∧ w.heap[b]? = some (.cells ⟨c⟩ E fz) ∧ (c.drop (off + i * z)).take z = f x ∧ ∀ (j : Nat) (d : Value), (f x)[j]? = some d → c[off + i * z + j]? = some d := by
  obtain ⟨a, cap, hv, h⟩ := h
  rw [List.length_map] at hv
  refine ⟨a, cap, hv, fun i x hi => ?_⟩
  obtain ⟨b, off, c, E, fz, ha, hb, hc, hz⟩ := h i (f x) (by rw [List.getElem?_map, hi]; rfl)
  exact ⟨b, off, c, E, fz, ha, hb, hc, fun j d hj => SlAt.cell hc hj⟩

theorem SlAt.later {w0 w : World} {v : Value} {z : Nat} {xs : List (List Value)} {Sx : Nat → Prop} {H : List (Nat × Obj)} (h : SlAt w0 v z xs) (k : St w0 Sx H w) (hS : ∀ b, ¬ Sx b) : SlAt w v z xs := by
  obtain ⟨a, cap, hv, h⟩ := h
  refine ⟨a, cap, hv, fun i x hi => ?_⟩
  obtain ⟨b, off, l, E, fz, ha, hb, hc⟩ := h i x hi
  exact ⟨b, off, l, E, fz, ha, k.base hb (hS b), hc⟩

theorem At_loop {n : Fz} {Q : Exit → Act → World → Prop} {K : Act → World → Prop} {R : Nat → Fr → World → Prop} {k k' : Nat} {L0 L : Fr} {w : World} (hK : ∀ k' L' w' a, k' < k → R k' L' w' → Fits n L' a → K a w')
    (hlt : k' < k) (hm : R k' L0 w) (hs : Sub L0 L) : At n (Exit.then K Q) .normal L w := ⟨fun a ha => hK k' L0 w a hlt hm (ha.sub hs)⟩

theorem list_of {α : Type} {p : Nat → α → Prop} : ∀ (n : Nat), (∀ i, i < n → ∃ s, p i s) → ∃ l : List α, l.length = n ∧ ∀ (i : Nat) (s : α), l[i]? = some s → p i s
  | 0, _ => ⟨[], rfl, fun i s h => by simp at h⟩
  | n + 1, h => by
    obtain ⟨l, hl, hp⟩ := list_of n (fun i hi => h i (by omega))
    obtain ⟨s, hs⟩ := h n (by omega)
    refine ⟨l ++ [s], by simp [hl], fun i t hi => ?_⟩
    rw [List.getElem?_append] at hi
    split at hi
    · exact hp i t hi
    · rename_i hlt
      have : i - l.length = 0 := by
        rcases Nat.eq_zero_or_pos (i - l.length) with h | h
        · exact h
        · rw [List.getElem?_eq_none (by simp; omega)] at hi; cases hi
      rw [this] at hi; simp at hi; subst hi
      have : i = n := by omega
      exact this ▸ hs
end Go.Proofs.YtknfankadlokhaaGreatDoor

namespace Go.Proofs.YtknfankadlokhaaGreatDoor
open Go.RowKit Go.ChangeShapes Go.WideShapes Go.Deep
set_option linter.unusedVariables false
set_option linter.unusedSimpArgs false
set_option linter.unusedSectionVars false

theorem wf_range {k : IntKind} {n : Int} (h : (Lit.int k n).wf = true) : k.min ≤ n ∧ n ≤ k.max := by
  simpa [Lit.wf] using h
theorem range_wf {k : IntKind} {n : Int} (h : k.min ≤ n ∧ n ≤ k.max) : (Lit.int k n).wf = true := by
  simpa [Lit.wf] using h
theorem rg_i64 {n : Int} (h : IntKind.i64.min ≤ n ∧ n ≤ IntKind.i64.max) : -9223372036854775808 ≤ n ∧ n ≤ 9223372036854775807 := by
  simpa [IntKind.min, IntKind.max, IntKind.signed, IntKind.bits] using h
theorem rg_u16 {n : Int} (h : IntKind.u16.min ≤ n ∧ n ≤ IntKind.u16.max) : 0 ≤ n ∧ n ≤ 65535 := by
  simpa [IntKind.min, IntKind.max, IntKind.signed, IntKind.bits] using h
theorem rg_i16 {n : Int} (h : IntKind.i16.min ≤ n ∧ n ≤ IntKind.i16.max) : -32768 ≤ n ∧ n ≤ 32767 := by
  simpa [IntKind.min, IntKind.max, IntKind.signed, IntKind.bits] using h
theorem rg_u8 {n : Int} (h : IntKind.u8.min ≤ n ∧ n ≤ IntKind.u8.max) : 0 ≤ n ∧ n ≤ 255 := by
  simpa [IntKind.min, IntKind.max, IntKind.signed, IntKind.bits] using h
theorem rg_i8 {n : Int} (h : IntKind.i8.min ≤ n ∧ n ≤ IntKind.i8.max) : -128 ≤ n ∧ n ≤ 127 := by
  simpa [IntKind.min, IntKind.max, IntKind.signed, IntKind.bits] using h
theorem rg_i32 {n : Int} (h : IntKind.i32.min ≤ n ∧ n ≤ IntKind.i32.max) : -2147483648 ≤ n ∧ n ≤ 2147483647 := by
  simpa [IntKind.min, IntKind.max, IntKind.signed, IntKind.bits] using h
theorem rg_u32 {n : Int} (h : IntKind.u32.min ≤ n ∧ n ≤ IntKind.u32.max) : 0 ≤ n ∧ n ≤ 4294967295 := by
  simpa [IntKind.min, IntKind.max, IntKind.signed, IntKind.bits] using h
theorem rg_u64 {n : Int} (h : IntKind.u64.min ≤ n ∧ n ≤ IntKind.u64.max) : 0 ≤ n ∧ n ≤ 18446744073709551615 := by
  simpa [IntKind.min, IntKind.max, IntKind.signed, IntKind.bits] using h

/-- whatever is read at the type, of k cells, holds something of α as told by c -/
def Rd {α : Type} (P : Program) (t : TypeId) (c : World → List Value → α → Prop) : Prop :=
  ∀ (H : Type) (enc : TypeId × Value → H) (w : World) (base : Nat) (spare : Nat → Bool) (held : Bool) (fuel : Nat) (cs : List Value) (x : DataW H × List MemPlace),
    DataW.trod enc P w base spare held fuel t cs = some x → ∃ a : α, c w cs a

theorem rd_int {P : Program} {t : TypeId} {k : IntKind} (ht : P.underlying t = some (.int k)) : Rd P t (fun _ cs (n : Int) => cs = [.int k n] ∧ k.min ≤ n ∧ n ≤ k.max) := by
  intro H enc w base spare held fuel cs x h
  obtain ⟨n, h1, _, h2⟩ := DataW.trod_int ht h
  exact ⟨n, h1, wf_range h2⟩
theorem rd_string {P : Program} {t : TypeId} (ht : P.underlying t = some .string) : Rd P t (fun _ cs (l : List UInt8) => cs = [S l] ∧ l.length ≤ maxLen) := by
  intro H enc w base spare held fuel cs x h
  obtain ⟨⟨⟨l⟩⟩, h1, _, h2⟩ := DataW.trod_string ht h
  exact ⟨l, h1, h2⟩
theorem rd_bool {P : Program} {t : TypeId} (ht : P.underlying t = some .bool) : Rd P t (fun _ cs (b : Bool) => cs = [B b]) := by
  intro H enc w base spare held fuel cs x h
  obtain ⟨b, h1, _⟩ := DataW.trod_bool ht h
  exact ⟨b, h1⟩
/-- the fields of a struct, one after the other -/
theorem rd_fields {P : Program} {t : TypeId} {fs : Array Field} (ht : P.underlying t = some (.struct fs)) {H : Type} {enc : TypeId × Value → H} {w : World} {base : Nat} {spare : Nat → Bool} {held : Bool} {fuel : Nat} {cs : List Value} {x : DataW H × List MemPlace}
    (h : DataW.trod enc P w base spare held fuel t cs = some x) : cs.length = P.cellsOf t ∧ ∀ (i : Nat) (f : Field), fs[i]? = some f → ∃ (n : Nat) (y : DataW H × List MemPlace), DataW.trod enc P w base spare held n f.type ((cs.drop f.offset).take (P.cellsOf f.type)) = some y := by
  obtain ⟨xs, n, _, _, hl, hxl, hg⟩ := DataW.trod_struct ht h
  refine ⟨hl, fun i f hf => ?_⟩
  have hi : i < xs.length := by rw [hxl]; exact (Array.getElem?_eq_some_iff.1 hf).1
  exact ⟨n, xs[i], by rw [hg i f hf]; exact List.getElem?_eq_getElem hi⟩

theorem rd_field1 {α : Type} {P : Program} {t : TypeId} {fs : Array Field} {c : World → List Value → α → Prop} (ht : P.underlying t = some (.struct fs)) (hone : oneCellFields P fs = true) {H : Type} {enc : TypeId × Value → H} {w : World} {base : Nat} {spare : Nat → Bool} {held : Bool} {fuel : Nat} {cs : List Value} {x : DataW H × List MemPlace}
    (h : DataW.trod enc P w base spare held fuel t cs = some x) (i : Nat) {f : Field} (hf : fs[i]? = some f) (hc : Rd P f.type c) {v : Value} (hv : cs[i]? = some v) : ∃ a : α, c w [v] a := by
  obtain ⟨_, hall⟩ := rd_fields ht h
  obtain ⟨n, y, hy⟩ := hall i f hf
  obtain ⟨ho, hk⟩ := hone_of hone i f hf
  have e : (cs.drop f.offset).take (P.cellsOf f.type) = [v] := by
    rw [ho, hk]
    apply List.ext_getElem?
    intro j
    rw [List.getElem?_take]
    split
    · rename_i hj
      have : j = 0 := by omega
      subst this
      rw [List.getElem?_drop]; simpa using hv
    · rw [List.getElem?_eq_none]; simp; omega
  rw [e] at hy
  exact hc _ _ _ _ _ _ _ _ _ hy

/-- a slice: its elements' cells, and what they hold -/
def Sls {α : Type} (z : Nat) (c : World → List Value → α → Prop) (w : World) (v : Value) (l : List α) : Prop :=
  ∃ xs, SlAt w v z xs ∧ xs.length = l.length ∧ ∀ (i : Nat) (x : List Value) (a : α), xs[i]? = some x → l[i]? = some a → c w x a

theorem rd_slice {α : Type} {P : Program} {t e : TypeId} {c : World → List Value → α → Prop} {z : Nat} (ht : P.underlying t = some (.slice e)) (hz : P.cellsOf e = z) (h0 : 0 < z) (hc : Rd P e c) :
    Rd P t (fun w cs (l : List α) => ∃ v, cs = [v] ∧ Sls z c w v l ∧ l.length ≤ maxLen) := by
  intro H enc w base spare held fuel cs x h
  rcases open_slice ht h with ⟨hcs, _⟩ | ⟨a, len, cap, m, n, D, Pl, hcs, _, hl, hm, hmm, _, hi⟩
  · exact ⟨[], _, hcs, ⟨[], SlAt.nil w z, rfl, fun i x a hx => by simp at hx⟩, by simp⟩
  · rw [hz] at hi
    have hlm : len ≤ m := by rw [hmm]; split <;> omega
    obtain ⟨ps, hpl, hps⟩ := list_of (p := fun i (q : List Value × α) => q.1.length = z ∧ (∀ j d, q.1[j]? = some d → w.cell? (a.add (i * z + j)) = some d) ∧ c w q.1 q.2) len (fun i hlt => by
      obtain ⟨cs', hc1, hc2⟩ := hi i (by omega)
      obtain ⟨_, hcl, hat⟩ := World.cells?_some hc1
      obtain ⟨b, hb⟩ := hc _ _ _ _ _ _ _ _ _ hc2
      refine ⟨(cs', b), hcl, fun j d hj => ?_, hb⟩
      have hjl : j < cs'.length := (List.getElem?_eq_some_iff.1 hj).1
      rw [← Go.Deep.add_add, hat j (by omega)]; exact hj)
    refine ⟨ps.map (·.2), _, hcs, ⟨ps.map (·.1), slAt_of h0 (by simp [hpl]) ?_, by simp, ?_⟩, by simp; omega⟩
    · intro i x hx
      rw [List.getElem?_map] at hx
      cases hq : ps[i]? with
      | none => simp [hq] at hx
      | some q => simp [hq] at hx; subst hx; exact ⟨(hps i q hq).1, (hps i q hq).2.1⟩
    · intro i x b hx hb
      rw [List.getElem?_map] at hx hb
      cases hq : ps[i]? with
      | none => simp [hq] at hx
      | some q => simp [hq] at hx hb; subst hx; subst hb; exact (hps i q hq).2.2

/-- by value -/
theorem Rd.of_trod {α : Type} {P : Program} {t : TypeId} {c : World → List Value → α → Prop} (h : Rd P t c) {H : Type} {enc : TypeId × Value → H} {w : World} {base : Nat} {spare : Nat → Bool} {held : Bool} {v : Value} {d : DataW H} {p : List MemPlace}
    (ht : DataW.Trod enc P w base spare held t v d p) : ∃ a : α, c w (zcells v) a := by
  obtain ⟨fuel, hf⟩ := ht
  rw [zcells_cells] at hf
  exact h _ _ _ _ _ _ _ _ _ hf
/-- a slice of structs told by their cells -/
theorem Sls.at {α : Type} {z : Nat} {c : World → List Value → α → Prop} {f : α → List Value} {w : World} {v : Value} {l : List α} (h : Sls z c w v l) (hf : ∀ x a, c w x a → x = f a) : SlAt w v z (l.map f) := by
  obtain ⟨xs, h1, h2, h3⟩ := h
  have e : xs = l.map f := by
    apply List.ext_getElem?
    intro i
    rw [List.getElem?_map]
    cases hx : xs[i]? with
    | none => rw [List.getElem?_eq_none_iff] at hx; rw [List.getElem?_eq_none (by omega)]; rfl
    | some x =>
      have hi := (List.getElem?_eq_some_iff.1 hx).1
      rw [List.getElem?_eq_getElem (by omega : i < l.length)]
      simp only [Option.map_some]
      rw [hf x _ (h3 i x _ hx (List.getElem?_eq_getElem (by omega)))]
  rw [← e]; exact h1
theorem Sls.each {α : Type} {z : Nat} {c : World → List Value → α → Prop} {w : World} {v : Value} {l : List α} (h : Sls z c w v l) {i : Nat} {a : α} (hi : l[i]? = some a) : ∃ x, c w x a := by
  obtain ⟨xs, _, h2, h3⟩ := h
  have hl := (List.getElem?_eq_some_iff.1 hi).1
  exact ⟨_, h3 i _ a (List.getElem?_eq_getElem (by omega)) hi⟩
end Go.Proofs.YtknfankadlokhaaGreatDoor
