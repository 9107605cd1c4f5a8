/- What a client's goals become, and what is told of them. No conditions. -/
import Derived.Test.YtbpebpkepflliaaClm
namespace Go.Proofs.Ytbpebpkepflliaa
open Go.RowKit
set_option linter.unusedVariables false
set_option linter.unusedSimpArgs false
set_option maxHeartbeats 1000000

def Gl.recv (g : Gl) (kind told : Int) (text : List UInt8) : Int × Gl :=
  if kind = 4 then g.reject
  else if kind = 6 ∨ kind = 7 ∨ kind = 8 then g.end_ (kind - 6 + 4) text
  else if g.st = 7 then (24, g)
  else if kind = 3 then (0, if g.st = 0 then { g with st := 1 } else g)
  else (0, if kind = 5 ∧ (if g.st = 0 ∨ g.st = 1 then 2 else g.st) < 4 ∧ g.fb < told then { g with st := if g.st = 0 ∨ g.st = 1 then 2 else g.st, fb := told } else { g with st := if g.st = 0 ∨ g.st = 1 then 2 else g.st })
def Gl.cancel (g : Gl) (at_ : Int) : Int × Gl := if g.st < 4 then (0, if g.canc then g else { g with canc := true, ncanc := at_ }) else (10, g)

/-- the numbers of the goals that have not ended -/
def openL : Int → List Gl → List Int
  | _, [] => []
  | k, g :: gs => if g.st < 4 then k :: openL (k + 1) gs else openL (k + 1) gs
theorem openL_snoc (g : Gl) : ∀ (gs : List Gl) (k : Int), openL k (gs ++ [g]) = openL k gs ++ if g.st < 4 then [k + gs.length] else []
  | [], k => by simp [openL]
  | x :: gs, k => by
    have := openL_snoc g gs (k + 1)
    simp only [List.cons_append, openL, this, List.length_cons]
    have e : k + 1 + (gs.length : Int) = k + ((gs.length + 1 : Nat) : Int) := by omega
    rw [e]
    split <;> simp
theorem openL_len : ∀ (gs : List Gl) (k : Int), (openL k gs).length ≤ gs.length
  | [], k => by simp [openL]
  | g :: gs, k => by
    have := openL_len gs (k + 1)
    simp only [openL, List.length_cons]
    split <;> simp <;> omega
theorem take_succ_of {α : Type} {l : List α} {i : Nat} {x : α} (h : l[i]? = some x) : l.take (i + 1) = l.take i ++ [x] := by
  rw [List.take_add_one, h]; rfl

def goal0 (text : List UInt8) (at_ : Int) : Gl := ⟨text, [], 0, 0, at_, false, 0⟩
/-- what Send returns: the goal's number (0: none), the error -/
def sendE (at_ : Int) (text : List UInt8) (gs : List Gl) : Int :=
  if ¬ (0 ≤ at_ ∧ at_ ≤ 1099511627776) then 17 else if 4000 < text.length then 3 else if 64 ≤ (openL 1 gs).length then 15 else 0
def sendG (at_ : Int) (text : List UInt8) (gs : List Gl) : List Gl := if sendE at_ text gs = 0 then gs ++ [goal0 text at_] else gs
def sendV (num at_ : Int) (text : List UInt8) (gs : List Gl) : Value := .tuple ⟨[.agg ⟨if sendE at_ text gs = 0 then [I num, I ((gs.length : Int) + 1)] else [I 0, I 0]⟩, I (sendE at_ text gs)]⟩

def msg (k num n : Int) (t : List UInt8) : List Value := [I k, I num, I n, I 0, S t]
def Gl.pm (g : Gl) (num at_ n : Int) : List Value := if g.st < 4 then (if g.next ≤ at_ then msg 1 num n g.req else []) ++ (if g.canc = true ∧ g.ncanc ≤ at_ then msg 2 num n [] else []) else []
def Gl.pc (g : Gl) (at_ : Int) : Nat := if g.st < 4 then (if g.next ≤ at_ then 1 else 0) + (if g.canc = true ∧ g.ncanc ≤ at_ then 1 else 0) else 0
def Gl.pg (g : Gl) (retry at_ : Int) : Gl := if g.st < 4 then ⟨g.req, g.res, g.st, g.fb, if g.next ≤ at_ then at_ + retry else g.next, g.canc, if g.canc = true ∧ g.ncanc ≤ at_ then at_ + retry else g.ncanc⟩ else g
/-- the messages' cells, and how many messages there are -/
def pollM (num at_ : Int) : Int → List Gl → List Value
  | _, [] => []
  | k, g :: gs => g.pm num at_ k ++ pollM num at_ (k + 1) gs
def pollC (at_ : Int) : List Gl → Nat
  | [] => 0
  | g :: gs => g.pc at_ + pollC at_ gs
def pollA (retry at_ : Int) (p : Nat) (gs : List Gl) : List Gl := (gs.take p).map (·.pg retry at_) ++ gs.drop p
theorem pollM_snoc (num at_ : Int) (g : Gl) : ∀ (gs : List Gl) (k : Int), pollM num at_ k (gs ++ [g]) = pollM num at_ k gs ++ g.pm num at_ (k + gs.length)
  | [], k => by simp [pollM]
  | x :: gs, k => by
    have := pollM_snoc num at_ g gs (k + 1)
    simp only [List.cons_append, pollM, this, List.length_cons, List.append_assoc]
    rw [show k + 1 + (gs.length : Int) = k + ((gs.length + 1 : Nat) : Int) by omega]
theorem pollC_snoc (at_ : Int) (g : Gl) : ∀ (gs : List Gl), pollC at_ (gs ++ [g]) = pollC at_ gs + g.pc at_
  | [] => by simp [pollC]
  | x :: gs => by simp only [List.cons_append, pollC, pollC_snoc at_ g gs]; omega
theorem pc_le (g : Gl) (at_ : Int) : g.pc at_ ≤ 2 := by unfold Gl.pc; split <;> (try split) <;> (try split) <;> omega
theorem pollC_le (at_ : Int) : ∀ (gs : List Gl), pollC at_ gs ≤ 2 * gs.length
  | [] => by simp [pollC]
  | g :: gs => by have := pollC_le at_ gs; have := pc_le g at_; simp only [pollC, List.length_cons]; omega
theorem pollA_len (retry at_ : Int) (p : Nat) (gs : List Gl) : (pollA retry at_ p gs).length = gs.length := by
  simp only [pollA, List.length_append, List.length_map, List.length_take, List.length_drop]; omega
theorem pollA_at {retry at_ : Int} {p i : Nat} {gs : List Gl} (h : p ≤ i) : (pollA retry at_ p gs)[i]? = gs[i]? := by
  rcases Nat.lt_or_ge i gs.length with hi | hi
  · rw [pollA, List.getElem?_append_right (by simp; omega), List.getElem?_drop]
    congr 1
    simp only [List.length_map, List.length_take]; omega
  · rw [List.getElem?_eq_none (by rw [pollA_len]; exact hi), List.getElem?_eq_none hi]
theorem pollA_succ {retry at_ : Int} {i : Nat} {gs : List Gl} {g : Gl} (h : gs[i]? = some g) : pollA retry at_ (i + 1) gs = (pollA retry at_ i gs).set i (g.pg retry at_) := by
  have hi := (List.getElem?_eq_some_iff.1 h).1
  have e : gs.drop i = g :: gs.drop (i + 1) := by rw [List.drop_eq_getElem_cons hi, (List.getElem?_eq_some_iff.1 h).2]
  rw [pollA, pollA, take_succ_of h, List.set_append_right _ _ (by simp; omega), e]
  have : i - (List.map (fun x => x.pg retry at_) (List.take i gs)).length = 0 := by simp; omega
  rw [this]
  simp
theorem pollA_same {retry at_ : Int} {i : Nat} {gs : List Gl} {g : Gl} (h : gs[i]? = some g) (he : ¬ g.st < 4) : pollA retry at_ (i + 1) gs = pollA retry at_ i gs := by
  rw [pollA_succ h, show g.pg retry at_ = g by simp [Gl.pg, he]]
  have h2 := pollA_at (retry := retry) (at_ := at_) (Nat.le_refl i) (gs := gs)
  rw [h] at h2
  apply List.ext_getElem?
  intro j
  rw [List.getElem?_set]
  split
  · rename_i e; subst e
    split
    · exact h2.symm
    · rename_i hj; exact absurd (List.getElem?_eq_some_iff.1 h2).1 hj
  · rfl
theorem pollA_skip {num retry at_ : Int} : ∀ (a : List Gl) {p : Nat} {gs rest : List Gl}, gs.drop p = a ++ rest → (∀ x ∈ a, ¬ x.st < 4) → pollA retry at_ (p + a.length) gs = pollA retry at_ p gs ∧ pollM num at_ 1 (gs.take (p + a.length)) = pollM num at_ 1 (gs.take p) ∧ pollC at_ (gs.take (p + a.length)) = pollC at_ (gs.take p)
  | [], p, gs, rest, _, _ => ⟨rfl, rfl, rfl⟩
  | x :: a, p, gs, rest, h, he => by
    have hx : gs[p]? = some x := by
      have := congrArg (·[0]?) h
      simpa [List.getElem?_drop] using this
    have hd : gs.drop (p + 1) = a ++ rest := by
      have := congrArg (List.drop 1) h
      simpa [List.drop_drop, Nat.add_comm] using this
    obtain ⟨h1, h2, h3⟩ := pollA_skip (num := num) (retry := retry) (at_ := at_) a hd (fun y hy => he y (List.mem_cons_of_mem _ hy))
    have hxe := he x List.mem_cons_self
    rw [List.length_cons, show p + (a.length + 1) = p + 1 + a.length by omega, h1, h2, h3, pollA_same hx hxe, take_succ_of hx, pollM_snoc, pollC_snoc]
    simp [Gl.pm, Gl.pc, hxe]
theorem open_split {n : Int} {rest : List Int} : ∀ (l : List Gl) (k : Int), openL k l = n :: rest → ∃ a g b, l = a ++ g :: b ∧ (∀ x ∈ a, ¬ x.st < 4) ∧ g.st < 4 ∧ n = k + a.length ∧ openL (n + 1) b = rest
  | [], k, h => by simp [openL] at h
  | g :: l, k, h => by
    simp only [openL] at h
    split at h
    · rename_i hg
      injection h with h1 h2
      subst h1
      exact ⟨[], g, l, rfl, by simp, hg, by simp, h2⟩
    · rename_i hg
      obtain ⟨a, g', b, rfl, ha, hg', hn, hr⟩ := open_split l (k + 1) h
      refine ⟨g :: a, g', b, rfl, ?_, hg', by simp only [List.length_cons]; omega, hr⟩
      intro x hx
      rcases List.mem_cons.1 hx with rfl | hx
      · exact hg
      · exact ha x hx
theorem open_none : ∀ (l : List Gl) (k : Int), openL k l = [] → ∀ x ∈ l, ¬ x.st < 4
  | [], k, h => by simp
  | g :: l, k, h => by
    simp only [openL] at h
    split at h
    · cases h
    · rename_i hg
      intro x hx
      rcases List.mem_cons.1 hx with rfl | hx
      · exact hg
      · exact open_none l _ h x hx

theorem perm4 {x : Nat × Obj} {A R HO H1 : List (Nat × Obj)} (h : List.Perm A (R ++ [x])) : List.Perm ((R ++ HO) ++ (x :: H1)) (A ++ HO ++ H1) := by
  refine List.Perm.trans ?_ ((h.append_right HO).append_right H1).symm
  rw [List.append_assoc, List.append_assoc, List.append_assoc]
  refine List.Perm.append_left R ?_
  exact List.perm_middle
theorem set_self {α : Type} {l : List α} {i : Nat} {x : α} (h : l[i]? = some x) : l.set i x = l := by
  apply List.ext_getElem?
  intro j
  rw [List.getElem?_set]
  split
  · rename_i e; subst e
    split
    · exact h.symm
    · rename_i hj; exact absurd (List.getElem?_eq_some_iff.1 h).1 hj
  · rfl

def recvF (num : Int) (gs : List Gl) (kind client number told : Int) (text : List UInt8) : Int × List Gl :=
  if kind < 3 ∨ 9 < kind then (4, gs) else if client ≠ num then (6, gs) else match gAt gs number with
    | some g => ((g.recv kind told text).1, gs.set (number - 1).toNat (g.recv kind told text).2)
    | none => (6, gs)
def cancF (gs : List Gl) (number at_ : Int) : Int × List Gl := match gAt gs number with
  | some g => if 0 ≤ at_ ∧ at_ ≤ 1099511627776 then ((g.cancel at_).1, gs.set (number - 1).toNat (g.cancel at_).2) else (17, gs)
  | none => (6, gs)

end Go.Proofs.Ytbpebpkepflliaa
