/- Launch descriptions as plain data: names, texts, conditions, entries; what is wrong with a description, and the order of its nodes. No conditions. -/
import Derived.Test.YtofnepeokihhnaaEng
namespace Go.Proofs.Ytofnepeokihhnaa
open Go.RowKit
set_option linter.unusedVariables false
set_option linter.unusedSimpArgs false

abbrev Tx := List UInt8
abbrev Sg := Tx × Tx

/-! ## Names and texts -/

def letF (c : UInt8) : Bool := decide (97 ≤ c.toNat ∧ c.toNat ≤ 122 ∨ 65 ≤ c.toNat ∧ c.toNat ≤ 90)
def digF (c : UInt8) : Bool := decide (c.toNat = 95 ∨ 48 ≤ c.toNat ∧ c.toNat ≤ 57)
def chF (c : UInt8) (i : Nat) : Bool := letF c || (decide (0 < i) && digF c)
def nameF (s : Tx) : Bool := decide (1 ≤ s.length ∧ s.length ≤ 16) && s.zipIdx.all (fun x => chF x.1 x.2)
def txF (c : UInt8) : Bool := decide (32 ≤ c.toNat ∧ c.toNat ≤ 126)
def plainF (s : Tx) : Bool := decide (s.length ≤ 200) && s.all txF

theorem zip_all {s : Tx} {p : UInt8 × Nat → Bool} : s.zipIdx.all p = true ↔ ∀ (i : Nat) (c : UInt8), s[i]? = some c → p (c, i) = true := by
  rw [List.all_eq_true]
  constructor
  · intro h i c hc
    exact h (c, i) (List.mk_mem_zipIdx_iff_getElem?.2 hc)
  · rintro h ⟨c, i⟩ hm
    exact h i c (List.mk_mem_zipIdx_iff_getElem?.1 hm)
theorem nameF_yes {s : Tx} (h1 : 1 ≤ s.length) (h2 : s.length ≤ 16) (h : ∀ (i : Nat) (c : UInt8), i < s.length → s[i]? = some c → chF c i = true) : nameF s = true := by
  unfold nameF
  rw [decide_eq_true ⟨h1, h2⟩, Bool.true_and, zip_all]
  exact fun i c hc => h i c (List.getElem?_eq_some_iff.1 hc).1 hc
theorem nameF_no {s : Tx} {i : Nat} {c : UInt8} (hc : s[i]? = some c) (h : chF c i = false) : nameF s = false := by
  cases hn : nameF s
  · rfl
  · unfold nameF at hn
    rw [Bool.and_eq_true, zip_all] at hn
    have := hn.2 i c hc
    rw [h] at this; cases this
theorem nameF_len {s : Tx} (h : ¬ (1 ≤ s.length ∧ s.length ≤ 16)) : nameF s = false := by
  unfold nameF; rw [decide_eq_false h, Bool.false_and]
theorem nameF_size {s : Tx} (h : nameF s = true) : 1 ≤ s.length ∧ s.length ≤ 16 := by
  unfold nameF at h
  rw [Bool.and_eq_true] at h
  exact of_decide_eq_true h.1
theorem all_at {α : Type} {l : List α} {p : α → Bool} (h : ∀ (i : Nat) (c : α), i < l.length → l[i]? = some c → p c = true) : l.all p = true := by
  rw [List.all_eq_true]
  intro x hx
  obtain ⟨i, hi⟩ := List.getElem?_of_mem hx
  exact h i x (List.getElem?_eq_some_iff.1 hi).1 hi
theorem all_no {α : Type} {l : List α} {p : α → Bool} {i : Nat} {c : α} (hi : l[i]? = some c) (h : p c = false) : l.all p = false := by
  cases hn : l.all p
  · rfl
  · rw [List.all_eq_true] at hn
    have := hn c (List.mem_of_getElem? hi)
    rw [h] at this; cases this
theorem plainF_yes {s : Tx} (h2 : s.length ≤ 200) (h : ∀ (i : Nat) (c : UInt8), i < s.length → s[i]? = some c → txF c = true) : plainF s = true := by
  unfold plainF; rw [decide_eq_true h2, Bool.true_and]; exact all_at h
theorem plainF_no {s : Tx} {i : Nat} {c : UInt8} (hc : s[i]? = some c) (h : txF c = false) : plainF s = false := by
  unfold plainF; rw [all_no hc h, Bool.and_false]
theorem plainF_len {s : Tx} (h : ¬ s.length ≤ 200) : plainF s = false := by
  unfold plainF; rw [decide_eq_false h, Bool.false_and]

/-! ## The first place at which something holds -/

def idxP {α : Type} (p : α → Bool) (l : List α) : Int := match l.findIdx? p with | some i => i | none => -1
theorem idxP_hit {α : Type} {p : α → Bool} {l : List α} {i : Nat} {x : α} (hx : l[i]? = some x) (hp : p x = true) (hno : ∀ (j : Nat) (y : α), j < i → l[j]? = some y → p y = false) : idxP p l = i := by
  have hi := (List.getElem?_eq_some_iff.1 hx).1
  have : l.findIdx? p = some i := by
    rw [List.findIdx?_eq_some_iff_getElem]
    refine ⟨hi, ?_, fun j hj => ?_⟩
    · rw [List.getElem?_eq_getElem hi] at hx; injection hx with hx; rw [hx]; exact hp
    · have := hno j _ hj (List.getElem?_eq_getElem (by omega))
      rw [this]; simp
  unfold idxP; rw [this]
theorem idxP_none {α : Type} {p : α → Bool} {l : List α} {n : Nat} (hn : l.length ≤ n) (hno : ∀ (j : Nat) (y : α), j < n → l[j]? = some y → p y = false) : idxP p l = -1 := by
  have : l.findIdx? p = none := by
    rw [List.findIdx?_eq_none_iff]
    intro x hx
    obtain ⟨j, hj⟩ := List.getElem?_of_mem hx
    exact hno j x (by have := (List.getElem?_eq_some_iff.1 hj).1; omega) hj
  unfold idxP; rw [this]
theorem idxP_spec {α : Type} (p : α → Bool) (l : List α) : (idxP p l = -1 ∧ ∀ (j : Nat) (y : α), l[j]? = some y → p y = false) ∨ ∃ (i : Nat) (x : α), idxP p l = i ∧ l[i]? = some x ∧ p x = true ∧ ∀ (j : Nat) (y : α), j < i → l[j]? = some y → p y = false := by
  cases h : l.findIdx? p with
  | none =>
    left
    refine ⟨by unfold idxP; rw [h], fun j y hj => ?_⟩
    rw [List.findIdx?_eq_none_iff] at h
    exact h y (List.mem_of_getElem? hj)
  | some i =>
    right
    obtain ⟨hi, hp, hno⟩ := List.findIdx?_eq_some_iff_getElem.1 h
    refine ⟨i, l[i], by unfold idxP; rw [h], List.getElem?_eq_getElem hi, hp, fun j y hj hy => ?_⟩
    have hl := (List.getElem?_eq_some_iff.1 hy)
    have := hno j hj
    rw [← hl.2]; simpa using this
theorem idxP_neg {α : Type} (p : α → Bool) (l : List α) : decide (idxP p l < 0) = !l.any p := by
  rcases idxP_spec p l with ⟨h, hno⟩ | ⟨i, x, h, hx, hp, _⟩
  · rw [h]
    have : l.any p = false := by
      rw [List.any_eq_false]; intro x hx
      obtain ⟨j, hj⟩ := List.getElem?_of_mem hx
      rw [hno j x hj]; simp
    rw [this]; rfl
  · rw [h, show l.any p = true from List.any_eq_true.2 ⟨x, List.mem_of_getElem? hx, hp⟩]
    exact decide_eq_false (by omega)
theorem idxP_pos {α : Type} (p : α → Bool) (l : List α) : decide (0 ≤ idxP p l) = l.any p := by
  have h := idxP_neg p l
  by_cases h0 : idxP p l < 0
  · rw [decide_eq_true h0] at h
    rw [decide_eq_false (by omega)]
    cases h2 : l.any p
    · rfl
    · rw [h2] at h; cases h
  · rw [decide_eq_false h0] at h
    rw [decide_eq_true (by omega)]
    cases h2 : l.any p
    · rw [h2] at h; cases h
    · rfl
theorem idxP_le {α : Type} (p : α → Bool) (l : List α) : -1 ≤ idxP p l ∧ idxP p l < max 1 l.length := by
  rcases idxP_spec p l with ⟨h, hno⟩ | ⟨i, x, h, hx, hp, _⟩
  · omega
  · have := (List.getElem?_eq_some_iff.1 hx).1
    omega

/-! ## Conditions -/

inductive Cn where
  | mk (op : Int) (name text : Tx) (args : List Cn)
theorem Cn.ind {p : Cn → Prop} (h : ∀ op n t as, (∀ a ∈ as, p a) → p (.mk op n t as)) : ∀ c, p c :=
  fun c => Cn.rec (motive_1 := p) (motive_2 := fun as => ∀ a ∈ as, p a) (fun op n t as ih => h op n t as ih) (fun a ha => by simp at ha) (fun a as h1 h2 b hb => by
    rcases List.mem_cons.1 hb with rfl | hb
    · exact h1
    · exact h2 b hb) c
mutual
def levC : Cn → Nat
  | .mk _ _ _ as => levCs as + 1
def levCs : List Cn → Nat
  | [] => 0
  | a :: as => max (levC a) (levCs as)
end
def kindF (op : Int) (n t : Tx) (k : Nat) : Bool :=
  if op = 2 then decide (k = 0) && (nameF n && plainF t)
  else (decide (op = 1 ∧ k = 0 ∨ op = 3 ∧ k = 1 ∨ (op = 4 ∨ op = 5) ∧ k = 2) && decide (n = [] ∧ t = []))
mutual
def formC : Cn → Bool
  | .mk op n t as => kindF op n t as.length && formCs as
def formCs : List Cn → Bool
  | [] => true
  | a :: as => formC a && formCs as
end
def valF : List Sg → Tx → Option Tx
  | [], _ => none
  | s :: l, n => if s.1 = n then some s.2 else valF l n
def opF (op : Int) (e : Bool) (bs : List Bool) : Bool :=
  if op = 2 then e else if op = 3 then !(bs.getD 0 false) else if op = 4 then bs.getD 0 false && bs.getD 1 false else if op = 5 then bs.getD 0 false || bs.getD 1 false else true
mutual
def holdC (g : List Sg) : Cn → Bool
  | .mk op n t as => opF op (decide (valF g n = some t)) (holdCs g as)
def holdCs (g : List Sg) : List Cn → List Bool
  | [] => []
  | a :: as => holdC g a :: holdCs g as
end
theorem levCs_le : ∀ (as : List Cn) (a : Cn), a ∈ as → levC a ≤ levCs as
  | [], a, h => by simp at h
  | b :: as, a, h => by
    rw [levCs]
    rcases List.mem_cons.1 h with rfl | h
    · omega
    · have := levCs_le as a h; omega
theorem levC_pos (c : Cn) : 1 ≤ levC c := by cases c; rw [levC]; omega
theorem levCs_snoc : ∀ (as : List Cn) (a : Cn), levCs (as ++ [a]) = max (levCs as) (levC a)
  | [], a => by simp [levCs]
  | b :: as, a => by rw [List.cons_append, levCs, levCs, levCs_snoc as a]; omega
theorem formCs_all : ∀ (as : List Cn), formCs as = as.all formC
  | [] => rfl
  | a :: as => by rw [formCs, List.all_cons, formCs_all as]
theorem holdCs_map (g : List Sg) : ∀ (as : List Cn), holdCs g as = as.map (holdC g)
  | [] => rfl
  | a :: as => by rw [holdCs, List.map_cons, holdCs_map g as]
def condF (c : Cn) : Int := if 6 < levC c then 9 else if formC c = true then 0 else 2
def goodC (c : Cn) : Bool := decide (levC c ≤ 6) && formC c
theorem condF_zero (c : Cn) : condF c = 0 ↔ goodC c = true := by
  unfold condF goodC
  by_cases h : 6 < levC c
  · rw [if_pos h, decide_eq_false (by omega)]; simp
  · rw [if_neg h, decide_eq_true (by omega), Bool.true_and]
    cases formC c <;> simp
theorem valF_hit {l : List Sg} {n : Tx} {i : Nat} {s : Sg} (hs : l[i]? = some s) (he : s.1 = n) (hno : ∀ (j : Nat) (y : Sg), j < i → l[j]? = some y → y.1 ≠ n) : valF l n = some s.2 := by
  induction l generalizing i with
  | nil => simp at hs
  | cons x l ih =>
    rw [valF]
    cases i with
    | zero => simp at hs; subst hs; rw [if_pos he]
    | succ i =>
      rw [if_neg (hno 0 x (by omega) rfl)]
      exact ih (by simpa using hs) (fun j y hj hy => hno (j + 1) y (by omega) (by simpa using hy))
theorem valF_none {l : List Sg} {n : Tx} {k : Nat} (hk : l.length ≤ k) (hno : ∀ (j : Nat) (y : Sg), j < k → l[j]? = some y → y.1 ≠ n) : valF l n = none := by
  induction l generalizing k with
  | nil => rfl
  | cons x l ih =>
    rw [valF, if_neg (hno 0 x (by simp at hk; omega) rfl)]
    refine ih (k := k - 1) (by simp at hk; omega) (fun j y hj hy => hno (j + 1) y (by omega) (by simpa using hy))
theorem valF_mem {l : List Sg} {n x : Tx} (h : valF l n = some x) : (n, x) ∈ l := by
  induction l with
  | nil => cases h
  | cons s l ih =>
    rw [valF] at h
    split at h
    · rename_i e; injection h with h; subst e; subst h; exact List.mem_cons_self
    · exact List.mem_cons_of_mem _ (ih h)

/-! ## Entries -/

structure Ln where
  node : Tx
  prog : Tx
  cond : Cn
  after : List Tx
  sets : List Sg
/-- the first of the numbers that is not 0 -/
def firstE (f : Nat → Int) (n : Nat) : Int := match (List.range n).find? (fun i => decide (f i ≠ 0)) with | some i => f i | none => 0
theorem firstE_hit {f : Nat → Int} {n i : Nat} (hi : i < n) (h : f i ≠ 0) (hno : ∀ j, j < i → f j = 0) : firstE f n = f i := by
  have : (List.range n).find? (fun i => decide (f i ≠ 0)) = some i := by
    rw [List.find?_range_eq_some]
    refine ⟨by simpa using h, by simpa using hi, fun j hj => by simpa using hno j hj⟩
  unfold firstE; rw [this]
theorem firstE_none {f : Nat → Int} {n : Nat} (hno : ∀ j, j < n → f j = 0) : firstE f n = 0 := by
  have : (List.range n).find? (fun i => decide (f i ≠ 0)) = none := by
    rw [List.find?_range_eq_none]
    intro j hj; simpa using hno j hj
  unfold firstE; rw [this]
theorem firstE_zero {f : Nat → Int} {n : Nat} (h : firstE f n = 0) : ∀ j, j < n → f j = 0 := by
  unfold firstE at h
  split at h
  · rename_i i hi
    rw [List.find?_range_eq_some] at hi
    simp [h] at hi
  · rename_i hi
    rw [List.find?_range_eq_none] at hi
    intro j hj; simpa using hi j hj
def idxF (l : List Ln) (n : Tx) : Int := idxP (fun x => decide (x.node = n)) l
def setE (l : List Sg) (i : Nat) : Int := match l[i]? with
  | none => 0
  | some s => if nameF s.1 = false then 5 else if (l.take i).any (fun y => decide (y.1 = s.1)) = true then 7 else if plainF s.2 = false then 2 else 0
def aftE (l : List Ln) (a : List Tx) (i : Nat) : Int := match a[i]? with
  | none => 0
  | some n => if idxF l n < 0 then 6 else if (a.take i).any (fun y => decide (n = y)) = true then 7 else 0
def listsF (l : List Ln) (x : Ln) : Int := let e := firstE (setE x.sets) x.sets.length; if e ≠ 0 then e else firstE (aftE l x.after) x.after.length
def entryF (l : List Ln) (i : Nat) : Int := match l[i]? with
  | none => 0
  | some x => if nameF x.node = false ∨ nameF x.prog = false then 5 else if 0 ≤ idxF (l.take i) x.node then 7 else if condF x.cond ≠ 0 then condF x.cond else listsF l x
def hasF (ns : List Tx) (n : Tx) : Bool := ns.any (fun y => decide (n = y))
def readyF (ns : List Tx) (x : Ln) : Bool := !hasF ns x.node && x.after.all (hasF ns)
def runF (l : List Ln) : Nat → List Tx → List Tx
  | 0, ns => ns
  | k + 1, ns => match l.find? (readyF ns) with
    | none => ns
    | some x => runF l k (ns ++ [x.node])
def startF (l : List Ln) : List Tx := runF l l.length []
def checkF (l : List Ln) : Int :=
  if 24 < l.length then 3 else
  let e := firstE (entryF l) l.length
  if e ≠ 0 then e else if (startF l).length < l.length then 19 else 0
end Go.Proofs.Ytofnepeokihhnaa
