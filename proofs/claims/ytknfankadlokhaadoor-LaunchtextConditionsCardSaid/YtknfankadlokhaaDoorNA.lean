/- Launch descriptions ars plain data: names, texts, conditions, entries; what is wrong with a description, and the order of its nodes. No conditions. -/
import Derived.Test.YtknfankadlokhaaDoorMA
import Derived.Lib.Bytealg

namespace Go.Proofs.YtknfankadlokhaaDoor
open Go.RowKit
set_option linter.unusedVariables false
set_option linter.unusedSimpArgs false

abbrev Tx := List UInt8
abbrev Sg := Tx × Tx

/-! ## Names and texts -/

def letF (c : UInt8) : Bool := decide (97 ≤ c.toNat ∧ c.toNat ≤ 122 ∨ 65 ≤ c.toNat ∧ c.toNat ≤ 90)
def digF (c : UInt8) : Bool := decide (c.toNat = 95 ∨ 48 ≤ c.toNat ∧ c.toNat ≤ 57)
def chF (c : UInt8) (i : Nat) : Bool := letF c || (decide (0 < i) && digF c)
def nameF (s : Tx) : Bool := decide (1 ≤ s.length ∧ s.length ≤ 16) && s.zipIdx.all (fun x => chF x.1 x.2)
def txF (c : UInt8) : Bool := decide (32 ≤ c.toNat ∧ c.toNat ≤ 126)
def plainF (s : Tx) : Bool := decide (s.length ≤ 200) && s.all txF

theorem zip_all {s : Tx} {p : UInt8 × Nat → Bool} : s.zipIdx.all p = true ↔ ∀ (i : Nat) (c : UInt8), s[i]? = some c → p (c, i) = true := by
  rw [List.all_eq_true]
  constructor
  · intro h i c hc
    exact h (c, i) (List.mk_mem_zipIdx_iff_getElem?.2 hc)
  · rintro h ⟨c, i⟩ hm
    exact h i c (List.mk_mem_zipIdx_iff_getElem?.1 hm)
theorem nameF_yes {s : Tx} (h1 : 1 ≤ s.length) (h2 : s.length ≤ 16) (h : ∀ (i : Nat) (c : UInt8), i < s.length → s[i]? = some c → chF c i = true) : nameF s = true := by
  unfold nameF
  rw [decide_eq_true ⟨h1, h2⟩, Bool.true_and, zip_all]
  exact fun i c hc => h i c (List.getElem?_eq_some_iff.1 hc).1 hc
theorem nameF_no {s : Tx} {i : Nat} {c : UInt8} (hc : s[i]? = some c) (h : chF c i = false) : nameF s = false := by
  cases hn : nameF s
  · rfl
  · unfold nameF at hn
    rw [Bool.and_eq_true, zip_all] at hn
    have := hn.2 i c hc
    rw [h] at this; cases this
theorem nameF_len {s : Tx} (h : ¬ (1 ≤ s.length ∧ s.length ≤ 16)) : nameF s = false := by
  unfold nameF; rw [decide_eq_false h, Bool.false_and]
theorem nameF_size {s : Tx} (h : nameF s = true) : 1 ≤ s.length ∧ s.length ≤ 16 := by
  unfold nameF at h
  rw [Bool.and_eq_true] at h
  exact of_decide_eq_true h.1
theorem all_at {α : Type} {l : List α} {p : α → Bool} (h : ∀ (i : Nat) (c : α), i < l.length → l[i]? = some c → p c = true) : l.all p = true := by
  rw [List.all_eq_true]
  intro x hx
  obtain ⟨i, hi⟩ := List.getElem?_of_mem hx
  exact h i x (List.getElem?_eq_some_iff.1 hi).1 hi
theorem all_no {α : Type} {l : List α} {p : α → Bool} {i : Nat} {c : α} (hi : l[i]? = some c) (h : p c = false) : l.all p = false := by
  cases hn : l.all p
  · rfl
  · rw [List.all_eq_true] at hn
    have := hn c (List.mem_of_getElem? hi)
    rw [h] at this; cases this
theorem plainF_yes {s : Tx} (h2 : s.length ≤ 200) (h : ∀ (i : Nat) (c : UInt8), i < s.length → s[i]? = some c → txF c = true) : plainF s = true := by
  unfold plainF; rw [decide_eq_true h2, Bool.true_and]; exact all_at h
theorem plainF_no {s : Tx} {i : Nat} {c : UInt8} (hc : s[i]? = some c) (h : txF c = false) : plainF s = false := by
  unfold plainF; rw [all_no hc h, Bool.and_false]
theorem plainF_len {s : Tx} (h : ¬ s.length ≤ 200) : plainF s = false := by
  unfold plainF; rw [decide_eq_false h, Bool.false_and]

/-! ## The first place at which something holds -/

def idxP {α : Type} (p : α → Bool) (l : List α) : Int := match l.findIdx? p with | some i => i | none => -1
theorem idxP_hit {α : Type} {p : α → Bool} {l : List α} {i : Nat} {x : α} (hx : l[i]? = some x) (hp : p x = true) (hno : ∀ (j : Nat) (y : α), j < i → l[j]? = some y → p y = false) : idxP p l = i := by
  have hi := (List.getElem?_eq_some_iff.1 hx).1
  have : l.findIdx? p = some i := by
    rw [List.findIdx?_eq_some_iff_getElem]
    refine ⟨hi, ?_, fun j hj => ?_⟩
    · rw [List.getElem?_eq_getElem hi] at hx; injection hx with hx; rw [hx]; exact hp
    · have := hno j _ hj (List.getElem?_eq_getElem (by omega))
      rw [this]; simp
  unfold idxP; rw [this]
theorem idxP_none {α : Type} {p : α → Bool} {l : List α} {n : Nat} (hn : l.length ≤ n) (hno : ∀ (j : Nat) (y : α), j < n → l[j]? = some y → p y = false) : idxP p l = -1 := by
  have : l.findIdx? p = none := by
    rw [List.findIdx?_eq_none_iff]
    intro x hx
    obtain ⟨j, hj⟩ := List.getElem?_of_mem hx
    exact hno j x (by have := (List.getElem?_eq_some_iff.1 hj).1; omega) hj
  unfold idxP; rw [this]
theorem idxP_spec {α : Type} (p : α → Bool) (l : List α) : (idxP p l = -1 ∧ ∀ (j : Nat) (y : α), l[j]? = some y → p y = false) ∨ ∃ (i : Nat) (x : α), idxP p l = i ∧ l[i]? = some x ∧ p x = true ∧ ∀ (j : Nat) (y : α), j < i → l[j]? = some y → p y = false := by
  cases h : l.findIdx? p with
  | none =>
    left
    refine ⟨by unfold idxP; rw [h], fun j y hj => ?_⟩
    rw [List.findIdx?_eq_none_iff] at h
    exact h y (List.mem_of_getElem? hj)
  | some i =>
    right
    obtain ⟨hi, hp, hno⟩ := List.findIdx?_eq_some_iff_getElem.1 h
    refine ⟨i, l[i], by unfold idxP; rw [h], List.getElem?_eq_getElem hi, hp, fun j y hj hy => ?_⟩
    have hl := (List.getElem?_eq_some_iff.1 hy)
    have := hno j hj
    rw [← hl.2]; simpa using this
theorem idxP_neg {α : Type} (p : α → Bool) (l : List α) : decide (idxP p l < 0) = !l.any p := by
  rcases idxP_spec p l with ⟨h, hno⟩ | ⟨i, x, h, hx, hp, _⟩
  · rw [h]
    have : l.any p = false := by
      rw [List.any_eq_false]; intro x hx
      obtain ⟨j, hj⟩ := List.getElem?_of_mem hx
      rw [hno j x hj]; simp
    rw [this]; rfl
  · rw [h, show l.any p = true from List.any_eq_true.2 ⟨x, List.mem_of_getElem? hx, hp⟩]
    exact decide_eq_false (by omega)
theorem idxP_pos {α : Type} (p : α → Bool) (l : List α) : decide (0 ≤ idxP p l) = l.any p := by
  have h := idxP_neg p l
  by_cases h0 : idxP p l < 0
  · rw [decide_eq_true h0] at h
    rw [decide_eq_false (by omega)]
    cases h2 : l.any p
    · rfl
    · rw [h2] at h; cases h
  · rw [decide_eq_false h0] at h
    rw [decide_eq_true (by omega)]
    cases h2 : l.any p
    · rw [h2] at h; cases h
    · rfl
theorem idxP_le {α : Type} (p : α → Bool) (l : List α) : -1 ≤ idxP p l ∧ idxP p l < max 1 l.length := by
  rcases idxP_spec p l with ⟨h, hno⟩ | ⟨i, x, h, hx, hp, _⟩
  · omega
  · have := (List.getElem?_eq_some_iff.1 hx).1
    omega

/-! ## Conditions -/

inductive Cn where
  | mk (op : Int) (name text : Tx) (args : List Cn)
theorem Cn.ind {p : Cn → Prop} (h : ∀ op n t ars, (∀ a ∈ ars, p a) → p (.mk op n t ars)) : ∀ c, p c :=
  fun c => Cn.rec (motive_1 := p) (motive_2 := fun ars => ∀ a ∈ ars, p a) (fun op n t ars ih => h op n t ars ih) (fun a ha => by simp at ha) (fun a ars h1 h2 b hb => by
    rcases List.mem_cons.1 hb with rfl | hb
    · exact h1
    · exact h2 b hb) c
mutual
def levC : Cn → Nat
  | .mk _ _ _ ars => levCs ars + 1
def levCs : List Cn → Nat
  | [] => 0
  | a :: ars => max (levC a) (levCs ars)
end
def kindF (op : Int) (n t : Tx) (k : Nat) : Bool :=
  if op = 2 then decide (k = 0) && (nameF n && plainF t)
  else (decide (op = 1 ∧ k = 0 ∨ op = 3 ∧ k = 1 ∨ (op = 4 ∨ op = 5) ∧ k = 2) && decide (n = [] ∧ t = []))
mutual
def formC : Cn → Bool
  | .mk op n t ars => kindF op n t ars.length && formCs ars
def formCs : List Cn → Bool
  | [] => true
  | a :: ars => formC a && formCs ars
end
def valF : List Sg → Tx → Option Tx
  | [], _ => none
  | s :: l, n => if s.1 = n then some s.2 else valF l n
def opF (op : Int) (e : Bool) (bs : List Bool) : Bool :=
  if op = 2 then e else if op = 3 then !(bs.getD 0 false) else if op = 4 then bs.getD 0 false && bs.getD 1 false else if op = 5 then bs.getD 0 false || bs.getD 1 false else true
mutual
def holdC (g : List Sg) : Cn → Bool
  | .mk op n t ars => opF op (decide (valF g n = some t)) (holdCs g ars)
def holdCs (g : List Sg) : List Cn → List Bool
  | [] => []
  | a :: ars => holdC g a :: holdCs g ars
end
theorem levCs_le : ∀ (ars : List Cn) (a : Cn), a ∈ ars → levC a ≤ levCs ars
  | [], a, h => by simp at h
  | b :: ars, a, h => by
    rw [levCs]
    rcases List.mem_cons.1 h with rfl | h
    · omega
    · have := levCs_le ars a h; omega
theorem levC_pos (c : Cn) : 1 ≤ levC c := by cases c; rw [levC]; omega
theorem levCs_snoc : ∀ (ars : List Cn) (a : Cn), levCs (ars ++ [a]) = max (levCs ars) (levC a)
  | [], a => by simp [levCs]
  | b :: ars, a => by rw [List.cons_append, levCs, levCs, levCs_snoc ars a]; omega
theorem formCs_all : ∀ (ars : List Cn), formCs ars = ars.all formC
  | [] => rfl
  | a :: ars => by rw [formCs, List.all_cons, formCs_all ars]
theorem holdCs_map (g : List Sg) : ∀ (ars : List Cn), holdCs g ars = ars.map (holdC g)
  | [] => rfl
  | a :: ars => by rw [holdCs, List.map_cons, holdCs_map g ars]
def condF (c : Cn) : Int := if 6 < levC c then 9 else if formC c = true then 0 else 2
def goodC (c : Cn) : Bool := decide (levC c ≤ 6) && formC c
theorem condF_zero (c : Cn) : condF c = 0 ↔ goodC c = true := by
  unfold condF goodC
  by_cases h : 6 < levC c
  · rw [if_pos h, decide_eq_false (by omega)]; simp
  · rw [if_neg h, decide_eq_true (by omega), Bool.true_and]
    cases formC c <;> simp
theorem valF_hit {l : List Sg} {n : Tx} {i : Nat} {s : Sg} (hs : l[i]? = some s) (he : s.1 = n) (hno : ∀ (j : Nat) (y : Sg), j < i → l[j]? = some y → y.1 ≠ n) : valF l n = some s.2 := by
  induction l generalizing i with
  | nil => simp at hs
  | cons x l ih =>
    rw [valF]
    cases i with
    | zero => simp at hs; subst hs; rw [if_pos he]
    | succ i =>
      rw [if_neg (hno 0 x (by omega) rfl)]
      exact ih (by simpa using hs) (fun j y hj hy => hno (j + 1) y (by omega) (by simpa using hy))
theorem valF_none {l : List Sg} {n : Tx} {k : Nat} (hk : l.length ≤ k) (hno : ∀ (j : Nat) (y : Sg), j < k → l[j]? = some y → y.1 ≠ n) : valF l n = none := by
  induction l generalizing k with
  | nil => rfl
  | cons x l ih =>
    rw [valF, if_neg (hno 0 x (by simp at hk; omega) rfl)]
    refine ih (k := k - 1) (by simp at hk; omega) (fun j y hj hy => hno (j + 1) y (by omega) (by simpa using hy))
theorem valF_mem {l : List Sg} {n x : Tx} (h : valF l n = some x) : (n, x) ∈ l := by
  induction l with
  | nil => cases h
  | cons s l ih =>
    rw [valF] at h
    split at h
    · rename_i e; injection h with h; subst e; subst h; exact List.mem_cons_self
    · exact List.mem_cons_of_mem _ (ih h)

/-! ## Entries -/

structure Ln where
  node : Tx
  prog : Tx
  cond : Cn
  after : List Tx
  sets : List Sg
/-- the first of the numbers that is not 0 -/
def firstE (f : Nat → Int) (n : Nat) : Int := match (List.range n).find? (fun i => decide (f i ≠ 0)) with | some i => f i | none => 0
theorem firstE_hit {f : Nat → Int} {n i : Nat} (hi : i < n) (h : f i ≠ 0) (hno : ∀ j, j < i → f j = 0) : firstE f n = f i := by
  have : (List.range n).find? (fun i => decide (f i ≠ 0)) = some i := by
    rw [List.find?_range_eq_some]
    refine ⟨by simpa using h, by simpa using hi, fun j hj => by simpa using hno j hj⟩
  unfold firstE; rw [this]
theorem firstE_none {f : Nat → Int} {n : Nat} (hno : ∀ j, j < n → f j = 0) : firstE f n = 0 := by
  have : (List.range n).find? (fun i => decide (f i ≠ 0)) = none := by
    rw [List.find?_range_eq_none]
    intro j hj; simpa using hno j hj
  unfold firstE; rw [this]
theorem firstE_zero {f : Nat → Int} {n : Nat} (h : firstE f n = 0) : ∀ j, j < n → f j = 0 := by
  unfold firstE at h
  split at h
  · rename_i i hi
    rw [List.find?_range_eq_some] at hi
    simp [h] at hi
  · rename_i hi
    rw [List.find?_range_eq_none] at hi
    intro j hj; simpa using hi j hj
def idxF (l : List Ln) (n : Tx) : Int := idxP (fun x => decide (x.node = n)) l
def setE (l : List Sg) (i : Nat) : Int := match l[i]? with
  | none => 0
  | some s => if nameF s.1 = false then 5 else if (l.take i).any (fun y => decide (y.1 = s.1)) = true then 7 else if plainF s.2 = false then 2 else 0
def aftE (l : List Ln) (a : List Tx) (i : Nat) : Int := match a[i]? with
  | none => 0
  | some n => if idxF l n < 0 then 6 else if (a.take i).any (fun y => decide (n = y)) = true then 7 else 0
def listsF (l : List Ln) (x : Ln) : Int := let e := firstE (setE x.sets) x.sets.length; if e ≠ 0 then e else firstE (aftE l x.after) x.after.length
def entryF (l : List Ln) (i : Nat) : Int := match l[i]? with
  | none => 0
  | some x => if nameF x.node = false ∨ nameF x.prog = false then 5 else if 0 ≤ idxF (l.take i) x.node then 7 else if condF x.cond ≠ 0 then condF x.cond else listsF l x
def hasF (ns : List Tx) (n : Tx) : Bool := ns.any (fun y => decide (n = y))
def readyF (ns : List Tx) (x : Ln) : Bool := !hasF ns x.node && x.after.all (hasF ns)
def runF (l : List Ln) : Nat → List Tx → List Tx
  | 0, ns => ns
  | k + 1, ns => match l.find? (readyF ns) with
    | none => ns
    | some x => runF l k (ns ++ [x.node])
def startF (l : List Ln) : List Tx := runF l l.length []
def checkF (l : List Ln) : Int :=
  if 24 < l.length then 3 else
  let e := firstE (entryF l) l.length
  if e ≠ 0 then e else if (startF l).length < l.length then 19 else 0
end Go.Proofs.YtknfankadlokhaaDoor

namespace Go.Proofs.YtknfankadlokhaaDoor
open Go.RowKit
set_option linter.unusedVariables false
set_option linter.unusedSimpArgs false

/-- a token: kind (0 end, 1 name, 2 number, 3 string, 4 mark), text, number, offset -/
structure Tk where
  kd : Int
  tx : Tx
  nn : Int
  at_ : Int
abbrev tkC (t : Tk) : List Value := [I t.kd, S t.tx, I t.nn, I t.at_]
def Tk.zero : Tk := ⟨0, [], 0, 0⟩
abbrev tkAt (ts : List Tk) (p : Nat) : Tk := ts.getD p Tk.zero
/-- the end stands last, and only there -/
structure TkOk (ts : List Tk) : Prop where
  pos : 0 < ts.length
  last : (tkAt ts (ts.length - 1)).kd = 0
  mid : ∀ p, p + 1 < ts.length → (tkAt ts p).kd ≠ 0
theorem TkOk.next {ts : List Tk} (h : TkOk ts) {p : Nat} (hp : p < ts.length) (hk : (tkAt ts p).kd ≠ 0) : p + 1 < ts.length := by
  rcases Nat.lt_or_ge (p + 1) ts.length with h1 | h1
  · exact h1
  · have : p = ts.length - 1 := by have := h.pos; omega
    subst this
    exact absurd h.last hk
theorem tkAt_some {ts : List Tk} {p : Nat} (hp : p < ts.length) : ts[p]? = some (tkAt ts p) := by
  rw [List.getElem?_eq_getElem hp, tkAt, List.getD_eq_getElem?_getD, List.getElem?_eq_getElem hp]; rfl
/-- a result at a place, or the place of the token that does not fit -/
inductive Rs (α : Type) where
  | ok (a : α) (p : Nat)
  | bad (p : Nat)
def mkB (ts : List Tk) (p : Nat) (c : UInt8) : Bool := decide ((tkAt ts p).kd = 4) && decide ((tkAt ts p).tx = [c])
def wdB (ts : List Tk) (p : Nat) (s : Tx) : Bool := decide ((tkAt ts p).kd = 1) && decide ((tkAt ts p).tx = s)
theorem mkB_kd {ts : List Tk} {p : Nat} {c : UInt8} (h : mkB ts p c = true) : (tkAt ts p).kd = 4 := by
  unfold mkB at h; rw [Bool.and_eq_true] at h; exact of_decide_eq_true h.1
theorem wdB_kd {ts : List Tk} {p : Nat} {s : Tx} (h : wdB ts p s = true) : (tkAt ts p).kd = 1 := by
  unfold wdB at h; rw [Bool.and_eq_true] at h; exact of_decide_eq_true h.1
def wTrue : Tx := [116, 114, 117, 101]
def wNode : Tx := [110, 111, 100, 101]
def wIf : Tx := [105, 102]
def wAfter : Tx := [97, 102, 116, 101, 114]
section
variable (ts : List Tk)
def takeR (k : Int) (p : Nat) : Rs Tx := if (tkAt ts p).kd = k then .ok (tkAt ts p).tx (p + 1) else .bad p
def markR (c : UInt8) (p : Nat) : Rs Unit := if mkB ts p c = true then .ok () (p + 1) else .bad p
/-- a setting -/
def setR (p : Nat) : Rs Sg :=
  match takeR ts 1 p with
  | .bad q => .bad q
  | .ok n q => match markR ts 61 q with
    | .bad q => .bad q
    | .ok _ q => match takeR ts 3 q with
      | .bad q => .bad q
      | .ok t q => .ok (n, t) q
/-- settings behind others: by fuel -/
def setsL : Nat → List Sg → Nat → Option (Rs (List Sg))
  | 0, _, _ => none
  | f + 1, l, p => match setR ts p with
    | .bad q => some (.bad q)
    | .ok s q => if mkB ts q 44 = true then setsL f (l ++ [s]) (q + 1) else some (.ok (l ++ [s]) q)
def setsR (f : Nat) (p : Nat) : Option (Rs (List Sg)) := if (tkAt ts p).kd ≠ 1 then some (.ok [] p) else setsL ts f [] p
mutual
/-- an operand, a conjunction and a condition: by fuel; none: it is used up -/
def oprF : Nat → Nat → Option (Rs Cn)
  | 0, _ => none
  | f + 1, p =>
    if mkB ts p 33 = true then
      match oprF f (p + 1) with
      | none => none
      | some (.bad q) => some (.bad q)
      | some (.ok c q) => some (.ok (.mk 3 [] [] [c]) q)
    else if mkB ts p 40 = true then
      match conF f (p + 1) with
      | none => none
      | some (.bad q) => some (.bad q)
      | some (.ok c q) => if mkB ts q 41 = true then some (.ok c (q + 1)) else some (.bad q)
    else if (tkAt ts p).kd ≠ 1 then some (.bad p)
    else if mkB ts (p + 1) 61 = true then
      (if (tkAt ts (p + 2)).kd = 3 then some (.ok (.mk 2 (tkAt ts p).tx (tkAt ts (p + 2)).tx []) (p + 3)) else some (.bad (p + 2)))
    else if (tkAt ts p).tx ≠ wTrue then some (.bad (p + 1))
    else some (.ok (.mk 1 [] [] []) (p + 1))
def cnjF : Nat → Nat → Option (Rs Cn)
  | 0, _ => none
  | f + 1, p => match oprF f p with
    | none => none
    | some (.bad q) => some (.bad q)
    | some (.ok c q) => cnjL f c q
def cnjL : Nat → Cn → Nat → Option (Rs Cn)
  | 0, _, _ => none
  | f + 1, c, p =>
    if mkB ts p 38 = true then
      match oprF f (p + 1) with
      | none => none
      | some (.bad q) => some (.bad q)
      | some (.ok d q) => cnjL f (.mk 4 [] [] [c, d]) q
    else some (.ok c p)
def conF : Nat → Nat → Option (Rs Cn)
  | 0, _ => none
  | f + 1, p => match cnjF f p with
    | none => none
    | some (.bad q) => some (.bad q)
    | some (.ok c q) => conL f c q
def conL : Nat → Cn → Nat → Option (Rs Cn)
  | 0, _, _ => none
  | f + 1, c, p =>
    if mkB ts p 124 = true then
      match cnjF f (p + 1) with
      | none => none
      | some (.bad q) => some (.bad q)
      | some (.ok d q) => conL f (.mk 5 [] [] [c, d]) q
    else some (.ok c p)
end
/-- the nodes behind after: by fuel -/
def aftL : Nat → List Tx → Nat → Option (Rs (List Tx))
  | 0, _, _ => none
  | f + 1, l, p => match takeR ts 1 p with
    | .bad q => some (.bad q)
    | .ok s q => if mkB ts q 44 = true then aftL f (l ++ [s]) (q + 1) else some (.ok (l ++ [s]) q)
/-- the parts of an entry behind its node and program -/
def ifR (f : Nat) (p : Nat) : Option (Rs Cn) := if wdB ts p wIf = true then conF ts f (p + 1) else some (.ok (.mk 1 [] [] []) p)
def aftR (f : Nat) (p : Nat) : Option (Rs (List Tx)) := if wdB ts p wAfter = true then aftL ts f [] (p + 1) else some (.ok [] p)
def bracR (f : Nat) (p : Nat) : Option (Rs (List Sg)) :=
  if mkB ts p 123 = true then
    match setsR ts f (p + 1) with
    | none => none
    | some (.bad q) => some (.bad q)
    | some (.ok l q) => if mkB ts q 125 = true then some (.ok l (q + 1)) else some (.bad q)
  else some (.ok [] p)
/-- an entry -/
def entR (f : Nat) (p : Nat) : Option (Rs Ln) :=
  if wdB ts p wNode = true then
    match takeR ts 1 (p + 1) with
    | .bad q => some (.bad q)
    | .ok nd q => match markR ts 58 q with
      | .bad q => some (.bad q)
      | .ok _ q => match takeR ts 1 q with
        | .bad q => some (.bad q)
        | .ok pg q => match ifR ts f q with
          | none => none
          | some (.bad q) => some (.bad q)
          | some (.ok c q) => match aftR ts f q with
            | none => none
            | some (.bad q) => some (.bad q)
            | some (.ok a q) => match bracR ts f q with
              | none => none
              | some (.bad q) => some (.bad q)
              | some (.ok s q) => some (.ok ⟨nd, pg, c, a, s⟩ q)
  else some (.bad p)
/-- entries up to the end -/
def lstL : Nat → List Ln → Nat → Option (Rs (List Ln))
  | 0, _, _ => none
  | f + 1, l, p => if (tkAt ts p).kd ≠ 0 then
      match entR ts f p with
      | none => none
      | some (.bad q) => some (.bad q)
      | some (.ok x q) => lstL f (l ++ [x]) q
    else some (.ok l p)
end
end Go.Proofs.YtknfankadlokhaaDoor

namespace Go.Proofs.YtknfankadlokhaaDoor
open Go.RowKit
set_option linter.unusedVariables false
set_option linter.unusedSimpArgs false

theorem TkOk.mk1 {ts : List Tk} (h : TkOk ts) {p : Nat} {c : UInt8} (hp : p < ts.length) (hm : mkB ts p c = true) : p + 1 < ts.length := h.next hp (by rw [mkB_kd hm]; decide)
theorem TkOk.wd1 {ts : List Tk} (h : TkOk ts) {p : Nat} {s : Tx} (hp : p < ts.length) (hm : wdB ts p s = true) : p + 1 < ts.length := h.next hp (by rw [wdB_kd hm]; decide)
theorem par_lt {ts : List Tk} (hk : TkOk ts) : ∀ f : Nat, (∀ p c q, p < ts.length → oprF ts f p = some (.ok c q) → q < ts.length) ∧ (∀ p c q, p < ts.length → cnjF ts f p = some (.ok c q) → q < ts.length) ∧
    (∀ a p c q, p < ts.length → cnjL ts f a p = some (.ok c q) → q < ts.length) ∧ (∀ p c q, p < ts.length → conF ts f p = some (.ok c q) → q < ts.length) ∧ (∀ a p c q, p < ts.length → conL ts f a p = some (.ok c q) → q < ts.length)
  | 0 => ⟨fun p c q _ h => (by rw [oprF] at h; cases h), fun p c q _ h => (by rw [cnjF] at h; cases h), fun a p c q _ h => (by rw [cnjL] at h; cases h), fun p c q _ h => (by rw [conF] at h; cases h), fun a p c q _ h => (by rw [conL] at h; cases h)⟩
  | f + 1 => by
    obtain ⟨i1, i2, i3, i4, i5⟩ := par_lt hk f
    refine ⟨fun p c q hp h => ?_, fun p c q hp h => ?_, fun a p c q hp h => ?_, fun p c q hp h => ?_, fun a p c q hp h => ?_⟩
    · rw [oprF] at h
      split at h
      · rename_i hm
        split at h
        · cases h
        · cases h
        · rename_i d r hr
          injection h with h; injection h with h1 h2; subst h2
          exact i1 _ _ _ (hk.mk1 hp hm) hr
      split at h
      · rename_i hm
        split at h
        · cases h
        · cases h
        · rename_i d r hr
          have h1 := i4 _ _ _ (hk.mk1 hp hm) hr
          split at h
          · rename_i hm2
            injection h with h; injection h with h1' h2; subst h2
            exact hk.mk1 h1 hm2
          · cases h
      split at h
      · cases h
      rename_i hk1
      have hp1 : p + 1 < ts.length := hk.next hp (by omega)
      split at h
      · rename_i hm
        have hp2 := hk.mk1 hp1 hm
        split at h
        · rename_i h3
          injection h with h; injection h with h1' h2; subst h2
          exact hk.next hp2 (by omega)
        · cases h
      split at h
      · cases h
      · injection h with h; injection h with h1' h2; subst h2; exact hp1
    · rw [cnjF] at h
      split at h
      · cases h
      · cases h
      · rename_i d r hr
        exact i3 _ _ _ _ (i1 _ _ _ hp hr) h
    · rw [cnjL] at h
      split at h
      · rename_i hm
        split at h
        · cases h
        · cases h
        · rename_i d r hr
          exact i3 _ _ _ _ (i1 _ _ _ (hk.mk1 hp hm) hr) h
      · injection h with h; injection h with h1' h2; subst h2; exact hp
    · rw [conF] at h
      split at h
      · cases h
      · cases h
      · rename_i d r hr
        exact i5 _ _ _ _ (i2 _ _ _ hp hr) h
    · rw [conL] at h
      split at h
      · rename_i hm
        split at h
        · cases h
        · cases h
        · rename_i d r hr
          exact i5 _ _ _ _ (i2 _ _ _ (hk.mk1 hp hm) hr) h
      · injection h with h; injection h with h1' h2; subst h2; exact hp
end Go.Proofs.YtknfankadlokhaaDoor

namespace Go.Proofs.YtknfankadlokhaaDoor
open Go.RowKit
set_option linter.unusedVariables false
set_option linter.unusedSimpArgs false

def marksL : Tx := [123, 125, 40, 41, 91, 93, 58, 59, 44, 61, 46, 63, 33, 38, 124, 64]
def markC (c : UInt8) : Bool := decide (0 ≤ Lib.indexByte marksL c)
/-- the kind of a byte -/
def clsF (c : UInt8) : Int :=
  if c.toNat = 32 ∨ c.toNat = 9 ∨ c.toNat = 10 then 1
  else if c.toNat = 35 then 2
  else if 97 ≤ c.toNat ∧ c.toNat ≤ 122 ∨ 65 ≤ c.toNat ∧ c.toNat ≤ 90 then 3
  else if 48 ≤ c.toNat ∧ c.toNat ≤ 57 then 4
  else if c.toNat = 45 then 5
  else if c.toNat = 95 then 6
  else if c.toNat = 34 then 7
  else if markC c = true then 8 else 0
theorem cls1 {c : UInt8} (h : c.toNat = 32 ∨ c.toNat = 9 ∨ c.toNat = 10) : clsF c = 1 := by unfold clsF; (repeat' split) <;> first | rfl | omega
theorem cls2 {c : UInt8} (h : c.toNat = 35) : clsF c = 2 := by unfold clsF; (repeat' split) <;> first | rfl | omega
theorem cls3 {c : UInt8} (h : 97 ≤ c.toNat ∧ c.toNat ≤ 122 ∨ 65 ≤ c.toNat ∧ c.toNat ≤ 90) : clsF c = 3 := by unfold clsF; (repeat' split) <;> first | rfl | omega
theorem cls4 {c : UInt8} (h : 48 ≤ c.toNat ∧ c.toNat ≤ 57) : clsF c = 4 := by unfold clsF; (repeat' split) <;> first | rfl | omega
theorem cls5 {c : UInt8} (h : c.toNat = 45) : clsF c = 5 := by unfold clsF; (repeat' split) <;> first | rfl | omega
theorem cls6 {c : UInt8} (h : c.toNat = 95) : clsF c = 6 := by unfold clsF; (repeat' split) <;> first | rfl | omega
theorem cls7 {c : UInt8} (h : c.toNat = 34) : clsF c = 7 := by unfold clsF; (repeat' split) <;> first | rfl | omega
theorem cls8 {c : UInt8} (h : ¬ (c.toNat = 32 ∨ c.toNat = 9 ∨ c.toNat = 10 ∨ c.toNat = 35 ∨ (97 ≤ c.toNat ∧ c.toNat ≤ 122 ∨ 65 ≤ c.toNat ∧ c.toNat ≤ 90) ∨ 48 ≤ c.toNat ∧ c.toNat ≤ 57 ∨ c.toNat = 45 ∨ c.toNat = 95 ∨ c.toNat = 34)) (h2 : 0 ≤ Lib.indexByte marksL c) : clsF c = 8 := by
  have := decide_eq_true h2
  unfold clsF markC; rw [this]; (repeat' split) <;> first | rfl | omega | (exfalso; rename_i h9; exact h9 rfl)
theorem cls0 {c : UInt8} (h : ¬ (c.toNat = 32 ∨ c.toNat = 9 ∨ c.toNat = 10 ∨ c.toNat = 35 ∨ (97 ≤ c.toNat ∧ c.toNat ≤ 122 ∨ 65 ≤ c.toNat ∧ c.toNat ≤ 90) ∨ 48 ≤ c.toNat ∧ c.toNat ≤ 57 ∨ c.toNat = 45 ∨ c.toNat = 95 ∨ c.toNat = 34)) (h2 : Lib.indexByte marksL c < 0) : clsF c = 0 := by
  have : decide (0 ≤ Lib.indexByte marksL c) = false := decide_eq_false (by omega)
  unfold clsF markC; rw [this]; (repeat' split) <;> first | rfl | omega | (exfalso; rename_i h9; cases h9)
def kindAt (s : Tx) (p : Nat) : Int := match s[p]? with
  | none => -1
  | some c => clsF c
/-- what white space and remarks take at the head; rem: within a remark -/
def skipN : Bool → Tx → Nat
  | _, [] => 0
  | rem, c :: r =>
    let rem2 := if c.toNat = 10 then false else if c.toNat = 35 then true else rem
    if rem2 = false ∧ ¬ (c.toNat = 32 ∨ c.toNat = 9 ∨ c.toNat = 10) then 0 else 1 + skipN rem2 r
def skF (s : Tx) (p : Nat) : Nat := p + skipN false (s.drop p)
def wordC (c : UInt8) : Bool := decide (clsF c = 3 ∨ clsF c = 4 ∨ clsF c = 6)
def digC (c : UInt8) : Bool := decide (clsF c = 4)
def spanF (q : UInt8 → Bool) (s : Tx) (p : Nat) : Nat := p + ((s.drop p).takeWhile q).length
def cutF (s : Tx) (p q : Nat) : Tx := (s.drop p).take (q - p)
/-- a token and where it ends, or an error and its place -/
inductive Lx where
  | tok (t : Tk) (q : Nat)
  | err (e : Int) (p : Nat)
def wordF (s : Tx) (p : Nat) : Lx :=
  let q := spanF wordC s p
  if 16 < q - p then .err 3 p else if kindAt s q = 5 then .err 2 q else .tok ⟨1, cutF s p q, 0, p⟩ q
def digS (n : Nat) (c : UInt8) : Nat := 10 * n + (c.toNat - 48)
def digV (n : Nat) (ds : Tx) : Nat := ds.foldl digS n
def numV (neg : Bool) (ds : Tx) : Option Int :=
  if digV 0 ds ≤ (if neg = true then 9223372036854775808 else 9223372036854775807) then some (if neg = true then -(digV 0 ds : Int) else digV 0 ds) else none
def numF (s : Tx) (p : Nat) : Lx :=
  let neg := decide (kindAt s p = 5)
  let f := if neg = true then p + 1 else p
  let q := spanF digC s f
  let ds := cutF s f q
  if ds = [] ∨ (ds.head? = some 48 ∧ (1 < ds.length ∨ neg = true)) then .err 2 p
  else match numV neg ds with
    | none => .err 4 p
    | some n => if kindAt s q = 3 ∨ kindAt s q = 6 ∨ kindAt s q = 5 then .err 2 q else .tok ⟨2, [], n, p⟩ q
/-- the content of a string from a place on: its end, or where it is wrong -/
inductive Qx where
  | ok (out : Tx) (q : Nat)
  | bad (p : Nat)
def quotL : Tx → Nat → Tx → Qx
  | [], i, _ => .bad i
  | c :: r, i, out =>
    if c.toNat < 32 ∨ 126 < c.toNat then .bad i
    else if c.toNat = 34 then .ok out (i + 1)
    else if c.toNat = 92 then
      (match r with
      | [] => .bad i
      | d :: r => if d.toNat = 34 ∨ d.toNat = 92 then quotL r (i + 2) (out ++ [d]) else .bad i)
    else quotL r (i + 1) (out ++ [c])
def textF (s : Tx) (p : Nat) : Lx := match quotL (s.drop (p + 1)) (p + 1) [] with
  | .bad i => .err 2 i
  | .ok out q => if 200 < out.length then .err 3 p else .tok ⟨3, out, 0, p⟩ q
def tokF (s : Tx) (p : Nat) : Lx :=
  let k := kindAt s p
  if k = -1 then .tok ⟨0, [], 0, p⟩ p
  else if k = 3 then wordF s p
  else if k = 4 ∨ k = 5 then numF s p
  else if k = 7 then textF s p
  else if k = 8 then .tok ⟨4, cutF s p (p + 1), 0, p⟩ (p + 1)
  else .err 2 p
/-- what a scan answers -/
inductive Sc where
  | ok (ts : List Tk)
  | bad (e a : Int)
def scanL (s : Tx) : Nat → Nat → List Tk → Sc
  | 0, _, _ => .bad 0 0
  | f + 1, p, l => match tokF s (skF s p) with
    | .err e w => .bad e w
    | .tok t q => if t.kd = 0 then .ok (l ++ [t]) else scanL s f q (l ++ [t])
def scanF (s : Tx) : Sc := if 4000 < s.length then .bad 3 0 else scanL s (s.length + 1) 0 []
end Go.Proofs.YtknfankadlokhaaDoor

namespace Go.Proofs.YtknfankadlokhaaDoor
open Go.RowKit
set_option linter.unusedVariables false
set_option linter.unusedSimpArgs false

theorem skip_rem : ∀ r : Tx, (Lib.indexByte r 10 < 0 → skipN true r = r.length) ∧ (∀ n : Nat, Lib.indexByte r 10 = (n : Int) → n ≤ r.length ∧ skipN true r = n + skipN false (r.drop n))
  | [] => ⟨fun _ => rfl, fun n h => by rw [Lib.indexByte] at h; omega⟩
  | d :: r => by
    obtain ⟨i1, i2⟩ := skip_rem r
    have hge := Lib.indexByte_ge r 10
    by_cases hd : d = 10
    · subst hd
      refine ⟨fun h => ?_, fun n h => ?_⟩
      · rw [Lib.indexByte] at h; simp at h
      · rw [Lib.indexByte] at h
        simp at h
        obtain rfl : n = 0 := by omega
        refine ⟨Nat.zero_le _, ?_⟩
        rw [List.drop_zero, Nat.zero_add, skipN, skipN]
        simp
    · have hn : ¬ d.toNat = 10 := fun e => hd (UInt8.toNat_inj.1 (by simpa using e))
      have e1 : skipN true (d :: r) = 1 + skipN true r := by
        rw [skipN]
        simp only [hn, if_false]
        by_cases h35 : d.toNat = 35 <;> simp [h35]
      have e2 : Lib.indexByte (d :: r) 10 = if Lib.indexByte r 10 == -1 then -1 else Lib.indexByte r 10 + 1 := by
        rw [Lib.indexByte, if_neg (by simpa using hd)]
      rw [e1, e2]
      by_cases hm : Lib.indexByte r 10 = -1
      · rw [if_pos (by simpa using hm)]
        exact ⟨fun _ => by rw [i1 (by omega), List.length_cons]; omega, fun n h => by omega⟩
      · rw [if_neg (by simpa using hm)]
        refine ⟨fun h => by omega, fun n h => ?_⟩
        obtain ⟨k, rfl⟩ : ∃ k, n = k + 1 := ⟨n - 1, by omega⟩
        obtain ⟨g1, g2⟩ := i2 k (by omega)
        refine ⟨by rw [List.length_cons]; omega, ?_⟩
        rw [g2, List.drop_succ_cons]; omega
section
variable {s : Tx} {p : Nat} {c : UInt8}
theorem drop_at (h : s[p]? = some c) : s.drop p = c :: s.drop (p + 1) := by
  obtain ⟨hp, he⟩ := List.getElem?_eq_some_iff.1 h
  rw [List.drop_eq_getElem_cons hp, he]
theorem skF_end (h : s.length ≤ p) : skF s p = p := by unfold skF; rw [List.drop_of_length_le h]; rfl
theorem skF_blank (h : s[p]? = some c) (hc : c.toNat = 32 ∨ c.toNat = 9 ∨ c.toNat = 10) : skF s p = skF s (p + 1) := by
  unfold skF
  rw [drop_at h, skipN]
  have h35 : ¬ c.toNat = 35 := by omega
  have : (if c.toNat = 10 then false else if c.toNat = 35 then true else false) = false := by
    rw [if_neg h35]; split <;> rfl
  simp only [this]
  rw [if_neg (fun e => e.2 hc)]; omega
theorem skF_stop (h : s[p]? = some c) (hc : ¬ (c.toNat = 32 ∨ c.toNat = 9 ∨ c.toNat = 10)) (h2 : ¬ c.toNat = 35) : skF s p = p := by
  unfold skF
  rw [drop_at h, skipN]
  have : (if c.toNat = 10 then false else if c.toNat = 35 then true else false) = false := by
    rw [if_neg h2]; split <;> rfl
  simp only [this]
  rw [if_pos ⟨trivial, hc⟩]; rfl
theorem skF_hash (h : s[p]? = some c) (hc : c.toNat = 35) : (Lib.indexByte (s.drop p) 10 < 0 → skF s p = s.length) ∧ (∀ n : Nat, Lib.indexByte (s.drop p) 10 = (n : Int) → p + n ≤ s.length ∧ p < p + n ∧ skF s p = skF s (p + n)) := by
  have hp := (List.getElem?_eq_some_iff.1 h).1
  obtain ⟨i1, i2⟩ := skip_rem (s.drop (p + 1))
  have hge := Lib.indexByte_ge (s.drop (p + 1)) 10
  have hl : (s.drop (p + 1)).length = s.length - (p + 1) := List.length_drop
  have e1 : skipN false (c :: s.drop (p + 1)) = 1 + skipN true (s.drop (p + 1)) := by
    rw [skipN]
    simp [hc]
  have e2 : Lib.indexByte (c :: s.drop (p + 1)) 10 = if Lib.indexByte (s.drop (p + 1)) 10 == -1 then -1 else Lib.indexByte (s.drop (p + 1)) 10 + 1 := by
    rw [Lib.indexByte, if_neg]
    intro e
    have := congrArg UInt8.toNat (beq_iff_eq.1 e)
    rw [hc] at this
    cases this
  unfold skF
  rw [drop_at h, e1, e2]
  by_cases hm : Lib.indexByte (s.drop (p + 1)) 10 = -1
  · rw [if_pos (by simpa using hm)]
    exact ⟨fun _ => by rw [i1 (by omega), hl]; omega, fun n h => by omega⟩
  · rw [if_neg (by simpa using hm)]
    refine ⟨fun h => by omega, fun n h => ?_⟩
    obtain ⟨k, rfl⟩ : ∃ k, n = k + 1 := ⟨n - 1, by omega⟩
    obtain ⟨g1, g2⟩ := i2 k (by omega)
    refine ⟨by omega, by omega, ?_⟩
    rw [g2, List.drop_drop, show p + 1 + k = p + (k + 1) by omega]; omega
theorem skF_le (h : p ≤ s.length) : p ≤ skF s p ∧ skF s p ≤ s.length := by
  unfold skF
  have key : ∀ (r : Tx) (b : Bool), skipN b r ≤ r.length := by
    intro r
    induction r with
    | nil => intro b; cases b <;> exact Nat.le_refl _
    | cons c r ih =>
      intro b
      rw [skipN]
      have hz := ih (if c.toNat = 10 then false else if c.toNat = 35 then true else b)
      generalize (if c.toNat = 10 then false else if c.toNat = 35 then true else b) = b2 at hz ⊢
      rw [List.length_cons]
      split <;> omega
  have := key (s.drop p) false
  rw [List.length_drop] at this
  omega
end
end Go.Proofs.YtknfankadlokhaaDoor

namespace Go.Proofs.YtknfankadlokhaaDoor
open Go.RowKit
set_option linter.unusedVariables false
set_option linter.unusedSimpArgs false

theorem tkOk_snoc {l : List Tk} {t : Tk} (hl : ∀ x ∈ l, x.kd ≠ 0) (ht : t.kd = 0) : TkOk (l ++ [t]) := by
  refine ⟨by simp, ?_, fun p hp => ?_⟩
  · rw [List.length_append, List.length_singleton, Nat.add_sub_cancel, tkAt, List.getD_eq_getElem?_getD, List.getElem?_append_right (Nat.le_refl _), Nat.sub_self]
    exact ht
  · rw [List.length_append, List.length_singleton] at hp
    have hp' : p < l.length := by omega
    rw [tkAt, List.getD_eq_getElem?_getD, List.getElem?_append_left hp', List.getElem?_eq_getElem hp']
    exact hl _ (List.getElem_mem hp')
theorem cutF_len (s : Tx) (p q : Nat) : (cutF s p q).length ≤ s.length := by
  unfold cutF; rw [List.length_take, List.length_drop]; omega
theorem tokF_tx {s : Tx} {p q : Nat} {t : Tk} (hs : s.length ≤ 4000) (h : tokF s p = .tok t q) : t.tx.length ≤ 4000 := by
  have hc := fun a b => Nat.le_trans (cutF_len s a b) hs
  unfold tokF at h
  dsimp only at h
  split at h
  · injection h with h1 h2; subst h1; exact Nat.zero_le _
  split at h
  · unfold wordF at h
    dsimp only at h
    split at h
    · cases h
    split at h
    · cases h
    injection h with h1 h2; subst h1; exact hc _ _
  split at h
  · unfold numF at h
    dsimp only at h
    generalize (if decide (kindAt s p = 5) = true then p + 1 else p) = f at h
    split at h
    · cases h
    split at h
    · cases h
    split at h
    · cases h
    injection h with h1 h2; subst h1; exact Nat.zero_le _
  split at h
  · unfold textF at h
    split at h
    · cases h
    split at h
    · cases h
    rename_i h2
    injection h with h1 h3; subst h1; exact Nat.le_trans (Nat.le_of_not_lt h2) (by decide)
  split at h
  · injection h with h1 h2; subst h1; exact hc _ _
  · cases h
theorem scanL_ok {s : Tx} (hs : s.length ≤ 4000) : ∀ (f p : Nat) (l ts : List Tk), scanL s f p l = .ok ts → (∀ t ∈ l, t.kd ≠ 0 ∧ t.tx.length ≤ 4000) → TkOk ts ∧ ts.length ≤ l.length + f ∧ ∀ t ∈ ts, t.tx.length ≤ 4000
  | 0, p, l, ts, h, _ => by rw [scanL] at h; cases h
  | f + 1, p, l, ts, h, hl => by
    rw [scanL] at h
    split at h
    · cases h
    rename_i t q ht
    have htx := tokF_tx hs ht
    split at h
    · rename_i h0
      injection h with h
      subst h
      refine ⟨tkOk_snoc (fun x hx => (hl x hx).1) h0, by rw [List.length_append, List.length_singleton]; omega, fun x hx => ?_⟩
      rcases List.mem_append.1 hx with hx | hx
      · exact (hl x hx).2
      · rw [List.mem_singleton.1 hx]; exact htx
    · rename_i h0
      have := scanL_ok hs f q (l ++ [t]) ts h (fun x hx => by
        rcases List.mem_append.1 hx with hx | hx
        · exact hl x hx
        · rw [List.mem_singleton.1 hx]; exact ⟨h0, htx⟩)
      rw [List.length_append, List.length_singleton] at this
      exact ⟨this.1, by omega, this.2.2⟩
theorem scanF_ok {s : Tx} {ts : List Tk} (h : scanF s = .ok ts) : TkOk ts ∧ ts.length ≤ 100000 ∧ ∀ p, (tkAt ts p).tx.length ≤ 9223372036854775807 := by
  unfold scanF at h
  split at h
  · cases h
  rename_i hs
  obtain ⟨h1, h2, h3⟩ := scanL_ok (by omega) _ _ _ _ h (fun t ht => (by cases ht))
  refine ⟨h1, by simp at h2; omega, fun p => ?_⟩
  rw [tkAt, List.getD_eq_getElem?_getD]
  cases hp : ts[p]? with
  | none => exact Nat.zero_le _
  | some t => have := h3 t (List.mem_of_getElem? hp); show List.length _ ≤ _; simp only [Option.getD_some]; omega
end Go.Proofs.YtknfankadlokhaaDoor

namespace Go.Proofs.YtknfankadlokhaaDoor
open Go.RowKit
set_option linter.unusedVariables false
set_option linter.unusedSimpArgs false

theorem quot_le : ∀ (n : Nat) (r : Tx) (i : Nat) (out o : Tx) (q : Nat), r.length ≤ n → quotL r i out = .ok o q → i < q ∧ q ≤ i + r.length
  | n, [], i, out, o, q, _, h => by rw [quotL] at h; cases h
  | 0, c :: r, i, out, o, q, hn, h => by simp at hn
  | n + 1, c :: r, i, out, o, q, hn, h => by
    rw [List.length_cons] at hn ⊢
    rw [quotL.eq_def] at h
    dsimp only at h
    split at h
    · cases h
    split at h
    · injection h with h1 h2; omega
    split at h
    · cases r with
      | nil => cases h
      | cons d r =>
        dsimp only at h
        rw [List.length_cons] at hn ⊢
        split at h
        · have := quot_le n r (i + 2) _ _ _ (by omega) h; omega
        · cases h
    · have := quot_le n r (i + 1) _ _ _ (by omega) h; omega
theorem span_ge (g : UInt8 → Bool) (s : Tx) (p : Nat) : p ≤ spanF g s p := Nat.le_add_right _ _
theorem span_len (g : UInt8 → Bool) {s : Tx} {p : Nat} (h : p ≤ s.length) : spanF g s p ≤ s.length := by
  unfold spanF
  have h1 := (List.takeWhile_prefix g (l := s.drop p)).length_le
  rw [List.length_drop] at h1
  omega
theorem tok_adv {s : Tx} {p q : Nat} {t : Tk} (hp : p ≤ s.length) (h : tokF s p = .tok t q) : t.kd ≠ 0 → p < q ∧ q ≤ s.length := by
  intro hk
  unfold tokF at h
  dsimp only at h
  split at h
  · injection h with h1 h2; subst h1; exact absurd rfl hk
  rename_i hk0
  have hlt : p < s.length := by
    rcases Nat.lt_or_ge p s.length with h1 | h1
    · exact h1
    · unfold kindAt at hk0; rw [List.getElem?_eq_none h1] at hk0; exact absurd rfl hk0
  obtain ⟨c, hc⟩ : ∃ c, s[p]? = some c := ⟨_, List.getElem?_eq_getElem hlt⟩
  split at h
  · rename_i h3
    have hw : wordC c = true := by
      have : kindAt s p = clsF c := by unfold kindAt; rw [hc]
      exact decide_eq_true (.inl (by rw [← this]; exact h3))
    have e : spanF wordC s p = spanF wordC s (p + 1) := by
      unfold spanF; rw [drop_at hc, List.takeWhile_cons_of_pos hw, List.length_cons]; omega
    have h1 := span_ge wordC s (p + 1)
    have h2 := span_len wordC (s := s) (p := p) hp
    unfold wordF at h
    dsimp only at h
    split at h
    · cases h
    split at h
    · cases h
    injection h with h4 h5; omega
  split at h
  · unfold numF at h
    dsimp only at h
    obtain ⟨f, hf⟩ : ∃ f, f = (if decide (kindAt s p = 5) = true then p + 1 else p) := ⟨_, rfl⟩
    have hf1 : p ≤ f ∧ f ≤ s.length := by rw [hf]; split <;> omega
    rw [← hf] at h
    have h1 := span_ge digC s f
    have h2 := span_len digC hf1.2
    split at h
    · cases h
    rename_i hds
    have hne : f < spanF digC s f := by
      rcases Nat.lt_or_ge f (spanF digC s f) with h4 | h4
      · exact h4
      · refine absurd (.inl ?_) hds
        unfold cutF
        rw [show spanF digC s f - f = 0 by omega, List.take_zero]
    split at h
    · cases h
    split at h
    · cases h
    injection h with h4 h5; omega
  split at h
  · unfold textF at h
    split at h
    · cases h
    rename_i out q1 hq
    have := quot_le _ _ _ _ _ _ (Nat.le_refl _) hq
    rw [List.length_drop] at this
    split at h
    · cases h
    injection h with h4 h5; omega
  split at h
  · injection h with h4 h5; omega
  · cases h
theorem tok_err {s : Tx} {p q : Nat} {e : Int} (h : tokF s p = .err e q) : e ≠ 0 := by
  have key : ∀ {e' : Int} {q' : Nat}, Lx.err e' q' = Lx.err e q → e' ≠ 0 → e ≠ 0 := by
    intro e' q' h1 h2; injection h1 with h3 h4; rw [← h3]; exact h2
  unfold tokF at h
  dsimp only at h
  split at h
  · cases h
  split at h
  · unfold wordF at h
    dsimp only at h
    split at h
    · exact key h (by decide)
    split at h
    · exact key h (by decide)
    · cases h
  split at h
  · unfold numF at h
    dsimp only at h
    generalize (if decide (kindAt s p = 5) = true then p + 1 else p) = f at h
    split at h
    · exact key h (by decide)
    split at h
    · exact key h (by decide)
    split at h
    · exact key h (by decide)
    · cases h
  split at h
  · unfold textF at h
    split at h
    · exact key h (by decide)
    split at h
    · exact key h (by decide)
    · cases h
  split at h
  · cases h
  · exact key h (by decide)
end Go.Proofs.YtknfankadlokhaaDoor

namespace Go.Proofs.YtknfankadlokhaaDoor
open Go.RowKit
set_option linter.unusedVariables false
set_option linter.unusedSimpArgs false

/-- a place, and whether the token there does not fit -/
abbrev Pq := Nat × Bool
section
variable (ts : List Tk)
def isT (k : Int) (s : Tx) (p : Nat) : Bool := decide ((tkAt ts p).kd = k) && decide ((tkAt ts p).tx = s)
def tkT (k : Int) (s : Tx) (x : Pq) : Bool := !x.2 && isT ts k s x.1
def tkP (k : Int) (s : Tx) (x : Pq) : Pq := if tkT ts k s x = true then (x.1 + 1, x.2) else x
def ndP (k : Int) (s : Tx) (x : Pq) : Pq := ((tkP ts k s x).1, x.2 || !tkT ts k s x)
def anT (k : Int) (x : Pq) : Tx := if x.2 = true ∨ (tkAt ts x.1).kd ≠ k then [] else (tkAt ts x.1).tx
def anP (k : Int) (x : Pq) : Pq := if x.2 = true ∨ (tkAt ts x.1).kd ≠ k then (x.1, true) else (x.1 + 1, false)
def qSet (x : Pq) : Sg := (anT ts 1 x, anT ts 3 (ndP ts 4 [61] (anP ts 1 x)))
def qSetP (x : Pq) : Pq := anP ts 3 (ndP ts 4 [61] (anP ts 1 x))
def qSetsL : Nat → List Sg → Pq → Option (List Sg × Pq)
  | 0, _, _ => none
  | f + 1, l, x => if tkT ts 4 [44] x = true then qSetsL f (l ++ [qSet ts (tkP ts 4 [44] x)]) (qSetP ts (tkP ts 4 [44] x)) else some (l, x)
def qSets (f : Nat) (x : Pq) : Option (List Sg × Pq) := if (tkAt ts x.1).kd ≠ 1 then some ([], x) else qSetsL ts f [qSet ts x] (qSetP ts x)
mutual
def qOpr : Nat → Pq → Option (Cn × Pq)
  | 0, _ => none
  | f + 1, x =>
    if tkT ts 4 [33] x = true then
      match qOpr f (tkP ts 4 [33] x) with
      | none => none
      | some (c, y) => some (.mk 3 [] [] [c], y)
    else if tkT ts 4 [40] x = true then
      match qCon f (tkP ts 4 [40] x) with
      | none => none
      | some (c, y) => some (c, ndP ts 4 [41] y)
    else if (!x.2 && isT ts 1 wTrue x.1 && !isT ts 4 [61] (x.1 + 1)) = true then some (.mk 1 [] [] [], (x.1 + 1, x.2))
    else some (.mk 2 (qSet ts x).1 (qSet ts x).2 [], qSetP ts x)
def qCnj : Nat → Pq → Option (Cn × Pq)
  | 0, _ => none
  | f + 1, x => match qOpr f x with
    | none => none
    | some (c, y) => qCnjL f c y
def qCnjL : Nat → Cn → Pq → Option (Cn × Pq)
  | 0, _, _ => none
  | f + 1, c, x =>
    if tkT ts 4 [38] x = true then
      match qOpr f (tkP ts 4 [38] x) with
      | none => none
      | some (d, y) => qCnjL f (.mk 4 [] [] [c, d]) y
    else some (c, x)
def qCon : Nat → Pq → Option (Cn × Pq)
  | 0, _ => none
  | f + 1, x => match qCnj f x with
    | none => none
    | some (c, y) => qConL f c y
def qConL : Nat → Cn → Pq → Option (Cn × Pq)
  | 0, _, _ => none
  | f + 1, c, x =>
    if tkT ts 4 [124] x = true then
      match qCnj f (tkP ts 4 [124] x) with
      | none => none
      | some (d, y) => qConL f (.mk 5 [] [] [c, d]) y
    else some (c, x)
end
def qAftL : Nat → List Tx → Pq → Option (List Tx × Pq)
  | 0, _, _ => none
  | f + 1, l, x => if tkT ts 4 [44] x = true then qAftL f (l ++ [anT ts 1 (tkP ts 4 [44] x)]) (anP ts 1 (tkP ts 4 [44] x)) else some (l, x)
def qIf (f : Nat) (x : Pq) : Option (Cn × Pq) := if tkT ts 1 wIf x = true then qCon ts f (tkP ts 1 wIf x) else some (.mk 1 [] [] [], x)
def qAft (f : Nat) (x : Pq) : Option (List Tx × Pq) := if tkT ts 1 wAfter x = true then qAftL ts f [anT ts 1 (tkP ts 1 wAfter x)] (anP ts 1 (tkP ts 1 wAfter x)) else some ([], x)
def qBrac (f : Nat) (x : Pq) : Option (List Sg × Pq) :=
  if tkT ts 4 [123] x = true then
    match qSets ts f (tkP ts 4 [123] x) with
    | none => none
    | some (l, y) => some (l, ndP ts 4 [125] y)
  else some ([], x)
def qHd (x : Pq) : Pq := ndP ts 1 wNode x
def qMid (x : Pq) : Pq := ndP ts 4 [58] (anP ts 1 (qHd ts x))
def qEnt (f : Nat) (x : Pq) : Option (Ln × Pq) :=
  match qIf ts f (anP ts 1 (qMid ts x)) with
  | none => none
  | some (c, y) => match qAft ts f y with
    | none => none
    | some (a, y) => match qBrac ts f y with
      | none => none
      | some (s, y) => some (⟨anT ts 1 (qHd ts x), anT ts 1 (qMid ts x), c, a, s⟩, y)
def qLstL : Nat → List Ln → Pq → Option (List Ln × Pq)
  | 0, _, _ => none
  | f + 1, l, x => if (!x.2 && decide ((tkAt ts x.1).kd ≠ 0)) = true then
      match qEnt ts f x with
      | none => none
      | some (e, y) => qLstL f (l ++ [e]) y
    else some (l, x)
end
section
variable {ts : List Tk}
theorem tkT_kd {k : Int} {s : Tx} {x : Pq} (h : tkT ts k s x = true) : x.2 = false ∧ (tkAt ts x.1).kd = k ∧ (tkAt ts x.1).tx = s := by
  unfold tkT isT at h
  rw [Bool.and_eq_true, Bool.and_eq_true] at h
  exact ⟨by simpa using h.1, of_decide_eq_true h.2.1, of_decide_eq_true h.2.2⟩
theorem tkP_yes {k : Int} {s : Tx} {x : Pq} (h : tkT ts k s x = true) : tkP ts k s x = (x.1 + 1, x.2) := if_pos h
theorem tkP_no {k : Int} {s : Tx} {x : Pq} (h : tkT ts k s x = false) : tkP ts k s x = x := if_neg (by simp [h])
theorem tkP_lt (hk : TkOk ts) {k : Int} {s : Tx} {x : Pq} (h0 : k ≠ 0) (hx : x.1 < ts.length) : x.1 ≤ (tkP ts k s x).1 ∧ (tkP ts k s x).1 < ts.length := by
  cases h : tkT ts k s x
  · rw [tkP_no h]; exact ⟨Nat.le_refl _, hx⟩
  · rw [tkP_yes h]; exact ⟨Nat.le_succ _, hk.next hx (by rw [(tkT_kd h).2.1]; exact h0)⟩
theorem ndP_lt (hk : TkOk ts) {k : Int} {s : Tx} {x : Pq} (h0 : k ≠ 0) (hx : x.1 < ts.length) : x.1 ≤ (ndP ts k s x).1 ∧ (ndP ts k s x).1 < ts.length := tkP_lt hk h0 hx
theorem anP_lt (hk : TkOk ts) {k : Int} {x : Pq} (h0 : k ≠ 0) (hx : x.1 < ts.length) : x.1 ≤ (anP ts k x).1 ∧ (anP ts k x).1 < ts.length := by
  unfold anP
  split
  · exact ⟨Nat.le_refl _, hx⟩
  · rename_i h
    rw [not_or] at h
    exact ⟨Nat.le_succ _, hk.next hx (by rw [Decidable.not_not.1 h.2]; exact h0)⟩
theorem anT_len {k : Int} {x : Pq} {m : Nat} (h : ∀ p, (tkAt ts p).tx.length ≤ m) : (anT ts k x).length ≤ m := by
  unfold anT; split
  · exact Nat.zero_le _
  · exact h _
theorem qSetP_lt (hk : TkOk ts) {x : Pq} (hx : x.1 < ts.length) : x.1 ≤ (qSetP ts x).1 ∧ (qSetP ts x).1 < ts.length := by
  have h1 := anP_lt hk (k := 1) (by decide) hx
  have h2 := ndP_lt hk (k := 4) (s := [61]) (by decide) h1.2
  have h3 := anP_lt hk (k := 3) (by decide) h2.2
  exact ⟨Nat.le_trans h1.1 (Nat.le_trans h2.1 h3.1), h3.2⟩
theorem qSet_len {x : Pq} {m : Nat} (h : ∀ p, (tkAt ts p).tx.length ≤ m) : (qSet ts x).1.length ≤ m ∧ (qSet ts x).2.length ≤ m := ⟨anT_len h, anT_len h⟩
theorem qSetsL_lt (hk : TkOk ts) {m : Nat} (htl : ∀ p, (tkAt ts p).tx.length ≤ m) : ∀ (f : Nat) (l : List Sg) (x : Pq) {l' : List Sg} {y : Pq}, x.1 < ts.length → l.length ≤ x.1 + 1 → (∀ s ∈ l, s.2.length ≤ m) → qSetsL ts f l x = some (l', y) → x.1 ≤ y.1 ∧ y.1 < ts.length ∧ l'.length ≤ y.1 + 1 ∧ ∀ s ∈ l', s.2.length ≤ m
  | 0, l, x, l', y, _, _, _, h => by rw [qSetsL] at h; cases h
  | f + 1, l, x, l', y, hx, hl, hs, h => by
    rw [qSetsL] at h
    split at h
    · rename_i ht
      have h1 := tkP_lt hk (k := 4) (s := [44]) (by decide) hx
      have h2 := qSetP_lt hk h1.2
      have e1 : (tkP ts 4 [44] x).1 = x.1 + 1 := by rw [tkP_yes ht]
      have := qSetsL_lt hk htl f _ _ h2.2 (by rw [List.length_append, List.length_singleton]; omega) (fun s hm => by
        rcases List.mem_append.1 hm with hm | hm
        · exact hs s hm
        · rw [List.mem_singleton.1 hm]; exact (qSet_len htl).2) h
      exact ⟨by omega, this.2⟩
    · injection h with h; injection h with h3 h4; subst h3 h4; exact ⟨Nat.le_refl _, hx, hl, hs⟩
theorem qSets_lt (hk : TkOk ts) {m : Nat} (htl : ∀ p, (tkAt ts p).tx.length ≤ m) {f : Nat} {x y : Pq} {l : List Sg} (hx : x.1 < ts.length) (h : qSets ts f x = some (l, y)) : x.1 ≤ y.1 ∧ y.1 < ts.length ∧ l.length ≤ y.1 + 1 ∧ ∀ s ∈ l, s.2.length ≤ m := by
  unfold qSets at h
  split at h
  · injection h with h; injection h with h3 h4; subst h3 h4; exact ⟨Nat.le_refl _, hx, Nat.zero_le _, fun s hs => (by cases hs)⟩
  · have h2 := qSetP_lt hk hx
    have := qSetsL_lt hk htl f _ _ h2.2 (by show 1 ≤ _; omega) (fun s hm => by rw [List.mem_singleton.1 hm]; exact (qSet_len htl).2) h
    exact ⟨by omega, this.2⟩
theorem qpar_lt (hk : TkOk ts) : ∀ f : Nat, (∀ x c y, x.1 < ts.length → qOpr ts f x = some (c, y) → x.1 ≤ y.1 ∧ y.1 < ts.length) ∧ (∀ x c y, x.1 < ts.length → qCnj ts f x = some (c, y) → x.1 ≤ y.1 ∧ y.1 < ts.length) ∧
    (∀ a x c y, x.1 < ts.length → qCnjL ts f a x = some (c, y) → x.1 ≤ y.1 ∧ y.1 < ts.length) ∧ (∀ x c y, x.1 < ts.length → qCon ts f x = some (c, y) → x.1 ≤ y.1 ∧ y.1 < ts.length) ∧ (∀ a x c y, x.1 < ts.length → qConL ts f a x = some (c, y) → x.1 ≤ y.1 ∧ y.1 < ts.length)
  | 0 => ⟨fun p c q _ h => (by rw [qOpr] at h; cases h), fun p c q _ h => (by rw [qCnj] at h; cases h), fun a p c q _ h => (by rw [qCnjL] at h; cases h), fun p c q _ h => (by rw [qCon] at h; cases h), fun a p c q _ h => (by rw [qConL] at h; cases h)⟩
  | f + 1 => by
    obtain ⟨i1, i2, i3, i4, i5⟩ := qpar_lt hk f
    have ht := fun (s : Tx) (x : Pq) (hx : x.1 < ts.length) => tkP_lt hk (k := 4) (s := s) (by decide) hx
    refine ⟨fun x c y hx h => ?_, fun x c y hx h => ?_, fun a x c y hx h => ?_, fun x c y hx h => ?_, fun a x c y hx h => ?_⟩
    · rw [qOpr] at h
      split at h
      · have h1 := ht [33] x hx
        split at h
        · cases h
        · rename_i d z hz
          injection h with h; injection h with h3 h4; subst h4
          have := i1 _ _ _ h1.2 hz
          exact ⟨by omega, this.2⟩
      split at h
      · have h1 := ht [40] x hx
        split at h
        · cases h
        · rename_i d z hz
          injection h with h; injection h with h3 h4; subst h4
          have h2 := i4 _ _ _ h1.2 hz
          have h5 := ndP_lt hk (k := 4) (s := [41]) (by decide) h2.2
          exact ⟨by omega, h5.2⟩
      split at h
      · rename_i hm
        injection h with h; injection h with h3 h4; subst h4
        rw [Bool.and_eq_true, Bool.and_eq_true] at hm
        have := hm.1.2
        unfold isT at this
        rw [Bool.and_eq_true] at this
        exact ⟨Nat.le_succ _, hk.next hx (by rw [of_decide_eq_true this.1]; decide)⟩
      · injection h with h; injection h with h3 h4; subst h4
        exact qSetP_lt hk hx
    · rw [qCnj] at h
      split at h
      · cases h
      · rename_i d z hz
        have h1 := i1 _ _ _ hx hz
        have h2 := i3 _ _ _ _ h1.2 h
        exact ⟨by omega, h2.2⟩
    · rw [qCnjL] at h
      split at h
      · have h1 := ht [38] x hx
        split at h
        · cases h
        · rename_i d z hz
          have h2 := i1 _ _ _ h1.2 hz
          have h3 := i3 _ _ _ _ h2.2 h
          exact ⟨by omega, h3.2⟩
      · injection h with h; injection h with h3 h4; subst h4; exact ⟨Nat.le_refl _, hx⟩
    · rw [qCon] at h
      split at h
      · cases h
      · rename_i d z hz
        have h1 := i2 _ _ _ hx hz
        have h2 := i5 _ _ _ _ h1.2 h
        exact ⟨by omega, h2.2⟩
    · rw [qConL] at h
      split at h
      · have h1 := ht [124] x hx
        split at h
        · cases h
        · rename_i d z hz
          have h2 := i2 _ _ _ h1.2 hz
          have h3 := i5 _ _ _ _ h2.2 h
          exact ⟨by omega, h3.2⟩
      · injection h with h; injection h with h3 h4; subst h4; exact ⟨Nat.le_refl _, hx⟩
theorem qIf_lt (hk : TkOk ts) {f : Nat} {x y : Pq} {c : Cn} (hx : x.1 < ts.length) (h : qIf ts f x = some (c, y)) : x.1 ≤ y.1 ∧ y.1 < ts.length := by
  unfold qIf at h
  split at h
  · have h1 := tkP_lt hk (k := 1) (s := wIf) (by decide) hx
    have h2 := (qpar_lt hk f).2.2.2.1 _ _ _ h1.2 h
    exact ⟨by omega, h2.2⟩
  · injection h with h; injection h with h3 h4; subst h4; exact ⟨Nat.le_refl _, hx⟩
theorem qAftL_lt (hk : TkOk ts) : ∀ (f : Nat) (l : List Tx) (x : Pq) {l' : List Tx} {y : Pq}, x.1 < ts.length → l.length ≤ x.1 + 1 → qAftL ts f l x = some (l', y) → x.1 ≤ y.1 ∧ y.1 < ts.length ∧ l'.length ≤ y.1 + 1
  | 0, l, x, l', y, _, _, h => by rw [qAftL] at h; cases h
  | f + 1, l, x, l', y, hx, hl, h => by
    rw [qAftL] at h
    split at h
    · rename_i ht
      have h1 := tkP_lt hk (k := 4) (s := [44]) (by decide) hx
      have h2 := anP_lt hk (k := 1) (by decide) h1.2
      have e1 : (tkP ts 4 [44] x).1 = x.1 + 1 := by rw [tkP_yes ht]
      have := qAftL_lt hk f _ _ h2.2 (by rw [List.length_append, List.length_singleton]; omega) h
      exact ⟨by omega, this.2⟩
    · injection h with h; injection h with h3 h4; subst h3 h4; exact ⟨Nat.le_refl _, hx, hl⟩
theorem qAft_lt (hk : TkOk ts) {f : Nat} {x y : Pq} {l : List Tx} (hx : x.1 < ts.length) (h : qAft ts f x = some (l, y)) : x.1 ≤ y.1 ∧ y.1 < ts.length ∧ l.length ≤ y.1 + 1 := by
  unfold qAft at h
  split at h
  · have h1 := tkP_lt hk (k := 1) (s := wAfter) (by decide) hx
    have h2 := anP_lt hk (k := 1) (by decide) h1.2
    have := qAftL_lt hk f _ _ h2.2 (by show 1 ≤ _; omega) h
    exact ⟨by omega, this.2⟩
  · injection h with h; injection h with h3 h4; subst h3 h4; exact ⟨Nat.le_refl _, hx, Nat.zero_le _⟩
theorem qBrac_lt (hk : TkOk ts) {m : Nat} (htl : ∀ p, (tkAt ts p).tx.length ≤ m) {f : Nat} {x y : Pq} {l : List Sg} (hx : x.1 < ts.length) (h : qBrac ts f x = some (l, y)) : x.1 ≤ y.1 ∧ y.1 < ts.length ∧ l.length ≤ y.1 + 1 ∧ ∀ s ∈ l, s.2.length ≤ m := by
  unfold qBrac at h
  split at h
  · have h1 := tkP_lt hk (k := 4) (s := [123]) (by decide) hx
    split at h
    · cases h
    · rename_i l1 z hz
      have h2 := qSets_lt hk htl h1.2 hz
      have h3 := ndP_lt hk (k := 4) (s := [125]) (by decide) h2.2.1
      injection h with h; injection h with h4 h5; subst h4 h5
      exact ⟨by omega, h3.2, by omega, h2.2.2.2⟩
  · injection h with h; injection h with h4 h5; subst h4 h5; exact ⟨Nat.le_refl _, hx, Nat.zero_le _, fun s hs => (by cases hs)⟩
theorem qHd_lt (hk : TkOk ts) {x : Pq} (hx : x.1 < ts.length) : x.1 ≤ (qHd ts x).1 ∧ (qHd ts x).1 < ts.length := ndP_lt hk (by decide) hx
theorem qMid_lt (hk : TkOk ts) {x : Pq} (hx : x.1 < ts.length) : x.1 ≤ (qMid ts x).1 ∧ (qMid ts x).1 < ts.length := by
  have h1 := qHd_lt hk hx
  have h2 := anP_lt hk (k := 1) (by decide) h1.2
  have h3 := ndP_lt hk (k := 4) (s := [58]) (by decide) h2.2
  exact ⟨by unfold qMid; omega, h3.2⟩
end
end Go.Proofs.YtknfankadlokhaaDoor

namespace Go.Proofs.YtknfankadlokhaaDoor
open Go.RowKit
set_option linter.unusedVariables false
set_option linter.unusedSimpArgs false

theorem idxP_find {α : Type} (p : α → Bool) (l : List α) : (idxP p l = -1 ∧ l.find? p = none) ∨ ∃ (i : Nat) (x : α), idxP p l = i ∧ l[i]? = some x ∧ p x = true ∧ l.find? p = some x := by
  rcases idxP_spec p l with ⟨h, hno⟩ | ⟨i, x, h, hx, hp, hno⟩
  · left
    refine ⟨h, ?_⟩
    rw [List.find?_eq_none]
    intro x hx
    obtain ⟨j, hj⟩ := List.getElem?_of_mem hx
    rw [hno j x hj]; simp
  · right
    refine ⟨i, x, h, hx, hp, ?_⟩
    rw [List.find?_eq_some_iff_getElem]
    have hl := List.getElem?_eq_some_iff.1 hx
    refine ⟨hp, i, hl.1, hl.2, fun j hj => ?_⟩
    rw [hno j _ hj (List.getElem?_eq_getElem (by have := hl.1; omega))]; rfl
/-- how many entries' nodes are not listed yet -/
def leftF (l : List Ln) (ns : List Tx) : Nat := l.countP (fun x => !hasF ns x.node)
theorem hasF_snoc (ns : List Tx) (m n : Tx) : hasF (ns ++ [m]) n = (hasF ns n || decide (n = m)) := by simp [hasF]
theorem hasF_mem {ns : List Tx} {n : Tx} : hasF ns n = true ↔ n ∈ ns := by
  unfold hasF
  rw [List.any_eq_true]
  constructor
  · rintro ⟨x, hx, h⟩
    rw [of_decide_eq_true h]; exact hx
  · intro h
    exact ⟨n, h, decide_eq_true rfl⟩
theorem countP_lt {α : Type} {p q : α → Bool} : ∀ {l : List α} {x : α}, x ∈ l → (∀ y, q y = true → p y = true) → p x = true → q x = false → l.countP q < l.countP p
  | [], x, h, _, _, _ => by simp at h
  | y :: l, x, h, hqp, hp, hq => by
    have hle : l.countP q ≤ l.countP p := List.countP_mono_left (fun z _ hz => hqp z hz)
    rcases List.mem_cons.1 h with rfl | h
    · rw [List.countP_cons, List.countP_cons, hp, hq]; simp; omega
    · have := countP_lt h hqp hp hq
      rw [List.countP_cons, List.countP_cons]
      by_cases h1 : q y = true
      · simp only [h1, hqp y h1, if_true]; omega
      · simp only [h1]
        split <;> simp_all <;> omega
theorem leftF_snoc {l : List Ln} {ns : List Tx} {x : Ln} (hx : x ∈ l) (hn : hasF ns x.node = false) : leftF l (ns ++ [x.node]) < leftF l ns := by
  unfold leftF
  refine countP_lt hx (fun y hy => ?_) (by rw [hn]; rfl) (by rw [hasF_snoc]; simp)
  rw [hasF_snoc] at hy
  cases h : hasF ns y.node
  · rfl
  · rw [h] at hy; simp at hy
theorem leftF_nil (l : List Ln) : leftF l [] = l.length := by
  unfold leftF
  rw [List.countP_eq_length]
  intro x _; rfl
theorem runF_stop {l : List Ln} {ns : List Tx} (h : l.find? (readyF ns) = none) (k : Nat) : runF l k ns = ns := by
  cases k with
  | zero => rfl
  | succ k => rw [runF, h]
theorem ready_has {ns : List Tx} {x : Ln} (h : readyF ns x = true) : hasF ns x.node = false ∧ ∀ n ∈ x.after, hasF ns n = true := by
  unfold readyF at h
  rw [Bool.and_eq_true, List.all_eq_true] at h
  refine ⟨?_, h.2⟩
  cases hh : hasF ns x.node
  · rfl
  · rw [hh] at h; simp at h
/-- one step of the run: there is enough fuel -/
theorem runF_step {l : List Ln} {ns : List Tx} {x : Ln} {f : Nat} (hf : leftF l ns ≤ f) (h : l.find? (readyF ns) = some x) : ∃ f', leftF l (ns ++ [x.node]) ≤ f' ∧ runF l f ns = runF l f' (ns ++ [x.node]) := by
  have hx := List.mem_of_find?_eq_some h
  have hr := ready_has (List.find?_some h)
  have := leftF_snoc hx hr.1
  cases f with
  | zero => omega
  | succ f => exact ⟨f, by omega, by rw [runF, h]⟩
/-- what a list of nodes that is being made looks like -/
structure Going (l : List Ln) (ns : List Tx) : Prop where
  run : ∃ f, leftF l ns ≤ f ∧ runF l f ns = startF l
  room : ns.length + leftF l ns ≤ l.length
theorem Going.nil (l : List Ln) : Going l [] := ⟨⟨l.length, by rw [leftF_nil]; exact Nat.le_refl _, rfl⟩, by rw [leftF_nil]; simp⟩
theorem Going.step {l : List Ln} {ns : List Tx} {x : Ln} (h : Going l ns) (hx : l.find? (readyF ns) = some x) : Going l (ns ++ [x.node]) := by
  obtain ⟨f, hf, hr⟩ := h.run
  obtain ⟨f', hf', he⟩ := runF_step hf hx
  have := leftF_snoc (List.mem_of_find?_eq_some hx) (ready_has (List.find?_some hx)).1
  refine ⟨⟨f', hf', he.symm.trans hr⟩, ?_⟩
  have := h.room
  rw [List.length_append]; simp; omega
theorem Going.stop {l : List Ln} {ns : List Tx} (h : Going l ns) (hx : l.find? (readyF ns) = none) : ns = startF l := by
  obtain ⟨f, _, hr⟩ := h.run
  rw [← hr, runF_stop hx]
/-- by steps: whatever holds of every stage holds of the order -/
theorem going_ind {l : List Ln} {p : List Tx → Prop} (h0 : p []) (hs : ∀ ns x, p ns → l.find? (readyF ns) = some x → p (ns ++ [x.node])) : p (startF l) := by
  have : ∀ (k : Nat) (ns : List Tx), p ns → p (runF l k ns) := by
    intro k
    induction k with
    | zero => intro ns h; exact h
    | succ k ih =>
      intro ns h
      rw [runF]
      split
      · exact h
      · rename_i x hx; exact ih _ (hs ns x h hx)
  exact this _ _ h0
theorem start_len (l : List Ln) : (startF l).length ≤ l.length := by
  have : Going l (startF l) := going_ind (Going.nil l) (fun ns x h hx => h.step hx)
  have := this.room
  omega
end Go.Proofs.YtknfankadlokhaaDoor

namespace Go.Proofs.YtknfankadlokhaaDoor
open Go.RowKit
set_option linter.unusedVariables false
set_option linter.unusedSimpArgs false

theorem check_parts {l : List Ln} (h : checkF l = 0) : l.length ≤ 24 ∧ (∀ j, j < l.length → entryF l j = 0) ∧ l.length ≤ (startF l).length := by
  unfold checkF at h
  split at h
  · cases h
  · dsimp only at h
    split at h
    · rename_i h1; exact absurd h h1
    · rename_i h1 h2
      refine ⟨by omega, firstE_zero (Decidable.not_not.1 h2), ?_⟩
      split at h
      · cases h
      · omega
theorem entry_parts {l : List Ln} {i : Nat} {x : Ln} (hx : l[i]? = some x) (h : entryF l i = 0) : nameF x.node = true ∧ nameF x.prog = true ∧ idxF (l.take i) x.node < 0 ∧ condF x.cond = 0 ∧ listsF l x = 0 := by
  unfold entryF at h
  rw [hx] at h
  dsimp only at h
  split at h
  · cases h
  · rename_i h1
    split at h
    · cases h
    · rename_i h2
      split at h
      · rename_i h3; exact absurd h h3
      · rename_i h3
        simp only [not_or, Bool.not_eq_false] at h1
        exact ⟨h1.1, h1.2, by omega, Decidable.not_not.1 h3, h⟩
theorem lists_parts {l : List Ln} {x : Ln} (h : listsF l x = 0) : (∀ j, j < x.sets.length → setE x.sets j = 0) ∧ (∀ j, j < x.after.length → aftE l x.after j = 0) := by
  unfold listsF at h
  dsimp only at h
  split at h
  · rename_i h1; exact absurd h h1
  · rename_i h1
    exact ⟨firstE_zero (Decidable.not_not.1 h1), firstE_zero h⟩
theorem after_parts {l : List Ln} {a : List Tx} (h : ∀ j, j < a.length → aftE l a j = 0) {i : Nat} {n : Tx} (hn : a[i]? = some n) : 0 ≤ idxF l n ∧ hasF (a.take i) n = false := by
  have h1 := h i (List.getElem?_eq_some_iff.1 hn).1
  unfold aftE at h1
  rw [hn] at h1
  dsimp only at h1
  split at h1
  · cases h1
  · split at h1
    · cases h1
    · rename_i h2 h3
      exact ⟨by omega, by unfold hasF; exact Bool.eq_false_iff.2 h3⟩
theorem sets_parts {s : List Sg} (h : ∀ j, j < s.length → setE s j = 0) {i : Nat} {x : Sg} (hx : s[i]? = some x) : nameF x.1 = true ∧ plainF x.2 = true ∧ (s.take i).any (fun y => decide (y.1 = x.1)) = false := by
  have h1 := h i (List.getElem?_eq_some_iff.1 hx).1
  unfold setE at h1
  rw [hx] at h1
  dsimp only at h1
  split at h1
  · cases h1
  · split at h1
    · cases h1
    · split at h1
      · cases h1
      · rename_i h2 h3 h4
        exact ⟨by simpa using h2, by simpa using h4, Bool.eq_false_iff.2 h3⟩
theorem plainF_size {s : Tx} (h : plainF s = true) : s.length ≤ 200 := by
  unfold plainF at h
  rw [Bool.and_eq_true] at h
  exact of_decide_eq_true h.1
/-- the nodes of a description -/
def nodesF (l : List Ln) : List Tx := l.map (·.node)
theorem idxF_mem {l : List Ln} {n : Tx} : 0 ≤ idxF l n ↔ n ∈ nodesF l := by
  have h := idxP_pos (fun x : Ln => decide (x.node = n)) l
  unfold idxF nodesF
  rw [← decide_eq_true_iff (p := 0 ≤ _), h, List.any_eq_true, List.mem_map]
  simp
theorem idxF_at {l : List Ln} {n : Tx} (h : 0 ≤ idxF l n) : ∃ (i : Nat) (x : Ln), idxF l n = i ∧ l[i]? = some x ∧ x.node = n := by
  rcases idxP_spec (fun x : Ln => decide (x.node = n)) l with ⟨h1, _⟩ | ⟨i, x, h1, h2, h3, _⟩
  · unfold idxF at h; omega
  · exact ⟨i, x, h1, h2, of_decide_eq_true h3⟩
theorem nodup_of_has {a : List Tx} (h : ∀ (i : Nat) (n : Tx), a[i]? = some n → hasF (a.take i) n = false) : a.Nodup := by
  rw [List.nodup_iff_pairwise_ne, List.pairwise_iff_getElem]
  intro i j hi hj hij e
  have := h j _ (List.getElem?_eq_getElem hj)
  have hm : a[j] ∈ a.take j := by
    rw [← e]
    exact List.mem_take_iff_getElem.2 ⟨i, by omega, rfl⟩
  rw [hasF_mem.2 hm] at this; cases this
theorem nodup_len : ∀ {m a : List Tx}, a.Nodup → (∀ n ∈ a, n ∈ m) → a.length ≤ m.length
  | [], a, _, hs => by
    cases a with
    | nil => simp
    | cons x _ => exact absurd (hs x List.mem_cons_self) (by simp)
  | x :: m, a, hn, hs => by
    by_cases hx : x ∈ a
    · have h1 := nodup_len (m := m) (hn.erase x) (fun n hna => by
        have := (hn.mem_erase_iff).1 hna
        rcases List.mem_cons.1 (hs n this.2) with e | h
        · exact absurd e this.1
        · exact h)
      have h2 := List.length_erase_of_mem hx
      have h3 : 0 < a.length := List.length_pos_of_mem hx
      rw [List.length_cons]; omega
    · have h1 := nodup_len (m := m) hn (fun n hna => by
        rcases List.mem_cons.1 (hs n hna) with e | h
        · subst e; exact absurd hna hx
        · exact h)
      rw [List.length_cons]; omega
theorem nodup_snoc {a : List Tx} {n : Tx} (h : a.Nodup) (hn : hasF a n = false) : (a ++ [n]).Nodup := by
  rw [List.nodup_append]
  refine ⟨h, by simp, fun x hx y hy e => ?_⟩
  rw [List.mem_singleton] at hy
  subst hy; subst e
  rw [hasF_mem.2 hx] at hn; cases hn
/-- what an entry with this node has in its After -/
def aftOf (l : List Ln) (n : Tx) : List Tx := match l[(idxF l n).toNat]? with | some x => x.after | none => []
def addF (t : List Tx) (a : List Tx) : List Tx := a.foldl (fun t n => if hasF t n = true then t else t ++ [n]) t
def depR (l : List Ln) (b : Tx) : Nat → Nat → List Tx → Bool
  | 0, _, _ => false
  | k + 1, i, t => match t[i]? with
    | none => false
    | some x => if x = b then true else depR l b k (i + 1) (addF t (aftOf l x))
def depF (l : List Ln) (a b : Tx) : Bool := depR l b (l.length + 1) 0 (aftOf l a)
def dependsF (l : List Ln) (a b : Tx) : Bool := decide (checkF l = 0) && (decide (0 ≤ idxF l a) && (decide (0 ≤ idxF l b) && depF l a b))
/-- a list of nodes without doubles -/
structure Todo (l : List Ln) (t : List Tx) : Prop where
  nodup : t.Nodup
  nodes : ∀ n ∈ t, n ∈ nodesF l
theorem Todo.len {l : List Ln} {t : List Tx} (h : Todo l t) : t.length ≤ l.length := by
  have := nodup_len h.nodup h.nodes
  unfold nodesF at this
  rwa [List.length_map] at this
theorem after_todo {l : List Ln} {x : Ln} (h : checkF l = 0) (hx : x ∈ l) : Todo l x.after := by
  obtain ⟨i, hi⟩ := List.getElem?_of_mem hx
  obtain ⟨_, he, _⟩ := check_parts h
  obtain ⟨_, _, _, _, hl⟩ := entry_parts hi (he i (List.getElem?_eq_some_iff.1 hi).1)
  obtain ⟨_, ha⟩ := lists_parts hl
  refine ⟨nodup_of_has fun i n hn => (after_parts ha hn).2, fun n hn => ?_⟩
  obtain ⟨j, hj⟩ := List.getElem?_of_mem hn
  exact idxF_mem.1 (after_parts ha hj).1
theorem Todo.add {l : List Ln} {t : List Tx} (h : Todo l t) {n : Tx} (hn : n ∈ nodesF l) : Todo l (if hasF t n = true then t else t ++ [n]) := by
  split
  · exact h
  · rename_i hh
    refine ⟨nodup_snoc h.nodup (by simpa using hh), fun m hm => ?_⟩
    rcases List.mem_append.1 hm with hm | hm
    · exact h.nodes m hm
    · rw [List.mem_singleton] at hm; subst hm; exact hn
theorem Todo.adds {l : List Ln} : ∀ {a t : List Tx}, Todo l t → (∀ n ∈ a, n ∈ nodesF l) → Todo l (addF t a)
  | [], t, h, _ => h
  | n :: a, t, h, ha => by
    have : addF t (n :: a) = addF (if hasF t n = true then t else t ++ [n]) a := rfl
    rw [this]
    exact Todo.adds (h.add (ha n List.mem_cons_self)) (fun m hm => ha m (List.mem_cons_of_mem _ hm))
theorem addF_take {a t : List Tx} {j : Nat} {n : Tx} (hn : a[j]? = some n) : addF t (a.take (j + 1)) = if hasF (addF t (a.take j)) n = true then addF t (a.take j) else addF t (a.take j) ++ [n] := by
  unfold addF
  rw [List.take_add_one, hn, List.foldl_append]; rfl
theorem addF_len : ∀ (a t : List Tx), t.length ≤ (addF t a).length
  | [], t => Nat.le_refl _
  | n :: a, t => by
    have : addF t (n :: a) = addF (if hasF t n = true then t else t ++ [n]) a := rfl
    rw [this]
    refine Nat.le_trans ?_ (addF_len a _)
    split <;> simp
theorem addF_get : ∀ (a t : List Tx) (i : Nat) (x : Tx), t[i]? = some x → (addF t a)[i]? = some x
  | [], t, i, x, h => h
  | n :: a, t, i, x, h => by
    have : addF t (n :: a) = addF (if hasF t n = true then t else t ++ [n]) a := rfl
    rw [this]
    refine addF_get a _ i x ?_
    split
    · exact h
    · rw [List.getElem?_append_left (List.getElem?_eq_some_iff.1 h).1]; exact h
end Go.Proofs.YtknfankadlokhaaDoor
