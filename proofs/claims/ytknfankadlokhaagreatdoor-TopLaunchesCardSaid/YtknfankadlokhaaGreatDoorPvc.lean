/- Printed conditions, and that they are parsed again. No conditions. -/
import Derived.Test.YtknfankadlokhaaGreatDoorPvb
import Derived.Test.YtknfankadlokhaaGreatDoorNA
import Derived.Test.YtknfankadlokhaaGreatDoorNB

namespace Go.Proofs.YtknfankadlokhaaGreatDoor
open Go.RowKit
set_option linter.unusedVariables false
set_option linter.unusedSimpArgs false

def sEq : Tx := [32, 61, 32]
def sAnd : Tx := [32, 38, 32]
def sOr : Tx := [32, 124, 32]
def parF (yes : Bool) (s : Tx) : Tx := if yes = true then 40 :: (s ++ [41]) else s
def prtO (op : Int) (n t : Tx) (l : List (Int × Tx)) : Tx :=
  if op = 2 then n ++ (sEq ++ quotF t)
  else if op = 3 then 33 :: parF (decide ((l.getD 0 (0, [])).1 = 5 ∨ (l.getD 0 (0, [])).1 = 4)) (l.getD 0 (0, [])).2
  else if op = 4 then parF (decide ((l.getD 0 (0, [])).1 = 5)) (l.getD 0 (0, [])).2 ++ (sAnd ++ parF (decide ((l.getD 1 (0, [])).1 = 5 ∨ (l.getD 1 (0, [])).1 = 4)) (l.getD 1 (0, [])).2)
  else if op = 5 then (l.getD 0 (0, [])).2 ++ (sOr ++ parF (decide ((l.getD 1 (0, [])).1 = 5)) (l.getD 1 (0, [])).2)
  else wTrue
mutual
/-- the text of a condition -/
def prtF : Cn → Tx
  | .mk op n t ars => prtO op n t (prtL ars)
def prtL : List Cn → List (Int × Tx)
  | [] => []
  | a :: ars => (a.op, prtF a) :: prtL ars
end
def parX (yes : Bool) (l : List (Int × Tx)) : List (Int × Tx) := if yes = true then (4, [40]) :: (l ++ [(4, [41])]) else l
def lexO (op : Int) (n t : Tx) (l : List (Int × List (Int × Tx))) : List (Int × Tx) :=
  if op = 2 then [(1, n), (4, [61]), (3, t)]
  else if op = 3 then (4, [33]) :: parX (decide ((l.getD 0 (0, [])).1 = 5 ∨ (l.getD 0 (0, [])).1 = 4)) (l.getD 0 (0, [])).2
  else if op = 4 then parX (decide ((l.getD 0 (0, [])).1 = 5)) (l.getD 0 (0, [])).2 ++ ((4, [38]) :: parX (decide ((l.getD 1 (0, [])).1 = 5 ∨ (l.getD 1 (0, [])).1 = 4)) (l.getD 1 (0, [])).2)
  else if op = 5 then (l.getD 0 (0, [])).2 ++ ((4, [124]) :: parX (decide ((l.getD 1 (0, [])).1 = 5)) (l.getD 1 (0, [])).2)
  else [(1, wTrue)]
mutual
/-- its tokens -/
def lexF : Cn → List (Int × Tx)
  | .mk op n t ars => lexO op n t (lexL ars)
def lexL : List Cn → List (Int × List (Int × Tx))
  | [] => []
  | a :: ars => (a.op, lexF a) :: lexL ars
end
/-- what a well-formed condition may be -/
theorem form_cases {op : Int} {n t : Tx} {ars : List Cn} (h : formC (.mk op n t ars) = true) :
    (op = 1 ∧ n = [] ∧ t = [] ∧ ars = []) ∨ (op = 2 ∧ ars = [] ∧ nameF n = true ∧ plainF t = true) ∨ (∃ a, op = 3 ∧ n = [] ∧ t = [] ∧ ars = [a] ∧ formC a = true) ∨
    (∃ a b, (op = 4 ∨ op = 5) ∧ n = [] ∧ t = [] ∧ ars = [a, b] ∧ formC a = true ∧ formC b = true) := by
  rw [formC, Bool.and_eq_true] at h
  obtain ⟨h1, h2⟩ := h
  unfold kindF at h1
  split at h1
  · rename_i ho
    simp only [Bool.and_eq_true, decide_eq_true_eq] at h1
    exact .inr (.inl ⟨ho, List.length_eq_zero_iff.1 h1.1, h1.2.1, h1.2.2⟩)
  · simp only [Bool.and_eq_true, decide_eq_true_eq] at h1
    obtain ⟨h3, hn, ht⟩ := h1
    rcases h3 with ⟨ho, hl⟩ | ⟨ho, hl⟩ | ⟨ho, hl⟩
    · exact .inl ⟨ho, hn, ht, List.length_eq_zero_iff.1 hl⟩
    · obtain ⟨a, rfl⟩ := List.length_eq_one_iff.1 hl
      rw [formCs, Bool.and_eq_true] at h2
      exact .inr (.inr (.inl ⟨a, ho, hn, ht, rfl, h2.1⟩))
    · obtain ⟨a, b, rfl⟩ : ∃ a b, ars = [a, b] := by match ars, hl with | [a, b], _ => exact ⟨a, b, rfl⟩
      rw [formCs, formCs, Bool.and_eq_true, Bool.and_eq_true] at h2
      exact .inr (.inr (.inr ⟨a, b, ho, hn, ht, rfl, h2.1, h2.2.1⟩))
theorem hd_cons {c : UInt8} {r : Tx} (h : wordC c = false ∧ clsF c ≠ 5) : Hd (c :: r) := fun d hd => by
  injection hd with hd; subst hd; exact h
/-! ## the scan of a printed condition -/
section
variable {r : Tx} {L : List (Int × Tx)}
def LxC (c : Cn) : Prop := ∀ (r : Tx) (L : List (Int × Tx)), Hd r → Lxs r L → Lxs (prtF c ++ r) (lexF c ++ L)
theorem par_lxs {c : Cn} (h : LxC c) (yes : Bool) (hr : Hd r) (hl : Lxs r L) : Lxs (parF yes (prtF c) ++ r) (parX yes (lexF c) ++ L) := by
  unfold parF parX
  cases yes with
  | false => exact h r L hr hl
  | true =>
    rw [if_pos rfl, if_pos rfl]
    have e1 : 40 :: (prtF c ++ [41]) ++ r = 40 :: (prtF c ++ 41 :: r) := by simp
    have e2 : ((4, [40]) :: (lexF c ++ [(4, [41])]) ++ L : List (Int × Tx)) = (4, [40]) :: (lexF c ++ (4, [41]) :: L) := by simp
    rw [e1, e2]
    exact Lxs.mark (by decide) (h _ _ (hd_cons (by decide)) (Lxs.mark (by decide) hl))
theorem prt_lxs : ∀ c : Cn, formC c = true → LxC c := by
  intro c
  induction c using Cn.ind with
  | h op n t ar ih =>
  intro hf r L hr hl
  rw [prtF, lexF]
  rcases form_cases hf with ⟨rfl, rfl, rfl, rfl⟩ | ⟨rfl, rfl, hn, ht⟩ | ⟨a, rfl, rfl, rfl, rfl, ha⟩ | ⟨a, b, ho, rfl, rfl, rfl, ha, hb⟩
  · exact Lxs.word (n := wTrue) (by decide) hr hl
  · show Lxs (n ++ (sEq ++ quotF t) ++ r) ((1, n) :: (4, [61]) :: (3, t) :: L)
    have e : n ++ (sEq ++ quotF t) ++ r = n ++ 32 :: 61 :: 32 :: (quotF t ++ r) := by unfold sEq; simp
    rw [e]
    exact Lxs.word hn (hd_cons (by decide)) (Lxs.blank (by decide) (Lxs.mark (by decide) (Lxs.blank (by decide) (Lxs.text ht hl))))
  · have ha := ih a (List.mem_cons_self ..) ha
    rw [prtL, lexL]
    show Lxs (33 :: (parF _ (prtF a) ++ r)) ((4, [33]) :: (parX _ (lexF a) ++ L))
    exact Lxs.mark (by decide) (par_lxs ha _ hr hl)
  · have ha := ih a (List.mem_cons_self ..) ha
    have hb := ih b (List.mem_cons_of_mem _ (List.mem_cons_self ..)) hb
    rw [prtL, prtL, lexL, lexL]
    rcases ho with rfl | rfl
    · show Lxs (parF _ (prtF a) ++ (sAnd ++ parF _ (prtF b)) ++ r) (parX _ (lexF a) ++ ((4, [38]) :: parX _ (lexF b)) ++ L)
      rw [List.append_assoc, List.append_assoc, List.append_assoc]
      exact par_lxs ha _ (hd_cons (by decide)) (Lxs.blank (by decide) (Lxs.mark (by decide) (Lxs.blank (by decide) (par_lxs hb _ hr hl))))
    · show Lxs (prtF a ++ (sOr ++ parF _ (prtF b)) ++ r) (lexF a ++ ((4, [124]) :: parX _ (lexF b)) ++ L)
      rw [List.append_assoc, List.append_assoc, List.append_assoc]
      exact ha _ _ (hd_cons (by decide)) (Lxs.blank (by decide) (Lxs.mark (by decide) (Lxs.blank (by decide) (par_lxs hb _ hr hl))))
end
/-! ## its parse: with enough fuel -/
/-- what stands from a place on -/
def Tat (ts : List Tk) (p : Nat) (L : List (Int × Tx)) : Prop := (ts.map kt).drop p = L
section
variable {ts : List Tk} {p q r : Nat} {L R : List (Int × Tx)} {k : Int} {x : Tx} {a b c d : Cn}
theorem Tat.tk (h : Tat ts p ((k, x) :: L)) : (tkAt ts p).kd = k ∧ (tkAt ts p).tx = x ∧ Tat ts (p + 1) L := by
  unfold Tat at h ⊢
  have h1 : (ts.map kt)[p]? = some (k, x) := by
    have := congrArg (·[0]?) h
    simpa using this
  rw [List.getElem?_map] at h1
  have h2 : tkAt ts p = (ts[p]?).getD Tk.zero := by rw [tkAt, List.getD_eq_getElem?_getD]
  cases ht : ts[p]? with
  | none => rw [ht] at h1; cases h1
  | some t =>
    rw [ht] at h1 h2
    injection h1 with h1
    injection h1 with e1 e2
    rw [h2]
    refine ⟨e1, e2, ?_⟩
    rw [← List.drop_drop, h]; rfl
theorem Tat.skip (h : Tat ts p (L ++ R)) : Tat ts (p + L.length) R := by
  unfold Tat at h ⊢
  rw [← List.drop_drop, h, List.drop_left]
theorem Tat.mk_ (h : Tat ts p ((k, x) :: L)) (m : UInt8) : mkB ts p m = (decide (k = 4) && decide (x = [m])) := by
  obtain ⟨h1, h2, _⟩ := h.tk
  unfold mkB; rw [h1, h2]
theorem Tat.no (h : Tat ts p L) (m : UInt8) (hn : L.head? ≠ some (4, [m])) : ¬ mkB ts p m = true := by
  intro e
  unfold mkB at e
  rw [Bool.and_eq_true] at e
  have h1 := of_decide_eq_true e.1
  have h2 := of_decide_eq_true e.2
  cases L with
  | nil =>
    unfold Tat at h
    have hp : ts.length ≤ p := by
      have := congrArg List.length h
      rw [List.length_drop, List.length_map] at this
      simp at this; omega
    rw [tkAt, List.getD_eq_getElem?_getD, List.getElem?_eq_none hp] at h1
    cases h1
  | cons y L =>
    obtain ⟨k, x⟩ := y
    obtain ⟨g1, g2, _⟩ := h.tk
    exact hn (by rw [List.head?_cons, ← g1, ← g2, h1, h2])
def PO (ts : List Tk) (p : Nat) (c : Cn) (q : Nat) : Prop := ∃ N, ∀ f, N ≤ f → oprF ts f p = some (.ok c q)
def PC (ts : List Tk) (p : Nat) (c : Cn) (q : Nat) : Prop := ∃ N, ∀ f, N ≤ f → cnjF ts f p = some (.ok c q)
def PCL (ts : List Tk) (a : Cn) (p : Nat) (c : Cn) (q : Nat) : Prop := ∃ N, ∀ f, N ≤ f → cnjL ts f a p = some (.ok c q)
def PN (ts : List Tk) (p : Nat) (c : Cn) (q : Nat) : Prop := ∃ N, ∀ f, N ≤ f → conF ts f p = some (.ok c q)
def PNL (ts : List Tk) (a : Cn) (p : Nat) (c : Cn) (q : Nat) : Prop := ∃ N, ∀ f, N ≤ f → conL ts f a p = some (.ok c q)
theorem PO.not (h33 : mkB ts p 33 = true) (h : PO ts (p + 1) c q) : PO ts p (.mk 3 [] [] [c]) q := by
  obtain ⟨N, h⟩ := h
  refine ⟨N + 1, fun f hf => ?_⟩
  obtain ⟨f, rfl⟩ : ∃ n, f = n + 1 := ⟨f - 1, by omega⟩
  rw [oprF, if_pos h33, h f (by omega)]
theorem PO.par (h33 : ¬ mkB ts p 33 = true) (h40 : mkB ts p 40 = true) (h : PN ts (p + 1) c q) (h41 : mkB ts q 41 = true) : PO ts p c (q + 1) := by
  obtain ⟨N, h⟩ := h
  refine ⟨N + 1, fun f hf => ?_⟩
  obtain ⟨f, rfl⟩ : ∃ n, f = n + 1 := ⟨f - 1, by omega⟩
  rw [oprF, if_neg h33, if_pos h40, h f (by omega)]
  exact if_pos h41
theorem PO.eq (h33 : ¬ mkB ts p 33 = true) (h40 : ¬ mkB ts p 40 = true) (hk : (tkAt ts p).kd = 1) (h61 : mkB ts (p + 1) 61 = true) (h3 : (tkAt ts (p + 2)).kd = 3) : PO ts p (.mk 2 (tkAt ts p).tx (tkAt ts (p + 2)).tx []) (p + 3) := by
  refine ⟨1, fun f hf => ?_⟩
  obtain ⟨f, rfl⟩ : ∃ n, f = n + 1 := ⟨f - 1, by omega⟩
  rw [oprF, if_neg h33, if_neg h40, if_neg (fun e => e hk), if_pos h61, if_pos h3]
theorem PO.tr (h33 : ¬ mkB ts p 33 = true) (h40 : ¬ mkB ts p 40 = true) (hk : (tkAt ts p).kd = 1) (h61 : ¬ mkB ts (p + 1) 61 = true) (ht : (tkAt ts p).tx = wTrue) : PO ts p (.mk 1 [] [] []) (p + 1) := by
  refine ⟨1, fun f hf => ?_⟩
  obtain ⟨f, rfl⟩ : ∃ n, f = n + 1 := ⟨f - 1, by omega⟩
  rw [oprF, if_neg h33, if_neg h40, if_neg (fun e => e hk), if_neg h61, if_neg (fun e => e ht)]
theorem PCL.stop (h : ¬ mkB ts p 38 = true) : PCL ts a p a p := by
  refine ⟨1, fun f hf => ?_⟩
  obtain ⟨f, rfl⟩ : ∃ n, f = n + 1 := ⟨f - 1, by omega⟩
  rw [cnjL, if_neg h]
theorem PCL.step (h : mkB ts p 38 = true) (hd : PO ts (p + 1) d q) (hl : PCL ts (.mk 4 [] [] [a, d]) q c r) : PCL ts a p c r := by
  obtain ⟨N, hd⟩ := hd
  obtain ⟨M, hl⟩ := hl
  refine ⟨N + M + 1, fun f hf => ?_⟩
  obtain ⟨f, rfl⟩ : ∃ n, f = n + 1 := ⟨f - 1, by omega⟩
  rw [cnjL, if_pos h, hd f (by omega)]
  exact hl f (by omega)
theorem PC.mk_ (ha : PO ts p a q) (hl : PCL ts a q c r) : PC ts p c r := by
  obtain ⟨N, ha⟩ := ha
  obtain ⟨M, hl⟩ := hl
  refine ⟨N + M + 1, fun f hf => ?_⟩
  obtain ⟨f, rfl⟩ : ∃ n, f = n + 1 := ⟨f - 1, by omega⟩
  rw [cnjF, ha f (by omega)]
  exact hl f (by omega)
theorem PNL.stop (h : ¬ mkB ts p 124 = true) : PNL ts a p a p := by
  refine ⟨1, fun f hf => ?_⟩
  obtain ⟨f, rfl⟩ : ∃ n, f = n + 1 := ⟨f - 1, by omega⟩
  rw [conL, if_neg h]
theorem PNL.step (h : mkB ts p 124 = true) (hd : PC ts (p + 1) d q) (hl : PNL ts (.mk 5 [] [] [a, d]) q c r) : PNL ts a p c r := by
  obtain ⟨N, hd⟩ := hd
  obtain ⟨M, hl⟩ := hl
  refine ⟨N + M + 1, fun f hf => ?_⟩
  obtain ⟨f, rfl⟩ : ∃ n, f = n + 1 := ⟨f - 1, by omega⟩
  rw [conL, if_pos h, hd f (by omega)]
  exact hl f (by omega)
theorem PN.mk_ (ha : PC ts p a q) (hl : PNL ts a q c r) : PN ts p c r := by
  obtain ⟨N, ha⟩ := ha
  obtain ⟨M, hl⟩ := hl
  refine ⟨N + M + 1, fun f hf => ?_⟩
  obtain ⟨f, rfl⟩ : ∃ n, f = n + 1 := ⟨f - 1, by omega⟩
  rw [conF, ha f (by omega)]
  exact hl f (by omega)
/-- so far a conjunction is read; so far a condition is read -/
def CPx (ts : List Tk) (p : Nat) (c : Cn) (q : Nat) : Prop := ∀ d r, PCL ts c q d r → PC ts p d r
def NPx (ts : List Tk) (p : Nat) (c : Cn) (q : Nat) : Prop := ∀ d r, PNL ts c q d r → PN ts p d r
theorem PO.cp (h : PO ts p c q) : CPx ts p c q := fun d r hl => PC.mk_ h hl
theorem CPx.pc (h : CPx ts p c q) (hn : ¬ mkB ts q 38 = true) : PC ts p c q := h _ _ (PCL.stop hn)
theorem CPx.np (h : CPx ts p c q) (hn : ¬ mkB ts q 38 = true) : NPx ts p c q := fun d r hl => PN.mk_ (h.pc hn) hl
theorem NPx.pn (h : NPx ts p c q) (hn : ¬ mkB ts q 124 = true) : PN ts p c q := h _ _ (PNL.stop hn)
/-- how a condition is read -/
structure Rd3 (c : Cn) : Prop where
  opr : ∀ (ts : List Tk) (p : Nat) (R : List (Int × Tx)), c.op ≠ 4 → c.op ≠ 5 → Tat ts p (lexF c ++ R) → R.head? ≠ some (4, [61]) → PO ts p c (p + (lexF c).length)
  cnj : ∀ (ts : List Tk) (p : Nat) (R : List (Int × Tx)), c.op ≠ 5 → Tat ts p (lexF c ++ R) → R.head? ≠ some (4, [61]) → CPx ts p c (p + (lexF c).length)
  con : ∀ (ts : List Tk) (p : Nat) (R : List (Int × Tx)), Tat ts p (lexF c ++ R) → R.head? ≠ some (4, [61]) → R.head? ≠ some (4, [38]) → NPx ts p c (p + (lexF c).length)
/-- one in parentheses, or an operand -/
theorem Rd3.px (h : Rd3 c) (yes : Bool) (hy : yes = false → c.op ≠ 4 ∧ c.op ≠ 5) (ht : Tat ts p (parX yes (lexF c) ++ R)) (hR : R.head? ≠ some (4, [61])) : PO ts p c (p + (parX yes (lexF c)).length) := by
  unfold parX at ht ⊢
  cases yes with
  | false => exact h.opr ts p R (hy rfl).1 (hy rfl).2 ht hR
  | true =>
    rw [if_pos rfl] at ht ⊢
    rw [show ((4, [40]) :: (lexF c ++ [(4, [41])]) ++ R : List (Int × Tx)) = (4, [40]) :: (lexF c ++ (4, [41]) :: R) by simp] at ht
    obtain ⟨_, _, h1⟩ := ht.tk
    have h2 := h1.skip
    have hn := (h.con ts (p + 1) _ h1 (by simp) (by simp)).pn (h2.no 124 (by simp))
    have := PO.par (ht.no 33 (by simp)) (by rw [ht.mk_]; rfl) hn (by rw [h2.mk_]; rfl)
    rw [show p + ((4, [40]) :: (lexF c ++ [(4, [41])]) : List (Int × Tx)).length = p + 1 + (lexF c).length + 1 by simp; omega]
    exact this
theorem rd3_of_opr {c : Cn} (h : ∀ (ts : List Tk) (p : Nat) (R : List (Int × Tx)), Tat ts p (lexF c ++ R) → R.head? ≠ some (4, [61]) → PO ts p c (p + (lexF c).length)) : Rd3 c :=
  ⟨fun ts p R _ _ ht hR => h ts p R ht hR, fun ts p R _ ht hR => (h ts p R ht hR).cp, fun ts p R ht hR hA => (h ts p R ht hR).cp.np (ht.skip.no 38 hA)⟩
theorem rd3_all : ∀ c : Cn, formC c = true → Rd3 c := by
  intro c
  induction c using Cn.ind with
  | h op n t ar ih =>
  intro hf
  rcases form_cases hf with ⟨rfl, rfl, rfl, rfl⟩ | ⟨rfl, rfl, hn, ht⟩ | ⟨a, rfl, rfl, rfl, rfl, ha⟩ | ⟨a, b, ho, rfl, rfl, rfl, ha, hb⟩
  · refine rd3_of_opr fun ts p R h hR => ?_
    have h : Tat ts p ((1, wTrue) :: R) := h
    obtain ⟨h1, h2, h3⟩ := h.tk
    exact PO.tr (h.no 33 (by simp)) (h.no 40 (by simp)) h1 (h3.no 61 hR) h2
  · refine rd3_of_opr fun ts p R h hR => ?_
    have h : Tat ts p ((1, n) :: (4, [61]) :: (3, t) :: R) := h
    obtain ⟨h1, h2, h3⟩ := h.tk
    obtain ⟨h4, h5, h6⟩ := h3.tk
    obtain ⟨h7, h8, _⟩ := h6.tk
    have := PO.eq (ts := ts) (p := p) (h.no 33 (by simp)) (h.no 40 (by simp)) h1 (by rw [h3.mk_]; rfl) h7
    rw [h2, h8] at this
    exact this
  · have ha := ih a (List.mem_cons_self ..) ha
    refine rd3_of_opr fun ts p R h hR => ?_
    rw [lexF, lexL, show lexL [] = [] from rfl] at h ⊢
    have h : Tat ts p ((4, [33]) :: (parX (decide (a.op = 5 ∨ a.op = 4)) (lexF a) ++ R)) := h
    obtain ⟨_, _, h3⟩ := h.tk
    have := PO.not (by rw [h.mk_]; rfl) (ha.px _ (fun e => by have := of_decide_eq_false e; omega) h3 hR)
    have e : (lexO 3 [] [] [(a.op, lexF a)]).length = (parX (decide (a.op = 5 ∨ a.op = 4)) (lexF a)).length + 1 := rfl
    rw [e, show p + ((parX (decide (a.op = 5 ∨ a.op = 4)) (lexF a)).length + 1) = p + 1 + (parX (decide (a.op = 5 ∨ a.op = 4)) (lexF a)).length by omega]
    exact this
  · have ha := ih a (List.mem_cons_self ..) ha
    have hb := ih b (List.mem_cons_of_mem _ (List.mem_cons_self ..)) hb
    rcases ho with rfl | rfl
    · have key : ∀ (ts : List Tk) (p : Nat) (R : List (Int × Tx)), Tat ts p (lexF (.mk 4 [] [] [a, b]) ++ R) → R.head? ≠ some (4, [61]) → CPx ts p (.mk 4 [] [] [a, b]) (p + (lexF (.mk 4 [] [] [a, b])).length) := by
        intro ts p R h hR
        rw [lexF, lexL, lexL] at h ⊢
        have e : lexO 4 [] [] [(a.op, lexF a), (b.op, lexF b)] = parX (decide (a.op = 5)) (lexF a) ++ ((4, [38]) :: parX (decide (b.op = 5 ∨ b.op = 4)) (lexF b)) := rfl
        rw [show lexL [] = [] from rfl, e] at h ⊢
        rw [List.append_assoc] at h
        have h1 := h.skip
        have h1 : Tat ts (p + (parX (decide (a.op = 5)) (lexF a)).length) ((4, [38]) :: (parX (decide (b.op = 5 ∨ b.op = 4)) (lexF b) ++ R)) := h1
        obtain ⟨_, _, h2⟩ := h1.tk
        have hbo := hb.px _ (fun e => by have := of_decide_eq_false e; omega) h2 hR
        have hac : CPx ts p a (p + (parX (decide (a.op = 5)) (lexF a)).length) := by
          by_cases h5 : a.op = 5
          · exact (ha.px _ (fun e => absurd h5 (of_decide_eq_false e)) h (by simp)).cp
          · have e2 : parX (decide (a.op = 5)) (lexF a) = lexF a := by rw [decide_eq_false h5]; rfl
            rw [e2] at h ⊢
            exact ha.cnj ts p _ h5 h (by simp)
        intro d r hl
        refine hac d r (PCL.step (by rw [h1.mk_]; rfl) hbo ?_)
        rw [show p + (parX (decide (a.op = 5)) (lexF a)).length + 1 + (parX (decide (b.op = 5 ∨ b.op = 4)) (lexF b)).length = p + (parX (decide (a.op = 5)) (lexF a) ++ ((4, [38]) :: parX (decide (b.op = 5 ∨ b.op = 4)) (lexF b))).length by simp; omega]
        exact hl
      exact ⟨fun ts p R h4 _ _ _ => absurd rfl h4, fun ts p R _ h hR => key ts p R h hR, fun ts p R h hR hA => (key ts p R h hR).np (h.skip.no 38 hA)⟩
    · refine ⟨fun ts p R _ h5 _ _ => absurd rfl h5, fun ts p R h5 _ _ => absurd rfl h5, fun ts p R h hR hA => ?_⟩
      rw [lexF, lexL, lexL] at h ⊢
      have e : lexO 5 [] [] [(a.op, lexF a), (b.op, lexF b)] = lexF a ++ ((4, [124]) :: parX (decide (b.op = 5)) (lexF b)) := rfl
      rw [show lexL [] = [] from rfl, e] at h ⊢
      rw [List.append_assoc] at h
      have h1 : Tat ts (p + (lexF a).length) ((4, [124]) :: (parX (decide (b.op = 5)) (lexF b) ++ R)) := h.skip
      obtain ⟨_, _, h2⟩ := h1.tk
      have hac := ha.con ts p _ h (by simp) (by simp)
      have hbc : PC ts (p + (lexF a).length + 1) b (p + (lexF a).length + 1 + (parX (decide (b.op = 5)) (lexF b)).length) := by
        refine CPx.pc ?_ (h2.skip.no 38 hA)
        by_cases h5 : b.op = 5
        · exact (hb.px _ (fun e => absurd h5 (of_decide_eq_false e)) h2 hR).cp
        · have e2 : parX (decide (b.op = 5)) (lexF b) = lexF b := by rw [decide_eq_false h5]; rfl
          rw [e2] at h2 ⊢
          exact hb.cnj ts _ _ h5 h2 hR
      intro d r hl
      refine hac d r (PNL.step (by rw [h1.mk_]; rfl) hbc ?_)
      rw [show p + (lexF a).length + 1 + (parX (decide (b.op = 5)) (lexF b)).length = p + (lexF a ++ ((4, [124]) :: parX (decide (b.op = 5)) (lexF b))).length by simp; omega]
      exact hl
/-- a printed condition is parsed again -/
theorem con_again {c : Cn} (hf : formC c = true) (h : Tat ts p (lexF c ++ R)) (h1 : R.head? ≠ some (4, [61])) (h2 : R.head? ≠ some (4, [38])) (h3 : R.head? ≠ some (4, [124])) : PN ts p c (p + (lexF c).length) :=
  ((rd3_all c hf).con ts p R h h1 h2).pn (h.skip.no 124 h3)
end
end Go.Proofs.YtknfankadlokhaaGreatDoor
