/- Printed descriptions, and that they are parsed again. No conditions. -/
import Derived.Test.YtknfankadlokhaaGreatDoorPvc
import Derived.Test.YtknfankadlokhaaGreatDoorNA

namespace Go.Proofs.YtknfankadlokhaaGreatDoor
open Go.RowKit
set_option linter.unusedVariables false
set_option linter.unusedSimpArgs false

def sNode : Tx := [110, 111, 100, 101, 32]
def sCol : Tx := [58, 32]
def sIf : Tx := [32, 105, 102, 32]
def sAft : Tx := [32, 97, 102, 116, 101, 114, 32]
def sOpen : Tx := [32, 123, 32]
def sClose : Tx := [32, 125]
def sSep : Tx := [44, 32]
def joinF : List Tx → Tx
  | [] => []
  | a :: l => a ++ l.flatMap (fun b => sSep ++ b)
def setT (s : Sg) : Tx := s.1 ++ (sEq ++ quotF s.2)
def condT (x : Ln) : Tx := if x.cond.op ≠ 1 then sIf ++ prtF x.cond else []
def aftT (x : Ln) : Tx := if 0 < x.after.length then sAft ++ joinF x.after else []
def setsT (x : Ln) : Tx := if 0 < x.sets.length then sOpen ++ (joinF (x.sets.map setT) ++ sClose) else []
/-- the text of an entry, and of a description -/
def fmtE (x : Ln) : Tx := sNode ++ (x.node ++ (sCol ++ (x.prog ++ (condT x ++ (aftT x ++ (setsT x ++ [10]))))))
def fmtF (l : List Ln) : Tx := l.flatMap fmtE
abbrev LX := List (Int × Tx)
def comX : List LX → LX
  | [] => []
  | a :: l => a ++ l.flatMap (fun b => (4, [44]) :: b)
def nameX (a : Tx) : LX := [(1, a)]
def setX (s : Sg) : LX := [(1, s.1), (4, [61]), (3, s.2)]
def condX (x : Ln) : LX := if x.cond.op ≠ 1 then (1, wIf) :: lexF x.cond else []
def aftX (x : Ln) : LX := if 0 < x.after.length then (1, wAfter) :: comX (x.after.map nameX) else []
def setsX (x : Ln) : LX := if 0 < x.sets.length then (4, [123]) :: (comX (x.sets.map setX) ++ [(4, [125])]) else []
def lexE (x : Ln) : LX := (1, wNode) :: (1, x.node) :: (4, [58]) :: (1, x.prog) :: (condX x ++ (aftX x ++ setsX x))
/-- an entry that is well-formed by itself -/
structure GoodE (x : Ln) : Prop where
  node : nameF x.node = true
  prog : nameF x.prog = true
  cond : formC x.cond = true
  after : ∀ a ∈ x.after, nameF a = true
  sets : ∀ s ∈ x.sets, nameF s.1 = true ∧ plainF s.2 = true
theorem good_of_check {l : List Ln} (h : checkF l = 0) {x : Ln} (hx : x ∈ l) : GoodE x ∧ levC x.cond ≤ 6 := by
  obtain ⟨_, h1, _⟩ := check_parts h
  obtain ⟨i, hi⟩ := List.getElem?_of_mem hx
  have hn : ∀ y ∈ l, nameF y.node = true := fun y hy => by
    obtain ⟨j, hj⟩ := List.getElem?_of_mem hy
    exact (entry_parts hj (h1 j (List.getElem?_eq_some_iff.1 hj).1)).1
  obtain ⟨e1, e2, _, e4, e5⟩ := entry_parts hi (h1 i (List.getElem?_eq_some_iff.1 hi).1)
  obtain ⟨l1, l2⟩ := lists_parts e5
  have hg := (condF_zero x.cond).1 e4
  unfold goodC at hg
  rw [Bool.and_eq_true] at hg
  refine ⟨⟨e1, e2, hg.2, fun a ha => ?_, fun s hs => ?_⟩, of_decide_eq_true hg.1⟩
  · obtain ⟨j, hj⟩ := List.getElem?_of_mem ha
    obtain ⟨k, y, _, hy, e⟩ := idxF_at (after_parts l2 hj).1
    rw [← e]; exact hn y (List.mem_of_getElem? hy)
  · obtain ⟨j, hj⟩ := List.getElem?_of_mem hs
    have := sets_parts l1 hj
    exact ⟨this.1, this.2.1⟩
/-! ## the scan -/
section
variable {r : Tx} {L : LX}
theorem Hd.blank : Hd (32 :: r) := hd_cons (by decide)
theorem Hd.nl : Hd (10 :: r) := hd_cons (by decide)
def LxP (t : Tx) (x : LX) : Prop := ∀ (r : Tx) (L : LX), Hd r → Lxs r L → Lxs (t ++ r) (x ++ L)
theorem join_tail : ∀ (l : List (Tx × LX)), (∀ y ∈ l, LxP y.1 y.2) → Hd r → Lxs r L → Hd (l.flatMap (fun y => sSep ++ y.1) ++ r) ∧ Lxs (l.flatMap (fun y => sSep ++ y.1) ++ r) (l.flatMap (fun y => (4, [44]) :: y.2) ++ L)
  | [], _, hr, hl => ⟨hr, hl⟩
  | y :: l, h, hr, hl => by
    obtain ⟨i1, i2⟩ := join_tail l (fun z hz => h z (List.mem_cons_of_mem _ hz)) hr hl
    have e : (y :: l).flatMap (fun y => sSep ++ y.1) ++ r = 44 :: 32 :: (y.1 ++ (l.flatMap (fun y => sSep ++ y.1) ++ r)) := by
      rw [List.flatMap_cons]; unfold sSep; simp
    have e2 : (y :: l).flatMap (fun y => ((4, [44]) : Int × Tx) :: y.2) ++ L = (4, [44]) :: (y.2 ++ (l.flatMap (fun y => ((4, [44]) : Int × Tx) :: y.2) ++ L)) := by
      rw [List.flatMap_cons]; simp
    rw [e, e2]
    exact ⟨hd_cons (by decide), Lxs.mark (by decide) (Lxs.blank (by decide) (h y (List.mem_cons_self ..) _ _ i1 i2))⟩
theorem join_lxs (l : List (Tx × LX)) (h : ∀ y ∈ l, LxP y.1 y.2) : LxP (joinF (l.map Prod.fst)) (comX (l.map Prod.snd)) := by
  intro r L hr hl
  cases l with
  | nil => exact hl
  | cons y l =>
    obtain ⟨i1, i2⟩ := join_tail l (fun z hz => h z (List.mem_cons_of_mem _ hz)) hr hl
    rw [List.map_cons, List.map_cons, joinF, comX, List.flatMap_map, List.flatMap_map, List.append_assoc, List.append_assoc]
    exact h y (List.mem_cons_self ..) _ _ i1 i2
theorem name_lxp {a : Tx} (h : nameF a = true) : LxP a (nameX a) := fun r L hr hl => Lxs.word h hr hl
theorem set_lxp {s : Sg} (h : nameF s.1 = true ∧ plainF s.2 = true) : LxP (setT s) (setX s) := fun r L hr hl => by
  have e : setT s ++ r = s.1 ++ 32 :: 61 :: 32 :: (quotF s.2 ++ r) := by unfold setT sEq; simp
  rw [e]
  exact Lxs.word h.1 (hd_cons (by decide)) (Lxs.blank (by decide) (Lxs.mark (by decide) (Lxs.blank (by decide) (Lxs.text h.2 hl))))
theorem names_lxp {a : List Tx} (h : ∀ n ∈ a, nameF n = true) : LxP (joinF a) (comX (a.map nameX)) := by
  have := join_lxs (a.map (fun n => (n, nameX n))) (fun y hy => by
    obtain ⟨n, hn, rfl⟩ := List.mem_map.1 hy
    exact name_lxp (h n hn))
  simpa [List.map_map, Function.comp_def] using this
theorem sets_lxp {a : List Sg} (h : ∀ s ∈ a, nameF s.1 = true ∧ plainF s.2 = true) : LxP (joinF (a.map setT)) (comX (a.map setX)) := by
  have := join_lxs (a.map (fun n => (setT n, setX n))) (fun y hy => by
    obtain ⟨n, hn, rfl⟩ := List.mem_map.1 hy
    exact set_lxp (h n hn))
  simpa [List.map_map, Function.comp_def] using this
theorem ent_lxs {x : Ln} (h : GoodE x) (hl : Lxs r L) : Lxs (fmtE x ++ r) (lexE x ++ L) := by
  have h0 : Hd (10 :: r) ∧ Lxs (10 :: r) L := ⟨Hd.nl, Lxs.blank (by decide) hl⟩
  have h1 : Hd (setsT x ++ 10 :: r) ∧ Lxs (setsT x ++ 10 :: r) (setsX x ++ L) := by
    unfold setsT setsX
    by_cases hs : 0 < x.sets.length
    · rw [if_pos hs, if_pos hs]
      have e : sOpen ++ (joinF (x.sets.map setT) ++ sClose) ++ 10 :: r = 32 :: 123 :: 32 :: (joinF (x.sets.map setT) ++ 32 :: 125 :: 10 :: r) := by unfold sOpen sClose; simp
      have e2 : ((4, [123]) :: (comX (x.sets.map setX) ++ [(4, [125])]) ++ L : LX) = (4, [123]) :: (comX (x.sets.map setX) ++ (4, [125]) :: L) := by simp
      rw [e, e2]
      exact ⟨Hd.blank, Lxs.blank (by decide) (Lxs.mark (by decide) (Lxs.blank (by decide) (sets_lxp h.sets _ _ Hd.blank (Lxs.blank (by decide) (Lxs.mark (by decide) h0.2)))))⟩
    · rw [if_neg hs, if_neg hs]; exact h0
  have h2 : Hd (aftT x ++ (setsT x ++ 10 :: r)) ∧ Lxs (aftT x ++ (setsT x ++ 10 :: r)) (aftX x ++ (setsX x ++ L)) := by
    unfold aftT aftX
    by_cases hs : 0 < x.after.length
    · rw [if_pos hs, if_pos hs]
      have e : sAft ++ joinF x.after ++ (setsT x ++ 10 :: r) = 32 :: (wAfter ++ 32 :: (joinF x.after ++ (setsT x ++ 10 :: r))) := by unfold sAft wAfter; simp
      rw [e]
      exact ⟨Hd.blank, Lxs.blank (by decide) (Lxs.word (n := wAfter) (by decide) Hd.blank (Lxs.blank (by decide) (names_lxp h.after _ _ h1.1 h1.2)))⟩
    · rw [if_neg hs, if_neg hs]; exact h1
  have h3 : Hd (condT x ++ (aftT x ++ (setsT x ++ 10 :: r))) ∧ Lxs (condT x ++ (aftT x ++ (setsT x ++ 10 :: r))) (condX x ++ (aftX x ++ (setsX x ++ L))) := by
    unfold condT condX
    by_cases hs : x.cond.op ≠ 1
    · rw [if_pos hs, if_pos hs]
      have e : sIf ++ prtF x.cond ++ (aftT x ++ (setsT x ++ 10 :: r)) = 32 :: (wIf ++ 32 :: (prtF x.cond ++ (aftT x ++ (setsT x ++ 10 :: r)))) := by unfold sIf wIf; simp
      rw [e]
      exact ⟨Hd.blank, Lxs.blank (by decide) (Lxs.word (n := wIf) (by decide) Hd.blank (Lxs.blank (by decide) (prt_lxs _ h.cond _ _ h2.1 h2.2)))⟩
    · rw [if_neg hs, if_neg hs]; exact h2
  have e : fmtE x ++ r = wNode ++ 32 :: (x.node ++ 58 :: 32 :: (x.prog ++ (condT x ++ (aftT x ++ (setsT x ++ 10 :: r))))) := by unfold fmtE sNode sCol wNode; simp
  have e2 : lexE x ++ L = (1, wNode) :: (1, x.node) :: (4, [58]) :: (1, x.prog) :: (condX x ++ (aftX x ++ (setsX x ++ L))) := by unfold lexE; simp
  rw [e, e2]
  exact Lxs.word (n := wNode) (by decide) Hd.blank (Lxs.blank (by decide) (Lxs.word h.node (hd_cons (by decide)) (Lxs.mark (by decide) (Lxs.blank (by decide) (Lxs.word h.prog h3.1 h3.2)))))
theorem fmt_lxs : ∀ l : List Ln, (∀ x ∈ l, GoodE x) → Lxs (fmtF l) (l.flatMap lexE)
  | [], _ => Lxs.nil
  | x :: l, h => by
    unfold fmtF
    rw [List.flatMap_cons, List.flatMap_cons]
    exact ent_lxs (h x (List.mem_cons_self ..)) (fmt_lxs l (fun y hy => h y (List.mem_cons_of_mem _ hy)))
end
/-! ## the parse -/
section
variable {ts : List Tk} {p : Nat} {R : LX}
theorem Tat.wd {k : Int} {x : Tx} {L : LX} (h : Tat ts p ((k, x) :: L)) (s : Tx) : wdB ts p s = (decide (k = 1) && decide (x = s)) := by
  obtain ⟨h1, h2, _⟩ := h.tk
  unfold wdB; rw [h1, h2]
theorem Tat.nowd {L : LX} (h : Tat ts p L) (s : Tx) (hn : L.head? ≠ some (1, s)) : ¬ wdB ts p s = true := by
  intro e
  unfold wdB at e
  rw [Bool.and_eq_true] at e
  have h1 := of_decide_eq_true e.1
  have h2 := of_decide_eq_true e.2
  cases L with
  | nil =>
    unfold Tat at h
    have hp : ts.length ≤ p := by
      have := congrArg List.length h
      rw [List.length_drop, List.length_map] at this
      simp at this; omega
    rw [tkAt, List.getD_eq_getElem?_getD, List.getElem?_eq_none hp] at h1
    cases h1
  | cons y L =>
    obtain ⟨k, x⟩ := y
    obtain ⟨g1, g2, _⟩ := h.tk
    exact hn (by rw [List.head?_cons, ← g1, ← g2, h1, h2])
theorem Tat.take {k : Int} {x : Tx} {L : LX} (h : Tat ts p ((k, x) :: L)) : takeR ts k p = .ok x (p + 1) := by
  obtain ⟨h1, h2, _⟩ := h.tk
  unfold takeR
  rw [if_pos h1, h2]
theorem Tat.markR_ {c : UInt8} {L : LX} (h : Tat ts p ((4, [c]) :: L)) : markR ts c p = .ok () (p + 1) := by
  unfold markR
  rw [if_pos (by rw [h.mk_]; simp)]
theorem aft_again : ∀ (l : List Tx) (a : Tx) (acc : List Tx) (p : Nat), Tat ts p (comX ((a :: l).map nameX) ++ R) → R.head? ≠ some (4, [44]) → ∃ q, Tat ts q R ∧ ∃ N, ∀ f, N ≤ f → aftL ts f acc p = some (.ok (acc ++ a :: l) q)
  | [], a, acc, p, h, hR => by
    have h : Tat ts p ((1, a) :: R) := h
    refine ⟨p + 1, h.tk.2.2, 1, fun f hf => ?_⟩
    obtain ⟨f, rfl⟩ : ∃ n, f = n + 1 := ⟨f - 1, by omega⟩
    rw [aftL, h.take]
    exact if_neg (h.tk.2.2.no 44 hR)
  | b :: l, a, acc, p, h, hR => by
    have h : Tat ts p ((1, a) :: (4, [44]) :: (comX ((b :: l).map nameX) ++ R)) := by
      rw [List.map_cons, List.map_cons, comX, List.flatMap_cons] at h
      rw [List.map_cons, comX]
      simpa [nameX] using h
    have h2 := h.tk.2.2
    obtain ⟨q, hq, N, hN⟩ := aft_again l b (acc ++ [a]) (p + 1 + 1) h2.tk.2.2 hR
    refine ⟨q, hq, N + 1, fun f hf => ?_⟩
    obtain ⟨f, rfl⟩ : ∃ n, f = n + 1 := ⟨f - 1, by omega⟩
    rw [aftL, h.take]
    dsimp only
    rw [if_pos (by rw [h2.mk_]; simp), hN f (by omega), List.append_assoc]; rfl
theorem set_again {s : Sg} {L : LX} (h : Tat ts p (setX s ++ L)) : setR ts p = .ok s (p + 3) ∧ Tat ts (p + 3) L := by
  have h : Tat ts p ((1, s.1) :: (4, [61]) :: (3, s.2) :: L) := h
  have h2 := h.tk.2.2
  have h3 := h2.tk.2.2
  refine ⟨?_, h3.tk.2.2⟩
  unfold setR
  rw [h.take]
  dsimp only
  rw [h2.markR_]
  dsimp only
  rw [h3.take]
theorem sets_again : ∀ (l : List Sg) (a : Sg) (acc : List Sg) (p : Nat), Tat ts p (comX ((a :: l).map setX) ++ R) → R.head? ≠ some (4, [44]) → ∃ q, Tat ts q R ∧ ∃ N, ∀ f, N ≤ f → setsL ts f acc p = some (.ok (acc ++ a :: l) q)
  | [], a, acc, p, h, hR => by
    have h : Tat ts p (setX a ++ R) := by
      rw [List.map_cons, comX] at h
      simpa using h
    obtain ⟨h1, h2⟩ := set_again h
    refine ⟨p + 3, h2, 1, fun f hf => ?_⟩
    obtain ⟨f, rfl⟩ : ∃ n, f = n + 1 := ⟨f - 1, by omega⟩
    rw [setsL, h1]
    exact if_neg (h2.no 44 hR)
  | b :: l, a, acc, p, h, hR => by
    have h : Tat ts p (setX a ++ (4, [44]) :: (comX ((b :: l).map setX) ++ R)) := by
      rw [List.map_cons, List.map_cons, comX, List.flatMap_cons] at h
      rw [List.map_cons, comX]
      simpa using h
    obtain ⟨h1, h2⟩ := set_again h
    obtain ⟨q, hq, N, hN⟩ := sets_again l b (acc ++ [a]) (p + 3 + 1) h2.tk.2.2 hR
    refine ⟨q, hq, N + 1, fun f hf => ?_⟩
    obtain ⟨f, rfl⟩ : ∃ n, f = n + 1 := ⟨f - 1, by omega⟩
    rw [setsL, h1]
    dsimp only
    rw [if_pos (by rw [h2.mk_]; simp), hN f (by omega), List.append_assoc]; rfl
/-- what may stand behind an entry -/
def Nx (R : LX) : Prop := R.head? = some (1, wNode) ∨ R.head? = some (0, [])
theorem Nx.ne {R : LX} (h : Nx R) {y : Int × Tx} (h1 : y ≠ (1, wNode)) (h2 : y ≠ (0, [])) : R.head? ≠ some y := by
  rcases h with h | h <;> rw [h] <;> intro e <;> injection e with e
  · exact h1 e.symm
  · exact h2 e.symm
theorem brac_again {x : Ln} (h : Tat ts p (setsX x ++ R)) (hR : Nx R) : ∃ q, Tat ts q R ∧ ∃ N, ∀ f, N ≤ f → bracR ts f p = some (.ok x.sets q) := by
  unfold setsX at h
  by_cases hs : 0 < x.sets.length
  · rw [if_pos hs] at h
    have h : Tat ts p ((4, [123]) :: (comX (x.sets.map setX) ++ (4, [125]) :: R)) := by simpa using h
    obtain ⟨s, l, e⟩ : ∃ s l, x.sets = s :: l := by
      cases hx : x.sets with
      | nil => rw [hx] at hs; exact absurd hs (Nat.lt_irrefl 0)
      | cons s l => exact ⟨s, l, rfl⟩
    rw [e] at h ⊢
    have h1 := h.tk.2.2
    obtain ⟨q, hq, N, hN⟩ := sets_again l s [] (p + 1) h1 (by simp)
    have hk : (tkAt ts (p + 1)).kd = 1 := by
      rw [List.map_cons, comX] at h1
      have h1 : Tat ts (p + 1) ((1, s.1) :: (((4, [61]) :: (3, s.2) :: ((l.map setX).flatMap (fun b => (4, [44]) :: b))) ++ (4, [125]) :: R)) := h1
      exact h1.tk.1
    refine ⟨q + 1, hq.tk.2.2, N, fun f hf => ?_⟩
    unfold bracR setsR
    rw [if_pos (by rw [h.mk_]; simp), if_neg (fun e => e hk), hN f hf]
    dsimp only
    rw [if_pos (by rw [hq.mk_]; simp)]; rfl
  · rw [if_neg hs] at h
    have e : x.sets = [] := List.length_eq_zero_iff.1 (by omega)
    refine ⟨p, h, 0, fun f _ => ?_⟩
    unfold bracR
    rw [e]
    exact if_neg (Tat.no h 123 (hR.ne (by decide) (by decide)))
theorem head_sets {x : Ln} (hR : Nx R) {y : Int × Tx} (h1 : y ≠ (1, wNode)) (h2 : y ≠ (0, [])) (h3 : y ≠ (4, [123])) : (setsX x ++ R).head? ≠ some y := by
  unfold setsX
  split
  · intro e; injection e with e; exact h3 e.symm
  · exact hR.ne h1 h2
theorem head_aft {x : Ln} (hR : Nx R) {y : Int × Tx} (h1 : y ≠ (1, wNode)) (h2 : y ≠ (0, [])) (h3 : y ≠ (4, [123])) (h4 : y ≠ (1, wAfter)) : (aftX x ++ (setsX x ++ R)).head? ≠ some y := by
  unfold aftX
  split
  · intro e; injection e with e; exact h4 e.symm
  · exact head_sets hR h1 h2 h3
theorem aftR_again {x : Ln} (h : Tat ts p (aftX x ++ (setsX x ++ R))) (hR : Nx R) : ∃ q, Tat ts q (setsX x ++ R) ∧ ∃ N, ∀ f, N ≤ f → aftR ts f p = some (.ok x.after q) := by
  unfold aftX at h
  by_cases hs : 0 < x.after.length
  · rw [if_pos hs] at h
    have h : Tat ts p ((1, wAfter) :: (comX (x.after.map nameX) ++ (setsX x ++ R))) := h
    obtain ⟨s, l, e⟩ : ∃ s l, x.after = s :: l := by
      cases hx : x.after with
      | nil => rw [hx] at hs; exact absurd hs (Nat.lt_irrefl 0)
      | cons s l => exact ⟨s, l, rfl⟩
    rw [e] at h ⊢
    obtain ⟨q, hq, N, hN⟩ := aft_again l s [] (p + 1) h.tk.2.2 (head_sets hR (by decide) (by decide) (by decide))
    refine ⟨q, hq, N, fun f hf => ?_⟩
    unfold aftR
    rw [if_pos (by rw [h.wd]; simp), hN f hf]; rfl
  · rw [if_neg hs] at h
    have e : x.after = [] := List.length_eq_zero_iff.1 (by omega)
    refine ⟨p, h, 0, fun f _ => ?_⟩
    unfold aftR
    rw [e]
    exact if_neg (Tat.nowd h wAfter (head_sets hR (by decide) (by decide) (by decide)))
theorem op1 {c : Cn} (h : formC c = true) (h1 : c.op = 1) : c = .mk 1 [] [] [] := by
  obtain ⟨op, n, t, ars⟩ := c
  have h1 : op = 1 := h1
  subst h1
  rcases form_cases h with ⟨_, rfl, rfl, rfl⟩ | ⟨e, _⟩ | ⟨a, e, _⟩ | ⟨a, b, e, _⟩
  · rfl
  · cases e
  · cases e
  · rcases e with e | e <;> cases e
theorem ifR_again {x : Ln} (hg : formC x.cond = true) (h : Tat ts p (condX x ++ (aftX x ++ (setsX x ++ R)))) (hR : Nx R) : ∃ q, Tat ts q (aftX x ++ (setsX x ++ R)) ∧ ∃ N, ∀ f, N ≤ f → ifR ts f p = some (.ok x.cond q) := by
  unfold condX at h
  by_cases hs : x.cond.op ≠ 1
  · rw [if_pos hs] at h
    have h : Tat ts p ((1, wIf) :: (lexF x.cond ++ (aftX x ++ (setsX x ++ R)))) := h
    have h1 := h.tk.2.2
    obtain ⟨N, hN⟩ := con_again hg h1 (head_aft hR (by decide) (by decide) (by decide) (by decide)) (head_aft hR (by decide) (by decide) (by decide) (by decide)) (head_aft hR (by decide) (by decide) (by decide) (by decide))
    refine ⟨_, h1.skip, N, fun f hf => ?_⟩
    unfold ifR
    rw [if_pos (by rw [h.wd]; simp), hN f hf]
  · rw [if_neg hs] at h
    refine ⟨p, h, 0, fun f _ => ?_⟩
    unfold ifR
    rw [op1 hg (Decidable.not_not.1 hs)]
    exact if_neg (Tat.nowd h wIf (head_aft hR (by decide) (by decide) (by decide) (by decide)))
theorem ent_again {x : Ln} (hg : GoodE x) (h : Tat ts p (lexE x ++ R)) (hR : Nx R) : ∃ q, Tat ts q R ∧ ∃ N, ∀ f, N ≤ f → entR ts f p = some (.ok x q) := by
  have h : Tat ts p ((1, wNode) :: (1, x.node) :: (4, [58]) :: (1, x.prog) :: (condX x ++ (aftX x ++ (setsX x ++ R)))) := by
    unfold lexE at h; simpa using h
  have h1 := h.tk.2.2
  have h2 := h1.tk.2.2
  have h3 := h2.tk.2.2
  obtain ⟨q4, h4, N4, e4⟩ := ifR_again hg.cond h3.tk.2.2 hR
  obtain ⟨q5, h5, N5, e5⟩ := aftR_again h4 hR
  obtain ⟨q6, h6, N6, e6⟩ := brac_again h5 hR
  refine ⟨q6, h6, N4 + N5 + N6, fun f hf => ?_⟩
  unfold entR
  rw [if_pos (by rw [h.wd]; simp), h1.take]
  dsimp only
  rw [h2.markR_]
  dsimp only
  rw [h3.take]
  dsimp only
  rw [e4 f (by omega)]
  dsimp only
  rw [e5 f (by omega)]
  dsimp only
  rw [e6 f (by omega)]
theorem nx_list : ∀ l : List Ln, Nx (l.flatMap lexE ++ [(0, [])])
  | [] => .inr rfl
  | x :: l => .inl rfl
theorem lst_again : ∀ (l : List Ln) (acc : List Ln) (p : Nat), (∀ x ∈ l, GoodE x) → Tat ts p (l.flatMap lexE ++ [(0, [])]) → ∃ q N, ∀ f, N ≤ f → lstL ts f acc p = some (.ok (acc ++ l) q)
  | [], acc, p, _, h => by
    have h : Tat ts p [(0, [])] := h
    refine ⟨p, 1, fun f hf => ?_⟩
    obtain ⟨f, rfl⟩ : ∃ n, f = n + 1 := ⟨f - 1, by omega⟩
    rw [lstL, if_neg (fun e => e h.tk.1), List.append_nil]
  | x :: l, acc, p, hg, h => by
    rw [List.flatMap_cons, List.append_assoc] at h
    have hk : (tkAt ts p).kd = 1 := by
      have h : Tat ts p ((1, wNode) :: ((1, x.node) :: (4, [58]) :: (1, x.prog) :: (condX x ++ (aftX x ++ setsX x)) ++ (l.flatMap lexE ++ [(0, [])]))) := h
      exact h.tk.1
    obtain ⟨q, hq, N, hN⟩ := ent_again (hg x (List.mem_cons_self ..)) h (nx_list l)
    obtain ⟨q2, M, hM⟩ := lst_again l (acc ++ [x]) q (fun y hy => hg y (List.mem_cons_of_mem _ hy)) hq
    refine ⟨q2, N + M + 1, fun f hf => ?_⟩
    obtain ⟨f, rfl⟩ : ∃ n, f = n + 1 := ⟨f - 1, by omega⟩
    rw [lstL, if_pos (by rw [hk]; decide), hN f (by omega)]
    dsimp only
    rw [hM f (by omega), List.append_assoc]; rfl
end
end Go.Proofs.YtknfankadlokhaaGreatDoor
