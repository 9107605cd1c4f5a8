/- Cond, and the specification's printing of conditions, in memory. No conditions. -/
import Derived.Test.YtknfankadlokhaaGreatDoorPwa

namespace Go.Proofs.YtknfankadlokhaaGreatDoor
open Go.RowKit
set_option maxRecDepth 4000
set_option linter.unusedVariables false
set_option linter.unusedSimpArgs false
set_option maxHeartbeats 16000000

theorem check_one (c : Cn) : checkF (oneL c) = 0 ↔ goodC c = true := by
  refine ⟨fun h => ?_, fun h => ?_⟩
  · have := good_of_check h (x := ⟨[110], [112], c, [], []⟩) (List.mem_singleton.2 rfl)
    unfold goodC
    rw [decide_eq_true this.2, this.1.cond]; rfl
  · have hc := (condF_zero c).2 h
    have he : entryF (oneL c) 0 = 0 := by
      show (if nameF [110] = false ∨ nameF [112] = false then (5 : Int) else if 0 ≤ idxF ((oneL c).take 0) [110] then 7 else if condF c ≠ 0 then condF c else listsF (oneL c) ⟨[110], [112], c, [], []⟩) = 0
      rw [if_neg (by decide), if_neg (by rw [List.take_zero]; decide), if_neg (fun e => e hc)]
      rfl
    have hf : firstE (entryF (oneL c)) (oneL c).length = 0 := by
      show firstE (entryF (oneL c)) 1 = 0
      unfold firstE
      rw [show List.range 1 = [0] from rfl]
      simp [he]
    unfold checkF
    rw [if_neg (by show ¬ 24 < 1; decide)]
    dsimp only
    rw [hf, if_neg (fun e => e rfl)]
    exact if_neg (by
      have : (startF (oneL c)).length = 1 := rfl
      rw [this]
      show ¬ 1 < 1
      decide)
/-- the text that Cond returns -/
def condS (c : Cn) : Tx := if goodC c = true then prtF c else []
theorem prt_ne {c : Cn} (hf : formC c = true) : prtF c ≠ [] := by
  obtain ⟨op, n, t, ars⟩ := c
  rw [prtF]
  rcases form_cases hf with ⟨rfl, rfl, rfl, rfl⟩ | ⟨rfl, rfl, hn, ht⟩ | ⟨a, rfl, rfl, rfl, rfl, ha⟩ | ⟨a, b, ho, rfl, rfl, rfl, ha, hb⟩
  · decide
  · show n ++ (sEq ++ quotF t) ≠ []
    unfold sEq; simp
  · show 33 :: _ ≠ []
    simp
  · rcases ho with rfl | rfl
    · show _ ++ (sAnd ++ _) ≠ []
      unfold sAnd; simp
    · show _ ++ (sOr ++ _) ≠ []
      unfold sOr; simp
theorem good_parts {c : Cn} (h : goodC c = true) : levC c ≤ 6 ∧ formC c = true := by
  unfold goodC at h
  rw [Bool.and_eq_true] at h
  exact ⟨of_decide_eq_true h.1, h.2⟩
theorem tcond_any {w0 : World} {c : Cn} {cs : List Value} (hV : Mx w0) (h : CondAt w0 c cs) : Cl Tryz.prog 55 [.agg ⟨cs⟩] w0 (fun v w' => v = S (condS c) ∧ St w0 NoneS [] w') := by
  have hSt := St.refl w0 NoneS
  have h0 := h
  obtain ⟨v0, xs, rfl, hs, hcs, htl, hal⟩ := h.cells
  obtain ⟨a1, p1, rfl, _⟩ := hs.some_ hcs.len
  have hck := check_one c
  unfold condS
  refine enter Tryz.func55 rfl Tryz.ntmps55 rfl ?_
  repeat' (first | (refine WL_box rfl rfl rfl hSt ?_; clear hSt; intro w nb hnb hSt; replace hSt := hSt.front; dsimp only [zcells, List.nil_append, List.cons_append] at hSt) | refine stepA ?_ | (refine stepS ?_; clear hSt; intro w hSt; dsimp only [spl, List.set] at hSt) | (refine stepB ?_; clear hSt; intro w nb hnb hSt; dsimp only [zcells, List.nil_append, List.cons_append] at hSt) | (refine W_quiet hT (by decide +kernel) hSt ?_; clear hSt; (repeat' (first | (apply QL_ev rfl rfl; (intro w hSt; (first | exact Ev_auto))) | refine QL_pass rfl rfl ?_ | (refine QL_guardP rfl rfl (fun hc => ?_) (fun hc => ?_) <;> try exact absA) | (refine QL_guard rfl rfl (fun hc => ?_) (fun hc => ?_) <;> (try exact absA) <;> (fail_if_success (change true = true at hc)) <;> (fail_if_success (change false = false at hc))))); all_goals (refine QL_nil (fun w hSt => ?_))) | (refine stepG ?_ ?_ <;> intro hc <;> (try exact absA) <;> (fail_if_success (change true = true at hc)) <;> (fail_if_success (change false = false at hc))) | fail)
  (refine WL_buildSlice hT rfl rfl rfl rfl rfl rfl rfl rfl hSt ?_; clear hSt; intro w nb2 hnb2 hSt; replace hSt := hSt.front)
  have hca := check_any (lns_one (h0.kept hSt.nil.keeps) (hSt.own 0 _ _ rfl).1)
  cases hg : goodC c with
  | true =>
    obtain ⟨h6, hf⟩ := good_parts hg
    rw [if_pos rfl]
    rw [hck.2 hg] at hca
    have hpr := fun (w : World) (k : Keeps w0 w) => printed_any c hf (by omega) w _ (hV.kept k) (h0.kept k)
    repeat' (first | (refine WL_isCall (f := 22) ?_; refine WL_call (ok_call hT rfl) rfl rfl rfl (hca) ?_; rintro v w2 ⟨rfl, hc2⟩; replace hSt := hSt.call0 hc2; clear hc2) | (refine WL_isCall (f := 50) ?_; refine WL_call (ok_call hT rfl) rfl rfl rfl (hpr _ hSt.nil.keeps) ?_; rintro v w2 ⟨rfl, hc2⟩; replace hSt := hSt.call0 hc2; clear hc2) | refine stepA ?_ | (refine stepS ?_; clear hSt; intro w hSt; dsimp only [spl, List.set] at hSt) | (refine stepB ?_; clear hSt; intro w nb hnb hSt; dsimp only [zcells, List.nil_append, List.cons_append] at hSt) | (refine W_quiet hT (by decide +kernel) hSt ?_; clear hSt; (repeat' (first | (apply QL_ev rfl rfl; (intro w hSt; (first | exact Ev_auto))) | refine QL_pass rfl rfl ?_ | (refine QL_guardP rfl rfl (fun hc => ?_) (fun hc => ?_) <;> try exact absA) | (refine QL_guard rfl rfl (fun hc => ?_) (fun hc => ?_) <;> (try exact absA) <;> (fail_if_success (change true = true at hc)) <;> (fail_if_success (change false = false at hc))))); all_goals (refine QL_nil (fun w hSt => ?_))) | (refine stepG ?_ ?_ <;> intro hc <;> (try exact absA) <;> (fail_if_success (change true = true at hc)) <;> (fail_if_success (change false = false at hc))) | fail)
    all_goals try (exfalso; first | omega | (simp at hc; done) | (exact hc rfl) | contradiction)
    all_goals exact ret1 rfl rfl ⟨rfl, hSt.nil⟩
  | false =>
    rw [if_neg (by simp)]
    have hne : checkF (oneL c) ≠ 0 := fun e => by rw [hck.1 e] at hg; cases hg
    repeat' (first | (refine WL_isCall (f := 22) ?_; refine WL_call (ok_call hT rfl) rfl rfl rfl (hca) ?_; rintro v w2 ⟨rfl, hc2⟩; replace hSt := hSt.call0 hc2; clear hc2) | refine stepA ?_ | (refine stepS ?_; clear hSt; intro w hSt; dsimp only [spl, List.set] at hSt) | (refine stepB ?_; clear hSt; intro w nb hnb hSt; dsimp only [zcells, List.nil_append, List.cons_append] at hSt) | (refine W_quiet hT (by decide +kernel) hSt ?_; clear hSt; (repeat' (first | (apply QL_ev rfl rfl; (intro w hSt; (first | exact Ev_auto))) | refine QL_pass rfl rfl ?_ | (refine QL_guardP rfl rfl (fun hc => ?_) (fun hc => ?_) <;> try exact absA) | (refine QL_guard rfl rfl (fun hc => ?_) (fun hc => ?_) <;> (try exact absA) <;> (fail_if_success (change true = true at hc)) <;> (fail_if_success (change false = false at hc))))); all_goals (refine QL_nil (fun w hSt => ?_))) | (refine stepG ?_ ?_ <;> intro hc <;> (try exact absA) <;> (fail_if_success (change true = true at hc)) <;> (fail_if_success (change false = false at hc))) | fail)
    all_goals try (exfalso; first | omega | (simp at hc; done) | (exact hc rfl) | contradiction)
    all_goals exact ret1 rfl rfl ⟨rfl, hSt.nil⟩
theorem take1w {s : Tx} {q : Nat} {c : UInt8} {a b : Int} (h : s[q]? = some c) (ha : a = (q : Int)) (hb : b = (q : Int) + 1) : S ((s.drop a.toNat).take (b.toNat - a.toNat)) = S [c] := by
  subst ha; subst hb
  rw [show ((q : Int) + 1).toNat = q + 1 by omega, Int.toNat_natCast, show q + 1 - q = 1 by omega, drop_at h, List.take_succ_cons, List.take_zero]
theorem rquot_any {w0 : World} (s : Tx) (hl : s.length ≤ 300000) : Cl Tryz.prog 72 [S s] w0 (fun v w' => v = S (quotF s) ∧ St w0 NoneS [] w') := by
  have hSt := St.refl w0 NoneS
  refine enter Tryz.func72 rfl Tryz.ntmps72 rfl ?_
  repeat' (first | refine stepA ?_ | (refine stepS ?_; clear hSt; intro w hSt; dsimp only [spl, List.set] at hSt) | (refine stepB ?_; clear hSt; intro w nb hnb hSt; dsimp only [zcells, List.nil_append, List.cons_append] at hSt) | (refine W_quiet hT (by decide +kernel) hSt ?_; clear hSt; (repeat' (first | (apply QL_ev rfl rfl; (intro w hSt; (first | exact Ev_auto))) | refine QL_pass rfl rfl ?_ | (refine QL_guardP rfl rfl (fun hc => ?_) (fun hc => ?_) <;> try exact absA) | (refine QL_guard rfl rfl (fun hc => ?_) (fun hc => ?_) <;> (try exact absA) <;> (fail_if_success (change true = true at hc)) <;> (fail_if_success (change false = false at hc))))); all_goals (refine QL_nil (fun w hSt => ?_))) | (refine stepG ?_ ?_ <;> intro hc <;> (try exact absA) <;> (fail_if_success (change true = true at hc)) <;> (fail_if_success (change false = false at hc))) | fail)
  refine W_loop2 (fun k (i : Nat) (o : Tx) w => k = s.length - i ∧ i ≤ s.length ∧ o = 34 :: escF (s.take i) ∧ St w0 NoneS [] w) (fun i o => [(4, I (i : Int)), (3, S o)]) s.length 0 [34] rfl (by (repeat (first | exact Str.nil _ | apply Str.drop rfl | apply Str.keepU rfl | apply Str.keep rfl))) ⟨rfl, Nat.zero_le _, rfl, hSt⟩ (by (repeat (first | exact Sub.nil _ | refine Sub.cons rfl ?_))) ?_
  clear hSt
  rintro k i o w ⟨hk, hi, ho, hSt⟩ K hK
  by_cases hil : i < s.length
  · obtain ⟨c, hc1⟩ : ∃ c, s[i]? = some c := ⟨_, List.getElem?_eq_getElem hil⟩
    have hq0 : s[(i : Int).toNat]? = some c := by rw [Int.toNat_natCast]; exact hc1
    have hcn := c.toNat_lt
    have hc1l : ([c] : Tx).length = 1 := rfl
    have hle := escF_len (s.take i)
    have hlt : (s.take i).length ≤ i := by rw [List.length_take]; omega
    have hol : o.length ≤ 2 * i + 1 := by rw [ho, List.length_cons]; omega
    have hnx : 34 :: escF (s.take (i + 1)) = o ++ (if c = 34 ∨ c = 92 then [92, c] else [c]) := by
      rw [ho, List.take_add_one, hc1]
      unfold escF
      rw [List.flatMap_append]
      simp
    have h34 : c = 34 ↔ c.toNat = 34 := ⟨fun e => by rw [e]; rfl, fun e => UInt8.toNat_inj.1 (by rw [e]; rfl)⟩
    have h92 : c = 92 ↔ c.toNat = 92 := ⟨fun e => by rw [e]; rfl, fun e => UInt8.toNat_inj.1 (by rw [e]; rfl)⟩
    by_cases hq : c.toNat = 34 ∨ c.toNat = 92
    · rw [if_pos (hq.imp h34.2 h92.2)] at hnx
      repeat' (first | (apply WL_ev rfl rfl; exact Ev_strIndex hT rfl rfl rfl (by omega) hq0) | (apply WL_ev rfl rfl; exact Ev_as (v2 := S [c]) (Ev_str_slice hT rfl rfl rfl rfl (by omega) (by omega) (by omega)) (take1w hc1 (by omega) (by omega))) | (apply WL_ev rfl rfl; exact Ev_str_add rfl rfl (by simp only [List.length_append, List.length_cons, List.length_nil]; omega)) | refine stepA ?_ | (refine stepS ?_; clear hSt; intro w hSt; dsimp only [spl, List.set] at hSt) | (refine stepB ?_; clear hSt; intro w nb hnb hSt; dsimp only [zcells, List.nil_append, List.cons_append] at hSt) | (refine W_quiet hT (by decide +kernel) hSt ?_; clear hSt; (repeat' (first | (apply QL_ev rfl rfl; (intro w hSt; (first | (exact Ev_strIndex hT rfl rfl rfl (by omega) hq0) | (exact Ev_as (v2 := S [c]) (Ev_str_slice hT rfl rfl rfl rfl (by omega) (by omega) (by omega)) (take1w hc1 (by omega) (by omega))) | (exact Ev_str_add rfl rfl (by simp only [List.length_append, List.length_cons, List.length_nil]; omega)) | exact Ev_auto))) | refine QL_pass rfl rfl ?_ | (refine QL_guardP rfl rfl (fun hc => ?_) (fun hc => ?_) <;> try exact absA) | (refine QL_guard rfl rfl (fun hc => ?_) (fun hc => ?_) <;> (try exact absA) <;> (fail_if_success (change true = true at hc)) <;> (fail_if_success (change false = false at hc))))); all_goals (refine QL_nil (fun w hSt => ?_))) | (refine stepG ?_ ?_ <;> intro hc <;> (try exact absA) <;> (fail_if_success (change true = true at hc)) <;> (fail_if_success (change false = false at hc))) | fail)
      all_goals try (exfalso; first | omega | (simp at hc; done) | (exact hc rfl) | contradiction)
      all_goals exact At_loop2 hK (k' := s.length - (i + 1)) (i + 1) (o ++ [92] ++ [c]) (by omega) ⟨rfl, hil, by rw [hnx, List.append_assoc]; rfl, hSt⟩ (by (repeat (first | exact Sub.nil _ | refine Sub.cons rfl ?_)))
    · rw [if_neg (by rw [h34, h92]; exact hq)] at hnx
      repeat' (first | (apply WL_ev rfl rfl; exact Ev_strIndex hT rfl rfl rfl (by omega) hq0) | (apply WL_ev rfl rfl; exact Ev_as (v2 := S [c]) (Ev_str_slice hT rfl rfl rfl rfl (by omega) (by omega) (by omega)) (take1w hc1 (by omega) (by omega))) | (apply WL_ev rfl rfl; exact Ev_str_add rfl rfl (by simp only [List.length_append, List.length_cons, List.length_nil]; omega)) | refine stepA ?_ | (refine stepS ?_; clear hSt; intro w hSt; dsimp only [spl, List.set] at hSt) | (refine stepB ?_; clear hSt; intro w nb hnb hSt; dsimp only [zcells, List.nil_append, List.cons_append] at hSt) | (refine W_quiet hT (by decide +kernel) hSt ?_; clear hSt; (repeat' (first | (apply QL_ev rfl rfl; (intro w hSt; (first | (exact Ev_strIndex hT rfl rfl rfl (by omega) hq0) | (exact Ev_as (v2 := S [c]) (Ev_str_slice hT rfl rfl rfl rfl (by omega) (by omega) (by omega)) (take1w hc1 (by omega) (by omega))) | (exact Ev_str_add rfl rfl (by simp only [List.length_append, List.length_cons, List.length_nil]; omega)) | exact Ev_auto))) | refine QL_pass rfl rfl ?_ | (refine QL_guardP rfl rfl (fun hc => ?_) (fun hc => ?_) <;> try exact absA) | (refine QL_guard rfl rfl (fun hc => ?_) (fun hc => ?_) <;> (try exact absA) <;> (fail_if_success (change true = true at hc)) <;> (fail_if_success (change false = false at hc))))); all_goals (refine QL_nil (fun w hSt => ?_))) | (refine stepG ?_ ?_ <;> intro hc <;> (try exact absA) <;> (fail_if_success (change true = true at hc)) <;> (fail_if_success (change false = false at hc))) | fail)
      all_goals try (exfalso; first | omega | (simp at hc; done) | (exact hc rfl) | contradiction)
      all_goals exact At_loop2 hK (k' := s.length - (i + 1)) (i + 1) (o ++ [c]) (by omega) ⟨rfl, hil, hnx.symm, hSt⟩ (by (repeat (first | exact Sub.nil _ | refine Sub.cons rfl ?_)))
  · rw [List.take_of_length_le (by omega)] at ho
    have hle := escF_len s
    have hol : o.length ≤ 2 * s.length + 1 := by rw [ho, List.length_cons]; omega
    repeat' (first | (apply WL_ev rfl rfl; exact Ev_str_add rfl rfl (by simp only [List.length_append, List.length_cons, List.length_nil]; omega)) | refine stepA ?_ | (refine stepS ?_; clear hSt; intro w hSt; dsimp only [spl, List.set] at hSt) | (refine stepB ?_; clear hSt; intro w nb hnb hSt; dsimp only [zcells, List.nil_append, List.cons_append] at hSt) | (refine W_quiet hT (by decide +kernel) hSt ?_; clear hSt; (repeat' (first | (apply QL_ev rfl rfl; (intro w hSt; (first | (exact Ev_str_add rfl rfl (by simp only [List.length_append, List.length_cons, List.length_nil]; omega)) | exact Ev_auto))) | refine QL_pass rfl rfl ?_ | (refine QL_guardP rfl rfl (fun hc => ?_) (fun hc => ?_) <;> try exact absA) | (refine QL_guard rfl rfl (fun hc => ?_) (fun hc => ?_) <;> (try exact absA) <;> (fail_if_success (change true = true at hc)) <;> (fail_if_success (change false = false at hc))))); all_goals (refine QL_nil (fun w hSt => ?_))) | (refine stepG ?_ ?_ <;> intro hc <;> (try exact absA) <;> (fail_if_success (change true = true at hc)) <;> (fail_if_success (change false = false at hc))) | fail)
    all_goals try (exfalso; first | omega | (simp at hc; done) | (exact hc rfl) | contradiction)
    all_goals exact ret1 rfl rfl ⟨by rw [ho]; rfl, hSt⟩
/-- how strong an operator binds -/
def ltB (a b : Int) : Bool := decide (a < b)
def lvlF (op : Int) : Int := if op = 5 then 1 else if op = 4 then 2 else 3
theorem rlevel_any {w0 : World} (op : Int) (n t : Tx) (v : Value) : Cl Tryz.prog 137 [.agg ⟨[I op, S n, S t, v]⟩] w0 (fun r w' => r = I (lvlF op) ∧ St w0 NoneS [] w') := by
  have hSt := St.refl w0 NoneS
  unfold lvlF
  refine enter Tryz.func137 rfl Tryz.ntmps137 rfl ?_
  by_cases h5 : op = 5
  · subst h5
    repeat' (first | (refine WL_box rfl rfl rfl hSt ?_; clear hSt; intro w nb hnb hSt; replace hSt := hSt.front; dsimp only [zcells, List.nil_append, List.cons_append] at hSt) | (apply WL_ev rfl rfl; exact Ev_field1 hT rfl rfl rfl (by intro fs x h1 h2; rw [Tryz.underlying38] at h1; injection h1 with h1; injection h1 with h1; subst h1; injection h2 with h2; subst h2; decide +kernel)) | refine stepA ?_ | (refine stepS ?_; clear hSt; intro w hSt; dsimp only [spl, List.set] at hSt) | (refine stepB ?_; clear hSt; intro w nb hnb hSt; dsimp only [zcells, List.nil_append, List.cons_append] at hSt) | (refine W_quiet hT (by decide +kernel) hSt ?_; clear hSt; (repeat' (first | (apply QL_ev rfl rfl; (intro w hSt; (first | (exact Ev_field1 hT rfl rfl rfl (by intro fs x h1 h2; rw [Tryz.underlying38] at h1; injection h1 with h1; injection h1 with h1; subst h1; injection h2 with h2; subst h2; decide +kernel)) | exact Ev_auto))) | refine QL_pass rfl rfl ?_ | (refine QL_guardP rfl rfl (fun hc => ?_) (fun hc => ?_) <;> try exact absA) | (refine QL_guard rfl rfl (fun hc => ?_) (fun hc => ?_) <;> (try exact absA) <;> (fail_if_success (change true = true at hc)) <;> (fail_if_success (change false = false at hc))))); all_goals (refine QL_nil (fun w hSt => ?_))) | (refine stepG ?_ ?_ <;> intro hc <;> (try exact absA) <;> (fail_if_success (change true = true at hc)) <;> (fail_if_success (change false = false at hc))) | fail)
    all_goals try (exfalso; first | omega | (simp at hc; done) | (exact hc rfl) | contradiction)
    all_goals exact ret1 rfl rfl ⟨rfl, hSt.nil⟩
  by_cases h4 : op = 4
  · subst h4
    repeat' (first | (refine WL_box rfl rfl rfl hSt ?_; clear hSt; intro w nb hnb hSt; replace hSt := hSt.front; dsimp only [zcells, List.nil_append, List.cons_append] at hSt) | (apply WL_ev rfl rfl; exact Ev_field1 hT rfl rfl rfl (by intro fs x h1 h2; rw [Tryz.underlying38] at h1; injection h1 with h1; injection h1 with h1; subst h1; injection h2 with h2; subst h2; decide +kernel)) | refine stepA ?_ | (refine stepS ?_; clear hSt; intro w hSt; dsimp only [spl, List.set] at hSt) | (refine stepB ?_; clear hSt; intro w nb hnb hSt; dsimp only [zcells, List.nil_append, List.cons_append] at hSt) | (refine W_quiet hT (by decide +kernel) hSt ?_; clear hSt; (repeat' (first | (apply QL_ev rfl rfl; (intro w hSt; (first | (exact Ev_field1 hT rfl rfl rfl (by intro fs x h1 h2; rw [Tryz.underlying38] at h1; injection h1 with h1; injection h1 with h1; subst h1; injection h2 with h2; subst h2; decide +kernel)) | exact Ev_auto))) | refine QL_pass rfl rfl ?_ | (refine QL_guardP rfl rfl (fun hc => ?_) (fun hc => ?_) <;> try exact absA) | (refine QL_guard rfl rfl (fun hc => ?_) (fun hc => ?_) <;> (try exact absA) <;> (fail_if_success (change true = true at hc)) <;> (fail_if_success (change false = false at hc))))); all_goals (refine QL_nil (fun w hSt => ?_))) | (refine stepG ?_ ?_ <;> intro hc <;> (try exact absA) <;> (fail_if_success (change true = true at hc)) <;> (fail_if_success (change false = false at hc))) | fail)
    all_goals try (exfalso; first | omega | (simp at hc; done) | (exact hc rfl) | contradiction)
    all_goals exact ret1 rfl rfl ⟨rfl, hSt.nil⟩
  · rw [if_neg h5, if_neg h4]
    repeat' (first | (refine WL_box rfl rfl rfl hSt ?_; clear hSt; intro w nb hnb hSt; replace hSt := hSt.front; dsimp only [zcells, List.nil_append, List.cons_append] at hSt) | (apply WL_ev rfl rfl; exact Ev_field1 hT rfl rfl rfl (by intro fs x h1 h2; rw [Tryz.underlying38] at h1; injection h1 with h1; injection h1 with h1; subst h1; injection h2 with h2; subst h2; decide +kernel)) | refine stepA ?_ | (refine stepS ?_; clear hSt; intro w hSt; dsimp only [spl, List.set] at hSt) | (refine stepB ?_; clear hSt; intro w nb hnb hSt; dsimp only [zcells, List.nil_append, List.cons_append] at hSt) | (refine W_quiet hT (by decide +kernel) hSt ?_; clear hSt; (repeat' (first | (apply QL_ev rfl rfl; (intro w hSt; (first | (exact Ev_field1 hT rfl rfl rfl (by intro fs x h1 h2; rw [Tryz.underlying38] at h1; injection h1 with h1; injection h1 with h1; subst h1; injection h2 with h2; subst h2; decide +kernel)) | exact Ev_auto))) | refine QL_pass rfl rfl ?_ | (refine QL_guardP rfl rfl (fun hc => ?_) (fun hc => ?_) <;> try exact absA) | (refine QL_guard rfl rfl (fun hc => ?_) (fun hc => ?_) <;> (try exact absA) <;> (fail_if_success (change true = true at hc)) <;> (fail_if_success (change false = false at hc))))); all_goals (refine QL_nil (fun w hSt => ?_))) | (refine stepG ?_ ?_ <;> intro hc <;> (try exact absA) <;> (fail_if_success (change true = true at hc)) <;> (fail_if_success (change false = false at hc))) | fail)
    all_goals try (exfalso; first | omega | (simp at hc; done) | (exact hc rfl) | contradiction)
    all_goals exact ret1 rfl rfl ⟨rfl, hSt.nil⟩
def RPrC (c : Cn) : Prop := ∀ (w0 : World) (cs : List Value) (le : Int), CondAt w0 c cs → Cl Tryz.prog 115 [.agg ⟨cs⟩, I le] w0 (fun v w' => v = S (parF (ltB (lvlF c.op) le) (prtF c)) ∧ St w0 NoneS [] w')
theorem rprint_any : ∀ c : Cn, formC c = true → levC c ≤ 20 → RPrC c := by
  intro c
  induction c using Cn.ind with
  | h op n t ar ih =>
  intro hf hlev w0 cs le h
  obtain ⟨v0, xs, rfl, hs, hcs, htl, hal⟩ := h.cells
  dsimp only [Cn.op, Cn.name, Cn.text, Cn.args] at *
  have hSt := St.refl w0 NoneS
  obtain ⟨a1, p1, rfl, hc1⟩ := hs.some_ hcs.len
  have hsm := prt_small hf hlev
  rw [prtF] at hsm ⊢
  rcases form_cases hf with ⟨rfl, rfl, rfl, rfl⟩ | ⟨rfl, rfl, hn, ht⟩ | ⟨a, rfl, rfl, rfl, rfl, ha⟩ | ⟨a, b, ho, rfl, rfl, rfl, ha, hb⟩
  · have ep : prtO 1 [] [] (prtL []) = wTrue := rfl
    have hwl : wTrue.length = 4 := rfl
    rw [ep] at hsm ⊢
    refine enter Tryz.func115 rfl Tryz.ntmps115 rfl ?_
    by_cases hlt : (3 : Int) < le
    · rw [show ltB (lvlF 1) le = true from decide_eq_true hlt]
      repeat' (first | (refine WL_box rfl rfl rfl hSt ?_; clear hSt; intro w nb hnb hSt; replace hSt := hSt.front; dsimp only [zcells, List.nil_append, List.cons_append] at hSt) | (refine WL_isCall (f := 137) ?_; refine WL_call (ok_call hT rfl) rfl rfl rfl (rlevel_any _ _ _ _) ?_; rintro v w2 ⟨rfl, hc2⟩; replace hSt := hSt.call0 hc2; clear hc2) | (apply WL_ev rfl rfl; exact Ev_str_add rfl rfl (by simp only [List.length_append, List.length_cons, List.length_nil]; omega)) | refine stepA ?_ | (refine stepS ?_; clear hSt; intro w hSt; dsimp only [spl, List.set] at hSt) | (refine stepB ?_; clear hSt; intro w nb hnb hSt; dsimp only [zcells, List.nil_append, List.cons_append] at hSt) | (refine W_quiet hT (by decide +kernel) hSt ?_; clear hSt; (repeat' (first | (apply QL_ev rfl rfl; (intro w hSt; (first | (exact Ev_str_add rfl rfl (by simp only [List.length_append, List.length_cons, List.length_nil]; omega)) | exact Ev_auto))) | refine QL_pass rfl rfl ?_ | (refine QL_guardP rfl rfl (fun hc => ?_) (fun hc => ?_) <;> try exact absA) | (refine QL_guard rfl rfl (fun hc => ?_) (fun hc => ?_) <;> (try exact absA) <;> (fail_if_success (change true = true at hc)) <;> (fail_if_success (change false = false at hc))))); all_goals (refine QL_nil (fun w hSt => ?_))) | (refine stepG ?_ ?_ <;> intro hc <;> (try exact absA) <;> (fail_if_success (change true = true at hc)) <;> (fail_if_success (change false = false at hc))) | fail)
      all_goals try (exfalso; first | omega | (simp at hc; done) | (exact hc rfl) | contradiction)
      all_goals exact ret1 rfl rfl ⟨rfl, hSt.nil⟩
    · rw [show ltB (lvlF 1) le = false from decide_eq_false hlt]
      repeat' (first | (refine WL_box rfl rfl rfl hSt ?_; clear hSt; intro w nb hnb hSt; replace hSt := hSt.front; dsimp only [zcells, List.nil_append, List.cons_append] at hSt) | (refine WL_isCall (f := 137) ?_; refine WL_call (ok_call hT rfl) rfl rfl rfl (rlevel_any _ _ _ _) ?_; rintro v w2 ⟨rfl, hc2⟩; replace hSt := hSt.call0 hc2; clear hc2) | (apply WL_ev rfl rfl; exact Ev_str_add rfl rfl (by simp only [List.length_append, List.length_cons, List.length_nil]; omega)) | refine stepA ?_ | (refine stepS ?_; clear hSt; intro w hSt; dsimp only [spl, List.set] at hSt) | (refine stepB ?_; clear hSt; intro w nb hnb hSt; dsimp only [zcells, List.nil_append, List.cons_append] at hSt) | (refine W_quiet hT (by decide +kernel) hSt ?_; clear hSt; (repeat' (first | (apply QL_ev rfl rfl; (intro w hSt; (first | (exact Ev_str_add rfl rfl (by simp only [List.length_append, List.length_cons, List.length_nil]; omega)) | exact Ev_auto))) | refine QL_pass rfl rfl ?_ | (refine QL_guardP rfl rfl (fun hc => ?_) (fun hc => ?_) <;> try exact absA) | (refine QL_guard rfl rfl (fun hc => ?_) (fun hc => ?_) <;> (try exact absA) <;> (fail_if_success (change true = true at hc)) <;> (fail_if_success (change false = false at hc))))); all_goals (refine QL_nil (fun w hSt => ?_))) | (refine stepG ?_ ?_ <;> intro hc <;> (try exact absA) <;> (fail_if_success (change true = true at hc)) <;> (fail_if_success (change false = false at hc))) | fail)
      all_goals try (exfalso; first | omega | (simp at hc; done) | (exact hc rfl) | contradiction)
      all_goals exact ret1 rfl rfl ⟨rfl, hSt.nil⟩
  · have h1 := (nameF_word hn).2.1
    have h2 := quotF_len t
    have h3 := plainF_size ht
    have hse : ([32, 61, 32] : Tx).length = 3 := rfl
    have ep : prtO 2 n t (prtL []) = n ++ [32, 61, 32] ++ quotF t := by rw [List.append_assoc]; rfl
    rw [ep] at hsm ⊢
    refine enter Tryz.func115 rfl Tryz.ntmps115 rfl ?_
    by_cases hlt : (3 : Int) < le
    · rw [show ltB (lvlF 2) le = true from decide_eq_true hlt]
      repeat' (first | (refine WL_box rfl rfl rfl hSt ?_; clear hSt; intro w nb hnb hSt; replace hSt := hSt.front; dsimp only [zcells, List.nil_append, List.cons_append] at hSt) | (refine WL_isCall (f := 137) ?_; refine WL_call (ok_call hT rfl) rfl rfl rfl (rlevel_any _ _ _ _) ?_; rintro v w2 ⟨rfl, hc2⟩; replace hSt := hSt.call0 hc2; clear hc2) | (apply WL_ev rfl rfl; exact Ev_str_add rfl rfl (by simp only [List.length_append, List.length_cons, List.length_nil]; omega)) | refine stepA ?_ | (refine stepS ?_; clear hSt; intro w hSt; dsimp only [spl, List.set] at hSt) | (refine stepB ?_; clear hSt; intro w nb hnb hSt; dsimp only [zcells, List.nil_append, List.cons_append] at hSt) | (refine W_quiet hT (by decide +kernel) hSt ?_; clear hSt; (repeat' (first | (refine QL_isCall (f := 72) ?_; refine QL_call (ok_call hT rfl) rfl rfl rfl (fun w hSt => (rquot_any t (by omega)).mono (fun v w2 h => ⟨h.1, hSt.call0 h.2⟩)) ?_) | (apply QL_ev rfl rfl; (intro w hSt; (first | (exact Ev_str_add rfl rfl (by simp only [List.length_append, List.length_cons, List.length_nil]; omega)) | exact Ev_auto))) | refine QL_pass rfl rfl ?_ | (refine QL_guardP rfl rfl (fun hc => ?_) (fun hc => ?_) <;> try exact absA) | (refine QL_guard rfl rfl (fun hc => ?_) (fun hc => ?_) <;> (try exact absA) <;> (fail_if_success (change true = true at hc)) <;> (fail_if_success (change false = false at hc))))); all_goals (refine QL_nil (fun w hSt => ?_))) | (refine stepG ?_ ?_ <;> intro hc <;> (try exact absA) <;> (fail_if_success (change true = true at hc)) <;> (fail_if_success (change false = false at hc))) | fail)
      all_goals try (exfalso; first | omega | (simp at hc; done) | (exact hc rfl) | contradiction)
      all_goals exact ret1 rfl rfl ⟨rfl, hSt.nil⟩
    · rw [show ltB (lvlF 2) le = false from decide_eq_false hlt]
      repeat' (first | (refine WL_box rfl rfl rfl hSt ?_; clear hSt; intro w nb hnb hSt; replace hSt := hSt.front; dsimp only [zcells, List.nil_append, List.cons_append] at hSt) | (refine WL_isCall (f := 137) ?_; refine WL_call (ok_call hT rfl) rfl rfl rfl (rlevel_any _ _ _ _) ?_; rintro v w2 ⟨rfl, hc2⟩; replace hSt := hSt.call0 hc2; clear hc2) | (apply WL_ev rfl rfl; exact Ev_str_add rfl rfl (by simp only [List.length_append, List.length_cons, List.length_nil]; omega)) | refine stepA ?_ | (refine stepS ?_; clear hSt; intro w hSt; dsimp only [spl, List.set] at hSt) | (refine stepB ?_; clear hSt; intro w nb hnb hSt; dsimp only [zcells, List.nil_append, List.cons_append] at hSt) | (refine W_quiet hT (by decide +kernel) hSt ?_; clear hSt; (repeat' (first | (refine QL_isCall (f := 72) ?_; refine QL_call (ok_call hT rfl) rfl rfl rfl (fun w hSt => (rquot_any t (by omega)).mono (fun v w2 h => ⟨h.1, hSt.call0 h.2⟩)) ?_) | (apply QL_ev rfl rfl; (intro w hSt; (first | (exact Ev_str_add rfl rfl (by simp only [List.length_append, List.length_cons, List.length_nil]; omega)) | exact Ev_auto))) | refine QL_pass rfl rfl ?_ | (refine QL_guardP rfl rfl (fun hc => ?_) (fun hc => ?_) <;> try exact absA) | (refine QL_guard rfl rfl (fun hc => ?_) (fun hc => ?_) <;> (try exact absA) <;> (fail_if_success (change true = true at hc)) <;> (fail_if_success (change false = false at hc))))); all_goals (refine QL_nil (fun w hSt => ?_))) | (refine stepG ?_ ?_ <;> intro hc <;> (try exact absA) <;> (fail_if_success (change true = true at hc)) <;> (fail_if_success (change false = false at hc))) | fail)
      all_goals try (exfalso; first | omega | (simp at hc; done) | (exact hc rfl) | contradiction)
      all_goals exact ret1 rfl rfl ⟨rfl, hSt.nil⟩
  · have hla : levC a ≤ 20 := by simp only [levC, levCs] at hlev; omega
    have hp := ih a (List.mem_cons_self ..) ha hla
    have hpl := prt_small ha hla
    obtain ⟨x, hx, hca⟩ := hcs.at (i := 0) (a := a) rfl
    obtain ⟨b1, o1, m1, E1, z1, rfl, hb1, q1, hl1⟩ := hc1 0 x hx
    have hcx := hca
    obtain ⟨va, xa, rfl, hsa, _⟩ := hca.cells
    obtain ⟨a2, p2, rfl, _⟩ := hsa.some_ rfl
    have hpa := fun (w : World) (k : Keeps w0 w) (l : Int) => hp w _ l (hcx.kept k)
    have hl3 := fun y => parF_len y (prtF a)
    have hars : ([a] : List Cn).length = 1 := rfl
    have hl4 := hl3 (ltB (lvlF a.op) 3)
    have ep : prtO 3 [] [] (prtL [a]) = [33] ++ parF (ltB (lvlF a.op) 3) (prtF a) := by
      have e : decide (a.op = 5 ∨ a.op = 4) = ltB (lvlF a.op) 3 := decide_eq_decide.2 (by unfold lvlF; (repeat' split) <;> omega)
      rw [← e]; rfl
    rw [ep] at hsm ⊢
    refine enter Tryz.func115 rfl Tryz.ntmps115 rfl ?_
    by_cases hlt : (3 : Int) < le
    · rw [show ltB (lvlF 3) le = true from decide_eq_true hlt]
      repeat' (first | (refine WL_box rfl rfl rfl hSt ?_; clear hSt; intro w nb hnb hSt; replace hSt := hSt.front; dsimp only [zcells, List.nil_append, List.cons_append] at hSt) | (refine WL_isCall (f := 115) ?_; refine WL_call (ok_call hT rfl) rfl rfl rfl (hpa _ hSt.nil.keeps 3) ?_; rintro v w2 ⟨rfl, hc2⟩; replace hSt := hSt.call0 hc2; clear hc2) | (apply WL_ev rfl rfl; exact Ev_loadN hT rfl rfl (hSt.base hb1 (fun e => e)) q1 rfl) | (refine WL_isCall (f := 137) ?_; refine WL_call (ok_call hT rfl) rfl rfl rfl (rlevel_any _ _ _ _) ?_; rintro v w2 ⟨rfl, hc2⟩; replace hSt := hSt.call0 hc2; clear hc2) | (apply WL_ev rfl rfl; exact Ev_str_add rfl rfl (by simp only [List.length_append, List.length_cons, List.length_nil]; omega)) | refine stepA ?_ | (refine stepS ?_; clear hSt; intro w hSt; dsimp only [spl, List.set] at hSt) | (refine stepB ?_; clear hSt; intro w nb hnb hSt; dsimp only [zcells, List.nil_append, List.cons_append] at hSt) | (refine W_quiet hT (by decide +kernel) hSt ?_; clear hSt; (repeat' (first | (apply QL_ev rfl rfl; (intro w hSt; (first | (exact Ev_loadN hT rfl rfl (hSt.base hb1 (fun e => e)) q1 rfl) | (exact Ev_str_add rfl rfl (by simp only [List.length_append, List.length_cons, List.length_nil]; omega)) | exact Ev_auto))) | refine QL_pass rfl rfl ?_ | (refine QL_guardP rfl rfl (fun hc => ?_) (fun hc => ?_) <;> try exact absA) | (refine QL_guard rfl rfl (fun hc => ?_) (fun hc => ?_) <;> (try exact absA) <;> (fail_if_success (change true = true at hc)) <;> (fail_if_success (change false = false at hc))))); all_goals (refine QL_nil (fun w hSt => ?_))) | (refine stepG ?_ ?_ <;> intro hc <;> (try exact absA) <;> (fail_if_success (change true = true at hc)) <;> (fail_if_success (change false = false at hc))) | fail)
      all_goals try (exfalso; first | omega | (simp at hc; done) | (exact hc rfl) | contradiction)
      all_goals exact ret1 rfl rfl ⟨rfl, hSt.nil⟩
    · rw [show ltB (lvlF 3) le = false from decide_eq_false hlt]
      repeat' (first | (refine WL_box rfl rfl rfl hSt ?_; clear hSt; intro w nb hnb hSt; replace hSt := hSt.front; dsimp only [zcells, List.nil_append, List.cons_append] at hSt) | (refine WL_isCall (f := 115) ?_; refine WL_call (ok_call hT rfl) rfl rfl rfl (hpa _ hSt.nil.keeps 3) ?_; rintro v w2 ⟨rfl, hc2⟩; replace hSt := hSt.call0 hc2; clear hc2) | (apply WL_ev rfl rfl; exact Ev_loadN hT rfl rfl (hSt.base hb1 (fun e => e)) q1 rfl) | (refine WL_isCall (f := 137) ?_; refine WL_call (ok_call hT rfl) rfl rfl rfl (rlevel_any _ _ _ _) ?_; rintro v w2 ⟨rfl, hc2⟩; replace hSt := hSt.call0 hc2; clear hc2) | (apply WL_ev rfl rfl; exact Ev_str_add rfl rfl (by simp only [List.length_append, List.length_cons, List.length_nil]; omega)) | refine stepA ?_ | (refine stepS ?_; clear hSt; intro w hSt; dsimp only [spl, List.set] at hSt) | (refine stepB ?_; clear hSt; intro w nb hnb hSt; dsimp only [zcells, List.nil_append, List.cons_append] at hSt) | (refine W_quiet hT (by decide +kernel) hSt ?_; clear hSt; (repeat' (first | (apply QL_ev rfl rfl; (intro w hSt; (first | (exact Ev_loadN hT rfl rfl (hSt.base hb1 (fun e => e)) q1 rfl) | (exact Ev_str_add rfl rfl (by simp only [List.length_append, List.length_cons, List.length_nil]; omega)) | exact Ev_auto))) | refine QL_pass rfl rfl ?_ | (refine QL_guardP rfl rfl (fun hc => ?_) (fun hc => ?_) <;> try exact absA) | (refine QL_guard rfl rfl (fun hc => ?_) (fun hc => ?_) <;> (try exact absA) <;> (fail_if_success (change true = true at hc)) <;> (fail_if_success (change false = false at hc))))); all_goals (refine QL_nil (fun w hSt => ?_))) | (refine stepG ?_ ?_ <;> intro hc <;> (try exact absA) <;> (fail_if_success (change true = true at hc)) <;> (fail_if_success (change false = false at hc))) | fail)
      all_goals try (exfalso; first | omega | (simp at hc; done) | (exact hc rfl) | contradiction)
      all_goals exact ret1 rfl rfl ⟨rfl, hSt.nil⟩
  · have hla : levC a ≤ 20 := by simp only [levC, levCs] at hlev; omega
    have hlb : levC b ≤ 20 := by simp only [levC, levCs] at hlev; omega
    have hp := ih a (List.mem_cons_self ..) ha hla
    have hp2 := ih b (List.mem_cons_of_mem _ (List.mem_cons_self ..)) hb hlb
    have hpl := prt_small ha hla
    have hpl2 := prt_small hb hlb
    obtain ⟨x, hx, hca⟩ := hcs.at (i := 0) (a := a) rfl
    obtain ⟨y, hy, hcb⟩ := hcs.at (i := 1) (a := b) rfl
    obtain ⟨b1, o1, m1, E1, z1, rfl, hb1, q1, hl1⟩ := hc1 0 x hx
    obtain ⟨b2, o2, m2, E2, z2, e9, hb2, q2, hl2⟩ := hc1 1 y hy
    injection e9 with e9
    injection e9 with e1 e2 _
    subst e1 e2
    rw [hb1] at hb2
    injection hb2 with hb2
    injection hb2 with e1 e2 e3
    injection e1 with e1
    subst e1
    have hcx := hca
    have hcy := hcb
    obtain ⟨va, xa, rfl, hsa, _⟩ := hca.cells
    obtain ⟨a2, p2, rfl, _⟩ := hsa.some_ rfl
    obtain ⟨vb, xb, rfl, hsb, _⟩ := hcb.cells
    obtain ⟨a3, p3, rfl, _⟩ := hsb.some_ rfl
    have hpa := fun (w : World) (k : Keeps w0 w) (l : Int) => hp w _ l (hcx.kept k)
    have hpb := fun (w : World) (k : Keeps w0 w) (l : Int) => hp2 w _ l (hcy.kept k)
    have hl3 := fun y => parF_len y (prtF a)
    have hl4 := fun y => parF_len y (prtF b)
    have hars : ([a, b] : List Cn).length = 2 := rfl
    have e2 : ∀ c : Cn, decide (c.op = 5) = ltB (lvlF c.op) 2 := fun c => decide_eq_decide.2 (by unfold lvlF; (repeat' split) <;> omega)
    have e3 : ∀ c : Cn, decide (c.op = 5 ∨ c.op = 4) = ltB (lvlF c.op) 3 := fun c => decide_eq_decide.2 (by unfold lvlF; (repeat' split) <;> omega)
    have e1 : ltB (lvlF a.op) 1 = false := decide_eq_false (by unfold lvlF; (repeat' split) <;> omega)
    have g1 := hl3 (ltB (lvlF a.op) 2)
    have g2 := hl4 (ltB (lvlF b.op) 3)
    have g3 := hl4 (ltB (lvlF b.op) 2)
    rcases ho with rfl | rfl
    · have ep : prtO 4 [] [] (prtL [a, b]) = parF (ltB (lvlF a.op) 2) (prtF a) ++ [32, 38, 32] ++ parF (ltB (lvlF b.op) 3) (prtF b) := by
        rw [← e2, ← e3, List.append_assoc]; rfl
      rw [ep] at hsm ⊢
      refine enter Tryz.func115 rfl Tryz.ntmps115 rfl ?_
      by_cases hlt : (2 : Int) < le
      · rw [show ltB (lvlF 4) le = true from decide_eq_true hlt]
        repeat' (first | (refine WL_box rfl rfl rfl hSt ?_; clear hSt; intro w nb hnb hSt; replace hSt := hSt.front; dsimp only [zcells, List.nil_append, List.cons_append] at hSt) | (apply WL_ev rfl rfl; exact Ev_loadN hT rfl rfl (hSt.base hb1 (fun e => e)) q1 rfl) | (apply WL_ev rfl rfl; exact Ev_loadN hT rfl rfl (hSt.base hb1 (fun e => e)) q2 rfl) | (refine WL_isCall (f := 137) ?_; refine WL_call (ok_call hT rfl) rfl rfl rfl (rlevel_any _ _ _ _) ?_; rintro v w2 ⟨rfl, hc2⟩; replace hSt := hSt.call0 hc2; clear hc2) | (apply WL_ev rfl rfl; exact Ev_str_add rfl rfl (by simp only [List.length_append, List.length_cons, List.length_nil]; omega)) | refine stepA ?_ | (refine stepS ?_; clear hSt; intro w hSt; dsimp only [spl, List.set] at hSt) | (refine stepB ?_; clear hSt; intro w nb hnb hSt; dsimp only [zcells, List.nil_append, List.cons_append] at hSt) | (refine W_quiet hT (by decide +kernel) hSt ?_; clear hSt; (repeat' (first | (refine QL_isCall (f := 115) ?_; refine QL_call (ok_call hT rfl) rfl rfl rfl (fun w hSt => (hpa w hSt.nil.keeps 2).mono (fun v w2 h => ⟨h.1, hSt.call0 h.2⟩)) ?_) | (refine QL_isCall (f := 115) ?_; refine QL_call (ok_call hT rfl) rfl rfl rfl (fun w hSt => (hpb w hSt.nil.keeps 3).mono (fun v w2 h => ⟨h.1, hSt.call0 h.2⟩)) ?_) | (apply QL_ev rfl rfl; (intro w hSt; (first | (exact Ev_loadN hT rfl rfl (hSt.base hb1 (fun e => e)) q1 rfl) | (exact Ev_loadN hT rfl rfl (hSt.base hb1 (fun e => e)) q2 rfl) | (exact Ev_str_add rfl rfl (by simp only [List.length_append, List.length_cons, List.length_nil]; omega)) | exact Ev_auto))) | refine QL_pass rfl rfl ?_ | (refine QL_guardP rfl rfl (fun hc => ?_) (fun hc => ?_) <;> try exact absA) | (refine QL_guard rfl rfl (fun hc => ?_) (fun hc => ?_) <;> (try exact absA) <;> (fail_if_success (change true = true at hc)) <;> (fail_if_success (change false = false at hc))))); all_goals (refine QL_nil (fun w hSt => ?_))) | (refine stepG ?_ ?_ <;> intro hc <;> (try exact absA) <;> (fail_if_success (change true = true at hc)) <;> (fail_if_success (change false = false at hc))) | fail)
        all_goals try (exfalso; first | omega | (simp at hc; done) | (exact hc rfl) | contradiction)
        all_goals exact ret1 rfl rfl ⟨rfl, hSt.nil⟩
      · rw [show ltB (lvlF 4) le = false from decide_eq_false hlt]
        repeat' (first | (refine WL_box rfl rfl rfl hSt ?_; clear hSt; intro w nb hnb hSt; replace hSt := hSt.front; dsimp only [zcells, List.nil_append, List.cons_append] at hSt) | (apply WL_ev rfl rfl; exact Ev_loadN hT rfl rfl (hSt.base hb1 (fun e => e)) q1 rfl) | (apply WL_ev rfl rfl; exact Ev_loadN hT rfl rfl (hSt.base hb1 (fun e => e)) q2 rfl) | (refine WL_isCall (f := 137) ?_; refine WL_call (ok_call hT rfl) rfl rfl rfl (rlevel_any _ _ _ _) ?_; rintro v w2 ⟨rfl, hc2⟩; replace hSt := hSt.call0 hc2; clear hc2) | (apply WL_ev rfl rfl; exact Ev_str_add rfl rfl (by simp only [List.length_append, List.length_cons, List.length_nil]; omega)) | refine stepA ?_ | (refine stepS ?_; clear hSt; intro w hSt; dsimp only [spl, List.set] at hSt) | (refine stepB ?_; clear hSt; intro w nb hnb hSt; dsimp only [zcells, List.nil_append, List.cons_append] at hSt) | (refine W_quiet hT (by decide +kernel) hSt ?_; clear hSt; (repeat' (first | (refine QL_isCall (f := 115) ?_; refine QL_call (ok_call hT rfl) rfl rfl rfl (fun w hSt => (hpa w hSt.nil.keeps 2).mono (fun v w2 h => ⟨h.1, hSt.call0 h.2⟩)) ?_) | (refine QL_isCall (f := 115) ?_; refine QL_call (ok_call hT rfl) rfl rfl rfl (fun w hSt => (hpb w hSt.nil.keeps 3).mono (fun v w2 h => ⟨h.1, hSt.call0 h.2⟩)) ?_) | (apply QL_ev rfl rfl; (intro w hSt; (first | (exact Ev_loadN hT rfl rfl (hSt.base hb1 (fun e => e)) q1 rfl) | (exact Ev_loadN hT rfl rfl (hSt.base hb1 (fun e => e)) q2 rfl) | (exact Ev_str_add rfl rfl (by simp only [List.length_append, List.length_cons, List.length_nil]; omega)) | exact Ev_auto))) | refine QL_pass rfl rfl ?_ | (refine QL_guardP rfl rfl (fun hc => ?_) (fun hc => ?_) <;> try exact absA) | (refine QL_guard rfl rfl (fun hc => ?_) (fun hc => ?_) <;> (try exact absA) <;> (fail_if_success (change true = true at hc)) <;> (fail_if_success (change false = false at hc))))); all_goals (refine QL_nil (fun w hSt => ?_))) | (refine stepG ?_ ?_ <;> intro hc <;> (try exact absA) <;> (fail_if_success (change true = true at hc)) <;> (fail_if_success (change false = false at hc))) | fail)
        all_goals try (exfalso; first | omega | (simp at hc; done) | (exact hc rfl) | contradiction)
        all_goals exact ret1 rfl rfl ⟨rfl, hSt.nil⟩
    · have ep : prtO 5 [] [] (prtL [a, b]) = prtF a ++ [32, 124, 32] ++ parF (ltB (lvlF b.op) 2) (prtF b) := by
        rw [← e2, List.append_assoc]; rfl
      have hpa1 := fun (w : World) (k : Keeps w0 w) => hpa w k 1
      rw [e1, show parF false (prtF a) = prtF a from rfl] at hpa1
      rw [ep] at hsm ⊢
      refine enter Tryz.func115 rfl Tryz.ntmps115 rfl ?_
      by_cases hlt : (1 : Int) < le
      · rw [show ltB (lvlF 5) le = true from decide_eq_true hlt]
        repeat' (first | (refine WL_box rfl rfl rfl hSt ?_; clear hSt; intro w nb hnb hSt; replace hSt := hSt.front; dsimp only [zcells, List.nil_append, List.cons_append] at hSt) | (apply WL_ev rfl rfl; exact Ev_loadN hT rfl rfl (hSt.base hb1 (fun e => e)) q1 rfl) | (apply WL_ev rfl rfl; exact Ev_loadN hT rfl rfl (hSt.base hb1 (fun e => e)) q2 rfl) | (refine WL_isCall (f := 137) ?_; refine WL_call (ok_call hT rfl) rfl rfl rfl (rlevel_any _ _ _ _) ?_; rintro v w2 ⟨rfl, hc2⟩; replace hSt := hSt.call0 hc2; clear hc2) | (apply WL_ev rfl rfl; exact Ev_str_add rfl rfl (by simp only [List.length_append, List.length_cons, List.length_nil]; omega)) | refine stepA ?_ | (refine stepS ?_; clear hSt; intro w hSt; dsimp only [spl, List.set] at hSt) | (refine stepB ?_; clear hSt; intro w nb hnb hSt; dsimp only [zcells, List.nil_append, List.cons_append] at hSt) | (refine W_quiet hT (by decide +kernel) hSt ?_; clear hSt; (repeat' (first | (refine QL_isCall (f := 115) ?_; refine QL_call (ok_call hT rfl) rfl rfl rfl (fun w hSt => (hpa1 w hSt.nil.keeps).mono (fun v w2 h => ⟨h.1, hSt.call0 h.2⟩)) ?_) | (refine QL_isCall (f := 115) ?_; refine QL_call (ok_call hT rfl) rfl rfl rfl (fun w hSt => (hpb w hSt.nil.keeps 2).mono (fun v w2 h => ⟨h.1, hSt.call0 h.2⟩)) ?_) | (apply QL_ev rfl rfl; (intro w hSt; (first | (exact Ev_loadN hT rfl rfl (hSt.base hb1 (fun e => e)) q1 rfl) | (exact Ev_loadN hT rfl rfl (hSt.base hb1 (fun e => e)) q2 rfl) | (exact Ev_str_add rfl rfl (by simp only [List.length_append, List.length_cons, List.length_nil]; omega)) | exact Ev_auto))) | refine QL_pass rfl rfl ?_ | (refine QL_guardP rfl rfl (fun hc => ?_) (fun hc => ?_) <;> try exact absA) | (refine QL_guard rfl rfl (fun hc => ?_) (fun hc => ?_) <;> (try exact absA) <;> (fail_if_success (change true = true at hc)) <;> (fail_if_success (change false = false at hc))))); all_goals (refine QL_nil (fun w hSt => ?_))) | (refine stepG ?_ ?_ <;> intro hc <;> (try exact absA) <;> (fail_if_success (change true = true at hc)) <;> (fail_if_success (change false = false at hc))) | fail)
        all_goals try (exfalso; first | omega | (simp at hc; done) | (exact hc rfl) | contradiction)
        all_goals exact ret1 rfl rfl ⟨rfl, hSt.nil⟩
      · rw [show ltB (lvlF 5) le = false from decide_eq_false hlt]
        repeat' (first | (refine WL_box rfl rfl rfl hSt ?_; clear hSt; intro w nb hnb hSt; replace hSt := hSt.front; dsimp only [zcells, List.nil_append, List.cons_append] at hSt) | (apply WL_ev rfl rfl; exact Ev_loadN hT rfl rfl (hSt.base hb1 (fun e => e)) q1 rfl) | (apply WL_ev rfl rfl; exact Ev_loadN hT rfl rfl (hSt.base hb1 (fun e => e)) q2 rfl) | (refine WL_isCall (f := 137) ?_; refine WL_call (ok_call hT rfl) rfl rfl rfl (rlevel_any _ _ _ _) ?_; rintro v w2 ⟨rfl, hc2⟩; replace hSt := hSt.call0 hc2; clear hc2) | (apply WL_ev rfl rfl; exact Ev_str_add rfl rfl (by simp only [List.length_append, List.length_cons, List.length_nil]; omega)) | refine stepA ?_ | (refine stepS ?_; clear hSt; intro w hSt; dsimp only [spl, List.set] at hSt) | (refine stepB ?_; clear hSt; intro w nb hnb hSt; dsimp only [zcells, List.nil_append, List.cons_append] at hSt) | (refine W_quiet hT (by decide +kernel) hSt ?_; clear hSt; (repeat' (first | (refine QL_isCall (f := 115) ?_; refine QL_call (ok_call hT rfl) rfl rfl rfl (fun w hSt => (hpa1 w hSt.nil.keeps).mono (fun v w2 h => ⟨h.1, hSt.call0 h.2⟩)) ?_) | (refine QL_isCall (f := 115) ?_; refine QL_call (ok_call hT rfl) rfl rfl rfl (fun w hSt => (hpb w hSt.nil.keeps 2).mono (fun v w2 h => ⟨h.1, hSt.call0 h.2⟩)) ?_) | (apply QL_ev rfl rfl; (intro w hSt; (first | (exact Ev_loadN hT rfl rfl (hSt.base hb1 (fun e => e)) q1 rfl) | (exact Ev_loadN hT rfl rfl (hSt.base hb1 (fun e => e)) q2 rfl) | (exact Ev_str_add rfl rfl (by simp only [List.length_append, List.length_cons, List.length_nil]; omega)) | exact Ev_auto))) | refine QL_pass rfl rfl ?_ | (refine QL_guardP rfl rfl (fun hc => ?_) (fun hc => ?_) <;> try exact absA) | (refine QL_guard rfl rfl (fun hc => ?_) (fun hc => ?_) <;> (try exact absA) <;> (fail_if_success (change true = true at hc)) <;> (fail_if_success (change false = false at hc))))); all_goals (refine QL_nil (fun w hSt => ?_))) | (refine stepG ?_ ?_ <;> intro hc <;> (try exact absA) <;> (fail_if_success (change true = true at hc)) <;> (fail_if_success (change false = false at hc))) | fail)
        all_goals try (exfalso; first | omega | (simp at hc; done) | (exact hc rfl) | contradiction)
        all_goals exact ret1 rfl rfl ⟨rfl, hSt.nil⟩
theorem rkond_any {w0 : World} {c : Cn} {cs : List Value} (h : CondAt w0 c cs) (hl : levC c ≤ 9223372036854775807) : Cl Tryz.prog 71 [.agg ⟨cs⟩] w0 (fun v w' => v = S (condS c) ∧ St w0 NoneS [] w') := by
  have hSt := St.refl w0 NoneS
  have h0 := h
  obtain ⟨v0, xs, rfl, hs, hcs, htl, hal⟩ := h.cells
  obtain ⟨a1, p1, rfl, _⟩ := hs.some_ hcs.len
  have hva := fun (w : World) (k : Keeps w0 w) => valid_any (h0.kept k) hl
  unfold condS
  refine enter Tryz.func71 rfl Tryz.ntmps71 rfl ?_
  cases hg : goodC c with
  | true =>
    obtain ⟨h6, hf⟩ := good_parts hg
    rw [if_pos rfl]
    rw [hg] at hva
    have hpr := fun (w : World) (k : Keeps w0 w) => rprint_any c hf (by omega) w _ 1 (h0.kept k)
    have e1 : ltB (lvlF c.op) 1 = false := decide_eq_false (by unfold lvlF; (repeat' split) <;> omega)
    rw [e1, show parF false (prtF c) = prtF c from rfl] at hpr
    repeat' (first | (refine WL_box rfl rfl rfl hSt ?_; clear hSt; intro w nb hnb hSt; replace hSt := hSt.front; dsimp only [zcells, List.nil_append, List.cons_append] at hSt) | (refine WL_isCall (f := 114) ?_; refine WL_call (ok_call hT rfl) rfl rfl rfl (hva _ hSt.nil.keeps) ?_; rintro v w2 ⟨rfl, hc2⟩; replace hSt := hSt.call0 hc2; clear hc2) | (refine WL_isCall (f := 115) ?_; refine WL_call (ok_call hT rfl) rfl rfl rfl (hpr _ hSt.nil.keeps) ?_; rintro v w2 ⟨rfl, hc2⟩; replace hSt := hSt.call0 hc2; clear hc2) | refine stepA ?_ | (refine stepS ?_; clear hSt; intro w hSt; dsimp only [spl, List.set] at hSt) | (refine stepB ?_; clear hSt; intro w nb hnb hSt; dsimp only [zcells, List.nil_append, List.cons_append] at hSt) | (refine W_quiet hT (by decide +kernel) hSt ?_; clear hSt; (repeat' (first | (apply QL_ev rfl rfl; (intro w hSt; (first | exact Ev_auto))) | refine QL_pass rfl rfl ?_ | (refine QL_guardP rfl rfl (fun hc => ?_) (fun hc => ?_) <;> try exact absA) | (refine QL_guard rfl rfl (fun hc => ?_) (fun hc => ?_) <;> (try exact absA) <;> (fail_if_success (change true = true at hc)) <;> (fail_if_success (change false = false at hc))))); all_goals (refine QL_nil (fun w hSt => ?_))) | (refine stepG ?_ ?_ <;> intro hc <;> (try exact absA) <;> (fail_if_success (change true = true at hc)) <;> (fail_if_success (change false = false at hc))) | fail)
    all_goals try (exfalso; first | omega | (simp at hc; done) | (exact hc rfl) | contradiction)
    all_goals exact ret1 rfl rfl ⟨rfl, hSt.nil⟩
  | false =>
    rw [if_neg (by simp)]
    rw [hg] at hva
    repeat' (first | (refine WL_box rfl rfl rfl hSt ?_; clear hSt; intro w nb hnb hSt; replace hSt := hSt.front; dsimp only [zcells, List.nil_append, List.cons_append] at hSt) | (refine WL_isCall (f := 114) ?_; refine WL_call (ok_call hT rfl) rfl rfl rfl (hva _ hSt.nil.keeps) ?_; rintro v w2 ⟨rfl, hc2⟩; replace hSt := hSt.call0 hc2; clear hc2) | refine stepA ?_ | (refine stepS ?_; clear hSt; intro w hSt; dsimp only [spl, List.set] at hSt) | (refine stepB ?_; clear hSt; intro w nb hnb hSt; dsimp only [zcells, List.nil_append, List.cons_append] at hSt) | (refine W_quiet hT (by decide +kernel) hSt ?_; clear hSt; (repeat' (first | (apply QL_ev rfl rfl; (intro w hSt; (first | exact Ev_auto))) | refine QL_pass rfl rfl ?_ | (refine QL_guardP rfl rfl (fun hc => ?_) (fun hc => ?_) <;> try exact absA) | (refine QL_guard rfl rfl (fun hc => ?_) (fun hc => ?_) <;> (try exact absA) <;> (fail_if_success (change true = true at hc)) <;> (fail_if_success (change false = false at hc))))); all_goals (refine QL_nil (fun w hSt => ?_))) | (refine stepG ?_ ?_ <;> intro hc <;> (try exact absA) <;> (fail_if_success (change true = true at hc)) <;> (fail_if_success (change false = false at hc))) | fail)
    all_goals try (exfalso; first | omega | (simp at hc; done) | (exact hc rfl) | contradiction)
    all_goals exact ret1 rfl rfl ⟨rfl, hSt.nil⟩
end Go.Proofs.YtknfankadlokhaaGreatDoor
