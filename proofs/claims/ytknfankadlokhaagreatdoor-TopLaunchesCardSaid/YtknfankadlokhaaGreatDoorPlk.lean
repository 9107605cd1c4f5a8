/- A string of the lexer, in memory. No conditions. -/
import Derived.Test.YtknfankadlokhaaGreatDoorNG
import Derived.Test.YtknfankadlokhaaGreatDoorPlj

namespace Go.Proofs.YtknfankadlokhaaGreatDoor
open Go.RowKit
set_option maxRecDepth 4000
set_option linter.unusedVariables false
set_option linter.unusedSimpArgs false
set_option maxHeartbeats 16000000

section
variable {w0 w1 w w' : World} {Sx : Nat → Prop} {H HB HB' : List (Nat × Obj)} {x y : Nat × Obj} {b M : Nat} {l : Tx}
theorem back2 (h0 : St w0 Sx H w1) (h : St w1 (InH H) (x :: y :: HB) w) : St w0 Sx [y] w := by
  have := h0.callE (Ha := []) (h.left (H0 := [x, y]) (H1 := HB))
  exact St.right (Ha := [x]) this
theorem ups (hM : ∀ x ∈ HB, M ≤ x.1) (hs : M ≤ w.heap.size) (h : St w (InH HB) HB' w') : ∀ x ∈ HB', M ≤ x.1 := by
  intro x hx
  obtain ⟨i, hi⟩ := List.getElem?_of_mem hx
  rcases (h.own i x.1 x.2 hi).2 with ⟨j, o, hj⟩ | h1
  · exact hM (x.1, o) (List.mem_of_getElem? hj)
  · omega
theorem St.above (h : St w0 Sx H w) (k : St w (fun b => w0.heap.size ≤ b) [] w') (hl : ∀ x ∈ H, x.1 < w0.heap.size) : St w0 Sx H w' := h.trans k (fun b e => .inr e) (fun i b o hi => .inr ⟨i, hi, fun e => by have := hl _ (List.mem_of_getElem? hi); dsimp only at this; omega⟩) h.apart
/-- a builder hands out its text; what lies below its blocks stays -/
theorem string_keep (hB : Bld b l HB) (hE : Has w HB) (hM : ∀ x ∈ HB, M ≤ x.1) (hs : M ≤ w.heap.size) : Cl Tryz.prog 54 [Ptr b] w (fun r w' => r = S l ∧ St w (fun k => M ≤ k) [] w') := by
  obtain ⟨p, v, H1, hp, ⟨hxl, hv⟩, hcb, rfl⟩ := hB
  have hbO := hE.own 0 b _ rfl
  have hge : M ≤ b := hM _ (List.mem_cons_self ..)
  have hat : Lib.BuilderAt 88 5 M b p (Lib.byteCells l) w := by
    refine ⟨hge, v, hbO, ⟨by simp [Lib.byteCells], ?_⟩, ?_⟩
    · rcases hv with ⟨rfl, h0, rfl⟩ | ⟨g, cap, rs, rfl, hle, hrs, rfl⟩
      · exact .inl ⟨rfl, by simpa [Lib.byteCells] using h0⟩
      · have hg := hE.own 1 g _ rfl
        refine .inr ⟨g, cap, _, by simp [Lib.byteCells], hM (g, _) (List.mem_cons_of_mem _ (List.mem_cons_self ..)), hg, by simpa [Lib.byteCells] using hle, hcb _ _ _ rfl, ?_, ?_⟩
        · simp [hrs]; omega
        · simp [Lib.byteCells]
    · rcases hv with ⟨rfl, h0, rfl⟩ | ⟨g, cap, rs, rfl, hle, hrs, rfl⟩
      · simp [Value.ownBlock]
      · intro e
        have e : g = b := by simpa [Value.ownBlock] using e
        have := hE.apart 0 1 b g _ _ rfl rfl e.symm
        omega
  have hib : Lib.IsBuilder 88 5 M b (Lib.byteCells l) w := by
    rcases hp with rfl | rfl
    · exact .inl hat
    · exact .inr hat
  refine ⟨(Tryz.Builder_String_any _ _ l w hib hs).mono ?_⟩
  rintro e w' ⟨rfl, hw⟩
  refine ⟨_, rfl, rfl, ?_⟩
  exact ⟨hw.os, hw.tape, hw.output, hw.size, fun k hk hS => hw.block k (by omega), fun i b o h => by simp at h, fun i j b c o u h => by simp at h⟩
end
section
variable {w0 : World} {lb p : Nat} {s : Tx}
theorem text_r (hb : w0.heap[lb]? = some (lxO s p 0 0)) (hl : s.length ≤ 100000) (hpl : p < s.length) : Cl Tryz.prog 147 [Ptr lb] w0 (LxR (textF s p) lb s w0) := by
  have hSt := (St.refl w0 (· = lb)).know hb (Or.inl rfl) (by simp)
  dsimp only [List.nil_append, List.cons_append] at hSt
  refine enter Tryz.func147 rfl Tryz.ntmps147 rfl ?_
  repeat' (first | (refine WL_alloc (e := 88) hT rfl rfl rfl hSt.has.st ?_; have hS0 := hSt; clear hSt; rename World => w1; intro w bb hbb hSt; dsimp only [zcells, List.nil_append, List.cons_append] at hSt) | (refine WL_alloc hT rfl rfl rfl hSt ?_; clear hSt; intro w nb hnb hSt; replace hSt := hSt.front; dsimp only [zcells] at hSt) | refine stepA ?_ | (refine stepS ?_; clear hSt; intro w hSt; dsimp only [spl, List.set] at hSt) | (refine stepB ?_; clear hSt; intro w nb hnb hSt; dsimp only [zcells, List.nil_append, List.cons_append] at hSt) | (refine W_quiet hT (by decide +kernel) hSt ?_; clear hSt; (repeat' (first | (apply QL_ev rfl rfl; (intro w hSt; (first | exact Ev_auto))) | refine QL_pass rfl rfl ?_ | (refine QL_guardP rfl rfl (fun hc => ?_) (fun hc => ?_) <;> try exact absA) | (refine QL_guard rfl rfl (fun hc => ?_) (fun hc => ?_) <;> (try exact absA) <;> (fail_if_success (change true = true at hc)) <;> (fail_if_success (change false = false at hc))))); all_goals (refine QL_nil (fun w hSt => ?_))) | (refine stepG ?_ ?_ <;> intro hc <;> (try exact absA) <;> (fail_if_success (change true = true at hc)) <;> (fail_if_success (change false = false at hc))) | fail)
  have hl1 : nb < w1.heap.size := hS0.lt (i := 0) rfl
  have hl2 : lb < w1.heap.size := hS0.lt (i := 1) rfl
  have hlow : ∀ (o1 o2 : Obj), ∀ x ∈ [(nb, o1), (lb, o2)], x.1 < w1.heap.size := by
    intro o1 o2 x hx
    rcases List.mem_cons.1 hx with rfl | hx
    · exact hl1
    · rw [List.mem_singleton.1 hx]; exact hl2
  refine W_loop2 (fun k (q : Nat) (out : Tx) w => k = s.length - q ∧ q ≤ s.length ∧ out.length ≤ q ∧ quotL (s.drop (p + 1)) (p + 1) [] = quotL (s.drop q) q out ∧ ∃ HB, Bld bb out HB ∧ (∀ x ∈ HB, w1.heap.size ≤ x.1) ∧ St w1 (InH [(nb, blk [I 0, S [], I 0, I 0] 63), (lb, lxO s p 0 0)]) ((nb, blk [I 0, S [], I 0, I 0] 63) :: (lb, lxO s q 0 0) :: HB) w) (fun _ _ => []) (s.length - (p + 1)) (p + 1) [] rfl (by (repeat (first | exact Str.nil _ | apply Str.drop rfl | apply Str.keepU rfl | apply Str.keep rfl))) ⟨rfl, hpl, Nat.zero_le _, rfl, _, Bld.fresh bb, by intro x hx; rw [List.mem_singleton.1 hx]; exact hbb, hSt⟩ (by (repeat (first | exact Sub.nil _ | refine Sub.cons rfl ?_))) ?_
  clear hSt
  rintro k q out w ⟨hk, hq, hol, hqt, HB, hB, hM, hSt⟩ K hK
  unfold textF
  by_cases hqs : q < s.length
  · obtain ⟨c, hc1⟩ : ∃ c, s[q]? = some c := ⟨_, List.getElem?_eq_getElem hqs⟩
    have hq0 : s[(q : Int).toNat]? = some c := by rw [Int.toNat_natCast]; exact hc1
    have hcn := c.toNat_lt
    by_cases h1 : c.toNat < 32 ∨ 126 < c.toNat
    · rw [hqt, quot_bad hc1 h1]
      repeat' (first | (apply WL_ev rfl rfl; exact Ev_strIndex hT rfl rfl rfl (by omega) hq0) | (refine WL_isCall (f := 148) ?_; refine WL_call (ok_call hT rfl) rfl rfl rfl (fail0_any (hSt.own 1 _ _ rfl).1 2 q) ?_; rintro v w2 hc2; replace hSt := hSt.call1 (i := 1) rfl hc2; clear hc2; dsimp only [List.set] at hSt) | refine stepA ?_ | (refine stepS ?_; clear hSt; intro w hSt; dsimp only [spl, List.set] at hSt) | (refine stepB ?_; clear hSt; intro w nb hnb hSt; dsimp only [zcells, List.nil_append, List.cons_append] at hSt) | (refine W_quiet hT (by decide +kernel) hSt ?_; clear hSt; (repeat' (first | (apply QL_ev rfl rfl; (intro w hSt; (first | (exact Ev_strIndex hT rfl rfl rfl (by omega) hq0) | exact Ev_auto))) | refine QL_pass rfl rfl ?_ | (refine QL_guardP rfl rfl (fun hc => ?_) (fun hc => ?_) <;> try exact absA) | (refine QL_guard rfl rfl (fun hc => ?_) (fun hc => ?_) <;> (try exact absA) <;> (fail_if_success (change true = true at hc)) <;> (fail_if_success (change false = false at hc))))); all_goals (refine QL_nil (fun w hSt => ?_))) | (refine stepG ?_ ?_ <;> intro hc <;> (try exact absA) <;> (fail_if_success (change true = true at hc)) <;> (fail_if_success (change false = false at hc))) | fail)
      all_goals try (exfalso; first | omega | (simp at hc; done) | (exact hc rfl) | contradiction)
      all_goals exact end_of (resc1 rfl hT rfl rfl (hSt.at 0 rfl) rfl rfl) ⟨Tk.zero, q, rfl, back2 (HB := HB) hS0 hSt⟩
    by_cases h2 : c.toNat = 34
    · rw [hqt, quot_done hc1 h2]
      dsimp only
      by_cases h3 : 200 < out.length
      · rw [if_pos h3]
        repeat' (first | (apply WL_ev rfl rfl; exact Ev_strIndex hT rfl rfl rfl (by omega) hq0) | (refine W_tail 9 hT (by decide +kernel) hSt ?_; clear hSt; intro w hSt; simp only [List.take_succ_cons, List.take_zero]; (repeat' (first | (apply SL_ev rfl rfl; (first | (exact Ev_strIndex hT rfl rfl rfl (by omega) hq0) | exact Ev_auto)) | refine SL_pass rfl rfl ?_ | (refine SL_guardP rfl rfl (fun hc => ?_) (fun hc => ?_) <;> try exact absA) | (refine SL_guard rfl rfl (fun hc => ?_) (fun hc => ?_) <;> (try exact absA) <;> (fail_if_success (change true = true at hc)) <;> (fail_if_success (change false = false at hc))))); all_goals (refine SL_nil ?_; simp only [List.drop_succ_cons, List.drop_zero])) | (refine WL_isCall (f := 53) ?_; refine WL_call (ok_call hT rfl) rfl rfl rfl (len_any hB (hSt.right (Ha := [_, _])).has) ?_; rintro v w2 ⟨rfl, hc2⟩; replace hSt := hSt.call0 hc2; clear hc2) | (refine WL_isCall (f := 148) ?_; refine WL_call (ok_call hT rfl) rfl rfl rfl (fail0_any (hSt.own 1 _ _ rfl).1 3 p) ?_; rintro v w2 hc2; replace hSt := hSt.call1 (i := 1) rfl hc2; clear hc2; dsimp only [List.set] at hSt) | (refine WL_isCall (f := 54) ?_; refine WL_call (ok_call hT rfl) rfl rfl rfl (string_keep hB (hSt.right (Ha := [_, _])).has hM hSt.size) ?_; rintro v w2 ⟨rfl, hc2⟩; replace hSt := (hSt.left (H0 := [_, _])).above hc2 (hlow _ _); clear hc2) | refine stepA ?_ | (refine stepS ?_; clear hSt; intro w hSt; dsimp only [spl, List.set] at hSt) | (refine stepB ?_; clear hSt; intro w nb hnb hSt; dsimp only [zcells, List.nil_append, List.cons_append] at hSt) | (refine W_quiet hT (by decide +kernel) hSt ?_; clear hSt; (repeat' (first | (apply QL_ev rfl rfl; (intro w hSt; (first | (exact Ev_strIndex hT rfl rfl rfl (by omega) hq0) | exact Ev_auto))) | refine QL_pass rfl rfl ?_ | (refine QL_guardP rfl rfl (fun hc => ?_) (fun hc => ?_) <;> try exact absA) | (refine QL_guard rfl rfl (fun hc => ?_) (fun hc => ?_) <;> (try exact absA) <;> (fail_if_success (change true = true at hc)) <;> (fail_if_success (change false = false at hc))))); all_goals (refine QL_nil (fun w hSt => ?_))) | (refine stepG ?_ ?_ <;> intro hc <;> (try exact absA) <;> (fail_if_success (change true = true at hc)) <;> (fail_if_success (change false = false at hc))) | fail)
        all_goals try (exfalso; first | omega | (simp at hc; done) | (exact hc rfl) | contradiction)
        all_goals exact end_of (resc1 rfl hT rfl rfl (hSt.at 0 rfl) rfl rfl) ⟨⟨3, out, 0, p⟩, q + 1, rfl, back2 (HB := []) hS0 hSt⟩
      · rw [if_neg h3]
        repeat' (first | (apply WL_ev rfl rfl; exact Ev_strIndex hT rfl rfl rfl (by omega) hq0) | (refine W_tail 9 hT (by decide +kernel) hSt ?_; clear hSt; intro w hSt; simp only [List.take_succ_cons, List.take_zero]; (repeat' (first | (apply SL_ev rfl rfl; (first | (exact Ev_strIndex hT rfl rfl rfl (by omega) hq0) | exact Ev_auto)) | refine SL_pass rfl rfl ?_ | (refine SL_guardP rfl rfl (fun hc => ?_) (fun hc => ?_) <;> try exact absA) | (refine SL_guard rfl rfl (fun hc => ?_) (fun hc => ?_) <;> (try exact absA) <;> (fail_if_success (change true = true at hc)) <;> (fail_if_success (change false = false at hc))))); all_goals (refine SL_nil ?_; simp only [List.drop_succ_cons, List.drop_zero])) | (refine WL_isCall (f := 53) ?_; refine WL_call (ok_call hT rfl) rfl rfl rfl (len_any hB (hSt.right (Ha := [_, _])).has) ?_; rintro v w2 ⟨rfl, hc2⟩; replace hSt := hSt.call0 hc2; clear hc2) | (refine WL_isCall (f := 54) ?_; refine WL_call (ok_call hT rfl) rfl rfl rfl (string_keep hB (hSt.right (Ha := [_, _])).has hM hSt.size) ?_; rintro v w2 ⟨rfl, hc2⟩; replace hSt := (hSt.left (H0 := [_, _])).above hc2 (hlow _ _); clear hc2) | refine stepA ?_ | (refine stepS ?_; clear hSt; intro w hSt; dsimp only [spl, List.set] at hSt) | (refine stepB ?_; clear hSt; intro w nb hnb hSt; dsimp only [zcells, List.nil_append, List.cons_append] at hSt) | (refine W_quiet hT (by decide +kernel) hSt ?_; clear hSt; (repeat' (first | (apply QL_ev rfl rfl; (intro w hSt; (first | (exact Ev_strIndex hT rfl rfl rfl (by omega) hq0) | exact Ev_auto))) | refine QL_pass rfl rfl ?_ | (refine QL_guardP rfl rfl (fun hc => ?_) (fun hc => ?_) <;> try exact absA) | (refine QL_guard rfl rfl (fun hc => ?_) (fun hc => ?_) <;> (try exact absA) <;> (fail_if_success (change true = true at hc)) <;> (fail_if_success (change false = false at hc))))); all_goals (refine QL_nil (fun w hSt => ?_))) | (refine stepG ?_ ?_ <;> intro hc <;> (try exact absA) <;> (fail_if_success (change true = true at hc)) <;> (fail_if_success (change false = false at hc))) | fail)
        all_goals try (exfalso; first | omega | (simp at hc; done) | (exact hc rfl) | contradiction)
        all_goals exact end_of (resc1 rfl hT rfl rfl (hSt.at 0 rfl) rfl rfl) ⟨rfl, back2 (HB := []) hS0 hSt⟩
    by_cases h3 : c.toNat = 92
    · by_cases hq1 : q + 1 < s.length
      · obtain ⟨d, hd1⟩ : ∃ d, s[q + 1]? = some d := ⟨_, List.getElem?_eq_getElem hq1⟩
        have hqd : s[((q : Int) + 1).toNat]? = some d := by rw [show ((q : Int) + 1).toNat = q + 1 by omega]; exact hd1
        by_cases h4 : d.toNat = 34 ∨ d.toNat = 92
        · rw [quot_esc hc1 h3 hd1 h4] at hqt
          repeat' (first | (apply WL_ev rfl rfl; exact Ev_strIndex hT rfl rfl rfl (by omega) hq0) | (apply WL_ev rfl rfl; exact Ev_strIndex hT rfl rfl rfl (by omega) hqd) | (refine W_tail 9 hT (by decide +kernel) hSt ?_; clear hSt; intro w hSt; simp only [List.take_succ_cons, List.take_zero]; (repeat' (first | (apply SL_ev rfl rfl; (first | (exact Ev_strIndex hT rfl rfl rfl (by omega) hq0) | (exact Ev_strIndex hT rfl rfl rfl (by omega) hqd) | exact Ev_auto)) | refine SL_pass rfl rfl ?_ | (refine SL_guardP rfl rfl (fun hc => ?_) (fun hc => ?_) <;> try exact absA) | (refine SL_guard rfl rfl (fun hc => ?_) (fun hc => ?_) <;> (try exact absA) <;> (fail_if_success (change true = true at hc)) <;> (fail_if_success (change false = false at hc))))); all_goals (refine SL_nil ?_; simp only [List.drop_succ_cons, List.drop_zero])) | (refine WL_call (ok_call hT rfl) rfl rfl rfl (writeB_any hB (hSt.right (Ha := [_, _])).has d (by omega)) ?_; rintro r w' ⟨rfl, HB2, hB2, hc2⟩; replace hM := ups hM hSt.size hc2; replace hSt := hSt.callE (Ha := [_, _]) hc2; dsimp only [List.nil_append, List.cons_append] at hSt; clear hc2) | refine stepA ?_ | (refine stepS ?_; clear hSt; intro w hSt; dsimp only [spl, List.set] at hSt) | (refine stepB ?_; clear hSt; intro w nb hnb hSt; dsimp only [zcells, List.nil_append, List.cons_append] at hSt) | (refine W_quiet hT (by decide +kernel) hSt ?_; clear hSt; (repeat' (first | (apply QL_ev rfl rfl; (intro w hSt; (first | (exact Ev_strIndex hT rfl rfl rfl (by omega) hq0) | (exact Ev_strIndex hT rfl rfl rfl (by omega) hqd) | exact Ev_auto))) | refine QL_pass rfl rfl ?_ | (refine QL_guardP rfl rfl (fun hc => ?_) (fun hc => ?_) <;> try exact absA) | (refine QL_guard rfl rfl (fun hc => ?_) (fun hc => ?_) <;> (try exact absA) <;> (fail_if_success (change true = true at hc)) <;> (fail_if_success (change false = false at hc))))); all_goals (refine QL_nil (fun w hSt => ?_))) | (refine stepG ?_ ?_ <;> intro hc <;> (try exact absA) <;> (fail_if_success (change true = true at hc)) <;> (fail_if_success (change false = false at hc))) | fail)
          all_goals try (exfalso; first | omega | (simp at hc; done) | (exact hc rfl) | contradiction)
          all_goals exact At_loop2 hK (k' := s.length - (q + 2)) (q + 2) (out ++ [d]) (by omega) ⟨rfl, hq1, by rw [List.length_append, List.length_singleton]; omega, hqt, HB2, hB2, hM, hSt⟩ (by (repeat (first | exact Sub.nil _ | refine Sub.cons rfl ?_)))
        · rw [hqt, quot_escB hc1 h3 hd1 h4]
          repeat' (first | (apply WL_ev rfl rfl; exact Ev_strIndex hT rfl rfl rfl (by omega) hq0) | (apply WL_ev rfl rfl; exact Ev_strIndex hT rfl rfl rfl (by omega) hqd) | (refine W_tail 9 hT (by decide +kernel) hSt ?_; clear hSt; intro w hSt; simp only [List.take_succ_cons, List.take_zero]; (repeat' (first | (apply SL_ev rfl rfl; (first | (exact Ev_strIndex hT rfl rfl rfl (by omega) hq0) | (exact Ev_strIndex hT rfl rfl rfl (by omega) hqd) | exact Ev_auto)) | refine SL_pass rfl rfl ?_ | (refine SL_guardP rfl rfl (fun hc => ?_) (fun hc => ?_) <;> try exact absA) | (refine SL_guard rfl rfl (fun hc => ?_) (fun hc => ?_) <;> (try exact absA) <;> (fail_if_success (change true = true at hc)) <;> (fail_if_success (change false = false at hc))))); all_goals (refine SL_nil ?_; simp only [List.drop_succ_cons, List.drop_zero])) | (refine WL_isCall (f := 148) ?_; refine WL_call (ok_call hT rfl) rfl rfl rfl (fail0_any (hSt.own 1 _ _ rfl).1 2 q) ?_; rintro v w2 hc2; replace hSt := hSt.call1 (i := 1) rfl hc2; clear hc2; dsimp only [List.set] at hSt) | refine stepA ?_ | (refine stepS ?_; clear hSt; intro w hSt; dsimp only [spl, List.set] at hSt) | (refine stepB ?_; clear hSt; intro w nb hnb hSt; dsimp only [zcells, List.nil_append, List.cons_append] at hSt) | (refine W_quiet hT (by decide +kernel) hSt ?_; clear hSt; (repeat' (first | (apply QL_ev rfl rfl; (intro w hSt; (first | (exact Ev_strIndex hT rfl rfl rfl (by omega) hq0) | (exact Ev_strIndex hT rfl rfl rfl (by omega) hqd) | exact Ev_auto))) | refine QL_pass rfl rfl ?_ | (refine QL_guardP rfl rfl (fun hc => ?_) (fun hc => ?_) <;> try exact absA) | (refine QL_guard rfl rfl (fun hc => ?_) (fun hc => ?_) <;> (try exact absA) <;> (fail_if_success (change true = true at hc)) <;> (fail_if_success (change false = false at hc))))); all_goals (refine QL_nil (fun w hSt => ?_))) | (refine stepG ?_ ?_ <;> intro hc <;> (try exact absA) <;> (fail_if_success (change true = true at hc)) <;> (fail_if_success (change false = false at hc))) | fail)
          all_goals try (exfalso; first | omega | (simp at hc; done) | (exact hc rfl) | contradiction)
          all_goals exact end_of (resc1 rfl hT rfl rfl (hSt.at 0 rfl) rfl rfl) ⟨Tk.zero, q, rfl, back2 (HB := HB) hS0 hSt⟩
      · rw [hqt, quot_esc0 hc1 h3 (by omega)]
        repeat' (first | (apply WL_ev rfl rfl; exact Ev_strIndex hT rfl rfl rfl (by omega) hq0) | (refine W_tail 9 hT (by decide +kernel) hSt ?_; clear hSt; intro w hSt; simp only [List.take_succ_cons, List.take_zero]; (repeat' (first | (apply SL_ev rfl rfl; (first | (exact Ev_strIndex hT rfl rfl rfl (by omega) hq0) | exact Ev_auto)) | refine SL_pass rfl rfl ?_ | (refine SL_guardP rfl rfl (fun hc => ?_) (fun hc => ?_) <;> try exact absA) | (refine SL_guard rfl rfl (fun hc => ?_) (fun hc => ?_) <;> (try exact absA) <;> (fail_if_success (change true = true at hc)) <;> (fail_if_success (change false = false at hc))))); all_goals (refine SL_nil ?_; simp only [List.drop_succ_cons, List.drop_zero])) | (refine WL_isCall (f := 148) ?_; refine WL_call (ok_call hT rfl) rfl rfl rfl (fail0_any (hSt.own 1 _ _ rfl).1 2 q) ?_; rintro v w2 hc2; replace hSt := hSt.call1 (i := 1) rfl hc2; clear hc2; dsimp only [List.set] at hSt) | refine stepA ?_ | (refine stepS ?_; clear hSt; intro w hSt; dsimp only [spl, List.set] at hSt) | (refine stepB ?_; clear hSt; intro w nb hnb hSt; dsimp only [zcells, List.nil_append, List.cons_append] at hSt) | (refine W_quiet hT (by decide +kernel) hSt ?_; clear hSt; (repeat' (first | (apply QL_ev rfl rfl; (intro w hSt; (first | (exact Ev_strIndex hT rfl rfl rfl (by omega) hq0) | exact Ev_auto))) | refine QL_pass rfl rfl ?_ | (refine QL_guardP rfl rfl (fun hc => ?_) (fun hc => ?_) <;> try exact absA) | (refine QL_guard rfl rfl (fun hc => ?_) (fun hc => ?_) <;> (try exact absA) <;> (fail_if_success (change true = true at hc)) <;> (fail_if_success (change false = false at hc))))); all_goals (refine QL_nil (fun w hSt => ?_))) | (refine stepG ?_ ?_ <;> intro hc <;> (try exact absA) <;> (fail_if_success (change true = true at hc)) <;> (fail_if_success (change false = false at hc))) | fail)
        all_goals try (exfalso; first | omega | (simp at hc; done) | (exact hc rfl) | contradiction)
        all_goals exact end_of (resc1 rfl hT rfl rfl (hSt.at 0 rfl) rfl rfl) ⟨Tk.zero, q, rfl, back2 (HB := HB) hS0 hSt⟩
    · rw [quot_char hc1 h1 h2 h3] at hqt
      repeat' (first | (apply WL_ev rfl rfl; exact Ev_strIndex hT rfl rfl rfl (by omega) hq0) | (refine W_tail 9 hT (by decide +kernel) hSt ?_; clear hSt; intro w hSt; simp only [List.take_succ_cons, List.take_zero]; (repeat' (first | (apply SL_ev rfl rfl; (first | (exact Ev_strIndex hT rfl rfl rfl (by omega) hq0) | exact Ev_auto)) | refine SL_pass rfl rfl ?_ | (refine SL_guardP rfl rfl (fun hc => ?_) (fun hc => ?_) <;> try exact absA) | (refine SL_guard rfl rfl (fun hc => ?_) (fun hc => ?_) <;> (try exact absA) <;> (fail_if_success (change true = true at hc)) <;> (fail_if_success (change false = false at hc))))); all_goals (refine SL_nil ?_; simp only [List.drop_succ_cons, List.drop_zero])) | (refine WL_call (ok_call hT rfl) rfl rfl rfl (writeB_any hB (hSt.right (Ha := [_, _])).has c (by omega)) ?_; rintro r w' ⟨rfl, HB2, hB2, hc2⟩; replace hM := ups hM hSt.size hc2; replace hSt := hSt.callE (Ha := [_, _]) hc2; dsimp only [List.nil_append, List.cons_append] at hSt; clear hc2) | refine stepA ?_ | (refine stepS ?_; clear hSt; intro w hSt; dsimp only [spl, List.set] at hSt) | (refine stepB ?_; clear hSt; intro w nb hnb hSt; dsimp only [zcells, List.nil_append, List.cons_append] at hSt) | (refine W_quiet hT (by decide +kernel) hSt ?_; clear hSt; (repeat' (first | (apply QL_ev rfl rfl; (intro w hSt; (first | (exact Ev_strIndex hT rfl rfl rfl (by omega) hq0) | exact Ev_auto))) | refine QL_pass rfl rfl ?_ | (refine QL_guardP rfl rfl (fun hc => ?_) (fun hc => ?_) <;> try exact absA) | (refine QL_guard rfl rfl (fun hc => ?_) (fun hc => ?_) <;> (try exact absA) <;> (fail_if_success (change true = true at hc)) <;> (fail_if_success (change false = false at hc))))); all_goals (refine QL_nil (fun w hSt => ?_))) | (refine stepG ?_ ?_ <;> intro hc <;> (try exact absA) <;> (fail_if_success (change true = true at hc)) <;> (fail_if_success (change false = false at hc))) | fail)
      all_goals try (exfalso; first | omega | (simp at hc; done) | (exact hc rfl) | contradiction)
      all_goals exact At_loop2 hK (k' := s.length - (q + 1)) (q + 1) (out ++ [c]) (by omega) ⟨rfl, hqs, by rw [List.length_append, List.length_singleton]; omega, hqt, HB2, hB2, hM, hSt⟩ (by (repeat (first | exact Sub.nil _ | refine Sub.cons rfl ?_)))
  · rw [hqt, quot_end (by omega)]
    repeat' (first | (refine WL_isCall (f := 148) ?_; refine WL_call (ok_call hT rfl) rfl rfl rfl (fail0_any (hSt.own 1 _ _ rfl).1 2 q) ?_; rintro v w2 hc2; replace hSt := hSt.call1 (i := 1) rfl hc2; clear hc2; dsimp only [List.set] at hSt) | refine stepA ?_ | (refine stepS ?_; clear hSt; intro w hSt; dsimp only [spl, List.set] at hSt) | (refine stepB ?_; clear hSt; intro w nb hnb hSt; dsimp only [zcells, List.nil_append, List.cons_append] at hSt) | (refine W_quiet hT (by decide +kernel) hSt ?_; clear hSt; (repeat' (first | (apply QL_ev rfl rfl; (intro w hSt; (first | exact Ev_auto))) | refine QL_pass rfl rfl ?_ | (refine QL_guardP rfl rfl (fun hc => ?_) (fun hc => ?_) <;> try exact absA) | (refine QL_guard rfl rfl (fun hc => ?_) (fun hc => ?_) <;> (try exact absA) <;> (fail_if_success (change true = true at hc)) <;> (fail_if_success (change false = false at hc))))); all_goals (refine QL_nil (fun w hSt => ?_))) | (refine stepG ?_ ?_ <;> intro hc <;> (try exact absA) <;> (fail_if_success (change true = true at hc)) <;> (fail_if_success (change false = false at hc))) | fail)
    all_goals try (exfalso; first | omega | (simp at hc; done) | (exact hc rfl) | contradiction)
    all_goals exact end_of (resc1 rfl hT rfl rfl (hSt.at 0 rfl) rfl rfl) ⟨Tk.zero, q, rfl, back2 (HB := HB) hS0 hSt⟩
end
end Go.Proofs.YtknfankadlokhaaGreatDoor
