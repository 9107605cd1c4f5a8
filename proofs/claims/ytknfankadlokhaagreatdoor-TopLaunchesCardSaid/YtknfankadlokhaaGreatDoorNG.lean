/- The scanner's smallest parts, in memory. No conditions. -/
import Derived.Test.YtknfankadlokhaaGreatDoorNA
import Derived.Test.YtknfankadlokhaaGreatDoorNE
import Derived.Test.YtknfankadlokhaaGreatDoorShelf
import Derived.Test.YtknfankadlokhaaGreatDoorMD

namespace Go.Proofs.YtknfankadlokhaaGreatDoor
open Go.RowKit
set_option maxRecDepth 4000
set_option linter.unusedVariables false
set_option linter.unusedSimpArgs false
set_option maxHeartbeats 8000000

theorem indexB_any {w0 : World} (s : Tx) (c : UInt8) : Cl Tryz.prog 153 [S s, .int .u8 (c.toNat : Int)] w0 (fun v w' => v = I (Lib.indexByte s c) ∧ St w0 NoneS [] w') := by
  refine ⟨(Tryz.strings_IndexByte ⟨⟨s⟩⟩ (c.toNat : Int) w0).mono ?_⟩
  rintro e w' ⟨rfl, rfl⟩
  refine ⟨_, rfl, ?_, St.refl _ _⟩
  show I _ = I _
  rw [show ((c.toNat : Int).toNat.toUInt8) = c by rw [Int.toNat_natCast]; exact UInt8.ofNat_toNat]
theorem class_any {w0 : World} (c : UInt8) : Cl Tryz.prog 154 [.int .u8 (c.toNat : Int)] w0 (fun v w' => v = I (clsF c) ∧ St w0 NoneS [] w') := by
  have hSt := St.refl w0 NoneS
  have hlt := c.toNat_lt
  have hmk : markC c = decide (0 ≤ Lib.indexByte marksL c) := rfl
  refine enter Tryz.func154 rfl Tryz.ntmps154 rfl ?_
  have hin : inK .i32 (c.toNat : Int) := by simp only [inK, IntKind.min, IntKind.max, IntKind.signed, IntKind.bits]; simp; omega
  repeat' (first | (apply WL_ev rfl rfl; exact Ev_conv_in hT rfl rfl rfl hin) | (refine WL_isCall (f := 153) ?_; refine WL_call (ok_call hT rfl) rfl rfl rfl (indexB_any marksL c) ?_; rintro v w' ⟨rfl, hc2⟩; replace hSt := hSt.call0 hc2; clear hc2) | refine stepA ?_ | (refine stepS ?_; clear hSt; intro w hSt; dsimp only [spl, List.set] at hSt) | (refine stepB ?_; clear hSt; intro w nb hnb hSt; dsimp only [zcells, List.nil_append, List.cons_append] at hSt) | (refine W_quiet hT (by decide +kernel) hSt ?_; clear hSt; (repeat' (first | (apply QL_ev rfl rfl; (intro w hSt; (first | (exact Ev_conv_in hT rfl rfl rfl hin) | exact Ev_auto))) | refine QL_pass rfl rfl ?_ | (refine QL_guardP rfl rfl (fun hc => ?_) (fun hc => ?_) <;> try exact absA) | (refine QL_guard rfl rfl (fun hc => ?_) (fun hc => ?_) <;> (try exact absA) <;> (fail_if_success (change true = true at hc)) <;> (fail_if_success (change false = false at hc))))); all_goals (refine QL_nil (fun w hSt => ?_))) | (refine stepG ?_ ?_ <;> intro hc <;> (try exact absA) <;> (fail_if_success (change true = true at hc)) <;> (fail_if_success (change false = false at hc))) | fail)
  all_goals (refine ret1 rfl rfl ⟨congrArg I ?_, hSt⟩)
  all_goals first | exact (cls8 (by omega) (by omega)).symm | exact (cls0 (by omega) (by omega)).symm | exact (cls3 (by omega)).symm | exact (cls4 (by omega)).symm | exact (cls1 (by omega)).symm | exact (cls2 (by omega)).symm | exact (cls5 (by omega)).symm | exact (cls6 (by omega)).symm | exact (cls7 (by omega)).symm | fail
end Go.Proofs.YtknfankadlokhaaGreatDoor

namespace Go.Proofs.YtknfankadlokhaaGreatDoor
open Go.RowKit
set_option maxRecDepth 4000
set_option linter.unusedVariables false
set_option linter.unusedSimpArgs false
set_option maxHeartbeats 8000000

/-- a scanner of a text at a place, with what is wrong -/
abbrev lxO (s : Tx) (p : Nat) (e a : Int) : Obj := blk [S s, I (p : Int), I e, I a] 165
section
variable {w0 : World} {lb p : Nat} {s : Tx} {e a : Int}
theorem kind_any (hb : w0.heap[lb]? = some (lxO s p e a)) (hl : s.length ≤ 100000) (hpl : p ≤ s.length) : Cl Tryz.prog 144 [Ptr lb] w0 (fun v w' => v = I (kindAt s p) ∧ St w0 NoneS [] w') := by
  have hSt := St.refl w0 NoneS
  unfold kindAt
  refine enter Tryz.func144 rfl Tryz.ntmps144 rfl ?_
  by_cases hp : p < s.length
  · obtain ⟨c, hc1⟩ : ∃ c, s[p]? = some c := ⟨_, List.getElem?_eq_getElem hp⟩
    rw [hc1]
    have hq : s[(p : Int).toNat]? = some c := by rw [Int.toNat_natCast]; exact hc1
    repeat' (first | (apply WL_ev rfl rfl; exact Ev_load1 hT rfl rfl (hSt.base hb (fun e => e)) rfl) | (apply WL_ev rfl rfl; exact Ev_strIndex hT rfl rfl rfl (by omega) hq) | refine stepA ?_ | (refine stepS ?_; clear hSt; intro w hSt; dsimp only [spl, List.set] at hSt) | (refine stepB ?_; clear hSt; intro w nb hnb hSt; dsimp only [zcells, List.nil_append, List.cons_append] at hSt) | (refine W_quiet hT (by decide +kernel) hSt ?_; clear hSt; (repeat' (first | (refine QL_isCall (f := 154) ?_; refine QL_call (ok_call hT rfl) rfl rfl rfl (fun w hSt => (class_any c).mono (fun v w2 h => ⟨h.1, hSt.call0 h.2⟩)) ?_) | (apply QL_ev rfl rfl; (intro w hSt; (first | (exact Ev_load1 hT rfl rfl (hSt.base hb (fun e => e)) rfl) | (exact Ev_strIndex hT rfl rfl rfl (by omega) hq) | exact Ev_auto))) | refine QL_pass rfl rfl ?_ | (refine QL_guardP rfl rfl (fun hc => ?_) (fun hc => ?_) <;> try exact absA) | (refine QL_guard rfl rfl (fun hc => ?_) (fun hc => ?_) <;> (try exact absA) <;> (fail_if_success (change true = true at hc)) <;> (fail_if_success (change false = false at hc))))); all_goals (refine QL_nil (fun w hSt => ?_))) | (refine stepG ?_ ?_ <;> intro hc <;> (try exact absA) <;> (fail_if_success (change true = true at hc)) <;> (fail_if_success (change false = false at hc))) | fail)
    all_goals try (exfalso; first | omega | (simp at hc; done) | (exact hc rfl) | contradiction)
    all_goals exact ret1 rfl rfl ⟨rfl, hSt⟩
  · rw [List.getElem?_eq_none (by omega)]
    repeat' (first | (apply WL_ev rfl rfl; exact Ev_load1 hT rfl rfl (hSt.base hb (fun e => e)) rfl) | refine stepA ?_ | (refine stepS ?_; clear hSt; intro w hSt; dsimp only [spl, List.set] at hSt) | (refine stepB ?_; clear hSt; intro w nb hnb hSt; dsimp only [zcells, List.nil_append, List.cons_append] at hSt) | (refine W_quiet hT (by decide +kernel) hSt ?_; clear hSt; (repeat' (first | (apply QL_ev rfl rfl; (intro w hSt; (first | (exact Ev_load1 hT rfl rfl (hSt.base hb (fun e => e)) rfl) | exact Ev_auto))) | refine QL_pass rfl rfl ?_ | (refine QL_guardP rfl rfl (fun hc => ?_) (fun hc => ?_) <;> try exact absA) | (refine QL_guard rfl rfl (fun hc => ?_) (fun hc => ?_) <;> (try exact absA) <;> (fail_if_success (change true = true at hc)) <;> (fail_if_success (change false = false at hc))))); all_goals (refine QL_nil (fun w hSt => ?_))) | (refine stepG ?_ ?_ <;> intro hc <;> (try exact absA) <;> (fail_if_success (change true = true at hc)) <;> (fail_if_success (change false = false at hc))) | fail)
    all_goals try (exfalso; first | omega | (simp at hc; done) | (exact hc rfl) | contradiction)
    all_goals exact ret1 rfl rfl ⟨rfl, hSt⟩
theorem fail_any (hb : w0.heap[lb]? = some (lxO s p e a)) (x y : Int) : Cl Tryz.prog 148 [Ptr lb, I x, I y] w0 (fun v w' => St w0 (· = lb) [(lb, lxO s p (if e = 0 then x else e) (if e = 0 then y else a))] w') := by
  have hSt := (St.refl w0 (· = lb)).know hb (Or.inl rfl) (by simp)
  dsimp only [List.nil_append, List.cons_append] at hSt
  refine enter Tryz.func148 rfl Tryz.ntmps148 rfl ?_
  by_cases h0 : e = 0
  · rw [if_pos h0, if_pos h0]
    subst h0
    repeat' (first | refine stepA ?_ | (refine stepS ?_; clear hSt; intro w hSt; dsimp only [spl, List.set] at hSt) | (refine stepB ?_; clear hSt; intro w nb hnb hSt; dsimp only [zcells, List.nil_append, List.cons_append] at hSt) | (refine W_quiet hT (by decide +kernel) hSt ?_; clear hSt; (repeat' (first | (apply QL_ev rfl rfl; (intro w hSt; (first | exact Ev_auto))) | refine QL_pass rfl rfl ?_ | (refine QL_guardP rfl rfl (fun hc => ?_) (fun hc => ?_) <;> try exact absA) | (refine QL_guard rfl rfl (fun hc => ?_) (fun hc => ?_) <;> (try exact absA) <;> (fail_if_success (change true = true at hc)) <;> (fail_if_success (change false = false at hc))))); all_goals (refine QL_nil (fun w hSt => ?_))) | (refine stepG ?_ ?_ <;> intro hc <;> (try exact absA) <;> (fail_if_success (change true = true at hc)) <;> (fail_if_success (change false = false at hc))) | fail)
    all_goals try (exfalso; first | omega | (simp at hc; done) | (exact hc rfl) | contradiction)
    all_goals exact hSt
  · rw [if_neg h0, if_neg h0]
    repeat' (first | refine stepA ?_ | (refine stepS ?_; clear hSt; intro w hSt; dsimp only [spl, List.set] at hSt) | (refine stepB ?_; clear hSt; intro w nb hnb hSt; dsimp only [zcells, List.nil_append, List.cons_append] at hSt) | (refine W_quiet hT (by decide +kernel) hSt ?_; clear hSt; (repeat' (first | (apply QL_ev rfl rfl; (intro w hSt; (first | exact Ev_auto))) | refine QL_pass rfl rfl ?_ | (refine QL_guardP rfl rfl (fun hc => ?_) (fun hc => ?_) <;> try exact absA) | (refine QL_guard rfl rfl (fun hc => ?_) (fun hc => ?_) <;> (try exact absA) <;> (fail_if_success (change true = true at hc)) <;> (fail_if_success (change false = false at hc))))); all_goals (refine QL_nil (fun w hSt => ?_))) | (refine stepG ?_ ?_ <;> intro hc <;> (try exact absA) <;> (fail_if_success (change true = true at hc)) <;> (fail_if_success (change false = false at hc))) | fail)
    all_goals try (exfalso; first | omega | (simp at hc; done) | (exact hc rfl) | contradiction)
    all_goals exact hSt
end
end Go.Proofs.YtknfankadlokhaaGreatDoor

namespace Go.Proofs.YtknfankadlokhaaGreatDoor
open Go.RowKit
set_option maxRecDepth 4000
set_option linter.unusedVariables false
set_option linter.unusedSimpArgs false
set_option maxHeartbeats 8000000

section
variable {w0 : World} {lb p : Nat} {s : Tx} {e a : Int}
theorem Ev_as {P : Program} {L : Fr} {op : Op} {ty : TypeId} {w w' : World} {v v2 : Value} (h : Ev P L op ty w v w') (e : v = v2) : Ev P L op ty w v2 w' := e ▸ h
theorem index10_any (l : Tx) : Cl Tryz.prog 153 [S l, .int .u8 10] w0 (fun v w' => v = I (Lib.indexByte l 10) ∧ St w0 NoneS [] w') := indexB_any l 10
theorem cls_cases (c : UInt8) : (clsF c = 1 ∧ (c.toNat = 32 ∨ c.toNat = 9 ∨ c.toNat = 10)) ∨ (clsF c = 2 ∧ c.toNat = 35) ∨ (clsF c ≠ 1 ∧ clsF c ≠ 2 ∧ ¬ (c.toNat = 32 ∨ c.toNat = 9 ∨ c.toNat = 10) ∧ ¬ c.toNat = 35) := by
  by_cases h1 : c.toNat = 32 ∨ c.toNat = 9 ∨ c.toNat = 10
  · exact .inl ⟨cls1 h1, h1⟩
  by_cases h2 : c.toNat = 35
  · exact .inr (.inl ⟨cls2 h2, h2⟩)
  refine .inr (.inr ⟨?_, ?_, h1, h2⟩) <;> (unfold clsF; rw [if_neg h1, if_neg h2]; (repeat' split) <;> decide)
theorem skip_any (hb : w0.heap[lb]? = some (lxO s p e a)) (hl : s.length ≤ 100000) (hpl : p ≤ s.length) : Cl Tryz.prog 143 [Ptr lb] w0 (fun v w' => v = .tuple ⟨[]⟩ ∧ St w0 (· = lb) [(lb, lxO s (skF s p) e a)] w') := by
  have hSt := (St.refl w0 (· = lb)).know hb (Or.inl rfl) (by simp)
  dsimp only [List.nil_append, List.cons_append] at hSt
  refine enter Tryz.func143 rfl Tryz.ntmps143 rfl ?_
  repeat' (first | refine stepA ?_ | (refine stepS ?_; clear hSt; intro w hSt; dsimp only [spl, List.set] at hSt) | (refine stepB ?_; clear hSt; intro w nb hnb hSt; dsimp only [zcells, List.nil_append, List.cons_append] at hSt) | (refine W_quiet hT (by decide +kernel) hSt ?_; clear hSt; (repeat' (first | (apply QL_ev rfl rfl; (intro w hSt; (first | exact Ev_auto))) | refine QL_pass rfl rfl ?_ | (refine QL_guardP rfl rfl (fun hc => ?_) (fun hc => ?_) <;> try exact absA) | (refine QL_guard rfl rfl (fun hc => ?_) (fun hc => ?_) <;> (try exact absA) <;> (fail_if_success (change true = true at hc)) <;> (fail_if_success (change false = false at hc))))); all_goals (refine QL_nil (fun w hSt => ?_))) | (refine stepG ?_ ?_ <;> intro hc <;> (try exact absA) <;> (fail_if_success (change true = true at hc)) <;> (fail_if_success (change false = false at hc))) | fail)
  refine W_loop1 (fun k (q : Nat) w => k = s.length - q ∧ q ≤ s.length ∧ skF s p = skF s q ∧ St w0 (· = lb) [(lb, lxO s q e a)] w) (fun _ => []) (s.length - p) p rfl (by (repeat (first | exact Str.nil _ | apply Str.drop rfl | apply Str.keepU rfl | apply Str.keep rfl))) ⟨rfl, hpl, rfl, hSt⟩ (by (repeat (first | exact Sub.nil _ | refine Sub.cons rfl ?_))) ?_
  clear hSt
  rintro k q w ⟨hk, hq, hsk, hSt⟩ K hK
  have hkd := fun (w : World) (h : St w0 (· = lb) [(lb, lxO s q e a)] w) => kind_any (h.own 0 _ _ rfl).1 hl hq
  by_cases hqs : q < s.length
  · obtain ⟨c, hc1⟩ : ∃ c, s[q]? = some c := ⟨_, List.getElem?_eq_getElem hqs⟩
    have e0 : kindAt s q = clsF c := by unfold kindAt; rw [hc1]
    rw [e0] at hkd
    rcases cls_cases c with ⟨h1, hcc⟩ | ⟨h1, hcc⟩ | ⟨h1, h2, h3, h4⟩
    · rw [h1] at hkd
      repeat' (first | (refine WL_isCall (f := 144) ?_; refine WL_call (ok_call hT rfl) rfl rfl rfl (hkd _ hSt) ?_; rintro v w2 ⟨rfl, hc2⟩; replace hSt := hSt.call0 hc2; clear hc2) | refine stepA ?_ | (refine stepS ?_; clear hSt; intro w hSt; dsimp only [spl, List.set] at hSt) | (refine stepB ?_; clear hSt; intro w nb hnb hSt; dsimp only [zcells, List.nil_append, List.cons_append] at hSt) | (refine W_quiet hT (by decide +kernel) hSt ?_; clear hSt; (repeat' (first | (apply QL_ev rfl rfl; (intro w hSt; (first | exact Ev_auto))) | refine QL_pass rfl rfl ?_ | (refine QL_guardP rfl rfl (fun hc => ?_) (fun hc => ?_) <;> try exact absA) | (refine QL_guard rfl rfl (fun hc => ?_) (fun hc => ?_) <;> (try exact absA) <;> (fail_if_success (change true = true at hc)) <;> (fail_if_success (change false = false at hc))))); all_goals (refine QL_nil (fun w hSt => ?_))) | (refine stepG ?_ ?_ <;> intro hc <;> (try exact absA) <;> (fail_if_success (change true = true at hc)) <;> (fail_if_success (change false = false at hc))) | fail)
      all_goals try (exfalso; first | omega | (simp at hc; done) | (exact hc rfl) | contradiction)
      all_goals exact At_loop1 hK (k' := s.length - (q + 1)) (q + 1) (by omega) ⟨rfl, by omega, by rw [hsk, skF_blank hc1 hcc], hSt⟩ (by (repeat (first | exact Sub.nil _ | refine Sub.cons rfl ?_)))
    · rw [h1] at hkd
      obtain ⟨g1, g2⟩ := skF_hash hc1 hcc
      have hsl : S ((s.drop ((q : Int)).toNat).take ((s.length : Int).toNat - ((q : Int)).toNat)) = S (s.drop q) := by
        rw [Int.toNat_natCast, Int.toNat_natCast, List.take_of_length_le (by rw [List.length_drop]; exact Nat.le_refl _)]
      rcases Int.lt_or_le (Lib.indexByte (s.drop q) 10) 0 with hn | hn
      · have g1' := g1 hn
        clear g1 g2
        repeat' (first | (refine WL_isCall (f := 144) ?_; refine WL_call (ok_call hT rfl) rfl rfl rfl (hkd _ hSt) ?_; rintro v w2 ⟨rfl, hc2⟩; replace hSt := hSt.call0 hc2; clear hc2) | (apply WL_ev rfl rfl; exact Ev_as (v2 := S (s.drop q)) (Ev_str_slice hT rfl rfl rfl rfl (by omega) (by omega) (by omega)) hsl) | refine stepA ?_ | (refine stepS ?_; clear hSt; intro w hSt; dsimp only [spl, List.set] at hSt) | (refine stepB ?_; clear hSt; intro w nb hnb hSt; dsimp only [zcells, List.nil_append, List.cons_append] at hSt) | (refine W_quiet hT (by decide +kernel) hSt ?_; clear hSt; (repeat' (first | (refine QL_isCall (f := 153) ?_; refine QL_call (ok_call hT rfl) rfl rfl rfl (fun w hSt => (index10_any (s.drop q)).mono (fun v w2 h => ⟨h.1, hSt.call0 h.2⟩)) ?_) | (apply QL_ev rfl rfl; (intro w hSt; (first | (exact Ev_as (v2 := S (s.drop q)) (Ev_str_slice hT rfl rfl rfl rfl (by omega) (by omega) (by omega)) hsl) | exact Ev_auto))) | refine QL_pass rfl rfl ?_ | (refine QL_guardP rfl rfl (fun hc => ?_) (fun hc => ?_) <;> try exact absA) | (refine QL_guard rfl rfl (fun hc => ?_) (fun hc => ?_) <;> (try exact absA) <;> (fail_if_success (change true = true at hc)) <;> (fail_if_success (change false = false at hc))))); all_goals (refine QL_nil (fun w hSt => ?_))) | (refine stepG ?_ ?_ <;> intro hc <;> (try exact absA) <;> (fail_if_success (change true = true at hc)) <;> (fail_if_success (change false = false at hc))) | fail)
        all_goals try (exfalso; first | omega | (simp at hc; done) | (exact hc rfl) | contradiction)
        all_goals exact At_loop1 hK (k' := s.length - s.length) s.length (by omega) ⟨rfl, by omega, by rw [hsk, g1', skF_end (Nat.le_refl _)], hSt⟩ (by (repeat (first | exact Sub.nil _ | refine Sub.cons rfl ?_)))
      · obtain ⟨n, hn⟩ := Int.eq_ofNat_of_zero_le hn
        obtain ⟨k1, k2, k3⟩ := g2 n hn
        repeat' (first | (refine WL_isCall (f := 144) ?_; refine WL_call (ok_call hT rfl) rfl rfl rfl (hkd _ hSt) ?_; rintro v w2 ⟨rfl, hc2⟩; replace hSt := hSt.call0 hc2; clear hc2) | (apply WL_ev rfl rfl; exact Ev_as (v2 := S (s.drop q)) (Ev_str_slice hT rfl rfl rfl rfl (by omega) (by omega) (by omega)) hsl) | refine stepA ?_ | (refine stepS ?_; clear hSt; intro w hSt; dsimp only [spl, List.set] at hSt) | (refine stepB ?_; clear hSt; intro w nb hnb hSt; dsimp only [zcells, List.nil_append, List.cons_append] at hSt) | (refine W_quiet hT (by decide +kernel) hSt ?_; clear hSt; (repeat' (first | (refine QL_isCall (f := 153) ?_; refine QL_call (ok_call hT rfl) rfl rfl rfl (fun w hSt => (index10_any (s.drop q)).mono (fun v w2 h => ⟨h.1, hSt.call0 h.2⟩)) ?_) | (apply QL_ev rfl rfl; (intro w hSt; (first | (exact Ev_as (v2 := S (s.drop q)) (Ev_str_slice hT rfl rfl rfl rfl (by omega) (by omega) (by omega)) hsl) | exact Ev_auto))) | refine QL_pass rfl rfl ?_ | (refine QL_guardP rfl rfl (fun hc => ?_) (fun hc => ?_) <;> try exact absA) | (refine QL_guard rfl rfl (fun hc => ?_) (fun hc => ?_) <;> (try exact absA) <;> (fail_if_success (change true = true at hc)) <;> (fail_if_success (change false = false at hc))))); all_goals (refine QL_nil (fun w hSt => ?_))) | (refine stepG ?_ ?_ <;> intro hc <;> (try exact absA) <;> (fail_if_success (change true = true at hc)) <;> (fail_if_success (change false = false at hc))) | fail)
        all_goals try (exfalso; first | omega | (simp at hc; done) | (exact hc rfl) | contradiction)
        all_goals rw [show (q : Int) + Lib.indexByte (s.drop q) 10 = ((q + n : Nat) : Int) by omega] at hSt
        all_goals exact At_loop1 hK (k' := s.length - (q + n)) (q + n) (by omega) ⟨rfl, by omega, by rw [hsk, k3], hSt⟩ (by (repeat (first | exact Sub.nil _ | refine Sub.cons rfl ?_)))
    · repeat' (first | (refine WL_isCall (f := 144) ?_; refine WL_call (ok_call hT rfl) rfl rfl rfl (hkd _ hSt) ?_; rintro v w2 ⟨rfl, hc2⟩; replace hSt := hSt.call0 hc2; clear hc2) | refine stepA ?_ | (refine stepS ?_; clear hSt; intro w hSt; dsimp only [spl, List.set] at hSt) | (refine stepB ?_; clear hSt; intro w nb hnb hSt; dsimp only [zcells, List.nil_append, List.cons_append] at hSt) | (refine W_quiet hT (by decide +kernel) hSt ?_; clear hSt; (repeat' (first | (apply QL_ev rfl rfl; (intro w hSt; (first | exact Ev_auto))) | refine QL_pass rfl rfl ?_ | (refine QL_guardP rfl rfl (fun hc => ?_) (fun hc => ?_) <;> try exact absA) | (refine QL_guard rfl rfl (fun hc => ?_) (fun hc => ?_) <;> (try exact absA) <;> (fail_if_success (change true = true at hc)) <;> (fail_if_success (change false = false at hc))))); all_goals (refine QL_nil (fun w hSt => ?_))) | (refine stepG ?_ ?_ <;> intro hc <;> (try exact absA) <;> (fail_if_success (change true = true at hc)) <;> (fail_if_success (change false = false at hc))) | fail)
      all_goals try (exfalso; first | omega | (simp at hc; done) | (exact hc rfl) | contradiction)
      all_goals exact ret0 rfl ⟨rfl, by rw [hsk, skF_stop hc1 h3 h4]; exact hSt⟩
  · repeat' (first | refine stepA ?_ | (refine stepS ?_; clear hSt; intro w hSt; dsimp only [spl, List.set] at hSt) | (refine stepB ?_; clear hSt; intro w nb hnb hSt; dsimp only [zcells, List.nil_append, List.cons_append] at hSt) | (refine W_quiet hT (by decide +kernel) hSt ?_; clear hSt; (repeat' (first | (apply QL_ev rfl rfl; (intro w hSt; (first | exact Ev_auto))) | refine QL_pass rfl rfl ?_ | (refine QL_guardP rfl rfl (fun hc => ?_) (fun hc => ?_) <;> try exact absA) | (refine QL_guard rfl rfl (fun hc => ?_) (fun hc => ?_) <;> (try exact absA) <;> (fail_if_success (change true = true at hc)) <;> (fail_if_success (change false = false at hc))))); all_goals (refine QL_nil (fun w hSt => ?_))) | (refine stepG ?_ ?_ <;> intro hc <;> (try exact absA) <;> (fail_if_success (change true = true at hc)) <;> (fail_if_success (change false = false at hc))) | fail)
    all_goals try (exfalso; first | omega | (simp at hc; done) | (exact hc rfl) | contradiction)
    all_goals exact ⟨rfl, by rw [hsk, skF_end (by omega)]; exact hSt⟩
end
end Go.Proofs.YtknfankadlokhaaGreatDoor

namespace Go.Proofs.YtknfankadlokhaaGreatDoor
open Go.RowKit
set_option maxRecDepth 4000
set_option linter.unusedVariables false
set_option linter.unusedSimpArgs false
set_option maxHeartbeats 8000000

section
variable {s : Tx} {p : Nat} {c : UInt8} {g : UInt8 → Bool}
theorem span_yes (h : s[p]? = some c) (hc : g c = true) : spanF g s p = spanF g s (p + 1) := by
  unfold spanF; rw [drop_at h, List.takeWhile_cons_of_pos hc, List.length_cons]; omega
theorem span_no (h : s[p]? = some c) (hc : g c = false) : spanF g s p = p := by
  unfold spanF; rw [drop_at h, List.takeWhile_cons_of_neg (by simp [hc])]; rfl
theorem span_end (h : s.length ≤ p) : spanF g s p = p := by unfold spanF; rw [List.drop_of_length_le h]; rfl
end
/-- a part's answer: a token and the place behind it, or an error -/
def LxR (r : Lx) (lb : Nat) (s : Tx) (w0 : World) (v : Value) (w' : World) : Prop := match r with
  | .tok t q => v = .agg ⟨tkC t⟩ ∧ St w0 (· = lb) [(lb, lxO s q 0 0)] w'
  | .err e p => ∃ t q, v = .agg ⟨tkC t⟩ ∧ St w0 (· = lb) [(lb, lxO s q e p)] w'
section
variable {w0 : World} {lb p : Nat} {s : Tx} {e a : Int}
theorem fail0_any (hb : w0.heap[lb]? = some (lxO s p 0 a)) (x y : Int) : Cl Tryz.prog 148 [Ptr lb, I x, I y] w0 (fun v w' => St w0 (· = lb) [(lb, lxO s p x y)] w') := (fail_any hb x y).mono (fun v w' h => by rw [if_pos rfl, if_pos rfl] at h; exact h)
theorem failN_any (hb : w0.heap[lb]? = some (lxO s p e a)) (he : e ≠ 0) (x y : Int) : Cl Tryz.prog 148 [Ptr lb, I x, I y] w0 (fun v w' => St w0 (· = lb) [(lb, lxO s p e a)] w') := (fail_any hb x y).mono (fun v w' h => by rw [if_neg he, if_neg he] at h; exact h)
theorem word_r (hb : w0.heap[lb]? = some (lxO s p 0 0)) (hl : s.length ≤ 100000) (hpl : p ≤ s.length) : Cl Tryz.prog 145 [Ptr lb] w0 (LxR (wordF s p) lb s w0) := by
  have hSt := (St.refl w0 (· = lb)).know hb (Or.inl rfl) (by simp)
  dsimp only [List.nil_append, List.cons_append] at hSt
  have hq := hpl
  refine enter Tryz.func145 rfl Tryz.ntmps145 rfl ?_
  repeat' (first | (refine WL_alloc hT rfl rfl rfl hSt ?_; clear hSt; intro w nb hnb hSt; replace hSt := hSt.front; dsimp only [zcells] at hSt) | (refine WL_isCall (f := 144) ?_; refine WL_call (ok_call hT rfl) rfl rfl rfl (kind_any (hSt.own 1 _ _ rfl).1 hl hq) ?_; rintro v w2 ⟨rfl, hc2⟩; replace hSt := hSt.call0 hc2; clear hc2) | refine stepA ?_ | (refine stepS ?_; clear hSt; intro w hSt; dsimp only [spl, List.set] at hSt) | (refine stepB ?_; clear hSt; intro w nb hnb hSt; dsimp only [zcells, List.nil_append, List.cons_append] at hSt) | (refine W_quiet hT (by decide +kernel) hSt ?_; clear hSt; (repeat' (first | (apply QL_ev rfl rfl; (intro w hSt; (first | exact Ev_auto))) | refine QL_pass rfl rfl ?_ | (refine QL_guardP rfl rfl (fun hc => ?_) (fun hc => ?_) <;> try exact absA) | (refine QL_guard rfl rfl (fun hc => ?_) (fun hc => ?_) <;> (try exact absA) <;> (fail_if_success (change true = true at hc)) <;> (fail_if_success (change false = false at hc))))); all_goals (refine QL_nil (fun w hSt => ?_))) | (refine stepG ?_ ?_ <;> intro hc <;> (try exact absA) <;> (fail_if_success (change true = true at hc)) <;> (fail_if_success (change false = false at hc))) | fail)
  refine W_loop1 (fun k (q : Nat) w => k = s.length - q ∧ q ≤ s.length ∧ p ≤ q ∧ spanF wordC s p = spanF wordC s q ∧ St w0 (· = lb) [(nb, blk [I 0, S [], I 0, I 0] 63), (lb, lxO s q 0 0)] w) (fun q => [(4, I (kindAt s q))]) (s.length - p) p rfl (by (repeat (first | exact Str.nil _ | apply Str.drop rfl | apply Str.keepU rfl | apply Str.keep rfl))) ⟨rfl, hpl, Nat.le_refl _, rfl, hSt⟩ (by (repeat (first | exact Sub.nil _ | refine Sub.cons rfl ?_))) ?_
  clear hSt hq
  rintro k q w ⟨hk, hq, hpq, hsp, hSt⟩ K hK
  have hcase : (∃ c, s[q]? = some c ∧ kindAt s q = clsF c ∧ wordC c = true) ∨ (spanF wordC s q = q ∧ ¬ (kindAt s q = 3 ∨ kindAt s q = 4 ∨ kindAt s q = 6)) := by
    by_cases hqs : q < s.length
    · obtain ⟨c, hc1⟩ : ∃ c, s[q]? = some c := ⟨_, List.getElem?_eq_getElem hqs⟩
      have e0 : kindAt s q = clsF c := by unfold kindAt; rw [hc1]
      cases hw : wordC c
      · exact .inr ⟨span_no hc1 hw, by rw [e0]; exact of_decide_eq_false hw⟩
      · exact .inl ⟨c, hc1, e0, hw⟩
    · refine .inr ⟨span_end (by omega), ?_⟩
      unfold kindAt
      rw [List.getElem?_eq_none (by omega)]
      decide
  rcases hcase with ⟨c, hc1, e0, hw⟩ | ⟨hend, hno⟩
  · have hqs := (List.getElem?_eq_some_iff.1 hc1).1
    have hw3 : kindAt s q = 3 ∨ kindAt s q = 4 ∨ kindAt s q = 6 := by rw [e0]; exact of_decide_eq_true hw
    have hq1 := hq
    replace hq : q + 1 ≤ s.length := hqs
    repeat' (first | (refine WL_isCall (f := 144) ?_; refine WL_call (ok_call hT rfl) rfl rfl rfl (kind_any (hSt.own 1 _ _ rfl).1 hl hq) ?_; rintro v w2 ⟨rfl, hc2⟩; replace hSt := hSt.call0 hc2; clear hc2) | refine stepA ?_ | (refine stepS ?_; clear hSt; intro w hSt; dsimp only [spl, List.set] at hSt) | (refine stepB ?_; clear hSt; intro w nb hnb hSt; dsimp only [zcells, List.nil_append, List.cons_append] at hSt) | (refine W_quiet hT (by decide +kernel) hSt ?_; clear hSt; (repeat' (first | (apply QL_ev rfl rfl; (intro w hSt; (first | exact Ev_auto))) | refine QL_pass rfl rfl ?_ | (refine QL_guardP rfl rfl (fun hc => ?_) (fun hc => ?_) <;> try exact absA) | (refine QL_guard rfl rfl (fun hc => ?_) (fun hc => ?_) <;> (try exact absA) <;> (fail_if_success (change true = true at hc)) <;> (fail_if_success (change false = false at hc))))); all_goals (refine QL_nil (fun w hSt => ?_))) | (refine stepG ?_ ?_ <;> intro hc <;> (try exact absA) <;> (fail_if_success (change true = true at hc)) <;> (fail_if_success (change false = false at hc))) | fail)
    all_goals try (exfalso; first | omega | (simp at hc; done) | (exact hc rfl) | contradiction)
    all_goals exact At_loop1 hK (k' := s.length - (q + 1)) (q + 1) (by omega) ⟨rfl, hq, by omega, by rw [hsp, span_yes hc1 hw], hSt⟩ (by (repeat (first | exact Sub.nil _ | refine Sub.cons rfl ?_)))
  · have hsl : S ((s.drop ((p : Int)).toNat).take (((q : Int)).toNat - ((p : Int)).toNat)) = S (cutF s p q) := by
      rw [Int.toNat_natCast, Int.toNat_natCast]; rfl
    have hwf : wordF s p = if 16 < q - p then .err 3 p else if kindAt s q = 5 then .err 2 q else .tok ⟨1, cutF s p q, 0, p⟩ q := by
      unfold wordF; rw [hsp, hend]
    rw [hwf]
    by_cases h16 : 16 < q - p
    · rw [if_pos h16]
      by_cases h5 : kindAt s q = 5
      · repeat' (first | (refine WL_isCall (f := 148) ?_; refine WL_call (ok_call hT rfl) rfl rfl rfl (fail0_any (hSt.own 1 _ _ rfl).1 3 p) ?_; rintro v w2 hc2; replace hSt := hSt.call1 (i := 1) rfl hc2; clear hc2; dsimp only [List.set] at hSt) | (refine WL_isCall (f := 144) ?_; refine WL_call (ok_call hT rfl) rfl rfl rfl (kind_any (hSt.own 1 _ _ rfl).1 hl hq) ?_; rintro v w2 ⟨rfl, hc2⟩; replace hSt := hSt.call0 hc2; clear hc2) | (refine WL_isCall (f := 148) ?_; refine WL_call (ok_call hT rfl) rfl rfl rfl (failN_any (hSt.own 1 _ _ rfl).1 (by decide) 2 q) ?_; rintro v w2 hc2; replace hSt := hSt.call1 (i := 1) rfl hc2; clear hc2; dsimp only [List.set] at hSt) | (apply WL_ev rfl rfl; exact Ev_as (v2 := S (cutF s p q)) (Ev_str_slice hT rfl rfl rfl rfl (by omega) (by omega) (by omega)) hsl) | (refine W_tail 12 hT (by decide +kernel) hSt ?_; clear hSt; intro w hSt; simp only [List.take_succ_cons, List.take_zero]; (repeat' (first | (apply SL_ev rfl rfl; (first | (exact Ev_as (v2 := S (cutF s p q)) (Ev_str_slice hT rfl rfl rfl rfl (by omega) (by omega) (by omega)) hsl) | exact Ev_auto)) | refine SL_pass rfl rfl ?_ | (refine SL_guardP rfl rfl (fun hc => ?_) (fun hc => ?_) <;> try exact absA) | (refine SL_guard rfl rfl (fun hc => ?_) (fun hc => ?_) <;> (try exact absA) <;> (fail_if_success (change true = true at hc)) <;> (fail_if_success (change false = false at hc))))); all_goals (refine SL_nil ?_; simp only [List.drop_succ_cons, List.drop_zero])) | refine stepA ?_ | (refine stepS ?_; clear hSt; intro w hSt; dsimp only [spl, List.set] at hSt) | (refine stepB ?_; clear hSt; intro w nb hnb hSt; dsimp only [zcells, List.nil_append, List.cons_append] at hSt) | (refine W_quiet hT (by decide +kernel) hSt ?_; clear hSt; (repeat' (first | (apply QL_ev rfl rfl; (intro w hSt; (first | (exact Ev_as (v2 := S (cutF s p q)) (Ev_str_slice hT rfl rfl rfl rfl (by omega) (by omega) (by omega)) hsl) | exact Ev_auto))) | refine QL_pass rfl rfl ?_ | (refine QL_guardP rfl rfl (fun hc => ?_) (fun hc => ?_) <;> try exact absA) | (refine QL_guard rfl rfl (fun hc => ?_) (fun hc => ?_) <;> (try exact absA) <;> (fail_if_success (change true = true at hc)) <;> (fail_if_success (change false = false at hc))))); all_goals (refine QL_nil (fun w hSt => ?_))) | (refine stepG ?_ ?_ <;> intro hc <;> (try exact absA) <;> (fail_if_success (change true = true at hc)) <;> (fail_if_success (change false = false at hc))) | fail)
        all_goals try (exfalso; first | omega | (simp at hc; done) | (exact hc rfl) | contradiction)
        all_goals exact end_of (resc1 rfl hT rfl rfl (hSt.at 0 rfl) rfl rfl) ⟨⟨1, cutF s p q, 0, p⟩, q, rfl, hSt.right (Ha := [_])⟩
      · repeat' (first | (refine WL_isCall (f := 148) ?_; refine WL_call (ok_call hT rfl) rfl rfl rfl (fail0_any (hSt.own 1 _ _ rfl).1 3 p) ?_; rintro v w2 hc2; replace hSt := hSt.call1 (i := 1) rfl hc2; clear hc2; dsimp only [List.set] at hSt) | (refine WL_isCall (f := 144) ?_; refine WL_call (ok_call hT rfl) rfl rfl rfl (kind_any (hSt.own 1 _ _ rfl).1 hl hq) ?_; rintro v w2 ⟨rfl, hc2⟩; replace hSt := hSt.call0 hc2; clear hc2) | (apply WL_ev rfl rfl; exact Ev_as (v2 := S (cutF s p q)) (Ev_str_slice hT rfl rfl rfl rfl (by omega) (by omega) (by omega)) hsl) | (refine W_tail 12 hT (by decide +kernel) hSt ?_; clear hSt; intro w hSt; simp only [List.take_succ_cons, List.take_zero]; (repeat' (first | (apply SL_ev rfl rfl; (first | (exact Ev_as (v2 := S (cutF s p q)) (Ev_str_slice hT rfl rfl rfl rfl (by omega) (by omega) (by omega)) hsl) | exact Ev_auto)) | refine SL_pass rfl rfl ?_ | (refine SL_guardP rfl rfl (fun hc => ?_) (fun hc => ?_) <;> try exact absA) | (refine SL_guard rfl rfl (fun hc => ?_) (fun hc => ?_) <;> (try exact absA) <;> (fail_if_success (change true = true at hc)) <;> (fail_if_success (change false = false at hc))))); all_goals (refine SL_nil ?_; simp only [List.drop_succ_cons, List.drop_zero])) | refine stepA ?_ | (refine stepS ?_; clear hSt; intro w hSt; dsimp only [spl, List.set] at hSt) | (refine stepB ?_; clear hSt; intro w nb hnb hSt; dsimp only [zcells, List.nil_append, List.cons_append] at hSt) | (refine W_quiet hT (by decide +kernel) hSt ?_; clear hSt; (repeat' (first | (apply QL_ev rfl rfl; (intro w hSt; (first | (exact Ev_as (v2 := S (cutF s p q)) (Ev_str_slice hT rfl rfl rfl rfl (by omega) (by omega) (by omega)) hsl) | exact Ev_auto))) | refine QL_pass rfl rfl ?_ | (refine QL_guardP rfl rfl (fun hc => ?_) (fun hc => ?_) <;> try exact absA) | (refine QL_guard rfl rfl (fun hc => ?_) (fun hc => ?_) <;> (try exact absA) <;> (fail_if_success (change true = true at hc)) <;> (fail_if_success (change false = false at hc))))); all_goals (refine QL_nil (fun w hSt => ?_))) | (refine stepG ?_ ?_ <;> intro hc <;> (try exact absA) <;> (fail_if_success (change true = true at hc)) <;> (fail_if_success (change false = false at hc))) | fail)
        all_goals try (exfalso; first | omega | (simp at hc; done) | (exact hc rfl) | contradiction)
        all_goals exact end_of (resc1 rfl hT rfl rfl (hSt.at 0 rfl) rfl rfl) ⟨⟨1, cutF s p q, 0, p⟩, q, rfl, hSt.right (Ha := [_])⟩
    · rw [if_neg h16]
      by_cases h5 : kindAt s q = 5
      · rw [if_pos h5]
        repeat' (first | (refine WL_isCall (f := 144) ?_; refine WL_call (ok_call hT rfl) rfl rfl rfl (kind_any (hSt.own 1 _ _ rfl).1 hl hq) ?_; rintro v w2 ⟨rfl, hc2⟩; replace hSt := hSt.call0 hc2; clear hc2) | (refine WL_isCall (f := 148) ?_; refine WL_call (ok_call hT rfl) rfl rfl rfl (fail0_any (hSt.own 1 _ _ rfl).1 2 q) ?_; rintro v w2 hc2; replace hSt := hSt.call1 (i := 1) rfl hc2; clear hc2; dsimp only [List.set] at hSt) | (apply WL_ev rfl rfl; exact Ev_as (v2 := S (cutF s p q)) (Ev_str_slice hT rfl rfl rfl rfl (by omega) (by omega) (by omega)) hsl) | (refine W_tail 12 hT (by decide +kernel) hSt ?_; clear hSt; intro w hSt; simp only [List.take_succ_cons, List.take_zero]; (repeat' (first | (apply SL_ev rfl rfl; (first | (exact Ev_as (v2 := S (cutF s p q)) (Ev_str_slice hT rfl rfl rfl rfl (by omega) (by omega) (by omega)) hsl) | exact Ev_auto)) | refine SL_pass rfl rfl ?_ | (refine SL_guardP rfl rfl (fun hc => ?_) (fun hc => ?_) <;> try exact absA) | (refine SL_guard rfl rfl (fun hc => ?_) (fun hc => ?_) <;> (try exact absA) <;> (fail_if_success (change true = true at hc)) <;> (fail_if_success (change false = false at hc))))); all_goals (refine SL_nil ?_; simp only [List.drop_succ_cons, List.drop_zero])) | refine stepA ?_ | (refine stepS ?_; clear hSt; intro w hSt; dsimp only [spl, List.set] at hSt) | (refine stepB ?_; clear hSt; intro w nb hnb hSt; dsimp only [zcells, List.nil_append, List.cons_append] at hSt) | (refine W_quiet hT (by decide +kernel) hSt ?_; clear hSt; (repeat' (first | (apply QL_ev rfl rfl; (intro w hSt; (first | (exact Ev_as (v2 := S (cutF s p q)) (Ev_str_slice hT rfl rfl rfl rfl (by omega) (by omega) (by omega)) hsl) | exact Ev_auto))) | refine QL_pass rfl rfl ?_ | (refine QL_guardP rfl rfl (fun hc => ?_) (fun hc => ?_) <;> try exact absA) | (refine QL_guard rfl rfl (fun hc => ?_) (fun hc => ?_) <;> (try exact absA) <;> (fail_if_success (change true = true at hc)) <;> (fail_if_success (change false = false at hc))))); all_goals (refine QL_nil (fun w hSt => ?_))) | (refine stepG ?_ ?_ <;> intro hc <;> (try exact absA) <;> (fail_if_success (change true = true at hc)) <;> (fail_if_success (change false = false at hc))) | fail)
        all_goals try (exfalso; first | omega | (simp at hc; done) | (exact hc rfl) | contradiction)
        all_goals exact end_of (resc1 rfl hT rfl rfl (hSt.at 0 rfl) rfl rfl) ⟨⟨1, cutF s p q, 0, p⟩, q, rfl, hSt.right (Ha := [_])⟩
      · rw [if_neg h5]
        repeat' (first | (refine WL_isCall (f := 144) ?_; refine WL_call (ok_call hT rfl) rfl rfl rfl (kind_any (hSt.own 1 _ _ rfl).1 hl hq) ?_; rintro v w2 ⟨rfl, hc2⟩; replace hSt := hSt.call0 hc2; clear hc2) | (apply WL_ev rfl rfl; exact Ev_as (v2 := S (cutF s p q)) (Ev_str_slice hT rfl rfl rfl rfl (by omega) (by omega) (by omega)) hsl) | (refine W_tail 12 hT (by decide +kernel) hSt ?_; clear hSt; intro w hSt; simp only [List.take_succ_cons, List.take_zero]; (repeat' (first | (apply SL_ev rfl rfl; (first | (exact Ev_as (v2 := S (cutF s p q)) (Ev_str_slice hT rfl rfl rfl rfl (by omega) (by omega) (by omega)) hsl) | exact Ev_auto)) | refine SL_pass rfl rfl ?_ | (refine SL_guardP rfl rfl (fun hc => ?_) (fun hc => ?_) <;> try exact absA) | (refine SL_guard rfl rfl (fun hc => ?_) (fun hc => ?_) <;> (try exact absA) <;> (fail_if_success (change true = true at hc)) <;> (fail_if_success (change false = false at hc))))); all_goals (refine SL_nil ?_; simp only [List.drop_succ_cons, List.drop_zero])) | refine stepA ?_ | (refine stepS ?_; clear hSt; intro w hSt; dsimp only [spl, List.set] at hSt) | (refine stepB ?_; clear hSt; intro w nb hnb hSt; dsimp only [zcells, List.nil_append, List.cons_append] at hSt) | (refine W_quiet hT (by decide +kernel) hSt ?_; clear hSt; (repeat' (first | (apply QL_ev rfl rfl; (intro w hSt; (first | (exact Ev_as (v2 := S (cutF s p q)) (Ev_str_slice hT rfl rfl rfl rfl (by omega) (by omega) (by omega)) hsl) | exact Ev_auto))) | refine QL_pass rfl rfl ?_ | (refine QL_guardP rfl rfl (fun hc => ?_) (fun hc => ?_) <;> try exact absA) | (refine QL_guard rfl rfl (fun hc => ?_) (fun hc => ?_) <;> (try exact absA) <;> (fail_if_success (change true = true at hc)) <;> (fail_if_success (change false = false at hc))))); all_goals (refine QL_nil (fun w hSt => ?_))) | (refine stepG ?_ ?_ <;> intro hc <;> (try exact absA) <;> (fail_if_success (change true = true at hc)) <;> (fail_if_success (change false = false at hc))) | fail)
        all_goals try (exfalso; first | omega | (simp at hc; done) | (exact hc rfl) | contradiction)
        all_goals exact end_of (resc1 rfl hT rfl rfl (hSt.at 0 rfl) rfl rfl) ⟨rfl, hSt.right (Ha := [_])⟩
end
end Go.Proofs.YtknfankadlokhaaGreatDoor

namespace Go.Proofs.YtknfankadlokhaaGreatDoor
open Go.RowKit
set_option linter.unusedVariables false
set_option linter.unusedSimpArgs false

section
variable {T : Tys} {P : Program} {n : Fz} {ops : Array Oper} {Q : Exit → Act → World → Prop} {L L' : Fr} {w w' w0 : World} {rest : List Oper} {ty t t' : TypeId} {xo yo zo : Operand}
  {Sx : Nat → Prop} {H H0 H1 H2 : List (Nat × Obj)} {pos : String} {af : Array Edge} {g : Option (Nat × Bool)}
theorem WL_appendC {d m c b2 o2 k : Nat} {e : TypeId} {z y : Nat} {l2 news xs : List Value} {E2 : TypeId} {fz2 : Nat × Nat} {zv v : Value} (hT : T.Ok P) (ht : asc T.sl t = some (e, z, y)) (hz : asc T.zero e = some zv) (hzl : (zcells zv).length = z)
    (hg : wantB ops g L = some true) (hn : Nat.blt d n.1 = true) (hx : opd L xo = some v) (hy : opd L yo = some (.slice (some ⟨b2, o2, none⟩) m c)) (hSt : St w0 Sx (H0 ++ H1 ++ H2) w) (ho : OwnSl v e z xs k H1) (hcb : capB v)
    (hb : w.heap[b2]? = some (.cells ⟨l2⟩ E2 fz2)) (hnews : (l2.drop o2).take (m * z) = news) (hl : news.length = m * z) (h1 : news.all oneV = true) (hm : 0 < m) (hmax : k + m ≤ 140737488355328) (hby : (k + m) * y ≤ 140737488355328)
    (K : ∀ v' w' H1', OwnSl v' e z (xs ++ news) (k + m) H1' → capB v' → St w0 Sx (H0 ++ H1') w' → WL P n ops Q rest ((d, v') :: L) w') : WL P n ops Q (⟨some d, .call ⟨.builtin .append, #[xo, yo], #[t, t]⟩, ty, pos, af, g⟩ :: rest) L w := by
  obtain ⟨hu, i, hi, hiz, hiy⟩ := ok_sl hT ht
  obtain ⟨i', hi', hzz⟩ := ok_zero hT hz
  have hii : i' = i := Option.some.inj (hi'.symm.trans hi)
  subst hii
  have hzs : zv.cells.size = z := by rw [zcells_cells]; simpa using hzl
  have hcell := cells_at hb hnews
  have hone : ∀ u ∈ news, u.oneCell' = true := fun u hu => oneV_cell (List.all_eq_true.1 h1 u hu)
  obtain ⟨hxl, hv⟩ := ho
  have h01 : St w0 Sx (H0 ++ H1) w := hSt.left
  rcases hv with ⟨rfl, rfl, rfl⟩ | ⟨b, cap, rs, rfl, hkc, hrs, rfl⟩
  · have hxs : xs = [] := List.eq_nil_of_length_eq_zero (by omega)
    subst hxs
    have hr := run_append_nil (P := P) w t ty e i' zv hu hi' hzz ⟨b2, o2, none⟩ m c news (by rw [hiz]; exact hl) hcell hm (by omega) (by rw [hiy]; simp only [Nat.zero_add] at hby; omega)
    refine WL_ev hg hn (Ev_append hx hy hr) ?_
    have hge := grownCap_ge w m 0 e
    have hst2 := (St.drew hSt.left.left).alloc (.cells (news.toArray ++ Builtin.zeroCells zv.cells (grownCap w m 0 e - m)) e)
    refine K _ _ [(w.heap.size, blk (news ++ (Builtin.zeroCells zv.cells (grownCap w m 0 e - m)).toList) e)] ?_ (capB.mk (grownCap_le_maxLen w m 0 e (by unfold maxLen; omega))) ?_
    · refine ⟨by simpa using hl, .inr ⟨w.heap.size, grownCap w m 0 e, (Builtin.zeroCells zv.cells (grownCap w m 0 e - m)).toList, by rw [Nat.zero_add], by omega, ?_, by simp⟩⟩
      simp [size_zeroCells, hzs]
    · have e1 : (Obj.cells (news.toArray ++ Builtin.zeroCells zv.cells (grownCap w m 0 e - m)) e) = blk (news ++ (Builtin.zeroCells zv.cells (grownCap w m 0 e - m)).toList) e := by
        congr 1
        apply Array.ext'
        simp
      rw [← e1]; exact hst2
  · have hib : (H0 ++ [(b, blk (xs ++ rs) e)])[H0.length]? = some (b, blk (xs ++ rs) e) := by simp
    have hblk := (h01.own _ _ _ hib).1
    have hset : ∀ (b' : Nat) (o' : Obj), (H0 ++ [(b, blk (xs ++ rs) e)]).set H0.length (b', o') = H0 ++ [(b', o')] := fun b' o' => by simp
    by_cases hroom : k + m ≤ cap
    · have hrs2 : rs.length = (cap - k) * z := hrs
      have hlen : m * z ≤ rs.length := by rw [hrs2]; exact Nat.mul_le_mul_right _ (by omega)
      have hr := run_append_room (P := P) w t ty e i' hu hi' b k cap ⟨xs ++ rs⟩ hblk ⟨b2, o2, none⟩ m c news (by rw [hiz]; exact hl) hcell hone hroom (by rw [hiz]; simp; omega)
      refine WL_ev hg hn (Ev_append hx hy hr) ?_
      have e1 : ((⟨xs ++ rs⟩ : Array Value).toList.take (k * i'.size) ++ news ++ (⟨xs ++ rs⟩ : Array Value).toList.drop (k * i'.size + news.length)) = xs ++ news ++ rs.drop news.length := by
        rw [hiz]
        simp only
        rw [← hxl, List.take_left, List.drop_append, List.drop_eq_nil_of_le (by omega)]
        simp
      rw [e1]
      refine K _ _ [(b, blk (xs ++ news ++ rs.drop news.length) e)] ⟨by simp [hxl, hl, Nat.add_mul], .inr ⟨b, cap, rs.drop news.length, rfl, hroom, ?_, rfl⟩⟩ (capB.mk (hcb _ _ _ rfl)) ?_
      · rw [List.length_drop, hrs, hl, ← Nat.sub_mul, Nat.sub_sub]
      · rw [← hset]
        exact h01.turn hib rfl rfl rfl (by simp) (fun j _ hj => setRow_other w b j _ hj) (setRow_heap w b _ _ e (0, 0) hblk) (Or.inl rfl)
    · have hxat : ∀ j v, xs[j]? = some v → w.cell? ((⟨b, 0, none⟩ : Addr).add j) = some v := cells_at (m := k * z) hblk (by rw [List.drop_zero, ← hxl, List.take_left])
      have hfit : Builtin.nextslicecap (k + m) cap * i'.bytes ≤ 281474976710656 := by
        rw [hiy]; exact growslice_fits (by omega) hby
      have hr := run_append_grow (P := P) w t ty e i' zv hu hi' hzz ⟨b, 0, none⟩ k cap xs (by rw [hiz]; exact hxl) hxat ⟨b2, o2, none⟩ m c news (by rw [hiz]; exact hl) hcell (by omega) (by omega) hfit
      refine WL_ev hg hn (Ev_append hx hy hr) ?_
      have hge := grownCap_ge w (k + m) cap e
      have e1 : (Obj.cells (xs.toArray ++ news.toArray ++ Builtin.zeroCells zv.cells (grownCap w (k + m) cap e - (k + m))) e) = blk (xs ++ news ++ (Builtin.zeroCells zv.cells (grownCap w (k + m) cap e - (k + m))).toList) e := by
        congr 1
        apply Array.ext'
        simp
      refine K _ _ [(w.heap.size, blk (xs ++ news ++ (Builtin.zeroCells zv.cells (grownCap w (k + m) cap e - (k + m))).toList) e)] ⟨by simp [hxl, hl, Nat.add_mul], .inr ⟨w.heap.size, _, _, rfl, hge, ?_, rfl⟩⟩ (capB.mk (grownCap_le_maxLen w (k + m) cap e (by unfold maxLen; omega))) ?_
      · simp [size_zeroCells, hzs]
      · rw [← e1]
        exact (St.drew hSt.left.left).alloc _
end
end Go.Proofs.YtknfankadlokhaaGreatDoor

namespace Go.Proofs.YtknfankadlokhaaGreatDoor
open Go.RowKit
set_option maxRecDepth 4000
set_option linter.unusedVariables false
set_option linter.unusedSimpArgs false
set_option maxHeartbeats 8000000

theorem writeB_any {w0 : World} {b : Nat} {l : List UInt8} {H : List (Nat × Obj)} (hB : Bld b l H) (hh : Has w0 H) (c : UInt8) (hlen : l.length + 1 ≤ 140737488355328) :
    Cl Tryz.prog 156 [Ptr b, .int .u8 (c.toNat : Int)] w0 (fun r w' => r = .nilIface ∧ ∃ H', Bld b (l ++ [c]) H' ∧ St w0 (InH H) H' w') := by
  obtain ⟨p, v, H1, hp, ho, hcb, rfl⟩ := hB
  have hSt := hh.st
  refine enter Tryz.func156 rfl Tryz.ntmps156 rfl ?_
  repeat' (first | refine stepA ?_ | (refine stepS ?_; clear hSt; intro w hSt; dsimp only [spl, List.set] at hSt) | (refine stepB ?_; clear hSt; intro w nb hnb hSt; dsimp only [zcells, List.nil_append, List.cons_append] at hSt) | (refine W_quiet hT (by decide +kernel) hSt ?_; clear hSt; (repeat' (first | (apply QL_ev rfl rfl; (intro w hSt; (first | exact Ev_auto))) | refine QL_pass rfl rfl ?_ | (refine QL_guardP rfl rfl (fun hc => ?_) (fun hc => ?_) <;> try exact absA) | (refine QL_guard rfl rfl (fun hc => ?_) (fun hc => ?_) <;> (try exact absA) <;> (fail_if_success (change true = true at hc)) <;> (fail_if_success (change false = false at hc))))); all_goals (refine QL_nil (fun w hSt => ?_))) | (refine stepG ?_ ?_ <;> intro hc <;> (try exact absA) <;> (fail_if_success (change true = true at hc)) <;> (fail_if_success (change false = false at hc))) | fail)
  refine WL_call (ok_call hT rfl) rfl rfl rfl (copy_any (hSt.own 0 _ _ rfl).1 hp) ?_
  rintro r w' ⟨rfl, hc2⟩
  replace hSt := hSt.call1 (i := 0) rfl hc2
  dsimp only [List.set] at hSt
  clear hc2
  obtain ⟨oa, oc, rfl⟩ := ho.len
  repeat' (first | refine stepA ?_ | (refine stepS ?_; clear hSt; intro w hSt; dsimp only [spl, List.set] at hSt) | (refine stepB ?_; clear hSt; intro w nb hnb hSt; dsimp only [zcells, List.nil_append, List.cons_append] at hSt) | (refine W_quiet hT (by decide +kernel) hSt ?_; clear hSt; (repeat' (first | (apply QL_ev rfl rfl; (intro w hSt; (first | exact Ev_auto))) | refine QL_pass rfl rfl ?_ | (refine QL_guardP rfl rfl (fun hc => ?_) (fun hc => ?_) <;> try exact absA) | (refine QL_guard rfl rfl (fun hc => ?_) (fun hc => ?_) <;> (try exact absA) <;> (fail_if_success (change true = true at hc)) <;> (fail_if_success (change false = false at hc))))); all_goals (refine QL_nil (fun w hSt => ?_))) | (refine stepG ?_ ?_ <;> intro hc <;> (try exact absA) <;> (fail_if_success (change true = true at hc)) <;> (fail_if_success (change false = false at hc))) | fail)
  refine WL_buildSlice hT rfl rfl rfl rfl rfl rfl rfl rfl hSt ?_
  clear hSt
  intro w nb2 hnb2 hSt
  refine WL_appendC (H0 := [_]) (H1 := H1) (H2 := [_]) (m := 1) (o2 := 0) hT rfl rfl rfl rfl rfl rfl rfl hSt ho hcb (at_last hSt) rfl rfl rfl (by decide) (by omega) (by omega) ?_
  clear hSt
  intro v' w H1' ho' hcb' hSt
  dsimp only [List.cons_append, List.nil_append] at hSt
  obtain ⟨oa', oc', rfl⟩ := ho'.len
  repeat' (first | refine stepA ?_ | (refine stepS ?_; clear hSt; intro w hSt; dsimp only [spl, List.set] at hSt) | (refine stepB ?_; clear hSt; intro w nb hnb hSt; dsimp only [zcells, List.nil_append, List.cons_append] at hSt) | (refine W_quiet hT (by decide +kernel) hSt ?_; clear hSt; (repeat' (first | (apply QL_ev rfl rfl; (intro w hSt; (first | exact Ev_auto))) | refine QL_pass rfl rfl ?_ | (refine QL_guardP rfl rfl (fun hc => ?_) (fun hc => ?_) <;> try exact absA) | (refine QL_guard rfl rfl (fun hc => ?_) (fun hc => ?_) <;> (try exact absA) <;> (fail_if_success (change true = true at hc)) <;> (fail_if_success (change false = false at hc))))); all_goals (refine QL_nil (fun w hSt => ?_))) | (refine stepG ?_ ?_ <;> intro hc <;> (try exact absA) <;> (fail_if_success (change true = true at hc)) <;> (fail_if_success (change false = false at hc))) | fail)
  exact ret1 rfl rfl ⟨rfl, _, ⟨_, _, H1', .inr rfl, by rw [show bcs (l ++ [c]) = bcs l ++ [Value.int .u8 (c.toNat : Int)] by simp, List.length_append]; exact ho', hcb', rfl⟩, hSt⟩
theorem len_any {w0 : World} {b : Nat} {l : List UInt8} {H : List (Nat × Obj)} (hB : Bld b l H) (hh : Has w0 H) : Cl Tryz.prog 53 [Ptr b] w0 (fun r w' => r = I l.length ∧ St w0 NoneS [] w') := by
  obtain ⟨p, v, H1, hp, ho, hcb, rfl⟩ := hB
  have hSt := St.refl w0 NoneS
  have hb := hh.own 0 _ _ rfl
  obtain ⟨oa, oc, rfl⟩ := ho.len
  refine enter Tryz.func53 rfl Tryz.ntmps53 rfl ?_
  repeat' (first | (apply WL_ev rfl rfl; exact Ev_load1 hT rfl rfl (hSt.base hb (fun e => e)) rfl) | refine stepA ?_ | (refine stepS ?_; clear hSt; intro w hSt; dsimp only [spl, List.set] at hSt) | (refine stepB ?_; clear hSt; intro w nb hnb hSt; dsimp only [zcells, List.nil_append, List.cons_append] at hSt) | (refine W_quiet hT (by decide +kernel) hSt ?_; clear hSt; (repeat' (first | (apply QL_ev rfl rfl; (intro w hSt; (first | (exact Ev_load1 hT rfl rfl (hSt.base hb (fun e => e)) rfl) | exact Ev_auto))) | refine QL_pass rfl rfl ?_ | (refine QL_guardP rfl rfl (fun hc => ?_) (fun hc => ?_) <;> try exact absA) | (refine QL_guard rfl rfl (fun hc => ?_) (fun hc => ?_) <;> (try exact absA) <;> (fail_if_success (change true = true at hc)) <;> (fail_if_success (change false = false at hc))))); all_goals (refine QL_nil (fun w hSt => ?_))) | (refine stepG ?_ ?_ <;> intro hc <;> (try exact absA) <;> (fail_if_success (change true = true at hc)) <;> (fail_if_success (change false = false at hc))) | fail)
  all_goals exact ret1 rfl rfl ⟨rfl, hSt⟩
end Go.Proofs.YtknfankadlokhaaGreatDoor

namespace Go.Proofs.YtknfankadlokhaaGreatDoor
open Go.RowKit
set_option maxRecDepth 4000
set_option linter.unusedVariables false
set_option linter.unusedSimpArgs false
set_option maxHeartbeats 8000000

section
variable {s : Tx} {q : Nat} {c d : UInt8} {out : Tx}
theorem quot_end (h : s.length ≤ q) : quotL (s.drop q) q out = .bad q := by rw [List.drop_of_length_le h, quotL]
theorem quot_bad (h : s[q]? = some c) (hc : c.toNat < 32 ∨ 126 < c.toNat) : quotL (s.drop q) q out = .bad q := by rw [drop_at h, quotL.eq_def]; dsimp only; rw [if_pos hc]
theorem quot_done (h : s[q]? = some c) (hc : c.toNat = 34) : quotL (s.drop q) q out = .ok out (q + 1) := by rw [drop_at h, quotL.eq_def]; dsimp only; rw [if_neg (by omega), if_pos hc]
theorem quot_esc0 (h : s[q]? = some c) (hc : c.toNat = 92) (h1 : s.length ≤ q + 1) : quotL (s.drop q) q out = .bad q := by
  rw [drop_at h, quotL.eq_def]
  dsimp only
  rw [if_neg (by omega), if_neg (by omega), if_pos hc, List.drop_of_length_le h1]
theorem quot_escB (h : s[q]? = some c) (hc : c.toNat = 92) (h1 : s[q + 1]? = some d) (hd : ¬ (d.toNat = 34 ∨ d.toNat = 92)) : quotL (s.drop q) q out = .bad q := by
  rw [drop_at h, quotL.eq_def]
  dsimp only
  rw [if_neg (by omega), if_neg (by omega), if_pos hc, drop_at h1]
  dsimp only
  rw [if_neg hd]
theorem quot_esc (h : s[q]? = some c) (hc : c.toNat = 92) (h1 : s[q + 1]? = some d) (hd : d.toNat = 34 ∨ d.toNat = 92) : quotL (s.drop q) q out = quotL (s.drop (q + 2)) (q + 2) (out ++ [d]) := by
  rw [drop_at h, quotL.eq_def]
  dsimp only
  rw [if_neg (by omega), if_neg (by omega), if_pos hc, drop_at h1]
  dsimp only
  rw [if_pos hd]
theorem quot_char (h : s[q]? = some c) (h1 : ¬ (c.toNat < 32 ∨ 126 < c.toNat)) (h2 : ¬ c.toNat = 34) (h3 : ¬ c.toNat = 92) : quotL (s.drop q) q out = quotL (s.drop (q + 1)) (q + 1) (out ++ [c]) := by
  rw [drop_at h, quotL.eq_def]
  dsimp only
  rw [if_neg h1, if_neg h2, if_neg h3]
end
end Go.Proofs.YtknfankadlokhaaGreatDoor
