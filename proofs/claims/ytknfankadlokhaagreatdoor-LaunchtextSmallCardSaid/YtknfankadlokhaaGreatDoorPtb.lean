/- The specification's parser in memory: its small parts. No conditions. -/
import Derived.Test.YtknfankadlokhaaGreatDoorNA
import Derived.Test.YtknfankadlokhaaGreatDoorNF

namespace Go.Proofs.YtknfankadlokhaaGreatDoor
open Go.RowKit
set_option maxRecDepth 4000
set_option linter.unusedVariables false
set_option linter.unusedSimpArgs false
set_option maxHeartbeats 16000000

abbrev plO (v : Value) (x : Pq) : Obj := blk [v, I (x.1 : Int), .bool x.2] 101
/-- a place of the specification's parser, in memory -/
structure PL (w : World) (pb : Nat) (ts : List Tk) (v : Value) (x : Pq) : Prop where
  hp : w.heap[pb]? = some (plO v x)
  ht : SlAt (wo pb w) v 4 (ts.map tkC)
  ok : TkOk ts
  len : ts.length ≤ 100000
  tl : ∀ p, (tkAt ts p).tx.length ≤ 9223372036854775807
  lt : x.1 < ts.length
section
variable {w0 w : World} {pb : Nat} {v : Value} {ts : List Tk} {x y : Pq} {H : List (Nat × Obj)}
theorem PL.next (h : PL w0 pb ts v x) (hSt : St w0 (· = pb) H w) {i : Nat} (hi : H[i]? = some (pb, plO v y)) (hq : y.1 < ts.length) : PL w pb ts v y :=
  ⟨(hSt.own i _ _ hi).1, h.ht.kept hSt.keepB, h.ok, h.len, h.tl, hq⟩
theorem PL.start (h : PL w0 pb ts v x) : St w0 (· = pb) [(pb, plO v x)] w0 := (St.refl w0 (· = pb)).know h.hp (Or.inl rfl) (by simp)
theorem PL.kept (h : PL w0 pb ts v x) (hSt : St w0 NoneS H w) : PL w pb ts v x :=
  ⟨hSt.base h.hp (fun e => e), h.ht.kept hSt.keepB0, h.ok, h.len, h.tl, h.lt⟩
theorem rtoken_any (h : PL w0 pb ts v x) : Cl Tryz.prog 57 [Ptr pb] w0 (fun r w' => r = .agg ⟨tkC (tkAt ts x.1)⟩ ∧ St w0 NoneS [] w') := by
  have hSt := St.refl w0 NoneS
  obtain ⟨p, bd⟩ := x
  obtain ⟨a, cap, rfl, hcs⟩ := (h.ht.unwo (by decide)).map
  have hlt := h.lt
  dsimp only at hlt ⊢
  obtain ⟨b, o, m, E, z, rfl, hb, hcc, _⟩ := hcs p _ (tkAt_some hlt)
  generalize tkAt ts p = t at hcc ⊢
  obtain ⟨kd, tx, nn, at_⟩ := t
  rw [← Int.toNat_natCast p] at hcc
  refine enter Tryz.func57 rfl Tryz.ntmps57 rfl ?_
  repeat' (first | (refine WL_alloc hT rfl rfl rfl hSt ?_; clear hSt; intro w nb hnb hSt; replace hSt := hSt.front; dsimp only [zcells] at hSt) | (apply WL_ev rfl rfl; exact Ev_load1 hT rfl rfl (hSt.base h.hp (fun e => e)) rfl) | (apply WL_ev rfl rfl; exact Ev_loadN hT rfl rfl (hSt.base hb (fun e => e)) hcc rfl) | (refine W_tail 10 hT (by decide +kernel) hSt ?_; clear hSt; intro w hSt; simp only [List.take_succ_cons, List.take_zero]; (repeat' (first | (apply SL_ev rfl rfl; (first | (exact Ev_load1 hT rfl rfl (hSt.base h.hp (fun e => e)) rfl) | (exact Ev_loadN hT rfl rfl (hSt.base hb (fun e => e)) hcc rfl) | exact Ev_auto)) | refine SL_pass rfl rfl ?_ | (refine SL_guardP rfl rfl (fun hc => ?_) (fun hc => ?_) <;> try exact absA) | (refine SL_guard rfl rfl (fun hc => ?_) (fun hc => ?_) <;> (try exact absA) <;> (fail_if_success (change true = true at hc)) <;> (fail_if_success (change false = false at hc))))); all_goals (refine SL_nil ?_; simp only [List.drop_succ_cons, List.drop_zero])) | refine stepA ?_ | (refine stepS ?_; clear hSt; intro w hSt; dsimp only [spl, List.set] at hSt) | (refine stepB ?_; clear hSt; intro w nb hnb hSt; dsimp only [zcells, List.nil_append, List.cons_append] at hSt) | (refine W_quiet hT (by decide +kernel) hSt ?_; clear hSt; (repeat' (first | (apply QL_ev rfl rfl; (intro w hSt; (first | (exact Ev_load1 hT rfl rfl (hSt.base h.hp (fun e => e)) rfl) | (exact Ev_loadN hT rfl rfl (hSt.base hb (fun e => e)) hcc rfl) | exact Ev_auto))) | refine QL_pass rfl rfl ?_ | (refine QL_guardP rfl rfl (fun hc => ?_) (fun hc => ?_) <;> try exact absA) | (refine QL_guard rfl rfl (fun hc => ?_) (fun hc => ?_) <;> (try exact absA) <;> (fail_if_success (change true = true at hc)) <;> (fail_if_success (change false = false at hc))))); all_goals (refine QL_nil (fun w hSt => ?_))) | (refine stepG ?_ ?_ <;> intro hc <;> (try exact absA) <;> (fail_if_success (change true = true at hc)) <;> (fail_if_success (change false = false at hc))) | fail)
  all_goals try (exfalso; first | omega | (simp at hc; done) | (exact hc rfl) | contradiction)
  all_goals exact end_of (resc1 rfl hT rfl rfl (hSt.at 0 rfl) rfl rfl) ⟨rfl, hSt.nil⟩
theorem rstep_any (h : PL w0 pb ts v x) (hk : (tkAt ts x.1).kd ≠ 0) : Cl Tryz.prog 125 [Ptr pb] w0 (fun r w' => r = .tuple ⟨[]⟩ ∧ St w0 (· = pb) [(pb, plO v (x.1 + 1, x.2))] w') := by
  have hSt := h.start
  obtain ⟨p, bd⟩ := x
  have hlt := h.lt
  have hn := h.ok.next hlt hk
  have hlen := h.len
  obtain ⟨a, cap, rfl, hcs⟩ := h.ht.map
  dsimp only at hlt hn ⊢
  refine enter Tryz.func125 rfl Tryz.ntmps125 rfl ?_
  repeat' (first | refine stepA ?_ | (refine stepS ?_; clear hSt; intro w hSt; dsimp only [spl, List.set] at hSt) | (refine stepB ?_; clear hSt; intro w nb hnb hSt; dsimp only [zcells, List.nil_append, List.cons_append] at hSt) | (refine W_quiet hT (by decide +kernel) hSt ?_; clear hSt; (repeat' (first | (apply QL_ev rfl rfl; (intro w hSt; (first | exact Ev_auto))) | refine QL_pass rfl rfl ?_ | (refine QL_guardP rfl rfl (fun hc => ?_) (fun hc => ?_) <;> try exact absA) | (refine QL_guard rfl rfl (fun hc => ?_) (fun hc => ?_) <;> (try exact absA) <;> (fail_if_success (change true = true at hc)) <;> (fail_if_success (change false = false at hc))))); all_goals (refine QL_nil (fun w hSt => ?_))) | (refine stepG ?_ ?_ <;> intro hc <;> (try exact absA) <;> (fail_if_success (change true = true at hc)) <;> (fail_if_success (change false = false at hc))) | fail)
  all_goals try (exfalso; first | omega | (simp at hc; done) | (exact hc rfl) | contradiction)
  all_goals exact ⟨rfl, hSt⟩
theorem tk_none {p : Nat} (h : ts.length ≤ p) : tkAt ts p = Tk.zero := by
  rw [tkAt, List.getD_eq_getElem?_getD, List.getElem?_eq_none h]; rfl
theorem ris_any (h : PL w0 pb ts v x) (k : Int) (s : Tx) (ah : Nat) (h0 : k ≠ 0) (hah : ah ≤ 1) : Cl Tryz.prog 126 [Ptr pb, I k, S s, I (ah : Int)] w0 (fun r w' => r = .bool (isT ts k s (x.1 + ah)) ∧ St w0 NoneS [] w') := by
  have hSt := St.refl w0 NoneS
  obtain ⟨p, bd⟩ := x
  obtain ⟨a, cap, rfl, hcs⟩ := (h.ht.unwo (by decide)).map
  have hlen := h.len
  unfold isT
  dsimp only
  have hlt : p < ts.length := h.lt
  have hp2 : w0.heap[pb]? = some (blk [.slice a ts.length cap, I (p : Int), .bool bd] 101) := h.hp
  refine enter Tryz.func126 rfl Tryz.ntmps126 rfl ?_
  by_cases hp : p + ah < ts.length
  · obtain ⟨b, o, m, E, z, rfl, hb, hcc, hlc⟩ := hcs (p + ah) _ (tkAt_some hp)
    generalize tkAt ts (p + ah) = t at hcc hlc ⊢
    obtain ⟨kd, tx, nn, at_⟩ := t
    have hcc1 : (m.drop (o + ((p : Int) + (ah : Int)).toNat * 4))[0]? = some (I kd) := by rw [show ((p : Int) + (ah : Int)).toNat = p + ah by omega]; have := congrArg (·[0]?) hcc; simpa using this
    have hcc2 : (m.drop (o + ((p : Int) + (ah : Int)).toNat * 4))[1]? = some (S tx) := by rw [show ((p : Int) + (ah : Int)).toNat = p + ah by omega]; have := congrArg (·[1]?) hcc; simpa using this
    rw [List.getElem?_drop] at hcc1 hcc2
    by_cases hkd : kd = k
    · by_cases htx : tx = s
      · rw [decide_eq_true hkd, decide_eq_true htx]
        repeat' (first | (apply WL_ev rfl rfl; exact Ev_load1 hT rfl rfl (hSt.base hp2 (fun e => e)) rfl) | (apply WL_ev rfl rfl; exact Ev_load1 hT rfl rfl (hSt.base hb (fun e => e)) hcc1) | (apply WL_ev rfl rfl; exact Ev_load1 hT rfl rfl (hSt.base hb (fun e => e)) hcc2) | (refine W_tail 46 hT (by decide +kernel) hSt ?_; clear hSt; intro w hSt; simp only [List.take_succ_cons, List.take_zero]; (repeat' (first | (apply SL_ev rfl rfl; (first | (exact Ev_load1 hT rfl rfl (hSt.base hp2 (fun e => e)) rfl) | (exact Ev_load1 hT rfl rfl (hSt.base hb (fun e => e)) hcc1) | (exact Ev_load1 hT rfl rfl (hSt.base hb (fun e => e)) hcc2) | exact Ev_auto)) | refine SL_pass rfl rfl ?_ | (refine SL_guardP rfl rfl (fun hc => ?_) (fun hc => ?_) <;> try exact absA) | (refine SL_guard rfl rfl (fun hc => ?_) (fun hc => ?_) <;> (try exact absA) <;> (fail_if_success (change true = true at hc)) <;> (fail_if_success (change false = false at hc))))); all_goals (refine SL_nil ?_; simp only [List.drop_succ_cons, List.drop_zero])) | refine stepA ?_ | (refine stepS ?_; clear hSt; intro w hSt; dsimp only [spl, List.set] at hSt) | (refine stepB ?_; clear hSt; intro w nb hnb hSt; dsimp only [zcells, List.nil_append, List.cons_append] at hSt) | (refine W_quiet hT (by decide +kernel) hSt ?_; clear hSt; (repeat' (first | (apply QL_ev rfl rfl; (intro w hSt; (first | (exact Ev_load1 hT rfl rfl (hSt.base hp2 (fun e => e)) rfl) | (exact Ev_load1 hT rfl rfl (hSt.base hb (fun e => e)) hcc1) | (exact Ev_load1 hT rfl rfl (hSt.base hb (fun e => e)) hcc2) | exact Ev_auto))) | refine QL_pass rfl rfl ?_ | (refine QL_guardP rfl rfl (fun hc => ?_) (fun hc => ?_) <;> try exact absA) | (refine QL_guard rfl rfl (fun hc => ?_) (fun hc => ?_) <;> (try exact absA) <;> (fail_if_success (change true = true at hc)) <;> (fail_if_success (change false = false at hc))))); all_goals (refine QL_nil (fun w hSt => ?_))) | (refine stepG ?_ ?_ <;> intro hc <;> (try exact absA) <;> (fail_if_success (change true = true at hc)) <;> (fail_if_success (change false = false at hc))) | fail)
        all_goals try (exfalso; first | omega | (simp at hc; done) | (exact hc rfl) | contradiction)
        all_goals (refine ret1 rfl rfl ⟨congrArg Value.bool ?_, hSt⟩; simp [hkd, htx])
      · rw [decide_eq_true hkd, decide_eq_false htx]
        repeat' (first | (apply WL_ev rfl rfl; exact Ev_load1 hT rfl rfl (hSt.base hp2 (fun e => e)) rfl) | (apply WL_ev rfl rfl; exact Ev_load1 hT rfl rfl (hSt.base hb (fun e => e)) hcc1) | (apply WL_ev rfl rfl; exact Ev_load1 hT rfl rfl (hSt.base hb (fun e => e)) hcc2) | (refine W_tail 46 hT (by decide +kernel) hSt ?_; clear hSt; intro w hSt; simp only [List.take_succ_cons, List.take_zero]; (repeat' (first | (apply SL_ev rfl rfl; (first | (exact Ev_load1 hT rfl rfl (hSt.base hp2 (fun e => e)) rfl) | (exact Ev_load1 hT rfl rfl (hSt.base hb (fun e => e)) hcc1) | (exact Ev_load1 hT rfl rfl (hSt.base hb (fun e => e)) hcc2) | exact Ev_auto)) | refine SL_pass rfl rfl ?_ | (refine SL_guardP rfl rfl (fun hc => ?_) (fun hc => ?_) <;> try exact absA) | (refine SL_guard rfl rfl (fun hc => ?_) (fun hc => ?_) <;> (try exact absA) <;> (fail_if_success (change true = true at hc)) <;> (fail_if_success (change false = false at hc))))); all_goals (refine SL_nil ?_; simp only [List.drop_succ_cons, List.drop_zero])) | refine stepA ?_ | (refine stepS ?_; clear hSt; intro w hSt; dsimp only [spl, List.set] at hSt) | (refine stepB ?_; clear hSt; intro w nb hnb hSt; dsimp only [zcells, List.nil_append, List.cons_append] at hSt) | (refine W_quiet hT (by decide +kernel) hSt ?_; clear hSt; (repeat' (first | (apply QL_ev rfl rfl; (intro w hSt; (first | (exact Ev_load1 hT rfl rfl (hSt.base hp2 (fun e => e)) rfl) | (exact Ev_load1 hT rfl rfl (hSt.base hb (fun e => e)) hcc1) | (exact Ev_load1 hT rfl rfl (hSt.base hb (fun e => e)) hcc2) | exact Ev_auto))) | refine QL_pass rfl rfl ?_ | (refine QL_guardP rfl rfl (fun hc => ?_) (fun hc => ?_) <;> try exact absA) | (refine QL_guard rfl rfl (fun hc => ?_) (fun hc => ?_) <;> (try exact absA) <;> (fail_if_success (change true = true at hc)) <;> (fail_if_success (change false = false at hc))))); all_goals (refine QL_nil (fun w hSt => ?_))) | (refine stepG ?_ ?_ <;> intro hc <;> (try exact absA) <;> (fail_if_success (change true = true at hc)) <;> (fail_if_success (change false = false at hc))) | fail)
        all_goals try (exfalso; first | omega | (simp at hc; done) | (exact hc rfl) | contradiction)
        all_goals (refine ret1 rfl rfl ⟨congrArg Value.bool ?_, hSt⟩; simp [hkd, htx])
    · rw [decide_eq_false hkd, Bool.false_and]
      repeat' (first | (apply WL_ev rfl rfl; exact Ev_load1 hT rfl rfl (hSt.base hp2 (fun e => e)) rfl) | (apply WL_ev rfl rfl; exact Ev_load1 hT rfl rfl (hSt.base hb (fun e => e)) hcc1) | (apply WL_ev rfl rfl; exact Ev_load1 hT rfl rfl (hSt.base hb (fun e => e)) hcc2) | (refine W_tail 46 hT (by decide +kernel) hSt ?_; clear hSt; intro w hSt; simp only [List.take_succ_cons, List.take_zero]; (repeat' (first | (apply SL_ev rfl rfl; (first | (exact Ev_load1 hT rfl rfl (hSt.base hp2 (fun e => e)) rfl) | (exact Ev_load1 hT rfl rfl (hSt.base hb (fun e => e)) hcc1) | (exact Ev_load1 hT rfl rfl (hSt.base hb (fun e => e)) hcc2) | exact Ev_auto)) | refine SL_pass rfl rfl ?_ | (refine SL_guardP rfl rfl (fun hc => ?_) (fun hc => ?_) <;> try exact absA) | (refine SL_guard rfl rfl (fun hc => ?_) (fun hc => ?_) <;> (try exact absA) <;> (fail_if_success (change true = true at hc)) <;> (fail_if_success (change false = false at hc))))); all_goals (refine SL_nil ?_; simp only [List.drop_succ_cons, List.drop_zero])) | refine stepA ?_ | (refine stepS ?_; clear hSt; intro w hSt; dsimp only [spl, List.set] at hSt) | (refine stepB ?_; clear hSt; intro w nb hnb hSt; dsimp only [zcells, List.nil_append, List.cons_append] at hSt) | (refine W_quiet hT (by decide +kernel) hSt ?_; clear hSt; (repeat' (first | (apply QL_ev rfl rfl; (intro w hSt; (first | (exact Ev_load1 hT rfl rfl (hSt.base hp2 (fun e => e)) rfl) | (exact Ev_load1 hT rfl rfl (hSt.base hb (fun e => e)) hcc1) | (exact Ev_load1 hT rfl rfl (hSt.base hb (fun e => e)) hcc2) | exact Ev_auto))) | refine QL_pass rfl rfl ?_ | (refine QL_guardP rfl rfl (fun hc => ?_) (fun hc => ?_) <;> try exact absA) | (refine QL_guard rfl rfl (fun hc => ?_) (fun hc => ?_) <;> (try exact absA) <;> (fail_if_success (change true = true at hc)) <;> (fail_if_success (change false = false at hc))))); all_goals (refine QL_nil (fun w hSt => ?_))) | (refine stepG ?_ ?_ <;> intro hc <;> (try exact absA) <;> (fail_if_success (change true = true at hc)) <;> (fail_if_success (change false = false at hc))) | fail)
      all_goals try (exfalso; first | omega | (simp at hc; done) | (exact hc rfl) | contradiction)
      all_goals (refine ret1 rfl rfl ⟨congrArg Value.bool ?_, hSt⟩; simp [hkd])
  · rw [tk_none (by omega)]
    rw [show decide (Tk.zero.kd = k) = false from decide_eq_false (fun e => h0 e.symm), Bool.false_and]
    repeat' (first | (apply WL_ev rfl rfl; exact Ev_load1 hT rfl rfl (hSt.base hp2 (fun e => e)) rfl) | (refine W_tail 46 hT (by decide +kernel) hSt ?_; clear hSt; intro w hSt; simp only [List.take_succ_cons, List.take_zero]; (repeat' (first | (apply SL_ev rfl rfl; (first | (exact Ev_load1 hT rfl rfl (hSt.base hp2 (fun e => e)) rfl) | exact Ev_auto)) | refine SL_pass rfl rfl ?_ | (refine SL_guardP rfl rfl (fun hc => ?_) (fun hc => ?_) <;> try exact absA) | (refine SL_guard rfl rfl (fun hc => ?_) (fun hc => ?_) <;> (try exact absA) <;> (fail_if_success (change true = true at hc)) <;> (fail_if_success (change false = false at hc))))); all_goals (refine SL_nil ?_; simp only [List.drop_succ_cons, List.drop_zero])) | refine stepA ?_ | (refine stepS ?_; clear hSt; intro w hSt; dsimp only [spl, List.set] at hSt) | (refine stepB ?_; clear hSt; intro w nb hnb hSt; dsimp only [zcells, List.nil_append, List.cons_append] at hSt) | (refine W_quiet hT (by decide +kernel) hSt ?_; clear hSt; (repeat' (first | (apply QL_ev rfl rfl; (intro w hSt; (first | (exact Ev_load1 hT rfl rfl (hSt.base hp2 (fun e => e)) rfl) | exact Ev_auto))) | refine QL_pass rfl rfl ?_ | (refine QL_guardP rfl rfl (fun hc => ?_) (fun hc => ?_) <;> try exact absA) | (refine QL_guard rfl rfl (fun hc => ?_) (fun hc => ?_) <;> (try exact absA) <;> (fail_if_success (change true = true at hc)) <;> (fail_if_success (change false = false at hc))))); all_goals (refine QL_nil (fun w hSt => ?_))) | (refine stepG ?_ ?_ <;> intro hc <;> (try exact absA) <;> (fail_if_success (change true = true at hc)) <;> (fail_if_success (change false = false at hc))) | fail)
    all_goals try (exfalso; first | omega | (simp at hc; done) | (exact hc rfl) | contradiction)
    all_goals exact ret1 rfl rfl ⟨rfl, hSt⟩
theorem rtake_any (h : PL w0 pb ts v x) (k : Int) (s : Tx) (h0 : k ≠ 0) : Cl Tryz.prog 104 [Ptr pb, I k, S s] w0 (fun r w' => r = .bool (tkT ts k s x) ∧ St w0 (· = pb) [(pb, plO v (tkP ts k s x))] w') := by
  have hSt := h.start
  have hlt := h.lt
  have his := fun {w : World} (h : PL w pb ts v x) => ris_any h k s 0 h0 (by decide)
  obtain ⟨p, bd⟩ := x
  dsimp only [Nat.add_zero] at hlt his
  cases bd with
  | true =>
    have e : tkT ts k s (p, true) = false := rfl
    rw [tkP_no e, e]
    refine enter Tryz.func104 rfl Tryz.ntmps104 rfl ?_
    repeat' (first | refine stepA ?_ | (refine stepS ?_; clear hSt; intro w hSt; dsimp only [spl, List.set] at hSt) | (refine stepB ?_; clear hSt; intro w nb hnb hSt; dsimp only [zcells, List.nil_append, List.cons_append] at hSt) | (refine W_quiet hT (by decide +kernel) hSt ?_; clear hSt; (repeat' (first | (apply QL_ev rfl rfl; (intro w hSt; (first | exact Ev_auto))) | refine QL_pass rfl rfl ?_ | (refine QL_guardP rfl rfl (fun hc => ?_) (fun hc => ?_) <;> try exact absA) | (refine QL_guard rfl rfl (fun hc => ?_) (fun hc => ?_) <;> (try exact absA) <;> (fail_if_success (change true = true at hc)) <;> (fail_if_success (change false = false at hc))))); all_goals (refine QL_nil (fun w hSt => ?_))) | (refine stepG ?_ ?_ <;> intro hc <;> (try exact absA) <;> (fail_if_success (change true = true at hc)) <;> (fail_if_success (change false = false at hc))) | fail)
    all_goals try (exfalso; first | omega | (simp at hc; done) | (exact hc rfl) | contradiction)
    all_goals exact ret1 rfl rfl ⟨rfl, hSt⟩
  | false =>
    have e : tkT ts k s (p, false) = isT ts k s p := rfl
    cases hi : isT ts k s p with
    | false =>
      rw [hi] at e his
      rw [tkP_no e, e]
      refine enter Tryz.func104 rfl Tryz.ntmps104 rfl ?_
      repeat' (first | (refine WL_isCall (f := 126) ?_; refine WL_call (ok_call hT rfl) rfl rfl rfl (his (h.next hSt (i := 0) rfl hlt)) ?_; rintro v w2 ⟨rfl, hc2⟩; replace hSt := hSt.call0 hc2; clear hc2) | refine stepA ?_ | (refine stepS ?_; clear hSt; intro w hSt; dsimp only [spl, List.set] at hSt) | (refine stepB ?_; clear hSt; intro w nb hnb hSt; dsimp only [zcells, List.nil_append, List.cons_append] at hSt) | (refine W_quiet hT (by decide +kernel) hSt ?_; clear hSt; (repeat' (first | (apply QL_ev rfl rfl; (intro w hSt; (first | exact Ev_auto))) | refine QL_pass rfl rfl ?_ | (refine QL_guardP rfl rfl (fun hc => ?_) (fun hc => ?_) <;> try exact absA) | (refine QL_guard rfl rfl (fun hc => ?_) (fun hc => ?_) <;> (try exact absA) <;> (fail_if_success (change true = true at hc)) <;> (fail_if_success (change false = false at hc))))); all_goals (refine QL_nil (fun w hSt => ?_))) | (refine stepG ?_ ?_ <;> intro hc <;> (try exact absA) <;> (fail_if_success (change true = true at hc)) <;> (fail_if_success (change false = false at hc))) | fail)
      all_goals try (exfalso; first | omega | (simp at hc; done) | (exact hc rfl) | contradiction)
      all_goals exact ret1 rfl rfl ⟨rfl, hSt⟩
    | true =>
      rw [hi] at e his
      have hkd := (tkT_kd e).2.1
      dsimp only at hkd
      have hst := fun {w : World} (h : PL w pb ts v (p, false)) => rstep_any h (by dsimp only; rw [hkd]; exact h0)
      rw [tkP_yes e, e]
      refine enter Tryz.func104 rfl Tryz.ntmps104 rfl ?_
      repeat' (first | (refine WL_isCall (f := 126) ?_; refine WL_call (ok_call hT rfl) rfl rfl rfl (his (h.next hSt (i := 0) rfl hlt)) ?_; rintro v w2 ⟨rfl, hc2⟩; replace hSt := hSt.call0 hc2; clear hc2) | (refine WL_isCall (f := 125) ?_; refine WL_call (ok_call hT rfl) rfl rfl rfl (hst (h.next hSt (i := 0) rfl hlt)) ?_; rintro v w2 ⟨rfl, hc2⟩; replace hSt := hSt.call1 (i := 0) rfl hc2; clear hc2; dsimp only [List.set] at hSt) | refine stepA ?_ | (refine stepS ?_; clear hSt; intro w hSt; dsimp only [spl, List.set] at hSt) | (refine stepB ?_; clear hSt; intro w nb hnb hSt; dsimp only [zcells, List.nil_append, List.cons_append] at hSt) | (refine W_quiet hT (by decide +kernel) hSt ?_; clear hSt; (repeat' (first | (apply QL_ev rfl rfl; (intro w hSt; (first | exact Ev_auto))) | refine QL_pass rfl rfl ?_ | (refine QL_guardP rfl rfl (fun hc => ?_) (fun hc => ?_) <;> try exact absA) | (refine QL_guard rfl rfl (fun hc => ?_) (fun hc => ?_) <;> (try exact absA) <;> (fail_if_success (change true = true at hc)) <;> (fail_if_success (change false = false at hc))))); all_goals (refine QL_nil (fun w hSt => ?_))) | (refine stepG ?_ ?_ <;> intro hc <;> (try exact absA) <;> (fail_if_success (change true = true at hc)) <;> (fail_if_success (change false = false at hc))) | fail)
      all_goals try (exfalso; first | omega | (simp at hc; done) | (exact hc rfl) | contradiction)
      all_goals exact ret1 rfl rfl ⟨rfl, hSt⟩
theorem rneed_any (h : PL w0 pb ts v x) (k : Int) (s : Tx) (h0 : k ≠ 0) : Cl Tryz.prog 102 [Ptr pb, I k, S s] w0 (fun r w' => r = .tuple ⟨[]⟩ ∧ St w0 (· = pb) [(pb, plO v (ndP ts k s x))] w') := by
  have hSt := h.start
  have hlt := h.lt
  have htk := fun {w : World} (h : PL w pb ts v x) => rtake_any h k s h0
  unfold ndP
  obtain ⟨p, bd⟩ := x
  dsimp only at hlt
  cases bd with
  | true =>
    have e : tkT ts k s (p, true) = false := rfl
    rw [tkP_no e]
    refine enter Tryz.func102 rfl Tryz.ntmps102 rfl ?_
    repeat' (first | refine stepA ?_ | (refine stepS ?_; clear hSt; intro w hSt; dsimp only [spl, List.set] at hSt) | (refine stepB ?_; clear hSt; intro w nb hnb hSt; dsimp only [zcells, List.nil_append, List.cons_append] at hSt) | (refine W_quiet hT (by decide +kernel) hSt ?_; clear hSt; (repeat' (first | (apply QL_ev rfl rfl; (intro w hSt; (first | exact Ev_auto))) | refine QL_pass rfl rfl ?_ | (refine QL_guardP rfl rfl (fun hc => ?_) (fun hc => ?_) <;> try exact absA) | (refine QL_guard rfl rfl (fun hc => ?_) (fun hc => ?_) <;> (try exact absA) <;> (fail_if_success (change true = true at hc)) <;> (fail_if_success (change false = false at hc))))); all_goals (refine QL_nil (fun w hSt => ?_))) | (refine stepG ?_ ?_ <;> intro hc <;> (try exact absA) <;> (fail_if_success (change true = true at hc)) <;> (fail_if_success (change false = false at hc))) | fail)
    all_goals try (exfalso; first | omega | (simp at hc; done) | (exact hc rfl) | contradiction)
    all_goals exact ⟨rfl, hSt⟩
  | false =>
    cases e : tkT ts k s (p, false) with
    | false =>
      rw [e, tkP_no e] at htk
      rw [tkP_no e]
      refine enter Tryz.func102 rfl Tryz.ntmps102 rfl ?_
      repeat' (first | (refine WL_isCall (f := 104) ?_; refine WL_call (ok_call hT rfl) rfl rfl rfl (htk (h.next hSt (i := 0) rfl hlt)) ?_; rintro v w2 ⟨rfl, hc2⟩; replace hSt := hSt.call1 (i := 0) rfl hc2; clear hc2; dsimp only [List.set] at hSt) | refine stepA ?_ | (refine stepS ?_; clear hSt; intro w hSt; dsimp only [spl, List.set] at hSt) | (refine stepB ?_; clear hSt; intro w nb hnb hSt; dsimp only [zcells, List.nil_append, List.cons_append] at hSt) | (refine W_quiet hT (by decide +kernel) hSt ?_; clear hSt; (repeat' (first | (apply QL_ev rfl rfl; (intro w hSt; (first | exact Ev_auto))) | refine QL_pass rfl rfl ?_ | (refine QL_guardP rfl rfl (fun hc => ?_) (fun hc => ?_) <;> try exact absA) | (refine QL_guard rfl rfl (fun hc => ?_) (fun hc => ?_) <;> (try exact absA) <;> (fail_if_success (change true = true at hc)) <;> (fail_if_success (change false = false at hc))))); all_goals (refine QL_nil (fun w hSt => ?_))) | (refine stepG ?_ ?_ <;> intro hc <;> (try exact absA) <;> (fail_if_success (change true = true at hc)) <;> (fail_if_success (change false = false at hc))) | fail)
      all_goals try (exfalso; first | omega | (simp at hc; done) | (exact hc rfl) | contradiction)
      all_goals exact ⟨rfl, hSt⟩
    | true =>
      rw [e, tkP_yes e] at htk
      rw [tkP_yes e]
      refine enter Tryz.func102 rfl Tryz.ntmps102 rfl ?_
      repeat' (first | (refine WL_isCall (f := 104) ?_; refine WL_call (ok_call hT rfl) rfl rfl rfl (htk (h.next hSt (i := 0) rfl hlt)) ?_; rintro v w2 ⟨rfl, hc2⟩; replace hSt := hSt.call1 (i := 0) rfl hc2; clear hc2; dsimp only [List.set] at hSt) | refine stepA ?_ | (refine stepS ?_; clear hSt; intro w hSt; dsimp only [spl, List.set] at hSt) | (refine stepB ?_; clear hSt; intro w nb hnb hSt; dsimp only [zcells, List.nil_append, List.cons_append] at hSt) | (refine W_quiet hT (by decide +kernel) hSt ?_; clear hSt; (repeat' (first | (apply QL_ev rfl rfl; (intro w hSt; (first | exact Ev_auto))) | refine QL_pass rfl rfl ?_ | (refine QL_guardP rfl rfl (fun hc => ?_) (fun hc => ?_) <;> try exact absA) | (refine QL_guard rfl rfl (fun hc => ?_) (fun hc => ?_) <;> (try exact absA) <;> (fail_if_success (change true = true at hc)) <;> (fail_if_success (change false = false at hc))))); all_goals (refine QL_nil (fun w hSt => ?_))) | (refine stepG ?_ ?_ <;> intro hc <;> (try exact absA) <;> (fail_if_success (change true = true at hc)) <;> (fail_if_success (change false = false at hc))) | fail)
      all_goals try (exfalso; first | omega | (simp at hc; done) | (exact hc rfl) | contradiction)
      all_goals exact ⟨rfl, hSt⟩
theorem rany_any (h : PL w0 pb ts v x) (k : Int) (h0 : k ≠ 0) : Cl Tryz.prog 103 [Ptr pb, I k] w0 (fun r w' => r = S (anT ts k x) ∧ St w0 (· = pb) [(pb, plO v (anP ts k x))] w') := by
  have hSt := h.start
  have hlt := h.lt
  have htn := fun {w : World} (h : PL w pb ts v x) => rtoken_any h
  have hst := fun {w : World} (h : PL w pb ts v x) => rstep_any h
  unfold anT anP
  obtain ⟨p, bd⟩ := x
  dsimp only at hlt htn hst ⊢
  cases bd with
  | true =>
    rw [if_pos (.inl rfl), if_pos (.inl rfl)]
    refine enter Tryz.func103 rfl Tryz.ntmps103 rfl ?_
    repeat' (first | refine stepA ?_ | (refine stepS ?_; clear hSt; intro w hSt; dsimp only [spl, List.set] at hSt) | (refine stepB ?_; clear hSt; intro w nb hnb hSt; dsimp only [zcells, List.nil_append, List.cons_append] at hSt) | (refine W_quiet hT (by decide +kernel) hSt ?_; clear hSt; (repeat' (first | (apply QL_ev rfl rfl; (intro w hSt; (first | exact Ev_auto))) | refine QL_pass rfl rfl ?_ | (refine QL_guardP rfl rfl (fun hc => ?_) (fun hc => ?_) <;> try exact absA) | (refine QL_guard rfl rfl (fun hc => ?_) (fun hc => ?_) <;> (try exact absA) <;> (fail_if_success (change true = true at hc)) <;> (fail_if_success (change false = false at hc))))); all_goals (refine QL_nil (fun w hSt => ?_))) | (refine stepG ?_ ?_ <;> intro hc <;> (try exact absA) <;> (fail_if_success (change true = true at hc)) <;> (fail_if_success (change false = false at hc))) | fail)
    all_goals try (exfalso; first | omega | (simp at hc; done) | (exact hc rfl) | contradiction)
    all_goals exact ret1 rfl rfl ⟨rfl, hSt⟩
  | false =>
    by_cases hk : (tkAt ts p).kd = k
    · rw [if_neg (fun e => e.elim (fun h => (by cases h)) (fun h => h hk)), if_neg (fun e => e.elim (fun h => (by cases h)) (fun h => h hk))]
      have hst := fun {w : World} (h : PL w pb ts v (p, false)) => hst h (by rw [hk]; exact h0)
      generalize tkAt ts p = t at htn hk ⊢
      obtain ⟨kd, tx, nn, at_⟩ := t
      dsimp only at hk ⊢
      refine enter Tryz.func103 rfl Tryz.ntmps103 rfl ?_
      repeat' (first | (refine WL_isCall (f := 57) ?_; refine WL_call (ok_call hT rfl) rfl rfl rfl (htn (h.next hSt (i := 0) rfl hlt)) ?_; rintro v w2 ⟨rfl, hc2⟩; replace hSt := hSt.call0 hc2; clear hc2) | (apply WL_ev rfl rfl; exact Ev_field1 hT rfl rfl rfl (by intro fs x h1 h2; rw [Tryz.underlying63] at h1; injection h1 with h1; injection h1 with h1; subst h1; injection h2 with h2; subst h2; decide +kernel)) | (refine WL_isCall (f := 125) ?_; refine WL_call (ok_call hT rfl) rfl rfl rfl (hst (h.next hSt (i := 0) rfl hlt)) ?_; rintro v w2 ⟨rfl, hc2⟩; replace hSt := hSt.call1 (i := 0) rfl hc2; clear hc2; dsimp only [List.set] at hSt) | refine stepA ?_ | (refine stepS ?_; clear hSt; intro w hSt; dsimp only [spl, List.set] at hSt) | (refine stepB ?_; clear hSt; intro w nb hnb hSt; dsimp only [zcells, List.nil_append, List.cons_append] at hSt) | (refine W_quiet hT (by decide +kernel) hSt ?_; clear hSt; (repeat' (first | (apply QL_ev rfl rfl; (intro w hSt; (first | (exact Ev_field1 hT rfl rfl rfl (by intro fs x h1 h2; rw [Tryz.underlying63] at h1; injection h1 with h1; injection h1 with h1; subst h1; injection h2 with h2; subst h2; decide +kernel)) | exact Ev_auto))) | refine QL_pass rfl rfl ?_ | (refine QL_guardP rfl rfl (fun hc => ?_) (fun hc => ?_) <;> try exact absA) | (refine QL_guard rfl rfl (fun hc => ?_) (fun hc => ?_) <;> (try exact absA) <;> (fail_if_success (change true = true at hc)) <;> (fail_if_success (change false = false at hc))))); all_goals (refine QL_nil (fun w hSt => ?_))) | (refine stepG ?_ ?_ <;> intro hc <;> (try exact absA) <;> (fail_if_success (change true = true at hc)) <;> (fail_if_success (change false = false at hc))) | fail)
      all_goals try (exfalso; first | omega | (simp at hc; done) | (exact hc rfl) | contradiction)
      all_goals exact ret1 rfl rfl ⟨rfl, hSt⟩
    · rw [if_pos (.inr hk), if_pos (.inr hk)]
      generalize tkAt ts p = t at htn hk ⊢
      obtain ⟨kd, tx, nn, at_⟩ := t
      dsimp only at hk ⊢
      refine enter Tryz.func103 rfl Tryz.ntmps103 rfl ?_
      repeat' (first | (refine WL_isCall (f := 57) ?_; refine WL_call (ok_call hT rfl) rfl rfl rfl (htn (h.next hSt (i := 0) rfl hlt)) ?_; rintro v w2 ⟨rfl, hc2⟩; replace hSt := hSt.call0 hc2; clear hc2) | (apply WL_ev rfl rfl; exact Ev_field1 hT rfl rfl rfl (by intro fs x h1 h2; rw [Tryz.underlying63] at h1; injection h1 with h1; injection h1 with h1; subst h1; injection h2 with h2; subst h2; decide +kernel)) | refine stepA ?_ | (refine stepS ?_; clear hSt; intro w hSt; dsimp only [spl, List.set] at hSt) | (refine stepB ?_; clear hSt; intro w nb hnb hSt; dsimp only [zcells, List.nil_append, List.cons_append] at hSt) | (refine W_quiet hT (by decide +kernel) hSt ?_; clear hSt; (repeat' (first | (apply QL_ev rfl rfl; (intro w hSt; (first | (exact Ev_field1 hT rfl rfl rfl (by intro fs x h1 h2; rw [Tryz.underlying63] at h1; injection h1 with h1; injection h1 with h1; subst h1; injection h2 with h2; subst h2; decide +kernel)) | exact Ev_auto))) | refine QL_pass rfl rfl ?_ | (refine QL_guardP rfl rfl (fun hc => ?_) (fun hc => ?_) <;> try exact absA) | (refine QL_guard rfl rfl (fun hc => ?_) (fun hc => ?_) <;> (try exact absA) <;> (fail_if_success (change true = true at hc)) <;> (fail_if_success (change false = false at hc))))); all_goals (refine QL_nil (fun w hSt => ?_))) | (refine stepG ?_ ?_ <;> intro hc <;> (try exact absA) <;> (fail_if_success (change true = true at hc)) <;> (fail_if_success (change false = false at hc))) | fail)
      all_goals try (exfalso; first | omega | (simp at hc; done) | (exact hc rfl) | contradiction)
      all_goals exact ret1 rfl rfl ⟨rfl, hSt⟩
theorem rsetting_any (h : PL w0 pb ts v x) : Cl Tryz.prog 113 [Ptr pb] w0 (fun r w' => r = .agg ⟨[S (qSet ts x).1, S (qSet ts x).2]⟩ ∧ St w0 (· = pb) [(pb, plO v (qSetP ts x))] w') := by
  have hSt := h.start
  have h1 := (anP_lt h.ok (k := 1) (by decide) h.lt).2
  have h2 := (ndP_lt h.ok (k := 4) (s := [61]) (by decide) h1).2
  have a1 := fun {w : World} (h : PL w pb ts v x) => rany_any h 1 (by decide)
  have a2 := fun {w : World} (h : PL w pb ts v (anP ts 1 x)) => rneed_any h 4 [61] (by decide)
  have a3 := fun {w : World} (h : PL w pb ts v (ndP ts 4 [61] (anP ts 1 x))) => rany_any h 3 (by decide)
  refine enter Tryz.func113 rfl Tryz.ntmps113 rfl ?_
  repeat' (first | (refine WL_alloc hT rfl rfl rfl hSt ?_; clear hSt; intro w nb hnb hSt; replace hSt := hSt.front; dsimp only [zcells] at hSt) | refine stepA ?_ | (refine stepS ?_; clear hSt; intro w hSt; dsimp only [spl, List.set] at hSt) | (refine stepB ?_; clear hSt; intro w nb hnb hSt; dsimp only [zcells, List.nil_append, List.cons_append] at hSt) | (refine W_quiet hT (by decide +kernel) hSt ?_; clear hSt; (repeat' (first | (apply QL_ev rfl rfl; (intro w hSt; (first | exact Ev_auto))) | refine QL_pass rfl rfl ?_ | (refine QL_guardP rfl rfl (fun hc => ?_) (fun hc => ?_) <;> try exact absA) | (refine QL_guard rfl rfl (fun hc => ?_) (fun hc => ?_) <;> (try exact absA) <;> (fail_if_success (change true = true at hc)) <;> (fail_if_success (change false = false at hc))))); all_goals (refine QL_nil (fun w hSt => ?_))) | (refine stepG ?_ ?_ <;> intro hc <;> (try exact absA) <;> (fail_if_success (change true = true at hc)) <;> (fail_if_success (change false = false at hc))) | fail)
  refine WL_call (ok_call hT rfl) rfl rfl rfl (a1 (h.next hSt (i := 1) rfl h.lt)) ?_
  rintro v1 w2 ⟨rfl, hc2⟩
  replace hSt := hSt.call1 (i := 1) rfl hc2
  clear hc2
  dsimp only [List.set] at hSt
  repeat' (first | refine stepA ?_ | (refine stepS ?_; clear hSt; intro w hSt; dsimp only [spl, List.set] at hSt) | (refine stepB ?_; clear hSt; intro w nb hnb hSt; dsimp only [zcells, List.nil_append, List.cons_append] at hSt) | (refine W_quiet hT (by decide +kernel) hSt ?_; clear hSt; (repeat' (first | (apply QL_ev rfl rfl; (intro w hSt; (first | exact Ev_auto))) | refine QL_pass rfl rfl ?_ | (refine QL_guardP rfl rfl (fun hc => ?_) (fun hc => ?_) <;> try exact absA) | (refine QL_guard rfl rfl (fun hc => ?_) (fun hc => ?_) <;> (try exact absA) <;> (fail_if_success (change true = true at hc)) <;> (fail_if_success (change false = false at hc))))); all_goals (refine QL_nil (fun w hSt => ?_))) | (refine stepG ?_ ?_ <;> intro hc <;> (try exact absA) <;> (fail_if_success (change true = true at hc)) <;> (fail_if_success (change false = false at hc))) | fail)
  refine WL_call (ok_call hT rfl) rfl rfl rfl (a2 (h.next hSt (i := 1) rfl h1)) ?_
  rintro v1 w2 ⟨_, hc2⟩
  replace hSt := hSt.call1 (i := 1) rfl hc2
  clear hc2
  dsimp only [List.set] at hSt
  repeat' (first | refine stepA ?_ | (refine stepS ?_; clear hSt; intro w hSt; dsimp only [spl, List.set] at hSt) | (refine stepB ?_; clear hSt; intro w nb hnb hSt; dsimp only [zcells, List.nil_append, List.cons_append] at hSt) | (refine W_quiet hT (by decide +kernel) hSt ?_; clear hSt; (repeat' (first | (apply QL_ev rfl rfl; (intro w hSt; (first | exact Ev_auto))) | refine QL_pass rfl rfl ?_ | (refine QL_guardP rfl rfl (fun hc => ?_) (fun hc => ?_) <;> try exact absA) | (refine QL_guard rfl rfl (fun hc => ?_) (fun hc => ?_) <;> (try exact absA) <;> (fail_if_success (change true = true at hc)) <;> (fail_if_success (change false = false at hc))))); all_goals (refine QL_nil (fun w hSt => ?_))) | (refine stepG ?_ ?_ <;> intro hc <;> (try exact absA) <;> (fail_if_success (change true = true at hc)) <;> (fail_if_success (change false = false at hc))) | fail)
  refine WL_call (ok_call hT rfl) rfl rfl rfl (a3 (h.next hSt (i := 1) rfl h2)) ?_
  rintro v1 w2 ⟨rfl, hc2⟩
  replace hSt := hSt.call1 (i := 1) rfl hc2
  clear hc2
  dsimp only [List.set] at hSt
  repeat' (first | refine stepA ?_ | (refine stepS ?_; clear hSt; intro w hSt; dsimp only [spl, List.set] at hSt) | (refine stepB ?_; clear hSt; intro w nb hnb hSt; dsimp only [zcells, List.nil_append, List.cons_append] at hSt) | (refine W_quiet hT (by decide +kernel) hSt ?_; clear hSt; (repeat' (first | (apply QL_ev rfl rfl; (intro w hSt; (first | exact Ev_auto))) | refine QL_pass rfl rfl ?_ | (refine QL_guardP rfl rfl (fun hc => ?_) (fun hc => ?_) <;> try exact absA) | (refine QL_guard rfl rfl (fun hc => ?_) (fun hc => ?_) <;> (try exact absA) <;> (fail_if_success (change true = true at hc)) <;> (fail_if_success (change false = false at hc))))); all_goals (refine QL_nil (fun w hSt => ?_))) | (refine stepG ?_ ?_ <;> intro hc <;> (try exact absA) <;> (fail_if_success (change true = true at hc)) <;> (fail_if_success (change false = false at hc))) | fail)
  exact end_of (resc1 rfl hT rfl rfl (hSt.at 0 rfl) rfl rfl) ⟨rfl, hSt.right (Ha := [_])⟩
end
end Go.Proofs.YtknfankadlokhaaGreatDoor
