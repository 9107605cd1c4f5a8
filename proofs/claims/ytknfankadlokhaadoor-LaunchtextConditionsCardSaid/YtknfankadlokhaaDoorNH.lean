/- What a panic reports, the deferred closures, the start of a parser. No conditions. -/
import Derived.Test.YtknfankadlokhaaDoorPpf
import Derived.Test.YtknfankadlokhaaDoorMD
import Derived.Test.YtknfankadlokhaaDoorNA

namespace Go.Proofs.YtknfankadlokhaaDoor
open Go.RowKit
set_option maxRecDepth 4000
set_option linter.unusedVariables false
set_option linter.unusedSimpArgs false
set_option maxHeartbeats 8000000

theorem At_bodyS0 {P : Program} {m9 : Nat} {L : Fr} {w : World} {fn : Func} {c₀ : Frame} {cs : List Frame} {R : Ending → FrameMode → World → Prop} {u' : FrameMode} (hr : fn.results = #[]) (hu : c₀.mode = u') (h : R (.returned (.tuple #[])) u' w) :
    At (m9, []) (fun e a' w' => bodyPostS P fn c₀ cs R e a' (c₀ :: cs) w') .normal L w :=
  ⟨fun a ha => ⟨ha.defers, u', by rw [← hu], _, results_none hr _ _ _, h⟩⟩
theorem reported_any {w0 : World} {e a : Int} : Cl Tryd.prog 18 [failV e a] w0 (fun v w' => v = .tuple ⟨[I e, I a]⟩ ∧ St w0 NoneS [] w') := by
  have hSt := St.refl w0 NoneS
  refine enter Tryd.func18 rfl Tryd.ntmps18 rfl ?_
  repeat' (first | (apply WL_ev rfl rfl; exact Ev_assertYes Tryd.underlying63 rfl) | (refine WL_alloc hT rfl rfl rfl hSt ?_; clear hSt; intro w nb hnb hSt; replace hSt := hSt.front; dsimp only [zcells] at hSt) | (refine W_tail 4 hT (by decide +kernel) hSt ?_; clear hSt; intro w hSt; simp only [List.take_succ_cons, List.take_zero]; (repeat' (first | (apply SL_ev rfl rfl; (first | (exact Ev_assertYes Tryd.underlying63 rfl) | exact Ev_auto)) | refine SL_pass rfl rfl ?_ | (refine SL_guardP rfl rfl (fun hc => ?_) (fun hc => ?_) <;> try exact absA) | (refine SL_guard rfl rfl (fun hc => ?_) (fun hc => ?_) <;> (try exact absA) <;> (fail_if_success (change true = true at hc)) <;> (fail_if_success (change false = false at hc))))); all_goals (refine SL_nil ?_; simp only [List.drop_succ_cons, List.drop_zero])) | refine stepA ?_ | (refine stepS ?_; clear hSt; intro w hSt; dsimp only [spl, List.set] at hSt) | (refine stepB ?_; clear hSt; intro w nb hnb hSt; dsimp only [zcells, List.nil_append, List.cons_append] at hSt) | (refine W_quiet hT (by decide +kernel) hSt ?_; clear hSt; (repeat' (first | (apply QL_ev rfl rfl; (intro w hSt; (first | (exact Ev_assertYes Tryd.underlying63 rfl) | exact Ev_auto))) | refine QL_pass rfl rfl ?_ | (refine QL_guardP rfl rfl (fun hc => ?_) (fun hc => ?_) <;> try exact absA) | (refine QL_guard rfl rfl (fun hc => ?_) (fun hc => ?_) <;> (try exact absA) <;> (fail_if_success (change true = true at hc)) <;> (fail_if_success (change false = false at hc))))); all_goals (refine QL_nil (fun w hSt => ?_))) | (refine stepG ?_ ?_ <;> intro hc <;> (try exact absA) <;> (fail_if_success (change true = true at hc)) <;> (fail_if_success (change false = false at hc))) | fail)
  all_goals try (exfalso; first | omega | (simp at hc; done) | (exact hc rfl) | contradiction)
  all_goals exact ret2 rfl rfl rfl ⟨rfl, hSt.nil⟩
theorem parseD_ret {w0 : World} {b2 b3 b4 : Nat} : CDr Tryd.prog 23 [Ptr b2, Ptr b3, Ptr b4] w0 (fun w' => St w0 NoneS [] w') := by
  have hSt := St.refl w0 NoneS
  refine ⟨callsD_of_wpS Tryd.func23 rfl fun c₀ cs hu => ?_⟩
  refine wpS_recover (fits0 (vs := [Ptr b2, Ptr b3, Ptr b4]) Tryd.ntmps23 rfl) rfl rfl (.inr ⟨by simp only [recoverD, hu], rfl, rfl⟩) fun a' hF => ?_
  refine wpS_rest hF ?_
  repeat' (first | (apply WL_ev rfl rfl; exact Ev_iface_nil_neq Tryd.underlying20 rfl rfl) | (apply WL_ev rfl rfl; exact Ev_nilI_nil_neq Tryd.underlying20 rfl rfl) | refine stepA ?_ | (refine stepS ?_; clear hSt; intro w hSt; dsimp only [spl, List.set] at hSt) | (refine stepB ?_; clear hSt; intro w nb hnb hSt; dsimp only [zcells, List.nil_append, List.cons_append] at hSt) | (refine W_quiet hT (by decide +kernel) hSt ?_; clear hSt; (repeat' (first | (apply QL_ev rfl rfl; (intro w hSt; (first | (exact Ev_iface_nil_neq Tryd.underlying20 rfl rfl) | (exact Ev_nilI_nil_neq Tryd.underlying20 rfl rfl) | exact Ev_auto))) | refine QL_pass rfl rfl ?_ | (refine QL_guardP rfl rfl (fun hc => ?_) (fun hc => ?_) <;> try exact absA) | (refine QL_guard rfl rfl (fun hc => ?_) (fun hc => ?_) <;> (try exact absA) <;> (fail_if_success (change true = true at hc)) <;> (fail_if_success (change false = false at hc))))); all_goals (refine QL_nil (fun w hSt => ?_))) | (refine stepG ?_ ?_ <;> intro hc <;> (try exact absA) <;> (fail_if_success (change true = true at hc)) <;> (fail_if_success (change false = false at hc))) | fail)
  all_goals try (exfalso; first | omega | (simp at hc; done) | (exact hc rfl) | contradiction)
  all_goals exact At_bodyS0 (u' := .returning) rfl hu ⟨⟨_, rfl⟩, rfl, hSt⟩
theorem parseD_pan {w0 : World} {b2 b3 b4 : Nat} {x2 : Value} {x3 x4 : Value} {e a : Int} (h2 : w0.heap[b2]? = some (blk [x2] 33)) (h3 : w0.heap[b3]? = some (blk [x3] 29)) (h4 : w0.heap[b4]? = some (blk [x4] 3)) (h23 : b2 ≠ b3) (h24 : b2 ≠ b4) (h34 : b3 ≠ b4) :
    CDp Tryd.prog 23 [Ptr b2, Ptr b3, Ptr b4] (failV e a) w0 (fun w' => St w0 (fun b => b = b2 ∨ b = b3 ∨ b = b4) [(b2, blk [.slice none 0 0] 33), (b3, blk [I e] 29), (b4, blk [I a] 3)] w') := by
  have hSt := (((St.refl w0 (fun b => b = b2 ∨ b = b3 ∨ b = b4)).know h2 (Or.inl (Or.inl rfl)) (by simp)).know h3 (Or.inl (Or.inr (Or.inl rfl))) (by intro i u hi; match i with | 0 => (injection hi with hi; injection hi with hi _; exact h23 hi) | i + 1 => simp at hi)).know h4 (Or.inl (Or.inr (Or.inr rfl))) (by intro i u hi; match i with | 0 => (injection hi with hi; injection hi with hi _; exact h24 hi) | 1 => (injection hi with hi; injection hi with hi _; exact h34 hi) | i + 2 => simp at hi)
  dsimp only [List.nil_append, List.cons_append] at hSt
  refine ⟨callsD_of_wpS Tryd.func23 rfl fun c₀ cs hu => ?_⟩
  refine wpS_recover (v := failV e a) (cs' := { c₀ with mode := .panicking [{ v := failV e a, recovered := true }] } :: cs) (fits0 (vs := [Ptr b2, Ptr b3, Ptr b4]) Tryd.ntmps23 rfl) rfl rfl (.inl (by simp only [recoverD, hu])) fun a' hF => ?_
  refine wpS_rest hF ?_
  repeat' (first | (apply WL_ev rfl rfl; exact Ev_iface_nil_neq Tryd.underlying20 rfl rfl) | (apply WL_ev rfl rfl; exact Ev_nilI_nil_neq Tryd.underlying20 rfl rfl) | (refine WL_isCall (f := 18) ?_; refine WL_call (ok_call hT rfl) rfl rfl rfl (reported_any) ?_; rintro v w2 ⟨rfl, hc2⟩; replace hSt := hSt.call0 hc2; clear hc2) | refine stepA ?_ | (refine stepS ?_; clear hSt; intro w hSt; dsimp only [spl, List.set] at hSt) | (refine stepB ?_; clear hSt; intro w nb hnb hSt; dsimp only [zcells, List.nil_append, List.cons_append] at hSt) | (refine W_quiet hT (by decide +kernel) hSt ?_; clear hSt; (repeat' (first | (apply QL_ev rfl rfl; (intro w hSt; (first | (exact Ev_iface_nil_neq Tryd.underlying20 rfl rfl) | (exact Ev_nilI_nil_neq Tryd.underlying20 rfl rfl) | exact Ev_auto))) | refine QL_pass rfl rfl ?_ | (refine QL_guardP rfl rfl (fun hc => ?_) (fun hc => ?_) <;> try exact absA) | (refine QL_guard rfl rfl (fun hc => ?_) (fun hc => ?_) <;> (try exact absA) <;> (fail_if_success (change true = true at hc)) <;> (fail_if_success (change false = false at hc))))); all_goals (refine QL_nil (fun w hSt => ?_))) | (refine stepG ?_ ?_ <;> intro hc <;> (try exact absA) <;> (fail_if_success (change true = true at hc)) <;> (fail_if_success (change false = false at hc))) | fail)
  all_goals try (exfalso; first | omega | (simp at hc; done) | (exact hc rfl) | contradiction)
  all_goals exact At_bodyS (u' := .panicking [{ v := failV e a, recovered := true }]) rfl ⟨⟨_, rfl⟩, rfl, hSt⟩
theorem condD_ret {w0 : World} {b2 b3 b4 : Nat} : CDr Tryd.prog 17 [Ptr b2, Ptr b3, Ptr b4] w0 (fun w' => St w0 NoneS [] w') := by
  have hSt := St.refl w0 NoneS
  refine ⟨callsD_of_wpS Tryd.func17 rfl fun c₀ cs hu => ?_⟩
  refine wpS_recover (fits0 (vs := [Ptr b2, Ptr b3, Ptr b4]) Tryd.ntmps17 rfl) rfl rfl (.inr ⟨by simp only [recoverD, hu], rfl, rfl⟩) fun a' hF => ?_
  refine wpS_rest hF ?_
  repeat' (first | (apply WL_ev rfl rfl; exact Ev_iface_nil_neq Tryd.underlying20 rfl rfl) | (apply WL_ev rfl rfl; exact Ev_nilI_nil_neq Tryd.underlying20 rfl rfl) | refine stepA ?_ | (refine stepS ?_; clear hSt; intro w hSt; dsimp only [spl, List.set] at hSt) | (refine stepB ?_; clear hSt; intro w nb hnb hSt; dsimp only [zcells, List.nil_append, List.cons_append] at hSt) | (refine W_quiet hT (by decide +kernel) hSt ?_; clear hSt; (repeat' (first | (apply QL_ev rfl rfl; (intro w hSt; (first | (exact Ev_iface_nil_neq Tryd.underlying20 rfl rfl) | (exact Ev_nilI_nil_neq Tryd.underlying20 rfl rfl) | exact Ev_auto))) | refine QL_pass rfl rfl ?_ | (refine QL_guardP rfl rfl (fun hc => ?_) (fun hc => ?_) <;> try exact absA) | (refine QL_guard rfl rfl (fun hc => ?_) (fun hc => ?_) <;> (try exact absA) <;> (fail_if_success (change true = true at hc)) <;> (fail_if_success (change false = false at hc))))); all_goals (refine QL_nil (fun w hSt => ?_))) | (refine stepG ?_ ?_ <;> intro hc <;> (try exact absA) <;> (fail_if_success (change true = true at hc)) <;> (fail_if_success (change false = false at hc))) | fail)
  all_goals try (exfalso; first | omega | (simp at hc; done) | (exact hc rfl) | contradiction)
  all_goals exact At_bodyS0 (u' := .returning) rfl hu ⟨⟨_, rfl⟩, rfl, hSt⟩
theorem condD_pan {w0 : World} {b2 b3 b4 : Nat} {x2 : Value} {x3 x4 x5 x6 x7 : Value} {e a : Int} (h2 : w0.heap[b2]? = some (blk [x2, x5, x6, x7] 24)) (h3 : w0.heap[b3]? = some (blk [x3] 29)) (h4 : w0.heap[b4]? = some (blk [x4] 3)) (h23 : b2 ≠ b3) (h24 : b2 ≠ b4) (h34 : b3 ≠ b4) :
    CDp Tryd.prog 17 [Ptr b2, Ptr b3, Ptr b4] (failV e a) w0 (fun w' => St w0 (fun b => b = b2 ∨ b = b3 ∨ b = b4) [(b2, blk [I 0, S [], S [], .slice none 0 0] 24), (b3, blk [I e] 29), (b4, blk [I a] 3)] w') := by
  have hSt := (((St.refl w0 (fun b => b = b2 ∨ b = b3 ∨ b = b4)).know h2 (Or.inl (Or.inl rfl)) (by simp)).know h3 (Or.inl (Or.inr (Or.inl rfl))) (by intro i u hi; match i with | 0 => (injection hi with hi; injection hi with hi _; exact h23 hi) | i + 1 => simp at hi)).know h4 (Or.inl (Or.inr (Or.inr rfl))) (by intro i u hi; match i with | 0 => (injection hi with hi; injection hi with hi _; exact h24 hi) | 1 => (injection hi with hi; injection hi with hi _; exact h34 hi) | i + 2 => simp at hi)
  dsimp only [List.nil_append, List.cons_append] at hSt
  refine ⟨callsD_of_wpS Tryd.func17 rfl fun c₀ cs hu => ?_⟩
  refine wpS_recover (v := failV e a) (cs' := { c₀ with mode := .panicking [{ v := failV e a, recovered := true }] } :: cs) (fits0 (vs := [Ptr b2, Ptr b3, Ptr b4]) Tryd.ntmps17 rfl) rfl rfl (.inl (by simp only [recoverD, hu])) fun a' hF => ?_
  refine wpS_rest hF ?_
  repeat' (first | (apply WL_ev rfl rfl; exact Ev_iface_nil_neq Tryd.underlying20 rfl rfl) | (apply WL_ev rfl rfl; exact Ev_nilI_nil_neq Tryd.underlying20 rfl rfl) | (refine WL_isCall (f := 18) ?_; refine WL_call (ok_call hT rfl) rfl rfl rfl (reported_any) ?_; rintro v w2 ⟨rfl, hc2⟩; replace hSt := hSt.call0 hc2; clear hc2) | refine stepA ?_ | (refine stepS ?_; clear hSt; intro w hSt; dsimp only [spl, List.set] at hSt) | (refine stepB ?_; clear hSt; intro w nb hnb hSt; dsimp only [zcells, List.nil_append, List.cons_append] at hSt) | (refine W_quiet hT (by decide +kernel) hSt ?_; clear hSt; (repeat' (first | (apply QL_ev rfl rfl; (intro w hSt; (first | (exact Ev_iface_nil_neq Tryd.underlying20 rfl rfl) | (exact Ev_nilI_nil_neq Tryd.underlying20 rfl rfl) | exact Ev_auto))) | refine QL_pass rfl rfl ?_ | (refine QL_guardP rfl rfl (fun hc => ?_) (fun hc => ?_) <;> try exact absA) | (refine QL_guard rfl rfl (fun hc => ?_) (fun hc => ?_) <;> (try exact absA) <;> (fail_if_success (change true = true at hc)) <;> (fail_if_success (change false = false at hc))))); all_goals (refine QL_nil (fun w hSt => ?_))) | (refine stepG ?_ ?_ <;> intro hc <;> (try exact absA) <;> (fail_if_success (change true = true at hc)) <;> (fail_if_success (change false = false at hc))) | fail)
  all_goals try (exfalso; first | omega | (simp at hc; done) | (exact hc rfl) | contradiction)
  all_goals exact At_bodyS (u' := .panicking [{ v := failV e a, recovered := true }]) rfl ⟨⟨_, rfl⟩, rfl, hSt⟩
def ScanR (s : Sc) (w0 : World) (v : Value) (w' : World) : Prop := match s with
  | .ok ts => ∃ tv H, v = .tuple ⟨[tv, I 0, I 0]⟩ ∧ OwnSl tv 49 4 (ts.flatMap tkC) ts.length H ∧ St w0 NoneS H w'
  | .bad e a => e ≠ 0 ∧ v = .tuple ⟨[.slice none 0 0, I e, I a]⟩ ∧ St w0 NoneS [] w'
def ScanC (x : Tx) (s : Sc) : Prop := ∀ w : World, Cl Tryd.prog 57 [S x] w (ScanR s w)
section
variable {w0 : World} {x : Tx}
theorem newsc_ok {ts : List Tk} (hs : ScanC x (.ok ts)) : Cl Tryd.prog 37 [S x] w0 (fun v w' => ∃ sc tv H, v = .tuple ⟨[Ptr sc, I 0, I 0]⟩ ∧ OwnSl tv 49 4 (ts.flatMap tkC) ts.length H ∧ St w0 NoneS ((sc, scO tv 0) :: H) w') := by
  have hSt := St.refl w0 NoneS
  refine enter Tryd.func37 rfl Tryd.ntmps37 rfl ?_
  repeat' (first | (refine WL_isCall (f := 57) ?_; refine WL_call (ok_call hT rfl) rfl rfl rfl (hs _) ?_; rintro v w2 ⟨tv, H, rfl, ho, hc2⟩; replace hSt := hSt.newN hc2; clear hc2; obtain ⟨ta, tc, rfl, _⟩ := ho.cap; dsimp only [List.nil_append] at hSt) | (refine WL_box rfl rfl rfl hSt ?_; clear hSt; intro w nb hnb hSt; replace hSt := hSt.front; dsimp only [zcells, List.nil_append, List.cons_append] at hSt) | refine stepA ?_ | (refine stepS ?_; clear hSt; intro w hSt; dsimp only [spl, List.set] at hSt) | (refine stepB ?_; clear hSt; intro w nb hnb hSt; dsimp only [zcells, List.nil_append, List.cons_append] at hSt) | (refine W_quiet hT (by decide +kernel) hSt ?_; clear hSt; (repeat' (first | (apply QL_ev rfl rfl; (intro w hSt; (first | exact Ev_auto))) | refine QL_pass rfl rfl ?_ | (refine QL_guardP rfl rfl (fun hc => ?_) (fun hc => ?_) <;> try exact absA) | (refine QL_guard rfl rfl (fun hc => ?_) (fun hc => ?_) <;> (try exact absA) <;> (fail_if_success (change true = true at hc)) <;> (fail_if_success (change false = false at hc))))); all_goals (refine QL_nil (fun w hSt => ?_))) | (refine stepG ?_ ?_ <;> intro hc <;> (try exact absA) <;> (fail_if_success (change true = true at hc)) <;> (fail_if_success (change false = false at hc))) | fail)
  all_goals try (exfalso; first | omega | (simp at hc; done) | (exact hc rfl) | contradiction)
  all_goals exact end_of (res3 rfl rfl rfl rfl) ⟨nb, _, H, rfl, ho, hSt⟩
theorem newsc_bad {e a : Int} (hs : ScanC x (.bad e a)) : Cl Tryd.prog 37 [S x] w0 (fun v w' => e ≠ 0 ∧ v = .tuple ⟨[.pointer none, I e, I a]⟩ ∧ St w0 NoneS [] w') := by
  have hSt := St.refl w0 NoneS
  refine enter Tryd.func37 rfl Tryd.ntmps37 rfl ?_
  repeat' (first | (refine WL_isCall (f := 57) ?_; refine WL_call (ok_call hT rfl) rfl rfl rfl (hs _) ?_; rintro v w2 ⟨he, rfl, hc2⟩; replace hSt := hSt.call0 hc2; clear hc2) | refine stepA ?_ | (refine stepS ?_; clear hSt; intro w hSt; dsimp only [spl, List.set] at hSt) | (refine stepB ?_; clear hSt; intro w nb hnb hSt; dsimp only [zcells, List.nil_append, List.cons_append] at hSt) | (refine W_quiet hT (by decide +kernel) hSt ?_; clear hSt; (repeat' (first | (apply QL_ev rfl rfl; (intro w hSt; (first | exact Ev_auto))) | refine QL_pass rfl rfl ?_ | (refine QL_guardP rfl rfl (fun hc => ?_) (fun hc => ?_) <;> try exact absA) | (refine QL_guard rfl rfl (fun hc => ?_) (fun hc => ?_) <;> (try exact absA) <;> (fail_if_success (change true = true at hc)) <;> (fail_if_success (change false = false at hc))))); all_goals (refine QL_nil (fun w hSt => ?_))) | (refine stepG ?_ ?_ <;> intro hc <;> (try exact absA) <;> (fail_if_success (change true = true at hc)) <;> (fail_if_success (change false = false at hc))) | fail)
  all_goals try (exfalso; first | omega | (simp at hc; done) | (exact hc rfl) | contradiction)
  all_goals exact end_of (res3 rfl rfl rfl rfl) ⟨he, rfl, hSt⟩
theorem start_ok {ts : List Tk} (hs : ScanC x (.ok ts)) : Cp Tryd.prog 19 [S x] w0 (fun v w' => ∃ pb sc tv H, v = Ptr pb ∧ OwnSl tv 49 4 (ts.flatMap tkC) ts.length H ∧ St w0 NoneS ((pb, blk [Ptr sc] 52) :: (sc, scO tv 0) :: H) w') (fun _ _ => False) := by
  have hSt := St.refl w0 NoneS
  refine enterP Tryd.func19 rfl Tryd.ntmps19 rfl ?_
  repeat' (first | (refine WL_isCall (f := 37) ?_; refine WL_call (ok_call hT rfl) rfl rfl rfl (newsc_ok hs) ?_; rintro v w2 ⟨sc, tv, H, rfl, ho, hc2⟩; replace hSt := hSt.newN hc2; clear hc2; dsimp only [List.nil_append] at hSt) | (refine WL_box rfl rfl rfl hSt ?_; clear hSt; intro w nb hnb hSt; replace hSt := hSt.front; dsimp only [zcells, List.nil_append, List.cons_append] at hSt) | refine stepA ?_ | (refine stepS ?_; clear hSt; intro w hSt; dsimp only [spl, List.set] at hSt) | (refine stepB ?_; clear hSt; intro w nb hnb hSt; dsimp only [zcells, List.nil_append, List.cons_append] at hSt) | (refine W_quiet hT (by decide +kernel) hSt ?_; clear hSt; (repeat' (first | (apply QL_ev rfl rfl; (intro w hSt; (first | exact Ev_auto))) | refine QL_pass rfl rfl ?_ | (refine QL_guardP rfl rfl (fun hc => ?_) (fun hc => ?_) <;> try exact absA) | (refine QL_guard rfl rfl (fun hc => ?_) (fun hc => ?_) <;> (try exact absA) <;> (fail_if_success (change true = true at hc)) <;> (fail_if_success (change false = false at hc))))); all_goals (refine QL_nil (fun w hSt => ?_))) | (refine stepG ?_ ?_ <;> intro hc <;> (try exact absA) <;> (fail_if_success (change true = true at hc)) <;> (fail_if_success (change false = false at hc))) | fail)
  all_goals try (exfalso; first | omega | (simp at hc; done) | (exact hc rfl) | contradiction)
  all_goals exact retQ (ret1 rfl rfl ⟨nb, sc, tv, H, rfl, ho, hSt⟩)
theorem start_bad {e a : Int} (hs : ScanC x (.bad e a)) : Cp Tryd.prog 19 [S x] w0 (fun _ _ => False) (fun v w' => v = failV e a ∧ St w0 NoneS [] w') := by
  have hSt := St.refl w0 NoneS
  refine enterP Tryd.func19 rfl Tryd.ntmps19 rfl ?_
  repeat' (first | (refine WL_isCall (f := 37) ?_; refine WL_call (ok_call hT rfl) rfl rfl rfl (newsc_bad hs) ?_; rintro v w2 ⟨he, rfl, hc2⟩; replace hSt := hSt.call0 hc2; clear hc2) | (apply WL_ev rfl rfl; exact Ev_makeIface Tryd.underlying63 rfl) | (refine WL_panic rfl rfl ?_) | refine stepA ?_ | (refine stepS ?_; clear hSt; intro w hSt; dsimp only [spl, List.set] at hSt) | (refine stepB ?_; clear hSt; intro w nb hnb hSt; dsimp only [zcells, List.nil_append, List.cons_append] at hSt) | (refine W_quiet hT (by decide +kernel) hSt ?_; clear hSt; (repeat' (first | (apply QL_ev rfl rfl; (intro w hSt; (first | (exact Ev_makeIface Tryd.underlying63 rfl) | exact Ev_auto))) | refine QL_pass rfl rfl ?_ | (refine QL_guardP rfl rfl (fun hc => ?_) (fun hc => ?_) <;> try exact absA) | (refine QL_guard rfl rfl (fun hc => ?_) (fun hc => ?_) <;> (try exact absA) <;> (fail_if_success (change true = true at hc)) <;> (fail_if_success (change false = false at hc))))); all_goals (refine QL_nil (fun w hSt => ?_))) | (refine stepG ?_ ?_ <;> intro hc <;> (try exact absA) <;> (fail_if_success (change true = true at hc)) <;> (fail_if_success (change false = false at hc))) | fail)
  all_goals try (exfalso; first | omega | (simp at hc; done) | (exact hc rfl) | contradiction)
  all_goals
    (repeat (first | refine At_then_panic ?_ | refine At_in_panic ?_ | fail))
    exact panP ⟨rfl, hSt⟩
end
/-- a parser that a start has left -/
theorem ps_start {w0 w : World} {pb sc : Nat} {tv : Value} {ts : List Tk} {Ha H : List (Nat × Obj)} {Sx : Nat → Prop} (h : St w0 Sx (Ha ++ ((pb, blk [Ptr sc] 52) :: (sc, scO tv 0) :: H)) w) (ho : OwnSl tv 49 4 (ts.flatMap tkC) ts.length H) (hk : TkOk ts) (hl : ts.length ≤ 100000) (htl : ∀ p, (tkAt ts p).tx.length ≤ 9223372036854775807) : PS w pb sc ts tv 0 := by
  have hh := h.right.has
  have hn := hh.nodup
  simp only [List.map_cons, List.nodup_cons, List.mem_cons, not_or] at hn
  refine ⟨hh.own 0 _ _ rfl, hh.own 1 _ _ rfl, ho.slAt (f := tkC) (fun _ => rfl) ⟨fun i b o hi => ?_, hh.sublist ((List.sublist_cons_self _ _).trans (List.sublist_cons_self _ _)) |>.apart⟩, hn.1.1, hk, hl, htl, hk.pos⟩
  rw [wo_ne (fun e => hn.2.1 (List.mem_map.2 ⟨(b, o), List.mem_of_getElem? hi, e⟩))]
  exact hh.own (i + 2) b o (by simpa using hi)
end Go.Proofs.YtknfankadlokhaaDoor

namespace Go.Proofs.YtknfankadlokhaaDoor
open Go.RowKit
set_option maxRecDepth 4000
set_option linter.unusedVariables false
set_option linter.unusedSimpArgs false
set_option maxHeartbeats 16000000

theorem tlevels_any : ∀ (c : Cn) {w0 : World} {cs : List Value} (h : CondAt w0 c cs) (h0 : levC c ≤ 9223372036854775807), Cl Tryd.prog 22 [.agg ⟨cs⟩] w0 (fun v w' => v = I (levC c : Int) ∧ St w0 NoneS [] w') := by
  intro c
  induction c using Cn.ind with
  | h op n t ar ih =>
  intro w0 cs h h0
  obtain ⟨v0, xs, rfl, hs, hcs, htl, hal⟩ := h.cells
  dsimp only [Cn.op, Cn.name, Cn.text, Cn.args] at *
  have hSt := St.refl w0 NoneS
  obtain ⟨a1, p1, rfl, hc1⟩ := hs.some_ hcs.len
  rw [levC] at h0
  refine enter Tryd.func22 rfl Tryd.ntmps22 rfl ?_
  repeat' (first | refine stepA ?_ | (refine stepS ?_; clear hSt; intro w hSt; dsimp only [spl, List.set] at hSt) | (refine stepB ?_; clear hSt; intro w nb hnb hSt; dsimp only [zcells, List.nil_append, List.cons_append] at hSt) | (refine W_quiet hT (by decide +kernel) hSt ?_; clear hSt; (repeat' (first | (apply QL_ev rfl rfl; (intro w hSt; (first | exact Ev_auto))) | refine QL_pass rfl rfl ?_ | (refine QL_guardP rfl rfl (fun hc => ?_) (fun hc => ?_) <;> try exact absA) | (refine QL_guard rfl rfl (fun hc => ?_) (fun hc => ?_) <;> (try exact absA) <;> (fail_if_success (change true = true at hc)) <;> (fail_if_success (change false = false at hc))))); all_goals (refine QL_nil (fun w hSt => ?_))) | (refine stepG ?_ ?_ <;> intro hc <;> (try exact absA) <;> (fail_if_success (change true = true at hc)) <;> (fail_if_success (change false = false at hc))) | fail)
  refine W_loop2 (fun k (i : Nat) (m : Int) w => k = ar.length - i ∧ i ≤ ar.length ∧ m = (levCs (ar.take i) : Int) ∧ St w0 NoneS [_] w) (fun i m => [(9, I (i : Int)), (3, I m)]) ar.length 0 0 rfl (by (repeat (first | exact Str.nil _ | apply Str.drop rfl | apply Str.keepU rfl | apply Str.keep rfl))) ⟨rfl, by omega, by simp [levCs], hSt⟩ (by (repeat (first | exact Sub.nil _ | refine Sub.cons rfl ?_))) ?_
  clear hSt
  rintro k i m w ⟨hk, hi, rfl, hSt⟩ K hK
  by_cases hil : i < ar.length
  · obtain ⟨a, ha⟩ : ∃ a, ar[i]? = some a := ⟨_, List.getElem?_eq_getElem hil⟩
    have ht := levCs_take ha
    have hle := levCs_le ar a (List.mem_of_getElem? ha)
    obtain ⟨x, hx, hca⟩ := hcs.at ha
    obtain ⟨b1, o1, m1, E1, z1, rfl, hb1, q1, hl1⟩ := hc1 i x hx
    have hcx := hca
    obtain ⟨va, xa, rfl, hsa, _⟩ := hca.cells
    obtain ⟨a2, p2, rfl, _⟩ := hsa.some_ rfl
    rw [← Int.toNat_natCast i] at q1
    repeat' (first | (apply WL_ev rfl rfl; exact Ev_loadN hT rfl rfl (hSt.base hb1 (fun e => e)) q1 rfl) | (refine WL_isCall (f := 22) ?_; refine WL_call (ok_call hT rfl) rfl rfl rfl (ih a (List.mem_of_getElem? ha) (hcx.kept hSt.keeps) (by omega)) ?_; rintro v w2 ⟨rfl, hc2⟩; replace hSt := hSt.call0 hc2; clear hc2) | refine stepA ?_ | (refine stepS ?_; clear hSt; intro w hSt; dsimp only [spl, List.set] at hSt) | (refine stepB ?_; clear hSt; intro w nb hnb hSt; dsimp only [zcells, List.nil_append, List.cons_append] at hSt) | (refine W_quiet hT (by decide +kernel) hSt ?_; clear hSt; (repeat' (first | (apply QL_ev rfl rfl; (intro w hSt; (first | (exact Ev_loadN hT rfl rfl (hSt.base hb1 (fun e => e)) q1 rfl) | exact Ev_auto))) | refine QL_pass rfl rfl ?_ | (refine QL_guardP rfl rfl (fun hc => ?_) (fun hc => ?_) <;> try exact absA) | (refine QL_guard rfl rfl (fun hc => ?_) (fun hc => ?_) <;> (try exact absA) <;> (fail_if_success (change true = true at hc)) <;> (fail_if_success (change false = false at hc))))); all_goals (refine QL_nil (fun w hSt => ?_))) | (refine stepG ?_ ?_ <;> intro hc <;> (try exact absA) <;> (fail_if_success (change true = true at hc)) <;> (fail_if_success (change false = false at hc))) | fail)
    exact At_loop2 hK (k' := ar.length - (i + 1)) (i + 1) (max (levCs (ar.take i) : Int) (levC a : Int)) (by omega) ⟨rfl, by omega, by rw [ht]; omega, hSt.left (H0 := [_])⟩ (by (repeat (first | exact Sub.nil _ | refine Sub.cons rfl ?_)))
  · have hte : ar.take i = ar := List.take_of_length_le (by omega)
    rw [hte]
    repeat' (first | refine stepA ?_ | (refine stepS ?_; clear hSt; intro w hSt; dsimp only [spl, List.set] at hSt) | (refine stepB ?_; clear hSt; intro w nb hnb hSt; dsimp only [zcells, List.nil_append, List.cons_append] at hSt) | (refine W_quiet hT (by decide +kernel) hSt ?_; clear hSt; (repeat' (first | (apply QL_ev rfl rfl; (intro w hSt; (first | exact Ev_auto))) | refine QL_pass rfl rfl ?_ | (refine QL_guardP rfl rfl (fun hc => ?_) (fun hc => ?_) <;> try exact absA) | (refine QL_guard rfl rfl (fun hc => ?_) (fun hc => ?_) <;> (try exact absA) <;> (fail_if_success (change true = true at hc)) <;> (fail_if_success (change false = false at hc))))); all_goals (refine QL_nil (fun w hSt => ?_))) | (refine stepG ?_ ?_ <;> intro hc <;> (try exact absA) <;> (fail_if_success (change true = true at hc)) <;> (fail_if_success (change false = false at hc))) | fail)
    exact ret1 rfl rfl ⟨by rw [levC]; congr 1; omega, hSt.nil⟩
/-- a parser that lies in some blocks -/
theorem ps_at {w : World} {pb sc q : Nat} {tv : Value} {ts : List Tk} {H : List (Nat × Obj)} (hh : Has w ((pb, blk [Ptr sc] 52) :: (sc, scO tv q) :: H)) (ho : OwnSl tv 49 4 (ts.flatMap tkC) ts.length H) (hk : TkOk ts) (hl : ts.length ≤ 100000) (htl : ∀ p, (tkAt ts p).tx.length ≤ 9223372036854775807) (hq : q < ts.length) : PS w pb sc ts tv q := by
  have hn := hh.nodup
  simp only [List.map_cons, List.nodup_cons, List.mem_cons, not_or] at hn
  refine ⟨hh.own 0 _ _ rfl, hh.own 1 _ _ rfl, ho.slAt (f := tkC) (fun _ => rfl) ⟨fun i b o hi => ?_, hh.sublist ((List.sublist_cons_self _ _).trans (List.sublist_cons_self _ _)) |>.apart⟩, hn.1.1, hk, hl, htl, hq⟩
  rw [wo_ne (fun e => hn.2.1 (List.mem_map.2 ⟨(b, o), List.mem_of_getElem? hi, e⟩))]
  exact hh.own (i + 2) b o (by simpa using hi)
/-- what a text means: a value, or an error and its place -/
inductive Rt (α : Type) where
  | ok (a : α)
  | bad (e a : Int)
def ScOk (s : Sc) : Prop := match s with
  | .ok ts => TkOk ts ∧ ts.length ≤ 100000 ∧ ∀ p, (tkAt ts p).tx.length ≤ 9223372036854775807
  | .bad _ _ => True
def argsP (f : Nat) (s : Sc) : Option (Rt (List Sg)) := match s with
  | .bad e a => some (.bad e a)
  | .ok ts => match setsR ts f 0 with
    | none => none
    | some (.bad q) => some (.bad 2 (tkAt ts q).at_)
    | some (.ok l q) => if (tkAt ts q).kd = 0 then some (.ok l) else some (.bad 2 (tkAt ts q).at_)
def condP (f : Nat) (s : Sc) : Option (Rt Cn) := match s with
  | .bad e a => some (.bad e a)
  | .ok ts => match conF ts f 0 with
    | none => none
    | some (.bad q) => some (.bad 2 (tkAt ts q).at_)
    | some (.ok c q) => if (tkAt ts q).kd = 0 then (if 6 < levC c then some (.bad 9 0) else some (.ok c)) else some (.bad 2 (tkAt ts q).at_)
section
variable {w0 : World} {x : Tx}
def ArgsR (r : Rt (List Sg)) (w0 : World) (v : Value) (w' : World) : Prop := match r with
  | .ok l => ∃ sv H, v = .tuple ⟨[sv, I 0, I 0]⟩ ∧ OwnSl sv 77 2 (l.flatMap sgC) l.length H ∧ (∀ s ∈ l, s.2.length ≤ 9223372036854775807) ∧ St w0 NoneS H w'
  | .bad e a => v = .tuple ⟨[.slice none 0 0, I e, I a]⟩ ∧ St w0 NoneS [] w'
end
section
variable {ts : List Tk}
theorem opr_lev (hk : TkOk ts) : ∀ f : Nat, (∀ p c q, p < ts.length → oprF ts f p = some (.ok c q) → levC c + p ≤ q ∧ q < ts.length) ∧ (∀ p c q, p < ts.length → cnjF ts f p = some (.ok c q) → levC c + p ≤ q ∧ q < ts.length) ∧
    (∀ a p c q p0, p < ts.length → levC a + p0 ≤ p → cnjL ts f a p = some (.ok c q) → levC c + p0 ≤ q ∧ q < ts.length) ∧ (∀ p c q, p < ts.length → conF ts f p = some (.ok c q) → levC c + p ≤ q ∧ q < ts.length) ∧ (∀ a p c q p0, p < ts.length → levC a + p0 ≤ p → conL ts f a p = some (.ok c q) → levC c + p0 ≤ q ∧ q < ts.length)
  | 0 => ⟨fun p c q _ h => (by rw [oprF] at h; cases h), fun p c q _ h => (by rw [cnjF] at h; cases h), fun a p c q p0 _ _ h => (by rw [cnjL] at h; cases h), fun p c q _ h => (by rw [conF] at h; cases h), fun a p c q p0 _ _ h => (by rw [conL] at h; cases h)⟩
  | f + 1 => by
    obtain ⟨i1, i2, i3, i4, i5⟩ := opr_lev hk f
    refine ⟨fun p c q hp h => ?_, fun p c q hp h => ?_, fun a p c q p0 hp ha h => ?_, fun p c q hp h => ?_, fun a p c q p0 hp ha h => ?_⟩
    · rw [oprF] at h
      split at h
      · rename_i hm
        split at h
        · cases h
        · cases h
        · rename_i d r hr
          injection h with h; injection h with h1 h2; subst h1 h2
          have := i1 _ _ _ (hk.mk1 hp hm) hr
          simp only [levC, levCs]
          omega
      split at h
      · rename_i hm
        split at h
        · cases h
        · cases h
        · rename_i d r hr
          have h1 := i4 _ _ _ (hk.mk1 hp hm) hr
          split at h
          · rename_i hm2
            injection h with h; injection h with h1' h2; subst h1' h2
            have := hk.mk1 h1.2 hm2
            omega
          · cases h
      split at h
      · cases h
      rename_i hk1
      have hp1 : p + 1 < ts.length := hk.next hp (by omega)
      split at h
      · rename_i hm
        have hp2 := hk.mk1 hp1 hm
        split at h
        · rename_i h3
          injection h with h; injection h with h1' h2; subst h1' h2
          have := hk.next (p := p + 2) hp2 (by omega)
          simp only [levC, levCs]
          omega
        · cases h
      split at h
      · cases h
      · injection h with h; injection h with h1' h2; subst h1' h2
        simp only [levC, levCs]
        omega
    · rw [cnjF] at h
      split at h
      · cases h
      · cases h
      · rename_i d r hr
        have h1 := i1 _ _ _ hp hr
        exact i3 _ _ _ _ _ h1.2 h1.1 h
    · rw [cnjL] at h
      split at h
      · rename_i hm
        split at h
        · cases h
        · cases h
        · rename_i d r hr
          have h1 := i1 _ _ _ (hk.mk1 hp hm) hr
          exact i3 _ _ _ _ _ h1.2 (by simp only [levC, levCs]; omega) h
      · injection h with h; injection h with h1' h2; subst h1' h2; exact ⟨ha, hp⟩
    · rw [conF] at h
      split at h
      · cases h
      · cases h
      · rename_i d r hr
        have h1 := i2 _ _ _ hp hr
        exact i5 _ _ _ _ _ h1.2 h1.1 h
    · rw [conL] at h
      split at h
      · rename_i hm
        split at h
        · cases h
        · cases h
        · rename_i d r hr
          have h1 := i2 _ _ _ (hk.mk1 hp hm) hr
          exact i5 _ _ _ _ _ h1.2 (by simp only [levC, levCs]; omega) h
      · injection h with h; injection h with h1' h2; subst h1' h2; exact ⟨ha, hp⟩
end
section
variable {w0 : World} {x : Tx}
def CondR (r : Rt Cn) (w0 : World) (v : Value) (w' : World) : Prop := match r with
  | .ok c => ∃ a n k H, v = .tuple ⟨[.agg ⟨[I c.op, S c.name, S c.text, .slice a n k]⟩, I 0, I 0]⟩ ∧ CondO H c [I c.op, S c.name, S c.text, .slice a n k] ∧ St w0 NoneS H w'
  | .bad e a => v = .tuple ⟨[.agg ⟨[I 0, S [], S [], .slice none 0 0]⟩, I e, I a]⟩ ∧ St w0 NoneS [] w'
theorem parsecond_any {s : Sc} {f : Nat} {r : Rt Cn} (hs : ScanC x s) (hok : ScOk s) (hr : condP f s = some r) : Cl Tryd.prog 9 [S x] w0 (CondR r w0) := by
  have hSt := St.refl w0 NoneS
  refine enterD Tryd.func9 rfl Tryd.ntmps9 rfl ?_
  repeat' (first | (refine WL_alloc hT rfl rfl rfl hSt ?_; clear hSt; intro w nb hnb hSt; replace hSt := hSt.front; dsimp only [zcells] at hSt) | (apply WL_ev rfl rfl; exact Ev_makeFunc0 rfl) | (refine WL_defer rfl rfl ?_) | refine stepA ?_ | (refine stepS ?_; clear hSt; intro w hSt; dsimp only [spl, List.set] at hSt) | (refine stepB ?_; clear hSt; intro w nb hnb hSt; dsimp only [zcells, List.nil_append, List.cons_append] at hSt) | (refine W_quiet hT (by decide +kernel) hSt ?_; clear hSt; (repeat' (first | (apply QL_ev rfl rfl; (intro w hSt; (first | (exact Ev_makeFunc0 rfl) | exact Ev_auto))) | refine QL_pass rfl rfl ?_ | (refine QL_guardP rfl rfl (fun hc => ?_) (fun hc => ?_) <;> try exact absA) | (refine QL_guard rfl rfl (fun hc => ?_) (fun hc => ?_) <;> (try exact absA) <;> (fail_if_success (change true = true at hc)) <;> (fail_if_success (change false = false at hc))))); all_goals (refine QL_nil (fun w hSt => ?_))) | (refine stepG ?_ ?_ <;> intro hc <;> (try exact absA) <;> (fail_if_success (change true = true at hc)) <;> (fail_if_success (change false = false at hc))) | fail)
  rename_i b2 hb2 w9 b3 hb3
  obtain ⟨b4, rfl⟩ : ∃ x, x = nb := ⟨nb, rfl⟩
  obtain ⟨n34, n24, n23⟩ : b3 ≠ b4 ∧ b2 ≠ b4 ∧ b2 ≠ b3 := by
    have hn := hSt.nodup
    simp only [List.map_cons, List.map_nil, List.nodup_cons, List.mem_cons, List.not_mem_nil, or_false, not_or] at hn
    exact ⟨fun e => hn.1.1 e.symm, fun e => hn.1.2 e.symm, fun e => hn.2.1 e.symm⟩
  unfold condP at hr
  cases s with
  | bad e a =>
    injection hr with hr
    subst hr
    refine WL_callP (ok_call hT rfl) rfl rfl rfl (start_bad hs) (fun _ _ hf => hf.elim) ?_
    rintro v w' ⟨rfl, hc2⟩
    replace hSt := hSt.call0 hc2
    (replace hSt := hSt.left (H0 := [_, _, _]); (repeat (first | refine At_then_panic ?_ | refine At_in_panic ?_ | fail)); exact At_deferPan (ok_call hT rfl) (condD_pan (hSt.at 2 rfl) (hSt.at 1 rfl) (hSt.at 0 rfl) n23 n24 n34) (fun w' hw' => ⟨_, resC3 rfl rfl rfl rfl (loadVN hT rfl (hw'.at 0 rfl) rfl rfl) (loadV1 hT rfl (hw'.at 1 rfl) rfl) (loadV1 hT rfl (hw'.at 2 rfl) rfl), rfl, (hSt.callE (Ha := []) (hw'.wider (S' := InH [_, _, _]) (fun b h => by rcases h with h | h | h <;> subst h <;> first | exact ⟨2, _, rfl⟩ | exact ⟨1, _, rfl⟩ | exact ⟨0, _, rfl⟩))).nil⟩))
  | ok ts =>
    obtain ⟨hk, hl, htl⟩ := hok
    dsimp only at hr
    refine WL_callP (ok_call hT rfl) rfl rfl rfl (start_ok hs) ?_ (fun _ _ hf => hf.elim)
    rintro v w' ⟨pb, sc, tv, H, rfl, ho, hc2⟩
    replace hSt := hSt.newN hc2
    clear hc2
    dsimp only [List.nil_append, List.cons_append] at hSt
    repeat' (first | refine stepA ?_ | (refine stepS ?_; clear hSt; intro w hSt; dsimp only [spl, List.set] at hSt) | (refine stepB ?_; clear hSt; intro w nb hnb hSt; dsimp only [zcells, List.nil_append, List.cons_append] at hSt) | (refine W_quiet hT (by decide +kernel) hSt ?_; clear hSt; (repeat' (first | (apply QL_ev rfl rfl; (intro w hSt; (first | exact Ev_auto))) | refine QL_pass rfl rfl ?_ | (refine QL_guardP rfl rfl (fun hc => ?_) (fun hc => ?_) <;> try exact absA) | (refine QL_guard rfl rfl (fun hc => ?_) (fun hc => ?_) <;> (try exact absA) <;> (fail_if_success (change true = true at hc)) <;> (fail_if_success (change false = false at hc))))); all_goals (refine QL_nil (fun w hSt => ?_))) | (refine stepG ?_ ?_ <;> intro hc <;> (try exact absA) <;> (fail_if_success (change true = true at hc)) <;> (fail_if_success (change false = false at hc))) | fail)
    cases hx : conF ts f 0 with
    | none => rw [hx] at hr; cases hr
    | some r1 =>
      rw [hx] at hr
      have hP := ps_at (q := 0) (hSt.has.sublist ((((List.Sublist.refl _).cons_cons _).cons_cons _) |>.cons _ |>.cons _ |>.cons _)) ho hk hl htl hk.pos
      refine WL_callP (ok_call hT rfl) rfl rfl rfl ((conds_any f f (Nat.le_refl f)).2.2 hP r1 hx) ?_ ?_
      rotate_left 1
      · rintro x w2 ⟨q, q9, rfl, rfl, hc2⟩
        injection hr with hr
        subst hr
        replace hSt := hSt.scCall (Ha := [_, _, _, _]) hc2
        (replace hSt := hSt.left (H0 := [_, _, _]); (repeat (first | refine At_then_panic ?_ | refine At_in_panic ?_ | fail)); exact At_deferPan (ok_call hT rfl) (condD_pan (hSt.at 2 rfl) (hSt.at 1 rfl) (hSt.at 0 rfl) n23 n24 n34) (fun w' hw' => ⟨_, resC3 rfl rfl rfl rfl (loadVN hT rfl (hw'.at 0 rfl) rfl rfl) (loadV1 hT rfl (hw'.at 1 rfl) rfl) (loadV1 hT rfl (hw'.at 2 rfl) rfl), rfl, (hSt.callE (Ha := []) (hw'.wider (S' := InH [_, _, _]) (fun b h => by rcases h with h | h | h <;> subst h <;> first | exact ⟨2, _, rfl⟩ | exact ⟨1, _, rfl⟩ | exact ⟨0, _, rfl⟩))).nil⟩))
      rintro x w2 ⟨c, q, x0, x1, x2, x3, HL, rfl, rfl, hC, hc2⟩
      obtain ⟨hlev, hq⟩ := (opr_lev hk f).2.2.2.1 _ _ _ hk.pos hx
      obtain ⟨rfl, rfl, rfl, a4, n4, k4, rfl⟩ := hC.parts (hc2.right (Ha := [_])).has
      replace hSt := hSt.scCall (Ha := [_, _, _, _]) hc2
      clear hc2 hP
      dsimp only [List.cons_append, List.nil_append] at hSt hr
      repeat' (first | refine stepA ?_ | (refine stepS ?_; clear hSt; intro w hSt; dsimp only [spl, List.set] at hSt) | (refine stepB ?_; clear hSt; intro w nb hnb hSt; dsimp only [zcells, List.nil_append, List.cons_append] at hSt) | (refine W_quiet hT (by decide +kernel) hSt ?_; clear hSt; (repeat' (first | (apply QL_ev rfl rfl; (intro w hSt; (first | exact Ev_auto))) | refine QL_pass rfl rfl ?_ | (refine QL_guardP rfl rfl (fun hc => ?_) (fun hc => ?_) <;> try exact absA) | (refine QL_guard rfl rfl (fun hc => ?_) (fun hc => ?_) <;> (try exact absA) <;> (fail_if_success (change true = true at hc)) <;> (fail_if_success (change false = false at hc))))); all_goals (refine QL_nil (fun w hSt => ?_))) | (refine stepG ?_ ?_ <;> intro hc <;> (try exact absA) <;> (fail_if_success (change true = true at hc)) <;> (fail_if_success (change false = false at hc))) | fail)
      have hP := ps_at (q := q) (hSt.has.sublist ((((List.sublist_append_right _ _).cons_cons _).cons_cons _) |>.cons _ |>.cons _ |>.cons _)) ho hk hl htl hq
      refine WL_callP (ok_call hT rfl) rfl rfl rfl (pend_any hP) ?_ ?_
      rotate_left 1
      · rintro x w2 ⟨hn, rfl, hc2⟩
        rw [if_neg hn] at hr
        injection hr with hr
        subst hr
        replace hSt := hSt.call0 hc2
        (replace hSt := hSt.left (H0 := [_, _, _]); (repeat (first | refine At_then_panic ?_ | refine At_in_panic ?_ | fail)); exact At_deferPan (ok_call hT rfl) (condD_pan (hSt.at 2 rfl) (hSt.at 1 rfl) (hSt.at 0 rfl) n23 n24 n34) (fun w' hw' => ⟨_, resC3 rfl rfl rfl rfl (loadVN hT rfl (hw'.at 0 rfl) rfl rfl) (loadV1 hT rfl (hw'.at 1 rfl) rfl) (loadV1 hT rfl (hw'.at 2 rfl) rfl), rfl, (hSt.callE (Ha := []) (hw'.wider (S' := InH [_, _, _]) (fun b h => by rcases h with h | h | h <;> subst h <;> first | exact ⟨2, _, rfl⟩ | exact ⟨1, _, rfl⟩ | exact ⟨0, _, rfl⟩))).nil⟩))
      rintro x w2 ⟨hy, hc2⟩
      rw [if_pos hy] at hr
      replace hSt := hSt.call0 hc2
      clear hc2 hP
      by_cases h6 : 6 < levC c
      · rw [if_pos h6] at hr
        injection hr with hr
        subst hr
        repeat' (first | (refine WL_isCall (f := 22) ?_; refine WL_call (ok_call hT rfl) rfl rfl rfl (tlevels_any _ (hC _ ((hSt.right (Ha := [_, _, _, _, _])).left).has) (by omega)) ?_; rintro v w2 ⟨rfl, hc2⟩; replace hSt := hSt.call0 hc2; clear hc2) | refine stepA ?_ | (refine stepS ?_; clear hSt; intro w hSt; dsimp only [spl, List.set] at hSt) | (refine stepB ?_; clear hSt; intro w nb hnb hSt; dsimp only [zcells, List.nil_append, List.cons_append] at hSt) | (refine W_quiet hT (by decide +kernel) hSt ?_; clear hSt; (repeat' (first | (apply QL_ev rfl rfl; (intro w hSt; (first | exact Ev_auto))) | refine QL_pass rfl rfl ?_ | (refine QL_guardP rfl rfl (fun hc => ?_) (fun hc => ?_) <;> try exact absA) | (refine QL_guard rfl rfl (fun hc => ?_) (fun hc => ?_) <;> (try exact absA) <;> (fail_if_success (change true = true at hc)) <;> (fail_if_success (change false = false at hc))))); all_goals (refine QL_nil (fun w hSt => ?_))) | (refine stepG ?_ ?_ <;> intro hc <;> (try exact absA) <;> (fail_if_success (change true = true at hc)) <;> (fail_if_success (change false = false at hc))) | fail)
        all_goals try (exfalso; first | omega | (simp at hc; done) | (exact hc rfl) | contradiction)
        all_goals exact At_deferRet (ok_call hT rfl) condD_ret (fun w' hw' => ⟨_, resC3 rfl rfl rfl rfl (loadVN hT rfl ((hSt.call0 hw').at 2 rfl) rfl rfl) (loadV1 hT rfl ((hSt.call0 hw').at 1 rfl) rfl) (loadV1 hT rfl ((hSt.call0 hw').at 0 rfl) rfl), rfl, (hSt.call0 hw').nil⟩)
      · rw [if_neg h6] at hr
        injection hr with hr
        subst hr
        repeat' (first | (refine WL_isCall (f := 22) ?_; refine WL_call (ok_call hT rfl) rfl rfl rfl (tlevels_any _ (hC _ ((hSt.right (Ha := [_, _, _, _, _])).left).has) (by omega)) ?_; rintro v w2 ⟨rfl, hc2⟩; replace hSt := hSt.call0 hc2; clear hc2) | refine stepA ?_ | (refine stepS ?_; clear hSt; intro w hSt; dsimp only [spl, List.set] at hSt) | (refine stepB ?_; clear hSt; intro w nb hnb hSt; dsimp only [zcells, List.nil_append, List.cons_append] at hSt) | (refine W_quiet hT (by decide +kernel) hSt ?_; clear hSt; (repeat' (first | (apply QL_ev rfl rfl; (intro w hSt; (first | exact Ev_auto))) | refine QL_pass rfl rfl ?_ | (refine QL_guardP rfl rfl (fun hc => ?_) (fun hc => ?_) <;> try exact absA) | (refine QL_guard rfl rfl (fun hc => ?_) (fun hc => ?_) <;> (try exact absA) <;> (fail_if_success (change true = true at hc)) <;> (fail_if_success (change false = false at hc))))); all_goals (refine QL_nil (fun w hSt => ?_))) | (refine stepG ?_ ?_ <;> intro hc <;> (try exact absA) <;> (fail_if_success (change true = true at hc)) <;> (fail_if_success (change false = false at hc))) | fail)
        all_goals try (exfalso; first | omega | (simp at hc; done) | (exact hc rfl) | contradiction)
        all_goals exact At_deferRet (ok_call hT rfl) condD_ret (fun w' hw' => ⟨_, resC3 rfl rfl rfl rfl (loadVN hT rfl ((hSt.call0 hw').at 2 rfl) rfl rfl) (loadV1 hT rfl ((hSt.call0 hw').at 1 rfl) rfl) (loadV1 hT rfl ((hSt.call0 hw').at 0 rfl) rfl), a4, n4, k4, HL, rfl, hC, ((hSt.call0 hw').right (Ha := [_, _, _, _, _])).left⟩)
end
end Go.Proofs.YtknfankadlokhaaDoor

namespace Go.Proofs.YtknfankadlokhaaDoor
open Go.RowKit
set_option maxRecDepth 4000
set_option linter.unusedVariables false
set_option linter.unusedSimpArgs false
set_option maxHeartbeats 16000000

section
variable {ts : List Tk}
theorem aftL_le (hk : TkOk ts) : ∀ (f : Nat) (l : List Tx) (p : Nat) {l' : List Tx} {q : Nat}, p < ts.length → aftL ts f l p = some (.ok l' q) → p ≤ q ∧ q < ts.length
  | 0, l, p, l', q, _, h => by rw [aftL] at h; cases h
  | f + 1, l, p, l', q, hp, h => by
    rw [aftL] at h
    split at h
    · cases h
    rename_i s q1 hs
    obtain ⟨_, _, rfl, h1⟩ := takeR_ok hk hp (by decide) hs
    split at h
    · rename_i hm
      have := aftL_le hk f _ _ (hk.mk1 h1 hm) h
      omega
    · injection h with h; injection h with e1 e2; omega
theorem setsL_le (hk : TkOk ts) : ∀ (f : Nat) (l : List Sg) (p : Nat) {l' : List Sg} {q : Nat}, p < ts.length → setsL ts f l p = some (.ok l' q) → p ≤ q
  | 0, l, p, l', q, _, h => by rw [setsL] at h; cases h
  | f + 1, l, p, l', q, hp, h => by
    rw [setsL] at h
    split at h
    · cases h
    rename_i s q1 hs
    obtain ⟨h0, h1⟩ := setR_ok hk hp hs
    split at h
    · rename_i hm
      have := setsL_le hk f _ _ (hk.mk1 h1 hm) h
      omega
    · injection h with h; injection h with e1 e2; omega
theorem ifR_le (hk : TkOk ts) {f p q : Nat} {c : Cn} (hp : p < ts.length) (h : ifR ts f p = some (.ok c q)) : p ≤ q ∧ q < ts.length := by
  unfold ifR at h
  split at h
  · rename_i hm
    have := (opr_lev hk f).2.2.2.1 _ _ _ (hk.wd1 hp hm) h
    omega
  · injection h with h; injection h with e1 e2; omega
theorem aftR_le (hk : TkOk ts) {f p q : Nat} {l : List Tx} (hp : p < ts.length) (h : aftR ts f p = some (.ok l q)) : p ≤ q ∧ q < ts.length := by
  unfold aftR at h
  split at h
  · rename_i hm
    have := aftL_le hk f _ _ (hk.wd1 hp hm) h
    omega
  · injection h with h; injection h with e1 e2; omega
theorem bracR_le (hk : TkOk ts) {f p q : Nat} {l : List Sg} (hp : p < ts.length) (h : bracR ts f p = some (.ok l q)) : p ≤ q := by
  unfold bracR at h
  split at h
  · rename_i hm
    have hp1 := hk.mk1 hp hm
    split at h
    · cases h
    · cases h
    rename_i l1 q1 h1
    have hle : p + 1 ≤ q1 := by
      unfold setsR at h1
      split at h1
      · injection h1 with h1; injection h1 with e1 e2; omega
      · exact setsL_le hk f _ _ hp1 h1
    split at h
    · injection h with h; injection h with e1 e2; omega
    · cases h
  · injection h with h; injection h with e1 e2; omega
theorem entR_lt (hk : TkOk ts) {f p q : Nat} {e : Ln} (hp : p < ts.length) (h : entR ts f p = some (.ok e q)) : p < q := by
  unfold entR at h
  split at h
  · rename_i hm
    have hp1 := hk.wd1 hp hm
    split at h
    · cases h
    rename_i nd q1 h1
    obtain ⟨_, _, rfl, l1⟩ := takeR_ok hk hp1 (by decide) h1
    split at h
    · cases h
    rename_i u q2 h2
    obtain ⟨_, rfl, l2⟩ := markR_ok hk l1 h2
    split at h
    · cases h
    rename_i pg q3 h3
    obtain ⟨_, _, rfl, l3⟩ := takeR_ok hk l2 (by decide) h3
    split at h
    · cases h
    · cases h
    rename_i c q4 h4
    obtain ⟨g4, l4⟩ := ifR_le hk l3 h4
    split at h
    · cases h
    · cases h
    rename_i a q5 h5
    obtain ⟨g5, l5⟩ := aftR_le hk l4 h5
    split at h
    · cases h
    · cases h
    rename_i s q6 h6
    have g6 := bracR_le hk l5 h6
    injection h with h; injection h with e1 e2
    omega
  · cases h
end
theorem EntO.parts {HD : List (Nat × Obj)} {e : Ln} {cv va vs : Value} (h : EntO HD e [S e.node, S e.prog, I e.cond.op, S e.cond.name, S e.cond.text, cv, va, vs]) {w : World} (hw : Has w HD) : (∃ a n k, cv = .slice a n k) ∧ (∃ a n k, va = .slice a n k) ∧ ∃ a n k, vs = .slice a n k := by
  obtain ⟨v1, v2, v3, he, hc, ha, hs, _⟩ := h w hw
  simp only [List.cons.injEq, and_true, true_and] at he
  obtain ⟨rfl, rfl, rfl⟩ := he
  obtain ⟨v9, xs, e9, ⟨a9, k9, h9, _⟩, _⟩ := hc.cells
  simp only [List.cons.injEq, and_true, true_and] at e9
  subst e9
  obtain ⟨a8, k8, h8, _⟩ := ha
  obtain ⟨a7, k7, h7, _⟩ := hs
  exact ⟨⟨_, _, _, h9⟩, ⟨_, _, _, h8⟩, ⟨_, _, _, h7⟩⟩
/-- entries whose cells lie in some blocks -/
structure EntsO (HD : List (Nat × Obj)) (l : List Ln) (xs : List (List Value)) : Prop where
  len : xs.length = l.length
  each : ∀ (i : Nat) (e : Ln) (x : List Value), l[i]? = some e → xs[i]? = some x → EntO HD e x
  eight : ∀ x ∈ xs, x.length = 8
theorem EntsO.snoc {HD HE : List (Nat × Obj)} {l : List Ln} {xs : List (List Value)} {e : Ln} {x : List Value} (h : EntsO HD l xs) (h2 : EntO HE e x) (hx : x.length = 8) : EntsO (HE ++ HD) (l ++ [e]) (xs ++ [x]) := by
  refine ⟨by simp [h.len], fun i a y ha hy => ?_, fun y hy => ?_⟩
  · rw [List.getElem?_append] at ha hy
    split at ha
    · rename_i hi
      rw [if_pos (by rw [h.len]; exact hi)] at hy
      exact fun w hw => h.each i a y ha hy w (hw.sublist (List.sublist_append_right _ _))
    · rename_i hi
      rw [if_neg (by rw [h.len]; exact hi), h.len] at hy
      generalize i - l.length = j at ha hy
      cases j with
      | zero => injection ha with ha; injection hy with hy; subst ha hy; exact fun w hw => h2 w (hw.sublist (List.sublist_append_left _ _))
      | succ j => simp at ha
  · rcases List.mem_append.1 hy with hy | hy
    · exact h.eight y hy
    · rw [List.mem_singleton.1 hy]; exact hx
theorem OwnSl.slAtL {z : Nat} {xs : List (List Value)} {v : Value} {e : TypeId} {H1 : List (Nat × Obj)} {w : World} (h : OwnSl v e z xs.flatten xs.length H1) (hz : ∀ x ∈ xs, x.length = z) (hh : Has w H1) : SlAt w v z xs := by
  obtain ⟨ys, rfl⟩ : ∃ ys : List { x : List Value // x.length = z }, xs = ys.map Subtype.val := ⟨xs.attachWith _ hz, by simp⟩
  refine OwnSl.slAt (f := Subtype.val) (e := e) (fun a => a.2) ?_ hh
  rw [List.flatMap_def]
  simpa using h
theorem EntsO.lns {HD HL : List (Nat × Obj)} {l : List Ln} {xs : List (List Value)} {v : Value} {E : TypeId} {w : World} (h : EntsO HD l xs) (ho : OwnSl v E 8 xs.flatten l.length HL) (hw : Has w HD) (hl : Has w HL) (h9 : l.length ≤ 9223372036854775807) : Lns w v l := by
  obtain ⟨a, cap, rfl, hle⟩ := ho.cap
  refine Lns.of (OwnSl.slAtL (by rw [h.len]; exact ho) h.eight hl) h.len (fun i x e hx he => h.each i e x he hx w hw) hle h9
def listP (f : Nat) (s : Sc) : Option (Rt (List Ln)) := match s with
  | .bad e a => some (.bad e a)
  | .ok ts => match lstL ts f [] 0 with
    | none => none
    | some (.bad q) => some (.bad 2 (tkAt ts q).at_)
    | some (.ok l _) => if checkF l ≠ 0 then some (.bad (checkF l) 0) else some (.ok l)
section
variable {w0 : World} {x : Tx}
def ParseR (r : Rt (List Ln)) (w0 : World) (v : Value) (w' : World) : Prop := match r with
  | .ok l => ∃ lv H, v = .tuple ⟨[lv, I 0, I 0]⟩ ∧ (∀ w, Has w H → Lns w lv l) ∧ St w0 NoneS H w'
  | .bad e a => v = .tuple ⟨[.slice none 0 0, I e, I a]⟩ ∧ St w0 NoneS [] w'
theorem parse_any {s : Sc} {f : Nat} {r : Rt (List Ln)} (hs : ScanC x s) (hok : ScOk s) (hr : listP f s = some r) : Cl Tryd.prog 11 [S x] w0 (ParseR r w0) := by
  have hSt := St.refl w0 NoneS
  refine enterD Tryd.func11 rfl Tryd.ntmps11 rfl ?_
  repeat' (first | (refine WL_alloc hT rfl rfl rfl hSt ?_; clear hSt; intro w nb hnb hSt; replace hSt := hSt.front; dsimp only [zcells] at hSt) | (apply WL_ev rfl rfl; exact Ev_makeFunc0 rfl) | (refine WL_defer rfl rfl ?_) | refine stepA ?_ | (refine stepS ?_; clear hSt; intro w hSt; dsimp only [spl, List.set] at hSt) | (refine stepB ?_; clear hSt; intro w nb hnb hSt; dsimp only [zcells, List.nil_append, List.cons_append] at hSt) | (refine W_quiet hT (by decide +kernel) hSt ?_; clear hSt; (repeat' (first | (apply QL_ev rfl rfl; (intro w hSt; (first | (exact Ev_makeFunc0 rfl) | exact Ev_auto))) | refine QL_pass rfl rfl ?_ | (refine QL_guardP rfl rfl (fun hc => ?_) (fun hc => ?_) <;> try exact absA) | (refine QL_guard rfl rfl (fun hc => ?_) (fun hc => ?_) <;> (try exact absA) <;> (fail_if_success (change true = true at hc)) <;> (fail_if_success (change false = false at hc))))); all_goals (refine QL_nil (fun w hSt => ?_))) | (refine stepG ?_ ?_ <;> intro hc <;> (try exact absA) <;> (fail_if_success (change true = true at hc)) <;> (fail_if_success (change false = false at hc))) | fail)
  rename_i b2 hb2 w9 b3 hb3
  obtain ⟨b4, rfl⟩ : ∃ x, x = nb := ⟨nb, rfl⟩
  obtain ⟨n34, n24, n23⟩ : b3 ≠ b4 ∧ b2 ≠ b4 ∧ b2 ≠ b3 := by
    have hn := hSt.nodup
    simp only [List.map_cons, List.map_nil, List.nodup_cons, List.mem_cons, List.not_mem_nil, or_false, not_or] at hn
    exact ⟨fun e => hn.1.1 e.symm, fun e => hn.1.2 e.symm, fun e => hn.2.1 e.symm⟩
  unfold listP at hr
  cases s with
  | bad e a =>
    injection hr with hr
    subst hr
    refine WL_callP (ok_call hT rfl) rfl rfl rfl (start_bad hs) (fun _ _ hf => hf.elim) ?_
    rintro v w' ⟨rfl, hc2⟩
    replace hSt := hSt.call0 hc2
    (replace hSt := hSt.left (H0 := [_, _, _]); (repeat (first | refine At_then_panic ?_ | refine At_in_panic ?_ | fail)); exact At_deferPan (ok_call hT rfl) (parseD_pan (hSt.at 2 rfl) (hSt.at 1 rfl) (hSt.at 0 rfl) n23 n24 n34) (fun w' hw' => ⟨_, resC3 rfl rfl rfl rfl (loadV1 hT rfl (hw'.at 0 rfl) rfl) (loadV1 hT rfl (hw'.at 1 rfl) rfl) (loadV1 hT rfl (hw'.at 2 rfl) rfl), rfl, (hSt.callE (Ha := []) (hw'.wider (S' := InH [_, _, _]) (fun b h => by rcases h with h | h | h <;> subst h <;> first | exact ⟨2, _, rfl⟩ | exact ⟨1, _, rfl⟩ | exact ⟨0, _, rfl⟩))).nil⟩))
  | ok ts =>
    obtain ⟨hk, hl, htl⟩ := hok
    dsimp only at hr
    refine WL_callP (ok_call hT rfl) rfl rfl rfl (start_ok hs) ?_ (fun _ _ hf => hf.elim)
    rintro v w' ⟨pb, sc, tv, H, rfl, ho, hc2⟩
    replace hSt := hSt.newN hc2
    clear hc2
    dsimp only [List.nil_append, List.cons_append] at hSt
    repeat' (first | refine stepA ?_ | (refine stepS ?_; clear hSt; intro w hSt; dsimp only [spl, List.set] at hSt) | (refine stepB ?_; clear hSt; intro w nb hnb hSt; dsimp only [zcells, List.nil_append, List.cons_append] at hSt) | (refine W_quiet hT (by decide +kernel) hSt ?_; clear hSt; (repeat' (first | (apply QL_ev rfl rfl; (intro w hSt; (first | exact Ev_auto))) | refine QL_pass rfl rfl ?_ | (refine QL_guardP rfl rfl (fun hc => ?_) (fun hc => ?_) <;> try exact absA) | (refine QL_guard rfl rfl (fun hc => ?_) (fun hc => ?_) <;> (try exact absA) <;> (fail_if_success (change true = true at hc)) <;> (fail_if_success (change false = false at hc))))); all_goals (refine QL_nil (fun w hSt => ?_))) | (refine stepG ?_ ?_ <;> intro hc <;> (try exact absA) <;> (fail_if_success (change true = true at hc)) <;> (fail_if_success (change false = false at hc))) | fail)
    cases hx : lstL ts f [] 0 with
    | none => rw [hx] at hr; cases hr
    | some r1 =>
      rw [hx] at hr
      refine W_sub (L' := [(5, Ptr pb), (2, Ptr b2), (3, Ptr b3), (4, Ptr b4)]) (by (repeat (first | exact Sub.nil _ | refine Sub.cons rfl ?_))) ?_
      refine W_loop1 (fun k (g : Nat) w => k = g ∧ g ≤ f ∧ ∃ l q xs aL kL HD HL, lstL ts g l q = some r1 ∧ q < ts.length ∧ l.length ≤ q ∧ EntsO HD l xs ∧ OwnSl (.slice aL l.length kL) 39 8 xs.flatten l.length HL ∧ St w0 NoneS ((b4, blk [I 0] 3) :: (b3, blk [I 0] 29) :: (b2, blk [.slice aL l.length kL] 33) :: (pb, blk [Ptr sc] 52) :: (sc, scO tv q) :: ((HD ++ H) ++ HL)) w) (fun _ => []) f f rfl (by (repeat (first | exact Str.nil _ | apply Str.drop rfl | apply Str.keepU rfl | apply Str.keep rfl))) ⟨rfl, Nat.le_refl f, [], 0, [], none, 0, [], [], hx, hk.pos, Nat.zero_le _, ⟨rfl, fun i e x hi => (by simp at hi), fun x hx => (by cases hx)⟩, OwnSl.nil _ _, by rw [List.append_nil]; exact hSt⟩ (by (repeat (first | exact Sub.nil _ | refine Sub.cons rfl ?_))) ?_
      clear hSt hx
      rintro k g w ⟨hkk, hg, l, q, xs, aL, kL, HD, HL, hL, hq, hlq, hE, hoL, hSt⟩ K hK
      have hP := ps_at (q := q) (hSt.has.sublist (((show List.Sublist H ((HD ++ H) ++ HL) from (List.sublist_append_right _ _).trans (List.sublist_append_left _ _)).cons_cons _).cons_cons _ |>.cons _ |>.cons _ |>.cons _)) ho hk hl htl hq
      have hpk := fun {w : World} (h : PS w pb sc ts tv q) => peek_any h.hs (h.ht.unwo (by decide)) h.lt
      cases g with
      | zero => rw [lstL] at hL; cases hL
      | succ g =>
        rw [lstL] at hL
        generalize ht0 : tkAt ts q = t at hpk hL
        obtain ⟨kd, tx, nn, at_⟩ := t
        dsimp only at hL
        by_cases hd : kd = 0
        · rw [if_neg (by omega)] at hL
          injection hL with hL
          subst hL hd
          dsimp only at hr
          have hck := fun (w : World) (hSt : St w0 NoneS ((b4, blk [I 0] 3) :: (b3, blk [I 0] 29) :: (b2, blk [.slice aL l.length kL] 33) :: (pb, blk [Ptr sc] 52) :: (sc, scO tv q) :: ((HD ++ H) ++ HL)) w) => check_any (hE.lns hoL (((hSt.right (Ha := [_, _, _, _, _])).left.left).has) ((hSt.right (Ha := [_, _, _, _, _])).right.has) (by omega))
          by_cases h6 : checkF l = 0
          · rw [if_neg (fun e => e h6)] at hr
            injection hr with hr
            subst hr
            rw [h6] at hck
            repeat' (first | (refine WL_isCall (f := 24) ?_; refine WL_call (ok_call hT rfl) rfl rfl rfl (hpk (hP.kept (St.refl _ _))) ?_; rintro v w2 ⟨rfl, hc2⟩; replace hSt := hSt.call0 hc2; clear hc2) | (apply WL_ev rfl rfl; exact Ev_field1 hT rfl rfl rfl (by intro fs x h1 h2; rw [Tryd.underlying49] at h1; injection h1 with h1; injection h1 with h1; subst h1; injection h2 with h2; subst h2; decide +kernel)) | (refine WL_isCall (f := 12) ?_; refine WL_call (ok_call hT rfl) rfl rfl rfl (hck _ hSt) ?_; rintro v w2 ⟨rfl, hc2⟩; replace hSt := hSt.call0 hc2; clear hc2) | refine stepA ?_ | (refine stepS ?_; clear hSt; intro w hSt; dsimp only [spl, List.set] at hSt) | (refine stepB ?_; clear hSt; intro w nb hnb hSt; dsimp only [zcells, List.nil_append, List.cons_append] at hSt) | (refine W_quiet hT (by decide +kernel) hSt ?_; clear hSt; (repeat' (first | (apply QL_ev rfl rfl; (intro w hSt; (first | (exact Ev_field1 hT rfl rfl rfl (by intro fs x h1 h2; rw [Tryd.underlying49] at h1; injection h1 with h1; injection h1 with h1; subst h1; injection h2 with h2; subst h2; decide +kernel)) | exact Ev_auto))) | refine QL_pass rfl rfl ?_ | (refine QL_guardP rfl rfl (fun hc => ?_) (fun hc => ?_) <;> try exact absA) | (refine QL_guard rfl rfl (fun hc => ?_) (fun hc => ?_) <;> (try exact absA) <;> (fail_if_success (change true = true at hc)) <;> (fail_if_success (change false = false at hc))))); all_goals (refine QL_nil (fun w hSt => ?_))) | (refine stepG ?_ ?_ <;> intro hc <;> (try exact absA) <;> (fail_if_success (change true = true at hc)) <;> (fail_if_success (change false = false at hc))) | fail)
            all_goals try (exfalso; first | omega | (simp at hc; done) | (exact hc rfl) | contradiction)
            all_goals exact At_deferRet (ok_call hT rfl) parseD_ret (fun w' hw' => ⟨_, resC3 rfl rfl rfl rfl (loadV1 hT rfl ((hSt.call0 hw').at 2 rfl) rfl) (loadV1 hT rfl ((hSt.call0 hw').at 1 rfl) rfl) (loadV1 hT rfl ((hSt.call0 hw').at 0 rfl) rfl), _, (HD ++ H) ++ HL, rfl, fun w hw => hE.lns hoL (hw.sublist ((List.sublist_append_left _ _).trans (List.sublist_append_left _ _))) (hw.sublist (List.sublist_append_right _ _)) (by omega), (hSt.call0 hw').right (Ha := [_, _, _, _, _])⟩)
          · rw [if_pos h6] at hr
            injection hr with hr
            subst hr
            repeat' (first | (refine WL_isCall (f := 24) ?_; refine WL_call (ok_call hT rfl) rfl rfl rfl (hpk (hP.kept (St.refl _ _))) ?_; rintro v w2 ⟨rfl, hc2⟩; replace hSt := hSt.call0 hc2; clear hc2) | (apply WL_ev rfl rfl; exact Ev_field1 hT rfl rfl rfl (by intro fs x h1 h2; rw [Tryd.underlying49] at h1; injection h1 with h1; injection h1 with h1; subst h1; injection h2 with h2; subst h2; decide +kernel)) | (refine WL_isCall (f := 12) ?_; refine WL_call (ok_call hT rfl) rfl rfl rfl (hck _ hSt) ?_; rintro v w2 ⟨rfl, hc2⟩; replace hSt := hSt.call0 hc2; clear hc2) | refine stepA ?_ | (refine stepS ?_; clear hSt; intro w hSt; dsimp only [spl, List.set] at hSt) | (refine stepB ?_; clear hSt; intro w nb hnb hSt; dsimp only [zcells, List.nil_append, List.cons_append] at hSt) | (refine W_quiet hT (by decide +kernel) hSt ?_; clear hSt; (repeat' (first | (apply QL_ev rfl rfl; (intro w hSt; (first | (exact Ev_field1 hT rfl rfl rfl (by intro fs x h1 h2; rw [Tryd.underlying49] at h1; injection h1 with h1; injection h1 with h1; subst h1; injection h2 with h2; subst h2; decide +kernel)) | exact Ev_auto))) | refine QL_pass rfl rfl ?_ | (refine QL_guardP rfl rfl (fun hc => ?_) (fun hc => ?_) <;> try exact absA) | (refine QL_guard rfl rfl (fun hc => ?_) (fun hc => ?_) <;> (try exact absA) <;> (fail_if_success (change true = true at hc)) <;> (fail_if_success (change false = false at hc))))); all_goals (refine QL_nil (fun w hSt => ?_))) | (refine stepG ?_ ?_ <;> intro hc <;> (try exact absA) <;> (fail_if_success (change true = true at hc)) <;> (fail_if_success (change false = false at hc))) | fail)
            all_goals try (exfalso; first | omega | (simp at hc; done) | (exact hc rfl) | contradiction)
            all_goals exact At_deferRet (ok_call hT rfl) parseD_ret (fun w' hw' => ⟨_, resC3 rfl rfl rfl rfl (loadV1 hT rfl ((hSt.call0 hw').at 2 rfl) rfl) (loadV1 hT rfl ((hSt.call0 hw').at 1 rfl) rfl) (loadV1 hT rfl ((hSt.call0 hw').at 0 rfl) rfl), rfl, (hSt.call0 hw').nil⟩)
        · rw [if_pos hd] at hL
          repeat' (first | (refine WL_isCall (f := 24) ?_; refine WL_call (ok_call hT rfl) rfl rfl rfl (hpk (hP.kept (St.refl _ _))) ?_; rintro v w2 ⟨rfl, hc2⟩; replace hSt := hSt.call0 hc2; clear hc2) | (apply WL_ev rfl rfl; exact Ev_field1 hT rfl rfl rfl (by intro fs x h1 h2; rw [Tryd.underlying49] at h1; injection h1 with h1; injection h1 with h1; subst h1; injection h2 with h2; subst h2; decide +kernel)) | refine stepA ?_ | (refine stepS ?_; clear hSt; intro w hSt; dsimp only [spl, List.set] at hSt) | (refine stepB ?_; clear hSt; intro w nb hnb hSt; dsimp only [zcells, List.nil_append, List.cons_append] at hSt) | (refine W_quiet hT (by decide +kernel) hSt ?_; clear hSt; (repeat' (first | (apply QL_ev rfl rfl; (intro w hSt; (first | (exact Ev_field1 hT rfl rfl rfl (by intro fs x h1 h2; rw [Tryd.underlying49] at h1; injection h1 with h1; injection h1 with h1; subst h1; injection h2 with h2; subst h2; decide +kernel)) | exact Ev_auto))) | refine QL_pass rfl rfl ?_ | (refine QL_guardP rfl rfl (fun hc => ?_) (fun hc => ?_) <;> try exact absA) | (refine QL_guard rfl rfl (fun hc => ?_) (fun hc => ?_) <;> (try exact absA) <;> (fail_if_success (change true = true at hc)) <;> (fail_if_success (change false = false at hc))))); all_goals (refine QL_nil (fun w hSt => ?_))) | (refine stepG ?_ ?_ <;> intro hc <;> (try exact absA) <;> (fail_if_success (change true = true at hc)) <;> (fail_if_success (change false = false at hc))) | fail)
          cases hx : entR ts g q with
          | none => rw [hx] at hL; cases hL
          | some r2 =>
            rw [hx] at hL
            refine W_ownP (Hs := [_, _, _]) [(0, false), (1, false), (2, true), (3, true), (4, true)] [(2, Ptr b2), (3, Ptr b3), (4, Ptr b4)] (fun ch w => ∃ q', ch = pan (failV 2 (tkAt ts q').at_) ∧ r1 = .bad q' ∧ ∃ v2, St w0 NoneS [(b4, blk [I 0] 3), (b3, blk [I 0] 29), (b2, blk [v2] 33)] w) hT (by decide +kernel) rfl hSt ?_ ?_
            · rintro ch w5 ⟨q', rfl, rfl, v2, hSt⟩
              injection hr with hr
              subst hr
              (replace hSt := hSt.left (H0 := [_, _, _]); (repeat (first | refine At_then_panic ?_ | refine At_in_panic ?_ | fail)); exact At_deferPan (ok_call hT rfl) (parseD_pan (hSt.at 2 rfl) (hSt.at 1 rfl) (hSt.at 0 rfl) n23 n24 n34) (fun w' hw' => ⟨_, resC3 rfl rfl rfl rfl (loadV1 hT rfl (hw'.at 0 rfl) rfl) (loadV1 hT rfl (hw'.at 1 rfl) rfl) (loadV1 hT rfl (hw'.at 2 rfl) rfl), rfl, (hSt.callE (Ha := []) (hw'.wider (S' := InH [_, _, _]) (fun b h => by rcases h with h | h | h <;> subst h <;> first | exact ⟨2, _, rfl⟩ | exact ⟨1, _, rfl⟩ | exact ⟨0, _, rfl⟩))).nil⟩))
            clear hSt hP
            intro w hSt
            iterate 2 (apply HP_ev rfl rfl rfl (St.left (H0 := [_, _, _]) hSt); (intro w hSt; (first | exact Ev_auto)))
            refine HP_one ?_
            have hP := ps_at (q := q) (hSt.has.sublist (((show List.Sublist H ((HD ++ H) ++ HL) from (List.sublist_append_right _ _).trans (List.sublist_append_left _ _)).cons_cons _).cons_cons _ |>.cons _ |>.cons _ |>.cons _)) ho hk hl htl hq
            refine WL_callP (ok_call hT rfl) rfl rfl rfl (entry_any hP r2 hx) ?_ ?_
            rotate_left 1
            · rintro x w6 ⟨q', q9, rfl, rfl, hc2⟩
              injection hL with hL
              exact At_oneX (by (repeat (first | exact Sub.nil _ | refine Sub.cons rfl ?_))) ⟨q', rfl, hL.symm, _, (hSt.scCall (Ha := [_, _, _, _]) hc2).left (H0 := [_, _, _])⟩
            rintro x w6 ⟨e, q1, cv, va, vs, HE, rfl, rfl, hEnt, hq1, hc2⟩
            obtain ⟨⟨a1, n1, k1, rfl⟩, ⟨a2, n2, k2, rfl⟩, a3, n3, k3, rfl⟩ := hEnt.parts (hc2.right (Ha := [_])).has
            have hqq := entR_lt hk hq hx
            replace hSt := hSt.scCall (Ha := [_, _, _, _]) hc2
            clear hc2 hP
            dsimp only [List.cons_append, List.nil_append] at hSt hL
            rw [show HE ++ ((HD ++ H) ++ HL) = ((HE ++ HD) ++ H) ++ HL by simp only [List.append_assoc]] at hSt
            refine WL_nil (At_oneP (St.left (H0 := [_, _, _]) hSt) ?_)
            refine HP_one ?_
            refine WL_buildSlice hT rfl rfl rfl rfl rfl rfl rfl rfl hSt ?_
            clear hSt
            intro w nb2 hnb2 hSt
            refine WL_nil (At_oneP (St.left (H0 := [_, _, _]) hSt) ?_)
            refine HP_one ?_
            refine WL_appendL (H0 := _ :: _ :: _ :: _ :: _ :: ((HE ++ HD) ++ H)) (H1 := HL) hT rfl rfl rfl rfl rfl rfl rfl hSt hoL rfl rfl (by omega) (by omega) ?_
            clear hSt
            intro v2 w HL2 ho2 hSt
            obtain ⟨aL2, kL2, rfl, _⟩ := ho2.cap
            try dsimp only [List.cons_append] at hSt
            refine WL_nil (At_oneP (St.left (H0 := [_, _, _]) hSt) ?_)
            refine HP_end ?_
            simp only [List.length_cons, List.length_nil, List.drop_succ_cons, List.drop_zero]
            repeat' (first | refine stepA ?_ | (refine stepS ?_; clear hSt; intro w hSt; dsimp only [spl, List.set] at hSt) | (refine stepB ?_; clear hSt; intro w nb hnb hSt; dsimp only [zcells, List.nil_append, List.cons_append] at hSt) | (refine W_quiet hT (by decide +kernel) hSt ?_; clear hSt; (repeat' (first | (apply QL_ev rfl rfl; (intro w hSt; (first | exact Ev_auto))) | refine QL_pass rfl rfl ?_ | (refine QL_guardP rfl rfl (fun hc => ?_) (fun hc => ?_) <;> try exact absA) | (refine QL_guard rfl rfl (fun hc => ?_) (fun hc => ?_) <;> (try exact absA) <;> (fail_if_success (change true = true at hc)) <;> (fail_if_success (change false = false at hc))))); all_goals (refine QL_nil (fun w hSt => ?_))) | (refine stepG ?_ ?_ <;> intro hc <;> (try exact absA) <;> (fail_if_success (change true = true at hc)) <;> (fail_if_success (change false = false at hc))) | fail)
            refine At_QP ?_
            repeat' (first | refine stepA ?_ | (refine stepS ?_; clear hSt; intro w hSt; dsimp only [spl, List.set] at hSt) | (refine stepB ?_; clear hSt; intro w nb hnb hSt; dsimp only [zcells, List.nil_append, List.cons_append] at hSt) | (refine W_quiet hT (by decide +kernel) hSt ?_; clear hSt; (repeat' (first | (apply QL_ev rfl rfl; (intro w hSt; (first | exact Ev_auto))) | refine QL_pass rfl rfl ?_ | (refine QL_guardP rfl rfl (fun hc => ?_) (fun hc => ?_) <;> try exact absA) | (refine QL_guard rfl rfl (fun hc => ?_) (fun hc => ?_) <;> (try exact absA) <;> (fail_if_success (change true = true at hc)) <;> (fail_if_success (change false = false at hc))))); all_goals (refine QL_nil (fun w hSt => ?_))) | (refine stepG ?_ ?_ <;> intro hc <;> (try exact absA) <;> (fail_if_success (change true = true at hc)) <;> (fail_if_success (change false = false at hc))) | fail)
            have hll : (l ++ [e]).length = l.length + 1 := by simp
            have hff : (xs ++ [[S e.node, S e.prog, I e.cond.op, S e.cond.name, S e.cond.text, (.slice a1 n1 k1), (.slice a2 n2 k2), (.slice a3 n3 k3)]]).flatten = xs.flatten ++ [S e.node, S e.prog, I e.cond.op, S e.cond.name, S e.cond.text, (.slice a1 n1 k1), (.slice a2 n2 k2), (.slice a3 n3 k3)] := by simp
            exact At_loop1 hK (k' := g) g (by omega) ⟨rfl, by omega, l ++ [e], q1, xs ++ [_], aL2, kL2, HE ++ HD, HL2, hL, hq1, by omega, hE.snoc hEnt rfl, by rw [hll, hff]; exact ho2, by rw [hll]; exact hSt⟩ (by (repeat (first | exact Sub.nil _ | refine Sub.cons rfl ?_)))
end
end Go.Proofs.YtknfankadlokhaaDoor
