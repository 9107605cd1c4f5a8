/- Conditions are parsed, in memory: operands, conjunctions, conditions. No conditions. -/
import Derived.Test.YtknfankadlokhaaGreatDoorNE
import Derived.Test.YtknfankadlokhaaGreatDoorNA

namespace Go.Proofs.YtknfankadlokhaaGreatDoor
open Go.RowKit
set_option maxRecDepth 4000
set_option linter.unusedVariables false
set_option linter.unusedSimpArgs false
set_option maxHeartbeats 16000000

/-- a condition that lies in some blocks -/
def CondO (HD : List (Nat × Obj)) (c : Cn) (cs : List Value) : Prop := ∀ w, Has w HD → CondAt w c cs
theorem CondO.leaf {op : Int} {n t : Tx} (ht : t.length ≤ 9223372036854775807) : CondO [] (.mk op n t []) [I op, S n, S t, .slice none 0 0] := fun w _ =>
  CondAt.mk_ (c := .mk op n t []) (SlAt.nil w 4) (CondsAt.of rfl fun i a x ha => by simp [Cn.args] at ha) ht (by show (0 : Nat) ≤ _; omega)
theorem CondO.sub {HD HE : List (Nat × Obj)} {c : Cn} {cs : List Value} (h : CondO HD c cs) (hs : List.Sublist HD HE) : CondO HE c cs := fun w hw => h w (hw.sublist hs)
theorem CondO.cells {HD : List (Nat × Obj)} {c : Cn} {cs : List Value} (h : CondO HD c cs) {w : World} (hw : Has w HD) : ∃ v, cs = [I c.op, S c.name, S c.text, v] := by
  obtain ⟨v, xs, e, _⟩ := (h w hw).cells
  exact ⟨v, e⟩
theorem CondO.parts {HD : List (Nat × Obj)} {c : Cn} {x0 x1 x2 x3 : Value} (h : CondO HD c [x0, x1, x2, x3]) {w : World} (hw : Has w HD) : x0 = I c.op ∧ x1 = S c.name ∧ x2 = S c.text ∧ ∃ a n k, x3 = .slice a n k := by
  obtain ⟨v, xs, e, ⟨a, k, hv, _⟩, _⟩ := (h w hw).cells
  injection e with e0 e
  injection e with e1 e
  injection e with e2 e
  injection e with e3 _
  exact ⟨e0, e1, e2, a, xs.length, k, e3.trans hv⟩
theorem slAt_blk {w : World} {b z n cap : Nat} {xs : List (List Value)} {l : List Value} {E : TypeId} (hb : w.heap[b]? = some (blk l E)) (hn : xs.length = n) (hx : ∀ (i : Nat) (y : List Value), xs[i]? = some y → (l.drop (i * z)).take z = y ∧ y.length = z) : SlAt w (.slice (some ⟨b, 0, none⟩) n cap) z xs := by
  subst hn
  refine ⟨some ⟨b, 0, none⟩, cap, rfl, fun i y hi => ?_⟩
  obtain ⟨h1, h2⟩ := hx i y hi
  exact ⟨b, 0, l, E, _, rfl, hb, by rw [Nat.zero_add]; exact h1, h2⟩
theorem CondO.one {HD : List (Nat × Obj)} {op : Int} {c : Cn} {x0 x1 x2 x3 : Value} {b : Nat} {E : TypeId} (h : CondO HD c [x0, x1, x2, x3]) : CondO ((b, blk [x0, x1, x2, x3] E) :: HD) (.mk op [] [] [c]) [I op, S [], S [], .slice (some ⟨b, 0, none⟩) 1 1] := fun w hw => by
  refine CondAt.mk_ (c := .mk op [] [] [c]) (xs := [[x0, x1, x2, x3]]) (slAt_blk (hw.own 0 _ _ rfl) rfl fun i y hy => ?_) (CondsAt.of rfl fun i a x ha hx => ?_) (by show (0 : Nat) ≤ _; omega) (by show (1 : Nat) ≤ _; decide)
  · cases i with
    | zero => injection hy with hy; subst hy; exact ⟨rfl, rfl⟩
    | succ i => simp at hy
  · cases i with
    | zero => injection ha with ha; injection hx with hx; subst ha hx; exact h w (hw.sublist (List.sublist_cons_self _ _))
    | succ i => simp [Cn.args] at ha
theorem CondO.two {HC HD : List (Nat × Obj)} {op : Int} {c d : Cn} {x0 x1 x2 x3 y0 y1 y2 y3 : Value} {b : Nat} {E : TypeId} (h : CondO HC c [x0, x1, x2, x3]) (h2 : CondO HD d [y0, y1, y2, y3]) :
    CondO ((b, blk [x0, x1, x2, x3, y0, y1, y2, y3] E) :: (HD ++ HC)) (.mk op [] [] [c, d]) [I op, S [], S [], .slice (some ⟨b, 0, none⟩) 2 2] := fun w hw => by
  refine CondAt.mk_ (c := .mk op [] [] [c, d]) (xs := [[x0, x1, x2, x3], [y0, y1, y2, y3]]) (slAt_blk (hw.own 0 _ _ rfl) rfl fun i y hy => ?_) (CondsAt.of rfl fun i a x ha hx => ?_) (by show (0 : Nat) ≤ _; omega) (by show (2 : Nat) ≤ _; decide)
  · match i with
    | 0 => injection hy with hy; subst hy; exact ⟨rfl, rfl⟩
    | 1 => injection hy with hy; subst hy; exact ⟨rfl, rfl⟩
    | i + 2 => simp at hy
  · match i with
    | 0 => injection ha with ha; injection hx with hx; subst ha hx; exact h w (hw.sublist ((List.sublist_append_right _ _).trans (List.sublist_cons_self _ _)))
    | 1 => injection ha with ha; injection hx with hx; subst ha hx; exact h2 w (hw.sublist ((List.sublist_append_left _ _).trans (List.sublist_cons_self _ _)))
    | i + 2 => simp [Cn.args] at ha
/-- a call of the parser changes the scanner and leaves new blocks -/
theorem St.scCall {w0 w w' : World} {Sx : Nat → Prop} {Ha Hc HD : List (Nat × Obj)} {sc : Nat} {o o' : Obj} (h : St w0 Sx (Ha ++ ((sc, o) :: Hc)) w) (k : St w (· = sc) ((sc, o') :: HD) w') : St w0 Sx (Ha ++ ((sc, o') :: (HD ++ Hc))) w' := by
  have := St.callM (Ha := Ha) (H := [(sc, o)]) (Hc := Hc) (by simpa using h) (k.wider (fun c hc => by subst hc; exact ⟨0, o, rfl⟩))
  simpa using this
theorem St.scCall1 {w0 w w' : World} {Sx : Nat → Prop} {Ha HD : List (Nat × Obj)} {sc : Nat} {o o' : Obj} (h : St w0 Sx (Ha ++ [(sc, o)]) w) (k : St w (· = sc) ((sc, o') :: HD) w') : St w0 Sx (Ha ++ ((sc, o') :: HD)) w' :=
  St.callE h (k.wider (fun c hc => by subst hc; exact ⟨0, o, rfl⟩))
abbrev OkC (r : Rs Cn) (sc : Nat) (v : Value) (w0 : World) : Value → World → Prop := fun x w' => ∃ c q x0 x1 x2 x3 HD, r = .ok c q ∧ x = .agg ⟨[x0, x1, x2, x3]⟩ ∧ CondO HD c [x0, x1, x2, x3] ∧ St w0 (· = sc) ((sc, scO v q) :: HD) w'
def OpC (ts : List Tk) (f : Nat) : Prop := ∀ {w0 : World} {pb sc p : Nat} {v : Value} (h : PS w0 pb sc ts v p) (r : Rs Cn), oprF ts f p = some r → Cp Tryz.prog 135 [Ptr pb] w0 (OkC r sc v w0) (BadR ts r sc v w0)
def CjC (ts : List Tk) (f : Nat) : Prop := ∀ {w0 : World} {pb sc p : Nat} {v : Value} (h : PS w0 pb sc ts v p) (r : Rs Cn), cnjF ts f p = some r → Cp Tryz.prog 111 [Ptr pb] w0 (OkC r sc v w0) (BadR ts r sc v w0)
def CoC (ts : List Tk) (f : Nat) : Prop := ∀ {w0 : World} {pb sc p : Nat} {v : Value} (h : PS w0 pb sc ts v p) (r : Rs Cn), conF ts f p = some r → Cp Tryz.prog 65 [Ptr pb] w0 (OkC r sc v w0) (BadR ts r sc v w0)
theorem takeR_bad {ts : List Tk} {k : Int} {p q : Nat} (e : takeR ts k p = .bad q) : (tkAt ts p).kd ≠ k ∧ q = p := by
  unfold takeR at e
  split at e
  · cases e
  · rename_i hk; injection e with e; exact ⟨hk, e.symm⟩
theorem markR_bad {ts : List Tk} {c : UInt8} {p q : Nat} (e : markR ts c p = .bad q) : ¬ mkB ts p c = true ∧ q = p := by
  unfold markR at e
  split at e
  · cases e
  · rename_i hk; injection e with e; exact ⟨hk, e.symm⟩
section
variable {w0 : World} {pb sc p : Nat} {v : Value} {ts : List Tk}
theorem operand_any {f : Nat} (ih1 : OpC ts f) (ih2 : CoC ts f) : OpC ts (f + 1) := by
  intro w0 pb sc p v h r hr
  have hSt := h.start
  have hlt := par_lt h.ok f
  rw [oprF] at hr
  have hm1 := fun {w : World} (h : PS w pb sc ts v p) => mark_any h.hs h.ht h.ok h.lt h.len9 33
  by_cases hA : mkB ts p 33 = true
  · rw [if_pos hA] at hr
    have hp1 := h.ok.mk1 h.lt hA
    rw [show mkN ts p 33 = p + 1 from if_pos hA, hA] at hm1
    refine enterP Tryz.func135 rfl Tryz.ntmps135 rfl ?_
    repeat' (first | (refine WL_alloc hT rfl rfl rfl hSt ?_; clear hSt; intro w nb hnb hSt; replace hSt := hSt.front; dsimp only [zcells] at hSt) | (apply WL_ev rfl rfl; exact Ev_load1 hT rfl rfl (hSt.base h.hp (fun e => h.ne e)) rfl) | (refine WL_isCall (f := 78) ?_; refine WL_call (ok_call hT rfl) rfl rfl rfl (hm1 (h.next hSt (i := 1) rfl h.lt)) ?_; rintro v w2 ⟨rfl, hc2⟩; replace hSt := hSt.call1 (i := 1) rfl hc2; clear hc2; dsimp only [List.set] at hSt) | refine stepA ?_ | (refine stepS ?_; clear hSt; intro w hSt; dsimp only [spl, List.set] at hSt) | (refine stepB ?_; clear hSt; intro w nb hnb hSt; dsimp only [zcells, List.nil_append, List.cons_append] at hSt) | (refine W_quiet hT (by decide +kernel) hSt ?_; clear hSt; (repeat' (first | (apply QL_ev rfl rfl; (intro w hSt; (first | (exact Ev_load1 hT rfl rfl (hSt.base h.hp (fun e => h.ne e)) rfl) | exact Ev_auto))) | refine QL_pass rfl rfl ?_ | (refine QL_guardP rfl rfl (fun hc => ?_) (fun hc => ?_) <;> try exact absA) | (refine QL_guard rfl rfl (fun hc => ?_) (fun hc => ?_) <;> (try exact absA) <;> (fail_if_success (change true = true at hc)) <;> (fail_if_success (change false = false at hc))))); all_goals (refine QL_nil (fun w hSt => ?_))) | (refine stepG ?_ ?_ <;> intro hc <;> (try exact absA) <;> (fail_if_success (change true = true at hc)) <;> (fail_if_success (change false = false at hc))) | fail)
    all_goals try (exfalso; first | omega | (simp at hc; done) | (exact hc rfl) | contradiction)
    cases hx : oprF ts f (p + 1) with
    | none => rw [hx] at hr; cases hr
    | some r1 =>
      rw [hx] at hr
      refine WL_callP (ok_call hT rfl) rfl rfl rfl (ih1 (h.next hSt (i := 1) rfl hp1) r1 hx) ?_ ?_
      rotate_left 1
      · rintro x w2 ⟨q, q9, rfl, rfl, hc2⟩
        injection hr with hr
        subst hr
        (repeat (first | refine At_then_panic ?_ | refine At_in_panic ?_ | fail))
        exact panP ⟨q, q9, rfl, rfl, (hSt.call1 (i := 1) rfl hc2).only (by simp)⟩
      rintro x w2 ⟨c, q, x0, x1, x2, x3, HD, rfl, rfl, hC, hc2⟩
      injection hr with hr
      subst hr
      replace hSt := hSt.scCall1 (Ha := [_]) hc2
      clear hc2
      dsimp only [List.cons_append, List.nil_append] at hSt
      repeat' (first | (refine WL_buildSlice hT rfl rfl rfl rfl rfl rfl rfl rfl hSt ?_; clear hSt; intro w nb hnb hSt; replace hSt := hSt.front) | refine stepA ?_ | (refine stepS ?_; clear hSt; intro w hSt; dsimp only [spl, List.set] at hSt) | (refine stepB ?_; clear hSt; intro w nb hnb hSt; dsimp only [zcells, List.nil_append, List.cons_append] at hSt) | (refine W_quiet hT (by decide +kernel) hSt ?_; clear hSt; (repeat' (first | (apply QL_ev rfl rfl; (intro w hSt; (first | exact Ev_auto))) | refine QL_pass rfl rfl ?_ | (refine QL_guardP rfl rfl (fun hc => ?_) (fun hc => ?_) <;> try exact absA) | (refine QL_guard rfl rfl (fun hc => ?_) (fun hc => ?_) <;> (try exact absA) <;> (fail_if_success (change true = true at hc)) <;> (fail_if_success (change false = false at hc))))); all_goals (refine QL_nil (fun w hSt => ?_))) | (refine stepG ?_ ?_ <;> intro hc <;> (try exact absA) <;> (fail_if_success (change true = true at hc)) <;> (fail_if_success (change false = false at hc))) | fail)
      exact retQ (end_of (resc1 rfl hT rfl rfl (hSt.at 1 rfl) rfl rfl) ⟨_, q, _, _, _, _, _, rfl, rfl, hC.one, (hSt.sublist ((List.sublist_cons_self _ _).cons_cons _)).perm (List.Perm.swap _ _ _)⟩)
  rw [if_neg hA] at hr
  rw [show mkN ts p 33 = p from if_neg hA, show mkB ts p 33 = false by simpa using hA] at hm1
  have hm2 := fun {w : World} (h : PS w pb sc ts v p) => mark_any h.hs h.ht h.ok h.lt h.len9 40
  by_cases hB : mkB ts p 40 = true
  · rw [if_pos hB] at hr
    have hp1 := h.ok.mk1 h.lt hB
    rw [show mkN ts p 40 = p + 1 from if_pos hB, hB] at hm2
    refine enterP Tryz.func135 rfl Tryz.ntmps135 rfl ?_
    repeat' (first | (refine WL_alloc hT rfl rfl rfl hSt ?_; clear hSt; intro w nb hnb hSt; replace hSt := hSt.front; dsimp only [zcells] at hSt) | (apply WL_ev rfl rfl; exact Ev_load1 hT rfl rfl (hSt.base h.hp (fun e => h.ne e)) rfl) | (refine WL_isCall (f := 78) ?_; refine WL_call (ok_call hT rfl) rfl rfl rfl (hm1 (h.next hSt (i := 1) rfl h.lt)) ?_; rintro v w2 ⟨rfl, hc2⟩; replace hSt := hSt.call1 (i := 1) rfl hc2; clear hc2; dsimp only [List.set] at hSt) | (refine WL_isCall (f := 78) ?_; refine WL_call (ok_call hT rfl) rfl rfl rfl (hm2 (h.next hSt (i := 1) rfl h.lt)) ?_; rintro v w2 ⟨rfl, hc2⟩; replace hSt := hSt.call1 (i := 1) rfl hc2; clear hc2; dsimp only [List.set] at hSt) | refine stepA ?_ | (refine stepS ?_; clear hSt; intro w hSt; dsimp only [spl, List.set] at hSt) | (refine stepB ?_; clear hSt; intro w nb hnb hSt; dsimp only [zcells, List.nil_append, List.cons_append] at hSt) | (refine W_quiet hT (by decide +kernel) hSt ?_; clear hSt; (repeat' (first | (apply QL_ev rfl rfl; (intro w hSt; (first | (exact Ev_load1 hT rfl rfl (hSt.base h.hp (fun e => h.ne e)) rfl) | exact Ev_auto))) | refine QL_pass rfl rfl ?_ | (refine QL_guardP rfl rfl (fun hc => ?_) (fun hc => ?_) <;> try exact absA) | (refine QL_guard rfl rfl (fun hc => ?_) (fun hc => ?_) <;> (try exact absA) <;> (fail_if_success (change true = true at hc)) <;> (fail_if_success (change false = false at hc))))); all_goals (refine QL_nil (fun w hSt => ?_))) | (refine stepG ?_ ?_ <;> intro hc <;> (try exact absA) <;> (fail_if_success (change true = true at hc)) <;> (fail_if_success (change false = false at hc))) | fail)
    all_goals try (exfalso; first | omega | (simp at hc; done) | (exact hc rfl) | contradiction)
    cases hx : conF ts f (p + 1) with
    | none => rw [hx] at hr; cases hr
    | some r1 =>
      rw [hx] at hr
      refine WL_callP (ok_call hT rfl) rfl rfl rfl (ih2 (h.next hSt (i := 1) rfl hp1) r1 hx) ?_ ?_
      rotate_left 1
      · rintro x w2 ⟨q, q9, rfl, rfl, hc2⟩
        injection hr with hr
        subst hr
        (repeat (first | refine At_then_panic ?_ | refine At_in_panic ?_ | fail))
        exact panP ⟨q, q9, rfl, rfl, (hSt.call1 (i := 1) rfl hc2).only (by simp)⟩
      rintro x w2 ⟨c, q, x0, x1, x2, x3, HD, rfl, rfl, hC, hc2⟩
      have hq := hlt.2.2.2.1 _ _ _ hp1 hx
      obtain ⟨rfl, rfl, rfl, a4, n4, k4, rfl⟩ := hC.parts (hc2.right (Ha := [_])).has
      replace hSt := hSt.scCall1 (Ha := [_]) hc2
      clear hc2
      dsimp only [List.cons_append, List.nil_append] at hSt
      repeat' (first | (refine WL_alloc hT rfl rfl rfl hSt ?_; clear hSt; intro w nb hnb hSt; replace hSt := hSt.front; dsimp only [zcells] at hSt) | refine stepA ?_ | (refine stepS ?_; clear hSt; intro w hSt; dsimp only [spl, List.set] at hSt) | (refine stepB ?_; clear hSt; intro w nb hnb hSt; dsimp only [zcells, List.nil_append, List.cons_append] at hSt) | (refine W_quiet hT (by decide +kernel) hSt ?_; clear hSt; (repeat' (first | (apply QL_ev rfl rfl; (intro w hSt; (first | exact Ev_auto))) | refine QL_pass rfl rfl ?_ | (refine QL_guardP rfl rfl (fun hc => ?_) (fun hc => ?_) <;> try exact absA) | (refine QL_guard rfl rfl (fun hc => ?_) (fun hc => ?_) <;> (try exact absA) <;> (fail_if_success (change true = true at hc)) <;> (fail_if_success (change false = false at hc))))); all_goals (refine QL_nil (fun w hSt => ?_))) | (refine stepG ?_ ?_ <;> intro hc <;> (try exact absA) <;> (fail_if_success (change true = true at hc)) <;> (fail_if_success (change false = false at hc))) | fail)
      refine WL_callP (ok_call hT rfl) rfl rfl rfl (pmark_any (h.next hSt (i := 2) rfl hq) 41) ?_ ?_
      rotate_left 1
      · rintro x w2 ⟨q2, q9, e, rfl, hc2⟩
        obtain ⟨hD, rfl⟩ := markR_bad e
        simp only [if_neg hD] at hr
        injection hr with hr
        subst hr
        (repeat (first | refine At_then_panic ?_ | refine At_in_panic ?_ | fail))
        exact panP ⟨q2, q9, rfl, rfl, (hSt.call1 (i := 2) rfl hc2).only (by simp)⟩
      rintro x w2 ⟨u, q2, e, _, hc2⟩
      obtain ⟨hD, rfl, _⟩ := markR_ok h.ok hq e
      simp only [if_pos hD] at hr
      injection hr with hr
      subst hr
      replace hSt := hSt.scCall (Ha := [_, _]) hc2
      clear hc2
      dsimp only [List.cons_append, List.nil_append] at hSt
      repeat' (first | refine stepA ?_ | (refine stepS ?_; clear hSt; intro w hSt; dsimp only [spl, List.set] at hSt) | (refine stepB ?_; clear hSt; intro w nb hnb hSt; dsimp only [zcells, List.nil_append, List.cons_append] at hSt) | (refine W_quiet hT (by decide +kernel) hSt ?_; clear hSt; (repeat' (first | (apply QL_ev rfl rfl; (intro w hSt; (first | exact Ev_auto))) | refine QL_pass rfl rfl ?_ | (refine QL_guardP rfl rfl (fun hc => ?_) (fun hc => ?_) <;> try exact absA) | (refine QL_guard rfl rfl (fun hc => ?_) (fun hc => ?_) <;> (try exact absA) <;> (fail_if_success (change true = true at hc)) <;> (fail_if_success (change false = false at hc))))); all_goals (refine QL_nil (fun w hSt => ?_))) | (refine stepG ?_ ?_ <;> intro hc <;> (try exact absA) <;> (fail_if_success (change true = true at hc)) <;> (fail_if_success (change false = false at hc))) | fail)
      exact retQ (end_of (resc1 rfl hT rfl rfl (hSt.at 1 rfl) rfl rfl) ⟨_, _, _, _, _, _, HD, rfl, rfl, hC, by simpa using hSt.right (Ha := [_, _])⟩)
  rw [if_neg hB] at hr
  rw [show mkN ts p 40 = p from if_neg hB, show mkB ts p 40 = false by simpa using hB] at hm2
  refine enterP Tryz.func135 rfl Tryz.ntmps135 rfl ?_
  repeat' (first | (refine WL_alloc hT rfl rfl rfl hSt ?_; clear hSt; intro w nb hnb hSt; replace hSt := hSt.front; dsimp only [zcells] at hSt) | (apply WL_ev rfl rfl; exact Ev_load1 hT rfl rfl (hSt.base h.hp (fun e => h.ne e)) rfl) | (refine WL_isCall (f := 78) ?_; refine WL_call (ok_call hT rfl) rfl rfl rfl (hm1 (h.next hSt (i := 1) rfl h.lt)) ?_; rintro v w2 ⟨rfl, hc2⟩; replace hSt := hSt.call1 (i := 1) rfl hc2; clear hc2; dsimp only [List.set] at hSt) | (refine WL_isCall (f := 78) ?_; refine WL_call (ok_call hT rfl) rfl rfl rfl (hm2 (h.next hSt (i := 1) rfl h.lt)) ?_; rintro v w2 ⟨rfl, hc2⟩; replace hSt := hSt.call1 (i := 1) rfl hc2; clear hc2; dsimp only [List.set] at hSt) | refine stepA ?_ | (refine stepS ?_; clear hSt; intro w hSt; dsimp only [spl, List.set] at hSt) | (refine stepB ?_; clear hSt; intro w nb hnb hSt; dsimp only [zcells, List.nil_append, List.cons_append] at hSt) | (refine W_quiet hT (by decide +kernel) hSt ?_; clear hSt; (repeat' (first | (apply QL_ev rfl rfl; (intro w hSt; (first | (exact Ev_load1 hT rfl rfl (hSt.base h.hp (fun e => h.ne e)) rfl) | exact Ev_auto))) | refine QL_pass rfl rfl ?_ | (refine QL_guardP rfl rfl (fun hc => ?_) (fun hc => ?_) <;> try exact absA) | (refine QL_guard rfl rfl (fun hc => ?_) (fun hc => ?_) <;> (try exact absA) <;> (fail_if_success (change true = true at hc)) <;> (fail_if_success (change false = false at hc))))); all_goals (refine QL_nil (fun w hSt => ?_))) | (refine stepG ?_ ?_ <;> intro hc <;> (try exact absA) <;> (fail_if_success (change true = true at hc)) <;> (fail_if_success (change false = false at hc))) | fail)
  all_goals try (exfalso; first | omega | (simp at hc; done) | (exact hc rfl) | contradiction)
  refine WL_callP (ok_call hT rfl) rfl rfl rfl (ptake_any (h.next hSt (i := 1) rfl h.lt) 1 (by decide)) ?_ ?_
  rotate_left 1
  · rintro x w2 ⟨q1, q9, e, rfl, hc2⟩
    obtain ⟨hk, rfl⟩ := takeR_bad e
    rw [if_pos hk] at hr
    injection hr with hr
    subst hr
    (repeat (first | refine At_then_panic ?_ | refine At_in_panic ?_ | fail))
    exact panP ⟨q1, q9, rfl, rfl, (hSt.call1 (i := 1) rfl hc2).only (by simp)⟩
  rintro x w2 ⟨n, q1, e, rfl, hc2⟩
  obtain ⟨hk, rfl, rfl, hq1⟩ := takeR_ok h.ok h.lt (by decide) e
  rw [if_neg (by omega)] at hr
  replace hSt := hSt.call1 (i := 1) rfl hc2
  clear hc2
  dsimp only [List.set] at hSt
  have hm3 := fun {w : World} (h : PS w pb sc ts v (p + 1)) => mark_any h.hs h.ht h.ok h.lt h.len9 61
  by_cases hE : mkB ts (p + 1) 61 = true
  · rw [if_pos hE] at hr
    have hp2 := h.ok.mk1 hq1 hE
    rw [show mkN ts (p + 1) 61 = p + 2 from if_pos hE, hE] at hm3
    repeat' (first | (apply WL_ev rfl rfl; exact Ev_load1 hT rfl rfl (hSt.base h.hp (fun e => h.ne e)) rfl) | (refine WL_isCall (f := 78) ?_; refine WL_call (ok_call hT rfl) rfl rfl rfl (hm3 (h.next hSt (i := 1) rfl hq1)) ?_; rintro v w2 ⟨rfl, hc2⟩; replace hSt := hSt.call1 (i := 1) rfl hc2; clear hc2; dsimp only [List.set] at hSt) | refine stepA ?_ | (refine stepS ?_; clear hSt; intro w hSt; dsimp only [spl, List.set] at hSt) | (refine stepB ?_; clear hSt; intro w nb hnb hSt; dsimp only [zcells, List.nil_append, List.cons_append] at hSt) | (refine W_quiet hT (by decide +kernel) hSt ?_; clear hSt; (repeat' (first | (apply QL_ev rfl rfl; (intro w hSt; (first | (exact Ev_load1 hT rfl rfl (hSt.base h.hp (fun e => h.ne e)) rfl) | exact Ev_auto))) | refine QL_pass rfl rfl ?_ | (refine QL_guardP rfl rfl (fun hc => ?_) (fun hc => ?_) <;> try exact absA) | (refine QL_guard rfl rfl (fun hc => ?_) (fun hc => ?_) <;> (try exact absA) <;> (fail_if_success (change true = true at hc)) <;> (fail_if_success (change false = false at hc))))); all_goals (refine QL_nil (fun w hSt => ?_))) | (refine stepG ?_ ?_ <;> intro hc <;> (try exact absA) <;> (fail_if_success (change true = true at hc)) <;> (fail_if_success (change false = false at hc))) | fail)
    all_goals try (exfalso; first | omega | (simp at hc; done) | (exact hc rfl) | contradiction)
    refine WL_callP (ok_call hT rfl) rfl rfl rfl (ptake_any (h.next hSt (i := 1) rfl hp2) 3 (by decide)) ?_ ?_
    rotate_left 1
    · rintro x w2 ⟨q2, q9, e2, rfl, hc2⟩
      obtain ⟨hk2, rfl⟩ := takeR_bad e2
      rw [if_neg hk2] at hr
      injection hr with hr
      subst hr
      (repeat (first | refine At_then_panic ?_ | refine At_in_panic ?_ | fail))
      exact panP ⟨_, q9, rfl, rfl, (hSt.call1 (i := 1) rfl hc2).only (by simp)⟩
    rintro x w2 ⟨t, q2, e2, rfl, hc2⟩
    obtain ⟨hk2, rfl, rfl, hq2⟩ := takeR_ok h.ok hp2 (by decide) e2
    rw [if_pos hk2] at hr
    injection hr with hr
    subst hr
    replace hSt := hSt.call1 (i := 1) rfl hc2
    clear hc2
    dsimp only [List.set] at hSt
    repeat' (first | refine stepA ?_ | (refine stepS ?_; clear hSt; intro w hSt; dsimp only [spl, List.set] at hSt) | (refine stepB ?_; clear hSt; intro w nb hnb hSt; dsimp only [zcells, List.nil_append, List.cons_append] at hSt) | (refine W_quiet hT (by decide +kernel) hSt ?_; clear hSt; (repeat' (first | (apply QL_ev rfl rfl; (intro w hSt; (first | exact Ev_auto))) | refine QL_pass rfl rfl ?_ | (refine QL_guardP rfl rfl (fun hc => ?_) (fun hc => ?_) <;> try exact absA) | (refine QL_guard rfl rfl (fun hc => ?_) (fun hc => ?_) <;> (try exact absA) <;> (fail_if_success (change true = true at hc)) <;> (fail_if_success (change false = false at hc))))); all_goals (refine QL_nil (fun w hSt => ?_))) | (refine stepG ?_ ?_ <;> intro hc <;> (try exact absA) <;> (fail_if_success (change true = true at hc)) <;> (fail_if_success (change false = false at hc))) | fail)
    exact retQ (end_of (resc1 rfl hT rfl rfl (hSt.at 0 rfl) rfl rfl) ⟨_, _, _, _, _, _, [], rfl, rfl, CondO.leaf (h.tl _), hSt.right (Ha := [_])⟩)
  rw [if_neg hE] at hr
  rw [show mkN ts (p + 1) 61 = p + 1 from if_neg hE, show mkB ts (p + 1) 61 = false by simpa using hE] at hm3
  by_cases hF : (tkAt ts p).tx = wTrue
  · rw [if_neg (fun e => e hF)] at hr
    injection hr with hr
    subst hr
    rw [hF]
    repeat' (first | (apply WL_ev rfl rfl; exact Ev_load1 hT rfl rfl (hSt.base h.hp (fun e => h.ne e)) rfl) | (refine WL_isCall (f := 78) ?_; refine WL_call (ok_call hT rfl) rfl rfl rfl (hm3 (h.next hSt (i := 1) rfl hq1)) ?_; rintro v w2 ⟨rfl, hc2⟩; replace hSt := hSt.call1 (i := 1) rfl hc2; clear hc2; dsimp only [List.set] at hSt) | refine stepA ?_ | (refine stepS ?_; clear hSt; intro w hSt; dsimp only [spl, List.set] at hSt) | (refine stepB ?_; clear hSt; intro w nb hnb hSt; dsimp only [zcells, List.nil_append, List.cons_append] at hSt) | (refine W_quiet hT (by decide +kernel) hSt ?_; clear hSt; (repeat' (first | (apply QL_ev rfl rfl; (intro w hSt; (first | (exact Ev_load1 hT rfl rfl (hSt.base h.hp (fun e => h.ne e)) rfl) | exact Ev_auto))) | refine QL_pass rfl rfl ?_ | (refine QL_guardP rfl rfl (fun hc => ?_) (fun hc => ?_) <;> try exact absA) | (refine QL_guard rfl rfl (fun hc => ?_) (fun hc => ?_) <;> (try exact absA) <;> (fail_if_success (change true = true at hc)) <;> (fail_if_success (change false = false at hc))))); all_goals (refine QL_nil (fun w hSt => ?_))) | (refine stepG ?_ ?_ <;> intro hc <;> (try exact absA) <;> (fail_if_success (change true = true at hc)) <;> (fail_if_success (change false = false at hc))) | fail)
    all_goals try (exfalso; first | omega | (simp at hc; done) | (exact hc rfl) | contradiction)
    all_goals exact retQ (end_of (resc1 rfl hT rfl rfl (hSt.at 0 rfl) rfl rfl) ⟨_, _, _, _, _, _, [], rfl, rfl, CondO.leaf (by decide), hSt.right (Ha := [_])⟩)
  · rw [if_pos hF] at hr
    injection hr with hr
    subst hr
    have hF2 : ¬ (tkAt ts p).tx = [116, 114, 117, 101] := hF
    repeat' (first | (apply WL_ev rfl rfl; exact Ev_load1 hT rfl rfl (hSt.base h.hp (fun e => h.ne e)) rfl) | (refine WL_isCall (f := 78) ?_; refine WL_call (ok_call hT rfl) rfl rfl rfl (hm3 (h.next hSt (i := 1) rfl hq1)) ?_; rintro v w2 ⟨rfl, hc2⟩; replace hSt := hSt.call1 (i := 1) rfl hc2; clear hc2; dsimp only [List.set] at hSt) | (refine WL_isCall (f := 75) ?_; refine WL_callP (ok_call hT rfl) rfl rfl rfl (misfit_any (h.next hSt (i := 1) rfl hq1)) (fun _ _ e => e.elim) ?_; (rintro x w2 ⟨rfl, hc2⟩; (repeat (first | refine At_then_panic ?_ | refine At_in_panic ?_ | fail)); exact panP ⟨p + 1, p + 1, rfl, rfl, (hSt.call0 hc2).only (by simp)⟩)) | refine stepA ?_ | (refine stepS ?_; clear hSt; intro w hSt; dsimp only [spl, List.set] at hSt) | (refine stepB ?_; clear hSt; intro w nb hnb hSt; dsimp only [zcells, List.nil_append, List.cons_append] at hSt) | (refine W_quiet hT (by decide +kernel) hSt ?_; clear hSt; (repeat' (first | (apply QL_ev rfl rfl; (intro w hSt; (first | (exact Ev_load1 hT rfl rfl (hSt.base h.hp (fun e => h.ne e)) rfl) | exact Ev_auto))) | refine QL_pass rfl rfl ?_ | (refine QL_guardP rfl rfl (fun hc => ?_) (fun hc => ?_) <;> try exact absA) | (refine QL_guard rfl rfl (fun hc => ?_) (fun hc => ?_) <;> (try exact absA) <;> (fail_if_success (change true = true at hc)) <;> (fail_if_success (change false = false at hc))))); all_goals (refine QL_nil (fun w hSt => ?_))) | (refine stepG ?_ ?_ <;> intro hc <;> (try exact absA) <;> (fail_if_success (change true = true at hc)) <;> (fail_if_success (change false = false at hc))) | fail)
    all_goals try (exfalso; first | omega | (simp at hc; done) | (exact hc rfl) | contradiction)
    all_goals trivial
end
end Go.Proofs.YtknfankadlokhaaGreatDoor

namespace Go.Proofs.YtknfankadlokhaaGreatDoor
open Go.RowKit
set_option maxRecDepth 4000
set_option linter.unusedVariables false
set_option linter.unusedSimpArgs false
set_option maxHeartbeats 16000000

section
variable {w0 : World} {pb sc p : Nat} {v : Value} {ts : List Tk}
theorem conj_any {f : Nat} (ih : ∀ g, g ≤ f → OpC ts g) : CjC ts (f + 1) := by
  intro w0 pb sc p v h r hr
  have hSt := h.start
  have hlt := fun g => (par_lt h.ok g).1
  rw [cnjF] at hr
  refine enterP Tryz.func111 rfl Tryz.ntmps111 rfl ?_
  repeat' (first | (refine WL_alloc hT rfl rfl rfl hSt ?_; clear hSt; intro w nb hnb hSt; replace hSt := hSt.front; dsimp only [zcells] at hSt) | refine stepA ?_ | (refine stepS ?_; clear hSt; intro w hSt; dsimp only [spl, List.set] at hSt) | (refine stepB ?_; clear hSt; intro w nb hnb hSt; dsimp only [zcells, List.nil_append, List.cons_append] at hSt) | (refine stepG ?_ ?_ <;> intro hc <;> (try exact absA) <;> (fail_if_success (change true = true at hc)) <;> (fail_if_success (change false = false at hc))) | fail)
  obtain ⟨t2b, rfl⟩ : ∃ x, x = nb := ⟨nb, rfl⟩
  cases hx : oprF ts f p with
  | none => rw [hx] at hr; cases hr
  | some r1 =>
    rw [hx] at hr
    refine WL_callP (ok_call hT rfl) rfl rfl rfl (ih f (Nat.le_refl f) (h.next hSt (i := 1) rfl h.lt) r1 hx) ?_ ?_
    rotate_left 1
    · rintro x w2 ⟨q, q9, rfl, rfl, hc2⟩
      injection hr with hr
      subst hr
      (repeat (first | refine At_then_panic ?_ | refine At_in_panic ?_ | fail))
      exact panP ⟨q, q9, rfl, rfl, (hSt.call1 (i := 1) rfl hc2).only (by simp)⟩
    rintro x w2 ⟨c, q, x0, x1, x2, x3, HD, rfl, rfl, hC, hc2⟩
    have hq := hlt f _ _ _ h.lt hx
    obtain ⟨rfl, rfl, rfl, a4, n4, k4, rfl⟩ := hC.parts (hc2.right (Ha := [_])).has
    replace hSt := hSt.scCall1 (Ha := [_]) hc2
    clear hc2
    dsimp only [List.cons_append, List.nil_append] at hSt hr
    repeat' (first | (refine WL_alloc hT rfl rfl rfl hSt ?_; clear hSt; intro w nb hnb hSt; replace hSt := hSt.front; dsimp only [zcells] at hSt) | refine stepA ?_ | (refine stepS ?_; clear hSt; intro w hSt; dsimp only [spl, List.set] at hSt) | (refine stepB ?_; clear hSt; intro w nb hnb hSt; dsimp only [zcells, List.nil_append, List.cons_append] at hSt) | (refine stepG ?_ ?_ <;> intro hc <;> (try exact absA) <;> (fail_if_success (change true = true at hc)) <;> (fail_if_success (change false = false at hc))) | fail)
    refine W_sub (L' := [(0, Ptr pb), (2, Ptr t2b), (3, Ptr nb)]) (by (repeat (first | exact Sub.nil _ | refine Sub.cons rfl ?_))) ?_
    refine W_loop1 (fun k (g : Nat) w => k = g ∧ g ≤ f ∧ ∃ c q a4 n4 k4 HD, cnjL ts g c q = some r ∧ q < ts.length ∧ CondO HD c [I c.op, S c.name, S c.text, .slice a4 n4 k4] ∧ St w0 (· = sc) ((nb, blk [I c.op, S c.name, S c.text, .slice a4 n4 k4] 38) :: (t2b, blk [I 0, S [], S [], .slice none 0 0] 38) :: (sc, scO v q) :: HD) w) (fun _ => []) f f rfl (by (repeat (first | exact Str.nil _ | apply Str.drop rfl | apply Str.keepU rfl | apply Str.keep rfl))) ⟨rfl, Nat.le_refl f, c, q, a4, n4, k4, HD, hr, hq, hC, hSt⟩ (by (repeat (first | exact Sub.nil _ | refine Sub.cons rfl ?_))) ?_
    clear hSt hC hr hx hq
    clear c q a4 n4 k4 HD w
    rintro k g w ⟨hk, hg, c, q, a4, n4, k4, HD, hL, hq, hC, hSt⟩ K hK
    have hm := fun {w : World} (h : PS w pb sc ts v q) => mark_any h.hs h.ht h.ok h.lt h.len9 38
    cases g with
    | zero => rw [cnjL] at hL; cases hL
    | succ g =>
      rw [cnjL] at hL
      by_cases hA : mkB ts q 38 = true
      · rw [if_pos hA] at hL
        have hp1 := h.ok.mk1 hq hA
        rw [show mkN ts q 38 = q + 1 from if_pos hA, hA] at hm
        cases hx : oprF ts g (q + 1) with
        | none => rw [hx] at hL; cases hL
        | some r1 =>
          rw [hx] at hL
          have ihg := fun {w : World} (h : PS w pb sc ts v (q + 1)) => ih g (by omega) h r1 hx
          repeat' (first | (apply WL_ev rfl rfl; exact Ev_load1 hT rfl rfl (hSt.base h.hp (fun e => h.ne e)) rfl) | (refine WL_isCall (f := 78) ?_; refine WL_call (ok_call hT rfl) rfl rfl rfl (hm (h.next hSt (i := 2) rfl hq)) ?_; rintro v w2 ⟨rfl, hc2⟩; replace hSt := hSt.call1 (i := 2) rfl hc2; clear hc2; dsimp only [List.set] at hSt) | refine stepA ?_ | (refine stepS ?_; clear hSt; intro w hSt; dsimp only [spl, List.set] at hSt) | (refine stepB ?_; clear hSt; intro w nb hnb hSt; dsimp only [zcells, List.nil_append, List.cons_append] at hSt) | (refine stepG ?_ ?_ <;> intro hc <;> (try exact absA) <;> (fail_if_success (change true = true at hc)) <;> (fail_if_success (change false = false at hc))) | fail)
          refine W_ownP (Hs := [_]) [(0, false), (1, false), (2, true), (3, true), (4, false)] [] (fun ch w => ∃ q' q9, ch = pan (failV 2 (tkAt ts q').at_) ∧ r = .bad q' ∧ St w0 (· = sc) [(sc, scO v q9)] w) hT (by decide +kernel) rfl hSt ?_ ?_
          · rintro ch w5 ⟨q', q9, rfl, rfl, hS⟩
            (repeat (first | refine At_then_panic ?_ | refine At_in_panic ?_ | fail))
            exact panP ⟨q', q9, rfl, rfl, hS⟩
          clear hSt
          intro w hSt
          iterate 2 (apply HP_ev rfl rfl rfl (St.left (H0 := [_]) hSt); (intro w hSt; (first | exact Ev_auto)))
          refine HP_one ?_
          refine WL_callP (ok_call hT rfl) rfl rfl rfl (ihg (h.next hSt (i := 2) rfl hp1)) ?_ ?_
          rotate_left 1
          · rintro x w6 ⟨q', q9, rfl, rfl, hc2⟩
            injection hL with hL
            subst hL
            exact At_oneX (Sub.nil _) ⟨q', q9, rfl, rfl, (hSt.call1 (i := 2) rfl hc2).only (by simp)⟩
          rintro x w6 ⟨d, q2, y0, y1, y2, y3, HE, rfl, rfl, hD, hc2⟩
          have hq2 := hlt g _ _ _ hp1 hx
          obtain ⟨rfl, rfl, rfl, b4, m4, j4, rfl⟩ := hD.parts (hc2.right (Ha := [_])).has
          replace hSt := hSt.scCall (Ha := [_, _]) hc2
          clear hc2
          dsimp only [List.cons_append, List.nil_append] at hSt hL
          refine WL_nil (At_oneP (St.left (H0 := [_]) hSt) ?_)
          refine HP_one ?_
          refine WL_buildSlice hT rfl rfl rfl rfl rfl rfl rfl rfl hSt ?_
          clear hSt
          intro w nb2 hnb2 hSt
          dsimp only [List.cons_append, List.nil_append] at hSt
          refine WL_nil (At_oneP (St.left (H0 := [_]) hSt) ?_)
          (apply HP_ev rfl rfl rfl (St.left (H0 := [_]) hSt); (intro w hSt; (first | exact Ev_auto)))
          refine HP_end ?_
          simp only [List.length_cons, List.length_nil, List.drop_succ_cons, List.drop_zero]
          repeat' (first | refine stepA ?_ | (refine stepS ?_; clear hSt; intro w hSt; dsimp only [spl, List.set] at hSt) | (refine stepB ?_; clear hSt; intro w nb hnb hSt; dsimp only [zcells, List.nil_append, List.cons_append] at hSt) | (refine stepG ?_ ?_ <;> intro hc <;> (try exact absA) <;> (fail_if_success (change true = true at hc)) <;> (fail_if_success (change false = false at hc))) | fail)
          refine At_QP ?_
          repeat' (first | refine stepA ?_ | (refine stepS ?_; clear hSt; intro w hSt; dsimp only [spl, List.set] at hSt) | (refine stepB ?_; clear hSt; intro w nb hnb hSt; dsimp only [zcells, List.nil_append, List.cons_append] at hSt) | (refine stepG ?_ ?_ <;> intro hc <;> (try exact absA) <;> (fail_if_success (change true = true at hc)) <;> (fail_if_success (change false = false at hc))) | fail)
          exact At_loop1 hK (k' := g) g (by omega) ⟨rfl, by omega, .mk 4 [] [] [c, d], q2, _, _, _, _, hL, hq2, CondO.two hC hD, hSt.perm (List.Perm.cons _ (List.Perm.cons _ (List.Perm.cons _ (List.perm_append_singleton _ _).symm)))⟩ (by (repeat (first | exact Sub.nil _ | refine Sub.cons rfl ?_)))
      · rw [if_neg hA] at hL
        injection hL with hL
        subst hL
        rw [show mkN ts q 38 = q from if_neg hA, show mkB ts q 38 = false by simpa using hA] at hm
        repeat' (first | (apply WL_ev rfl rfl; exact Ev_load1 hT rfl rfl (hSt.base h.hp (fun e => h.ne e)) rfl) | (refine WL_isCall (f := 78) ?_; refine WL_call (ok_call hT rfl) rfl rfl rfl (hm (h.next hSt (i := 2) rfl hq)) ?_; rintro v w2 ⟨rfl, hc2⟩; replace hSt := hSt.call1 (i := 2) rfl hc2; clear hc2; dsimp only [List.set] at hSt) | refine stepA ?_ | (refine stepS ?_; clear hSt; intro w hSt; dsimp only [spl, List.set] at hSt) | (refine stepB ?_; clear hSt; intro w nb hnb hSt; dsimp only [zcells, List.nil_append, List.cons_append] at hSt) | (refine stepG ?_ ?_ <;> intro hc <;> (try exact absA) <;> (fail_if_success (change true = true at hc)) <;> (fail_if_success (change false = false at hc))) | fail)
        exact retQ (end_of (resc1 rfl hT rfl rfl (hSt.at 1 rfl) rfl rfl) ⟨c, q, _, _, _, _, HD, rfl, rfl, hC, hSt.right (Ha := [_, _])⟩)
theorem cond_any {f : Nat} (ih : ∀ g, g ≤ f → CjC ts g) : CoC ts (f + 1) := by
  intro w0 pb sc p v h r hr
  have hSt := h.start
  have hlt := fun g => (par_lt h.ok g).2.1
  rw [conF] at hr
  refine enterP Tryz.func65 rfl Tryz.ntmps65 rfl ?_
  repeat' (first | (refine WL_alloc hT rfl rfl rfl hSt ?_; clear hSt; intro w nb hnb hSt; replace hSt := hSt.front; dsimp only [zcells] at hSt) | refine stepA ?_ | (refine stepS ?_; clear hSt; intro w hSt; dsimp only [spl, List.set] at hSt) | (refine stepB ?_; clear hSt; intro w nb hnb hSt; dsimp only [zcells, List.nil_append, List.cons_append] at hSt) | (refine stepG ?_ ?_ <;> intro hc <;> (try exact absA) <;> (fail_if_success (change true = true at hc)) <;> (fail_if_success (change false = false at hc))) | fail)
  obtain ⟨t2b, rfl⟩ : ∃ x, x = nb := ⟨nb, rfl⟩
  cases hx : cnjF ts f p with
  | none => rw [hx] at hr; cases hr
  | some r1 =>
    rw [hx] at hr
    refine WL_callP (ok_call hT rfl) rfl rfl rfl (ih f (Nat.le_refl f) (h.next hSt (i := 1) rfl h.lt) r1 hx) ?_ ?_
    rotate_left 1
    · rintro x w2 ⟨q, q9, rfl, rfl, hc2⟩
      injection hr with hr
      subst hr
      (repeat (first | refine At_then_panic ?_ | refine At_in_panic ?_ | fail))
      exact panP ⟨q, q9, rfl, rfl, (hSt.call1 (i := 1) rfl hc2).only (by simp)⟩
    rintro x w2 ⟨c, q, x0, x1, x2, x3, HD, rfl, rfl, hC, hc2⟩
    have hq := hlt f _ _ _ h.lt hx
    obtain ⟨rfl, rfl, rfl, a4, n4, k4, rfl⟩ := hC.parts (hc2.right (Ha := [_])).has
    replace hSt := hSt.scCall1 (Ha := [_]) hc2
    clear hc2
    dsimp only [List.cons_append, List.nil_append] at hSt hr
    repeat' (first | (refine WL_alloc hT rfl rfl rfl hSt ?_; clear hSt; intro w nb hnb hSt; replace hSt := hSt.front; dsimp only [zcells] at hSt) | refine stepA ?_ | (refine stepS ?_; clear hSt; intro w hSt; dsimp only [spl, List.set] at hSt) | (refine stepB ?_; clear hSt; intro w nb hnb hSt; dsimp only [zcells, List.nil_append, List.cons_append] at hSt) | (refine stepG ?_ ?_ <;> intro hc <;> (try exact absA) <;> (fail_if_success (change true = true at hc)) <;> (fail_if_success (change false = false at hc))) | fail)
    refine W_sub (L' := [(0, Ptr pb), (2, Ptr t2b), (3, Ptr nb)]) (by (repeat (first | exact Sub.nil _ | refine Sub.cons rfl ?_))) ?_
    refine W_loop1 (fun k (g : Nat) w => k = g ∧ g ≤ f ∧ ∃ c q a4 n4 k4 HD, conL ts g c q = some r ∧ q < ts.length ∧ CondO HD c [I c.op, S c.name, S c.text, .slice a4 n4 k4] ∧ St w0 (· = sc) ((nb, blk [I c.op, S c.name, S c.text, .slice a4 n4 k4] 38) :: (t2b, blk [I 0, S [], S [], .slice none 0 0] 38) :: (sc, scO v q) :: HD) w) (fun _ => []) f f rfl (by (repeat (first | exact Str.nil _ | apply Str.drop rfl | apply Str.keepU rfl | apply Str.keep rfl))) ⟨rfl, Nat.le_refl f, c, q, a4, n4, k4, HD, hr, hq, hC, hSt⟩ (by (repeat (first | exact Sub.nil _ | refine Sub.cons rfl ?_))) ?_
    clear hSt hC hr hx hq
    clear c q a4 n4 k4 HD w
    rintro k g w ⟨hk, hg, c, q, a4, n4, k4, HD, hL, hq, hC, hSt⟩ K hK
    have hm := fun {w : World} (h : PS w pb sc ts v q) => mark_any h.hs h.ht h.ok h.lt h.len9 124
    cases g with
    | zero => rw [conL] at hL; cases hL
    | succ g =>
      rw [conL] at hL
      by_cases hA : mkB ts q 124 = true
      · rw [if_pos hA] at hL
        have hp1 := h.ok.mk1 hq hA
        rw [show mkN ts q 124 = q + 1 from if_pos hA, hA] at hm
        cases hx : cnjF ts g (q + 1) with
        | none => rw [hx] at hL; cases hL
        | some r1 =>
          rw [hx] at hL
          have ihg := fun {w : World} (h : PS w pb sc ts v (q + 1)) => ih g (by omega) h r1 hx
          repeat' (first | (apply WL_ev rfl rfl; exact Ev_load1 hT rfl rfl (hSt.base h.hp (fun e => h.ne e)) rfl) | (refine WL_isCall (f := 78) ?_; refine WL_call (ok_call hT rfl) rfl rfl rfl (hm (h.next hSt (i := 2) rfl hq)) ?_; rintro v w2 ⟨rfl, hc2⟩; replace hSt := hSt.call1 (i := 2) rfl hc2; clear hc2; dsimp only [List.set] at hSt) | refine stepA ?_ | (refine stepS ?_; clear hSt; intro w hSt; dsimp only [spl, List.set] at hSt) | (refine stepB ?_; clear hSt; intro w nb hnb hSt; dsimp only [zcells, List.nil_append, List.cons_append] at hSt) | (refine stepG ?_ ?_ <;> intro hc <;> (try exact absA) <;> (fail_if_success (change true = true at hc)) <;> (fail_if_success (change false = false at hc))) | fail)
          refine W_ownP (Hs := [_]) [(0, false), (1, false), (2, true), (3, true), (4, false)] [] (fun ch w => ∃ q' q9, ch = pan (failV 2 (tkAt ts q').at_) ∧ r = .bad q' ∧ St w0 (· = sc) [(sc, scO v q9)] w) hT (by decide +kernel) rfl hSt ?_ ?_
          · rintro ch w5 ⟨q', q9, rfl, rfl, hS⟩
            (repeat (first | refine At_then_panic ?_ | refine At_in_panic ?_ | fail))
            exact panP ⟨q', q9, rfl, rfl, hS⟩
          clear hSt
          intro w hSt
          iterate 2 (apply HP_ev rfl rfl rfl (St.left (H0 := [_]) hSt); (intro w hSt; (first | exact Ev_auto)))
          refine HP_one ?_
          refine WL_callP (ok_call hT rfl) rfl rfl rfl (ihg (h.next hSt (i := 2) rfl hp1)) ?_ ?_
          rotate_left 1
          · rintro x w6 ⟨q', q9, rfl, rfl, hc2⟩
            injection hL with hL
            subst hL
            exact At_oneX (Sub.nil _) ⟨q', q9, rfl, rfl, (hSt.call1 (i := 2) rfl hc2).only (by simp)⟩
          rintro x w6 ⟨d, q2, y0, y1, y2, y3, HE, rfl, rfl, hD, hc2⟩
          have hq2 := hlt g _ _ _ hp1 hx
          obtain ⟨rfl, rfl, rfl, b4, m4, j4, rfl⟩ := hD.parts (hc2.right (Ha := [_])).has
          replace hSt := hSt.scCall (Ha := [_, _]) hc2
          clear hc2
          dsimp only [List.cons_append, List.nil_append] at hSt hL
          refine WL_nil (At_oneP (St.left (H0 := [_]) hSt) ?_)
          refine HP_one ?_
          refine WL_buildSlice hT rfl rfl rfl rfl rfl rfl rfl rfl hSt ?_
          clear hSt
          intro w nb2 hnb2 hSt
          dsimp only [List.cons_append, List.nil_append] at hSt
          refine WL_nil (At_oneP (St.left (H0 := [_]) hSt) ?_)
          (apply HP_ev rfl rfl rfl (St.left (H0 := [_]) hSt); (intro w hSt; (first | exact Ev_auto)))
          refine HP_end ?_
          simp only [List.length_cons, List.length_nil, List.drop_succ_cons, List.drop_zero]
          repeat' (first | refine stepA ?_ | (refine stepS ?_; clear hSt; intro w hSt; dsimp only [spl, List.set] at hSt) | (refine stepB ?_; clear hSt; intro w nb hnb hSt; dsimp only [zcells, List.nil_append, List.cons_append] at hSt) | (refine stepG ?_ ?_ <;> intro hc <;> (try exact absA) <;> (fail_if_success (change true = true at hc)) <;> (fail_if_success (change false = false at hc))) | fail)
          refine At_QP ?_
          repeat' (first | refine stepA ?_ | (refine stepS ?_; clear hSt; intro w hSt; dsimp only [spl, List.set] at hSt) | (refine stepB ?_; clear hSt; intro w nb hnb hSt; dsimp only [zcells, List.nil_append, List.cons_append] at hSt) | (refine stepG ?_ ?_ <;> intro hc <;> (try exact absA) <;> (fail_if_success (change true = true at hc)) <;> (fail_if_success (change false = false at hc))) | fail)
          exact At_loop1 hK (k' := g) g (by omega) ⟨rfl, by omega, .mk 5 [] [] [c, d], q2, _, _, _, _, hL, hq2, CondO.two hC hD, hSt.perm (List.Perm.cons _ (List.Perm.cons _ (List.Perm.cons _ (List.perm_append_singleton _ _).symm)))⟩ (by (repeat (first | exact Sub.nil _ | refine Sub.cons rfl ?_)))
      · rw [if_neg hA] at hL
        injection hL with hL
        subst hL
        rw [show mkN ts q 124 = q from if_neg hA, show mkB ts q 124 = false by simpa using hA] at hm
        repeat' (first | (apply WL_ev rfl rfl; exact Ev_load1 hT rfl rfl (hSt.base h.hp (fun e => h.ne e)) rfl) | (refine WL_isCall (f := 78) ?_; refine WL_call (ok_call hT rfl) rfl rfl rfl (hm (h.next hSt (i := 2) rfl hq)) ?_; rintro v w2 ⟨rfl, hc2⟩; replace hSt := hSt.call1 (i := 2) rfl hc2; clear hc2; dsimp only [List.set] at hSt) | refine stepA ?_ | (refine stepS ?_; clear hSt; intro w hSt; dsimp only [spl, List.set] at hSt) | (refine stepB ?_; clear hSt; intro w nb hnb hSt; dsimp only [zcells, List.nil_append, List.cons_append] at hSt) | (refine stepG ?_ ?_ <;> intro hc <;> (try exact absA) <;> (fail_if_success (change true = true at hc)) <;> (fail_if_success (change false = false at hc))) | fail)
        exact retQ (end_of (resc1 rfl hT rfl rfl (hSt.at 1 rfl) rfl rfl) ⟨c, q, _, _, _, _, HD, rfl, rfl, hC, hSt.right (Ha := [_, _])⟩)
theorem zero_op : OpC ts 0 := fun h r hr => by rw [oprF] at hr; cases hr
theorem zero_cj : CjC ts 0 := fun h r hr => by rw [cnjF] at hr; cases hr
theorem zero_co : CoC ts 0 := fun h r hr => by rw [conF] at hr; cases hr
theorem conds_any : ∀ f : Nat, ∀ g, g ≤ f → OpC ts g ∧ CjC ts g ∧ CoC ts g
  | 0, g, hg => by
    obtain rfl : g = 0 := by omega
    exact ⟨zero_op, zero_cj, zero_co⟩
  | f + 1, g, hg => by
    have ih := conds_any f
    by_cases e : g ≤ f
    · exact ih g e
    · obtain rfl : g = f + 1 := by omega
      exact ⟨operand_any (ih f (Nat.le_refl f)).1 (ih f (Nat.le_refl f)).2.2, conj_any (fun g hg => (ih g hg).1), cond_any (fun g hg => (ih g hg).2.1)⟩
end
end Go.Proofs.YtknfankadlokhaaGreatDoor

namespace Go.Proofs.YtknfankadlokhaaGreatDoor
open Go.RowKit
set_option maxRecDepth 4000
set_option linter.unusedVariables false
set_option linter.unusedSimpArgs false
set_option maxHeartbeats 16000000

section
variable {w0 : World} {pb sc p : Nat} {v : Value} {ts : List Tk}
theorem setR_ok {ts : List Tk} (hk : TkOk ts) {p q : Nat} {s : Sg} (hp : p < ts.length) (e : setR ts p = .ok s q) : p < q ∧ q < ts.length := by
  unfold setR at e
  split at e
  · cases e
  rename_i n q1 h1
  obtain ⟨_, _, rfl, l1⟩ := takeR_ok hk hp (by decide) h1
  split at e
  · cases e
  rename_i u q2 h2
  obtain ⟨_, rfl, l2⟩ := markR_ok hk l1 h2
  split at e
  · cases e
  rename_i t q3 h3
  obtain ⟨_, _, rfl, l3⟩ := takeR_ok hk l2 (by decide) h3
  injection e with e1 e2
  subst e2
  exact ⟨by omega, l3⟩
abbrev OkS (r : Rs (List Sg)) (sc : Nat) (v : Value) (w0 : World) : Value → World → Prop := fun x w' => ∃ l q HL, r = .ok l q ∧ OwnSl x 57 2 (l.flatMap sgC) l.length HL ∧ l.length ≤ q ∧ St w0 (· = sc) ((sc, scO v q) :: HL) w'
theorem psettings_any {f : Nat} (h : PS w0 pb sc ts v p) (r : Rs (List Sg)) (hr : setsR ts f p = some r) : Cp Tryz.prog 36 [Ptr pb] w0 (OkS r sc v w0) (BadR ts r sc v w0) := by
  have hSt := h.start
  have hpk := fun {w : World} (h : PS w pb sc ts v p) => peek_any h.hs (h.ht.unwo (by decide)) h.lt
  unfold setsR at hr
  obtain ⟨⟨kd, tx, nn, at_⟩, ht0⟩ : ∃ t, tkAt ts p = t := ⟨_, rfl⟩
  rw [ht0] at hr hpk
  dsimp only at hr
  refine enterP Tryz.func36 rfl Tryz.ntmps36 rfl ?_
  by_cases hk : kd = 1
  · rw [if_neg (fun e => e hk)] at hr
    subst hk
    repeat' (first | (apply WL_ev rfl rfl; exact Ev_load1 hT rfl rfl (hSt.base h.hp (fun e => h.ne e)) rfl) | (refine WL_isCall (f := 33) ?_; refine WL_call (ok_call hT rfl) rfl rfl rfl (hpk (h.next hSt (i := 0) rfl h.lt)) ?_; rintro v w2 ⟨rfl, hc2⟩; replace hSt := hSt.call0 hc2; clear hc2) | (apply WL_ev rfl rfl; exact Ev_field1 hT rfl rfl rfl (by intro fs x h1 h2; rw [Tryz.underlying63] at h1; injection h1 with h1; injection h1 with h1; subst h1; injection h2 with h2; subst h2; decide +kernel)) | refine stepA ?_ | (refine stepS ?_; clear hSt; intro w hSt; dsimp only [spl, List.set] at hSt) | (refine stepB ?_; clear hSt; intro w nb hnb hSt; dsimp only [zcells, List.nil_append, List.cons_append] at hSt) | (refine stepG ?_ ?_ <;> intro hc <;> (try exact absA) <;> (fail_if_success (change true = true at hc)) <;> (fail_if_success (change false = false at hc))) | fail)
    all_goals try (exfalso; first | omega | (simp at hc; done) | (exact hc rfl) | contradiction)
    refine W_sub (L' := [(4, B true), (3, .slice none 0 0), (0, Ptr pb)]) (by (repeat (first | exact Sub.nil _ | refine Sub.cons rfl ?_))) ?_
    refine W_loop3 (fun k (g : Nat) (b : Bool) (sl : Value) w => k = (if b = true then g + 1 else 0) ∧ ∃ l q HL, (if b = true then setsL ts g l q = some r else r = .ok l q) ∧ q < ts.length ∧ l.length ≤ q ∧ OwnSl sl 57 2 (l.flatMap sgC) l.length HL ∧ St w0 (· = sc) ((sc, scO v q) :: HL) w) (fun _ b sl => [(4, B b), (3, sl)]) (f + 1) f true (.slice none 0 0) rfl (by (repeat (first | exact Str.nil _ | apply Str.drop rfl | apply Str.keepU rfl | apply Str.keep rfl))) ⟨rfl, [], p, [], hr, h.lt, Nat.zero_le _, OwnSl.nil _ _, hSt⟩ (by (repeat (first | exact Sub.nil _ | refine Sub.cons rfl ?_))) ?_
    clear hSt
    rintro k g b sl w ⟨hk, l, q, HL, hL, hq, hlq, ho, hSt⟩ K hK
    have hlen := h.len
    cases b with
    | true =>
      rw [if_pos rfl] at hL hk
      cases g with
      | zero => rw [setsL] at hL; cases hL
      | succ g =>
        rw [setsL] at hL
        repeat' (first | refine stepA ?_ | (refine stepS ?_; clear hSt; intro w hSt; dsimp only [spl, List.set] at hSt) | (refine stepB ?_; clear hSt; intro w nb hnb hSt; dsimp only [zcells, List.nil_append, List.cons_append] at hSt) | (refine stepG ?_ ?_ <;> intro hc <;> (try exact absA) <;> (fail_if_success (change true = true at hc)) <;> (fail_if_success (change false = false at hc))) | fail)
        refine WL_callP (ok_call hT rfl) rfl rfl rfl (psetting_any (h.next hSt (i := 0) rfl hq)) ?_ ?_
        rotate_left 1
        · rintro x w2 ⟨q1, q9, e, rfl, hc2⟩
          rw [e] at hL
          injection hL with hL
          subst hL
          (repeat (first | refine At_then_panic ?_ | refine At_in_panic ?_ | fail))
          exact panP ⟨q1, q9, rfl, rfl, (hSt.call1 (i := 0) rfl hc2).only (by simp)⟩
        rintro x w2 ⟨s, q1, e, rfl, hc2⟩
        obtain ⟨hq1, hq2⟩ := setR_ok h.ok hq e
        rw [e] at hL
        dsimp only at hL
        replace hSt := hSt.call1 (i := 0) rfl hc2
        clear hc2
        dsimp only [List.set] at hSt
        have hm := fun {w : World} (h : PS w pb sc ts v q1) => mark_any h.hs h.ht h.ok h.lt h.len9 44
        have hfm : l.flatMap sgC ++ sgC s = (l ++ [s]).flatMap sgC := by rw [List.flatMap_append]; simp
        (refine WL_push1 hT rfl rfl rfl rfl rfl rfl rfl rfl rfl rfl rfl rfl (fun _ => rfl) rfl (H0 := [_]) hSt ho (by omega) (by omega) ?_; clear hSt ho; intro v' w H2 u ho hSt)
        dsimp only [List.cons_append, List.nil_append] at hSt
        replace ho : OwnSl v' 57 2 ((l ++ [s]).flatMap sgC) (l ++ [s]).length H2 := by
          rw [← hfm, List.length_append]; exact ho
        by_cases hA : mkB ts q1 44 = true
        · rw [if_pos hA] at hL
          rw [show mkN ts q1 44 = q1 + 1 from if_pos hA, hA] at hm
          repeat' (first | (apply WL_ev rfl rfl; exact Ev_load1 hT rfl rfl (hSt.base h.hp (fun e => h.ne e)) rfl) | (refine WL_isCall (f := 78) ?_; refine WL_call (ok_call hT rfl) rfl rfl rfl (hm (h.next hSt (i := 0) rfl hq2)) ?_; rintro v w2 ⟨rfl, hc2⟩; replace hSt := hSt.call1 (i := 0) rfl hc2; clear hc2; dsimp only [List.set] at hSt) | refine stepA ?_ | (refine stepS ?_; clear hSt; intro w hSt; dsimp only [spl, List.set] at hSt) | (refine stepB ?_; clear hSt; intro w nb hnb hSt; dsimp only [zcells, List.nil_append, List.cons_append] at hSt) | (refine stepG ?_ ?_ <;> intro hc <;> (try exact absA) <;> (fail_if_success (change true = true at hc)) <;> (fail_if_success (change false = false at hc))) | fail)
          exact At_loop3 hK (k' := g + 1) g true v' (by omega) ⟨rfl, l ++ [s], q1 + 1, H2, hL, h.ok.mk1 hq2 hA, by rw [List.length_append, List.length_singleton]; omega, ho, hSt⟩ (by (repeat (first | exact Sub.nil _ | refine Sub.cons rfl ?_)))
        · rw [if_neg hA] at hL
          injection hL with hL
          rw [show mkN ts q1 44 = q1 from if_neg hA, show mkB ts q1 44 = false by simpa using hA] at hm
          repeat' (first | (apply WL_ev rfl rfl; exact Ev_load1 hT rfl rfl (hSt.base h.hp (fun e => h.ne e)) rfl) | (refine WL_isCall (f := 78) ?_; refine WL_call (ok_call hT rfl) rfl rfl rfl (hm (h.next hSt (i := 0) rfl hq2)) ?_; rintro v w2 ⟨rfl, hc2⟩; replace hSt := hSt.call1 (i := 0) rfl hc2; clear hc2; dsimp only [List.set] at hSt) | refine stepA ?_ | (refine stepS ?_; clear hSt; intro w hSt; dsimp only [spl, List.set] at hSt) | (refine stepB ?_; clear hSt; intro w nb hnb hSt; dsimp only [zcells, List.nil_append, List.cons_append] at hSt) | (refine stepG ?_ ?_ <;> intro hc <;> (try exact absA) <;> (fail_if_success (change true = true at hc)) <;> (fail_if_success (change false = false at hc))) | fail)
          exact At_loop3 hK (k' := 0) g false v' (by omega) ⟨rfl, l ++ [s], q1, H2, hL.symm, hq2, by rw [List.length_append, List.length_singleton]; omega, ho, hSt⟩ (by (repeat (first | exact Sub.nil _ | refine Sub.cons rfl ?_)))
    | false =>
      rw [if_neg (by simp)] at hL hk
      subst hL
      repeat' (first | refine stepA ?_ | (refine stepS ?_; clear hSt; intro w hSt; dsimp only [spl, List.set] at hSt) | (refine stepB ?_; clear hSt; intro w nb hnb hSt; dsimp only [zcells, List.nil_append, List.cons_append] at hSt) | (refine stepG ?_ ?_ <;> intro hc <;> (try exact absA) <;> (fail_if_success (change true = true at hc)) <;> (fail_if_success (change false = false at hc))) | fail)
      exact retQ (ret1 rfl rfl ⟨l, q, HL, rfl, ho, hlq, hSt⟩)
  · rw [if_pos hk] at hr
    injection hr with hr
    subst hr
    repeat' (first | (apply WL_ev rfl rfl; exact Ev_load1 hT rfl rfl (hSt.base h.hp (fun e => h.ne e)) rfl) | (refine WL_isCall (f := 33) ?_; refine WL_call (ok_call hT rfl) rfl rfl rfl (hpk (h.next hSt (i := 0) rfl h.lt)) ?_; rintro v w2 ⟨rfl, hc2⟩; replace hSt := hSt.call0 hc2; clear hc2) | (apply WL_ev rfl rfl; exact Ev_field1 hT rfl rfl rfl (by intro fs x h1 h2; rw [Tryz.underlying63] at h1; injection h1 with h1; injection h1 with h1; subst h1; injection h2 with h2; subst h2; decide +kernel)) | refine stepA ?_ | (refine stepS ?_; clear hSt; intro w hSt; dsimp only [spl, List.set] at hSt) | (refine stepB ?_; clear hSt; intro w nb hnb hSt; dsimp only [zcells, List.nil_append, List.cons_append] at hSt) | (refine stepG ?_ ?_ <;> intro hc <;> (try exact absA) <;> (fail_if_success (change true = true at hc)) <;> (fail_if_success (change false = false at hc))) | fail)
    all_goals try (exfalso; first | omega | (simp at hc; done) | (exact hc rfl) | contradiction)
    all_goals exact retQ (ret1 rfl rfl ⟨[], p, [], rfl, OwnSl.nil _ _, Nat.zero_le _, hSt⟩)
end
end Go.Proofs.YtknfankadlokhaaGreatDoor
