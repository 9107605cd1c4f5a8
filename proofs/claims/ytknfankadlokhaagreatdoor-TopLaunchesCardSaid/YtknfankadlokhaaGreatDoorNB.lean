/- Launch descriptions in memory: what a condition, an entry and their lists look like. No conditions. -/
import Derived.Test.YtknfankadlokhaaGreatDoorNA
import Derived.Test.YtknfankadlokhaaGreatDoorMD
import Derived.Test.YtknfankadlokhaaGreatDoorMB

namespace Go.Proofs.YtknfankadlokhaaGreatDoor
open Go.RowKit
set_option linter.unusedVariables false
set_option linter.unusedSimpArgs false

abbrev tc (s : Tx) : List Value := [S s]
abbrev sgC (s : Sg) : List Value := [S s.1, S s.2]
def Cn.op : Cn → Int | .mk o _ _ _ => o
def Cn.name : Cn → Tx | .mk _ n _ _ => n
def Cn.text : Cn → Tx | .mk _ _ t _ => t
def Cn.args : Cn → List Cn | .mk _ _ _ ars => ars
mutual
def CondAt (w : World) : Cn → List Value → Prop
  | .mk op n t ars, cs => ∃ v xs, cs = [I op, S n, S t, v] ∧ SlAt w v 4 xs ∧ CondsAt w ars xs ∧ t.length ≤ 9223372036854775807 ∧ ars.length ≤ 9223372036854775807
def CondsAt (w : World) : List Cn → List (List Value) → Prop
  | [], xs => xs = []
  | a :: ars, xs => ∃ x ys, xs = x :: ys ∧ CondAt w a x ∧ CondsAt w ars ys
end
theorem CondsAt.len {w : World} : ∀ {ars : List Cn} {xs : List (List Value)}, CondsAt w ars xs → xs.length = ars.length
  | [], xs, h => by rw [CondsAt] at h; subst h; rfl
  | a :: ars, xs, h => by
    rw [CondsAt] at h
    obtain ⟨x, ys, rfl, _, h2⟩ := h
    simp [h2.len]
theorem CondsAt.at {w : World} : ∀ {ars : List Cn} {xs : List (List Value)}, CondsAt w ars xs → ∀ {i : Nat} {a : Cn}, ars[i]? = some a → ∃ x, xs[i]? = some x ∧ CondAt w a x
  | [], xs, h, i, a, hi => by simp at hi
  | b :: ars, xs, h, i, a, hi => by
    rw [CondsAt] at h
    obtain ⟨x, ys, rfl, h1, h2⟩ := h
    cases i with
    | zero => simp at hi; subst hi; exact ⟨x, rfl, h1⟩
    | succ i => simpa using h2.at (by simpa using hi)
theorem CondsAt.of {w : World} : ∀ {ars : List Cn} {xs : List (List Value)}, xs.length = ars.length → (∀ (i : Nat) (a : Cn) (x : List Value), ars[i]? = some a → xs[i]? = some x → CondAt w a x) → CondsAt w ars xs
  | [], xs, hl, _ => by rw [CondsAt]; simpa using hl
  | a :: ars, [], hl, _ => by simp at hl
  | a :: ars, x :: ys, hl, h => by
    rw [CondsAt]
    exact ⟨x, ys, rfl, h 0 a x rfl rfl, CondsAt.of (by simpa using hl) (fun i b y hb hy => h (i + 1) b y (by simpa using hb) (by simpa using hy))⟩
theorem CondAt.cells {w : World} {c : Cn} {cs : List Value} (h : CondAt w c cs) : ∃ v xs, cs = [I c.op, S c.name, S c.text, v] ∧ SlAt w v 4 xs ∧ CondsAt w c.args xs ∧ c.text.length ≤ 9223372036854775807 ∧ c.args.length ≤ 9223372036854775807 := by
  cases c; rw [CondAt] at h; exact h
theorem CondAt.mk_ {w : World} {c : Cn} {v : Value} {xs : List (List Value)} (h1 : SlAt w v 4 xs) (h2 : CondsAt w c.args xs) (h3 : c.text.length ≤ 9223372036854775807) (h4 : c.args.length ≤ 9223372036854775807) : CondAt w c [I c.op, S c.name, S c.text, v] := by
  cases c; rw [CondAt]; exact ⟨v, xs, rfl, h1, h2, h3, h4⟩
/-- a world in which all that lay in another one lies still -/
def Keeps (w0 w : World) : Prop := ∀ (b : Nat) (o : Obj), w0.heap[b]? = some o → w.heap[b]? = some o
theorem SlAt.kept {w0 w : World} {v : Value} {z : Nat} {xs : List (List Value)} (h : SlAt w0 v z xs) (k : Keeps w0 w) : SlAt w v z xs := by
  obtain ⟨a, cap, hv, h⟩ := h
  refine ⟨a, cap, hv, fun i x hi => ?_⟩
  obtain ⟨b, off, l, E, fz, ha, hb, hc⟩ := h i x hi
  exact ⟨b, off, l, E, fz, ha, k _ _ hb, hc⟩
theorem CondAt.kept {w0 w : World} (k : Keeps w0 w) : ∀ {c : Cn} {cs : List Value}, CondAt w0 c cs → CondAt w c cs := by
  intro c
  induction c using Cn.ind with
  | h op n t ars ih =>
    intro cs h
    obtain ⟨v, xs, rfl, h1, h2, h3, h4⟩ := h.cells
    refine CondAt.mk_ (h1.kept k) (CondsAt.of h2.len fun i a x ha hx => ?_) h3 h4
    obtain ⟨y, hy, hc⟩ := h2.at ha
    rw [hx] at hy; injection hy with hy; subst hy
    exact ih a (List.mem_of_getElem? ha) hc
theorem St.keeps {w0 w : World} {H : List (Nat × Obj)} (h : St w0 NoneS H w) : Keeps w0 w := fun b o hb => h.base hb (fun e => e)
/-- a slice has room for its elements -/
def capO (v : Value) : Prop := ∀ (a : Option Addr) (n c : Nat), v = .slice a n c → n ≤ c
theorem capO.le {a : Option Addr} {n c : Nat} (h : capO (.slice a n c)) : n ≤ c := h a n c rfl
theorem capO.mk {a : Option Addr} {n c : Nat} (h : n ≤ c) : capO (.slice a n c) := fun _ _ _ e => by injection e with e1 e2 e3; omega
/-- an entry's cells -/
def LnAt (w : World) (cs : List Value) (x : Ln) : Prop := ∃ v va vs, cs = [S x.node, S x.prog, I x.cond.op, S x.cond.name, S x.cond.text, v, va, vs] ∧
  CondAt w x.cond [I x.cond.op, S x.cond.name, S x.cond.text, v] ∧ SlAt w va 1 (x.after.map tc) ∧ SlAt w vs 2 (x.sets.map sgC) ∧ capO va ∧ capO vs ∧ x.after.length ≤ 9223372036854775807 ∧ x.sets.length ≤ 9223372036854775807 ∧ ∀ s ∈ x.sets, s.2.length ≤ 9223372036854775807
theorem LnAt.kept {w0 w : World} {cs : List Value} {x : Ln} (h : LnAt w0 cs x) (k : Keeps w0 w) : LnAt w cs x := by
  obtain ⟨v, va, vs, e, h1, h2, h3, h4⟩ := h
  exact ⟨v, va, vs, e, h1.kept k, h2.kept k, h3.kept k, h4⟩
theorem Sls.kept {α : Type} {z : Nat} {c : World → List Value → α → Prop} {w0 w : World} {v : Value} {l : List α} (h : Sls z c w0 v l) (hc : ∀ x a, c w0 x a → c w x a) (k : Keeps w0 w) : Sls z c w v l := by
  obtain ⟨xs, h1, h2, h3⟩ := h
  exact ⟨xs, h1.kept k, h2, fun i x a hx ha => hc _ _ (h3 i x a hx ha)⟩
theorem SlAt.some_ {w : World} {v : Value} {z : Nat} {xs : List (List Value)} {n : Nat} (h : SlAt w v z xs) (hn : xs.length = n) : ∃ a cap, v = .slice a n cap ∧ ∀ (i : Nat) (x : List Value), xs[i]? = some x → ∃ b off l E fz, a = some ⟨b, off, none⟩ ∧ w.heap[b]? = some (.cells ⟨l⟩ E fz) ∧ (l.drop (off + i * z)).take z = x ∧ x.length = z := by
  subst hn; exact h
def Lns (w : World) (v : Value) (l : List Ln) : Prop := Sls 8 LnAt w v l ∧ capO v ∧ l.length ≤ 9223372036854775807
theorem Lns.kept {w0 w : World} {v : Value} {l : List Ln} (h : Lns w0 v l) (k : Keeps w0 w) : Lns w v l := ⟨Sls.kept h.1 (fun _ _ h => h.kept k) k, h.2⟩
theorem Lns.out {w : World} {v : Value} {l : List Ln} (h : Lns w v l) : ∃ a cap xs, v = .slice a l.length cap ∧ l.length ≤ cap ∧ l.length ≤ 9223372036854775807 ∧ xs.length = l.length ∧ SlAt w v 8 xs ∧
    (∀ (i : Nat) (x : List Value) (e : Ln), xs[i]? = some x → l[i]? = some e → LnAt w x e) ∧
    ∀ (i : Nat) (e : Ln), l[i]? = some e → ∃ x b off c E fz, xs[i]? = some x ∧ LnAt w x e ∧ a = some ⟨b, off, none⟩ ∧ w.heap[b]? = some (.cells ⟨c⟩ E fz) ∧ (c.drop (off + ((i : Nat) : Int).toNat * 8)).take 8 = x ∧ x.length = 8 := by
  obtain ⟨⟨xs, h1, h2, h3⟩, hc, hl⟩ := h
  have h1' := h1
  obtain ⟨a, cap, rfl, hx⟩ := h1.some_ h2
  refine ⟨a, cap, xs, rfl, hc.le, hl, h2, h1', h3, fun i e he => ?_⟩
  have hi := (List.getElem?_eq_some_iff.1 he).1
  obtain ⟨x, hxi⟩ : ∃ x, xs[i]? = some x := ⟨_, List.getElem?_eq_getElem (by omega)⟩
  obtain ⟨b, off, c, E, fz, ha, hb, hq, hz⟩ := hx i x hxi
  exact ⟨x, b, off, c, E, fz, hxi, h3 i x e hxi he, ha, hb, by rw [Int.toNat_natCast]; exact hq, hz⟩
theorem Lns.of {w : World} {a : Option Addr} {n cap : Nat} {l : List Ln} {xs : List (List Value)} (h1 : SlAt w (.slice a n cap) 8 xs) (h2 : xs.length = l.length) (h3 : ∀ (i : Nat) (x : List Value) (e : Ln), xs[i]? = some x → l[i]? = some e → LnAt w x e) (hc : n ≤ cap) (hl : l.length ≤ 9223372036854775807) : Lns w (.slice a n cap) l :=
  ⟨⟨xs, h1, h2, h3⟩, capO.mk hc, hl⟩
end Go.Proofs.YtknfankadlokhaaGreatDoor

namespace Go.Proofs.YtknfankadlokhaaGreatDoor
open Go.RowKit
set_option maxRecDepth 4000
set_option linter.unusedVariables false
set_option linter.unusedSimpArgs false
set_option maxHeartbeats 4000000

theorem Ev_orE {P : Program} {L : Fr} {xo yo : Operand} {x y d : Int} {k : IntKind} {ty t t' : TypeId} {w : World} (hx : opd L xo = some (.int k x)) (hy : opd L yo = some (.int k y)) (h : bits .or k x y = d) : Ev P L (.binOp .or t xo yo t') ty w (.int k d) w := h ▸ Ev_or hx hy
theorem or32 : ∀ n : Nat, n < 256 → ((97 ≤ bits .or .u8 (n : Int) 32 ∧ bits .or .u8 (n : Int) 32 ≤ 122) ↔ (97 ≤ n ∧ n ≤ 122 ∨ 65 ≤ n ∧ n ≤ 90)) := by decide +kernel
theorem or32c (c : UInt8) : ∃ d : Int, bits .or .u8 (c.toNat : Int) 32 = d ∧ ((97 ≤ d ∧ d ≤ 122) ↔ (97 ≤ c.toNat ∧ c.toNat ≤ 122 ∨ 65 ≤ c.toNat ∧ c.toNat ≤ 90)) := ⟨_, rfl, or32 _ c.toNat_lt⟩
theorem chF_t {c : UInt8} {i : Nat} (h : (97 ≤ c.toNat ∧ c.toNat ≤ 122 ∨ 65 ≤ c.toNat ∧ c.toNat ≤ 90) ∨ 0 < i ∧ (c.toNat = 95 ∨ 48 ≤ c.toNat ∧ c.toNat ≤ 57)) : chF c i = true := by
  unfold chF letF digF
  rcases h with h | ⟨h1, h2⟩
  · rw [decide_eq_true h, Bool.true_or]
  · rw [decide_eq_true h1, decide_eq_true h2]; simp
theorem chF_f {c : UInt8} {i : Nat} (h : ¬ ((97 ≤ c.toNat ∧ c.toNat ≤ 122 ∨ 65 ≤ c.toNat ∧ c.toNat ≤ 90) ∨ 0 < i ∧ (c.toNat = 95 ∨ 48 ≤ c.toNat ∧ c.toNat ≤ 57))) : chF c i = false := by
  cases hb : chF c i
  · rfl
  · exfalso; apply h
    unfold chF letF digF at hb
    rw [Bool.or_eq_true, Bool.and_eq_true] at hb
    rcases hb with hb | ⟨h1, h2⟩
    · exact .inl (of_decide_eq_true hb)
    · exact .inr ⟨of_decide_eq_true h1, of_decide_eq_true h2⟩
theorem txF_t {c : UInt8} (h : 32 ≤ c.toNat ∧ c.toNat ≤ 126) : txF c = true := decide_eq_true h
theorem txF_f {c : UInt8} (h : ¬ (32 ≤ c.toNat ∧ c.toNat ≤ 126)) : txF c = false := decide_eq_false h
theorem snoc_all {s : Tx} {p : UInt8 → Nat → Prop} {i : Nat} {x : UInt8} (h : ∀ (j : Nat) (c : UInt8), j < i → s[j]? = some c → p c j) (hx : s[i]? = some x) (hp : p x i) : ∀ (j : Nat) (c : UInt8), j < i + 1 → s[j]? = some c → p c j := by
  intro j c hj hc
  by_cases hji : j < i
  · exact h j c hji hc
  · have : j = i := by omega
    subst this; rw [hx] at hc; injection hc with hc; subst hc; exact hp
theorem name_any {w0 : World} (s : Tx) : Cl Tryz.prog 61 [S s] w0 (fun v w' => v = B (nameF s) ∧ St w0 NoneS [] w') := by
  have hSt := St.refl w0 NoneS
  refine enter Tryz.func61 rfl Tryz.ntmps61 rfl ?_
  by_cases hlen : ¬ (1 ≤ s.length ∧ s.length ≤ 16)
  · rw [nameF_len hlen]
    by_cases h0 : s = []
    · subst h0
      repeat' (first | refine stepA ?_ | (refine stepS ?_; clear hSt; intro w hSt; dsimp only [spl, List.set] at hSt) | (refine stepB ?_; clear hSt; intro w nb hnb hSt; dsimp only [zcells, List.nil_append, List.cons_append] at hSt) | (refine stepG ?_ ?_ <;> intro hc <;> (try exact absA) <;> (fail_if_success (change true = true at hc)) <;> (fail_if_success (change false = false at hc))) | fail)
      exact ret1 rfl rfl ⟨rfl, hSt⟩
    · have h1 : 1 ≤ s.length := by
        cases s with
        | nil => exact absurd rfl h0
        | cons _ _ => simp
      repeat' (first | refine stepA ?_ | (refine stepS ?_; clear hSt; intro w hSt; dsimp only [spl, List.set] at hSt) | (refine stepB ?_; clear hSt; intro w nb hnb hSt; dsimp only [zcells, List.nil_append, List.cons_append] at hSt) | (refine stepG ?_ ?_ <;> intro hc <;> (try exact absA) <;> (fail_if_success (change true = true at hc)) <;> (fail_if_success (change false = false at hc))) | fail)
      all_goals first | exact ret1 rfl rfl ⟨rfl, hSt⟩ | (exfalso; omega) | contradiction
  have hlen : 1 ≤ s.length ∧ s.length ≤ 16 := Decidable.not_not.1 hlen
  have h0 : s ≠ [] := by rintro rfl; simp at hlen
  repeat' (first | refine stepA ?_ | (refine stepS ?_; clear hSt; intro w hSt; dsimp only [spl, List.set] at hSt) | (refine stepB ?_; clear hSt; intro w nb hnb hSt; dsimp only [zcells, List.nil_append, List.cons_append] at hSt) | (refine stepG ?_ ?_ <;> intro hc <;> (try exact absA) <;> (fail_if_success (change true = true at hc)) <;> (fail_if_success (change false = false at hc))) | fail)
  all_goals try (exfalso; first | omega | contradiction)
  refine W_loop1 (fun k (i : Nat) w => k = s.length - i ∧ i ≤ s.length ∧ (∀ (j : Nat) (c : UInt8), j < i → s[j]? = some c → chF c j = true) ∧ St w0 NoneS [] w) (fun i => [(15, I (i : Int))]) s.length 0 rfl (by (repeat (first | exact Str.nil _ | apply Str.drop rfl | apply Str.keepU rfl | apply Str.keep rfl))) ⟨rfl, by omega, by intro j c hj; omega, hSt⟩ (by (repeat (first | exact Sub.nil _ | refine Sub.cons rfl ?_))) ?_
  clear hSt
  rintro k i w ⟨hk, hi, hno, hSt⟩ K hK
  by_cases hil : i < s.length
  · obtain ⟨x, hx⟩ : ∃ x, s[i]? = some x := ⟨_, List.getElem?_eq_getElem hil⟩
    have hq : s[(i : Int).toNat]? = some x := by rw [Int.toNat_natCast]; exact hx
    have hx8 := x.toNat_lt
    obtain ⟨d, hd, hdd⟩ := or32c x
    repeat' (first | (apply WL_ev rfl rfl; exact Ev_strIndex hT rfl rfl rfl (by omega) hq) | (apply WL_ev rfl rfl; exact Ev_orE rfl rfl hd) | refine stepA ?_ | (refine stepS ?_; clear hSt; intro w hSt; dsimp only [spl, List.set] at hSt) | (refine stepB ?_; clear hSt; intro w nb hnb hSt; dsimp only [zcells, List.nil_append, List.cons_append] at hSt) | (refine stepG ?_ ?_ <;> intro hc <;> (try exact absA) <;> (fail_if_success (change true = true at hc)) <;> (fail_if_success (change false = false at hc))) | fail)
    all_goals first
      | (refine ret1 rfl rfl ⟨?_, hSt⟩; rw [show nameF s = false from nameF_no hx (chF_f (by omega))]; done)
      | exact At_loop1 hK (k' := s.length - (i + 1)) (i + 1) (by omega) ⟨rfl, by omega, snoc_all (p := fun c j => chF c j = true) hno hx (chF_t (by omega)), hSt⟩ (by (repeat (first | exact Sub.nil _ | refine Sub.cons rfl ?_)))
      | (exfalso; omega)
  · repeat' (first | refine stepA ?_ | (refine stepS ?_; clear hSt; intro w hSt; dsimp only [spl, List.set] at hSt) | (refine stepB ?_; clear hSt; intro w nb hnb hSt; dsimp only [zcells, List.nil_append, List.cons_append] at hSt) | (refine stepG ?_ ?_ <;> intro hc <;> (try exact absA) <;> (fail_if_success (change true = true at hc)) <;> (fail_if_success (change false = false at hc))) | fail)
    refine ret1 rfl rfl ⟨?_, hSt⟩
    rw [show nameF s = true from nameF_yes hlen.1 hlen.2 (fun j c hj hc => hno j c (by omega) hc)]
theorem rname_any {w0 : World} (s : Tx) : Cl Tryz.prog 127 [S s] w0 (fun v w' => v = B (nameF s) ∧ St w0 NoneS [] w') := by
  have hSt := St.refl w0 NoneS
  refine enter Tryz.func127 rfl Tryz.ntmps127 rfl ?_
  by_cases hlen : ¬ (1 ≤ s.length ∧ s.length ≤ 16)
  · rw [nameF_len hlen]
    by_cases h0 : s = []
    · subst h0
      repeat' (first | refine stepA ?_ | (refine stepS ?_; clear hSt; intro w hSt; dsimp only [spl, List.set] at hSt) | (refine stepB ?_; clear hSt; intro w nb hnb hSt; dsimp only [zcells, List.nil_append, List.cons_append] at hSt) | (refine stepG ?_ ?_ <;> intro hc <;> (try exact absA) <;> (fail_if_success (change true = true at hc)) <;> (fail_if_success (change false = false at hc))) | fail)
      exact ret1 rfl rfl ⟨rfl, hSt⟩
    · have h1 : 1 ≤ s.length := by
        cases s with
        | nil => exact absurd rfl h0
        | cons _ _ => simp
      repeat' (first | refine stepA ?_ | (refine stepS ?_; clear hSt; intro w hSt; dsimp only [spl, List.set] at hSt) | (refine stepB ?_; clear hSt; intro w nb hnb hSt; dsimp only [zcells, List.nil_append, List.cons_append] at hSt) | (refine stepG ?_ ?_ <;> intro hc <;> (try exact absA) <;> (fail_if_success (change true = true at hc)) <;> (fail_if_success (change false = false at hc))) | fail)
      all_goals first | exact ret1 rfl rfl ⟨rfl, hSt⟩ | (exfalso; omega) | contradiction
  have hlen : 1 ≤ s.length ∧ s.length ≤ 16 := Decidable.not_not.1 hlen
  have h0 : s ≠ [] := by rintro rfl; simp at hlen
  repeat' (first | refine stepA ?_ | (refine stepS ?_; clear hSt; intro w hSt; dsimp only [spl, List.set] at hSt) | (refine stepB ?_; clear hSt; intro w nb hnb hSt; dsimp only [zcells, List.nil_append, List.cons_append] at hSt) | (refine stepG ?_ ?_ <;> intro hc <;> (try exact absA) <;> (fail_if_success (change true = true at hc)) <;> (fail_if_success (change false = false at hc))) | fail)
  all_goals try (exfalso; first | omega | contradiction)
  refine W_loop1 (fun k (i : Nat) w => k = s.length - i ∧ i ≤ s.length ∧ (∀ (j : Nat) (c : UInt8), j < i → s[j]? = some c → chF c j = true) ∧ St w0 NoneS [] w) (fun i => [(3, I (i : Int))]) s.length 0 rfl (by (repeat (first | exact Str.nil _ | apply Str.drop rfl | apply Str.keepU rfl | apply Str.keep rfl))) ⟨rfl, by omega, by intro j c hj; omega, hSt⟩ (by (repeat (first | exact Sub.nil _ | refine Sub.cons rfl ?_))) ?_
  clear hSt
  rintro k i w ⟨hk, hi, hno, hSt⟩ K hK
  by_cases hil : i < s.length
  · obtain ⟨x, hx⟩ : ∃ x, s[i]? = some x := ⟨_, List.getElem?_eq_getElem hil⟩
    have hq : s[(i : Int).toNat]? = some x := by rw [Int.toNat_natCast]; exact hx
    have hx8 := x.toNat_lt
    obtain ⟨d, hd, hdd⟩ := or32c x
    repeat' (first | (apply WL_ev rfl rfl; exact Ev_strIndex hT rfl rfl rfl (by omega) hq) | (apply WL_ev rfl rfl; exact Ev_orE rfl rfl hd) | refine stepA ?_ | (refine stepS ?_; clear hSt; intro w hSt; dsimp only [spl, List.set] at hSt) | (refine stepB ?_; clear hSt; intro w nb hnb hSt; dsimp only [zcells, List.nil_append, List.cons_append] at hSt) | (refine stepG ?_ ?_ <;> intro hc <;> (try exact absA) <;> (fail_if_success (change true = true at hc)) <;> (fail_if_success (change false = false at hc))) | fail)
    all_goals first
      | (refine ret1 rfl rfl ⟨?_, hSt⟩; rw [show nameF s = false from nameF_no hx (chF_f (by omega))]; done)
      | exact At_loop1 hK (k' := s.length - (i + 1)) (i + 1) (by omega) ⟨rfl, by omega, snoc_all (p := fun c j => chF c j = true) hno hx (chF_t (by omega)), hSt⟩ (by (repeat (first | exact Sub.nil _ | refine Sub.cons rfl ?_)))
      | (exfalso; omega)
  · repeat' (first | refine stepA ?_ | (refine stepS ?_; clear hSt; intro w hSt; dsimp only [spl, List.set] at hSt) | (refine stepB ?_; clear hSt; intro w nb hnb hSt; dsimp only [zcells, List.nil_append, List.cons_append] at hSt) | (refine stepG ?_ ?_ <;> intro hc <;> (try exact absA) <;> (fail_if_success (change true = true at hc)) <;> (fail_if_success (change false = false at hc))) | fail)
    refine ret1 rfl rfl ⟨?_, hSt⟩
    rw [show nameF s = true from nameF_yes hlen.1 hlen.2 (fun j c hj hc => hno j c (by omega) hc)]
theorem plain_any {w0 : World} (s : Tx) : Cl Tryz.prog 86 [S s] w0 (fun v w' => v = B (plainF s) ∧ St w0 NoneS [] w') := by
  have hSt := St.refl w0 NoneS
  refine enter Tryz.func86 rfl Tryz.ntmps86 rfl ?_
  by_cases hlen : ¬ s.length ≤ 200
  · rw [plainF_len hlen]
    repeat' (first | refine stepA ?_ | (refine stepS ?_; clear hSt; intro w hSt; dsimp only [spl, List.set] at hSt) | (refine stepB ?_; clear hSt; intro w nb hnb hSt; dsimp only [zcells, List.nil_append, List.cons_append] at hSt) | (refine stepG ?_ ?_ <;> intro hc <;> (try exact absA) <;> (fail_if_success (change true = true at hc)) <;> (fail_if_success (change false = false at hc))) | fail)
    all_goals first | exact ret1 rfl rfl ⟨rfl, hSt⟩ | (exfalso; omega) | contradiction
  repeat' (first | refine stepA ?_ | (refine stepS ?_; clear hSt; intro w hSt; dsimp only [spl, List.set] at hSt) | (refine stepB ?_; clear hSt; intro w nb hnb hSt; dsimp only [zcells, List.nil_append, List.cons_append] at hSt) | (refine stepG ?_ ?_ <;> intro hc <;> (try exact absA) <;> (fail_if_success (change true = true at hc)) <;> (fail_if_success (change false = false at hc))) | fail)
  all_goals try (exfalso; first | omega | contradiction)
  refine W_loop1 (fun k (i : Nat) w => k = s.length - i ∧ i ≤ s.length ∧ (∀ (j : Nat) (c : UInt8), j < i → s[j]? = some c → txF c = true) ∧ St w0 NoneS [] w) (fun i => [(9, I (i : Int))]) s.length 0 rfl (by (repeat (first | exact Str.nil _ | apply Str.drop rfl | apply Str.keepU rfl | apply Str.keep rfl))) ⟨rfl, by omega, by intro j c hj; omega, hSt⟩ (by (repeat (first | exact Sub.nil _ | refine Sub.cons rfl ?_))) ?_
  clear hSt
  rintro k i w ⟨hk, hi, hno, hSt⟩ K hK
  by_cases hil : i < s.length
  · obtain ⟨x, hx⟩ : ∃ x, s[i]? = some x := ⟨_, List.getElem?_eq_getElem hil⟩
    have hq : s[(i : Int).toNat]? = some x := by rw [Int.toNat_natCast]; exact hx
    have hx8 := x.toNat_lt
    obtain ⟨d, hd, hdd⟩ := or32c x
    repeat' (first | (apply WL_ev rfl rfl; exact Ev_strIndex hT rfl rfl rfl (by omega) hq) | (apply WL_ev rfl rfl; exact Ev_orE rfl rfl hd) | refine stepA ?_ | (refine stepS ?_; clear hSt; intro w hSt; dsimp only [spl, List.set] at hSt) | (refine stepB ?_; clear hSt; intro w nb hnb hSt; dsimp only [zcells, List.nil_append, List.cons_append] at hSt) | (refine stepG ?_ ?_ <;> intro hc <;> (try exact absA) <;> (fail_if_success (change true = true at hc)) <;> (fail_if_success (change false = false at hc))) | fail)
    all_goals first
      | (refine ret1 rfl rfl ⟨?_, hSt⟩; rw [show plainF s = false from plainF_no hx (txF_f (by omega))]; done)
      | exact At_loop1 hK (k' := s.length - (i + 1)) (i + 1) (by omega) ⟨rfl, by omega, snoc_all (p := fun c j => txF c = true) hno hx (txF_t (by omega)), hSt⟩ (by (repeat (first | exact Sub.nil _ | refine Sub.cons rfl ?_)))
      | (exfalso; omega)
  · repeat' (first | refine stepA ?_ | (refine stepS ?_; clear hSt; intro w hSt; dsimp only [spl, List.set] at hSt) | (refine stepB ?_; clear hSt; intro w nb hnb hSt; dsimp only [zcells, List.nil_append, List.cons_append] at hSt) | (refine stepG ?_ ?_ <;> intro hc <;> (try exact absA) <;> (fail_if_success (change true = true at hc)) <;> (fail_if_success (change false = false at hc))) | fail)
    refine ret1 rfl rfl ⟨?_, hSt⟩
    rw [show plainF s = true from plainF_yes (by omega) (fun j c hj hc => hno j c (by omega) hc)]
theorem rplain_any {w0 : World} (s : Tx) (hs : s.length ≤ 9223372036854775807) : Cl Tryz.prog 130 [S s] w0 (fun v w' => v = B (plainF s) ∧ St w0 NoneS [] w') := by
  have hSt := St.refl w0 NoneS
  refine enter Tryz.func130 rfl Tryz.ntmps130 rfl ?_
  repeat' (first | refine stepA ?_ | (refine stepS ?_; clear hSt; intro w hSt; dsimp only [spl, List.set] at hSt) | (refine stepB ?_; clear hSt; intro w nb hnb hSt; dsimp only [zcells, List.nil_append, List.cons_append] at hSt) | (refine stepG ?_ ?_ <;> intro hc <;> (try exact absA) <;> (fail_if_success (change true = true at hc)) <;> (fail_if_success (change false = false at hc))) | fail)
  refine W_loop1 (fun k (i : Nat) w => k = s.length - i ∧ i ≤ s.length ∧ (∀ (j : Nat) (c : UInt8), j < i → s[j]? = some c → txF c = true) ∧ St w0 NoneS [] w) (fun i => [(3, I (i : Int))]) s.length 0 rfl (by (repeat (first | exact Str.nil _ | apply Str.drop rfl | apply Str.keepU rfl | apply Str.keep rfl))) ⟨rfl, by omega, by intro j c hj; omega, hSt⟩ (by (repeat (first | exact Sub.nil _ | refine Sub.cons rfl ?_))) ?_
  clear hSt
  rintro k i w ⟨hk, hi, hno, hSt⟩ K hK
  by_cases hil : i < s.length
  · obtain ⟨x, hx⟩ : ∃ x, s[i]? = some x := ⟨_, List.getElem?_eq_getElem hil⟩
    have hq : s[(i : Int).toNat]? = some x := by rw [Int.toNat_natCast]; exact hx
    have hx8 := x.toNat_lt
    obtain ⟨d, hd, hdd⟩ := or32c x
    repeat' (first | (apply WL_ev rfl rfl; exact Ev_strIndex hT rfl rfl rfl (by omega) hq) | (apply WL_ev rfl rfl; exact Ev_orE rfl rfl hd) | refine stepA ?_ | (refine stepS ?_; clear hSt; intro w hSt; dsimp only [spl, List.set] at hSt) | (refine stepB ?_; clear hSt; intro w nb hnb hSt; dsimp only [zcells, List.nil_append, List.cons_append] at hSt) | (refine stepG ?_ ?_ <;> intro hc <;> (try exact absA) <;> (fail_if_success (change true = true at hc)) <;> (fail_if_success (change false = false at hc))) | fail)
    all_goals first
      | (refine ret1 rfl rfl ⟨?_, hSt⟩; rw [show plainF s = false from plainF_no hx (txF_f (by omega))]; done)
      | exact At_loop1 hK (k' := s.length - (i + 1)) (i + 1) (by omega) ⟨rfl, by omega, snoc_all (p := fun c j => txF c = true) hno hx (txF_t (by omega)), hSt⟩ (by (repeat (first | exact Sub.nil _ | refine Sub.cons rfl ?_)))
      | (exfalso; omega)
  · repeat' (first | refine stepA ?_ | (refine stepS ?_; clear hSt; intro w hSt; dsimp only [spl, List.set] at hSt) | (refine stepB ?_; clear hSt; intro w nb hnb hSt; dsimp only [zcells, List.nil_append, List.cons_append] at hSt) | (refine stepG ?_ ?_ <;> intro hc <;> (try exact absA) <;> (fail_if_success (change true = true at hc)) <;> (fail_if_success (change false = false at hc))) | fail)
    refine ret1 rfl rfl ⟨?_, hSt⟩
    by_cases hlen : s.length ≤ 200
    · rw [show plainF s = true from plainF_yes hlen (fun j c hj hc => hno j c (by omega) hc)]
      congr 1; exact decide_eq_true (by omega)
    · rw [plainF_len hlen]
      congr 1; exact decide_eq_false (by omega)
end Go.Proofs.YtknfankadlokhaaGreatDoor

namespace Go.Proofs.YtknfankadlokhaaGreatDoor
open Go.RowKit
set_option maxRecDepth 4000
set_option linter.unusedVariables false
set_option linter.unusedSimpArgs false
set_option maxHeartbeats 4000000

theorem SlAt.take {w : World} {a : Option Addr} {n cap : Nat} {z : Nat} {xs : List (List Value)} (h : SlAt w (.slice a n cap) z xs) (k : Nat) (hk : k ≤ n) : SlAt w (.slice a k cap) z (xs.take k) := by
  obtain ⟨a', cap', e, h⟩ := h
  injection e with e1 e2 e3
  subst e1; subst e2; subst e3
  refine ⟨a, cap, by rw [List.length_take]; congr 1; omega, fun i x hi => ?_⟩
  rw [List.getElem?_take] at hi
  split at hi
  · exact h i x hi
  · cases hi
theorem hno_snoc {α : Type} {l : List α} {p : α → Bool} {i : Nat} {x : α} (h : ∀ (j : Nat) (c : α), j < i → l[j]? = some c → p c = false) (hx : l[i]? = some x) (hp : p x = false) : ∀ (j : Nat) (c : α), j < i + 1 → l[j]? = some c → p c = false := by
  intro j c hj hc
  by_cases hji : j < i
  · exact h j c hji hc
  · have : j = i := by omega
    subst this; rw [hx] at hc; injection hc with hc; subst hc; exact hp
theorem pno_snoc {α : Type} {l : List α} {p : α → Prop} {i : Nat} {x : α} (h : ∀ (j : Nat) (c : α), j < i → l[j]? = some c → p c) (hx : l[i]? = some x) (hp : p x) : ∀ (j : Nat) (c : α), j < i + 1 → l[j]? = some c → p c := by
  intro j c hj hc
  by_cases hji : j < i
  · exact h j c hji hc
  · have : j = i := by omega
    subst this; rw [hx] at hc; injection hc with hc; subst hc; exact hp
theorem ixL_any {w0 : World} {α : Type} {v0 : Value} {xs : List (List Value)} {l : List α} {f : FuncId} {caps : List Value} (p : α → Bool) (hs : SlAt w0 v0 8 xs) (hxl : xs.length = l.length) (hlen : l.length ≤ 9223372036854775807) (hf : callB Tryz.prog f = true)
    (hcl : ∀ w, St w0 NoneS [] w → ∀ (i : Nat) (x : List Value) (a : α), xs[i]? = some x → l[i]? = some a → Cl Tryz.prog f (.agg ⟨x⟩ :: caps) w (fun r w' => r = B (p a) ∧ St w NoneS [] w')) :
    Cl Tryz.prog 83 [v0, .func (.func f) ⟨[]⟩ ⟨caps⟩] w0 (fun r w' => r = I (idxP p l) ∧ St w0 NoneS [] w') := by
  have hSt := St.refl w0 NoneS
  obtain ⟨a1, p1, rfl, hc1⟩ := hs.some_ hxl
  refine enter Tryz.func83 rfl Tryz.ntmps83 rfl ?_
  repeat' (first | refine stepA ?_ | (refine stepS ?_; clear hSt; intro w hSt; dsimp only [spl, List.set] at hSt) | (refine stepB ?_; clear hSt; intro w nb hnb hSt; dsimp only [zcells, List.nil_append, List.cons_append] at hSt) | (refine stepG ?_ ?_ <;> intro hc <;> (try exact absA) <;> (fail_if_success (change true = true at hc)) <;> (fail_if_success (change false = false at hc))) | fail)
  refine W_loop1 (fun k (i : Nat) w => k = l.length - i ∧ i ≤ l.length ∧ (∀ (j : Nat) (y : α), j < i → l[j]? = some y → p y = false) ∧ St w0 NoneS [] w) (fun i => [(8, I (i : Int))]) l.length 0 rfl (by (repeat (first | exact Str.nil _ | apply Str.drop rfl | apply Str.keepU rfl | apply Str.keep rfl))) ⟨rfl, by omega, by intro j y hj; omega, hSt⟩ (by (repeat (first | exact Sub.nil _ | refine Sub.cons rfl ?_))) ?_
  clear hSt
  rintro k i w ⟨hk, hi, hno, hSt⟩ K hK
  by_cases hil : i < l.length
  · obtain ⟨a, ha⟩ : ∃ a, l[i]? = some a := ⟨_, List.getElem?_eq_getElem hil⟩
    obtain ⟨x, hx⟩ : ∃ x, xs[i]? = some x := ⟨_, List.getElem?_eq_getElem (by omega)⟩
    obtain ⟨b1, o1, c1, E1, z1, rfl, hb1, q1, hl1⟩ := hc1 i _ hx
    rw [← Int.toNat_natCast i] at q1
    repeat' (first | (apply WL_ev rfl rfl; exact Ev_loadN hT rfl rfl (hSt.base hb1 (fun e => e)) q1 hl1) | (refine WL_callV hf rfl rfl rfl rfl (hcl _ hSt i _ a hx ha) ?_; rintro v w' ⟨rfl, hc2⟩; replace hSt := hSt.call0 hc2; clear hc2) | refine stepA ?_ | (refine stepS ?_; clear hSt; intro w hSt; dsimp only [spl, List.set] at hSt) | (refine stepB ?_; clear hSt; intro w nb hnb hSt; dsimp only [zcells, List.nil_append, List.cons_append] at hSt) | (refine stepG ?_ ?_ <;> intro hc <;> (try exact absA) <;> (fail_if_success (change true = true at hc)) <;> (fail_if_success (change false = false at hc))) | fail)
    · exact ret1 rfl rfl ⟨by rw [idxP_hit ha hc hno], hSt⟩
    · exact At_loop1 hK (k' := l.length - (i + 1)) (i + 1) (by omega) ⟨rfl, by omega, hno_snoc hno ha hc, hSt⟩ (by (repeat (first | exact Sub.nil _ | refine Sub.cons rfl ?_)))
  · repeat' (first | refine stepA ?_ | (refine stepS ?_; clear hSt; intro w hSt; dsimp only [spl, List.set] at hSt) | (refine stepB ?_; clear hSt; intro w nb hnb hSt; dsimp only [zcells, List.nil_append, List.cons_append] at hSt) | (refine stepG ?_ ?_ <;> intro hc <;> (try exact absA) <;> (fail_if_success (change true = true at hc)) <;> (fail_if_success (change false = false at hc))) | fail)
    exact ret1 rfl rfl ⟨by rw [idxP_none (n := i) (by omega) hno], hSt⟩
theorem ixS_any {w0 : World} {α : Type} {v0 : Value} {xs : List (List Value)} {l : List α} {f : FuncId} {caps : List Value} (p : α → Bool) (hs : SlAt w0 v0 1 xs) (hxl : xs.length = l.length) (hlen : l.length ≤ 9223372036854775807) (hf : callB Tryz.prog f = true)
    (hcl : ∀ w, St w0 NoneS [] w → ∀ (i : Nat) (x : Value) (a : α), xs[i]? = some [x] → l[i]? = some a → Cl Tryz.prog f (x :: caps) w (fun r w' => r = B (p a) ∧ St w NoneS [] w')) :
    Cl Tryz.prog 82 [v0, .func (.func f) ⟨[]⟩ ⟨caps⟩] w0 (fun r w' => r = I (idxP p l) ∧ St w0 NoneS [] w') := by
  have hSt := St.refl w0 NoneS
  obtain ⟨a1, p1, rfl, hc1⟩ := hs.some_ hxl
  refine enter Tryz.func82 rfl Tryz.ntmps82 rfl ?_
  repeat' (first | refine stepA ?_ | (refine stepS ?_; clear hSt; intro w hSt; dsimp only [spl, List.set] at hSt) | (refine stepB ?_; clear hSt; intro w nb hnb hSt; dsimp only [zcells, List.nil_append, List.cons_append] at hSt) | (refine stepG ?_ ?_ <;> intro hc <;> (try exact absA) <;> (fail_if_success (change true = true at hc)) <;> (fail_if_success (change false = false at hc))) | fail)
  refine W_loop1 (fun k (i : Nat) w => k = l.length - i ∧ i ≤ l.length ∧ (∀ (j : Nat) (y : α), j < i → l[j]? = some y → p y = false) ∧ St w0 NoneS [] w) (fun i => [(8, I (i : Int))]) l.length 0 rfl (by (repeat (first | exact Str.nil _ | apply Str.drop rfl | apply Str.keepU rfl | apply Str.keep rfl))) ⟨rfl, by omega, by intro j y hj; omega, hSt⟩ (by (repeat (first | exact Sub.nil _ | refine Sub.cons rfl ?_))) ?_
  clear hSt
  rintro k i w ⟨hk, hi, hno, hSt⟩ K hK
  by_cases hil : i < l.length
  · obtain ⟨a, ha⟩ : ∃ a, l[i]? = some a := ⟨_, List.getElem?_eq_getElem hil⟩
    obtain ⟨x, hx⟩ : ∃ x, xs[i]? = some x := ⟨_, List.getElem?_eq_getElem (by omega)⟩
    obtain ⟨b1, o1, c1, E1, z1, rfl, hb1, q1, hl1⟩ := hc1 i _ hx
    obtain ⟨s1, rfl⟩ : ∃ s1, x = [s1] := by
      match x, hl1 with
      | [s1], _ => exact ⟨s1, rfl⟩
    replace q1 := SlAt.cell q1 (j := 0) rfl
    rw [← Int.toNat_natCast i] at q1
    repeat' (first | (apply WL_ev rfl rfl; exact Ev_load1 hT rfl rfl (hSt.base hb1 (fun e => e)) q1) | (refine WL_callV hf rfl rfl rfl rfl (hcl _ hSt i _ a hx ha) ?_; rintro v w' ⟨rfl, hc2⟩; replace hSt := hSt.call0 hc2; clear hc2) | refine stepA ?_ | (refine stepS ?_; clear hSt; intro w hSt; dsimp only [spl, List.set] at hSt) | (refine stepB ?_; clear hSt; intro w nb hnb hSt; dsimp only [zcells, List.nil_append, List.cons_append] at hSt) | (refine stepG ?_ ?_ <;> intro hc <;> (try exact absA) <;> (fail_if_success (change true = true at hc)) <;> (fail_if_success (change false = false at hc))) | fail)
    · exact ret1 rfl rfl ⟨by rw [idxP_hit ha hc hno], hSt⟩
    · exact At_loop1 hK (k' := l.length - (i + 1)) (i + 1) (by omega) ⟨rfl, by omega, hno_snoc hno ha hc, hSt⟩ (by (repeat (first | exact Sub.nil _ | refine Sub.cons rfl ?_)))
  · repeat' (first | refine stepA ?_ | (refine stepS ?_; clear hSt; intro w hSt; dsimp only [spl, List.set] at hSt) | (refine stepB ?_; clear hSt; intro w nb hnb hSt; dsimp only [zcells, List.nil_append, List.cons_append] at hSt) | (refine stepG ?_ ?_ <;> intro hc <;> (try exact absA) <;> (fail_if_success (change true = true at hc)) <;> (fail_if_success (change false = false at hc))) | fail)
    exact ret1 rfl rfl ⟨by rw [idxP_none (n := i) (by omega) hno], hSt⟩
theorem ixG_any {w0 : World} {α : Type} {v0 : Value} {xs : List (List Value)} {l : List α} {f : FuncId} {caps : List Value} (p : α → Bool) (hs : SlAt w0 v0 2 xs) (hxl : xs.length = l.length) (hlen : l.length ≤ 9223372036854775807) (hf : callB Tryz.prog f = true)
    (hcl : ∀ w, St w0 NoneS [] w → ∀ (i : Nat) (x : List Value) (a : α), xs[i]? = some x → l[i]? = some a → Cl Tryz.prog f (.agg ⟨x⟩ :: caps) w (fun r w' => r = B (p a) ∧ St w NoneS [] w')) :
    Cl Tryz.prog 134 [v0, .func (.func f) ⟨[]⟩ ⟨caps⟩] w0 (fun r w' => r = I (idxP p l) ∧ St w0 NoneS [] w') := by
  have hSt := St.refl w0 NoneS
  obtain ⟨a1, p1, rfl, hc1⟩ := hs.some_ hxl
  refine enter Tryz.func134 rfl Tryz.ntmps134 rfl ?_
  repeat' (first | refine stepA ?_ | (refine stepS ?_; clear hSt; intro w hSt; dsimp only [spl, List.set] at hSt) | (refine stepB ?_; clear hSt; intro w nb hnb hSt; dsimp only [zcells, List.nil_append, List.cons_append] at hSt) | (refine stepG ?_ ?_ <;> intro hc <;> (try exact absA) <;> (fail_if_success (change true = true at hc)) <;> (fail_if_success (change false = false at hc))) | fail)
  refine W_loop1 (fun k (i : Nat) w => k = l.length - i ∧ i ≤ l.length ∧ (∀ (j : Nat) (y : α), j < i → l[j]? = some y → p y = false) ∧ St w0 NoneS [] w) (fun i => [(8, I (i : Int))]) l.length 0 rfl (by (repeat (first | exact Str.nil _ | apply Str.drop rfl | apply Str.keepU rfl | apply Str.keep rfl))) ⟨rfl, by omega, by intro j y hj; omega, hSt⟩ (by (repeat (first | exact Sub.nil _ | refine Sub.cons rfl ?_))) ?_
  clear hSt
  rintro k i w ⟨hk, hi, hno, hSt⟩ K hK
  by_cases hil : i < l.length
  · obtain ⟨a, ha⟩ : ∃ a, l[i]? = some a := ⟨_, List.getElem?_eq_getElem hil⟩
    obtain ⟨x, hx⟩ : ∃ x, xs[i]? = some x := ⟨_, List.getElem?_eq_getElem (by omega)⟩
    obtain ⟨b1, o1, c1, E1, z1, rfl, hb1, q1, hl1⟩ := hc1 i _ hx
    rw [← Int.toNat_natCast i] at q1
    repeat' (first | (apply WL_ev rfl rfl; exact Ev_loadN hT rfl rfl (hSt.base hb1 (fun e => e)) q1 hl1) | (refine WL_callV hf rfl rfl rfl rfl (hcl _ hSt i _ a hx ha) ?_; rintro v w' ⟨rfl, hc2⟩; replace hSt := hSt.call0 hc2; clear hc2) | refine stepA ?_ | (refine stepS ?_; clear hSt; intro w hSt; dsimp only [spl, List.set] at hSt) | (refine stepB ?_; clear hSt; intro w nb hnb hSt; dsimp only [zcells, List.nil_append, List.cons_append] at hSt) | (refine stepG ?_ ?_ <;> intro hc <;> (try exact absA) <;> (fail_if_success (change true = true at hc)) <;> (fail_if_success (change false = false at hc))) | fail)
    · exact ret1 rfl rfl ⟨by rw [idxP_hit ha hc hno], hSt⟩
    · exact At_loop1 hK (k' := l.length - (i + 1)) (i + 1) (by omega) ⟨rfl, by omega, hno_snoc hno ha hc, hSt⟩ (by (repeat (first | exact Sub.nil _ | refine Sub.cons rfl ?_)))
  · repeat' (first | refine stepA ?_ | (refine stepS ?_; clear hSt; intro w hSt; dsimp only [spl, List.set] at hSt) | (refine stepB ?_; clear hSt; intro w nb hnb hSt; dsimp only [zcells, List.nil_append, List.cons_append] at hSt) | (refine stepG ?_ ?_ <;> intro hc <;> (try exact absA) <;> (fail_if_success (change true = true at hc)) <;> (fail_if_success (change false = false at hc))) | fail)
    exact ret1 rfl rfl ⟨by rw [idxP_none (n := i) (by omega) hno], hSt⟩
theorem ixC_any {w0 : World} {α : Type} {v0 : Value} {xs : List (List Value)} {l : List α} {f : FuncId} {caps : List Value} (p : α → Bool) (hs : SlAt w0 v0 4 xs) (hxl : xs.length = l.length) (hlen : l.length ≤ 9223372036854775807) (hf : callB Tryz.prog f = true)
    (hcl : ∀ w, St w0 NoneS [] w → ∀ (i : Nat) (x : List Value) (a : α), xs[i]? = some x → l[i]? = some a → Cl Tryz.prog f (.agg ⟨x⟩ :: caps) w (fun r w' => r = B (p a) ∧ St w NoneS [] w')) :
    Cl Tryz.prog 142 [v0, .func (.func f) ⟨[]⟩ ⟨caps⟩] w0 (fun r w' => r = I (idxP p l) ∧ St w0 NoneS [] w') := by
  have hSt := St.refl w0 NoneS
  obtain ⟨a1, p1, rfl, hc1⟩ := hs.some_ hxl
  refine enter Tryz.func142 rfl Tryz.ntmps142 rfl ?_
  repeat' (first | refine stepA ?_ | (refine stepS ?_; clear hSt; intro w hSt; dsimp only [spl, List.set] at hSt) | (refine stepB ?_; clear hSt; intro w nb hnb hSt; dsimp only [zcells, List.nil_append, List.cons_append] at hSt) | (refine stepG ?_ ?_ <;> intro hc <;> (try exact absA) <;> (fail_if_success (change true = true at hc)) <;> (fail_if_success (change false = false at hc))) | fail)
  refine W_loop1 (fun k (i : Nat) w => k = l.length - i ∧ i ≤ l.length ∧ (∀ (j : Nat) (y : α), j < i → l[j]? = some y → p y = false) ∧ St w0 NoneS [] w) (fun i => [(8, I (i : Int))]) l.length 0 rfl (by (repeat (first | exact Str.nil _ | apply Str.drop rfl | apply Str.keepU rfl | apply Str.keep rfl))) ⟨rfl, by omega, by intro j y hj; omega, hSt⟩ (by (repeat (first | exact Sub.nil _ | refine Sub.cons rfl ?_))) ?_
  clear hSt
  rintro k i w ⟨hk, hi, hno, hSt⟩ K hK
  by_cases hil : i < l.length
  · obtain ⟨a, ha⟩ : ∃ a, l[i]? = some a := ⟨_, List.getElem?_eq_getElem hil⟩
    obtain ⟨x, hx⟩ : ∃ x, xs[i]? = some x := ⟨_, List.getElem?_eq_getElem (by omega)⟩
    obtain ⟨b1, o1, c1, E1, z1, rfl, hb1, q1, hl1⟩ := hc1 i _ hx
    rw [← Int.toNat_natCast i] at q1
    repeat' (first | (apply WL_ev rfl rfl; exact Ev_loadN hT rfl rfl (hSt.base hb1 (fun e => e)) q1 hl1) | (refine WL_callV hf rfl rfl rfl rfl (hcl _ hSt i _ a hx ha) ?_; rintro v w' ⟨rfl, hc2⟩; replace hSt := hSt.call0 hc2; clear hc2) | refine stepA ?_ | (refine stepS ?_; clear hSt; intro w hSt; dsimp only [spl, List.set] at hSt) | (refine stepB ?_; clear hSt; intro w nb hnb hSt; dsimp only [zcells, List.nil_append, List.cons_append] at hSt) | (refine stepG ?_ ?_ <;> intro hc <;> (try exact absA) <;> (fail_if_success (change true = true at hc)) <;> (fail_if_success (change false = false at hc))) | fail)
    · exact ret1 rfl rfl ⟨by rw [idxP_hit ha hc hno], hSt⟩
    · exact At_loop1 hK (k' := l.length - (i + 1)) (i + 1) (by omega) ⟨rfl, by omega, hno_snoc hno ha hc, hSt⟩ (by (repeat (first | exact Sub.nil _ | refine Sub.cons rfl ?_)))
  · repeat' (first | refine stepA ?_ | (refine stepS ?_; clear hSt; intro w hSt; dsimp only [spl, List.set] at hSt) | (refine stepB ?_; clear hSt; intro w nb hnb hSt; dsimp only [zcells, List.nil_append, List.cons_append] at hSt) | (refine stepG ?_ ?_ <;> intro hc <;> (try exact absA) <;> (fail_if_success (change true = true at hc)) <;> (fail_if_success (change false = false at hc))) | fail)
    exact ret1 rfl rfl ⟨by rw [idxP_none (n := i) (by omega) hno], hSt⟩
theorem conS_any {w0 : World} {α : Type} {v0 : Value} {xs : List (List Value)} {l : List α} {f : FuncId} {caps : List Value} (p : α → Bool) (hs : SlAt w0 v0 1 xs) (hxl : xs.length = l.length) (hlen : l.length ≤ 9223372036854775807) (hf : callB Tryz.prog f = true)
    (hcl : ∀ w, St w0 NoneS [] w → ∀ (i : Nat) (x : Value) (a : α), xs[i]? = some [x] → l[i]? = some a → Cl Tryz.prog f (x :: caps) w (fun r w' => r = B (p a) ∧ St w NoneS [] w')) :
    Cl Tryz.prog 39 [v0, .func (.func f) ⟨[]⟩ ⟨caps⟩] w0 (fun r w' => r = B (l.any p) ∧ St w0 NoneS [] w') := by
  have hSt := St.refl w0 NoneS
  refine enter Tryz.func39 rfl Tryz.ntmps39 rfl ?_
  repeat' (first | (refine WL_call (ok_call hT rfl) rfl rfl rfl (ixS_any p hs hxl hlen hf hcl) ?_; rintro v w' ⟨rfl, hc2⟩; replace hSt := hSt.call0 hc2; clear hc2) | refine stepA ?_ | (refine stepS ?_; clear hSt; intro w hSt; dsimp only [spl, List.set] at hSt) | (refine stepB ?_; clear hSt; intro w nb hnb hSt; dsimp only [zcells, List.nil_append, List.cons_append] at hSt) | (refine stepG ?_ ?_ <;> intro hc <;> (try exact absA) <;> (fail_if_success (change true = true at hc)) <;> (fail_if_success (change false = false at hc))) | fail)
  exact ret1 rfl rfl ⟨congrArg B (idxP_pos p l), hSt⟩
theorem conG_any {w0 : World} {α : Type} {v0 : Value} {xs : List (List Value)} {l : List α} {f : FuncId} {caps : List Value} (p : α → Bool) (hs : SlAt w0 v0 2 xs) (hxl : xs.length = l.length) (hlen : l.length ≤ 9223372036854775807) (hf : callB Tryz.prog f = true)
    (hcl : ∀ w, St w0 NoneS [] w → ∀ (i : Nat) (x : List Value) (a : α), xs[i]? = some x → l[i]? = some a → Cl Tryz.prog f (.agg ⟨x⟩ :: caps) w (fun r w' => r = B (p a) ∧ St w NoneS [] w')) :
    Cl Tryz.prog 109 [v0, .func (.func f) ⟨[]⟩ ⟨caps⟩] w0 (fun r w' => r = B (l.any p) ∧ St w0 NoneS [] w') := by
  have hSt := St.refl w0 NoneS
  refine enter Tryz.func109 rfl Tryz.ntmps109 rfl ?_
  repeat' (first | (refine WL_call (ok_call hT rfl) rfl rfl rfl (ixG_any p hs hxl hlen hf hcl) ?_; rintro v w' ⟨rfl, hc2⟩; replace hSt := hSt.call0 hc2; clear hc2) | refine stepA ?_ | (refine stepS ?_; clear hSt; intro w hSt; dsimp only [spl, List.set] at hSt) | (refine stepB ?_; clear hSt; intro w nb hnb hSt; dsimp only [zcells, List.nil_append, List.cons_append] at hSt) | (refine stepG ?_ ?_ <;> intro hc <;> (try exact absA) <;> (fail_if_success (change true = true at hc)) <;> (fail_if_success (change false = false at hc))) | fail)
  exact ret1 rfl rfl ⟨congrArg B (idxP_pos p l), hSt⟩
theorem conC_any {w0 : World} {α : Type} {v0 : Value} {xs : List (List Value)} {l : List α} {f : FuncId} {caps : List Value} (p : α → Bool) (hs : SlAt w0 v0 4 xs) (hxl : xs.length = l.length) (hlen : l.length ≤ 9223372036854775807) (hf : callB Tryz.prog f = true)
    (hcl : ∀ w, St w0 NoneS [] w → ∀ (i : Nat) (x : List Value) (a : α), xs[i]? = some x → l[i]? = some a → Cl Tryz.prog f (.agg ⟨x⟩ :: caps) w (fun r w' => r = B (p a) ∧ St w NoneS [] w')) :
    Cl Tryz.prog 132 [v0, .func (.func f) ⟨[]⟩ ⟨caps⟩] w0 (fun r w' => r = B (l.any p) ∧ St w0 NoneS [] w') := by
  have hSt := St.refl w0 NoneS
  refine enter Tryz.func132 rfl Tryz.ntmps132 rfl ?_
  repeat' (first | (refine WL_call (ok_call hT rfl) rfl rfl rfl (ixC_any p hs hxl hlen hf hcl) ?_; rintro v w' ⟨rfl, hc2⟩; replace hSt := hSt.call0 hc2; clear hc2) | refine stepA ?_ | (refine stepS ?_; clear hSt; intro w hSt; dsimp only [spl, List.set] at hSt) | (refine stepB ?_; clear hSt; intro w nb hnb hSt; dsimp only [zcells, List.nil_append, List.cons_append] at hSt) | (refine stepG ?_ ?_ <;> intro hc <;> (try exact absA) <;> (fail_if_success (change true = true at hc)) <;> (fail_if_success (change false = false at hc))) | fail)
  exact ret1 rfl rfl ⟨congrArg B (idxP_pos p l), hSt⟩
theorem sidx_any {w0 : World} {v0 : Value} {l : List Tx} (n : Tx) (hs : SlAt w0 v0 1 (l.map tc)) (hlen : l.length ≤ 9223372036854775807) : Cl Tryz.prog 89 [v0, S n] w0 (fun r w' => r = I (idxP (fun y => decide (n = y)) l) ∧ St w0 NoneS [] w') := by
  have hSt := St.refl w0 NoneS
  obtain ⟨a1, p1, rfl, hc1⟩ := hs.map
  refine enter Tryz.func89 rfl Tryz.ntmps89 rfl ?_
  repeat' (first | refine stepA ?_ | (refine stepS ?_; clear hSt; intro w hSt; dsimp only [spl, List.set] at hSt) | (refine stepB ?_; clear hSt; intro w nb hnb hSt; dsimp only [zcells, List.nil_append, List.cons_append] at hSt) | (refine stepG ?_ ?_ <;> intro hc <;> (try exact absA) <;> (fail_if_success (change true = true at hc)) <;> (fail_if_success (change false = false at hc))) | fail)
  refine W_loop1 (fun k (i : Nat) w => k = l.length - i ∧ i ≤ l.length ∧ (∀ (j : Nat) (y : Tx), j < i → l[j]? = some y → (fun y => decide (n = y)) y = false) ∧ St w0 NoneS [] w) (fun i => [(8, I (i : Int))]) l.length 0 rfl (by (repeat (first | exact Str.nil _ | apply Str.drop rfl | apply Str.keepU rfl | apply Str.keep rfl))) ⟨rfl, by omega, by intro j y hj; omega, hSt⟩ (by (repeat (first | exact Sub.nil _ | refine Sub.cons rfl ?_))) ?_
  clear hSt
  rintro k i w ⟨hk, hi, hno, hSt⟩ K hK
  by_cases hil : i < l.length
  · obtain ⟨x, hx⟩ : ∃ x, l[i]? = some x := ⟨_, List.getElem?_eq_getElem hil⟩
    obtain ⟨b1, o1, m1, E1, z1, rfl, hb1, _, q1⟩ := hc1 i _ hx
    replace q1 := q1 0 _ rfl
    rw [← Int.toNat_natCast i] at q1
    repeat' (first | (apply WL_ev rfl rfl; exact Ev_load1 hT rfl rfl (hSt.base hb1 (fun e => e)) q1) | refine stepA ?_ | (refine stepS ?_; clear hSt; intro w hSt; dsimp only [spl, List.set] at hSt) | (refine stepB ?_; clear hSt; intro w nb hnb hSt; dsimp only [zcells, List.nil_append, List.cons_append] at hSt) | (refine stepG ?_ ?_ <;> intro hc <;> (try exact absA) <;> (fail_if_success (change true = true at hc)) <;> (fail_if_success (change false = false at hc))) | fail)
    · exact ret1 rfl rfl ⟨by rw [idxP_hit hx (decide_eq_true hc) hno], hSt⟩
    · exact At_loop1 hK (k' := l.length - (i + 1)) (i + 1) (by omega) ⟨rfl, by omega, hno_snoc hno hx (decide_eq_false hc), hSt⟩ (by (repeat (first | exact Sub.nil _ | refine Sub.cons rfl ?_)))
  · repeat' (first | refine stepA ?_ | (refine stepS ?_; clear hSt; intro w hSt; dsimp only [spl, List.set] at hSt) | (refine stepB ?_; clear hSt; intro w nb hnb hSt; dsimp only [zcells, List.nil_append, List.cons_append] at hSt) | (refine stepG ?_ ?_ <;> intro hc <;> (try exact absA) <;> (fail_if_success (change true = true at hc)) <;> (fail_if_success (change false = false at hc))) | fail)
    exact ret1 rfl rfl ⟨by rw [idxP_none (n := i) (by omega) hno], hSt⟩
theorem scon_any {w0 : World} {v0 : Value} {l : List Tx} (n : Tx) (hs : SlAt w0 v0 1 (l.map tc)) (hlen : l.length ≤ 9223372036854775807) : Cl Tryz.prog 47 [v0, S n] w0 (fun r w' => r = B (hasF l n) ∧ St w0 NoneS [] w') := by
  have hSt := St.refl w0 NoneS
  refine enter Tryz.func47 rfl Tryz.ntmps47 rfl ?_
  repeat' (first | (refine WL_call (ok_call hT rfl) rfl rfl rfl (sidx_any n hs hlen) ?_; rintro v w' ⟨rfl, hc2⟩; replace hSt := hSt.call0 hc2; clear hc2) | refine stepA ?_ | (refine stepS ?_; clear hSt; intro w hSt; dsimp only [spl, List.set] at hSt) | (refine stepB ?_; clear hSt; intro w nb hnb hSt; dsimp only [zcells, List.nil_append, List.cons_append] at hSt) | (refine stepG ?_ ?_ <;> intro hc <;> (try exact absA) <;> (fail_if_success (change true = true at hc)) <;> (fail_if_success (change false = false at hc))) | fail)
  exact ret1 rfl rfl ⟨congrArg B (idxP_pos _ l), hSt⟩
theorem value_any {w0 : World} {v0 : Value} {l : List Sg} (n : Tx) (hs : SlAt w0 v0 2 (l.map sgC)) (hlen : l.length ≤ 9223372036854775807) : Cl Tryz.prog 81 [v0, S n] w0 (fun r w' => r = .tuple ⟨[S ((valF l n).getD []), B (valF l n).isSome]⟩ ∧ St w0 NoneS [] w') := by
  have hSt := St.refl w0 NoneS
  obtain ⟨a1, p1, rfl, hc1⟩ := hs.map
  refine enter Tryz.func81 rfl Tryz.ntmps81 rfl ?_
  repeat' (first | refine stepA ?_ | (refine stepS ?_; clear hSt; intro w hSt; dsimp only [spl, List.set] at hSt) | (refine stepB ?_; clear hSt; intro w nb hnb hSt; dsimp only [zcells, List.nil_append, List.cons_append] at hSt) | (refine stepG ?_ ?_ <;> intro hc <;> (try exact absA) <;> (fail_if_success (change true = true at hc)) <;> (fail_if_success (change false = false at hc))) | fail)
  refine W_loop1 (fun k (i : Nat) w => k = l.length - i ∧ i ≤ l.length ∧ (∀ (j : Nat) (y : Sg), j < i → l[j]? = some y → y.1 ≠ n) ∧ St w0 NoneS [] w) (fun i => [(10, I (i : Int))]) l.length 0 rfl (by (repeat (first | exact Str.nil _ | apply Str.drop rfl | apply Str.keepU rfl | apply Str.keep rfl))) ⟨rfl, by omega, by intro j y hj; omega, hSt⟩ (by (repeat (first | exact Sub.nil _ | refine Sub.cons rfl ?_))) ?_
  clear hSt
  rintro k i w ⟨hk, hi, hno, hSt⟩ K hK
  by_cases hil : i < l.length
  · obtain ⟨x, hx⟩ : ∃ x, l[i]? = some x := ⟨_, List.getElem?_eq_getElem hil⟩
    obtain ⟨b1, o1, m1, E1, z1, rfl, hb1, q, q1⟩ := hc1 i _ hx
    have q0 := q1 0 _ rfl
    replace q1 := q1 1 _ rfl
    rw [← Int.toNat_natCast i] at q q0 q1
    repeat' (first | (apply WL_ev rfl rfl; exact Ev_load1 hT rfl rfl (hSt.base hb1 (fun e => e)) q0) | (apply WL_ev rfl rfl; exact Ev_load1 hT rfl rfl (hSt.base hb1 (fun e => e)) q1) | (apply WL_ev rfl rfl; exact Ev_loadN hT rfl rfl (hSt.base hb1 (fun e => e)) q rfl) | refine stepA ?_ | (refine stepS ?_; clear hSt; intro w hSt; dsimp only [spl, List.set] at hSt) | (refine stepB ?_; clear hSt; intro w nb hnb hSt; dsimp only [zcells, List.nil_append, List.cons_append] at hSt) | (refine stepG ?_ ?_ <;> intro hc <;> (try exact absA) <;> (fail_if_success (change true = true at hc)) <;> (fail_if_success (change false = false at hc))) | fail)
    · exact ret2 rfl rfl rfl ⟨by rw [valF_hit hx hc hno]; rfl, hSt.nil⟩
    · exact At_loop1 hK (k' := l.length - (i + 1)) (i + 1) (by omega) ⟨rfl, by omega, pno_snoc (p := fun y => y.1 ≠ n) hno hx hc, hSt.nil⟩ (by (repeat (first | exact Sub.nil _ | refine Sub.cons rfl ?_)))
  · repeat' (first | refine stepA ?_ | (refine stepS ?_; clear hSt; intro w hSt; dsimp only [spl, List.set] at hSt) | (refine stepB ?_; clear hSt; intro w nb hnb hSt; dsimp only [zcells, List.nil_append, List.cons_append] at hSt) | (refine stepG ?_ ?_ <;> intro hc <;> (try exact absA) <;> (fail_if_success (change true = true at hc)) <;> (fail_if_success (change false = false at hc))) | fail)
    exact ret2 rfl rfl rfl ⟨by rw [valF_none (k := i) (by omega) hno]; rfl, hSt⟩
end Go.Proofs.YtknfankadlokhaaGreatDoor
