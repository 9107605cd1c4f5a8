/- Launch descriptions in memory: what a condition, an entry and their lists look like. No conditions. -/
import Derived.Test.YtofnepeokihhnaaLhq
import Derived.Test.YtofnepeokihhnaaRl
import Derived.Test.YtofnepeokihhnaaEnr
namespace Go.Proofs.Ytofnepeokihhnaa
open Go.RowKit
set_option linter.unusedVariables false
set_option linter.unusedSimpArgs false

abbrev tc (s : Tx) : List Value := [S s]
abbrev sgC (s : Sg) : List Value := [S s.1, S s.2]
def Cn.op : Cn → Int | .mk o _ _ _ => o
def Cn.name : Cn → Tx | .mk _ n _ _ => n
def Cn.text : Cn → Tx | .mk _ _ t _ => t
def Cn.args : Cn → List Cn | .mk _ _ _ as => as
mutual
def CondAt (w : World) : Cn → List Value → Prop
  | .mk op n t as, cs => ∃ v xs, cs = [I op, S n, S t, v] ∧ SlAt w v 4 xs ∧ CondsAt w as xs ∧ t.length ≤ 9223372036854775807 ∧ as.length ≤ 9223372036854775807
def CondsAt (w : World) : List Cn → List (List Value) → Prop
  | [], xs => xs = []
  | a :: as, xs => ∃ x ys, xs = x :: ys ∧ CondAt w a x ∧ CondsAt w as ys
end
theorem CondsAt.len {w : World} : ∀ {as : List Cn} {xs : List (List Value)}, CondsAt w as xs → xs.length = as.length
  | [], xs, h => by rw [CondsAt] at h; subst h; rfl
  | a :: as, xs, h => by
    rw [CondsAt] at h
    obtain ⟨x, ys, rfl, _, h2⟩ := h
    simp [h2.len]
theorem CondsAt.at {w : World} : ∀ {as : List Cn} {xs : List (List Value)}, CondsAt w as xs → ∀ {i : Nat} {a : Cn}, as[i]? = some a → ∃ x, xs[i]? = some x ∧ CondAt w a x
  | [], xs, h, i, a, hi => by simp at hi
  | b :: as, xs, h, i, a, hi => by
    rw [CondsAt] at h
    obtain ⟨x, ys, rfl, h1, h2⟩ := h
    cases i with
    | zero => simp at hi; subst hi; exact ⟨x, rfl, h1⟩
    | succ i => simpa using h2.at (by simpa using hi)
theorem CondsAt.of {w : World} : ∀ {as : List Cn} {xs : List (List Value)}, xs.length = as.length → (∀ (i : Nat) (a : Cn) (x : List Value), as[i]? = some a → xs[i]? = some x → CondAt w a x) → CondsAt w as xs
  | [], xs, hl, _ => by rw [CondsAt]; simpa using hl
  | a :: as, [], hl, _ => by simp at hl
  | a :: as, x :: ys, hl, h => by
    rw [CondsAt]
    exact ⟨x, ys, rfl, h 0 a x rfl rfl, CondsAt.of (by simpa using hl) (fun i b y hb hy => h (i + 1) b y (by simpa using hb) (by simpa using hy))⟩
theorem CondAt.cells {w : World} {c : Cn} {cs : List Value} (h : CondAt w c cs) : ∃ v xs, cs = [I c.op, S c.name, S c.text, v] ∧ SlAt w v 4 xs ∧ CondsAt w c.args xs ∧ c.text.length ≤ 9223372036854775807 ∧ c.args.length ≤ 9223372036854775807 := by
  cases c; rw [CondAt] at h; exact h
theorem CondAt.mk_ {w : World} {c : Cn} {v : Value} {xs : List (List Value)} (h1 : SlAt w v 4 xs) (h2 : CondsAt w c.args xs) (h3 : c.text.length ≤ 9223372036854775807) (h4 : c.args.length ≤ 9223372036854775807) : CondAt w c [I c.op, S c.name, S c.text, v] := by
  cases c; rw [CondAt]; exact ⟨v, xs, rfl, h1, h2, h3, h4⟩
/-- a world in which all that lay in another one lies still -/
def Keeps (w0 w : World) : Prop := ∀ (b : Nat) (o : Obj), w0.heap[b]? = some o → w.heap[b]? = some o
theorem SlAt.kept {w0 w : World} {v : Value} {z : Nat} {xs : List (List Value)} (h : SlAt w0 v z xs) (k : Keeps w0 w) : SlAt w v z xs := by
  obtain ⟨a, cap, hv, h⟩ := h
  refine ⟨a, cap, hv, fun i x hi => ?_⟩
  obtain ⟨b, off, l, E, fz, ha, hb, hc⟩ := h i x hi
  exact ⟨b, off, l, E, fz, ha, k _ _ hb, hc⟩
theorem CondAt.kept {w0 w : World} (k : Keeps w0 w) : ∀ {c : Cn} {cs : List Value}, CondAt w0 c cs → CondAt w c cs := by
  intro c
  induction c using Cn.ind with
  | h op n t as ih =>
    intro cs h
    obtain ⟨v, xs, rfl, h1, h2, h3, h4⟩ := h.cells
    refine CondAt.mk_ (h1.kept k) (CondsAt.of h2.len fun i a x ha hx => ?_) h3 h4
    obtain ⟨y, hy, hc⟩ := h2.at ha
    rw [hx] at hy; injection hy with hy; subst hy
    exact ih a (List.mem_of_getElem? ha) hc
theorem St.keeps {w0 w : World} {H : List (Nat × Obj)} (h : St w0 NoneS H w) : Keeps w0 w := fun b o hb => h.base hb (fun e => e)
/-- a slice has room for its elements -/
def capO (v : Value) : Prop := ∀ (a : Option Addr) (n c : Nat), v = .slice a n c → n ≤ c
theorem capO.le {a : Option Addr} {n c : Nat} (h : capO (.slice a n c)) : n ≤ c := h a n c rfl
theorem capO.mk {a : Option Addr} {n c : Nat} (h : n ≤ c) : capO (.slice a n c) := fun _ _ _ e => by injection e with e1 e2 e3; omega
/-- an entry's cells -/
def LnAt (w : World) (cs : List Value) (x : Ln) : Prop := ∃ v va vs, cs = [S x.node, S x.prog, I x.cond.op, S x.cond.name, S x.cond.text, v, va, vs] ∧
  CondAt w x.cond [I x.cond.op, S x.cond.name, S x.cond.text, v] ∧ SlAt w va 1 (x.after.map tc) ∧ SlAt w vs 2 (x.sets.map sgC) ∧ capO va ∧ capO vs ∧ x.after.length ≤ 9223372036854775807 ∧ x.sets.length ≤ 9223372036854775807 ∧ ∀ s ∈ x.sets, s.2.length ≤ 9223372036854775807
theorem LnAt.kept {w0 w : World} {cs : List Value} {x : Ln} (h : LnAt w0 cs x) (k : Keeps w0 w) : LnAt w cs x := by
  obtain ⟨v, va, vs, e, h1, h2, h3, h4⟩ := h
  exact ⟨v, va, vs, e, h1.kept k, h2.kept k, h3.kept k, h4⟩
theorem Sls.kept {α : Type} {z : Nat} {c : World → List Value → α → Prop} {w0 w : World} {v : Value} {l : List α} (h : Sls z c w0 v l) (hc : ∀ x a, c w0 x a → c w x a) (k : Keeps w0 w) : Sls z c w v l := by
  obtain ⟨xs, h1, h2, h3⟩ := h
  exact ⟨xs, h1.kept k, h2, fun i x a hx ha => hc _ _ (h3 i x a hx ha)⟩
theorem SlAt.some_ {w : World} {v : Value} {z : Nat} {xs : List (List Value)} {n : Nat} (h : SlAt w v z xs) (hn : xs.length = n) : ∃ a cap, v = .slice a n cap ∧ ∀ (i : Nat) (x : List Value), xs[i]? = some x → ∃ b off l E fz, a = some ⟨b, off, none⟩ ∧ w.heap[b]? = some (.cells ⟨l⟩ E fz) ∧ (l.drop (off + i * z)).take z = x ∧ x.length = z := by
  subst hn; exact h
def Lns (w : World) (v : Value) (l : List Ln) : Prop := Sls 8 LnAt w v l ∧ capO v ∧ l.length ≤ 9223372036854775807
theorem Lns.kept {w0 w : World} {v : Value} {l : List Ln} (h : Lns w0 v l) (k : Keeps w0 w) : Lns w v l := ⟨Sls.kept h.1 (fun _ _ h => h.kept k) k, h.2⟩
theorem Lns.out {w : World} {v : Value} {l : List Ln} (h : Lns w v l) : ∃ a cap xs, v = .slice a l.length cap ∧ l.length ≤ cap ∧ l.length ≤ 9223372036854775807 ∧ xs.length = l.length ∧ SlAt w v 8 xs ∧
    (∀ (i : Nat) (x : List Value) (e : Ln), xs[i]? = some x → l[i]? = some e → LnAt w x e) ∧
    ∀ (i : Nat) (e : Ln), l[i]? = some e → ∃ x b off c E fz, xs[i]? = some x ∧ LnAt w x e ∧ a = some ⟨b, off, none⟩ ∧ w.heap[b]? = some (.cells ⟨c⟩ E fz) ∧ (c.drop (off + ((i : Nat) : Int).toNat * 8)).take 8 = x ∧ x.length = 8 := by
  obtain ⟨⟨xs, h1, h2, h3⟩, hc, hl⟩ := h
  have h1' := h1
  obtain ⟨a, cap, rfl, hx⟩ := h1.some_ h2
  refine ⟨a, cap, xs, rfl, hc.le, hl, h2, h1', h3, fun i e he => ?_⟩
  have hi := (List.getElem?_eq_some_iff.1 he).1
  obtain ⟨x, hxi⟩ : ∃ x, xs[i]? = some x := ⟨_, List.getElem?_eq_getElem (by omega)⟩
  obtain ⟨b, off, c, E, fz, ha, hb, hq, hz⟩ := hx i x hxi
  exact ⟨x, b, off, c, E, fz, hxi, h3 i x e hxi he, ha, hb, by rw [Int.toNat_natCast]; exact hq, hz⟩
theorem Lns.of {w : World} {a : Option Addr} {n cap : Nat} {l : List Ln} {xs : List (List Value)} (h1 : SlAt w (.slice a n cap) 8 xs) (h2 : xs.length = l.length) (h3 : ∀ (i : Nat) (x : List Value) (e : Ln), xs[i]? = some x → l[i]? = some e → LnAt w x e) (hc : n ≤ cap) (hl : l.length ≤ 9223372036854775807) : Lns w (.slice a n cap) l :=
  ⟨⟨xs, h1, h2, h3⟩, capO.mk hc, hl⟩
end Go.Proofs.Ytofnepeokihhnaa
