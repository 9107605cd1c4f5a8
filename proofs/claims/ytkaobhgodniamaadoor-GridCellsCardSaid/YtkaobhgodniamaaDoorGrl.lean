/- Grids: which map a text is (no program in sight). No conditions. -/
import Derived.Test.YtkaobhgodniamaaDoorGrd
import Derived.Lib.Bytealg
namespace Go.Proofs.YtkaobhgodniamaaDoor
open Go.RowKit
set_option linter.unusedVariables false
set_option linter.unusedSimpArgs false

/-- the value of a hexadecimal digit, or -1 -/
def dgt (b : UInt8) : Int := if 48 ≤ b.toNat ∧ b.toNat ≤ 57 then (b.toNat : Int) - 48 else if 97 ≤ b.toNat ∧ b.toNat ≤ 102 then (b.toNat : Int) - 97 + 10 else -1
theorem dgt_hexd {d : Int} (h : 0 ≤ d ∧ d < 16) : dgt (hexd d) = d := by
  obtain ⟨k, rfl⟩ : ∃ k : Nat, d = k := ⟨d.toNat, by omega⟩
  have hk : k < 16 := by omega
  have : ∀ k : Fin 16, dgt (hexd ((k.val : Nat) : Int)) = ((k.val : Nat) : Int) := by decide
  exact this ⟨k, hk⟩
theorem hexd_ne {d : Int} (h : 0 ≤ d ∧ d < 16) : hexd d ≠ 10 := by
  intro e
  have := dgt_hexd h
  rw [e] at this
  have h2 : dgt 10 = -1 := by decide
  omega
theorem dgt_bd (b : UInt8) : dgt b = -1 ∨ (0 ≤ dgt b ∧ dgt b < 16 ∧ hexd (dgt b) = b) := by
  have : ∀ k : Fin 256, dgt (UInt8.ofNat k.val) = -1 ∨ (0 ≤ dgt (UInt8.ofNat k.val) ∧ dgt (UInt8.ofNat k.val) < 16 ∧ hexd (dgt (UInt8.ofNat k.val)) = UInt8.ofNat k.val) := by decide +kernel
  have h := this ⟨b.toNat, b.toNat_lt⟩
  simpa using h
theorem index_dgt (b : UInt8) : Lib.indexByte HEX b = dgt b := by
  have : ∀ k : Fin 256, Lib.indexByte HEX (UInt8.ofNat k.val) = dgt (UInt8.ofNat k.val) := by decide +kernel
  have h := this ⟨b.toNat, b.toNat_lt⟩
  simpa using h
/-- costs are bytes -/
def Byt (cs : List Int) : Prop := ∀ c ∈ cs, 0 ≤ c ∧ c ≤ 255
theorem Byt.tail {c : Int} {cs : List Int} (h : Byt (c :: cs)) : Byt cs := fun x hx => h x (List.mem_cons_of_mem _ hx)
theorem hx_inj {c d : Int} (h : hx c = hx d) (hc : 0 ≤ c ∧ c ≤ 255) (hd : 0 ≤ d ∧ d ≤ 255) : c = d := by
  simp only [hx, List.cons.injEq, and_true] at h
  have h1 := dgt_hexd (d := c / 16) (by omega)
  have h2 := dgt_hexd (d := d / 16) (by omega)
  have h3 := dgt_hexd (d := c % 16) (by omega)
  have h4 := dgt_hexd (d := d % 16) (by omega)
  rw [h.1, h2] at h1
  rw [h.2, h4] at h3
  omega
theorem hxs_inj : ∀ {a b : List Int}, Byt a → Byt b → a.flatMap hx = b.flatMap hx → a = b
  | [], [], _, _, _ => rfl
  | [], d :: b, _, _, h => by simp [hx] at h
  | c :: a, [], _, _, h => by simp [hx] at h
  | c :: a, d :: b, ha, hb, h => by
    rw [List.flatMap_cons, List.flatMap_cons] at h
    have := List.append_inj h rfl
    rw [hx_inj this.1 (ha c (by simp)) (hb d (by simp)), hxs_inj ha.tail hb.tail this.2]
theorem filter_hx {c : Int} (hc : 0 ≤ c ∧ c ≤ 255) : (hx c).filter (fun b => b != 10) = hx c := by
  have h1 := hexd_ne (d := c / 16) (by omega)
  have h2 := hexd_ne (d := c % 16) (by omega)
  simp [hx, h1, h2]
theorem fmtA_filter (gw : Int) : ∀ (cs : List Int) (i : Nat), Byt cs → (fmtA gw i cs).filter (fun b => b != 10) = cs.flatMap hx
  | [], i, _ => rfl
  | c :: cs, i, h => by
    rw [fmtA, List.filter_append, List.filter_append, filter_hx (h c (by simp)), fmtA_filter gw cs (i + 1) h.tail, List.flatMap_cons]
    split <;> simp
theorem count_hx {c : Int} (hc : 0 ≤ c ∧ c ≤ 255) : (hx c).count 10 = 0 := by
  have h1 := hexd_ne (d := c / 16) (by omega)
  have h2 := hexd_ne (d := c % 16) (by omega)
  simp [hx, h1, h2]
theorem count_hxs : ∀ {cs : List Int}, Byt cs → (cs.flatMap hx).count 10 = 0
  | [], _ => rfl
  | c :: cs, h => by rw [List.flatMap_cons, List.count_append, count_hx (h c (by simp)), count_hxs h.tail]
theorem fmtA_count {gw : Int} (h0 : 0 < gw) {cs : List Int} (hb : Byt cs) : ∀ (y : Nat), y * gw.toNat ≤ cs.length → (fmtA gw 0 (cs.take (y * gw.toNat))).count 10 = y
  | 0, _ => by simp [fmtA]
  | y + 1, h => by
    rw [Nat.add_mul, Nat.one_mul] at h
    have ih := fmtA_count h0 hb y (by omega)
    have hrow := fmtA_row h0 y ((cs.drop (y * gw.toNat)).take gw.toNat) 0 (by rw [List.length_take]; omega)
    rw [Nat.add_zero, if_pos (by rw [List.length_take, List.length_drop]; omega)] at hrow
    have hbr : Byt ((cs.drop (y * gw.toNat)).take gw.toNat) := fun x hx => hb x (List.mem_of_mem_drop (List.mem_of_mem_take hx))
    rw [Nat.add_mul, Nat.one_mul, List.take_add, fmtA_app, List.count_append, ih, List.length_take, Nat.zero_add, Nat.min_eq_left (by omega), hrow, List.count_append, count_hxs hbr]
    simp
theorem hxs_len (cs : List Int) : (cs.flatMap hx).length = 2 * cs.length := by
  induction cs with
  | nil => rfl
  | cons c cs ih => rw [List.flatMap_cons, List.length_append, ih, List.length_cons]; simp [hx]; omega
theorem count_filter (l : List UInt8) : l.length = l.count 10 + (l.filter (fun b => b != 10)).length := by
  induction l with
  | nil => rfl
  | cons b l ih =>
    rw [List.count_cons, List.filter_cons, List.length_cons]
    by_cases h : b = 10 <;> simp [h] <;> omega
/-- a valid map -/
structure Val (gw gh : Int) (cs : List Int) : Prop where
  w : 1 ≤ gw ∧ gw ≤ 48
  h : 1 ≤ gh ∧ gh ≤ 48
  n : (cs.length : Int) = gw * gh
  b : Byt cs
theorem Val.rows {gw gh : Int} {cs : List Int} (v : Val gw gh cs) : gh.toNat * gw.toNat = cs.length := by
  have h1 := v.w; have h2 := v.h; have h3 := v.n
  have : ((gh.toNat * gw.toNat : Nat) : Int) = gw * gh := by rw [Int.natCast_mul, Int.toNat_of_nonneg (by omega), Int.toNat_of_nonneg (by omega), Int.mul_comm]
  omega
theorem Val.count {gw gh : Int} {cs : List Int} (v : Val gw gh cs) : (fmtA gw 0 cs).count 10 = gh.toNat := by
  have := fmtA_count (gw := gw) (by have := v.w; omega) v.b gh.toNat (by rw [v.rows]; exact Nat.le_refl _)
  rwa [v.rows, List.take_length] at this
theorem Val.len {gw gh : Int} {cs : List Int} (v : Val gw gh cs) : (fmtA gw 0 cs).length = gh.toNat * (2 * gw.toNat + 1) := by
  rw [count_filter, v.count, fmtA_filter gw cs 0 v.b, hxs_len, ← v.rows, Nat.mul_add, Nat.mul_one, Nat.mul_left_comm]; omega
theorem takeWhile_hxs : ∀ {r : List Int} {more : List UInt8}, Byt r → (r.flatMap hx ++ 10 :: more).takeWhile (fun b => b != 10) = r.flatMap hx
  | [], more, _ => by simp
  | c :: r, more, h => by
    have hc := h c (by simp)
    have h1 := hexd_ne (d := c / 16) (by omega)
    have h2 := hexd_ne (d := c % 16) (by omega)
    have ih := takeWhile_hxs (more := more) h.tail
    simp only [List.flatMap_cons, hx, List.cons_append, List.nil_append]
    rw [List.takeWhile_cons, if_pos (by simpa using h1), List.takeWhile_cons, if_pos (by simpa using h2)]
    rw [ih]
theorem Val.line {gw gh : Int} {cs : List Int} (v : Val gw gh cs) : ((fmtA gw 0 cs).takeWhile (fun b => b != 10)).length = 2 * gw.toNat := by
  have h1 := v.w; have h2 := v.h; have h3 := v.rows
  have hle : gw.toNat ≤ cs.length := by
    rw [← h3]
    have := Nat.mul_le_mul_right gw.toNat (show 1 ≤ gh.toNat by omega)
    omega
  have hrow := fmtA_row (gw := gw) (by omega) 0 (cs.take gw.toNat) 0 (by rw [List.length_take]; omega)
  rw [Nat.zero_mul, Nat.add_zero, if_pos (by rw [List.length_take]; omega)] at hrow
  have e : fmtA gw 0 cs = (cs.take gw.toNat).flatMap hx ++ 10 :: fmtA gw (0 + (cs.take gw.toNat).length) (cs.drop gw.toNat) := by
    conv => lhs; rw [← List.take_append_drop gw.toNat cs, fmtA_app, hrow]
    simp
  rw [e, takeWhile_hxs (fun x hx => v.b x (List.mem_of_mem_take hx)), hxs_len, List.length_take, Nat.min_eq_left hle]
/-- a text is the text of one map -/
theorem fmt_inj {gw gh gw' gh' : Int} {cs cs' : List Int} (v : Val gw gh cs) (v' : Val gw' gh' cs') (h : fmtA gw 0 cs = fmtA gw' 0 cs') : gw = gw' ∧ gh = gh' ∧ cs = cs' := by
  have h1 := v.line; have h2 := v'.line
  rw [h, h2] at h1
  have h3 := v.count; have h4 := v'.count
  rw [h, h4] at h3
  have w1 := v.w; have w2 := v'.w; have w3 := v.h; have w4 := v'.h
  refine ⟨by omega, by omega, ?_⟩
  have h5 := fmtA_filter gw cs 0 v.b; have h6 := fmtA_filter gw' cs' 0 v'.b
  rw [h, h6] at h5
  exact (hxs_inj v'.b v.b h5).symm
/-- what the specification's loop collects -/
def coll (w : Nat) : Nat → List UInt8 → List Int
  | _, [] => []
  | _, [_] => []
  | p, a :: b :: r => (if p < w ∧ p % 2 = 0 then [16 * max 0 (dgt a) + max 0 (dgt b)] else []) ++ coll w ((p + 1) % (w + 1)) (b :: r)
theorem coll_fmt {gw : Int} (h0 : 1 ≤ gw) : ∀ (cs : List Int) (j : Nat), Byt cs → coll (2 * gw.toNat) (2 * (j % gw.toNat)) (fmtA gw j cs) = cs
  | [], j, _ => by simp [fmtA, coll]
  | c :: cs, j, hb => by
    have hc := hb c (by simp)
    have ih := coll_fmt h0 cs (j + 1) hb.tail
    have d1 := dgt_hexd (d := c / 16) (by omega)
    have d2 := dgt_hexd (d := c % 16) (by omega)
    have hxl : j % gw.toNat < gw.toNat := Nat.mod_lt _ (by omega)
    have hjm : (j : Int) % gw = ((j % gw.toNat : Nat) : Int) := by
      conv => lhs; rw [show gw = ((gw.toNat : Nat) : Int) by omega]
      rfl
    have hj1 : (j + 1) % gw.toNat = if j % gw.toNat + 1 = gw.toNat then 0 else j % gw.toNat + 1 := by
      rw [Nat.add_mod]
      by_cases e1 : gw.toNat = 1
      · rw [e1]; simp [Nat.mod_one]
      · rw [Nat.mod_eq_of_lt (show 1 < gw.toNat by omega)]
        split
        · rename_i e; rw [e, Nat.mod_self]
        · rename_i e; rw [Nat.mod_eq_of_lt (by omega)]
    generalize j % gw.toNat = x at *
    rw [fmtA, hjm]
    simp only [hx, List.cons_append, List.nil_append]
    rw [coll, if_pos (by omega), d1, d2, show max 0 (c / 16) = c / 16 by omega, show max 0 (c % 16) = c % 16 by omega, show 16 * (c / 16) + c % 16 = c by omega, Nat.mod_eq_of_lt (show 2 * x + 1 < 2 * gw.toNat + 1 by omega)]
    rw [List.cons_append, List.nil_append]
    congr 1
    by_cases e : x + 1 = gw.toNat
    · rw [if_pos (show (x : Int) = gw - 1 by omega)]
      rw [if_pos e] at hj1
      rw [hj1] at ih
      simp only [List.cons_append, List.nil_append]
      rw [coll, if_neg (by omega), List.nil_append, Nat.mod_eq_of_lt (show 2 * x + 1 + 1 < 2 * gw.toNat + 1 by omega)]
      cases hr : fmtA gw (j + 1) cs with
      | nil =>
        rw [hr] at ih
        simpa [coll] using ih
      | cons b r =>
        rw [hr] at ih
        rw [coll, if_neg (by omega), List.nil_append, show (2 * x + 1 + 1 + 1) % (2 * gw.toNat + 1) = 0 by rw [show 2 * x + 1 + 1 + 1 = 2 * gw.toNat + 1 by omega, Nat.mod_self]]
        simpa using ih
    · rw [if_neg (show ¬ (x : Int) = gw - 1 by omega)]
      rw [if_neg e] at hj1
      rw [hj1] at ih
      simp only [List.nil_append]
      cases hr : fmtA gw (j + 1) cs with
      | nil =>
        rw [hr] at ih
        simpa [coll] using ih
      | cons b r =>
        rw [hr] at ih
        rw [coll, if_neg (by omega), List.nil_append, Nat.mod_eq_of_lt (show 2 * x + 1 + 1 < 2 * gw.toNat + 1 by omega), show 2 * x + 1 + 1 = 2 * (x + 1) by omega]
        exact ih
/-- what Parse says of a text: the map, the error -/
inductive PR (s : List UInt8) : Int → Int → List Int → Int → Prop
  | short : s = [] → PR s 0 0 [] 1
  | long : 4656 < s.length → PR s 0 0 [] 3
  | ok {gw gh : Int} {cs : List Int} : s ≠ [] → ¬ 4656 < s.length → Val gw gh cs → s = fmtA gw 0 cs → PR s gw gh cs 0
  | bad : s ≠ [] → ¬ 4656 < s.length → (∀ (gw gh : Int) (cs : List Int), Val gw gh cs → s ≠ fmtA gw 0 cs) → PR s 0 0 [] 2
theorem PR.one {s : List UInt8} {gw gh gw' gh' e e' : Int} {cs cs' : List Int} (h : PR s gw gh cs e) (h' : PR s gw' gh' cs' e') : gw = gw' ∧ gh = gh' ∧ cs = cs' ∧ e = e' := by
  cases h with
  | short h =>
    cases h' with
    | short _ => exact ⟨rfl, rfl, rfl, rfl⟩
    | long k => subst h; simp at k
    | ok k => exact absurd h k
    | bad k => exact absurd h k
  | long h =>
    cases h' with
    | short k => subst k; simp at h
    | long _ => exact ⟨rfl, rfl, rfl, rfl⟩
    | ok _ k => exact absurd h k
    | bad _ k => exact absurd h k
  | ok h1 h2 h3 h4 =>
    cases h' with
    | short k => exact absurd k h1
    | long k => exact absurd k h2
    | ok _ _ k3 k4 =>
      obtain ⟨a, b, c⟩ := fmt_inj h3 k3 (h4.symm.trans k4)
      exact ⟨a, b, c, rfl⟩
    | bad _ _ k => exact absurd h4 (k _ _ _ h3)
  | bad h1 h2 h3 =>
    cases h' with
    | short k => exact absurd k h1
    | long k => exact absurd k h2
    | ok _ _ k3 k4 => exact absurd k4 (h3 _ _ _ k3)
    | bad _ _ _ => exact ⟨rfl, rfl, rfl, rfl⟩
theorem Val.of {gw gh : Int} {cs : List Int} (h : chk gw gh cs.length = 0) (hb : Byt cs) : Val gw gh cs := by
  obtain ⟨⟨h1, h2⟩, h3⟩ := chk_ok h
  exact ⟨h1, h2, h3, hb⟩
theorem Val.chk {gw gh : Int} {cs : List Int} (v : Val gw gh cs) : chk gw gh cs.length = 0 := by
  rw [Go.Proofs.YtkaobhgodniamaaDoor.chk, if_pos ⟨v.w, v.h⟩, if_pos v.n]
end Go.Proofs.YtkaobhgodniamaaDoor
