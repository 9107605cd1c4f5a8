/- The library's functions at the sign that ends a line, and at the digits. No conditions. -/
import Derived.Test.YtkaobhgodniamaaDoorGrl
import Derived.Lib.IndexBytes
import Derived.Lib.IndexLaws
import Derived.Lib.IndexMore
import Derived.Lib.CountLaws
import Derived.Lib.Replace
namespace Go.Proofs.YtkaobhgodniamaaDoor
open Go Go.RowKit
set_option linter.unusedVariables false
set_option linter.unusedSimpArgs false
set_option maxHeartbeats 1000000

theorem index_nl : ∀ (s : List UInt8), (10 ∉ s → Lib.index s [10] = -1) ∧ (10 ∈ s → Lib.index s [10] = ((s.takeWhile (fun b => b != 10)).length : Int) ∧ s = s.takeWhile (fun b => b != 10) ++ 10 :: s.drop ((s.takeWhile (fun b => b != 10)).length + 1))
  | [] => ⟨fun _ => rfl, fun h => by cases h⟩
  | b :: l => by
    obtain ⟨h1, h2⟩ := index_nl l
    rw [Lib.index]
    by_cases hb : b = 10
    · subst hb
      refine ⟨fun h => absurd (by simp) h, fun _ => ⟨by simp, by simp⟩⟩
    · have hp : ([10] : List UInt8).isPrefixOf (b :: l) = false := by
        simp only [List.isPrefixOf, Bool.and_eq_false_iff, beq_eq_false_iff_ne]
        left; exact fun e => hb e.symm
      have ht : (b :: l).takeWhile (fun b => b != 10) = b :: l.takeWhile (fun b => b != 10) := by
        rw [List.takeWhile_cons, if_pos (by simpa using hb)]
      rw [hp]
      refine ⟨fun h => ?_, fun h => ?_⟩
      · have : 10 ∉ l := fun hm => h (List.mem_cons_of_mem _ hm)
        rw [h1 this]; rfl
      · have hm : 10 ∈ l := by
          rcases List.mem_cons.1 h with e | e
          · exact absurd e.symm hb
          · exact e
        obtain ⟨h3, h4⟩ := h2 hm
        rw [h3, ht]
        refine ⟨?_, ?_⟩
        · have : ¬ ((((l.takeWhile (fun b => b != 10)).length : Int) == -1) = true) := by simp
          rw [if_neg (by simp), if_neg this]
          simp
        · simp only [List.cons_append, List.length_cons, List.drop_succ_cons]
          exact congrArg _ h4
theorem takeWhile_none : ∀ (s : List UInt8), 10 ∉ s → s.takeWhile (fun b => b != 10) = s
  | [], _ => rfl
  | b :: l, h => by
    have hb : b ≠ 10 := fun e => h (by simp [e])
    rw [List.takeWhile_cons, if_pos (by simpa using hb), takeWhile_none l (fun hm => h (List.mem_cons_of_mem _ hm))]
theorem cut_nl (s : List UInt8) : (Lib.cut s [10]).1 = s.takeWhile (fun b => b != 10) := by
  obtain ⟨h1, h2⟩ := index_nl s
  unfold Lib.cut
  by_cases h : 10 ∈ s
  · obtain ⟨h3, h4⟩ := h2 h
    rw [h3, if_pos (by omega), Int.toNat_natCast]
    show s.take (s.takeWhile (fun b => b != 10)).length = _
    rw [congrArg (List.take (s.takeWhile (fun b => b != 10)).length) h4, List.take_left]
  · rw [h1 h, if_neg (by omega)]
    show s = _
    exact (takeWhile_none s h).symm
theorem replace_nl : ∀ (n : Nat) (s : List UInt8), s.length ≤ n → Lib.replaceK [10] [] (Lib.count s [10]) s = s.filter (fun b => b != 10)
  | n, s, hn => by
    obtain ⟨h1, h2⟩ := index_nl s
    by_cases h : 10 ∈ s
    · obtain ⟨h3, h4⟩ := h2 h
      rw [Lib.count_hit (by simp) h3, Nat.add_comm, Lib.replaceK_hit _ _ _ _ _ h3]
      have hlen : (s.takeWhile (fun b => b != 10)).length + 1 ≤ s.length := by
        have := congrArg List.length h4
        rw [List.length_append, List.length_cons, List.length_drop] at this
        omega
      match n, hn with
      | 0, hn => simp at hn; subst hn; cases h
      | n + 1, hn =>
        have ih := replace_nl n (s.drop ((s.takeWhile (fun b => b != 10)).length + 1)) (by rw [List.length_drop]; omega)
        rw [List.length_cons, List.length_nil, Nat.zero_add, ih]
        conv => rhs; rw [h4]
        rw [List.append_nil, List.filter_append, List.filter_cons]
        have e1 : (s.takeWhile (fun b => b != 10)).filter (fun b => b != 10) = s.takeWhile (fun b => b != 10) := by
          rw [List.filter_eq_self]
          intro a ha
          exact (List.all_eq_true.1 List.all_takeWhile) a ha
        have e2 : s.take (s.takeWhile (fun b => b != 10)).length = s.takeWhile (fun b => b != 10) := by
          rw [congrArg (List.take (s.takeWhile (fun b => b != 10)).length) h4, List.take_left]
        rw [e1, e2]
        simp
    · rw [Lib.count_miss (h1 h), Lib.replaceK]
      symm
      rw [List.filter_eq_self]
      intro a ha
      simp only [bne_iff_ne, ne_eq]
      rintro rfl; exact h ha
theorem replaceAll_nl (s : List UInt8) : Lib.replaceAll s [10] [] = s.filter (fun b => b != 10) := by
  unfold Lib.replaceAll Lib.replace
  rw [if_neg (by simp)]
  have : Lib.replaceNum s [10] (-1) = Lib.count s [10] := by unfold Lib.replaceNum; rw [if_pos (by left; decide)]
  rw [this]
  exact replace_nl s.length s (Nat.le_refl _)

theorem St.drewN (w : World) (n : Nat) : St w NoneS [] (w.drewN n) := ⟨rfl, rfl, rfl, Nat.le_refl _, fun _ _ _ => rfl, fun i b o h => by simp at h, fun i j b c o u h => by simp at h⟩
theorem St.ofBelow {w w' : World} (h : Below w.heap.size w w') : St w NoneS [] w' := ⟨h.os, h.tape, h.output, h.size, fun k hk _ => h.block k hk, fun i b o h => by simp at h, fun i j b c o u h => by simp at h⟩
/-- the length that the library's search knows: some number -/
def MaxL (w0 : World) : Prop := ∃ m E fz, w0.heap[1]? = some (.cells ⟨[I m]⟩ E fz)
theorem MaxL.later {w0 w : World} {H : List (Nat × Obj)} (h : MaxL w0) (k : St w0 NoneS H w) : MaxL w := by
  obtain ⟨m, E, fz, h⟩ := h
  exact ⟨m, E, fz, k.base h (fun e => e)⟩
theorem MaxL.cell {w0 : World} (h : MaxL w0) : ∃ m, w0.cell? ⟨1, 0, none⟩ = some (I m) := by
  obtain ⟨m, E, fz, h⟩ := h
  exact ⟨m, by rw [cell_of h]; rfl⟩
theorem cut_any {w0 : World} (hM : MaxL w0) (s : List UInt8) (hl : s.length < 4294967281) : Cl Tryd.prog 40 [S s, S [10]] w0 (fun v w' => ∃ rest ok, v = .tuple ⟨[S (s.takeWhile (fun b => b != 10)), S rest, B ok]⟩ ∧ St w0 NoneS [] w') := by
  obtain ⟨m, hm⟩ := hM.cell
  refine ⟨(Tryd.strings_Cut ⟨⟨s⟩⟩ ⟨⟨[10]⟩⟩ m w0 hl hm).mono ?_⟩
  rintro e w' ⟨rfl, n, rfl⟩
  refine ⟨_, rfl, (Lib.cut s [10]).2.1, (Lib.cut s [10]).2.2, ?_, St.drewN w0 n⟩
  have := cut_nl s
  show Value.tuple #[.string ⟨(Lib.cut s [10]).1.toArray⟩, .string ⟨(Lib.cut s [10]).2.1.toArray⟩, .bool (Lib.cut s [10]).2.2] = _
  rw [this]
theorem count_any {w0 : World} (s : List UInt8) : Cl Tryd.prog 41 [S s, S [10]] w0 (fun v w' => v = I (s.count 10 : Nat) ∧ St w0 NoneS [] w') := by
  refine ⟨(Tryd.strings_Count_one ⟨⟨s⟩⟩ 10 w0).mono ?_⟩
  rintro e w' ⟨rfl, rfl⟩
  exact ⟨_, rfl, rfl, St.refl _ _⟩
theorem replace_any {w0 : World} (hM : MaxL w0) (s : List UInt8) (hl : s.length < 4294967281) : Cl Tryd.prog 42 [S s, S [10], S []] w0 (fun v w' => v = S (s.filter (fun b => b != 10)) ∧ St w0 NoneS [] w') := by
  obtain ⟨m, hm⟩ := hM.cell
  refine ⟨(Tryd.strings_ReplaceAll ⟨⟨s⟩⟩ ⟨⟨[10]⟩⟩ ⟨⟨[]⟩⟩ m w0 hl hm (by decide) (by show s.length + _ * 0 ≤ _; omega)).mono ?_⟩
  rintro e w' ⟨rfl, hw⟩
  refine ⟨_, rfl, ?_, St.ofBelow hw⟩
  have := replaceAll_nl s
  show Value.string ⟨(Lib.replaceAll s [10] []).toArray⟩ = _
  rw [this]
theorem indexb_any {w0 : World} (b : UInt8) : Cl Tryd.prog 43 [S HEX, U b.toNat] w0 (fun v w' => v = I (dgt b) ∧ St w0 NoneS [] w') := by
  refine ⟨(Tryd.strings_IndexByte ⟨⟨HEX⟩⟩ b.toNat w0).mono ?_⟩
  rintro e w' ⟨rfl, rfl⟩
  refine ⟨_, rfl, ?_, St.refl _ _⟩
  have := index_dgt b
  show I (Lib.indexByte HEX ((b.toNat : Int).toNat).toUInt8) = _
  rw [show ((b.toNat : Int).toNat).toUInt8 = b by simp, this]
theorem mem_hxs {b : UInt8} : ∀ {cs : List Int}, Byt cs → b ∈ cs.flatMap hx → 0 ≤ dgt b
  | [], _, h => by simp at h
  | c :: cs, hb, h => by
    have hc := hb c (by simp)
    rw [List.flatMap_cons, List.mem_append] at h
    rcases h with h | h
    · simp only [hx, List.mem_cons, List.mem_nil_iff, or_false] at h
      rcases h with rfl | rfl
      · rw [dgt_hexd (by omega)]; omega
      · rw [dgt_hexd (by omega)]; omega
    · exact mem_hxs hb.tail h
theorem Byt.at {cs : List Int} (h : Byt cs) (i : Nat) (x : Int) (hi : cs[i]? = some x) : 0 ≤ x ∧ x ≤ 255 := h x (List.mem_of_getElem? hi)
theorem Byt.snoc {cs : List Int} (h : Byt cs) {c : Int} (hc : 0 ≤ c ∧ c ≤ 255) : Byt (cs ++ [c]) := fun x hx => by
  rcases List.mem_append.1 hx with hx | hx
  · exact h x hx
  · simp at hx; exact hx ▸ hc
/-- the map that the program reads off a text, before it looks at it once more -/
theorem cand_of {s : List UInt8} {cs : List Int} {j : Nat} (hb : Byt cs) (hj : cs.length = j) (ht : (s.filter (fun b => b != 10)).take (2 * j) = cs.flatMap hx) (h2 : 2 * j ≤ (s.filter (fun b => b != 10)).length) (h3 : ¬ 2 * j + 1 < (s.filter (fun b => b != 10)).length)
    {gw gh : Int} {cs' : List Int} (v : Val gw gh cs') (hs : s = fmtA gw 0 cs') : (((s.takeWhile (fun b => b != 10)).length : Nat) : Int) / 2 = gw ∧ ((s.count 10 : Nat) : Int) = gh ∧ cs = cs' := by
  have h4 := v.line; have h5 := v.count; have h6 := fmtA_filter gw cs' 0 v.b
  rw [← hs] at h4 h5 h6
  have w1 := v.w; have w2 := v.h
  have hl := hxs_len cs'
  rw [← h6] at hl
  refine ⟨by omega, by omega, ?_⟩
  have : (s.filter (fun b => b != 10)).take (2 * j) = s.filter (fun b => b != 10) := List.take_of_length_le (by omega)
  rw [this, h6] at ht
  exact (hxs_inj v.b hb ht).symm
end Go.Proofs.YtkaobhgodniamaaDoor
