/- Join and settled, in memory. No conditions. -/
import Derived.Test.YtknfankadlokhaaGreatDoorPwa
import Derived.Test.YtknfankadlokhaaGreatDoorShelb
import Derived.Lib.Join

namespace Go.Proofs.YtknfankadlokhaaGreatDoor
open Go.RowKit
set_option maxRecDepth 4000
set_option linter.unusedVariables false
set_option linter.unusedSimpArgs false
set_option maxHeartbeats 16000000

theorem joinF_lib : ∀ l : List Tx, Lib.join l [44, 32] = joinF l
  | [] => rfl
  | a :: l => by
    rw [Lib.join_cons, joinF]
    unfold Lib.joinTail sSep
    rw [List.flatMap_def]
theorem joinF_len {m : Nat} : ∀ l : List Tx, (∀ t ∈ l, t.length ≤ m) → (joinF l).length ≤ l.length * (m + 2)
  | [], _ => Nat.zero_le _
  | a :: l, h => by
    have h1 := h a (List.mem_cons_self ..)
    have key : ∀ l : List Tx, (∀ t ∈ l, t.length ≤ m) → (l.flatMap (fun b => sSep ++ b)).length ≤ l.length * (m + 2) := by
      intro l
      induction l with
      | nil => intro _; exact Nat.zero_le _
      | cons b l ih =>
        intro h
        have h2 := h b (List.mem_cons_self ..)
        have h3 := ih (fun t ht => h t (List.mem_cons_of_mem _ ht))
        rw [List.flatMap_cons, List.length_append, List.length_append, List.length_cons, Nat.add_mul]
        have : sSep.length = 2 := rfl
        omega
    have h2 := key l (fun t ht => h t (List.mem_cons_of_mem _ ht))
    rw [joinF, List.length_append, List.length_cons, Nat.add_mul]
    omega
theorem join_any {w0 : World} {v : Value} {l : List Tx} (h : SlAt w0 v 1 (l.map tc)) (hcp : capO v) (hl : l.length ≤ 1000000) (hj : (joinF l).length ≤ 140737488355328) : Cl Tryz.prog 51 [v, S [44, 32]] w0 (fun r w' => r = S (joinF l) ∧ St w0 NoneS [] w') := by
  obtain ⟨a1, p1, rfl, hc1⟩ := h.map
  cases hl0 : l with
  | nil =>
    refine ⟨(Tryz.strings_Join_none a1 p1 ⟨⟨[44, 32]⟩⟩ w0).mono ?_⟩
    rintro e w' ⟨rfl, rfl⟩
    exact ⟨_, rfl, rfl, St.refl _ _⟩
  | cons s l2 =>
    obtain ⟨b, o, m, E, z, rfl, hb, _, _⟩ := hc1 0 s (by rw [hl0]; rfl)
    rw [← hl0]
    have hml : (l.map (fun t : Tx => (⟨⟨t⟩⟩ : ByteArray))).length = l.length := List.length_map ..
    have hmj : Lib.join ((l.map (fun t : Tx => (⟨⟨t⟩⟩ : ByteArray))).map (·.data.toList)) (⟨⟨[44, 32]⟩⟩ : ByteArray).data.toList = joinF l := by
      rw [List.map_map, ← joinF_lib]
      congr 1
      exact List.map_id' l
    have hcl := Tryz.strings_Join b o p1 (l.map (fun t : Tx => (⟨⟨t⟩⟩ : ByteArray))) ⟨⟨[44, 32]⟩⟩ w0 (fun j x hx => by
      rw [List.getElem?_map] at hx
      cases ht : l[j]? with
      | none => rw [ht] at hx; cases hx
      | some t =>
        rw [ht] at hx
        injection hx with hx
        subst hx
        obtain ⟨b2, o2, m2, E2, z2, e9, hb2, _, hcc⟩ := hc1 j t ht
        injection e9 with e9
        injection e9 with e1 e2 _
        subst e1 e2
        rw [cell_of hb2]
        have := hcc 0 _ rfl
        rw [Nat.mul_one, Nat.add_zero] at this
        exact this) ((Array.getElem?_eq_some_iff.1 hb).1) (by rw [hml]; omega) (by rw [hml]; exact hcp.le) (by rw [hmj]; exact hj)
    rw [hml, hmj] at hcl
    refine ⟨hcl.mono ?_⟩
    rintro e w' ⟨rfl, k⟩
    exact ⟨_, rfl, rfl, k.os, k.tape, k.output, k.size, fun i hi _ => k.block i hi, fun i b o h => by simp at h, fun i j b c o u h => by simp at h⟩
theorem setT_len {s : Sg} {m n : Nat} (h1 : s.1.length ≤ n) (h2 : s.2.length ≤ m) : (setT s).length ≤ n + 2 * m + 5 := by
  have := quotF_len s.2
  unfold setT sEq
  simp only [List.length_append, List.length_cons, List.length_nil]; omega
theorem settled_any {w0 : World} {v0 : Value} {g : List Sg} (hV : Mx w0) (hs : SlAt w0 v0 2 (g.map sgC)) (hl : g.length ≤ 100000) (hb : ∀ s ∈ g, s.1.length ≤ 1000 ∧ s.2.length ≤ 1000) : Cl Tryz.prog 52 [v0] w0 (fun v w' => v = S (joinF (g.map setT)) ∧ St w0 NoneS [] w') := by
  have hSt := St.refl w0 NoneS
  obtain ⟨a1, p1, rfl, hc1⟩ := hs.map
  refine enter Tryz.func52 rfl Tryz.ntmps52 rfl ?_
  repeat' (first | refine stepA ?_ | (refine stepS ?_; clear hSt; intro w hSt; dsimp only [spl, List.set] at hSt) | (refine stepB ?_; clear hSt; intro w nb hnb hSt; dsimp only [zcells, List.nil_append, List.cons_append] at hSt) | (refine W_quiet hT (by decide +kernel) hSt ?_; clear hSt; (repeat' (first | (apply QL_ev rfl rfl; (intro w hSt; (first | exact Ev_auto))) | refine QL_pass rfl rfl ?_ | (refine QL_guardP rfl rfl (fun hc => ?_) (fun hc => ?_) <;> try exact absA) | (refine QL_guard rfl rfl (fun hc => ?_) (fun hc => ?_) <;> (try exact absA) <;> (fail_if_success (change true = true at hc)) <;> (fail_if_success (change false = false at hc))))); all_goals (refine QL_nil (fun w hSt => ?_))) | (refine stepG ?_ ?_ <;> intro hc <;> (try exact absA) <;> (fail_if_success (change true = true at hc)) <;> (fail_if_success (change false = false at hc))) | fail)
  refine W_loop2 (fun k (i : Nat) (sl : Value) w => k = g.length - i ∧ i ≤ g.length ∧ ∃ HL, OwnSl sl 9 1 (((g.take i).map setT).map S) i HL ∧ St w0 NoneS HL w) (fun i sl => [(8, I (i : Int)), (3, sl)]) g.length 0 (.slice none 0 0) rfl (by (repeat (first | exact Str.nil _ | apply Str.drop rfl | apply Str.keepU rfl | apply Str.keep rfl))) ⟨rfl, Nat.zero_le _, [], OwnSl.nil _ _, hSt⟩ (by (repeat (first | exact Sub.nil _ | refine Sub.cons rfl ?_))) ?_
  clear hSt
  rintro k i sl w ⟨hk, hi, HL, ho, hSt⟩ K hK
  obtain ⟨aL, kL, rfl, _⟩ := ho.cap
  by_cases hil : i < g.length
  · obtain ⟨⟨n, t⟩, hsi⟩ : ∃ s, g[i]? = some s := ⟨_, List.getElem?_eq_getElem hil⟩
    obtain ⟨hb1, hb2⟩ := hb (n, t) (List.mem_of_getElem? hsi)
    obtain ⟨b8, o8, m8, E8, z8, rfl, hb8, q8, _⟩ := hc1 i (n, t) hsi
    rw [← Int.toNat_natCast i] at q8
    have hql := quotF_len t
    dsimp only at hb1 hb2
    repeat' (first | (refine WL_alloc hT rfl rfl rfl hSt ?_; clear hSt; intro w nb hnb hSt; replace hSt := hSt.front; dsimp only [zcells] at hSt) | (apply WL_ev rfl rfl; exact Ev_loadN hT rfl rfl (hSt.base hb8 (fun e => e)) q8 rfl) | refine stepA ?_ | (refine stepS ?_; clear hSt; intro w hSt; dsimp only [spl, List.set] at hSt) | (refine stepB ?_; clear hSt; intro w nb hnb hSt; dsimp only [zcells, List.nil_append, List.cons_append] at hSt) | (refine W_quiet hT (by decide +kernel) hSt ?_; clear hSt; (repeat' (first | (apply QL_ev rfl rfl; (intro w hSt; (first | (exact Ev_loadN hT rfl rfl (hSt.base hb8 (fun e => e)) q8 rfl) | exact Ev_auto))) | refine QL_pass rfl rfl ?_ | (refine QL_guardP rfl rfl (fun hc => ?_) (fun hc => ?_) <;> try exact absA) | (refine QL_guard rfl rfl (fun hc => ?_) (fun hc => ?_) <;> (try exact absA) <;> (fail_if_success (change true = true at hc)) <;> (fail_if_success (change false = false at hc))))); all_goals (refine QL_nil (fun w hSt => ?_))) | (refine stepG ?_ ?_ <;> intro hc <;> (try exact absA) <;> (fail_if_success (change true = true at hc)) <;> (fail_if_success (change false = false at hc))) | fail)
    refine W_ownS (Hs := [_]) [(0, false), (1, false), (2, false), (3, false), (4, false), (5, false), (6, true), (7, false), (8, true), (9, true)] hT (by decide +kernel) rfl hSt ?_
    clear hSt
    intro w hSt
    iterate 6 (apply HL_ev rfl rfl (St.left (H0 := [_]) hSt); (intro w hSt; first | exact Ev_str_add rfl rfl (by simp only [List.length_append, List.length_cons, List.length_nil]; omega) | (first | exact Ev_auto)))
    refine HL_one ?_
    refine WL_call (ok_call hT rfl) rfl rfl rfl (quoted_any (hV.kept hSt.nil.keeps) t (by omega)) ?_
    rintro v1 w6 ⟨rfl, hc2⟩
    replace hSt := hSt.call0 hc2
    clear hc2
    refine WL_nil (At_oneH (St.left (H0 := [_]) hSt) ?_)
    (apply HL_ev rfl rfl (St.left (H0 := [_]) hSt); (intro w hSt; exact Ev_str_add rfl rfl (by simp only [List.length_append, List.length_cons, List.length_nil]; omega)))
    refine HL_one ?_
    refine WL_buildSlice hT rfl rfl rfl rfl rfl rfl rfl rfl hSt ?_
    clear hSt
    intro w nb2 hnb2 hSt
    refine WL_nil (At_oneH (St.left (H0 := [_]) hSt) ?_)
    refine HL_one ?_
    refine WL_appendL (H0 := [_]) (H1 := HL) hT rfl rfl rfl rfl rfl rfl rfl hSt ho rfl rfl (by omega) (by omega) ?_
    clear hSt ho
    intro v2 w HL2 ho hSt
    obtain ⟨aL2, kL2, rfl, _⟩ := ho.cap
    try dsimp only [List.cons_append] at hSt
    refine WL_nil (At_oneH (St.left (H0 := [_]) hSt) ?_)
    refine HL_end ?_
    simp only [List.length_cons, List.length_nil, List.drop_succ_cons, List.drop_zero]
    repeat' (first | refine stepA ?_ | (refine stepS ?_; clear hSt; intro w hSt; dsimp only [spl, List.set] at hSt) | (refine stepB ?_; clear hSt; intro w nb hnb hSt; dsimp only [zcells, List.nil_append, List.cons_append] at hSt) | (refine W_quiet hT (by decide +kernel) hSt ?_; clear hSt; (repeat' (first | (apply QL_ev rfl rfl; (intro w hSt; (first | exact Ev_auto))) | refine QL_pass rfl rfl ?_ | (refine QL_guardP rfl rfl (fun hc => ?_) (fun hc => ?_) <;> try exact absA) | (refine QL_guard rfl rfl (fun hc => ?_) (fun hc => ?_) <;> (try exact absA) <;> (fail_if_success (change true = true at hc)) <;> (fail_if_success (change false = false at hc))))); all_goals (refine QL_nil (fun w hSt => ?_))) | (refine stepG ?_ ?_ <;> intro hc <;> (try exact absA) <;> (fail_if_success (change true = true at hc)) <;> (fail_if_success (change false = false at hc))) | fail)
    have e1 : ((g.take (i + 1)).map setT).map S = ((g.take i).map setT).map S ++ [S (n ++ [32, 61, 32] ++ quotF t)] := by
      rw [List.take_add_one, hsi, List.map_append, List.map_append]
      congr 1
      show [S (n ++ (sEq ++ quotF t))] = _
      rw [List.append_assoc]; rfl
    exact At_loop2 hK (k' := g.length - (i + 1)) (i + 1) _ (by omega) ⟨rfl, hil, HL2, by rw [e1]; exact ho, hSt.right (Ha := [_])⟩ (by (repeat (first | exact Sub.nil _ | refine Sub.cons rfl ?_)))
  · have hge : i = g.length := by omega
    subst hge
    rw [List.take_length] at ho
    have hml : (g.map setT).length = g.length := List.length_map ..
    have hjl := joinF_len (m := 3005) (g.map setT) (fun t ht => by
      obtain ⟨s, hs, rfl⟩ := List.mem_map.1 ht
      have := setT_len (hb s hs).1 (hb s hs).2
      omega)
    rw [hml] at hjl
    have ho2 : OwnSl (.slice aL g.length kL) 9 1 ((g.map setT).map S) (g.map setT).length HL := by rw [hml]; exact ho
    have hjn := fun (w : World) (h : St w0 NoneS HL w) => join_any (own_tc ho2 h.has) ho2.capO (by rw [hml]; omega) (by omega)
    repeat' (first | (refine WL_isCall (f := 51) ?_; refine WL_call (ok_call hT rfl) rfl rfl rfl (hjn _ hSt) ?_; rintro v w2 ⟨rfl, hc2⟩; replace hSt := hSt.call0 hc2; clear hc2) | refine stepA ?_ | (refine stepS ?_; clear hSt; intro w hSt; dsimp only [spl, List.set] at hSt) | (refine stepB ?_; clear hSt; intro w nb hnb hSt; dsimp only [zcells, List.nil_append, List.cons_append] at hSt) | (refine W_quiet hT (by decide +kernel) hSt ?_; clear hSt; (repeat' (first | (apply QL_ev rfl rfl; (intro w hSt; (first | exact Ev_auto))) | refine QL_pass rfl rfl ?_ | (refine QL_guardP rfl rfl (fun hc => ?_) (fun hc => ?_) <;> try exact absA) | (refine QL_guard rfl rfl (fun hc => ?_) (fun hc => ?_) <;> (try exact absA) <;> (fail_if_success (change true = true at hc)) <;> (fail_if_success (change false = false at hc))))); all_goals (refine QL_nil (fun w hSt => ?_))) | (refine stepG ?_ ?_ <;> intro hc <;> (try exact absA) <;> (fail_if_success (change true = true at hc)) <;> (fail_if_success (change false = false at hc))) | fail)
    all_goals try (exfalso; first | omega | (simp at hc; done) | (exact hc rfl) | contradiction)
    all_goals exact ret1 rfl rfl ⟨rfl, hSt.nil⟩
end Go.Proofs.YtknfankadlokhaaGreatDoor
