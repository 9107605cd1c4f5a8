/- The example that keeps the laws awake. No conditions. -/
import Derived.Test.YtknfankadlokhaaGreatDoorNH
import Derived.Test.YtknfankadlokhaaGreatDoorPln
import Derived.Test.YtknfankadlokhaaGreatDoorNI

namespace Go.Proofs.YtknfankadlokhaaGreatDoor
open Go.RowKit
set_option maxRecDepth 4000
set_option linter.unusedVariables false
set_option linter.unusedSimpArgs false
set_option maxHeartbeats 16000000

theorem hasNil {w : World} : Has w [] := ⟨fun i b o h => by simp at h, fun i j b c o u h => by simp at h⟩
def cTrue : Cn := .mk 1 [] [] []
/-- a condition as an entry of its own -/
def oneL (c : Cn) : List Ln := [⟨[110], [112], c, [], []⟩]
theorem lns_one {w : World} {b : Nat} {c : Cn} {v : Value} (hC : CondAt w c [I c.op, S c.name, S c.text, v]) (hb : w.heap[b]? = some (blk [S [110], S [112], I c.op, S c.name, S c.text, v, .slice none 0 0, .slice none 0 0] 40)) : Lns w (.slice (some ⟨b, 0, none⟩) 1 1) (oneL c) := by
  refine Lns.of (xs := [[S [110], S [112], I c.op, S c.name, S c.text, v, .slice none 0 0, .slice none 0 0]]) (slAt_blk hb rfl fun i y hy => ?_) rfl (fun i x e hx he => ?_) (Nat.le_refl _) (by show 1 ≤ _; decide)
  · cases i with
    | zero => injection hy with hy; subst hy; exact ⟨rfl, rfl⟩
    | succ i => simp at hy
  · cases i with
    | zero =>
      injection hx with hx
      injection he with he
      subst hx he
      exact ⟨_, _, _, rfl, hC, SlAt.nil w 1, SlAt.nil w 2, capO.mk (Nat.le_refl _), capO.mk (Nat.le_refl _), by simp, by simp, by simp⟩
    | succ i => simp at hx
theorem printT_any {w0 : World} : Cl Tryz.prog 50 [.agg ⟨[I 1, S [], S [], .slice none 0 0]⟩] w0 (fun v w' => v = S wTrue ∧ St w0 NoneS [] w') := by
  have hSt := St.refl w0 NoneS
  refine enter Tryz.func50 rfl Tryz.ntmps50 rfl ?_
  repeat' (first | (refine WL_box rfl rfl rfl hSt ?_; clear hSt; intro w nb hnb hSt; replace hSt := hSt.front; dsimp only [zcells, List.nil_append, List.cons_append] at hSt) | refine stepA ?_ | (refine stepS ?_; clear hSt; intro w hSt; dsimp only [spl, List.set] at hSt) | (refine stepB ?_; clear hSt; intro w nb hnb hSt; dsimp only [zcells, List.nil_append, List.cons_append] at hSt) | (refine W_quiet hT (by decide +kernel) hSt ?_; clear hSt; (repeat' (first | (apply QL_ev rfl rfl; (intro w hSt; (first | exact Ev_auto))) | refine QL_pass rfl rfl ?_ | (refine QL_guardP rfl rfl (fun hc => ?_) (fun hc => ?_) <;> try exact absA) | (refine QL_guard rfl rfl (fun hc => ?_) (fun hc => ?_) <;> (try exact absA) <;> (fail_if_success (change true = true at hc)) <;> (fail_if_success (change false = false at hc))))); all_goals (refine QL_nil (fun w hSt => ?_))) | (refine stepG ?_ ?_ <;> intro hc <;> (try exact absA) <;> (fail_if_success (change true = true at hc)) <;> (fail_if_success (change false = false at hc))) | fail)
  all_goals try (exfalso; first | omega | (simp at hc; done) | (exact hc rfl) | contradiction)
  all_goals exact ret1 rfl rfl ⟨rfl, hSt.nil⟩
theorem condT_any {w0 : World} : Cl Tryz.prog 55 [.agg ⟨[I 1, S [], S [], .slice none 0 0]⟩] w0 (fun v w' => v = S wTrue ∧ St w0 NoneS [] w') := by
  have hSt := St.refl w0 NoneS
  have hck : checkF (oneL cTrue) = 0 := by decide
  refine enter Tryz.func55 rfl Tryz.ntmps55 rfl ?_
  repeat' (first | (refine WL_box rfl rfl rfl hSt ?_; clear hSt; intro w nb hnb hSt; replace hSt := hSt.front; dsimp only [zcells, List.nil_append, List.cons_append] at hSt) | refine stepA ?_ | (refine stepS ?_; clear hSt; intro w hSt; dsimp only [spl, List.set] at hSt) | (refine stepB ?_; clear hSt; intro w nb hnb hSt; dsimp only [zcells, List.nil_append, List.cons_append] at hSt) | (refine W_quiet hT (by decide +kernel) hSt ?_; clear hSt; (repeat' (first | (apply QL_ev rfl rfl; (intro w hSt; (first | exact Ev_auto))) | refine QL_pass rfl rfl ?_ | (refine QL_guardP rfl rfl (fun hc => ?_) (fun hc => ?_) <;> try exact absA) | (refine QL_guard rfl rfl (fun hc => ?_) (fun hc => ?_) <;> (try exact absA) <;> (fail_if_success (change true = true at hc)) <;> (fail_if_success (change false = false at hc))))); all_goals (refine QL_nil (fun w hSt => ?_))) | (refine stepG ?_ ?_ <;> intro hc <;> (try exact absA) <;> (fail_if_success (change true = true at hc)) <;> (fail_if_success (change false = false at hc))) | fail)
  (refine WL_buildSlice hT rfl rfl rfl rfl rfl rfl rfl rfl hSt ?_; clear hSt; intro w nb2 hnb2 hSt; replace hSt := hSt.front)
  have hca := check_any (lns_one (c := cTrue) (CondO.leaf (op := 1) (n := []) (t := []) (by decide) w hasNil) (hSt.own 0 _ _ rfl).1)
  rw [hck] at hca
  repeat' (first | (refine WL_isCall (f := 22) ?_; refine WL_call (ok_call hT rfl) rfl rfl rfl (hca) ?_; rintro v w2 ⟨rfl, hc2⟩; replace hSt := hSt.call0 hc2; clear hc2) | (refine WL_isCall (f := 50) ?_; refine WL_call (ok_call hT rfl) rfl rfl rfl (printT_any) ?_; rintro v w2 ⟨rfl, hc2⟩; replace hSt := hSt.call0 hc2; clear hc2) | refine stepA ?_ | (refine stepS ?_; clear hSt; intro w hSt; dsimp only [spl, List.set] at hSt) | (refine stepB ?_; clear hSt; intro w nb hnb hSt; dsimp only [zcells, List.nil_append, List.cons_append] at hSt) | (refine W_quiet hT (by decide +kernel) hSt ?_; clear hSt; (repeat' (first | (apply QL_ev rfl rfl; (intro w hSt; (first | exact Ev_auto))) | refine QL_pass rfl rfl ?_ | (refine QL_guardP rfl rfl (fun hc => ?_) (fun hc => ?_) <;> try exact absA) | (refine QL_guard rfl rfl (fun hc => ?_) (fun hc => ?_) <;> (try exact absA) <;> (fail_if_success (change true = true at hc)) <;> (fail_if_success (change false = false at hc))))); all_goals (refine QL_nil (fun w hSt => ?_))) | (refine stepG ?_ ?_ <;> intro hc <;> (try exact absA) <;> (fail_if_success (change true = true at hc)) <;> (fail_if_success (change false = false at hc))) | fail)
  all_goals try (exfalso; first | omega | (simp at hc; done) | (exact hc rfl) | contradiction)
  all_goals exact ret1 rfl rfl ⟨rfl, hSt.nil⟩
def awkT : Tx := [110, 111, 100, 101, 32, 97, 58, 32, 98, 32, 105, 102, 32, 120, 32, 61, 32, 34, 49, 34, 32, 97, 102, 116, 101, 114, 32, 99, 32, 110, 111, 100, 101, 32, 99, 58, 32, 100]
def awkL : List Ln := [⟨[97], [98], .mk 2 [120] [49] [], [[99]], []⟩, ⟨[99], [100], .mk 1 [] [] [], [], []⟩]
theorem awk_list : listP 60 (scanF awkT) = some (.ok awkL) := by kernel_rfl
theorem awake_any {w0 : World} : Cl Tryz.prog 19 [] w0 (fun v w' => v = B true ∧ St w0 NoneS [] w') := by
  have hSt := St.refl w0 NoneS
  have hpa := parse_any (w0 := w0) (scan_any awkT) (scan_ok awkT) awk_list
  refine enter Tryz.func19 rfl Tryz.ntmps19 rfl ?_
  repeat' (first | refine stepA ?_ | (refine stepS ?_; clear hSt; intro w hSt; dsimp only [spl, List.set] at hSt) | (refine stepB ?_; clear hSt; intro w nb hnb hSt; dsimp only [zcells, List.nil_append, List.cons_append] at hSt) | (refine W_quiet hT (by decide +kernel) hSt ?_; clear hSt; (repeat' (first | (apply QL_ev rfl rfl; (intro w hSt; (first | exact Ev_auto))) | refine QL_pass rfl rfl ?_ | (refine QL_guardP rfl rfl (fun hc => ?_) (fun hc => ?_) <;> try exact absA) | (refine QL_guard rfl rfl (fun hc => ?_) (fun hc => ?_) <;> (try exact absA) <;> (fail_if_success (change true = true at hc)) <;> (fail_if_success (change false = false at hc))))); all_goals (refine QL_nil (fun w hSt => ?_))) | (refine stepG ?_ ?_ <;> intro hc <;> (try exact absA) <;> (fail_if_success (change true = true at hc)) <;> (fail_if_success (change false = false at hc))) | fail)
  refine WL_call (ok_call hT rfl) rfl rfl rfl hpa ?_
  rintro v w2 ⟨lv, H, rfl, hL, hc2⟩
  replace hSt := hSt.newN hc2
  clear hc2
  dsimp only [List.nil_append] at hSt
  have hLn := hL _ hSt.has
  obtain ⟨a1, p1, xs, rfl, hcap, hlen, hxl, hs, h3, hcc⟩ := hLn.out
  obtain ⟨x0, b1, o1, c1, E1, z1, hx0, hle0, rfl, hb1, q0, hq8⟩ := hcc 0 ⟨[97], [98], .mk 2 [120] [49] [], [[99]], []⟩ rfl
  obtain ⟨y0, b2, o2, c2, E2, z2, hy0, hle1, e9, hb2, r0, hr8⟩ := hcc 1 ⟨[99], [100], .mk 1 [] [] [], [], []⟩ rfl
  injection e9 with e9
  injection e9 with e1 e2 _
  subst e1 e2
  rw [hb1] at hb2
  injection hb2 with hb2
  injection hb2 with e1 e2 e3
  injection e1 with e1
  subst e1
  obtain ⟨v1, va, vs, rfl, _, hsa, _⟩ := hle0
  obtain ⟨v2, va2, vs2, rfl, _⟩ := hle1
  obtain ⟨aa, ka, rfl, _⟩ := hsa.some_ (n := 1) rfl
  have k0 : c1[o1 + ((0 : Nat) : Int).toNat * 8 + 0]? = some (S [97]) := SlAt.cell q0 (j := 0) rfl
  have k2 : c1[o1 + ((0 : Nat) : Int).toNat * 8 + 2]? = some (I 2) := SlAt.cell q0 (j := 2) rfl
  have k6 : c1[o1 + ((0 : Nat) : Int).toNat * 8 + 6]? = some (.slice aa 1 ka) := SlAt.cell q0 (j := 6) rfl
  have m1 : c1[o1 + ((1 : Nat) : Int).toNat * 8 + 1]? = some (S [100]) := SlAt.cell r0 (j := 1) rfl
  have hl2 : awkL.length = 2 := rfl
  clear hL hpa hLn hcc h3 hs
  repeat' (first | (apply WL_ev rfl rfl; exact Ev_load1 hT rfl rfl hb1 k0) | (apply WL_ev rfl rfl; exact Ev_load1 hT rfl rfl hb1 k2) | (apply WL_ev rfl rfl; exact Ev_load1 hT rfl rfl hb1 k6) | (apply WL_ev rfl rfl; exact Ev_load1 hT rfl rfl hb1 m1) | (refine WL_isCall (f := 55) ?_; refine WL_call (ok_call hT rfl) rfl rfl rfl (condT_any) ?_; rintro v w2 ⟨rfl, hc2⟩; replace hSt := hSt.call0 hc2; clear hc2) | refine stepA ?_ | (refine stepS ?_; clear hSt; intro w hSt; dsimp only [spl, List.set] at hSt) | (refine stepB ?_; clear hSt; intro w nb hnb hSt; dsimp only [zcells, List.nil_append, List.cons_append] at hSt) | (refine W_quiet hT (by decide +kernel) hSt ?_; clear hSt; (repeat' (first | (apply QL_ev rfl rfl; (intro w hSt; (first | (exact Ev_load1 hT rfl rfl hb1 k0) | (exact Ev_load1 hT rfl rfl hb1 k2) | (exact Ev_load1 hT rfl rfl hb1 k6) | (exact Ev_load1 hT rfl rfl hb1 m1) | exact Ev_auto))) | refine QL_pass rfl rfl ?_ | (refine QL_guardP rfl rfl (fun hc => ?_) (fun hc => ?_) <;> try exact absA) | (refine QL_guard rfl rfl (fun hc => ?_) (fun hc => ?_) <;> (try exact absA) <;> (fail_if_success (change true = true at hc)) <;> (fail_if_success (change false = false at hc))))); all_goals (refine QL_nil (fun w hSt => ?_))) | (refine stepG ?_ ?_ <;> intro hc <;> (try exact absA) <;> (fail_if_success (change true = true at hc)) <;> (fail_if_success (change false = false at hc))) | fail)
  all_goals try (exfalso; first | omega | (simp at hc; done) | (exact hc rfl) | contradiction)
  all_goals first | exact ret1 rfl rfl ⟨rfl, hSt.nil⟩ | exact ret1 rfl rfl ⟨congrArg B (decide_eq_true rfl), hSt.nil⟩
end Go.Proofs.YtknfankadlokhaaGreatDoor
