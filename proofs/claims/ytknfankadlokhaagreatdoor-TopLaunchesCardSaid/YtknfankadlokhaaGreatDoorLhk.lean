/- Select. No conditions. -/
import Derived.Test.YtknfankadlokhaaGreatDoorLhj
import Derived.Test.YtknfankadlokhaaGreatDoorND
import Derived.Test.YtknfankadlokhaaGreatDoorMD

namespace Go.Proofs.YtknfankadlokhaaGreatDoor
open Go.RowKit
set_option maxRecDepth 4000
set_option linter.unusedVariables false
set_option linter.unusedSimpArgs false
set_option maxHeartbeats 8000000

def selX (g : List Sg) (x : Ln) : Ln := { x with sets := setsO g x.sets }
def chosenF (l : List Ln) (g : List Sg) : List Ln := l.filter fun x => holdC g x.cond
def selE (ch : List Ln) (g : List Sg) (i : Nat) : Int := match ch[i]? with
  | none => 0
  | some x => if (x.after.any fun n => decide (idxF ch n < 0)) = true then 6 else setsE g x.sets
def selectF (l : List Ln) (g : List Sg) : List Ln × Int :=
  if checkF l ≠ 0 then ([], checkF l) else
  let e := firstE (selE (chosenF l g) g) (chosenF l g).length
  if e ≠ 0 then ([], e) else ((chosenF l g).map (selX g), 0)
theorem selE_at {ch : List Ln} {g : List Sg} {i : Nat} {x : Ln} (h : ch[i]? = some x) : selE ch g i = if (x.after.any fun n => decide (idxF ch n < 0)) = true then 6 else setsE g x.sets := by unfold selE; rw [h]
theorem select_bad {l : List Ln} {g : List Sg} (h : checkF l ≠ 0) : selectF l g = ([], checkF l) := by unfold selectF; rw [if_pos h]
theorem select_hit {l : List Ln} {g : List Sg} {i : Nat} {e : Int} (h : checkF l = 0) (hi : i < (chosenF l g).length) (hno : ∀ j, j < i → selE (chosenF l g) g j = 0) (he : selE (chosenF l g) g i = e) (h0 : e ≠ 0) : selectF l g = ([], e) := by
  have := firstE_hit hi (by rw [he]; exact h0) hno
  unfold selectF
  rw [if_neg (by simpa using h)]
  dsimp only
  rw [this, he, if_pos h0]
theorem select_end {l : List Ln} {g : List Sg} (h : checkF l = 0) (hno : ∀ j, j < (chosenF l g).length → selE (chosenF l g) g j = 0) : selectF l g = ((chosenF l g).map (selX g), 0) := by
  unfold selectF
  rw [if_neg (by simpa using h)]
  dsimp only
  rw [firstE_none hno, if_neg (by simp)]
theorem chosen_snoc {l : List Ln} {g : List Sg} {i : Nat} {e : Ln} (h : l[i]? = some e) : chosenF (l.take (i + 1)) g = if holdC g e.cond = true then chosenF (l.take i) g ++ [e] else chosenF (l.take i) g := by
  unfold chosenF
  rw [List.take_add_one, h, List.filter_append]
  split
  · rename_i hh; simp [hh]
  · rename_i hh; simp [hh]
abbrev Q8 := {y : List Value // y.length = 8}
/-- a list of entries of one's own, whose parts lie where P tells -/
theorem lns_own {P : World → Prop} {ys : List Q8} {ch : List Ln} {a : Option Addr} {n c : Nat} {e : TypeId} {H1 : List (Nat × Obj)} {w : World} (ho : OwnSl (.slice a n c) e 8 (ys.flatMap (·.1)) n H1) (hn : ys.length = n) (hcn : ch.length = n) (hle : n ≤ 9223372036854775807) (hh : Has w H1)
    (hat : ∀ (j : Nat) (x : Ln) (y : Q8), ch[j]? = some x → ys[j]? = some y → LnAt w y.1 x) : Lns w (.slice a n c) ch := by
  subst hn
  have hsl := OwnSl.slAt (f := fun y : Q8 => y.1) (z := 8) (l := ys) (fun a => a.2) ho hh
  refine Lns.of hsl (by rw [List.length_map, hcn]) (fun j z x hz hx => ?_) ?_ (by omega)
  · rw [List.getElem?_map] at hz
    cases hy : ys[j]? with
    | none => rw [hy] at hz; cases hz
    | some q => rw [hy] at hz; injection hz with hz; subst hz; exact hat j x q hx hy
  · rcases ho.2 with ⟨e1, _, _⟩ | ⟨b, cap, rs, e1, h1, _⟩
    · injection e1 with _ e2 e3; omega
    · injection e1 with _ e2 e3; omega
theorem St.rot9 {w0 w : World} {p q : Nat × Obj} {A B C D E F : List (Nat × Obj)} (h : St w0 NoneS (p :: q :: (A ++ B ++ C ++ D ++ E ++ F)) w) : St w0 NoneS ((p :: q :: (A ++ (B ++ (D ++ (E ++ F))))) ++ C) w := by
  refine h.perm ?_
  rw [List.cons_append, List.cons_append]
  refine List.Perm.cons _ (List.Perm.cons _ ?_)
  simp only [List.append_assoc]
  refine List.Perm.append_left _ (List.Perm.append_left _ ?_)
  rw [show D ++ (E ++ (F ++ C)) = (D ++ (E ++ F)) ++ C by simp]
  rw [show C ++ (D ++ (E ++ F)) = C ++ (D ++ (E ++ F)) from rfl]
  exact List.perm_append_comm
theorem setsO_plain {g l : List Sg} (h : setsE g l = 0) : ∀ s ∈ setsO g l, s.2.length ≤ 200 := by
  intro s hs
  unfold setsO at hs
  obtain ⟨a, ha, rfl⟩ := List.mem_map.1 hs
  obtain ⟨j, hj⟩ := List.getElem?_of_mem ha
  have h1 := firstE_zero h j (List.getElem?_eq_some_iff.1 hj).1
  rw [errAt_at hj] at h1
  unfold errS at h1
  split at h1
  · rename_i h2; exact absurd h1 h2
  · split at h1
    · cases h1
    · rename_i h3; exact plainF_size (by simpa using h3)
theorem sel1_any {w0 : World} {n : Tx} {nv : Value} {ch : List Ln} {bc : Nat} (hb : w0.heap[bc]? = some (blk [nv] 23)) (hn : Lns w0 nv ch) : Cl Tryz.prog 40 [S n, Ptr bc] w0 (fun v w' => v = B (decide (idxF ch n < 0)) ∧ St w0 NoneS [] w') := by
  have hSt := St.refl w0 NoneS
  refine enter Tryz.func40 rfl Tryz.ntmps40 rfl ?_
  repeat' (first | (apply WL_ev rfl rfl; exact Ev_load1 hT rfl rfl (hSt.base hb (fun e => e)) rfl) | (refine WL_isCall (f := 41) ?_; refine WL_call (ok_call hT rfl) rfl rfl rfl (index_any n (hn.kept hSt.keeps)) ?_; rintro v w' ⟨rfl, hc2⟩; replace hSt := hSt.call0 hc2; clear hc2) | refine stepA ?_ | (refine stepS ?_; clear hSt; intro w hSt; dsimp only [spl, List.set] at hSt) | (refine stepB ?_; clear hSt; intro w nb hnb hSt; dsimp only [zcells, List.nil_append, List.cons_append] at hSt) | (refine stepG ?_ ?_ <;> intro hc <;> (try exact absA) <;> (fail_if_success (change true = true at hc)) <;> (fail_if_success (change false = false at hc))) | fail)
  exact ret1 rfl rfl ⟨rfl, hSt.nil⟩
theorem own_capO {a : Option Addr} {n c z : Nat} {e : TypeId} {xs : List Value} {H1 : List (Nat × Obj)} (ho : OwnSl (.slice a n c) e z xs n H1) : capO (.slice a n c) := by
  apply capO.mk
  rcases ho.2 with ⟨e1, _, _⟩ | ⟨b, cap, rs, e1, h1, _⟩
  · injection e1 with _ e2 e3; omega
  · injection e1 with _ e2 e3; omega
theorem select_any {w0 : World} (hV : Mx w0) {v0 v1 : Value} {l : List Ln} {g : List Sg} (h : Lns w0 v0 l) (hg : SlAt w0 v1 2 (g.map sgC)) (hgl : g.length ≤ 9223372036854775807) (hgt : ∀ a ∈ g, a.2.length ≤ 100000) (hsl : ∀ x ∈ l, x.sets.length ≤ 1000000000) :
    Cl Tryz.prog 10 [v0, v1] w0 (fun v w' => ∃ nv H1, v = .tuple ⟨[nv, I (selectF l g).2]⟩ ∧ (∃ a c, nv = .slice a (selectF l g).1.length c) ∧ (∀ w, Has w H1 → Lns w nv (selectF l g).1) ∧ St w0 NoneS H1 w') := by
  have hL := h
  obtain ⟨a1, p1, xs, rfl, hcap, hlen, hxl, hs, h3, hc1⟩ := h.out
  obtain ⟨ag, pg, rfl, hcg⟩ := hg.map
  have hSt := St.refl w0 NoneS
  by_cases h0 : checkF l = 0
  rotate_left 1
  · rw [select_bad h0]
    refine enter Tryz.func10 rfl Tryz.ntmps10 rfl ?_
    repeat' (first | (refine WL_isCall (f := 22) ?_; refine WL_call (ok_call hT rfl) rfl rfl rfl (check_any (hL.kept hSt.keeps)) ?_; rintro v w' ⟨rfl, hc2⟩; replace hSt := hSt.call0 hc2; clear hc2) | refine stepA ?_ | (refine stepS ?_; clear hSt; intro w hSt; dsimp only [spl, List.set] at hSt) | (refine stepB ?_; clear hSt; intro w nb hnb hSt; dsimp only [zcells, List.nil_append, List.cons_append] at hSt) | (refine stepG ?_ ?_ <;> intro hc <;> (try exact absA) <;> (fail_if_success (change true = true at hc)) <;> (fail_if_success (change false = false at hc))) | fail)
    all_goals first | (exfalso; first | omega | contradiction) | exact ret2 rfl rfl rfl ⟨_, [], rfl, ⟨_, _, rfl⟩, fun w _ => ⟨⟨[], SlAt.nil w 8, rfl, fun i x e hx => by simp at hx⟩, capO.mk (Nat.le_refl _), by simp⟩, hSt.nil⟩
  have h24 := (check_parts h0).1
  have hgood : ∀ (i : Nat) (x : Ln), l[i]? = some x → goodC x.cond = true ∧ (∀ s ∈ x.sets, s.2.length ≤ 100000) ∧ x.after.length ≤ 24 := fun i x hx => by
    obtain ⟨_, _, _, hc, hl⟩ := entry_parts hx ((check_parts h0).2.1 i (List.getElem?_eq_some_iff.1 hx).1)
    refine ⟨(condF_zero _).1 hc, fun s hs => ?_, Nat.le_trans (after_todo h0 (List.mem_of_getElem? hx)).len h24⟩
    obtain ⟨j, hj⟩ := List.getElem?_of_mem hs
    have := plainF_size (sets_parts (lists_parts hl).1 hj).2.1
    omega
  refine enter Tryz.func10 rfl Tryz.ntmps10 rfl ?_
  repeat' (first | (refine WL_isCall (f := 22) ?_; refine WL_call (ok_call hT rfl) rfl rfl rfl (check_any (hL.kept hSt.keeps)) ?_; rintro v w' ⟨rfl, hc2⟩; replace hSt := hSt.call0 hc2; clear hc2) | refine stepA ?_ | (refine stepS ?_; clear hSt; intro w hSt; dsimp only [spl, List.set] at hSt) | (refine stepB ?_; clear hSt; intro w nb hnb hSt; dsimp only [zcells, List.nil_append, List.cons_append] at hSt) | (refine stepG ?_ ?_ <;> intro hc <;> (try exact absA) <;> (fail_if_success (change true = true at hc)) <;> (fail_if_success (change false = false at hc))) | fail)
  all_goals try (exfalso; first | omega | contradiction)
  obtain ⟨bc, rfl⟩ : ∃ bc, bc = nb := ⟨nb, rfl⟩
  refine W_loop1 (fun k (i : Nat) w => k = l.length - i ∧ i ≤ l.length ∧ ∃ (nv : Value) (ys : List Q8) (H1 : List (Nat × Obj)), ys.length = (chosenF (l.take i) g).length ∧ OwnSl nv 40 8 (ys.flatMap (·.1)) (chosenF (l.take i) g).length H1 ∧
      (∀ (j : Nat) (x : Ln) (y : Q8), (chosenF (l.take i) g)[j]? = some x → ys[j]? = some y → LnAt w0 y.1 x) ∧ St w0 NoneS ((bc, blk [nv] 23) :: H1) w) (fun i => [(22, I (i : Int))]) l.length 0 rfl (by (repeat (first | exact Str.nil _ | apply Str.drop rfl | apply Str.keepU rfl | apply Str.keep rfl)))
    ⟨rfl, by omega, _, [], [], rfl, OwnSl.nil _ _, fun j x y hx => by simp [chosenF] at hx, hSt⟩ (by (repeat (first | exact Sub.nil _ | refine Sub.cons rfl ?_))) ?_
  clear hSt
  rintro k i w ⟨hk, hi, nv, ys, H1, hys, ho, hat, hSt⟩ K hK
  have hcl : (chosenF (l.take i) g).length ≤ 24 := by
    unfold chosenF
    have := List.length_filter_le (fun x : Ln => holdC g x.cond) (l.take i)
    rw [List.length_take] at this
    omega
  obtain ⟨oa, oc, rfl⟩ := ho.len
  by_cases hil : i < l.length
  · obtain ⟨e, he⟩ : ∃ e, l[i]? = some e := ⟨_, List.getElem?_eq_getElem hil⟩
    obtain ⟨x, b1, o1, c1, E1, z1, hx, hle, rfl, hb1, q, hq8⟩ := hc1 i e he
    have hlx := hle
    obtain ⟨u1, ua, us, rfl, hcnd, hsa, hss, _⟩ := hle
    obtain ⟨u1a, u1n, u1c, rfl⟩ := cond_slice hcnd
    obtain ⟨a2, p2, rfl, _⟩ := hsa.map
    obtain ⟨a3, p3, rfl, _⟩ := hss.map
    have hcs := chosen_snoc (g := g) he
    have hho : ∀ {w1 : World}, St w0 NoneS [] w1 → Cl Tryz.prog 38 [.agg ⟨[I e.cond.op, S e.cond.name, S e.cond.text, .slice u1a u1n u1c]⟩, .slice ag g.length pg] w1 (fun v w' => v = B (holdC g e.cond) ∧ St w1 NoneS [] w') := fun k => by
      have := holds_any (hcnd.kept k.keeps) (hg.kept k.keeps) hgl
      rw [(hgood i e he).1, Bool.true_and] at this
      exact this
    repeat' (first | (refine WL_alloc hT rfl rfl rfl hSt ?_; clear hSt; intro w b9 hb9 hSt; replace hSt := hSt.front; dsimp only [zcells, List.nil_append, List.cons_append] at hSt) | (apply WL_ev rfl rfl; exact Ev_loadN hT rfl rfl (hSt.base hb1 (fun e => e)) q rfl) | (refine WL_isCall (f := 38) ?_; refine WL_call (ok_call hT rfl) rfl rfl rfl (hho hSt.nil) ?_; rintro v w' ⟨rfl, hc2⟩; replace hSt := hSt.call0 hc2; clear hc2) | (refine WL_push1 hT rfl rfl rfl rfl rfl rfl rfl rfl rfl rfl rfl rfl (fun _ => rfl) rfl (H0 := [_, _]) hSt ho (by omega) (by omega) ?_; clear hSt ho; intro v' w H2 u ho hSt; obtain ⟨oa2, oc2, rfl⟩ := ho.len; dsimp only [List.cons_append, List.nil_append] at hSt) | refine stepA ?_ | (refine stepS ?_; clear hSt; intro w hSt; dsimp only [spl, List.set] at hSt) | (refine stepB ?_; clear hSt; intro w nb hnb hSt; dsimp only [zcells, List.nil_append, List.cons_append] at hSt) | (refine stepG ?_ ?_ <;> intro hc <;> (try exact absA) <;> (fail_if_success (change true = true at hc)) <;> (fail_if_success (change false = false at hc))) | fail)
    · have hh : holdC g e.cond = true := by assumption
      rw [if_pos hh] at hcs
      refine At_loop1 hK (k' := l.length - (i + 1)) (i + 1) (by omega) ⟨rfl, by omega, _, ys ++ [⟨[S e.node, S e.prog, I e.cond.op, S e.cond.name, S e.cond.text, .slice u1a u1n u1c, .slice a2 e.after.length p2, .slice a3 e.sets.length p3], rfl⟩], H2, by rw [hcs]; simp [hys], ?_, ?_, hSt.sublist (List.sublist_cons_self _ _)⟩ (by (repeat (first | exact Sub.nil _ | refine Sub.cons rfl ?_)))
      · rw [hcs, List.flatMap_append, List.length_append]; exact ho
      · rw [hcs]
        intro j x y hx hy
        rw [List.getElem?_append] at hx hy
        rw [hys] at hy
        split at hx
        · rename_i hj; rw [if_pos hj] at hy; exact hat j x y hx hy
        · rename_i hj; rw [if_neg hj] at hy
          rcases Nat.lt_or_ge (j - (chosenF (l.take i) g).length) 1 with h1 | h1
          · have : j - (chosenF (l.take i) g).length = 0 := by omega
            rw [this] at hx hy
            injection hx with hx; injection hy with hy; subst hx; subst hy; exact hlx
          · rw [List.getElem?_eq_none (by simpa using h1)] at hx; cases hx
    · have hh : ¬ holdC g e.cond = true := Bool.eq_false_iff.1 (by assumption)
      rw [if_neg hh] at hcs
      refine At_loop1 hK (k' := l.length - (i + 1)) (i + 1) (by omega) ⟨rfl, by omega, _, ys, H1, by rw [hcs]; exact hys, by rw [hcs]; exact ho, by rw [hcs]; exact hat, hSt.sublist (List.sublist_cons_self _ _)⟩ (by (repeat (first | exact Sub.nil _ | refine Sub.cons rfl ?_)))
  · have htk : l.take i = l := List.take_of_length_le (by omega)
    rw [htk] at hys ho hat hSt hcl
    obtain ⟨ch, hch⟩ : ∃ ch, ch = chosenF l g := ⟨_, rfl⟩
    rw [← hch] at hys ho hat hSt hcl
    have hlch : ∀ w, Keeps w0 w → Has w H1 → Lns w (.slice oa ch.length oc) ch := fun w kk hh => lns_own (P := fun _ => True) ho hys rfl (by omega) hh (fun j x y hx hy => (hat j x y hx hy).kept kk)
    repeat' (first | refine stepA ?_ | (refine stepS ?_; clear hSt; intro w hSt; dsimp only [spl, List.set] at hSt) | (refine stepB ?_; clear hSt; intro w nb hnb hSt; dsimp only [zcells, List.nil_append, List.cons_append] at hSt) | (refine stepG ?_ ?_ <;> intro hc <;> (try exact absA) <;> (fail_if_success (change true = true at hc)) <;> (fail_if_success (change false = false at hc))) | fail)
    have hpre : ∀ (j : Nat) (x : Ln), ch[j]? = some x → x ∈ l := fun j x hx => by
      have := List.mem_of_getElem? hx
      rw [hch] at this
      exact (List.mem_filter.1 this).1
    have hch0 : (bc, blk [Value.slice oa ch.length oc] 23) :: H1 = (bc, blk [Value.slice oa ch.length oc] 23) :: (H1 ++ [] ++ []) := by simp
    rw [hch0] at hSt
    refine W_loop2 (fun k (i : Nat) (out : Value) w => k = ch.length - i ∧ i ≤ ch.length ∧ (∀ j, j < i → selE ch g j = 0) ∧ ∃ (zs : List Q8) (HD H2 : List (Nat × Obj)), zs.length = i ∧ OwnSl out 40 8 (zs.flatMap (·.1)) i H2 ∧
        (∀ w, Has w HD → ∀ (j : Nat) (x : Ln) (z : Q8), ch[j]? = some x → zs[j]? = some z → LnAt w z.1 (selX g x)) ∧ St w0 NoneS ((bc, blk [Value.slice oa ch.length oc] 23) :: (H1 ++ HD ++ H2)) w) (fun i out => [(37, I (i : Int)), (10, out)]) ch.length 0 (.slice none 0 0) rfl (by (repeat (first | exact Str.nil _ | apply Str.drop rfl | apply Str.keepU rfl | apply Str.keep rfl)))
      ⟨rfl, by omega, by intro j hj; omega, [], [], [], rfl, OwnSl.nil _ _, fun w _ j x z _ hz => by simp at hz, hSt⟩ (by (repeat (first | exact Sub.nil _ | refine Sub.cons rfl ?_))) ?_
    clear hSt
    rintro k2 i2 out w ⟨hk2, hi2, hno, zs, HD, H2, hzs, hoz, hD, hSt⟩ K2 hK2
    by_cases hil2 : i2 < ch.length
    · obtain ⟨x, hx⟩ : ∃ x, ch[i2]? = some x := ⟨_, List.getElem?_eq_getElem hil2⟩
      obtain ⟨y, hy⟩ : ∃ y, ys[i2]? = some y := ⟨_, List.getElem?_eq_getElem (by omega)⟩
      have hsub1 : List.Sublist H1 ((bc, blk [Value.slice oa ch.length oc] 23) :: (H1 ++ HD ++ H2)) := List.Sublist.trans (List.Sublist.trans (List.sublist_append_left H1 HD) (List.sublist_append_left _ H2)) (List.sublist_cons_self _ _)
      have hle := hat i2 x y hx hy
      obtain ⟨j0, hj0⟩ := List.getElem?_of_mem (hpre i2 x hx)
      obtain ⟨hgc, hst, hafl⟩ := hgood j0 x hj0
      have hstl := hsl x (hpre i2 x hx)
      have hse := selE_at (g := g) hx
      have hslc := OwnSl.slAt (f := fun y : Q8 => y.1) (z := 8) (l := ys) (fun a => a.2) (by rw [hys]; exact ho) (hSt.has.sublist hsub1)
      obtain ⟨oa9, oc9, e9, hc9⟩ := hslc.some_ (by rw [List.length_map])
      injection e9 with e91 _ e93
      subst e91; subst e93
      obtain ⟨b1, o1, c1, E1, z1, rfl, hb1, q, hq8⟩ := hc9 i2 y.1 (by rw [List.getElem?_map, hy]; rfl)
      rw [← Int.toNat_natCast i2] at q
      obtain ⟨u1, ua, us, hyv, hcnd, hsa, hss, hca, hcs9, hla, hls, _⟩ := hle
      obtain ⟨u1a, u1n, u1c, rfl⟩ := cond_slice hcnd
      obtain ⟨a2, p2, rfl, _⟩ := hsa.map
      obtain ⟨a3, p3, rfl, _⟩ := hss.map
      rw [hyv] at q hq8
      have hfirst : ∀ e, selE ch g i2 = e → e ≠ 0 → selectF l g = ([], e) := fun e he h1 => by subst hch; exact select_hit h0 hil2 hno he h1
      have hnilL : ∀ w : World, Lns w (.slice none 0 0) [] := fun w => ⟨⟨[], SlAt.nil w 8, rfl, fun i x e hx => by simp at hx⟩, capO.mk (Nat.le_refl _), by simp⟩
      repeat' (first | (refine WL_alloc hT rfl rfl rfl hSt ?_; clear hSt; intro w b9 hb9 hSt; replace hSt := hSt.front; dsimp only [zcells, List.nil_append, List.cons_append] at hSt) | (apply WL_ev rfl rfl; exact Ev_loadN hT rfl rfl hb1 q hq8) | (apply WL_ev rfl rfl; exact Ev_makeFunc rfl) | (refine WL_isCall (f := 39) ?_; refine WL_call (ok_call hT rfl) rfl rfl rfl (conS_any (l := x.after) (fun n => decide (idxF ch n < 0)) (hsa.kept hSt.keeps) (by simp) (by omega) (ok_call hT rfl) (fun w k j y a hy ha => (by have hya := map_at hy ha; injection hya with hya; subst hya; exact sel1_any (k.base (hSt.own 1 _ _ rfl).1 (fun e => e)) (hlch w (hSt.call0 k).keeps ((hSt.has.sublist (hsub1.cons _)).later k))))) ?_; rintro v w' ⟨rfl, hc2⟩; replace hSt := hSt.call0 hc2; clear hc2) | refine stepA ?_ | (refine stepS ?_; clear hSt; intro w hSt; dsimp only [spl, List.set] at hSt) | (refine stepB ?_; clear hSt; intro w nb hnb hSt; dsimp only [zcells, List.nil_append, List.cons_append] at hSt) | (refine stepG ?_ ?_ <;> intro hc <;> (try exact absA) <;> (fail_if_success (change true = true at hc)) <;> (fail_if_success (change false = false at hc))) | fail)
      · rw [hfirst 6 (by rw [hse, if_pos (by assumption)]) (by omega)]
        exact ret2 rfl rfl rfl ⟨_, [], rfl, ⟨_, _, rfl⟩, fun w _ => hnilL w, hSt.nil⟩
      rename_i hany
      refine WL_call (ok_call hT rfl) rfl rfl rfl (settings_any (hV.kept hSt.keeps) (hss.kept hSt.keeps) hstl hst (hg.kept hSt.keeps) hgl hgt) ?_
      rintro v w' ⟨nvs, Hs, rfl, hos, hc2⟩
      replace hSt := hSt.newN hc2
      clear hc2
      dsimp only [List.cons_append] at hSt
      by_cases hs0 : setsE g x.sets = 0
      rotate_left 1
      · repeat' (first | refine stepA ?_ | (refine stepS ?_; clear hSt; intro w hSt; dsimp only [spl, List.set] at hSt) | (refine stepB ?_; clear hSt; intro w nb hnb hSt; dsimp only [zcells, List.nil_append, List.cons_append] at hSt) | (refine stepG ?_ ?_ <;> intro hc <;> (try exact absA) <;> (fail_if_success (change true = true at hc)) <;> (fail_if_success (change false = false at hc))) | fail)
        all_goals try (exfalso; first | omega | contradiction)
        rw [hfirst (setsE g x.sets) (by rw [hse, if_neg (Bool.eq_false_iff.1 (by assumption))]) hs0]
        exact ret2 rfl rfl rfl ⟨_, [], rfl, ⟨_, _, rfl⟩, fun w _ => hnilL w, hSt.nil⟩
      rw [if_pos hs0] at hos
      obtain ⟨osa, osc, rfl⟩ := hos.len
      have hse0 : selE ch g i2 = 0 := by rw [hse, if_neg (Bool.eq_false_iff.1 (by assumption))]; exact hs0
      have hsop := setsO_plain hs0
      have hsol : (setsO g x.sets).length = x.sets.length := by unfold setsO; simp
      repeat' (first | (refine W_mixT (.op 0 (some false) (.op 3 (some false) (.op 6 (some false) (.fork 1 (.fork 2 (.op 4 (some true) (.op 7 (some false) (.op 5 (some true) (.op 8 (some true) (.op 9 (some false) (.op 10 (some true) .done)))))) 4 (.op 2 (some true) (.op 7 (some false) (.op 5 (some true) (.op 8 (some true) (.op 9 (some false) (.op 10 (some true) .done))))))) 4 (.op 1 (some true) (.op 2 (some true) (.op 7 (some false) (.op 5 (some true) (.op 8 (some true) (.op 9 (some false) (.op 10 (some true) .done))))))))))) hT (by decide +kernel) hSt ?_; clear hSt; intro w hSt) | (refine MT_fork ?_ ?_) | (refine MT_ev rfl rfl rfl (fun w => by first | exact Ev_move rfl | exact Ev_fieldAddr hT rfl rfl) ?_) | (refine MT_one rfl ?_) | (refine At_oneT ?_) | (refine MT_end ?_; simp only [OTree.depth, List.drop_succ_cons, List.drop_zero]) | (refine WL_isCall (f := 43) ?_; refine WL_call (ok_call hT rfl) rfl rfl rfl (clone_any x.cond (hcnd.kept hSt.keeps) (good_form hgc)) ?_; rintro v w' ⟨nvc, Hc, rfl, ⟨ca, cn, ck, rfl⟩, hDc, hc2⟩; replace hSt := hSt.newN hc2; clear hc2; dsimp only [List.cons_append] at hSt) | (refine WL_isCall (f := 44) ?_; refine WL_call (ok_call hT rfl) rfl rfl rfl (sclone_any (hsa.kept hSt.keeps) (by omega)) ?_; rintro v w' ⟨Ha, hoa, hc2⟩; (obtain ⟨aa, ac, rfl⟩ := hoa.len); replace hSt := hSt.newN hc2; clear hc2; dsimp only [List.cons_append] at hSt) | refine stepA ?_ | (refine stepS ?_; clear hSt; intro w hSt; dsimp only [spl, List.set] at hSt) | (refine stepB ?_; clear hSt; intro w nb hnb hSt; dsimp only [zcells, List.nil_append, List.cons_append] at hSt) | (refine stepG ?_ ?_ <;> intro hc <;> (try exact absA) <;> (fail_if_success (change true = true at hc)) <;> (fail_if_success (change false = false at hc))) | fail)
      all_goals
        replace hSt := hSt.rot9
        refine WL_push1 hT rfl rfl rfl rfl rfl rfl rfl rfl rfl rfl rfl rfl (fun _ => rfl) rfl hSt hoz (by omega) (by omega) ?_
        clear hSt
        intro v' w H3 u ho3 hSt
        dsimp only [List.cons_append] at hSt
        repeat' (first | refine stepA ?_ | (refine stepS ?_; clear hSt; intro w hSt; dsimp only [spl, List.set] at hSt) | (refine stepB ?_; clear hSt; intro w nb hnb hSt; dsimp only [zcells, List.nil_append, List.cons_append] at hSt) | (refine stepG ?_ ?_ <;> intro hc <;> (try exact absA) <;> (fail_if_success (change true = true at hc)) <;> (fail_if_success (change false = false at hc))) | fail)
        refine At_loop2 hK2 (k' := ch.length - (i2 + 1)) (i2 + 1) _ (by omega) ⟨rfl, by omega, fno_snoc hno hse0, zs ++ [⟨[S x.node, S x.prog, I x.cond.op, S x.cond.name, S x.cond.text, .slice ca cn ck, .slice aa x.after.length ac, .slice osa (setsO g x.sets).length osc], rfl⟩], HD ++ (Hs ++ (Hc ++ Ha)), H3, by simp [hzs], by rw [List.flatMap_append]; exact ho3, ?_, hSt.sublist (List.sublist_cons_self _ _)⟩ (by (repeat (first | exact Sub.nil _ | refine Sub.cons rfl ?_)))
        intro w hh j x1 z hx1 hz
        rw [List.getElem?_append] at hz
        split at hz
        · exact hD w (hh.sublist (List.sublist_append_left _ _)) j x1 z hx1 hz
        · rename_i hj
          have hj2 : j = i2 := by
            rcases Nat.lt_or_ge (j - zs.length) 1 with h1 | h1
            · omega
            · rw [List.getElem?_eq_none (by simpa using h1)] at hz; cases hz
          subst hj2
          rw [hzs, Nat.sub_self] at hz
          injection hz with hz
          subst hz
          rw [hx] at hx1; injection hx1 with hx1; subst hx1
          have hh2 := hh.sublist (List.sublist_append_right HD (Hs ++ (Hc ++ Ha)))
          have hh3 := hh2.sublist (List.sublist_append_right Hs (Hc ++ Ha))
          exact ⟨_, _, _, rfl, hDc w (hh3.sublist (List.sublist_append_left _ _)), own_tc hoa (hh3.sublist (List.sublist_append_right _ _)), OwnSl.slAt (f := sgC) (z := 2) (l := setsO g x.sets) (fun _ => rfl) hos (hh2.sublist (List.sublist_append_left _ _)), own_capO hoa, own_capO hos, hla, by show (setsO g x.sets).length ≤ _; omega, fun s hs => Nat.le_trans (hsop s hs) (by omega)⟩
    · have hii : i2 = ch.length := by omega
      subst hii
      have hend : selectF l g = (ch.map (selX g), 0) := by subst hch; exact select_end h0 hno
      rw [hend]
      obtain ⟨oa5, oc5, rfl⟩ := hoz.len
      repeat' (first | refine stepA ?_ | (refine stepS ?_; clear hSt; intro w hSt; dsimp only [spl, List.set] at hSt) | (refine stepB ?_; clear hSt; intro w nb hnb hSt; dsimp only [zcells, List.nil_append, List.cons_append] at hSt) | (refine stepG ?_ ?_ <;> intro hc <;> (try exact absA) <;> (fail_if_success (change true = true at hc)) <;> (fail_if_success (change false = false at hc))) | fail)
      refine ret2 rfl rfl rfl ⟨_, HD ++ H2, rfl, ⟨_, _, by rw [List.length_map]⟩, fun w hh => ?_, hSt.sublist ?_⟩
      · refine lns_own (P := fun _ => True) hoz hzs (by rw [List.length_map]) (by omega) (hh.sublist (List.sublist_append_right _ _)) (fun j x z hx hz => ?_)
        rw [List.getElem?_map] at hx
        cases hxx : ch[j]? with
        | none => rw [hxx] at hx; cases hx
        | some x0 => rw [hxx] at hx; injection hx with hx; subst hx; exact hD w (hh.sublist (List.sublist_append_left _ _)) j x0 z hxx hz
      · rw [List.append_assoc]
        exact List.Sublist.trans (List.sublist_append_right _ _) (List.sublist_cons_self _ _)
end Go.Proofs.YtknfankadlokhaaGreatDoor
