/- The specification's Select. No conditions. -/
import Derived.Test.YtofnepeokihhnaaLrb
import Derived.Test.YtofnepeokihhnaaLhk
import Derived.Test.YtofnepeokihhnaaLhy
import Derived.Test.YtofnepeokihhnaaLie
import Derived.Test.YtofnepeokihhnaaLho
namespace Go.Proofs.Ytofnepeokihhnaa
open Go.RowKit
set_option linter.unusedVariables false
set_option linter.unusedSimpArgs false
set_option maxHeartbeats 8000000


theorem sel_node (g : List Sg) (x : Ln) : (selX g x).node = x.node ∧ (selX g x).prog = x.prog ∧ (selX g x).cond = x.cond ∧ (selX g x).after = x.after ∧ (selX g x).sets = setsO g x.sets := ⟨rfl, rfl, rfl, rfl, rfl⟩
theorem sel_nodes (g : List Sg) (ch : List Ln) : nodesF (ch.map (selX g)) = nodesF ch := by
  unfold nodesF; rw [List.map_map]; rfl
theorem nodes_nodup {l : List Ln} (h : checkF l = 0) : (nodesF l).Nodup := by
  rw [List.nodup_iff_pairwise_ne, List.pairwise_iff_getElem]
  intro i j hi hj hij e
  unfold nodesF at *
  rw [List.length_map] at hi hj
  rw [List.getElem_map, List.getElem_map] at e
  obtain ⟨_, hall, _⟩ := check_parts h
  obtain ⟨_, _, hn, _⟩ := entry_parts (List.getElem?_eq_getElem hj) (hall j hj)
  have : 0 ≤ idxF (l.take j) l[j].node := idxF_mem.2 (List.mem_map.2 ⟨l[i], List.mem_of_getElem? (i := i) (by rw [List.getElem?_take, if_pos hij]; exact List.getElem?_eq_getElem hi), e⟩)
  omega
theorem idx_none {l : List Ln} (hd : (nodesF l).Nodup) {i : Nat} {x : Ln} (hx : l[i]? = some x) : idxF (l.take i) x.node < 0 := by
  by_cases h : idxF (l.take i) x.node < 0
  · exact h
  · exfalso
    replace h : 0 ≤ idxF (l.take i) x.node := by omega
    obtain ⟨j, y, _, hy, hn⟩ := idxF_at h
    rw [List.getElem?_take] at hy
    split at hy
    · rename_i hji
      rw [List.nodup_iff_pairwise_ne, List.pairwise_iff_getElem] at hd
      have h1 := List.getElem?_eq_some_iff.1 hx
      have h2 := List.getElem?_eq_some_iff.1 hy
      have := hd j i (by unfold nodesF; rw [List.length_map]; exact h2.1) (by unfold nodesF; rw [List.length_map]; exact h1.1) hji
      apply this
      unfold nodesF
      rw [List.getElem_map, List.getElem_map, h1.2, h2.2, hn]
    · cases hy
theorem setE_ok {l : List Sg} {j : Nat} {s : Sg} (hs : l[j]? = some s) (h1 : nameF s.1 = true) (h2 : plainF s.2 = true) (h3 : (l.take j).any (fun y => decide (y.1 = s.1)) = false) : setE l j = 0 := by
  unfold setE; rw [hs]
  dsimp only
  rw [if_neg (by rw [h1]; simp), if_neg (by rw [h3]; simp), if_neg (by rw [h2]; simp)]
theorem sets_ok {l g : List Sg} (h : ∀ j, j < l.length → setE l j = 0) (he : setsE g l = 0) : ∀ j, j < (setsO g l).length → setE (setsO g l) j = 0 := by
  intro j hj
  have hjl : j < l.length := by unfold setsO at hj; rwa [List.length_map] at hj
  obtain ⟨h1, h2, h3⟩ := sets_parts h (List.getElem?_eq_getElem hjl)
  have h4 := firstE_zero he j hjl
  rw [errAt_at (List.getElem?_eq_getElem hjl)] at h4
  have h5 : plainF (subF g l[j].2).1 = true := by
    unfold errS at h4
    split at h4
    · rename_i h6; exact absurd h4 h6
    · split at h4
      · cases h4
      · rename_i h6; simpa using h6
  refine setE_ok (s := (l[j].1, (subF g l[j].2).1)) (by unfold setsO; rw [List.getElem?_map, List.getElem?_eq_getElem hjl]; rfl) h1 h5 ?_
  unfold setsO
  rw [← List.map_take, List.any_map]
  exact h3
theorem chosen_sub (l : List Ln) (g : List Sg) : (nodesF (chosenF l g)).Sublist (nodesF l) := by
  unfold nodesF chosenF
  exact (List.filter_sublist).map _
theorem select_ok {l : List Ln} {g : List Sg} (h0 : checkF l = 0) (hse : ∀ j, j < (chosenF l g).length → selE (chosenF l g) g j = 0) : checkF ((chosenF l g).map (selX g)) = 0 := by
  obtain ⟨ch, hch⟩ : ∃ ch, ch = chosenF l g := ⟨_, rfl⟩
  rw [← hch] at hse ⊢
  have hmem : ∀ x ∈ ch, x ∈ l := fun x hx => by rw [hch] at hx; exact (List.mem_filter.1 hx).1
  have hnd : (nodesF ch).Nodup := by rw [hch]; exact (chosen_sub l g).nodup (nodes_nodup h0)
  have hnd2 : (nodesF (ch.map (selX g))).Nodup := by rw [sel_nodes]; exact hnd
  have hlen : ch.length ≤ 24 := by
    have h1 := (check_parts h0).1
    have h2 := (chosen_sub l g).length_le
    rw [← hch] at h2
    unfold nodesF at h2
    rw [List.length_map, List.length_map] at h2
    omega
  have haft : ∀ x ∈ ch, ∀ n ∈ x.after, n ∈ nodesF ch := fun x hx n hn => by
    obtain ⟨j, hj⟩ := List.getElem?_of_mem hx
    have := hse j (List.getElem?_eq_some_iff.1 hj).1
    rw [selE_at hj] at this
    split at this
    · cases this
    · rename_i hany
      rw [Bool.not_eq_true, List.any_eq_false] at hany
      have := hany n hn
      exact idxF_mem.1 (by simpa using this)
  have hent : ∀ j, j < (ch.map (selX g)).length → entryF (ch.map (selX g)) j = 0 := fun j hj => by
    rw [List.length_map] at hj
    obtain ⟨x, hx⟩ : ∃ x, ch[j]? = some x := ⟨_, List.getElem?_eq_getElem hj⟩
    have hxs : (ch.map (selX g))[j]? = some (selX g x) := by rw [List.getElem?_map, hx]; rfl
    have hxl := hmem x (List.mem_of_getElem? hx)
    obtain ⟨i, hi⟩ := List.getElem?_of_mem hxl
    obtain ⟨n1, n2, _, n4, n5⟩ := entry_parts hi ((check_parts h0).2.1 i (List.getElem?_eq_some_iff.1 hi).1)
    obtain ⟨s1, s2⟩ := lists_parts n5
    have hix := idx_none hnd2 hxs
    have hs0 : setsE g x.sets = 0 := by
      have := hse j hj
      rw [selE_at hx] at this
      split at this
      · cases this
      · exact this
    have hlists : listsF (ch.map (selX g)) (selX g x) = 0 := by
      unfold listsF
      dsimp only
      rw [show (selX g x).sets = setsO g x.sets from rfl, firstE_none (sets_ok s1 hs0), if_neg (by simp)]
      refine firstE_none fun t ht => ?_
      obtain ⟨n, hn⟩ : ∃ n, x.after[t]? = some n := ⟨_, List.getElem?_eq_getElem ht⟩
      obtain ⟨_, a2⟩ := after_parts s2 hn
      have a3 : 0 ≤ idxF (ch.map (selX g)) n := idxF_mem.2 (by rw [sel_nodes]; exact haft x (List.mem_of_getElem? hx) n (List.mem_of_getElem? hn))
      unfold aftE
      rw [show (selX g x).after = x.after from rfl, hn]
      dsimp only
      rw [if_neg (by omega), if_neg (by rw [show (x.after.take t).any (fun y => decide (n = y)) = hasF (x.after.take t) n from rfl, a2]; simp)]
    unfold entryF
    rw [hxs]
    dsimp only
    rw [show (selX g x).node = x.node from rfl, show (selX g x).prog = x.prog from rfl, show (selX g x).cond = x.cond from rfl]
    rw [if_neg (by rw [n1, n2]; simp), if_neg (by rw [show (selX g x).node = x.node from rfl] at hix; omega), if_neg (by rw [n4]; simp)]
    exact hlists
  have hfull : (ch.map (selX g)).length ≤ (startF (ch.map (selX g))).length := by
    have hst : (ch.map (selX g)).find? (readyF (startF (ch.map (selX g)))) = none := by
      have hgo : Going (ch.map (selX g)) (startF (ch.map (selX g))) := going_ind (Going.nil _) (fun ns x h hx => h.step hx)
      cases hf : (ch.map (selX g)).find? (readyF (startF (ch.map (selX g)))) with
      | none => rfl
      | some x =>
        exfalso
        obtain ⟨f, hf1, hf2⟩ := hgo.run
        obtain ⟨f', hf3, hf4⟩ := runF_step hf1 hf
        have hlt := leftF_snoc (List.mem_of_find?_eq_some hf) (ready_has (List.find?_some hf)).1
        have : ∀ (k : Nat) (ns : List Tx), ns.length ≤ (runF (ch.map (selX g)) k ns).length := by
          intro k
          induction k with
          | zero => intro ns; exact Nat.le_refl _
          | succ k ih =>
            intro ns
            rw [runF]
            split
            · exact Nat.le_refl _
            · exact Nat.le_trans (by simp) (ih _)
        have h5 := this f' (startF (ch.map (selX g)) ++ [x.node])
        rw [← hf4, hf2] at h5
        simp at h5
        omega
    have key : ∀ (k : Nat) (x : Ln), x ∈ ch → idxP (fun y => decide (y = x.node)) (startF l) = (k : Int) → hasF (startF (ch.map (selX g))) x.node = true := by
      intro k
      induction k using Nat.strongRecOn with
      | ind k ih =>
      intro x hx hk
      cases hh : hasF (startF (ch.map (selX g))) x.node
      · exfalso
        rw [List.find?_eq_none] at hst
        apply hst (selX g x) (List.mem_map.2 ⟨x, hx, rfl⟩)
        unfold readyF
        rw [show (selX g x).node = x.node from rfl, hh, show (selX g x).after = x.after from rfl]
        simp only [Bool.not_false, Bool.true_and, List.all_eq_true]
        intro n hn
        obtain ⟨i, hi⟩ := List.getElem?_of_mem (hmem x hx)
        obtain ⟨k2, _, hk2, hb⟩ := order_before h0 hi
        obtain ⟨m, hm, hmk, _⟩ := hb n hn
        obtain ⟨y, hy, hyn⟩ := List.mem_map.1 (haft x hx n hn)
        have := ih m (by rw [hk2] at hk; omega) y hy (by rw [hyn]; exact hm)
        rw [hyn] at this; exact this
      · rfl
    have hin : ∀ n ∈ nodesF (ch.map (selX g)), n ∈ startF (ch.map (selX g)) := fun n hn => by
      rw [sel_nodes] at hn
      obtain ⟨x, hx, rfl⟩ := List.mem_map.1 hn
      obtain ⟨i, hi⟩ := List.getElem?_of_mem (hmem x hx)
      obtain ⟨k, _, hk, _⟩ := order_before h0 hi
      exact hasF_mem.1 (key k x hx hk)
    have := nodup_len hnd2 hin
    unfold nodesF at this
    rwa [List.length_map] at this
  unfold checkF
  rw [if_neg (by rw [List.length_map]; omega)]
  dsimp only
  rw [firstE_none hent, if_neg (by simp), if_neg (by omega)]
theorem part_at {c x : List Value} {o z a k : Nat} {y : List Value} (h : (c.drop o).take z = x) (hy : (x.drop a).take k = y) (hz : a + k ≤ z) : (c.drop (o + a)).take k = y := by
  subst h
  rw [← hy, List.drop_take, List.take_take, List.drop_drop, Nat.min_eq_left (by omega)]
/-- one cell of one row -/
theorem flat_set1 {α : Type} {f : α → List Value} {z : Nat} (hz : ∀ a, (f a).length = z) {l : List α} {i j : Nat} {x y : α} {v : Value} (hi : l[i]? = some x) (hj : j < z) (hy : f y = (f x).set j v) (rs : List Value) : (l.flatMap f ++ rs).set (i * z + j) v = (l.set i y).flatMap f ++ rs := by
  have hil := (List.getElem?_eq_some_iff.1 hi).1
  have hlen := flat_len hz l
  have hle : i * z + z ≤ l.length * z := by
    have := Nat.mul_le_mul_right z (show i + 1 ≤ l.length by omega)
    rw [Nat.add_mul, Nat.one_mul] at this; exact this
  rw [← flat_set hz y hil rs, spl_eq _ _ _ (by rw [List.length_append, hlen, hz]; omega), hz]
  obtain ⟨L, hL⟩ : ∃ L, L = l.flatMap f ++ rs := ⟨_, rfl⟩
  have hrow : (L.drop (i * z)).take z = f x := by rw [hL]; exact flat_take hz hi rs
  have hLl : i * z + z ≤ L.length := by rw [hL, List.length_append, hlen]; omega
  rw [← hL]
  have e : L = L.take (i * z) ++ f x ++ L.drop (i * z + z) := by
    rw [← hrow, List.append_assoc, ← List.drop_drop, List.take_append_drop, List.take_append_drop]
  conv => lhs; rw [e]
  have h1 : (L.take (i * z)).length = i * z := by rw [List.length_take]; omega
  rw [List.append_assoc, List.set_append_right _ _ (by omega), h1, Nat.add_sub_cancel_left, List.set_append_left _ _ (by rw [hz]; exact hj), ← hy, List.append_assoc]
theorem subF_len (g : List Sg) (s : Tx) : (subF g s).1.length ≤ 4000 := by
  unfold subF
  dsimp only
  split
  · simp
  · split
    · simp
    · dsimp only; omega
/-- the chosen entries, the first i of them with new settings -/
def mixF (g : List Sg) (ch : List Ln) (i : Nat) : List Ln := ch.mapIdx fun j x => if j < i then selX g x else x
theorem mix_len {g : List Sg} {ch : List Ln} {i : Nat} : (mixF g ch i).length = ch.length := by unfold mixF; rw [List.length_mapIdx]
theorem mix_at {g : List Sg} {ch : List Ln} {i j : Nat} : (mixF g ch i)[j]? = (ch[j]?).map fun x => if j < i then selX g x else x := by unfold mixF; rw [List.getElem?_mapIdx]
theorem mix_nodes {g : List Sg} {ch : List Ln} {i : Nat} : nodesF (mixF g ch i) = nodesF ch := by
  refine List.ext_getElem? fun j => ?_
  unfold nodesF
  rw [List.getElem?_map, List.getElem?_map, mix_at]
  cases ch[j]? with
  | none => rfl
  | some x =>
    show some ((if j < i then selX g x else x).node) = some x.node
    split <;> rfl
theorem mix_idx {g : List Sg} {ch : List Ln} {i : Nat} {n : Tx} : idxF (mixF g ch i) n < 0 ↔ idxF ch n < 0 := by
  have h1 := idxF_mem (l := mixF g ch i) (n := n)
  have h2 := idxF_mem (l := ch) (n := n)
  rw [mix_nodes, ← h2] at h1
  omega
theorem mix_all {g : List Sg} {ch : List Ln} : mixF g ch ch.length = ch.map (selX g) := by
  refine List.ext_getElem? fun j => ?_
  rw [mix_at, List.getElem?_map]
  rcases Nat.lt_or_ge j ch.length with h | h
  · rw [List.getElem?_eq_getElem h, Option.map_some, Option.map_some, if_pos h]
  · rw [List.getElem?_eq_none h]; rfl
theorem any_none {α : Type} {l : List α} {p : α → Bool} (h : ∀ (j : Nat) (a : α), j < l.length → l[j]? = some a → p a = false) : l.any p = false := by
  rw [List.any_eq_false]
  intro a ha
  obtain ⟨j, hj⟩ := List.getElem?_of_mem ha
  rw [h j a (List.getElem?_eq_some_iff.1 hj).1 hj]; simp
theorem rselect_any {w0 : World} {v0 v1 : Value} {l : List Ln} {g : List Sg} (h : Lns w0 v0 l) (hlv : ∀ x ∈ l, levC x.cond ≤ 9223372036854775807) (hg : SlAt w0 v1 2 (g.map sgC)) (hgl : g.length ≤ 9223372036854775807) (hgt : ∀ a ∈ g, a.2.length ≤ 100000) (hsl : ∀ x ∈ l, x.sets.length ≤ 1000000000) :
    Cl Try.prog 21 [v0, v1] w0 (fun v w' => ∃ nv H1, v = .tuple ⟨[nv, I (selectF l g).2]⟩ ∧ (∃ a c, nv = .slice a (selectF l g).1.length c) ∧ (∀ w, Keeps w0 w → Has w H1 → Lns w nv (selectF l g).1) ∧ St w0 NoneS H1 w') := by
  have hL := h
  obtain ⟨a1, p1, xs, rfl, hcap, hlen, hxl, hs, h3, hc1⟩ := h.out
  obtain ⟨ag, pg, rfl, hcg⟩ := hg.map
  have hSt := St.refl w0 NoneS
  have hnilL : ∀ w : World, Lns w (.slice none 0 0) [] := fun w => ⟨⟨[], SlAt.nil w 8, rfl, fun i x e hx => by simp at hx⟩, capO.mk (Nat.le_refl _), Nat.zero_le _⟩
  by_cases h0 : checkF l = 0
  rotate_left 1
  · rw [select_bad h0]
    refine enter Try.func21 rfl Try.ntmps21 rfl ?_
    repeat' (first | (refine WL_isCall (f := 29) ?_; refine WL_call (ok_call hT rfl) rfl rfl rfl (rcheck_any (hL.kept hSt.keeps) hlv) ?_; rintro v w' ⟨rfl, hc2⟩; replace hSt := (hSt.call0 hc2); clear hc2) | refine W_seq ?_ | refine W_block ?_ | refine W_region ?_ | refine WL_nil ?_ | refine W_true rfl ?_ | refine W_false rfl ?_ | refine W_skip ?_ | refine W_exit ?_ | refine W_ret ?_ | refine W_goto ?_ | refine W_label ?_ | refine At_calm ?_ | refine At_then_normal ?_ | refine At_then ?_ | refine At_then_ret ?_ | refine At_in_normal ?_ | refine At_in_ret ?_ | refine At_in_hit ?_ | refine At_in_miss rfl ?_ | refine At_jump_normal ?_ | refine At_jump_ret ?_ | refine At_jump_exit ?_ | refine At_then_goto ?_ | refine At_in_goto ?_ | (apply WL_ev rfl rfl; (first | exact Ev_move rfl | exact Ev_assign rfl | exact Ev_nilCheck rfl | exact Ev_fieldAddr hT rfl rfl | exact Ev_load1 hT rfl rfl (hSt.at 0 rfl) rfl | exact Ev_load1 hT rfl rfl (hSt.at 1 rfl) rfl | exact Ev_loadN hT rfl rfl (hSt.at 0 rfl) rfl rfl | exact Ev_loadN hT rfl rfl (hSt.at 1 rfl) rfl rfl | exact Ev_pickT rfl rfl | exact Ev_pickF rfl rfl | exact Ev_eql rfl rfl | exact Ev_neq rfl rfl | exact Ev_lss rfl rfl | exact Ev_leq rfl rfl | exact Ev_gtr rfl rfl | exact Ev_geq rfl rfl | exact Ev_add rfl rfl (by omega) | exact Ev_sub rfl rfl (by omega) | exact Ev_len_str rfl hT rfl | exact Ev_len_slice hT rfl rfl | exact Ev_extract rfl rfl | exact Ev_notP rfl | exact Ev_not rfl | exact Ev_str_eql rfl rfl | exact Ev_str_neq rfl rfl | exact Ev_max rfl rfl | exact Ev_str_slice hT rfl rfl rfl rfl (by omega) (by omega) (by omega) | exact Ev_build hT rfl rfl rfl rfl rfl (ok_stc hT rfl) | exact Ev_beql rfl rfl (ok_boo hT rfl) | exact Ev_bneq rfl rfl (ok_boo hT rfl) | exact Ev_indexAddr hT rfl rfl rfl (by omega) (by omega) | exact Ev_slice_nil_eql hT rfl rfl rfl | exact Ev_slice_nil_neq hT rfl rfl rfl)) | refine WL_pass rfl rfl ?_ | refine WL_pass0 rfl ?_ | (refine WL_store1 hT rfl rfl 0 rfl rfl hSt rfl rfl rfl ?_; clear hSt; intro w hSt; dsimp only [List.set] at hSt) | (refine WL_store1 hT rfl rfl 1 rfl rfl hSt rfl rfl rfl ?_; clear hSt; intro w hSt; dsimp only [List.set] at hSt) | (refine WL_storeN hT rfl rfl 0 rfl rfl hSt rfl rfl rfl rfl ?_; clear hSt; intro w hSt; dsimp only [spl, List.set] at hSt) | (refine WL_storeN hT rfl rfl 1 rfl rfl hSt rfl rfl rfl rfl ?_; clear hSt; intro w hSt; dsimp only [spl, List.set] at hSt) | (refine WL_box rfl rfl rfl hSt ?_; clear hSt; intro w nb hnb hSt; dsimp only [zcells, List.nil_append, List.cons_append] at hSt) | (refine WL_alloc hT rfl rfl rfl hSt ?_; clear hSt; intro w nb hnb hSt; dsimp only [zcells, List.nil_append, List.cons_append] at hSt) | (refine WL_guardP rfl rfl (fun hc => ?_) (fun hc => ?_) <;> try (exfalso; first | omega | contradiction | exact hc rfl)) | (refine WL_guard rfl rfl (fun hc => ?_) (fun hc => ?_) <;> (try (exfalso; first | omega | contradiction | exact of_dec hc rfl | (simp at hc; done))) <;> (fail_if_success (change true = true at hc)) <;> (fail_if_success (change false = false at hc))) | refine ret0' rfl ?_ | (refine W_if rfl (fun hc => ?_) (fun hc => ?_) <;> try (exfalso; first | omega | contradiction | exact hc rfl)) | (refine W_cond rfl (fun hc => ?_) (fun hc => ?_) <;> try (exfalso; first | omega | contradiction | (simp at hc; done))))
    all_goals first | (exfalso; first | omega | contradiction) | exact ret2 rfl rfl rfl ⟨_, [], rfl, ⟨_, _, rfl⟩, fun w _ _ => hnilL w, hSt.nil⟩
  have h24 := (check_parts h0).1
  have hgood : ∀ (i : Nat) (x : Ln), l[i]? = some x → goodC x.cond = true ∧ (∀ s ∈ x.sets, s.2.length ≤ 100000) ∧ x.after.length ≤ 24 := fun i x hx => by
    obtain ⟨_, _, _, hc, hl⟩ := entry_parts hx ((check_parts h0).2.1 i (List.getElem?_eq_some_iff.1 hx).1)
    refine ⟨(condF_zero _).1 hc, fun s hs => ?_, Nat.le_trans (after_todo h0 (List.mem_of_getElem? hx)).len h24⟩
    obtain ⟨j, hj⟩ := List.getElem?_of_mem hs
    have := plainF_size (sets_parts (lists_parts hl).1 hj).2.1
    omega
  refine enter Try.func21 rfl Try.ntmps21 rfl ?_
  repeat' (first | (refine WL_isCall (f := 29) ?_; refine WL_call (ok_call hT rfl) rfl rfl rfl (rcheck_any (hL.kept hSt.keeps) hlv) ?_; rintro v w' ⟨rfl, hc2⟩; replace hSt := (hSt.call0 hc2); clear hc2) | refine W_seq ?_ | refine W_block ?_ | refine W_region ?_ | refine WL_nil ?_ | refine W_true rfl ?_ | refine W_false rfl ?_ | refine W_skip ?_ | refine W_exit ?_ | refine W_ret ?_ | refine W_goto ?_ | refine W_label ?_ | refine At_calm ?_ | refine At_then_normal ?_ | refine At_then ?_ | refine At_then_ret ?_ | refine At_in_normal ?_ | refine At_in_ret ?_ | refine At_in_hit ?_ | refine At_in_miss rfl ?_ | refine At_jump_normal ?_ | refine At_jump_ret ?_ | refine At_jump_exit ?_ | refine At_then_goto ?_ | refine At_in_goto ?_ | (apply WL_ev rfl rfl; (first | exact Ev_move rfl | exact Ev_assign rfl | exact Ev_nilCheck rfl | exact Ev_fieldAddr hT rfl rfl | exact Ev_load1 hT rfl rfl (hSt.at 0 rfl) rfl | exact Ev_load1 hT rfl rfl (hSt.at 1 rfl) rfl | exact Ev_loadN hT rfl rfl (hSt.at 0 rfl) rfl rfl | exact Ev_loadN hT rfl rfl (hSt.at 1 rfl) rfl rfl | exact Ev_pickT rfl rfl | exact Ev_pickF rfl rfl | exact Ev_eql rfl rfl | exact Ev_neq rfl rfl | exact Ev_lss rfl rfl | exact Ev_leq rfl rfl | exact Ev_gtr rfl rfl | exact Ev_geq rfl rfl | exact Ev_add rfl rfl (by omega) | exact Ev_sub rfl rfl (by omega) | exact Ev_len_str rfl hT rfl | exact Ev_len_slice hT rfl rfl | exact Ev_extract rfl rfl | exact Ev_notP rfl | exact Ev_not rfl | exact Ev_str_eql rfl rfl | exact Ev_str_neq rfl rfl | exact Ev_max rfl rfl | exact Ev_str_slice hT rfl rfl rfl rfl (by omega) (by omega) (by omega) | exact Ev_build hT rfl rfl rfl rfl rfl (ok_stc hT rfl) | exact Ev_beql rfl rfl (ok_boo hT rfl) | exact Ev_bneq rfl rfl (ok_boo hT rfl) | exact Ev_indexAddr hT rfl rfl rfl (by omega) (by omega) | exact Ev_slice_nil_eql hT rfl rfl rfl | exact Ev_slice_nil_neq hT rfl rfl rfl)) | refine WL_pass rfl rfl ?_ | refine WL_pass0 rfl ?_ | (refine WL_store1 hT rfl rfl 0 rfl rfl hSt rfl rfl rfl ?_; clear hSt; intro w hSt; dsimp only [List.set] at hSt) | (refine WL_store1 hT rfl rfl 1 rfl rfl hSt rfl rfl rfl ?_; clear hSt; intro w hSt; dsimp only [List.set] at hSt) | (refine WL_storeN hT rfl rfl 0 rfl rfl hSt rfl rfl rfl rfl ?_; clear hSt; intro w hSt; dsimp only [spl, List.set] at hSt) | (refine WL_storeN hT rfl rfl 1 rfl rfl hSt rfl rfl rfl rfl ?_; clear hSt; intro w hSt; dsimp only [spl, List.set] at hSt) | (refine WL_box rfl rfl rfl hSt ?_; clear hSt; intro w nb hnb hSt; dsimp only [zcells, List.nil_append, List.cons_append] at hSt) | (refine WL_alloc hT rfl rfl rfl hSt ?_; clear hSt; intro w nb hnb hSt; dsimp only [zcells, List.nil_append, List.cons_append] at hSt) | (refine WL_guardP rfl rfl (fun hc => ?_) (fun hc => ?_) <;> try (exfalso; first | omega | contradiction | exact hc rfl)) | (refine WL_guard rfl rfl (fun hc => ?_) (fun hc => ?_) <;> (try (exfalso; first | omega | contradiction | exact of_dec hc rfl | (simp at hc; done))) <;> (fail_if_success (change true = true at hc)) <;> (fail_if_success (change false = false at hc))) | refine ret0' rfl ?_ | (refine W_if rfl (fun hc => ?_) (fun hc => ?_) <;> try (exfalso; first | omega | contradiction | exact hc rfl)) | (refine W_cond rfl (fun hc => ?_) (fun hc => ?_) <;> try (exfalso; first | omega | contradiction | (simp at hc; done))))
  all_goals try (exfalso; first | omega | contradiction)
  refine W_loop2 (fun k (i : Nat) (nv : Value) w => k = l.length - i ∧ i ≤ l.length ∧ ∃ (ys : List Q8) (H1 : List (Nat × Obj)), ys.length = (chosenF (l.take i) g).length ∧ OwnSl nv 43 8 (ys.flatMap (·.1)) (chosenF (l.take i) g).length H1 ∧
      (∀ (j : Nat) (x : Ln) (y : Q8), (chosenF (l.take i) g)[j]? = some x → ys[j]? = some y → LnAt w0 y.1 x) ∧ St w0 NoneS H1 w) (fun i nv => [(8, I (i : Int)), (7, nv)]) l.length 0 (.slice none 0 0) rfl (by (repeat (first | exact Str.nil _ | apply Str.drop rfl | apply Str.keepU rfl | apply Str.keep rfl)))
    ⟨rfl, by omega, [], [], rfl, OwnSl.nil _ _, fun j x y hx => by simp [chosenF] at hx, hSt⟩ (by (repeat (first | exact Sub.nil _ | refine Sub.cons rfl ?_))) ?_
  clear hSt
  rintro k i nv w ⟨hk, hi, ys, H1, hys, ho, hat, hSt⟩ K hK
  have hcl : (chosenF (l.take i) g).length ≤ 24 := by
    unfold chosenF
    have := List.length_filter_le (fun x : Ln => holdC g x.cond) (l.take i)
    rw [List.length_take] at this
    omega
  obtain ⟨oa, oc, rfl⟩ := ho.len
  by_cases hil : i < l.length
  · obtain ⟨e, he⟩ : ∃ e, l[i]? = some e := ⟨_, List.getElem?_eq_getElem hil⟩
    obtain ⟨x, b1, o1, c1, E1, z1, hx, hle, rfl, hb1, q, hq8⟩ := hc1 i e he
    have hlx := hle
    obtain ⟨u1, ua, us, rfl, hcnd, hsa, hss, _⟩ := hle
    obtain ⟨u1a, u1n, u1c, rfl⟩ := cond_slice hcnd
    obtain ⟨a2, p2, rfl, _⟩ := hsa.map
    obtain ⟨a3, p3, rfl, _⟩ := hss.map
    have hcs := chosen_snoc (g := g) he
    have q24 := part_at (a := 2) (k := 4) (y := [I e.cond.op, S e.cond.name, S e.cond.text, .slice u1a u1n u1c]) q rfl (by omega)
    have hho : ∀ {w1 : World}, St w0 NoneS [] w1 → Cl Try.prog 11 [.agg ⟨[I e.cond.op, S e.cond.name, S e.cond.text, .slice u1a u1n u1c]⟩, .slice ag g.length pg] w1 (fun v w' => v = B (holdC g e.cond) ∧ St w1 NoneS [] w') := fun k => by
      have := rHolds_any (hcnd.kept k.keeps) (hg.kept k.keeps) hgl (hlv e (List.mem_of_getElem? he))
      rw [(hgood i e he).1, Bool.true_and] at this
      exact this
    repeat' (first | (apply WL_ev rfl rfl; exact Ev_loadN hT rfl rfl (hSt.base hb1 (fun e => e)) q24 rfl) | (apply WL_ev rfl rfl; exact Ev_loadN hT rfl rfl (hSt.base hb1 (fun e => e)) q rfl) | (refine WL_isCall (f := 11) ?_; refine WL_call (ok_call hT rfl) rfl rfl rfl (hho hSt.nil) ?_; rintro v w' ⟨rfl, hc2⟩; replace hSt := (hSt.call0 hc2); clear hc2) | (refine WL_push1 hT rfl rfl rfl rfl rfl rfl rfl rfl rfl rfl rfl rfl (fun _ => rfl) rfl (H0 := []) hSt ho (by omega) (by omega) ?_; clear hSt ho; intro v' w H2 u ho hSt) | refine W_seq ?_ | refine W_block ?_ | refine W_region ?_ | refine WL_nil ?_ | refine W_true rfl ?_ | refine W_false rfl ?_ | refine W_skip ?_ | refine W_exit ?_ | refine W_ret ?_ | refine W_goto ?_ | refine W_label ?_ | refine At_calm ?_ | refine At_then_normal ?_ | refine At_then ?_ | refine At_then_ret ?_ | refine At_in_normal ?_ | refine At_in_ret ?_ | refine At_in_hit ?_ | refine At_in_miss rfl ?_ | refine At_jump_normal ?_ | refine At_jump_ret ?_ | refine At_jump_exit ?_ | refine At_then_goto ?_ | refine At_in_goto ?_ | (apply WL_ev rfl rfl; (first | exact Ev_move rfl | exact Ev_assign rfl | exact Ev_nilCheck rfl | exact Ev_fieldAddr hT rfl rfl | exact Ev_load1 hT rfl rfl (hSt.at 0 rfl) rfl | exact Ev_load1 hT rfl rfl (hSt.at 1 rfl) rfl | exact Ev_loadN hT rfl rfl (hSt.at 0 rfl) rfl rfl | exact Ev_loadN hT rfl rfl (hSt.at 1 rfl) rfl rfl | exact Ev_pickT rfl rfl | exact Ev_pickF rfl rfl | exact Ev_eql rfl rfl | exact Ev_neq rfl rfl | exact Ev_lss rfl rfl | exact Ev_leq rfl rfl | exact Ev_gtr rfl rfl | exact Ev_geq rfl rfl | exact Ev_add rfl rfl (by omega) | exact Ev_sub rfl rfl (by omega) | exact Ev_len_str rfl hT rfl | exact Ev_len_slice hT rfl rfl | exact Ev_extract rfl rfl | exact Ev_notP rfl | exact Ev_not rfl | exact Ev_str_eql rfl rfl | exact Ev_str_neq rfl rfl | exact Ev_max rfl rfl | exact Ev_str_slice hT rfl rfl rfl rfl (by omega) (by omega) (by omega) | exact Ev_build hT rfl rfl rfl rfl rfl (ok_stc hT rfl) | exact Ev_beql rfl rfl (ok_boo hT rfl) | exact Ev_bneq rfl rfl (ok_boo hT rfl) | exact Ev_indexAddr hT rfl rfl rfl (by omega) (by omega) | exact Ev_slice_nil_eql hT rfl rfl rfl | exact Ev_slice_nil_neq hT rfl rfl rfl)) | refine WL_pass rfl rfl ?_ | refine WL_pass0 rfl ?_ | (refine WL_store1 hT rfl rfl 0 rfl rfl hSt rfl rfl rfl ?_; clear hSt; intro w hSt; dsimp only [List.set] at hSt) | (refine WL_store1 hT rfl rfl 1 rfl rfl hSt rfl rfl rfl ?_; clear hSt; intro w hSt; dsimp only [List.set] at hSt) | (refine WL_storeN hT rfl rfl 0 rfl rfl hSt rfl rfl rfl rfl ?_; clear hSt; intro w hSt; dsimp only [spl, List.set] at hSt) | (refine WL_storeN hT rfl rfl 1 rfl rfl hSt rfl rfl rfl rfl ?_; clear hSt; intro w hSt; dsimp only [spl, List.set] at hSt) | (refine WL_box rfl rfl rfl hSt ?_; clear hSt; intro w nb hnb hSt; dsimp only [zcells, List.nil_append, List.cons_append] at hSt) | (refine WL_alloc hT rfl rfl rfl hSt ?_; clear hSt; intro w nb hnb hSt; dsimp only [zcells, List.nil_append, List.cons_append] at hSt) | (refine WL_guardP rfl rfl (fun hc => ?_) (fun hc => ?_) <;> try (exfalso; first | omega | contradiction | exact hc rfl)) | (refine WL_guard rfl rfl (fun hc => ?_) (fun hc => ?_) <;> (try (exfalso; first | omega | contradiction | exact of_dec hc rfl | (simp at hc; done))) <;> (fail_if_success (change true = true at hc)) <;> (fail_if_success (change false = false at hc))) | refine ret0' rfl ?_ | (refine W_if rfl (fun hc => ?_) (fun hc => ?_) <;> try (exfalso; first | omega | contradiction | exact hc rfl)) | (refine W_cond rfl (fun hc => ?_) (fun hc => ?_) <;> try (exfalso; first | omega | contradiction | (simp at hc; done))))
    · have hh : holdC g e.cond = true := by assumption
      rw [if_pos hh] at hcs
      refine At_loop2 hK (k' := l.length - (i + 1)) (i + 1) _ (by omega) ⟨rfl, by omega, ys ++ [⟨[S e.node, S e.prog, I e.cond.op, S e.cond.name, S e.cond.text, .slice u1a u1n u1c, .slice a2 e.after.length p2, .slice a3 e.sets.length p3], rfl⟩], H2, by rw [hcs]; simp [hys], ?_, ?_, hSt⟩ (by (repeat (first | exact Sub.nil _ | refine Sub.cons rfl ?_)))
      · rw [hcs, List.flatMap_append, List.length_append]; exact ho
      · rw [hcs]
        intro j x y hx hy
        rw [List.getElem?_append] at hx hy
        rw [hys] at hy
        split at hx
        · rename_i hj; rw [if_pos hj] at hy; exact hat j x y hx hy
        · rename_i hj; rw [if_neg hj] at hy
          rcases Nat.lt_or_ge (j - (chosenF (l.take i) g).length) 1 with h1 | h1
          · have : j - (chosenF (l.take i) g).length = 0 := by omega
            rw [this] at hx hy
            injection hx with hx; injection hy with hy; subst hx; subst hy; exact hlx
          · rw [List.getElem?_eq_none (by simpa using h1)] at hx; cases hx
    · have hh : ¬ holdC g e.cond = true := Bool.eq_false_iff.1 (by assumption)
      rw [if_neg hh] at hcs
      refine At_loop2 hK (k' := l.length - (i + 1)) (i + 1) _ (by omega) ⟨rfl, by omega, ys, H1, by rw [hcs]; exact hys, by rw [hcs]; exact ho, by rw [hcs]; exact hat, hSt⟩ (by (repeat (first | exact Sub.nil _ | refine Sub.cons rfl ?_)))
  · have htk : l.take i = l := List.take_of_length_le (by omega)
    rw [htk] at hys ho hat hcl
    obtain ⟨ch, hch⟩ : ∃ ch, ch = chosenF l g := ⟨_, rfl⟩
    rw [← hch] at hys ho hat hcl
    have hpre : ∀ (j : Nat) (x : Ln), ch[j]? = some x → x ∈ l := fun j x hx => by
      have := List.mem_of_getElem? hx
      rw [hch] at this
      exact (List.mem_filter.1 this).1
    rw [htk, ← hch]
    repeat' (first | refine W_seq ?_ | refine W_block ?_ | refine W_region ?_ | refine WL_nil ?_ | refine W_true rfl ?_ | refine W_false rfl ?_ | refine W_skip ?_ | refine W_exit ?_ | refine W_ret ?_ | refine W_goto ?_ | refine W_label ?_ | refine At_calm ?_ | refine At_then_normal ?_ | refine At_then ?_ | refine At_then_ret ?_ | refine At_in_normal ?_ | refine At_in_ret ?_ | refine At_in_hit ?_ | refine At_in_miss rfl ?_ | refine At_jump_normal ?_ | refine At_jump_ret ?_ | refine At_jump_exit ?_ | refine At_then_goto ?_ | refine At_in_goto ?_ | (apply WL_ev rfl rfl; (first | exact Ev_move rfl | exact Ev_assign rfl | exact Ev_nilCheck rfl | exact Ev_fieldAddr hT rfl rfl | exact Ev_load1 hT rfl rfl (hSt.at 0 rfl) rfl | exact Ev_load1 hT rfl rfl (hSt.at 1 rfl) rfl | exact Ev_loadN hT rfl rfl (hSt.at 0 rfl) rfl rfl | exact Ev_loadN hT rfl rfl (hSt.at 1 rfl) rfl rfl | exact Ev_pickT rfl rfl | exact Ev_pickF rfl rfl | exact Ev_eql rfl rfl | exact Ev_neq rfl rfl | exact Ev_lss rfl rfl | exact Ev_leq rfl rfl | exact Ev_gtr rfl rfl | exact Ev_geq rfl rfl | exact Ev_add rfl rfl (by omega) | exact Ev_sub rfl rfl (by omega) | exact Ev_len_str rfl hT rfl | exact Ev_len_slice hT rfl rfl | exact Ev_extract rfl rfl | exact Ev_notP rfl | exact Ev_not rfl | exact Ev_str_eql rfl rfl | exact Ev_str_neq rfl rfl | exact Ev_max rfl rfl | exact Ev_str_slice hT rfl rfl rfl rfl (by omega) (by omega) (by omega) | exact Ev_build hT rfl rfl rfl rfl rfl (ok_stc hT rfl) | exact Ev_beql rfl rfl (ok_boo hT rfl) | exact Ev_bneq rfl rfl (ok_boo hT rfl) | exact Ev_indexAddr hT rfl rfl rfl (by omega) (by omega) | exact Ev_slice_nil_eql hT rfl rfl rfl | exact Ev_slice_nil_neq hT rfl rfl rfl)) | refine WL_pass rfl rfl ?_ | refine WL_pass0 rfl ?_ | (refine WL_store1 hT rfl rfl 0 rfl rfl hSt rfl rfl rfl ?_; clear hSt; intro w hSt; dsimp only [List.set] at hSt) | (refine WL_store1 hT rfl rfl 1 rfl rfl hSt rfl rfl rfl ?_; clear hSt; intro w hSt; dsimp only [List.set] at hSt) | (refine WL_storeN hT rfl rfl 0 rfl rfl hSt rfl rfl rfl rfl ?_; clear hSt; intro w hSt; dsimp only [spl, List.set] at hSt) | (refine WL_storeN hT rfl rfl 1 rfl rfl hSt rfl rfl rfl rfl ?_; clear hSt; intro w hSt; dsimp only [spl, List.set] at hSt) | (refine WL_box rfl rfl rfl hSt ?_; clear hSt; intro w nb hnb hSt; dsimp only [zcells, List.nil_append, List.cons_append] at hSt) | (refine WL_alloc hT rfl rfl rfl hSt ?_; clear hSt; intro w nb hnb hSt; dsimp only [zcells, List.nil_append, List.cons_append] at hSt) | (refine WL_guardP rfl rfl (fun hc => ?_) (fun hc => ?_) <;> try (exfalso; first | omega | contradiction | exact hc rfl)) | (refine WL_guard rfl rfl (fun hc => ?_) (fun hc => ?_) <;> (try (exfalso; first | omega | contradiction | exact of_dec hc rfl | (simp at hc; done))) <;> (fail_if_success (change true = true at hc)) <;> (fail_if_success (change false = false at hc))) | refine ret0' rfl ?_ | (refine W_if rfl (fun hc => ?_) (fun hc => ?_) <;> try (exfalso; first | omega | contradiction | exact hc rfl)) | (refine W_cond rfl (fun hc => ?_) (fun hc => ?_) <;> try (exfalso; first | omega | contradiction | (simp at hc; done))))
    replace hSt : St w0 NoneS (H1 ++ []) w := by rw [List.append_nil]; exact hSt
    refine W_loop1 (fun k (i : Nat) w => k = ch.length - i ∧ i ≤ ch.length ∧ (∀ j, j < i → selE ch g j = 0) ∧ ∃ (zs : List Q8) (HB HD : List (Nat × Obj)), zs.length = ch.length ∧ OwnSl (.slice oa ch.length oc) 43 8 (zs.flatMap (·.1)) ch.length HB ∧
        (∀ (j : Nat) (x : Ln) (z : Q8), i ≤ j → ch[j]? = some x → zs[j]? = some z → LnAt w0 z.1 x) ∧ (∀ w, Keeps w0 w → Has w HD → ∀ (j : Nat) (x : Ln) (z : Q8), j < i → ch[j]? = some x → zs[j]? = some z → LnAt w z.1 (selX g x)) ∧ St w0 NoneS (HB ++ HD) w) (fun i => [(9, I (i : Int))]) ch.length 0 rfl (by (repeat (first | exact Str.nil _ | apply Str.drop rfl | apply Str.keepU rfl | apply Str.keep rfl)))
      ⟨rfl, by omega, by intro j hj; omega, ys, H1, [], hys, ho, fun j x z _ => hat j x z, fun w _ _ j x z hj => by omega, hSt⟩ (by (repeat (first | exact Sub.nil _ | refine Sub.cons rfl ?_))) ?_
    clear hSt
    rintro k2 i2 w ⟨hk2, hi2, hno, zs, HB, HD, hzs, hoz, hold, hnew, hSt⟩ K2 hK2
    have hmix : ∀ w, Keeps w0 w → Has w (HB ++ HD) → Lns w (.slice oa ch.length oc) (mixF g ch i2) := fun w kk hh => lns_own (P := fun _ => True) hoz hzs mix_len (by omega) (hh.sublist (List.sublist_append_left _ _)) (fun j x z hx hz => by
      rw [mix_at] at hx
      cases hxx : ch[j]? with
      | none => rw [hxx] at hx; cases hx
      | some x0 =>
        rw [hxx] at hx
        injection hx with hx
        subst hx
        split
        · rename_i hji; exact hnew w kk (hh.sublist (List.sublist_append_right _ _)) j x0 z hji hxx hz
        · rename_i hji; exact (hold j x0 z (by omega) hxx hz).kept kk)
    by_cases hil2 : i2 < ch.length
    · obtain ⟨x, hx⟩ : ∃ x, ch[i2]? = some x := ⟨_, List.getElem?_eq_getElem hil2⟩
      obtain ⟨z, hz⟩ : ∃ z, zs[i2]? = some z := ⟨_, List.getElem?_eq_getElem (by omega)⟩
      obtain ⟨ob, ocap, rs, e9, hcap9, hrs, rfl⟩ := hoz.some_ (by omega)
      injection e9 with e91 _ e93
      subst e91; subst e93
      dsimp only [List.cons_append, List.nil_append] at hSt hmix
      have hle := hold i2 x z (Nat.le_refl _) hx hz
      obtain ⟨j0, hj0⟩ := List.getElem?_of_mem (hpre i2 x hx)
      obtain ⟨hgc, hst, hafl⟩ := hgood j0 x hj0
      have hstl := hsl x (hpre i2 x hx)
      have hse := selE_at (g := g) hx
      obtain ⟨u1, ua, us, hyv, hcnd, hsa, hss, hca, hcs9, hla, hls, hlt9⟩ := hle
      obtain ⟨a2, p2, rfl, hc2s⟩ := hsa.map
      obtain ⟨a3, p3, rfl, hc3s⟩ := hss.map
      have q : ((zs.flatMap (·.1) ++ rs).drop (0 + (i2 : Int).toNat * 8)).take 8 = z.1 := by
        rw [Int.toNat_natCast, Nat.zero_add]; exact flat_take (f := fun y : Q8 => y.1) (fun a => a.2) hz rs
      rw [hyv] at q
      have q6 := SlAt.cell q (j := 6) rfl
      have q7 := SlAt.cell q (j := 7) rfl
      have hfirst : ∀ e, selE ch g i2 = e → e ≠ 0 → selectF l g = ([], e) := fun e he h1 => by subst hch; exact select_hit h0 hil2 hno he h1
      repeat' (first | refine W_seq ?_ | refine W_block ?_ | refine W_region ?_ | refine WL_nil ?_ | refine W_true rfl ?_ | refine W_false rfl ?_ | refine W_skip ?_ | refine W_exit ?_ | refine W_ret ?_ | refine W_goto ?_ | refine W_label ?_ | refine At_calm ?_ | refine At_then_normal ?_ | refine At_then ?_ | refine At_then_ret ?_ | refine At_in_normal ?_ | refine At_in_ret ?_ | refine At_in_hit ?_ | refine At_in_miss rfl ?_ | refine At_jump_normal ?_ | refine At_jump_ret ?_ | refine At_jump_exit ?_ | refine At_then_goto ?_ | refine At_in_goto ?_ | (apply WL_ev rfl rfl; (first | exact Ev_move rfl | exact Ev_assign rfl | exact Ev_nilCheck rfl | exact Ev_fieldAddr hT rfl rfl | exact Ev_load1 hT rfl rfl (hSt.at 0 rfl) rfl | exact Ev_load1 hT rfl rfl (hSt.at 1 rfl) rfl | exact Ev_loadN hT rfl rfl (hSt.at 0 rfl) rfl rfl | exact Ev_loadN hT rfl rfl (hSt.at 1 rfl) rfl rfl | exact Ev_pickT rfl rfl | exact Ev_pickF rfl rfl | exact Ev_eql rfl rfl | exact Ev_neq rfl rfl | exact Ev_lss rfl rfl | exact Ev_leq rfl rfl | exact Ev_gtr rfl rfl | exact Ev_geq rfl rfl | exact Ev_add rfl rfl (by omega) | exact Ev_sub rfl rfl (by omega) | exact Ev_len_str rfl hT rfl | exact Ev_len_slice hT rfl rfl | exact Ev_extract rfl rfl | exact Ev_notP rfl | exact Ev_not rfl | exact Ev_str_eql rfl rfl | exact Ev_str_neq rfl rfl | exact Ev_max rfl rfl | exact Ev_str_slice hT rfl rfl rfl rfl (by omega) (by omega) (by omega) | exact Ev_build hT rfl rfl rfl rfl rfl (ok_stc hT rfl) | exact Ev_beql rfl rfl (ok_boo hT rfl) | exact Ev_bneq rfl rfl (ok_boo hT rfl) | exact Ev_indexAddr hT rfl rfl rfl (by omega) (by omega) | exact Ev_slice_nil_eql hT rfl rfl rfl | exact Ev_slice_nil_neq hT rfl rfl rfl)) | refine WL_pass rfl rfl ?_ | refine WL_pass0 rfl ?_ | (refine WL_store1 hT rfl rfl 0 rfl rfl hSt rfl rfl rfl ?_; clear hSt; intro w hSt; dsimp only [List.set] at hSt) | (refine WL_store1 hT rfl rfl 1 rfl rfl hSt rfl rfl rfl ?_; clear hSt; intro w hSt; dsimp only [List.set] at hSt) | (refine WL_storeN hT rfl rfl 0 rfl rfl hSt rfl rfl rfl rfl ?_; clear hSt; intro w hSt; dsimp only [spl, List.set] at hSt) | (refine WL_storeN hT rfl rfl 1 rfl rfl hSt rfl rfl rfl rfl ?_; clear hSt; intro w hSt; dsimp only [spl, List.set] at hSt) | (refine WL_box rfl rfl rfl hSt ?_; clear hSt; intro w nb hnb hSt; dsimp only [zcells, List.nil_append, List.cons_append] at hSt) | (refine WL_alloc hT rfl rfl rfl hSt ?_; clear hSt; intro w nb hnb hSt; dsimp only [zcells, List.nil_append, List.cons_append] at hSt) | (refine WL_guardP rfl rfl (fun hc => ?_) (fun hc => ?_) <;> try (exfalso; first | omega | contradiction | exact hc rfl)) | (refine WL_guard rfl rfl (fun hc => ?_) (fun hc => ?_) <;> (try (exfalso; first | omega | contradiction | exact of_dec hc rfl | (simp at hc; done))) <;> (fail_if_success (change true = true at hc)) <;> (fail_if_success (change false = false at hc))) | refine ret0' rfl ?_ | (refine W_if rfl (fun hc => ?_) (fun hc => ?_) <;> try (exfalso; first | omega | contradiction | exact hc rfl)) | (refine W_cond rfl (fun hc => ?_) (fun hc => ?_) <;> try (exfalso; first | omega | contradiction | (simp at hc; done))))
      refine W_loop1 (fun k3 (j : Nat) w => k3 = x.after.length - j ∧ j ≤ x.after.length ∧ (∀ (j' : Nat) (n : Tx), j' < j → x.after[j']? = some n → decide (idxF ch n < 0) = false) ∧ St w0 NoneS ((ob, blk (zs.flatMap (·.1) ++ rs) 43) :: HD) w) (fun j => [(10, I (j : Int))]) x.after.length 0 rfl (by (repeat (first | exact Str.nil _ | apply Str.drop rfl | apply Str.keepU rfl | apply Str.keep rfl)))
        ⟨rfl, by omega, fun j' n hj => by omega, hSt⟩ (by (repeat (first | exact Sub.nil _ | refine Sub.cons rfl ?_))) ?_
      clear hSt
      rintro k3 j w ⟨hk3, hj, hnoa, hSt⟩ K3 hK3
      by_cases hjl : j < x.after.length
      · obtain ⟨n, hn⟩ : ∃ n, x.after[j]? = some n := ⟨_, List.getElem?_eq_getElem hjl⟩
        obtain ⟨b5, o5, c5, E5, z5, rfl, hb5, _, q5⟩ := hc2s j n hn
        replace q5 := q5 0 _ rfl
        rw [← Int.toNat_natCast j] at q5
        have hmi := mix_idx (g := g) (ch := ch) (i := i2) (n := n)
        repeat' (first | (apply WL_ev rfl rfl; exact Ev_load1 hT rfl rfl (hSt.own 0 _ _ rfl).1 q6) | (apply WL_ev rfl rfl; exact Ev_load1 hT rfl rfl (hSt.base hb5 (fun e => e)) q5) | (refine WL_isCall (f := 48) ?_; refine WL_call (ok_call hT rfl) rfl rfl rfl (rindex_any n (hmix _ hSt.keeps hSt.has)) ?_; rintro v w' ⟨rfl, hc2⟩; replace hSt := (hSt.call0 hc2); clear hc2) | refine W_seq ?_ | refine W_block ?_ | refine W_region ?_ | refine WL_nil ?_ | refine W_true rfl ?_ | refine W_false rfl ?_ | refine W_skip ?_ | refine W_exit ?_ | refine W_ret ?_ | refine W_goto ?_ | refine W_label ?_ | refine At_calm ?_ | refine At_then_normal ?_ | refine At_then ?_ | refine At_then_ret ?_ | refine At_in_normal ?_ | refine At_in_ret ?_ | refine At_in_hit ?_ | refine At_in_miss rfl ?_ | refine At_jump_normal ?_ | refine At_jump_ret ?_ | refine At_jump_exit ?_ | refine At_then_goto ?_ | refine At_in_goto ?_ | (apply WL_ev rfl rfl; (first | exact Ev_move rfl | exact Ev_assign rfl | exact Ev_nilCheck rfl | exact Ev_fieldAddr hT rfl rfl | exact Ev_load1 hT rfl rfl (hSt.at 0 rfl) rfl | exact Ev_load1 hT rfl rfl (hSt.at 1 rfl) rfl | exact Ev_loadN hT rfl rfl (hSt.at 0 rfl) rfl rfl | exact Ev_loadN hT rfl rfl (hSt.at 1 rfl) rfl rfl | exact Ev_pickT rfl rfl | exact Ev_pickF rfl rfl | exact Ev_eql rfl rfl | exact Ev_neq rfl rfl | exact Ev_lss rfl rfl | exact Ev_leq rfl rfl | exact Ev_gtr rfl rfl | exact Ev_geq rfl rfl | exact Ev_add rfl rfl (by omega) | exact Ev_sub rfl rfl (by omega) | exact Ev_len_str rfl hT rfl | exact Ev_len_slice hT rfl rfl | exact Ev_extract rfl rfl | exact Ev_notP rfl | exact Ev_not rfl | exact Ev_str_eql rfl rfl | exact Ev_str_neq rfl rfl | exact Ev_max rfl rfl | exact Ev_str_slice hT rfl rfl rfl rfl (by omega) (by omega) (by omega) | exact Ev_build hT rfl rfl rfl rfl rfl (ok_stc hT rfl) | exact Ev_beql rfl rfl (ok_boo hT rfl) | exact Ev_bneq rfl rfl (ok_boo hT rfl) | exact Ev_indexAddr hT rfl rfl rfl (by omega) (by omega) | exact Ev_slice_nil_eql hT rfl rfl rfl | exact Ev_slice_nil_neq hT rfl rfl rfl)) | refine WL_pass rfl rfl ?_ | refine WL_pass0 rfl ?_ | (refine WL_store1 hT rfl rfl 0 rfl rfl hSt rfl rfl rfl ?_; clear hSt; intro w hSt; dsimp only [List.set] at hSt) | (refine WL_store1 hT rfl rfl 1 rfl rfl hSt rfl rfl rfl ?_; clear hSt; intro w hSt; dsimp only [List.set] at hSt) | (refine WL_storeN hT rfl rfl 0 rfl rfl hSt rfl rfl rfl rfl ?_; clear hSt; intro w hSt; dsimp only [spl, List.set] at hSt) | (refine WL_storeN hT rfl rfl 1 rfl rfl hSt rfl rfl rfl rfl ?_; clear hSt; intro w hSt; dsimp only [spl, List.set] at hSt) | (refine WL_box rfl rfl rfl hSt ?_; clear hSt; intro w nb hnb hSt; dsimp only [zcells, List.nil_append, List.cons_append] at hSt) | (refine WL_alloc hT rfl rfl rfl hSt ?_; clear hSt; intro w nb hnb hSt; dsimp only [zcells, List.nil_append, List.cons_append] at hSt) | (refine WL_guardP rfl rfl (fun hc => ?_) (fun hc => ?_) <;> try (exfalso; first | omega | contradiction | exact hc rfl)) | (refine WL_guard rfl rfl (fun hc => ?_) (fun hc => ?_) <;> (try (exfalso; first | omega | contradiction | exact of_dec hc rfl | (simp at hc; done))) <;> (fail_if_success (change true = true at hc)) <;> (fail_if_success (change false = false at hc))) | refine ret0' rfl ?_ | (refine W_if rfl (fun hc => ?_) (fun hc => ?_) <;> try (exfalso; first | omega | contradiction | exact hc rfl)) | (refine W_cond rfl (fun hc => ?_) (fun hc => ?_) <;> try (exfalso; first | omega | contradiction | (simp at hc; done))))
        · have hany : (x.after.any fun n => decide (idxF ch n < 0)) = true := List.any_eq_true.2 ⟨n, List.mem_of_getElem? hn, decide_eq_true (hmi.1 (by assumption))⟩
          rw [hfirst 6 (by rw [hse, if_pos hany]) (by omega)]
          exact ret2 rfl rfl rfl ⟨_, [], rfl, ⟨_, _, rfl⟩, fun w _ _ => hnilL w, hSt.nil⟩
        · refine At_loop1 hK3 (k' := x.after.length - (j + 1)) (j + 1) (by omega) ⟨rfl, by omega, hno_snoc hnoa hn (decide_eq_false fun h => absurd (hmi.2 h) (by assumption)), hSt⟩ (by (repeat (first | exact Sub.nil _ | refine Sub.cons rfl ?_)))
      · have hany : (x.after.any fun n => decide (idxF ch n < 0)) = false := any_none fun j' n h1 h2 => hnoa j' n (by omega) h2
        rw [hany, if_neg (by simp)] at hse
        repeat' (first | (apply WL_ev rfl rfl; exact Ev_load1 hT rfl rfl (hSt.own 0 _ _ rfl).1 q6) | refine W_seq ?_ | refine W_block ?_ | refine W_region ?_ | refine WL_nil ?_ | refine W_true rfl ?_ | refine W_false rfl ?_ | refine W_skip ?_ | refine W_exit ?_ | refine W_ret ?_ | refine W_goto ?_ | refine W_label ?_ | refine At_calm ?_ | refine At_then_normal ?_ | refine At_then ?_ | refine At_then_ret ?_ | refine At_in_normal ?_ | refine At_in_ret ?_ | refine At_in_hit ?_ | refine At_in_miss rfl ?_ | refine At_jump_normal ?_ | refine At_jump_ret ?_ | refine At_jump_exit ?_ | refine At_then_goto ?_ | refine At_in_goto ?_ | (apply WL_ev rfl rfl; (first | exact Ev_move rfl | exact Ev_assign rfl | exact Ev_nilCheck rfl | exact Ev_fieldAddr hT rfl rfl | exact Ev_load1 hT rfl rfl (hSt.at 0 rfl) rfl | exact Ev_load1 hT rfl rfl (hSt.at 1 rfl) rfl | exact Ev_loadN hT rfl rfl (hSt.at 0 rfl) rfl rfl | exact Ev_loadN hT rfl rfl (hSt.at 1 rfl) rfl rfl | exact Ev_pickT rfl rfl | exact Ev_pickF rfl rfl | exact Ev_eql rfl rfl | exact Ev_neq rfl rfl | exact Ev_lss rfl rfl | exact Ev_leq rfl rfl | exact Ev_gtr rfl rfl | exact Ev_geq rfl rfl | exact Ev_add rfl rfl (by omega) | exact Ev_sub rfl rfl (by omega) | exact Ev_len_str rfl hT rfl | exact Ev_len_slice hT rfl rfl | exact Ev_extract rfl rfl | exact Ev_notP rfl | exact Ev_not rfl | exact Ev_str_eql rfl rfl | exact Ev_str_neq rfl rfl | exact Ev_max rfl rfl | exact Ev_str_slice hT rfl rfl rfl rfl (by omega) (by omega) (by omega) | exact Ev_build hT rfl rfl rfl rfl rfl (ok_stc hT rfl) | exact Ev_beql rfl rfl (ok_boo hT rfl) | exact Ev_bneq rfl rfl (ok_boo hT rfl) | exact Ev_indexAddr hT rfl rfl rfl (by omega) (by omega) | exact Ev_slice_nil_eql hT rfl rfl rfl | exact Ev_slice_nil_neq hT rfl rfl rfl)) | refine WL_pass rfl rfl ?_ | refine WL_pass0 rfl ?_ | (refine WL_store1 hT rfl rfl 0 rfl rfl hSt rfl rfl rfl ?_; clear hSt; intro w hSt; dsimp only [List.set] at hSt) | (refine WL_store1 hT rfl rfl 1 rfl rfl hSt rfl rfl rfl ?_; clear hSt; intro w hSt; dsimp only [List.set] at hSt) | (refine WL_storeN hT rfl rfl 0 rfl rfl hSt rfl rfl rfl rfl ?_; clear hSt; intro w hSt; dsimp only [spl, List.set] at hSt) | (refine WL_storeN hT rfl rfl 1 rfl rfl hSt rfl rfl rfl rfl ?_; clear hSt; intro w hSt; dsimp only [spl, List.set] at hSt) | (refine WL_box rfl rfl rfl hSt ?_; clear hSt; intro w nb hnb hSt; dsimp only [zcells, List.nil_append, List.cons_append] at hSt) | (refine WL_alloc hT rfl rfl rfl hSt ?_; clear hSt; intro w nb hnb hSt; dsimp only [zcells, List.nil_append, List.cons_append] at hSt) | (refine WL_guardP rfl rfl (fun hc => ?_) (fun hc => ?_) <;> try (exfalso; first | omega | contradiction | exact hc rfl)) | (refine WL_guard rfl rfl (fun hc => ?_) (fun hc => ?_) <;> (try (exfalso; first | omega | contradiction | exact of_dec hc rfl | (simp at hc; done))) <;> (fail_if_success (change true = true at hc)) <;> (fail_if_success (change false = false at hc))) | refine ret0' rfl ?_ | (refine W_if rfl (fun hc => ?_) (fun hc => ?_) <;> try (exfalso; first | omega | contradiction | exact hc rfl)) | (refine W_cond rfl (fun hc => ?_) (fun hc => ?_) <;> try (exfalso; first | omega | contradiction | (simp at hc; done))))
        replace hSt : St w0 NoneS (((ob, blk (zs.flatMap (·.1) ++ rs) 43) :: HD) ++ []) w := by rw [List.append_nil]; exact hSt
        refine W_loop2 (fun k4 (j : Nat) (nv : Value) w => k4 = x.sets.length - j ∧ j ≤ x.sets.length ∧ (∀ j', j' < j → errAt g x.sets j' = 0) ∧ ∃ H2, OwnSl nv 59 2 ((setsO g (x.sets.take j)).flatMap sgC) j H2 ∧ St w0 NoneS (((ob, blk (zs.flatMap (·.1) ++ rs) 43) :: HD) ++ H2) w) (fun j nv => [(12, I (j : Int)), (11, nv)]) x.sets.length 0 (.slice none 0 0) rfl (by (repeat (first | exact Str.nil _ | apply Str.drop rfl | apply Str.keepU rfl | apply Str.keep rfl)))
          ⟨rfl, by omega, by intro j' hj; omega, [], OwnSl.nil _ _, hSt⟩ (by (repeat (first | exact Sub.nil _ | refine Sub.cons rfl ?_))) ?_
        clear hSt
        rintro k4 j4 nv w ⟨hk4, hj4, hnos, H2, hos, hSt⟩ K4 hK4
        by_cases hjl4 : j4 < x.sets.length
        · obtain ⟨s, hs4⟩ : ∃ s, x.sets[j4]? = some s := ⟨_, List.getElem?_eq_getElem hjl4⟩
          obtain ⟨b5, o5, c5, E5, z5, rfl, hb5, _, q5⟩ := hc3s j4 s hs4
          have q50 := q5 0 _ rfl
          have q51 := q5 1 _ rfl
          rw [← Int.toNat_natCast j4] at q50 q51
          have hes := errAt_at (g := g) hs4
          have hst4 := hst s (List.mem_of_getElem? hs4)
          have hsn := setsO_snoc (g := g) hs4
          have hln := setsO_len (g := g) (l := x.sets) hj4
          have hln2 := setsO_len (g := g) (l := x.sets) (i := j4 + 1) (by omega)
          have h4k := subF_len g s.2
          have hfirst4 : ∀ e, errAt g x.sets j4 = e → e ≠ 0 → setsE g x.sets = e := fun e he h0 => by unfold setsE; rw [firstE_hit hjl4 (by rw [he]; exact h0) hnos, he]
          unfold errS at hes
          repeat' (first | (apply WL_ev rfl rfl; exact Ev_load1 hT rfl rfl (hSt.own 0 _ _ rfl).1 q7) | (apply WL_ev rfl rfl; exact Ev_load1 hT rfl rfl (hSt.base hb5 (fun e => e)) q50) | (apply WL_ev rfl rfl; exact Ev_load1 hT rfl rfl (hSt.base hb5 (fun e => e)) q51) | (refine WL_isCall (f := 49) ?_; refine WL_call (ok_call hT rfl) rfl rfl rfl (rplain_any _ (by omega)) ?_; rintro v w' ⟨rfl, hc2⟩; replace hSt := hSt.call0 hc2; clear hc2) | (refine WL_isCall (f := 17) ?_; refine WL_call (ok_call hT rfl) rfl rfl rfl (rsubstitute_any s.2 hst4 (hg.kept hSt.nil.keeps) hgl hgt) ?_; rintro v w' ⟨rfl, hc2⟩; replace hSt := (hSt.call0 hc2); clear hc2) | (refine WL_push1 hT rfl rfl rfl rfl rfl rfl rfl rfl rfl rfl rfl rfl (fun _ => rfl) rfl (H0 := _ :: HD) hSt hos (by omega) (by omega) ?_; clear hSt; intro v' w H3 u hos3 hSt) | refine W_seq ?_ | refine W_block ?_ | refine W_region ?_ | refine WL_nil ?_ | refine W_true rfl ?_ | refine W_false rfl ?_ | refine W_skip ?_ | refine W_exit ?_ | refine W_ret ?_ | refine W_goto ?_ | refine W_label ?_ | refine At_calm ?_ | refine At_then_normal ?_ | refine At_then ?_ | refine At_then_ret ?_ | refine At_in_normal ?_ | refine At_in_ret ?_ | refine At_in_hit ?_ | refine At_in_miss rfl ?_ | refine At_jump_normal ?_ | refine At_jump_ret ?_ | refine At_jump_exit ?_ | refine At_then_goto ?_ | refine At_in_goto ?_ | (apply WL_ev rfl rfl; (first | exact Ev_move rfl | exact Ev_assign rfl | exact Ev_nilCheck rfl | exact Ev_fieldAddr hT rfl rfl | exact Ev_load1 hT rfl rfl (hSt.at 0 rfl) rfl | exact Ev_load1 hT rfl rfl (hSt.at 1 rfl) rfl | exact Ev_loadN hT rfl rfl (hSt.at 0 rfl) rfl rfl | exact Ev_loadN hT rfl rfl (hSt.at 1 rfl) rfl rfl | exact Ev_pickT rfl rfl | exact Ev_pickF rfl rfl | exact Ev_eql rfl rfl | exact Ev_neq rfl rfl | exact Ev_lss rfl rfl | exact Ev_leq rfl rfl | exact Ev_gtr rfl rfl | exact Ev_geq rfl rfl | exact Ev_add rfl rfl (by omega) | exact Ev_sub rfl rfl (by omega) | exact Ev_len_str rfl hT rfl | exact Ev_len_slice hT rfl rfl | exact Ev_extract rfl rfl | exact Ev_notP rfl | exact Ev_not rfl | exact Ev_str_eql rfl rfl | exact Ev_str_neq rfl rfl | exact Ev_max rfl rfl | exact Ev_str_slice hT rfl rfl rfl rfl (by omega) (by omega) (by omega) | exact Ev_build hT rfl rfl rfl rfl rfl (ok_stc hT rfl) | exact Ev_beql rfl rfl (ok_boo hT rfl) | exact Ev_bneq rfl rfl (ok_boo hT rfl) | exact Ev_indexAddr hT rfl rfl rfl (by omega) (by omega) | exact Ev_slice_nil_eql hT rfl rfl rfl | exact Ev_slice_nil_neq hT rfl rfl rfl)) | refine WL_pass rfl rfl ?_ | refine WL_pass0 rfl ?_ | (refine WL_store1 hT rfl rfl 0 rfl rfl hSt rfl rfl rfl ?_; clear hSt; intro w hSt; dsimp only [List.set] at hSt) | (refine WL_store1 hT rfl rfl 1 rfl rfl hSt rfl rfl rfl ?_; clear hSt; intro w hSt; dsimp only [List.set] at hSt) | (refine WL_storeN hT rfl rfl 0 rfl rfl hSt rfl rfl rfl rfl ?_; clear hSt; intro w hSt; dsimp only [spl, List.set] at hSt) | (refine WL_storeN hT rfl rfl 1 rfl rfl hSt rfl rfl rfl rfl ?_; clear hSt; intro w hSt; dsimp only [spl, List.set] at hSt) | (refine WL_box rfl rfl rfl hSt ?_; clear hSt; intro w nb hnb hSt; dsimp only [zcells, List.nil_append, List.cons_append] at hSt) | (refine WL_alloc hT rfl rfl rfl hSt ?_; clear hSt; intro w nb hnb hSt; dsimp only [zcells, List.nil_append, List.cons_append] at hSt) | (refine WL_guardP rfl rfl (fun hc => ?_) (fun hc => ?_) <;> try (exfalso; first | omega | contradiction | exact hc rfl)) | (refine WL_guard rfl rfl (fun hc => ?_) (fun hc => ?_) <;> (try (exfalso; first | omega | contradiction | exact of_dec hc rfl | (simp at hc; done))) <;> (fail_if_success (change true = true at hc)) <;> (fail_if_success (change false = false at hc))) | refine ret0' rfl ?_ | (refine W_if rfl (fun hc => ?_) (fun hc => ?_) <;> try (exfalso; first | omega | contradiction | exact hc rfl)) | (refine W_cond rfl (fun hc => ?_) (fun hc => ?_) <;> try (exfalso; first | omega | contradiction | (simp at hc; done))))
          · rw [hfirst (setsE g x.sets) hse (by rw [hfirst4 _ (by rw [hes, if_pos (by assumption)]) (by assumption)]; assumption), hfirst4 _ (by rw [hes, if_pos (by assumption)]) (by assumption)]
            exact ret2 rfl rfl rfl ⟨_, [], rfl, ⟨_, _, rfl⟩, fun w _ _ => hnilL w, hSt.nil⟩
          · have h2 := hfirst4 2 (by rw [hes, if_neg (by assumption), if_pos (by assumption)]) (by omega)
            rw [hfirst 2 (by rw [hse, h2]) (by omega)]
            exact ret2 rfl rfl rfl ⟨_, [], rfl, ⟨_, _, rfl⟩, fun w _ _ => hnilL w, hSt.nil⟩
          · refine At_loop2 hK4 (k' := x.sets.length - (j4 + 1)) (j4 + 1) _ (by omega) ⟨rfl, by omega, fno_snoc hnos (by rw [hes, if_neg (by assumption), if_neg (Bool.eq_false_iff.1 (by assumption))]), H3, ?_, hSt⟩ (by (repeat (first | exact Sub.nil _ | refine Sub.cons rfl ?_)))
            rw [hsn, List.flatMap_append]
            exact hos3
        · have hi4 : j4 = x.sets.length := by omega
          subst hi4
          have hs0 : setsE g x.sets = 0 := firstE_none hnos
          rw [hs0] at hse
          rw [List.take_length] at hos
          obtain ⟨osa, osc, rfl⟩ := hos.len
          have hsop := setsO_plain hs0
          have hsol : (setsO g x.sets).length = x.sets.length := by unfold setsO; simp
          have hzl := flat_len (f := fun y : Q8 => y.1) (z := 8) (fun a => a.2) zs
          have hzr : i2 * 8 + 8 ≤ zs.length * 8 := by omega
          have hbl : Nat.blt (0 + (i2 : Int).toNat * 8 + 7) (zs.flatMap (·.1) ++ rs).length = true := by
            rw [Nat.blt_eq, List.length_append, hzl, Int.toNat_natCast]; omega
          obtain ⟨z', hz'⟩ : ∃ z' : Q8, z'.1 = z.1.set 7 (.slice osa x.sets.length osc) := ⟨⟨z.1.set 7 (.slice osa x.sets.length osc), by rw [List.length_set]; exact z.2⟩, rfl⟩
          have hset : (zs.flatMap (·.1) ++ rs).set (0 + (i2 : Int).toNat * 8 + 7) (.slice osa x.sets.length osc) = (zs.set i2 z').flatMap (·.1) ++ rs := by
            rw [Int.toNat_natCast, Nat.zero_add]
            exact flat_set1 (f := fun y : Q8 => y.1) (z := 8) (fun a => a.2) hz (by omega) hz' rs
          rw [hyv] at hz'
          repeat' (first | (apply WL_ev rfl rfl; exact Ev_load1 hT rfl rfl (hSt.own 0 _ _ rfl).1 q7) | (refine WL_store1 hT rfl rfl 0 rfl rfl hSt rfl rfl hbl ?_; clear hSt; intro w hSt; dsimp only [List.set, List.cons_append] at hSt; rw [hset] at hSt) | refine W_seq ?_ | refine W_block ?_ | refine W_region ?_ | refine WL_nil ?_ | refine W_true rfl ?_ | refine W_false rfl ?_ | refine W_skip ?_ | refine W_exit ?_ | refine W_ret ?_ | refine W_goto ?_ | refine W_label ?_ | refine At_calm ?_ | refine At_then_normal ?_ | refine At_then ?_ | refine At_then_ret ?_ | refine At_in_normal ?_ | refine At_in_ret ?_ | refine At_in_hit ?_ | refine At_in_miss rfl ?_ | refine At_jump_normal ?_ | refine At_jump_ret ?_ | refine At_jump_exit ?_ | refine At_then_goto ?_ | refine At_in_goto ?_ | (apply WL_ev rfl rfl; (first | exact Ev_move rfl | exact Ev_assign rfl | exact Ev_nilCheck rfl | exact Ev_fieldAddr hT rfl rfl | exact Ev_load1 hT rfl rfl (hSt.at 0 rfl) rfl | exact Ev_load1 hT rfl rfl (hSt.at 1 rfl) rfl | exact Ev_loadN hT rfl rfl (hSt.at 0 rfl) rfl rfl | exact Ev_loadN hT rfl rfl (hSt.at 1 rfl) rfl rfl | exact Ev_pickT rfl rfl | exact Ev_pickF rfl rfl | exact Ev_eql rfl rfl | exact Ev_neq rfl rfl | exact Ev_lss rfl rfl | exact Ev_leq rfl rfl | exact Ev_gtr rfl rfl | exact Ev_geq rfl rfl | exact Ev_add rfl rfl (by omega) | exact Ev_sub rfl rfl (by omega) | exact Ev_len_str rfl hT rfl | exact Ev_len_slice hT rfl rfl | exact Ev_extract rfl rfl | exact Ev_notP rfl | exact Ev_not rfl | exact Ev_str_eql rfl rfl | exact Ev_str_neq rfl rfl | exact Ev_max rfl rfl | exact Ev_str_slice hT rfl rfl rfl rfl (by omega) (by omega) (by omega) | exact Ev_build hT rfl rfl rfl rfl rfl (ok_stc hT rfl) | exact Ev_beql rfl rfl (ok_boo hT rfl) | exact Ev_bneq rfl rfl (ok_boo hT rfl) | exact Ev_indexAddr hT rfl rfl rfl (by omega) (by omega) | exact Ev_slice_nil_eql hT rfl rfl rfl | exact Ev_slice_nil_neq hT rfl rfl rfl)) | refine WL_pass rfl rfl ?_ | refine WL_pass0 rfl ?_ | (refine WL_store1 hT rfl rfl 0 rfl rfl hSt rfl rfl rfl ?_; clear hSt; intro w hSt; dsimp only [List.set] at hSt) | (refine WL_store1 hT rfl rfl 1 rfl rfl hSt rfl rfl rfl ?_; clear hSt; intro w hSt; dsimp only [List.set] at hSt) | (refine WL_storeN hT rfl rfl 0 rfl rfl hSt rfl rfl rfl rfl ?_; clear hSt; intro w hSt; dsimp only [spl, List.set] at hSt) | (refine WL_storeN hT rfl rfl 1 rfl rfl hSt rfl rfl rfl rfl ?_; clear hSt; intro w hSt; dsimp only [spl, List.set] at hSt) | (refine WL_box rfl rfl rfl hSt ?_; clear hSt; intro w nb hnb hSt; dsimp only [zcells, List.nil_append, List.cons_append] at hSt) | (refine WL_alloc hT rfl rfl rfl hSt ?_; clear hSt; intro w nb hnb hSt; dsimp only [zcells, List.nil_append, List.cons_append] at hSt) | (refine WL_guardP rfl rfl (fun hc => ?_) (fun hc => ?_) <;> try (exfalso; first | omega | contradiction | exact hc rfl)) | (refine WL_guard rfl rfl (fun hc => ?_) (fun hc => ?_) <;> (try (exfalso; first | omega | contradiction | exact of_dec hc rfl | (simp at hc; done))) <;> (fail_if_success (change true = true at hc)) <;> (fail_if_success (change false = false at hc))) | refine ret0' rfl ?_ | (refine W_if rfl (fun hc => ?_) (fun hc => ?_) <;> try (exfalso; first | omega | contradiction | exact hc rfl)) | (refine W_cond rfl (fun hc => ?_) (fun hc => ?_) <;> try (exfalso; first | omega | contradiction | (simp at hc; done))))
          have hzl2 : (zs.set i2 z').length = ch.length := by rw [List.length_set]; exact hzs
          refine At_loop1 hK2 (k' := ch.length - (i2 + 1)) (i2 + 1) (by omega) ⟨rfl, by omega, fno_snoc hno hse, zs.set i2 z', [(ob, blk ((zs.set i2 z').flatMap (·.1) ++ rs) 43)], HD ++ H2, hzl2, ?_, ?_, ?_, hSt⟩ (by (repeat (first | exact Sub.nil _ | refine Sub.cons rfl ?_)))
          · refine ⟨by rw [flat_len (f := fun y : Q8 => y.1) (z := 8) (fun a => a.2), hzl2], .inr ⟨ob, oc, rs, rfl, hcap9, hrs, rfl⟩⟩
          · intro j1 x1 z1 hj1 hx1 hz1
            rw [List.getElem?_set_ne (by omega)] at hz1
            exact hold j1 x1 z1 (by omega) hx1 hz1
          · intro w1 kk hh j1 x1 z1 hj1 hx1 hz1
            by_cases hjj : j1 = i2
            · subst hjj
              rw [List.getElem?_set_self (by omega)] at hz1
              injection hz1 with hz1
              subst hz1
              rw [hx] at hx1; injection hx1 with hx1; subst hx1
              rw [hz']
              exact ⟨_, _, _, rfl, hcnd.kept kk, hsa.kept kk, OwnSl.slAt (f := sgC) (z := 2) (l := setsO g x.sets) (fun _ => rfl) (by rw [hsol]; exact hos) (hh.sublist (List.sublist_append_right _ _)), hca, own_capO hos, hla, by show (setsO g x.sets).length ≤ _; omega, fun s hs => Nat.le_trans (hsop s hs) (by omega)⟩
            · rw [List.getElem?_set_ne (by omega)] at hz1
              exact hnew w1 kk (hh.sublist (List.sublist_append_left _ _)) j1 x1 z1 (by omega) hx1 hz1
    · have hi2e : i2 = ch.length := by omega
      subst hi2e
      have hend : selectF l g = (ch.map (selX g), 0) := by subst hch; exact select_end h0 hno
      rw [hend]
      rw [mix_all] at hmix
      repeat' (first | refine W_seq ?_ | refine W_block ?_ | refine W_region ?_ | refine WL_nil ?_ | refine W_true rfl ?_ | refine W_false rfl ?_ | refine W_skip ?_ | refine W_exit ?_ | refine W_ret ?_ | refine W_goto ?_ | refine W_label ?_ | refine At_calm ?_ | refine At_then_normal ?_ | refine At_then ?_ | refine At_then_ret ?_ | refine At_in_normal ?_ | refine At_in_ret ?_ | refine At_in_hit ?_ | refine At_in_miss rfl ?_ | refine At_jump_normal ?_ | refine At_jump_ret ?_ | refine At_jump_exit ?_ | refine At_then_goto ?_ | refine At_in_goto ?_ | (apply WL_ev rfl rfl; (first | exact Ev_move rfl | exact Ev_assign rfl | exact Ev_nilCheck rfl | exact Ev_fieldAddr hT rfl rfl | exact Ev_load1 hT rfl rfl (hSt.at 0 rfl) rfl | exact Ev_load1 hT rfl rfl (hSt.at 1 rfl) rfl | exact Ev_loadN hT rfl rfl (hSt.at 0 rfl) rfl rfl | exact Ev_loadN hT rfl rfl (hSt.at 1 rfl) rfl rfl | exact Ev_pickT rfl rfl | exact Ev_pickF rfl rfl | exact Ev_eql rfl rfl | exact Ev_neq rfl rfl | exact Ev_lss rfl rfl | exact Ev_leq rfl rfl | exact Ev_gtr rfl rfl | exact Ev_geq rfl rfl | exact Ev_add rfl rfl (by omega) | exact Ev_sub rfl rfl (by omega) | exact Ev_len_str rfl hT rfl | exact Ev_len_slice hT rfl rfl | exact Ev_extract rfl rfl | exact Ev_notP rfl | exact Ev_not rfl | exact Ev_str_eql rfl rfl | exact Ev_str_neq rfl rfl | exact Ev_max rfl rfl | exact Ev_str_slice hT rfl rfl rfl rfl (by omega) (by omega) (by omega) | exact Ev_build hT rfl rfl rfl rfl rfl (ok_stc hT rfl) | exact Ev_beql rfl rfl (ok_boo hT rfl) | exact Ev_bneq rfl rfl (ok_boo hT rfl) | exact Ev_indexAddr hT rfl rfl rfl (by omega) (by omega) | exact Ev_slice_nil_eql hT rfl rfl rfl | exact Ev_slice_nil_neq hT rfl rfl rfl)) | refine WL_pass rfl rfl ?_ | refine WL_pass0 rfl ?_ | (refine WL_store1 hT rfl rfl 0 rfl rfl hSt rfl rfl rfl ?_; clear hSt; intro w hSt; dsimp only [List.set] at hSt) | (refine WL_store1 hT rfl rfl 1 rfl rfl hSt rfl rfl rfl ?_; clear hSt; intro w hSt; dsimp only [List.set] at hSt) | (refine WL_storeN hT rfl rfl 0 rfl rfl hSt rfl rfl rfl rfl ?_; clear hSt; intro w hSt; dsimp only [spl, List.set] at hSt) | (refine WL_storeN hT rfl rfl 1 rfl rfl hSt rfl rfl rfl rfl ?_; clear hSt; intro w hSt; dsimp only [spl, List.set] at hSt) | (refine WL_box rfl rfl rfl hSt ?_; clear hSt; intro w nb hnb hSt; dsimp only [zcells, List.nil_append, List.cons_append] at hSt) | (refine WL_alloc hT rfl rfl rfl hSt ?_; clear hSt; intro w nb hnb hSt; dsimp only [zcells, List.nil_append, List.cons_append] at hSt) | (refine WL_guardP rfl rfl (fun hc => ?_) (fun hc => ?_) <;> try (exfalso; first | omega | contradiction | exact hc rfl)) | (refine WL_guard rfl rfl (fun hc => ?_) (fun hc => ?_) <;> (try (exfalso; first | omega | contradiction | exact of_dec hc rfl | (simp at hc; done))) <;> (fail_if_success (change true = true at hc)) <;> (fail_if_success (change false = false at hc))) | refine ret0' rfl ?_ | (refine W_if rfl (fun hc => ?_) (fun hc => ?_) <;> try (exfalso; first | omega | contradiction | exact hc rfl)) | (refine W_cond rfl (fun hc => ?_) (fun hc => ?_) <;> try (exfalso; first | omega | contradiction | (simp at hc; done))))
      exact ret2 rfl rfl rfl ⟨_, HB ++ HD, rfl, ⟨_, _, by rw [List.length_map]⟩, fun w kk hh => hmix w kk hh, hSt⟩
end Go.Proofs.Ytofnepeokihhnaa
