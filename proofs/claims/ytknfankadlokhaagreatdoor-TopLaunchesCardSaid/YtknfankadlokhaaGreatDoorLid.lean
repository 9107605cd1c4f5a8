/- What Select chooses is a description without an error. No conditions. -/
import Derived.Test.YtknfankadlokhaaGreatDoorLhk
import Derived.Test.YtknfankadlokhaaGreatDoorLhy

namespace Go.Proofs.YtknfankadlokhaaGreatDoor
open Go.RowKit
set_option linter.unusedVariables false
set_option linter.unusedSimpArgs false

theorem sel_node (g : List Sg) (x : Ln) : (selX g x).node = x.node ∧ (selX g x).prog = x.prog ∧ (selX g x).cond = x.cond ∧ (selX g x).after = x.after ∧ (selX g x).sets = setsO g x.sets := ⟨rfl, rfl, rfl, rfl, rfl⟩
theorem sel_nodes (g : List Sg) (ch : List Ln) : nodesF (ch.map (selX g)) = nodesF ch := by
  unfold nodesF; rw [List.map_map]; rfl
theorem nodes_nodup {l : List Ln} (h : checkF l = 0) : (nodesF l).Nodup := by
  rw [List.nodup_iff_pairwise_ne, List.pairwise_iff_getElem]
  intro i j hi hj hij e
  unfold nodesF at *
  rw [List.length_map] at hi hj
  rw [List.getElem_map, List.getElem_map] at e
  obtain ⟨_, hall, _⟩ := check_parts h
  obtain ⟨_, _, hn, _⟩ := entry_parts (List.getElem?_eq_getElem hj) (hall j hj)
  have : 0 ≤ idxF (l.take j) l[j].node := idxF_mem.2 (List.mem_map.2 ⟨l[i], List.mem_of_getElem? (i := i) (by rw [List.getElem?_take, if_pos hij]; exact List.getElem?_eq_getElem hi), e⟩)
  omega
theorem idx_none {l : List Ln} (hd : (nodesF l).Nodup) {i : Nat} {x : Ln} (hx : l[i]? = some x) : idxF (l.take i) x.node < 0 := by
  by_cases h : idxF (l.take i) x.node < 0
  · exact h
  · exfalso
    replace h : 0 ≤ idxF (l.take i) x.node := by omega
    obtain ⟨j, y, _, hy, hn⟩ := idxF_at h
    rw [List.getElem?_take] at hy
    split at hy
    · rename_i hji
      rw [List.nodup_iff_pairwise_ne, List.pairwise_iff_getElem] at hd
      have h1 := List.getElem?_eq_some_iff.1 hx
      have h2 := List.getElem?_eq_some_iff.1 hy
      have := hd j i (by unfold nodesF; rw [List.length_map]; exact h2.1) (by unfold nodesF; rw [List.length_map]; exact h1.1) hji
      apply this
      unfold nodesF
      rw [List.getElem_map, List.getElem_map, h1.2, h2.2, hn]
    · cases hy
theorem setE_ok {l : List Sg} {j : Nat} {s : Sg} (hs : l[j]? = some s) (h1 : nameF s.1 = true) (h2 : plainF s.2 = true) (h3 : (l.take j).any (fun y => decide (y.1 = s.1)) = false) : setE l j = 0 := by
  unfold setE; rw [hs]
  dsimp only
  rw [if_neg (by rw [h1]; simp), if_neg (by rw [h3]; simp), if_neg (by rw [h2]; simp)]
theorem sets_ok {l g : List Sg} (h : ∀ j, j < l.length → setE l j = 0) (he : setsE g l = 0) : ∀ j, j < (setsO g l).length → setE (setsO g l) j = 0 := by
  intro j hj
  have hjl : j < l.length := by unfold setsO at hj; rwa [List.length_map] at hj
  obtain ⟨h1, h2, h3⟩ := sets_parts h (List.getElem?_eq_getElem hjl)
  have h4 := firstE_zero he j hjl
  rw [errAt_at (List.getElem?_eq_getElem hjl)] at h4
  have h5 : plainF (subF g l[j].2).1 = true := by
    unfold errS at h4
    split at h4
    · rename_i h6; exact absurd h4 h6
    · split at h4
      · cases h4
      · rename_i h6; simpa using h6
  refine setE_ok (s := (l[j].1, (subF g l[j].2).1)) (by unfold setsO; rw [List.getElem?_map, List.getElem?_eq_getElem hjl]; rfl) h1 h5 ?_
  unfold setsO
  rw [← List.map_take, List.any_map]
  exact h3
theorem chosen_sub (l : List Ln) (g : List Sg) : (nodesF (chosenF l g)).Sublist (nodesF l) := by
  unfold nodesF chosenF
  exact (List.filter_sublist).map _
theorem select_ok {l : List Ln} {g : List Sg} (h0 : checkF l = 0) (hse : ∀ j, j < (chosenF l g).length → selE (chosenF l g) g j = 0) : checkF ((chosenF l g).map (selX g)) = 0 := by
  obtain ⟨ch, hch⟩ : ∃ ch, ch = chosenF l g := ⟨_, rfl⟩
  rw [← hch] at hse ⊢
  have hmem : ∀ x ∈ ch, x ∈ l := fun x hx => by rw [hch] at hx; exact (List.mem_filter.1 hx).1
  have hnd : (nodesF ch).Nodup := by rw [hch]; exact (chosen_sub l g).nodup (nodes_nodup h0)
  have hnd2 : (nodesF (ch.map (selX g))).Nodup := by rw [sel_nodes]; exact hnd
  have hlen : ch.length ≤ 24 := by
    have h1 := (check_parts h0).1
    have h2 := (chosen_sub l g).length_le
    rw [← hch] at h2
    unfold nodesF at h2
    rw [List.length_map, List.length_map] at h2
    omega
  have haft : ∀ x ∈ ch, ∀ n ∈ x.after, n ∈ nodesF ch := fun x hx n hn => by
    obtain ⟨j, hj⟩ := List.getElem?_of_mem hx
    have := hse j (List.getElem?_eq_some_iff.1 hj).1
    rw [selE_at hj] at this
    split at this
    · cases this
    · rename_i hany
      rw [Bool.not_eq_true, List.any_eq_false] at hany
      have := hany n hn
      exact idxF_mem.1 (by simpa using this)
  have hent : ∀ j, j < (ch.map (selX g)).length → entryF (ch.map (selX g)) j = 0 := fun j hj => by
    rw [List.length_map] at hj
    obtain ⟨x, hx⟩ : ∃ x, ch[j]? = some x := ⟨_, List.getElem?_eq_getElem hj⟩
    have hxs : (ch.map (selX g))[j]? = some (selX g x) := by rw [List.getElem?_map, hx]; rfl
    have hxl := hmem x (List.mem_of_getElem? hx)
    obtain ⟨i, hi⟩ := List.getElem?_of_mem hxl
    obtain ⟨n1, n2, _, n4, n5⟩ := entry_parts hi ((check_parts h0).2.1 i (List.getElem?_eq_some_iff.1 hi).1)
    obtain ⟨s1, s2⟩ := lists_parts n5
    have hix := idx_none hnd2 hxs
    have hs0 : setsE g x.sets = 0 := by
      have := hse j hj
      rw [selE_at hx] at this
      split at this
      · cases this
      · exact this
    have hlists : listsF (ch.map (selX g)) (selX g x) = 0 := by
      unfold listsF
      dsimp only
      rw [show (selX g x).sets = setsO g x.sets from rfl, firstE_none (sets_ok s1 hs0), if_neg (by simp)]
      refine firstE_none fun t ht => ?_
      obtain ⟨n, hn⟩ : ∃ n, x.after[t]? = some n := ⟨_, List.getElem?_eq_getElem ht⟩
      obtain ⟨_, a2⟩ := after_parts s2 hn
      have a3 : 0 ≤ idxF (ch.map (selX g)) n := idxF_mem.2 (by rw [sel_nodes]; exact haft x (List.mem_of_getElem? hx) n (List.mem_of_getElem? hn))
      unfold aftE
      rw [show (selX g x).after = x.after from rfl, hn]
      dsimp only
      rw [if_neg (by omega), if_neg (by rw [show (x.after.take t).any (fun y => decide (n = y)) = hasF (x.after.take t) n from rfl, a2]; simp)]
    unfold entryF
    rw [hxs]
    dsimp only
    rw [show (selX g x).node = x.node from rfl, show (selX g x).prog = x.prog from rfl, show (selX g x).cond = x.cond from rfl]
    rw [if_neg (by rw [n1, n2]; simp), if_neg (by rw [show (selX g x).node = x.node from rfl] at hix; omega), if_neg (by rw [n4]; simp)]
    exact hlists
  have hfull : (ch.map (selX g)).length ≤ (startF (ch.map (selX g))).length := by
    have hst : (ch.map (selX g)).find? (readyF (startF (ch.map (selX g)))) = none := by
      have hgo : Going (ch.map (selX g)) (startF (ch.map (selX g))) := going_ind (Going.nil _) (fun ns x h hx => h.step hx)
      cases hf : (ch.map (selX g)).find? (readyF (startF (ch.map (selX g)))) with
      | none => rfl
      | some x =>
        exfalso
        obtain ⟨f, hf1, hf2⟩ := hgo.run
        obtain ⟨f', hf3, hf4⟩ := runF_step hf1 hf
        have hlt := leftF_snoc (List.mem_of_find?_eq_some hf) (ready_has (List.find?_some hf)).1
        have : ∀ (k : Nat) (ns : List Tx), ns.length ≤ (runF (ch.map (selX g)) k ns).length := by
          intro k
          induction k with
          | zero => intro ns; exact Nat.le_refl _
          | succ k ih =>
            intro ns
            rw [runF]
            split
            · exact Nat.le_refl _
            · exact Nat.le_trans (by simp) (ih _)
        have h5 := this f' (startF (ch.map (selX g)) ++ [x.node])
        rw [← hf4, hf2] at h5
        simp at h5
        omega
    have key : ∀ (k : Nat) (x : Ln), x ∈ ch → idxP (fun y => decide (y = x.node)) (startF l) = (k : Int) → hasF (startF (ch.map (selX g))) x.node = true := by
      intro k
      induction k using Nat.strongRecOn with
      | ind k ih =>
      intro x hx hk
      cases hh : hasF (startF (ch.map (selX g))) x.node
      · exfalso
        rw [List.find?_eq_none] at hst
        apply hst (selX g x) (List.mem_map.2 ⟨x, hx, rfl⟩)
        unfold readyF
        rw [show (selX g x).node = x.node from rfl, hh, show (selX g x).after = x.after from rfl]
        simp only [Bool.not_false, Bool.true_and, List.all_eq_true]
        intro n hn
        obtain ⟨i, hi⟩ := List.getElem?_of_mem (hmem x hx)
        obtain ⟨k2, _, hk2, hb⟩ := order_before h0 hi
        obtain ⟨m, hm, hmk, _⟩ := hb n hn
        obtain ⟨y, hy, hyn⟩ := List.mem_map.1 (haft x hx n hn)
        have := ih m (by rw [hk2] at hk; omega) y hy (by rw [hyn]; exact hm)
        rw [hyn] at this; exact this
      · rfl
    have hin : ∀ n ∈ nodesF (ch.map (selX g)), n ∈ startF (ch.map (selX g)) := fun n hn => by
      rw [sel_nodes] at hn
      obtain ⟨x, hx, rfl⟩ := List.mem_map.1 hn
      obtain ⟨i, hi⟩ := List.getElem?_of_mem (hmem x hx)
      obtain ⟨k, _, hk, _⟩ := order_before h0 hi
      exact hasF_mem.1 (key k x hx hk)
    have := nodup_len hnd2 hin
    unfold nodesF at this
    rwa [List.length_map] at this
  unfold checkF
  rw [if_neg (by rw [List.length_map]; omega)]
  dsimp only
  rw [firstE_none hent, if_neg (by simp), if_neg (by omega)]
end Go.Proofs.YtknfankadlokhaaGreatDoor
