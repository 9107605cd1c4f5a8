/- Action servers, in plain words: what every call leaves true; a server that is opened again. No conditions. -/
import Derived.Test.YthkimkgphaiagaaGreatDoorSom

namespace Go.Proofs.YthkimkgphaiagaaGreatDoor
open Go.RowKit
set_option linter.unusedVariables false
set_option linter.unusedSimpArgs false

theorem latF_set {l : List Gl} {k : Nat} (hk : k < l.length) {st at_ : Int} {rs : List UInt8} (h : latF l ≤ at_) : latF (l.set k (endG (gAt l k) st at_ rs)) ≤ at_ := by
  have h0 := latF_nonneg l
  refine latF_le (by omega) fun m hm => ?_
  rw [List.length_set] at hm
  rw [gAt_set hk]
  have h1 := latF_ge hm
  split
  · rename_i e; subst e; exact ⟨by show (gAt l m).at_ ≤ at_; omega, Int.le_refl _⟩
  · exact ⟨by omega, by omega⟩
theorem On.endAll : ∀ {l : List Nat} {s : Sv} {L : List (List UInt8)} {safe i : Nat}, On s L safe i → s.stop = false → (∀ k ∈ l, k < s.l.length ∧ ((gAt s.l k).st = 1 ∨ (gAt s.l k).st = 2 ∨ (gAt s.l k).st = 3)) → l.Nodup → ∀ {st at_ : Int} {rs : List UInt8}, 4 ≤ st ∧ st ≤ 6 → latF s.l ≤ at_ → at_ ≤ 1099511627776 → rs.length ≤ 4000 →
    (∃ L' safe', On (endAll s l st at_ rs).2 L' safe' (i + 2 * l.length)) ∧ Up s.l (endAll s l st at_ rs).2.l ∧ ((endAll s l st at_ rs).1 = 0 → (endAll s l st at_ rs).2.stop = false ∧ ∀ k ∈ l, 4 ≤ (gAt (endAll s l st at_ rs).2.l k).st)
  | [], s, L, safe, i, h, hs, _, _, st, at_, rs, _, _, _, _ => ⟨⟨L, safe, h⟩, Up.refl _, fun _ => ⟨hs, fun k hk => by simp at hk⟩⟩
  | k :: l, s, L, safe, i, h, hs, hl, hn, st, at_, rs, hst, hla, ha, hr => by
    have hk := hl k (List.mem_cons_self ..)
    obtain ⟨⟨L1, s1, o1⟩, u1, z1⟩ := h.endS hs hk.1 hk.2 hst hla ha hr
    rw [List.nodup_cons] at hn
    unfold Go.Proofs.YthkimkgphaiagaaGreatDoor.endAll
    by_cases he : (Go.Proofs.YthkimkgphaiagaaGreatDoor.endS s k st at_ rs).1 = 0
    · rw [if_neg (by simpa using he)]
      obtain ⟨e1, e2, e3⟩ := endS_ok he
      have hg : ∀ m, gAt (Go.Proofs.YthkimkgphaiagaaGreatDoor.endS s k st at_ rs).2.l m = if m = k then endG (gAt s.l k) st at_ rs else gAt s.l m := fun m => by rw [e1]; exact gAt_set hk.1 _ m
      have hlen : (Go.Proofs.YthkimkgphaiagaaGreatDoor.endS s k st at_ rs).2.l.length = s.l.length := by rw [e1, List.length_set]
      have hlat : latF (Go.Proofs.YthkimkgphaiagaaGreatDoor.endS s k st at_ rs).2.l ≤ at_ := by rw [e1]; exact latF_set hk.1 hla
      obtain ⟨⟨L2, s2, o2⟩, u2, z2⟩ := o1.endAll (l := l) (z1 he) (fun m hm => by
        have := hl m (List.mem_cons_of_mem _ hm)
        rw [hlen, hg, if_neg (by rintro rfl; exact hn.1 hm)]
        exact this) hn.2 hst hlat ha hr
      refine ⟨⟨L2, s2, o2.later (by rw [List.length_cons]; omega)⟩, u1.trans u2, fun h0 => ⟨(z2 h0).1, fun m hm => ?_⟩⟩
      rcases List.mem_cons.1 hm with rfl | hm
      · rw [u2.fin m (by rw [hlen]; exact hk.1) (by rw [hg, if_pos rfl]; exact hst.1), hg, if_pos rfl]
        exact hst.1
      · exact (z2 h0).2 m hm
    · rw [if_pos he]
      exact ⟨⟨L1, s1, o1.later (by rw [List.length_cons]; omega)⟩, u1, fun h0 => absurd h0 he⟩
theorem Inv0.opens {s : Sv} (h : Inv0 s) {k : Nat} (hk : k ∈ openL s.l) : k < s.l.length ∧ ((gAt s.l k).st = 1 ∨ (gAt s.l k).st = 2 ∨ (gAt s.l k).st = 3) := by
  rw [openL_mem] at hk
  have h1 := h.st k hk.1
  have h2 := termF_iff (gAt s.l k).st
  rw [hk.2] at h2
  refine ⟨hk.1, ?_⟩
  have : ¬ (4 ≤ (gAt s.l k).st ∧ (gAt s.l k).st ≤ 7) := fun h3 => by have := h2.2 h3; cases this
  omega
theorem openL_nodup (l : List Gl) : (openL l).Nodup := by unfold openL; exact List.Pairwise.filter _ List.nodup_range
theorem On.requestS {s : Sv} {L : List (List UInt8)} {safe i : Nat} (h : On s L safe i) (hI : Inv s) (c n at_ : Int) (rq : List UInt8) :
    (∃ L' safe', On (requestS s c n at_ rq).2.2 L' safe' (i + 200)) ∧ Up s.l (requestS s c n at_ rq).2.2.l ∧
      ((requestS s c n at_ rq).2.1 = 0 → ∃ k, k < (requestS s c n at_ rq).2.2.l.length ∧ (gAt (requestS s c n at_ rq).2.2.l k).c = c ∧ (gAt (requestS s c n at_ rq).2.2.l k).n = n ∧ ((requestS s c n at_ rq).1 = true ↔ (gAt (requestS s c n at_ rq).2.2.l k).st ≠ 7)) := by
  have base : ∀ (b : Bool) (e : Int), e ≠ 0 → (∃ L' safe', On (b, e, s).2.2 L' safe' (i + 200)) ∧ Up s.l (b, e, s).2.2.l ∧ ((b, e, s).2.1 = 0 → ∃ k, k < (b, e, s).2.2.l.length ∧ (gAt (b, e, s).2.2.l k).c = c ∧ (gAt (b, e, s).2.2.l k).n = n ∧ ((b, e, s).1 = true ↔ (gAt (b, e, s).2.2.l k).st ≠ 7)) :=
    fun b e he => ⟨⟨L, safe, h.later (by omega)⟩, Up.refl _, fun h0 => absurd h0 he⟩
  unfold Go.Proofs.YthkimkgphaiagaaGreatDoor.requestS
  split
  · exact base _ _ (by decide)
  rename_i hb
  have hb := Decidable.not_not.1 hb
  split
  · exact base _ _ (by decide)
  rename_i hrl
  split
  · exact base _ _ (by decide)
  rename_i hstop
  have hs : s.stop = false := by cases hq : s.stop <;> simp_all
  split
  · rename_i k hf
    refine ⟨⟨L, safe, h.later (by omega)⟩, Up.refl _, fun _ => ⟨k, findG_lt hf, (findG_eq hf).1, (findG_eq hf).2, ?_⟩⟩
    simp
  · rename_i hf
    split
    · exact base _ _ (by decide)
    rename_i hla
    split
    · exact base _ _ (by decide)
    rename_i h64
    have hk1 : (∃ L1 s1, On (if s.pol = 2 then Go.Proofs.YthkimkgphaiagaaGreatDoor.clearS s at_ else (0, s)).2 L1 s1 (i + 128)) ∧ Up s.l (if s.pol = 2 then Go.Proofs.YthkimkgphaiagaaGreatDoor.clearS s at_ else (0, s)).2.l ∧ ((if s.pol = 2 then Go.Proofs.YthkimkgphaiagaaGreatDoor.clearS s at_ else (0, s)).1 = 0 → (if s.pol = 2 then Go.Proofs.YthkimkgphaiagaaGreatDoor.clearS s at_ else (0, s)).2.stop = false) ∧ Inv (if s.pol = 2 then Go.Proofs.YthkimkgphaiagaaGreatDoor.clearS s at_ else (0, s)).2 ∧ (if s.pol = 2 then Go.Proofs.YthkimkgphaiagaaGreatDoor.clearS s at_ else (0, s)).2.l.length = s.l.length := by
      split
      · have hll := List.length_filter_le (fun i : Nat => decide ((i : Int) ≠ s.cur)) (openL s.l)
        have hol := openL_len s.l
        have hlen := hI.len
        obtain ⟨⟨L1, s1, o1⟩, u1, z1⟩ := h.endAll (l := (openL s.l).filter fun i : Nat => decide ((i : Int) ≠ s.cur)) hs (fun k hk => hI.toInv0.opens (List.mem_filter.1 hk).1) (List.Pairwise.filter _ (openL_nodup s.l)) (st := 6) (at_ := at_) (rs := wCanceled) (by omega) (by omega) (by omega) (by decide)
        exact ⟨⟨L1, s1, o1.later (by omega)⟩, u1, fun h0 => (z1 h0).1, hI.clearS at_, endAll_len ..⟩
      · exact ⟨⟨L, safe, h.later (by omega)⟩, Up.refl _, fun _ => hs, hI, rfl⟩
    generalize (if s.pol = 2 then Go.Proofs.YthkimkgphaiagaaGreatDoor.clearS s at_ else (0, s)) = k at hk1 ⊢
    obtain ⟨⟨L1, s1, o1⟩, u1, z1, i1, l1⟩ := hk1
    dsimp only
    split
    · rename_i he
      exact ⟨⟨L1, s1, o1.later (by omega)⟩, u1, fun h0 => absurd h0 he⟩
    rename_i he
    have hs1 := z1 (Decidable.not_not.1 he)
    have hf1 : findG k.2.l c n = none := findG_no fun m hm h2 => by
      rw [l1] at hm
      have := u1.id m hm
      exact findG_noid hf m hm ⟨by rw [← this.1]; exact h2.1, by rw [← this.2]; exact h2.2⟩
    obtain ⟨⟨L2, s2, o2⟩, u2⟩ := o1.decideS hs1 hb.1 hb.2.1 hb.2.2 (rq := rq) (by omega) (by omega) hf1 (acceptsB s)
    split
    · rename_i hd
      exact ⟨⟨L2, s2, o2.later (by omega)⟩, u1.trans u2, fun h0 => absurd h0 hd⟩
    rename_i hd
    obtain ⟨d1, d2, d3⟩ := decideS_ok (Decidable.not_not.1 hd)
    have id := i1.toInv0.decideS (by omega) ⟨c, n, 0, at_, 0, rq, []⟩ (acceptsB s)
    obtain ⟨f1, f2, f3, f4⟩ := decG1_fld ⟨c, n, 0, at_, 0, rq, []⟩ (acceptsB s)
    have hnew : gAt (Go.Proofs.YthkimkgphaiagaaGreatDoor.decideS k.2 ⟨c, n, 0, at_, 0, rq, []⟩ (acceptsB s)).2.l k.2.l.length = decG1 ⟨c, n, 0, at_, 0, rq, []⟩ (acceptsB s) := by rw [d1, gAt_snoc _ _ _ (by omega), if_pos rfl]
    have hdl : k.2.l.length < (Go.Proofs.YthkimkgphaiagaaGreatDoor.decideS k.2 ⟨c, n, 0, at_, 0, rq, []⟩ (acceptsB s)).2.l.length := by rw [d1, List.length_append]; exact Nat.lt_succ_self _
    generalize (Go.Proofs.YthkimkgphaiagaaGreatDoor.decideS k.2 ⟨c, n, 0, at_, 0, rq, []⟩ (acceptsB s)).2 = d at o2 u2 id hnew hdl ⊢
    have hp : On (Go.Proofs.YthkimkgphaiagaaGreatDoor.preemptS d) L2 s2 (i + 128 + 2) ∧ Up d.l (Go.Proofs.YthkimkgphaiagaaGreatDoor.preemptS d).l := by
      unfold Go.Proofs.YthkimkgphaiagaaGreatDoor.preemptS
      split
      · rename_i hc
        obtain ⟨c1, c2⟩ := id.c2 hc.2
        exact o2.at3 c1 c2
      · exact ⟨o2, Up.refl _⟩
    obtain ⟨o3, u3⟩ := hp
    obtain ⟨o4, u4⟩ := o3.nextS id.preemptS
    have u := u3.trans u4
    refine ⟨⟨L2, s2, o4.later (by omega)⟩, (u1.trans u2).trans u, fun _ => ⟨k.2.l.length, Nat.lt_of_lt_of_le hdl u.len, ?_, ?_, ?_⟩⟩
    · rw [(u.id _ hdl).1, hnew, f1]
    · rw [(u.id _ hdl).2, hnew, f2]
    · show acceptsB s = true ↔ _
      rw [Ne, u.rej _ hdl, hnew]
      cases acceptsB s <;> simp [decG1]
theorem On.cancelS {s : Sv} {L : List (List UInt8)} {safe i : Nat} (h : On s L safe i) (hI : Inv s) (c n at_ : Int) : (∃ L' safe', On (cancelS s c n at_).2 L' safe' (i + 200)) ∧ Up s.l (cancelS s c n at_).2.l := by
  have base : (∃ L' safe', On s L' safe' (i + 200)) ∧ Up s.l s.l := ⟨⟨L, safe, h.later (by omega)⟩, Up.refl _⟩
  unfold Go.Proofs.YthkimkgphaiagaaGreatDoor.cancelS
  split
  · exact base
  rename_i hstop
  have hs : s.stop = false := by cases hq : s.stop <;> simp_all
  split
  · exact base
  rename_i k hf
  have hk := findG_lt hf
  split
  · exact base
  rename_i ha
  have ha := Decidable.not_not.1 ha
  split
  · exact base
  rename_i hla
  split
  · exact base
  rename_i hT
  have hst := hI.st k hk
  have h123 : (gAt s.l k).st = 1 ∨ (gAt s.l k).st = 2 := by
    have h1 : ¬ termF (gAt s.l k).st = true := fun e => hT (.inl e)
    have h2 : ¬ (gAt s.l k).st = 3 := fun e => hT (.inr e)
    rw [termF_iff] at h1
    omega
  split
  · rename_i hc
    have h23 : (gAt s.l k).st = 2 ∨ (gAt s.l k).st = 3 := by
      have := (hI.c2 (by omega)).2
      rw [show s.cur.toNat = k by omega] at this
      exact this
    obtain ⟨o, u⟩ := h.at3 hk h23
    exact ⟨⟨L, safe, o.later (by omega)⟩, u⟩
  · obtain ⟨⟨L1, s1, o1⟩, u1, _⟩ := h.endS hs hk (by omega) (st := 6) (at_ := at_) (rs := wCanceled) (by omega) (by omega) (by omega) (by decide)
    exact ⟨⟨L1, s1, o1.later (by omega)⟩, u1⟩
theorem On.feedbackS {s : Sv} {L : List (List UInt8)} {safe i : Nat} (h : On s L safe i) (x : List UInt8) : On (feedbackS s x).2.2 L safe i ∧ Up s.l (feedbackS s x).2.2.l := by
  unfold Go.Proofs.YthkimkgphaiagaaGreatDoor.feedbackS
  split
  · exact ⟨h, Up.refl _⟩
  split
  · exact ⟨h, Up.refl _⟩
  split
  · exact ⟨h, Up.refl _⟩
  · exact ⟨h.turn rfl rfl rfl rfl rfl h.gi, Up.refl _⟩
theorem On.finishS {s : Sv} {L : List (List UInt8)} {safe i : Nat} (h : On s L safe i) (hI : Inv s) {st : Int} (hst : st = 4 ∨ st = 5) (at_ : Int) (rs : List UInt8) : (∃ L' safe', On (finishS s st at_ rs).2 L' safe' (i + 200)) ∧ Up s.l (finishS s st at_ rs).2.l := by
  have base : (∃ L' safe', On s L' safe' (i + 200)) ∧ Up s.l s.l := ⟨⟨L, safe, h.later (by omega)⟩, Up.refl _⟩
  unfold Go.Proofs.YthkimkgphaiagaaGreatDoor.finishS
  split
  · exact base
  rename_i hstop
  have hs : s.stop = false := by cases hq : s.stop <;> simp_all
  split
  · exact base
  rename_i hc
  split
  · exact base
  rename_i ha
  have ha := Decidable.not_not.1 ha
  split
  · exact base
  rename_i hla
  split
  · exact base
  rename_i hrl
  obtain ⟨hk, h23⟩ := hI.c2 (by omega)
  dsimp only
  have hst' : 4 ≤ (if st = 5 ∧ (gAt s.l s.cur.toNat).st = 3 then (6 : Int) else st) ∧ (if st = 5 ∧ (gAt s.l s.cur.toNat).st = 3 then (6 : Int) else st) ≤ 6 := by split <;> omega
  generalize (if st = 5 ∧ (gAt s.l s.cur.toNat).st = 3 then (6 : Int) else st) = st' at hst' ⊢
  obtain ⟨⟨L1, s1, o1⟩, u1, _⟩ := h.endS hs hk (by omega) hst' (by omega) ha.2 (rs := rs) (by omega)
  split
  · exact ⟨⟨L1, s1, o1.later (by omega)⟩, u1⟩
  · obtain ⟨o2, u2⟩ := o1.nextS (hI.toInv0.endS hk hst' at_ rs)
    exact ⟨⟨L1, s1, o2.later (by omega)⟩, u1.trans u2⟩
theorem latF_max {p : GE} (h : GI p) : latF p.1 ≤ 1099511627776 := latF_le (by decide) fun k hk => ⟨(h.a k hk).2, (h.en k hk).2⟩
theorem endAll_cur : ∀ (l : List Nat) (s : Sv) (st at_ : Int) (rs : List UInt8), s.cur = -1 → (endAll s l st at_ rs).2.cur = -1
  | [], s, st, at_, rs, h => h
  | k :: l, s, st, at_, rs, h => by
    have h1 := endS_cur (s := s) (i := k) (by omega) st at_ rs
    unfold endAll
    split
    · rw [h1]; exact h
    · exact endAll_cur l _ st at_ rs (h1.trans h)
/-- what is written on a medium when no server runs -/
structure Off (m : Med) (L : List (List UInt8)) (safe i : Nat) (p : GE) : Prop where
  pre : ∃ j, Pre m j L safe i
  all : ∃ q, repA ([], []) L = some q
  now : repA ([], []) (L.take safe) = some p
theorem Off.later {m : Med} {L : List (List UInt8)} {safe i k : Nat} {p : GE} (h : Off m L safe i p) (hk : i ≤ k) : Off m L safe k p := by
  obtain ⟨⟨j, hj⟩, h2, h3⟩ := h
  exact ⟨⟨j, hj.later hk⟩, h2, h3⟩
theorem On.off {s : Sv} {L : List (List UInt8)} {safe i : Nat} (h : On s L safe i) : Off s.m L safe i (s.l.map nrm, s.ends) := ⟨⟨_, h.pre⟩, h.all, h.now⟩
theorem Off.crash {m : Med} {L : List (List UInt8)} {safe i : Nat} {p : GE} (h : Off m L safe i p) (k : Int) : Off (m.crashOp k).2 L safe (i + 1) p := by
  obtain ⟨⟨j, hj⟩, h2, h3⟩ := h
  exact ⟨⟨j, hj.crashOp k⟩, h2, h3⟩
theorem Off.arm {m : Med} {L : List (List UInt8)} {safe i : Nat} {p : GE} (h : Off m L safe i p) (a k : Int) (ha : a ≤ 9223372036854775807) : Off (m.arm a k).2 L safe (i + 1) p := by
  obtain ⟨⟨j, hj⟩, h2, h3⟩ := h
  exact ⟨⟨j, hj.arm a k ha⟩, h2, h3⟩
theorem On.arm {s : Sv} {L : List (List UInt8)} {safe i : Nat} (h : On s L safe i) (a k : Int) (ha : a ≤ 9223372036854775807) : On { s with m := (s.m.arm a k).2 } L safe (i + 1) := ⟨h.pre.arm a k ha, h.all, h.now, h.live, h.gi⟩
/-- the server is opened again after a crash -/
theorem Off.open {m : Med} {L : List (List UInt8)} {safe i : Nat} {p : GE} (h : Off m L safe i p) {pol lim : Int} (hpl : 1 ≤ pol ∧ pol ≤ 3 ∧ 0 ≤ lim ∧ lim ≤ 64) :
    ((openS pol lim m.recover.2).1 ≠ 0 → ∃ L' safe' p', Off (openS pol lim m.recover.2).2.m L' safe' (i + 200) p' ∧ Up p.1 p'.1) ∧
    ((openS pol lim m.recover.2).1 = 0 → ∃ L' safe', On (openS pol lim m.recover.2).2 L' safe' (i + 200) ∧ Up p.1 (openS pol lim m.recover.2).2.l ∧ Inv (openS pol lim m.recover.2).2 ∧ ∀ k, k < (openS pol lim m.recover.2).2.l.length → 4 ≤ (gAt (openS pol lim m.recover.2).2.l k).st ∧ (gAt (openS pol lim m.recover.2).2.l k).st ≤ 7) := by
  obtain ⟨⟨j, hj⟩, ⟨q, hq⟩, hnow⟩ := h
  obtain ⟨r, hr⟩ : ∃ r, jOpen m.recover.2 = r := ⟨_, rfl⟩
  obtain ⟨e, m2, j2⟩ := r
  obtain ⟨h1, h2⟩ := hj.reopen hr
  unfold openS
  rw [if_neg (fun hn => hn hpl), hr]
  dsimp only
  by_cases he : e = 0
  · rw [if_neg (by simpa using he)]
    obtain ⟨k, k1, k2, k3, k4⟩ := h2 he
    obtain ⟨t, ht, _⟩ := repA_take hq k
    have hup : Up p.1 t.1 := by
      obtain ⟨u, hu, hu2⟩ := repA_take ht safe
      rw [List.take_take, Nat.min_eq_left k1, hnow] at hu
      injection hu with hu
      subst hu
      exact Up.repA hu2
    have hgi := GI.nil.repA ht
    have hcalm : Calmd t.1 := Calmd.repA (p := ([], [])) (fun i hi => by simp at hi) ht
    have hra : replayAll ⟨pol, lim, [], [], -1, 0, false, m2, j2⟩ j2.l = some ⟨pol, lim, t.1, t.2, -1, 0, false, m2, j2⟩ := by
      rw [replayAll_rep, k3]
      dsimp only
      rw [ht]; rfl
    rw [hra]
    dsimp only
    have ho : On ⟨pol, lim, t.1, t.2, -1, 0, false, m2, j2⟩ (L.take k) k (i + 1) :=
      ⟨by rw [k3] at k4 ⊢; exact k4, ⟨t, ht⟩, by rw [List.take_take, Nat.min_self, ht]; dsimp only; rw [hcalm.nrm], fun _ => by rw [List.length_take, Nat.min_eq_left k2], hgi⟩
    have hopen : ∀ m ∈ openL t.1, m < t.1.length ∧ ((gAt t.1 m).st = 1 ∨ (gAt t.1 m).st = 2 ∨ (gAt t.1 m).st = 3) := by
      intro m hm
      rw [openL_mem] at hm
      have h3 := hcalm m hm.1
      have h4 : ¬ (4 ≤ (gAt t.1 m).st ∧ (gAt t.1 m).st ≤ 7) := by rw [← termF_iff, hm.2]; simp
      exact ⟨hm.1, by omega⟩
    have hol := openL_len t.1
    have hlen := hgi.len
    obtain ⟨⟨L3, s3, o3⟩, u3, z3⟩ := ho.endAll (l := openL t.1) rfl hopen (openL_nodup _) (st := 5) (at_ := latF t.1) (rs := wRestart) (by omega) (Int.le_refl _) (latF_max hgi) (by decide)
    have hI0 : Inv0 ⟨pol, lim, t.1, t.2, -1, 0, false, m2, j2⟩ := ⟨hgi.len, fun k hk => by have := hcalm k hk; dsimp only; omega, fun k hk h5 => by have := hcalm k hk; dsimp only at h5; omega, fun h5 => absurd h5 (show ¬ (0 : Int) ≤ -1 by decide), show (-1 : Int) ≤ -1 by decide, fun k hk => ((hgi.ends k).1 hk).1⟩
    have hI1 := hI0.endAll (l := openL t.1) (fun k hk => (hopen k hk).1) (st := 5) (by omega) (latF t.1) wRestart
    have hcur := endAll_cur (openL t.1) ⟨pol, lim, t.1, t.2, -1, 0, false, m2, j2⟩ 5 (latF t.1) wRestart rfl
    have hll := endAll_len (openL t.1) ⟨pol, lim, t.1, t.2, -1, 0, false, m2, j2⟩ 5 (latF t.1) wRestart
    have hst7 : ∀ k, k < t.1.length → (Go.Proofs.YthkimkgphaiagaaGreatDoor.endAll ⟨pol, lim, t.1, t.2, -1, 0, false, m2, j2⟩ (openL t.1) 5 (latF t.1) wRestart).1 = 0 → 4 ≤ (gAt (Go.Proofs.YthkimkgphaiagaaGreatDoor.endAll ⟨pol, lim, t.1, t.2, -1, 0, false, m2, j2⟩ (openL t.1) 5 (latF t.1) wRestart).2.l k).st := by
      intro k hk h0
      rcases hcalm k hk with h3 | h3
      · exact (z3 h0).2 k (openL_mem.2 ⟨hk, by rw [← Bool.not_eq_true, termF_iff]; omega⟩)
      · rw [u3.fin k hk h3.1]; exact h3.1
    generalize Go.Proofs.YthkimkgphaiagaaGreatDoor.endAll ⟨pol, lim, t.1, t.2, -1, 0, false, m2, j2⟩ (openL t.1) 5 (latF t.1) wRestart = f at o3 u3 z3 hI1 hcur hll hst7 ⊢
    dsimp only at u3 hll
    refine ⟨fun _ => ⟨L3, s3, _, o3.off.later (by omega), (hup.trans u3).trans (Up.nrm _).1⟩, fun h0 => ⟨L3, s3, o3.later (by omega), hup.trans u3, ?_, ?_⟩⟩
    · exact ⟨hI1, fun _ k hk => by have h5 := hst7 k (by omega) h0; omega⟩
    · intro k hk
      exact ⟨hst7 k (by omega) h0, (hI1.st k hk).2⟩
  · rw [if_pos he]
    exact ⟨fun _ => ⟨L, safe, p, ⟨⟨j, (h1 he).later (by omega)⟩, ⟨q, hq⟩, hnow⟩, Up.refl _⟩, fun h0 => absurd h0 he⟩
end Go.Proofs.YthkimkgphaiagaaGreatDoor
