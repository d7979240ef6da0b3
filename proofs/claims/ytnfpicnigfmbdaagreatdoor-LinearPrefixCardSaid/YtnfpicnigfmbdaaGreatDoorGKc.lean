import Derived.Test.YtnfpicnigfmbdaaGreatDoorGKa
set_option linter.unusedVariables false
set_option linter.unusedSimpArgs false
set_option linter.unnecessarySimpa false
namespace Go.Proofs.YtnfpicnigfmbdaaGreatDoor
open Go.RowKit Go.Xt
/-! A last call that ended with ErrRetry may be left out. -/
theorem acc_err11 {s : Md} {t : Int} {o : Ox} {r : Rs} (h : (acceptM s t o r).1 = true) (he : r.err = 11) : (acceptM s t o r).2 = s := by
  unfold acceptM at h ⊢
  by_cases hr : refM s t o = 0
  · rw [if_neg (fun h => h hr)] at h ⊢
    cases hx : s.th[t.toNat]? with
    | none => rfl
    | some x =>
      rw [hx] at h
      simp only at h ⊢
      by_cases h1 : (aloneR r && givesM s o r.err) = true
      · rw [if_pos h1]
      rw [if_neg h1] at h ⊢
      by_cases k12 : o.k = 12
      · rw [if_pos k12] at h ⊢
        by_cases h2 : (aloneR r && (r.err == 14)) = true
        · rw [he] at h2; simp at h2
        rw [if_neg h2] at h ⊢
        by_cases h3 : r.err = 0 ∧ r.fd = true ∧ r.cnt = 0 ∧ x.lo ≤ r.key ∧ r.key ≤ x.hi
        · omega
        rw [if_neg h3]
      rw [if_neg k12] at h ⊢
      by_cases k15 : o.k = 15
      · rw [if_pos k15]
      rw [if_neg k15] at h ⊢
      by_cases h4 : (perfM s t.toNat x o).1 = r
      · exfalso
        rcases perf_err s t.toNat x o with h5 | ⟨_, h5⟩ | ⟨_, h5⟩
        · rw [h4] at h5; omega
        · rw [h5] at h4; subst h4; simp at he
        · rw [h5] at h4; subst h4; simp at he
      rw [if_neg h4]
  · rw [if_pos hr]
theorem bad_take {l : List Cl} (hb : bad l = none) (k : Nat) : bad (l.take k) = none := by
  refine (badFrom_none (l.take k) (l.take k).length 0 (by omega)).2 fun j x _ hx => ?_
  rw [List.getElem?_take] at hx
  split at hx
  · have := good_at hb hx
    rw [List.take_take, Nat.min_eq_left (by omega)]
    exact this
  · cases hx
/-- An order without an index. -/
abbrev wo (N : Nat) (o : List Nat) : List Nat := o.filter fun i => decide (i ≠ N)
theorem wo_mem {N i : Nat} {o : List Nat} : i ∈ wo N o ↔ i ∈ o ∧ i ≠ N := by simp [wo, List.mem_filter]
theorem wo_snoc (N i : Nat) (o : List Nat) : wo N (o ++ [i]) = wo N o ++ if i = N then [] else [i] := by
  by_cases h : i = N <;> simp [wo, List.filter_append, h]
theorem goes_wo {l : List Cl} {N : Nat} (hN : l.length = N + 1) : ∀ (t o : List Nat), Goes l o t → Goes (l.take N) (wo N o) (wo N t)
  | [], _, _ => trivial
  | i :: t, o, ⟨hi, hm, hg⟩ => by
    have ih := goes_wo hN t (o ++ [i]) hg
    rw [wo_snoc] at ih
    by_cases h : i = N
    · rw [if_pos h, List.append_nil] at ih
      rw [show wo N (i :: t) = wo N t by simp [wo, h]]
      exact ih
    · rw [if_neg h] at ih
      rw [show wo N (i :: t) = i :: wo N t by simp [wo, h]]
      have hiN : i < N := by omega
      have hx : (l.take N)[i]? = some l[i] := by rw [List.getElem?_take, if_pos hiN, List.getElem?_eq_getElem hi]
      refine ⟨by rw [List.length_take]; omega, ?_, ih⟩
      rw [mayB_iff hx]
      rw [mayB_iff (List.getElem?_eq_getElem hi)] at hm
      refine ⟨fun hmem => hm.1 (wo_mem.1 hmem).1, fun k a ha hb => ?_⟩
      rw [List.getElem?_take] at ha
      split at ha
      · exact wo_mem.2 ⟨hm.2 k a ha hb, by omega⟩
      · cases ha
theorem run_wo {l : List Cl} {N : Nat} {x : Cl} (hN : l.length = N + 1) (hx : l[N]? = some x) (ha : 0 ≤ x.ans) (he : x.re = 11) :
    ∀ (t : List Nat) (s : Md), (∀ i ∈ t, i < l.length) → runM (l.take N) s (wo N t) = runM l s t ∨ runM l s t = none
  | [], s, _ => .inl rfl
  | i :: t, s, hr => by
    have hi := hr i (by simp)
    have hrt := fun j hj => hr j (List.mem_cons_of_mem _ hj)
    by_cases h : i = N
    · subst h
      rw [show wo i (i :: t) = wo i t by simp [wo], runM, hx]
      simp only [Option.bind_some]
      unfold nextM
      rw [if_neg (by omega)]
      by_cases hacc : (acceptM s x.th (opC x) (rsC x)).1 = true
      · rw [if_pos hacc]
        simp only
        rw [acc_err11 hacc he]
        exact run_wo hN hx ha he t s hrt
      · rw [if_neg hacc]; exact .inr rfl
    · have hiN : i < N := by omega
      rw [show wo N (i :: t) = i :: wo N t by simp [wo, h], runM, runM]
      rw [show (l.take N)[i]? = l[i]? by rw [List.getElem?_take, if_pos hiN]]
      cases hs : l[i]?.bind (nextM s) with
      | none => exact .inl rfl
      | some s' => exact run_wo hN hx ha he t s' hrt
/-- The law's plain part. -/
theorem lin_retry {l : List Cl} {N : Nat} {x : Cl} (hN : l.length = N + 1) (hx : l[N]? = some x) (ha : 0 ≤ x.ans) (he : x.re = 11) {s : Md} {z : List Nat} (h : Lin l s z) : Lin (l.take N) s (wo N z) := by
  obtain ⟨h1, h2, h3, h4⟩ := h
  have hg := (goes_iff l z [] (ord_nil _) (ordOk_nil l)).2 (by simpa using ⟨h1, h2⟩)
  have hg' := goes_wo hN z [] hg
  have e : wo N ([] : List Nat) = [] := rfl
  rw [e] at hg'
  have := (goes_iff (l.take N) (wo N z) [] (ord_nil _) (ordOk_nil _)).1 hg'
  rw [List.nil_append] at this
  refine ⟨this.1, this.2, ?_, ?_⟩
  · rcases run_wo hN hx ha he z s h1.2 with h | h
    · rw [h]; exact h3
    · rw [h] at h3; cases h3
  · rw [fullB_iff] at h4 ⊢
    intro i c hc hca
    rw [List.getElem?_take] at hc
    split at hc
    · exact wo_mem.2 ⟨h4 i c hc hca, by omega⟩
    · cases hc
end Go.Proofs.YtnfpicnigfmbdaaGreatDoor
namespace Go.Proofs.YtnfpicnigfmbdaaGreatDoor
open Go.RowKit Go.Xt
/-! Every prefix of a history that has a linearization has one. -/
/-- Two states that differ at most in what is left for the iterators of the threads of which pend speaks. -/
structure Sim (pend : Nat → Prop) (s t : Md) : Prop where
  slots : s.slots = t.slots
  l : s.l = t.l
  se : s.th.map (·.se) = t.th.map (·.se)
  th : ∀ k, ¬ pend k → s.th[k]? = t.th[k]?
theorem Sim.len {pend : Nat → Prop} {s t : Md} (h : Sim pend s t) : s.th.length = t.th.length := by
  have := congrArg List.length h.se; simpa using this
theorem Sim.cnt {pend : Nat → Prop} {s t : Md} (h : Sim pend s t) : cntS s.th = cntS t.th := by
  have : ∀ l : List Th, cntS l = (l.map (·.se)).countP id := fun l => by rw [List.countP_map]; rfl
  rw [this, this, h.se]
theorem Sim.refl (s : Md) : Sim (fun _ => False) s s := ⟨rfl, rfl, rfl, fun _ _ => rfl⟩
theorem Sim.mono {p q : Nat → Prop} {s t : Md} (h : Sim p s t) (hpq : ∀ k, p k → q k) : Sim q s t := ⟨h.slots, h.l, h.se, fun k hk => h.th k fun hp => hk (hpq k hp)⟩
/-- What an operation does: to the pairs, and to its thread. -/
theorem refM_sim {p : Nat → Prop} {s t : Md} (h : Sim p s t) {T : Int} (hT : 0 ≤ T → ¬ p T.toNat) (o : Ox) : refM s T o = refM t T o := by
  unfold refM
  rw [h.len]
  by_cases h0 : T < 0 ∨ (t.th.length : Int) ≤ T
  · rw [if_pos h0, if_pos h0]
  · rw [if_neg h0, if_neg h0, h.th _ (hT (by omega))]
/-- The state behind an operation differs from the one before in its pairs and its thread alone. -/
def Loc (s : Md) (k : Nat) (l : List (Int × Int)) (x : Th) : Md := { s with l := l, th := s.th.set k x }
theorem Sim.loc {p : Nat → Prop} {s t : Md} (h : Sim p s t) (k : Nat) (l : List (Int × Int)) (x : Th) : Sim p (Loc s k l x) (Loc t k l x) := by
  refine ⟨h.slots, rfl, ?_, fun j hj => ?_⟩
  · show (s.th.set k x).map (·.se) = (t.th.set k x).map (·.se)
    rw [List.map_set, List.map_set, h.se]
  · show (s.th.set k x)[j]? = (t.th.set k x)[j]?
    rw [List.getElem?_set, List.getElem?_set, h.len]
    split
    · rfl
    · exact h.th j hj
theorem perf_loc {p : Nat → Prop} {s t : Md} (h : Sim p s t) {k : Nat} {x : Th} (hs : s.th[k]? = some x) (ht : t.th[k]? = some x) (o : Ox) :
    ∃ r l y, perfM s k x o = (r, Loc s k l y) ∧ perfM t k x o = (r, Loc t k l y) := by
  obtain ⟨sl, sp, sth⟩ := s
  obtain ⟨tl, tp, tth⟩ := t
  obtain rfl : sl = tl := h.slots
  obtain rfl : sp = tp := h.l
  have hc : cntS sth = cntS tth := h.cnt
  have e1 : ∀ l : List (Int × Int), ({ slots := sl, l := l, th := sth } : Md) = Loc ⟨sl, sp, sth⟩ k l x := fun l => by unfold Loc; simp only [set_self hs]
  have e2 : ∀ l : List (Int × Int), ({ slots := sl, l := l, th := tth } : Md) = Loc ⟨sl, sp, tth⟩ k l x := fun l => by unfold Loc; simp only [set_self ht]
  unfold perfM
  by_cases k1 : o.k = 1
  · rw [if_pos k1, if_pos k1]
    unfold openE openM
    simp only [hc]
    by_cases hcs : sl ≤ (cntS tth : Nat)
    · simp only [if_pos hcs]
      exact ⟨_, sp, x, congrArg (Prod.mk _) (e1 _), congrArg (Prod.mk _) (e2 _)⟩
    · simp only [if_neg hcs]
      exact ⟨_, sp, _, rfl, rfl⟩
  rw [if_neg k1, if_neg k1]
  by_cases k2 : o.k = 2
  · rw [if_pos k2, if_pos k2]; exact ⟨_, sp, _, rfl, rfl⟩
  rw [if_neg k2, if_neg k2]
  by_cases k3 : o.k = 3
  · rw [if_pos k3, if_pos k3]; exact ⟨_, sp, x, congrArg (Prod.mk _) (e1 _), congrArg (Prod.mk _) (e2 _)⟩
  rw [if_neg k3, if_neg k3]
  by_cases k4 : o.k = 4
  · rw [if_pos k4, if_pos k4]; exact ⟨_, putL o.key o.val sp, x, congrArg (Prod.mk _) (e1 _), congrArg (Prod.mk _) (e2 _)⟩
  rw [if_neg k4, if_neg k4]
  by_cases k5 : o.k = 5
  · rw [if_pos k5, if_pos k5]; exact ⟨_, addL o.key o.val sp, x, congrArg (Prod.mk _) (e1 _), congrArg (Prod.mk _) (e2 _)⟩
  rw [if_neg k5, if_neg k5]
  by_cases k6 : o.k = 6
  · rw [if_pos k6, if_pos k6]; exact ⟨_, delL o.key sp, x, congrArg (Prod.mk _) (e1 _), congrArg (Prod.mk _) (e2 _)⟩
  rw [if_neg k6, if_neg k6]
  by_cases k7 : o.k = 7
  · rw [if_pos k7, if_pos k7]; exact ⟨_, casL o.key o.old o.val sp, x, congrArg (Prod.mk _) (e1 _), congrArg (Prod.mk _) (e2 _)⟩
  rw [if_neg k7, if_neg k7]
  by_cases k8 : o.k = 8
  · rw [if_pos k8, if_pos k8]; exact ⟨_, moveL o.key o.hi o.by_ sp, x, congrArg (Prod.mk _) (e1 _), congrArg (Prod.mk _) (e2 _)⟩
  rw [if_neg k8, if_neg k8]
  by_cases k9 : o.k = 9
  · rw [if_pos k9, if_pos k9]; exact ⟨_, outR o.key o.hi sp, x, congrArg (Prod.mk _) (e1 _), congrArg (Prod.mk _) (e2 _)⟩
  rw [if_neg k9, if_neg k9]
  by_cases k10 : o.k = 10
  · rw [if_pos k10, if_pos k10]; exact ⟨_, sp, x, congrArg (Prod.mk _) (e1 _), congrArg (Prod.mk _) (e2 _)⟩
  rw [if_neg k10, if_neg k10]
  by_cases k11 : o.k = 11
  · rw [if_pos k11, if_pos k11]; exact ⟨_, sp, _, rfl, rfl⟩
  rw [if_neg k11, if_neg k11]
  by_cases k12 : o.k = 12
  · rw [if_pos k12, if_pos k12]
    simp only
    cases hq : nextL x.lo x.hi sp with
    | none => exact ⟨_, sp, _, rfl, rfl⟩
    | some q => exact ⟨_, sp, _, rfl, rfl⟩
  rw [if_neg k12, if_neg k12]
  by_cases k13 : o.k = 13
  · rw [if_pos k13, if_pos k13]; exact ⟨_, sp, _, rfl, rfl⟩
  rw [if_neg k13, if_neg k13]
  by_cases k14 : o.k = 14
  · rw [if_pos k14, if_pos k14]; exact ⟨_, sp, _, rfl, rfl⟩
  rw [if_neg k14, if_neg k14]
  exact ⟨_, sp, x, congrArg (Prod.mk _) (e1 _), congrArg (Prod.mk _) (e2 _)⟩
theorem do_loc {p : Nat → Prop} {s t : Md} (h : Sim p s t) {T : Int} (hT : 0 ≤ T → ¬ p T.toNat) (o : Ox) : (doM s T o).1 = (doM t T o).1 ∧ Sim p (doM s T o).2 (doM t T o).2 := by
  by_cases hr : refM s T o = 0
  · obtain ⟨k, x, rfl, hx, hc, hre, hd⟩ := refM_zero hr
    have hx2 : t.th[k]? = some x := by rw [← h.th k (by simpa using hT (by omega))]; exact hx
    have hr2 : refM t k o = 0 := by rw [← refM_sim h hT]; exact hr
    obtain ⟨k', x', e, hx', -, -, hd'⟩ := refM_zero hr2
    obtain rfl : k = k' := by omega
    obtain rfl : x = x' := by rw [hx2] at hx'; injection hx'
    obtain ⟨r, l, y, e1, e2⟩ := perf_loc h hx hx2 o
    rw [hd, hd', e1, e2]
    exact ⟨rfl, h.loc k l y⟩
  · have e1 : doM s T o = (⟨refM s T o, false, 0, 0, 0⟩, s) := by unfold doM; rw [if_pos hr]
    have hr2 : refM t T o ≠ 0 := by rw [← refM_sim h hT]; exact hr
    have e2 : doM t T o = (⟨refM t T o, false, 0, 0, 0⟩, t) := by unfold doM; rw [if_pos hr2]
    rw [e1, e2, refM_sim h hT]
    exact ⟨rfl, h⟩
theorem gives_sim {p : Nat → Prop} {s t : Md} (h : Sim p s t) (o : Ox) (e : Int) : givesM s o e = givesM t o e := by
  unfold givesM birthsM; rw [h.l]
theorem acc_loc {p : Nat → Prop} {s t : Md} (h : Sim p s t) {T : Int} (hT : 0 ≤ T → ¬ p T.toNat) (o : Ox) (r : Rs) : (acceptM s T o r).1 = (acceptM t T o r).1 ∧ Sim p (acceptM s T o r).2 (acceptM t T o r).2 := by
  unfold acceptM
  rw [refM_sim h hT]
  by_cases hr : refM t T o = 0
  · rw [if_neg (fun h => h hr), if_neg (fun h => h hr)]
    obtain ⟨k, x, rfl, hx, hc, hre, hd⟩ := refM_zero hr
    have hx2 : s.th[k]? = some x := by rw [h.th k (by simpa using hT (by omega))]; exact hx
    rw [Int.toNat_natCast, hx, hx2, gives_sim h]
    simp only
    by_cases h1 : (aloneR r && givesM t o r.err) = true
    · rw [if_pos h1, if_pos h1]; exact ⟨rfl, h⟩
    rw [if_neg h1, if_neg h1]
    by_cases k12 : o.k = 12
    · rw [if_pos k12, if_pos k12]
      by_cases h2 : (aloneR r && (r.err == 14)) = true
      · rw [if_pos h2, if_pos h2]
        have := h.loc k s.l x.fin
        refine ⟨rfl, ?_⟩
        have e : Loc t k s.l x.fin = Loc t k t.l x.fin := by rw [h.l]
        rw [e] at this
        exact this
      rw [if_neg h2, if_neg h2]
      by_cases h3 : r.err = 0 ∧ r.fd = true ∧ r.cnt = 0 ∧ x.lo ≤ r.key ∧ r.key ≤ x.hi
      · rw [if_pos h3, if_pos h3]
        have := h.loc k s.l (x.after r.key)
        refine ⟨rfl, ?_⟩
        have e : Loc t k s.l (x.after r.key) = Loc t k t.l (x.after r.key) := by rw [h.l]
        rw [e] at this
        exact this
      rw [if_neg h3, if_neg h3]; exact ⟨rfl, h⟩
    rw [if_neg k12, if_neg k12]
    by_cases k15 : o.k = 15
    · rw [if_pos k15, if_pos k15]; exact ⟨rfl, h⟩
    rw [if_neg k15, if_neg k15]
    obtain ⟨r', l, y, e1, e2⟩ := perf_loc h hx2 hx o
    rw [e1, e2]
    by_cases h4 : r' = r
    · rw [if_pos h4, if_pos h4]; exact ⟨rfl, h.loc k l y⟩
    rw [if_neg h4, if_neg h4]; exact ⟨rfl, h⟩
  · rw [if_pos hr, if_pos hr]; exact ⟨rfl, h⟩
/-- Of an accepted result's state all but the thread's iterator is as before, or as behind Do. -/
theorem acc_two {s : Md} (T : Int) (o : Ox) {r : Rs} (ha : (acceptM s T o r).1 = true) :
    Sim (fun k => (k : Int) = T) (acceptM s T o r).2 s ∨ (acceptM s T o r).2 = (doM s T o).2 := by
  unfold acceptM at ha ⊢
  by_cases hr : refM s T o = 0
  · rw [if_neg (fun h => h hr)] at ha ⊢
    obtain ⟨k, x, rfl, hx, hc, hre, hd⟩ := refM_zero hr
    rw [Int.toNat_natCast, hx] at ha ⊢
    simp only at ha ⊢
    have keep : ∀ y : Th, y.se = x.se → Sim (fun j => (j : Int) = k) { s with th := s.th.set k y } s := fun y hy => by
      refine ⟨rfl, rfl, ?_, fun j hj => ?_⟩
      · show (s.th.set k y).map (·.se) = _
        rw [List.map_set, hy]
        apply List.ext_getElem?
        intro j
        rw [List.getElem?_set]
        split
        · rename_i e
          subst e
          split
          · rw [List.getElem?_map, hx]; rfl
          · rename_i hlt
            rw [List.length_map] at hlt
            exact absurd (List.getElem?_eq_some_iff.1 hx).1 hlt
        · rfl
      · show (s.th.set k y)[j]? = _
        rw [List.getElem?_set, if_neg (fun e => hj (by omega))]
    by_cases h1 : (aloneR r && givesM s o r.err) = true
    · rw [if_pos h1]; exact .inl ((Sim.refl s).mono fun _ h => h.elim)
    rw [if_neg h1] at ha ⊢
    by_cases k12 : o.k = 12
    · rw [if_pos k12] at ha ⊢
      by_cases h2 : (aloneR r && (r.err == 14)) = true
      · rw [if_pos h2]; exact .inl (keep _ rfl)
      rw [if_neg h2] at ha ⊢
      by_cases h3 : r.err = 0 ∧ r.fd = true ∧ r.cnt = 0 ∧ x.lo ≤ r.key ∧ r.key ≤ x.hi
      · rw [if_pos h3]
        refine .inl (keep _ ?_)
        unfold Th.after Th.from_
        split
        · rfl
        · split <;> rfl
      rw [if_neg h3] at ha; cases ha
    rw [if_neg k12] at ha ⊢
    by_cases k15 : o.k = 15
    · rw [if_pos k15]; exact .inl ((Sim.refl s).mono fun _ h => h.elim)
    rw [if_neg k15] at ha ⊢
    by_cases h4 : (perfM s k x o).1 = r
    · rw [if_pos h4, hd]; exact .inr rfl
    rw [if_neg h4] at ha; cases ha
  · rw [if_pos hr]; exact .inl ((Sim.refl s).mono fun _ h => h.elim)
theorem Sim.trans {p q : Nat → Prop} {s t u : Md} (h : Sim p s t) (k : Sim q t u) : Sim (fun i => p i ∨ q i) s u :=
  ⟨h.slots.trans k.slots, h.l.trans k.l, h.se.trans k.se, fun i hi => (h.th i fun x => hi (.inl x)).trans (k.th i fun x => hi (.inr x))⟩
/-- Whether a call was answered by a step. -/
def early (st : Int) (l : List Cl) (i : Nat) : Bool := match l[i]? with | some c => decide (0 ≤ c.ans) && decide (c.ans ≤ st) | none => false
theorem early_iff {st : Int} {l : List Cl} {i : Nat} {c : Cl} (hc : l[i]? = some c) : early st l i = true ↔ 0 ≤ c.ans ∧ c.ans ≤ st := by rw [early, hc]; simp
/-- A list parted behind the last one with a property. -/
theorem part_last (P : Nat → Bool) : ∀ z : List Nat, ∃ u v, z = u ++ v ∧ (∀ i ∈ v, P i = false) ∧ (u = [] ∨ ∃ u0 y, u = u0 ++ [y] ∧ P y = true)
  | [] => ⟨[], [], rfl, by simp, .inl rfl⟩
  | i :: z => by
    obtain ⟨u, v, rfl, hv, hu⟩ := part_last P z
    rcases hu with rfl | ⟨u0, y, rfl, hy⟩
    · cases hp : P i with
      | true => exact ⟨[i], v, rfl, hv, .inr ⟨[], i, rfl, hp⟩⟩
      | false => exact ⟨[], i :: v, rfl, fun j hj => by
          rcases List.mem_cons.1 hj with rfl | h
          · exact hp
          · exact hv j h, .inl rfl⟩
    · exact ⟨i :: (u0 ++ [y]), v, rfl, hv, .inr ⟨i :: u0, y, rfl, hy⟩⟩
/-- The threads of those calls of o that are pending after a step. -/
def pendT (st : Int) (l : List Cl) (o : List Nat) (k : Nat) : Prop := ∃ i ∈ o, early st l i = false ∧ ∃ c, l[i]? = some c ∧ c.th = (k : Int)
theorem pfx_op (st : Int) (x : Cl) : opC (pfx st x) = opC x := by simp only [opC, pfx]; (repeat' split) <;> rfl
theorem pfx_rs {st : Int} {x : Cl} (h : ¬ st < x.ans) : rsC (pfx st x) = rsC x := by simp only [rsC, pfx, if_neg h]; split <;> rfl
theorem goes_left (l : List Cl) : ∀ (u o v : List Nat), Goes l o (u ++ v) → Goes l o u
  | [], _, _, _ => trivial
  | _ :: u, o, v, ⟨h1, h2, h3⟩ => ⟨h1, h2, goes_left l u _ v h3⟩
theorem sim_run {st : Int} (hst : -1 ≤ st) {l : List Cl} (hb : bad l = none) : ∀ (u o o' : List Nat) (s t : Md),
    Goes l o u → (∀ i ∈ u, ∀ c, l[i]? = some c → c.inv ≤ st) → (∀ j ∈ o, ∀ c, l[j]? = some c → ∀ k a, l[k]? = some a → bf a c = true → k ∈ o) → (runM l s u).isSome = true →
    Sim (pendT st l o) s t → (∀ i, i ∈ o' → i ∈ o) → (∀ i, i ∈ o → early st l i = true → i ∈ o') →
    ∃ u', Goes (pres st l) o' u' ∧ (runM (pres st l) t u').isSome = true ∧ (∀ i ∈ u, early st l i = true → i ∈ u')
  | [], o, o', s, t, _, _, _, _, _, _, _ => ⟨[], trivial, rfl, by simp⟩
  | i :: u, o, o', s, t, ⟨hi, hm, hg⟩, hinv, hcl, hrun, hsim, hsub, hear => by
    obtain ⟨x, hx⟩ : ∃ x, l[i]? = some x := ⟨_, List.getElem?_eq_getElem hi⟩
    rw [mayB_iff hx] at hm
    have hxi := hinv i (by simp) x hx
    have hp : (pres st l)[i]? = some (pfx st x) := pres_in hb hx hxi
    have hpl := (List.getElem?_eq_some_iff.1 hp).1
    -- the call may be performed in the prefix too
    have hm' : mayB (pres st l) o' i = true := by
      rw [mayB_iff hp]
      refine ⟨fun h => hm.1 (hsub i h), fun k a ha hbf => ?_⟩
      obtain ⟨a0, ha0, -, rfl, -⟩ := pres_get ha
      simp only [bf, Bool.and_eq_true, decide_eq_true_eq, pfx_ans, pfx_inv] at hbf
      by_cases hlt : st < a0.ans
      · rw [if_pos hlt] at hbf; omega
      rw [if_neg hlt] at hbf
      exact hear k (hm.2 k a0 ha0 (by simp only [bf, Bool.and_eq_true, decide_eq_true_eq]; exact hbf)) ((early_iff ha0).2 (by omega))
    -- its thread has no call before it that is pending after the step
    have hT : 0 ≤ x.th → ¬ pendT st l o x.th.toNat := fun h0 ⟨j, hj, hje, c, hc, hct⟩ => by
      have hct : c.th = x.th := by omega
      rcases Nat.lt_trichotomy i j with h | h | h
      · have hbf := prec hb j i x c h hx hc hct.symm
        exact hm.1 (hcl j hj c hc i x hx hbf)
      · subst h; exact hm.1 hj
      · have hbf := prec hb i j c x h hc hx hct
        simp only [bf, Bool.and_eq_true, decide_eq_true_eq] at hbf
        rw [early, hc] at hje
        simp at hje
        omega
    have hcl' : ∀ j ∈ o ++ [i], ∀ c, l[j]? = some c → ∀ k a, l[k]? = some a → bf a c = true → k ∈ o ++ [i] := fun j hj c hc k a ha hbf => by
      rcases List.mem_append.1 hj with h | h
      · exact List.mem_append_left _ (hcl j h c hc k a ha hbf)
      · simp at h
        subst h
        rw [hx] at hc; injection hc with hc; subst hc
        exact List.mem_append_left _ (hm.2 k a ha hbf)
    have hinv' : ∀ j ∈ u, ∀ c, l[j]? = some c → c.inv ≤ st := fun j hj => hinv j (List.mem_cons_of_mem _ hj)
    have hpm : ∀ k, pendT st l o k → pendT st l (o ++ [i]) k := fun k ⟨j, hj, h⟩ => ⟨j, List.mem_append_left _ hj, h⟩
    rw [runM, hx] at hrun
    simp only [Option.bind_some] at hrun
    -- with the call
    have take : ∀ s' t', nextM s x = some s' → nextM t (pfx st x) = some t' → Sim (pendT st l o) s' t' → ∃ u', Goes (pres st l) o' u' ∧ (runM (pres st l) t u').isSome = true ∧ (∀ j ∈ i :: u, early st l j = true → j ∈ u') := fun s' t' h1 h2 h3 => by
      rw [h1] at hrun
      obtain ⟨u', g1, g2, g3⟩ := sim_run hst hb u (o ++ [i]) (o' ++ [i]) s' t' hg hinv' hcl' hrun (h3.mono hpm)
        (fun j hj => by
          rcases List.mem_append.1 hj with h | h
          · exact List.mem_append_left _ (hsub j h)
          · exact List.mem_append_right _ h)
        (fun j hj he => by
          rcases List.mem_append.1 hj with h | h
          · exact List.mem_append_left _ (hear j h he)
          · exact List.mem_append_right _ h)
      refine ⟨i :: u', ⟨hpl, hm', g1⟩, ?_, fun j hj he => ?_⟩
      · rw [runM, hp]; simp only [Option.bind_some]; rw [h2]; exact g2
      · rcases List.mem_cons.1 hj with rfl | h
        · simp
        · exact List.mem_cons_of_mem _ (g3 j h he)
    by_cases ha : x.ans < 0
    · -- pending in both
      have hd := do_loc hsim hT (opC x)
      refine take _ _ (by unfold nextM; rw [if_pos ha]) ?_ hd.2
      unfold nextM
      have ey : (pfx st x).ans < 0 := by rw [pfx_ans]; split <;> omega
      rw [if_pos ey, pfx_op, pfx_th]
    by_cases hst2 : st < x.ans
    · -- pending in the prefix
      have hy : (pfx st x).ans < 0 := by rw [pfx_ans, if_pos hst2]; decide
      have hne : early st l i = false := by
        cases h : early st l i with
        | false => rfl
        | true => have := (early_iff hx).1 h; omega
      cases hacc : (acceptM s x.th (opC x) (rsC x)).1 with
      | false =>
        exfalso
        unfold nextM at hrun
        rw [if_neg ha, hacc] at hrun
        cases hrun
      | true =>
      have hn : nextM s x = some (acceptM s x.th (opC x) (rsC x)).2 := by unfold nextM; rw [if_neg ha, if_pos hacc]
      rcases acc_two x.th (opC x) hacc with h2 | h2
      · -- left out
        rw [hn] at hrun
        obtain ⟨u', g1, g2, g3⟩ := sim_run hst hb u (o ++ [i]) o' _ t hg hinv' hcl' hrun ((h2.trans hsim).mono (fun k hk => by
            rcases hk with hk | hk
            · exact ⟨i, by simp, hne, x, hx, hk.symm⟩
            · exact hpm k hk))
          (fun j hj => List.mem_append_left _ (hsub j hj))
          (fun j hj he => by
            rcases List.mem_append.1 hj with h | h
            · exact hear j h he
            · simp at h; subst h; rw [hne] at he; cases he)
        refine ⟨u', g1, g2, fun j hj he => ?_⟩
        rcases List.mem_cons.1 hj with rfl | h
        · rw [hne] at he; cases he
        · exact g3 j h he
      · have hd := do_loc hsim hT (opC x)
        refine take _ _ (by rw [hn, h2]) ?_ hd.2
        unfold nextM
        rw [if_pos hy, pfx_op, pfx_th]
    · -- answered by the step
      have hd := acc_loc hsim hT (opC x) (rsC x)
      cases hacc : (acceptM s x.th (opC x) (rsC x)).1 with
      | false =>
        exfalso
        unfold nextM at hrun
        rw [if_neg ha, hacc] at hrun
        cases hrun
      | true =>
      refine take _ _ (by unfold nextM; rw [if_neg ha, if_pos hacc]) ?_ hd.2
      unfold nextM
      have ey : ¬ (pfx st x).ans < 0 := by rw [pfx_ans, if_neg hst2]; exact ha
      rw [if_neg ey, pfx_op, pfx_th, pfx_rs hst2, ← hd.1, if_pos hacc]
/-- The law's plain part. -/
theorem lin_prefix {st : Int} (hst : -1 ≤ st) {l : List Cl} (hb : bad l = none) {s : Md} {z : List Nat} (h : Lin l s z) : ∃ z', Lin (pres st l) s z' := by
  obtain ⟨h1, h2, h3, h4⟩ := h
  have hg := (goes_iff l z [] (ord_nil _) (ordOk_nil l)).2 (by simpa using ⟨h1, h2⟩)
  obtain ⟨u, v, rfl, hv, hu⟩ := part_last (early st l) z
  have hrun : (runM l s u).isSome = true := by
    rw [runM_app] at h3
    cases hr : runM l s u with
    | none => rw [hr] at h3; cases h3
    | some s' => rfl
  have hinv : ∀ i ∈ u, ∀ c, l[i]? = some c → c.inv ≤ st := fun i hi c hc => by
    rcases hu with rfl | ⟨u0, y, rfl, hy⟩
    · cases hi
    · have hyl : y < l.length := h1.2 y (by simp)
      have hyc := List.getElem?_eq_getElem hyl
      have hye := (early_iff hyc).1 hy
      rcases List.mem_append.1 hi with hi0 | hi0
      · by_cases hgt : c.inv ≤ st
        · exact hgt
        exfalso
        obtain ⟨k, hk⟩ := List.mem_iff_getElem?.1 hi0
        have hkl := (List.getElem?_eq_some_iff.1 hk).1
        have hz : (u0 ++ [y] ++ v)[k]? = some i := by
          rw [List.append_assoc, List.getElem?_append_left hkl]; exact hk
        rcases h2 k i y l[y] c hz hc hyc with h5 | h5
        · rw [List.append_assoc, List.take_append_of_le_length (by omega)] at h5
          have h6 : y ∈ u0 := List.mem_of_mem_take h5
          have hnd := h1.1
          rw [List.append_assoc, List.nodup_append] at hnd
          exact hnd.2.2 y h6 y (by simp) rfl
        · simp only [bf] at h5
          simp at h5
          omega
      · simp at hi0
        subst hi0
        rw [hyc] at hc; injection hc with hc; subst hc
        have h7 := ans_ge hb hyc hye.1
        have h8 := took_le hb hyc h7.1
        omega
  obtain ⟨u', g1, g2, g3⟩ := sim_run hst hb u [] [] s s (goes_left l u [] v hg) hinv (by simp) hrun ((Sim.refl s).mono fun _ h => h.elim) (by simp) (by simp)
  have := (goes_iff (pres st l) u' [] (ord_nil _) (ordOk_nil _)).1 g1
  rw [List.nil_append] at this
  refine ⟨u', this.1, this.2, g2, ?_⟩
  rw [fullB_iff]
  intro i c hc hca
  obtain ⟨a0, ha0, -, rfl, -⟩ := pres_get hc
  rw [pfx_ans] at hca
  by_cases hlt : st < a0.ans
  · rw [if_pos hlt] at hca; omega
  rw [if_neg hlt] at hca
  have he : early st l i = true := (early_iff ha0).2 (by omega)
  have hm := fullB_iff.1 h4 i a0 ha0 hca
  rcases List.mem_append.1 hm with h | h
  · exact g3 i h he
  · rw [hv i h] at he; cases he
end Go.Proofs.YtnfpicnigfmbdaaGreatDoor
