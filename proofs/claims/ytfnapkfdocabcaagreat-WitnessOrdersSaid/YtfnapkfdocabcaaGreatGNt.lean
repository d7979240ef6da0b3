import Derived.Test.YtfnapkfdocabcaaGreatGNs
set_option linter.unusedVariables false
set_option linter.unusedSimpArgs false
set_option linter.unnecessarySimpa false
namespace Go.Proofs.YtfnapkfdocabcaaGreat
open Go.RowKit Go.Xt
/-! WitnessOrders, plain. -/
/-- The step of a call in the witness order; whether it is a read. -/
def stI (out : List Sta) (l : List Cl) (i : Nat) : Int := match l[i]? with
  | some x => if readB x = true then explM out x else x.took
  | none => 0
def rdI (l : List Cl) (i : Nat) : Bool := match l[i]? with
  | some x => readB x
  | none => false
/-- An order of the calls that took effect, by their steps. -/
structure WOrd (out : List Sta) (l : List Cl) (o : List Nat) : Prop where
  perm : o.Perm (idxK l l.length)
  sorted : o.Pairwise fun i j => stI out l i < stI out l j ∨ (stI out l i = stI out l j ∧ (rdI l i = true → rdI l j = true))
theorem WOrd.mem {out : List Sta} {l : List Cl} {o : List Nat} (h : WOrd out l o) {i : Nat} : i ∈ o ↔ ∃ x, l[i]? = some x ∧ 0 ≤ x.took := by
  rw [h.perm.mem_iff, idxK_mem]
  exact ⟨fun h => h.2, fun ⟨x, hx, h0⟩ => ⟨(List.getElem?_eq_some_iff.1 hx).1, x, hx, h0⟩⟩
theorem WOrd.nodup {out : List Sta} {l : List Cl} {o : List Nat} (h : WOrd out l o) : o.Nodup := h.perm.nodup_iff.2 (idxK_nodup l _)
theorem WOrd.ord {out : List Sta} {l : List Cl} {o : List Nat} (h : WOrd out l o) : Ord l.length o := ⟨h.nodup, fun i hi => by
  obtain ⟨x, hx, -⟩ := h.mem.1 hi
  exact (List.getElem?_eq_some_iff.1 hx).1⟩
theorem read_facts {l : List Cl} (hb : bad l = none) {i : Nat} {x : Cl} (hx : l[i]? = some x) (hr : readB x = true) : x.kd = 3 ∧ x.re = 0 ∧ 0 ≤ x.ans ∧ 0 ≤ x.took ∧ x.took ≤ x.ans ∧ x.inv ≤ x.took ∧ 0 ≤ x.inv := by
  unfold readB at hr
  simp only [Bool.and_eq_true, decide_eq_true_eq] at hr
  have h1 := ans_ge hb hx hr.2.1
  exact ⟨hr.1, hr.2.2, hr.2.1, h1.1, h1.2, took_le hb hx h1.1, inv_nonneg hb hx⟩
/-- Where the step of a call lies. -/
theorem stI_in {maps : List Sta} {l : List Cl} (hb : bad l = none) (hM : Maps maps) (hR : badR maps l 0 = none) {i : Nat} {x : Cl} (hx : l[i]? = some x) (h0 : 0 ≤ x.took) : x.inv ≤ stI maps l i ∧ (0 ≤ x.ans → stI maps l i ≤ x.ans) := by
  unfold stI
  rw [hx]
  simp only
  by_cases hr : readB x = true
  · rw [if_pos hr]
    obtain ⟨-, -, h1, h2, h3, h4, h5⟩ := read_facts hb hx hr
    have hex := (badR_none l 0).1 hR x (List.mem_of_getElem? hx) hr
    rcases explM_spec hM h5 (by omega : x.inv ≤ x.ans) with ⟨-, -, -, a, b, -⟩ | ⟨a, -⟩
    · exact ⟨a, fun _ => b⟩
    · omega
  · rw [if_neg hr]
    exact ⟨took_le hb hx h0, fun ha => (ans_ge hb hx ha).2⟩
/-- The witness order agrees with precedence. -/
theorem WOrd.ok {maps : List Sta} {l : List Cl} (hb : bad l = none) (hM : Maps maps) (hR : badR maps l 0 = none) {o : List Nat} (h : WOrd maps l o) : ordOk l o := by
  intro k q i x y hq hy hx
  cases hbf : bf x y with
  | false => exact .inr rfl
  | true =>
    left
    simp only [bf, Bool.and_eq_true, decide_eq_true_eq] at hbf
    have h1 := ans_ge hb hx hbf.1
    have hm : i ∈ o := h.mem.2 ⟨x, hx, h1.1⟩
    obtain ⟨y', hy', hy0⟩ := h.mem.1 (List.mem_of_getElem? hq)
    obtain rfl : y = y' := by rw [hy] at hy'; injection hy'
    obtain ⟨j, hj⟩ := List.mem_iff_getElem?.1 hm
    have s1 := stI_in hb hM hR hx h1.1
    have s2 := stI_in hb hM hR hy hy0
    rcases Nat.lt_trichotomy j k with hjk | hjk | hjk
    · exact mem_take hj hjk
    · exfalso
      subst hjk
      rw [hj] at hq; injection hq with hq; subst hq
      rw [hx] at hy; injection hy with hy; subst hy
      have := took_le hb hx h1.1
      omega
    · exfalso
      obtain ⟨p1, e1⟩ := List.getElem?_eq_some_iff.1 hq
      obtain ⟨p2, e2⟩ := List.getElem?_eq_some_iff.1 hj
      have h3 := List.pairwise_iff_getElem.1 h.sorted k j p1 p2 hjk
      rw [e1, e2] at h3
      have h4 := s1.2 hbf.1
      rcases h3 with h3 | h3 <;> omega
/-- Calls that fit. -/
theorem fits_read {s s' : Md} {x : Cl} (hf : fitsM s x = some s') (hr : readB x = true) : s' = s ∧ (doM s x.th (opC x)).1.err = 0 := by
  unfold fitsM at hf
  split at hf
  · cases hf
  · rename_i hlt
    have hf : (if (doM s x.th (opC x)).1.err = 0 then some (doM s x.th (opC x)).2 else none) = some s' := by
      first | exact hf | (rw [if_pos hr] at hf; exact hf)
    split at hf
    · rename_i h1
      injection hf with hf
      unfold readB at hr
      simp only [Bool.and_eq_true, decide_eq_true_eq] at hr
      exact ⟨by rw [← hf]; exact (get_same (o := opC x) hr.1).1, h1⟩
    · cases hf
theorem fits_next {s s' : Md} {x : Cl} (hf : fitsM s x = some s') (hr : readB x = false) : nextM s x = some s' := by
  unfold fitsM at hf
  split at hf
  · cases hf
  · rw [if_neg (by simp [hr])] at hf; exact hf
theorem runF_app (l : List Cl) : ∀ (a b : List Nat) (s : Md), runF l (a ++ b) s = (runF l a s).bind fun s' => runF l b s'
  | [], b, s => rfl
  | i :: a, b, s => by
    rw [List.cons_append, runF, runF]
    cases hx : l[i]? with
    | none => rfl
    | some x =>
      simp only
      cases hf : fitsM s x with
      | none => rfl
      | some s' => exact runF_app l a b s'
/-- Reads may be left out. -/
theorem runF_nr (l : List Cl) : ∀ (ys : List Nat) (s s2 : Md), runF l ys s = some s2 → runF l (ys.filter fun i => !rdI l i) s = some s2
  | [], s, s2, h => h
  | i :: t, s, s2, h => by
    rw [runF] at h
    cases hx : l[i]? with
    | none => rw [hx] at h; cases h
    | some x =>
      rw [hx] at h
      simp only at h
      cases hf : fitsM s x with
      | none => rw [hf] at h; cases h
      | some s' =>
        rw [hf] at h
        simp only at h
        have hrd : rdI l i = readB x := by unfold rdI; rw [hx]
        cases hr : readB x with
        | true =>
          rw [List.filter_cons_of_neg (by rw [hrd, hr]; simp)]
          have := (fits_read hf hr).1
          subst this
          exact runF_nr l t s' s2 h
        | false =>
          rw [List.filter_cons_of_pos (by rw [hrd, hr]; simp), runF, hx]
          simp only
          rw [hf]
          exact runF_nr l t s' s2 h
/-- The state after a step is that behind the calls that are no reads. -/
theorem runF_at (l : List Cl) (e : Int) : ∀ (ys : List Nat) (s : Md), (ys.Pairwise fun i j => tk l i < tk l j) → (runF l ys s).isSome = true → runF l (ys.filter fun i => !rdI l i && decide (tk l i ≤ e)) s = some (stAt l ys s e)
  | [], s, _, _ => rfl
  | i :: t, s, hp, h => by
    rw [List.pairwise_cons] at hp
    rw [runF] at h
    rw [stAt]
    cases hx : l[i]? with
    | none => rw [hx] at h; cases h
    | some x =>
      rw [hx] at h
      simp only at h ⊢
      cases hf : fitsM s x with
      | none => rw [hf] at h; cases h
      | some s' =>
        rw [hf] at h
        simp only at h ⊢
        have htk : tk l i = x.took := tk_of hx
        have hrd : rdI l i = readB x := by unfold rdI; rw [hx]
        by_cases hle : x.took ≤ e
        · rw [if_pos hle]
          have ih := runF_at l e t s' hp.2 h
          cases hr : readB x with
          | true =>
            rw [List.filter_cons_of_neg (by rw [hrd, hr]; simp)]
            have := (fits_read hf hr).1
            subst this
            exact ih
          | false =>
            rw [List.filter_cons_of_pos (by rw [hrd, hr, htk]; simp [hle]), runF, hx]
            simp only
            rw [hf]
            exact ih
        · rw [if_neg hle]
          have : ((i :: t).filter fun i => !rdI l i && decide (tk l i ≤ e)) = [] := by
            rw [List.filter_eq_nil_iff]
            intro j hj
            have : e < tk l j := by
              rcases List.mem_cons.1 hj with rfl | hj
              · omega
              · have := hp.1 j hj; omega
            simp; omega
          rw [this]; rfl
/-! What other threads do leaves a thread alone. -/
theorem perf_th (s : Md) (t : Nat) (x : Th) (o : Ox) {u : Nat} (hu : u ≠ t) : (perfM s t x o).2.th[u]? = s.th[u]? := by
  unfold perfM
  by_cases k1 : o.k = 1
  · rw [if_pos k1]
    show (openM s t x).th[u]? = _; unfold openM; split <;> first | rfl | exact List.getElem?_set_ne (Ne.symm hu)
  rw [if_neg k1]
  by_cases k2 : o.k = 2
  · rw [if_pos k2]
    exact List.getElem?_set_ne (Ne.symm hu)
  rw [if_neg k2]
  by_cases k3 : o.k = 3
  · rw [if_pos k3]
  rw [if_neg k3]
  by_cases k4 : o.k = 4
  · rw [if_pos k4]
  rw [if_neg k4]
  by_cases k5 : o.k = 5
  · rw [if_pos k5]
  rw [if_neg k5]
  by_cases k6 : o.k = 6
  · rw [if_pos k6]
  rw [if_neg k6]
  by_cases k7 : o.k = 7
  · rw [if_pos k7]
  rw [if_neg k7]
  by_cases k8 : o.k = 8
  · rw [if_pos k8]
  rw [if_neg k8]
  by_cases k9 : o.k = 9
  · rw [if_pos k9]
  rw [if_neg k9]
  by_cases k10 : o.k = 10
  · rw [if_pos k10]
  rw [if_neg k10]
  by_cases k11 : o.k = 11
  · rw [if_pos k11]
    exact List.getElem?_set_ne (Ne.symm hu)
  rw [if_neg k11]
  by_cases k12 : o.k = 12
  · rw [if_pos k12]
    cases nextL x.lo x.hi s.l <;> exact List.getElem?_set_ne (Ne.symm hu)
  rw [if_neg k12]
  by_cases k13 : o.k = 13
  · rw [if_pos k13]
    exact List.getElem?_set_ne (Ne.symm hu)
  rw [if_neg k13]
  by_cases k14 : o.k = 14
  · rw [if_pos k14]
    exact List.getElem?_set_ne (Ne.symm hu)
  rw [if_neg k14]
theorem do_th {s : Md} {t : Int} {o : Ox} {u : Nat} (hu : (u : Int) ≠ t) : (doM s t o).2.th[u]? = s.th[u]? := by
  by_cases hr : refM s t o = 0
  · obtain ⟨n, x, rfl, hx, hc, hre, hd⟩ := refM_zero hr
    rw [hd]; exact perf_th s n x o (by omega)
  · have e : doM s t o = (⟨refM s t o, false, 0, 0, 0⟩, s) := by unfold doM; rw [if_pos hr]
    rw [e]
theorem acc_th {s : Md} {t : Int} {o : Ox} {r : Rs} {u : Nat} (hu : (u : Int) ≠ t) : (acceptM s t o r).2.th[u]? = s.th[u]? := by
  by_cases hr : refM s t o = 0
  · obtain ⟨n, x, rfl, hx, hc, hre, hd⟩ := refM_zero hr
    have hne : n ≠ u := by omega
    unfold acceptM
    rw [if_neg (fun h => h hr), Int.toNat_natCast, hx]
    simp only
    split
    · rfl
    · split
      · split
        · exact List.getElem?_set_ne hne
        · split
          · exact List.getElem?_set_ne hne
          · rfl
      · split
        · rfl
        · split
          · exact perf_th s n x o (by omega)
          · rfl
  · unfold acceptM; rw [if_pos hr]
theorem fits_th {s s' : Md} {x : Cl} (hf : fitsM s x = some s') {u : Nat} (hu : (u : Int) ≠ x.th ∨ readB x = true) : s'.th[u]? = s.th[u]? := by
  by_cases hr : readB x = true
  · rw [(fits_read hf hr).1]
  · have hu := hu.resolve_right hr
    have hn := fits_next hf (by simpa using hr)
    unfold nextM at hn
    split at hn
    · injection hn with hn; rw [← hn]; exact do_th hu
    · split at hn
      · injection hn with hn; rw [← hn]; exact acc_th hu
      · cases hn
theorem fits_len {s s' : Md} {x : Cl} (hf : fitsM s x = some s') : s'.th.length = s.th.length := by
  unfold fitsM at hf
  split at hf
  · cases hf
  · split at hf
    · split at hf
      · injection hf with hf; rw [← hf]; exact (doM_len _ _ _).1
      · cases hf
    · unfold nextM at hf
      split at hf
      · injection hf with hf; rw [← hf]; exact (doM_len _ _ _).1
      · split at hf
        · injection hf with hf; rw [← hf]; exact wacceptM_len _ _ _ _
        · cases hf
theorem stAt_len (l : List Cl) : ∀ (ys : List Nat) (s : Md) (e : Int), (stAt l ys s e).th.length = s.th.length
  | [], _, _ => rfl
  | i :: t, s, e => by
    rw [stAt]
    cases hx : l[i]? with
    | none => rfl
    | some x =>
      simp only
      split
      · cases hf : fitsM s x with
        | none => rfl
        | some s' => simp only; rw [stAt_len l t s' e, fits_len hf]
      · rfl
theorem stAt_th0 (l : List Cl) (u : Nat) (e : Int) : ∀ (ys : List Nat) (s : Md), (∀ j ∈ ys, tk l j ≤ e → ∀ y, l[j]? = some y → (u : Int) ≠ y.th ∨ readB y = true) → (stAt l ys s e).th[u]? = s.th[u]?
  | [], _, _ => rfl
  | i :: t, s, h => by
    rw [stAt]
    cases hx : l[i]? with
    | none => rfl
    | some x =>
      simp only
      split
      · rename_i hle
        cases hf : fitsM s x with
        | none => rfl
        | some s' =>
          simp only
          rw [stAt_th0 l u e t s' (fun j hj => h j (by simp [hj])), fits_th hf (h i (by simp) (by rw [tk_of hx]; exact hle) x hx)]
      · rfl
theorem stAt_th (l : List Cl) (u : Nat) {e1 e2 : Int} (h12 : e1 ≤ e2) : ∀ (ys : List Nat) (s : Md), (ys.Pairwise fun i j => tk l i < tk l j) → (∀ j ∈ ys, e1 < tk l j → tk l j ≤ e2 → ∀ y, l[j]? = some y → (u : Int) ≠ y.th ∨ readB y = true) → (stAt l ys s e2).th[u]? = (stAt l ys s e1).th[u]?
  | [], _, _, _ => rfl
  | i :: t, s, hp, h => by
    rw [List.pairwise_cons] at hp
    by_cases h1 : tk l i ≤ e1
    · rw [stAt, stAt]
      cases hx : l[i]? with
      | none => rfl
      | some x =>
        rw [tk_of hx] at h1
        simp only
        rw [if_pos (by omega), if_pos h1]
        cases hf : fitsM s x with
        | none => rfl
        | some s' => exact stAt_th l u h12 t s' hp.2 (fun j hj => h j (by simp [hj]))
    · have hall : ∀ j ∈ (i :: t), e1 < tk l j := fun j hj => by
        rcases List.mem_cons.1 hj with rfl | hj
        · omega
        · have := hp.1 j hj; omega
      rw [stAt_early l (i :: t) s e1 hall]
      exact stAt_th0 l u e2 (i :: t) s (fun j hj hle => h j hj (hall j hj) hle)
theorem refM_congr {s s' : Md} {t : Int} {o : Ox} (h1 : s.th.length = s'.th.length) (h2 : s.th[t.toNat]? = s'.th[t.toNat]?) : refM s t o = refM s' t o := by
  unfold refM
  rw [h1, h2]
/-- What the model has done ahead of a call of the order. -/
theorem WOrd.pre {maps : List Sta} {l : List Cl} (hb : bad l = none) {a b : List Nat} {i : Nat} {x : Cl} (h : WOrd maps l (a ++ i :: b)) (hx : l[i]? = some x) :
    (a.filter fun j => !rdI l j) = (effL l).filter fun j => !rdI l j && decide (tk l j ≤ if readB x = true then explM maps x else x.took - 1) := by
  have hE := effL_is hb
  have hnd := h.nodup
  have hin : ∀ j ∈ a ++ i :: b, ∃ y, l[j]? = some y ∧ 0 ≤ y.took := fun j hj => h.mem.1 hj
  have hst : ∀ j y, l[j]? = some y → rdI l j = false → stI maps l j = tk l j := fun j y hy hr => by
    unfold rdI at hr; unfold stI
    rw [hy] at hr ⊢
    simp only at hr ⊢
    rw [if_neg (by simp [hr]), tk_of hy]
  have hne : ∀ j k, j ∈ a ++ i :: b → k ∈ a ++ i :: b → j ≠ k → tk l j ≠ tk l k := fun j k hj hk hjk => by
    obtain ⟨y, hy, y0⟩ := hin j hj
    obtain ⟨z, hz, z0⟩ := hin k hk
    rw [tk_of hy, tk_of hz]
    rcases Nat.lt_or_gt_of_ne hjk with hlt | hlt
    · exact took_ne hb hlt hy hz y0 z0
    · exact Ne.symm (took_ne hb hlt hz hy z0 y0)
  have hpa := List.pairwise_append.1 h.sorted
  have hna := List.nodup_append.1 hnd
  have hia : ∀ j ∈ a, j ≠ i := fun j hj e => hna.2.2 j hj i (by simp) e
  have hib : ∀ j ∈ b, j ≠ i := fun j hj e => by
    have := (List.nodup_cons.1 hna.2.1).1
    rw [← e] at this; exact this hj
  have hrx : rdI l i = readB x := by unfold rdI; rw [hx]
  have hix : stI maps l i = if readB x = true then explM maps x else x.took := by unfold stI; rw [hx]
  refine sorted_eq (R := fun j k => tk l j < tk l k) (fun j h => by omega) (fun j k h1 h2 => by omega) ?_ (hE.1.sublist List.filter_sublist) (fun j => ?_)
  · have hc : a.Pairwise fun j k => stI maps l j < stI maps l k ∨ (stI maps l j = stI maps l k ∧ (rdI l j = true → rdI l k = true)) := hpa.1
    have hd : a.Pairwise fun j k => j ≠ k := hna.1
    refine ((hc.and hd).sublist List.filter_sublist).imp_of_mem fun {j k} hj hk hjk => ?_
    rw [List.mem_filter] at hj hk
    obtain ⟨y, hy, -⟩ := hin j (by simp [hj.1])
    obtain ⟨z, hz, -⟩ := hin k (by simp [hk.1])
    have e1 := hst j y hy (by simpa using hj.2)
    have e2 := hst k z hz (by simpa using hk.2)
    have := hne j k (by simp [hj.1]) (by simp [hk.1]) hjk.2
    rw [e1, e2] at hjk
    rcases hjk.1 with h1 | h1 <;> omega
  · rw [List.mem_filter, List.mem_filter]
    constructor
    · rintro ⟨hj, hr⟩
      obtain ⟨y, hy, y0⟩ := hin j (by simp [hj])
      have e1 := hst j y hy (by simpa using hr)
      refine ⟨(hE.2 j).2 ⟨y, hy, y0⟩, ?_⟩
      have hji := hpa.2.2 j hj i (by simp)
      rw [e1, hix] at hji
      have hn := hne j i (by simp [hj]) (by simp) (hia j hj)
      rw [tk_of hx] at hn
      simp only [Bool.and_eq_true, decide_eq_true_eq]
      refine ⟨hr, ?_⟩
      split
      · rename_i hq; rw [if_pos hq] at hji; rcases hji with h1 | h1 <;> omega
      · rename_i hq; rw [if_neg hq] at hji; rcases hji with h1 | h1 <;> omega
    · rintro ⟨hj, hq⟩
      simp only [Bool.and_eq_true, decide_eq_true_eq] at hq
      obtain ⟨hr, hle⟩ := hq
      obtain ⟨y, hy, y0⟩ := (hE.2 j).1 hj
      have e1 := hst j y hy (by simpa using hr)
      have hm : j ∈ a ++ i :: b := h.mem.2 ⟨y, hy, y0⟩
      refine ⟨?_, hr⟩
      rcases List.mem_append.1 hm with hm | hm
      · exact hm
      · exfalso
        rcases List.mem_cons.1 hm with rfl | hm
        · rw [hx] at hy; injection hy with hy; subst hy
          rw [hrx] at hr
          split at hle
          · rename_i hq; rw [hq] at hr; simp at hr
          · rw [tk_of hx] at hle; omega
        · have hij := (List.pairwise_cons.1 hpa.2.1).1 j hm
          rw [e1, hix] at hij
          split at hle
          · rename_i hq
            rw [if_pos hq] at hij
            rcases hij with h1 | ⟨h1, h2⟩
            · omega
            · have := h2 (by rw [hrx]; exact hq)
              rw [this] at hr; simp at hr
          · rename_i hq
            rw [if_neg hq] at hij
            rcases hij with h1 | h1 <;> omega
/-- The model accepts every result in the witness order. -/
theorem WOrd.run {c : Cf} {cuts : List Nat} {l : List Cl} {maps : List Sta} (hw : wX c cuts l = .ok maps) (hR : badR maps l 0 = none) : ∀ (b a : List Nat) (S : Md), WOrd maps l (a ++ b) → runM l (s1M c) a = some S → runF l (a.filter fun j => !rdI l j) (s1M c) = some S →
    ∃ S2, runM l (s1M c) (a ++ b) = some S2 ∧ runF l ((a ++ b).filter fun j => !rdI l j) (s1M c) = some S2
  | [], a, S, _, h1, h2 => ⟨S, by rw [List.append_nil]; exact h1, by rw [List.append_nil]; exact h2⟩
  | i :: b, a, S, h, h1, h2 => by
    obtain ⟨-, hb, hm⟩ := wX_ok hw
    have hE := effL_is hb
    have hsp := mapsX_spec hb (s := s1M c) rfl
    rw [hm] at hsp
    obtain ⟨hM, ⟨s2, hrun, -⟩, hat⟩ := hsp
    obtain ⟨x, hx, h0⟩ := h.mem.1 (show i ∈ a ++ i :: b by simp)
    have hpre := h.pre hb hx
    have hS : S = stAt l (effL l) (s1M c) (if readB x = true then explM maps x else x.took - 1) := by
      have h3 := runF_at l (if readB x = true then explM maps x else x.took - 1) (effL l) (s1M c) hE.1 (by rw [hrun]; rfl)
      rw [← hpre, h2] at h3
      injection h3
    have hmem : i ∈ effL l := (hE.2 i).2 ⟨x, hx, h0⟩
    obtain ⟨k, hk⟩ := List.mem_iff_getElem?.1 hmem
    obtain ⟨q1, q2, q3⟩ := stAt_seq l (effL l) (s1M c) hE.1 (by rw [hrun]; rfl) k i x hk hx
    rw [← q2, ← q1] at q3
    have hrx : rdI l i = readB x := by unfold rdI; rw [hx]
    have happ : a ++ i :: b = (a ++ [i]) ++ b := by simp
    obtain ⟨S', hnext, hfil⟩ : ∃ S', nextM S x = some S' ∧ runF l ((a ++ [i]).filter fun j => !rdI l j) (s1M c) = some S' := by
      by_cases hr : readB x = true
      · rw [if_pos hr] at hS
        obtain ⟨f1, f2, f3, f4, f5, f6, f7⟩ := read_facts hb hx hr
        have hex := (badR_none l 0).1 hR x (List.mem_of_getElem? hx) hr
        rcases explM_spec hM f7 (by omega : x.inv ≤ x.ans) with ⟨a1, a2, a3, a4, a5, a6, -⟩ | ⟨a1, -⟩
        · refine ⟨S, ?_, by rw [List.filter_append, List.filter_cons_of_neg (by rw [hrx, hr]; simp), List.filter_nil, List.append_nil]; exact h2⟩
          have hdo := (fits_read q3 hr).2
          -- the thread is as it was
          have hth := th_range hb hx
          have hthe : S.th[x.th.toNat]? = (stAt l (effL l) (s1M c) (x.took - 1)).th[x.th.toNat]? := by
            have same : ∀ e1 e2 : Int, x.inv ≤ e1 + 1 → e2 ≤ x.ans → ∀ j ∈ effL l, e1 < tk l j → tk l j ≤ e2 → ∀ y, l[j]? = some y → ((x.th.toNat : Nat) : Int) ≠ y.th ∨ readB y = true := fun e1 e2 he1 he2 j hj hj1 hj2 y hy => by
              by_cases hji : j = i
              · subst hji; rw [hx] at hy; injection hy with hy; subst hy; exact .inr hr
              · left
                intro e
                have hty : y.th = x.th := by omega
                rw [tk_of hy] at hj1 hj2
                have y0 : 0 ≤ y.took := by
                  obtain ⟨y', hy', y0⟩ := (hE.2 j).1 hj
                  rw [hy] at hy'; injection hy' with hy'; rw [hy']; exact y0
                rcases Nat.lt_or_gt_of_ne hji with hlt | hlt
                · have hp := prec hb i j y x hlt hy hx hty
                  simp only [bf, Bool.and_eq_true, decide_eq_true_eq] at hp
                  have := (ans_ge hb hy hp.1).2
                  omega
                · have hp := prec hb j i x y hlt hx hy hty.symm
                  simp only [bf, Bool.and_eq_true, decide_eq_true_eq] at hp
                  have := took_le hb hy y0
                  omega
            rw [hS]
            by_cases hle : explM maps x ≤ x.took - 1
            · exact (stAt_th l _ hle (effL l) (s1M c) hE.1 (same _ _ (by omega) (by omega))).symm
            · exact stAt_th l _ (by omega : x.took - 1 ≤ explM maps x) (effL l) (s1M c) hE.1 (same _ _ (by omega) a5)
          have hlen : S.th.length = (stAt l (effL l) (s1M c) (x.took - 1)).th.length := by rw [hS, stAt_len, stAt_len]
          have href := refM_congr (o := opC x) hlen hthe
          have hdoS : (doM S x.th (opC x)).1.err = 0 := by
            have h5 : refM (stAt l (effL l) (s1M c) (x.took - 1)) x.th (opC x) = 0 := by
              by_cases h6 : refM (stAt l (effL l) (s1M c) (x.took - 1)) x.th (opC x) = 0
              · exact h6
              · unfold doM at hdo; rw [if_pos h6] at hdo; exact hdo
            rw [← href] at h5
            obtain ⟨n, y, hn, hy, hc, hre, hd⟩ := refM_zero h5
            rw [hd]
            have hk3 : (opC x).k = 3 := f1
            unfold perfM; simp [hk3]
          have hl : atF [] maps (explM maps x) = S.l := by rw [hS]; exact hat _ (by omega)
          rw [hl] at a6
          unfold agrB1 at a6
          simp only [Bool.and_eq_true, decide_eq_true_eq] at a6
          obtain ⟨g1, g2⟩ := get_acc (s := S) (t := x.th) (o := opC x) (r := rsC x) f1 f2
          unfold nextM
          rw [if_neg (by omega), g1, decide_eq_true ⟨hdoS, a6.1.symm, a2, a6.2.symm, a3⟩, if_pos rfl, g2]
        · omega
      · rw [if_neg hr] at hS
        have hrf : readB x = false := by simpa using hr
        rw [← hS] at q3
        refine ⟨_, fits_next q3 hrf, ?_⟩
        rw [List.filter_append, List.filter_cons_of_pos (by rw [hrx, hrf]; rfl), List.filter_nil, runF_app, h2]
        simp only [Option.bind_some]
        rw [runF, hx]
        simp only
        rw [q3]; rfl
    have hrunM : runM l (s1M c) (a ++ [i]) = some S' := by
      rw [runM_app, h1]
      simp only [Option.bind_some]
      rw [runM, hx]
      simp only [Option.bind_some]
      rw [hnext]; rfl
    rw [happ] at h ⊢
    exact WOrd.run hw hR b (a ++ [i]) S' h hrunM hfil
/-- THE PLAIN LAW OF WitnessOrders. -/
theorem orders_plain {c : Cf} {cuts : List Nat} {l : List Cl} {maps : List Sta} (hw : wX c cuts l = .ok maps) (hR : badR maps l 0 = none) {o : List Nat} (h : WOrd maps l o) :
    agrE (natI o) l = 0 ∧ agrB (natI o) l = true ∧ (∃ S, runM l (s1M c) o = some S ∧ S.l = finL maps) ∧ (∀ i, i ∈ o ↔ ∃ x, l[i]? = some x ∧ 0 ≤ x.took) := by
  obtain ⟨-, hb, hm⟩ := wX_ok hw
  have hE := effL_is hb
  have hsp := mapsX_spec hb (s := s1M c) rfl
  rw [hm] at hsp
  obtain ⟨hM, ⟨s2, hrun, z, hz, hzs⟩, hat⟩ := hsp
  refine ⟨h.ord.agrE hb, (h.ord.agrB hb).2 (h.ok hb hM hR), ?_, fun i => h.mem⟩
  obtain ⟨S2, r1, r2⟩ := WOrd.run hw hR o [] (s1M c) h rfl rfl
  rw [List.nil_append] at r1 r2
  refine ⟨S2, r1, ?_⟩
  have hfil : (o.filter fun j => !rdI l j) = (effL l).filter fun j => !rdI l j := by
    have hst : ∀ j y, l[j]? = some y → rdI l j = false → stI maps l j = tk l j := fun j y hy hr => by
      unfold rdI at hr; unfold stI
      rw [hy] at hr ⊢
      simp only at hr ⊢
      rw [if_neg (by simp [hr]), tk_of hy]
    refine sorted_eq (R := fun j k => tk l j < tk l k) (fun j h => by omega) (fun j k h1 h2 => by omega) ?_ (hE.1.sublist List.filter_sublist) (fun j => ?_)
    · have hd : o.Pairwise fun j k => j ≠ k := h.nodup
      refine ((h.sorted.and hd).sublist List.filter_sublist).imp_of_mem fun {j k} hj hk hjk => ?_
      rw [List.mem_filter] at hj hk
      obtain ⟨y, hy, y0⟩ := h.mem.1 hj.1
      obtain ⟨w, hw', w0⟩ := h.mem.1 hk.1
      have e1 := hst j y hy (by simpa using hj.2)
      have e2 := hst k w hw' (by simpa using hk.2)
      have hne : tk l j ≠ tk l k := by
        rw [tk_of hy, tk_of hw']
        rcases Nat.lt_or_gt_of_ne hjk.2 with hlt | hlt
        · exact took_ne hb hlt hy hw' y0 w0
        · exact Ne.symm (took_ne hb hlt hw' hy w0 y0)
      rw [e1, e2] at hjk
      rcases hjk.1 with h1 | h1 <;> omega
    · rw [List.mem_filter, List.mem_filter, h.mem, hE.2 j]
  have h3 := runF_nr l (effL l) (s1M c) s2 hrun
  rw [← hfil, r2] at h3
  injection h3 with h3
  rw [h3]
  unfold finL; rw [hz]; exact hzs.symm
end Go.Proofs.YtfnapkfdocabcaaGreat
