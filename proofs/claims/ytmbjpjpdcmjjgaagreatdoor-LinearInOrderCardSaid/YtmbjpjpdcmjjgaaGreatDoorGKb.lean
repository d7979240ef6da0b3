import Derived.Test.YtmbjpjpdcmjjgaaGreatDoorGKa
set_option linter.unusedVariables false
set_option linter.unusedSimpArgs false
set_option linter.unnecessarySimpa false
namespace Go.Proofs.YtmbjpjpdcmjjgaaGreatDoor
open Go.RowKit Go.Xt
/-! Linearizations, plain: their order; what a place leaves does not depend on the way to it; what a search yields. -/
def lessL : List Int → List Int → Bool
  | [], b => !b.isEmpty
  | _ :: _, [] => false
  | x :: a, y :: b => if x = y then lessL a b else decide (x < y)
theorem less_app : ∀ (o a b : List Int), lessL (o ++ a) (o ++ b) = lessL a b
  | [], _, _ => rfl
  | x :: o, a, b => by rw [List.cons_append, List.cons_append, lessL, if_pos rfl, less_app o a b]
theorem exts_pre (l : List Cl) : ∀ (f : Nat) (o : List Nat) (s : Md) (z : List Nat), z ∈ exts l f o s → ∃ t, z = o ++ t
  | 0, o, s, z, h => by
    simp only [exts] at h
    split at h
    · simp at h; exact ⟨[], by simp [h]⟩
    · cases h
  | f + 1, o, s, z, h => by
    simp only [exts, List.mem_append, List.mem_flatMap] at h
    rcases h with h | ⟨i, -, h⟩
    · split at h
      · simp at h; exact ⟨[], by simp [h]⟩
      · cases h
    · split at h
      · split at h
        · obtain ⟨t, rfl⟩ := exts_pre l f _ _ z h
          exact ⟨i :: t, by simp⟩
        · cases h
      · cases h
theorem exts_less (l : List Cl) : ∀ (f : Nat) (o : List Nat) (s : Md), (exts l f o s).Pairwise fun a b => lessL (natI a) (natI b) = true
  | 0, o, s => by
    simp only [exts]
    split
    · simp
    · simp
  | f + 1, o, s => by
    simp only [exts]
    rw [List.pairwise_append]
    refine ⟨?_, ?_, ?_⟩
    · split
      · simp
      · simp
    · rw [List.pairwise_flatMap]
      refine ⟨fun i _ => ?_, ?_⟩
      · split
        · split
          · exact exts_less l f _ _
          · simp
        · simp
      · refine List.pairwise_lt_range.imp fun {i j} hij x hx y hy => ?_
        split at hx
        · split at hx
          · split at hy
            · split at hy
              · obtain ⟨t, rfl⟩ := exts_pre l f _ _ x hx
                obtain ⟨u, rfl⟩ := exts_pre l f _ _ y hy
                rw [List.append_assoc, List.append_assoc, natI_app, natI_app o, less_app]
                simp only [List.singleton_append, natI, List.map_cons, lessL]
                rw [if_neg (by omega)]
                simp; omega
              · cases hy
            · cases hy
          · cases hx
        · cases hx
    · intro x hx y hy
      split at hx
      · simp at hx
        subst hx
        obtain ⟨i, -, hy⟩ := List.mem_flatMap.1 hy
        split at hy
        · split at hy
          · obtain ⟨u, rfl⟩ := exts_pre l f _ _ y hy
            rw [List.append_assoc, natI_app]
            have := less_app (natI x) [] (natI ([i] ++ u))
            rw [List.append_nil] at this
            rw [this]
            simp [natI, lessL]
          · cases hy
        · cases hy
      · cases hx
theorem mayB_same {l : List Cl} {o o' : List Nat} (h : ∀ i, i ∈ o ↔ i ∈ o') (i : Nat) : mayB l o i = mayB l o' i := by
  have e : ∀ k, decide (k ∈ o) = decide (k ∈ o') := fun k => by simp [h k]
  have e2 : decide (i ∉ o) = decide (i ∉ o') := by simp [h i]
  simp only [mayB, e, e2]
theorem fullB_same {l : List Cl} {o o' : List Nat} (h : ∀ i, i ∈ o ↔ i ∈ o') : fullB l o = fullB l o' := by
  have e : ∀ k, decide (k ∈ o) = decide (k ∈ o') := fun k => by simp [h k]
  simp only [fullB, e]
theorem exts_same (l : List Cl) : ∀ (f : Nat) (o o' : List Nat) (s : Md), (∀ i, i ∈ o ↔ i ∈ o') → (exts l f o s = [] ↔ exts l f o' s = [])
  | 0, o, o', s, h => by
    simp only [exts, fullB_same h]
    split <;> simp
  | f + 1, o, o', s, h => by
    simp only [exts, fullB_same h, List.append_eq_nil_iff, List.flatMap_eq_nil_iff]
    refine and_congr ?_ (forall_congr' fun i => imp_congr Iff.rfl ?_)
    · split <;> simp
    · rw [mayB_same h]
      split
      · split
        · exact exts_same l f _ _ _ fun k => by simp [h k]
        · exact Iff.rfl
      · exact Iff.rfl
structure Came (go : List (List Nat) → Bool) (ys zs E : List (List Nat)) (goes : Bool) : Prop where
  pre : zs <+: E
  all : goes = true → zs = E
  on : goes = true → ∀ k, k < zs.length → go (ys ++ zs.take (k + 1)) = true
  off : goes = false → ∃ k, zs.length = k + 1 ∧ (∀ j, j < k → go (ys ++ zs.take (j + 1)) = true) ∧ go (ys ++ zs) = false
theorem Came.nil (go : List (List Nat) → Bool) (ys : List (List Nat)) : Came go ys [] [] true :=
  ⟨List.prefix_refl _, fun _ => rfl, fun _ k hk => by simp at hk, fun h => by cases h⟩
theorem Came.one (go : List (List Nat) → Bool) (ys : List (List Nat)) (o : List Nat) : Came go ys [o] [o] (go (ys ++ [o])) := by
  cases h : go (ys ++ [o]) with
  | true => exact ⟨List.prefix_refl _, fun _ => rfl, fun _ k hk => by
      obtain rfl : k = 0 := by simp at hk; exact hk
      simpa using h, fun h => by cases h⟩
  | false => exact ⟨List.prefix_refl _, fun h => by (cases h), fun h => by (cases h), fun _ => ⟨0, rfl, fun j hj => by omega, h⟩⟩
theorem Came.app {go : List (List Nat) → Bool} {ys zs zs' E E' : List (List Nat)} {g : Bool} (h : Came go ys zs E true) (k : Came go (ys ++ zs) zs' E' g) : Came go ys (zs ++ zs') (E ++ E') g := by
  obtain rfl := h.all rfl
  have left : ∀ j, j < zs.length → go (ys ++ (zs ++ zs').take (j + 1)) = true := fun j hj => by
    rw [List.take_append_of_le_length (by omega)]; exact h.on rfl j hj
  have right : ∀ j, go (ys ++ zs ++ zs'.take (j + 1)) = true → go (ys ++ (zs ++ zs').take (zs.length + j + 1)) = true := fun j hj => by
    rw [Nat.add_assoc, List.take_length_add_append, ← List.append_assoc]; exact hj
  refine ⟨(List.prefix_append_right_inj _).2 k.pre, fun hg => by rw [k.all hg], fun hg j hj => ?_, fun hg => ?_⟩
  · by_cases hjz : j < zs.length
    · exact left j hjz
    · obtain ⟨m, rfl⟩ : ∃ m, j = zs.length + m := ⟨j - zs.length, by omega⟩
      simp at hj
      exact right m (k.on hg m (by omega))
  · obtain ⟨m, h1, h2, h3⟩ := k.off hg
    refine ⟨zs.length + m, by simp [h1]; omega, fun j hj => ?_, by rw [← List.append_assoc]; exact h3⟩
    by_cases hjz : j < zs.length
    · exact left j hjz
    · obtain ⟨q, rfl⟩ : ∃ q, j = zs.length + q := ⟨j - zs.length, by omega⟩
      exact right q (h2 q (by omega))
theorem Came.more {go : List (List Nat) → Bool} {ys zs E E' : List (List Nat)} (h : Came go ys zs E false) : Came go ys zs (E ++ E') false :=
  ⟨h.pre.trans (List.prefix_append _ _), fun h => by (cases h), fun h => by (cases h), h.off⟩
end Go.Proofs.YtmbjpjpdcmjjgaaGreatDoor
namespace Go.Proofs.YtmbjpjpdcmjjgaaGreatDoor
open Go.RowKit Go.Xt
/-! A last call that ended with ErrRetry may be left out. -/
theorem acc_err11 {s : Md} {t : Int} {o : Ox} {r : Rs} (h : (acceptM s t o r).1 = true) (he : r.err = 11) : (acceptM s t o r).2 = s := by
  unfold acceptM at h ⊢
  by_cases hr : refM s t o = 0
  · rw [if_neg (fun h => h hr)] at h ⊢
    cases hx : s.th[t.toNat]? with
    | none => rfl
    | some x =>
      rw [hx] at h
      simp only at h ⊢
      by_cases h1 : (aloneR r && givesM s o r.err) = true
      · rw [if_pos h1]
      rw [if_neg h1] at h ⊢
      by_cases k12 : o.k = 12
      · rw [if_pos k12] at h ⊢
        by_cases h2 : (aloneR r && (r.err == 14)) = true
        · rw [he] at h2; simp at h2
        rw [if_neg h2] at h ⊢
        by_cases h3 : r.err = 0 ∧ r.fd = true ∧ r.cnt = 0 ∧ x.lo ≤ r.key ∧ r.key ≤ x.hi
        · omega
        rw [if_neg h3]
      rw [if_neg k12] at h ⊢
      by_cases k15 : o.k = 15
      · rw [if_pos k15]
      rw [if_neg k15] at h ⊢
      by_cases h4 : (perfM s t.toNat x o).1 = r
      · exfalso
        rcases perf_err s t.toNat x o with h5 | ⟨_, h5⟩ | ⟨_, h5⟩
        · rw [h4] at h5; omega
        · rw [h5] at h4; subst h4; simp at he
        · rw [h5] at h4; subst h4; simp at he
      rw [if_neg h4]
  · rw [if_pos hr]
abbrev wo (N : Nat) (o : List Nat) : List Nat := o.filter fun i => decide (i ≠ N)
theorem wo_mem {N i : Nat} {o : List Nat} : i ∈ wo N o ↔ i ∈ o ∧ i ≠ N := by simp [wo, List.mem_filter]
theorem wo_snoc (N i : Nat) (o : List Nat) : wo N (o ++ [i]) = wo N o ++ if i = N then [] else [i] := by
  by_cases h : i = N <;> simp [wo, List.filter_append, h]
end Go.Proofs.YtmbjpjpdcmjjgaaGreatDoor
namespace Go.Proofs.YtmbjpjpdcmjjgaaGreatDoor
open Go.RowKit Go.Xt
/-! Every prefix of a history that has a linearization has one. -/
structure Sim (pend : Nat → Prop) (s t : Md) : Prop where
  slots : s.slots = t.slots
  l : s.l = t.l
  se : s.th.map (·.se) = t.th.map (·.se)
  th : ∀ k, ¬ pend k → s.th[k]? = t.th[k]?
theorem Sim.len {pend : Nat → Prop} {s t : Md} (h : Sim pend s t) : s.th.length = t.th.length := by
  have := congrArg List.length h.se; simpa using this
theorem Sim.cnt {pend : Nat → Prop} {s t : Md} (h : Sim pend s t) : cntS s.th = cntS t.th := by
  have : ∀ l : List Th, cntS l = (l.map (·.se)).countP id := fun l => by rw [List.countP_map]; rfl
  rw [this, this, h.se]
theorem Sim.refl (s : Md) : Sim (fun _ => False) s s := ⟨rfl, rfl, rfl, fun _ _ => rfl⟩
theorem Sim.mono {p q : Nat → Prop} {s t : Md} (h : Sim p s t) (hpq : ∀ k, p k → q k) : Sim q s t := ⟨h.slots, h.l, h.se, fun k hk => h.th k fun hp => hk (hpq k hp)⟩
theorem refM_sim {p : Nat → Prop} {s t : Md} (h : Sim p s t) {T : Int} (hT : 0 ≤ T → ¬ p T.toNat) (o : Ox) : refM s T o = refM t T o := by
  unfold refM
  rw [h.len]
  by_cases h0 : T < 0 ∨ (t.th.length : Int) ≤ T
  · rw [if_pos h0, if_pos h0]
  · rw [if_neg h0, if_neg h0, h.th _ (hT (by omega))]
def Loc (s : Md) (k : Nat) (l : List (Int × Int)) (x : Th) : Md := { s with l := l, th := s.th.set k x }
theorem Sim.loc {p : Nat → Prop} {s t : Md} (h : Sim p s t) (k : Nat) (l : List (Int × Int)) (x : Th) : Sim p (Loc s k l x) (Loc t k l x) := by
  refine ⟨h.slots, rfl, ?_, fun j hj => ?_⟩
  · show (s.th.set k x).map (·.se) = (t.th.set k x).map (·.se)
    rw [List.map_set, List.map_set, h.se]
  · show (s.th.set k x)[j]? = (t.th.set k x)[j]?
    rw [List.getElem?_set, List.getElem?_set, h.len]
    split
    · rfl
    · exact h.th j hj
theorem perf_loc {p : Nat → Prop} {s t : Md} (h : Sim p s t) {k : Nat} {x : Th} (hs : s.th[k]? = some x) (ht : t.th[k]? = some x) (o : Ox) :
    ∃ r l y, perfM s k x o = (r, Loc s k l y) ∧ perfM t k x o = (r, Loc t k l y) := by
  obtain ⟨sl, sp, sth⟩ := s
  obtain ⟨tl, tp, tth⟩ := t
  obtain rfl : sl = tl := h.slots
  obtain rfl : sp = tp := h.l
  have hc : cntS sth = cntS tth := h.cnt
  have e1 : ∀ l : List (Int × Int), ({ slots := sl, l := l, th := sth } : Md) = Loc ⟨sl, sp, sth⟩ k l x := fun l => by unfold Loc; simp only [set_self hs]
  have e2 : ∀ l : List (Int × Int), ({ slots := sl, l := l, th := tth } : Md) = Loc ⟨sl, sp, tth⟩ k l x := fun l => by unfold Loc; simp only [set_self ht]
  unfold perfM
  by_cases k1 : o.k = 1
  · rw [if_pos k1, if_pos k1]
    unfold openE openM
    simp only [hc]
    by_cases hcs : sl ≤ (cntS tth : Nat)
    · simp only [if_pos hcs]
      exact ⟨_, sp, x, congrArg (Prod.mk _) (e1 _), congrArg (Prod.mk _) (e2 _)⟩
    · simp only [if_neg hcs]
      exact ⟨_, sp, _, rfl, rfl⟩
  rw [if_neg k1, if_neg k1]
  by_cases k2 : o.k = 2
  · rw [if_pos k2, if_pos k2]; exact ⟨_, sp, _, rfl, rfl⟩
  rw [if_neg k2, if_neg k2]
  by_cases k3 : o.k = 3
  · rw [if_pos k3, if_pos k3]; exact ⟨_, sp, x, congrArg (Prod.mk _) (e1 _), congrArg (Prod.mk _) (e2 _)⟩
  rw [if_neg k3, if_neg k3]
  by_cases k4 : o.k = 4
  · rw [if_pos k4, if_pos k4]; exact ⟨_, putL o.key o.val sp, x, congrArg (Prod.mk _) (e1 _), congrArg (Prod.mk _) (e2 _)⟩
  rw [if_neg k4, if_neg k4]
  by_cases k5 : o.k = 5
  · rw [if_pos k5, if_pos k5]; exact ⟨_, addL o.key o.val sp, x, congrArg (Prod.mk _) (e1 _), congrArg (Prod.mk _) (e2 _)⟩
  rw [if_neg k5, if_neg k5]
  by_cases k6 : o.k = 6
  · rw [if_pos k6, if_pos k6]; exact ⟨_, delL o.key sp, x, congrArg (Prod.mk _) (e1 _), congrArg (Prod.mk _) (e2 _)⟩
  rw [if_neg k6, if_neg k6]
  by_cases k7 : o.k = 7
  · rw [if_pos k7, if_pos k7]; exact ⟨_, casL o.key o.old o.val sp, x, congrArg (Prod.mk _) (e1 _), congrArg (Prod.mk _) (e2 _)⟩
  rw [if_neg k7, if_neg k7]
  by_cases k8 : o.k = 8
  · rw [if_pos k8, if_pos k8]; exact ⟨_, moveL o.key o.hi o.by_ sp, x, congrArg (Prod.mk _) (e1 _), congrArg (Prod.mk _) (e2 _)⟩
  rw [if_neg k8, if_neg k8]
  by_cases k9 : o.k = 9
  · rw [if_pos k9, if_pos k9]; exact ⟨_, outR o.key o.hi sp, x, congrArg (Prod.mk _) (e1 _), congrArg (Prod.mk _) (e2 _)⟩
  rw [if_neg k9, if_neg k9]
  by_cases k10 : o.k = 10
  · rw [if_pos k10, if_pos k10]; exact ⟨_, sp, x, congrArg (Prod.mk _) (e1 _), congrArg (Prod.mk _) (e2 _)⟩
  rw [if_neg k10, if_neg k10]
  by_cases k11 : o.k = 11
  · rw [if_pos k11, if_pos k11]; exact ⟨_, sp, _, rfl, rfl⟩
  rw [if_neg k11, if_neg k11]
  by_cases k12 : o.k = 12
  · rw [if_pos k12, if_pos k12]
    simp only
    cases hq : nextL x.lo x.hi sp with
    | none => exact ⟨_, sp, _, rfl, rfl⟩
    | some q => exact ⟨_, sp, _, rfl, rfl⟩
  rw [if_neg k12, if_neg k12]
  by_cases k13 : o.k = 13
  · rw [if_pos k13, if_pos k13]; exact ⟨_, sp, _, rfl, rfl⟩
  rw [if_neg k13, if_neg k13]
  by_cases k14 : o.k = 14
  · rw [if_pos k14, if_pos k14]; exact ⟨_, sp, _, rfl, rfl⟩
  rw [if_neg k14, if_neg k14]
  exact ⟨_, sp, x, congrArg (Prod.mk _) (e1 _), congrArg (Prod.mk _) (e2 _)⟩
theorem do_loc {p : Nat → Prop} {s t : Md} (h : Sim p s t) {T : Int} (hT : 0 ≤ T → ¬ p T.toNat) (o : Ox) : (doM s T o).1 = (doM t T o).1 ∧ Sim p (doM s T o).2 (doM t T o).2 := by
  by_cases hr : refM s T o = 0
  · obtain ⟨k, x, rfl, hx, hc, hre, hd⟩ := refM_zero hr
    have hx2 : t.th[k]? = some x := by rw [← h.th k (by simpa using hT (by omega))]; exact hx
    have hr2 : refM t k o = 0 := by rw [← refM_sim h hT]; exact hr
    obtain ⟨k', x', e, hx', -, -, hd'⟩ := refM_zero hr2
    obtain rfl : k = k' := by omega
    obtain rfl : x = x' := by rw [hx2] at hx'; injection hx'
    obtain ⟨r, l, y, e1, e2⟩ := perf_loc h hx hx2 o
    rw [hd, hd', e1, e2]
    exact ⟨rfl, h.loc k l y⟩
  · have e1 : doM s T o = (⟨refM s T o, false, 0, 0, 0⟩, s) := by unfold doM; rw [if_pos hr]
    have hr2 : refM t T o ≠ 0 := by rw [← refM_sim h hT]; exact hr
    have e2 : doM t T o = (⟨refM t T o, false, 0, 0, 0⟩, t) := by unfold doM; rw [if_pos hr2]
    rw [e1, e2, refM_sim h hT]
    exact ⟨rfl, h⟩
theorem gives_sim {p : Nat → Prop} {s t : Md} (h : Sim p s t) (o : Ox) (e : Int) : givesM s o e = givesM t o e := by
  unfold givesM birthsM; rw [h.l]
theorem acc_loc {p : Nat → Prop} {s t : Md} (h : Sim p s t) {T : Int} (hT : 0 ≤ T → ¬ p T.toNat) (o : Ox) (r : Rs) : (acceptM s T o r).1 = (acceptM t T o r).1 ∧ Sim p (acceptM s T o r).2 (acceptM t T o r).2 := by
  unfold acceptM
  rw [refM_sim h hT]
  by_cases hr : refM t T o = 0
  · rw [if_neg (fun h => h hr), if_neg (fun h => h hr)]
    obtain ⟨k, x, rfl, hx, hc, hre, hd⟩ := refM_zero hr
    have hx2 : s.th[k]? = some x := by rw [h.th k (by simpa using hT (by omega))]; exact hx
    rw [Int.toNat_natCast, hx, hx2, gives_sim h]
    simp only
    by_cases h1 : (aloneR r && givesM t o r.err) = true
    · rw [if_pos h1, if_pos h1]; exact ⟨rfl, h⟩
    rw [if_neg h1, if_neg h1]
    by_cases k12 : o.k = 12
    · rw [if_pos k12, if_pos k12]
      by_cases h2 : (aloneR r && (r.err == 14)) = true
      · rw [if_pos h2, if_pos h2]
        have := h.loc k s.l x.fin
        refine ⟨rfl, ?_⟩
        have e : Loc t k s.l x.fin = Loc t k t.l x.fin := by rw [h.l]
        rw [e] at this
        exact this
      rw [if_neg h2, if_neg h2]
      by_cases h3 : r.err = 0 ∧ r.fd = true ∧ r.cnt = 0 ∧ x.lo ≤ r.key ∧ r.key ≤ x.hi
      · rw [if_pos h3, if_pos h3]
        have := h.loc k s.l (x.after r.key)
        refine ⟨rfl, ?_⟩
        have e : Loc t k s.l (x.after r.key) = Loc t k t.l (x.after r.key) := by rw [h.l]
        rw [e] at this
        exact this
      rw [if_neg h3, if_neg h3]; exact ⟨rfl, h⟩
    rw [if_neg k12, if_neg k12]
    by_cases k15 : o.k = 15
    · rw [if_pos k15, if_pos k15]; exact ⟨rfl, h⟩
    rw [if_neg k15, if_neg k15]
    obtain ⟨r', l, y, e1, e2⟩ := perf_loc h hx2 hx o
    rw [e1, e2]
    by_cases h4 : r' = r
    · rw [if_pos h4, if_pos h4]; exact ⟨rfl, h.loc k l y⟩
    rw [if_neg h4, if_neg h4]; exact ⟨rfl, h⟩
  · rw [if_pos hr, if_pos hr]; exact ⟨rfl, h⟩
theorem acc_two {s : Md} (T : Int) (o : Ox) {r : Rs} (ha : (acceptM s T o r).1 = true) :
    Sim (fun k => (k : Int) = T) (acceptM s T o r).2 s ∨ (acceptM s T o r).2 = (doM s T o).2 := by
  unfold acceptM at ha ⊢
  by_cases hr : refM s T o = 0
  · rw [if_neg (fun h => h hr)] at ha ⊢
    obtain ⟨k, x, rfl, hx, hc, hre, hd⟩ := refM_zero hr
    rw [Int.toNat_natCast, hx] at ha ⊢
    simp only at ha ⊢
    have keep : ∀ y : Th, y.se = x.se → Sim (fun j => (j : Int) = k) { s with th := s.th.set k y } s := fun y hy => by
      refine ⟨rfl, rfl, ?_, fun j hj => ?_⟩
      · show (s.th.set k y).map (·.se) = _
        rw [List.map_set, hy]
        apply List.ext_getElem?
        intro j
        rw [List.getElem?_set]
        split
        · rename_i e
          subst e
          split
          · rw [List.getElem?_map, hx]; rfl
          · rename_i hlt
            rw [List.length_map] at hlt
            exact absurd (List.getElem?_eq_some_iff.1 hx).1 hlt
        · rfl
      · show (s.th.set k y)[j]? = _
        rw [List.getElem?_set, if_neg (fun e => hj (by omega))]
    by_cases h1 : (aloneR r && givesM s o r.err) = true
    · rw [if_pos h1]; exact .inl ((Sim.refl s).mono fun _ h => h.elim)
    rw [if_neg h1] at ha ⊢
    by_cases k12 : o.k = 12
    · rw [if_pos k12] at ha ⊢
      by_cases h2 : (aloneR r && (r.err == 14)) = true
      · rw [if_pos h2]; exact .inl (keep _ rfl)
      rw [if_neg h2] at ha ⊢
      by_cases h3 : r.err = 0 ∧ r.fd = true ∧ r.cnt = 0 ∧ x.lo ≤ r.key ∧ r.key ≤ x.hi
      · rw [if_pos h3]
        refine .inl (keep _ ?_)
        unfold Th.after Th.from_
        split
        · rfl
        · split <;> rfl
      rw [if_neg h3] at ha; cases ha
    rw [if_neg k12] at ha ⊢
    by_cases k15 : o.k = 15
    · rw [if_pos k15]; exact .inl ((Sim.refl s).mono fun _ h => h.elim)
    rw [if_neg k15] at ha ⊢
    by_cases h4 : (perfM s k x o).1 = r
    · rw [if_pos h4, hd]; exact .inr rfl
    rw [if_neg h4] at ha; cases ha
  · rw [if_pos hr]; exact .inl ((Sim.refl s).mono fun _ h => h.elim)
theorem Sim.trans {p q : Nat → Prop} {s t u : Md} (h : Sim p s t) (k : Sim q t u) : Sim (fun i => p i ∨ q i) s u :=
  ⟨h.slots.trans k.slots, h.l.trans k.l, h.se.trans k.se, fun i hi => (h.th i fun x => hi (.inl x)).trans (k.th i fun x => hi (.inr x))⟩
def early (st : Int) (l : List Cl) (i : Nat) : Bool := match l[i]? with | some c => decide (0 ≤ c.ans) && decide (c.ans ≤ st) | none => false
theorem early_iff {st : Int} {l : List Cl} {i : Nat} {c : Cl} (hc : l[i]? = some c) : early st l i = true ↔ 0 ≤ c.ans ∧ c.ans ≤ st := by rw [early, hc]; simp
def pendT (st : Int) (l : List Cl) (o : List Nat) (k : Nat) : Prop := ∃ i ∈ o, early st l i = false ∧ ∃ c, l[i]? = some c ∧ c.th = (k : Int)
theorem pfx_op (st : Int) (x : Cl) : opC (pfx st x) = opC x := by simp only [opC, pfx]; (repeat' split) <;> rfl
theorem pfx_rs {st : Int} {x : Cl} (h : ¬ st < x.ans) : rsC (pfx st x) = rsC x := by simp only [rsC, pfx, if_neg h]; split <;> rfl
end Go.Proofs.YtmbjpjpdcmjjgaaGreatDoor
