import Derived.Test.YtnfpicnigfmbdaaGreatDoorGRg
import Derived.Test.YtnfpicnigfmbdaaGreatDoorGZ
set_option linter.unusedVariables false
set_option linter.unusedSimpArgs false
set_option linter.unnecessarySimpa false
namespace Go.Proofs.YtnfpicnigfmbdaaGreatDoor
open Go.RowKit Go.Xt
/-! Linearizations, plain: no program in sight. -/
def opC (c : Cl) : Ox := ⟨c.kd, c.ka, c.kb, c.kc, c.kx, c.ky, c.kz⟩
def rsC (c : Cl) : Rs := ⟨c.re, c.rf, c.rk, c.rv, c.rc⟩
/-- A call performed on a model; none: it is not accepted. -/
def nextM (s : Md) (c : Cl) : Option Md :=
  if c.ans < 0 then some (doM s c.th (opC c)).2
  else if (acceptM s c.th (opC c) (rsC c)).1 = true then some (acceptM s c.th (opC c) (rsC c)).2 else none
/-- Whether call i may be performed when those of o have been. -/
def mayB (l : List Cl) (o : List Nat) (i : Nat) : Bool :=
  decide (i ∉ o) && (List.range l.length).all fun k => match l[k]?, l[i]? with
    | some a, some b => !bf a b || decide (k ∈ o)
    | _, _ => true
/-- Whether all answered calls have been performed. -/
def fullB (l : List Cl) (o : List Nat) : Bool :=
  (List.range l.length).all fun i => match l[i]? with
    | some c => decide (c.ans < 0) || decide (i ∈ o)
    | none => true
theorem mayB_iff {l : List Cl} {o : List Nat} {i : Nat} {b : Cl} (hb : l[i]? = some b) : mayB l o i = true ↔ i ∉ o ∧ ∀ k a, l[k]? = some a → bf a b = true → k ∈ o := by
  simp only [mayB, Bool.and_eq_true, decide_eq_true_eq, List.all_eq_true, List.mem_range]
  constructor
  · rintro ⟨h1, h2⟩
    refine ⟨h1, fun k a ha hab => ?_⟩
    have := h2 k (List.getElem?_eq_some_iff.1 ha).1
    rw [ha, hb] at this
    simpa [hab] using this
  · rintro ⟨h1, h2⟩
    refine ⟨h1, fun k hk => ?_⟩
    rw [List.getElem?_eq_getElem hk, hb]
    simp only
    cases hab : bf l[k] b with
    | false => rfl
    | true => simpa using h2 k _ (List.getElem?_eq_getElem hk) hab
theorem fullB_iff {l : List Cl} {o : List Nat} : fullB l o = true ↔ ∀ i c, l[i]? = some c → 0 ≤ c.ans → i ∈ o := by
  simp only [fullB, List.all_eq_true, List.mem_range]
  constructor
  · intro h i c hc ha
    have := h i (List.getElem?_eq_some_iff.1 hc).1
    rw [hc] at this
    simp only [Bool.or_eq_true, decide_eq_true_eq] at this
    rcases this with h | h
    · omega
    · exact h
  · intro h i hi
    rw [List.getElem?_eq_getElem hi]
    simp only [Bool.or_eq_true, decide_eq_true_eq]
    by_cases ha : 0 ≤ l[i].ans
    · exact .inr (h i _ (List.getElem?_eq_getElem hi) ha)
    · exact .inl (by omega)
/-- The linearizations that begin with o, in the order of the search; s: the model behind o. -/
def exts (l : List Cl) : Nat → List Nat → Md → List (List Nat)
  | 0, o, _ => if fullB l o then [o] else []
  | f + 1, o, s => (if fullB l o then [o] else []) ++ (List.range l.length).flatMap fun i =>
      if mayB l o i then match l[i]?.bind (nextM s) with
        | some s' => exts l f (o ++ [i]) s'
        | none => []
      else []
/-- The model behind an order. -/
def runM (l : List Cl) : Md → List Nat → Option Md
  | s, [] => some s
  | s, i :: o => match l[i]?.bind (nextM s) with
    | some s' => runM l s' o
    | none => none
theorem runM_app (l : List Cl) : ∀ (o : List Nat) (s : Md) (t : List Nat), runM l s (o ++ t) = (runM l s o).bind fun s' => runM l s' t
  | [], s, t => rfl
  | i :: o, s, t => by
    rw [List.cons_append, runM, runM]
    cases h : l[i]?.bind (nextM s) with
    | none => rfl
    | some s' => exact runM_app l o s' t
/-- What may follow o: each call may be performed when those before it have been. -/
def Goes (l : List Cl) : List Nat → List Nat → Prop
  | _, [] => True
  | o, i :: t => i < l.length ∧ mayB l o i = true ∧ Goes l (o ++ [i]) t
theorem ext_mem (l : List Cl) : ∀ (f : Nat) (o : List Nat) (s : Md) (z : List Nat), l.length ≤ f + o.length → Ord l.length o →
    (z ∈ exts l f o s ↔ ∃ t, z = o ++ t ∧ Goes l o t ∧ (runM l s t).isSome = true ∧ fullB l z = true)
  | 0, o, s, z, hf, ho => by
    have hall : ∀ i, i < l.length → i ∈ o := fun i hi => by
      by_cases hm : i ∈ o
      · exact hm
      · have h2 : Ord l.length (o ++ [i]) := ⟨by
          rw [List.nodup_append]
          exact ⟨ho.1, by simp, fun a ha b hb => by simp at hb; subst hb; rintro rfl; exact hm ha⟩, fun j hj => by
          rcases List.mem_append.1 hj with h | h
          · exact ho.2 j h
          · simp at h; omega⟩
        have := nodup_len l.length (o ++ [i]) h2.1 h2.2
        simp at this
        omega
    simp only [exts]
    constructor
    · intro hz
      split at hz
      · rename_i hfull
        simp at hz
        subst hz
        exact ⟨[], by simp, trivial, rfl, hfull⟩
      · cases hz
    · rintro ⟨t, rfl, hg, hr, hfull⟩
      cases t with
      | nil =>
        rw [List.append_nil] at hfull ⊢
        rw [if_pos hfull]; simp
      | cons i t =>
        exfalso
        have h1 := hg.2.1
        rw [mayB_iff (List.getElem?_eq_getElem hg.1)] at h1
        exact h1.1 (hall i hg.1)
  | f + 1, o, s, z, hf, ho => by
    simp only [exts, List.mem_append, List.mem_flatMap, List.mem_range]
    constructor
    · rintro (hz | ⟨i, hi, hz⟩)
      · split at hz
        · rename_i hfull
          simp at hz
          subst hz
          exact ⟨[], by simp, trivial, rfl, hfull⟩
        · cases hz
      · split at hz
        · rename_i hm
          split at hz
          · rename_i s' hs
            have hm' := hm
            rw [mayB_iff (List.getElem?_eq_getElem hi)] at hm'
            obtain ⟨t, rfl, h1, h2, h3⟩ := (ext_mem l f (o ++ [i]) s' z (by simp; omega) ⟨by
              rw [List.nodup_append]
              exact ⟨ho.1, by simp, fun a ha b hb => by simp at hb; subst hb; rintro rfl; exact hm'.1 ha⟩, fun j hj => by
              rcases List.mem_append.1 hj with h | h
              · exact ho.2 j h
              · simp at h; omega⟩).1 hz
            refine ⟨i :: t, by simp, ⟨hi, hm, h1⟩, ?_, h3⟩
            rw [runM, hs]; exact h2
          · cases hz
        · cases hz
    · rintro ⟨t, rfl, hg, hr, hfull⟩
      cases t with
      | nil =>
        left
        rw [List.append_nil] at hfull ⊢
        rw [if_pos hfull]; simp
      | cons i t =>
        right
        refine ⟨i, hg.1, ?_⟩
        rw [if_pos hg.2.1]
        rw [runM] at hr
        have hm' := hg.2.1
        have hi := hg.1
        rw [mayB_iff (List.getElem?_eq_getElem hg.1)] at hm'
        cases hs : l[i]?.bind (nextM s) with
        | none => rw [hs] at hr; cases hr
        | some s' =>
          rw [hs] at hr
          exact (ext_mem l f (o ++ [i]) s' (o ++ i :: t) (by simp; omega) ⟨by
              rw [List.nodup_append]
              exact ⟨ho.1, by simp, fun a ha b hb => by simp at hb; subst hb; rintro rfl; exact hm'.1 ha⟩, fun j hj => by
              rcases List.mem_append.1 hj with h | h
              · exact ho.2 j h
              · simp at h; omega⟩).2 ⟨t, by simp, hg.2.2, hr, hfull⟩
/-- An order each of whose calls may be performed when those before it have been. -/
theorem goes_iff (l : List Cl) : ∀ (t o : List Nat), Ord l.length o → ordOk l o → (Goes l o t ↔ Ord l.length (o ++ t) ∧ ordOk l (o ++ t))
  | [], o, ho, hk => by simp [Goes, ho, hk]
  | i :: t, o, ho, hk => by
    rw [Goes]
    constructor
    · rintro ⟨hi, hm, hg⟩
      rw [mayB_iff (List.getElem?_eq_getElem hi)] at hm
      have h1 : Ord l.length (o ++ [i]) := ⟨by
        rw [List.nodup_append]
        exact ⟨ho.1, by simp, fun a ha b hb => by simp at hb; subst hb; rintro rfl; exact hm.1 ha⟩, fun j hj => by
        rcases List.mem_append.1 hj with h | h
        · exact ho.2 j h
        · simp at h; omega⟩
      have h2 : ordOk l (o ++ [i]) := fun k q j x y hq hy hx => by
        rcases Nat.lt_trichotomy k o.length with hlt | he | hgt
        · rw [List.getElem?_append_left hlt] at hq
          rw [List.take_append_of_le_length (by omega)]
          exact hk k q j x y hq hy hx
        · subst he
          rw [List.getElem?_append_right (Nat.le_refl _)] at hq
          simp at hq
          subst hq
          rw [List.take_append_of_le_length (Nat.le_refl _), List.take_length]
          rw [List.getElem?_eq_getElem hi] at hy
          injection hy with hy
          subst hy
          cases hb : bf x l[i] with
          | false => exact .inr rfl
          | true => exact .inl (hm.2 j x hx hb)
        · have := (List.getElem?_eq_some_iff.1 hq).1
          simp at this
          omega
      have := (goes_iff l t (o ++ [i]) h1 h2).1 hg
      simpa using this
    · rintro ⟨h1, h2⟩
      have hi : i < l.length := h1.2 i (by simp)
      have hm : mayB l o i = true := by
        rw [mayB_iff (List.getElem?_eq_getElem hi)]
        refine ⟨fun hm => ?_, fun k a ha hb => ?_⟩
        · have := (List.nodup_append.1 h1.1).2.2 i hm i (by simp)
          exact this rfl
        · have := h2 o.length i k a l[i] (by rw [List.getElem?_append_right (Nat.le_refl _)]; simp) (List.getElem?_eq_getElem hi) ha
          rw [List.take_append_of_le_length (Nat.le_refl _), List.take_length] at this
          rcases this with h | h
          · exact h
          · rw [hb] at h; cases h
      have h1' : Ord l.length (o ++ [i]) := by
        have e : o ++ i :: t = (o ++ [i]) ++ t := by simp
        rw [e] at h1
        exact ⟨(List.nodup_append.1 h1.1).1, fun j hj => h1.2 j (List.mem_append_left _ hj)⟩
      have h2' : ordOk l (o ++ [i]) := fun k q j x y hq hy hx => by
        have e : o ++ i :: t = (o ++ [i]) ++ t := by simp
        have hlt := (List.getElem?_eq_some_iff.1 hq).1
        have := h2 k q j x y (by rw [e, List.getElem?_append_left hlt]; exact hq) hy hx
        rw [e, List.take_append_of_le_length (by omega)] at this
        exact this
      refine ⟨hi, hm, ?_⟩
      have := (goes_iff l t (o ++ [i]) h1' h2').2 (by simpa using ⟨h1, h2⟩)
      exact this
/-- A linearization. -/
def Lin (l : List Cl) (s : Md) (z : List Nat) : Prop := Ord l.length z ∧ ordOk l z ∧ (runM l s z).isSome = true ∧ fullB l z = true
theorem ord_nil (n : Nat) : Ord n [] := ⟨by simp, by simp⟩
theorem ordOk_nil (l : List Cl) : ordOk l [] := fun k q i x y h => by simp at h
theorem lin_mem {l : List Cl} {s : Md} {z : List Nat} : z ∈ exts l (l.length + 1) [] s ↔ Lin l s z := by
  rw [ext_mem l (l.length + 1) [] s z (by simp) (ord_nil _)]
  constructor
  · rintro ⟨t, rfl, hg, hr, hf⟩
    have := (goes_iff l z [] (ord_nil _) (ordOk_nil l)).1 hg
    exact ⟨by simpa using this.1, by simpa using this.2, hr, hf⟩
  · rintro ⟨h1, h2, h3, h4⟩
    exact ⟨z, rfl, (goes_iff l z [] (ord_nil _) (ordOk_nil l)).2 (by simpa using ⟨h1, h2⟩), h3, h4⟩
end Go.Proofs.YtnfpicnigfmbdaaGreatDoor
namespace Go.Proofs.YtnfpicnigfmbdaaGreatDoor
open Go.RowKit Go.Xt
/-! Linearizations, plain: their order; what a place leaves does not depend on the way to it; what a search yields. -/
/-- Whether a list is before another one in lexicographic order. -/
def lessL : List Int → List Int → Bool
  | [], b => !b.isEmpty
  | _ :: _, [] => false
  | x :: a, y :: b => if x = y then lessL a b else decide (x < y)
theorem less_asymm : ∀ (a b : List Int), lessL a b = true → lessL b a = false
  | [], [], h => by simp [lessL] at h
  | [], _ :: _, _ => rfl
  | _ :: _, [], h => by simp [lessL] at h
  | x :: a, y :: b, h => by
    unfold lessL at h ⊢
    by_cases e : x = y
    · subst e
      rw [if_pos rfl] at h ⊢
      exact less_asymm a b h
    · rw [if_neg e] at h
      rw [if_neg (Ne.symm e)]
      simp at h ⊢; omega
theorem less_app : ∀ (o a b : List Int), lessL (o ++ a) (o ++ b) = lessL a b
  | [], _, _ => rfl
  | x :: o, a, b => by rw [List.cons_append, List.cons_append, lessL, if_pos rfl, less_app o a b]
theorem exts_pre (l : List Cl) : ∀ (f : Nat) (o : List Nat) (s : Md) (z : List Nat), z ∈ exts l f o s → ∃ t, z = o ++ t
  | 0, o, s, z, h => by
    simp only [exts] at h
    split at h
    · simp at h; exact ⟨[], by simp [h]⟩
    · cases h
  | f + 1, o, s, z, h => by
    simp only [exts, List.mem_append, List.mem_flatMap] at h
    rcases h with h | ⟨i, -, h⟩
    · split at h
      · simp at h; exact ⟨[], by simp [h]⟩
      · cases h
    · split at h
      · split at h
        · obtain ⟨t, rfl⟩ := exts_pre l f _ _ z h
          exact ⟨i :: t, by simp⟩
        · cases h
      · cases h
theorem exts_less (l : List Cl) : ∀ (f : Nat) (o : List Nat) (s : Md), (exts l f o s).Pairwise fun a b => lessL (natI a) (natI b) = true
  | 0, o, s => by
    simp only [exts]
    split
    · simp
    · simp
  | f + 1, o, s => by
    simp only [exts]
    rw [List.pairwise_append]
    refine ⟨?_, ?_, ?_⟩
    · split
      · simp
      · simp
    · rw [List.pairwise_flatMap]
      refine ⟨fun i _ => ?_, ?_⟩
      · split
        · split
          · exact exts_less l f _ _
          · simp
        · simp
      · refine List.pairwise_lt_range.imp fun {i j} hij x hx y hy => ?_
        split at hx
        · split at hx
          · split at hy
            · split at hy
              · obtain ⟨t, rfl⟩ := exts_pre l f _ _ x hx
                obtain ⟨u, rfl⟩ := exts_pre l f _ _ y hy
                rw [List.append_assoc, List.append_assoc, natI_app, natI_app o, less_app]
                simp only [List.singleton_append, natI, List.map_cons, lessL]
                rw [if_neg (by omega)]
                simp; omega
              · cases hy
            · cases hy
          · cases hx
        · cases hx
    · intro x hx y hy
      split at hx
      · simp at hx
        subst hx
        obtain ⟨i, -, hy⟩ := List.mem_flatMap.1 hy
        split at hy
        · split at hy
          · obtain ⟨u, rfl⟩ := exts_pre l f _ _ y hy
            rw [List.append_assoc, natI_app]
            have := less_app (natI x) [] (natI ([i] ++ u))
            rw [List.append_nil] at this
            rw [this]
            simp [natI, lessL]
          · cases hy
        · cases hy
      · cases hx
/-- The first of them is before all others. -/
theorem exts_first {l : List Cl} {f : Nat} {o : List Nat} {s : Md} {a z : List Nat} {r : List (List Nat)} (h : exts l f o s = a :: r) (hz : z ∈ exts l f o s) : z = a ∨ (lessL (natI a) (natI z) = true ∧ lessL (natI z) (natI a) = false ∧ 2 ≤ (exts l f o s).length) := by
  have hp := exts_less l f o s
  rw [h] at hp hz ⊢
  rcases List.mem_cons.1 hz with rfl | hz
  · exact .inl rfl
  · have := (List.pairwise_cons.1 hp).1 z hz
    refine .inr ⟨this, less_asymm _ _ this, ?_⟩
    have := List.length_pos_of_mem hz
    simp; omega
theorem mayB_same {l : List Cl} {o o' : List Nat} (h : ∀ i, i ∈ o ↔ i ∈ o') (i : Nat) : mayB l o i = mayB l o' i := by
  have e : ∀ k, decide (k ∈ o) = decide (k ∈ o') := fun k => by simp [h k]
  have e2 : decide (i ∉ o) = decide (i ∉ o') := by simp [h i]
  simp only [mayB, e, e2]
theorem fullB_same {l : List Cl} {o o' : List Nat} (h : ∀ i, i ∈ o ↔ i ∈ o') : fullB l o = fullB l o' := by
  have e : ∀ k, decide (k ∈ o) = decide (k ∈ o') := fun k => by simp [h k]
  simp only [fullB, e]
/-- Whether there is one depends on what has been performed and the model alone. -/
theorem exts_same (l : List Cl) : ∀ (f : Nat) (o o' : List Nat) (s : Md), (∀ i, i ∈ o ↔ i ∈ o') → (exts l f o s = [] ↔ exts l f o' s = [])
  | 0, o, o', s, h => by
    simp only [exts, fullB_same h]
    split <;> simp
  | f + 1, o, o', s, h => by
    simp only [exts, fullB_same h, List.append_eq_nil_iff, List.flatMap_eq_nil_iff]
    refine and_congr ?_ (forall_congr' fun i => imp_congr Iff.rfl ?_)
    · split <;> simp
    · rw [mayB_same h]
      split
      · split
        · exact exts_same l f _ _ _ fun k => by simp [h k]
        · exact Iff.rfl
      · exact Iff.rfl
/-- What a search at a place has yielded: zs, behind ys; E: all that there is; go: what the caller answers. -/
structure Came (go : List (List Nat) → Bool) (ys zs E : List (List Nat)) (goes : Bool) : Prop where
  pre : zs <+: E
  all : goes = true → zs = E
  on : goes = true → ∀ k, k < zs.length → go (ys ++ zs.take (k + 1)) = true
  off : goes = false → ∃ k, zs.length = k + 1 ∧ (∀ j, j < k → go (ys ++ zs.take (j + 1)) = true) ∧ go (ys ++ zs) = false
theorem Came.nil (go : List (List Nat) → Bool) (ys : List (List Nat)) : Came go ys [] [] true :=
  ⟨List.prefix_refl _, fun _ => rfl, fun _ k hk => by simp at hk, fun h => by cases h⟩
theorem Came.one (go : List (List Nat) → Bool) (ys : List (List Nat)) (o : List Nat) : Came go ys [o] [o] (go (ys ++ [o])) := by
  cases h : go (ys ++ [o]) with
  | true => exact ⟨List.prefix_refl _, fun _ => rfl, fun _ k hk => by
      obtain rfl : k = 0 := by simp at hk; exact hk
      simpa using h, fun h => by cases h⟩
  | false => exact ⟨List.prefix_refl _, fun h => by (cases h), fun h => by (cases h), fun _ => ⟨0, rfl, fun j hj => by omega, h⟩⟩
/-- What came first went on, and more comes. -/
theorem Came.app {go : List (List Nat) → Bool} {ys zs zs' E E' : List (List Nat)} {g : Bool} (h : Came go ys zs E true) (k : Came go (ys ++ zs) zs' E' g) : Came go ys (zs ++ zs') (E ++ E') g := by
  obtain rfl := h.all rfl
  have left : ∀ j, j < zs.length → go (ys ++ (zs ++ zs').take (j + 1)) = true := fun j hj => by
    rw [List.take_append_of_le_length (by omega)]; exact h.on rfl j hj
  have right : ∀ j, go (ys ++ zs ++ zs'.take (j + 1)) = true → go (ys ++ (zs ++ zs').take (zs.length + j + 1)) = true := fun j hj => by
    rw [Nat.add_assoc, List.take_length_add_append, ← List.append_assoc]; exact hj
  refine ⟨(List.prefix_append_right_inj _).2 k.pre, fun hg => by rw [k.all hg], fun hg j hj => ?_, fun hg => ?_⟩
  · by_cases hjz : j < zs.length
    · exact left j hjz
    · obtain ⟨m, rfl⟩ : ∃ m, j = zs.length + m := ⟨j - zs.length, by omega⟩
      simp at hj
      exact right m (k.on hg m (by omega))
  · obtain ⟨m, h1, h2, h3⟩ := k.off hg
    refine ⟨zs.length + m, by simp [h1]; omega, fun j hj => ?_, by rw [← List.append_assoc]; exact h3⟩
    by_cases hjz : j < zs.length
    · exact left j hjz
    · obtain ⟨q, rfl⟩ : ∃ q, j = zs.length + q := ⟨j - zs.length, by omega⟩
      exact right q (h2 q (by omega))
/-- It stopped, whatever else there were. -/
theorem Came.more {go : List (List Nat) → Bool} {ys zs E E' : List (List Nat)} (h : Came go ys zs E false) : Came go ys zs (E ++ E') false :=
  ⟨h.pre.trans (List.prefix_append _ _), fun h => by (cases h), fun h => by (cases h), h.off⟩
end Go.Proofs.YtnfpicnigfmbdaaGreatDoor
namespace Go.Proofs.YtnfpicnigfmbdaaGreatDoor
open Go.RowKit Go.Xt
/-! Sets as numbers. -/
theorem i64_nat {a : Nat} (h : a < 4611686018427387904) : IntKind.i64.wrap (a : Int) = a := by rw [IntKind.wrap_i64]; omega
theorem of64 {a : Nat} (h : a < 4611686018427387904) : (BitVec.ofInt 64 (a : Int)).toNat = a := by
  rw [BitVec.ofInt_natCast, BitVec.toNat_ofNat]; exact Nat.mod_eq_of_lt (by omega)
theorem bits_and64 (a b : Nat) (ha : a < 4611686018427387904) (hb : b < 4611686018427387904) : bits .and .i64 (a : Int) (b : Int) = ((a &&& b : Nat) : Int) := by
  show IntKind.i64.wrap ((BitVec.ofInt 64 (a : Int) &&& BitVec.ofInt 64 (b : Int)).toNat : Int) = _
  rw [BitVec.toNat_and, of64 ha, of64 hb, i64_nat (Nat.lt_of_le_of_lt Nat.and_le_left ha)]
theorem bits_or64 (a b : Nat) (ha : a < 1073741824) (hb : b < 1073741824) : bits .or .i64 (a : Int) (b : Int) = ((a ||| b : Nat) : Int) := by
  have hx : a ||| b < 2 ^ 30 := Nat.or_lt_two_pow (by omega) (by omega)
  show IntKind.i64.wrap ((BitVec.ofInt 64 (a : Int) ||| BitVec.ofInt 64 (b : Int)).toNat : Int) = _
  rw [BitVec.toNat_or, of64 (by omega), of64 (by omega), i64_nat (by omega)]
theorem bits_andNot64 (a b : Nat) (ha : a < 1073741824) (hb : b < 1073741824) : bits .andNot .i64 (a : Int) (b : Int) = ((a &&& (18446744073709551615 - b) : Nat) : Int) := by
  have hx : a &&& (18446744073709551615 - b) ≤ a := Nat.and_le_left
  show IntKind.i64.wrap ((BitVec.ofInt 64 (a : Int) &&& ~~~ (BitVec.ofInt 64 (b : Int))).toNat : Int) = _
  rw [BitVec.toNat_and, BitVec.toNat_not, of64 (by omega), of64 (by omega), show 2 ^ 64 - 1 - b = 18446744073709551615 - b by omega]
  exact i64_nat (by omega)
/-- The set of the numbers below k with a property. -/
def mk (P : Nat → Bool) : Nat → Nat
  | 0 => 0
  | k + 1 => if P k then mk P k ||| 2 ^ k else mk P k
theorem mk_lt (P : Nat → Bool) : ∀ k, mk P k < 2 ^ k
  | 0 => by simp [mk]
  | k + 1 => by
    have h := mk_lt P k
    have h2 : (2 : Nat) ^ (k + 1) = 2 ^ k + 2 ^ k := by rw [Nat.pow_succ]; omega
    rw [mk]
    split
    · exact Nat.or_lt_two_pow (by omega) (by omega)
    · omega
theorem mk_bit (P : Nat → Bool) : ∀ k j, (mk P k).testBit j = (decide (j < k) && P j)
  | 0, j => by simp [mk]
  | k + 1, j => by
    rw [mk]
    have ih := mk_bit P k j
    by_cases hj : j = k
    · subst hj
      have h0 : (mk P j).testBit j = false := by rw [mk_bit P j j]; simp
      cases hp : P j with
      | true => simp [Nat.testBit_or, Nat.testBit_two_pow_self]
      | false => simp [h0]
    · have e : decide (j < k + 1) = decide (j < k) := by
        by_cases h : j < k
        · simp [h]; omega
        · simp [h]; omega
      rw [e, ← ih]
      split
      · rw [Nat.testBit_or, Nat.testBit_two_pow_of_ne (Ne.symm hj), Bool.or_false]
      · rfl
/-- A number that stands for a set. -/
def Msk (D : Nat) (o : List Nat) : Prop := D < 1048576 ∧ ∀ k, D.testBit k = decide (k ∈ o)
theorem Msk.nil : Msk 0 [] := ⟨by decide, fun k => by simp⟩
theorem Msk.snoc {D i : Nat} {o : List Nat} (h : Msk D o) (hi : i < 20) : Msk (D ||| 2 ^ i) (o ++ [i]) := by
  refine ⟨?_, fun k => ?_⟩
  · have h1 : (2 : Nat) ^ i < 2 ^ 20 := Nat.pow_lt_pow_right (by decide) hi
    exact Nat.or_lt_two_pow (n := 20) h.1 h1
  · rw [Nat.testBit_or, h.2 k]
    by_cases hk : k = i
    · subst hk; simp [Nat.testBit_two_pow_self]
    · rw [Nat.testBit_two_pow_of_ne (Ne.symm hk)]; simp [hk]
theorem Msk.in_ {D i : Nat} {o : List Nat} (h : Msk D o) : D / 2 ^ i &&& 1 = if i ∈ o then 1 else 0 := by
  have h1 := h.2 i
  rw [Nat.testBit_eq_decide_div_mod_eq] at h1
  rw [Nat.and_one_is_mod]
  by_cases hm : i ∈ o
  · rw [if_pos hm]; simpa [hm] using h1
  · rw [if_neg hm]
    simp [hm] at h1
    omega
theorem and_zero {a : Nat} {b : Nat} : a &&& b = 0 ↔ ∀ k, a.testBit k = true → b.testBit k = false := by
  constructor
  · intro h k hk
    have := congrArg (fun z => z.testBit k) h
    simp only [Nat.testBit_and, hk, Nat.zero_testBit, Bool.true_and] at this
    exact this
  · intro h
    apply Nat.eq_of_testBit_eq
    intro k
    rw [Nat.testBit_and, Nat.zero_testBit]
    cases ha : a.testBit k with
    | false => rfl
    | true => rw [h k ha]; rfl
theorem not_bit {D k : Nat} (hD : D < 1048576) (hk : k < 64) : (18446744073709551615 - D).testBit k = !D.testBit k := by
  have := Nat.testBit_two_pow_sub_succ (n := 64) (x := D) (by omega) k
  rw [show (2 : Nat) ^ 64 - (D + 1) = 18446744073709551615 - D by omega] at this
  rw [this]; simp [hk]
theorem Msk.sub {D a : Nat} {o : List Nat} (h : Msk D o) (ha : a < 1048576) : a &&& (18446744073709551615 - D) = 0 ↔ ∀ k, a.testBit k = true → k ∈ o := by
  rw [and_zero]
  refine forall_congr' fun k => imp_congr_right fun hk => ?_
  have hk64 : k < 64 := by
    rcases Nat.lt_or_ge k 64 with h | h
    · exact h
    · exfalso
      have : a.testBit k = false := Nat.testBit_lt_two_pow (Nat.lt_of_lt_of_le ha (Nat.pow_le_pow_right (n := 2) (by decide) (show 20 ≤ k by omega)))
      rw [hk] at this; cases this
  rw [not_bit h.1 hk64, h.2 k]
  simp
theorem Msk.full {D a : Nat} {o : List Nat} (h : Msk D o) : D &&& a = a ↔ ∀ k, a.testBit k = true → k ∈ o := by
  constructor
  · intro e k hk
    have := congrArg (fun z => z.testBit k) e
    simp only [Nat.testBit_and, hk, h.2 k, Bool.and_true] at this
    simpa using this
  · intro e
    apply Nat.eq_of_testBit_eq
    intro k
    rw [Nat.testBit_and]
    cases ha : a.testBit k with
    | false => simp
    | true => rw [h.2 k]; simp [e k ha]
theorem Msk.same {D : Nat} {o o' : List Nat} (h : Msk D o) (h' : Msk D o') : ∀ i, i ∈ o ↔ i ∈ o' := fun i => by
  have := (h.2 i).symm.trans (h'.2 i)
  simpa using this
/-- The calls that precede a call; those that were answered. -/
def bmP (l : List Cl) (i : Nat) : Nat → Bool := fun k => match l[k]?, l[i]? with | some a, some b => bf a b | _, _ => false
def muP (l : List Cl) : Nat → Bool := fun i => match l[i]? with | some c => decide (0 ≤ c.ans) | none => false
def bm (l : List Cl) (i : Nat) : Nat := mk (bmP l i) l.length
def mu (l : List Cl) : Nat := mk (muP l) l.length
theorem mk_lt20 (P : Nat → Bool) {k : Nat} (h : k ≤ 20) : mk P k < 1048576 := Nat.lt_of_lt_of_le (mk_lt _ _) (Nat.pow_le_pow_right (n := 2) (by decide) h)
theorem p20 {k : Nat} (h : k < 20) : 2 ^ k < 1048576 := Nat.pow_lt_pow_right (by decide) h
theorem or_form {q k : Nat} (hq : q < 1048576) (hk : k < 20) : bits .or .i64 (q : Int) (wrap64 (2 ^ k)) = ((q ||| 2 ^ k : Nat) : Int) := by
  have h := p20 hk
  obtain ⟨t, ht⟩ : ∃ t : Nat, t = 2 ^ k := ⟨_, rfl⟩
  have e : wrap64 (2 ^ k) = (t : Int) := by
    rw [show ((2 : Int) ^ k) = (t : Int) by rw [ht]; simp]
    unfold wrap64
    omega
  rw [e, ← ht, bits_or64 _ _ (by omega) (by omega)]
theorem or_form2 {q k : Nat} (hq : q < 1048576) (hk : k < 20) : bits .or .i64 (q : Int) (IntKind.i64.wrap (2 ^ k)) = ((q ||| 2 ^ k : Nat) : Int) := by
  have h := or_form hq hk
  unfold wrap64 at h
  rw [IntKind.wrap_i64]
  exact h
theorem bm_iff {l : List Cl} {D i : Nat} {o : List Nat} (h : Msk D o) (hl : l.length ≤ 20) (hi : i < l.length) : (i ∉ o ∧ bm l i &&& (18446744073709551615 - D) = 0) ↔ mayB l o i = true := by
  have hb := List.getElem?_eq_getElem hi
  rw [mayB_iff hb]
  refine and_congr_right fun _ => ?_
  have hlt : bm l i < 1048576 := Nat.lt_of_lt_of_le (mk_lt _ _) (Nat.pow_le_pow_right (n := 2) (by decide) hl)
  rw [h.sub hlt]
  constructor
  · intro hk k a ha hab
    refine hk k ?_
    rw [bm, mk_bit]; unfold bmP; rw [ha, hb]
    simp [(List.getElem?_eq_some_iff.1 ha).1, hab]
  · intro hk k hbit
    rw [bm, mk_bit] at hbit; unfold bmP at hbit
    simp only [Bool.and_eq_true, decide_eq_true_eq] at hbit
    obtain ⟨h1, h2⟩ := hbit
    rw [List.getElem?_eq_getElem h1, hb] at h2
    exact hk k _ (List.getElem?_eq_getElem h1) h2
theorem mu_iff {l : List Cl} {D : Nat} {o : List Nat} (h : Msk D o) : D &&& mu l = mu l ↔ fullB l o = true := by
  rw [h.full, fullB_iff]
  constructor
  · intro hk i c hc ha
    refine hk i ?_
    rw [mu, mk_bit]; unfold muP; rw [hc]
    simp [(List.getElem?_eq_some_iff.1 hc).1, ha]
  · intro hk i hbit
    rw [mu, mk_bit] at hbit; unfold muP at hbit
    simp only [Bool.and_eq_true, decide_eq_true_eq] at hbit
    obtain ⟨h1, h2⟩ := hbit
    rw [List.getElem?_eq_getElem h1] at h2
    exact hk i _ (List.getElem?_eq_getElem h1) (by simpa using h2)
end Go.Proofs.YtnfpicnigfmbdaaGreatDoor
