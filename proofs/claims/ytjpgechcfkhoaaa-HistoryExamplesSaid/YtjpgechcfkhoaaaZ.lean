import Derived.Test.YtjpgechcfkhoaaaY
namespace Go.Proofs.Ytjpgechcfkhoaaa
open Go.RowKit Go.Xt
/-! Plain lemmas on well-formed histories. -/
theorem good_at {l : List Cl} (hb : bad l = none) {j : Nat} {x : Cl} (hx : l[j]? = some x) : goodP (l.take j) x = true :=
  (badFrom_none l l.length 0 (by omega)).1 hb j x (Nat.zero_le _) hx
theorem good_parts {l : List Cl} (hb : bad l = none) {j : Nat} {x : Cl} (hx : l[j]? = some x) :
    ordF (l.take j) x = true ∧ effF x = true ∧ endF x = true ∧ aftF (l.take j) x = true ∧ apaF (l.take j) x = true := by
  have h := good_at hb hx
  simpa [goodP] using h
theorem inv_step {l : List Cl} (hb : bad l = none) {j : Nat} {x y : Cl} (hx : l[j]? = some x) (hy : l[j + 1]? = some y) : x.inv < y.inv := by
  have h := (good_parts hb hy).1
  rw [ordF, take_last hx] at h
  simp at h
  exact h.2.2.2.2
theorem inv_asc {l : List Cl} (hb : bad l = none) {i : Nat} {x : Cl} (hx : l[i]? = some x) : ∀ (k : Nat) {y : Cl}, l[i + k + 1]? = some y → x.inv < y.inv
  | 0, y, hy => inv_step hb hx hy
  | k + 1, y, hy => by
    have hl : i + k + 1 < l.length := by have := (List.getElem?_eq_some_iff.1 hy).1; omega
    have h1 := inv_asc hb hx k (List.getElem?_eq_getElem hl)
    have h2 := inv_step hb (List.getElem?_eq_getElem hl) hy
    omega
theorem inv_lt {l : List Cl} (hb : bad l = none) {i j : Nat} {x y : Cl} (hij : i < j) (hx : l[i]? = some x) (hy : l[j]? = some y) : x.inv < y.inv := by
  obtain ⟨k, rfl⟩ : ∃ k, j = i + k + 1 := ⟨j - i - 1, by omega⟩
  exact inv_asc hb hx k hy
theorem inv_nonneg {l : List Cl} (hb : bad l = none) {j : Nat} {x : Cl} (hx : l[j]? = some x) : 0 ≤ x.inv := by
  have h := (good_parts hb hx).1
  rw [ordF] at h
  simp at h
  exact h.2.2.2.1
theorem th_range {l : List Cl} (hb : bad l = none) {j : Nat} {x : Cl} (hx : l[j]? = some x) : 0 ≤ x.th ∧ x.th < 64 := by
  have h := (good_parts hb hx).1
  rw [ordF] at h
  simp at h
  exact ⟨h.1, h.2.1⟩
theorem ix_at {l : List Cl} (hb : bad l = none) {j : Nat} {x : Cl} (hx : l[j]? = some x) : x.ix = ((ofT x.th (l.take j)).length : Nat) := by
  have h := (good_parts hb hx).1
  rw [ordF] at h
  simp at h
  exact h.2.2.1
theorem took_le {l : List Cl} (hb : bad l = none) {j : Nat} {x : Cl} (hx : l[j]? = some x) (ht : 0 ≤ x.took) : x.inv ≤ x.took := by
  have h := (good_parts hb hx).2.1
  simp [effF] at h
  omega
theorem took_or {l : List Cl} (hb : bad l = none) {j : Nat} {x : Cl} (hx : l[j]? = some x) : x.took = -1 ∨ x.inv ≤ x.took := by
  have h := (good_parts hb hx).2.1
  simpa [effF] using h
theorem ans_ge {l : List Cl} (hb : bad l = none) {j : Nat} {x : Cl} (hx : l[j]? = some x) (ha : 0 ≤ x.ans) : 0 ≤ x.took ∧ x.took ≤ x.ans := by
  have h := (good_parts hb hx).2.2.1
  rw [endF, if_neg (by omega)] at h
  by_cases q : x.took < 0 ∨ x.ans < x.took ∨ x.st < 1 ∨ x.ans - x.inv < x.st - 1
  · rw [if_pos q] at h; cases h
  · omega
theorem mem_ofT {t : Int} {l : List Cl} {j : Nat} {x : Cl} (hx : l[j]? = some x) (ht : x.th = t) : x ∈ ofT t l := by
  simp only [ofT, List.mem_filter, beq_iff_eq]
  exact ⟨List.mem_of_getElem? hx, ht⟩
/-- The last of a thread's calls among the first k stands somewhere, and none of the thread's calls behind it. -/
theorem ofT_last (t : Int) (l : List Cl) : ∀ (k : Nat) (z : Cl), (ofT t (l.take k)).getLast? = some z → ∃ m, m < k ∧ l[m]? = some z ∧ z.th = t ∧ ∀ i x, m < i → i < k → l[i]? = some x → x.th ≠ t
  | 0, z, h => by simp [ofT] at h
  | k + 1, z, h => by
    rcases hx : l[k]? with _ | x
    · have hk : l.length ≤ k := List.getElem?_eq_none_iff.1 hx
      rw [List.take_of_length_le (by omega), ← List.take_of_length_le hk] at h
      obtain ⟨m, h1, h2, h3, h4⟩ := ofT_last t l k z h
      refine ⟨m, by omega, h2, h3, fun i y hi1 hi2 hy => ?_⟩
      rcases Nat.lt_succ_iff_lt_or_eq.1 hi2 with h5 | rfl
      · exact h4 i y hi1 h5 hy
      · rw [hx] at hy; cases hy
    · rw [ofT_succ t hx] at h
      by_cases ht : x.th = t
      · rw [if_pos ht] at h
        simp at h
        subst h
        exact ⟨k, by omega, hx, ht, fun i y h1 h2 _ => by omega⟩
      · rw [if_neg ht, List.append_nil] at h
        obtain ⟨m, h1, h2, h3, h4⟩ := ofT_last t l k z h
        refine ⟨m, by omega, h2, h3, fun i y hi1 hi2 hy => ?_⟩
        rcases Nat.lt_succ_iff_lt_or_eq.1 hi2 with h5 | rfl
        · exact h4 i y hi1 h5 hy
        · rw [hx] at hy; injection hy with hy; subst hy; exact ht
/-- A thread's calls precede its later calls. -/
theorem prec {l : List Cl} (hb : bad l = none) : ∀ (j : Nat) (i : Nat) (x y : Cl), i < j → l[i]? = some x → l[j]? = some y → x.th = y.th → bf x y = true := by
  intro j
  induction j using Nat.strongRecOn with
  | ind j ih =>
    intro i x y hij hx hy ht
    have ha := (good_parts hb hy).2.2.2.1
    rw [aftF] at ha
    have hmem : x ∈ ofT y.th (l.take j) := mem_ofT (j := i) (by rw [List.getElem?_take, if_pos hij]; exact hx) ht
    rcases hl : (ofT y.th (l.take j)).getLast? with _ | z
    · rw [List.getLast?_eq_none_iff] at hl
      rw [hl] at hmem; cases hmem
    · rw [hl] at ha
      obtain ⟨m, h1, h2, h3, h4⟩ := ofT_last y.th l j z hl
      rcases Nat.lt_trichotomy i m with h | h | h
      · have hz := ih m h1 i x z h hx h2 (by rw [ht, h3])
        simp [bf] at hz ha ⊢
        have e1 := ans_ge hb h2 ha.1
        have e2 := took_le hb h2 e1.1
        omega
      · subst h
        rw [hx] at h2; injection h2 with h2; subst h2; exact ha
      · exact absurd ht (h4 i x h hij hx)
theorem took_mem {x : Cl} (h : 0 ≤ x.took) : x.took ∈ stepsL x := by simp [stepsL, h]
/-- No two calls take effect at the same step. -/
theorem took_ne {l : List Cl} (hb : bad l = none) {i j : Nat} {x y : Cl} (hij : i < j) (hx : l[i]? = some x) (hy : l[j]? = some y) (h1 : 0 ≤ x.took) (h2 : 0 ≤ y.took) : x.took ≠ y.took := by
  by_cases ht : x.th = y.th
  · have h := prec hb j i x y hij hx hy ht
    simp [bf] at h
    have := ans_ge hb hx h.1
    have := took_le hb hy h2
    omega
  · have h := (good_parts hb hy).2.2.2.2
    rw [apaF, List.all_eq_true] at h
    have h3 := h x (List.mem_of_getElem? (i := i) (by rw [List.getElem?_take, if_pos hij]; exact hx))
    have ht' : (x.th == y.th) = false := by simpa using ht
    rw [ht'] at h3
    simp only [Bool.false_or, Bool.not_eq_true', meetF] at h3
    rw [List.any_eq_false] at h3
    have h4 := h3 x.took (took_mem h1)
    intro e
    apply h4
    rw [List.any_eq_true]
    exact ⟨y.took, took_mem h2, by simp [e]⟩
/-- The calls that took effect, by their steps. -/
def IsEff (l : List Cl) (ys : List Nat) : Prop := ys.Pairwise (fun i j => tk l i < tk l j) ∧ ∀ i, i ∈ ys ↔ ∃ x, l[i]? = some x ∧ 0 ≤ x.took
theorem sorted_eq {α : Type} {R : α → α → Prop} (hi : ∀ x, ¬ R x x) (ha : ∀ x y, R x y → ¬ R y x) : ∀ {a b : List α}, a.Pairwise R → b.Pairwise R → (∀ x, x ∈ a ↔ x ∈ b) → a = b
  | [], [], _, _, _ => rfl
  | [], y :: b, _, _, h => by have := (h y).2 (by simp); simp at this
  | x :: a, [], _, _, h => by have := (h x).1 (by simp); simp at this
  | x :: a, y :: b, h1, h2, h => by
    rw [List.pairwise_cons] at h1 h2
    have e : x = y := by
      have hx := (h x).1 (by simp)
      have hy := (h y).2 (by simp)
      rw [List.mem_cons] at hx hy
      rcases hx with rfl | hx
      · rfl
      · rcases hy with rfl | hy
        · rfl
        · exact absurd (h1.1 y hy) (ha _ _ (h2.1 x hx))
    subst e
    refine congrArg _ (sorted_eq hi ha h1.2 h2.2 fun z => ?_)
    have hz := h z
    rw [List.mem_cons, List.mem_cons] at hz
    constructor
    · intro q
      rcases hz.1 (.inr q) with rfl | r
      · exact absurd (h1.1 z q) (hi z)
      · exact r
    · intro q
      rcases hz.2 (.inr q) with rfl | r
      · exact absurd (h2.1 z q) (hi z)
      · exact r
theorem IsEff.unique {l : List Cl} {a b : List Nat} (ha : IsEff l a) (hb : IsEff l b) : a = b :=
  sorted_eq (R := fun i j => tk l i < tk l j) (fun _ => by omega) (fun _ _ h => by omega) ha.1 hb.1 fun x => (ha.2 x).trans (hb.2 x).symm
/-- The indices of the calls that took effect. -/
def idxK (l : List Cl) : Nat → List Nat
  | 0 => []
  | k + 1 => match l[k]? with
    | some x => if 0 ≤ x.took then idxK l k ++ [k] else idxK l k
    | none => idxK l k
theorem idxK_succ {l : List Cl} {k : Nat} {x : Cl} (h : l[k]? = some x) : idxK l (k + 1) = idxK l k ++ if 0 ≤ x.took then [k] else [] := by
  rw [idxK, h]; simp only; split <;> simp
theorem idxK_mem (l : List Cl) : ∀ (k i : Nat), i ∈ idxK l k ↔ i < k ∧ ∃ x, l[i]? = some x ∧ 0 ≤ x.took
  | 0, i => by simp [idxK]
  | k + 1, i => by
    rcases hx : l[k]? with _ | x
    · rw [idxK, hx]
      simp only
      rw [idxK_mem l k i]
      constructor
      · rintro ⟨h1, h2⟩; exact ⟨by omega, h2⟩
      · rintro ⟨h1, y, h2, h3⟩
        refine ⟨?_, y, h2, h3⟩
        rcases Nat.lt_succ_iff_lt_or_eq.1 h1 with h | rfl
        · exact h
        · rw [hx] at h2; cases h2
    · rw [idxK_succ hx, List.mem_append, idxK_mem l k i]
      constructor
      · rintro (⟨h1, h2⟩ | h)
        · exact ⟨by omega, h2⟩
        · split at h
          · simp at h; subst h; exact ⟨by omega, x, hx, by assumption⟩
          · simp at h
      · rintro ⟨h1, y, h2, h3⟩
        rcases Nat.lt_succ_iff_lt_or_eq.1 h1 with h | rfl
        · exact .inl ⟨h, y, h2, h3⟩
        · rw [hx] at h2; injection h2 with h2; subst h2
          rw [if_pos h3]; exact .inr (by simp)
theorem idxK_nodup (l : List Cl) : ∀ k : Nat, (idxK l k).Nodup
  | 0 => by simp [idxK]
  | k + 1 => by
    rw [idxK]; split
    · split
      · rw [List.nodup_append]
        refine ⟨idxK_nodup l k, by simp, fun a ha b hb => ?_⟩
        simp at hb; subst hb
        have := ((idxK_mem l _ a).1 ha).1
        omega
      · exact idxK_nodup l k
    · exact idxK_nodup l k
theorem idxK_len (l : List Cl) : ∀ k, (idxK l k).length ≤ k
  | 0 => by simp [idxK]
  | k + 1 => by
    have := idxK_len l k
    rw [idxK]; split
    · split <;> simp <;> omega
    · omega
theorem tk_of {l : List Cl} {i : Nat} {x : Cl} (h : l[i]? = some x) : tk l i = x.took := by rw [tk, h]
/-- A sorted permutation of the indices is the order of effects. -/
theorem eff_of {l : List Cl} (hb : bad l = none) {ys : List Nat} (hp : ys.Perm (idxK l l.length)) (hs : ys.Pairwise fun i j => tk l i ≤ tk l j) : IsEff l ys := by
  have hm : ∀ i, i ∈ ys ↔ ∃ x, l[i]? = some x ∧ 0 ≤ x.took := fun i => by
    rw [hp.mem_iff, idxK_mem]
    constructor
    · exact fun h => h.2
    · rintro ⟨x, h1, h2⟩; exact ⟨(List.getElem?_eq_some_iff.1 h1).1, x, h1, h2⟩
  have hn : ys.Nodup := hp.nodup_iff.2 (idxK_nodup l _)
  refine ⟨?_, hm⟩
  have h2 := hs.and hn
  refine List.Pairwise.imp_of_mem (fun {i j} hi hj h => ?_) h2
  obtain ⟨x, hx, x0⟩ := (hm i).1 hi
  obtain ⟨y, hy, y0⟩ := (hm j).1 hj
  have hne : tk l i ≠ tk l j := by
    rw [tk_of hx, tk_of hy]
    rcases Nat.lt_trichotomy i j with q | q | q
    · exact took_ne hb q hx hy x0 y0
    · exact absurd q h.2
    · exact fun e => took_ne hb q hy hx y0 x0 e.symm
  have := h.1
  omega
/-- There is an order of effects. -/
theorem eff_ex {l : List Cl} (hb : bad l = none) : ∃ ys, IsEff l ys ∧ ys.length ≤ l.length := by
  have hp := List.mergeSort_perm (idxK l l.length) (fun i j => decide (tk l i ≤ tk l j))
  refine ⟨_, eff_of hb hp ?_, by rw [hp.length_eq]; exact idxK_len l _⟩
  have h := List.pairwise_mergeSort (le := fun i j => decide (tk l i ≤ tk l j)) (by intro a b c h1 h2; simp at *; omega) (by intro a b; simp; omega) (idxK l l.length)
  simpa using h
end Go.Proofs.Ytjpgechcfkhoaaa
