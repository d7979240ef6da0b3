import Derived.Test.YtjpgechcfkhoaaaW
namespace Go.Proofs.Ytjpgechcfkhoaaa
open Go.RowKit Go.Xt
/-! What Agrees says of an order. -/
/-- The first error among an order's indices from k on. -/
def scE (o : List Int) (n : Nat) : Nat → Nat → Int
  | _, 0 => 0
  | k, f + 1 => match o[k]? with
    | none => 0
    | some x => if x < 0 ∨ (n : Int) ≤ x then 3 else if x ∈ o.take k then 9 else scE o n (k + 1) f
theorem scE_cons {o : List Int} {n k : Nat} {x : Int} (hx : o[k]? = some x) : scE o n k (o.length - k) = if x < 0 ∨ (n : Int) ≤ x then 3 else if x ∈ o.take k then 9 else scE o n (k + 1) (o.length - (k + 1)) := by
  have hl := (List.getElem?_eq_some_iff.1 hx).1
  rw [show o.length - k = (o.length - (k + 1)) + 1 by omega, scE, hx]
theorem scE_zero (o : List Int) (n : Nat) : ∀ f k, k + f = o.length → scE o n k f = 0 → ∀ j x, k ≤ j → o[j]? = some x → 0 ≤ x ∧ x < n ∧ x ∉ o.take j
  | 0, k, h, _, j, x, hj, hx => by have := (List.getElem?_eq_some_iff.1 hx).1; omega
  | f + 1, k, h, h0, j, x, hj, hx => by
    obtain ⟨z, hz⟩ : ∃ z, o[k]? = some z := ⟨o[k], List.getElem?_eq_getElem (by omega)⟩
    rw [scE, hz] at h0
    simp only at h0
    by_cases h1 : z < 0 ∨ (n : Int) ≤ z
    · rw [if_pos h1] at h0; cases h0
    · rw [if_neg h1] at h0
      by_cases h2 : z ∈ o.take k
      · rw [if_pos h2] at h0; cases h0
      · rw [if_neg h2] at h0
        rcases Nat.eq_or_lt_of_le hj with rfl | hj'
        · rw [hz] at hx; injection hx with hx; subst hx
          exact ⟨by omega, by omega, h2⟩
        · exact scE_zero o n f (k + 1) (by omega) h0 j x hj' hx
theorem plF_ge (l : List Int) (i : Int) : ∀ k, (i ∉ l ∧ plF l i k = -1) ∨ ∃ j : Nat, plF l i k = ((k + j : Nat) : Int) ∧ l[j]? = some i ∧ i ∉ l.take j := by
  induction l with
  | nil => intro k; exact .inl ⟨by simp, rfl⟩
  | cons y l ih =>
    intro k
    rw [plF]
    by_cases h : y = i
    · rw [if_pos h]; exact .inr ⟨0, by simp, by simp [h], by simp⟩
    · rw [if_neg h]
      rcases ih (k + 1) with ⟨h1, h2⟩ | ⟨j, h1, h2, h3⟩
      · exact .inl ⟨by simp [h1]; exact fun e => h e.symm, h2⟩
      · exact .inr ⟨j + 1, by rw [h1]; congr 1; omega, by simpa using h2, by simp [h3]; exact fun e => h e.symm⟩
theorem plF_cases (l : List Int) (i : Int) : (i ∉ l ∧ plF l i 0 = -1) ∨ ∃ j : Nat, plF l i 0 = (j : Int) ∧ l[j]? = some i ∧ i ∉ l.take j := by
  rcases plF_ge l i 0 with h | ⟨j, h1, h2⟩
  · exact .inl h
  · exact .inr ⟨j, by rw [h1]; simp, h2⟩
theorem mem_take {α : Type} {l : List α} {x : α} {j k : Nat} (h : l[j]? = some x) (hjk : j < k) : x ∈ l.take k :=
  List.mem_of_getElem? (i := j) (by rw [List.getElem?_take, if_pos hjk]; exact h)
theorem plF_lt {l : List Int} {k : Nat} {x : Int} (hx : l[k]? = some x) : (plF l x 0 < (k : Int) ↔ x ∈ l.take k) ∧ 0 ≤ plF l x 0 ∧ plF l x 0 ≤ k := by
  rcases plF_cases l x with ⟨h1, _⟩ | ⟨j, h1, h2, h3⟩
  · exact absurd (List.mem_of_getElem? hx) h1
  · have hjk : j ≤ k := by
      rcases Nat.lt_or_ge k j with h | h
      · exact absurd (mem_take hx h) h3
      · exact h
    rw [h1]
    refine ⟨⟨fun h => mem_take h2 (by omega), fun h => ?_⟩, by omega, by omega⟩
    rcases Nat.eq_or_lt_of_le hjk with rfl | h'
    · exact absurd h h3
    · omega
theorem plF_first {l : List Int} {k : Nat} {x : Int} (hx : l[k]? = some x) (hn : x ∉ l.take k) : plF l x 0 = k := by
  have := plF_lt hx
  have h2 : ¬ plF l x 0 < (k : Int) := fun h => hn (this.1.1 h)
  omega
/-- Call i does not precede call k and miss or follow it in the order. -/
def okIK (o : List Int) (x y : Cl) (i k : Nat) : Bool := !(bf x y && (decide (0 ≤ plF o k 0) && (decide (plF o i 0 < 0) || decide (plF o k 0 < plF o i 0))))
def OkAll (o : List Int) (l : List Cl) : Prop := ∀ (i k : Nat) (x y : Cl), l[i]? = some x → l[k]? = some y → okIK o x y i k = true
def agrE (o : List Int) (l : List Cl) : Int := if bad l = none then scE o l.length 0 o.length else 15
open Classical in
noncomputable def agrB (o : List Int) (l : List Cl) : Bool := decide (agrE o l = 0 ∧ OkAll o l)
theorem agrB_false {o : List Int} {l : List Cl} (h : agrE o l ≠ 0) : agrB o l = false := by simp [agrB, h]
theorem agrB_no {o : List Int} {l : List Cl} {i k : Nat} {x y : Cl} (hx : l[i]? = some x) (hy : l[k]? = some y) (h : okIK o x y i k = false) : agrB o l = false := by
  rw [agrB, decide_eq_false_iff_not]
  rintro ⟨_, h2⟩
  rw [h2 i k x y hx hy] at h
  cases h
theorem agrB_yes {o : List Int} {l : List Cl} (h : agrE o l = 0) (h2 : OkAll o l) : agrB o l = true := by simp [agrB, h, h2]
end Go.Proofs.Ytjpgechcfkhoaaa
