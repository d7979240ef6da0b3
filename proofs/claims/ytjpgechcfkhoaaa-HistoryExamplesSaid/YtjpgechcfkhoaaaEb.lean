import Derived.Test.YtjpgechcfkhoaaaEa
namespace Go.Proofs.Ytjpgechcfkhoaaa
open Go.RowKit Go.Xt
/-! What the reference's inner loop finds. -/
def nxI (l : List Cl) (thr : Int) : Nat → Int
  | 0 => -1
  | j + 1 => match l[j]? with
    | none => nxI l thr j
    | some x => if x.took ≤ thr then nxI l thr j else if nxI l thr j < 0 ∨ x.took < tk l (nxI l thr j).toNat then (j : Int) else nxI l thr j
theorem nxI_succ {l : List Cl} {thr : Int} {j : Nat} {x : Cl} (h : l[j]? = some x) : nxI l thr (j + 1) = if x.took ≤ thr then nxI l thr j else if nxI l thr j < 0 ∨ x.took < tk l (nxI l thr j).toNat then (j : Int) else nxI l thr j := by
  rw [nxI, h]
theorem nxI_spec (l : List Cl) (thr : Int) : ∀ j : Nat, j ≤ l.length → (nxI l thr j = -1 ∧ ∀ i x, i < j → l[i]? = some x → x.took ≤ thr) ∨
    ∃ (q : Nat) (y : Cl), nxI l thr j = q ∧ q < j ∧ l[q]? = some y ∧ thr < y.took ∧ ∀ i x, i < j → l[i]? = some x → thr < x.took → y.took ≤ x.took
  | 0, _ => .inl ⟨rfl, fun i x h => absurd h (by omega)⟩
  | j + 1, h => by
    obtain ⟨x, hx⟩ : ∃ x, l[j]? = some x := ⟨l[j], List.getElem?_eq_getElem (by omega)⟩
    rw [nxI_succ hx]
    have ih := nxI_spec l thr j (by omega)
    by_cases h1 : x.took ≤ thr
    · rw [if_pos h1]
      rcases ih with ⟨e, h2⟩ | ⟨q, y, e, h2, h3, h4, h5⟩
      · refine .inl ⟨e, fun i z hi hz => ?_⟩
        rcases Nat.lt_succ_iff_lt_or_eq.1 hi with h | rfl
        · exact h2 i z h hz
        · rw [hx] at hz; injection hz with hz; subst hz; exact h1
      · refine .inr ⟨q, y, e, by omega, h3, h4, fun i z hi hz ht => ?_⟩
        rcases Nat.lt_succ_iff_lt_or_eq.1 hi with h | rfl
        · exact h5 i z h hz ht
        · rw [hx] at hz; injection hz with hz; subst hz; omega
    · rw [if_neg h1]
      rcases ih with ⟨e, h2⟩ | ⟨q, y, e, h2, h3, h4, h5⟩
      · rw [e, if_pos (.inl (by omega))]
        refine .inr ⟨j, x, rfl, by omega, hx, by omega, fun i z hi hz ht => ?_⟩
        rcases Nat.lt_succ_iff_lt_or_eq.1 hi with h | rfl
        · have := h2 i z h hz; omega
        · rw [hx] at hz; injection hz with hz; subst hz; omega
      · rw [e, Int.toNat_natCast, tk_of h3]
        by_cases h6 : x.took < y.took
        · rw [if_pos (.inr h6)]
          refine .inr ⟨j, x, rfl, by omega, hx, by omega, fun i z hi hz ht => ?_⟩
          rcases Nat.lt_succ_iff_lt_or_eq.1 hi with h | rfl
          · have := h5 i z h hz ht; omega
          · rw [hx] at hz; injection hz with hz; subst hz; omega
        · rw [if_neg (by omega)]
          refine .inr ⟨q, y, rfl, by omega, h3, h4, fun i z hi hz ht => ?_⟩
          rcases Nat.lt_succ_iff_lt_or_eq.1 hi with h | rfl
          · exact h5 i z h hz ht
          · rw [hx] at hz; injection hz with hz; subst hz; omega
/-- The step behind which the k-th effect is sought. -/
def thrOf (l : List Cl) (E : List Nat) (k : Nat) : Int := match (E.take k).getLast? with | some i => tk l i | none => -1
theorem eff_lt {l : List Cl} {E : List Nat} (hE : IsEff l E) {i j : Nat} (hij : i < j) (hj : j < E.length) : tk l (E[i]'(by omega)) < tk l E[j] := (List.pairwise_iff_getElem.1 hE.1) i j (by omega) hj hij
theorem thr_eq {l : List Cl} {E : List Nat} {k : Nat} (hk : k < E.length) : thrOf l E (k + 1) = tk l E[k] := by
  have h : (E.take (k + 1)).getLast? = some E[k] := by
    rw [List.take_succ_eq_append_getElem hk, List.getLast?_append]; rfl
  rw [thrOf, h]
theorem thr_lt {l : List Cl} {E : List Nat} (hE : IsEff l E) : ∀ {k m : Nat}, k ≤ m → (hm : m < E.length) → thrOf l E k < tk l E[m]
  | 0, m, _, hm => by
    obtain ⟨x, hx, h0⟩ := (hE.2 E[m]).1 (List.getElem_mem hm)
    rw [tk_of hx]; simp [thrOf]; omega
  | k + 1, m, h, hm => by rw [thr_eq (by omega)]; exact eff_lt hE (by omega) hm
/-- The inner loop finds the next effect. -/
theorem nx_is {l : List Cl} {E : List Nat} (hE : IsEff l E) {k : Nat} (hk : k ≤ E.length) : nxI l (thrOf l E k) l.length = match E[k]? with | some i => (i : Int) | none => -1 := by
  have h0 : -1 ≤ thrOf l E k := by
    cases k with
    | zero => simp [thrOf]
    | succ k =>
      rw [thr_eq (by omega)]
      obtain ⟨x, hx, h0⟩ := (hE.2 E[k]).1 (List.getElem_mem (by omega))
      rw [tk_of hx]; omega
  rcases nxI_spec l (thrOf l E k) l.length (Nat.le_refl _) with ⟨e, h2⟩ | ⟨q, y, e, h2, h3, h4, h5⟩
  · rw [e]
    rcases Nat.lt_or_ge k E.length with h | h
    · obtain ⟨x, hx, hx0⟩ := (hE.2 E[k]).1 (List.getElem_mem h)
      have h6 := thr_lt hE (Nat.le_refl k) h
      rw [tk_of hx] at h6
      have := h2 E[k] x (List.getElem?_eq_some_iff.1 hx).1 hx
      omega
    · rw [List.getElem?_eq_none h]
  · rw [e]
    obtain ⟨m, hm, hmq⟩ := List.getElem_of_mem ((hE.2 q).2 ⟨y, h3, by omega⟩)
    have hkm : k ≤ m := by
      rcases Nat.lt_or_ge m k with h | h
      · exfalso
        obtain ⟨k', rfl⟩ : ∃ k', k = k' + 1 := ⟨k - 1, by omega⟩
        rw [thr_eq (by omega)] at h4
        have h6 : tk l E[m] ≤ tk l E[k'] := by
          rcases Nat.eq_or_lt_of_le (show m ≤ k' by omega) with h | h
          · subst h; exact Int.le_refl _
          · have := eff_lt hE h (by omega); omega
        rw [hmq, tk_of h3] at h6
        omega
      · exact h
    rcases Nat.eq_or_lt_of_le hkm with rfl | h
    · rw [List.getElem?_eq_getElem hm, hmq]
    · exfalso
      have h6 := eff_lt hE h hm
      rw [hmq, tk_of h3] at h6
      obtain ⟨x, hx, hx0⟩ := (hE.2 (E[k]'(by omega))).1 (List.getElem_mem (by omega))
      rw [tk_of hx] at h6
      have h7 := thr_lt hE (Nat.le_refl k) (by omega)
      rw [tk_of hx] at h7
      have := h5 _ x (List.getElem?_eq_some_iff.1 hx).1 hx h7
      omega
theorem nx_lt {l : List Cl} {thr : Int} {j : Nat} (hj : j ≤ l.length) : nxI l thr j < j ∧ -1 ≤ nxI l thr j := by
  rcases nxI_spec l thr j hj with ⟨e, _⟩ | ⟨q, y, e, h2, _⟩ <;> rw [e] <;> omega
end Go.Proofs.Ytjpgechcfkhoaaa
