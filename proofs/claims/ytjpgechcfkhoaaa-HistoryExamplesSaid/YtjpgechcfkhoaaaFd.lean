import Derived.Test.YtjpgechcfkhoaaaFa
namespace Go.Proofs.Ytjpgechcfkhoaaa
open Go.RowKit Go.Xt
/-! The map of the places, plain. -/
/-- What the map says after k indices. -/
def pm (o : List Int) (k : Nat) : Int → Option Int := fun z => if z ∈ o.take k then some (plF o z 0) else none
theorem pm_zero (o : List Int) : pm o 0 = fun _ => none := by funext z; simp [pm]
theorem pm_succ {o : List Int} {k : Nat} {x : Int} (hx : o[k]? = some x) (hn : x ∉ o.take k) : upd (pm o k) x k = pm o (k + 1) := by
  obtain ⟨p1, q1⟩ := List.getElem?_eq_some_iff.1 hx
  funext z
  unfold upd pm
  rw [List.take_succ_eq_append_getElem p1, q1]
  by_cases hz : z = x
  · subst hz
    rw [if_pos rfl, if_pos (by simp), plF_first hx hn]
  · rw [if_neg hz]
    simp [hz]
theorem pm_all (o : List Int) {k : Nat} (hk : o.length ≤ k) (z : Int) : pm o k z = if z ∈ o then some (plF o z 0) else none := by
  unfold pm; rw [List.take_of_length_le hk]
theorem plF_mem {o : List Int} {z : Int} : 0 ≤ plF o z 0 ↔ z ∈ o := by
  rcases plF_cases o z with ⟨h1, h2⟩ | ⟨j, h1, h2, _⟩
  · rw [h2]; simp [h1]
  · rw [h1]; simp only [Int.natCast_nonneg, true_iff]; exact List.mem_of_getElem? h2
theorem plF_neg {o : List Int} {z : Int} (h : z ∉ o) : plF o z 0 = -1 := by
  rcases plF_cases o z with ⟨_, h2⟩ | ⟨j, _, h2, _⟩
  · exact h2
  · exact absurd (List.mem_of_getElem? h2) h
/-- Only calls that the order holds count. -/
theorem okAll_of {o : List Int} {l : List Cl} (h : ∀ (i k : Nat) (x y : Cl), (k : Int) ∈ o → l[i]? = some x → l[k]? = some y → okIK o x y i k = true) : OkAll o l := by
  intro i k x y hx hy
  by_cases hk : (k : Int) ∈ o
  · exact h i k x y hk hx hy
  · unfold okIK; rw [plF_neg hk]; simp
end Go.Proofs.Ytjpgechcfkhoaaa
