import Derived.Test.YtenhadpiddocbaaMo
namespace Go.Proofs.Ytenhadpiddocbaa
open Go.RowKit Go.Xt
/-! The law's argument opened. -/
def decG : List Value → Int × Bool
  | [.int _ a, .bool b] => (a, b)
  | _ => (0, false)
theorem gcells_len (g : List (Int × Bool)) : (gcells g).length = g.length * 2 := by
  induction g with
  | nil => rfl
  | cons x g ih => rw [gcells, List.flatMap_cons, List.length_append, ← gcells, ih, List.length_cons]; simp; omega
theorem gates_of {W : World} {A : Option Addr} {len : Nat} {L : List (List Value)} (hn : L.length = len) (hall : ∀ cs ∈ L, All2 [Leaf.int .i64, Leaf.bool] cs)
    (hrd : 0 < len → ∃ b o, A = some ⟨b, o, none⟩ ∧ b < W.heap.size ∧ ∀ i cs, L[i]? = some cs → ∀ j u, cs[j]? = some u → W.cell? ⟨b, o + (i * 2 + j), none⟩ = some u) : ∃ g, Rd W 2 A len (gcells g) := by
  have two : ∀ cs ∈ L, ∃ a b, cs = [.int .i64 a, .bool b] := by
    intro cs hcs
    obtain ⟨_, l1, rfl, ⟨a, rfl, wa⟩, h1⟩ := All2.cons (hall cs hcs)
    obtain ⟨_, l2, rfl, ⟨b, rfl⟩, h2⟩ := All2.cons h1
    obtain rfl := All2.nil h2
    exact ⟨a, b, rfl⟩
  refine ⟨L.map decG, by rw [gcells_len, List.length_map, hn], fun hp => ?_⟩
  obtain ⟨b, o, rfl, hb, hc⟩ := hrd hp
  refine ⟨b, o, rfl, hb, fun j u hu => ?_⟩
  have hj : j < (gcells (L.map decG)).length := (List.getElem?_eq_some_iff.1 hu).1
  rw [gcells_len, List.length_map] at hj
  obtain ⟨cs, hcs⟩ : ∃ cs, L[j / 2]? = some cs := ⟨_, List.getElem?_eq_getElem (by omega)⟩
  obtain ⟨x, y, rfl⟩ := two cs (List.mem_of_getElem? hcs)
  obtain ⟨g0, g1⟩ := gcells_get (L.map decG) (j / 2) (x, y) (by rw [List.getElem?_map, hcs]; rfl)
  have h0 := hc _ _ hcs 0 _ rfl
  have h1 := hc _ _ hcs 1 _ rfl
  rcases (by omega : j = j / 2 * 2 ∨ j = j / 2 * 2 + 1) with e | e
  · rw [e] at hu ⊢
    rw [g0] at hu; injection hu with hu; subst hu; exact h0
  · rw [e] at hu ⊢
    rw [g1] at hu; injection hu with hu; subst hu; exact h1
end Go.Proofs.Ytenhadpiddocbaa
