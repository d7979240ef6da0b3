import Derived.Test.YtjpgechcfkhoaaaFe
import Derived.Test.YtjpgechcfkhoaaaFf
namespace Go.Proofs.Ytjpgechcfkhoaaa
open Go.RowKit Go.Xt
/-! The chapter's example, plain. -/
theorem ex_bad : bad exL = none := by decide
theorem ex_wf : ∀ y ∈ exL, WfC y := by
  intro y hy
  simp only [exL, List.mem_cons, List.not_mem_nil, or_false] at hy
  rcases hy with rfl | rfl | rfl | rfl <;> exact ⟨by decide, by decide, by decide, by decide, by decide, by decide⟩
theorem ex_chk : chkV exL = .tuple #[.int .i64 0, .int .i64 0] := by rw [chkV, ex_bad]
theorem ex_of {i : Nat} {x : Cl} (h : exL[i]? = some x) : (i = 0 ∧ x = x0) ∨ (i = 1 ∧ x = x1) ∨ (i = 2 ∧ x = x2) ∨ (i = 3 ∧ x = x3) := by
  have hi : i < 4 := (List.getElem?_eq_some_iff.1 h).1
  rcases (by omega : i = 0 ∨ i = 1 ∨ i = 2 ∨ i = 3) with rfl | rfl | rfl | rfl <;> simp [exL] at h <;> simp [h]
theorem ex_E {o : List Int} (h : scE o 4 0 o.length = 0) : agrE o exL = 0 := by rw [agrE, if_pos ex_bad]; exact h
theorem ex_a1 : agrE [1, 0, 3, 2] exL = 0 := ex_E (by decide)
theorem ex_a2 : agrE [0, 2, 1] exL = 0 := ex_E (by decide)
theorem ex_a3 : agrE [2] exL = 0 := ex_E (by decide)
theorem ex_b1 : agrB [1, 0, 3, 2] exL = true := agrB_yes ex_a1 (by
  intro i k x y hx hy
  rcases ex_of hx with ⟨rfl, rfl⟩ | ⟨rfl, rfl⟩ | ⟨rfl, rfl⟩ | ⟨rfl, rfl⟩ <;> rcases ex_of hy with ⟨rfl, rfl⟩ | ⟨rfl, rfl⟩ | ⟨rfl, rfl⟩ | ⟨rfl, rfl⟩ <;> decide)
theorem ex_b2 : agrB [0, 2, 1] exL = false := agrB_no (i := 1) (k := 2) (x := x1) (y := x2) rfl rfl (by decide)
theorem ex_b3 : agrB [2] exL = false := agrB_no (i := 0) (k := 2) (x := x0) (y := x2) rfl rfl (by decide)
theorem ex_p0 : preE 4 exL = 0 := by rw [preE, if_pos ex_bad]; decide
def px0 : Cl := { x0 with ans := -1, st := 0 }
def px1 : Cl := { x1 with took := -1, ans := -1, st := 0 }
theorem ex_p1 : preW 4 exL = [px0, px1] := by rw [preW, if_pos ex_p0]; decide
theorem ex_p2 : pendK [px0, px1] 2 = [0, 1] := by decide
theorem ex_of1 : (ofT 1 exL).length = 2 := by decide
def mL0 : List Cl := [{ x0 with ans := 1 }, x1, x2, x3]
def mL1 : List Cl := [{ x0 with took := 5 }, x1, x2, x3]
theorem ex_m0 : chkV mL0 = .tuple #[.int .i64 0, .int .i64 15] := by rw [chkV, show bad mL0 = some 0 by decide]; rfl
theorem ex_m1 : chkV mL1 = .tuple #[.int .i64 1, .int .i64 15] := by rw [chkV, show bad mL1 = some 1 by decide]; rfl
theorem ex_f02 : bf x0 x2 = true := by decide
theorem ex_f13 : bf x1 x3 = true := by decide
theorem ex_f01 : bf x0 x1 = false := by decide
theorem ex_f23 : bf x2 x3 = false := by decide
theorem ex_f32 : bf x3 x2 = false := by decide
theorem ml0_wf : ∀ y ∈ mL0, WfC y := by
  intro y hy
  simp only [mL0, List.mem_cons, List.not_mem_nil, or_false] at hy
  rcases hy with rfl | rfl | rfl | rfl <;> exact ⟨by decide, by decide, by decide, by decide, by decide, by decide⟩
theorem ml1_wf : ∀ y ∈ mL1, WfC y := by
  intro y hy
  simp only [mL1, List.mem_cons, List.not_mem_nil, or_false] at hy
  rcases hy with rfl | rfl | rfl | rfl <;> exact ⟨by decide, by decide, by decide, by decide, by decide, by decide⟩
end Go.Proofs.Ytjpgechcfkhoaaa
