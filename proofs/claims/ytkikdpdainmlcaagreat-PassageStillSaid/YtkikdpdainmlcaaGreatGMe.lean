import Derived.Test.YtkikdpdainmlcaaGreatGMa
set_option linter.unusedVariables false
set_option linter.unusedSimpArgs false
set_option linter.unnecessarySimpa false
namespace Go.Proofs.YtkikdpdainmlcaaGreat
open Go.RowKit Go.Xt
/-! Refusals. -/
theorem thr_get : ∀ (b : List Bool) (k : Nat) (s : Bool), b[k]? = some s → (thr b)[k * 5]? = some (.bool false) ∧ (thr b)[k * 5 + 1]? = some (.bool false) ∧ (thr b)[k * 5 + 2]? = some (.int .u64 0) ∧ (thr b)[k * 5 + 3]? = some (.int .u64 0) ∧ (thr b)[k * 5 + 4]? = some (.bool s)
  | [], k, s, h => by simp at h
  | x :: b, 0, s, h => by simp at h; subst h; exact ⟨rfl, rfl, rfl, rfl, rfl⟩
  | x :: b, k + 1, s, h => by
    have h2 := thr_get b k s (by simpa using h)
    have e : ∀ j, (thr (x :: b))[(k + 1) * 5 + j]? = (thr b)[k * 5 + j]? := fun j => by
      rw [show (k + 1) * 5 + j = (k * 5 + j) + 5 by omega]; rfl
    exact ⟨(e 0).trans h2.1, (e 1).trans h2.2.1, (e 2).trans h2.2.2.1, (e 3).trans h2.2.2.2.1, (e 4).trans h2.2.2.2.2⟩
theorem Mdl.cells {base : Nat} {W : World} {gm gt gp : Nat} {slots : Int} {b : List Bool} {L : Value} (h : Mdl base W gm gt gp slots b L) {k : Nat} {s : Bool} (hk : b[k]? = some s) :
    W.cell? ⟨gt, k * 5, none⟩ = some (.bool false) ∧ W.cell? ⟨gt, k * 5 + 1, none⟩ = some (.bool false) ∧ W.cell? ⟨gt, k * 5 + 2, none⟩ = some (.int .u64 0) ∧ W.cell? ⟨gt, k * 5 + 3, none⟩ = some (.int .u64 0) ∧ W.cell? ⟨gt, k * 5 + 4, none⟩ = some (.bool s) := by
  obtain ⟨p, _⟩ := List.getElem?_eq_some_iff.1 hk
  obtain ⟨g0, g1, g2, g3, g4⟩ := thr_get b k s hk
  exact ⟨(h.th.cellAt _ (by omega)).trans g0, (h.th.cellAt _ (by omega)).trans g1, (h.th.cellAt _ (by omega)).trans g2, (h.th.cellAt _ (by omega)).trans g3, (h.th.cellAt _ (by omega)).trans g4⟩
def cnt (b : List Bool) : Nat := b.count true
end Go.Proofs.YtkikdpdainmlcaaGreat
namespace Go.Proofs.YtkikdpdainmlcaaGreat
open Go.RowKit Go.Xt
/-! Opening and shutting. -/
def ThRow (base : Nat) (W : World) (gt : Nat) (b : List Bool) : Prop := W.ownsRow base 175 5 (.slice (some ⟨gt, 0, none⟩) b.length b.length) b.length (thr b)
theorem grown_weak {w w' : World} (h : w.grownBy w' none) (r : Option Nat) : w.grownBy w' r := ⟨h.os, h.tape, h.output, h.size, fun k hk _ => h.block k hk (by simp)⟩
theorem Mdl.nw {base : Nat} {W W' : World} {gm gt gp : Nat} {slots : Int} {b : List Bool} {L : Value} (h : Mdl base W gm gt gp slots b L) (hn : Nw W W') : Mdl base W' gm gt gp slots b L :=
  { h with im := Nat.lt_of_lt_of_le h.im hn.grown.size, it := Nat.lt_of_lt_of_le h.it hn.grown.size, ip := Nat.lt_of_lt_of_le h.ip hn.grown.size, m0 := cell_nw h.m0 hn, m1 := cell_nw h.m1 hn, m2 := cell_nw h.m2 hn, p0 := cell_nw h.p0 hn, pz := (frozen_nw h.ip hn).trans h.pz, th := own_nw h.th hn }
def opE (slots : Int) (b : List Bool) : Int := if slots ≤ (cnt b : Nat) then 10 else 0
def opB (slots : Int) (b : List Bool) (t : Nat) : List Bool := if slots ≤ (cnt b : Nat) then b else b.set t true
end Go.Proofs.YtkikdpdainmlcaaGreat
