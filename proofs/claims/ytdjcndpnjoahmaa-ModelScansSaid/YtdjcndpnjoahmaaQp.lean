import Derived.Test.YtdjcndpnjoahmaaQo
namespace Go.Proofs.Ytdjcndpnjoahmaa
open Go.RowKit Go.Xt
/-! A model of the law's own beside a row of pairs. -/
def LSR (w : World) (gm : Nat) (s : Md) (N : Nat) (W : World) (v : Value) (l : List (Int × Int)) : Prop :=
  ∃ p : Pl, p.gm = gm ∧ MAt W p s ∧ s.Ok N ∧ (∀ g ∈ p.foot, w.heap.size ≤ g) ∧ Nw w W ∧ W.ownsRow 0 39 2 v l.length (pcells l) ∧ ∀ b, v.ownBlock = some b → b ∉ p.foot
theorem LSR.ls {w W : World} {gm : Nat} {s : Md} {N : Nat} {v : Value} {l : List (Int × Int)} (h : LSR w gm s N W v l) : LS w gm s N W := by
  obtain ⟨p, h1, h2, h3, h4, h5, _, _⟩ := h; exact ⟨p, h1, h2, h3, h4, h5⟩
theorem LSR.row {w W : World} {gm : Nat} {s : Md} {N : Nat} {v : Value} {l : List (Int × Int)} (h : LSR w gm s N W v l) : W.ownsRow 0 39 2 v l.length (pcells l) := by
  obtain ⟨p, h1, h2, h3, h4, h5, h6, _⟩ := h; exact h6
theorem LSR.grow {w W W' : World} {gm : Nat} {s : Md} {N : Nat} {v : Value} {l : List (Int × Int)} (h : LSR w gm s N W v l) (hn : Nw W W') : LSR w gm s N W' v l := by
  obtain ⟨p, h1, h2, h3, h4, h5, h6, h7⟩ := h
  exact ⟨p, h1, h2.nw hn, h3, h4, h5.trans hn, own_nw h6 hn, h7⟩
/-- Do, beside a row and any block that was there. -/
theorem do_LSR {w W W' : World} {gm : Nat} {s : Md} {N : Nat} {v : Value} {l : List (Int × Int)} (h : LSR w gm s N W v l) (hn : Nw W W') (hN : N ≤ 500000) (t : Int) (o : Ox) (hw : o.Wf) :
    Calls Try.prog 6 #[.pointer (some ⟨gm, 0, none⟩), .int .i64 t, opV o] W' fun e W2 => e = .returned (resV (doM s t o).1) ∧ LSR w gm (doM s t o).2 (N + 1) W2 v l ∧ ∃ X, Chg X W' W2 ∧ ∀ g ∈ X, g < W.heap.size := by
  obtain ⟨p, rfl, h2, h3, h4, h5, h6, h7⟩ := h
  refine (do_any W' p s (h2.nw hn) h3 hN t o hw).mono ?_
  rintro e W2 ⟨rfl, p', hu⟩
  have h6' := own_nw h6 hn
  refine ⟨rfl, ⟨p', hu.gm, hu.at', doM_ok h3 t hw, fun g hg => ?_, nw_chg2 (h5.trans hn) hu.chg h4, own_chg h6' hu.chg h7, fun b hb hx => ?_⟩, p.foot, hu.chg, fun g hg => h2.lt hg⟩
  · rcases hu.mv g hg with h | h
    · exact h4 g h
    · exact Nat.le_trans (h5.trans hn).grown.size h
  · rcases hu.mv b hx with h | h
    · exact h7 b hb h
    · have := (h6'.lt b hb).2; omega
theorem pairs_LS {w W : World} {gm : Nat} {s : Md} {N : Nat} (h : LS w gm s N W) (hN : N ≤ 500000) :
    Calls Try.prog 8 #[.pointer (some ⟨gm, 0, none⟩)] W fun e W' => ∃ v', e = .returned v' ∧ LSR w gm s N W' v' s.l := by
  obtain ⟨p, rfl, h1, h2, h3, h4⟩ := h
  refine (pairs_M W p s h1 (by have := h2.len; omega)).mono ?_
  rintro e W' ⟨v', rfl, hown, hn⟩
  refine ⟨v', rfl, p, rfl, h1.nw hn, h2, h3, h4.trans hn, own_le hown (Nat.zero_le _), fun b hb hx => ?_⟩
  have := (hown.lt b hb).1
  have := h1.lt hx
  omega
theorem iter_LS {w W : World} {gm : Nat} {s : Md} {N : Nat} (h : LS w gm s N W) (t : Int) :
    Calls Try.prog 9 #[.pointer (some ⟨gm, 0, none⟩), .int .i64 t] W fun e W' => e = .returned (.tuple #[.agg #[.int .u64 (ofM s t).lo, .int .u64 (ofM s t).hi], .bool (ofM s t).mo, .bool (ofM s t).op]) ∧ Nw W W' := by
  obtain ⟨p, rfl, h1, h2, h3, h4⟩ := h
  exact iter_M W p s h1 t
set_option maxRecDepth 20000 in
@[go_sem high] theorem eqSpan (a b c d : Int) (w : World) : (Op.equalIn 10000 25 (.agg #[.int .u64 a, .int .u64 b]) (.agg #[.int .u64 c, .int .u64 d])).run Try.prog w = .ok (decide (a = c) && decide (b = d)) w := by
  have hS : Try.prog.underlying 25 = some (.struct (Try.prog.fieldsOf 25)) := by kernel_rfl
  have hp : Try.prog.stoodInHeld 25 = false := by kernel_rfl
  rw [show (10000 : Nat) = 9999 + 1 from rfl, run_equalIn_agg w 9999 25 _ _ hS hp]
  simp only [Program.fieldsOf, Try.underlying25]
  go_simp
  simp only [ite_ok0, ite_ok]
  simp only [Bool.decide_and]
end Go.Proofs.Ytdjcndpnjoahmaa
