import Derived.Test.YtahagplegmcaaaaGreatDoorGVt
set_option linter.unusedVariables false
set_option linter.unusedSimpArgs false
set_option linter.unnecessarySimpa false
namespace Go.Proofs.YtahagplegmcaaaaGreatDoor
open Go.RowKit Go.Xt
/-! A model of the law's own beside a row of pairs. -/
def LSR (w : World) (gm : Nat) (s : Md) (N : Nat) (W : World) (v : Value) (l : List (Int × Int)) : Prop :=
  ∃ p : Pl, p.gm = gm ∧ MAt W p s ∧ s.Ok N ∧ (∀ g ∈ p.foot, w.heap.size ≤ g) ∧ Nw w W ∧ W.ownsRow 0 106 2 v l.length (pcells l) ∧ ∀ b, v.ownBlock = some b → b ∉ p.foot
theorem LSR.row {w W : World} {gm : Nat} {s : Md} {N : Nat} {v : Value} {l : List (Int × Int)} (h : LSR w gm s N W v l) : W.ownsRow 0 106 2 v l.length (pcells l) := by
  obtain ⟨p, h1, h2, h3, h4, h5, h6, _⟩ := h; exact h6
theorem LSR.grow {w W W' : World} {gm : Nat} {s : Md} {N : Nat} {v : Value} {l : List (Int × Int)} (h : LSR w gm s N W v l) (hn : Nw W W') : LSR w gm s N W' v l := by
  obtain ⟨p, h1, h2, h3, h4, h5, h6, h7⟩ := h
  exact ⟨p, h1, h2.nw hn, h3, h4, h5.trans hn, own_nw h6 hn, h7⟩
set_option maxRecDepth 20000 in
@[go_sem high] theorem eqSpan (a b c d : Int) (w : World) : (Op.equalIn 10000 71 (.agg #[.int .u64 a, .int .u64 b]) (.agg #[.int .u64 c, .int .u64 d])).run Tryz.prog w = .ok (decide (a = c) && decide (b = d)) w := by
  have hS : Tryz.prog.underlying 71 = some (.struct (Tryz.prog.fieldsOf 71)) := by kernel_rfl
  have hp : Tryz.prog.stoodInHeld 71 = false := by kernel_rfl
  rw [show (10000 : Nat) = 9999 + 1 from rfl, run_equalIn_agg w 9999 71 _ _ hS hp]
  simp only [Program.fieldsOf, Tryz.underlying71]
  go_simp
  simp only [ite_ok0, ite_ok]
  simp only [Bool.decide_and]
end Go.Proofs.YtahagplegmcaaaaGreatDoor
namespace Go.Proofs.YtahagplegmcaaaaGreatDoor
open Go.RowKit Go.Xt
/-! Range and Copy of a map; births, gives. -/
set_option maxRecDepth 20000 in
set_option maxHeartbeats 4000000 in
theorem ocopy_M {w : World} {gp : Nat} {v : Value} {l : List (Int × Int)} (h : OM w gp v l) (hn : l.length ≤ 1000000) :
    Calls Tryz.prog 31 #[.pointer (some ⟨gp, 0, none⟩)] w fun e w' => ∃ gq, e = .returned (.pointer (some ⟨gq, 0, none⟩)) ∧ w.heap.size ≤ gq ∧ (∃ v', OM w' gq v' l ∧ ∀ b, v'.ownBlock = some b → w.heap.size ≤ b) ∧ Nw w w' := by
  have p0 := h.p0
  haveI : In gp w := ⟨h.lt⟩
  have HASC := Lib.hid h.asc
  have fin : ∀ (W : World) (v' : Value), W.ownsRow w.heap.size 106 2 v' l.length (pcells l) → Nw w W → w.heap.size ≤ W.heap.size ∧ (∃ v'', OM (W.alloc (.cells #[v'] 114)) W.heap.size v'' l ∧ ∀ b, v''.ownBlock = some b → w.heap.size ≤ b) ∧ Nw w (W.alloc (.cells #[v'] 114)) := fun W v' ho hw =>
    ⟨hw.grown.size, ⟨v', ⟨by simp [go_sem], own_le (own_nw ho ((Nw.refl W).alloc _)) (Nat.zero_le _), fun e => by have := (ho.lt _ e).2; omega, by simp [go_sem], HASC.out⟩, fun b hb => (ho.lt b hb).1⟩, hw.alloc _⟩
  have FIN := Lib.hid fin
  clear fin
  rcases h.form with ⟨rfl, rfl⟩ | ⟨g, c, rfl, -, -, hin⟩
  · clear h
    go_enter Tryz.func31, Tryz.ntmps31
    go_wp2_with fail
    refine (clone_any none 0 0 [] w ⟨rfl, fun h => by omega⟩ (by omega) (fun _ => ⟨rfl, rfl⟩)).mono ?_
    rintro e W2 ⟨v', rfl, hown, hn2⟩
    have HF := Lib.hid (FIN.out W2 v' hown hn2)
    obtain ⟨A, cC, hvC⟩ : ∃ A cC, v' = .slice A 0 cC := by
      rcases own_forms hown with ⟨rfl, _⟩ | ⟨g, c, rfl, _⟩
      · exact ⟨_, _, rfl⟩
      · exact ⟨_, _, rfl⟩
    subst hvC
    clear hown hn2
    go_wp2
    exact bodyPost_ret (results_tmp rfl _ _ _) rfl ⟨W2.heap.size, rfl, HF.out⟩
  · have HR := Lib.hid (⟨pcells_len l, fun hl => ⟨g, 0, rfl, hin.lt, fun j u hu => by
        have := (List.getElem?_eq_some_iff.1 hu).1
        rw [pcells_len] at this
        rw [Nat.zero_add, h.row.cellAt _ this]; exact hu⟩⟩ : Rd w 2 (some ⟨g, 0, none⟩) l.length (pcells l))
    clear h
    go_enter Tryz.func31, Tryz.ntmps31
    go_wp2_with fail
    refine (clone_any _ l.length c l w HR.out hn (fun h => by cases h)).mono ?_
    rintro e W2 ⟨v', rfl, hown, hn2⟩
    have HF := Lib.hid (FIN.out W2 v' hown hn2)
    obtain ⟨A, cC, hvC⟩ : ∃ A cC, v' = .slice A l.length cC := by
      rcases own_forms hown with ⟨rfl, h0⟩ | ⟨g, c, rfl, _⟩
      · rw [h0]; exact ⟨_, _, rfl⟩
      · exact ⟨_, _, rfl⟩
    subst hvC
    clear hown hn2
    go_wp2
    exact bodyPost_ret (results_tmp rfl _ _ _) rfl ⟨W2.heap.size, rfl, HF.out⟩
end Go.Proofs.YtahagplegmcaaaaGreatDoor
namespace Go.Proofs.YtahagplegmcaaaaGreatDoor
open Go.RowKit Go.Xt
/-! births, gives. -/
/-- Whether a move makes a key present that was absent. -/
def birthsM (s : Md) (o : Ox) : Bool := (inR o.key o.hi s.l).any fun p => !hasK (p.1 + o.by_) s.l
/-- Whether an operation may end with an error and change nothing. -/
def givesM (s : Md) (o : Ox) (e : Int) : Bool :=
  if e = 11 then (decide (3 ≤ o.k) && decide (o.k ≤ 10)) || decide (o.k = 12)
  else if e = 6 then ((decide (o.k = 4) || decide (o.k = 5)) && !hasK o.key s.l) || (decide (o.k = 8) && birthsM s o)
  else if e = 10 then decide (o.k = 1)
  else false
end Go.Proofs.YtahagplegmcaaaaGreatDoor
