import Derived.Test.YtjpgechcfkhoaaaFi
import Derived.Test.YtjpgechcfkhoaaaFm0
namespace Go.Proofs.Ytjpgechcfkhoaaa
open Go.RowKit Go.Xt
theorem boolInfo : (Try.prog.info? 4).map (fun i => (i.zero, i.size, i.bytes)) = some (some (.bool false), 1, 1) := by kernel_rfl
/-- Block b holds the bools P 0 .. P (n-1), and may be written. -/
structure Seen (W : World) (b n : Nat) (P : Nat → Bool) : Prop where
  lt : b < W.heap.size
  cell : ∀ i, i < n → W.cell? ⟨b, i, none⟩ = some (.bool (P i))
  fz : ∀ i, i < n → W.frozen? ⟨b, i, none⟩ = false
theorem Seen.nw {W W' : World} {b n : Nat} {P : Nat → Bool} (h : Seen W b n P) (hn : Nw W W') : Seen W' b n P := by
  obtain ⟨d, rfl⟩ := hn
  haveI : In b W := ⟨h.lt⟩
  exact ⟨Nat.lt_of_lt_of_le h.lt (le_size _ _ _), fun i hi => by rw [cell_ext]; exact h.cell i hi, fun i hi => by rw [frozen_ext]; exact h.fz i hi⟩
theorem Seen.set {W : World} {b n q : Nat} {P : Nat → Bool} (h : Seen W b n P) (hq : q < n) : Seen (W.setCell ⟨b, q, none⟩ (.bool true)) b n (fun i => decide (i = q) || P i) := by
  refine ⟨by simpa using h.lt, fun i hi => ?_, fun i hi => (World.frozen?_setCell ..).trans (h.fz i hi)⟩
  by_cases e : i = q
  · subst e
    rw [World.cell?_setCell_same _ _ _ (h.cell i hi)]; simp
  · rw [World.cell?_setCell_other (h := by intro e2; injection e2 with e3 e4; exact e e4.symm), h.cell i hi]; simp [e]
theorem Seen.congr {W : World} {b n : Nat} {P Q : Nat → Bool} (h : Seen W b n P) (e : ∀ i, i < n → P i = Q i) : Seen W b n Q :=
  ⟨h.lt, fun i hi => by rw [← e i hi]; exact h.cell i hi, h.fz⟩
/-- make([]bool, n). -/
theorem make_bools (w : World) (n : Nat) (hn : n ≤ 1000) : ∃ w', (Instr.makeSlice 57 (.int .i64 (n : Int)) (.int .i64 (n : Int))).run Try.prog w = .ok (.slice (some ⟨w.heap.size, 0, none⟩) n n) w' ∧ Seen w' w.heap.size n (fun _ => false) ∧ Nw w w' := by
  obtain ⟨i, hi1, hz0, hz1, hz2⟩ := info_parts boolInfo
  obtain ⟨w', h1, h2, h3⟩ := run_make_full w w.heap.size 57 4 i (.bool false) 1 Try.underlying57 hi1 hz0 hz1 .i64 .i64 n (by rw [hz2]; omega) (by unfold maxLen; omega) (Nat.le_refl _)
  refine ⟨w', h1, ?_, .of h3⟩
  have hlt : w.heap.size < w'.heap.size := by
    rcases h2.2 with ⟨h0, _⟩ | ⟨g, cap, cur, h0, _, hg, _⟩
    · cases h0
    · injection h0 with h0 _ _
      injection h0 with h0
      injection h0 with h0 _ _
      rw [h0]
      exact (Array.getElem?_eq_some_iff.1 hg).1
  refine ⟨hlt, fun j hj => ?_, fun j _ => World.ownsRow.frozenAt h2 j⟩
  rw [World.ownsRow.cellAt h2 j (by omega)]
  have : (madeCells (Value.bool false).cells (n * 1)).toList = List.replicate (n * 1) (.bool false) := toList_madeCells_one _ _
  rw [this, List.getElem?_replicate, if_pos (by omega)]
theorem take_seen {ys : List Nat} {k q : Nat} (h : ys[k]? = some q) (i : Nat) : (decide (i = q) || decide (i ∈ ys.take k)) = decide (i ∈ ys.take (k + 1)) := by
  obtain ⟨p1, q1⟩ := List.getElem?_eq_some_iff.1 h
  rw [List.take_succ_eq_append_getElem p1, q1]
  by_cases e : i = q <;> simp [e]
theorem natI_wf {o : List Nat} {n : Nat} (h : ∀ i ∈ o, i < n) (hn : n ≤ 1000) : ∀ x ∈ natI o, (Lit.int .i64 x).wf = true := by
  intro x hx
  rw [natI, List.mem_map] at hx
  obtain ⟨i, hi, rfl⟩ := hx
  have := h i hi
  simp [Lit.wf, IntKind.min, IntKind.max, IntKind.bits, IntKind.signed]; omega
end Go.Proofs.Ytjpgechcfkhoaaa
