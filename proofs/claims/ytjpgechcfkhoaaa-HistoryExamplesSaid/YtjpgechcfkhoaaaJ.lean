import Derived.Test.YtjpgechcfkhoaaaI
namespace Go.Proofs.Ytjpgechcfkhoaaa
open Go.RowKit Go.Xt
attribute [local go_sem] Oper.semAt_some
/-- Nothing but block b's cells was written. -/
structure Wrote (b : Nat) (W W' : World) : Prop where
  os : W'.os = W.os
  tape : W'.tape = W.tape
  output : W'.output = W.output
  size : W'.heap.size = W.heap.size
  others : ∀ k, k ≠ b → W'.heap[k]? = W.heap[k]?
  keeps : KeepsOthers W W'
theorem Wrote.refl (b : Nat) (W : World) : Wrote b W W := ⟨rfl, rfl, rfl, rfl, fun _ _ => rfl, KeepsOthers.refl _⟩
theorem Wrote.setCell {b : Nat} {W W' : World} (h : Wrote b W W') (o : Nat) (v : Value) : Wrote b W (W'.setCell ⟨b, o, none⟩ v) :=
  ⟨h.os, h.tape, h.output, by simpa using h.size, fun k hk => (heap_set _ _ _ _ (fun e => hk e.symm)).trans (h.others k hk), h.keeps.trans (KeepsOthers.setCell _ _ _)⟩
theorem wrote_setCells (b : Nat) : ∀ (vs : List Value) (o : Nat) (W W' : World), Wrote b W W' → Wrote b W (W'.setCells b o vs)
  | [], _, _, _, h => h
  | v :: r, o, W, W', h => by rw [World.setCells]; exact wrote_setCells b r (o + 1) W _ (h.setCell o v)
theorem Wrote.below {b n₀ : Nat} {W W' : World} (h : Wrote b W W') (hb : n₀ ≤ b) : Below n₀ W W' :=
  ⟨h.os, h.tape, h.output, by rw [h.size]; exact Nat.le_refl _, fun k hk => h.others k (by omega)⟩
theorem Wrote.cell {b : Nat} {W W' : World} (h : Wrote b W W') {k i : Nat} (hk : k ≠ b) : W'.cell? ⟨k, i, none⟩ = W.cell? ⟨k, i, none⟩ := World.cell?_of_block (h.others k hk)
theorem Wrote.frozen {b : Nat} {W W' : World} (h : Wrote b W W') {k i : Nat} (hk : k ≠ b) : W'.frozen? ⟨k, i, none⟩ = W.frozen? ⟨k, i, none⟩ := World.frozen?_of_block (h.others k hk)
theorem AtC.same {W W' : World} {k o : Nat} {c : Cl} (h : AtC W k o c) (e : ∀ i, W'.cell? ⟨k, i, none⟩ = W.cell? ⟨k, i, none⟩) : AtC W' k o c := by
  simpa only [AtC, e] using h
theorem AtC.kept {A B : World} {row : Option Nat} {b o : Nat} {c : Cl} (h : AtC A b o c) (hg : A.grownBy B row) (hr : ∀ r, row = some r → ∃ o : Obj, A.heap[r]? = some o ∧ o.isCells = false) : AtC B b o c := by
  obtain ⟨a0, a1, a2, a3, a4, a5, a6, a7, a8, a9, a10, a11, a12, a13, a14, a15, a16, a17⟩ := h
  exact ⟨cell_kept a0 hg hr, cell_kept a1 hg hr, cell_kept a2 hg hr, cell_kept a3 hg hr, cell_kept a4 hg hr, cell_kept a5 hg hr, cell_kept a6 hg hr, cell_kept a7 hg hr, cell_kept a8 hg hr, cell_kept a9 hg hr, cell_kept a10 hg hr, cell_kept a11 hg hr, cell_kept a12 hg hr, cell_kept a13 hg hr, cell_kept a14 hg hr, cell_kept a15 hg hr, cell_kept a16 hg hr, cell_kept a17 hg hr⟩
theorem AtC.some {W : World} {b : Nat} {c : Cl} (h : AtC W b 0 c) (j : Nat) (hj : j < 18) : ∃ v, W.cell? ⟨b, 0 + j, none⟩ = some v :=
  ⟨(cl c)[j]'(by simpa using hj), h.range j _ (List.getElem?_eq_getElem (by simpa using hj))⟩
/-- The cells of a call that may be written. -/
def Box (W : World) (b : Nat) (c : Cl) : Prop := AtC W b 0 c ∧ ∀ j, j < 18 → W.frozen? ⟨b, 0 + j, none⟩ = false
theorem Box.kept {A B : World} {row : Option Nat} {b : Nat} {c : Cl} (h : Box A b c) (hg : A.grownBy B row) (hr : ∀ r, row = some r → ∃ o : Obj, A.heap[r]? = some o ∧ o.isCells = false) : Box B b c :=
  ⟨h.1.kept hg hr, fun j hj => by obtain ⟨v, hv⟩ := h.1.some j hj; exact (frozen_kept hv hg hr).trans (h.2 j hj)⟩
theorem Box.same {W W' : World} {k : Nat} {c : Cl} (h : Box W k c) (e : W'.heap[k]? = W.heap[k]?) : Box W' k c :=
  ⟨h.1.same fun _ => World.cell?_of_block e, fun j hj => (World.frozen?_of_block e).trans (h.2 j hj)⟩
theorem Box.there {W : World} {b : Nat} {c : Cl} (h : Box W b c) : W.there b 0 18 := fun j hj => ⟨by obtain ⟨v, hv⟩ := h.1.some j hj; rw [hv]; rfl, h.2 j hj⟩
theorem AtC.of_range {w : World} {b o : Nat} {c : Cl} (h : w.rangeAt b o (cl c)) : AtC w b o c :=
  ⟨h 0 _ rfl, h 1 _ rfl, h 2 _ rfl, h 3 _ rfl, h 4 _ rfl, h 5 _ rfl, h 6 _ rfl, h 7 _ rfl, h 8 _ rfl, h 9 _ rfl, h 10 _ rfl, h 11 _ rfl, h 12 _ rfl, h 13 _ rfl, h 14 _ rfl, h 15 _ rfl, h 16 _ rfl, h 17 _ rfl⟩
/-- A store of a whole call into a box. -/
theorem store_box {W : World} {b : Nat} {c0 : Cl} (h : Box W b c0) (c : Cl) : ∃ W', (storeCall (.pointer (some ⟨b, 0, none⟩)) (cv c)).run Try.prog W = .ok () W' ∧ Box W' b c ∧ Wrote b W W' := by
  refine ⟨_, run_storeAt_mid W b 0 47 (cl c).toArray h.there sizeCall (all_oneCell_toArray (by intro v hv; simp at hv; rcases hv with rfl | rfl | rfl | rfl | rfl | rfl | rfl | rfl | rfl | rfl | rfl | rfl | rfl | rfl | rfl | rfl | rfl | rfl <;> rfl)), ⟨AtC.of_range (World.rangeAt_setCells_same W b 0 (cl c) h.there), fun j hj => ?_⟩, wrote_setCells b _ _ _ _ (Wrote.refl _ _)⟩
  rw [World.frozen?_setCells]; exact h.2 j hj
theorem newBox (w : World) (c : Cl) : Box (w.alloc (.cells #[.int .i64 c.th, .int .i64 c.ix, .int .u8 c.kd, .int .u64 c.ka, .int .u64 c.kb, .int .u64 c.kc, .int .u64 c.kx, .int .u64 c.ky, .int .u64 c.kz, .int .i64 c.inv, .int .i64 c.took, .int .i64 c.ans, .int .i64 c.st, .int .i64 c.re, .bool c.rf, .int .u64 c.rk, .int .u64 c.rv, .int .i64 c.rc] 47)) w.heap.size c := ⟨boxed w c _, fun j hj => World.frozen?_alloc_new _ _ _ _⟩
end Go.Proofs.Ytjpgechcfkhoaaa
