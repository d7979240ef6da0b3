import Derived.Test.YtfnapkfdocabcaaGreatGMe
import Derived.Laws.EntriesVeiled
set_option linter.unusedVariables false
set_option linter.unusedSimpArgs false
set_option linter.unnecessarySimpa false
namespace Go.Proofs.YtfnapkfdocabcaaGreat
open Go.RowKit Go.Xt
/-! perform. -/
/-- Nothing that was there has changed but in these blocks. -/
structure Chg (X : List Nat) (w w' : World) : Prop where
  os : w'.os = w.os
  tape : w'.tape = w.tape
  output : w'.output = w.output
  size : w.heap.size ≤ w'.heap.size
  block : ∀ k, k < w.heap.size → k ∉ X → w'.heap[k]? = w.heap[k]?
theorem Chg.cell {X : List Nat} {w w' : World} (h : Chg X w w') {b i : Nat} {v : Value} (hc : w.cell? ⟨b, i, none⟩ = some v) (hb : b ∉ X) : w'.cell? ⟨b, i, none⟩ = some v :=
  (World.cell?_of_block (h.block b (World.block_lt_of_cell? w _ hc) hb)).trans hc
theorem Chg.frozen {X : List Nat} {w w' : World} (h : Chg X w w') {b i : Nat} (hl : b < w.heap.size) (hb : b ∉ X) : w'.frozen? ⟨b, i, none⟩ = w.frozen? ⟨b, i, none⟩ :=
  World.frozen?_of_block (h.block b hl hb)
theorem Chg.grown {g : Nat} {w w' : World} (h : Chg [g] w w') : w.grownBy w' (some g) := ⟨h.os, h.tape, h.output, h.size, fun k hk hx => h.block k hk (by simpa using hx)⟩
theorem Chg.of_nw {X : List Nat} {w w' : World} (h : Nw w w') : Chg X w w' := ⟨h.grown.os, h.grown.tape, h.grown.output, h.grown.size, fun k hk _ => h.grown.block k hk (by simp)⟩
theorem Chg.trans {X : List Nat} {a b c : World} (h : Chg X a b) (k : Chg X b c) : Chg X a c := ⟨k.os.trans h.os, k.tape.trans h.tape, k.output.trans h.output, Nat.le_trans h.size k.size, fun j hj hx => (k.block j (Nat.lt_of_lt_of_le hj h.size) hx).trans (h.block j hj hx)⟩
theorem Chg.set1 (w : World) (g o : Nat) (v : Value) : Chg [g] w (w.setCell ⟨g, o, none⟩ v) :=
  ⟨rfl, rfl, rfl, by simp, fun k _ hx => RowKit.Below.heap_setCell _ _ _ _ (by simp at hx; simpa using hx)⟩
theorem Chg.set2 {a b : World} {g : Nat} (h : Chg [g] a b) (o : Nat) (v : Value) : Chg [g] a (b.setCell ⟨g, o, none⟩ v) := h.trans (Chg.set1 b g o v)
end Go.Proofs.YtfnapkfdocabcaaGreat
