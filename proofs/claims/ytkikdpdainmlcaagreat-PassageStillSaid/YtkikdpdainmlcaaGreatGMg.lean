import Derived.Test.YtkikdpdainmlcaaGreatGMe
import Derived.Laws.EntriesVeiled
set_option linter.unusedVariables false
set_option linter.unusedSimpArgs false
set_option linter.unnecessarySimpa false
namespace Go.Proofs.YtkikdpdainmlcaaGreat
open Go.RowKit Go.Xt
/-! perform. -/
structure Chg (X : List Nat) (w w' : World) : Prop where
  os : w'.os = w.os
  tape : w'.tape = w.tape
  output : w'.output = w.output
  size : w.heap.size ≤ w'.heap.size
  block : ∀ k, k < w.heap.size → k ∉ X → w'.heap[k]? = w.heap[k]?
theorem Chg.cell {X : List Nat} {w w' : World} (h : Chg X w w') {b i : Nat} {v : Value} (hc : w.cell? ⟨b, i, none⟩ = some v) (hb : b ∉ X) : w'.cell? ⟨b, i, none⟩ = some v :=
  (World.cell?_of_block (h.block b (World.block_lt_of_cell? w _ hc) hb)).trans hc
theorem Chg.frozen {X : List Nat} {w w' : World} (h : Chg X w w') {b i : Nat} (hl : b < w.heap.size) (hb : b ∉ X) : w'.frozen? ⟨b, i, none⟩ = w.frozen? ⟨b, i, none⟩ :=
  World.frozen?_of_block (h.block b hl hb)
theorem Chg.grown {g : Nat} {w w' : World} (h : Chg [g] w w') : w.grownBy w' (some g) := ⟨h.os, h.tape, h.output, h.size, fun k hk hx => h.block k hk (by simpa using hx)⟩
theorem Chg.of_nw {X : List Nat} {w w' : World} (h : Nw w w') : Chg X w w' := ⟨h.grown.os, h.grown.tape, h.grown.output, h.grown.size, fun k hk _ => h.grown.block k hk (by simp)⟩
theorem Chg.trans {X : List Nat} {a b c : World} (h : Chg X a b) (k : Chg X b c) : Chg X a c := ⟨k.os.trans h.os, k.tape.trans h.tape, k.output.trans h.output, Nat.le_trans h.size k.size, fun j hj hx => (k.block j (Nat.lt_of_lt_of_le hj h.size) hx).trans (h.block j hj hx)⟩
theorem Chg.set1 (w : World) (g o : Nat) (v : Value) : Chg [g] w (w.setCell ⟨g, o, none⟩ v) :=
  ⟨rfl, rfl, rfl, by simp, fun k _ hx => RowKit.Below.heap_setCell _ _ _ _ (by simp at hx; simpa using hx)⟩
theorem Chg.set2 {a b : World} {g : Nat} (h : Chg [g] a b) (o : Nat) (v : Value) : Chg [g] a (b.setCell ⟨g, o, none⟩ v) := h.trans (Chg.set1 b g o v)
end Go.Proofs.YtkikdpdainmlcaaGreat
namespace Go.Proofs.YtkikdpdainmlcaaGreat
open Go.RowKit Go.Xt
/-! Do at opening and shutting. -/
end Go.Proofs.YtkikdpdainmlcaaGreat
namespace Go.Proofs.YtkikdpdainmlcaaGreat
open Go.RowKit Go.Xt
/-! Session. -/
set_option maxRecDepth 20000 in
@[go_sem high] theorem fld_sess (x y z : Bool) (l h : Int) (w : World) : Sem.run Tryz.prog (Instr.field 175 (.agg #[.bool x, .bool y, .int .u64 l, .int .u64 h, .bool z]) 1) w = .ok (.bool z) w := by rfl
end Go.Proofs.YtkikdpdainmlcaaGreat
namespace Go.Proofs.YtkikdpdainmlcaaGreat
open Go.RowKit Go.Xt
/-! The ordered map: empty, and with one pair. -/
set_option maxRecDepth 20000 in
set_option maxHeartbeats 4000000 in
theorem search_0 (f : Value) (w : World) :
    Calls Tryz.prog 115 #[.int .i64 0, f] w fun e w' => e = .returned (.int .i64 0) ∧ Nw w w' := by
  go_enter Tryz.func115, Tryz.ntmps115
  go_wp2
  go_loopw [5, 6] (fun a b wr => a = .int .i64 0 ∧ b = .int .i64 0 ∧ wr = w) (fun _ _ _ => 0)
  case atStart => exact ⟨rfl, rfl, rfl⟩
  case round =>
    obtain ⟨rfl, rfl, rfl⟩ := hrel
    go_wp2
    go_ret
    exact ⟨rfl, Nw.refl _⟩
theorem pairInfo : (Tryz.prog.info? 51).map (fun i => (i.zero, i.size, i.bytes)) = some (some (.agg #[.int .u64 0, .int .u64 0]), 2, 16) := by kernel_rfl
def One (W : World) (gp gl c : Nat) : Prop := W.cell? ⟨gp, 0, none⟩ = some (.slice (some ⟨gl, 0, none⟩) 1 c) ∧ W.cell? ⟨gl, 0, none⟩ = some (.int .u64 4) ∧ W.cell? ⟨gl, 1, none⟩ = some (.int .u64 2) ∧ (∀ o, W.frozen? ⟨gl, o, none⟩ = false) ∧ 1 ≤ c ∧ c ≤ maxLen ∧ W.frozen? ⟨gp, 0, none⟩ = false
end Go.Proofs.YtkikdpdainmlcaaGreat
