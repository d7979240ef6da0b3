import Derived.Test.YtkikdpdainmlcaaGreatGA
set_option linter.unusedVariables false
set_option linter.unusedSimpArgs false
set_option linter.unnecessarySimpa false
namespace Go.Proofs.YtkikdpdainmlcaaGreat
open Go.RowKit Go.Xt
/-! Seven calls, built. -/
set_option maxRecDepth 40000 in
set_option maxHeartbeats 4000000 in
theorem run_build7' (w : World) (a b c d e f g : Cl) : (Instr.buildSlice 28 7 #[(0, cv a), (1, cv b), (2, cv c), (3, cv d), (4, cv e), (5, cv f), (6, cv g)]).run Tryz.prog w = .ok (.slice (some ⟨w.heap.size, 0, none⟩) 7 7) (w.alloc (.cells ([a, b, c, d, e, f, g].flatMap cl).toArray 45)) := by
  simp [go_sem, Tryz.underlying28, Tryz.sizeOf45, Tryz.zeroValue45]
end Go.Proofs.YtkikdpdainmlcaaGreat
