import Derived.Test.YtfnapkfdocabcaaGreatGA
set_option linter.unusedVariables false
set_option linter.unusedSimpArgs false
set_option linter.unnecessarySimpa false
namespace Go.Proofs.YtfnapkfdocabcaaGreat
open Go.RowKit Go.Xt
set_option maxRecDepth 20000 in
theorem run_build4' (w : World) (a b c d : Cl) : (Instr.buildSlice 41 4 #[(0, cv a), (1, cv b), (2, cv c), (3, cv d)]).run Tryz.prog w = .ok (.slice (some ⟨w.heap.size, 0, none⟩) 4 4) (w.alloc (.cells ([a, b, c, d].flatMap cl).toArray 46)) := by
  simp [go_sem, Tryz.underlying41, Tryz.sizeOf46, Tryz.zeroValue46]
end Go.Proofs.YtfnapkfdocabcaaGreat
