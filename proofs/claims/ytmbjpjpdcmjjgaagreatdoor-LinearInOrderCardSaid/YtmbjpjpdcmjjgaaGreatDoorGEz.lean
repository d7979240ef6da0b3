import Derived.Test.YtmbjpjpdcmjjgaaGreatDoorGA
set_option linter.unusedVariables false
set_option linter.unusedSimpArgs false
set_option linter.unnecessarySimpa false
namespace Go.Proofs.YtmbjpjpdcmjjgaaGreatDoor
open Go.RowKit Go.Xt
set_option maxRecDepth 20000 in
theorem run_build4' (w : World) (a b c d : Cl) : (Instr.buildSlice 28 4 #[(0, cv a), (1, cv b), (2, cv c), (3, cv d)]).run Tryz.prog w = .ok (.slice (some ⟨w.heap.size, 0, none⟩) 4 4) (w.alloc (.cells ([a, b, c, d].flatMap cl).toArray 39)) := by
  simp [go_sem, Tryz.underlying28, Tryz.sizeOf39, Tryz.zeroValue39]
end Go.Proofs.YtmbjpjpdcmjjgaaGreatDoor
