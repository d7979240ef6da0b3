import Derived.Test.YtjpgechcfkhoaaaA
namespace Go.Proofs.Ytjpgechcfkhoaaa
open Go.RowKit Go.Xt
set_option maxRecDepth 20000 in
theorem run_build4' (w : World) (a b c d : Cl) : (Instr.buildSlice 22 4 #[(0, cv a), (1, cv b), (2, cv c), (3, cv d)]).run Try.prog w = .ok (.slice (some ⟨w.heap.size, 0, none⟩) 4 4) (w.alloc (.cells ([a, b, c, d].flatMap cl).toArray 47)) := by
  simp [go_sem, Try.underlying22, Try.sizeOf47, Try.zeroValue47]
end Go.Proofs.Ytjpgechcfkhoaaa
