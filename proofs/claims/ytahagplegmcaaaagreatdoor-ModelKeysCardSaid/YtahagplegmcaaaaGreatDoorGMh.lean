import Derived.Test.YtahagplegmcaaaaGreatDoorGMf
set_option linter.unusedVariables false
set_option linter.unusedSimpArgs false
set_option linter.unnecessarySimpa false
namespace Go.Proofs.YtahagplegmcaaaaGreatDoor
open Go.RowKit Go.Xt
/-! Do at opening and shutting. -/
end Go.Proofs.YtahagplegmcaaaaGreatDoor
namespace Go.Proofs.YtahagplegmcaaaaGreatDoor
open Go.RowKit Go.Xt
/-! Session. -/
set_option maxRecDepth 20000 in
@[go_sem high] theorem fld_sess (x y z : Bool) (l h : Int) (w : World) : Sem.run Tryz.prog (Instr.field 101 (.agg #[.bool x, .bool y, .int .u64 l, .int .u64 h, .bool z]) 1) w = .ok (.bool z) w := by rfl
end Go.Proofs.YtahagplegmcaaaaGreatDoor
