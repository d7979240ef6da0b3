/-
  DERIVED. GIVEN WITH THE SEED: THE CARDS: each row of YtahagplegmcaaaaDoorRows.lean that lists a variable, with what it lists TIED to the program's text (the seventh form; the later family's looks); each row that meets fmt, with fmt's text TOLD by the authors' own Lean function (tested against real Go, not proved from fmt's source: count such statements apart). THE CARD IS WHAT COUNTS. Prove the row's statement (the work); the ties are given (YtahagplegmcaaaaDoorTie.lean); close each card by the builder's one call (the guide's Derived/Test/ToyasCard.lean, 'card_holds'). Laid BY PROGRAM, IN A SANDBOX (cutbox-door.mjs). By AI agents, Wed Nov 11 2026. No macro, syntax, notation, axiom, sorry.
-/
import Derived.Test.YtahagplegmcaaaaDoorRows
import GoSem.ClaimSeven
namespace Go.Proofs.YtahagplegmcaaaaDoor
namespace Rows

/-- THE TIED CARD OF 'leapfroglaw38.ModelCommutes'. -/
def modelCommutesCard : Claim7 := { stood := { row := modelCommutesRow, standIns := [], harness := (true, "9220c8789c2d3680690976a8fe1fa1603de8d083025a192ddec51a4b7989e33e"), looks := false }, kinds := [], alts := [], laidByText := true, laidKinds := [.data, .data, .data], laidTests := true, laidLooks := .later }
def ModelCommutesCardSaid : Prop := Claim7.holds Tryd.pinned (.plain (OpenSpec.ofChange modelCommutesSpec)) modelCommutesCard

/-- THE SECOND FORM's CARD OF 'leapfroglaw38.ModelCommutes'. -/
def modelCommutesUptoCard : Claim7 := { stood := { row := modelCommutesUptoRow, standIns := [], harness := (true, "9220c8789c2d3680690976a8fe1fa1603de8d083025a192ddec51a4b7989e33e"), looks := false }, kinds := [], alts := [], laidByText := true, laidKinds := [.data, .data, .data], laidTests := true, laidLooks := .later }
def ModelCommutesUptoCardSaid : Prop := Claim7.holds Tryd.pinned (.plain (OpenSpec.upto modelCommutesSpec)) modelCommutesUptoCard
end Rows
end Go.Proofs.YtahagplegmcaaaaDoor
