/-
  DERIVED. GIVEN WITH THE SEED: THE CARDS: each row of YtdjcndpnjoahmaaDoorRows.lean that lists a variable, with what it lists TIED to the program's text (the seventh form; the later family's looks); each row that meets fmt, with fmt's text TOLD by the authors' own Lean function (tested against real Go, not proved from fmt's source: count such statements apart). THE CARD IS WHAT COUNTS. Prove the row's statement (the work); the ties are given (YtdjcndpnjoahmaaDoorTie.lean); close each card by the builder's one call (the guide's Derived/Test/ToyasCard.lean, 'card_holds'). Laid BY PROGRAM, IN A SANDBOX (cutbox-door.mjs). By AI agents, Wed Nov 11 2026. No macro, syntax, notation, axiom, sorry.
-/
import Derived.Test.YtdjcndpnjoahmaaDoorRows
import GoSem.ClaimSeven
namespace Go.Proofs.YtdjcndpnjoahmaaDoor
namespace Rows

/-- THE TIED CARD OF 'leapfroglaw38.ModelCommutes'. -/
def modelCommutesCard : Claim7 := { stood := { row := modelCommutesRow, standIns := [], harness := (true, "a4fb6912a25bf4af71f6103067a7946ae177c708761387ec0647166ac660513c"), looks := false }, kinds := [], alts := [], laidByText := true, laidKinds := [.data, .data, .data], laidTests := true, laidLooks := .later }
def ModelCommutesCardSaid : Prop := Claim7.holds Tryd.pinned (.plain (OpenSpec.ofChange modelCommutesSpec)) modelCommutesCard

/-- THE TIED CARD OF 'leapfroglaw38.ModelAccepts'. -/
def modelAcceptsCard : Claim7 := { stood := { row := modelAcceptsRow, standIns := [], harness := (true, "a4fb6912a25bf4af71f6103067a7946ae177c708761387ec0647166ac660513c"), looks := false }, kinds := [], alts := [], laidByText := true, laidKinds := [.data, .data, .data], laidTests := true, laidLooks := .later }
def ModelAcceptsCardSaid : Prop := Claim7.holds Tryd.pinned (.plain (OpenSpec.ofChange modelAcceptsSpec)) modelAcceptsCard

/-- THE TIED CARD OF 'leapfroglaw38.ModelRefuses'. -/
def modelRefusesCard : Claim7 := { stood := { row := modelRefusesRow, standIns := [], harness := (true, "a4fb6912a25bf4af71f6103067a7946ae177c708761387ec0647166ac660513c"), looks := false }, kinds := [], alts := [], laidByText := true, laidKinds := [.data, .data, .data], laidTests := true, laidLooks := .later }
def ModelRefusesCardSaid : Prop := Claim7.holds Tryd.pinned (.plain (OpenSpec.ofChange modelRefusesSpec)) modelRefusesCard

/-- THE TIED CARD OF 'leapfroglaw38.ModelExamples'. -/
def modelExamplesCard : Claim7 := { stood := { row := modelExamplesRow, standIns := [], harness := (true, "a4fb6912a25bf4af71f6103067a7946ae177c708761387ec0647166ac660513c"), looks := false }, kinds := [], alts := [], laidByText := true, laidKinds := [.data, .data, .data], laidTests := true, laidLooks := .later }
def ModelExamplesCardSaid : Prop := Claim7.holds Tryd.pinned (.plain (OpenSpec.ofChange modelExamplesSpec)) modelExamplesCard

/-- THE SECOND FORM's CARD OF 'leapfroglaw38.ModelCommutes'. -/
def modelCommutesUptoCard : Claim7 := { stood := { row := modelCommutesUptoRow, standIns := [], harness := (true, "a4fb6912a25bf4af71f6103067a7946ae177c708761387ec0647166ac660513c"), looks := false }, kinds := [], alts := [], laidByText := true, laidKinds := [.data, .data, .data], laidTests := true, laidLooks := .later }
def ModelCommutesUptoCardSaid : Prop := Claim7.holds Tryd.pinned (.plain (OpenSpec.upto modelCommutesSpec)) modelCommutesUptoCard

/-- THE SECOND FORM's CARD OF 'leapfroglaw38.ModelAccepts'. -/
def modelAcceptsUptoCard : Claim7 := { stood := { row := modelAcceptsUptoRow, standIns := [], harness := (true, "a4fb6912a25bf4af71f6103067a7946ae177c708761387ec0647166ac660513c"), looks := false }, kinds := [], alts := [], laidByText := true, laidKinds := [.data, .data, .data], laidTests := true, laidLooks := .later }
def ModelAcceptsUptoCardSaid : Prop := Claim7.holds Tryd.pinned (.plain (OpenSpec.upto modelAcceptsSpec)) modelAcceptsUptoCard

/-- THE SECOND FORM's CARD OF 'leapfroglaw38.ModelRefuses'. -/
def modelRefusesUptoCard : Claim7 := { stood := { row := modelRefusesUptoRow, standIns := [], harness := (true, "a4fb6912a25bf4af71f6103067a7946ae177c708761387ec0647166ac660513c"), looks := false }, kinds := [], alts := [], laidByText := true, laidKinds := [.data, .data, .data], laidTests := true, laidLooks := .later }
def ModelRefusesUptoCardSaid : Prop := Claim7.holds Tryd.pinned (.plain (OpenSpec.upto modelRefusesSpec)) modelRefusesUptoCard

/-- THE SECOND FORM's CARD OF 'leapfroglaw38.ModelExamples'. -/
def modelExamplesUptoCard : Claim7 := { stood := { row := modelExamplesUptoRow, standIns := [], harness := (true, "a4fb6912a25bf4af71f6103067a7946ae177c708761387ec0647166ac660513c"), looks := false }, kinds := [], alts := [], laidByText := true, laidKinds := [.data, .data, .data], laidTests := true, laidLooks := .later }
def ModelExamplesUptoCardSaid : Prop := Claim7.holds Tryd.pinned (.plain (OpenSpec.upto modelExamplesSpec)) modelExamplesUptoCard
end Rows
end Go.Proofs.YtdjcndpnjoahmaaDoor
