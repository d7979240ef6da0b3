/-
  DERIVED. GIVEN WITH THE SEED: THE CARDS: each row of YtnfpicnigfmbdaaGreatDoorRows.lean that lists a variable, with what it lists TIED to the program's text (the seventh form; the later family's looks); each row that meets fmt, with fmt's text TOLD by the authors' own Lean function (tested against real Go, not proved from fmt's source: count such statements apart). THE CARD IS WHAT COUNTS. Prove the row's statement (the work); the ties are given (YtnfpicnigfmbdaaGreatDoorTie.lean); close each card by the builder's one call (the guide's Derived/Test/ToyasCard.lean, 'card_holds'). Laid BY PROGRAM, IN A SANDBOX (cutbox-door.mjs). By AI agents, Wed Nov 11 2026. No macro, syntax, notation, axiom, sorry.
-/
import Derived.Test.YtnfpicnigfmbdaaGreatDoorRows
import GoSem.ClaimSeven
namespace Go.Proofs.YtnfpicnigfmbdaaGreatDoor
namespace Rows

/-- THE TIED CARD OF 'leapfroglaw40.LinearFinds'. -/
def linearFindsCard : Claim7 := { stood := { row := linearFindsRow, standIns := [], harness := (true, "475bae2d5e5e049d8de748b9f8fe5d31123f20a0bf00fe5f7b061bae72018398"), looks := false }, kinds := [], alts := [], laidByText := true, laidKinds := [.data, .data, .data], laidTests := true, laidLooks := .later }
def LinearFindsCardSaid : Prop := Claim7.holds Tryz.pinned (.plain (OpenSpec.ofChange linearFindsSpec)) linearFindsCard

/-- THE TIED CARD OF 'leapfroglaw40.LinearRetry'. -/
def linearRetryCard : Claim7 := { stood := { row := linearRetryRow, standIns := [], harness := (true, "475bae2d5e5e049d8de748b9f8fe5d31123f20a0bf00fe5f7b061bae72018398"), looks := false }, kinds := [], alts := [], laidByText := true, laidKinds := [.data, .data, .data], laidTests := true, laidLooks := .later }
def LinearRetryCardSaid : Prop := Claim7.holds Tryz.pinned (.plain (OpenSpec.ofChange linearRetrySpec)) linearRetryCard

/-- THE TIED CARD OF 'leapfroglaw40.LinearPrefix'. -/
def linearPrefixCard : Claim7 := { stood := { row := linearPrefixRow, standIns := [], harness := (true, "475bae2d5e5e049d8de748b9f8fe5d31123f20a0bf00fe5f7b061bae72018398"), looks := false }, kinds := [], alts := [], laidByText := true, laidKinds := [.data, .data, .data], laidTests := true, laidLooks := .later }
def LinearPrefixCardSaid : Prop := Claim7.holds Tryz.pinned (.plain (OpenSpec.ofChange linearPrefixSpec)) linearPrefixCard

/-- THE TIED CARD OF 'leapfroglaw40.LinearInOrder'. -/
def linearInOrderCard : Claim7 := { stood := { row := linearInOrderRow, standIns := [], harness := (true, "475bae2d5e5e049d8de748b9f8fe5d31123f20a0bf00fe5f7b061bae72018398"), looks := false }, kinds := [], alts := [], laidByText := true, laidKinds := [.data, .data, .data], laidTests := true, laidLooks := .later }
def LinearInOrderCardSaid : Prop := Claim7.holds Tryz.pinned (.plain (OpenSpec.ofChange linearInOrderSpec)) linearInOrderCard

/-- THE SECOND FORM's CARD OF 'leapfroglaw40.LinearFinds'. -/
def linearFindsUptoCard : Claim7 := { stood := { row := linearFindsUptoRow, standIns := [], harness := (true, "475bae2d5e5e049d8de748b9f8fe5d31123f20a0bf00fe5f7b061bae72018398"), looks := false }, kinds := [], alts := [], laidByText := true, laidKinds := [.data, .data, .data], laidTests := true, laidLooks := .later }
def LinearFindsUptoCardSaid : Prop := Claim7.holds Tryz.pinned (.plain (OpenSpec.upto linearFindsSpec)) linearFindsUptoCard

/-- THE SECOND FORM's CARD OF 'leapfroglaw40.LinearRetry'. -/
def linearRetryUptoCard : Claim7 := { stood := { row := linearRetryUptoRow, standIns := [], harness := (true, "475bae2d5e5e049d8de748b9f8fe5d31123f20a0bf00fe5f7b061bae72018398"), looks := false }, kinds := [], alts := [], laidByText := true, laidKinds := [.data, .data, .data], laidTests := true, laidLooks := .later }
def LinearRetryUptoCardSaid : Prop := Claim7.holds Tryz.pinned (.plain (OpenSpec.upto linearRetrySpec)) linearRetryUptoCard

/-- THE SECOND FORM's CARD OF 'leapfroglaw40.LinearPrefix'. -/
def linearPrefixUptoCard : Claim7 := { stood := { row := linearPrefixUptoRow, standIns := [], harness := (true, "475bae2d5e5e049d8de748b9f8fe5d31123f20a0bf00fe5f7b061bae72018398"), looks := false }, kinds := [], alts := [], laidByText := true, laidKinds := [.data, .data, .data], laidTests := true, laidLooks := .later }
def LinearPrefixUptoCardSaid : Prop := Claim7.holds Tryz.pinned (.plain (OpenSpec.upto linearPrefixSpec)) linearPrefixUptoCard

/-- THE SECOND FORM's CARD OF 'leapfroglaw40.LinearInOrder'. -/
def linearInOrderUptoCard : Claim7 := { stood := { row := linearInOrderUptoRow, standIns := [], harness := (true, "475bae2d5e5e049d8de748b9f8fe5d31123f20a0bf00fe5f7b061bae72018398"), looks := false }, kinds := [], alts := [], laidByText := true, laidKinds := [.data, .data, .data], laidTests := true, laidLooks := .later }
def LinearInOrderUptoCardSaid : Prop := Claim7.holds Tryz.pinned (.plain (OpenSpec.upto linearInOrderSpec)) linearInOrderUptoCard
end Rows
end Go.Proofs.YtnfpicnigfmbdaaGreatDoor
