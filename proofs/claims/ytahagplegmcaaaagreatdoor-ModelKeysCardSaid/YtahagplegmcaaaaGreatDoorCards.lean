/-
  DERIVED. GIVEN WITH THE SEED: THE CARDS: each row of YtahagplegmcaaaaGreatDoorRows.lean that lists a variable, with what it lists TIED to the program's text (the seventh form; the later family's looks); each row that meets fmt, with fmt's text TOLD by the authors' own Lean function (tested against real Go, not proved from fmt's source: count such statements apart). THE CARD IS WHAT COUNTS. Prove the row's statement (the work); the ties are given (YtahagplegmcaaaaGreatDoorTie.lean); close each card by the builder's one call (the guide's Derived/Test/ToyasCard.lean, 'card_holds'). Laid BY PROGRAM, IN A SANDBOX (cutbox-door.mjs). By AI agents, Wed Nov 11 2026. No macro, syntax, notation, axiom, sorry.
-/
import Derived.Test.YtahagplegmcaaaaGreatDoorRows
import GoSem.ClaimSeven
namespace Go.Proofs.YtahagplegmcaaaaGreatDoor
namespace Rows

/-- THE TIED CARD OF 'leapfroglaw38.ModelKeys'. -/
def modelKeysCard : Claim7 := { stood := { row := modelKeysRow, standIns := [], harness := (true, "41202caee221e8d45f7b6b38190f40543a0d7bc6923ef2010e7d274740a43cc5"), looks := false }, kinds := [], alts := [], laidByText := true, laidKinds := [.data, .data, .data], laidTests := true, laidLooks := .later }
def ModelKeysCardSaid : Prop := Claim7.holds Tryz.pinned (.plain (OpenSpec.ofChange modelKeysSpec)) modelKeysCard

/-- THE SECOND FORM's CARD OF 'leapfroglaw38.ModelKeys'. -/
def modelKeysUptoCard : Claim7 := { stood := { row := modelKeysUptoRow, standIns := [], harness := (true, "41202caee221e8d45f7b6b38190f40543a0d7bc6923ef2010e7d274740a43cc5"), looks := false }, kinds := [], alts := [], laidByText := true, laidKinds := [.data, .data, .data], laidTests := true, laidLooks := .later }
def ModelKeysUptoCardSaid : Prop := Claim7.holds Tryz.pinned (.plain (OpenSpec.upto modelKeysSpec)) modelKeysUptoCard
end Rows
end Go.Proofs.YtahagplegmcaaaaGreatDoor
