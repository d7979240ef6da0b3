/-
  DERIVED. GIVEN WITH THE SEED: THE CARDS: each row of YtbhnhhhjjfiebaaDoorRows.lean that lists a variable, with what it lists TIED to the program's text (the seventh form; the later family's looks); each row that meets fmt, with fmt's text TOLD by the authors' own Lean function (tested against real Go, not proved from fmt's source: count such statements apart). THE CARD IS WHAT COUNTS. Prove the row's statement (the work); the ties are given (YtbhnhhhjjfiebaaDoorTie.lean); close each card by the builder's one call (the guide's Derived/Test/ToyasCard.lean, 'card_holds'). Laid BY PROGRAM, IN A SANDBOX (cutbox-door.mjs). By AI agents, Wed Nov 11 2026. No macro, syntax, notation, axiom, sorry.
-/
import Derived.Test.YtbhnhhhjjfiebaaDoorRows
import GoSem.ClaimSeven
namespace Go.Proofs.YtbhnhhhjjfiebaaDoor
namespace Rows

/-- THE TIED CARD OF 'leapfroglaw44.TextResults'. -/
def textResultsCard : Claim7 := { stood := { row := textResultsRow, standIns := [], harness := (true, "48458125087aac9a29031469449b420c6d669a41a180ee3e61e0151fb2a88125"), looks := false }, kinds := [], alts := [], laidByText := true, laidKinds := [.data, .data, .data], laidTests := true, laidLooks := .later }
def TextResultsCardSaid : Prop := Claim7.holds Tryd.pinned (.plain (OpenSpec.ofChange textResultsSpec)) textResultsCard

/-- THE SECOND FORM's CARD OF 'leapfroglaw44.TextResults'. -/
def textResultsUptoCard : Claim7 := { stood := { row := textResultsUptoRow, standIns := [], harness := (true, "48458125087aac9a29031469449b420c6d669a41a180ee3e61e0151fb2a88125"), looks := false }, kinds := [], alts := [], laidByText := true, laidKinds := [.data, .data, .data], laidTests := true, laidLooks := .later }
def TextResultsUptoCardSaid : Prop := Claim7.holds Tryd.pinned (.plain (OpenSpec.upto textResultsSpec)) textResultsUptoCard
end Rows
end Go.Proofs.YtbhnhhhjjfiebaaDoor
