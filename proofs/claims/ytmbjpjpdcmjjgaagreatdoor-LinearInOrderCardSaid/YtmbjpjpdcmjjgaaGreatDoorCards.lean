/-
  DERIVED. GIVEN WITH THE SEED: THE CARDS: each row of YtmbjpjpdcmjjgaaGreatDoorRows.lean that lists a variable, with what it lists TIED to the program's text (the seventh form; the later family's looks); each row that meets fmt, with fmt's text TOLD by the authors' own Lean function (tested against real Go, not proved from fmt's source: count such statements apart). THE CARD IS WHAT COUNTS. Prove the row's statement (the work); the ties are given (YtmbjpjpdcmjjgaaGreatDoorTie.lean); close each card by the builder's one call (the guide's Derived/Test/ToyasCard.lean, 'card_holds'). Laid BY PROGRAM, IN A SANDBOX (cutbox-door.mjs). By AI agents, Wed Nov 11 2026. No macro, syntax, notation, axiom, sorry.
-/
import Derived.Test.YtmbjpjpdcmjjgaaGreatDoorRows
import GoSem.ClaimSeven
namespace Go.Proofs.YtmbjpjpdcmjjgaaGreatDoor
namespace Rows

/-- THE TIED CARD OF 'leapfroglaw40.LinearInOrder'. -/
def linearInOrderCard : Claim7 := { stood := { row := linearInOrderRow, standIns := [], harness := (true, "d9a70789b80b3fd5200889132517d5fe739ad88239e94e25461cb6aa73cfaabf"), looks := false }, kinds := [], alts := [], laidByText := true, laidKinds := [.data, .data, .data], laidTests := true, laidLooks := .later }
def LinearInOrderCardSaid : Prop := Claim7.holds Tryz.pinned (.plain (OpenSpec.ofChange linearInOrderSpec)) linearInOrderCard

/-- THE TIED CARD OF 'leapfroglaw40.LinearWitness'. -/
def linearWitnessCard : Claim7 := { stood := { row := linearWitnessRow, standIns := [], harness := (true, "d9a70789b80b3fd5200889132517d5fe739ad88239e94e25461cb6aa73cfaabf"), looks := false }, kinds := [], alts := [], laidByText := true, laidKinds := [.data, .data, .data], laidTests := true, laidLooks := .later }
def LinearWitnessCardSaid : Prop := Claim7.holds Tryz.pinned (.plain (OpenSpec.ofChange linearWitnessSpec)) linearWitnessCard

/-- THE SECOND FORM's CARD OF 'leapfroglaw40.LinearInOrder'. -/
def linearInOrderUptoCard : Claim7 := { stood := { row := linearInOrderUptoRow, standIns := [], harness := (true, "d9a70789b80b3fd5200889132517d5fe739ad88239e94e25461cb6aa73cfaabf"), looks := false }, kinds := [], alts := [], laidByText := true, laidKinds := [.data, .data, .data], laidTests := true, laidLooks := .later }
def LinearInOrderUptoCardSaid : Prop := Claim7.holds Tryz.pinned (.plain (OpenSpec.upto linearInOrderSpec)) linearInOrderUptoCard

/-- THE SECOND FORM's CARD OF 'leapfroglaw40.LinearWitness'. -/
def linearWitnessUptoCard : Claim7 := { stood := { row := linearWitnessUptoRow, standIns := [], harness := (true, "d9a70789b80b3fd5200889132517d5fe739ad88239e94e25461cb6aa73cfaabf"), looks := false }, kinds := [], alts := [], laidByText := true, laidKinds := [.data, .data, .data], laidTests := true, laidLooks := .later }
def LinearWitnessUptoCardSaid : Prop := Claim7.holds Tryz.pinned (.plain (OpenSpec.upto linearWitnessSpec)) linearWitnessUptoCard
end Rows
end Go.Proofs.YtmbjpjpdcmjjgaaGreatDoor
