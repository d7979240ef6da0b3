/-
  No cell of these rows narrows 'for every input' (looked for: loops, veiled, ifaces, maps, wideKeys, modest, calm, conditions, laid).
  DERIVED. THE GIVEN ROWS OF THIS SEAT. 4 by the template 'for every input the law returns true; each argument reads behind the call as it read before'; 0 by the template 'total and deterministic' (their statements: YtfnapkfdocabcaaGreatTotals.lean).
  GIVEN WITH THE SEED: the statements are not yours to turn. If you find one false, say at which input.
  Laid BY PROGRAM, IN A SANDBOX (cutbox-rows.mjs): the forced cells as the released guide's own fill.sh prints them over the translation cabfa4cbb7beed2c… (all of the seat's roots in one cut). By AI agents, Wed Nov 11 2026. No macro, syntax, notation, axiom, sorry.
-/
import Derived.Test.YtfnapkfdocabcaaGreatChecked
import GoSem.Claim
import GoSem.ClaimJoined
import GoSem.ClaimMapViews
import Derived.JoinedTies
import Derived.KernelRfl
namespace Go.Proofs.YtfnapkfdocabcaaGreat
/- THE CELL 'sum', in the pinned program and in every row, IS THE sha256 OF THE DUMP (.gsa) THAT YtfnapkfdocabcaaGreatProg.lean LOADS. Nothing in Lean hashes anything: it is a label: what it is worth is what the hold of that sum in a sandbox is worth. -/
noncomputable def Tryz.pinned : Pinned := { name := "ytfnapkfdocabcaagreat", sum := "cabfa4cbb7beed2c8ef99ec7169998da87e0475a04fcf390d3427e3de8b136dc", checked := Tryz.checked }
namespace Rows
def none {H : Type} : Left H := { results := [], args := [] }

/-- 'leapfroglaw39.WitnessAlone': WHATEVER THE INPUT: true; the input reads as it did. -/
def witnessAloneSpec : ChangeSpec := { name := "witnessAlone", fn := fun _ => fun
  | [d1, d2, d3] => { results := [.lit (.bool true)], args := [d1, d2, d3] }
  | _ => none }
def witnessAloneRow : OpenClaim := { program := "ytfnapkfdocabcaagreat", sum := "cabfa4cbb7beed2c8ef99ec7169998da87e0475a04fcf390d3427e3de8b136dc", func := "leapfrog/leapfroglaw39.WitnessAlone", spec := "witnessAlone", inPlace := ["slices.overlaps[leapfrog/api.Pair]"], unfollowed := true, recurses := true, apart := false }
def WitnessAloneSaid : Prop := witnessAloneRow.holds Tryz.pinned (OpenSpec.ofChange witnessAloneSpec)

/-- ITS FALSE NEIGHBOUR: 'it returns false'. Refute it at one input. -/
def witnessAloneWrong : ChangeSpec := { name := "witnessAlone", fn := fun _ => fun
  | [d1, d2, d3] => { results := [.lit (.bool false)], args := [d1, d2, d3] }
  | _ => none }
def WitnessAloneWrongFalsely : Prop := witnessAloneRow.holds Tryz.pinned (OpenSpec.ofChange witnessAloneWrong)

/-- 'leapfroglaw39.WitnessChanges': WHATEVER THE INPUT: true; the input reads as it did. -/
def witnessChangesSpec : ChangeSpec := { name := "witnessChanges", fn := fun _ => fun
  | [d1, d2] => { results := [.lit (.bool true)], args := [d1, d2] }
  | _ => none }
def witnessChangesRow : OpenClaim := { program := "ytfnapkfdocabcaagreat", sum := "cabfa4cbb7beed2c8ef99ec7169998da87e0475a04fcf390d3427e3de8b136dc", func := "leapfrog/leapfroglaw39.WitnessChanges", spec := "witnessChanges", inPlace := ["slices.overlaps[leapfrog/api.Pair]"], unfollowed := true, recurses := true, apart := false }
def WitnessChangesSaid : Prop := witnessChangesRow.holds Tryz.pinned (OpenSpec.ofChange witnessChangesSpec)

/-- ITS FALSE NEIGHBOUR: 'it returns false'. Refute it at one input. -/
def witnessChangesWrong : ChangeSpec := { name := "witnessChanges", fn := fun _ => fun
  | [d1, d2] => { results := [.lit (.bool false)], args := [d1, d2] }
  | _ => none }
def WitnessChangesWrongFalsely : Prop := witnessChangesRow.holds Tryz.pinned (OpenSpec.ofChange witnessChangesWrong)

/-- 'leapfroglaw39.WitnessPrefixes': WHATEVER THE INPUT: true; the input reads as it did. -/
def witnessPrefixesSpec : ChangeSpec := { name := "witnessPrefixes", fn := fun _ => fun
  | [d1, d2, d3] => { results := [.lit (.bool true)], args := [d1, d2, d3] }
  | _ => none }
def witnessPrefixesRow : OpenClaim := { program := "ytfnapkfdocabcaagreat", sum := "cabfa4cbb7beed2c8ef99ec7169998da87e0475a04fcf390d3427e3de8b136dc", func := "leapfrog/leapfroglaw39.WitnessPrefixes", spec := "witnessPrefixes", inPlace := ["slices.overlaps[leapfrog/api.Pair]"], unfollowed := true, recurses := true, apart := false }
def WitnessPrefixesSaid : Prop := witnessPrefixesRow.holds Tryz.pinned (OpenSpec.ofChange witnessPrefixesSpec)

/-- ITS FALSE NEIGHBOUR: 'it returns false'. Refute it at one input. -/
def witnessPrefixesWrong : ChangeSpec := { name := "witnessPrefixes", fn := fun _ => fun
  | [d1, d2, d3] => { results := [.lit (.bool false)], args := [d1, d2, d3] }
  | _ => none }
def WitnessPrefixesWrongFalsely : Prop := witnessPrefixesRow.holds Tryz.pinned (OpenSpec.ofChange witnessPrefixesWrong)

/-- 'leapfroglaw39.WitnessOrders': WHATEVER THE INPUT: true; the input reads as it did. -/
def witnessOrdersSpec : ChangeSpec := { name := "witnessOrders", fn := fun _ => fun
  | [d1, d2] => { results := [.lit (.bool true)], args := [d1, d2] }
  | _ => none }
def witnessOrdersRow : OpenClaim := { program := "ytfnapkfdocabcaagreat", sum := "cabfa4cbb7beed2c8ef99ec7169998da87e0475a04fcf390d3427e3de8b136dc", func := "leapfrog/leapfroglaw39.WitnessOrders", spec := "witnessOrders", inPlace := ["slices.overlaps[leapfrog/api.Pair]"], unfollowed := true, recurses := true, apart := false }
def WitnessOrdersSaid : Prop := witnessOrdersRow.holds Tryz.pinned (OpenSpec.ofChange witnessOrdersSpec)

/-- ITS FALSE NEIGHBOUR: 'it returns false'. Refute it at one input. -/
def witnessOrdersWrong : ChangeSpec := { name := "witnessOrders", fn := fun _ => fun
  | [d1, d2] => { results := [.lit (.bool false)], args := [d1, d2] }
  | _ => none }
def WitnessOrdersWrongFalsely : Prop := witnessOrdersRow.holds Tryz.pinned (OpenSpec.ofChange witnessOrdersWrong)

/- THE SECOND FORM. 'bulk': how many values and letters a reading holds, each counted each time it is reached (what is shared counts as often as it is met; a slice's spare places count too). A statement '..UptoSaid' is the law's where the arguments, and the package variables that the reading takes, are together of bulk at most 1048576: NARROWER than '..Said'. Prove '..Said' where nothing that the law and all that it calls make is longer than what came in: it says more and counts as full. Else prove '..UptoSaid'. A law counts once. -/
mutual
def uptoBulk {H : Type} : DataW H → Nat
  | .lit (.string bytes) => bytes.length + 1
  | .lit _ => 1
  | .nil => 1
  | .ptr d => uptoBulk d + 1
  | .slice elems spare => uptoBulkAll elems + uptoBulkAll spare + 1
  | .agg parts => uptoBulkAll parts + 1
  | .iface _ d => uptoBulk d + 1
  | .map entries => uptoBulkEntries entries + 1
  | .held _ => 1
def uptoBulkAll {H : Type} : List (DataW H) → Nat
  | [] => 0
  | d :: r => uptoBulk d + uptoBulkAll r
def uptoBulkEntries {H : Type} : List (Lit × DataW H) → Nat
  | [] => 0
  | x :: r => uptoBulkEntry x + uptoBulkEntries r
def uptoBulkEntry {H : Type} : Lit × DataW H → Nat
  | (.string bytes, d) => bytes.length + uptoBulk d + 1
  | (_, d) => uptoBulk d + 1
 end
def uptoSmall : (H : Type) → List (DataW H) → Bool := fun _ ds => decide (uptoBulkAll ds ≤ 1048576)
def OpenSpec.upto (s : _root_.Go.ChangeSpec) : _root_.Go.OpenSpec := { _root_.Go.OpenSpec.ofChange s with cond := some uptoSmall }

/-- 'leapfroglaw39.WitnessAlone', WHERE WHAT IT READS IS OF BULK AT MOST 1048576: true; the input reads as it did. -/
def witnessAloneUptoRow : OpenClaim := { program := "ytfnapkfdocabcaagreat", sum := "cabfa4cbb7beed2c8ef99ec7169998da87e0475a04fcf390d3427e3de8b136dc", func := "leapfrog/leapfroglaw39.WitnessAlone", spec := "witnessAlone", inPlace := ["slices.overlaps[leapfrog/api.Pair]"], unfollowed := true, recurses := true, apart := false, narrowed := true }
def WitnessAloneUptoSaid : Prop := witnessAloneUptoRow.holds Tryz.pinned (OpenSpec.upto witnessAloneSpec)

/-- 'leapfroglaw39.WitnessChanges', WHERE WHAT IT READS IS OF BULK AT MOST 1048576: true; the input reads as it did. -/
def witnessChangesUptoRow : OpenClaim := { program := "ytfnapkfdocabcaagreat", sum := "cabfa4cbb7beed2c8ef99ec7169998da87e0475a04fcf390d3427e3de8b136dc", func := "leapfrog/leapfroglaw39.WitnessChanges", spec := "witnessChanges", inPlace := ["slices.overlaps[leapfrog/api.Pair]"], unfollowed := true, recurses := true, apart := false, narrowed := true }
def WitnessChangesUptoSaid : Prop := witnessChangesUptoRow.holds Tryz.pinned (OpenSpec.upto witnessChangesSpec)

/-- 'leapfroglaw39.WitnessPrefixes', WHERE WHAT IT READS IS OF BULK AT MOST 1048576: true; the input reads as it did. -/
def witnessPrefixesUptoRow : OpenClaim := { program := "ytfnapkfdocabcaagreat", sum := "cabfa4cbb7beed2c8ef99ec7169998da87e0475a04fcf390d3427e3de8b136dc", func := "leapfrog/leapfroglaw39.WitnessPrefixes", spec := "witnessPrefixes", inPlace := ["slices.overlaps[leapfrog/api.Pair]"], unfollowed := true, recurses := true, apart := false, narrowed := true }
def WitnessPrefixesUptoSaid : Prop := witnessPrefixesUptoRow.holds Tryz.pinned (OpenSpec.upto witnessPrefixesSpec)

/-- 'leapfroglaw39.WitnessOrders', WHERE WHAT IT READS IS OF BULK AT MOST 1048576: true; the input reads as it did. -/
def witnessOrdersUptoRow : OpenClaim := { program := "ytfnapkfdocabcaagreat", sum := "cabfa4cbb7beed2c8ef99ec7169998da87e0475a04fcf390d3427e3de8b136dc", func := "leapfrog/leapfroglaw39.WitnessOrders", spec := "witnessOrders", inPlace := ["slices.overlaps[leapfrog/api.Pair]"], unfollowed := true, recurses := true, apart := false, narrowed := true }
def WitnessOrdersUptoSaid : Prop := witnessOrdersUptoRow.holds Tryz.pinned (OpenSpec.upto witnessOrdersSpec)

end Rows
end Go.Proofs.YtfnapkfdocabcaaGreat
