/-
  No cell of these rows narrows 'for every input' (looked for: loops, veiled, ifaces, maps, wideKeys, modest, calm, conditions, laid).
  DERIVED. THE GIVEN ROWS OF THIS SEAT. 4 by the template 'for every input the law returns true; each argument reads behind the call as it read before'; 0 by the template 'total and deterministic' (their statements: YtkikdpdainmlcaaGreatTotals.lean).
  GIVEN WITH THE SEED: the statements are not yours to turn. If you find one false, say at which input.
  Laid BY PROGRAM, IN A SANDBOX (cutbox-rows.mjs): the forced cells as the released guide's own fill.sh prints them over the translation 78bf9743c13b09fb… (all of the seat's roots in one cut). By AI agents, Wed Nov 11 2026. No macro, syntax, notation, axiom, sorry.
-/
import Derived.Test.YtkikdpdainmlcaaGreatChecked
import GoSem.Claim
import GoSem.ClaimJoined
import GoSem.ClaimMapViews
import Derived.JoinedTies
import Derived.KernelRfl
namespace Go.Proofs.YtkikdpdainmlcaaGreat
/- THE CELL 'sum', in the pinned program and in every row, IS THE sha256 OF THE DUMP (.gsa) THAT YtkikdpdainmlcaaGreatProg.lean LOADS. Nothing in Lean hashes anything: it is a label: what it is worth is what the hold of that sum in a sandbox is worth. -/
noncomputable def Tryz.pinned : Pinned := { name := "ytkikdpdainmlcaagreat", sum := "78bf9743c13b09fb51ec1b89144bf31438982c34eb4cae40a2858abe000c24fa", checked := Tryz.checked }
namespace Rows
def none {H : Type} : Left H := { results := [], args := [] }

/-- 'leapfroglaw41.PassageKeeps': WHATEVER THE INPUT: true; the input reads as it did. -/
def passageKeepsSpec : ChangeSpec := { name := "passageKeeps", fn := fun _ => fun
  | [d1, d2] => { results := [.lit (.bool true)], args := [d1, d2] }
  | _ => none }
def passageKeepsRow : OpenClaim := { program := "ytkikdpdainmlcaagreat", sum := "78bf9743c13b09fb51ec1b89144bf31438982c34eb4cae40a2858abe000c24fa", func := "leapfrog/leapfroglaw41.PassageKeeps", spec := "passageKeeps", inPlace := ["slices.overlaps[leapfrog/api.Pair]"], unfollowed := true, recurses := true, apart := false }
def PassageKeepsSaid : Prop := passageKeepsRow.holds Tryz.pinned (OpenSpec.ofChange passageKeepsSpec)

/-- ITS FALSE NEIGHBOUR: 'it returns false'. Refute it at one input. -/
def passageKeepsWrong : ChangeSpec := { name := "passageKeeps", fn := fun _ => fun
  | [d1, d2] => { results := [.lit (.bool false)], args := [d1, d2] }
  | _ => none }
def PassageKeepsWrongFalsely : Prop := passageKeepsRow.holds Tryz.pinned (OpenSpec.ofChange passageKeepsWrong)

/-- 'leapfroglaw41.PassageStill': WHATEVER THE INPUT: true; the input reads as it did. -/
def passageStillSpec : ChangeSpec := { name := "passageStill", fn := fun _ => fun
  | [d1, d2] => { results := [.lit (.bool true)], args := [d1, d2] }
  | _ => none }
def passageStillRow : OpenClaim := { program := "ytkikdpdainmlcaagreat", sum := "78bf9743c13b09fb51ec1b89144bf31438982c34eb4cae40a2858abe000c24fa", func := "leapfrog/leapfroglaw41.PassageStill", spec := "passageStill", inPlace := ["slices.overlaps[leapfrog/api.Pair]"], unfollowed := true, recurses := true, apart := false }
def PassageStillSaid : Prop := passageStillRow.holds Tryz.pinned (OpenSpec.ofChange passageStillSpec)

/-- ITS FALSE NEIGHBOUR: 'it returns false'. Refute it at one input. -/
def passageStillWrong : ChangeSpec := { name := "passageStill", fn := fun _ => fun
  | [d1, d2] => { results := [.lit (.bool false)], args := [d1, d2] }
  | _ => none }
def PassageStillWrongFalsely : Prop := passageStillRow.holds Tryz.pinned (OpenSpec.ofChange passageStillWrong)

/-- 'leapfroglaw41.PassageParts': WHATEVER THE INPUT: true; the input reads as it did. -/
def passagePartsSpec : ChangeSpec := { name := "passageParts", fn := fun _ => fun
  | [d] => { results := [.lit (.bool true)], args := [d] }
  | _ => none }
def passagePartsRow : OpenClaim := { program := "ytkikdpdainmlcaagreat", sum := "78bf9743c13b09fb51ec1b89144bf31438982c34eb4cae40a2858abe000c24fa", func := "leapfrog/leapfroglaw41.PassageParts", spec := "passageParts", inPlace := ["slices.overlaps[leapfrog/api.Pair]"], unfollowed := true, recurses := true, apart := false }
def PassagePartsSaid : Prop := passagePartsRow.holds Tryz.pinned (OpenSpec.ofChange passagePartsSpec)

/-- ITS FALSE NEIGHBOUR: 'it returns false'. Refute it at one input. -/
def passagePartsWrong : ChangeSpec := { name := "passageParts", fn := fun _ => fun
  | [d] => { results := [.lit (.bool false)], args := [d] }
  | _ => none }
def PassagePartsWrongFalsely : Prop := passagePartsRow.holds Tryz.pinned (OpenSpec.ofChange passagePartsWrong)

/-- 'leapfroglaw41.PassagePrefixes': WHATEVER THE INPUT: true; the input reads as it did. -/
def passagePrefixesSpec : ChangeSpec := { name := "passagePrefixes", fn := fun _ => fun
  | [d1, d2, d3] => { results := [.lit (.bool true)], args := [d1, d2, d3] }
  | _ => none }
def passagePrefixesRow : OpenClaim := { program := "ytkikdpdainmlcaagreat", sum := "78bf9743c13b09fb51ec1b89144bf31438982c34eb4cae40a2858abe000c24fa", func := "leapfrog/leapfroglaw41.PassagePrefixes", spec := "passagePrefixes", inPlace := ["slices.overlaps[leapfrog/api.Pair]"], unfollowed := true, recurses := true, apart := false }
def PassagePrefixesSaid : Prop := passagePrefixesRow.holds Tryz.pinned (OpenSpec.ofChange passagePrefixesSpec)

/-- ITS FALSE NEIGHBOUR: 'it returns false'. Refute it at one input. -/
def passagePrefixesWrong : ChangeSpec := { name := "passagePrefixes", fn := fun _ => fun
  | [d1, d2, d3] => { results := [.lit (.bool false)], args := [d1, d2, d3] }
  | _ => none }
def PassagePrefixesWrongFalsely : Prop := passagePrefixesRow.holds Tryz.pinned (OpenSpec.ofChange passagePrefixesWrong)

/- THE SECOND FORM. 'bulk': how many values and letters a reading holds, each counted each time it is reached (what is shared counts as often as it is met; a slice's spare places count too). A statement '..UptoSaid' is the law's where the arguments, and the package variables that the reading takes, are together of bulk at most 1048576: NARROWER than '..Said'. Prove '..Said' where nothing that the law and all that it calls make is longer than what came in: it says more and counts as full. Else prove '..UptoSaid'. A law counts once. -/
mutual
def uptoBulk {H : Type} : DataW H → Nat
  | .lit (.string bytes) => bytes.length + 1
  | .lit _ => 1
  | .nil => 1
  | .ptr d => uptoBulk d + 1
  | .slice elems spare => uptoBulkAll elems + uptoBulkAll spare + 1
  | .agg parts => uptoBulkAll parts + 1
  | .iface _ d => uptoBulk d + 1
  | .map entries => uptoBulkEntries entries + 1
  | .held _ => 1
def uptoBulkAll {H : Type} : List (DataW H) → Nat
  | [] => 0
  | d :: r => uptoBulk d + uptoBulkAll r
def uptoBulkEntries {H : Type} : List (Lit × DataW H) → Nat
  | [] => 0
  | x :: r => uptoBulkEntry x + uptoBulkEntries r
def uptoBulkEntry {H : Type} : Lit × DataW H → Nat
  | (.string bytes, d) => bytes.length + uptoBulk d + 1
  | (_, d) => uptoBulk d + 1
 end
def uptoSmall : (H : Type) → List (DataW H) → Bool := fun _ ds => decide (uptoBulkAll ds ≤ 1048576)
def OpenSpec.upto (s : _root_.Go.ChangeSpec) : _root_.Go.OpenSpec := { _root_.Go.OpenSpec.ofChange s with cond := some uptoSmall }

/-- 'leapfroglaw41.PassageKeeps', WHERE WHAT IT READS IS OF BULK AT MOST 1048576: true; the input reads as it did. -/
def passageKeepsUptoRow : OpenClaim := { program := "ytkikdpdainmlcaagreat", sum := "78bf9743c13b09fb51ec1b89144bf31438982c34eb4cae40a2858abe000c24fa", func := "leapfrog/leapfroglaw41.PassageKeeps", spec := "passageKeeps", inPlace := ["slices.overlaps[leapfrog/api.Pair]"], unfollowed := true, recurses := true, apart := false, narrowed := true }
def PassageKeepsUptoSaid : Prop := passageKeepsUptoRow.holds Tryz.pinned (OpenSpec.upto passageKeepsSpec)

/-- 'leapfroglaw41.PassageStill', WHERE WHAT IT READS IS OF BULK AT MOST 1048576: true; the input reads as it did. -/
def passageStillUptoRow : OpenClaim := { program := "ytkikdpdainmlcaagreat", sum := "78bf9743c13b09fb51ec1b89144bf31438982c34eb4cae40a2858abe000c24fa", func := "leapfrog/leapfroglaw41.PassageStill", spec := "passageStill", inPlace := ["slices.overlaps[leapfrog/api.Pair]"], unfollowed := true, recurses := true, apart := false, narrowed := true }
def PassageStillUptoSaid : Prop := passageStillUptoRow.holds Tryz.pinned (OpenSpec.upto passageStillSpec)

/-- 'leapfroglaw41.PassageParts', WHERE WHAT IT READS IS OF BULK AT MOST 1048576: true; the input reads as it did. -/
def passagePartsUptoRow : OpenClaim := { program := "ytkikdpdainmlcaagreat", sum := "78bf9743c13b09fb51ec1b89144bf31438982c34eb4cae40a2858abe000c24fa", func := "leapfrog/leapfroglaw41.PassageParts", spec := "passageParts", inPlace := ["slices.overlaps[leapfrog/api.Pair]"], unfollowed := true, recurses := true, apart := false, narrowed := true }
def PassagePartsUptoSaid : Prop := passagePartsUptoRow.holds Tryz.pinned (OpenSpec.upto passagePartsSpec)

/-- 'leapfroglaw41.PassagePrefixes', WHERE WHAT IT READS IS OF BULK AT MOST 1048576: true; the input reads as it did. -/
def passagePrefixesUptoRow : OpenClaim := { program := "ytkikdpdainmlcaagreat", sum := "78bf9743c13b09fb51ec1b89144bf31438982c34eb4cae40a2858abe000c24fa", func := "leapfrog/leapfroglaw41.PassagePrefixes", spec := "passagePrefixes", inPlace := ["slices.overlaps[leapfrog/api.Pair]"], unfollowed := true, recurses := true, apart := false, narrowed := true }
def PassagePrefixesUptoSaid : Prop := passagePrefixesUptoRow.holds Tryz.pinned (OpenSpec.upto passagePrefixesSpec)

end Rows
end Go.Proofs.YtkikdpdainmlcaaGreat
