/-
  No cell of these rows narrows 'for every input' (looked for: loops, veiled, ifaces, maps, wideKeys, modest, calm, conditions, laid).
  DERIVED. THE GIVEN ROWS OF THIS SEAT. 7 by the template 'for every input the law returns true; each argument reads behind the call as it read before'; 0 by the template 'total and deterministic' (their statements: YtjpgechcfkhoaaaTotals.lean).
  GIVEN WITH THE SEED: the statements are not yours to turn. If you find one false, say at which input.
  Laid BY PROGRAM, IN A SANDBOX (cutbox-rows.mjs): the forced cells as the released guide's own fill.sh prints them over the translation a10b44d339d96a3f… (all of the seat's roots in one cut). By AI agents, Wed Nov 11 2026. No macro, syntax, notation, axiom, sorry.
-/
import Derived.Test.YtjpgechcfkhoaaaChecked
import GoSem.Claim
import GoSem.ClaimJoined
import GoSem.ClaimMapViews
import Derived.JoinedTies
import Derived.KernelRfl
namespace Go.Proofs.Ytjpgechcfkhoaaa
/- THE CELL 'sum', in the pinned program and in every row, IS THE sha256 OF THE DUMP (.gsa) THAT YtjpgechcfkhoaaaProg.lean LOADS. Nothing in Lean hashes anything: it is a label: what it is worth is what the hold of that sum in a sandbox is worth. -/
noncomputable def Try.pinned : Pinned := { name := "ytjpgechcfkhoaaa", sum := "a10b44d339d96a3f408888bf12336e458f7887b64084d9e9f85272a825d7da32", checked := Try.checked }
namespace Rows
def none {H : Type} : Left H := { results := [], args := [] }

/-- 'leapfroglaw12.HistoryMatches': WHATEVER THE INPUT: true; the input reads as it did. -/
def historyMatchesSpec : ChangeSpec := { name := "historyMatches", fn := fun _ => fun
  | [d1, d2, d3] => { results := [.lit (.bool true)], args := [d1, d2, d3] }
  | _ => none }
def historyMatchesRow : OpenClaim := { program := "ytjpgechcfkhoaaa", sum := "a10b44d339d96a3f408888bf12336e458f7887b64084d9e9f85272a825d7da32", func := "leapfrog/leapfroglaw12.HistoryMatches", spec := "historyMatches", unfollowed := true, recurses := true, apart := false }
def HistoryMatchesSaid : Prop := historyMatchesRow.holds Try.pinned (OpenSpec.ofChange historyMatchesSpec)

/-- ITS FALSE NEIGHBOUR: 'it returns false'. Refute it at one input. -/
def historyMatchesWrong : ChangeSpec := { name := "historyMatches", fn := fun _ => fun
  | [d1, d2, d3] => { results := [.lit (.bool false)], args := [d1, d2, d3] }
  | _ => none }
def HistoryMatchesWrongFalsely : Prop := historyMatchesRow.holds Try.pinned (OpenSpec.ofChange historyMatchesWrong)

/-- 'leapfroglaw12.HistoryAgrees': WHATEVER THE INPUT: true; the input reads as it did. -/
def historyAgreesSpec : ChangeSpec := { name := "historyAgrees", fn := fun _ => fun
  | [d1, d2] => { results := [.lit (.bool true)], args := [d1, d2] }
  | _ => none }
def historyAgreesRow : OpenClaim := { program := "ytjpgechcfkhoaaa", sum := "a10b44d339d96a3f408888bf12336e458f7887b64084d9e9f85272a825d7da32", func := "leapfrog/leapfroglaw12.HistoryAgrees", spec := "historyAgrees", unfollowed := true, recurses := true, apart := false }
def HistoryAgreesSaid : Prop := historyAgreesRow.holds Try.pinned (OpenSpec.ofChange historyAgreesSpec)

/-- ITS FALSE NEIGHBOUR: 'it returns false'. Refute it at one input. -/
def historyAgreesWrong : ChangeSpec := { name := "historyAgrees", fn := fun _ => fun
  | [d1, d2] => { results := [.lit (.bool false)], args := [d1, d2] }
  | _ => none }
def HistoryAgreesWrongFalsely : Prop := historyAgreesRow.holds Try.pinned (OpenSpec.ofChange historyAgreesWrong)

/-- 'leapfroglaw12.HistoryExamples': WHATEVER THE INPUT: true; the input reads as it did. -/
def historyExamplesSpec : ChangeSpec := { name := "historyExamples", fn := fun _ => fun
  | [] => { results := [.lit (.bool true)], args := [] }
  | _ => none }
def historyExamplesRow : OpenClaim := { program := "ytjpgechcfkhoaaa", sum := "a10b44d339d96a3f408888bf12336e458f7887b64084d9e9f85272a825d7da32", func := "leapfrog/leapfroglaw12.HistoryExamples", spec := "historyExamples", unfollowed := true, recurses := true, apart := false }
def HistoryExamplesSaid : Prop := historyExamplesRow.holds Try.pinned (OpenSpec.ofChange historyExamplesSpec)

/-- ITS FALSE NEIGHBOUR: 'it returns false'. Refute it at one input. -/
def historyExamplesWrong : ChangeSpec := { name := "historyExamples", fn := fun _ => fun
  | [] => { results := [.lit (.bool false)], args := [] }
  | _ => none }
def HistoryExamplesWrongFalsely : Prop := historyExamplesRow.holds Try.pinned (OpenSpec.ofChange historyExamplesWrong)

/-- 'leapfroglaw12.HistoryEffects': WHATEVER THE INPUT: true; the input reads as it did. -/
def historyEffectsSpec : ChangeSpec := { name := "historyEffects", fn := fun _ => fun
  | [d] => { results := [.lit (.bool true)], args := [d] }
  | _ => none }
def historyEffectsRow : OpenClaim := { program := "ytjpgechcfkhoaaa", sum := "a10b44d339d96a3f408888bf12336e458f7887b64084d9e9f85272a825d7da32", func := "leapfrog/leapfroglaw12.HistoryEffects", spec := "historyEffects", unfollowed := true, recurses := true, apart := false }
def HistoryEffectsSaid : Prop := historyEffectsRow.holds Try.pinned (OpenSpec.ofChange historyEffectsSpec)

/-- ITS FALSE NEIGHBOUR: 'it returns false'. Refute it at one input. -/
def historyEffectsWrong : ChangeSpec := { name := "historyEffects", fn := fun _ => fun
  | [d] => { results := [.lit (.bool false)], args := [d] }
  | _ => none }
def HistoryEffectsWrongFalsely : Prop := historyEffectsRow.holds Try.pinned (OpenSpec.ofChange historyEffectsWrong)

/-- 'leapfroglaw12.HistoryPrefixes': WHATEVER THE INPUT: true; the input reads as it did. -/
def historyPrefixesSpec : ChangeSpec := { name := "historyPrefixes", fn := fun _ => fun
  | [d1, d2, d3] => { results := [.lit (.bool true)], args := [d1, d2, d3] }
  | _ => none }
def historyPrefixesRow : OpenClaim := { program := "ytjpgechcfkhoaaa", sum := "a10b44d339d96a3f408888bf12336e458f7887b64084d9e9f85272a825d7da32", func := "leapfrog/leapfroglaw12.HistoryPrefixes", spec := "historyPrefixes", unfollowed := true, recurses := true, apart := false }
def HistoryPrefixesSaid : Prop := historyPrefixesRow.holds Try.pinned (OpenSpec.ofChange historyPrefixesSpec)

/-- ITS FALSE NEIGHBOUR: 'it returns false'. Refute it at one input. -/
def historyPrefixesWrong : ChangeSpec := { name := "historyPrefixes", fn := fun _ => fun
  | [d1, d2, d3] => { results := [.lit (.bool false)], args := [d1, d2, d3] }
  | _ => none }
def HistoryPrefixesWrongFalsely : Prop := historyPrefixesRow.holds Try.pinned (OpenSpec.ofChange historyPrefixesWrong)

/-- 'leapfroglaw12.HistoryThreads': WHATEVER THE INPUT: true; the input reads as it did. -/
def historyThreadsSpec : ChangeSpec := { name := "historyThreads", fn := fun _ => fun
  | [d] => { results := [.lit (.bool true)], args := [d] }
  | _ => none }
def historyThreadsRow : OpenClaim := { program := "ytjpgechcfkhoaaa", sum := "a10b44d339d96a3f408888bf12336e458f7887b64084d9e9f85272a825d7da32", func := "leapfrog/leapfroglaw12.HistoryThreads", spec := "historyThreads", unfollowed := true, recurses := true, apart := false }
def HistoryThreadsSaid : Prop := historyThreadsRow.holds Try.pinned (OpenSpec.ofChange historyThreadsSpec)

/-- ITS FALSE NEIGHBOUR: 'it returns false'. Refute it at one input. -/
def historyThreadsWrong : ChangeSpec := { name := "historyThreads", fn := fun _ => fun
  | [d] => { results := [.lit (.bool false)], args := [d] }
  | _ => none }
def HistoryThreadsWrongFalsely : Prop := historyThreadsRow.holds Try.pinned (OpenSpec.ofChange historyThreadsWrong)

/-- 'leapfroglaw12.HistoryOrders': WHATEVER THE INPUT: true; the input reads as it did. -/
def historyOrdersSpec : ChangeSpec := { name := "historyOrders", fn := fun _ => fun
  | [d1, d2] => { results := [.lit (.bool true)], args := [d1, d2] }
  | _ => none }
def historyOrdersRow : OpenClaim := { program := "ytjpgechcfkhoaaa", sum := "a10b44d339d96a3f408888bf12336e458f7887b64084d9e9f85272a825d7da32", func := "leapfrog/leapfroglaw12.HistoryOrders", spec := "historyOrders", unfollowed := true, recurses := true, apart := false }
def HistoryOrdersSaid : Prop := historyOrdersRow.holds Try.pinned (OpenSpec.ofChange historyOrdersSpec)

/-- ITS FALSE NEIGHBOUR: 'it returns false'. Refute it at one input. -/
def historyOrdersWrong : ChangeSpec := { name := "historyOrders", fn := fun _ => fun
  | [d1, d2] => { results := [.lit (.bool false)], args := [d1, d2] }
  | _ => none }
def HistoryOrdersWrongFalsely : Prop := historyOrdersRow.holds Try.pinned (OpenSpec.ofChange historyOrdersWrong)

/- THE SECOND FORM. 'bulk': how many values and letters a reading holds, each counted each time it is reached (what is shared counts as often as it is met; a slice's spare places count too). A statement '..UptoSaid' is the law's where the arguments, and the package variables that the reading takes, are together of bulk at most 1048576: NARROWER than '..Said'. Prove '..Said' where nothing that the law and all that it calls make is longer than what came in: it says more and counts as full. Else prove '..UptoSaid'. A law counts once. -/
mutual
def uptoBulk {H : Type} : DataW H → Nat
  | .lit (.string bytes) => bytes.length + 1
  | .lit _ => 1
  | .nil => 1
  | .ptr d => uptoBulk d + 1
  | .slice elems spare => uptoBulkAll elems + uptoBulkAll spare + 1
  | .agg parts => uptoBulkAll parts + 1
  | .iface _ d => uptoBulk d + 1
  | .map entries => uptoBulkEntries entries + 1
  | .held _ => 1
def uptoBulkAll {H : Type} : List (DataW H) → Nat
  | [] => 0
  | d :: r => uptoBulk d + uptoBulkAll r
def uptoBulkEntries {H : Type} : List (Lit × DataW H) → Nat
  | [] => 0
  | x :: r => uptoBulkEntry x + uptoBulkEntries r
def uptoBulkEntry {H : Type} : Lit × DataW H → Nat
  | (.string bytes, d) => bytes.length + uptoBulk d + 1
  | (_, d) => uptoBulk d + 1
 end
def uptoSmall : (H : Type) → List (DataW H) → Bool := fun _ ds => decide (uptoBulkAll ds ≤ 1048576)
def OpenSpec.upto (s : _root_.Go.ChangeSpec) : _root_.Go.OpenSpec := { _root_.Go.OpenSpec.ofChange s with cond := some uptoSmall }

/-- 'leapfroglaw12.HistoryMatches', WHERE WHAT IT READS IS OF BULK AT MOST 1048576: true; the input reads as it did. -/
def historyMatchesUptoRow : OpenClaim := { program := "ytjpgechcfkhoaaa", sum := "a10b44d339d96a3f408888bf12336e458f7887b64084d9e9f85272a825d7da32", func := "leapfrog/leapfroglaw12.HistoryMatches", spec := "historyMatches", unfollowed := true, recurses := true, apart := false, narrowed := true }
def HistoryMatchesUptoSaid : Prop := historyMatchesUptoRow.holds Try.pinned (OpenSpec.upto historyMatchesSpec)

/-- 'leapfroglaw12.HistoryAgrees', WHERE WHAT IT READS IS OF BULK AT MOST 1048576: true; the input reads as it did. -/
def historyAgreesUptoRow : OpenClaim := { program := "ytjpgechcfkhoaaa", sum := "a10b44d339d96a3f408888bf12336e458f7887b64084d9e9f85272a825d7da32", func := "leapfrog/leapfroglaw12.HistoryAgrees", spec := "historyAgrees", unfollowed := true, recurses := true, apart := false, narrowed := true }
def HistoryAgreesUptoSaid : Prop := historyAgreesUptoRow.holds Try.pinned (OpenSpec.upto historyAgreesSpec)

/-- 'leapfroglaw12.HistoryExamples', WHERE WHAT IT READS IS OF BULK AT MOST 1048576: true; the input reads as it did. -/
def historyExamplesUptoRow : OpenClaim := { program := "ytjpgechcfkhoaaa", sum := "a10b44d339d96a3f408888bf12336e458f7887b64084d9e9f85272a825d7da32", func := "leapfrog/leapfroglaw12.HistoryExamples", spec := "historyExamples", unfollowed := true, recurses := true, apart := false, narrowed := true }
def HistoryExamplesUptoSaid : Prop := historyExamplesUptoRow.holds Try.pinned (OpenSpec.upto historyExamplesSpec)

/-- 'leapfroglaw12.HistoryEffects', WHERE WHAT IT READS IS OF BULK AT MOST 1048576: true; the input reads as it did. -/
def historyEffectsUptoRow : OpenClaim := { program := "ytjpgechcfkhoaaa", sum := "a10b44d339d96a3f408888bf12336e458f7887b64084d9e9f85272a825d7da32", func := "leapfrog/leapfroglaw12.HistoryEffects", spec := "historyEffects", unfollowed := true, recurses := true, apart := false, narrowed := true }
def HistoryEffectsUptoSaid : Prop := historyEffectsUptoRow.holds Try.pinned (OpenSpec.upto historyEffectsSpec)

/-- 'leapfroglaw12.HistoryPrefixes', WHERE WHAT IT READS IS OF BULK AT MOST 1048576: true; the input reads as it did. -/
def historyPrefixesUptoRow : OpenClaim := { program := "ytjpgechcfkhoaaa", sum := "a10b44d339d96a3f408888bf12336e458f7887b64084d9e9f85272a825d7da32", func := "leapfrog/leapfroglaw12.HistoryPrefixes", spec := "historyPrefixes", unfollowed := true, recurses := true, apart := false, narrowed := true }
def HistoryPrefixesUptoSaid : Prop := historyPrefixesUptoRow.holds Try.pinned (OpenSpec.upto historyPrefixesSpec)

/-- 'leapfroglaw12.HistoryThreads', WHERE WHAT IT READS IS OF BULK AT MOST 1048576: true; the input reads as it did. -/
def historyThreadsUptoRow : OpenClaim := { program := "ytjpgechcfkhoaaa", sum := "a10b44d339d96a3f408888bf12336e458f7887b64084d9e9f85272a825d7da32", func := "leapfrog/leapfroglaw12.HistoryThreads", spec := "historyThreads", unfollowed := true, recurses := true, apart := false, narrowed := true }
def HistoryThreadsUptoSaid : Prop := historyThreadsUptoRow.holds Try.pinned (OpenSpec.upto historyThreadsSpec)

/-- 'leapfroglaw12.HistoryOrders', WHERE WHAT IT READS IS OF BULK AT MOST 1048576: true; the input reads as it did. -/
def historyOrdersUptoRow : OpenClaim := { program := "ytjpgechcfkhoaaa", sum := "a10b44d339d96a3f408888bf12336e458f7887b64084d9e9f85272a825d7da32", func := "leapfrog/leapfroglaw12.HistoryOrders", spec := "historyOrders", unfollowed := true, recurses := true, apart := false, narrowed := true }
def HistoryOrdersUptoSaid : Prop := historyOrdersUptoRow.holds Try.pinned (OpenSpec.upto historyOrdersSpec)

end Rows
end Go.Proofs.Ytjpgechcfkhoaaa
