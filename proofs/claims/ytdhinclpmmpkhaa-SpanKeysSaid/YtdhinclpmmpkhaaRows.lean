/-
  No cell of these rows narrows 'for every input' (looked for: loops, veiled, ifaces, maps, wideKeys, modest, calm, conditions, laid).
  DERIVED. THE GIVEN ROWS OF THIS SEAT. 9 by the template 'for every input the law returns true; each argument reads behind the call as it read before'; 0 by the template 'total and deterministic' (their statements: YtdhinclpmmpkhaaTotals.lean).
  GIVEN WITH THE SEED: the statements are not yours to turn. If you find one false, say at which input.
  Laid BY PROGRAM, IN A SANDBOX (cutbox-rows.mjs): the forced cells as the released guide's own fill.sh prints them over the translation 3de30acb8743a2d5… (all of the seat's roots in one cut). By AI agents, Wed Nov 11 2026. No macro, syntax, notation, axiom, sorry.
-/
import Derived.Test.YtdhinclpmmpkhaaChecked
import GoSem.Claim
import GoSem.ClaimJoined
import GoSem.ClaimMapViews
import Derived.JoinedTies
import Derived.KernelRfl
namespace Go.Proofs.Ytdhinclpmmpkhaa
/- THE CELL 'sum', in the pinned program and in every row, IS THE sha256 OF THE DUMP (.gsa) THAT YtdhinclpmmpkhaaProg.lean LOADS. Nothing in Lean hashes anything: it is a label: what it is worth is what the hold of that sum in a sandbox is worth. -/
noncomputable def Try.pinned : Pinned := { name := "ytdhinclpmmpkhaa", sum := "3de30acb8743a2d5a045e5dc3bf3f8617b9e8030806fd20a375d0dc07a52f900", checked := Try.checked }
namespace Rows
def none {H : Type} : Left H := { results := [], args := [] }

/-- 'leapfroglaw02.SpanChecks': WHATEVER THE INPUT: true; the input reads as it did. -/
def spanChecksSpec : ChangeSpec := { name := "spanChecks", fn := fun _ => fun
  | [d1, d2] => { results := [.lit (.bool true)], args := [d1, d2] }
  | _ => none }
def spanChecksRow : OpenClaim := { program := "ytdhinclpmmpkhaa", sum := "3de30acb8743a2d5a045e5dc3bf3f8617b9e8030806fd20a375d0dc07a52f900", func := "leapfrog/leapfroglaw02.SpanChecks", spec := "spanChecks", apart := false }
def SpanChecksSaid : Prop := spanChecksRow.holds Try.pinned (OpenSpec.ofChange spanChecksSpec)

/-- ITS FALSE NEIGHBOUR: 'it returns false'. Refute it at one input. -/
def spanChecksWrong : ChangeSpec := { name := "spanChecks", fn := fun _ => fun
  | [d1, d2] => { results := [.lit (.bool false)], args := [d1, d2] }
  | _ => none }
def SpanChecksWrongFalsely : Prop := spanChecksRow.holds Try.pinned (OpenSpec.ofChange spanChecksWrong)

/-- 'leapfroglaw02.SpanPairs': WHATEVER THE INPUT: true; the input reads as it did. -/
def spanPairsSpec : ChangeSpec := { name := "spanPairs", fn := fun _ => fun
  | [d1, d2, d3] => { results := [.lit (.bool true)], args := [d1, d2, d3] }
  | _ => none }
def spanPairsRow : OpenClaim := { program := "ytdhinclpmmpkhaa", sum := "3de30acb8743a2d5a045e5dc3bf3f8617b9e8030806fd20a375d0dc07a52f900", func := "leapfrog/leapfroglaw02.SpanPairs", spec := "spanPairs", apart := false }
def SpanPairsSaid : Prop := spanPairsRow.holds Try.pinned (OpenSpec.ofChange spanPairsSpec)

/-- ITS FALSE NEIGHBOUR: 'it returns false'. Refute it at one input. -/
def spanPairsWrong : ChangeSpec := { name := "spanPairs", fn := fun _ => fun
  | [d1, d2, d3] => { results := [.lit (.bool false)], args := [d1, d2, d3] }
  | _ => none }
def SpanPairsWrongFalsely : Prop := spanPairsRow.holds Try.pinned (OpenSpec.ofChange spanPairsWrong)

/-- 'leapfroglaw02.SpanNormalizes': WHATEVER THE INPUT: true; the input reads as it did. -/
def spanNormalizesSpec : ChangeSpec := { name := "spanNormalizes", fn := fun _ => fun
  | [d] => { results := [.lit (.bool true)], args := [d] }
  | _ => none }
def spanNormalizesRow : OpenClaim := { program := "ytdhinclpmmpkhaa", sum := "3de30acb8743a2d5a045e5dc3bf3f8617b9e8030806fd20a375d0dc07a52f900", func := "leapfrog/leapfroglaw02.SpanNormalizes", spec := "spanNormalizes", unfollowed := true, recurses := true, apart := false }
def SpanNormalizesSaid : Prop := spanNormalizesRow.holds Try.pinned (OpenSpec.ofChange spanNormalizesSpec)

/-- ITS FALSE NEIGHBOUR: 'it returns false'. Refute it at one input. -/
def spanNormalizesWrong : ChangeSpec := { name := "spanNormalizes", fn := fun _ => fun
  | [d] => { results := [.lit (.bool false)], args := [d] }
  | _ => none }
def SpanNormalizesWrongFalsely : Prop := spanNormalizesRow.holds Try.pinned (OpenSpec.ofChange spanNormalizesWrong)

/-- 'leapfroglaw02.SpanKeys': WHATEVER THE INPUT: true; the input reads as it did. -/
def spanKeysSpec : ChangeSpec := { name := "spanKeys", fn := fun _ => fun
  | [d1, d2] => { results := [.lit (.bool true)], args := [d1, d2] }
  | _ => none }
def spanKeysRow : OpenClaim := { program := "ytdhinclpmmpkhaa", sum := "3de30acb8743a2d5a045e5dc3bf3f8617b9e8030806fd20a375d0dc07a52f900", func := "leapfrog/leapfroglaw02.SpanKeys", spec := "spanKeys", unfollowed := true, recurses := true, apart := false }
def SpanKeysSaid : Prop := spanKeysRow.holds Try.pinned (OpenSpec.ofChange spanKeysSpec)

/-- ITS FALSE NEIGHBOUR: 'it returns false'. Refute it at one input. -/
def spanKeysWrong : ChangeSpec := { name := "spanKeys", fn := fun _ => fun
  | [d1, d2] => { results := [.lit (.bool false)], args := [d1, d2] }
  | _ => none }
def SpanKeysWrongFalsely : Prop := spanKeysRow.holds Try.pinned (OpenSpec.ofChange spanKeysWrong)

/-- 'leapfroglaw02.SpanCovers': WHATEVER THE INPUT: true; the input reads as it did. -/
def spanCoversSpec : ChangeSpec := { name := "spanCovers", fn := fun _ => fun
  | [d1, d2] => { results := [.lit (.bool true)], args := [d1, d2] }
  | _ => none }
def spanCoversRow : OpenClaim := { program := "ytdhinclpmmpkhaa", sum := "3de30acb8743a2d5a045e5dc3bf3f8617b9e8030806fd20a375d0dc07a52f900", func := "leapfrog/leapfroglaw02.SpanCovers", spec := "spanCovers", unfollowed := true, recurses := true, apart := false }
def SpanCoversSaid : Prop := spanCoversRow.holds Try.pinned (OpenSpec.ofChange spanCoversSpec)

/-- ITS FALSE NEIGHBOUR: 'it returns false'. Refute it at one input. -/
def spanCoversWrong : ChangeSpec := { name := "spanCovers", fn := fun _ => fun
  | [d1, d2] => { results := [.lit (.bool false)], args := [d1, d2] }
  | _ => none }
def SpanCoversWrongFalsely : Prop := spanCoversRow.holds Try.pinned (OpenSpec.ofChange spanCoversWrong)

/-- 'leapfroglaw02.SpanShifts': WHATEVER THE INPUT: true; the input reads as it did. -/
def spanShiftsSpec : ChangeSpec := { name := "spanShifts", fn := fun _ => fun
  | [d1, d2, d3] => { results := [.lit (.bool true)], args := [d1, d2, d3] }
  | _ => none }
def spanShiftsRow : OpenClaim := { program := "ytdhinclpmmpkhaa", sum := "3de30acb8743a2d5a045e5dc3bf3f8617b9e8030806fd20a375d0dc07a52f900", func := "leapfrog/leapfroglaw02.SpanShifts", spec := "spanShifts", unfollowed := true, recurses := true, apart := false }
def SpanShiftsSaid : Prop := spanShiftsRow.holds Try.pinned (OpenSpec.ofChange spanShiftsSpec)

/-- ITS FALSE NEIGHBOUR: 'it returns false'. Refute it at one input. -/
def spanShiftsWrong : ChangeSpec := { name := "spanShifts", fn := fun _ => fun
  | [d1, d2, d3] => { results := [.lit (.bool false)], args := [d1, d2, d3] }
  | _ => none }
def SpanShiftsWrongFalsely : Prop := spanShiftsRow.holds Try.pinned (OpenSpec.ofChange spanShiftsWrong)

/-- 'leapfroglaw02.SpanSizes': WHATEVER THE INPUT: true; the input reads as it did. -/
def spanSizesSpec : ChangeSpec := { name := "spanSizes", fn := fun _ => fun
  | [d1, d2] => { results := [.lit (.bool true)], args := [d1, d2] }
  | _ => none }
def spanSizesRow : OpenClaim := { program := "ytdhinclpmmpkhaa", sum := "3de30acb8743a2d5a045e5dc3bf3f8617b9e8030806fd20a375d0dc07a52f900", func := "leapfrog/leapfroglaw02.SpanSizes", spec := "spanSizes", unfollowed := true, recurses := true, apart := false }
def SpanSizesSaid : Prop := spanSizesRow.holds Try.pinned (OpenSpec.ofChange spanSizesSpec)

/-- ITS FALSE NEIGHBOUR: 'it returns false'. Refute it at one input. -/
def spanSizesWrong : ChangeSpec := { name := "spanSizes", fn := fun _ => fun
  | [d1, d2] => { results := [.lit (.bool false)], args := [d1, d2] }
  | _ => none }
def SpanSizesWrongFalsely : Prop := spanSizesRow.holds Try.pinned (OpenSpec.ofChange spanSizesWrong)

/-- 'leapfroglaw02.SpanContains': WHATEVER THE INPUT: true; the input reads as it did. -/
def spanContainsSpec : ChangeSpec := { name := "spanContains", fn := fun _ => fun
  | [d1, d2, d3] => { results := [.lit (.bool true)], args := [d1, d2, d3] }
  | _ => none }
def spanContainsRow : OpenClaim := { program := "ytdhinclpmmpkhaa", sum := "3de30acb8743a2d5a045e5dc3bf3f8617b9e8030806fd20a375d0dc07a52f900", func := "leapfrog/leapfroglaw02.SpanContains", spec := "spanContains", unfollowed := true, recurses := true, apart := false }
def SpanContainsSaid : Prop := spanContainsRow.holds Try.pinned (OpenSpec.ofChange spanContainsSpec)

/-- ITS FALSE NEIGHBOUR: 'it returns false'. Refute it at one input. -/
def spanContainsWrong : ChangeSpec := { name := "spanContains", fn := fun _ => fun
  | [d1, d2, d3] => { results := [.lit (.bool false)], args := [d1, d2, d3] }
  | _ => none }
def SpanContainsWrongFalsely : Prop := spanContainsRow.holds Try.pinned (OpenSpec.ofChange spanContainsWrong)

/-- 'leapfroglaw02.SpanExamples': WHATEVER THE INPUT: true; the input reads as it did. -/
def spanExamplesSpec : ChangeSpec := { name := "spanExamples", fn := fun _ => fun
  | [] => { results := [.lit (.bool true)], args := [] }
  | _ => none }
def spanExamplesRow : OpenClaim := { program := "ytdhinclpmmpkhaa", sum := "3de30acb8743a2d5a045e5dc3bf3f8617b9e8030806fd20a375d0dc07a52f900", func := "leapfrog/leapfroglaw02.SpanExamples", spec := "spanExamples", unfollowed := true, recurses := true, apart := false }
def SpanExamplesSaid : Prop := spanExamplesRow.holds Try.pinned (OpenSpec.ofChange spanExamplesSpec)

/-- ITS FALSE NEIGHBOUR: 'it returns false'. Refute it at one input. -/
def spanExamplesWrong : ChangeSpec := { name := "spanExamples", fn := fun _ => fun
  | [] => { results := [.lit (.bool false)], args := [] }
  | _ => none }
def SpanExamplesWrongFalsely : Prop := spanExamplesRow.holds Try.pinned (OpenSpec.ofChange spanExamplesWrong)

/- THE SECOND FORM. 'bulk': how many values and letters a reading holds, each counted each time it is reached (what is shared counts as often as it is met; a slice's spare places count too). A statement '..UptoSaid' is the law's where the arguments, and the package variables that the reading takes, are together of bulk at most 1048576: NARROWER than '..Said'. Prove '..Said' where nothing that the law and all that it calls make is longer than what came in: it says more and counts as full. Else prove '..UptoSaid'. A law counts once. -/
mutual
def uptoBulk {H : Type} : DataW H → Nat
  | .lit (.string bytes) => bytes.length + 1
  | .lit _ => 1
  | .nil => 1
  | .ptr d => uptoBulk d + 1
  | .slice elems spare => uptoBulkAll elems + uptoBulkAll spare + 1
  | .agg parts => uptoBulkAll parts + 1
  | .iface _ d => uptoBulk d + 1
  | .map entries => uptoBulkEntries entries + 1
  | .held _ => 1
def uptoBulkAll {H : Type} : List (DataW H) → Nat
  | [] => 0
  | d :: r => uptoBulk d + uptoBulkAll r
def uptoBulkEntries {H : Type} : List (Lit × DataW H) → Nat
  | [] => 0
  | x :: r => uptoBulkEntry x + uptoBulkEntries r
def uptoBulkEntry {H : Type} : Lit × DataW H → Nat
  | (.string bytes, d) => bytes.length + uptoBulk d + 1
  | (_, d) => uptoBulk d + 1
 end
def uptoSmall : (H : Type) → List (DataW H) → Bool := fun _ ds => decide (uptoBulkAll ds ≤ 1048576)
def OpenSpec.upto (s : _root_.Go.ChangeSpec) : _root_.Go.OpenSpec := { _root_.Go.OpenSpec.ofChange s with cond := some uptoSmall }

/-- 'leapfroglaw02.SpanChecks', WHERE WHAT IT READS IS OF BULK AT MOST 1048576: true; the input reads as it did. -/
def spanChecksUptoRow : OpenClaim := { program := "ytdhinclpmmpkhaa", sum := "3de30acb8743a2d5a045e5dc3bf3f8617b9e8030806fd20a375d0dc07a52f900", func := "leapfrog/leapfroglaw02.SpanChecks", spec := "spanChecks", apart := false, narrowed := true }
def SpanChecksUptoSaid : Prop := spanChecksUptoRow.holds Try.pinned (OpenSpec.upto spanChecksSpec)

/-- 'leapfroglaw02.SpanPairs', WHERE WHAT IT READS IS OF BULK AT MOST 1048576: true; the input reads as it did. -/
def spanPairsUptoRow : OpenClaim := { program := "ytdhinclpmmpkhaa", sum := "3de30acb8743a2d5a045e5dc3bf3f8617b9e8030806fd20a375d0dc07a52f900", func := "leapfrog/leapfroglaw02.SpanPairs", spec := "spanPairs", apart := false, narrowed := true }
def SpanPairsUptoSaid : Prop := spanPairsUptoRow.holds Try.pinned (OpenSpec.upto spanPairsSpec)

/-- 'leapfroglaw02.SpanNormalizes', WHERE WHAT IT READS IS OF BULK AT MOST 1048576: true; the input reads as it did. -/
def spanNormalizesUptoRow : OpenClaim := { program := "ytdhinclpmmpkhaa", sum := "3de30acb8743a2d5a045e5dc3bf3f8617b9e8030806fd20a375d0dc07a52f900", func := "leapfrog/leapfroglaw02.SpanNormalizes", spec := "spanNormalizes", unfollowed := true, recurses := true, apart := false, narrowed := true }
def SpanNormalizesUptoSaid : Prop := spanNormalizesUptoRow.holds Try.pinned (OpenSpec.upto spanNormalizesSpec)

/-- 'leapfroglaw02.SpanKeys', WHERE WHAT IT READS IS OF BULK AT MOST 1048576: true; the input reads as it did. -/
def spanKeysUptoRow : OpenClaim := { program := "ytdhinclpmmpkhaa", sum := "3de30acb8743a2d5a045e5dc3bf3f8617b9e8030806fd20a375d0dc07a52f900", func := "leapfrog/leapfroglaw02.SpanKeys", spec := "spanKeys", unfollowed := true, recurses := true, apart := false, narrowed := true }
def SpanKeysUptoSaid : Prop := spanKeysUptoRow.holds Try.pinned (OpenSpec.upto spanKeysSpec)

/-- 'leapfroglaw02.SpanCovers', WHERE WHAT IT READS IS OF BULK AT MOST 1048576: true; the input reads as it did. -/
def spanCoversUptoRow : OpenClaim := { program := "ytdhinclpmmpkhaa", sum := "3de30acb8743a2d5a045e5dc3bf3f8617b9e8030806fd20a375d0dc07a52f900", func := "leapfrog/leapfroglaw02.SpanCovers", spec := "spanCovers", unfollowed := true, recurses := true, apart := false, narrowed := true }
def SpanCoversUptoSaid : Prop := spanCoversUptoRow.holds Try.pinned (OpenSpec.upto spanCoversSpec)

/-- 'leapfroglaw02.SpanShifts', WHERE WHAT IT READS IS OF BULK AT MOST 1048576: true; the input reads as it did. -/
def spanShiftsUptoRow : OpenClaim := { program := "ytdhinclpmmpkhaa", sum := "3de30acb8743a2d5a045e5dc3bf3f8617b9e8030806fd20a375d0dc07a52f900", func := "leapfrog/leapfroglaw02.SpanShifts", spec := "spanShifts", unfollowed := true, recurses := true, apart := false, narrowed := true }
def SpanShiftsUptoSaid : Prop := spanShiftsUptoRow.holds Try.pinned (OpenSpec.upto spanShiftsSpec)

/-- 'leapfroglaw02.SpanSizes', WHERE WHAT IT READS IS OF BULK AT MOST 1048576: true; the input reads as it did. -/
def spanSizesUptoRow : OpenClaim := { program := "ytdhinclpmmpkhaa", sum := "3de30acb8743a2d5a045e5dc3bf3f8617b9e8030806fd20a375d0dc07a52f900", func := "leapfrog/leapfroglaw02.SpanSizes", spec := "spanSizes", unfollowed := true, recurses := true, apart := false, narrowed := true }
def SpanSizesUptoSaid : Prop := spanSizesUptoRow.holds Try.pinned (OpenSpec.upto spanSizesSpec)

/-- 'leapfroglaw02.SpanContains', WHERE WHAT IT READS IS OF BULK AT MOST 1048576: true; the input reads as it did. -/
def spanContainsUptoRow : OpenClaim := { program := "ytdhinclpmmpkhaa", sum := "3de30acb8743a2d5a045e5dc3bf3f8617b9e8030806fd20a375d0dc07a52f900", func := "leapfrog/leapfroglaw02.SpanContains", spec := "spanContains", unfollowed := true, recurses := true, apart := false, narrowed := true }
def SpanContainsUptoSaid : Prop := spanContainsUptoRow.holds Try.pinned (OpenSpec.upto spanContainsSpec)

/-- 'leapfroglaw02.SpanExamples', WHERE WHAT IT READS IS OF BULK AT MOST 1048576: true; the input reads as it did. -/
def spanExamplesUptoRow : OpenClaim := { program := "ytdhinclpmmpkhaa", sum := "3de30acb8743a2d5a045e5dc3bf3f8617b9e8030806fd20a375d0dc07a52f900", func := "leapfrog/leapfroglaw02.SpanExamples", spec := "spanExamples", unfollowed := true, recurses := true, apart := false, narrowed := true }
def SpanExamplesUptoSaid : Prop := spanExamplesUptoRow.holds Try.pinned (OpenSpec.upto spanExamplesSpec)

end Rows
end Go.Proofs.Ytdhinclpmmpkhaa
