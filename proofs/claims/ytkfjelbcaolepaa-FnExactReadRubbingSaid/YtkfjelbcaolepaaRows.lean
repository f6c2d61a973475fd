/-
  No cell of these rows narrows 'for every input' (looked for: loops, veiled, ifaces, maps, wideKeys, modest, calm, conditions, laid).
  DERIVED. THE GIVEN ROWS OF THIS SEAT. 14 by the template 'for every input the law returns true; each argument reads behind the call as it read before'; 0 by the template 'total and deterministic' (their statements: YtkfjelbcaolepaaTotals.lean).
  GIVEN WITH THE SEED: the statements are not yours to turn. If you find one false, say at which input.
  Laid BY PROGRAM, IN A SANDBOX (cutbox-rows.mjs): the forced cells as the released guide's own fill.sh prints them over the translation 69ea893c88307bec… (all of the seat's roots in one cut). By AI agents, Wed Nov 11 2026. No macro, syntax, notation, axiom, sorry.
-/
import Derived.Test.YtkfjelbcaolepaaChecked
import GoSem.Claim
import GoSem.ClaimJoined
import GoSem.ClaimMapViews
import Derived.JoinedTies
import Derived.KernelRfl
namespace Go.Proofs.Ytkfjelbcaolepaa
/- THE CELL 'sum', in the pinned program and in every row, IS THE sha256 OF THE DUMP (.gsa) THAT YtkfjelbcaolepaaProg.lean LOADS. Nothing in Lean hashes anything: it is a label: what it is worth is what the hold of that sum in a sandbox is worth. -/
noncomputable def Try.pinned : Pinned := { name := "ytkfjelbcaolepaa", sum := "69ea893c88307bec161df9cb232770f988902181c0033d40e1d936aa527d8d7d", checked := Try.checked }
namespace Rows
def none {H : Type} : Left H := { results := [], args := [] }

/-- 'laws.FnExactRubbingText': WHATEVER THE INPUT: true; the input reads as it did. -/
def fnExactRubbingTextSpec : ChangeSpec := { name := "fnExactRubbingText", fn := fun _ => fun
  | [d] => { results := [.lit (.bool true)], args := [d] }
  | _ => none }
def fnExactRubbingTextRow : OpenClaim := { program := "ytkfjelbcaolepaa", sum := "69ea893c88307bec161df9cb232770f988902181c0033d40e1d936aa527d8d7d", func := "loop.example/g01398/laws.FnExactRubbingText", spec := "fnExactRubbingText", apart := false }
def FnExactRubbingTextSaid : Prop := fnExactRubbingTextRow.holds Try.pinned (OpenSpec.ofChange fnExactRubbingTextSpec)

/-- ITS FALSE NEIGHBOUR: 'it returns false'. Refute it at one input. -/
def fnExactRubbingTextWrong : ChangeSpec := { name := "fnExactRubbingText", fn := fun _ => fun
  | [d] => { results := [.lit (.bool false)], args := [d] }
  | _ => none }
def FnExactRubbingTextWrongFalsely : Prop := fnExactRubbingTextRow.holds Try.pinned (OpenSpec.ofChange fnExactRubbingTextWrong)

/-- 'laws.FnExactMirrorRubbing': WHATEVER THE INPUT: true; the input reads as it did. -/
def fnExactMirrorRubbingSpec : ChangeSpec := { name := "fnExactMirrorRubbing", fn := fun _ => fun
  | [d] => { results := [.lit (.bool true)], args := [d] }
  | _ => none }
def fnExactMirrorRubbingRow : OpenClaim := { program := "ytkfjelbcaolepaa", sum := "69ea893c88307bec161df9cb232770f988902181c0033d40e1d936aa527d8d7d", func := "loop.example/g01398/laws.FnExactMirrorRubbing", spec := "fnExactMirrorRubbing", apart := false }
def FnExactMirrorRubbingSaid : Prop := fnExactMirrorRubbingRow.holds Try.pinned (OpenSpec.ofChange fnExactMirrorRubbingSpec)

/-- ITS FALSE NEIGHBOUR: 'it returns false'. Refute it at one input. -/
def fnExactMirrorRubbingWrong : ChangeSpec := { name := "fnExactMirrorRubbing", fn := fun _ => fun
  | [d] => { results := [.lit (.bool false)], args := [d] }
  | _ => none }
def FnExactMirrorRubbingWrongFalsely : Prop := fnExactMirrorRubbingRow.holds Try.pinned (OpenSpec.ofChange fnExactMirrorRubbingWrong)

/-- 'laws.FnExactMayBeWorn': WHATEVER THE INPUT: true; the input reads as it did. -/
def fnExactMayBeWornSpec : ChangeSpec := { name := "fnExactMayBeWorn", fn := fun _ => fun
  | [d1, d2] => { results := [.lit (.bool true)], args := [d1, d2] }
  | _ => none }
def fnExactMayBeWornRow : OpenClaim := { program := "ytkfjelbcaolepaa", sum := "69ea893c88307bec161df9cb232770f988902181c0033d40e1d936aa527d8d7d", func := "loop.example/g01398/laws.FnExactMayBeWorn", spec := "fnExactMayBeWorn", apart := false }
def FnExactMayBeWornSaid : Prop := fnExactMayBeWornRow.holds Try.pinned (OpenSpec.ofChange fnExactMayBeWornSpec)

/-- ITS FALSE NEIGHBOUR: 'it returns false'. Refute it at one input. -/
def fnExactMayBeWornWrong : ChangeSpec := { name := "fnExactMayBeWorn", fn := fun _ => fun
  | [d1, d2] => { results := [.lit (.bool false)], args := [d1, d2] }
  | _ => none }
def FnExactMayBeWornWrongFalsely : Prop := fnExactMayBeWornRow.holds Try.pinned (OpenSpec.ofChange fnExactMayBeWornWrong)

/-- 'laws.FnExactCountDark': WHATEVER THE INPUT: true; the input reads as it did. -/
def fnExactCountDarkSpec : ChangeSpec := { name := "fnExactCountDark", fn := fun _ => fun
  | [d] => { results := [.lit (.bool true)], args := [d] }
  | _ => none }
def fnExactCountDarkRow : OpenClaim := { program := "ytkfjelbcaolepaa", sum := "69ea893c88307bec161df9cb232770f988902181c0033d40e1d936aa527d8d7d", func := "loop.example/g01398/laws.FnExactCountDark", spec := "fnExactCountDark", apart := false }
def FnExactCountDarkSaid : Prop := fnExactCountDarkRow.holds Try.pinned (OpenSpec.ofChange fnExactCountDarkSpec)

/-- ITS FALSE NEIGHBOUR: 'it returns false'. Refute it at one input. -/
def fnExactCountDarkWrong : ChangeSpec := { name := "fnExactCountDark", fn := fun _ => fun
  | [d] => { results := [.lit (.bool false)], args := [d] }
  | _ => none }
def FnExactCountDarkWrongFalsely : Prop := fnExactCountDarkRow.holds Try.pinned (OpenSpec.ofChange fnExactCountDarkWrong)

/-- 'laws.FnExactMatchOf': WHATEVER THE INPUT: true; the input reads as it did. -/
def fnExactMatchOfSpec : ChangeSpec := { name := "fnExactMatchOf", fn := fun _ => fun
  | [d1, d2] => { results := [.lit (.bool true)], args := [d1, d2] }
  | _ => none }
def fnExactMatchOfRow : OpenClaim := { program := "ytkfjelbcaolepaa", sum := "69ea893c88307bec161df9cb232770f988902181c0033d40e1d936aa527d8d7d", func := "loop.example/g01398/laws.FnExactMatchOf", spec := "fnExactMatchOf", apart := false }
def FnExactMatchOfSaid : Prop := fnExactMatchOfRow.holds Try.pinned (OpenSpec.ofChange fnExactMatchOfSpec)

/-- ITS FALSE NEIGHBOUR: 'it returns false'. Refute it at one input. -/
def fnExactMatchOfWrong : ChangeSpec := { name := "fnExactMatchOf", fn := fun _ => fun
  | [d1, d2] => { results := [.lit (.bool false)], args := [d1, d2] }
  | _ => none }
def FnExactMatchOfWrongFalsely : Prop := fnExactMatchOfRow.holds Try.pinned (OpenSpec.ofChange fnExactMatchOfWrong)

/-- 'laws.FnExactMoveRubbing': WHATEVER THE INPUT: true; the input reads as it did. -/
def fnExactMoveRubbingSpec : ChangeSpec := { name := "fnExactMoveRubbing", fn := fun _ => fun
  | [d1, d2, d3] => { results := [.lit (.bool true)], args := [d1, d2, d3] }
  | _ => none }
def fnExactMoveRubbingRow : OpenClaim := { program := "ytkfjelbcaolepaa", sum := "69ea893c88307bec161df9cb232770f988902181c0033d40e1d936aa527d8d7d", func := "loop.example/g01398/laws.FnExactMoveRubbing", spec := "fnExactMoveRubbing", apart := false }
def FnExactMoveRubbingSaid : Prop := fnExactMoveRubbingRow.holds Try.pinned (OpenSpec.ofChange fnExactMoveRubbingSpec)

/-- ITS FALSE NEIGHBOUR: 'it returns false'. Refute it at one input. -/
def fnExactMoveRubbingWrong : ChangeSpec := { name := "fnExactMoveRubbing", fn := fun _ => fun
  | [d1, d2, d3] => { results := [.lit (.bool false)], args := [d1, d2, d3] }
  | _ => none }
def FnExactMoveRubbingWrongFalsely : Prop := fnExactMoveRubbingRow.holds Try.pinned (OpenSpec.ofChange fnExactMoveRubbingWrong)

/-- 'laws.FnExactReadRubbing': WHATEVER THE INPUT: true; the input reads as it did. -/
def fnExactReadRubbingSpec : ChangeSpec := { name := "fnExactReadRubbing", fn := fun _ => fun
  | [d] => { results := [.lit (.bool true)], args := [d] }
  | _ => none }
def fnExactReadRubbingRow : OpenClaim := { program := "ytkfjelbcaolepaa", sum := "69ea893c88307bec161df9cb232770f988902181c0033d40e1d936aa527d8d7d", func := "loop.example/g01398/laws.FnExactReadRubbing", spec := "fnExactReadRubbing", apart := false }
def FnExactReadRubbingSaid : Prop := fnExactReadRubbingRow.holds Try.pinned (OpenSpec.ofChange fnExactReadRubbingSpec)

/-- ITS FALSE NEIGHBOUR: 'it returns false'. Refute it at one input. -/
def fnExactReadRubbingWrong : ChangeSpec := { name := "fnExactReadRubbing", fn := fun _ => fun
  | [d] => { results := [.lit (.bool false)], args := [d] }
  | _ => none }
def FnExactReadRubbingWrongFalsely : Prop := fnExactReadRubbingRow.holds Try.pinned (OpenSpec.ofChange fnExactReadRubbingWrong)

/-- 'laws.FnExactDarkRows': WHATEVER THE INPUT: true; the input reads as it did. -/
def fnExactDarkRowsSpec : ChangeSpec := { name := "fnExactDarkRows", fn := fun _ => fun
  | [d] => { results := [.lit (.bool true)], args := [d] }
  | _ => none }
def fnExactDarkRowsRow : OpenClaim := { program := "ytkfjelbcaolepaa", sum := "69ea893c88307bec161df9cb232770f988902181c0033d40e1d936aa527d8d7d", func := "loop.example/g01398/laws.FnExactDarkRows", spec := "fnExactDarkRows", apart := false }
def FnExactDarkRowsSaid : Prop := fnExactDarkRowsRow.holds Try.pinned (OpenSpec.ofChange fnExactDarkRowsSpec)

/-- ITS FALSE NEIGHBOUR: 'it returns false'. Refute it at one input. -/
def fnExactDarkRowsWrong : ChangeSpec := { name := "fnExactDarkRows", fn := fun _ => fun
  | [d] => { results := [.lit (.bool false)], args := [d] }
  | _ => none }
def FnExactDarkRowsWrongFalsely : Prop := fnExactDarkRowsRow.holds Try.pinned (OpenSpec.ofChange fnExactDarkRowsWrong)

/-- 'laws.FnExactWearOnce': WHATEVER THE INPUT: true; the input reads as it did. -/
def fnExactWearOnceSpec : ChangeSpec := { name := "fnExactWearOnce", fn := fun _ => fun
  | [d1, d2] => { results := [.lit (.bool true)], args := [d1, d2] }
  | _ => none }
def fnExactWearOnceRow : OpenClaim := { program := "ytkfjelbcaolepaa", sum := "69ea893c88307bec161df9cb232770f988902181c0033d40e1d936aa527d8d7d", func := "loop.example/g01398/laws.FnExactWearOnce", spec := "fnExactWearOnce", apart := false }
def FnExactWearOnceSaid : Prop := fnExactWearOnceRow.holds Try.pinned (OpenSpec.ofChange fnExactWearOnceSpec)

/-- ITS FALSE NEIGHBOUR: 'it returns false'. Refute it at one input. -/
def fnExactWearOnceWrong : ChangeSpec := { name := "fnExactWearOnce", fn := fun _ => fun
  | [d1, d2] => { results := [.lit (.bool false)], args := [d1, d2] }
  | _ => none }
def FnExactWearOnceWrongFalsely : Prop := fnExactWearOnceRow.holds Try.pinned (OpenSpec.ofChange fnExactWearOnceWrong)

/-- 'laws.FnExactJoinRubbings': WHATEVER THE INPUT: true; the input reads as it did. -/
def fnExactJoinRubbingsSpec : ChangeSpec := { name := "fnExactJoinRubbings", fn := fun _ => fun
  | [d] => { results := [.lit (.bool true)], args := [d] }
  | _ => none }
def fnExactJoinRubbingsRow : OpenClaim := { program := "ytkfjelbcaolepaa", sum := "69ea893c88307bec161df9cb232770f988902181c0033d40e1d936aa527d8d7d", func := "loop.example/g01398/laws.FnExactJoinRubbings", spec := "fnExactJoinRubbings", apart := false }
def FnExactJoinRubbingsSaid : Prop := fnExactJoinRubbingsRow.holds Try.pinned (OpenSpec.ofChange fnExactJoinRubbingsSpec)

/-- ITS FALSE NEIGHBOUR: 'it returns false'. Refute it at one input. -/
def fnExactJoinRubbingsWrong : ChangeSpec := { name := "fnExactJoinRubbings", fn := fun _ => fun
  | [d] => { results := [.lit (.bool false)], args := [d] }
  | _ => none }
def FnExactJoinRubbingsWrongFalsely : Prop := fnExactJoinRubbingsRow.holds Try.pinned (OpenSpec.ofChange fnExactJoinRubbingsWrong)

/-- 'laws.FnExactSureDark': WHATEVER THE INPUT: true; the input reads as it did. -/
def fnExactSureDarkSpec : ChangeSpec := { name := "fnExactSureDark", fn := fun _ => fun
  | [d1, d2] => { results := [.lit (.bool true)], args := [d1, d2] }
  | _ => none }
def fnExactSureDarkRow : OpenClaim := { program := "ytkfjelbcaolepaa", sum := "69ea893c88307bec161df9cb232770f988902181c0033d40e1d936aa527d8d7d", func := "loop.example/g01398/laws.FnExactSureDark", spec := "fnExactSureDark", apart := false }
def FnExactSureDarkSaid : Prop := fnExactSureDarkRow.holds Try.pinned (OpenSpec.ofChange fnExactSureDarkSpec)

/-- ITS FALSE NEIGHBOUR: 'it returns false'. Refute it at one input. -/
def fnExactSureDarkWrong : ChangeSpec := { name := "fnExactSureDark", fn := fun _ => fun
  | [d1, d2] => { results := [.lit (.bool false)], args := [d1, d2] }
  | _ => none }
def FnExactSureDarkWrongFalsely : Prop := fnExactSureDarkRow.holds Try.pinned (OpenSpec.ofChange fnExactSureDarkWrong)

/-- 'laws.FnExactMatchAt': WHATEVER THE INPUT: true; the input reads as it did. -/
def fnExactMatchAtSpec : ChangeSpec := { name := "fnExactMatchAt", fn := fun _ => fun
  | [d1, d2, d3, d4] => { results := [.lit (.bool true)], args := [d1, d2, d3, d4] }
  | _ => none }
def fnExactMatchAtRow : OpenClaim := { program := "ytkfjelbcaolepaa", sum := "69ea893c88307bec161df9cb232770f988902181c0033d40e1d936aa527d8d7d", func := "loop.example/g01398/laws.FnExactMatchAt", spec := "fnExactMatchAt", apart := false }
def FnExactMatchAtSaid : Prop := fnExactMatchAtRow.holds Try.pinned (OpenSpec.ofChange fnExactMatchAtSpec)

/-- ITS FALSE NEIGHBOUR: 'it returns false'. Refute it at one input. -/
def fnExactMatchAtWrong : ChangeSpec := { name := "fnExactMatchAt", fn := fun _ => fun
  | [d1, d2, d3, d4] => { results := [.lit (.bool false)], args := [d1, d2, d3, d4] }
  | _ => none }
def FnExactMatchAtWrongFalsely : Prop := fnExactMatchAtRow.holds Try.pinned (OpenSpec.ofChange fnExactMatchAtWrong)

/-- 'laws.FnExactBestMove': WHATEVER THE INPUT: true; the input reads as it did. -/
def fnExactBestMoveSpec : ChangeSpec := { name := "fnExactBestMove", fn := fun _ => fun
  | [d1, d2] => { results := [.lit (.bool true)], args := [d1, d2] }
  | _ => none }
def fnExactBestMoveRow : OpenClaim := { program := "ytkfjelbcaolepaa", sum := "69ea893c88307bec161df9cb232770f988902181c0033d40e1d936aa527d8d7d", func := "loop.example/g01398/laws.FnExactBestMove", spec := "fnExactBestMove", apart := false }
def FnExactBestMoveSaid : Prop := fnExactBestMoveRow.holds Try.pinned (OpenSpec.ofChange fnExactBestMoveSpec)

/-- ITS FALSE NEIGHBOUR: 'it returns false'. Refute it at one input. -/
def fnExactBestMoveWrong : ChangeSpec := { name := "fnExactBestMove", fn := fun _ => fun
  | [d1, d2] => { results := [.lit (.bool false)], args := [d1, d2] }
  | _ => none }
def FnExactBestMoveWrongFalsely : Prop := fnExactBestMoveRow.holds Try.pinned (OpenSpec.ofChange fnExactBestMoveWrong)

/-- 'laws.FnExactWearUntil': WHATEVER THE INPUT: true; the input reads as it did. -/
def fnExactWearUntilSpec : ChangeSpec := { name := "fnExactWearUntil", fn := fun _ => fun
  | [d1, d2, d3] => { results := [.lit (.bool true)], args := [d1, d2, d3] }
  | _ => none }
def fnExactWearUntilRow : OpenClaim := { program := "ytkfjelbcaolepaa", sum := "69ea893c88307bec161df9cb232770f988902181c0033d40e1d936aa527d8d7d", func := "loop.example/g01398/laws.FnExactWearUntil", spec := "fnExactWearUntil", apart := false }
def FnExactWearUntilSaid : Prop := fnExactWearUntilRow.holds Try.pinned (OpenSpec.ofChange fnExactWearUntilSpec)

/-- ITS FALSE NEIGHBOUR: 'it returns false'. Refute it at one input. -/
def fnExactWearUntilWrong : ChangeSpec := { name := "fnExactWearUntil", fn := fun _ => fun
  | [d1, d2, d3] => { results := [.lit (.bool false)], args := [d1, d2, d3] }
  | _ => none }
def FnExactWearUntilWrongFalsely : Prop := fnExactWearUntilRow.holds Try.pinned (OpenSpec.ofChange fnExactWearUntilWrong)

/- THE SECOND FORM. 'bulk': how many values and letters a reading holds, each counted each time it is reached (what is shared counts as often as it is met; a slice's spare places count too). A statement '..UptoSaid' is the law's where the arguments, and the package variables that the reading takes, are together of bulk at most 1048576: NARROWER than '..Said'. Prove '..Said' where nothing that the law and all that it calls make is longer than what came in: it says more and counts as full. Else prove '..UptoSaid'. A law counts once. -/
mutual
def uptoBulk {H : Type} : DataW H → Nat
  | .lit (.string bytes) => bytes.length + 1
  | .lit _ => 1
  | .nil => 1
  | .ptr d => uptoBulk d + 1
  | .slice elems spare => uptoBulkAll elems + uptoBulkAll spare + 1
  | .agg parts => uptoBulkAll parts + 1
  | .iface _ d => uptoBulk d + 1
  | .map entries => uptoBulkEntries entries + 1
  | .held _ => 1
def uptoBulkAll {H : Type} : List (DataW H) → Nat
  | [] => 0
  | d :: r => uptoBulk d + uptoBulkAll r
def uptoBulkEntries {H : Type} : List (Lit × DataW H) → Nat
  | [] => 0
  | x :: r => uptoBulkEntry x + uptoBulkEntries r
def uptoBulkEntry {H : Type} : Lit × DataW H → Nat
  | (.string bytes, d) => bytes.length + uptoBulk d + 1
  | (_, d) => uptoBulk d + 1
 end
def uptoSmall : (H : Type) → List (DataW H) → Bool := fun _ ds => decide (uptoBulkAll ds ≤ 1048576)
def OpenSpec.upto (s : _root_.Go.ChangeSpec) : _root_.Go.OpenSpec := { _root_.Go.OpenSpec.ofChange s with cond := some uptoSmall }

/-- 'laws.FnExactRubbingText', WHERE WHAT IT READS IS OF BULK AT MOST 1048576: true; the input reads as it did. -/
def fnExactRubbingTextUptoRow : OpenClaim := { program := "ytkfjelbcaolepaa", sum := "69ea893c88307bec161df9cb232770f988902181c0033d40e1d936aa527d8d7d", func := "loop.example/g01398/laws.FnExactRubbingText", spec := "fnExactRubbingText", apart := false, narrowed := true }
def FnExactRubbingTextUptoSaid : Prop := fnExactRubbingTextUptoRow.holds Try.pinned (OpenSpec.upto fnExactRubbingTextSpec)

/-- 'laws.FnExactMirrorRubbing', WHERE WHAT IT READS IS OF BULK AT MOST 1048576: true; the input reads as it did. -/
def fnExactMirrorRubbingUptoRow : OpenClaim := { program := "ytkfjelbcaolepaa", sum := "69ea893c88307bec161df9cb232770f988902181c0033d40e1d936aa527d8d7d", func := "loop.example/g01398/laws.FnExactMirrorRubbing", spec := "fnExactMirrorRubbing", apart := false, narrowed := true }
def FnExactMirrorRubbingUptoSaid : Prop := fnExactMirrorRubbingUptoRow.holds Try.pinned (OpenSpec.upto fnExactMirrorRubbingSpec)

/-- 'laws.FnExactMayBeWorn', WHERE WHAT IT READS IS OF BULK AT MOST 1048576: true; the input reads as it did. -/
def fnExactMayBeWornUptoRow : OpenClaim := { program := "ytkfjelbcaolepaa", sum := "69ea893c88307bec161df9cb232770f988902181c0033d40e1d936aa527d8d7d", func := "loop.example/g01398/laws.FnExactMayBeWorn", spec := "fnExactMayBeWorn", apart := false, narrowed := true }
def FnExactMayBeWornUptoSaid : Prop := fnExactMayBeWornUptoRow.holds Try.pinned (OpenSpec.upto fnExactMayBeWornSpec)

/-- 'laws.FnExactCountDark', WHERE WHAT IT READS IS OF BULK AT MOST 1048576: true; the input reads as it did. -/
def fnExactCountDarkUptoRow : OpenClaim := { program := "ytkfjelbcaolepaa", sum := "69ea893c88307bec161df9cb232770f988902181c0033d40e1d936aa527d8d7d", func := "loop.example/g01398/laws.FnExactCountDark", spec := "fnExactCountDark", apart := false, narrowed := true }
def FnExactCountDarkUptoSaid : Prop := fnExactCountDarkUptoRow.holds Try.pinned (OpenSpec.upto fnExactCountDarkSpec)

/-- 'laws.FnExactMatchOf', WHERE WHAT IT READS IS OF BULK AT MOST 1048576: true; the input reads as it did. -/
def fnExactMatchOfUptoRow : OpenClaim := { program := "ytkfjelbcaolepaa", sum := "69ea893c88307bec161df9cb232770f988902181c0033d40e1d936aa527d8d7d", func := "loop.example/g01398/laws.FnExactMatchOf", spec := "fnExactMatchOf", apart := false, narrowed := true }
def FnExactMatchOfUptoSaid : Prop := fnExactMatchOfUptoRow.holds Try.pinned (OpenSpec.upto fnExactMatchOfSpec)

/-- 'laws.FnExactMoveRubbing', WHERE WHAT IT READS IS OF BULK AT MOST 1048576: true; the input reads as it did. -/
def fnExactMoveRubbingUptoRow : OpenClaim := { program := "ytkfjelbcaolepaa", sum := "69ea893c88307bec161df9cb232770f988902181c0033d40e1d936aa527d8d7d", func := "loop.example/g01398/laws.FnExactMoveRubbing", spec := "fnExactMoveRubbing", apart := false, narrowed := true }
def FnExactMoveRubbingUptoSaid : Prop := fnExactMoveRubbingUptoRow.holds Try.pinned (OpenSpec.upto fnExactMoveRubbingSpec)

/-- 'laws.FnExactReadRubbing', WHERE WHAT IT READS IS OF BULK AT MOST 1048576: true; the input reads as it did. -/
def fnExactReadRubbingUptoRow : OpenClaim := { program := "ytkfjelbcaolepaa", sum := "69ea893c88307bec161df9cb232770f988902181c0033d40e1d936aa527d8d7d", func := "loop.example/g01398/laws.FnExactReadRubbing", spec := "fnExactReadRubbing", apart := false, narrowed := true }
def FnExactReadRubbingUptoSaid : Prop := fnExactReadRubbingUptoRow.holds Try.pinned (OpenSpec.upto fnExactReadRubbingSpec)

/-- 'laws.FnExactDarkRows', WHERE WHAT IT READS IS OF BULK AT MOST 1048576: true; the input reads as it did. -/
def fnExactDarkRowsUptoRow : OpenClaim := { program := "ytkfjelbcaolepaa", sum := "69ea893c88307bec161df9cb232770f988902181c0033d40e1d936aa527d8d7d", func := "loop.example/g01398/laws.FnExactDarkRows", spec := "fnExactDarkRows", apart := false, narrowed := true }
def FnExactDarkRowsUptoSaid : Prop := fnExactDarkRowsUptoRow.holds Try.pinned (OpenSpec.upto fnExactDarkRowsSpec)

/-- 'laws.FnExactWearOnce', WHERE WHAT IT READS IS OF BULK AT MOST 1048576: true; the input reads as it did. -/
def fnExactWearOnceUptoRow : OpenClaim := { program := "ytkfjelbcaolepaa", sum := "69ea893c88307bec161df9cb232770f988902181c0033d40e1d936aa527d8d7d", func := "loop.example/g01398/laws.FnExactWearOnce", spec := "fnExactWearOnce", apart := false, narrowed := true }
def FnExactWearOnceUptoSaid : Prop := fnExactWearOnceUptoRow.holds Try.pinned (OpenSpec.upto fnExactWearOnceSpec)

/-- 'laws.FnExactJoinRubbings', WHERE WHAT IT READS IS OF BULK AT MOST 1048576: true; the input reads as it did. -/
def fnExactJoinRubbingsUptoRow : OpenClaim := { program := "ytkfjelbcaolepaa", sum := "69ea893c88307bec161df9cb232770f988902181c0033d40e1d936aa527d8d7d", func := "loop.example/g01398/laws.FnExactJoinRubbings", spec := "fnExactJoinRubbings", apart := false, narrowed := true }
def FnExactJoinRubbingsUptoSaid : Prop := fnExactJoinRubbingsUptoRow.holds Try.pinned (OpenSpec.upto fnExactJoinRubbingsSpec)

/-- 'laws.FnExactSureDark', WHERE WHAT IT READS IS OF BULK AT MOST 1048576: true; the input reads as it did. -/
def fnExactSureDarkUptoRow : OpenClaim := { program := "ytkfjelbcaolepaa", sum := "69ea893c88307bec161df9cb232770f988902181c0033d40e1d936aa527d8d7d", func := "loop.example/g01398/laws.FnExactSureDark", spec := "fnExactSureDark", apart := false, narrowed := true }
def FnExactSureDarkUptoSaid : Prop := fnExactSureDarkUptoRow.holds Try.pinned (OpenSpec.upto fnExactSureDarkSpec)

/-- 'laws.FnExactMatchAt', WHERE WHAT IT READS IS OF BULK AT MOST 1048576: true; the input reads as it did. -/
def fnExactMatchAtUptoRow : OpenClaim := { program := "ytkfjelbcaolepaa", sum := "69ea893c88307bec161df9cb232770f988902181c0033d40e1d936aa527d8d7d", func := "loop.example/g01398/laws.FnExactMatchAt", spec := "fnExactMatchAt", apart := false, narrowed := true }
def FnExactMatchAtUptoSaid : Prop := fnExactMatchAtUptoRow.holds Try.pinned (OpenSpec.upto fnExactMatchAtSpec)

/-- 'laws.FnExactBestMove', WHERE WHAT IT READS IS OF BULK AT MOST 1048576: true; the input reads as it did. -/
def fnExactBestMoveUptoRow : OpenClaim := { program := "ytkfjelbcaolepaa", sum := "69ea893c88307bec161df9cb232770f988902181c0033d40e1d936aa527d8d7d", func := "loop.example/g01398/laws.FnExactBestMove", spec := "fnExactBestMove", apart := false, narrowed := true }
def FnExactBestMoveUptoSaid : Prop := fnExactBestMoveUptoRow.holds Try.pinned (OpenSpec.upto fnExactBestMoveSpec)

/-- 'laws.FnExactWearUntil', WHERE WHAT IT READS IS OF BULK AT MOST 1048576: true; the input reads as it did. -/
def fnExactWearUntilUptoRow : OpenClaim := { program := "ytkfjelbcaolepaa", sum := "69ea893c88307bec161df9cb232770f988902181c0033d40e1d936aa527d8d7d", func := "loop.example/g01398/laws.FnExactWearUntil", spec := "fnExactWearUntil", apart := false, narrowed := true }
def FnExactWearUntilUptoSaid : Prop := fnExactWearUntilUptoRow.holds Try.pinned (OpenSpec.upto fnExactWearUntilSpec)

end Rows
end Go.Proofs.Ytkfjelbcaolepaa
