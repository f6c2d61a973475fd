/-
  NARROWER THAN 'FOR EVERY INPUT', by the rows' own cells (each row's printed sentence says how): FnExactNextSheets: laid · FnExactFirstSheets: laid · FnExactCheckSheets: laid · FnExactRestsOf: laid · FnExactFewestSheets: laid · FnExactKeptAt: laid · FnExactFillTwo: laid.
  DERIVED. THE GIVEN ROWS OF THIS SEAT. 7 by the template 'for every input the law returns true; each argument reads behind the call as it read before'; 0 by the template 'total and deterministic' (their statements: YtonnplaacebekaaDoorTotals.lean).
  GIVEN WITH THE SEED: the statements are not yours to turn. If you find one false, say at which input.
  Laid BY PROGRAM, IN A SANDBOX (cutbox-rows.mjs): the forced cells as the released guide's own fill.sh prints them over the translation d6e1f760000a46a4… (all of the seat's roots in one cut). By AI agents, Wed Nov 11 2026. No macro, syntax, notation, axiom, sorry.
-/
import Derived.Test.YtonnplaacebekaaDoorChecked
import GoSem.PinnedTables
import GoSem.Claim
import GoSem.ClaimJoined
import GoSem.ClaimMapViews
import Derived.JoinedTies
import Derived.KernelRfl
namespace Go.Proofs.YtonnplaacebekaaDoor
/- THE CELL 'sum', in the pinned program and in every row, IS THE sha256 OF THE DUMP (.gsa) THAT YtonnplaacebekaaDoorProg.lean LOADS. Nothing in Lean hashes anything: it is a label: what it is worth is what the hold of that sum in a sandbox is worth. -/
noncomputable def Tryd.pinned : Pinned := { name := "ytonnplaacebekaadoor", sum := "d6e1f760000a46a46c5e1f339cf33629b322378386033249ed3307ad4ce0ec75", checked := Tryd.checked }
namespace Rows
def none {H : Type} : Left H := { results := [], args := [] }

/- WHAT THE LISTED PACKAGE-LEVEL VARIABLES READ AS WHEN THE CALL BEGINS. Each datum BY PROGRAM (the guide's laid-datum.mjs) off the statement by which the dump's own 'gosem.cut.vars' lays the variable. In a bare row this is a premise. The card (YtonnplaacebekaaDoorCards.lean) ties it to the program's text. -/
def laid_unicode_utf8_acceptRanges {H : Type} : DataW H := .agg [.agg [.lit (.int .u8 128), .lit (.int .u8 191)], .agg [.lit (.int .u8 160), .lit (.int .u8 191)], .agg [.lit (.int .u8 128), .lit (.int .u8 159)], .agg [.lit (.int .u8 144), .lit (.int .u8 191)], .agg [.lit (.int .u8 128), .lit (.int .u8 143)], .agg [.lit (.int .u8 0), .lit (.int .u8 0)], .agg [.lit (.int .u8 0), .lit (.int .u8 0)], .agg [.lit (.int .u8 0), .lit (.int .u8 0)], .agg [.lit (.int .u8 0), .lit (.int .u8 0)], .agg [.lit (.int .u8 0), .lit (.int .u8 0)], .agg [.lit (.int .u8 0), .lit (.int .u8 0)], .agg [.lit (.int .u8 0), .lit (.int .u8 0)], .agg [.lit (.int .u8 0), .lit (.int .u8 0)], .agg [.lit (.int .u8 0), .lit (.int .u8 0)], .agg [.lit (.int .u8 0), .lit (.int .u8 0)], .agg [.lit (.int .u8 0), .lit (.int .u8 0)]]
/-- One of Go's own tables, pinned by name: the form's constant. -/
def laid_unicode_utf8_first : DataW Unit := Go.Pinned.utf8First

/-- 'laws.FnExactNextSheets': WHATEVER THE INPUT: true; the input reads as it did. -/
def fnExactNextSheetsSpec : ChangeSpec := { name := "fnExactNextSheets", fn := fun _ => fun
  | [d1, d2, d3] => { results := [.lit (.bool true)], args := [d1, d2, d3] }
  | _ => none }
def fnExactNextSheetsRow : OpenClaim := { program := "ytonnplaacebekaadoor", sum := "d6e1f760000a46a46c5e1f339cf33629b322378386033249ed3307ad4ce0ec75", func := "loop.example/g01398/laws.FnExactNextSheets", spec := "fnExactNextSheets", inPlace := ["internal/bytealg.IndexByteString", "internal/bytealg.IndexString", "internal/bytealg.CountString", "internal/abi.NoEscape", "internal/bytealg.MakeNoZero"], unfollowed := true, recurses := true, named := ["internal/bytealg.MaxLen", "unicode/utf8.first", "unicode/utf8.acceptRanges"], apart := false, laid := [("unicode/utf8.acceptRanges", laid_unicode_utf8_acceptRanges), ("unicode/utf8.first", laid_unicode_utf8_first)] }
def FnExactNextSheetsSaid : Prop := fnExactNextSheetsRow.holds Tryd.pinned (OpenSpec.ofChange fnExactNextSheetsSpec)

/-- ITS FALSE NEIGHBOUR: 'it returns false'. Refute it at one input. -/
def fnExactNextSheetsWrong : ChangeSpec := { name := "fnExactNextSheets", fn := fun _ => fun
  | [d1, d2, d3] => { results := [.lit (.bool false)], args := [d1, d2, d3] }
  | _ => none }
def FnExactNextSheetsWrongFalsely : Prop := fnExactNextSheetsRow.holds Tryd.pinned (OpenSpec.ofChange fnExactNextSheetsWrong)

/-- 'laws.FnExactFirstSheets': WHATEVER THE INPUT: true; the input reads as it did. -/
def fnExactFirstSheetsSpec : ChangeSpec := { name := "fnExactFirstSheets", fn := fun _ => fun
  | [d1, d2, d3] => { results := [.lit (.bool true)], args := [d1, d2, d3] }
  | _ => none }
def fnExactFirstSheetsRow : OpenClaim := { program := "ytonnplaacebekaadoor", sum := "d6e1f760000a46a46c5e1f339cf33629b322378386033249ed3307ad4ce0ec75", func := "loop.example/g01398/laws.FnExactFirstSheets", spec := "fnExactFirstSheets", inPlace := ["internal/bytealg.IndexByteString", "internal/bytealg.IndexString", "internal/bytealg.CountString", "internal/abi.NoEscape", "internal/bytealg.MakeNoZero"], unfollowed := true, recurses := true, named := ["internal/bytealg.MaxLen", "unicode/utf8.first", "unicode/utf8.acceptRanges"], apart := false, laid := [("unicode/utf8.acceptRanges", laid_unicode_utf8_acceptRanges), ("unicode/utf8.first", laid_unicode_utf8_first)] }
def FnExactFirstSheetsSaid : Prop := fnExactFirstSheetsRow.holds Tryd.pinned (OpenSpec.ofChange fnExactFirstSheetsSpec)

/-- ITS FALSE NEIGHBOUR: 'it returns false'. Refute it at one input. -/
def fnExactFirstSheetsWrong : ChangeSpec := { name := "fnExactFirstSheets", fn := fun _ => fun
  | [d1, d2, d3] => { results := [.lit (.bool false)], args := [d1, d2, d3] }
  | _ => none }
def FnExactFirstSheetsWrongFalsely : Prop := fnExactFirstSheetsRow.holds Tryd.pinned (OpenSpec.ofChange fnExactFirstSheetsWrong)

/-- 'laws.FnExactCheckSheets': WHATEVER THE INPUT: true; the input reads as it did. -/
def fnExactCheckSheetsSpec : ChangeSpec := { name := "fnExactCheckSheets", fn := fun _ => fun
  | [d1, d2, d3, d4] => { results := [.lit (.bool true)], args := [d1, d2, d3, d4] }
  | _ => none }
def fnExactCheckSheetsRow : OpenClaim := { program := "ytonnplaacebekaadoor", sum := "d6e1f760000a46a46c5e1f339cf33629b322378386033249ed3307ad4ce0ec75", func := "loop.example/g01398/laws.FnExactCheckSheets", spec := "fnExactCheckSheets", inPlace := ["internal/bytealg.IndexByteString", "internal/bytealg.IndexString", "internal/bytealg.CountString", "internal/abi.NoEscape", "internal/bytealg.MakeNoZero"], unfollowed := true, recurses := true, named := ["internal/bytealg.MaxLen", "unicode/utf8.first", "unicode/utf8.acceptRanges"], apart := false, laid := [("unicode/utf8.acceptRanges", laid_unicode_utf8_acceptRanges), ("unicode/utf8.first", laid_unicode_utf8_first)] }
def FnExactCheckSheetsSaid : Prop := fnExactCheckSheetsRow.holds Tryd.pinned (OpenSpec.ofChange fnExactCheckSheetsSpec)

/-- ITS FALSE NEIGHBOUR: 'it returns false'. Refute it at one input. -/
def fnExactCheckSheetsWrong : ChangeSpec := { name := "fnExactCheckSheets", fn := fun _ => fun
  | [d1, d2, d3, d4] => { results := [.lit (.bool false)], args := [d1, d2, d3, d4] }
  | _ => none }
def FnExactCheckSheetsWrongFalsely : Prop := fnExactCheckSheetsRow.holds Tryd.pinned (OpenSpec.ofChange fnExactCheckSheetsWrong)

/-- 'laws.FnExactRestsOf': WHATEVER THE INPUT: true; the input reads as it did. -/
def fnExactRestsOfSpec : ChangeSpec := { name := "fnExactRestsOf", fn := fun _ => fun
  | [d1, d2, d3, d4] => { results := [.lit (.bool true)], args := [d1, d2, d3, d4] }
  | _ => none }
def fnExactRestsOfRow : OpenClaim := { program := "ytonnplaacebekaadoor", sum := "d6e1f760000a46a46c5e1f339cf33629b322378386033249ed3307ad4ce0ec75", func := "loop.example/g01398/laws.FnExactRestsOf", spec := "fnExactRestsOf", inPlace := ["internal/bytealg.IndexByteString", "internal/bytealg.IndexString", "internal/bytealg.CountString", "internal/abi.NoEscape", "internal/bytealg.MakeNoZero"], unfollowed := true, recurses := true, named := ["internal/bytealg.MaxLen", "unicode/utf8.first", "unicode/utf8.acceptRanges"], apart := false, laid := [("unicode/utf8.acceptRanges", laid_unicode_utf8_acceptRanges), ("unicode/utf8.first", laid_unicode_utf8_first)] }
def FnExactRestsOfSaid : Prop := fnExactRestsOfRow.holds Tryd.pinned (OpenSpec.ofChange fnExactRestsOfSpec)

/-- ITS FALSE NEIGHBOUR: 'it returns false'. Refute it at one input. -/
def fnExactRestsOfWrong : ChangeSpec := { name := "fnExactRestsOf", fn := fun _ => fun
  | [d1, d2, d3, d4] => { results := [.lit (.bool false)], args := [d1, d2, d3, d4] }
  | _ => none }
def FnExactRestsOfWrongFalsely : Prop := fnExactRestsOfRow.holds Tryd.pinned (OpenSpec.ofChange fnExactRestsOfWrong)

/-- 'laws.FnExactFewestSheets': WHATEVER THE INPUT: true; the input reads as it did. -/
def fnExactFewestSheetsSpec : ChangeSpec := { name := "fnExactFewestSheets", fn := fun _ => fun
  | [d1, d2, d3] => { results := [.lit (.bool true)], args := [d1, d2, d3] }
  | _ => none }
def fnExactFewestSheetsRow : OpenClaim := { program := "ytonnplaacebekaadoor", sum := "d6e1f760000a46a46c5e1f339cf33629b322378386033249ed3307ad4ce0ec75", func := "loop.example/g01398/laws.FnExactFewestSheets", spec := "fnExactFewestSheets", inPlace := ["internal/bytealg.IndexByteString", "internal/bytealg.IndexString", "internal/bytealg.CountString", "internal/abi.NoEscape", "internal/bytealg.MakeNoZero"], unfollowed := true, recurses := true, named := ["internal/bytealg.MaxLen", "unicode/utf8.first", "unicode/utf8.acceptRanges"], apart := false, laid := [("unicode/utf8.acceptRanges", laid_unicode_utf8_acceptRanges), ("unicode/utf8.first", laid_unicode_utf8_first)] }
def FnExactFewestSheetsSaid : Prop := fnExactFewestSheetsRow.holds Tryd.pinned (OpenSpec.ofChange fnExactFewestSheetsSpec)

/-- ITS FALSE NEIGHBOUR: 'it returns false'. Refute it at one input. -/
def fnExactFewestSheetsWrong : ChangeSpec := { name := "fnExactFewestSheets", fn := fun _ => fun
  | [d1, d2, d3] => { results := [.lit (.bool false)], args := [d1, d2, d3] }
  | _ => none }
def FnExactFewestSheetsWrongFalsely : Prop := fnExactFewestSheetsRow.holds Tryd.pinned (OpenSpec.ofChange fnExactFewestSheetsWrong)

/-- 'laws.FnExactKeptAt': WHATEVER THE INPUT: true; the input reads as it did. -/
def fnExactKeptAtSpec : ChangeSpec := { name := "fnExactKeptAt", fn := fun _ => fun
  | [d1, d2, d3, d4] => { results := [.lit (.bool true)], args := [d1, d2, d3, d4] }
  | _ => none }
def fnExactKeptAtRow : OpenClaim := { program := "ytonnplaacebekaadoor", sum := "d6e1f760000a46a46c5e1f339cf33629b322378386033249ed3307ad4ce0ec75", func := "loop.example/g01398/laws.FnExactKeptAt", spec := "fnExactKeptAt", inPlace := ["internal/bytealg.IndexByteString", "internal/bytealg.IndexString", "internal/bytealg.CountString", "internal/abi.NoEscape", "internal/bytealg.MakeNoZero"], unfollowed := true, recurses := true, named := ["internal/bytealg.MaxLen", "unicode/utf8.first", "unicode/utf8.acceptRanges"], apart := false, laid := [("unicode/utf8.acceptRanges", laid_unicode_utf8_acceptRanges), ("unicode/utf8.first", laid_unicode_utf8_first)] }
def FnExactKeptAtSaid : Prop := fnExactKeptAtRow.holds Tryd.pinned (OpenSpec.ofChange fnExactKeptAtSpec)

/-- ITS FALSE NEIGHBOUR: 'it returns false'. Refute it at one input. -/
def fnExactKeptAtWrong : ChangeSpec := { name := "fnExactKeptAt", fn := fun _ => fun
  | [d1, d2, d3, d4] => { results := [.lit (.bool false)], args := [d1, d2, d3, d4] }
  | _ => none }
def FnExactKeptAtWrongFalsely : Prop := fnExactKeptAtRow.holds Tryd.pinned (OpenSpec.ofChange fnExactKeptAtWrong)

/-- 'laws.FnExactFillTwo': WHATEVER THE INPUT: true; the input reads as it did. -/
def fnExactFillTwoSpec : ChangeSpec := { name := "fnExactFillTwo", fn := fun _ => fun
  | [d1, d2, d3, d4, d5, d6] => { results := [.lit (.bool true)], args := [d1, d2, d3, d4, d5, d6] }
  | _ => none }
def fnExactFillTwoRow : OpenClaim := { program := "ytonnplaacebekaadoor", sum := "d6e1f760000a46a46c5e1f339cf33629b322378386033249ed3307ad4ce0ec75", func := "loop.example/g01398/laws.FnExactFillTwo", spec := "fnExactFillTwo", inPlace := ["internal/bytealg.IndexByteString", "internal/bytealg.IndexString"], unfollowed := true, recurses := true, named := ["internal/bytealg.MaxLen", "unicode/utf8.first", "unicode/utf8.acceptRanges"], apart := false, laid := [("unicode/utf8.acceptRanges", laid_unicode_utf8_acceptRanges), ("unicode/utf8.first", laid_unicode_utf8_first)] }
def FnExactFillTwoSaid : Prop := fnExactFillTwoRow.holds Tryd.pinned (OpenSpec.ofChange fnExactFillTwoSpec)

/-- ITS FALSE NEIGHBOUR: 'it returns false'. Refute it at one input. -/
def fnExactFillTwoWrong : ChangeSpec := { name := "fnExactFillTwo", fn := fun _ => fun
  | [d1, d2, d3, d4, d5, d6] => { results := [.lit (.bool false)], args := [d1, d2, d3, d4, d5, d6] }
  | _ => none }
def FnExactFillTwoWrongFalsely : Prop := fnExactFillTwoRow.holds Tryd.pinned (OpenSpec.ofChange fnExactFillTwoWrong)

/- THE SECOND FORM. 'bulk': how many values and letters a reading holds, each counted each time it is reached (what is shared counts as often as it is met; a slice's spare places count too). A statement '..UptoSaid' is the law's where the arguments, and the package variables that the reading takes, are together of bulk at most 1048576: NARROWER than '..Said'. Prove '..Said' where nothing that the law and all that it calls make is longer than what came in: it says more and counts as full. Else prove '..UptoSaid'. A law counts once. -/
mutual
def uptoBulk {H : Type} : DataW H → Nat
  | .lit (.string bytes) => bytes.length + 1
  | .lit _ => 1
  | .nil => 1
  | .ptr d => uptoBulk d + 1
  | .slice elems spare => uptoBulkAll elems + uptoBulkAll spare + 1
  | .agg parts => uptoBulkAll parts + 1
  | .iface _ d => uptoBulk d + 1
  | .map entries => uptoBulkEntries entries + 1
  | .held _ => 1
def uptoBulkAll {H : Type} : List (DataW H) → Nat
  | [] => 0
  | d :: r => uptoBulk d + uptoBulkAll r
def uptoBulkEntries {H : Type} : List (Lit × DataW H) → Nat
  | [] => 0
  | x :: r => uptoBulkEntry x + uptoBulkEntries r
def uptoBulkEntry {H : Type} : Lit × DataW H → Nat
  | (.string bytes, d) => bytes.length + uptoBulk d + 1
  | (_, d) => uptoBulk d + 1
 end
def uptoSmall : (H : Type) → List (DataW H) → Bool := fun _ ds => decide (uptoBulkAll ds ≤ 1048576)
def OpenSpec.upto (s : _root_.Go.ChangeSpec) : _root_.Go.OpenSpec := { _root_.Go.OpenSpec.ofChange s with cond := some uptoSmall }

/-- 'laws.FnExactNextSheets', WHERE WHAT IT READS IS OF BULK AT MOST 1048576: true; the input reads as it did. -/
def fnExactNextSheetsUptoRow : OpenClaim := { program := "ytonnplaacebekaadoor", sum := "d6e1f760000a46a46c5e1f339cf33629b322378386033249ed3307ad4ce0ec75", func := "loop.example/g01398/laws.FnExactNextSheets", spec := "fnExactNextSheets", inPlace := ["internal/bytealg.IndexByteString", "internal/bytealg.IndexString", "internal/bytealg.CountString", "internal/abi.NoEscape", "internal/bytealg.MakeNoZero"], unfollowed := true, recurses := true, named := ["internal/bytealg.MaxLen", "unicode/utf8.first", "unicode/utf8.acceptRanges"], apart := false, laid := [("unicode/utf8.acceptRanges", laid_unicode_utf8_acceptRanges), ("unicode/utf8.first", laid_unicode_utf8_first)], narrowed := true }
def FnExactNextSheetsUptoSaid : Prop := fnExactNextSheetsUptoRow.holds Tryd.pinned (OpenSpec.upto fnExactNextSheetsSpec)

/-- 'laws.FnExactFirstSheets', WHERE WHAT IT READS IS OF BULK AT MOST 1048576: true; the input reads as it did. -/
def fnExactFirstSheetsUptoRow : OpenClaim := { program := "ytonnplaacebekaadoor", sum := "d6e1f760000a46a46c5e1f339cf33629b322378386033249ed3307ad4ce0ec75", func := "loop.example/g01398/laws.FnExactFirstSheets", spec := "fnExactFirstSheets", inPlace := ["internal/bytealg.IndexByteString", "internal/bytealg.IndexString", "internal/bytealg.CountString", "internal/abi.NoEscape", "internal/bytealg.MakeNoZero"], unfollowed := true, recurses := true, named := ["internal/bytealg.MaxLen", "unicode/utf8.first", "unicode/utf8.acceptRanges"], apart := false, laid := [("unicode/utf8.acceptRanges", laid_unicode_utf8_acceptRanges), ("unicode/utf8.first", laid_unicode_utf8_first)], narrowed := true }
def FnExactFirstSheetsUptoSaid : Prop := fnExactFirstSheetsUptoRow.holds Tryd.pinned (OpenSpec.upto fnExactFirstSheetsSpec)

/-- 'laws.FnExactCheckSheets', WHERE WHAT IT READS IS OF BULK AT MOST 1048576: true; the input reads as it did. -/
def fnExactCheckSheetsUptoRow : OpenClaim := { program := "ytonnplaacebekaadoor", sum := "d6e1f760000a46a46c5e1f339cf33629b322378386033249ed3307ad4ce0ec75", func := "loop.example/g01398/laws.FnExactCheckSheets", spec := "fnExactCheckSheets", inPlace := ["internal/bytealg.IndexByteString", "internal/bytealg.IndexString", "internal/bytealg.CountString", "internal/abi.NoEscape", "internal/bytealg.MakeNoZero"], unfollowed := true, recurses := true, named := ["internal/bytealg.MaxLen", "unicode/utf8.first", "unicode/utf8.acceptRanges"], apart := false, laid := [("unicode/utf8.acceptRanges", laid_unicode_utf8_acceptRanges), ("unicode/utf8.first", laid_unicode_utf8_first)], narrowed := true }
def FnExactCheckSheetsUptoSaid : Prop := fnExactCheckSheetsUptoRow.holds Tryd.pinned (OpenSpec.upto fnExactCheckSheetsSpec)

/-- 'laws.FnExactRestsOf', WHERE WHAT IT READS IS OF BULK AT MOST 1048576: true; the input reads as it did. -/
def fnExactRestsOfUptoRow : OpenClaim := { program := "ytonnplaacebekaadoor", sum := "d6e1f760000a46a46c5e1f339cf33629b322378386033249ed3307ad4ce0ec75", func := "loop.example/g01398/laws.FnExactRestsOf", spec := "fnExactRestsOf", inPlace := ["internal/bytealg.IndexByteString", "internal/bytealg.IndexString", "internal/bytealg.CountString", "internal/abi.NoEscape", "internal/bytealg.MakeNoZero"], unfollowed := true, recurses := true, named := ["internal/bytealg.MaxLen", "unicode/utf8.first", "unicode/utf8.acceptRanges"], apart := false, laid := [("unicode/utf8.acceptRanges", laid_unicode_utf8_acceptRanges), ("unicode/utf8.first", laid_unicode_utf8_first)], narrowed := true }
def FnExactRestsOfUptoSaid : Prop := fnExactRestsOfUptoRow.holds Tryd.pinned (OpenSpec.upto fnExactRestsOfSpec)

/-- 'laws.FnExactFewestSheets', WHERE WHAT IT READS IS OF BULK AT MOST 1048576: true; the input reads as it did. -/
def fnExactFewestSheetsUptoRow : OpenClaim := { program := "ytonnplaacebekaadoor", sum := "d6e1f760000a46a46c5e1f339cf33629b322378386033249ed3307ad4ce0ec75", func := "loop.example/g01398/laws.FnExactFewestSheets", spec := "fnExactFewestSheets", inPlace := ["internal/bytealg.IndexByteString", "internal/bytealg.IndexString", "internal/bytealg.CountString", "internal/abi.NoEscape", "internal/bytealg.MakeNoZero"], unfollowed := true, recurses := true, named := ["internal/bytealg.MaxLen", "unicode/utf8.first", "unicode/utf8.acceptRanges"], apart := false, laid := [("unicode/utf8.acceptRanges", laid_unicode_utf8_acceptRanges), ("unicode/utf8.first", laid_unicode_utf8_first)], narrowed := true }
def FnExactFewestSheetsUptoSaid : Prop := fnExactFewestSheetsUptoRow.holds Tryd.pinned (OpenSpec.upto fnExactFewestSheetsSpec)

/-- 'laws.FnExactKeptAt', WHERE WHAT IT READS IS OF BULK AT MOST 1048576: true; the input reads as it did. -/
def fnExactKeptAtUptoRow : OpenClaim := { program := "ytonnplaacebekaadoor", sum := "d6e1f760000a46a46c5e1f339cf33629b322378386033249ed3307ad4ce0ec75", func := "loop.example/g01398/laws.FnExactKeptAt", spec := "fnExactKeptAt", inPlace := ["internal/bytealg.IndexByteString", "internal/bytealg.IndexString", "internal/bytealg.CountString", "internal/abi.NoEscape", "internal/bytealg.MakeNoZero"], unfollowed := true, recurses := true, named := ["internal/bytealg.MaxLen", "unicode/utf8.first", "unicode/utf8.acceptRanges"], apart := false, laid := [("unicode/utf8.acceptRanges", laid_unicode_utf8_acceptRanges), ("unicode/utf8.first", laid_unicode_utf8_first)], narrowed := true }
def FnExactKeptAtUptoSaid : Prop := fnExactKeptAtUptoRow.holds Tryd.pinned (OpenSpec.upto fnExactKeptAtSpec)

/-- 'laws.FnExactFillTwo', WHERE WHAT IT READS IS OF BULK AT MOST 1048576: true; the input reads as it did. -/
def fnExactFillTwoUptoRow : OpenClaim := { program := "ytonnplaacebekaadoor", sum := "d6e1f760000a46a46c5e1f339cf33629b322378386033249ed3307ad4ce0ec75", func := "loop.example/g01398/laws.FnExactFillTwo", spec := "fnExactFillTwo", inPlace := ["internal/bytealg.IndexByteString", "internal/bytealg.IndexString"], unfollowed := true, recurses := true, named := ["internal/bytealg.MaxLen", "unicode/utf8.first", "unicode/utf8.acceptRanges"], apart := false, laid := [("unicode/utf8.acceptRanges", laid_unicode_utf8_acceptRanges), ("unicode/utf8.first", laid_unicode_utf8_first)], narrowed := true }
def FnExactFillTwoUptoSaid : Prop := fnExactFillTwoUptoRow.holds Tryd.pinned (OpenSpec.upto fnExactFillTwoSpec)

end Rows
end Go.Proofs.YtonnplaacebekaaDoor
