/-
  DERIVED. GIVEN WITH THE SEED: THE CARDS: each row of YtonnplaacebekaaGreatDoorRows.lean that lists a variable, with what it lists TIED to the program's text (the seventh form; the later family's looks); each row that meets fmt, with fmt's text TOLD by the authors' own Lean function (tested against real Go, not proved from fmt's source: count such statements apart). THE CARD IS WHAT COUNTS. Prove the row's statement (the work); the ties are given (YtonnplaacebekaaGreatDoorTie.lean); close each card by the builder's one call (the guide's Derived/Test/ToyasCard.lean, 'card_holds'). Laid BY PROGRAM, IN A SANDBOX (cutbox-door.mjs). By AI agents, Wed Nov 11 2026. No macro, syntax, notation, axiom, sorry.
-/
import Derived.Test.YtonnplaacebekaaGreatDoorRows
import GoSem.ClaimSeven
namespace Go.Proofs.YtonnplaacebekaaGreatDoor
namespace Rows

/-- THE TIED CARD OF 'laws.FnExactWordsFor'. -/
def fnExactWordsForCard : Claim7 := { stood := { row := fnExactWordsForRow, standIns := [], harness := (true, "6c904298fd4a5603bc2b68297af8cb466ce5be5684f669deceefb6a0e9e446aa"), looks := false }, kinds := [], alts := [], laidByText := true, laidKinds := [.data, .listed, .data, .pinned], laidTests := true, laidLooks := .later }
def FnExactWordsForCardSaid : Prop := Claim7.holds Tryz.pinned (.plain (OpenSpec.ofChange fnExactWordsForSpec)) fnExactWordsForCard

/-- THE TIED CARD OF 'laws.FnExactMostWords'. -/
def fnExactMostWordsCard : Claim7 := { stood := { row := fnExactMostWordsRow, standIns := [], harness := (true, "6c904298fd4a5603bc2b68297af8cb466ce5be5684f669deceefb6a0e9e446aa"), looks := false }, kinds := [], alts := [], laidByText := true, laidKinds := [.data, .listed, .data, .pinned], laidTests := true, laidLooks := .later }
def FnExactMostWordsCardSaid : Prop := Claim7.holds Tryz.pinned (.plain (OpenSpec.ofChange fnExactMostWordsSpec)) fnExactMostWordsCard

/-- THE TIED CARD OF 'laws.FnExactRecutPrice'. -/
def fnExactRecutPriceCard : Claim7 := { stood := { row := fnExactRecutPriceRow, standIns := [], harness := (true, "6c904298fd4a5603bc2b68297af8cb466ce5be5684f669deceefb6a0e9e446aa"), looks := false }, kinds := [], alts := [], laidByText := true, laidKinds := [.data, .pinned], laidTests := true, laidLooks := .later }
def FnExactRecutPriceCardSaid : Prop := Claim7.holds Tryz.pinned (.plain (OpenSpec.ofChange fnExactRecutPriceSpec)) fnExactRecutPriceCard

/-- THE SECOND FORM's CARD OF 'laws.FnExactWordsFor'. -/
def fnExactWordsForUptoCard : Claim7 := { stood := { row := fnExactWordsForUptoRow, standIns := [], harness := (true, "6c904298fd4a5603bc2b68297af8cb466ce5be5684f669deceefb6a0e9e446aa"), looks := false }, kinds := [], alts := [], laidByText := true, laidKinds := [.data, .listed, .data, .pinned], laidTests := true, laidLooks := .later }
def FnExactWordsForUptoCardSaid : Prop := Claim7.holds Tryz.pinned (.plain (OpenSpec.upto fnExactWordsForSpec)) fnExactWordsForUptoCard

/-- THE SECOND FORM's CARD OF 'laws.FnExactMostWords'. -/
def fnExactMostWordsUptoCard : Claim7 := { stood := { row := fnExactMostWordsUptoRow, standIns := [], harness := (true, "6c904298fd4a5603bc2b68297af8cb466ce5be5684f669deceefb6a0e9e446aa"), looks := false }, kinds := [], alts := [], laidByText := true, laidKinds := [.data, .listed, .data, .pinned], laidTests := true, laidLooks := .later }
def FnExactMostWordsUptoCardSaid : Prop := Claim7.holds Tryz.pinned (.plain (OpenSpec.upto fnExactMostWordsSpec)) fnExactMostWordsUptoCard

/-- THE SECOND FORM's CARD OF 'laws.FnExactRecutPrice'. -/
def fnExactRecutPriceUptoCard : Claim7 := { stood := { row := fnExactRecutPriceUptoRow, standIns := [], harness := (true, "6c904298fd4a5603bc2b68297af8cb466ce5be5684f669deceefb6a0e9e446aa"), looks := false }, kinds := [], alts := [], laidByText := true, laidKinds := [.data, .pinned], laidTests := true, laidLooks := .later }
def FnExactRecutPriceUptoCardSaid : Prop := Claim7.holds Tryz.pinned (.plain (OpenSpec.upto fnExactRecutPriceSpec)) fnExactRecutPriceUptoCard
end Rows
end Go.Proofs.YtonnplaacebekaaGreatDoor
