/-
  DERIVED. GIVEN WITH THE SEED: THE CARDS: each row of YtbccbfejiihjjaaGreatDoorRows.lean that lists a variable, with what it lists TIED to the program's text (the seventh form; the later family's looks); each row that meets fmt, with fmt's text TOLD by the authors' own Lean function (tested against real Go, not proved from fmt's source: count such statements apart). THE CARD IS WHAT COUNTS. Prove the row's statement (the work); the ties are given (YtbccbfejiihjjaaGreatDoorTie.lean); close each card by the builder's one call (the guide's Derived/Test/ToyasCard.lean, 'card_holds'). Laid BY PROGRAM, IN A SANDBOX (cutbox-door.mjs). By AI agents, Wed Nov 11 2026. No macro, syntax, notation, axiom, sorry.
-/
import Derived.Test.YtbccbfejiihjjaaGreatDoorRows
import GoSem.ClaimSeven
namespace Go.Proofs.YtbccbfejiihjjaaGreatDoor
namespace Rows

/-- THE TIED CARD OF 'laws.FnExactRightRoom'. -/
def fnExactRightRoomCard : Claim7 := { stood := { row := fnExactRightRoomRow, standIns := [], harness := (true, "189aacb66c64393e282210fa56dee4f5115e177f0f9d1b073487d4f457bd13f0"), looks := false }, kinds := [], alts := [], laidByText := true, laidKinds := [.data, .listed, .data, .pinned], laidTests := true, laidLooks := .later }
def FnExactRightRoomCardSaid : Prop := Claim7.holds Tryz.pinned (.plain (OpenSpec.ofChange fnExactRightRoomSpec)) fnExactRightRoomCard

/-- THE TIED CARD OF 'laws.FnExactFewestShorts'. -/
def fnExactFewestShortsCard : Claim7 := { stood := { row := fnExactFewestShortsRow, standIns := [], harness := (true, "189aacb66c64393e282210fa56dee4f5115e177f0f9d1b073487d4f457bd13f0"), looks := false }, kinds := [], alts := [], laidByText := true, laidKinds := [.data, .listed, .data, .pinned], laidTests := true, laidLooks := .later }
def FnExactFewestShortsCardSaid : Prop := Claim7.holds Tryz.pinned (.plain (OpenSpec.ofChange fnExactFewestShortsSpec)) fnExactFewestShortsCard

/-- THE SECOND FORM's CARD OF 'laws.FnExactRightRoom'. -/
def fnExactRightRoomUptoCard : Claim7 := { stood := { row := fnExactRightRoomUptoRow, standIns := [], harness := (true, "189aacb66c64393e282210fa56dee4f5115e177f0f9d1b073487d4f457bd13f0"), looks := false }, kinds := [], alts := [], laidByText := true, laidKinds := [.data, .listed, .data, .pinned], laidTests := true, laidLooks := .later }
def FnExactRightRoomUptoCardSaid : Prop := Claim7.holds Tryz.pinned (.plain (OpenSpec.upto fnExactRightRoomSpec)) fnExactRightRoomUptoCard

/-- THE SECOND FORM's CARD OF 'laws.FnExactFewestShorts'. -/
def fnExactFewestShortsUptoCard : Claim7 := { stood := { row := fnExactFewestShortsUptoRow, standIns := [], harness := (true, "189aacb66c64393e282210fa56dee4f5115e177f0f9d1b073487d4f457bd13f0"), looks := false }, kinds := [], alts := [], laidByText := true, laidKinds := [.data, .listed, .data, .pinned], laidTests := true, laidLooks := .later }
def FnExactFewestShortsUptoCardSaid : Prop := Claim7.holds Tryz.pinned (.plain (OpenSpec.upto fnExactFewestShortsSpec)) fnExactFewestShortsUptoCard
end Rows
end Go.Proofs.YtbccbfejiihjjaaGreatDoor
