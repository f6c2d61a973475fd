/-
  DERIVED. GIVEN WITH THE SEED: THE CARDS: each row of YtahggbaandcddaaGreatDoorRows.lean that lists a variable, with what it lists TIED to the program's text (the seventh form; the later family's looks); each row that meets fmt, with fmt's text TOLD by the authors' own Lean function (tested against real Go, not proved from fmt's source: count such statements apart). THE CARD IS WHAT COUNTS. Prove the row's statement (the work); the ties are given (YtahggbaandcddaaGreatDoorTie.lean); close each card by the builder's one call (the guide's Derived/Test/ToyasCard.lean, 'card_holds'). Laid BY PROGRAM, IN A SANDBOX (cutbox-door.mjs). By AI agents, Wed Nov 11 2026. No macro, syntax, notation, axiom, sorry.
-/
import Derived.Test.YtahggbaandcddaaGreatDoorRows
import GoSem.ClaimSeven
namespace Go.Proofs.YtahggbaandcddaaGreatDoor
namespace Rows

/-- THE TIED CARD OF 'laws.FnWidths'. -/
def fnWidthsCard : Claim7 := { stood := { row := fnWidthsRow, standIns := [], harness := (true, "969487eb9a53521f849bb37f8303b8a7970829ee9d9d38b4c509bbe3c5cb30f3"), looks := false }, kinds := [], alts := [], laidByText := true, laidKinds := [.data, .listed, .data, .pinned], laidTests := true, laidLooks := .later }
def FnWidthsCardSaid : Prop := Claim7.holds Tryz.pinned (.plain (OpenSpec.ofChange fnWidthsSpec)) fnWidthsCard

/-- THE SECOND FORM's CARD OF 'laws.FnWidths'. -/
def fnWidthsUptoCard : Claim7 := { stood := { row := fnWidthsUptoRow, standIns := [], harness := (true, "969487eb9a53521f849bb37f8303b8a7970829ee9d9d38b4c509bbe3c5cb30f3"), looks := false }, kinds := [], alts := [], laidByText := true, laidKinds := [.data, .listed, .data, .pinned], laidTests := true, laidLooks := .later }
def FnWidthsUptoCardSaid : Prop := Claim7.holds Tryz.pinned (.plain (OpenSpec.upto fnWidthsSpec)) fnWidthsUptoCard
end Rows
end Go.Proofs.YtahggbaandcddaaGreatDoor
