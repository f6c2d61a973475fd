/-
  DERIVED. GIVEN WITH THE SEED: THE CARDS: each row of YtdhngjjfoddnkaaGreatDoorRows.lean that lists a variable, with what it lists TIED to the program's text (the seventh form; the later family's looks); each row that meets fmt, with fmt's text TOLD by the authors' own Lean function (tested against real Go, not proved from fmt's source: count such statements apart). THE CARD IS WHAT COUNTS. Prove the row's statement (the work); the ties are given (YtdhngjjfoddnkaaGreatDoorTie.lean); close each card by the builder's one call (the guide's Derived/Test/ToyasCard.lean, 'card_holds'). Laid BY PROGRAM, IN A SANDBOX (cutbox-door.mjs). By AI agents, Wed Nov 11 2026. No macro, syntax, notation, axiom, sorry.
-/
import Derived.Test.YtdhngjjfoddnkaaGreatDoorRows
import GoSem.ClaimSeven
namespace Go.Proofs.YtdhngjjfoddnkaaGreatDoor
namespace Rows

/-- THE TIED CARD OF 'laws.FnBreaks'. -/
def fnBreaksCard : Claim7 := { stood := { row := fnBreaksRow, standIns := [], harness := (true, "c39b8ca5b9ede58edb0adca0875ea225330c9e67eb42c31aed14aff89792be8f"), looks := false }, kinds := [], alts := [], laidByText := true, laidKinds := [.data, .listed, .data, .pinned], laidTests := true, laidLooks := .later }
def FnBreaksCardSaid : Prop := Claim7.holds Tryz.pinned (.plain (OpenSpec.ofChange fnBreaksSpec)) fnBreaksCard

/-- THE SECOND FORM's CARD OF 'laws.FnBreaks'. -/
def fnBreaksUptoCard : Claim7 := { stood := { row := fnBreaksUptoRow, standIns := [], harness := (true, "c39b8ca5b9ede58edb0adca0875ea225330c9e67eb42c31aed14aff89792be8f"), looks := false }, kinds := [], alts := [], laidByText := true, laidKinds := [.data, .listed, .data, .pinned], laidTests := true, laidLooks := .later }
def FnBreaksUptoCardSaid : Prop := Claim7.holds Tryz.pinned (.plain (OpenSpec.upto fnBreaksSpec)) fnBreaksUptoCard
end Rows
end Go.Proofs.YtdhngjjfoddnkaaGreatDoor
