/-
  DERIVED. GIVEN WITH THE SEED: THE CARDS: each row of YtnlnjpdnhdmndaaGreatDoorRows.lean that lists a variable, with what it lists TIED to the program's text (the seventh form; the later family's looks); each row that meets fmt, with fmt's text TOLD by the authors' own Lean function (tested against real Go, not proved from fmt's source: count such statements apart). THE CARD IS WHAT COUNTS. Prove the row's statement (the work); the ties are given (YtnlnjpdnhdmndaaGreatDoorTie.lean); close each card by the builder's one call (the guide's Derived/Test/ToyasCard.lean, 'card_holds'). Laid BY PROGRAM, IN A SANDBOX (cutbox-door.mjs). By AI agents, Wed Nov 11 2026. No macro, syntax, notation, axiom, sorry.
-/
import Derived.Test.YtnlnjpdnhdmndaaGreatDoorRows
import GoSem.ClaimSeven
namespace Go.Proofs.YtnlnjpdnhdmndaaGreatDoor
namespace Rows

/-- THE TIED CARD OF 'laws.FnExactFewestShorts'. -/
def fnExactFewestShortsCard : Claim7 := { stood := { row := fnExactFewestShortsRow, standIns := [], harness := (true, "2d0b12b47cae39423786f2a40bd6fb1ae9c44d6683a20295163749e08b5a9c9b"), looks := false }, kinds := [], alts := [], laidByText := true, laidKinds := [.data, .listed, .data, .pinned], laidTests := true, laidLooks := .later }
def FnExactFewestShortsCardSaid : Prop := Claim7.holds Tryz.pinned (.plain (OpenSpec.ofChange fnExactFewestShortsSpec)) fnExactFewestShortsCard

/-- THE SECOND FORM's CARD OF 'laws.FnExactFewestShorts'. -/
def fnExactFewestShortsUptoCard : Claim7 := { stood := { row := fnExactFewestShortsUptoRow, standIns := [], harness := (true, "2d0b12b47cae39423786f2a40bd6fb1ae9c44d6683a20295163749e08b5a9c9b"), looks := false }, kinds := [], alts := [], laidByText := true, laidKinds := [.data, .listed, .data, .pinned], laidTests := true, laidLooks := .later }
def FnExactFewestShortsUptoCardSaid : Prop := Claim7.holds Tryz.pinned (.plain (OpenSpec.upto fnExactFewestShortsSpec)) fnExactFewestShortsUptoCard
end Rows
end Go.Proofs.YtnlnjpdnhdmndaaGreatDoor
