/-
  DERIVED. GIVEN WITH THE SEED: THE CARDS: each row of YtkbmfemncadlnaaGreatDoorRows.lean that lists a variable, with what it lists TIED to the program's text (the seventh form; the later family's looks); each row that meets fmt, with fmt's text TOLD by the authors' own Lean function (tested against real Go, not proved from fmt's source: count such statements apart). THE CARD IS WHAT COUNTS. Prove the row's statement (the work); the ties are given (YtkbmfemncadlnaaGreatDoorTie.lean); close each card by the builder's one call (the guide's Derived/Test/ToyasCard.lean, 'card_holds'). Laid BY PROGRAM, IN A SANDBOX (cutbox-door.mjs). By AI agents, Wed Nov 11 2026. No macro, syntax, notation, axiom, sorry.
-/
import Derived.Test.YtkbmfemncadlnaaGreatDoorRows
import GoSem.ClaimSeven
namespace Go.Proofs.YtkbmfemncadlnaaGreatDoor
namespace Rows

/-- THE TIED CARD OF 'laws.FnWorn'. -/
def fnWornCard : Claim7 := { stood := { row := fnWornRow, standIns := [], harness := (true, "daa9254b791955c4cdc36978b5e1523ee4e8eefff594e155e5458d227e265b26"), looks := false }, kinds := [], alts := [], laidByText := true, laidKinds := [.data, .pinned], laidTests := true, laidLooks := .later }
def FnWornCardSaid : Prop := Claim7.holds Tryz.pinned (.plain (OpenSpec.ofChange fnWornSpec)) fnWornCard

/-- THE SECOND FORM's CARD OF 'laws.FnWorn'. -/
def fnWornUptoCard : Claim7 := { stood := { row := fnWornUptoRow, standIns := [], harness := (true, "daa9254b791955c4cdc36978b5e1523ee4e8eefff594e155e5458d227e265b26"), looks := false }, kinds := [], alts := [], laidByText := true, laidKinds := [.data, .pinned], laidTests := true, laidLooks := .later }
def FnWornUptoCardSaid : Prop := Claim7.holds Tryz.pinned (.plain (OpenSpec.upto fnWornSpec)) fnWornUptoCard
end Rows
end Go.Proofs.YtkbmfemncadlnaaGreatDoor
