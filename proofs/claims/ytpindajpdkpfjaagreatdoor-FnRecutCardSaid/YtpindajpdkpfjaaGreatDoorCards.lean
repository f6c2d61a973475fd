/-
  DERIVED. GIVEN WITH THE SEED: THE CARDS: each row of YtpindajpdkpfjaaGreatDoorRows.lean that lists a variable, with what it lists TIED to the program's text (the seventh form; the later family's looks); each row that meets fmt, with fmt's text TOLD by the authors' own Lean function (tested against real Go, not proved from fmt's source: count such statements apart). THE CARD IS WHAT COUNTS. Prove the row's statement (the work); the ties are given (YtpindajpdkpfjaaGreatDoorTie.lean); close each card by the builder's one call (the guide's Derived/Test/ToyasCard.lean, 'card_holds'). Laid BY PROGRAM, IN A SANDBOX (cutbox-door.mjs). By AI agents, Wed Nov 11 2026. No macro, syntax, notation, axiom, sorry.
-/
import Derived.Test.YtpindajpdkpfjaaGreatDoorRows
import GoSem.ClaimSeven
namespace Go.Proofs.YtpindajpdkpfjaaGreatDoor
namespace Rows

/-- THE TIED CARD OF 'laws.FnRecut'. -/
def fnRecutCard : Claim7 := { stood := { row := fnRecutRow, standIns := [], harness := (true, "99ec4e8c1afdf05b4f202fc8917ca7b19c61ce3c7fd2e0e5c42abbee977ae41d"), looks := false }, kinds := [], alts := [], laidByText := true, laidKinds := [.data, .pinned], laidTests := true, laidLooks := .later }
def FnRecutCardSaid : Prop := Claim7.holds Tryz.pinned (.plain (OpenSpec.ofChange fnRecutSpec)) fnRecutCard

/-- THE SECOND FORM's CARD OF 'laws.FnRecut'. -/
def fnRecutUptoCard : Claim7 := { stood := { row := fnRecutUptoRow, standIns := [], harness := (true, "99ec4e8c1afdf05b4f202fc8917ca7b19c61ce3c7fd2e0e5c42abbee977ae41d"), looks := false }, kinds := [], alts := [], laidByText := true, laidKinds := [.data, .pinned], laidTests := true, laidLooks := .later }
def FnRecutUptoCardSaid : Prop := Claim7.holds Tryz.pinned (.plain (OpenSpec.upto fnRecutSpec)) fnRecutUptoCard
end Rows
end Go.Proofs.YtpindajpdkpfjaaGreatDoor
