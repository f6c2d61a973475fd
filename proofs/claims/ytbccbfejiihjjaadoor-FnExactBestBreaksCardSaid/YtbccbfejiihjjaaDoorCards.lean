/-
  DERIVED. GIVEN WITH THE SEED: THE CARDS: each row of YtbccbfejiihjjaaDoorRows.lean that lists a variable, with what it lists TIED to the program's text (the seventh form; the later family's looks); each row that meets fmt, with fmt's text TOLD by the authors' own Lean function (tested against real Go, not proved from fmt's source: count such statements apart). THE CARD IS WHAT COUNTS. Prove the row's statement (the work); the ties are given (YtbccbfejiihjjaaDoorTie.lean); close each card by the builder's one call (the guide's Derived/Test/ToyasCard.lean, 'card_holds'). Laid BY PROGRAM, IN A SANDBOX (cutbox-door.mjs). By AI agents, Wed Nov 11 2026. No macro, syntax, notation, axiom, sorry.
-/
import Derived.Test.YtbccbfejiihjjaaDoorRows
import GoSem.ClaimSeven
namespace Go.Proofs.YtbccbfejiihjjaaDoor
namespace Rows

/-- THE TIED CARD OF 'laws.FnExactCheckBreaks'. -/
def fnExactCheckBreaksCard : Claim7 := { stood := { row := fnExactCheckBreaksRow, standIns := [], harness := (true, "7b1647869ff43346a6e85b7c086788a2a87dfcfbfe16167589c5588d85bf7a11"), looks := false }, kinds := [], alts := [], laidByText := true, laidKinds := [.data, .listed, .data, .pinned], laidTests := true, laidLooks := .later }
def FnExactCheckBreaksCardSaid : Prop := Claim7.holds Tryd.pinned (.plain (OpenSpec.ofChange fnExactCheckBreaksSpec)) fnExactCheckBreaksCard

/-- THE TIED CARD OF 'laws.FnExactUnevenOf'. -/
def fnExactUnevenOfCard : Claim7 := { stood := { row := fnExactUnevenOfRow, standIns := [], harness := (true, "7b1647869ff43346a6e85b7c086788a2a87dfcfbfe16167589c5588d85bf7a11"), looks := false }, kinds := [], alts := [], laidByText := true, laidKinds := [.data, .listed, .data, .pinned], laidTests := true, laidLooks := .later }
def FnExactUnevenOfCardSaid : Prop := Claim7.holds Tryd.pinned (.plain (OpenSpec.ofChange fnExactUnevenOfSpec)) fnExactUnevenOfCard

/-- THE TIED CARD OF 'laws.FnExactCountBreaks'. -/
def fnExactCountBreaksCard : Claim7 := { stood := { row := fnExactCountBreaksRow, standIns := [], harness := (true, "7b1647869ff43346a6e85b7c086788a2a87dfcfbfe16167589c5588d85bf7a11"), looks := false }, kinds := [], alts := [], laidByText := true, laidKinds := [.data, .listed, .data, .pinned], laidTests := true, laidLooks := .later }
def FnExactCountBreaksCardSaid : Prop := Claim7.holds Tryd.pinned (.plain (OpenSpec.ofChange fnExactCountBreaksSpec)) fnExactCountBreaksCard

/-- THE TIED CARD OF 'laws.FnExactBestBreaks'. -/
def fnExactBestBreaksCard : Claim7 := { stood := { row := fnExactBestBreaksRow, standIns := [], harness := (true, "7b1647869ff43346a6e85b7c086788a2a87dfcfbfe16167589c5588d85bf7a11"), looks := false }, kinds := [], alts := [], laidByText := true, laidKinds := [.data, .listed, .data, .pinned], laidTests := true, laidLooks := .later }
def FnExactBestBreaksCardSaid : Prop := Claim7.holds Tryd.pinned (.plain (OpenSpec.ofChange fnExactBestBreaksSpec)) fnExactBestBreaksCard

/-- THE SECOND FORM's CARD OF 'laws.FnExactCheckBreaks'. -/
def fnExactCheckBreaksUptoCard : Claim7 := { stood := { row := fnExactCheckBreaksUptoRow, standIns := [], harness := (true, "7b1647869ff43346a6e85b7c086788a2a87dfcfbfe16167589c5588d85bf7a11"), looks := false }, kinds := [], alts := [], laidByText := true, laidKinds := [.data, .listed, .data, .pinned], laidTests := true, laidLooks := .later }
def FnExactCheckBreaksUptoCardSaid : Prop := Claim7.holds Tryd.pinned (.plain (OpenSpec.upto fnExactCheckBreaksSpec)) fnExactCheckBreaksUptoCard

/-- THE SECOND FORM's CARD OF 'laws.FnExactUnevenOf'. -/
def fnExactUnevenOfUptoCard : Claim7 := { stood := { row := fnExactUnevenOfUptoRow, standIns := [], harness := (true, "7b1647869ff43346a6e85b7c086788a2a87dfcfbfe16167589c5588d85bf7a11"), looks := false }, kinds := [], alts := [], laidByText := true, laidKinds := [.data, .listed, .data, .pinned], laidTests := true, laidLooks := .later }
def FnExactUnevenOfUptoCardSaid : Prop := Claim7.holds Tryd.pinned (.plain (OpenSpec.upto fnExactUnevenOfSpec)) fnExactUnevenOfUptoCard

/-- THE SECOND FORM's CARD OF 'laws.FnExactCountBreaks'. -/
def fnExactCountBreaksUptoCard : Claim7 := { stood := { row := fnExactCountBreaksUptoRow, standIns := [], harness := (true, "7b1647869ff43346a6e85b7c086788a2a87dfcfbfe16167589c5588d85bf7a11"), looks := false }, kinds := [], alts := [], laidByText := true, laidKinds := [.data, .listed, .data, .pinned], laidTests := true, laidLooks := .later }
def FnExactCountBreaksUptoCardSaid : Prop := Claim7.holds Tryd.pinned (.plain (OpenSpec.upto fnExactCountBreaksSpec)) fnExactCountBreaksUptoCard

/-- THE SECOND FORM's CARD OF 'laws.FnExactBestBreaks'. -/
def fnExactBestBreaksUptoCard : Claim7 := { stood := { row := fnExactBestBreaksUptoRow, standIns := [], harness := (true, "7b1647869ff43346a6e85b7c086788a2a87dfcfbfe16167589c5588d85bf7a11"), looks := false }, kinds := [], alts := [], laidByText := true, laidKinds := [.data, .listed, .data, .pinned], laidTests := true, laidLooks := .later }
def FnExactBestBreaksUptoCardSaid : Prop := Claim7.holds Tryd.pinned (.plain (OpenSpec.upto fnExactBestBreaksSpec)) fnExactBestBreaksUptoCard
end Rows
end Go.Proofs.YtbccbfejiihjjaaDoor
