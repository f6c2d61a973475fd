/-
  DERIVED. GIVEN WITH THE SEED: THE CARDS: each row of YtjgflkoefimmoaaDoorRows.lean that lists a variable, with what it lists TIED to the program's text (the seventh form; the later family's looks); each row that meets fmt, with fmt's text TOLD by the authors' own Lean function (tested against real Go, not proved from fmt's source: count such statements apart). THE CARD IS WHAT COUNTS. Prove the row's statement (the work); the ties are given (YtjgflkoefimmoaaDoorTie.lean); close each card by the builder's one call (the guide's Derived/Test/ToyasCard.lean, 'card_holds'). Laid BY PROGRAM, IN A SANDBOX (cutbox-door.mjs). By AI agents, Wed Nov 11 2026. No macro, syntax, notation, axiom, sorry.
-/
import Derived.Test.YtjgflkoefimmoaaDoorRows
import GoSem.ClaimSeven
namespace Go.Proofs.YtjgflkoefimmoaaDoor
namespace Rows

/-- THE TIED CARD OF 'laws.FnExactGapsOf'. -/
def fnExactGapsOfCard : Claim7 := { stood := { row := fnExactGapsOfRow, standIns := [], harness := (true, "eee88a00889ef4321da6616f86740d3cdbb76cf5d5f35c76387cc0fd745344fa"), looks := false }, kinds := [], alts := [], laidByText := true, laidKinds := [.data, .pinned], laidTests := true, laidLooks := .later }
def FnExactGapsOfCardSaid : Prop := Claim7.holds Tryd.pinned (.plain (OpenSpec.ofChange fnExactGapsOfSpec)) fnExactGapsOfCard

/-- THE TIED CARD OF 'laws.FnExactWidestWord'. -/
def fnExactWidestWordCard : Claim7 := { stood := { row := fnExactWidestWordRow, standIns := [], harness := (true, "eee88a00889ef4321da6616f86740d3cdbb76cf5d5f35c76387cc0fd745344fa"), looks := false }, kinds := [], alts := [], laidByText := true, laidKinds := [.data, .listed, .data, .pinned], laidTests := true, laidLooks := .later }
def FnExactWidestWordCardSaid : Prop := Claim7.holds Tryd.pinned (.plain (OpenSpec.ofChange fnExactWidestWordSpec)) fnExactWidestWordCard

/-- THE TIED CARD OF 'laws.FnExactLongestFit'. -/
def fnExactLongestFitCard : Claim7 := { stood := { row := fnExactLongestFitRow, standIns := [], harness := (true, "eee88a00889ef4321da6616f86740d3cdbb76cf5d5f35c76387cc0fd745344fa"), looks := false }, kinds := [], alts := [], laidByText := true, laidKinds := [.data, .listed, .data, .pinned], laidTests := true, laidLooks := .later }
def FnExactLongestFitCardSaid : Prop := Claim7.holds Tryd.pinned (.plain (OpenSpec.ofChange fnExactLongestFitSpec)) fnExactLongestFitCard

/-- THE TIED CARD OF 'laws.FnExactLeastWide'. -/
def fnExactLeastWideCard : Claim7 := { stood := { row := fnExactLeastWideRow, standIns := [], harness := (true, "eee88a00889ef4321da6616f86740d3cdbb76cf5d5f35c76387cc0fd745344fa"), looks := false }, kinds := [], alts := [], laidByText := true, laidKinds := [.data, .listed, .data, .pinned], laidTests := true, laidLooks := .later }
def FnExactLeastWideCardSaid : Prop := Claim7.holds Tryd.pinned (.plain (OpenSpec.ofChange fnExactLeastWideSpec)) fnExactLeastWideCard

/-- THE TIED CARD OF 'laws.FnExactFewestLines'. -/
def fnExactFewestLinesCard : Claim7 := { stood := { row := fnExactFewestLinesRow, standIns := [], harness := (true, "eee88a00889ef4321da6616f86740d3cdbb76cf5d5f35c76387cc0fd745344fa"), looks := false }, kinds := [], alts := [], laidByText := true, laidKinds := [.data, .listed, .data, .pinned], laidTests := true, laidLooks := .later }
def FnExactFewestLinesCardSaid : Prop := Claim7.holds Tryd.pinned (.plain (OpenSpec.ofChange fnExactFewestLinesSpec)) fnExactFewestLinesCard

/-- THE TIED CARD OF 'laws.FnExactCountBreaks'. -/
def fnExactCountBreaksCard : Claim7 := { stood := { row := fnExactCountBreaksRow, standIns := [], harness := (true, "eee88a00889ef4321da6616f86740d3cdbb76cf5d5f35c76387cc0fd745344fa"), looks := false }, kinds := [], alts := [], laidByText := true, laidKinds := [.data, .listed, .data, .pinned], laidTests := true, laidLooks := .later }
def FnExactCountBreaksCardSaid : Prop := Claim7.holds Tryd.pinned (.plain (OpenSpec.ofChange fnExactCountBreaksSpec)) fnExactCountBreaksCard

/-- THE TIED CARD OF 'laws.FnExactGreedyBreaks'. -/
def fnExactGreedyBreaksCard : Claim7 := { stood := { row := fnExactGreedyBreaksRow, standIns := [], harness := (true, "eee88a00889ef4321da6616f86740d3cdbb76cf5d5f35c76387cc0fd745344fa"), looks := false }, kinds := [], alts := [], laidByText := true, laidKinds := [.data, .listed, .data, .pinned], laidTests := true, laidLooks := .later }
def FnExactGreedyBreaksCardSaid : Prop := Claim7.holds Tryd.pinned (.plain (OpenSpec.ofChange fnExactGreedyBreaksSpec)) fnExactGreedyBreaksCard

/-- THE TIED CARD OF 'laws.FnExactCheckBreaks'. -/
def fnExactCheckBreaksCard : Claim7 := { stood := { row := fnExactCheckBreaksRow, standIns := [], harness := (true, "eee88a00889ef4321da6616f86740d3cdbb76cf5d5f35c76387cc0fd745344fa"), looks := false }, kinds := [], alts := [], laidByText := true, laidKinds := [.data, .listed, .data, .pinned], laidTests := true, laidLooks := .later }
def FnExactCheckBreaksCardSaid : Prop := Claim7.holds Tryd.pinned (.plain (OpenSpec.ofChange fnExactCheckBreaksSpec)) fnExactCheckBreaksCard

/-- THE TIED CARD OF 'laws.FnExactUnevenOf'. -/
def fnExactUnevenOfCard : Claim7 := { stood := { row := fnExactUnevenOfRow, standIns := [], harness := (true, "eee88a00889ef4321da6616f86740d3cdbb76cf5d5f35c76387cc0fd745344fa"), looks := false }, kinds := [], alts := [], laidByText := true, laidKinds := [.data, .listed, .data, .pinned], laidTests := true, laidLooks := .later }
def FnExactUnevenOfCardSaid : Prop := Claim7.holds Tryd.pinned (.plain (OpenSpec.ofChange fnExactUnevenOfSpec)) fnExactUnevenOfCard

/-- THE SECOND FORM's CARD OF 'laws.FnExactGapsOf'. -/
def fnExactGapsOfUptoCard : Claim7 := { stood := { row := fnExactGapsOfUptoRow, standIns := [], harness := (true, "eee88a00889ef4321da6616f86740d3cdbb76cf5d5f35c76387cc0fd745344fa"), looks := false }, kinds := [], alts := [], laidByText := true, laidKinds := [.data, .pinned], laidTests := true, laidLooks := .later }
def FnExactGapsOfUptoCardSaid : Prop := Claim7.holds Tryd.pinned (.plain (OpenSpec.upto fnExactGapsOfSpec)) fnExactGapsOfUptoCard

/-- THE SECOND FORM's CARD OF 'laws.FnExactWidestWord'. -/
def fnExactWidestWordUptoCard : Claim7 := { stood := { row := fnExactWidestWordUptoRow, standIns := [], harness := (true, "eee88a00889ef4321da6616f86740d3cdbb76cf5d5f35c76387cc0fd745344fa"), looks := false }, kinds := [], alts := [], laidByText := true, laidKinds := [.data, .listed, .data, .pinned], laidTests := true, laidLooks := .later }
def FnExactWidestWordUptoCardSaid : Prop := Claim7.holds Tryd.pinned (.plain (OpenSpec.upto fnExactWidestWordSpec)) fnExactWidestWordUptoCard

/-- THE SECOND FORM's CARD OF 'laws.FnExactLongestFit'. -/
def fnExactLongestFitUptoCard : Claim7 := { stood := { row := fnExactLongestFitUptoRow, standIns := [], harness := (true, "eee88a00889ef4321da6616f86740d3cdbb76cf5d5f35c76387cc0fd745344fa"), looks := false }, kinds := [], alts := [], laidByText := true, laidKinds := [.data, .listed, .data, .pinned], laidTests := true, laidLooks := .later }
def FnExactLongestFitUptoCardSaid : Prop := Claim7.holds Tryd.pinned (.plain (OpenSpec.upto fnExactLongestFitSpec)) fnExactLongestFitUptoCard

/-- THE SECOND FORM's CARD OF 'laws.FnExactLeastWide'. -/
def fnExactLeastWideUptoCard : Claim7 := { stood := { row := fnExactLeastWideUptoRow, standIns := [], harness := (true, "eee88a00889ef4321da6616f86740d3cdbb76cf5d5f35c76387cc0fd745344fa"), looks := false }, kinds := [], alts := [], laidByText := true, laidKinds := [.data, .listed, .data, .pinned], laidTests := true, laidLooks := .later }
def FnExactLeastWideUptoCardSaid : Prop := Claim7.holds Tryd.pinned (.plain (OpenSpec.upto fnExactLeastWideSpec)) fnExactLeastWideUptoCard

/-- THE SECOND FORM's CARD OF 'laws.FnExactFewestLines'. -/
def fnExactFewestLinesUptoCard : Claim7 := { stood := { row := fnExactFewestLinesUptoRow, standIns := [], harness := (true, "eee88a00889ef4321da6616f86740d3cdbb76cf5d5f35c76387cc0fd745344fa"), looks := false }, kinds := [], alts := [], laidByText := true, laidKinds := [.data, .listed, .data, .pinned], laidTests := true, laidLooks := .later }
def FnExactFewestLinesUptoCardSaid : Prop := Claim7.holds Tryd.pinned (.plain (OpenSpec.upto fnExactFewestLinesSpec)) fnExactFewestLinesUptoCard

/-- THE SECOND FORM's CARD OF 'laws.FnExactCountBreaks'. -/
def fnExactCountBreaksUptoCard : Claim7 := { stood := { row := fnExactCountBreaksUptoRow, standIns := [], harness := (true, "eee88a00889ef4321da6616f86740d3cdbb76cf5d5f35c76387cc0fd745344fa"), looks := false }, kinds := [], alts := [], laidByText := true, laidKinds := [.data, .listed, .data, .pinned], laidTests := true, laidLooks := .later }
def FnExactCountBreaksUptoCardSaid : Prop := Claim7.holds Tryd.pinned (.plain (OpenSpec.upto fnExactCountBreaksSpec)) fnExactCountBreaksUptoCard

/-- THE SECOND FORM's CARD OF 'laws.FnExactGreedyBreaks'. -/
def fnExactGreedyBreaksUptoCard : Claim7 := { stood := { row := fnExactGreedyBreaksUptoRow, standIns := [], harness := (true, "eee88a00889ef4321da6616f86740d3cdbb76cf5d5f35c76387cc0fd745344fa"), looks := false }, kinds := [], alts := [], laidByText := true, laidKinds := [.data, .listed, .data, .pinned], laidTests := true, laidLooks := .later }
def FnExactGreedyBreaksUptoCardSaid : Prop := Claim7.holds Tryd.pinned (.plain (OpenSpec.upto fnExactGreedyBreaksSpec)) fnExactGreedyBreaksUptoCard

/-- THE SECOND FORM's CARD OF 'laws.FnExactCheckBreaks'. -/
def fnExactCheckBreaksUptoCard : Claim7 := { stood := { row := fnExactCheckBreaksUptoRow, standIns := [], harness := (true, "eee88a00889ef4321da6616f86740d3cdbb76cf5d5f35c76387cc0fd745344fa"), looks := false }, kinds := [], alts := [], laidByText := true, laidKinds := [.data, .listed, .data, .pinned], laidTests := true, laidLooks := .later }
def FnExactCheckBreaksUptoCardSaid : Prop := Claim7.holds Tryd.pinned (.plain (OpenSpec.upto fnExactCheckBreaksSpec)) fnExactCheckBreaksUptoCard

/-- THE SECOND FORM's CARD OF 'laws.FnExactUnevenOf'. -/
def fnExactUnevenOfUptoCard : Claim7 := { stood := { row := fnExactUnevenOfUptoRow, standIns := [], harness := (true, "eee88a00889ef4321da6616f86740d3cdbb76cf5d5f35c76387cc0fd745344fa"), looks := false }, kinds := [], alts := [], laidByText := true, laidKinds := [.data, .listed, .data, .pinned], laidTests := true, laidLooks := .later }
def FnExactUnevenOfUptoCardSaid : Prop := Claim7.holds Tryd.pinned (.plain (OpenSpec.upto fnExactUnevenOfSpec)) fnExactUnevenOfUptoCard
end Rows
end Go.Proofs.YtjgflkoefimmoaaDoor
