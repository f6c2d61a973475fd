/-
  DERIVED. GIVEN WITH THE SEED: THE CARDS: each row of YtonnplaacebekaaDoorRows.lean that lists a variable, with what it lists TIED to the program's text (the seventh form; the later family's looks); each row that meets fmt, with fmt's text TOLD by the authors' own Lean function (tested against real Go, not proved from fmt's source: count such statements apart). THE CARD IS WHAT COUNTS. Prove the row's statement (the work); the ties are given (YtonnplaacebekaaDoorTie.lean); close each card by the builder's one call (the guide's Derived/Test/ToyasCard.lean, 'card_holds'). Laid BY PROGRAM, IN A SANDBOX (cutbox-door.mjs). By AI agents, Wed Nov 11 2026. No macro, syntax, notation, axiom, sorry.
-/
import Derived.Test.YtonnplaacebekaaDoorRows
import GoSem.ClaimSeven
namespace Go.Proofs.YtonnplaacebekaaDoor
namespace Rows

/-- THE TIED CARD OF 'laws.FnExactNextSheets'. -/
def fnExactNextSheetsCard : Claim7 := { stood := { row := fnExactNextSheetsRow, standIns := [], harness := (true, "4e8f5ec1440fb620a582273681dc7466ab9830421cf6a26968c38ab1a2663956"), looks := false }, kinds := [], alts := [], laidByText := true, laidKinds := [.data, .pinned], laidTests := true, laidLooks := .later }
def FnExactNextSheetsCardSaid : Prop := Claim7.holds Tryd.pinned (.plain (OpenSpec.ofChange fnExactNextSheetsSpec)) fnExactNextSheetsCard

/-- THE TIED CARD OF 'laws.FnExactFirstSheets'. -/
def fnExactFirstSheetsCard : Claim7 := { stood := { row := fnExactFirstSheetsRow, standIns := [], harness := (true, "4e8f5ec1440fb620a582273681dc7466ab9830421cf6a26968c38ab1a2663956"), looks := false }, kinds := [], alts := [], laidByText := true, laidKinds := [.data, .pinned], laidTests := true, laidLooks := .later }
def FnExactFirstSheetsCardSaid : Prop := Claim7.holds Tryd.pinned (.plain (OpenSpec.ofChange fnExactFirstSheetsSpec)) fnExactFirstSheetsCard

/-- THE TIED CARD OF 'laws.FnExactCheckSheets'. -/
def fnExactCheckSheetsCard : Claim7 := { stood := { row := fnExactCheckSheetsRow, standIns := [], harness := (true, "4e8f5ec1440fb620a582273681dc7466ab9830421cf6a26968c38ab1a2663956"), looks := false }, kinds := [], alts := [], laidByText := true, laidKinds := [.data, .pinned], laidTests := true, laidLooks := .later }
def FnExactCheckSheetsCardSaid : Prop := Claim7.holds Tryd.pinned (.plain (OpenSpec.ofChange fnExactCheckSheetsSpec)) fnExactCheckSheetsCard

/-- THE TIED CARD OF 'laws.FnExactRestsOf'. -/
def fnExactRestsOfCard : Claim7 := { stood := { row := fnExactRestsOfRow, standIns := [], harness := (true, "4e8f5ec1440fb620a582273681dc7466ab9830421cf6a26968c38ab1a2663956"), looks := false }, kinds := [], alts := [], laidByText := true, laidKinds := [.data, .pinned], laidTests := true, laidLooks := .later }
def FnExactRestsOfCardSaid : Prop := Claim7.holds Tryd.pinned (.plain (OpenSpec.ofChange fnExactRestsOfSpec)) fnExactRestsOfCard

/-- THE TIED CARD OF 'laws.FnExactFewestSheets'. -/
def fnExactFewestSheetsCard : Claim7 := { stood := { row := fnExactFewestSheetsRow, standIns := [], harness := (true, "4e8f5ec1440fb620a582273681dc7466ab9830421cf6a26968c38ab1a2663956"), looks := false }, kinds := [], alts := [], laidByText := true, laidKinds := [.data, .pinned], laidTests := true, laidLooks := .later }
def FnExactFewestSheetsCardSaid : Prop := Claim7.holds Tryd.pinned (.plain (OpenSpec.ofChange fnExactFewestSheetsSpec)) fnExactFewestSheetsCard

/-- THE TIED CARD OF 'laws.FnExactKeptAt'. -/
def fnExactKeptAtCard : Claim7 := { stood := { row := fnExactKeptAtRow, standIns := [], harness := (true, "4e8f5ec1440fb620a582273681dc7466ab9830421cf6a26968c38ab1a2663956"), looks := false }, kinds := [], alts := [], laidByText := true, laidKinds := [.data, .pinned], laidTests := true, laidLooks := .later }
def FnExactKeptAtCardSaid : Prop := Claim7.holds Tryd.pinned (.plain (OpenSpec.ofChange fnExactKeptAtSpec)) fnExactKeptAtCard

/-- THE TIED CARD OF 'laws.FnExactFillTwo'. -/
def fnExactFillTwoCard : Claim7 := { stood := { row := fnExactFillTwoRow, standIns := [], harness := (true, "4e8f5ec1440fb620a582273681dc7466ab9830421cf6a26968c38ab1a2663956"), looks := false }, kinds := [], alts := [], laidByText := true, laidKinds := [.data, .pinned], laidTests := true, laidLooks := .later }
def FnExactFillTwoCardSaid : Prop := Claim7.holds Tryd.pinned (.plain (OpenSpec.ofChange fnExactFillTwoSpec)) fnExactFillTwoCard

/-- THE SECOND FORM's CARD OF 'laws.FnExactNextSheets'. -/
def fnExactNextSheetsUptoCard : Claim7 := { stood := { row := fnExactNextSheetsUptoRow, standIns := [], harness := (true, "4e8f5ec1440fb620a582273681dc7466ab9830421cf6a26968c38ab1a2663956"), looks := false }, kinds := [], alts := [], laidByText := true, laidKinds := [.data, .pinned], laidTests := true, laidLooks := .later }
def FnExactNextSheetsUptoCardSaid : Prop := Claim7.holds Tryd.pinned (.plain (OpenSpec.upto fnExactNextSheetsSpec)) fnExactNextSheetsUptoCard

/-- THE SECOND FORM's CARD OF 'laws.FnExactFirstSheets'. -/
def fnExactFirstSheetsUptoCard : Claim7 := { stood := { row := fnExactFirstSheetsUptoRow, standIns := [], harness := (true, "4e8f5ec1440fb620a582273681dc7466ab9830421cf6a26968c38ab1a2663956"), looks := false }, kinds := [], alts := [], laidByText := true, laidKinds := [.data, .pinned], laidTests := true, laidLooks := .later }
def FnExactFirstSheetsUptoCardSaid : Prop := Claim7.holds Tryd.pinned (.plain (OpenSpec.upto fnExactFirstSheetsSpec)) fnExactFirstSheetsUptoCard

/-- THE SECOND FORM's CARD OF 'laws.FnExactCheckSheets'. -/
def fnExactCheckSheetsUptoCard : Claim7 := { stood := { row := fnExactCheckSheetsUptoRow, standIns := [], harness := (true, "4e8f5ec1440fb620a582273681dc7466ab9830421cf6a26968c38ab1a2663956"), looks := false }, kinds := [], alts := [], laidByText := true, laidKinds := [.data, .pinned], laidTests := true, laidLooks := .later }
def FnExactCheckSheetsUptoCardSaid : Prop := Claim7.holds Tryd.pinned (.plain (OpenSpec.upto fnExactCheckSheetsSpec)) fnExactCheckSheetsUptoCard

/-- THE SECOND FORM's CARD OF 'laws.FnExactRestsOf'. -/
def fnExactRestsOfUptoCard : Claim7 := { stood := { row := fnExactRestsOfUptoRow, standIns := [], harness := (true, "4e8f5ec1440fb620a582273681dc7466ab9830421cf6a26968c38ab1a2663956"), looks := false }, kinds := [], alts := [], laidByText := true, laidKinds := [.data, .pinned], laidTests := true, laidLooks := .later }
def FnExactRestsOfUptoCardSaid : Prop := Claim7.holds Tryd.pinned (.plain (OpenSpec.upto fnExactRestsOfSpec)) fnExactRestsOfUptoCard

/-- THE SECOND FORM's CARD OF 'laws.FnExactFewestSheets'. -/
def fnExactFewestSheetsUptoCard : Claim7 := { stood := { row := fnExactFewestSheetsUptoRow, standIns := [], harness := (true, "4e8f5ec1440fb620a582273681dc7466ab9830421cf6a26968c38ab1a2663956"), looks := false }, kinds := [], alts := [], laidByText := true, laidKinds := [.data, .pinned], laidTests := true, laidLooks := .later }
def FnExactFewestSheetsUptoCardSaid : Prop := Claim7.holds Tryd.pinned (.plain (OpenSpec.upto fnExactFewestSheetsSpec)) fnExactFewestSheetsUptoCard

/-- THE SECOND FORM's CARD OF 'laws.FnExactKeptAt'. -/
def fnExactKeptAtUptoCard : Claim7 := { stood := { row := fnExactKeptAtUptoRow, standIns := [], harness := (true, "4e8f5ec1440fb620a582273681dc7466ab9830421cf6a26968c38ab1a2663956"), looks := false }, kinds := [], alts := [], laidByText := true, laidKinds := [.data, .pinned], laidTests := true, laidLooks := .later }
def FnExactKeptAtUptoCardSaid : Prop := Claim7.holds Tryd.pinned (.plain (OpenSpec.upto fnExactKeptAtSpec)) fnExactKeptAtUptoCard

/-- THE SECOND FORM's CARD OF 'laws.FnExactFillTwo'. -/
def fnExactFillTwoUptoCard : Claim7 := { stood := { row := fnExactFillTwoUptoRow, standIns := [], harness := (true, "4e8f5ec1440fb620a582273681dc7466ab9830421cf6a26968c38ab1a2663956"), looks := false }, kinds := [], alts := [], laidByText := true, laidKinds := [.data, .pinned], laidTests := true, laidLooks := .later }
def FnExactFillTwoUptoCardSaid : Prop := Claim7.holds Tryd.pinned (.plain (OpenSpec.upto fnExactFillTwoSpec)) fnExactFillTwoUptoCard
end Rows
end Go.Proofs.YtonnplaacebekaaDoor
