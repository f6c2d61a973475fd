/- Contracts: a rubbing wears once, by the reference. -/
import Derived.Test.YtgmlhnmjeelajaaRubG

namespace Go.Proofs.Ytgmlhnmjeelajaa
open Go Go.RowKit
set_option linter.unusedVariables false
set_option linter.unusedSimpArgs false

/-- Is the place number t of the nine around a dot dark. -/
def nbK (r : List Nat) (y x t : Nat) : Bool := dk r ((x : Int) + ((t % 3 : Nat) : Int) - 1) ((y : Int) + ((t / 3 : Nat) : Int) - 1)
theorem nbK_at (r : List Nat) (y x d e : Nat) (he : e < 3) : nbK r y x (3 * d + e) = dk r ((x : Int) + ((e : Int) - 1)) ((y : Int) + ((d : Int) - 1)) := by
  unfold nbK
  have h1 : (3 * d + e) % 3 = e := by omega
  have h2 : (3 * d + e) / 3 = d := by omega
  rw [h1, h2, Int.add_sub_assoc, Int.add_sub_assoc]
/-- How many of the nine are dark. -/
def nbN (r : List Nat) (y x : Nat) : Nat := cnt (nbK r y x) 9
def stays (r : List Nat) (need : Int) (y x : Nat) : Bool := dk r x y && decide (need ≤ (nbN r y x : Int) - 1)
/-- A rubbing that has worn once. -/
def wearR (r : List Nat) (need : Int) : List Nat := gridR (stays r need)
theorem wearR_length (r : List Nat) (need : Int) : (wearR r need).length = 8 := gridR_length _

end Go.Proofs.Ytgmlhnmjeelajaa
