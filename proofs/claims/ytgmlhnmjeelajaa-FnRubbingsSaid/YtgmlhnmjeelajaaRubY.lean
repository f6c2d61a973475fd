/- Contracts: a rubbing wears once, and until few dots are left, by both. -/
import Derived.Test.YtgmlhnmjeelajaaRubX
import Derived.Test.YtgmlhnmjeelajaaGA
namespace Go.Proofs.Ytgmlhnmjeelajaa
open Go Go.RowKit
set_option linter.unusedVariables false
set_option linter.unusedSimpArgs false

/-- What WearOnce returns: the rubbing, the code. -/
def wearOut (r : List Nat) (need : Int) : List Nat × Int := if inB 0 8 need then (wearR r need, 0) else (zR, 2)
theorem wearOut_yes {r : List Nat} {need : Int} (h : inB 0 8 need = true) : wearOut r need = (wearR r need, 0) := by simp [wearOut, h]
theorem wearOut_no {r : List Nat} {need : Int} (h : inB 0 8 need = false) : wearOut r need = (zR, 2) := by simp [wearOut, h]
theorem wearOut_length (r : List Nat) (need : Int) : (wearOut r need).1.length = 8 := by
  cases hm : inB 0 8 need
  · rw [wearOut_no hm]; exact zR_length
  · rw [wearOut_yes hm]; exact wearR_length r need
end Go.Proofs.Ytgmlhnmjeelajaa
