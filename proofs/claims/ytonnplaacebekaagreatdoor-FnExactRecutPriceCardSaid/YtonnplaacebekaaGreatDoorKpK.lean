/- Contracts: KeptAt, by the reference, by the program. -/
import Derived.Test.YtonnplaacebekaaGreatDoorKpJ
import Derived.Test.YtonnplaacebekaaGreatDoorKpT
import Derived.Test.YtonnplaacebekaaGreatDoorGJ

namespace Go.Proofs.YtonnplaacebekaaGreatDoor
open Go Go.RowKit
set_option linter.unusedVariables false
set_option linter.unusedSimpArgs false

theorem inB_400 {d : Int} (h : inB (-400) 400 d = true) : -400 ≤ d ∧ d ≤ 400 := inB_iff.1 h
theorem kepC_true {f : Fc} {o w : List UInt8} (h : ¬ kepC f o w true = 0) (b : Bool) : kepC f o w b = kepC f o w true := by
  unfold kepC at h ⊢
  split
  · rename_i hh; rw [if_pos hh] at h; simp at h
  · rfl
end Go.Proofs.YtonnplaacebekaaGreatDoor
