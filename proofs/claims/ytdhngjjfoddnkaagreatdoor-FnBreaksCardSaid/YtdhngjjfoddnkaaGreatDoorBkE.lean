/- How many numbers RightRoom tells. Plain. -/
import Derived.Test.YtdhngjjfoddnkaaGreatDoorGK

namespace Go.Proofs.YtdhngjjfoddnkaaGreatDoor
open Go Go.RowKit
set_option linter.unusedVariables false
set_option linter.unusedSimpArgs false

theorem rrOut_len (f : Fc) (l : List UInt8) (m : Int) (xs : List Int) : (rrOut f l m xs).1.length ≤ 61 := by
  by_cases h : askC f l (inB 0 4000 m) = 0
  · cases k : rightB f (words l) m xs
    · rw [rrOut_bad h k]; exact Nat.zero_le _
    · rw [rrOut_ok h k, lefts_length]
      have h1 := right_told k
      have h2 := words_count (askC_zero h).2.1
      omega
  · rw [rrOut_no h]; exact Nat.zero_le _
end Go.Proofs.YtdhngjjfoddnkaaGreatDoor
