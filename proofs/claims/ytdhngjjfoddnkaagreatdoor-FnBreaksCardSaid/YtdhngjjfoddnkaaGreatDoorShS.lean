/- Contracts: sheets, by the reference. -/
import Derived.Test.YtdhngjjfoddnkaaGreatDoorShP
import Derived.Test.YtdhngjjfoddnkaaGreatDoorGF
namespace Go.Proofs.YtdhngjjfoddnkaaGreatDoor
open Go Go.RowKit
set_option linter.unusedVariables false
set_option linter.unusedSimpArgs false

/-- A sheet of Go's. -/
structure ShT (s : Sh) : Prop where
  wide : -32768 ≤ s.wide ∧ s.wide ≤ 32767
  over : -128 ≤ s.over ∧ s.over ≤ 127
def shV (s : Sh) : List Value := [.int .i16 s.wide, .int .i8 s.over]
theorem shC_f {f : Fc} {s : Sh} {l : List UInt8} (h : validF f = false) : shC f s l = 1 := by unfold shC; rw [h]; rfl
theorem shC_s {f : Fc} {s : Sh} {l : List UInt8} (h : shOk s = false) : shC f s l = 1 := by unfold shC; rw [h]; simp
theorem shC_t {f : Fc} {s : Sh} {l : List UInt8} (h : vText l = false) : shC f s l = 1 := by unfold shC; rw [h]; simp
theorem shC_ok {f : Fc} {s : Sh} {l : List UInt8} (h : validF f = true) (k : shOk s = true) (t : vText l = true) : shC f s l = 0 := by unfold shC; rw [h, k, t]; rfl
theorem shC_zero {f : Fc} {s : Sh} {l : List UInt8} (h : shC f s l = 0) : validF f = true ∧ shOk s = true ∧ vText l = true := by
  unfold shC at h
  split at h
  · rename_i hh
    simp only [Bool.and_eq_true] at hh
    exact ⟨hh.1.1, hh.1.2, hh.2⟩
  · exact absurd h (by decide)

end Go.Proofs.YtdhngjjfoddnkaaGreatDoor
