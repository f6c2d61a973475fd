/- Contracts: the code and the pieces of a cut, by the reference. -/
import Derived.Test.YtdhngjjfoddnkaaGreatDoorShM

namespace Go.Proofs.YtdhngjjfoddnkaaGreatDoor
open Go Go.RowKit
set_option linter.unusedVariables false
set_option linter.unusedSimpArgs false

/-- The pieces and the code of a cut. -/
def cutR (f : Fc) (s : Sh) (l : List UInt8) (most : Int) : List Int × Int :=
  if shC f s l = 0 then
    if most < ((pcs f s.over (lets l)).length : Int) then ([], 3)
    else if ∀ k, k < (pcs f s.over (lets l)).length → rdI (pcs f s.over (lets l)) k ≤ s.wide then (pcs f s.over (lets l), 0) else ([], 6)
  else ([], shC f s l)
theorem cutR_bad {f : Fc} {s : Sh} {l : List UInt8} {most : Int} (h : ¬ shC f s l = 0) : cutR f s l most = ([], shC f s l) := by unfold cutR; rw [if_neg h]
theorem cutR_long {f : Fc} {s : Sh} {l : List UInt8} {most : Int} (h : shC f s l = 0) (k : most < ((pcs f s.over (lets l)).length : Int)) : cutR f s l most = ([], 3) := by unfold cutR; rw [if_pos h, if_pos k]
theorem cutR_wide {f : Fc} {s : Sh} {l : List UInt8} {most : Int} (h : shC f s l = 0) (k : ¬ most < ((pcs f s.over (lets l)).length : Int)) {j : Nat} (hj : j < (pcs f s.over (lets l)).length) (hw : s.wide < rdI (pcs f s.over (lets l)) j) : cutR f s l most = ([], 6) := by
  unfold cutR
  rw [if_pos h, if_neg k, if_neg (fun hh => by have := hh j hj; omega)]
theorem cutR_ok {f : Fc} {s : Sh} {l : List UInt8} {most : Int} (h : shC f s l = 0) (k : ¬ most < ((pcs f s.over (lets l)).length : Int)) (hw : ∀ j, j < (pcs f s.over (lets l)).length → rdI (pcs f s.over (lets l)) j ≤ s.wide) : cutR f s l most = (pcs f s.over (lets l), 0) := by
  unfold cutR
  rw [if_pos h, if_neg k, if_pos hw]
def LcOut (w : World) (r : List Int × Int) (e : Ending) (w' : World) : Prop :=
  ∃ A c, e = .returned (.tuple #[.slice A r.1.length c, .int .i64 r.2]) ∧ Below w.heap.size w w' ∧ OwnS w' w.heap.size w'.heap.size A r.1

end Go.Proofs.YtdhngjjfoddnkaaGreatDoor
