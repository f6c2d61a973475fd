/- The gaps of a word. No walk here. -/
import Derived.Test.YtjgflkoefimmoaaDoorFcP
namespace Go.Proofs.YtjgflkoefimmoaaDoor
open Go Go.RowKit
set_option linter.unusedVariables false
set_option linter.unusedSimpArgs false
/-- The gaps ahead of the letters below k. -/
def gapsW (f : Fc) (l : List UInt8) : Nat → List Int
  | 0 => []
  | k + 1 => if k = 0 then [] else gapsW f l k ++ [f.gap + byP f.pairs (byt l (k - 1)) (byt l k)]
theorem gapsW_one (f : Fc) (l : List UInt8) : gapsW f l 1 = [] := by simp [gapsW]
theorem gapsW_succ {f : Fc} {l : List UInt8} {k : Nat} (h : k ≠ 0) : gapsW f l (k + 1) = gapsW f l k ++ [f.gap + byP f.pairs (byt l (k - 1)) (byt l k)] := by rw [gapsW, if_neg h]
theorem gapsW_length (f : Fc) (l : List UInt8) (k : Nat) : (gapsW f l k).length ≤ k := by
  induction k with
  | zero => exact Nat.le_refl _
  | succ k ih => rw [gapsW]; split <;> simp <;> omega
def gapsOut (f : Fc) (l : List UInt8) : List Int × Int := if validF f && (vText l && isW l) then (gapsW f l l.length, 0) else ([], 1)
theorem gapsOut_f {f : Fc} {l : List UInt8} (h : validF f = false) : gapsOut f l = ([], 1) := by unfold gapsOut; rw [h]; rfl
theorem gapsOut_t {f : Fc} {l : List UInt8} (h : vText l = false) : gapsOut f l = ([], 1) := by unfold gapsOut; rw [h]; simp
theorem gapsOut_w {f : Fc} {l : List UInt8} (h : isW l = false) : gapsOut f l = ([], 1) := by unfold gapsOut; rw [h]; simp
theorem gapsOut_ok {f : Fc} {l : List UInt8} (h1 : validF f = true) (h2 : vText l = true) (h3 : isW l = true) : gapsOut f l = (gapsW f l l.length, 0) := by unfold gapsOut; rw [h1, h2, h3]; rfl
theorem gapsOut_len (f : Fc) (l : List UInt8) : (gapsOut f l).1.length ≤ 60 := by
  unfold gapsOut
  split
  · rename_i h
    simp only [Bool.and_eq_true] at h
    have := (vText_iff.1 h.2.1).2
    have := gapsW_length f l l.length
    simp; omega
  · simp
end Go.Proofs.YtjgflkoefimmoaaDoor
