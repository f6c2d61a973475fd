/- Contracts: pieces given to the last sheet or the next, by the reference. -/
import Derived.Test.YtdhngjjfoddnkaaGreatDoorShN

namespace Go.Proofs.YtdhngjjfoddnkaaGreatDoor
open Go Go.RowKit
set_option linter.unusedVariables false
set_option linter.unusedSimpArgs false

/-- The sheets of the first k pieces, the last sheet, and what is left of it. -/
def nxt (D : List Int) (wide : Int) : Nat → List Int × Int × Int
  | 0 => ([], -1, 0)
  | k + 1 => if (nxt D wide k).2.2 < rdI D k then ((nxt D wide k).1 ++ [(nxt D wide k).2.1 + 1], (nxt D wide k).2.1 + 1, wide - rdI D k)
    else ((nxt D wide k).1 ++ [(nxt D wide k).2.1], (nxt D wide k).2.1, (nxt D wide k).2.2 - rdI D k)
theorem nxt_yes {D : List Int} {wide : Int} {k : Nat} (h : (nxt D wide k).2.2 < rdI D k) : nxt D wide (k + 1) = ((nxt D wide k).1 ++ [(nxt D wide k).2.1 + 1], (nxt D wide k).2.1 + 1, wide - rdI D k) := by rw [nxt, if_pos h]
theorem nxt_no {D : List Int} {wide : Int} {k : Nat} (h : ¬ (nxt D wide k).2.2 < rdI D k) : nxt D wide (k + 1) = ((nxt D wide k).1 ++ [(nxt D wide k).2.1], (nxt D wide k).2.1, (nxt D wide k).2.2 - rdI D k) := by rw [nxt, if_neg h]
theorem nxt_range {D : List Int} {wide : Int} (h : ∀ k, k < D.length → 1 ≤ rdI D k ∧ rdI D k ≤ wide) : ∀ k, k ≤ D.length → (nxt D wide k).1.length = k ∧ -1 ≤ (nxt D wide k).2.1 ∧ (nxt D wide k).2.1 < k ∧ 0 ≤ (nxt D wide k).2.2 ∧ (nxt D wide k).2.2 ≤ max 0 wide
  | 0, _ => by refine ⟨rfl, ?_, ?_, ?_, ?_⟩ <;> simp [nxt] <;> omega
  | k + 1, hk => by
    obtain ⟨h1, h2, h3, h4, h5⟩ := nxt_range h k (by omega)
    have hp := h k (by omega)
    by_cases hx : (nxt D wide k).2.2 < rdI D k
    · rw [nxt_yes hx]
      refine ⟨by simp [h1], ?_, ?_, ?_, ?_⟩ <;> simp only <;> omega
    · rw [nxt_no hx]
      refine ⟨by simp [h1], ?_, ?_, ?_, ?_⟩ <;> simp only <;> omega
/-- What NextSheets answers. -/
def nextR (f : Fc) (s : Sh) (l : List UInt8) : List Int × Int × Int :=
  if (cutR f s l 60).2 = 0 then ((nxt (cutR f s l 60).1 s.wide (cutR f s l 60).1.length).1, (nxt (cutR f s l 60).1 s.wide (cutR f s l 60).1.length).2.1 + 1, 0)
  else ([], 0, (cutR f s l 60).2)
theorem cutR_zero {f : Fc} {s : Sh} {l : List UInt8} {most : Int} (h : (cutR f s l most).2 = 0) : (1 ≤ s.wide ∧ s.wide ≤ 400) ∧ (∀ k, k < (cutR f s l most).1.length → 1 ≤ rdI (cutR f s l most).1 k ∧ rdI (cutR f s l most).1 k ≤ s.wide) ∧ ((cutR f s l most).1.length : Int) ≤ most := by
  by_cases h0 : shC f s l = 0
  · by_cases hl : most < ((pcs f s.over (lets l)).length : Int)
    · rw [cutR_long h0 hl] at h; exact absurd h (by decide)
    · by_cases hw : ∀ j, j < (pcs f s.over (lets l)).length → rdI (pcs f s.over (lets l)) j ≤ s.wide
      · rw [cutR_ok h0 hl hw]
        obtain ⟨hv, hk, ht⟩ := shC_zero h0
        obtain ⟨k1, k2⟩ := shOk_iff.1 hk
        refine ⟨k1, fun k hk => ⟨(pcs_range (validF_iff.1 hv) k2 (lets_ll (vText_ls ht)) (by rwa [pcs_length] at hk)).1, hw k hk⟩, by simp only; omega⟩
      · have : cutR f s l most = ([], 6) := by unfold cutR; rw [if_pos h0, if_neg hl, if_neg hw]
        rw [this] at h; exact absurd h (by decide)
  · rw [cutR_bad h0] at h; exact absurd h h0
end Go.Proofs.YtdhngjjfoddnkaaGreatDoor
