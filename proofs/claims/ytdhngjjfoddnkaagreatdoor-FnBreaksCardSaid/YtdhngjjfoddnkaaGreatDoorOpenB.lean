/- Arguments of a law are opened: slices of bytes. -/
import Derived.Test.YtdhngjjfoddnkaaGreatDoorGA
import Derived.Test.YtdhngjjfoddnkaaGreatDoorGE
import Derived.ChangeSlices

namespace Go.Proofs.YtdhngjjfoddnkaaGreatDoor
open Go Go.RowKit Go.ChangeShapes Go.WideShapes Go.ChangeAt
set_option linter.unusedVariables false
set_option linter.unusedSimpArgs false
/-- Numbers that are bytes. -/
def Byt (xs : List Int) : Prop := ∀ i, i < xs.length → 0 ≤ rdI xs i ∧ rdI xs i ≤ 255
/-- A slice of bytes that came in. -/
theorem open_u8s {H : Type} {enc : TypeId × Value → H} {P : Program} {w : World} {base : Nat} {spare : Nat → Bool} {held : Bool} {r : Reach} {b0 : Nat} {t e : TypeId} {v : Value} {d : DataW H} {p : List MemPlace}
    (ht : P.underlying t = some (.slice e)) (he : P.underlying e = some (.int .u8)) (hce : P.cellsOf e = 1) (hv : Value.okWide P w r b0 t v) (h : DataW.Trod enc P w base spare held t v d p) :
    ∃ (A : Option Addr) (c : Nat) (xs : List Int) (n : Nat), v = .slice A n c ∧ xs.length = n ∧ n ≤ maxLen ∧ SlE u8 w A xs ∧ Byt xs := by
  obtain ⟨a0, len, cap, rfl⟩ := okWide_slice ht hv
  obtain ⟨fuel, hf⟩ := h
  rcases open_ints ht he hce hf with ⟨hcs, _⟩ | ⟨a, len', cap', zs, hcs, _, hl, hm, hz, _, hcell, hwf⟩
  · simp only [Value.cells] at hcs
    cases hcs
    exact ⟨none, 0, [], 0, rfl, rfl, Nat.zero_le _, SlE.nil, fun i hi => absurd hi (Nat.not_lt_zero _)⟩
  · simp only [Value.cells] at hcs
    cases hcs
    have hlz : len ≤ zs.length := by rw [hz]; split <;> omega
    refine ⟨some a, cap, zs.take len, len, rfl, by simp; omega, by omega, fun i x hx => ⟨a, rfl, ?_⟩, fun i hi => ?_⟩
    · rw [List.getElem?_take] at hx
      split at hx
      · have hi : i < zs.length := (List.getElem?_eq_some_iff.1 hx).1
        have := hcell i hi
        rw [this]
        simp [List.getD, hx, u8]
      · cases hx
    · have hi2 : i < len := by rw [List.length_take] at hi; omega
      have hi3 : i < zs.length := by omega
      have hw := hwf (zs[i]) (List.getElem_mem hi3)
      have e1 : IntKind.min .u8 = 0 := by decide
      have e2 : IntKind.max .u8 = 255 := by decide
      have h2 : (decide (IntKind.min .u8 ≤ zs[i]) && decide (zs[i] ≤ IntKind.max .u8)) = true := hw
      rw [e1, e2, Bool.and_eq_true, decide_eq_true_iff, decide_eq_true_iff] at h2
      have e3 : rdI (zs.take len) i = zs[i] := by
        unfold rdI
        rw [List.getD_eq_getElem?_getD, List.getElem?_take, if_pos hi2, List.getElem?_eq_getElem hi3]; rfl
      rw [e3]; exact h2
end Go.Proofs.YtdhngjjfoddnkaaGreatDoor
