/- Arguments of a law are opened: slices of numbers. -/
import Derived.Test.YtjgflkoefimmoaaBase
import Derived.Test.YtjgflkoefimmoaaOpen
import Derived.ChangeSlices
namespace Go.Proofs.Ytjgflkoefimmoaa
open Go Go.RowKit Go.ChangeShapes Go.WideShapes Go.ChangeAt
/-- A slice of numbers that came in. -/
theorem open_i64s {H : Type} {enc : TypeId × Value → H} {P : Program} {w : World} {base : Nat} {spare : Nat → Bool} {held : Bool} {r : Reach} {b0 : Nat} {t e : TypeId} {v : Value} {d : DataW H} {p : List MemPlace}
    (ht : P.underlying t = some (.slice e)) (he : P.underlying e = some (.int .i64)) (hce : P.cellsOf e = 1) (hv : Value.okWide P w r b0 t v) (h : DataW.Trod enc P w base spare held t v d p) :
    ∃ (A : Option Addr) (c : Nat) (xs : List Int) (n : Nat), v = .slice A n c ∧ xs.length = n ∧ n ≤ maxLen ∧ SlE i64 w A xs := by
  obtain ⟨a0, len, cap, rfl⟩ := okWide_slice ht hv
  obtain ⟨fuel, hf⟩ := h
  rcases open_ints ht he hce hf with ⟨hcs, _⟩ | ⟨a, len', cap', zs, hcs, _, hl, hm, hz, _, hcell, _⟩
  · simp only [Value.cells] at hcs
    cases hcs
    exact ⟨none, 0, [], 0, rfl, rfl, Nat.zero_le _, SlE.nil⟩
  · simp only [Value.cells] at hcs
    cases hcs
    have hlz : len ≤ zs.length := by rw [hz]; split <;> omega
    refine ⟨some a, cap, zs.take len, len, rfl, by simp; omega, by omega, fun i x hx => ⟨a, rfl, ?_⟩⟩
    rw [List.getElem?_take] at hx
    split at hx
    · have hi : i < zs.length := (List.getElem?_eq_some_iff.1 hx).1
      have := hcell i hi
      rw [this]
      simp [List.getD, hx, i64]
    · cases hx
end Go.Proofs.Ytjgflkoefimmoaa
