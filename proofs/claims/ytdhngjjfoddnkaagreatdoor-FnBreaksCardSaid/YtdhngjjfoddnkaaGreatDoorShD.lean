/- Contracts: slices.IndexFunc and slices.ContainsFunc at numbers, over a closure's contract. -/
import Derived.Test.YtdhngjjfoddnkaaGreatDoorShB
import Derived.Shelf.Abstract
namespace Go.Proofs.YtdhngjjfoddnkaaGreatDoor
open Go Go.RowKit Go.Shelf
set_option linter.unusedVariables false
set_option linter.unusedSimpArgs false

/-- What is asked of a closure over numbers: it answers p, and leaves what lay in w. -/
def PredI (g : Nat) (lb : Array Value) (p : Int → Bool) (w : World) : Prop :=
  ∀ (W : World) (x : Int), Below w.heap.size w W → Calls Tryz.prog g (#[.int .i64 x] ++ lb) W fun e w' => e = .returned (.bool (p x)) ∧ Below W.heap.size W w'
/-- The first number that is so, or -1. -/
def idxI (p : Int → Bool) (xs : List Int) : Int := if xs.findIdx p < xs.length then (xs.findIdx p : Int) else -1
theorem idxI_hit {p : Int → Bool} {xs : List Int} {k : Nat} (hk : k < xs.length) (h : p (rdI xs k) = true) (hb : ∀ j, j < k → p (rdI xs j) = false) : idxI p xs = k := by
  have e : xs.findIdx p = k := by
    rw [List.findIdx_eq hk]
    refine ⟨?_, fun j hj => ?_⟩
    · rw [rdI, List.getD, List.getElem?_eq_getElem hk] at h; exact h
    · have := hb j hj
      rw [rdI, List.getD, List.getElem?_eq_getElem (by omega)] at this; exact this
  unfold idxI
  rw [e, if_pos hk]
theorem idxI_none {p : Int → Bool} {xs : List Int} (hb : ∀ j, j < xs.length → p (rdI xs j) = false) : idxI p xs = -1 := by
  unfold idxI
  rw [if_neg]
  intro h
  have h1 := List.findIdx_getElem (w := h)
  have h2 := hb _ h
  rw [rdI, List.getD, List.getElem?_eq_getElem h] at h2
  simp only [Option.getD_some] at h2
  rw [h1] at h2
  cases h2
theorem idxI_any (p : Int → Bool) (xs : List Int) : decide (0 ≤ idxI p xs) = xs.any p := by
  unfold idxI
  cases h : xs.any p
  · rw [if_neg]
    · rfl
    · intro h1
      have := List.findIdx_getElem (w := h1)
      rw [List.any_eq_false] at h
      exact h _ (List.getElem_mem h1) this
  · rw [List.any_eq_true] at h
    obtain ⟨x, hx, hp⟩ := h
    rw [if_pos (List.findIdx_lt_length_of_exists ⟨x, hx, hp⟩)]
    exact decide_eq_true (by omega)
theorem any_rdI {p : Int → Bool} {xs : List Int} : xs.any p = false ↔ ∀ k, k < xs.length → p (rdI xs k) = false := by
  rw [List.any_eq_false]
  constructor
  · intro h k hk
    have := h _ (List.getElem_mem hk)
    rw [rdI, List.getD, List.getElem?_eq_getElem hk]
    simpa using this
  · intro h x hx
    obtain ⟨k, hk, rfl⟩ := List.getElem_of_mem hx
    have := h k hk
    rw [rdI, List.getD, List.getElem?_eq_getElem hk] at this
    simpa using this
theorem idxI_range (p : Int → Bool) (xs : List Int) : -1 ≤ idxI p xs ∧ idxI p xs ≤ xs.length := by
  unfold idxI
  split <;> omega

end Go.Proofs.YtdhngjjfoddnkaaGreatDoor
