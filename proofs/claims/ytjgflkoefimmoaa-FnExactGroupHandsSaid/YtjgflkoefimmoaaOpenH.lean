/- Arguments of a law are opened: slices of slices of numbers. -/
import Derived.Test.YtjgflkoefimmoaaOpenS
import Derived.Test.YtjgflkoefimmoaaHandA
import Derived.Deep.Slices
namespace Go.Proofs.Ytjgflkoefimmoaa
open Go Go.RowKit Go.ChangeShapes Go.WideShapes Go.ChangeAt Go.Deep
/-- A slice of slices of numbers that came in. -/
theorem open_i64ss {H : Type} {enc : TypeId × Value → H} {P : Program} {w : World} {base : Nat} {spare : Nat → Bool} {held : Bool} {r : Reach} {b0 : Nat} {t s e : TypeId} {v : Value} {d : DataW H} {p : List MemPlace}
    (ht : P.underlying t = some (.slice s)) (hs : P.underlying s = some (.slice e)) (he : P.underlying e = some (.int .i64)) (hcs : P.cellsOf s = 1) (hce : P.cellsOf e = 1) (hv : Value.okWide P w r b0 t v) (h : DataW.Trod enc P w base spare held t v d p) :
    ∃ (A : Option Addr) (c : Nat) (hs : List (List Int)) (n : Nat), v = .slice A n c ∧ hs.length = n ∧ n ≤ maxLen ∧ (∀ i, i < n → (rdL hs i).length ≤ maxLen) ∧ Sl2 w A hs := by
  obtain ⟨a0, len, cap, rfl⟩ := okWide_slice ht hv
  obtain ⟨fuel, hf⟩ := h
  rcases open_slice1 ht hcs hf with ⟨hcs, _⟩ | ⟨a, len', cap', m, n, V, D, Pl, hcs, _, hl, hm, hmm, _, hV⟩
  · simp only [Value.cells] at hcs
    cases hcs
    exact ⟨none, 0, [], 0, rfl, rfl, Nat.zero_le _, fun i hi => by omega, Sl2.nil⟩
  · simp only [Value.cells] at hcs
    cases hcs
    have hlm : len ≤ m := by rw [hmm]; split <;> omega
    obtain ⟨X, hX⟩ := choose_lt (α := List Int) (n := len) (p := fun i x => ∃ B c, w.cell? (a.add i) = some (.slice B x.length c) ∧ SlE i64 w B x ∧ x.length ≤ maxLen) (fun i hi => by
      obtain ⟨h1, h2⟩ := hV i (by omega)
      rcases open_ints hs he hce h2 with ⟨h3, _⟩ | ⟨b, l2, c2, zs, h3, _, hl2, hm2, hz, _, hcell, _⟩
      · have hVi : V i = .slice none 0 0 := by simpa using h3
        rw [hVi] at h1
        exact ⟨[], none, 0, h1, SlE.nil, Nat.zero_le _⟩
      · have hVi : V i = .slice (some b) l2 c2 := by simpa using h3
        rw [hVi] at h1
        have hlz : l2 ≤ zs.length := by rw [hz]; split <;> omega
        have hll : (zs.take l2).length = l2 := by simp; omega
        refine ⟨zs.take l2, some b, c2, by rw [hll]; exact h1, fun j x hx => ⟨b, rfl, ?_⟩, by omega⟩
        rw [List.getElem?_take] at hx
        split at hx
        · have hj : j < zs.length := (List.getElem?_eq_some_iff.1 hx).1
          rw [hcell j hj]
          simp [List.getD, hx, i64]
        · cases hx)
    have hrd : ∀ i, i < len → rdL ((List.range len).map X) i = X i := fun i hi => by simp [rdL, List.getD, List.getElem?_map, List.getElem?_range hi]
    refine ⟨some a, cap, (List.range len).map X, len, rfl, by simp, by omega, fun i hi => by rw [hrd i hi]; obtain ⟨_, _, _, _, h3⟩ := hX i hi; exact h3, fun i x hx => ?_⟩
    have hi : i < len := by have := (List.getElem?_eq_some_iff.1 hx).1; simpa using this
    rw [List.getElem?_map, List.getElem?_range hi] at hx
    obtain rfl : X i = x := by simpa using hx
    obtain ⟨B, c, h1, h2, _⟩ := hX i hi
    exact ⟨a, B, c, rfl, h1, h2⟩
end Go.Proofs.Ytjgflkoefimmoaa
