/- Arguments of a law are opened: a slice of shorts. -/
import Derived.Test.YtnlnjpdnhdmndaaGreatDoorGE
import Derived.Test.YtnlnjpdnhdmndaaGreatDoorSoF
namespace Go.Proofs.YtnlnjpdnhdmndaaGreatDoor
open Go Go.RowKit Go.ChangeShapes Go.WideShapes Go.ChangeAt Go.Deep
set_option linter.unusedVariables false
set_option linter.unusedSimpArgs false

set_option maxRecDepth 100000 in
/-- Shorts that came in. -/
theorem open_shorts {H : Type} {enc : TypeId × Value → H} {w : World} {base : Nat} {spare : Nat → Bool} {held : Bool} {r : Reach} {b0 : Nat} {v : Value} {d : DataW H} {p : List MemPlace}
    (hv : Value.okWide Tryz.prog w r b0 27 v) (h : DataW.Trod enc Tryz.prog w base spare held 27 v d p) :
    ∃ (A : Option Addr) (c : Nat) (ps : List Sr) (n : Nat), v = .slice A n c ∧ ps.length = n ∧ n ≤ maxLen ∧ SlR w A ps ∧ SrB ps 9223372036854775807 := by
  obtain ⟨a0, len0, cap0, rfl⟩ := okWide_slice Tryz.underlying27 hv
  obtain ⟨fuel, hf⟩ := h
  rcases open_slice_fields Tryz.underlying27 Tryz.underlying49 (by kernel_rfl) (by kernel_rfl) hf with ⟨hcs, _⟩ | ⟨a, len, cap, k, D, Pl, hcs, _, hle, hmx, hk, _, hel⟩
  · simp only [Value.cells] at hcs
    cases hcs
    exact ⟨none, 0, [], 0, rfl, rfl, Nat.zero_le _, SlR.nil, fun i hi => by simp at hi⟩
  · simp only [Value.cells] at hcs
    cases hcs
    have hlk : len0 ≤ k := by rw [hk]; split <;> omega
    have hone : ∀ i, i < len0 → ∃ q : Sr, (q.lo.length ≤ 9223372036854775807 ∧ q.sh.length ≤ 9223372036854775807) ∧ RowV w (a.add (i * 2)) (srV q) := by
      intro i hi
      obtain ⟨ys, m', _, _, _, hfs⟩ := hel i (by omega)
      obtain ⟨v0, z0, hc0, _, ht0⟩ := hfs 0 _ rfl
      obtain ⟨v1, z1, hc1, _, ht1⟩ := hfs 1 _ rfl
      obtain ⟨q0, e0, _, r0⟩ := DataW.trod_string Tryz.underlying9 ht0
      obtain ⟨q1, e1, _, r1⟩ := DataW.trod_string Tryz.underlying9 ht1
      simp only [List.cons.injEq, and_true] at e0 e1
      subst e0 e1
      unfold maxLen at r0 r1
      refine ⟨⟨bs q0, bs q1⟩, ⟨by show (bs q0).length ≤ _; rw [bs_length]; omega, by show (bs q1).length ≤ _; rw [bs_length]; omega⟩, fun j u hu => ?_⟩
      rw [add_addr]
      have hj : j = 0 ∨ j = 1 := by
        have := (List.getElem?_eq_some_iff.1 hu).1
        simp [srV] at this; omega
      rcases hj with rfl | rfl
      · simp [srV] at hu; subst hu; exact hc0
      · simp [srV] at hu; subst hu; exact hc1
    obtain ⟨g, hg⟩ := choose_lt hone
    have hrd : ∀ i, i < len0 → rdSr ((List.range len0).map g) i = g i := fun i hi => by simp [rdSr, List.getD, List.getElem?_map, List.getElem?_range hi]
    refine ⟨some a, cap0, (List.range len0).map g, len0, rfl, by simp, by omega, fun i q hq => ?_, fun i hi => ?_⟩
    · have hi : i < len0 := by have := (List.getElem?_eq_some_iff.1 hq).1; simpa using this
      rw [List.getElem?_map, List.getElem?_range hi] at hq
      obtain rfl : g i = q := by simpa using hq
      exact ⟨a, rfl, (hg i hi).2⟩
    · have hi : i < len0 := by simpa using hi
      rw [hrd i hi]; exact (hg i hi).1
end Go.Proofs.YtnlnjpdnhdmndaaGreatDoor
