/- Arguments of a law are opened: slices of rubbings. -/
import Derived.Test.YtkfjelbcaolepaaOpen
import Derived.Test.YtkfjelbcaolepaaJoinA
import Derived.Deep.Slices
namespace Go.Proofs.Ytkfjelbcaolepaa
open Go Go.RowKit Go.ChangeShapes Go.WideShapes Go.ChangeAt Go.Deep
/-- The cells of an array of integers. -/
theorem arr_cells {H : Type} {enc : TypeId × Value → H} {P : Program} {w : World} {base : Nat} {spare : Nat → Bool} {held : Bool} {t e : TypeId} {n fuel : Nat} {k : IntKind} {l : List Value} {x : DataW H × List MemPlace}
    (ht : P.underlying t = some (.array n e)) (he : P.underlying e = some (.int k)) (hce : P.cellsOf e = 1) (hf : DataW.trod enc P w base spare held fuel t l = some x) (hl' : l.length = n) :
    ∃ xs : List Int, l = xs.map (Value.int k) ∧ xs.length = n ∧ ∀ x ∈ xs, (Lit.int k x).wf = true := by
  obtain ⟨ys, m, _, _, hl, hyl, hel⟩ := DataW.trod_array ht hf
  have hone : ∀ i, i < n → ∃ x : Int, l[i]? = some (.int k x) ∧ (Lit.int k x).wf = true := by
    intro i hi
    have h1 := hel i hi
    rw [hce, Nat.mul_one] at h1
    have hcut : (l.drop i).take 1 = [l[i]'(by omega)] := by
      rw [List.drop_eq_getElem_cons (by omega)]; rfl
    have h2 : DataW.trod enc P w base spare held m e [l[i]'(by omega)] = ys[i]? := by
      rw [← hcut]; exact h1
    rw [List.getElem?_eq_getElem (by omega)] at h2
    obtain ⟨x, hx, _, hw⟩ := DataW.trod_int he h2
    refine ⟨x, ?_, hw⟩
    rw [List.getElem?_eq_getElem (by omega)]
    simpa using hx
  let g : Value → Int := fun | .int _ x => x | _ => 0
  refine ⟨l.map g, ?_, by simpa using hl', ?_⟩
  · apply List.ext_getElem?
    intro i
    simp only [List.getElem?_map, Option.map_map]
    by_cases hi : i < n
    · obtain ⟨x, hx, _⟩ := hone i hi
      rw [hx]; rfl
    · rw [List.getElem?_eq_none (by omega)]; rfl
  · intro x hx
    obtain ⟨u, hu, rfl⟩ := List.mem_map.1 hx
    obtain ⟨i, hi, rfl⟩ := List.getElem_of_mem hu
    obtain ⟨x, hx', hw⟩ := hone i (by omega)
    rw [List.getElem?_eq_getElem hi] at hx'
    rw [Option.some.inj hx']
    exact hw

/-- A slice of rubbings that came in. -/
theorem open_rubs {H : Type} {enc : TypeId × Value → H} {P : Program} {w : World} {base : Nat} {spare : Nat → Bool} {held : Bool} {r : Reach} {b0 : Nat} {t s e : TypeId} {v : Value} {d : DataW H} {p : List MemPlace}
    (ht : P.underlying t = some (.slice s)) (hs : P.underlying s = some (.array 8 e)) (he : P.underlying e = some (.int .u16)) (hcs : P.cellsOf s = 8) (hce : P.cellsOf e = 1) (hv : Value.okWide P w r b0 t v) (h : DataW.Trod enc P w base spare held t v d p) :
    ∃ (A : Option Addr) (c : Nat) (rs : List (List Nat)) (n : Nat), v = .slice A n c ∧ Rubs rs n ∧ n ≤ maxLen ∧ Sl8 w A rs := by
  obtain ⟨a0, len, cap, rfl⟩ := okWide_slice ht hv
  obtain ⟨fuel, hf⟩ := h
  rcases open_slice ht hf with ⟨hcs, _⟩ | ⟨a, len', cap', m, n, D, Pl, hcv, _, hl, hm, hmm, _, hV⟩
  · simp only [Value.cells] at hcs
    cases hcs
    exact ⟨none, 0, [], 0, rfl, ⟨rfl, fun i hi => by omega⟩, Nat.zero_le _, Sl8.nil⟩
  · simp only [Value.cells] at hcv
    cases hcv
    have hlm : len ≤ m := by rw [hmm]; split <;> omega
    obtain ⟨X, hX⟩ := choose_lt (α := List Nat) (n := len) (p := fun i x => (x.length = 8 ∧ ∀ k, rdN x k < 65536) ∧ RowE u16 w (a.add (i * 8)) x) (fun i hi => by
      obtain ⟨cs', h1, h2⟩ := hV i (by omega)
      rw [hcs] at h1
      obtain ⟨_, hlen, hcell⟩ := World.cells?_some h1
      obtain ⟨xs, rfl, hxl, hwf⟩ := arr_cells hs he hce h2 hlen
      have hb : ∀ x ∈ xs, 0 ≤ x ∧ x < 65536 := by
        intro x hx
        have := hwf x hx
        simp [Lit.wf, IntKind.min, IntKind.max, IntKind.bits, IntKind.signed] at this
        omega
      refine ⟨xs.map Int.toNat, ⟨by simpa using hxl, fun k => ?_⟩, fun j x hj => ?_⟩
      · unfold rdN
        rw [List.getD, List.getElem?_map]
        cases hq : xs[k]? with
        | none => simp
        | some x =>
          have := hb x (List.mem_of_getElem? hq)
          simp; omega
      · rw [List.getElem?_map] at hj
        obtain ⟨y, hy, rfl⟩ := Option.map_eq_some_iff.1 hj
        have h4 := hb y (List.mem_of_getElem? hy)
        have hjl : j < 8 := by rw [← hxl]; exact (List.getElem?_eq_some_iff.1 hy).1
        rw [hcell j hjl, List.getElem?_map, hy]
        show some (Value.int .u16 y) = some (Value.int .u16 ((y.toNat : Nat) : Int))
        rw [Int.toNat_of_nonneg h4.1])
    have hrd : ∀ i, i < len → rdR ((List.range len).map X) i = X i := fun i hi => by simp [rdR, List.getD, List.getElem?_map, List.getElem?_range hi]
    refine ⟨some a, cap, (List.range len).map X, len, rfl, ⟨by simp, fun i hi => by rw [hrd i hi]; exact (hX i hi).1⟩, by omega, fun i x hx => ?_⟩
    have hi : i < len := by have := (List.getElem?_eq_some_iff.1 hx).1; simpa using this
    rw [List.getElem?_map, List.getElem?_range hi] at hx
    obtain rfl : X i = x := by simpa using hx
    exact ⟨a, rfl, (hX i hi).2⟩
end Go.Proofs.Ytkfjelbcaolepaa
