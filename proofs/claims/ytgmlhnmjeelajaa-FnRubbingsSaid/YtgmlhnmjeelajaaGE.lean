/- Arguments of a law are opened: integers in arrays; and a law's post is closed. -/
import Derived.Test.YtgmlhnmjeelajaaGA
import Derived.ProofKit
import Derived.OpenShut
import Derived.ShutString
import Derived.ChangeOld
namespace Go.Proofs.Ytgmlhnmjeelajaa
open Go Go.RowKit Go.ChangeShapes Go.WideShapes Go.ChangeAt
set_option linter.unusedVariables false
set_option linter.unusedSimpArgs false
section
variable {H : Type} {enc : TypeId × Value → H} {P : Program} {w : World} {base : Nat} {spare : Nat → Bool} {held : Bool}

theorem okWide_array {r : Reach} {b0 : Nat} {t e : TypeId} {n : Nat} {v : Value} (ht : P.underlying t = some (.array n e)) (h : Value.okWide P w r b0 t v) : ∃ cs, v = .agg cs ∧ cs.size = P.cellsOf t := by
  simp only [Value.okWide, ht] at h
  obtain ⟨cs, h1, h2, _⟩ := h
  exact ⟨cs, h1, h2⟩

/-- An array of integers by value: its numbers, each of its kind. -/
theorem open_arr {r : Reach} {b0 : Nat} {t e : TypeId} {n : Nat} {k : IntKind} {v : Value} {d : DataW H} {p : List MemPlace} (ht : P.underlying t = some (.array n e)) (he : P.underlying e = some (.int k)) (hce : P.cellsOf e = 1) (hct : P.cellsOf t = n)
    (hv : Value.okWide P w r b0 t v) (h : DataW.Trod enc P w base spare held t v d p) :
    ∃ xs : List Int, v = .agg (xs.map (Value.int k)).toArray ∧ xs.length = n ∧ ∀ x ∈ xs, (Lit.int k x).wf = true := by
  obtain ⟨cs, rfl, hsz⟩ := okWide_array ht hv
  obtain ⟨l⟩ := cs
  obtain ⟨fuel, hf⟩ := h
  obtain ⟨ys, m, _, _, hl, hyl, hel⟩ := DataW.trod_array ht hf
  have hl' : l.length = n := by rw [← hct]; simpa [Value.cells] using hl
  have hone : ∀ i, i < n → ∃ x : Int, l[i]? = some (.int k x) ∧ (Lit.int k x).wf = true := by
    intro i hi
    have h1 := hel i hi
    rw [hce, Nat.mul_one] at h1
    have hcut : (l.drop i).take 1 = [l[i]'(by omega)] := by
      rw [List.drop_eq_getElem_cons (by omega)]; rfl
    have h2 : DataW.trod enc P w base spare held m e [l[i]'(by omega)] = ys[i]? := by
      rw [← hcut]; exact h1
    rw [List.getElem?_eq_getElem (by omega)] at h2
    obtain ⟨x, hx, _, hw⟩ := DataW.trod_int he h2
    refine ⟨x, ?_, hw⟩
    rw [List.getElem?_eq_getElem (by omega)]
    simpa using hx
  let g : Value → Int := fun | .int _ x => x | _ => 0
  refine ⟨l.map g, ?_, by simpa using hl', ?_⟩
  · congr 2
    apply List.ext_getElem?
    intro i
    simp only [List.getElem?_map, Option.map_map]
    by_cases hi : i < n
    · obtain ⟨x, hx, _⟩ := hone i hi
      rw [hx]; rfl
    · rw [List.getElem?_eq_none (by omega)]; rfl
  · intro x hx
    obtain ⟨u, hu, rfl⟩ := List.mem_map.1 hx
    obtain ⟨i, hi, rfl⟩ := List.getElem_of_mem hu
    obtain ⟨x, hx', hw⟩ := hone i (by omega)
    rw [List.getElem?_eq_getElem hi] at hx'
    rw [Option.some.inj hx']
    exact hw
end

/-- A rubbing that came in: eight numbers of sixteen bits. -/
theorem open_rub {H : Type} {enc : TypeId × Value → H} {P : Program} {w : World} {base : Nat} {spare : Nat → Bool} {held : Bool} {r : Reach} {b0 : Nat} {t e : TypeId} {v : Value} {d : DataW H} {p : List MemPlace}
    (ht : P.underlying t = some (.array 8 e)) (he : P.underlying e = some (.int .u16)) (hce : P.cellsOf e = 1) (hct : P.cellsOf t = 8) (hv : Value.okWide P w r b0 t v) (h : DataW.Trod enc P w base spare held t v d p) :
    ∃ r : List Nat, v = .agg (r.map u16).toArray ∧ r.length = 8 ∧ ∀ k, rdN r k < 65536 := by
  obtain ⟨xs, rfl, hl, hw⟩ := open_arr ht he hce hct hv h
  have hb : ∀ x ∈ xs, 0 ≤ x ∧ x < 65536 := by
    intro x hx
    have := hw x hx
    simp [Lit.wf, IntKind.min, IntKind.max, IntKind.bits, IntKind.signed] at this
    omega
  refine ⟨xs.map Int.toNat, ?_, by simpa using hl, ?_⟩
  · congr 2
    rw [List.map_map]
    refine List.map_congr_left fun x hx => ?_
    have := hb x hx
    show Value.int .u16 x = Value.int .u16 ((x.toNat : Nat) : Int)
    rw [Int.toNat_of_nonneg this.1]
  · intro k
    unfold rdN
    rw [List.getD, List.getElem?_map]
    cases hq : xs[k]? with
    | none => simp
    | some x =>
      have := hb x (List.mem_of_getElem? hq)
      simp; omega
end Go.Proofs.Ytgmlhnmjeelajaa
