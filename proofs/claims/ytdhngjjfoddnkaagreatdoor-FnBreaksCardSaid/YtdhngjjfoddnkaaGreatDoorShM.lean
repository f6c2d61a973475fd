/- Contracts: pieces, by the reference. -/
import Derived.Test.YtdhngjjfoddnkaaGreatDoorShL
import Derived.Test.YtdhngjjfoddnkaaGreatDoorGG
import Derived.Test.YtdhngjjfoddnkaaGreatDoorGH
import Derived.Test.YtdhngjjfoddnkaaGreatDoorGA


namespace Go.Proofs.YtdhngjjfoddnkaaGreatDoor
open Go Go.RowKit
set_option linter.unusedVariables false
set_option linter.unusedSimpArgs false

theorem take_snocI {l : List Int} {k : Nat} (h : k < l.length) : l.take (k + 1) = l.take k ++ [rdI l k] := by
  rw [List.take_add_one, List.getElem?_eq_getElem h]
  unfold rdI
  rw [List.getD, List.getElem?_eq_getElem h]
  rfl
theorem OwnS.low {w : World} {lo lo' hi : Nat} {A : Option Addr} {xs : List Int} (h : OwnS w lo hi A xs) (hl : lo' ≤ lo) : OwnS w lo' hi A xs := fun hn => by
  obtain ⟨g, cs, e, h1, h2, h3⟩ := h hn
  exact ⟨g, cs, e, by omega, h2, h3⟩
theorem rowI_cell {w : World} {a : Addr} {xs : List Int} (h : SlE i64 w (some a) xs) (k : Nat) (hk : k < xs.length) : w.cell? (a.add k) = some (.int .i64 (rdI xs k)) := by
  obtain ⟨a', e, hr⟩ := h.some k hk
  obtain rfl := Option.some.inj e
  exact hr.atI64 k hk
theorem shOk_iff {s : Sh} : shOk s = true ↔ (1 ≤ s.wide ∧ s.wide ≤ 400) ∧ 0 ≤ s.over ∧ s.over ≤ 5 := by
  unfold shOk inB
  simp
theorem wds_text (f : Fc) {l : List UInt8} (h : vText l = true) : wdsA f (words l) (words l).length = (lets l).map fun b => letW f (b.toNat : Int) := by
  rw [wdsA_all f (fun x hx => (words_isW h x hx).1), joinW_words]

end Go.Proofs.YtdhngjjfoddnkaaGreatDoor
