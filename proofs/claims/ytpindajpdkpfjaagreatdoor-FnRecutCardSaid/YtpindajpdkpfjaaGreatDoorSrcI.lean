/- Contracts: a face, a word, a rubbing and hands that are drawn from bytes. -/
import Derived.Test.YtpindajpdkpfjaaGreatDoorSrcG
import Derived.Test.YtpindajpdkpfjaaGreatDoorSrcH
import Derived.BigRegion

namespace Go.Proofs.YtpindajpdkpfjaaGreatDoor
open Go Go.RowKit
set_option linter.unusedVariables false
set_option linter.unusedSimpArgs false

theorem below_drawn {w w1 w2 : World} {b : Nat} (h1 : Below w.heap.size w w1) (hg : w1.grownBy w2 (some b)) (hb : w.heap.size ≤ b) : Below w.heap.size w w2 :=
  h1.trans ⟨hg.os, hg.tape, hg.output, hg.size, fun k hk => hg.block k (by have := h1.size; omega) (by intro e; injection e with e; omega)⟩
/-- A face in memory. -/
def HasF (w : World) (f : Fc) (S : Value) : Prop := FcT f ∧ ∃ A n c, S = .slice A n c ∧ f.pairs.length = n ∧ n ≤ 12 ∧ SlP w A f.pairs
theorem HasF.next {w w' : World} {f : Fc} {S : Value} (h : HasF w f S) (hb : Below w.heap.size w w') : HasF w' f S := by
  obtain ⟨h1, A, n, c, e, h2, h3, h4⟩ := h
  exact ⟨h1, A, n, c, e, h2, h3, h4.next hb⟩
theorem FcD.has {w : World} {b : Nat} {f : Fc} {S : Value} (h : FcD w b f S) (hv : validF f = true) : HasF w f S := by
  obtain ⟨h1, A, n, c, e, h2, h3, h4, h5⟩ := h
  exact ⟨h1, A, n, c, e, h2, by have := (validF_iff.1 hv).few; omega, h4⟩

end Go.Proofs.YtpindajpdkpfjaaGreatDoor
