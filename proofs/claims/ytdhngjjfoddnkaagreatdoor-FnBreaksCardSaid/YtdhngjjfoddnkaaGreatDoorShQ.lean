/- Contract: pieces given to the last sheet or the next, by the reference. -/
import Derived.Test.YtdhngjjfoddnkaaGreatDoorShO

namespace Go.Proofs.YtdhngjjfoddnkaaGreatDoor
open Go Go.RowKit
set_option linter.unusedVariables false
set_option linter.unusedSimpArgs false

def ShOut (w : World) (r : List Int × Int × Int) (e : Ending) (w' : World) : Prop :=
  ∃ A c, e = .returned (.tuple #[.slice A r.1.length c, .int .i64 r.2.1, .int .i64 r.2.2]) ∧ Below w.heap.size w w' ∧ OwnS w' w.heap.size w'.heap.size A r.1

structure NxRel (W0 w1 wr : World) (v : Value) (A : Option Addr) (D xs : List Int) : Prop where
  own : wr.ownsRow W0.heap.size 2 1 v xs.length (xs.map i64)
  blk : ∃ b, v.ownBlock = some b ∧ (b = W0.heap.size ∨ w1.heap.size ≤ b)
  src : OwnS wr (W0.heap.size + 1) w1.heap.size A D
  below : Below W0.heap.size W0 wr
  size : w1.heap.size ≤ wr.heap.size
theorem NxRel.put {W0 w1 wr w' : World} {v v' : Value} {A : Option Addr} {D xs : List Int} {x : Int} (h : NxRel W0 w1 wr v A D xs) (ho : w'.ownsRow W0.heap.size 2 1 v' (xs.length + 1) (xs.map i64 ++ [.int .i64 x])) (hg : wr.grownBy w' v.ownBlock) (hw : v'.ownBlock = v.ownBlock ∨ ∃ g, wr.heap.size ≤ g ∧ v'.ownBlock = some g) : NxRel W0 w1 w' v' A D (xs ++ [x]) := by
  obtain ⟨b, hb, hb2⟩ := h.blk
  have hs := h.size
  have hgs : wr.heap.size ≤ w'.heap.size := by obtain ⟨_, _, _, hgs, _⟩ := hg; exact hgs
  refine ⟨by rw [List.length_append, List.map_append]; exact ho, ?_, fun hn => ?_, below_own h.below h.own hg (Nat.le_refl _) h.below.size, Nat.le_trans hs hgs⟩
  · rcases hw with e | ⟨g, hg2, e⟩
    · exact ⟨b, by rw [e]; exact hb, hb2⟩
    · exact ⟨g, e, by omega⟩
  · obtain ⟨g, cs, e, h1, h2, h3⟩ := h.src hn
    exact ⟨g, cs, e, h1, h2, h3.grown hg (by rw [hb]; intro e; cases e; omega)⟩

end Go.Proofs.YtdhngjjfoddnkaaGreatDoor
