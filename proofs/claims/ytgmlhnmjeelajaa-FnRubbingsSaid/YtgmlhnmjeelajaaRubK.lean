/- Contracts: the dark dots of all rows, by the program and by the reference, as rows of the call's own. -/
import Derived.Test.YtgmlhnmjeelajaaRubD
import Derived.Test.YtgmlhnmjeelajaaGB
import Derived.Test.YtgmlhnmjeelajaaGA

namespace Go.Proofs.Ytgmlhnmjeelajaa
open Go Go.RowKit
set_option linter.unusedVariables false
set_option linter.unusedSimpArgs false

/-- The rows' counts. -/
def rowsL (r : List Nat) : List Int := listN (fun y => (rowN r (y : Int) : Int)) 8
theorem rowsL_length (r : List Nat) : (rowsL r).length = 8 := listN_length _ _
theorem rowsL_bits (r : List Nat) : listN (fun y => (cnt (rdN r y).testBit 16 : Int)) 8 = rowsL r := listN_congr fun i hi => by rw [rowN_bits r i hi]

structure SpecRowsRel (r : List Nat) (w wr : World) (v : Value) (k : Nat) : Prop where
  arg : Blk wr w.heap.size 26 (r.map u16)
  own : wr.ownsRow (w.heap.size + 1) 2 1 v k ((listN (fun y => (rowN r (y : Int) : Int)) k).map i64)
  below : Below w.heap.size w wr

/-- A result that is a row of numbers of the call's own. -/
def OwnOut (w : World) (xs : List Int) (n : Nat) (e : Ending) (w' : World) : Prop :=
  ∃ g c cs, e = .returned (.slice (some ⟨g, 0, none⟩) n c) ∧ w.heap.size ≤ g ∧ Blk w' g 2 (xs.map i64 ++ cs) ∧ Below w.heap.size w w'
theorem ownOut_of {w w' : World} {xs : List Int} {n base : Nat} {v : Value} (hn : 0 < n) (hb : w.heap.size ≤ base) (h : w'.ownsRow base 2 1 v n (xs.map i64)) (hB : Below w.heap.size w w') : OwnOut w xs n (.returned v) w' := by
  obtain ⟨g, c, cs, rfl, hg, hk, _⟩ := own_blk h hn
  exact ⟨g, c, cs, rfl, by omega, hk, hB⟩
theorem darkRows_impl_own (r : List Nat) (w : World) (hr : r.length = 8) (hx : ∀ k, rdN r k < 65536) : Calls Try.prog 12 #[.agg (R16 r)] w (OwnOut w (rowsL r) 8) :=
  (darkRows_impl r w hr hx).mono fun _ _ ⟨_, he, ho, hb⟩ => by subst he; rw [← rowsL_bits]; exact ownOut_of (by omega) (by omega) ho hb
theorem below_grownBy {a w w' : World} {g : Nat} (h : Below a.heap.size a w) (hg : w.grownBy w' (some g)) (ha : a.heap.size ≤ g) : Below a.heap.size a w' :=
  h.trans ⟨hg.os, hg.tape, hg.output, hg.size, fun k hk => hg.block k (Nat.lt_of_lt_of_le hk h.size) (by intro e; cases e; omega)⟩
end Go.Proofs.Ytgmlhnmjeelajaa
