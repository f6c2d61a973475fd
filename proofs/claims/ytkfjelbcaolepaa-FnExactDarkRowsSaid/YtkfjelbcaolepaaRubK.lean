/- Contracts: the dark dots of all rows, by the program and by the reference, as rows of the call's own. -/
import Derived.Test.YtkfjelbcaolepaaRubD
import Derived.Test.YtkfjelbcaolepaaInt
import Derived.Test.YtkfjelbcaolepaaBase2
namespace Go.Proofs.Ytkfjelbcaolepaa
open Go Go.RowKit

/-- The rows' counts. -/
def rowsL (r : List Nat) : List Int := listN (fun y => (rowN r (y : Int) : Int)) 8
theorem rowsL_length (r : List Nat) : (rowsL r).length = 8 := listN_length _ _
theorem rowsL_bits (r : List Nat) : listN (fun y => (cnt (rdN r y).testBit 16 : Int)) 8 = rowsL r := listN_congr fun i hi => by rw [rowN_bits r i hi]

structure SpecRowsRel (r : List Nat) (w wr : World) (v : Value) (k : Nat) : Prop where
  arg : Blk wr w.heap.size 25 (r.map u16)
  own : wr.ownsRow (w.heap.size + 1) 2 1 v k ((listN (fun y => (rowN r (y : Int) : Int)) k).map i64)
  below : Below w.heap.size w wr

set_option maxRecDepth 100000 in
theorem darkRows_spec (r : List Nat) (w : World) (hr : r.length = 8) :
    Calls Try.prog 33 #[.agg (R16 r)] w fun e w' => ∃ v, e = .returned v ∧ w'.ownsRow (w.heap.size + 1) 2 1 v 8 ((rowsL r).map i64) ∧ Below w.heap.size w w' := by
  have hnew : ∀ o, Blk ((w.alloc (.cells (R16 r) 25)).alloc o) w.heap.size 25 (r.map u16) := fun o => (Blk.new w _ _).alloc o
  go_enter Try.func33, Try.ntmps33
  go_wp2
  go_loopw [3, 4] (fun v i wr => ∃ k : Nat, k ≤ 8 ∧ i = .int .i64 k ∧ SpecRowsRel r w wr v k) (fun _ i _ => 8 - (intOf i).toNat)
  case atStart =>
    exact ⟨0, by omega, rfl, hnew _, own_empty _ _ (by rw [World.size_alloc]) _ _ (Nat.le_refl _) 1, ((Below.refl _ w).alloc (Nat.le_refl _) _).alloc (by rw [World.size_alloc]; omega) _⟩
  case round =>
    obtain ⟨k, hk, rfl, h⟩ := hrel
    by_cases hlt : k < 8
    · have hrow := h.arg.row
      have hown := h.own
      have hsz := h.arg.lt
      go_wp2_with (first
        | (go_at_call 64; refine (row_any _ r _ _ hr hrow).mono ?_; rintro e w' ⟨rfl, rfl⟩)
        | (at_builtin; refine wpList_app1 rfl (.tmp 10) (.tmp 13) _ rfl elI64 wr _ u3 k _ rfl hown (.int .i64 (rowN r (k : Int))) _ rfl rfl rfl (by unfold maxLen; omega) (by omega) (by omega) ?_; intro v' w' ho' hg'))
      go_roundw
      case rel =>
        refine ⟨k + 1, by omega, by go_num, h.arg.grown hg' (own_ne hown (by omega)), ?_, below_own h.below hown hg' (by omega) (by omega)⟩
        rw [listN_succ, List.map_append]
        exact ho'
      case measure => simp [intOf]; omega
    · obtain rfl : k = 8 := by omega
      go_wp2
      go_ret
      exact ⟨_, rfl, h.own, h.below⟩

/-- A result that is a row of numbers of the call's own. -/
def OwnOut (w : World) (xs : List Int) (n : Nat) (e : Ending) (w' : World) : Prop :=
  ∃ g c cs, e = .returned (.slice (some ⟨g, 0, none⟩) n c) ∧ w.heap.size ≤ g ∧ Blk w' g 2 (xs.map i64 ++ cs) ∧ Below w.heap.size w w'
theorem ownOut_of {w w' : World} {xs : List Int} {n base : Nat} {v : Value} (hn : 0 < n) (hb : w.heap.size ≤ base) (h : w'.ownsRow base 2 1 v n (xs.map i64)) (hB : Below w.heap.size w w') : OwnOut w xs n (.returned v) w' := by
  obtain ⟨g, c, cs, rfl, hg, hk, _⟩ := own_blk h hn
  exact ⟨g, c, cs, rfl, by omega, hk, hB⟩
theorem darkRows_spec_own (r : List Nat) (w : World) (hr : r.length = 8) : Calls Try.prog 33 #[.agg (R16 r)] w (OwnOut w (rowsL r) 8) :=
  (darkRows_spec r w hr).mono fun _ _ ⟨_, he, ho, hb⟩ => by subst he; exact ownOut_of (by omega) (by omega) ho hb
theorem darkRows_impl_own (r : List Nat) (w : World) (hr : r.length = 8) (hx : ∀ k, rdN r k < 65536) : Calls Try.prog 34 #[.agg (R16 r)] w (OwnOut w (rowsL r) 8) :=
  (darkRows_impl r w hr hx).mono fun _ _ ⟨_, he, ho, hb⟩ => by subst he; rw [← rowsL_bits]; exact ownOut_of (by omega) (by omega) ho hb
theorem below_grownBy {a w w' : World} {g : Nat} (h : Below a.heap.size a w) (hg : w.grownBy w' (some g)) (ha : a.heap.size ≤ g) : Below a.heap.size a w' :=
  h.trans ⟨hg.os, hg.tape, hg.output, hg.size, fun k hk => hg.block k (Nat.lt_of_lt_of_le hk h.size) (by intro e; cases e; omega)⟩
end Go.Proofs.Ytkfjelbcaolepaa
