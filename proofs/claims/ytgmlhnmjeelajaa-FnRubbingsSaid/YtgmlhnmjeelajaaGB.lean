/- Contracts: the laws' own loops over a slice of numbers: equal, mark, held. -/
import Derived.Test.YtgmlhnmjeelajaaProg
import Derived.Test.YtgmlhnmjeelajaaGA
import Derived.Outline
namespace Go.Proofs.Ytgmlhnmjeelajaa
open Go Go.RowKit
set_option linter.unusedVariables false
set_option linter.unusedSimpArgs false

theorem ret_bool' {a b : Bool} (h : a = b) : Ending.returned (.bool a) = .returned (.bool b) := by rw [h]
theorem ret_int' {k : IntKind} {a b : Int} (h : a = b) : Ending.returned (.int k a) = .returned (.int k b) := by rw [h]

/-- A row of numbers of the call's own: where it lies. -/
theorem own_blk {w : World} {base : Nat} {e : TypeId} {v : Value} {n : Nat} {xs : List Value} (h : w.ownsRow base e 1 v n xs) (hn : 0 < n) :
    ∃ g c cs, v = .slice (some ⟨g, 0, none⟩) n c ∧ base ≤ g ∧ Blk w g e (xs ++ cs) ∧ xs.length = n := by
  obtain ⟨hl, h⟩ := h
  rcases h with ⟨_, rfl⟩ | ⟨g, cap, cur, rfl, hg, hh, hc, hm, hs, ht⟩
  · omega
  · refine ⟨g, cap, cur.toList.drop n, rfl, hg, ?_, by omega⟩
    unfold Blk
    rw [← ht, Nat.mul_one, List.take_append_drop]
    simpa using hh

theorem Blk.head {α : Type} {enc : α → Value} {w : World} {b : Nat} {t : TypeId} {xs : List α} {cs : List Value} (h : Blk w b t (xs.map enc ++ cs)) : RowE enc w ⟨b, 0, none⟩ xs := by
  intro i x hx
  have hadd : (⟨b, 0, none⟩ : Addr).add i = ⟨b, i, none⟩ := by unfold Addr.add; split <;> simp_all
  rw [hadd]
  refine h.cell i _ ?_
  have hi : i < xs.length := (List.getElem?_eq_some_iff.1 hx).1
  rw [List.getElem?_append_left (by simpa using hi), List.getElem?_map, hx]; rfl

theorem grown_set {w w' : World} {g : Nat} (h : w.grownBy w' (some g)) (i : Nat) (v : Value) : w.grownBy (w'.setCell ⟨g, i, none⟩ v) (some g) :=
  ⟨h.os, h.tape, h.output, by simpa using h.size, fun k hk hne => by rw [heap_setCell_other w' ⟨g, i, none⟩ k v (fun e => hne (by rw [e]))]; exact h.block k hk hne⟩
theorem grown_refl (w : World) (r : Option Nat) : w.grownBy w r := ⟨rfl, rfl, rfl, Nat.le_refl _, fun _ _ _ => rfl⟩

structure EqRel (A B : Option Addr) (xs : List Int) (w wr : World) : Prop where
  one : SlE i64 wr A xs
  two : SlE i64 wr B xs
  drew : ∃ m, wr = w.drewN m

/-- The row after its first j cells have been marked. -/
def markV (k : Int) (vs : List Value) (j : Nat) : List Value := (List.range j).map (fun (i : Nat) => i64 (k + (i : Int))) ++ vs.drop j
theorem markV_zero (k : Int) (vs : List Value) : markV k vs 0 = vs := by simp [markV]
theorem markV_set (k : Int) (vs : List Value) (j : Nat) (hj : j < vs.length) : (markV k vs j).set j (.int .i64 (k + (j : Int))) = markV k vs (j + 1) := by
  unfold markV
  rw [List.set_append_right _ _ (by simp), List.range_succ, List.map_append, List.length_map, List.length_range, Nat.sub_self, List.drop_eq_getElem_cons hj, List.set_cons_zero, List.append_assoc]
  rfl
theorem markV_at (k : Int) (vs : List Value) (j : Nat) (hj : j < vs.length) : (markV k vs j)[j]? = some vs[j] := by
  unfold markV
  rw [List.getElem?_append_right (by simp), List.drop_eq_getElem_cons hj]
  simp

/-- Numbers that count on from k. -/
def fromN (k : Int) (n : Nat) : List Int := (List.range n).map fun (i : Nat) => k + (i : Int)
theorem fromN_length (k : Int) (n : Nat) : (fromN k n).length = n := by simp [fromN]
theorem fromN_at (k : Int) (n i : Nat) (hi : i < n) : rdI (fromN k n) i = k + (i : Int) := by
  simp [rdI, fromN, List.getD, List.getElem?_map, List.getElem?_range hi]
theorem mark_row {w : World} {g : Nat} {t : TypeId} {k : Int} {vs : List Value} {n : Nat} (h : Blk w g t (markV k vs n)) : RowE i64 w ⟨g, 0, none⟩ (fromN k n) := by
  refine Blk.head (cs := vs.drop n) (t := t) ?_
  have e : (fromN k n).map i64 ++ vs.drop n = markV k vs n := by unfold fromN markV; rw [List.map_map]; rfl
  rw [e]; exact h

structure MarkRel (g : Nat) (t : TypeId) (k : Int) (vs : List Value) (w wr : World) (j : Nat) : Prop where
  blk : Blk wr g t (markV k vs j)
  grown : w.grownBy wr (some g)

end Go.Proofs.Ytgmlhnmjeelajaa
