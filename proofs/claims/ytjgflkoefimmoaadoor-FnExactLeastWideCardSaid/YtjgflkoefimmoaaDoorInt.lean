/- Contracts: the laws' own loops over a slice of numbers: equal, mark, held. -/
import Derived.Test.YtjgflkoefimmoaaDoorProg
import Derived.Test.YtjgflkoefimmoaaDoorBase
import Derived.Outline
namespace Go.Proofs.YtjgflkoefimmoaaDoor
open Go Go.RowKit
set_option linter.unusedVariables false
set_option linter.unusedSimpArgs false

theorem ret_bool' {a b : Bool} (h : a = b) : Ending.returned (.bool a) = .returned (.bool b) := by rw [h]
theorem ret_int' {k : IntKind} {a b : Int} (h : a = b) : Ending.returned (.int k a) = .returned (.int k b) := by rw [h]

/-- A row of numbers of the call's own: where it lies. -/
theorem own_blk {w : World} {base : Nat} {e : TypeId} {v : Value} {n : Nat} {xs : List Value} (h : w.ownsRow base e 1 v n xs) (hn : 0 < n) :
    ∃ g c cs, v = .slice (some ⟨g, 0, none⟩) n c ∧ base ≤ g ∧ Blk w g e (xs ++ cs) ∧ xs.length = n := by
  obtain ⟨hl, h⟩ := h
  rcases h with ⟨_, rfl⟩ | ⟨g, cap, cur, rfl, hg, hh, hc, hm, hs, ht⟩
  · omega
  · refine ⟨g, cap, cur.toList.drop n, rfl, hg, ?_, by omega⟩
    unfold Blk
    rw [← ht, Nat.mul_one, List.take_append_drop]
    simpa using hh

theorem Blk.head {α : Type} {enc : α → Value} {w : World} {b : Nat} {t : TypeId} {xs : List α} {cs : List Value} (h : Blk w b t (xs.map enc ++ cs)) : RowE enc w ⟨b, 0, none⟩ xs := by
  intro i x hx
  have hadd : (⟨b, 0, none⟩ : Addr).add i = ⟨b, i, none⟩ := by unfold Addr.add; split <;> simp_all
  rw [hadd]
  refine h.cell i _ ?_
  have hi : i < xs.length := (List.getElem?_eq_some_iff.1 hx).1
  rw [List.getElem?_append_left (by simpa using hi), List.getElem?_map, hx]; rfl

theorem grown_set {w w' : World} {g : Nat} (h : w.grownBy w' (some g)) (i : Nat) (v : Value) : w.grownBy (w'.setCell ⟨g, i, none⟩ v) (some g) :=
  ⟨h.os, h.tape, h.output, by simpa using h.size, fun k hk hne => by rw [heap_setCell_other w' ⟨g, i, none⟩ k v (fun e => hne (by rw [e]))]; exact h.block k hk hne⟩
theorem grown_refl (w : World) (r : Option Nat) : w.grownBy w r := ⟨rfl, rfl, rfl, Nat.le_refl _, fun _ _ _ => rfl⟩

structure EqRel (A B : Option Addr) (xs : List Int) (w wr : World) : Prop where
  one : SlE i64 wr A xs
  two : SlE i64 wr B xs
  drew : ∃ m, wr = w.drewN m

set_option maxRecDepth 100000 in
/-- Two slices of the same numbers are equal. -/
theorem eqInt64S_same (A B : Option Addr) (c d : Nat) (xs : List Int) (n : Nat) (w : World) (hn : xs.length = n) (hm : n ≤ maxLen) (ha : SlE i64 w A xs) (hb : SlE i64 w B xs) :
    Calls Tryd.prog 16 #[.slice A n c, .slice B n d] w fun e w' => e = .returned (.bool true) ∧ ∃ m, w' = w.drewN m := by
  have HN := Lib.hid hn
  clear hn
  unfold maxLen at hm
  have h0 : ((n : Int) != (n : Int)) = false := by simp
  go_enter Tryd.func16, Tryd.ntmps16
  go_wp2
  go_loopw [5] (fun i wr => ∃ k : Nat, k ≤ n ∧ i = .int .i64 k ∧ EqRel A B xs w wr) (fun i _ => n - (intOf i).toNat)
  case atStart => exact ⟨0, by omega, rfl, ha, hb, 0, rfl⟩
  case round =>
    obtain ⟨k, hk, rfl, h⟩ := hrel
    by_cases hlt : k < n
    · obtain ⟨a, rfl, hr1⟩ := h.one.some k (by rw [HN.out]; omega)
      obtain ⟨b, rfl, hr2⟩ := h.two.some k (by rw [HN.out]; omega)
      have hc1 := hr1.atI64 k (by rw [HN.out]; omega)
      have hc2 := hr2.atI64 k (by rw [HN.out]; omega)
      have he : (rdI xs k != rdI xs k) = false := by simp
      clear hr1 hr2 ha hb
      go_wp2
      go_quiet (fail)
      go_wp2
      go_roundw
      case rel =>
        obtain ⟨h1, h2, m, hw⟩ := h
        exact ⟨k + 1, by omega, by go_num, h1.same fun _ _ => rfl, h2.same fun _ _ => rfl, m + nq, by rw [hw, World.drewN_drewN]⟩
      case measure => simp [intOf]; omega
    · obtain rfl : k = n := by omega
      clear ha hb
      go_wp2
      go_ret
      exact ⟨rfl, h.drew⟩

/-- The row after its first j cells have been marked. -/
def markV (k : Int) (vs : List Value) (j : Nat) : List Value := (List.range j).map (fun (i : Nat) => i64 (k + (i : Int))) ++ vs.drop j
theorem markV_zero (k : Int) (vs : List Value) : markV k vs 0 = vs := by simp [markV]
theorem markV_set (k : Int) (vs : List Value) (j : Nat) (hj : j < vs.length) : (markV k vs j).set j (.int .i64 (k + (j : Int))) = markV k vs (j + 1) := by
  unfold markV
  rw [List.set_append_right _ _ (by simp), List.range_succ, List.map_append, List.length_map, List.length_range, Nat.sub_self, List.drop_eq_getElem_cons hj, List.set_cons_zero, List.append_assoc]
  rfl
theorem markV_at (k : Int) (vs : List Value) (j : Nat) (hj : j < vs.length) : (markV k vs j)[j]? = some vs[j] := by
  unfold markV
  rw [List.getElem?_append_right (by simp), List.drop_eq_getElem_cons hj]
  simp

/-- Numbers that count on from k. -/
def fromN (k : Int) (n : Nat) : List Int := (List.range n).map fun (i : Nat) => k + (i : Int)
theorem fromN_length (k : Int) (n : Nat) : (fromN k n).length = n := by simp [fromN]
theorem fromN_at (k : Int) (n i : Nat) (hi : i < n) : rdI (fromN k n) i = k + (i : Int) := by
  simp [rdI, fromN, List.getD, List.getElem?_map, List.getElem?_range hi]
theorem mark_row {w : World} {g : Nat} {t : TypeId} {k : Int} {vs : List Value} {n : Nat} (h : Blk w g t (markV k vs n)) : RowE i64 w ⟨g, 0, none⟩ (fromN k n) := by
  refine Blk.head (cs := vs.drop n) (t := t) ?_
  have e : (fromN k n).map i64 ++ vs.drop n = markV k vs n := by unfold fromN markV; rw [List.map_map]; rfl
  rw [e]; exact h

structure MarkRel (g : Nat) (t : TypeId) (k : Int) (vs : List Value) (w wr : World) (j : Nat) : Prop where
  blk : Blk wr g t (markV k vs j)
  grown : w.grownBy wr (some g)

set_option maxRecDepth 100000 in
theorem markInt64S_own (g c : Nat) (t : TypeId) (vs : List Value) (n : Nat) (k : Int) (w : World) (hn : n ≤ vs.length) (hm : n ≤ 1000000000) (hk : 0 ≤ k ∧ k ≤ 1125899906842624) (h : Blk w g t vs) :
    Calls Tryd.prog 19 #[.slice (some ⟨g, 0, none⟩) n c, .int .i64 k] w fun e w' => e = .returned (.int .i64 (k + n)) ∧ Blk w' g t (markV k vs n) ∧ w.grownBy w' (some g) := by
  go_enter Tryd.func19, Tryd.ntmps19
  go_wp2
  go_loopw [1, 5] (fun q i wr => ∃ j : Nat, j ≤ n ∧ i = .int .i64 j ∧ q = .int .i64 (k + (j : Int)) ∧ MarkRel g t k vs w wr j) (fun _ i _ => n - (intOf i).toNat)
  case atStart => exact ⟨0, by omega, rfl, by simp, by rw [markV_zero]; exact h, grown_refl _ _⟩
  case round =>
    obtain ⟨j, hj, rfl, rfl, hr⟩ := hrel
    by_cases hlt : j < n
    · have hcell := hr.blk.cell j _ (markV_at k vs j (by omega))
      have hfr := hr.blk.free j
      go_wp2
      go_roundw
      case rel =>
        refine ⟨j + 1, by omega, by go_num, by go_num, ?_, grown_set hr.grown _ _⟩
        rw [← markV_set k vs j (by omega)]
        exact hr.blk.set j _
      case measure => simp [intOf]; omega
    · obtain rfl : j = n := by omega
      go_wp2
      go_ret
      exact ⟨rfl, hr.blk, hr.grown⟩

set_option maxRecDepth 100000 in
theorem heldInt64S_same (A : Option Addr) (c : Nat) (n : Nat) (k : Int) (w : World) (hm : n ≤ 1000000000) (hk : 0 ≤ k ∧ k ≤ 1125899906842624) (h : SlE i64 w A (fromN k n)) :
    Calls Tryd.prog 20 #[.slice A n c, .int .i64 k] w fun e w' => e = .returned (.int .i64 (k + n)) ∧ w = w' := by
  go_enter Tryd.func20, Tryd.ntmps20
  go_wp2
  go_loop [1, 5] (fun q i => ∃ j : Nat, j ≤ n ∧ i = .int .i64 j ∧ q = .int .i64 (k + (j : Int))) (fun _ i => n - (intOf i).toNat)
  case atStart => exact ⟨0, by omega, rfl, by simp⟩
  case round =>
    obtain ⟨j, hj, rfl, rfl⟩ := hrel
    by_cases hlt : j < n
    · obtain ⟨a, rfl, hr⟩ := h.some j (by rw [fromN_length]; omega)
      have hcell := hr.atI64 j (by rw [fromN_length]; omega)
      rw [fromN_at k n j hlt] at hcell
      have he : ((k + (j : Int)) != (k + (j : Int))) = false := by simp
      clear hr h
      go_wp2
      go_round
      case rel => exact ⟨j + 1, by omega, by go_num, by go_num⟩
      case measure => simp [intOf]; omega
    · obtain rfl : j = n := by omega
      clear h
      go_wp2
      go_ret
      exact ⟨rfl, rfl⟩
end Go.Proofs.YtjgflkoefimmoaaDoor
