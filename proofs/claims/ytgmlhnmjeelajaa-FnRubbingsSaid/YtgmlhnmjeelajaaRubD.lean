/- Contracts: the counts of all rows, and of all dots, by the program and by the reference. -/
import Derived.Test.YtgmlhnmjeelajaaRubC

namespace Go.Proofs.Ytgmlhnmjeelajaa
open Go Go.RowKit
set_option linter.unusedVariables false
set_option linter.unusedSimpArgs false

theorem elI64 : El Try.prog 36 2 (.int .i64 0) 1 8 := ⟨Try.underlying36, by kernel_rfl, rfl, by decide⟩

/-- The numbers f 0 .. f (k - 1). -/
def listN (f : Nat → Int) (k : Nat) : List Int := (List.range k).map f
theorem listN_succ (f : Nat → Int) (k : Nat) : listN f (k + 1) = listN f k ++ [f k] := by simp [listN, List.range_succ]
theorem listN_length (f : Nat → Int) (k : Nat) : (listN f k).length = k := by simp [listN]
theorem listN_congr {f g : Nat → Int} {k : Nat} (h : ∀ i, i < k → f i = g i) : listN f k = listN g k := by
  unfold listN; exact List.map_congr_left fun i hi => h i (List.mem_range.1 hi)

structure DarkRel (r : List Nat) (w wr : World) (v : Value) (k : Nat) : Prop where
  arg : Blk wr w.heap.size 26 (r.map u16)
  own : wr.ownsRow (w.heap.size + 1) 2 1 v k ((listN (fun y => cnt (rdN r y).testBit 16) k).map i64)
  below : Below w.heap.size w wr

set_option maxRecDepth 100000 in
theorem darkRows_impl (r : List Nat) (w : World) (hr : r.length = 8) (hx : ∀ k, rdN r k < 65536) :
    Calls Try.prog 12 #[.agg (R16 r)] w fun e w' => ∃ v, e = .returned v ∧ w'.ownsRow (w.heap.size + 1) 2 1 v 8 ((listN (fun y => cnt (rdN r y).testBit 16) 8).map i64) ∧ Below w.heap.size w w' := by
  have hnew : ∀ o, Blk ((w.alloc (.cells (R16 r) 26)).alloc o) w.heap.size 26 (r.map u16) := fun o => (Blk.new w _ _).alloc o
  go_enter Try.func12, Try.ntmps12
  go_wp2_with (refine wpList_load_row rfl 26 _ rfl _ rfl 26 (R16 r) _ _ (hnew _) Try.underlying26 rfl (by rw [R16_size, hr]; exact szRub) ?_)
  go_loopw [3, 8] (fun v i wr => ∃ k : Nat, k ≤ 8 ∧ i = .int .i64 k ∧ DarkRel r w wr v k) (fun _ i _ => 8 - (intOf i).toNat)
  case atStart =>
    exact ⟨0, by omega, rfl, hnew _, own_empty _ _ (by rw [World.size_alloc]) _ _ (Nat.le_refl _) 1, ((Below.refl _ w).alloc (Nat.le_refl _) _).alloc (by rw [World.size_alloc]; omega) _⟩
  case round =>
    obtain ⟨k, hk, rfl, h⟩ := hrel
    by_cases hlt : k < 8
    · have hix := rub_at r hr k hlt
      have hown : ∀ m, (wr.drewN m).ownsRow (w.heap.size + 1) 2 1 u3 k ((listN (fun y => cnt (rdN r y).testBit 16) k).map i64) := fun m => h.own
      have hsz := h.arg.lt
      have hszm : ∀ m, w.heap.size + 1 ≤ (wr.drewN m).heap.size := fun m => by rw [World.heap_drewN]; omega
      go_wp2_with (first
        | (go_at_call 30; refine (ones16_any _ (hx k) _).mono ?_; rintro e w' ⟨rfl, m, rfl⟩)
        | (at_builtin; refine wpList_app1 rfl (.tmp 11) (.tmp 14) _ rfl elI64 (wr.drewN m) _ u3 k _ rfl (hown m) (.int .i64 (cnt (rdN r k).testBit 16)) _ rfl rfl rfl (by unfold maxLen; omega) (by omega) (hszm m) ?_; intro v' w' ho' hg'))
      go_roundw
      case rel =>
        refine ⟨k + 1, by omega, by go_num, (h.arg.drewN _).grown hg' (own_ne (hown m) (by omega)), ?_, below_own (below_drewN h.below _) (hown m) hg' (by omega) (by have := hszm m; omega)⟩
        rw [listN_succ, List.map_append]
        exact ho'
      case measure => simp [intOf]; omega
    · obtain rfl : k = 8 := by omega
      go_wp2
      go_ret
      exact ⟨_, rfl, h.own, h.below⟩

/-! ### The count by rows is the count by dots -/
theorem rowN_bits (r : List Nat) (y : Nat) (hy : y < 8) : rowN r y = cnt (rdN r y).testBit 16 := by
  unfold rowN
  refine cnt_congr fun x hx => ?_
  unfold dk
  have h : 0 ≤ (x : Int) ∧ (x : Int) ≤ 15 ∧ 0 ≤ (y : Int) ∧ (y : Int) ≤ 7 := by omega
  simp only [h, and_self, decide_true, Bool.true_and, Int.toNat_natCast]
theorem sumI_list (f : Nat → Nat) (n k : Nat) (hk : k ≤ n) : sumI (listN (fun i => (f i : Int)) n) k = (sumN f k : Int) := by
  induction k with
  | zero => rfl
  | succ k ih =>
    rw [sumI_succ _ k (by rw [listN_length]; omega), ih (by omega), sumN]
    have : rdI (listN (fun i => (f i : Int)) n) k = f k := by simp [rdI, listN, List.getD, List.getElem?_map, List.getElem?_range (show k < n by omega)]
    rw [this]; omega
theorem rdI_list (f : Nat → Int) (n k : Nat) (hk : k < n) : rdI (listN f n) k = f k := by
  simp [rdI, listN, List.getD, List.getElem?_map, List.getElem?_range hk]
theorem rdI_past (l : List Int) (k : Nat) (hk : l.length ≤ k) : rdI l k = 0 := by simp [rdI, List.getD, List.getElem?_eq_none hk]
theorem sumRows (r : List Nat) : sumI (listN (fun y => (cnt (rdN r y).testBit 16 : Int)) 8) (listN (fun y => (cnt (rdN r y).testBit 16 : Int)) 8).length = (countN r : Int) := by
  rw [listN_length, sumI_list _ 8 8 (Nat.le_refl _)]
  rw [show countN r = sumN (fun y => cnt (rdN r y).testBit 16) 8 from sumN_congr fun i hi => rowN_bits r i hi]

set_option maxRecDepth 100000 in
theorem count_impl (r : List Nat) (w : World) (hr : r.length = 8) (hx : ∀ k, rdN r k < 65536) :
    Calls Try.prog 11 #[.agg (R16 r)] w fun e w' => e = .returned (.int .i64 (countN r)) ∧ Below w.heap.size w w' := by
  have hnew := Blk.new w 26 (r.map u16)
  have HS := Lib.hid (sumRows r)
  have hsm : ∀ k, 0 ≤ rdI (listN (fun y => (cnt (rdN r y).testBit 16 : Int)) 8) k ∧ rdI (listN (fun y => (cnt (rdN r y).testBit 16 : Int)) 8) k ≤ 1000 := by
    intro k
    by_cases hk : k < 8
    · rw [rdI_list _ _ _ hk]; have := cnt_le (rdN r k).testBit 16; omega
    · rw [rdI_past _ _ (by rw [listN_length]; omega)]; omega
  go_enter Try.func11, Try.ntmps11
  go_wp2_with (first
    | (refine wpList_load_row rfl 26 _ rfl _ rfl 26 (R16 r) _ _ hnew Try.underlying26 rfl (by rw [R16_size, hr]; exact szRub) ?_)
    | (go_at_call 12; refine (darkRows_impl r _ hr hx).mono ?_; rintro e w1 ⟨v, rfl, ho, hb⟩; obtain ⟨A, c, rfl, _, _, hs⟩ := SlE_own ho)
    | (go_at_call 29; refine (total_small A c _ _ hs (by rw [listN_length]; omega) hsm).mono ?_; rintro e w2 ⟨rfl, rfl⟩))
  go_ret
  exact ⟨ret_int HS.out, ((Below.refl _ w).alloc (Nat.le_refl _) _).trans (hb.mono (by rw [World.size_alloc]; omega))⟩

set_option maxRecDepth 100000 in
theorem count_spec (r : List Nat) (w : World) (hr : r.length = 8) :
    Calls Try.prog 14 #[.agg (R16 r)] w fun e w' => e = .returned (.int .i64 (countN r)) ∧ Below w.heap.size w w' := by
  have hnew := (Blk.new w 26 (r.map u16)).row
  go_enter Try.func14, Try.ntmps14
  go_wp2_with (go_at_call 32; refine (count_any _ r _ hr hnew).mono ?_; rintro e w1 ⟨rfl, rfl⟩)
  go_ret
  exact ⟨rfl, (Below.refl _ w).alloc (Nat.le_refl _) _⟩
end Go.Proofs.Ytgmlhnmjeelajaa
