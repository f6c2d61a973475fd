/- Contracts: mirrored rubbings. -/
import Derived.Test.YtgmlhnmjeelajaaRubE

namespace Go.Proofs.Ytgmlhnmjeelajaa
open Go Go.RowKit
set_option linter.unusedVariables false
set_option linter.unusedSimpArgs false

/-- The rubbing whose dots are those with p. -/
def gridR (p : Nat → Nat → Bool) : List Nat := (List.range 8).map fun y => bitsN (p y) 16
theorem gridR_length (p : Nat → Nat → Bool) : (gridR p).length = 8 := by simp [gridR]
theorem rdN_gridR (p : Nat → Nat → Bool) (y : Nat) (hy : y < 8) : rdN (gridR p) y = bitsN (p y) 16 := by
  simp [rdN, gridR, List.getD, List.getElem?_map, List.getElem?_range hy]
theorem gridR_lt (p : Nat → Nat → Bool) : ∀ k, rdN (gridR p) k < 65536 := by
  intro k
  by_cases hk : k < 8
  · rw [rdN_gridR p k hk]; exact bitsN_lt (p k) 16
  · rw [rdN_past _ _ (by rw [gridR_length]; omega)]; omega
theorem gridR_congr {p q : Nat → Nat → Bool} (h : ∀ y x, y < 8 → x < 16 → p y x = q y x) : gridR p = gridR q := by
  unfold gridR
  refine List.map_congr_left fun y hy => ?_
  refine eq_of_bits (bitsN_lt _ _) (bitsN_lt _ _) fun x hx => ?_
  rw [testBit_bitsN, testBit_bitsN, h y x (List.mem_range.1 hy) hx]
/-- Any rubbing is the grid of its dots. -/
theorem grid_of (r : List Nat) (hr : r.length = 8) (hx : ∀ k, rdN r k < 65536) : gridR (fun y => (rdN r y).testBit) = r := by
  refine ext8 (gridR_length _) hr fun y hy => ?_
  rw [rdN_gridR _ y hy]
  refine eq_of_bits (k := 16) (bitsN_lt _ _) (hx y) fun x hxx => ?_
  rw [testBit_bitsN]; simp [hxx]
/-- A mirrored rubbing. -/
def mirR (r : List Nat) : List Nat := gridR fun y x => (rdN r y).testBit (15 - x)

/-- A grid that is filled row by row, dot by dot: k dots of row y. -/
def partR (p : Nat → Nat → Bool) (y k : Nat) : List Nat := (List.range 8).map fun j => if j < y then bitsN (p j) 16 else if j = y then bitsN (p j) k else 0
theorem partR_length (p : Nat → Nat → Bool) (y k : Nat) : (partR p y k).length = 8 := by simp [partR]
theorem rdN_partR (p : Nat → Nat → Bool) (y k j : Nat) (hj : j < 8) : rdN (partR p y k) j = if j < y then bitsN (p j) 16 else if j = y then bitsN (p j) k else 0 := by
  simp [rdN, partR, List.getD, List.getElem?_map, List.getElem?_range hj]
theorem partR_start (p : Nat → Nat → Bool) : partR p 0 0 = List.replicate 8 0 := by
  refine ext8 (partR_length _ _ _) (by simp) fun y hy => ?_
  rw [rdN_partR p 0 0 y hy, if_neg (by omega)]
  have : rdN (List.replicate 8 0) y = 0 := by simp only [rdN, List.getD, List.getElem?_replicate]; split <;> rfl
  rw [this]
  split <;> simp [bitsN]
theorem rdN_set (l : List Nat) (k v y : Nat) (hk : k < l.length) : rdN (l.set k v) y = if y = k then v else rdN l y := by
  unfold rdN
  rw [List.getD, List.getElem?_set]
  by_cases h : k = y
  · subst h; simp [hk]
  · rw [if_neg h, if_neg (fun e => h e.symm)]; rfl
theorem partR_row (p : Nat → Nat → Bool) (y : Nat) : partR p y 16 = partR p (y + 1) 0 := by
  unfold partR
  refine List.map_congr_left fun j _ => ?_
  by_cases h1 : j < y
  · rw [if_pos h1, if_pos (by omega)]
  · by_cases h2 : j = y
    · rw [if_neg h1, if_pos h2, if_pos (by omega)]
    · rw [if_neg h1, if_neg h2, if_neg (by omega)]
      split <;> simp [bitsN]
theorem partR_all (p : Nat → Nat → Bool) : partR p 8 0 = gridR p := by
  unfold partR gridR
  refine List.map_congr_left fun j hj => ?_
  rw [if_pos (List.mem_range.1 hj)]
theorem partR_no {p : Nat → Nat → Bool} {y k : Nat} (h : p y k = false) : partR p y (k + 1) = partR p y k := by
  unfold partR
  refine List.map_congr_left fun j _ => ?_
  split
  · rfl
  · split
    · subst_vars; rw [bitsN_no h]
    · rfl
theorem partR_yes {p : Nat → Nat → Bool} {y k : Nat} (hy : y < 8) (h : p y k = true) : (partR p y k).set y (rdN (partR p y k) y ||| 2 ^ k) = partR p y (k + 1) := by
  refine ext8 (by simp [partR]) (partR_length _ _ _) fun i hi => ?_
  rw [rdN_set _ _ _ _ (by rw [partR_length]; exact hy), rdN_partR p y k y hy, rdN_partR p y (k + 1) i hi, rdN_partR p y k i hi, if_neg (by omega : ¬ y < y), if_pos rfl]
  by_cases e : i = y
  · subst e; rw [if_pos rfl, if_neg (by omega), if_pos rfl, bitsN_yes h]
  · rw [if_neg e, if_neg e, if_neg e]

theorem or16 (x y : Nat) (hx : x < 65536) (hy : y < 65536) : bits .or .u16 (x : Int) (y : Int) = ((x ||| y : Nat) : Int) := u16_or_nat x y hx hy
theorem partR_lt (p : Nat → Nat → Bool) (y k : Nat) (hk : k ≤ 16) : ∀ j, rdN (partR p y k) j < 65536 := by
  intro j
  by_cases hj : j < 8
  · rw [rdN_partR p y k j hj]
    split
    · exact bitsN_lt _ 16
    · split
      · exact Nat.lt_of_lt_of_le (bitsN_lt _ k) (Nat.pow_le_pow_right (by decide) hk)
      · omega
  · rw [rdN_past _ _ (by rw [partR_length]; omega)]; omega
theorem or16p (x k : Nat) (hx : x < 65536) (hk : k < 16) : bits .or .u16 (x : Int) ((2 : Int) ^ k) = ((x ||| 2 ^ k : Nat) : Int) := by
  have := or16 x (2 ^ k) hx (Nat.pow_lt_pow_right (by decide) hk)
  rw [← this]; simp
theorem wrap16p (k : Nat) (hk : k < 16) : IntKind.u16.wrap ((2 : Int) ^ k) = (2 : Int) ^ k := by
  have h : 2 ^ k < 2 ^ 16 := Nat.pow_lt_pow_right (by decide) hk
  have e : ((2 : Int) ^ k) = ((2 ^ k : Nat) : Int) := by simp
  rw [e]
  generalize 2 ^ k = m at *
  exact IntWalk.u16_in _ (by omega)
theorem pow_lt16 {k : Nat} (hk : k < 16) : 2 ^ k < 65536 := Nat.pow_lt_pow_right (by decide) hk

structure MirRel (p : Nat → Nat → Bool) (r : List Nat) (w wr : World) (y k : Nat) : Prop where
  arg : Blk wr w.heap.size 26 (r.map u16)
  res : Blk wr (w.heap.size + 1) 26 (List.replicate 8 z16)
  out : Blk wr (w.heap.size + 1 + 1) 26 ((partR p y k).map u16)
  below : Below w.heap.size w wr

theorem dk_in (r : List Nat) (x y : Nat) (hx : x < 16) (hy : y < 8) : dk r x y = (rdN r y).testBit x := by
  unfold dk
  have h : 0 ≤ (x : Int) ∧ (x : Int) ≤ 15 ∧ 0 ≤ (y : Int) ∧ (y : Int) ≤ 7 := by omega
  simp only [h, and_self, decide_true, Bool.true_and, Int.toNat_natCast]

set_option maxHeartbeats 1000000 in
set_option maxRecDepth 100000 in
theorem mirror_spec (r : List Nat) (w : World) (hr : r.length = 8) :
    Calls Try.prog 13 #[.agg (R16 r)] w fun e w' => e = .returned (.agg (R16 (mirR r))) ∧ Below w.heap.size w w' := by
  generalize hp : (fun y x => (rdN r y).testBit (15 - x)) = p at *
  have HP := Lib.hid hp
  have HM := Lib.hid (show gridR p = mirR r by rw [← hp]; rfl)
  have hdk : ∀ y k : Nat, y < 8 → k < 16 → dk r (15 - (k : Int)) y = p y k := by
    intro y k hy hk
    rw [← hp, show (15 - (k : Int)) = ((15 - k : Nat) : Int) by omega, dk_in r (15 - k) y (by omega) hy]
  clear hp
  go_enter Try.func13, Try.ntmps13
  go_wp2
  go_loopw [4] (fun i wr => ∃ y : Nat, y ≤ 8 ∧ i = .int .i64 y ∧ MirRel p r w wr y 0) (fun i _ => 8 - (intOf i).toNat)
  case atStart =>
    refine ⟨0, by omega, rfl, ((Blk.new w _ _).alloc _).alloc _, (Blk.at_new _ _ _ (by simp) _ _ rfl).alloc _, ?_, below_three _ _ _ _⟩
    rw [partR_start]
    exact Blk.at_new _ _ _ (by simp) _ _ rfl
  case round =>
    obtain ⟨y, hy, rfl, h⟩ := hrel
    by_cases hlt : y < 8
    · obtain ⟨wo, rfl⟩ : ∃ wo : World, wo = wr := ⟨_, rfl⟩
      have hd8 : decide ((y : Int) < 8) = true := by simp; omega
      go_wp2
      go_loopw [5] (fun i wr => ∃ k : Nat, k ≤ 16 ∧ i = .int .i64 k ∧ MirRel p r w wr y k) (fun i _ => 16 - (intOf i).toNat)
      case atStart => exact ⟨0, by omega, rfl, h⟩
      case round =>
        obtain ⟨k, hk, rfl, h⟩ := hrel
        by_cases hlk : k < 16
        · have hd := hdk y k hlt hlk
          have hrow := h.arg.row
          clear hdk
          cases hpk : p y k
          · have HPK := Lib.hid hpk
            go_wp2_with (go_at_call 31; refine (dark_any _ r _ _ _ hr hrow).mono ?_; rintro e w' ⟨rfl, rfl⟩)
            go_roundw
            case rel => exact ⟨k + 1, by omega, by go_num, h.arg, h.res, by rw [partR_no HPK.out]; exact h.out, h.below⟩
            case measure => simp [intOf]; omega
          · have HPK := Lib.hid hpk
            have hc3 := h.out.cell y _ (map_u16_at _ y (by rw [partR_length]; omega))
            have hf3 := h.out.free y
            have hor := or16p (rdN (partR p y k) y) k (partR_lt p y k hk y) hlk
            have hwp := wrap16p k hlk
            go_wp2_with (go_at_call 31; refine (dark_any _ r _ _ _ hr hrow).mono ?_; rintro e w' ⟨rfl, rfl⟩)
            go_roundw
            case rel =>
              refine ⟨k + 1, by omega, by go_num, h.arg.other _ _ (by simp; omega), h.res.other _ _ (by simp), ?_, h.below.setCell (by simp; omega) _⟩
              rw [← partR_yes hlt HPK.out, List.map_set]
              exact h.out.set y _
            case measure => simp [intOf]; omega
        · obtain rfl : k = 16 := by omega
          go_wp2
          go_roundw
          case rel => exact ⟨y + 1, by omega, by go_num, h.arg, h.res, by rw [← partR_row]; exact h.out, h.below⟩
          case measure => simp [intOf]; omega
    · obtain rfl : y = 8 := by omega
      have hout := h.out
      rw [partR_all, HM.out] at hout
      have hl : (mirR r).length = 8 := gridR_length _
      go_wp2_with (first
        | (refine wpList_load_row rfl 26 _ rfl _ rfl 26 (R16 (mirR r)) _ _ hout Try.underlying26 rfl (by rw [R16_size, hl]; exact szRub) ?_)
        | (refine wpList_store_row rfl 26 _ _ rfl _ (R16 (mirR r)) rfl rfl 26 _ h.res (by rw [R16_size, hl]; exact szRub) (by rw [R16_size, hl]; rfl) (one_u16 _) ?_))
      exact bodyPost_ret (v := .agg (R16 (mirR r))) (results_cell_row rfl _ _ _ 26 (R16 (mirR r)) _ _ rfl (h.res.setRow_same ((mirR r).map Go.Proofs.Ytgmlhnmjeelajaa.u16)) Try.underlying26 rfl (by rw [R16_size, hl]; exact szRub)) rfl ⟨rfl, below_setRow h.below _ _ (by omega)⟩

/-! ### The program's: row by row -/
structure Mir2Rel (r : List Nat) (w wr : World) (k : Nat) : Prop where
  arg : ∃ l : List Nat, Blk wr w.heap.size 26 (l.map u16) ∧ l.length = 8 ∧ (∀ y, y < k → rdN l y = bitsN (fun x => (rdN r y).testBit (15 - x)) 16) ∧ ∀ y, k ≤ y → rdN l y = rdN r y
  res : Blk wr (w.heap.size + 1) 26 (List.replicate 8 z16)
  below : Below w.heap.size w wr

set_option maxRecDepth 100000 in
theorem mirror_impl (r : List Nat) (w : World) (hr : r.length = 8) (hx : ∀ k, rdN r k < 65536) :
    Calls Try.prog 10 #[.agg (R16 r)] w fun e w' => e = .returned (.agg (R16 (mirR r))) ∧ Below w.heap.size w w' := by
  go_enter Try.func10, Try.ntmps10
  go_wp2
  go_loopw [4] (fun i wr => ∃ k : Nat, k ≤ 8 ∧ i = .int .i64 k ∧ Mir2Rel r w wr k) (fun i _ => 8 - (intOf i).toNat)
  case atStart => exact ⟨0, by omega, rfl, ⟨r, (Blk.new w _ _).alloc _, hr, fun y hy => by omega, fun y _ => rfl⟩, Blk.at_new _ _ _ (by simp) _ _ rfl, below_two _ _ _⟩
  case round =>
    obtain ⟨k, hk, rfl, h⟩ := hrel
    obtain ⟨l, hB1, hl, h1, h2⟩ := h.arg
    by_cases hlt : k < 8
    · have hc1 := hB1.cell k _ (map_u16_at l k (by omega))
      have hf1 := hB1.free k
      have hxl : rdN l k < 65536 := by rw [h2 k (Nat.le_refl _)]; exact hx k
      have H1 := Lib.hid h1
      have H2 := Lib.hid h2
      clear h1 h2
      go_wp2_with (go_at_call 28; refine (rev16_any _ hxl _).mono ?_; rintro e w' ⟨rfl, m, rfl⟩)
      go_roundw
      case rel =>
        refine ⟨k + 1, by omega, by go_num, ⟨l.set k (bitsN (fun x => (rdN l k).testBit (15 - x)) 16), ?_, by simp [hl], fun y hy => ?_, fun y hy => ?_⟩, (h.res.drewN m).other _ _ (by simp), (below_drewN h.below m).setCell (Nat.le_refl _) _⟩
        · rw [List.map_set]
          exact (hB1.drewN m).set k _
        · rw [rdN_set _ _ _ _ (by omega)]
          split
          · subst_vars; rw [H2.out _ (Nat.le_refl _)]
          · exact H1.out y (by omega)
        · rw [rdN_set _ _ _ _ (by omega), if_neg (by omega)]
          exact H2.out y (by omega)
      case measure => simp [intOf]; omega
    · obtain rfl : k = 8 := by omega
      have hm : l = mirR r := ext8 hl (gridR_length _) fun y hy => by rw [h1 y hy, mirR, rdN_gridR _ y hy]
      subst hm
      go_wp2_with (first
        | (refine wpList_load_row rfl 26 _ rfl _ rfl 26 (R16 (mirR r)) _ _ hB1 Try.underlying26 rfl (by rw [R16_size, hl]; exact szRub) ?_)
        | (refine wpList_store_row rfl 26 _ _ rfl _ (R16 (mirR r)) rfl rfl 26 _ h.res (by rw [R16_size, hl]; exact szRub) (by rw [R16_size, hl]; rfl) (one_u16 _) ?_))
      exact bodyPost_ret (v := .agg (R16 (mirR r))) (results_cell_row rfl _ _ _ 26 (R16 (mirR r)) _ _ rfl (h.res.setRow_same ((mirR r).map Go.Proofs.Ytgmlhnmjeelajaa.u16)) Try.underlying26 rfl (by rw [R16_size, hl]; exact szRub)) rfl ⟨rfl, below_setRow h.below _ _ (by omega)⟩
end Go.Proofs.Ytgmlhnmjeelajaa
