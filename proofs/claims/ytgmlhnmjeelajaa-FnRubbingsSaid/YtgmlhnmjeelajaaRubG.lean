/- Contracts: a rubbing is moved. -/
import Derived.Test.YtgmlhnmjeelajaaRubF
import Derived.Test.YtgmlhnmjeelajaaGA
namespace Go.Proofs.Ytgmlhnmjeelajaa
open Go Go.RowKit
set_option linter.unusedVariables false
set_option linter.unusedSimpArgs false

theorem within_any (n lo hi : Int) (w : World) : Calls Try.prog 40 #[.int .i64 n, .int .i64 lo, .int .i64 hi] w fun e w' => e = .returned (.bool (inB lo hi n)) ∧ w = w' := by
  by_cases h1 : lo ≤ n
  · by_cases h2 : n ≤ hi
    · go_enter Try.func40, Try.ntmps40
      go_wp2
      go_ret
      exact ⟨by congr 2; unfold inB; simp; omega, rfl⟩
    · go_enter Try.func40, Try.ntmps40
      go_wp2
      go_ret
      exact ⟨by congr 2; unfold inB; simp; omega, rfl⟩
  · go_enter Try.func40, Try.ntmps40
    go_wp2
    go_ret
    exact ⟨by congr 2; unfold inB; simp; omega, rfl⟩

/-- A move that is not too far. -/
def mayMove (dx dy : Int) : Bool := inB (-5) 5 dx && inB (-5) 5 dy
theorem mayMove_iff {dx dy : Int} (h : mayMove dx dy = true) : (-5 ≤ dx ∧ dx ≤ 5) ∧ -5 ≤ dy ∧ dy ≤ 5 := by
  unfold mayMove at h; rw [Bool.and_eq_true, inB_iff, inB_iff] at h; exact h
theorem isMove_any (dx dy : Int) (w : World) : Calls Try.prog 35 #[.int .i64 dx, .int .i64 dy] w fun e w' => e = .returned (.bool (mayMove dx dy)) ∧ w = w' := by
  by_cases h1 : -5 ≤ dx ∧ dx ≤ 5
  · have hd := inB_true h1
    have HM := Lib.hid (show inB (-5) 5 dy = mayMove dx dy by unfold mayMove; rw [hd, Bool.true_and])
    clear h1
    go_enter Try.func35, Try.ntmps35
    go_wp2_with (go_at_call 40; refine (within_any _ _ _ _).mono ?_; rintro e w' ⟨rfl, rfl⟩)
    go_ret
    exact ⟨ret_bool HM.out, rfl⟩
  · have hd := inB_false h1
    have HM := Lib.hid (show false = mayMove dx dy by unfold mayMove; rw [hd, Bool.false_and])
    go_enter Try.func35, Try.ntmps35
    go_wp2_with (go_at_call 40; refine (within_any _ _ _ _).mono ?_; rintro e w' ⟨rfl, rfl⟩)
    go_ret
    exact ⟨ret_bool HM.out, rfl⟩
theorem l07May_any (dx dy : Int) (w : World) : Calls Try.prog 34 #[.int .i64 dx, .int .i64 dy] w fun e w' => e = .returned (.bool (mayMove dx dy)) ∧ w = w' := by
  by_cases h1 : -5 ≤ dx ∧ dx ≤ 5
  · have hd := inB_true h1
    have HM := Lib.hid (show inB (-5) 5 dy = mayMove dx dy by unfold mayMove; rw [hd, Bool.true_and])
    clear h1
    go_enter Try.func34, Try.ntmps34
    go_wp2_with (go_at_call 41; refine (in_any _ _ _ _).mono ?_; rintro e w' ⟨rfl, rfl⟩)
    go_ret
    exact ⟨ret_bool HM.out, rfl⟩
  · have hd := inB_false h1
    have HM := Lib.hid (show false = mayMove dx dy by unfold mayMove; rw [hd, Bool.false_and])
    go_enter Try.func34, Try.ntmps34
    go_wp2_with (go_at_call 41; refine (in_any _ _ _ _).mono ?_; rintro e w' ⟨rfl, rfl⟩)
    go_ret
    exact ⟨ret_bool HM.out, rfl⟩

/-- A moved rubbing. -/
def movR (r : List Nat) (dx dy : Int) : List Nat := gridR fun y x => dk r ((x : Int) - dx) ((y : Int) - dy)

structure GridRel (p : Nat → Nat → Bool) (w wr : World) (y k : Nat) : Prop where
  res : Blk wr w.heap.size 26 (List.replicate 8 z16)
  out : Blk wr (w.heap.size + 1) 26 ((partR p y k).map u16)
  below : Below w.heap.size w wr

set_option maxHeartbeats 1000000 in
set_option maxRecDepth 100000 in
theorem l07Move_any (a : Addr) (r : List Nat) (dx dy : Int) (w : World) (hr : r.length = 8) (hc : RowE u16 w a r) (bx : -5 ≤ dx ∧ dx ≤ 5) (bY : -5 ≤ dy ∧ dy ≤ 5) :
    Calls Try.prog 36 #[.pointer (some a), .int .i64 dx, .int .i64 dy] w fun e w' => e = .returned (.agg (R16 (movR r dx dy))) ∧ Below w.heap.size w w' := by
  obtain ⟨bx1, bx2⟩ := bx
  obtain ⟨by1, by2⟩ := bY
  generalize hp : (fun (y x : Nat) => dk r ((x : Int) - dx) ((y : Int) - dy)) = p at *
  have HM := Lib.hid (show gridR p = movR r dx dy by rw [← hp]; rfl)
  have hdk : ∀ y k : Nat, dk r ((k : Int) - dx) ((y : Int) - dy) = p y k := by intro y k; rw [← hp]
  clear hp
  go_enter Try.func36, Try.ntmps36
  go_wp2
  go_loopw [8] (fun i wr => ∃ y : Nat, y ≤ 8 ∧ i = .int .i64 y ∧ GridRel p w wr y 0) (fun i _ => 8 - (intOf i).toNat)
  case atStart =>
    refine ⟨0, by omega, rfl, (Blk.at_new _ _ _ rfl _ _ rfl).alloc _, ?_, below_two _ _ _⟩
    rw [partR_start]
    exact Blk.at_new _ _ _ (by simp) _ _ rfl
  case round =>
    obtain ⟨y, hy, rfl, h⟩ := hrel
    by_cases hlt : y < 8
    · obtain ⟨wo, rfl⟩ : ∃ wo : World, wo = wr := ⟨_, rfl⟩
      have hd8 : decide ((y : Int) < 8) = true := by simp; omega
      go_wp2
      go_loopw [9] (fun i wr => ∃ k : Nat, k ≤ 16 ∧ i = .int .i64 k ∧ GridRel p w wr y k) (fun i _ => 16 - (intOf i).toNat)
      case atStart => exact ⟨0, by omega, rfl, h⟩
      case round =>
        obtain ⟨k, hk, rfl, h⟩ := hrel
        by_cases hlk : k < 16
        · have hd := hdk y k
          have hrow := hc.next h.below
          clear hdk
          cases hpk : p y k
          · have HPK := Lib.hid hpk
            go_wp2_with (go_at_call 31; refine (dark_any _ r _ _ _ hr hrow).mono ?_; rintro e w' ⟨rfl, rfl⟩)
            go_roundw
            case rel => exact ⟨k + 1, by omega, by go_num, h.res, by rw [partR_no HPK.out]; exact h.out, h.below⟩
            case measure => simp [intOf]; omega
          · have HPK := Lib.hid hpk
            have hc3 := h.out.cell y _ (map_u16_at _ y (by rw [partR_length]; omega))
            have hf3 := h.out.free y
            have hor := or16p (rdN (partR p y k) y) k (partR_lt p y k hk y) hlk
            have hwp := wrap16p k hlk
            go_wp2_with (go_at_call 31; refine (dark_any _ r _ _ _ hr hrow).mono ?_; rintro e w' ⟨rfl, rfl⟩)
            go_roundw
            case rel =>
              refine ⟨k + 1, by omega, by go_num, h.res.other _ _ (by simp), ?_, h.below.setCell (by simp) _⟩
              rw [← partR_yes hlt HPK.out, List.map_set]
              exact h.out.set y _
            case measure => simp [intOf]; omega
        · obtain rfl : k = 16 := by omega
          go_wp2
          go_roundw
          case rel => exact ⟨y + 1, by omega, by go_num, h.res, by rw [← partR_row]; exact h.out, h.below⟩
          case measure => simp [intOf]; omega
    · obtain rfl : y = 8 := by omega
      have hout := h.out
      rw [partR_all, HM.out] at hout
      have hl : (movR r dx dy).length = 8 := gridR_length _
      go_wp2_with (first
        | (refine wpList_load_row rfl 26 _ rfl _ rfl 26 (R16 (movR r dx dy)) _ _ hout Try.underlying26 rfl (by rw [R16_size, hl]; exact szRub) ?_)
        | (refine wpList_store_row rfl 26 _ _ rfl _ (R16 (movR r dx dy)) rfl rfl 26 _ h.res (by rw [R16_size, hl]; exact szRub) (by rw [R16_size, hl]; rfl) (one_u16 _) ?_))
      exact bodyPost_ret (v := .agg (R16 (movR r dx dy))) (results_cell_row rfl _ _ _ 26 (R16 (movR r dx dy)) _ _ rfl (h.res.setRow_same ((movR r dx dy).map Go.Proofs.Ytgmlhnmjeelajaa.u16)) Try.underlying26 rfl (by rw [R16_size, hl]; exact szRub)) rfl ⟨rfl, below_setRow h.below _ _ (by omega)⟩

theorem dk_row (r : List Nat) (x : Int) (y : Nat) (hy : y < 8) : dk r x y = (decide (0 ≤ x ∧ x ≤ 15) && (rdN r y).testBit x.toNat) := by
  unfold dk
  have h : 0 ≤ (y : Int) ∧ (y : Int) ≤ 7 := by omega
  simp only [h, and_true, Int.toNat_natCast]
/-- A row that is shifted to the left, and to the right. -/
theorem row_shl (r : List Nat) (k : Nat) (dx : Int) (hk : k < 8) (h0 : 0 ≤ dx) (h5 : dx ≤ 5) (hx : rdN r k < 65536) :
    IntKind.u16.wrap ((rdN r k : Int) * 2 ^ dx.toNat) = ((bitsN (fun x => dk r ((x : Int) - dx) k) 16 : Nat) : Int) := by
  obtain ⟨d, rfl⟩ := Int.eq_ofNat_of_zero_le h0
  rw [Int.toNat_natCast, IntKind.wrap_u16]
  have e : ((rdN r k : Int) * 2 ^ d) % 65536 = ((rdN r k * 2 ^ d % 2 ^ 16 : Nat) : Int) := by simp
  rw [e]
  congr 1
  refine eq_of_bits (k := 16) (Nat.mod_lt _ (by decide)) (bitsN_lt _ _) fun x hxx => ?_
  rw [Nat.testBit_mod_two_pow, Nat.testBit_mul_two_pow, testBit_bitsN, dk_row r _ k hk]
  simp only [hxx, decide_true, Bool.true_and]
  by_cases h : d ≤ x
  · have e1 : ((x : Int) - (d : Int)).toNat = x - d := by omega
    have e2 : 0 ≤ (x : Int) - (d : Int) ∧ (x : Int) - (d : Int) ≤ 15 := by omega
    simp [h, e1, e2]
  · have e2 : ¬ (0 ≤ (x : Int) - (d : Int) ∧ (x : Int) - (d : Int) ≤ 15) := by omega
    simp only [e2, decide_false, Bool.false_and]
    simp [h]
theorem row_shr (r : List Nat) (k : Nat) (dx : Int) (hk : k < 8) (h0 : dx < 0) (h5 : -5 ≤ dx) (hx : rdN r k < 65536) :
    (rdN r k : Int) / 2 ^ (-dx).toNat = ((bitsN (fun x => dk r ((x : Int) - dx) k) 16 : Nat) : Int) := by
  obtain ⟨d, hd⟩ := Int.eq_ofNat_of_zero_le (show 0 ≤ -dx by omega)
  obtain rfl : dx = -(d : Int) := by omega
  rw [show (-(-(d : Int))).toNat = d by omega]
  have e : (rdN r k : Int) / 2 ^ d = ((rdN r k / 2 ^ d : Nat) : Int) := by simp
  rw [e]
  congr 1
  refine eq_of_bits (k := 16) (Nat.lt_of_le_of_lt (Nat.div_le_self _ _) hx) (bitsN_lt _ _) fun x hxx => ?_
  rw [Nat.testBit_div_two_pow, testBit_bitsN, dk_row r _ k hk]
  simp only [hxx, decide_true, Bool.true_and]
  have e1 : ((x : Int) - -(d : Int)).toNat = d + x := by omega
  rw [e1]
  by_cases h : d + x ≤ 15
  · have e2 : 0 ≤ (x : Int) - -(d : Int) ∧ (x : Int) - -(d : Int) ≤ 15 := by omega
    rw [decide_eq_true e2, Bool.true_and, Nat.add_comm]
  · have e2 : ¬ (0 ≤ (x : Int) - -(d : Int) ∧ (x : Int) - -(d : Int) ≤ 15) := by omega
    simp only [e2, decide_false, Bool.false_and]
    refine Nat.testBit_lt_two_pow (Nat.lt_of_lt_of_le hx ?_)
    rw [show 65536 = 2 ^ 16 from rfl]
    exact Nat.pow_le_pow_right (by decide) (by omega)

structure MovRel (r : List Nat) (dx dy : Int) (w wr : World) (k : Nat) : Prop where
  arg : Blk wr w.heap.size 26 (r.map u16)
  res : Blk wr (w.heap.size + 1) 26 (List.replicate 8 z16)
  out : ∃ l : List Nat, Blk wr (w.heap.size + 1 + 1) 26 (l.map u16) ∧ l.length = 8 ∧ ∀ j : Nat, j < 8 → rdN l j = if 0 ≤ (j : Int) - dy ∧ (j : Int) - dy < k then bitsN (fun x => dk r ((x : Int) - dx) ((j : Int) - dy)) 16 else 0
  below : Below w.heap.size w wr

set_option maxHeartbeats 1000000 in
set_option maxRecDepth 100000 in
theorem moved_any (r : List Nat) (dx dy : Int) (w : World) (hr : r.length = 8) (hx : ∀ k, rdN r k < 65536) (bx : -5 ≤ dx ∧ dx ≤ 5) (bY : -5 ≤ dy ∧ dy ≤ 5) :
    Calls Try.prog 25 #[.agg (R16 r), .int .i64 dx, .int .i64 dy] w fun e w' => e = .returned (.agg (R16 (movR r dx dy))) ∧ Below w.heap.size w w' := by
  obtain ⟨bx1, bx2⟩ := bx
  obtain ⟨by1, by2⟩ := bY
  have hnew : Blk (((w.alloc (.cells (R16 r) 26)).alloc (.cells (List.replicate 8 z16).toArray 26)).alloc (.cells (List.replicate 8 z16).toArray 26)) w.heap.size 26 (r.map u16) := ((Blk.new w _ _).alloc _).alloc _
  go_enter Try.func25, Try.ntmps25
  go_wp2_with (refine wpList_load_row rfl 26 _ rfl _ rfl 26 (R16 r) _ _ hnew Try.underlying26 rfl (by rw [R16_size, hr]; exact szRub) ?_)
  go_loopw [13] (fun i wr => ∃ k : Nat, k ≤ 8 ∧ i = .int .i64 k ∧ MovRel r dx dy w wr k) (fun i _ => 8 - (intOf i).toNat)
  case atStart =>
    refine ⟨0, by omega, rfl, hnew, (Blk.at_new _ _ _ (by simp) _ _ rfl).alloc _, ⟨List.replicate 8 0, Blk.at_new _ _ _ (by simp) _ _ rfl, by simp, fun j hj => ?_⟩, below_three _ _ _ _⟩
    rw [if_neg (by omega)]
    simp only [rdN, List.getD, List.getElem?_replicate]; split <;> rfl
  case round =>
    obtain ⟨k, hk, rfl, h⟩ := hrel
    obtain ⟨l, hB1, hl, h1⟩ := h.out
    by_cases hlt : k < 8
    · have hix := rub_at r hr k hlt
      have H1 := Lib.hid h1
      clear h1
      by_cases hin : 0 ≤ (k : Int) + dy ∧ (k : Int) + dy ≤ 7
      · obtain ⟨i1, i2⟩ := hin
        have hin2 : inB 0 7 ((k : Int) + dy) = true := inB_true (by omega)
        have hc1 := hB1.cell ((k : Int) + dy).toNat _ (map_u16_at l _ (by omega))
        have hf1 := hB1.free ((k : Int) + dy).toNat
        have hset : ∀ v, v = bitsN (fun x => dk r ((x : Int) - dx) k) 16 → ∀ j : Nat, j < 8 → rdN (l.set ((k : Int) + dy).toNat v) j = if 0 ≤ (j : Int) - dy ∧ (j : Int) - dy < ((k + 1 : Nat) : Int) then bitsN (fun x => dk r ((x : Int) - dx) ((j : Int) - dy)) 16 else 0 := by
          intro v hv j hj
          rw [rdN_set _ _ _ _ (by omega)]
          by_cases e : j = ((k : Int) + dy).toNat
          · rw [if_pos e, if_pos (by omega), hv]
            have : (j : Int) - dy = k := by omega
            rw [this]
          · rw [if_neg e, H1.out j hj]
            by_cases e1 : 0 ≤ (j : Int) - dy ∧ (j : Int) - dy < k
            · rw [if_pos e1, if_pos (by omega)]
            · rw [if_neg e1, if_neg (by omega)]
        by_cases hpos : 0 ≤ dx
        · have hsh := Lib.hid (row_shl r k dx hlt hpos bx2 (hx k))
          go_wp2_with (go_at_call 40; refine (within_any _ _ _ _).mono ?_; rintro e w' ⟨rfl, rfl⟩)
          go_roundw
          case rel =>
            refine ⟨k + 1, by omega, by go_num, h.arg.other _ _ (by simp; omega), h.res.other _ _ (by simp), ⟨l.set ((k : Int) + dy).toNat (bitsN (fun x => dk r ((x : Int) - dx) k) 16), ?_, by simp [hl], hset _ rfl⟩, h.below.setCell (by simp; omega) _⟩
            rw [List.map_set, hsh.out]
            exact hB1.set _ _
          case measure => simp [intOf]; omega
        · have hsh := Lib.hid (row_shr r k dx hlt (by omega) bx1 (hx k))
          go_wp2_with (go_at_call 40; refine (within_any _ _ _ _).mono ?_; rintro e w' ⟨rfl, rfl⟩)
          go_roundw
          case rel =>
            refine ⟨k + 1, by omega, by go_num, h.arg.other _ _ (by simp; omega), h.res.other _ _ (by simp), ⟨l.set ((k : Int) + dy).toNat (bitsN (fun x => dk r ((x : Int) - dx) k) 16), ?_, by simp [hl], hset _ rfl⟩, h.below.setCell (by simp; omega) _⟩
            rw [List.map_set, hsh.out]
            exact hB1.set _ _
          case measure => simp [intOf]; omega
      · have hin2 : inB 0 7 ((k : Int) + dy) = false := inB_false hin
        go_wp2_with (go_at_call 40; refine (within_any _ _ _ _).mono ?_; rintro e w' ⟨rfl, rfl⟩)
        go_roundw
        case rel =>
          refine ⟨k + 1, by omega, by go_num, h.arg, h.res, ⟨l, hB1, hl, fun j hj => ?_⟩, h.below⟩
          rw [H1.out j hj]
          by_cases e1 : 0 ≤ (j : Int) - dy ∧ (j : Int) - dy < k
          · rw [if_pos e1, if_pos (by omega)]
          · rw [if_neg e1, if_neg (by omega)]
        case measure => simp [intOf]; omega
    · obtain rfl : k = 8 := by omega
      have hm : l = movR r dx dy := by
        refine ext8 hl (gridR_length _) fun j hj => ?_
        rw [h1 j hj, movR, rdN_gridR _ j hj]
        split
        · rfl
        · rename_i hn
          refine (eq_of_bits (k := 16) (bitsN_lt _ _) (by decide) fun x _ => ?_).symm
          rw [testBit_bitsN]
          have : dk r ((x : Int) - dx) ((j : Int) - dy) = false := by unfold dk; simp only [Bool.and_eq_false_iff, decide_eq_false_iff_not]; left; omega
          simp [this]
      subst hm
      clear h1
      go_wp2_with (first
        | (refine wpList_load_row rfl 26 _ rfl _ rfl 26 (R16 (movR r dx dy)) _ _ hB1 Try.underlying26 rfl (by rw [R16_size, hl]; exact szRub) ?_)
        | (refine wpList_store_row rfl 26 _ _ rfl _ (R16 (movR r dx dy)) rfl rfl 26 _ h.res (by rw [R16_size, hl]; exact szRub) (by rw [R16_size, hl]; rfl) (one_u16 _) ?_))
      exact bodyPost_ret (v := .agg (R16 (movR r dx dy))) (results_cell_row rfl _ _ _ 26 (R16 (movR r dx dy)) _ _ rfl (h.res.setRow_same ((movR r dx dy).map Go.Proofs.Ytgmlhnmjeelajaa.u16)) Try.underlying26 rfl (by rw [R16_size, hl]; exact szRub)) rfl ⟨rfl, below_setRow h.below _ _ (by omega)⟩

/-! ### MoveRubbing: a rubbing and a code -/
def zR : List Nat := List.replicate 8 0
theorem zR_length : zR.length = 8 := rfl
/-- What MoveRubbing returns: the rubbing, the code. -/
def moveOut (r : List Nat) (dx dy : Int) : List Nat × Int := if mayMove dx dy then (movR r dx dy, 0) else (zR, 2)
theorem moveOut_yes {r : List Nat} {dx dy : Int} (h : mayMove dx dy = true) : moveOut r dx dy = (movR r dx dy, 0) := by simp [moveOut, h]
theorem moveOut_no {r : List Nat} {dx dy : Int} (h : mayMove dx dy = false) : moveOut r dx dy = (zR, 2) := by simp [moveOut, h]

theorem movR_length (r : List Nat) (dx dy : Int) : (movR r dx dy).length = 8 := gridR_length _
theorem moveOut_length (r : List Nat) (dx dy : Int) : (moveOut r dx dy).1.length = 8 := by
  cases hm : mayMove dx dy
  · rw [moveOut_no hm]; exact zR_length
  · rw [moveOut_yes hm]; exact movR_length r dx dy

set_option maxRecDepth 100000 in
theorem moveRub_spec (r : List Nat) (dx dy : Int) (w : World) (hr : r.length = 8) :
    Calls Try.prog 20 #[.agg (R16 r), .int .i64 dx, .int .i64 dy] w fun e w' => e = .returned (.tuple #[.agg (R16 (moveOut r dx dy).1), .int .i64 (moveOut r dx dy).2]) ∧ Below w.heap.size w w' := by
  cases hm : mayMove dx dy
  · have HO := Lib.hid (moveOut_no (r := r) hm)
    go_enter Try.func20, Try.ntmps20
    go_wp2_with (go_at_call 34; refine (l07May_any _ _ _).mono ?_; rintro e w' ⟨rfl, rfl⟩)
    rw [HO.out]
    exact bodyPost_ret (v := .tuple #[.agg (R16 zR), .int .i64 2]) (results_row_tmp rfl _ _ _ 26 (R16 zR) _ _ _ rfl rfl (Blk.at_new _ _ (w.heap.size + 1) (by simp) 26 (zR.map Go.Proofs.Ytgmlhnmjeelajaa.u16) rfl) Try.underlying26 rfl szRub) rfl ⟨rfl, below_two _ _ _⟩
  · have HO := Lib.hid (moveOut_yes (r := r) hm)
    obtain ⟨bx, bY⟩ := mayMove_iff hm
    have hl : (movR r dx dy).length = 8 := gridR_length _
    have hk : Blk ((w.alloc (.cells (R16 r) 26)).alloc (.cells (zR.map Go.Proofs.Ytgmlhnmjeelajaa.u16).toArray 26)) w.heap.size 26 (r.map u16) := (Blk.new w _ _).alloc _
    have hz : Blk ((w.alloc (.cells (R16 r) 26)).alloc (.cells (zR.map Go.Proofs.Ytgmlhnmjeelajaa.u16).toArray 26)) (w.heap.size + 1) 26 (zR.map u16) := Blk.at_new _ _ _ (by simp) _ _ rfl
    have hB := below_two w (.cells (R16 r) 26) (.cells (zR.map Go.Proofs.Ytgmlhnmjeelajaa.u16).toArray 26)
    go_enter Try.func20, Try.ntmps20
    go_wp2_with (first
      | (go_at_call 34; refine (l07May_any _ _ _).mono ?_; rintro e w' ⟨rfl, rfl⟩)
      | (go_at_call 36; refine (l07Move_any _ r dx dy _ hr hk.row bx bY).mono ?_; rintro e w1 ⟨rfl, hb⟩; have hz := hz.next hb; have hB := below_step hB hb; clear hb)
      | (refine wpList_store_row rfl 26 _ _ rfl _ (R16 (movR r dx dy)) rfl rfl 26 _ hz (by rw [R16_size, hl]; exact szRub) (by rw [R16_size, hl]; rfl) (one_u16 _) ?_))
    rw [HO.out]
    exact bodyPost_ret (v := .tuple #[.agg (R16 (movR r dx dy)), .int .i64 0]) (results_row_tmp rfl _ _ _ 26 (R16 (movR r dx dy)) _ _ _ rfl rfl (hz.setRow_same ((movR r dx dy).map Go.Proofs.Ytgmlhnmjeelajaa.u16)) Try.underlying26 rfl (by rw [R16_size, hl]; exact szRub)) rfl ⟨rfl, below_setRow hB _ _ (by omega)⟩

set_option maxRecDepth 100000 in
theorem moveRub_impl (r : List Nat) (dx dy : Int) (w : World) (hr : r.length = 8) (hx : ∀ k, rdN r k < 65536) :
    Calls Try.prog 19 #[.agg (R16 r), .int .i64 dx, .int .i64 dy] w fun e w' => e = .returned (.tuple #[.agg (R16 (moveOut r dx dy).1), .int .i64 (moveOut r dx dy).2]) ∧ Below w.heap.size w w' := by
  cases hm : mayMove dx dy
  · have HO := Lib.hid (moveOut_no (r := r) hm)
    go_enter Try.func19, Try.ntmps19
    go_wp2_with (go_at_call 35; refine (isMove_any _ _ _).mono ?_; rintro e w' ⟨rfl, rfl⟩)
    rw [HO.out]
    exact bodyPost_ret (v := .tuple #[.agg (R16 zR), .int .i64 2]) (results_row_tmp rfl _ _ _ 26 (R16 zR) _ _ _ rfl rfl (Blk.at_new _ _ (w.heap.size + 1) (by simp) 26 (zR.map Go.Proofs.Ytgmlhnmjeelajaa.u16) rfl) Try.underlying26 rfl szRub) rfl ⟨rfl, below_two _ _ _⟩
  · have HO := Lib.hid (moveOut_yes (r := r) hm)
    obtain ⟨bx, bY⟩ := mayMove_iff hm
    have hl : (movR r dx dy).length = 8 := gridR_length _
    have hk : Blk ((w.alloc (.cells (R16 r) 26)).alloc (.cells (zR.map Go.Proofs.Ytgmlhnmjeelajaa.u16).toArray 26)) w.heap.size 26 (r.map u16) := (Blk.new w _ _).alloc _
    have hz : Blk ((w.alloc (.cells (R16 r) 26)).alloc (.cells (zR.map Go.Proofs.Ytgmlhnmjeelajaa.u16).toArray 26)) (w.heap.size + 1) 26 (zR.map u16) := Blk.at_new _ _ _ (by simp) _ _ rfl
    have hB := below_two w (.cells (R16 r) 26) (.cells (zR.map Go.Proofs.Ytgmlhnmjeelajaa.u16).toArray 26)
    go_enter Try.func19, Try.ntmps19
    go_wp2_with (first
      | (go_at_call 35; refine (isMove_any _ _ _).mono ?_; rintro e w' ⟨rfl, rfl⟩)
      | (refine wpList_load_row rfl 26 _ rfl _ rfl 26 (R16 r) _ _ hk Try.underlying26 rfl (by rw [R16_size, hr]; exact szRub) ?_)
      | (go_at_call 25; refine (moved_any r dx dy _ hr hx bx bY).mono ?_; rintro e w1 ⟨rfl, hb⟩; have hz := hz.next hb; have hB := below_step hB hb; clear hb)
      | (refine wpList_store_row rfl 26 _ _ rfl _ (R16 (movR r dx dy)) rfl rfl 26 _ hz (by rw [R16_size, hl]; exact szRub) (by rw [R16_size, hl]; rfl) (one_u16 _) ?_))
    rw [HO.out]
    exact bodyPost_ret (v := .tuple #[.agg (R16 (movR r dx dy)), .int .i64 0]) (results_row_tmp rfl _ _ _ 26 (R16 (movR r dx dy)) _ _ _ rfl rfl (hz.setRow_same ((movR r dx dy).map Go.Proofs.Ytgmlhnmjeelajaa.u16)) Try.underlying26 rfl (by rw [R16_size, hl]; exact szRub)) rfl ⟨rfl, below_setRow hB _ _ (by omega)⟩
end Go.Proofs.Ytgmlhnmjeelajaa
