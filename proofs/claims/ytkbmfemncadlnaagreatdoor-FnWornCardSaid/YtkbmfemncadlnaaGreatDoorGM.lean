/- Contracts: a rubbing wears once, by the reference. Contracts: a rubbing wears once, by the program: the dots around are counted first, then those that wear away are struck. Contracts: a rubbing wears once, and until few dots are left, by both. Contracts: a rubbing wears until few dots are left, by the reference and by the program. Rubbings that are compared within a drawn region. -/
import Derived.Test.YtkbmfemncadlnaaGreatDoorGL
import Derived.BigRegion
import Derived.Test.YtkbmfemncadlnaaGreatDoorGA
import Derived.ChangeKeysEq
import Derived.RegionTactic
namespace Go.Proofs.YtkbmfemncadlnaaGreatDoor
open Go Go.RowKit
set_option linter.unusedVariables false
set_option linter.unusedSimpArgs false

/-- Is the place number t of the nine around a dot dark. -/
def nbK (r : List Nat) (y x t : Nat) : Bool := dk r ((x : Int) + ((t % 3 : Nat) : Int) - 1) ((y : Int) + ((t / 3 : Nat) : Int) - 1)
theorem nbK_at (r : List Nat) (y x d e : Nat) (he : e < 3) : nbK r y x (3 * d + e) = dk r ((x : Int) + ((e : Int) - 1)) ((y : Int) + ((d : Int) - 1)) := by
  unfold nbK
  have h1 : (3 * d + e) % 3 = e := by omega
  have h2 : (3 * d + e) / 3 = d := by omega
  rw [h1, h2, Int.add_sub_assoc, Int.add_sub_assoc]
/-- How many of the nine are dark. -/
def nbN (r : List Nat) (y x : Nat) : Nat := cnt (nbK r y x) 9
def stays (r : List Nat) (need : Int) (y x : Nat) : Bool := dk r x y && decide (need ≤ (nbN r y x : Int) - 1)
/-- A rubbing that has worn once. -/
def wearR (r : List Nat) (need : Int) : List Nat := gridR (stays r need)
theorem wearR_length (r : List Nat) (need : Int) : (wearR r need).length = 8 := gridR_length _

set_option maxHeartbeats 2000000 in
set_option maxRecDepth 100000 in
theorem l07Wear_any (a : Addr) (r : List Nat) (need : Int) (w : World) (hr : r.length = 8) (hc : RowE u16 w a r) :
    Calls Tryz.prog 37 #[.pointer (some a), .int .i64 need] w fun e w' => e = .returned (.agg (R16 (wearR r need))) ∧ Below w.heap.size w w' := by
  have HM := Lib.hid (show gridR (stays r need) = wearR r need from rfl)
  go_enter Tryz.func37, Tryz.ntmps37
  go_wp2
  go_loopw [6] (fun i wr => ∃ y : Nat, y ≤ 8 ∧ i = .int .i64 y ∧ GridRel (stays r need) w wr y 0) (fun i _ => 8 - (intOf i).toNat)
  case atStart =>
    refine ⟨0, by omega, rfl, (Blk.at_new _ _ _ rfl _ _ rfl).alloc _, ?_, below_two _ _ _⟩
    rw [partR_start]
    exact Blk.at_new _ _ _ (by simp) _ _ rfl
  case round =>
    obtain ⟨y, hy, rfl, h⟩ := hrel
    by_cases hlt : y < 8
    · obtain ⟨wo, rfl⟩ : ∃ wo : World, wo = wr := ⟨_, rfl⟩
      have hd8 : decide ((y : Int) < 8) = true := by simp; omega
      go_wp2
      go_loopw [7] (fun i wr => ∃ k : Nat, k ≤ 16 ∧ i = .int .i64 k ∧ GridRel (stays r need) w wr y k) (fun i _ => 16 - (intOf i).toNat)
      case atStart => exact ⟨0, by omega, rfl, h⟩
      case round =>
        obtain ⟨k, hk, rfl, h⟩ := hrel
        by_cases hlk : k < 16
        · obtain ⟨wp, rfl⟩ : ∃ wp : World, wp = wr := ⟨_, rfl⟩
          have hd16 : decide ((k : Int) < 16) = true := by simp; omega
          have hrow := hc.next h.below
          cases hdk : dk r k y
          · have HP := Lib.hid (show stays r need y k = false by unfold stays; rw [hdk]; rfl)
            go_wp2_with (go_at_call 68; refine (dark_any _ r _ _ _ hr hrow).mono ?_; rintro e w' ⟨rfl, rfl⟩)
            go_roundw
            case rel => exact ⟨k + 1, by omega, by go_num, h.res, by rw [partR_no HP.out]; exact h.out, h.below⟩
            case measure => simp [intOf]; omega
          · have HD := Lib.hid hdk
            go_wp2_with (go_at_call 68; refine (dark_any _ r _ _ _ hr hrow).mono ?_; rintro e w' ⟨rfl, rfl⟩)
            clear hrow hdk
            go_loopw [8, 9] (fun n i wr => ∃ d : Nat, d ≤ 3 ∧ i = .int .i64 ((d : Int) - 1) ∧ n = .int .i64 ((cnt (nbK r y k) (3 * d) : Int) - 1) ∧ GridRel (stays r need) w wr y k) (fun _ i _ => (3 - (intOf i + 1)).toNat)
            case atStart => exact ⟨0, by omega, rfl, rfl, h⟩
            case round =>
              obtain ⟨d, hd, rfl, rfl, h⟩ := hrel
              by_cases hld : d < 3
              · obtain ⟨wq, rfl⟩ : ∃ wq : World, wq = wr := ⟨_, rfl⟩
                have hd1 : decide ((d : Int) - 1 ≤ 1) = true := by simp; omega
                go_wp2
                go_loopw [8, 10] (fun n i wr => ∃ e : Nat, e ≤ 3 ∧ i = .int .i64 ((e : Int) - 1) ∧ n = .int .i64 ((cnt (nbK r y k) (3 * d + e) : Int) - 1) ∧ GridRel (stays r need) w wr y k) (fun _ i _ => (3 - (intOf i + 1)).toNat)
                case atStart => exact ⟨0, by omega, rfl, rfl, h⟩
                case round =>
                  obtain ⟨e, he, rfl, rfl, h⟩ := hrel
                  have hrow := hc.next h.below
                  have hcl := cnt_le (nbK r y k) (3 * d + e)
                  by_cases hle : e < 3
                  · have HNB := Lib.hid (nbK_at r y k d e hle)
                    cases hq : dk r ((k : Int) + ((e : Int) - 1)) ((y : Int) + ((d : Int) - 1))
                    · have HC := Lib.hid (cnt_no (p := nbK r y k) (k := 3 * d + e) (by rw [HNB.out, hq]))
                      go_wp2_with (go_at_call 68; refine (dark_any _ r _ _ _ hr hrow).mono ?_; rintro e w' ⟨rfl, rfl⟩)
                      go_roundw
                      case rel => exact ⟨e + 1, by omega, by go_num, by rw [← Nat.add_assoc, HC.out], h⟩
                      case measure => simp [intOf]; omega
                    · have HC := Lib.hid (cnt_yes (p := nbK r y k) (k := 3 * d + e) (by rw [HNB.out, hq]))
                      go_wp2_with (go_at_call 68; refine (dark_any _ r _ _ _ hr hrow).mono ?_; rintro e w' ⟨rfl, rfl⟩)
                      go_roundw
                      case rel => exact ⟨e + 1, by omega, by go_num, by rw [← Nat.add_assoc, HC.out]; go_num, h⟩
                      case measure => simp [intOf]; omega
                  · obtain rfl : e = 3 := by omega
                    go_wp2
                    go_roundw
                    case rel => exact ⟨d + 1, by omega, by go_num, by rw [Nat.mul_add], h⟩
                    case measure => simp [intOf]; omega
              · obtain rfl : d = 3 := by omega
                have HN9 := Lib.hid (show cnt (nbK r y k) (3 * 3) = nbN r y k from rfl)
                rw [HN9.out]
                have hnb : nbN r y k ≤ 9 := cnt_le _ _
                by_cases hge : need ≤ (nbN r y k : Int) - 1
                · have HP := Lib.hid (show stays r need y k = true by unfold stays; rw [HD.out, decide_eq_true hge]; rfl)
                  have hc3 := h.out.cell y _ (map_u16_at _ y (by rw [partR_length]; omega))
                  have hf3 := h.out.free y
                  have hor := or16p (rdN (partR (stays r need) y k) y) k (partR_lt _ y k hk y) hlk
                  have hwp := wrap16p k hlk
                  go_wp2
                  go_roundw
                  case rel =>
                    refine ⟨k + 1, by omega, by go_num, h.res.other _ _ (by simp), ?_, h.below.setCell (by simp) _⟩
                    rw [← partR_yes hlt HP.out, List.map_set]
                    exact h.out.set y _
                  case measure => simp [intOf]; omega
                · have HP := Lib.hid (show stays r need y k = false by unfold stays; rw [decide_eq_false hge, Bool.and_false])
                  go_wp2
                  go_roundw
                  case rel => exact ⟨k + 1, by omega, by go_num, h.res, by rw [partR_no HP.out]; exact h.out, h.below⟩
                  case measure => simp [intOf]; omega
        · obtain rfl : k = 16 := by omega
          go_wp2
          go_roundw
          case rel => exact ⟨y + 1, by omega, by go_num, h.res, by rw [← partR_row]; exact h.out, h.below⟩
          case measure => simp [intOf]; omega
    · obtain rfl : y = 8 := by omega
      have hout := h.out
      rw [partR_all, HM.out] at hout
      have hl : (wearR r need).length = 8 := gridR_length _
      go_wp2_with (first
        | (refine wpList_load_row rfl 26 _ rfl _ rfl 26 (R16 (wearR r need)) _ _ hout Tryz.underlying26 rfl (by rw [R16_size, hl]; exact szRub) ?_)
        | (refine wpList_store_row rfl 26 _ _ rfl _ (R16 (wearR r need)) rfl rfl 26 _ h.res (by rw [R16_size, hl]; exact szRub) (by rw [R16_size, hl]; rfl) (one_u16 _) ?_))
      exact bodyPost_ret (v := .agg (R16 (wearR r need))) (results_cell_row rfl _ _ _ 26 (R16 (wearR r need)) _ _ rfl (h.res.setRow_same ((wearR r need).map Go.Proofs.YtkbmfemncadlnaaGreatDoor.u16)) Tryz.underlying26 rfl (by rw [R16_size, hl]; exact szRub)) rfl ⟨rfl, below_setRow h.below _ _ (by omega)⟩
end Go.Proofs.YtkbmfemncadlnaaGreatDoor
namespace Go.Proofs.YtkbmfemncadlnaaGreatDoor
open Go Go.RowKit
set_option linter.unusedVariables false
set_option linter.unusedSimpArgs false

theorem bit_and' (n k : Nat) (hn : n < 65536) : bits .and .u16 ((n : Int) / 2 ^ k) 1 = if n.testBit k then 1 else 0 := by
  have e1 : ((n : Int) / 2 ^ k) = ((n / 2 ^ k : Nat) : Int) := by simp
  have h := u16_and_nat (n / 2 ^ k) 1 (Nat.lt_of_le_of_lt (Nat.div_le_self _ _) hn) (by omega)
  rw [e1, show (1 : Int) = ((1 : Nat) : Int) from rfl, h, Nat.testBit_eq_decide_div_mod_eq, Nat.and_one_is_mod]
  have := Nat.mod_two_eq_zero_or_one (n / 2 ^ k)
  rcases this with h | h <;> simp [h]
theorem wr_small {n : Int} (h0 : 0 ≤ n) (h1 : n ≤ 1000) : wrap64 n = n := by rw [← IntWalk.i64_left]; exact IntWalk.i64_in _ (by omega)

/-- Does pass number t count a dot at (x, y). -/
def gq (r : List Nat) (y x t : Nat) : Bool := (t != 4) && dk r ((x : Int) - (((t % 3 : Nat) : Int) - 1)) ((y : Int) - (((t / 3 : Nat) : Int) - 1))
theorem gq_at (r : List Nat) (y x d e : Nat) (he : e < 3) : gq r y x (3 * d + e) = ((3 * d + e != 4) && dk r ((x : Int) - ((e : Int) - 1)) ((y : Int) - ((d : Int) - 1))) := by
  unfold gq
  have h1 : (3 * d + e) % 3 = e := by omega
  have h2 : (3 * d + e) / 3 = d := by omega
  rw [h1, h2]
theorem cnt_nine (p : Nat → Bool) : cnt p 9 = (if p 0 then 1 else 0) + (if p 1 then 1 else 0) + (if p 2 then 1 else 0) + (if p 3 then 1 else 0) + (if p 4 then 1 else 0) + (if p 5 then 1 else 0) + (if p 6 then 1 else 0) + (if p 7 then 1 else 0) + (if p 8 then 1 else 0) := by
  simp only [cnt, sumN, Nat.zero_add]
theorem gq_nb (r : List Nat) (y x t : Nat) (ht : t ≤ 8) (h4 : t ≠ 4) : gq r y x t = nbK r y x (8 - t) := by
  unfold gq nbK
  have h1 : (8 - t) % 3 = 2 - t % 3 := by omega
  have h2 : (8 - t) / 3 = 2 - t / 3 := by omega
  have h3 : (t != 4) = true := by simpa using h4
  have h5 : t % 3 ≤ 2 := by omega
  have h6 : t / 3 ≤ 2 := by omega
  rw [h1, h2, h3, Bool.true_and]
  congr 1 <;> omega
theorem nb_gq (r : List Nat) (y x : Nat) : nbN r y x = cnt (gq r y x) 9 + (if dk r x y then 1 else 0) := by
  have e4 : gq r y x 4 = false := rfl
  have k4 : nbK r y x 4 = dk r x y := by unfold nbK; congr 1 <;> omega
  unfold nbN
  rw [cnt_nine, cnt_nine, e4, k4, gq_nb r y x 0 (by omega) (by omega), gq_nb r y x 1 (by omega) (by omega), gq_nb r y x 2 (by omega) (by omega), gq_nb r y x 3 (by omega) (by omega), gq_nb r y x 5 (by omega) (by omega), gq_nb r y x 6 (by omega) (by omega), gq_nb r y x 7 (by omega) (by omega), gq_nb r y x 8 (by omega) (by omega)]
  simp only [Bool.false_eq_true, if_false, Nat.reduceSub]
  omega

/-- Cell i's count after T passes and pos dots of the next. -/
def cellF (r : List Nat) (T pos i : Nat) : Nat := cnt (gq r (i / 16) (i % 16)) (if i < pos then T + 1 else T)
def rowsV (r : List Nat) (T pos : Nat) : List Value := (List.range 128).map fun (i : Nat) => i64 (cellF r T pos i : Int)
theorem rowsV_start (r : List Nat) : rowsV r 0 0 = List.replicate 128 (.int .i64 0) := by
  unfold rowsV
  apply List.ext_getElem?
  intro i
  rw [List.getElem?_map, List.getElem?_replicate]
  by_cases hi : i < 128
  · rw [List.getElem?_range hi, if_pos hi]; simp [cellF, cnt, sumN, i64]
  · rw [List.getElem?_eq_none (by simpa using hi), if_neg hi]; rfl
theorem rowsV_next (r : List Nat) (T : Nat) : rowsV r T 128 = rowsV r (T + 1) 0 := by
  unfold rowsV
  refine List.map_congr_left fun i hi => ?_
  unfold cellF
  rw [if_pos (List.mem_range.1 hi), if_neg (by omega)]
theorem rowsV_at (r : List Nat) (T pos i : Nat) (hi : i < 128) : (rowsV r T pos)[i]? = some (.int .i64 (cellF r T pos i : Int)) := by
  unfold rowsV
  rw [List.getElem?_map, List.getElem?_range hi]; rfl
theorem cellF_at (r : List Nat) (T y x : Nat) (hx : x < 16) : cellF r T (16 * y + x) (16 * y + x) = cnt (gq r y x) T := by
  unfold cellF
  have h1 : (16 * y + x) / 16 = y := by omega
  have h2 : (16 * y + x) % 16 = x := by omega
  rw [h1, h2, if_neg (by omega)]
theorem cellF_end (r : List Nat) (T y x : Nat) (hx : x < 16) : cellF r T 0 (16 * y + x) = cnt (gq r y x) T := by
  unfold cellF
  have h1 : (16 * y + x) / 16 = y := by omega
  have h2 : (16 * y + x) % 16 = x := by omega
  rw [h1, h2, if_neg (by omega)]
theorem rowsV_no (r : List Nat) (T y x : Nat) (hx : x < 16) (h : gq r y x T = false) : rowsV r T (16 * y + x + 1) = rowsV r T (16 * y + x) := by
  unfold rowsV
  refine List.map_congr_left fun i hi => ?_
  unfold cellF
  by_cases e : i = 16 * y + x
  · subst e
    have h1 : (16 * y + x) / 16 = y := by omega
    have h2 : (16 * y + x) % 16 = x := by omega
    rw [h1, h2, if_pos (by omega), if_neg (by omega), cnt_no h]
  · by_cases h1 : i < 16 * y + x
    · rw [if_pos h1, if_pos (by omega)]
    · rw [if_neg h1, if_neg (by omega)]
theorem cnt_step (p : Nat → Bool) (T : Nat) : cnt p (T + 1) = cnt p T + (if p T then 1 else 0) := rfl
theorem rowsV_set (r : List Nat) (T y x : Nat) (hy : y < 8) (hx : x < 16) : (rowsV r T (16 * y + x)).set (16 * y + x) (.int .i64 ((cnt (gq r y x) T : Int) + ((if gq r y x T then 1 else 0 : Nat) : Int))) = rowsV r T (16 * y + x + 1) := by
  unfold rowsV
  apply List.ext_getElem?
  intro i
  rw [List.getElem?_set, List.getElem?_map, List.getElem?_map]
  by_cases hi : i < 128
  · rw [List.getElem?_range hi]
    by_cases e : 16 * y + x = i
    · subst e
      have h1 : (16 * y + x) / 16 = y := by omega
      have h2 : (16 * y + x) % 16 = x := by omega
      rw [if_pos rfl, if_pos (by simpa using hi)]
      simp only [Option.map_some, cellF, h1, h2, i64]
      rw [if_pos (show 16 * y + x < 16 * y + x + 1 by omega), cnt_step]
      simp
    · rw [if_neg e]
      simp only [Option.map_some, cellF]
      by_cases h1 : i < 16 * y + x
      · rw [if_pos h1, if_pos (by omega)]
      · rw [if_neg h1, if_neg (by omega)]
  · rw [if_neg (by omega), List.getElem?_eq_none (by simpa using hi)]; rfl

/-- A rubbing of which the first rows, and the first k dots of row y, have worn. -/
def mixR (r : List Nat) (p : Nat → Nat → Bool) (y k : Nat) : List Nat := (List.range 8).map fun j => if j < y then bitsN (p j) 16 else if j = y then bitsN (fun x => if x < k then p j x else (rdN r j).testBit x) 16 else rdN r j
theorem mixR_length (r : List Nat) (p : Nat → Nat → Bool) (y k : Nat) : (mixR r p y k).length = 8 := by simp [mixR]
theorem rdN_mixR (r : List Nat) (p : Nat → Nat → Bool) (y k j : Nat) (hj : j < 8) : rdN (mixR r p y k) j = if j < y then bitsN (p j) 16 else if j = y then bitsN (fun x => if x < k then p j x else (rdN r j).testBit x) 16 else rdN r j := by
  simp [rdN, mixR, List.getD, List.getElem?_map, List.getElem?_range hj]
theorem bits_self {n : Nat} (h : n < 65536) : bitsN n.testBit 16 = n := eq_of_bits (k := 16) (bitsN_lt _ _) h fun x hx => by rw [testBit_bitsN]; simp [hx]
theorem mixR_start (r : List Nat) (p : Nat → Nat → Bool) (hr : r.length = 8) (hx : ∀ k, rdN r k < 65536) : mixR r p 0 0 = r := by
  refine ext8 (mixR_length _ _ _ _) hr fun y hy => ?_
  rw [rdN_mixR r p 0 0 y hy, if_neg (by omega)]
  split
  · simp only [Nat.not_lt_zero, if_false]; exact bits_self (hx y)
  · rfl
theorem mixR_all (r : List Nat) (p : Nat → Nat → Bool) : mixR r p 8 0 = gridR p := by
  unfold mixR gridR
  refine List.map_congr_left fun j hj => ?_
  rw [if_pos (List.mem_range.1 hj)]
theorem mixR_row (r : List Nat) (p : Nat → Nat → Bool) (y : Nat) (hx : ∀ k, rdN r k < 65536) : mixR r p y 16 = mixR r p (y + 1) 0 := by
  unfold mixR
  refine List.map_congr_left fun j _ => ?_
  by_cases h1 : j < y
  · rw [if_pos h1, if_pos (by omega)]
  · by_cases h2 : j = y
    · rw [if_neg h1, if_pos h2, if_pos (by omega)]
      refine eq_of_bits (k := 16) (bitsN_lt _ _) (bitsN_lt _ _) fun x hxx => ?_
      rw [testBit_bitsN, testBit_bitsN]; simp [hxx]
    · rw [if_neg h1, if_neg h2, if_neg (by omega)]
      split
      · simp only [Nat.not_lt_zero, if_false]; exact (bits_self (hx j)).symm
      · rfl
theorem mixR_keep (r : List Nat) (p : Nat → Nat → Bool) (y k : Nat) (h : p y k = (rdN r y).testBit k) : mixR r p y (k + 1) = mixR r p y k := by
  unfold mixR
  refine List.map_congr_left fun j _ => ?_
  split
  · rfl
  · split
    · subst_vars
      congr 1
      funext x
      by_cases e : x = k
      · subst e; rw [if_pos (by omega), if_neg (by omega), h]
      · by_cases h1 : x < k
        · rw [if_pos h1, if_pos (by omega)]
        · rw [if_neg h1, if_neg (by omega)]
    · rfl
theorem mixR_lt (r : List Nat) (p : Nat → Nat → Bool) (y k : Nat) (hx : ∀ k, rdN r k < 65536) : ∀ j, rdN (mixR r p y k) j < 65536 := by
  intro j
  by_cases hj : j < 8
  · rw [rdN_mixR r p y k j hj]
    split
    · exact bitsN_lt _ 16
    · split
      · exact bitsN_lt _ 16
      · exact hx j
  · rw [rdN_past _ _ (by rw [mixR_length]; omega)]; omega
theorem mixR_strike (r : List Nat) (p : Nat → Nat → Bool) (y k : Nat) (hy : y < 8) (hk : k < 16) (h : p y k = false) : (mixR r p y k).set y (rdN (mixR r p y k) y &&& (65535 - 2 ^ k)) = mixR r p y (k + 1) := by
  refine ext8 (by simp [mixR]) (mixR_length _ _ _ _) fun i hi => ?_
  rw [rdN_set _ _ _ _ (by rw [mixR_length]; exact hy), rdN_mixR r p y k y hy, rdN_mixR r p y (k + 1) i hi, rdN_mixR r p y k i hi, if_neg (by omega : ¬ y < y), if_pos rfl]
  by_cases e : i = y
  · subst e
    rw [if_pos rfl, if_neg (by omega), if_pos rfl]
    refine eq_of_bits (k := 16) (Nat.lt_of_le_of_lt Nat.and_le_left (bitsN_lt _ _)) (bitsN_lt _ _) fun x hxx => ?_
    rw [Nat.testBit_and, testBit_bitsN, testBit_bitsN, testBit_inv _ _ (pow_lt16 hk) hxx, Nat.testBit_two_pow]
    by_cases e : x = k
    · subst e; simp [h]
    · have e1 : decide (k = x) = false := by simp; omega
      rw [e1]
      by_cases h1 : x < k
      · simp [h1, hxx, show x < k + 1 by omega]
      · simp [h1, hxx, show ¬ x < k + 1 by omega]
  · rw [if_neg e, if_neg e, if_neg e]
theorem andNot16p (x k : Nat) (hx : x < 65536) (hk : k < 16) : bits .andNot .u16 (x : Int) ((2 : Int) ^ k) = ((x &&& (65535 - 2 ^ k) : Nat) : Int) := by
  have := andNot16 x (2 ^ k) hx (pow_lt16 hk)
  rw [← this]; simp

/-- The worn rubbing's array of arrays: 8 rows of 16 cells. -/
structure WearRel (r : List Nat) (w wr : World) (T pos : Nat) : Prop where
  arg : Blk wr w.heap.size 26 (r.map u16)
  res : Blk wr (w.heap.size + 1) 26 (List.replicate 8 z16)
  acc : Blk wr (w.heap.size + 1 + 1) 92 (rowsV r T pos)
  below : Below w.heap.size w wr

structure StrikeRel (r : List Nat) (need : Int) (w wr : World) (y k : Nat) : Prop where
  arg : Blk wr w.heap.size 26 ((mixR r (stays r need) y k).map u16)
  res : Blk wr (w.heap.size + 1) 26 (List.replicate 8 z16)
  acc : Blk wr (w.heap.size + 1 + 1) 92 (rowsV r 9 0)
  below : Below w.heap.size w wr

set_option maxHeartbeats 4000000 in
set_option maxRecDepth 100000 in
theorem worn_any (r : List Nat) (need : Int) (w : World) (hr : r.length = 8) (hx : ∀ k, rdN r k < 65536) (hn : 0 ≤ need ∧ need ≤ 8) :
    Calls Tryz.prog 35 #[.agg (R16 r), .int .i64 need] w fun e w' => e = .returned (.agg (R16 (wearR r need))) ∧ Below w.heap.size w w' := by
  have HM := Lib.hid (show gridR (stays r need) = wearR r need from rfl)
  go_enter Tryz.func35, Tryz.ntmps35
  have hz : (List.replicate 128 (Value.int .i64 0)).toArray = Tryz.zeroCells92 := by kernel_rfl
  have hacc : ∀ w1 : World, Blk (w1.alloc (.cells Tryz.zeroCells92 92)) w1.heap.size 92 (rowsV r 0 0) := fun w1 => by
    rw [rowsV_start, ← hz]; exact Blk.new w1 _ _
  clear hz
  go_wp2_with (refine wpList_store_new rfl 92 _ _ rfl Tryz.zeroCells92 (by show Value.pointer (some ⟨w.heap.size + 1 + 1, 0, none⟩) = _; rw [World.size_alloc, World.size_alloc]) rfl 92 _ (by kernel_rfl) (by kernel_rfl) (by kernel_rfl) ?_)
  go_loopw [6] (fun i wr => ∃ d : Nat, d ≤ 3 ∧ i = .int .i64 ((d : Int) - 1) ∧ WearRel r w wr (3 * d) 0) (fun i _ => (3 - (intOf i + 1)).toNat)
  case atStart => exact ⟨0, by omega, rfl, ((Blk.new w _ _).alloc _).alloc _, (Blk.at_new _ _ _ (by simp) _ _ rfl).alloc _, by have := hacc ((w.alloc (.cells (R16 r) 26)).alloc (.cells (List.replicate 8 z16).toArray 26)); rw [World.size_alloc, World.size_alloc] at this; exact this, below_three _ _ _ _⟩
  case round =>
    obtain ⟨d, hd, rfl, h⟩ := hrel
    clear hacc
    by_cases hld : d < 3
    · obtain ⟨wo, rfl⟩ : ∃ wo : World, wo = wr := ⟨_, rfl⟩
      have hd1 : decide ((d : Int) - 1 ≤ 1) = true := by simp; omega
      go_wp2
      go_loopw [7] (fun i wr => ∃ e : Nat, e ≤ 3 ∧ i = .int .i64 ((e : Int) - 1) ∧ WearRel r w wr (3 * d + e) 0) (fun i _ => (3 - (intOf i + 1)).toNat)
      case atStart => exact ⟨0, by omega, rfl, h⟩
      case round =>
        obtain ⟨e, he, rfl, h⟩ := hrel
        by_cases hle : e < 3
        · have he1 : decide ((e : Int) - 1 ≤ 1) = true := by simp; omega
          have harg := h.arg
          go_wp2_with (first
            | (refine wpList_load_row rfl 26 _ rfl _ rfl 26 (R16 r) _ _ harg Tryz.underlying26 rfl (by rw [R16_size, hr]; exact szRub) ?_)
            | (go_at_call 67; refine (moved_any r _ _ _ hr hx (by omega) (by omega)).mono ?_; rintro e' w1 ⟨rfl, hb⟩; have h : WearRel r w w1 (3 * d + e) 0 := ⟨h.arg.next hb, h.res.next hb, h.acc.next hb, below_step h.below hb⟩; clear hb))
          clear harg
          go_loopw [26] (fun i wr => ∃ y : Nat, y ≤ 8 ∧ i = .int .i64 y ∧ WearRel r w wr (3 * d + e) (16 * y)) (fun i _ => 8 - (intOf i).toNat)
          case atStart => exact ⟨0, by omega, rfl, h⟩
          case round =>
            obtain ⟨y, hy, rfl, h⟩ := hrel
            by_cases hlt : y < 8
            · obtain ⟨wp, rfl⟩ : ∃ wp : World, wp = wr := ⟨_, rfl⟩
              have hd8 : decide ((y : Int) < 8) = true := by simp; omega
              have hix := rub_at (movR r ((e : Int) - 1) ((d : Int) - 1)) (gridR_length _) y hlt
              go_wp2
              go_loopw [30] (fun i wr => ∃ x : Nat, x ≤ 16 ∧ i = .int .i64 x ∧ WearRel r w wr (3 * d + e) (16 * y + x)) (fun i _ => 16 - (intOf i).toNat)
              case atStart => exact ⟨0, by omega, rfl, h⟩
              case round =>
                obtain ⟨x, hxx, rfl, h⟩ := hrel
                clear hix
                by_cases hlx : x < 16
                · by_cases h4 : 3 * d + e = 4
                  · obtain rfl : d = 1 := by omega
                    obtain rfl : e = 1 := by omega
                    have HN := Lib.hid (rowsV_no r (3 * 1 + 1) y x hlx rfl)
                    go_wp2
                    go_roundw
                    case rel => exact ⟨x + 1, by omega, by go_num, h.arg, h.res, by rw [← Nat.add_assoc, HN.out]; exact h.acc, h.below⟩
                    case measure => simp [intOf]; omega
                  · have hcell := h.acc.cell (16 * y + x) _ (rowsV_at r (3 * d + e) (16 * y + x) (16 * y + x) (by omega))
                    rw [cellF_at r (3 * d + e) y x hlx, Nat.mul_comm 16 y] at hcell
                    have hfree := h.acc.free (y * 16 + x)
                    have hset := Lib.hid (rowsV_set r (3 * d + e) y x hlt hlx)
                    have hbv := bit_and' (rdN (movR r ((e : Int) - 1) ((d : Int) - 1)) y) x (gridR_lt _ y)
                    have htb : (rdN (movR r ((e : Int) - 1) ((d : Int) - 1)) y).testBit x = gq r y x (3 * d + e) := by
                      rw [gq_at r y x d e hle]
                      have h3 : (3 * d + e != 4) = true := by simpa using h4
                      unfold movR
                      rw [rdN_gridR _ y hlt, testBit_bitsN, decide_eq_true hlx, Bool.true_and, h3, Bool.true_and]
                    rw [htb] at hbv
                    have hcl := cnt_le (gq r y x) (3 * d + e)
                    obtain ⟨b, hb⟩ : ∃ b : Nat, b = (if gq r y x (3 * d + e) then 1 else 0) := ⟨_, rfl⟩
                    have hb1 : b ≤ 1 := by rw [hb]; split <;> omega
                    have hbv2 : bits .and .u16 ((rdN (movR r ((e : Int) - 1) ((d : Int) - 1)) y : Int) / 2 ^ x) 1 = (b : Int) := by rw [hbv, hb]; split <;> rfl
                    rw [← hb] at hset
                    clear hbv htb hb
                    by_cases he1' : e = 1
                    · obtain rfl := he1'
                      have hv : wrap64 ((cnt (gq r y x) (3 * d + 1) : Int) + wrap64 (bits BinOp.and IntKind.u16 ((rdN (movR r 0 ((d : Int) - 1)) y : Int) / 2 ^ x) 1)) = (cnt (gq r y x) (3 * d + 1) : Int) + (b : Int) := by
                        have e0 : (((1 : Nat) : Int) - 1) = 0 := by omega
                        rw [e0] at hbv2
                        rw [hbv2, wr_small (n := (b : Int)) (by omega) (by omega), wr_small (by omega) (by omega)]
                      have HV := Lib.hid hv
                      clear hv hbv2
                      have c2 : ((d : Int) - 1 != 0) = true := by simp; omega
                      go_wp2
                      go_region
                      go_wp2
                      go_roundw
                      case rel =>
                        refine ⟨x + 1, by omega, by go_num, (h.arg.other _ _ (by simp; omega)).drew, (h.res.other _ _ (by simp)).drew, ?_, (h.below.setCell (by simp; omega) _).drew⟩
                        rw [← Nat.add_assoc, ← hset.out, Nat.mul_comm y 16, HV.out]
                        exact (h.acc.set _ _).drew
                      case measure => simp [intOf]; omega
                    · have hv : wrap64 ((cnt (gq r y x) (3 * d + e) : Int) + wrap64 (bits BinOp.and IntKind.u16 ((rdN (movR r ((e : Int) - 1) ((d : Int) - 1)) y : Int) / 2 ^ x) 1)) = (cnt (gq r y x) (3 * d + e) : Int) + (b : Int) := by
                        rw [hbv2, wr_small (n := (b : Int)) (by omega) (by omega), wr_small (by omega) (by omega)]
                      have HV := Lib.hid hv
                      clear hv hbv2
                      have c1 : ((e : Int) - 1 != 0) = true := by simp; omega
                      go_wp2
                      go_region
                      go_wp2
                      go_roundw
                      case rel =>
                        refine ⟨x + 1, by omega, by go_num, (h.arg.other _ _ (by simp; omega)).drew, (h.res.other _ _ (by simp)).drew, ?_, (h.below.setCell (by simp; omega) _).drew⟩
                        rw [← Nat.add_assoc, ← hset.out, Nat.mul_comm y 16, HV.out]
                        exact (h.acc.set _ _).drew
                      case measure => simp [intOf]; omega
                · obtain rfl : x = 16 := by omega
                  go_wp2
                  go_roundw
                  case rel => exact ⟨y + 1, by omega, by go_num, by rw [Nat.mul_add]; exact h⟩
                  case measure => simp [intOf]; omega
            · obtain rfl : y = 8 := by omega
              have HN := Lib.hid (rowsV_next r (3 * d + e))
              go_wp2
              go_roundw
              case rel => exact ⟨e + 1, by omega, by go_num, h.arg, h.res, by rw [← Nat.add_assoc, ← HN.out]; exact h.acc, h.below⟩
              case measure => simp [intOf]; omega
        · obtain rfl : e = 3 := by omega
          go_wp2
          go_roundw
          case rel => exact ⟨d + 1, by omega, by go_num, by rw [Nat.mul_add]; exact h⟩
          case measure => simp [intOf]; omega
    · obtain rfl : d = 3 := by omega
      go_wp2
      go_loopw [54] (fun i wr => ∃ y : Nat, y ≤ 8 ∧ i = .int .i64 y ∧ StrikeRel r need w wr y 0) (fun i _ => 8 - (intOf i).toNat)
      case atStart => exact ⟨0, by omega, rfl, by rw [mixR_start r _ hr hx]; exact h.arg, h.res, h.acc, h.below⟩
      case round =>
        obtain ⟨y, hy, rfl, h⟩ := hrel
        by_cases hlt : y < 8
        · obtain ⟨wp, rfl⟩ : ∃ wp : World, wp = wr := ⟨_, rfl⟩
          have hd8 : decide ((y : Int) < 8) = true := by simp; omega
          go_wp2
          go_loopw [57] (fun i wr => ∃ x : Nat, x ≤ 16 ∧ i = .int .i64 x ∧ StrikeRel r need w wr y x) (fun i _ => 16 - (intOf i).toNat)
          case atStart => exact ⟨0, by omega, rfl, h⟩
          case round =>
            obtain ⟨x, hxx, rfl, h⟩ := hrel
            by_cases hlx : x < 16
            · have hcell := h.acc.cell (16 * y + x) _ (rowsV_at r 9 0 (16 * y + x) (by omega))
              rw [cellF_end r 9 y x hlx, Nat.mul_comm 16 y] at hcell
              have hnb := nb_gq r y x
              have hdk : dk r x y = (rdN r y).testBit x := dk_in r x y hlx hlt
              by_cases hlo : (cnt (gq r y x) 9 : Int) < need
              · have HS := Lib.hid (show stays r need y x = false by
                  unfold stays
                  cases hq : dk r x y
                  · rfl
                  · rw [hq] at hnb
                    simp only [if_true] at hnb
                    rw [Bool.true_and]; exact decide_eq_false (by omega))
                have hc3 := h.arg.cell y _ (map_u16_at _ y (by rw [mixR_length]; omega))
                have hf3 := h.arg.free y
                have hand := andNot16p (rdN (mixR r (stays r need) y x) y) x (mixR_lt r _ y x hx y) hlx
                have hwp := wrap16p x hlx
                clear hnb hdk
                go_wp2
                go_region
                go_wp2
                go_roundw
                case rel =>
                  refine ⟨x + 1, by omega, by go_num, ?_, (h.res.other _ _ (by simp)).drew, (h.acc.other _ _ (by simp; omega)).drew, (h.below.setCell (by simp) _).drew⟩
                  rw [← mixR_strike r _ y x hlt hlx HS.out, List.map_set]
                  exact (h.arg.set y _).drew
                case measure => simp [intOf]; omega
              · have HS := Lib.hid (show stays r need y x = (rdN r y).testBit x by
                  unfold stays
                  rw [hdk]
                  rw [hdk] at hnb
                  cases hq : (rdN r y).testBit x
                  · rfl
                  · rw [hq] at hnb
                    simp only [if_true] at hnb
                    rw [Bool.true_and]; exact decide_eq_true (by omega))
                clear hnb hdk
                go_wp2
                go_roundw
                case rel => exact ⟨x + 1, by omega, by go_num, by rw [mixR_keep r _ y x HS.out]; exact h.arg, h.res, h.acc, h.below⟩
                case measure => simp [intOf]; omega
            · obtain rfl : x = 16 := by omega
              have HR := Lib.hid (mixR_row r (stays r need) y hx)
              go_wp2
              go_roundw
              case rel => exact ⟨y + 1, by omega, by go_num, by rw [← HR.out]; exact h.arg, h.res, h.acc, h.below⟩
              case measure => simp [intOf]; omega
        · obtain rfl : y = 8 := by omega
          have hout := h.arg
          rw [mixR_all, HM.out] at hout
          have hl : (wearR r need).length = 8 := gridR_length _
          go_wp2_with (first
            | (refine wpList_load_row rfl 26 _ rfl _ rfl 26 (R16 (wearR r need)) _ _ hout Tryz.underlying26 rfl (by rw [R16_size, hl]; exact szRub) ?_)
            | (refine wpList_store_row rfl 26 _ _ rfl _ (R16 (wearR r need)) rfl rfl 26 _ h.res (by rw [R16_size, hl]; exact szRub) (by rw [R16_size, hl]; rfl) (one_u16 _) ?_))
          exact bodyPost_ret (v := .agg (R16 (wearR r need))) (results_cell_row rfl _ _ _ 26 (R16 (wearR r need)) _ _ rfl (h.res.setRow_same ((wearR r need).map Go.Proofs.YtkbmfemncadlnaaGreatDoor.u16)) Tryz.underlying26 rfl (by rw [R16_size, hl]; exact szRub)) rfl ⟨rfl, below_setRow h.below _ _ (by omega)⟩
end Go.Proofs.YtkbmfemncadlnaaGreatDoor
namespace Go.Proofs.YtkbmfemncadlnaaGreatDoor
open Go Go.RowKit
set_option linter.unusedVariables false
set_option linter.unusedSimpArgs false

/-- What WearOnce returns: the rubbing, the code. -/
def wearOut (r : List Nat) (need : Int) : List Nat × Int := if inB 0 8 need then (wearR r need, 0) else (zR, 2)
theorem wearOut_yes {r : List Nat} {need : Int} (h : inB 0 8 need = true) : wearOut r need = (wearR r need, 0) := by simp [wearOut, h]
theorem wearOut_no {r : List Nat} {need : Int} (h : inB 0 8 need = false) : wearOut r need = (zR, 2) := by simp [wearOut, h]
theorem wearOut_length (r : List Nat) (need : Int) : (wearOut r need).1.length = 8 := by
  cases hm : inB 0 8 need
  · rw [wearOut_no hm]; exact zR_length
  · rw [wearOut_yes hm]; exact wearR_length r need
theorem l07Need_any (n : Int) (w : World) : Calls Tryz.prog 36 #[.int .i64 n] w fun e w' => e = .returned (.bool (inB 0 8 n)) ∧ w = w' := by
  go_enter Tryz.func36, Tryz.ntmps36
  go_wp2_with (go_at_call 45; refine (in_any _ _ _ _).mono ?_; rintro e w' ⟨rfl, rfl⟩)
  go_ret
  exact ⟨rfl, rfl⟩

set_option maxRecDepth 100000 in
theorem wearOnce_spec (r : List Nat) (need : Int) (w : World) (hr : r.length = 8) :
    Calls Tryz.prog 8 #[.agg (R16 r), .int .i64 need] w fun e w' => e = .returned (.tuple #[.agg (R16 (wearOut r need).1), .int .i64 (wearOut r need).2]) ∧ Below w.heap.size w w' := by
  cases hm : inB 0 8 need
  · have HO := Lib.hid (wearOut_no (r := r) hm)
    go_enter Tryz.func8, Tryz.ntmps8
    go_wp2_with (go_at_call 36; refine (l07Need_any _ _).mono ?_; rintro e w' ⟨rfl, rfl⟩)
    rw [HO.out]
    exact bodyPost_ret (v := .tuple #[.agg (R16 zR), .int .i64 2]) (results_row_tmp rfl _ _ _ 26 (R16 zR) _ _ _ rfl rfl (Blk.at_new _ _ (w.heap.size + 1) (by simp) 26 (zR.map Go.Proofs.YtkbmfemncadlnaaGreatDoor.u16) rfl) Tryz.underlying26 rfl szRub) rfl ⟨rfl, below_two _ _ _⟩
  · have HO := Lib.hid (wearOut_yes (r := r) hm)
    have bx := inB_iff.1 hm
    have hl : (wearR r need).length = 8 := gridR_length _
    have hk : Blk ((w.alloc (.cells (R16 r) 26)).alloc (.cells (zR.map Go.Proofs.YtkbmfemncadlnaaGreatDoor.u16).toArray 26)) w.heap.size 26 (r.map u16) := (Blk.new w _ _).alloc _
    have hz : Blk ((w.alloc (.cells (R16 r) 26)).alloc (.cells (zR.map Go.Proofs.YtkbmfemncadlnaaGreatDoor.u16).toArray 26)) (w.heap.size + 1) 26 (zR.map u16) := Blk.at_new _ _ _ (by simp) _ _ rfl
    have hB := below_two w (.cells (R16 r) 26) (.cells (zR.map Go.Proofs.YtkbmfemncadlnaaGreatDoor.u16).toArray 26)
    go_enter Tryz.func8, Tryz.ntmps8
    go_wp2_with (first
      | (go_at_call 36; refine (l07Need_any _ _).mono ?_; rintro e w' ⟨rfl, rfl⟩)
      | (go_at_call 37; refine (l07Wear_any _ r need _ hr hk.row).mono ?_; rintro e w1 ⟨rfl, hb⟩; have hz := hz.next hb; have hB := below_step hB hb; clear hb)
      | (refine wpList_store_row rfl 26 _ _ rfl _ (R16 (wearR r need)) rfl rfl 26 _ hz (by rw [R16_size, hl]; exact szRub) (by rw [R16_size, hl]; rfl) (one_u16 _) ?_))
    rw [HO.out]
    exact bodyPost_ret (v := .tuple #[.agg (R16 (wearR r need)), .int .i64 0]) (results_row_tmp rfl _ _ _ 26 (R16 (wearR r need)) _ _ _ rfl rfl (hz.setRow_same ((wearR r need).map Go.Proofs.YtkbmfemncadlnaaGreatDoor.u16)) Tryz.underlying26 rfl (by rw [R16_size, hl]; exact szRub)) rfl ⟨rfl, below_setRow hB _ _ (by omega)⟩

set_option maxRecDepth 100000 in
theorem wearOnce_impl (r : List Nat) (need : Int) (w : World) (hr : r.length = 8) (hx : ∀ k, rdN r k < 65536) :
    Calls Tryz.prog 7 #[.agg (R16 r), .int .i64 need] w fun e w' => e = .returned (.tuple #[.agg (R16 (wearOut r need).1), .int .i64 (wearOut r need).2]) ∧ Below w.heap.size w w' := by
  cases hm : inB 0 8 need
  · have HO := Lib.hid (wearOut_no (r := r) hm)
    go_enter Tryz.func7, Tryz.ntmps7
    go_wp2_with (go_at_call 34; refine (within_any _ _ _ _).mono ?_; rintro e w' ⟨rfl, rfl⟩)
    rw [HO.out]
    exact bodyPost_ret (v := .tuple #[.agg (R16 zR), .int .i64 2]) (results_row_tmp rfl _ _ _ 26 (R16 zR) _ _ _ rfl rfl (Blk.at_new _ _ (w.heap.size + 1) (by simp) 26 (zR.map Go.Proofs.YtkbmfemncadlnaaGreatDoor.u16) rfl) Tryz.underlying26 rfl szRub) rfl ⟨rfl, below_two _ _ _⟩
  · have HO := Lib.hid (wearOut_yes (r := r) hm)
    have bx := inB_iff.1 hm
    have hl : (wearR r need).length = 8 := gridR_length _
    have hk : Blk ((w.alloc (.cells (R16 r) 26)).alloc (.cells (zR.map Go.Proofs.YtkbmfemncadlnaaGreatDoor.u16).toArray 26)) w.heap.size 26 (r.map u16) := (Blk.new w _ _).alloc _
    have hz : Blk ((w.alloc (.cells (R16 r) 26)).alloc (.cells (zR.map Go.Proofs.YtkbmfemncadlnaaGreatDoor.u16).toArray 26)) (w.heap.size + 1) 26 (zR.map u16) := Blk.at_new _ _ _ (by simp) _ _ rfl
    have hB := below_two w (.cells (R16 r) 26) (.cells (zR.map Go.Proofs.YtkbmfemncadlnaaGreatDoor.u16).toArray 26)
    go_enter Tryz.func7, Tryz.ntmps7
    go_wp2_with (first
      | (go_at_call 34; refine (within_any _ _ _ _).mono ?_; rintro e w' ⟨rfl, rfl⟩)
      | (refine wpList_load_row rfl 26 _ rfl _ rfl 26 (R16 r) _ _ hk Tryz.underlying26 rfl (by rw [R16_size, hr]; exact szRub) ?_)
      | (go_at_call 35; refine (worn_any r need _ hr hx bx).mono ?_; rintro e w1 ⟨rfl, hb⟩; have hz := hz.next hb; have hB := below_step hB hb; clear hb)
      | (refine wpList_store_row rfl 26 _ _ rfl _ (R16 (wearR r need)) rfl rfl 26 _ hz (by rw [R16_size, hl]; exact szRub) (by rw [R16_size, hl]; rfl) (one_u16 _) ?_))
    rw [HO.out]
    exact bodyPost_ret (v := .tuple #[.agg (R16 (wearR r need)), .int .i64 0]) (results_row_tmp rfl _ _ _ 26 (R16 (wearR r need)) _ _ _ rfl rfl (hz.setRow_same ((wearR r need).map Go.Proofs.YtkbmfemncadlnaaGreatDoor.u16)) Tryz.underlying26 rfl (by rw [R16_size, hl]; exact szRub)) rfl ⟨rfl, below_setRow hB _ _ (by omega)⟩
end Go.Proofs.YtkbmfemncadlnaaGreatDoor
namespace Go.Proofs.YtkbmfemncadlnaaGreatDoor
open Go Go.RowKit
set_option linter.unusedVariables false
set_option linter.unusedSimpArgs false

/-! ### Two rubbings compared by '==' -/
theorem eqItems_R16 (a b : List Nat) (ha : a.length = 8) (hb : b.length = 8) (w : World) : ∀ is : List Nat, (∀ i ∈ is, i < 8) →
    (Op.eqItems 9999 24 1 (R16 a) (R16 b) is).run Tryz.prog w = .ok (is.all fun i => rdN a i == rdN b i) w
  | [], _ => by simp [Op.eqItems, Sem.run_pure]
  | i :: is, h => by
    have hi : i < 8 := h i (by simp)
    have hp : ∀ l : List Nat, l.length = 8 → (part 24 (R16 l) (i * 1)).run Tryz.prog w = .ok (.int .u16 (rdN l i)) w := fun l hl => by
      have h1 : (R16 l)[i]? = some (.int .u16 (rdN l i)) := by unfold R16; rw [List.getElem?_toArray]; exact map_u16_at l i (by omega)
      rw [Nat.mul_one]
      exact run_part_plain w (by kernel_rfl) h1
    have he : (Op.equalIn 9999 24 (.int .u16 (rdN a i)) (.int .u16 (rdN b i))).run Tryz.prog w = .ok (rdN a i == rdN b i) w := by
      rw [show 9999 = 9998 + 1 from rfl, run_equalIn_int w 9998 24 .u16 .u16 _ _ Tryz.underlying24]
      congr 1
      rw [Bool.eq_iff_iff, beq_iff_eq, beq_iff_eq]; omega
    simp only [Op.eqItems, Sem.run_bind, hp a ha, hp b hb, he, Result.andThen_ok, List.all_cons]
    cases hq : (rdN a i == rdN b i)
    · simp [Sem.run_pure]
    · simp only [Bool.not_true, Bool.false_eq_true, if_false, Bool.true_and]
      exact eqItems_R16 a b ha hb w is fun j hj => h j (by simp [hj])
set_option maxRecDepth 100000 in
theorem equal_R16 (a b : List Nat) (ha : a.length = 8) (hb : b.length = 8) (w : World) :
    (Op.equalIn 10000 26 (.agg (R16 a)) (.agg (R16 b))).run Tryz.prog w = .ok (decide (a = b)) w := by
  obtain ⟨i, hi⟩ : ∃ i, Tryz.prog.info? 24 = some i := Option.isSome_iff_exists.1 (by kernel_rfl)
  have hc : Tryz.prog.cellsOf 24 = 1 := by kernel_rfl
  rw [show 10000 = 9999 + 1 from rfl, run_equalIn_array w 9999 (R16 a) (R16 b) Tryz.underlying26 hi, hc, eqItems_R16 a b ha hb w _ (fun i hi => List.mem_range.1 hi)]
  congr 1
  rw [Bool.eq_iff_iff, decide_eq_true_iff, List.all_eq_true]
  constructor
  · intro h
    exact ext8 ha hb fun y hy => eq_of_beq (h y (List.mem_range.2 hy))
  · intro h i _; subst h; simp

/-! ### A rubbing that wears loses dots, or stays -/
theorem upto_succ {P : Nat → Prop} {k : Nat} (h1 : ∀ x, x < k → P x) (h2 : P k) : ∀ x, x < k + 1 → P x := fun x hx => by
  rcases Nat.lt_succ_iff_lt_or_eq.1 hx with h | rfl
  · exact h1 x h
  · exact h2
theorem cnt_imp {p q : Nat → Bool} {k : Nat} (h : ∀ x, x < k → p x = true → q x = true) : cnt p k ≤ cnt q k ∧ (cnt p k = cnt q k → ∀ x, x < k → p x = q x) := by
  induction k with
  | zero => exact ⟨Nat.le_refl _, fun _ x hx => by omega⟩
  | succ k ih =>
    obtain ⟨i1, i2⟩ := ih fun x hx => h x (by omega)
    have hk := h k (by omega)
    cases hp : p k
    · rw [cnt_no hp]
      cases hq : q k
      · rw [cnt_no hq]
        exact ⟨i1, fun e => upto_succ (i2 e) (by rw [hp, hq])⟩
      · rw [cnt_yes hq]
        exact ⟨by omega, fun e => by omega⟩
    · rw [cnt_yes hp, cnt_yes (hk hp)]
      exact ⟨by omega, fun e => upto_succ (i2 (by omega)) (by rw [hp, hk hp])⟩
theorem sumN_imp {f g : Nat → Nat} {k : Nat} (h : ∀ y, y < k → f y ≤ g y) : sumN f k ≤ sumN g k ∧ (sumN f k = sumN g k → ∀ y, y < k → f y = g y) := by
  induction k with
  | zero => exact ⟨Nat.le_refl _, fun _ x hx => by omega⟩
  | succ k ih =>
    obtain ⟨i1, i2⟩ := ih fun x hx => h x (by omega)
    have hk := h k (by omega)
    rw [sumN, sumN]
    exact ⟨by omega, fun e => upto_succ (i2 (by omega)) (by omega)⟩
theorem dk_wear (r : List Nat) (need : Int) (y x : Nat) (hy : y < 8) (hx : x < 16) : dk (wearR r need) x y = stays r need y x := by
  rw [dk_in _ x y hx hy, wearR, rdN_gridR _ y hy, testBit_bitsN, decide_eq_true hx, Bool.true_and]
theorem wear_less (r : List Nat) (need : Int) (hr : r.length = 8) (hx : ∀ k, rdN r k < 65536) : countN (wearR r need) < countN r ∨ wearR r need = r := by
  have hrow : ∀ y : Nat, y < 8 → cnt (fun x : Nat => dk (wearR r need) x y) 16 ≤ cnt (fun x : Nat => dk r x y) 16 ∧ (cnt (fun x : Nat => dk (wearR r need) x y) 16 = cnt (fun x : Nat => dk r x y) 16 → ∀ x : Nat, x < 16 → dk (wearR r need) x y = dk r x y) := fun y hy =>
    cnt_imp (p := fun x : Nat => dk (wearR r need) x y) (q := fun x : Nat => dk r x y) fun x hxx h => by
      have h' : dk (wearR r need) x y = true := h
      rw [dk_wear r need y x hy hxx] at h'
      unfold stays at h'
      exact (Bool.and_eq_true_iff.1 h').1
  have hall := sumN_imp (f := fun y : Nat => rowN (wearR r need) y) (g := fun y : Nat => rowN r y) (k := 8) fun y hy => (hrow y hy).1
  by_cases e : countN (wearR r need) = countN r
  · right
    have hd := hall.2 e
    have : gridR (stays r need) = gridR (fun y => (rdN r y).testBit) := gridR_congr fun y x hy hxx => by
      rw [← dk_wear r need y x hy hxx, ← dk_in r x y hxx hy]
      exact (hrow y hy).2 (hd y hy) x hxx
    rw [wearR, this, grid_of r hr hx]
  · left
    have := hall.1
    unfold countN at *
    omega
theorem countN_le (r : List Nat) : countN r ≤ 128 := by
  have := sumN_le (fun y => rowN r y) 16 (fun i => rowN_le r i) 8
  unfold countN; omega

/-- What is returned from round n on, in m rounds or fewer. -/
def wuL (need bound : Int) : Nat → List Nat → Nat → Int × Int
  | 0, _, _ => (0, 6)
  | m + 1, r, n => if (countN r : Int) ≤ bound then ((n : Int), 0) else if wearR r need = r then (0, 6) else wuL need bound m (wearR r need) (n + 1)
/-- What WearUntil returns. -/
def wuOut (r : List Nat) (need bound : Int) : Int × Int := if inB 0 8 need && decide (0 ≤ bound) then wuL need bound 129 r 0 else (0, 2)
theorem wuOut_yes {r : List Nat} {need bound : Int} (h1 : inB 0 8 need = true) (h2 : 0 ≤ bound) : wuOut r need bound = wuL need bound 129 r 0 := by simp [wuOut, h1, h2]
theorem wuOut_no {r : List Nat} {need bound : Int} (h : inB 0 8 need = false) : wuOut r need bound = (0, 2) := by simp [wuOut, h]
theorem wuOut_neg {r : List Nat} {need bound : Int} (h : ¬ 0 ≤ bound) : wuOut r need bound = (0, 2) := by simp [wuOut, h]

/-- Where the walk stands after k rounds. -/
structure WuSt (r : List Nat) (need bound : Int) (l : List Nat) (k : Nat) : Prop where
  len : l.length = 8
  lt : ∀ j, rdN l j < 65536
  few : countN l + k ≤ 128
  same : wuL need bound (129 - k) l k = wuL need bound 129 r 0
theorem WuSt.start {r : List Nat} {need bound : Int} (hr : r.length = 8) (hx : ∀ j, rdN r j < 65536) : WuSt r need bound r 0 := ⟨hr, hx, countN_le r, rfl⟩
theorem WuSt.few_left {r : List Nat} {need bound : Int} {l : List Nat} {k : Nat} (h : WuSt r need bound l k) (hc : (countN l : Int) ≤ bound) : wuL need bound 129 r 0 = ((k : Int), 0) := by
  have := h.few
  rw [← h.same, show 129 - k = (128 - k) + 1 by omega, wuL, if_pos hc]
theorem WuSt.stands {r : List Nat} {need bound : Int} {l : List Nat} {k : Nat} (h : WuSt r need bound l k) (hc : ¬ (countN l : Int) ≤ bound) (he : wearR l need = l) : wuL need bound 129 r 0 = (0, 6) := by
  have := h.few
  rw [← h.same, show 129 - k = (128 - k) + 1 by omega, wuL, if_neg hc, if_pos he]
theorem WuSt.next {r : List Nat} {need bound : Int} {l : List Nat} {k : Nat} (h : WuSt r need bound l k) (hc : ¬ (countN l : Int) ≤ bound) (he : ¬ wearR l need = l) : WuSt r need bound (wearR l need) (k + 1) := by
  have hf := h.few
  have hl := (wear_less l need h.len h.lt).resolve_right he
  refine ⟨wearR_length l need, gridR_lt _, by omega, ?_⟩
  rw [← h.same, show 129 - k = (129 - (k + 1)) + 1 by omega, wuL, if_neg hc, if_neg he]

structure WuRel (r : List Nat) (need bound : Int) (w wr : World) (k : Nat) (l : List Nat) : Prop where
  arg : Blk wr w.heap.size 26 (l.map u16)
  st : WuSt r need bound l k
  below : Below w.heap.size w wr

set_option maxHeartbeats 1000000 in
set_option maxRecDepth 100000 in
theorem wearUntil_spec (r : List Nat) (need bound : Int) (w : World) (hr : r.length = 8) (hx : ∀ k, rdN r k < 65536) :
    Calls Tryz.prog 10 #[.agg (R16 r), .int .i64 need, .int .i64 bound] w fun e w' => e = .returned (.tuple #[.int .i64 (wuOut r need bound).1, .int .i64 (wuOut r need bound).2]) ∧ Below w.heap.size w w' := by
  have hB := below_one w (.cells (R16 r) 26)
  cases hn : inB 0 8 need
  · have HO := Lib.hid (wuOut_no (r := r) (bound := bound) hn)
    have HN := Lib.hid hn
    go_enter Tryz.func10, Tryz.ntmps10
    go_wp2_with (go_at_call 36; refine (l07Need_any _ _).mono ?_; rintro e w' ⟨rfl, rfl⟩)
    rw [HO.out]
    go_ret2
    exact ⟨rfl, hB⟩
  · by_cases hb : bound < 0
    · have HO := Lib.hid (wuOut_neg (r := r) (need := need) (show ¬ 0 ≤ bound by omega))
      go_enter Tryz.func10, Tryz.ntmps10
      go_wp2_with (go_at_call 36; refine (l07Need_any _ _).mono ?_; rintro e w' ⟨rfl, rfl⟩)
      rw [HO.out]
      go_ret2
      exact ⟨rfl, hB⟩
    · have HO := Lib.hid (wuOut_yes (r := r) hn (show 0 ≤ bound by omega))
      rw [HO.out]
      clear HO
      go_enter Tryz.func10, Tryz.ntmps10
      go_wp2_with (go_at_call 36; refine (l07Need_any _ _).mono ?_; rintro e w' ⟨rfl, rfl⟩)
      clear hn
      go_loopw [8] (fun i wr => ∃ (k : Nat) (l : List Nat), i = .int .i64 k ∧ WuRel r need bound w wr k l) (fun i _ => (129 - intOf i).toNat)
      case atStart => exact ⟨0, r, rfl, Blk.new w _ _, WuSt.start hr hx, hB⟩
      case round =>
        obtain ⟨k, l, rfl, h⟩ := hrel
        have hfew := h.st.few
        have hlen := h.st.len
        have hrow := h.arg.row
        have harg := h.arg
        have hbel := h.below
        have hnew := h.arg
        by_cases hc : (countN l : Int) ≤ bound
        · have HR := Lib.hid (h.st.few_left hc)
          go_wp2_with (go_at_call 38; refine (count_any _ l _ hlen hrow).mono ?_; rintro e w1 ⟨rfl, rfl⟩)
          rw [HR.out]
          go_ret2
          exact ⟨rfl, h.below⟩
        · have hwl := wearR_length l need
          have heq : ∀ w' : World, (Op.equalIn 10000 26 (.agg (R16 (wearR l need))) (.agg (R16 l))).run Tryz.prog w' = .ok (decide (wearR l need = l)) w' := fun w' => equal_R16 (wearR l need) l hwl hlen w'
          have hkey : Tryz.prog.eqGuardType Tryz.prog.depth 26 = false := by kernel_rfl
          by_cases he : wearR l need = l
          · have HR := Lib.hid (h.st.stands hc he)
            have hde := decide_eq_true he
            have HE := Lib.hid he
            clear he
            rw [hde] at heq
            go_wp2_with (first
              | (go_at_call 38; refine (count_any _ l _ hlen hrow).mono ?_; rintro e w1 ⟨rfl, rfl⟩)
              | (go_at_call 37; refine (l07Wear_any _ l need _ hlen hrow).mono ?_; rintro e w1 ⟨rfl, hb1⟩; have harg := harg.next hb1; have hbel := below_step hbel hb1; clear hb1)
              | (refine wpList_store_new rfl 26 _ _ rfl (R16 (wearR l need)) rfl rfl 26 _ (by rw [R16_size, hwl]; exact szRub) (by rw [R16_size, hwl]; rfl) (one_u16 _) ?_; have harg := harg.alloc (.cells (R16 (wearR l need)) 26); have hnew := Blk.new w1 26 ((wearR l need).map Go.Proofs.YtkbmfemncadlnaaGreatDoor.u16); have hbel := step_alloc hbel (.cells (R16 (wearR l need)) 26))
              | (refine wpList_load_row rfl 26 _ rfl _ rfl 26 (R16 (wearR l need)) _ _ hnew Tryz.underlying26 rfl (by rw [R16_size, hwl]; exact szRub) ?_)
              | (refine wpList_load_row rfl 26 _ rfl _ rfl 26 (R16 l) _ _ harg Tryz.underlying26 rfl (by rw [R16_size, hlen]; exact szRub) ?_)
              | (refine wpList_store_row rfl 26 _ _ rfl _ (R16 (wearR l need)) rfl rfl 26 _ harg (by rw [R16_size, hwl]; exact szRub) (by show (R16 l).size = _; rw [R16_size, R16_size, hwl, hlen]) (one_u16 _) ?_))
            rw [HR.out]
            go_ret2
            exact ⟨rfl, hbel⟩
          · have HN := Lib.hid (h.st.next hc he)
            have hde := decide_eq_false he
            clear he
            rw [hde] at heq
            go_wp2_with (first
              | (go_at_call 38; refine (count_any _ l _ hlen hrow).mono ?_; rintro e w1 ⟨rfl, rfl⟩)
              | (go_at_call 37; refine (l07Wear_any _ l need _ hlen hrow).mono ?_; rintro e w1 ⟨rfl, hb1⟩; have harg := harg.next hb1; have hbel := below_step hbel hb1; clear hb1)
              | (refine wpList_store_new rfl 26 _ _ rfl (R16 (wearR l need)) rfl rfl 26 _ (by rw [R16_size, hwl]; exact szRub) (by rw [R16_size, hwl]; rfl) (one_u16 _) ?_; have harg := harg.alloc (.cells (R16 (wearR l need)) 26); have hnew := Blk.new w1 26 ((wearR l need).map Go.Proofs.YtkbmfemncadlnaaGreatDoor.u16); have hbel := step_alloc hbel (.cells (R16 (wearR l need)) 26))
              | (refine wpList_load_row rfl 26 _ rfl _ rfl 26 (R16 (wearR l need)) _ _ hnew Tryz.underlying26 rfl (by rw [R16_size, hwl]; exact szRub) ?_)
              | (refine wpList_load_row rfl 26 _ rfl _ rfl 26 (R16 l) _ _ harg Tryz.underlying26 rfl (by rw [R16_size, hlen]; exact szRub) ?_)
              | (refine wpList_store_row rfl 26 _ _ rfl _ (R16 (wearR l need)) rfl rfl 26 _ harg (by rw [R16_size, hwl]; exact szRub) (by show (R16 l).size = _; rw [R16_size, R16_size, hwl, hlen]) (one_u16 _) ?_))
            go_roundw
            case rel => exact ⟨k + 1, wearR l need, by go_num, harg.setRow_same ((wearR l need).map Go.Proofs.YtkbmfemncadlnaaGreatDoor.u16), HN.out, below_setRow hbel _ _ (Nat.le_refl _)⟩
            case measure => simp [intOf]; omega
set_option maxHeartbeats 1000000 in
set_option maxRecDepth 100000 in
theorem wearUntil_impl (r : List Nat) (need bound : Int) (w : World) (hr : r.length = 8) (hx : ∀ k, rdN r k < 65536) :
    Calls Tryz.prog 9 #[.agg (R16 r), .int .i64 need, .int .i64 bound] w fun e w' => e = .returned (.tuple #[.int .i64 (wuOut r need bound).1, .int .i64 (wuOut r need bound).2]) ∧ Below w.heap.size w w' := by
  have hB := below_one w (.cells (R16 r) 26)
  cases hn : inB 0 8 need
  · have HO := Lib.hid (wuOut_no (r := r) (bound := bound) hn)
    have HN := Lib.hid hn
    go_enter Tryz.func9, Tryz.ntmps9
    go_wp2_with (go_at_call 34; refine (within_any _ _ _ _).mono ?_; rintro e w' ⟨rfl, rfl⟩)
    rw [HO.out]
    go_ret2
    exact ⟨rfl, hB⟩
  · by_cases hb : bound < 0
    · have HO := Lib.hid (wuOut_neg (r := r) (need := need) (show ¬ 0 ≤ bound by omega))
      go_enter Tryz.func9, Tryz.ntmps9
      go_wp2_with (go_at_call 34; refine (within_any _ _ _ _).mono ?_; rintro e w' ⟨rfl, rfl⟩)
      rw [HO.out]
      go_ret2
      exact ⟨rfl, hB⟩
    · have HO := Lib.hid (wuOut_yes (r := r) hn (show 0 ≤ bound by omega))
      rw [HO.out]
      clear HO
      go_enter Tryz.func9, Tryz.ntmps9
      go_wp2_with (go_at_call 34; refine (within_any _ _ _ _).mono ?_; rintro e w' ⟨rfl, rfl⟩)
      have hn08 := inB_iff.1 hn
      clear hn
      go_loopw [8] (fun i wr => ∃ (k : Nat) (l : List Nat), i = .int .i64 k ∧ WuRel r need bound w wr k l) (fun i _ => (129 - intOf i).toNat)
      case atStart => exact ⟨0, r, rfl, Blk.new w _ _, WuSt.start hr hx, hB⟩
      case round =>
        obtain ⟨k, l, rfl, h⟩ := hrel
        have hfew := h.st.few
        have hlen := h.st.len
        have hlt := h.st.lt
        have hrow := h.arg.row
        have harg := h.arg
        have hbel := h.below
        have hnew := h.arg
        by_cases hc : (countN l : Int) ≤ bound
        · have HR := Lib.hid (h.st.few_left hc)
          go_wp2_with (first | (refine wpList_load_row rfl 26 _ rfl _ rfl 26 (R16 l) _ _ harg Tryz.underlying26 rfl (by rw [R16_size, hlen]; exact szRub) ?_) | (go_at_call 13; refine (count_impl l _ hlen hlt).mono ?_; rintro e w1 ⟨rfl, hb1⟩; have harg := harg.next hb1; have hbel := below_step hbel hb1; clear hb1))
          rw [HR.out]
          go_ret2
          exact ⟨rfl, hbel⟩
        · have hwl := wearR_length l need
          have heq : ∀ w' : World, (Op.equalIn 10000 26 (.agg (R16 (wearR l need))) (.agg (R16 l))).run Tryz.prog w' = .ok (decide (wearR l need = l)) w' := fun w' => equal_R16 (wearR l need) l hwl hlen w'
          have hkey : Tryz.prog.eqGuardType Tryz.prog.depth 26 = false := by kernel_rfl
          by_cases he : wearR l need = l
          · have HR := Lib.hid (h.st.stands hc he)
            have hde := decide_eq_true he
            have HE := Lib.hid he
            clear he
            rw [hde] at heq
            go_wp2_with (first
              | (go_at_call 13; refine (count_impl l _ hlen hlt).mono ?_; rintro e w1 ⟨rfl, hb1⟩; have harg := harg.next hb1; have hbel := below_step hbel hb1; clear hb1)
              | (go_at_call 35; refine (worn_any l need _ hlen hlt hn08).mono ?_; rintro e w1 ⟨rfl, hb1⟩; have harg := harg.next hb1; have hbel := below_step hbel hb1; clear hb1)
              | (refine wpList_store_new rfl 26 _ _ rfl (R16 (wearR l need)) rfl rfl 26 _ (by rw [R16_size, hwl]; exact szRub) (by rw [R16_size, hwl]; rfl) (one_u16 _) ?_; have harg := harg.alloc (.cells (R16 (wearR l need)) 26); have hnew := Blk.new w1 26 ((wearR l need).map Go.Proofs.YtkbmfemncadlnaaGreatDoor.u16); have hbel := step_alloc hbel (.cells (R16 (wearR l need)) 26))
              | (refine wpList_load_row rfl 26 _ rfl _ rfl 26 (R16 (wearR l need)) _ _ hnew Tryz.underlying26 rfl (by rw [R16_size, hwl]; exact szRub) ?_)
              | (refine wpList_load_row rfl 26 _ rfl _ rfl 26 (R16 l) _ _ harg Tryz.underlying26 rfl (by rw [R16_size, hlen]; exact szRub) ?_)
              | (refine wpList_store_row rfl 26 _ _ rfl _ (R16 (wearR l need)) rfl rfl 26 _ harg (by rw [R16_size, hwl]; exact szRub) (by show (R16 l).size = _; rw [R16_size, R16_size, hwl, hlen]) (one_u16 _) ?_))
            rw [HR.out]
            go_ret2
            exact ⟨rfl, hbel⟩
          · have HN := Lib.hid (h.st.next hc he)
            have hde := decide_eq_false he
            clear he
            rw [hde] at heq
            go_wp2_with (first
              | (go_at_call 13; refine (count_impl l _ hlen hlt).mono ?_; rintro e w1 ⟨rfl, hb1⟩; have harg := harg.next hb1; have hbel := below_step hbel hb1; clear hb1)
              | (go_at_call 35; refine (worn_any l need _ hlen hlt hn08).mono ?_; rintro e w1 ⟨rfl, hb1⟩; have harg := harg.next hb1; have hbel := below_step hbel hb1; clear hb1)
              | (refine wpList_store_new rfl 26 _ _ rfl (R16 (wearR l need)) rfl rfl 26 _ (by rw [R16_size, hwl]; exact szRub) (by rw [R16_size, hwl]; rfl) (one_u16 _) ?_; have harg := harg.alloc (.cells (R16 (wearR l need)) 26); have hnew := Blk.new w1 26 ((wearR l need).map Go.Proofs.YtkbmfemncadlnaaGreatDoor.u16); have hbel := step_alloc hbel (.cells (R16 (wearR l need)) 26))
              | (refine wpList_load_row rfl 26 _ rfl _ rfl 26 (R16 (wearR l need)) _ _ hnew Tryz.underlying26 rfl (by rw [R16_size, hwl]; exact szRub) ?_)
              | (refine wpList_load_row rfl 26 _ rfl _ rfl 26 (R16 l) _ _ harg Tryz.underlying26 rfl (by rw [R16_size, hlen]; exact szRub) ?_)
              | (refine wpList_store_row rfl 26 _ _ rfl _ (R16 (wearR l need)) rfl rfl 26 _ harg (by rw [R16_size, hwl]; exact szRub) (by show (R16 l).size = _; rw [R16_size, R16_size, hwl, hlen]) (one_u16 _) ?_))
            go_roundw
            case rel => exact ⟨k + 1, wearR l need, by go_num, harg.setRow_same ((wearR l need).map Go.Proofs.YtkbmfemncadlnaaGreatDoor.u16), HN.out, below_setRow hbel _ _ (Nat.le_refl _)⟩
            case measure => simp [intOf]; omega
end Go.Proofs.YtkbmfemncadlnaaGreatDoor
namespace Go.Proofs.YtkbmfemncadlnaaGreatDoor
open Go Go.RowKit
set_option linter.unusedVariables false
set_option linter.unusedSimpArgs false
theorem exec_neq_rub {o : Oper} {a : Act} {w : World} (x y : Operand) {t2 : TypeId} (ho : o.op = .binOp .neq 26 x y t2) (r : List Nat) (hr : r.length = 8) (hx : a.eval x = .agg (r.map u16).toArray) (hy : a.eval y = .agg (r.map u16).toArray) :
    (execOp a.eval o).run Tryz.prog w = .ok (.value (.bool false)) w := by
  have heq := equal_R16 r r hr hr w
  have hkey : Tryz.prog.eqGuardType Tryz.prog.depth 26 = false := by kernel_rfl
  have hd : decide (r = r) = true := by simp
  rw [hd] at heq
  have hx2 : a.eval x = .agg (R16 r) := hx
  have hy2 : a.eval y = .agg (R16 r) := hy
  unfold execOp
  simp only [ho, hx2, hy2]
  go_simp
theorem exec_eql_rub {o : Oper} {a : Act} {w : World} (x y : Operand) {t2 : TypeId} (ho : o.op = .binOp .eql 26 x y t2) (r : List Nat) (hr : r.length = 8) (hx : a.eval x = .agg (r.map u16).toArray) (hy : a.eval y = .agg (r.map u16).toArray) :
    (execOp a.eval o).run Tryz.prog w = .ok (.value (.bool true)) w := by
  have heq := equal_R16 r r hr hr w
  have hkey : Tryz.prog.eqGuardType Tryz.prog.depth 26 = false := by kernel_rfl
  have hd : decide (r = r) = true := by simp
  rw [hd] at heq
  have hx2 : a.eval x = .agg (R16 r) := hx
  have hy2 : a.eval y = .agg (R16 r) := hy
  unfold execOp
  simp only [ho, hx2, hy2]
  go_simp
end Go.Proofs.YtkbmfemncadlnaaGreatDoor
