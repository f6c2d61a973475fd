/- Contracts: a rubbing wears once, by the reference. -/
import Derived.Test.YtkfjelbcaolepaaRubG
namespace Go.Proofs.Ytkfjelbcaolepaa
open Go Go.RowKit

/-- Is the place number t of the nine around a dot dark. -/
def nbK (r : List Nat) (y x t : Nat) : Bool := dk r ((x : Int) + ((t % 3 : Nat) : Int) - 1) ((y : Int) + ((t / 3 : Nat) : Int) - 1)
theorem nbK_at (r : List Nat) (y x d e : Nat) (he : e < 3) : nbK r y x (3 * d + e) = dk r ((x : Int) + ((e : Int) - 1)) ((y : Int) + ((d : Int) - 1)) := by
  unfold nbK
  have h1 : (3 * d + e) % 3 = e := by omega
  have h2 : (3 * d + e) / 3 = d := by omega
  rw [h1, h2, Int.add_sub_assoc, Int.add_sub_assoc]
/-- How many of the nine are dark. -/
def nbN (r : List Nat) (y x : Nat) : Nat := cnt (nbK r y x) 9
def stays (r : List Nat) (need : Int) (y x : Nat) : Bool := dk r x y && decide (need ≤ (nbN r y x : Int) - 1)
/-- A rubbing that has worn once. -/
def wearR (r : List Nat) (need : Int) : List Nat := gridR (stays r need)
theorem wearR_length (r : List Nat) (need : Int) : (wearR r need).length = 8 := gridR_length _

set_option maxHeartbeats 2000000 in
set_option maxRecDepth 100000 in
theorem l07Wear_any (a : Addr) (r : List Nat) (need : Int) (w : World) (hr : r.length = 8) (hc : RowE u16 w a r) :
    Calls Try.prog 67 #[.pointer (some a), .int .i64 need] w fun e w' => e = .returned (.agg (R16 (wearR r need))) ∧ Below w.heap.size w w' := by
  have HM := Lib.hid (show gridR (stays r need) = wearR r need from rfl)
  go_enter Try.func67, Try.ntmps67
  go_wp2
  go_loopw [6] (fun i wr => ∃ y : Nat, y ≤ 8 ∧ i = .int .i64 y ∧ GridRel (stays r need) w wr y 0) (fun i _ => 8 - (intOf i).toNat)
  case atStart =>
    refine ⟨0, by omega, rfl, (Blk.at_new _ _ _ rfl _ _ rfl).alloc _, ?_, below_two _ _ _⟩
    rw [partR_start]
    exact Blk.at_new _ _ _ (by simp) _ _ rfl
  case round =>
    obtain ⟨y, hy, rfl, h⟩ := hrel
    by_cases hlt : y < 8
    · obtain ⟨wo, rfl⟩ : ∃ wo : World, wo = wr := ⟨_, rfl⟩
      have hd8 : decide ((y : Int) < 8) = true := by simp; omega
      go_wp2
      go_loopw [7] (fun i wr => ∃ k : Nat, k ≤ 16 ∧ i = .int .i64 k ∧ GridRel (stays r need) w wr y k) (fun i _ => 16 - (intOf i).toNat)
      case atStart => exact ⟨0, by omega, rfl, h⟩
      case round =>
        obtain ⟨k, hk, rfl, h⟩ := hrel
        by_cases hlk : k < 16
        · obtain ⟨wp, rfl⟩ : ∃ wp : World, wp = wr := ⟨_, rfl⟩
          have hd16 : decide ((k : Int) < 16) = true := by simp; omega
          have hrow := hc.next h.below
          cases hdk : dk r k y
          · have HP := Lib.hid (show stays r need y k = false by unfold stays; rw [hdk]; rfl)
            go_wp2_with (go_at_call 54; refine (dark_any _ r _ _ _ hr hrow).mono ?_; rintro e w' ⟨rfl, rfl⟩)
            go_roundw
            case rel => exact ⟨k + 1, by omega, by go_num, h.res, by rw [partR_no HP.out]; exact h.out, h.below⟩
            case measure => simp [intOf]; omega
          · have HD := Lib.hid hdk
            go_wp2_with (go_at_call 54; refine (dark_any _ r _ _ _ hr hrow).mono ?_; rintro e w' ⟨rfl, rfl⟩)
            clear hrow hdk
            go_loopw [8, 9] (fun n i wr => ∃ d : Nat, d ≤ 3 ∧ i = .int .i64 ((d : Int) - 1) ∧ n = .int .i64 ((cnt (nbK r y k) (3 * d) : Int) - 1) ∧ GridRel (stays r need) w wr y k) (fun _ i _ => (3 - (intOf i + 1)).toNat)
            case atStart => exact ⟨0, by omega, rfl, rfl, h⟩
            case round =>
              obtain ⟨d, hd, rfl, rfl, h⟩ := hrel
              by_cases hld : d < 3
              · obtain ⟨wq, rfl⟩ : ∃ wq : World, wq = wr := ⟨_, rfl⟩
                have hd1 : decide ((d : Int) - 1 ≤ 1) = true := by simp; omega
                go_wp2
                go_loopw [8, 10] (fun n i wr => ∃ e : Nat, e ≤ 3 ∧ i = .int .i64 ((e : Int) - 1) ∧ n = .int .i64 ((cnt (nbK r y k) (3 * d + e) : Int) - 1) ∧ GridRel (stays r need) w wr y k) (fun _ i _ => (3 - (intOf i + 1)).toNat)
                case atStart => exact ⟨0, by omega, rfl, rfl, h⟩
                case round =>
                  obtain ⟨e, he, rfl, rfl, h⟩ := hrel
                  have hrow := hc.next h.below
                  have hcl := cnt_le (nbK r y k) (3 * d + e)
                  by_cases hle : e < 3
                  · have HNB := Lib.hid (nbK_at r y k d e hle)
                    cases hq : dk r ((k : Int) + ((e : Int) - 1)) ((y : Int) + ((d : Int) - 1))
                    · have HC := Lib.hid (cnt_no (p := nbK r y k) (k := 3 * d + e) (by rw [HNB.out, hq]))
                      go_wp2_with (go_at_call 54; refine (dark_any _ r _ _ _ hr hrow).mono ?_; rintro e w' ⟨rfl, rfl⟩)
                      go_roundw
                      case rel => exact ⟨e + 1, by omega, by go_num, by rw [← Nat.add_assoc, HC.out], h⟩
                      case measure => simp [intOf]; omega
                    · have HC := Lib.hid (cnt_yes (p := nbK r y k) (k := 3 * d + e) (by rw [HNB.out, hq]))
                      go_wp2_with (go_at_call 54; refine (dark_any _ r _ _ _ hr hrow).mono ?_; rintro e w' ⟨rfl, rfl⟩)
                      go_roundw
                      case rel => exact ⟨e + 1, by omega, by go_num, by rw [← Nat.add_assoc, HC.out]; go_num, h⟩
                      case measure => simp [intOf]; omega
                  · obtain rfl : e = 3 := by omega
                    go_wp2
                    go_roundw
                    case rel => exact ⟨d + 1, by omega, by go_num, by rw [Nat.mul_add], h⟩
                    case measure => simp [intOf]; omega
              · obtain rfl : d = 3 := by omega
                have HN9 := Lib.hid (show cnt (nbK r y k) (3 * 3) = nbN r y k from rfl)
                rw [HN9.out]
                have hnb : nbN r y k ≤ 9 := cnt_le _ _
                by_cases hge : need ≤ (nbN r y k : Int) - 1
                · have HP := Lib.hid (show stays r need y k = true by unfold stays; rw [HD.out, decide_eq_true hge]; rfl)
                  have hc3 := h.out.cell y _ (map_u16_at _ y (by rw [partR_length]; omega))
                  have hf3 := h.out.free y
                  have hor := or16p (rdN (partR (stays r need) y k) y) k (partR_lt _ y k hk y) hlk
                  have hwp := wrap16p k hlk
                  go_wp2
                  go_roundw
                  case rel =>
                    refine ⟨k + 1, by omega, by go_num, h.res.other _ _ (by simp), ?_, h.below.setCell (by simp) _⟩
                    rw [← partR_yes hlt HP.out, List.map_set]
                    exact h.out.set y _
                  case measure => simp [intOf]; omega
                · have HP := Lib.hid (show stays r need y k = false by unfold stays; rw [decide_eq_false hge, Bool.and_false])
                  go_wp2
                  go_roundw
                  case rel => exact ⟨k + 1, by omega, by go_num, h.res, by rw [partR_no HP.out]; exact h.out, h.below⟩
                  case measure => simp [intOf]; omega
        · obtain rfl : k = 16 := by omega
          go_wp2
          go_roundw
          case rel => exact ⟨y + 1, by omega, by go_num, h.res, by rw [← partR_row]; exact h.out, h.below⟩
          case measure => simp [intOf]; omega
    · obtain rfl : y = 8 := by omega
      have hout := h.out
      rw [partR_all, HM.out] at hout
      have hl : (wearR r need).length = 8 := gridR_length _
      go_wp2_with (first
        | (refine wpList_load_row rfl 25 _ rfl _ rfl 25 (R16 (wearR r need)) _ _ hout Try.underlying25 rfl (by rw [R16_size, hl]; exact szRub) ?_)
        | (refine wpList_store_row rfl 25 _ _ rfl _ (R16 (wearR r need)) rfl rfl 25 _ h.res (by rw [R16_size, hl]; exact szRub) (by rw [R16_size, hl]; rfl) (one_u16 _) ?_))
      exact bodyPost_ret (v := .agg (R16 (wearR r need))) (results_cell_row rfl _ _ _ 25 (R16 (wearR r need)) _ _ rfl (h.res.setRow_same ((wearR r need).map Go.Proofs.Ytkfjelbcaolepaa.u16)) Try.underlying25 rfl (by rw [R16_size, hl]; exact szRub)) rfl ⟨rfl, below_setRow h.below _ _ (by omega)⟩
end Go.Proofs.Ytkfjelbcaolepaa
