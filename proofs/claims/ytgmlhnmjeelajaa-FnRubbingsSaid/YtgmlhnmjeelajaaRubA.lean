/- Contracts of the rubbings' smallest functions: what is dark, a row's count, the count. -/
import Derived.Test.YtgmlhnmjeelajaaProg
import Derived.Test.YtgmlhnmjeelajaaGA
import Derived.BigQuiet
import Derived.Deep.QuietTactic
import Derived.Outline

namespace Go.Proofs.Ytgmlhnmjeelajaa
open Go Go.RowKit
set_option linter.unusedVariables false
set_option linter.unusedSimpArgs false

/-- A dot is dark; those outside are light. -/
def dk (r : List Nat) (x y : Int) : Bool := decide (0 ≤ x ∧ x ≤ 15 ∧ 0 ≤ y ∧ y ≤ 7) && (rdN r y.toNat).testBit x.toNat

theorem in_any (n lo hi : Int) (w : World) : Calls Try.prog 41 #[.int .i64 n, .int .i64 lo, .int .i64 hi] w fun e w' => e = .returned (.bool (inB lo hi n)) ∧ w = w' := by
  by_cases h1 : n ≥ lo
  · by_cases h2 : n ≤ hi
    · go_enter Try.func41, Try.ntmps41
      go_wp2
      go_ret
      exact ⟨by congr 2; unfold inB; simp; omega, rfl⟩
    · go_enter Try.func41, Try.ntmps41
      go_wp2
      go_ret
      exact ⟨by congr 2; unfold inB; simp; omega, rfl⟩
  · go_enter Try.func41, Try.ntmps41
    go_wp2
    go_ret
    exact ⟨by congr 2; unfold inB; simp; omega, rfl⟩

theorem bit_of (n x : Nat) : (((n : Int) / 2 ^ x).tmod 2 == 1) = n.testBit x := by
  have e : ((n : Int) / 2 ^ x).tmod 2 = ((n / 2 ^ x % 2 : Nat) : Int) := by
    rw [Int.tmod_eq_emod_of_nonneg (Int.ediv_nonneg (by omega) (Int.le_of_lt (Int.pow_pos (by decide))))]
    simp
  rw [e, Nat.testBit_eq_decide_div_mod_eq]
  by_cases h : n / 2 ^ x % 2 = 1
  · simp [h]
  · have h' : ¬ (((n / 2 ^ x % 2 : Nat) : Int) = 1) := by omega
    simp only [h, decide_false]
    exact beq_eq_false_iff_ne.2 h'

theorem ret_bool {a b : Bool} (h : a = b) : Ending.returned (.bool a) = .returned (.bool b) := by rw [h]
theorem ret_int {k : IntKind} {a b : Int} (h : a = b) : Ending.returned (.int k a) = .returned (.int k b) := by rw [h]

set_option maxRecDepth 100000 in
theorem dark_any (a : Addr) (r : List Nat) (x y : Int) (w : World) (hr : r.length = 8) (hc : RowE u16 w a r) :
    Calls Try.prog 31 #[.pointer (some a), .int .i64 x, .int .i64 y] w fun e w' => e = .returned (.bool (dk r x y)) ∧ w = w' := by
  by_cases h1 : 0 ≤ x ∧ x ≤ 15
  · by_cases h2 : 0 ≤ y ∧ y ≤ 7
    · have hcell := hc.at16 y.toNat (by omega)
      have hb1 := inB_true h1
      have hb2 := inB_true h2
      clear hc
      obtain ⟨h11, h12⟩ := h1
      obtain ⟨h21, h22⟩ := h2
      go_enter Try.func31, Try.ntmps31
      go_wp2_with (go_at_call 41; refine (in_any _ _ _ _).mono ?_; rintro e w' ⟨rfl, rfl⟩)
      go_ret
      exact ⟨ret_bool ((bit_of _ _).trans (by simp [dk, h11, h12, h21, h22])), rfl⟩
    · have hb1 := inB_true h1
      have hb2 := inB_false h2
      obtain ⟨h11, h12⟩ := h1
      have hd : dk r x y = false := by simp [dk]; omega
      have HD := Lib.hid hd
      clear hd
      go_enter Try.func31, Try.ntmps31
      go_wp2_with (go_at_call 41; refine (in_any _ _ _ _).mono ?_; rintro e w' ⟨rfl, rfl⟩)
      go_ret
      exact ⟨ret_bool HD.out.symm, rfl⟩
  · have hb1 := inB_false h1
    have hd : dk r x y = false := by simp [dk]; omega
    have HD := Lib.hid hd
    clear hd
    go_enter Try.func31, Try.ntmps31
    go_wp2_with (go_at_call 41; refine (in_any _ _ _ _).mono ?_; rintro e w' ⟨rfl, rfl⟩)
    go_ret
    exact ⟨ret_bool HD.out.symm, rfl⟩

/-- A row's count. -/
def rowN (r : List Nat) (y : Int) : Nat := cnt (fun x => dk r x y) 16

set_option maxRecDepth 100000 in
theorem row_any (a : Addr) (r : List Nat) (y : Int) (w : World) (hr : r.length = 8) (hc : RowE u16 w a r) :
    Calls Try.prog 42 #[.pointer (some a), .int .i64 y] w fun e w' => e = .returned (.int .i64 (rowN r y)) ∧ w = w' := by
  go_enter Try.func42, Try.ntmps42
  go_wp2
  go_loop [5, 6] (fun n i => ∃ k : Nat, k ≤ 16 ∧ i = .int .i64 k ∧ n = .int .i64 (cnt (fun x => dk r x y) k)) (fun _ i => 16 - (intOf i).toNat)
  case atStart => exact ⟨0, by omega, rfl, rfl⟩
  case round =>
    obtain ⟨k, hk, rfl, rfl⟩ := hrel
    have hle := cnt_le (fun x => dk r x y) k
    by_cases hlt : k < 16
    · cases hd : dk r k y
      all_goals
        have HD := Lib.hid hd
        go_wp2_with (go_at_call 31; refine (dark_any a r _ _ _ hr hc).mono ?_; rintro e w' ⟨rfl, rfl⟩)
        go_round
        case rel => exact ⟨k + 1, by omega, by go_num, by first | rw [cnt_no (p := fun x : Nat => dk r x y) HD.out] | (rw [cnt_yes (p := fun x : Nat => dk r x y) HD.out]; go_num)⟩
        case measure => simp [intOf]; omega
    · obtain rfl : k = 16 := by omega
      go_wp2
      go_ret
      exact ⟨rfl, rfl⟩

def countN (r : List Nat) : Nat := sumN (fun y => rowN r y) 8

theorem rowN_le (r : List Nat) (y : Int) : rowN r y ≤ 16 := cnt_le _ _
set_option maxRecDepth 100000 in
theorem count_any (a : Addr) (r : List Nat) (w : World) (hr : r.length = 8) (hc : RowE u16 w a r) :
    Calls Try.prog 32 #[.pointer (some a)] w fun e w' => e = .returned (.int .i64 (countN r)) ∧ w = w' := by
  go_enter Try.func32, Try.ntmps32
  go_wp2
  go_loop [3, 4] (fun n i => ∃ k : Nat, k ≤ 8 ∧ i = .int .i64 k ∧ n = .int .i64 (sumN (fun y => rowN r y) k)) (fun _ i => 8 - (intOf i).toNat)
  case atStart => exact ⟨0, by omega, rfl, rfl⟩
  case round =>
    obtain ⟨k, hk, rfl, rfl⟩ := hrel
    have hle := sumN_le (fun y => rowN r y) 16 (fun i => rowN_le r i) k
    have hle2 := rowN_le r k
    by_cases hlt : k < 8
    · go_wp2_with (go_at_call 42; refine (row_any a r _ _ hr hc).mono ?_; rintro e w' ⟨rfl, rfl⟩)
      go_round
      case rel => exact ⟨k + 1, by omega, by go_num, by rw [sumN]; go_num⟩
      case measure => simp [intOf]; omega
    · obtain rfl : k = 8 := by omega
      go_wp2
      go_ret
      exact ⟨rfl, rfl⟩
end Go.Proofs.Ytgmlhnmjeelajaa
