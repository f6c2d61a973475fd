/- Contracts: how far apart two lists of gaps are, by the program; both functions of GapsApart. -/
import Derived.Test.YtjgflkoefimmoaaGapB
namespace Go.Proofs.Ytjgflkoefimmoaa
open Go Go.RowKit

set_option maxHeartbeats 1000000 in
set_option maxRecDepth 100000 in
theorem apart_impl (A B : Option Addr) (c d : Nat) (xs ys : List Int) (n m : Nat) (w : World) (hx : Gaps xs n) (hy : Gaps ys m) (ha : SlE i64 w A xs) (hb : SlE i64 w B ys) :
    Calls Try.prog 23 #[.slice A n c, .slice B m d] w fun e w' => e = .returned (.int .i64 (apartN xs ys)) ∧ ∃ q, w' = w.drewN q := by
  have HX := Lib.hid hx
  have HY := Lib.hid hy
  have HA := Lib.hid ha
  have HB := Lib.hid hb
  have hn30 := hx.small
  have hm30 := hy.small
  have HNX := Lib.hid hx.len
  have HNY := Lib.hid hy.len
  have HAP := Lib.hid (apartN_min xs ys)
  rw [hx.len, hy.len] at HAP
  clear hx hy ha hb
  by_cases hnm : (n : Int) ≤ (m : Int)
  · obtain HK : min n m = n := by omega
    rw [HK] at HAP
    have HAP2 := Lib.hid (show (apartN xs ys : Int) = 10 * ((n : Int) + (m : Int) - 2 * (n : Int)) + (sumN (stepN xs ys) n : Nat) by rw [HAP.out]; omega)
    have HW : 10 * ((n : Int) + (m : Int) - 2 * (n : Int)) ≤ 600 ∧ 0 ≤ 10 * ((n : Int) + (m : Int) - 2 * (n : Int)) := by omega
    clear HAP HK
    go_enter Try.func23, Try.ntmps23
    go_wp2
    go_loopw [6, 23] (fun s i wr => ∃ k : Nat, k ≤ n ∧ i = .int .i64 k ∧ s = .int .i64 (10 * ((n : Int) + (m : Int) - 2 * (n : Int)) + (sumN (stepN xs ys) k : Nat)) ∧ ∃ q, wr = w.drewN q) (fun _ i _ => n - (intOf i).toNat)
    case atStart => exact ⟨0, by omega, rfl, by simp [sumN], 0, rfl⟩
    case round =>
      obtain ⟨k, hk, rfl, rfl, q, rfl⟩ := hrel
      have hle := apartN_le HX.out HY.out k
      by_cases h1 : k < n
      · obtain ⟨a, rfl, hra⟩ := HA.out.some k (by rw [HNX.out]; omega)
        obtain ⟨b, rfl, hrb⟩ := HB.out.some k (by rw [HNY.out]; omega)
        have hc1 := hra.atI64 k (by rw [HNX.out]; omega)
        have hc2 := hrb.atI64 k (by rw [HNY.out]; omega)
        have b1 := HX.out.range k (by omega)
        have b2 := HY.out.range k (by omega)
        have HS := Lib.hid (stepN_both (xs := xs) (ys := ys) (i := k) (by rw [HNX.out]; omega) (by rw [HNY.out]; omega))
        clear hra hrb
        by_cases hsg : rdI xs k - rdI ys k < rdI ys k - rdI xs k
        · go_wp2
          go_quiet (fail)
          go_wp2
          go_roundw
          case rel => exact ⟨k + 1, by omega, by go_num, by rw [sumN, HS.out]; go_num, _, rfl⟩
          case measure => simp [intOf]; omega
        · go_wp2
          go_quiet (fail)
          go_wp2
          go_roundw
          case rel => exact ⟨k + 1, by omega, by go_num, by rw [sumN, HS.out]; go_num, _, rfl⟩
          case measure => simp [intOf]; omega
      · obtain rfl : k = n := by omega
        go_wp2
        go_ret
        exact ⟨ret_int' HAP2.out.symm, _, rfl⟩
  · obtain HK : min n m = m := by omega
    rw [HK] at HAP
    have HAP2 := Lib.hid (show (apartN xs ys : Int) = 10 * ((n : Int) + (m : Int) - 2 * (m : Int)) + (sumN (stepN xs ys) m : Nat) by rw [HAP.out]; omega)
    have HW : 10 * ((n : Int) + (m : Int) - 2 * (m : Int)) ≤ 600 ∧ 0 ≤ 10 * ((n : Int) + (m : Int) - 2 * (m : Int)) := by omega
    clear HAP HK
    go_enter Try.func23, Try.ntmps23
    go_wp2
    go_loopw [6, 23] (fun s i wr => ∃ k : Nat, k ≤ m ∧ i = .int .i64 k ∧ s = .int .i64 (10 * ((n : Int) + (m : Int) - 2 * (m : Int)) + (sumN (stepN xs ys) k : Nat)) ∧ ∃ q, wr = w.drewN q) (fun _ i _ => m - (intOf i).toNat)
    case atStart => exact ⟨0, by omega, rfl, by simp [sumN], 0, rfl⟩
    case round =>
      obtain ⟨k, hk, rfl, rfl, q, rfl⟩ := hrel
      have hle := apartN_le HX.out HY.out k
      by_cases h1 : k < m
      · obtain ⟨a, rfl, hra⟩ := HA.out.some k (by rw [HNX.out]; omega)
        obtain ⟨b, rfl, hrb⟩ := HB.out.some k (by rw [HNY.out]; omega)
        have hc1 := hra.atI64 k (by rw [HNX.out]; omega)
        have hc2 := hrb.atI64 k (by rw [HNY.out]; omega)
        have b1 := HX.out.range k (by omega)
        have b2 := HY.out.range k (by omega)
        have HS := Lib.hid (stepN_both (xs := xs) (ys := ys) (i := k) (by rw [HNX.out]; omega) (by rw [HNY.out]; omega))
        clear hra hrb
        by_cases hsg : rdI xs k - rdI ys k < rdI ys k - rdI xs k
        · go_wp2
          go_quiet (fail)
          go_wp2
          go_roundw
          case rel => exact ⟨k + 1, by omega, by go_num, by rw [sumN, HS.out]; go_num, _, rfl⟩
          case measure => simp [intOf]; omega
        · go_wp2
          go_quiet (fail)
          go_wp2
          go_roundw
          case rel => exact ⟨k + 1, by omega, by go_num, by rw [sumN, HS.out]; go_num, _, rfl⟩
          case measure => simp [intOf]; omega
      · obtain rfl : k = m := by omega
        go_wp2
        go_ret
        exact ⟨ret_int' HAP2.out.symm, _, rfl⟩
end Go.Proofs.Ytjgflkoefimmoaa
