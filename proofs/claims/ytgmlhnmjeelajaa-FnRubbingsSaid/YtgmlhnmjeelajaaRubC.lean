/- Contracts: math/bits on sixteen bits; the rows' counts. -/
import Derived.Test.YtgmlhnmjeelajaaRubB
import Derived.Lib.BitFns
import Derived.Lib.Tables

namespace Go.Proofs.Ytgmlhnmjeelajaa
open Go Go.RowKit
set_option linter.unusedVariables false
set_option linter.unusedSimpArgs false

theorem pop8_cnt : ∀ n : Fin 256, Lib.pop8 (n.val : Int) = (cnt n.val.testBit 8 : Int) := by decide +kernel
theorem rev8_bits : ∀ n : Fin 256, Lib.rev8 (n.val : Int) = (bitsN (fun x => n.val.testBit (7 - x)) 8 : Int) := by decide +kernel
theorem u16_and255 (n : Nat) (hn : n < 65536) : bits .and .u16 (n : Int) 255 = (n : Int) % 256 := by
  have := u16_and_nat n 255 hn (by omega)
  rw [show ((255 : Nat) : Int) = 255 from rfl] at this
  rw [this, show n &&& 255 = n % 256 from Nat.and_two_pow_sub_one_eq_mod n 8]; omega
theorem sumN_add (f : Nat → Nat) (a b : Nat) : sumN f (a + b) = sumN f a + sumN (fun x => f (a + x)) b := by
  induction b with
  | zero => simp [sumN]
  | succ b ih => rw [← Nat.add_assoc, sumN, ih, sumN, Nat.add_assoc]
theorem cnt_split (n : Nat) : cnt n.testBit 16 = cnt (n / 256).testBit 8 + cnt (n % 256).testBit 8 := by
  unfold cnt
  rw [show 16 = 8 + 8 from rfl, sumN_add, Nat.add_comm]
  congr 1
  · refine sumN_congr fun i hi => ?_
    rw [show 256 = 2 ^ 8 from rfl, Nat.testBit_div_two_pow, Nat.add_comm]
  · refine sumN_congr fun i hi => ?_
    rw [show 256 = 2 ^ 8 from rfl, Nat.testBit_mod_two_pow]
    simp [hi]

set_option maxRecDepth 100000 in
theorem ones16_any (n : Nat) (hn : n < 65536) (w : World) :
    Calls Try.prog 30 #[.int .u16 (n : Int)] w fun e w' => e = .returned (.int .i64 (cnt n.testBit 16)) ∧ ∃ m, w' = w.drewN m := by
  have h1 : 0 ≤ (n : Int) / 256 := by omega
  have h2 : (n : Int) / 256 ≤ 255 := by omega
  have h3 : 0 ≤ (n : Int) % 256 := by omega
  have h4 : (n : Int) % 256 ≤ 255 := by omega
  have hand := u16_and255 n hn
  have p1 := pop8_cnt ⟨n / 256, by omega⟩
  have p2 := pop8_cnt ⟨n % 256, by omega⟩
  simp only at p1 p2
  rw [show ((n / 256 : Nat) : Int) = (n : Int) / 256 from by omega] at p1
  rw [show ((n % 256 : Nat) : Int) = (n : Int) % 256 from by omega] at p2
  have c1 := cnt_le (n / 256).testBit 8
  have c2 := cnt_le (n % 256).testBit 8
  have HS := Lib.hid (cnt_split n)
  go_enter Try.func30, Try.ntmps30
  go_wp2
  go_quiet (fail)
  go_wp2
  go_ret
  exact ⟨ret_int (by rw [HS.out]; go_num), _, rfl⟩

theorem rev_join (n : Nat) (hn : n < 65536) : bitsN (fun x => (n / 256).testBit (7 - x)) 8 ||| bitsN (fun x => (n % 256).testBit (7 - x)) 8 * 256 = bitsN (fun x => n.testBit (15 - x)) 16 := by
  have c1 := bitsN_lt (fun x => (n / 256).testBit (7 - x)) 8
  have c2 := bitsN_lt (fun x => (n % 256).testBit (7 - x)) 8
  refine eq_of_bits (k := 16) (Nat.or_lt_two_pow (by omega) (by omega)) (bitsN_lt _ _) fun x hx => ?_
  rw [Nat.testBit_or, testBit_bitsN, show 256 = 2 ^ 8 from rfl, Nat.testBit_mul_two_pow, testBit_bitsN, testBit_bitsN, Nat.testBit_div_two_pow, Nat.testBit_mod_two_pow]
  by_cases h : x < 8
  · have h' : ¬ (8 ≤ x) := by omega
    simp only [h, h', hx, decide_true, decide_false, Bool.true_and, Bool.false_and, Bool.or_false]
    congr 1; omega
  · have h1 : 8 ≤ x := by omega
    have h2 : x - 8 < 8 := by omega
    have h3 : 7 - (x - 8) < 8 := by omega
    simp only [h, h1, h2, h3, hx, decide_true, decide_false, Bool.true_and, Bool.false_and, Bool.false_or]
    congr 1; omega

set_option maxRecDepth 100000 in
theorem rev16_any (n : Nat) (hn : n < 65536) (w : World) :
    Calls Try.prog 28 #[.int .u16 (n : Int)] w fun e w' => e = .returned (.int .u16 ((bitsN (fun x => n.testBit (15 - x)) 16 : Nat) : Int)) ∧ ∃ m, w' = w.drewN m := by
  have h1 : 0 ≤ (n : Int) / 256 := by omega
  have h2 : (n : Int) / 256 ≤ 255 := by omega
  have h3 : 0 ≤ (n : Int) % 256 := by omega
  have h4 : (n : Int) % 256 ≤ 255 := by omega
  have hand := u16_and255 n hn
  have p1 := rev8_bits ⟨n / 256, by omega⟩
  have p2 := rev8_bits ⟨n % 256, by omega⟩
  simp only at p1 p2
  rw [show ((n / 256 : Nat) : Int) = (n : Int) / 256 from by omega] at p1
  rw [show ((n % 256 : Nat) : Int) = (n : Int) % 256 from by omega] at p2
  have c1 := bitsN_lt (fun x => (n / 256).testBit (7 - x)) 8
  have c2 := bitsN_lt (fun x => (n % 256).testBit (7 - x)) 8
  generalize hA : bitsN (fun x => (n / 256).testBit (7 - x)) 8 = A at *
  generalize hB : bitsN (fun x => (n % 256).testBit (7 - x)) 8 = B at *
  have hor : bits .or .u16 (A : Int) ((B : Int) * 256) = ((A ||| B * 256 : Nat) : Int) := by
    have := u16_or_nat A (B * 256) (by omega) (by omega)
    rw [← this]; simp
  have HA := Lib.hid hA
  have HB := Lib.hid hB
  clear hA hB
  go_enter Try.func28, Try.ntmps28
  go_wp2
  go_quiet (fail)
  go_wp2
  go_ret
  exact ⟨ret_int (by rw [← HA.out, ← HB.out, rev_join n hn]), _, rfl⟩

/-! ### A list's sum; the rows' counts; the count -/
def sumI (xs : List Int) (k : Nat) : Int := (xs.take k).foldl (· + ·) 0
theorem sumI_succ (xs : List Int) (k : Nat) (hk : k < xs.length) : sumI xs (k + 1) = sumI xs k + rdI xs k := by
  unfold sumI rdI
  rw [List.take_succ_eq_append_getElem hk, List.foldl_append]
  simp [List.getD, List.getElem?_eq_getElem hk]

set_option maxRecDepth 100000 in
theorem total_small (A : Option Addr) (c : Nat) (xs : List Int) (w : World) (h : SlE i64 w A xs) (hl : xs.length ≤ 1000) (hx : ∀ k, 0 ≤ rdI xs k ∧ rdI xs k ≤ 1000) :
    Calls Try.prog 29 #[.slice A xs.length c] w fun e w' => e = .returned (.int .i64 (sumI xs xs.length)) ∧ w = w' := by
  have hb : ∀ k, k ≤ xs.length → 0 ≤ sumI xs k ∧ sumI xs k ≤ 1000 * k := by
    intro k
    induction k with
    | zero => intro _; simp [sumI]
    | succ k ih => intro hk; have := ih (by omega); have := hx k; rw [sumI_succ xs k (by omega)]; omega
  generalize hN : xs.length = N at *
  have HN := Lib.hid hN
  clear hN
  go_enter Try.func29, Try.ntmps29
  go_wp2
  go_loop [3, 8] (fun n i => ∃ k : Nat, k ≤ N ∧ i = .int .i64 k ∧ n = .int .i64 (sumI xs k)) (fun _ i => N - (intOf i).toNat)
  case atStart => exact ⟨0, by omega, rfl, rfl⟩
  case round =>
    obtain ⟨k, hk, rfl, rfl⟩ := hrel
    have hbk := hb k hk
    have hxk := hx k
    clear hb hx
    by_cases hlt : k < N
    · obtain ⟨a, rfl, hr⟩ := h.some k (by rw [HN.out]; omega)
      have hcell := hr.atI64 k (by rw [HN.out]; omega)
      have HS := Lib.hid (sumI_succ xs k (by rw [HN.out]; omega))
      clear hr h
      go_wp2
      go_round
      case rel => exact ⟨k + 1, by omega, by go_num, by rw [HS.out]⟩
      case measure => simp [intOf]; omega
    · obtain rfl : k = N := by omega
      clear h
      go_wp2
      go_ret
      exact ⟨rfl, rfl⟩
end Go.Proofs.Ytgmlhnmjeelajaa
