/- Contracts: a rubbing wears once, by the program: the dots around are counted first, then those that wear away are struck. -/
import Derived.Test.YtgmlhnmjeelajaaRubW
import Derived.BigRegion
namespace Go.Proofs.Ytgmlhnmjeelajaa
open Go Go.RowKit
set_option linter.unusedVariables false
set_option linter.unusedSimpArgs false

theorem bit_and' (n k : Nat) (hn : n < 65536) : bits .and .u16 ((n : Int) / 2 ^ k) 1 = if n.testBit k then 1 else 0 := by
  have e1 : ((n : Int) / 2 ^ k) = ((n / 2 ^ k : Nat) : Int) := by simp
  have h := u16_and_nat (n / 2 ^ k) 1 (Nat.lt_of_le_of_lt (Nat.div_le_self _ _) hn) (by omega)
  rw [e1, show (1 : Int) = ((1 : Nat) : Int) from rfl, h, Nat.testBit_eq_decide_div_mod_eq, Nat.and_one_is_mod]
  have := Nat.mod_two_eq_zero_or_one (n / 2 ^ k)
  rcases this with h | h <;> simp [h]
theorem wr_small {n : Int} (h0 : 0 ≤ n) (h1 : n ≤ 1000) : wrap64 n = n := by rw [← IntWalk.i64_left]; exact IntWalk.i64_in _ (by omega)

/-- Does pass number t count a dot at (x, y). -/
def gq (r : List Nat) (y x t : Nat) : Bool := (t != 4) && dk r ((x : Int) - (((t % 3 : Nat) : Int) - 1)) ((y : Int) - (((t / 3 : Nat) : Int) - 1))
theorem gq_at (r : List Nat) (y x d e : Nat) (he : e < 3) : gq r y x (3 * d + e) = ((3 * d + e != 4) && dk r ((x : Int) - ((e : Int) - 1)) ((y : Int) - ((d : Int) - 1))) := by
  unfold gq
  have h1 : (3 * d + e) % 3 = e := by omega
  have h2 : (3 * d + e) / 3 = d := by omega
  rw [h1, h2]
theorem cnt_nine (p : Nat → Bool) : cnt p 9 = (if p 0 then 1 else 0) + (if p 1 then 1 else 0) + (if p 2 then 1 else 0) + (if p 3 then 1 else 0) + (if p 4 then 1 else 0) + (if p 5 then 1 else 0) + (if p 6 then 1 else 0) + (if p 7 then 1 else 0) + (if p 8 then 1 else 0) := by
  simp only [cnt, sumN, Nat.zero_add]
theorem gq_nb (r : List Nat) (y x t : Nat) (ht : t ≤ 8) (h4 : t ≠ 4) : gq r y x t = nbK r y x (8 - t) := by
  unfold gq nbK
  have h1 : (8 - t) % 3 = 2 - t % 3 := by omega
  have h2 : (8 - t) / 3 = 2 - t / 3 := by omega
  have h3 : (t != 4) = true := by simpa using h4
  have h5 : t % 3 ≤ 2 := by omega
  have h6 : t / 3 ≤ 2 := by omega
  rw [h1, h2, h3, Bool.true_and]
  congr 1 <;> omega
theorem nb_gq (r : List Nat) (y x : Nat) : nbN r y x = cnt (gq r y x) 9 + (if dk r x y then 1 else 0) := by
  have e4 : gq r y x 4 = false := rfl
  have k4 : nbK r y x 4 = dk r x y := by unfold nbK; congr 1 <;> omega
  unfold nbN
  rw [cnt_nine, cnt_nine, e4, k4, gq_nb r y x 0 (by omega) (by omega), gq_nb r y x 1 (by omega) (by omega), gq_nb r y x 2 (by omega) (by omega), gq_nb r y x 3 (by omega) (by omega), gq_nb r y x 5 (by omega) (by omega), gq_nb r y x 6 (by omega) (by omega), gq_nb r y x 7 (by omega) (by omega), gq_nb r y x 8 (by omega) (by omega)]
  simp only [Bool.false_eq_true, if_false, Nat.reduceSub]
  omega

/-- Cell i's count after T passes and pos dots of the next. -/
def cellF (r : List Nat) (T pos i : Nat) : Nat := cnt (gq r (i / 16) (i % 16)) (if i < pos then T + 1 else T)
def rowsV (r : List Nat) (T pos : Nat) : List Value := (List.range 128).map fun (i : Nat) => i64 (cellF r T pos i : Int)
theorem rowsV_start (r : List Nat) : rowsV r 0 0 = List.replicate 128 (.int .i64 0) := by
  unfold rowsV
  apply List.ext_getElem?
  intro i
  rw [List.getElem?_map, List.getElem?_replicate]
  by_cases hi : i < 128
  · rw [List.getElem?_range hi, if_pos hi]; simp [cellF, cnt, sumN, i64]
  · rw [List.getElem?_eq_none (by simpa using hi), if_neg hi]; rfl
theorem rowsV_next (r : List Nat) (T : Nat) : rowsV r T 128 = rowsV r (T + 1) 0 := by
  unfold rowsV
  refine List.map_congr_left fun i hi => ?_
  unfold cellF
  rw [if_pos (List.mem_range.1 hi), if_neg (by omega)]
theorem rowsV_at (r : List Nat) (T pos i : Nat) (hi : i < 128) : (rowsV r T pos)[i]? = some (.int .i64 (cellF r T pos i : Int)) := by
  unfold rowsV
  rw [List.getElem?_map, List.getElem?_range hi]; rfl
theorem cellF_at (r : List Nat) (T y x : Nat) (hx : x < 16) : cellF r T (16 * y + x) (16 * y + x) = cnt (gq r y x) T := by
  unfold cellF
  have h1 : (16 * y + x) / 16 = y := by omega
  have h2 : (16 * y + x) % 16 = x := by omega
  rw [h1, h2, if_neg (by omega)]
theorem cellF_end (r : List Nat) (T y x : Nat) (hx : x < 16) : cellF r T 0 (16 * y + x) = cnt (gq r y x) T := by
  unfold cellF
  have h1 : (16 * y + x) / 16 = y := by omega
  have h2 : (16 * y + x) % 16 = x := by omega
  rw [h1, h2, if_neg (by omega)]
theorem rowsV_no (r : List Nat) (T y x : Nat) (hx : x < 16) (h : gq r y x T = false) : rowsV r T (16 * y + x + 1) = rowsV r T (16 * y + x) := by
  unfold rowsV
  refine List.map_congr_left fun i hi => ?_
  unfold cellF
  by_cases e : i = 16 * y + x
  · subst e
    have h1 : (16 * y + x) / 16 = y := by omega
    have h2 : (16 * y + x) % 16 = x := by omega
    rw [h1, h2, if_pos (by omega), if_neg (by omega), cnt_no h]
  · by_cases h1 : i < 16 * y + x
    · rw [if_pos h1, if_pos (by omega)]
    · rw [if_neg h1, if_neg (by omega)]
theorem cnt_step (p : Nat → Bool) (T : Nat) : cnt p (T + 1) = cnt p T + (if p T then 1 else 0) := rfl
theorem rowsV_set (r : List Nat) (T y x : Nat) (hy : y < 8) (hx : x < 16) : (rowsV r T (16 * y + x)).set (16 * y + x) (.int .i64 ((cnt (gq r y x) T : Int) + ((if gq r y x T then 1 else 0 : Nat) : Int))) = rowsV r T (16 * y + x + 1) := by
  unfold rowsV
  apply List.ext_getElem?
  intro i
  rw [List.getElem?_set, List.getElem?_map, List.getElem?_map]
  by_cases hi : i < 128
  · rw [List.getElem?_range hi]
    by_cases e : 16 * y + x = i
    · subst e
      have h1 : (16 * y + x) / 16 = y := by omega
      have h2 : (16 * y + x) % 16 = x := by omega
      rw [if_pos rfl, if_pos (by simpa using hi)]
      simp only [Option.map_some, cellF, h1, h2, i64]
      rw [if_pos (show 16 * y + x < 16 * y + x + 1 by omega), cnt_step]
      simp
    · rw [if_neg e]
      simp only [Option.map_some, cellF]
      by_cases h1 : i < 16 * y + x
      · rw [if_pos h1, if_pos (by omega)]
      · rw [if_neg h1, if_neg (by omega)]
  · rw [if_neg (by omega), List.getElem?_eq_none (by simpa using hi)]; rfl

/-- A rubbing of which the first rows, and the first k dots of row y, have worn. -/
def mixR (r : List Nat) (p : Nat → Nat → Bool) (y k : Nat) : List Nat := (List.range 8).map fun j => if j < y then bitsN (p j) 16 else if j = y then bitsN (fun x => if x < k then p j x else (rdN r j).testBit x) 16 else rdN r j
theorem mixR_length (r : List Nat) (p : Nat → Nat → Bool) (y k : Nat) : (mixR r p y k).length = 8 := by simp [mixR]
theorem rdN_mixR (r : List Nat) (p : Nat → Nat → Bool) (y k j : Nat) (hj : j < 8) : rdN (mixR r p y k) j = if j < y then bitsN (p j) 16 else if j = y then bitsN (fun x => if x < k then p j x else (rdN r j).testBit x) 16 else rdN r j := by
  simp [rdN, mixR, List.getD, List.getElem?_map, List.getElem?_range hj]
theorem bits_self {n : Nat} (h : n < 65536) : bitsN n.testBit 16 = n := eq_of_bits (k := 16) (bitsN_lt _ _) h fun x hx => by rw [testBit_bitsN]; simp [hx]
theorem mixR_start (r : List Nat) (p : Nat → Nat → Bool) (hr : r.length = 8) (hx : ∀ k, rdN r k < 65536) : mixR r p 0 0 = r := by
  refine ext8 (mixR_length _ _ _ _) hr fun y hy => ?_
  rw [rdN_mixR r p 0 0 y hy, if_neg (by omega)]
  split
  · simp only [Nat.not_lt_zero, if_false]; exact bits_self (hx y)
  · rfl
theorem mixR_all (r : List Nat) (p : Nat → Nat → Bool) : mixR r p 8 0 = gridR p := by
  unfold mixR gridR
  refine List.map_congr_left fun j hj => ?_
  rw [if_pos (List.mem_range.1 hj)]
theorem mixR_row (r : List Nat) (p : Nat → Nat → Bool) (y : Nat) (hx : ∀ k, rdN r k < 65536) : mixR r p y 16 = mixR r p (y + 1) 0 := by
  unfold mixR
  refine List.map_congr_left fun j _ => ?_
  by_cases h1 : j < y
  · rw [if_pos h1, if_pos (by omega)]
  · by_cases h2 : j = y
    · rw [if_neg h1, if_pos h2, if_pos (by omega)]
      refine eq_of_bits (k := 16) (bitsN_lt _ _) (bitsN_lt _ _) fun x hxx => ?_
      rw [testBit_bitsN, testBit_bitsN]; simp [hxx]
    · rw [if_neg h1, if_neg h2, if_neg (by omega)]
      split
      · simp only [Nat.not_lt_zero, if_false]; exact (bits_self (hx j)).symm
      · rfl
theorem mixR_keep (r : List Nat) (p : Nat → Nat → Bool) (y k : Nat) (h : p y k = (rdN r y).testBit k) : mixR r p y (k + 1) = mixR r p y k := by
  unfold mixR
  refine List.map_congr_left fun j _ => ?_
  split
  · rfl
  · split
    · subst_vars
      congr 1
      funext x
      by_cases e : x = k
      · subst e; rw [if_pos (by omega), if_neg (by omega), h]
      · by_cases h1 : x < k
        · rw [if_pos h1, if_pos (by omega)]
        · rw [if_neg h1, if_neg (by omega)]
    · rfl
theorem mixR_lt (r : List Nat) (p : Nat → Nat → Bool) (y k : Nat) (hx : ∀ k, rdN r k < 65536) : ∀ j, rdN (mixR r p y k) j < 65536 := by
  intro j
  by_cases hj : j < 8
  · rw [rdN_mixR r p y k j hj]
    split
    · exact bitsN_lt _ 16
    · split
      · exact bitsN_lt _ 16
      · exact hx j
  · rw [rdN_past _ _ (by rw [mixR_length]; omega)]; omega
theorem mixR_strike (r : List Nat) (p : Nat → Nat → Bool) (y k : Nat) (hy : y < 8) (hk : k < 16) (h : p y k = false) : (mixR r p y k).set y (rdN (mixR r p y k) y &&& (65535 - 2 ^ k)) = mixR r p y (k + 1) := by
  refine ext8 (by simp [mixR]) (mixR_length _ _ _ _) fun i hi => ?_
  rw [rdN_set _ _ _ _ (by rw [mixR_length]; exact hy), rdN_mixR r p y k y hy, rdN_mixR r p y (k + 1) i hi, rdN_mixR r p y k i hi, if_neg (by omega : ¬ y < y), if_pos rfl]
  by_cases e : i = y
  · subst e
    rw [if_pos rfl, if_neg (by omega), if_pos rfl]
    refine eq_of_bits (k := 16) (Nat.lt_of_le_of_lt Nat.and_le_left (bitsN_lt _ _)) (bitsN_lt _ _) fun x hxx => ?_
    rw [Nat.testBit_and, testBit_bitsN, testBit_bitsN, testBit_inv _ _ (pow_lt16 hk) hxx, Nat.testBit_two_pow]
    by_cases e : x = k
    · subst e; simp [h]
    · have e1 : decide (k = x) = false := by simp; omega
      rw [e1]
      by_cases h1 : x < k
      · simp [h1, hxx, show x < k + 1 by omega]
      · simp [h1, hxx, show ¬ x < k + 1 by omega]
  · rw [if_neg e, if_neg e, if_neg e]
theorem andNot16p (x k : Nat) (hx : x < 65536) (hk : k < 16) : bits .andNot .u16 (x : Int) ((2 : Int) ^ k) = ((x &&& (65535 - 2 ^ k) : Nat) : Int) := by
  have := andNot16 x (2 ^ k) hx (pow_lt16 hk)
  rw [← this]; simp

end Go.Proofs.Ytgmlhnmjeelajaa
