/- Contracts: a rubbing wears once, by the program: the dots around are counted first, then those that wear away are struck. -/
import Derived.Test.YtkfjelbcaolepaaRubW
import Derived.BigRegion
namespace Go.Proofs.Ytkfjelbcaolepaa
open Go Go.RowKit

theorem bit_and' (n k : Nat) (hn : n < 65536) : bits .and .u16 ((n : Int) / 2 ^ k) 1 = if n.testBit k then 1 else 0 := by
  have e1 : ((n : Int) / 2 ^ k) = ((n / 2 ^ k : Nat) : Int) := by simp
  have h := u16_and_nat (n / 2 ^ k) 1 (Nat.lt_of_le_of_lt (Nat.div_le_self _ _) hn) (by omega)
  rw [e1, show (1 : Int) = ((1 : Nat) : Int) from rfl, h, Nat.testBit_eq_decide_div_mod_eq, Nat.and_one_is_mod]
  have := Nat.mod_two_eq_zero_or_one (n / 2 ^ k)
  rcases this with h | h <;> simp [h]
theorem wr_small {n : Int} (h0 : 0 ≤ n) (h1 : n ≤ 1000) : wrap64 n = n := by rw [← IntWalk.i64_left]; exact IntWalk.i64_in _ (by omega)

/-- Does pass number t count a dot at (x, y). -/
def gq (r : List Nat) (y x t : Nat) : Bool := (t != 4) && dk r ((x : Int) - (((t % 3 : Nat) : Int) - 1)) ((y : Int) - (((t / 3 : Nat) : Int) - 1))
theorem gq_at (r : List Nat) (y x d e : Nat) (he : e < 3) : gq r y x (3 * d + e) = ((3 * d + e != 4) && dk r ((x : Int) - ((e : Int) - 1)) ((y : Int) - ((d : Int) - 1))) := by
  unfold gq
  have h1 : (3 * d + e) % 3 = e := by omega
  have h2 : (3 * d + e) / 3 = d := by omega
  rw [h1, h2]
theorem cnt_nine (p : Nat → Bool) : cnt p 9 = (if p 0 then 1 else 0) + (if p 1 then 1 else 0) + (if p 2 then 1 else 0) + (if p 3 then 1 else 0) + (if p 4 then 1 else 0) + (if p 5 then 1 else 0) + (if p 6 then 1 else 0) + (if p 7 then 1 else 0) + (if p 8 then 1 else 0) := by
  simp only [cnt, sumN, Nat.zero_add]
theorem gq_nb (r : List Nat) (y x t : Nat) (ht : t ≤ 8) (h4 : t ≠ 4) : gq r y x t = nbK r y x (8 - t) := by
  unfold gq nbK
  have h1 : (8 - t) % 3 = 2 - t % 3 := by omega
  have h2 : (8 - t) / 3 = 2 - t / 3 := by omega
  have h3 : (t != 4) = true := by simpa using h4
  have h5 : t % 3 ≤ 2 := by omega
  have h6 : t / 3 ≤ 2 := by omega
  rw [h1, h2, h3, Bool.true_and]
  congr 1 <;> omega
theorem nb_gq (r : List Nat) (y x : Nat) : nbN r y x = cnt (gq r y x) 9 + (if dk r x y then 1 else 0) := by
  have e4 : gq r y x 4 = false := rfl
  have k4 : nbK r y x 4 = dk r x y := by unfold nbK; congr 1 <;> omega
  unfold nbN
  rw [cnt_nine, cnt_nine, e4, k4, gq_nb r y x 0 (by omega) (by omega), gq_nb r y x 1 (by omega) (by omega), gq_nb r y x 2 (by omega) (by omega), gq_nb r y x 3 (by omega) (by omega), gq_nb r y x 5 (by omega) (by omega), gq_nb r y x 6 (by omega) (by omega), gq_nb r y x 7 (by omega) (by omega), gq_nb r y x 8 (by omega) (by omega)]
  simp only [Bool.false_eq_true, if_false, Nat.reduceSub]
  omega

/-- Cell i's count after T passes and pos dots of the next. -/
def cellF (r : List Nat) (T pos i : Nat) : Nat := cnt (gq r (i / 16) (i % 16)) (if i < pos then T + 1 else T)
def rowsV (r : List Nat) (T pos : Nat) : List Value := (List.range 128).map fun (i : Nat) => i64 (cellF r T pos i : Int)
theorem rowsV_start (r : List Nat) : rowsV r 0 0 = List.replicate 128 (.int .i64 0) := by
  unfold rowsV
  apply List.ext_getElem?
  intro i
  rw [List.getElem?_map, List.getElem?_replicate]
  by_cases hi : i < 128
  · rw [List.getElem?_range hi, if_pos hi]; simp [cellF, cnt, sumN, i64]
  · rw [List.getElem?_eq_none (by simpa using hi), if_neg hi]; rfl
theorem rowsV_next (r : List Nat) (T : Nat) : rowsV r T 128 = rowsV r (T + 1) 0 := by
  unfold rowsV
  refine List.map_congr_left fun i hi => ?_
  unfold cellF
  rw [if_pos (List.mem_range.1 hi), if_neg (by omega)]
theorem rowsV_at (r : List Nat) (T pos i : Nat) (hi : i < 128) : (rowsV r T pos)[i]? = some (.int .i64 (cellF r T pos i : Int)) := by
  unfold rowsV
  rw [List.getElem?_map, List.getElem?_range hi]; rfl
theorem cellF_at (r : List Nat) (T y x : Nat) (hx : x < 16) : cellF r T (16 * y + x) (16 * y + x) = cnt (gq r y x) T := by
  unfold cellF
  have h1 : (16 * y + x) / 16 = y := by omega
  have h2 : (16 * y + x) % 16 = x := by omega
  rw [h1, h2, if_neg (by omega)]
theorem cellF_end (r : List Nat) (T y x : Nat) (hx : x < 16) : cellF r T 0 (16 * y + x) = cnt (gq r y x) T := by
  unfold cellF
  have h1 : (16 * y + x) / 16 = y := by omega
  have h2 : (16 * y + x) % 16 = x := by omega
  rw [h1, h2, if_neg (by omega)]
theorem rowsV_no (r : List Nat) (T y x : Nat) (hx : x < 16) (h : gq r y x T = false) : rowsV r T (16 * y + x + 1) = rowsV r T (16 * y + x) := by
  unfold rowsV
  refine List.map_congr_left fun i hi => ?_
  unfold cellF
  by_cases e : i = 16 * y + x
  · subst e
    have h1 : (16 * y + x) / 16 = y := by omega
    have h2 : (16 * y + x) % 16 = x := by omega
    rw [h1, h2, if_pos (by omega), if_neg (by omega), cnt_no h]
  · by_cases h1 : i < 16 * y + x
    · rw [if_pos h1, if_pos (by omega)]
    · rw [if_neg h1, if_neg (by omega)]
theorem cnt_step (p : Nat → Bool) (T : Nat) : cnt p (T + 1) = cnt p T + (if p T then 1 else 0) := rfl
theorem rowsV_set (r : List Nat) (T y x : Nat) (hy : y < 8) (hx : x < 16) : (rowsV r T (16 * y + x)).set (16 * y + x) (.int .i64 ((cnt (gq r y x) T : Int) + ((if gq r y x T then 1 else 0 : Nat) : Int))) = rowsV r T (16 * y + x + 1) := by
  unfold rowsV
  apply List.ext_getElem?
  intro i
  rw [List.getElem?_set, List.getElem?_map, List.getElem?_map]
  by_cases hi : i < 128
  · rw [List.getElem?_range hi]
    by_cases e : 16 * y + x = i
    · subst e
      have h1 : (16 * y + x) / 16 = y := by omega
      have h2 : (16 * y + x) % 16 = x := by omega
      rw [if_pos rfl, if_pos (by simpa using hi)]
      simp only [Option.map_some, cellF, h1, h2, i64]
      rw [if_pos (show 16 * y + x < 16 * y + x + 1 by omega), cnt_step]
      simp
    · rw [if_neg e]
      simp only [Option.map_some, cellF]
      by_cases h1 : i < 16 * y + x
      · rw [if_pos h1, if_pos (by omega)]
      · rw [if_neg h1, if_neg (by omega)]
  · rw [if_neg (by omega), List.getElem?_eq_none (by simpa using hi)]; rfl

/-- A rubbing of which the first rows, and the first k dots of row y, have worn. -/
def mixR (r : List Nat) (p : Nat → Nat → Bool) (y k : Nat) : List Nat := (List.range 8).map fun j => if j < y then bitsN (p j) 16 else if j = y then bitsN (fun x => if x < k then p j x else (rdN r j).testBit x) 16 else rdN r j
theorem mixR_length (r : List Nat) (p : Nat → Nat → Bool) (y k : Nat) : (mixR r p y k).length = 8 := by simp [mixR]
theorem rdN_mixR (r : List Nat) (p : Nat → Nat → Bool) (y k j : Nat) (hj : j < 8) : rdN (mixR r p y k) j = if j < y then bitsN (p j) 16 else if j = y then bitsN (fun x => if x < k then p j x else (rdN r j).testBit x) 16 else rdN r j := by
  simp [rdN, mixR, List.getD, List.getElem?_map, List.getElem?_range hj]
theorem bits_self {n : Nat} (h : n < 65536) : bitsN n.testBit 16 = n := eq_of_bits (k := 16) (bitsN_lt _ _) h fun x hx => by rw [testBit_bitsN]; simp [hx]
theorem mixR_start (r : List Nat) (p : Nat → Nat → Bool) (hr : r.length = 8) (hx : ∀ k, rdN r k < 65536) : mixR r p 0 0 = r := by
  refine ext8 (mixR_length _ _ _ _) hr fun y hy => ?_
  rw [rdN_mixR r p 0 0 y hy, if_neg (by omega)]
  split
  · simp only [Nat.not_lt_zero, if_false]; exact bits_self (hx y)
  · rfl
theorem mixR_all (r : List Nat) (p : Nat → Nat → Bool) : mixR r p 8 0 = gridR p := by
  unfold mixR gridR
  refine List.map_congr_left fun j hj => ?_
  rw [if_pos (List.mem_range.1 hj)]
theorem mixR_row (r : List Nat) (p : Nat → Nat → Bool) (y : Nat) (hx : ∀ k, rdN r k < 65536) : mixR r p y 16 = mixR r p (y + 1) 0 := by
  unfold mixR
  refine List.map_congr_left fun j _ => ?_
  by_cases h1 : j < y
  · rw [if_pos h1, if_pos (by omega)]
  · by_cases h2 : j = y
    · rw [if_neg h1, if_pos h2, if_pos (by omega)]
      refine eq_of_bits (k := 16) (bitsN_lt _ _) (bitsN_lt _ _) fun x hxx => ?_
      rw [testBit_bitsN, testBit_bitsN]; simp [hxx]
    · rw [if_neg h1, if_neg h2, if_neg (by omega)]
      split
      · simp only [Nat.not_lt_zero, if_false]; exact (bits_self (hx j)).symm
      · rfl
theorem mixR_keep (r : List Nat) (p : Nat → Nat → Bool) (y k : Nat) (h : p y k = (rdN r y).testBit k) : mixR r p y (k + 1) = mixR r p y k := by
  unfold mixR
  refine List.map_congr_left fun j _ => ?_
  split
  · rfl
  · split
    · subst_vars
      congr 1
      funext x
      by_cases e : x = k
      · subst e; rw [if_pos (by omega), if_neg (by omega), h]
      · by_cases h1 : x < k
        · rw [if_pos h1, if_pos (by omega)]
        · rw [if_neg h1, if_neg (by omega)]
    · rfl
theorem mixR_lt (r : List Nat) (p : Nat → Nat → Bool) (y k : Nat) (hx : ∀ k, rdN r k < 65536) : ∀ j, rdN (mixR r p y k) j < 65536 := by
  intro j
  by_cases hj : j < 8
  · rw [rdN_mixR r p y k j hj]
    split
    · exact bitsN_lt _ 16
    · split
      · exact bitsN_lt _ 16
      · exact hx j
  · rw [rdN_past _ _ (by rw [mixR_length]; omega)]; omega
theorem mixR_strike (r : List Nat) (p : Nat → Nat → Bool) (y k : Nat) (hy : y < 8) (hk : k < 16) (h : p y k = false) : (mixR r p y k).set y (rdN (mixR r p y k) y &&& (65535 - 2 ^ k)) = mixR r p y (k + 1) := by
  refine ext8 (by simp [mixR]) (mixR_length _ _ _ _) fun i hi => ?_
  rw [rdN_set _ _ _ _ (by rw [mixR_length]; exact hy), rdN_mixR r p y k y hy, rdN_mixR r p y (k + 1) i hi, rdN_mixR r p y k i hi, if_neg (by omega : ¬ y < y), if_pos rfl]
  by_cases e : i = y
  · subst e
    rw [if_pos rfl, if_neg (by omega), if_pos rfl]
    refine eq_of_bits (k := 16) (Nat.lt_of_le_of_lt Nat.and_le_left (bitsN_lt _ _)) (bitsN_lt _ _) fun x hxx => ?_
    rw [Nat.testBit_and, testBit_bitsN, testBit_bitsN, testBit_inv _ _ (pow_lt16 hk) hxx, Nat.testBit_two_pow]
    by_cases e : x = k
    · subst e; simp [h]
    · have e1 : decide (k = x) = false := by simp; omega
      rw [e1]
      by_cases h1 : x < k
      · simp [h1, hxx, show x < k + 1 by omega]
      · simp [h1, hxx, show ¬ x < k + 1 by omega]
  · rw [if_neg e, if_neg e, if_neg e]
theorem andNot16p (x k : Nat) (hx : x < 65536) (hk : k < 16) : bits .andNot .u16 (x : Int) ((2 : Int) ^ k) = ((x &&& (65535 - 2 ^ k) : Nat) : Int) := by
  have := andNot16 x (2 ^ k) hx (pow_lt16 hk)
  rw [← this]; simp

/-- The worn rubbing's array of arrays: 8 rows of 16 cells. -/
structure WearRel (r : List Nat) (w wr : World) (T pos : Nat) : Prop where
  arg : Blk wr w.heap.size 25 (r.map u16)
  res : Blk wr (w.heap.size + 1) 25 (List.replicate 8 z16)
  acc : Blk wr (w.heap.size + 1 + 1) 85 (rowsV r T pos)
  below : Below w.heap.size w wr

structure StrikeRel (r : List Nat) (need : Int) (w wr : World) (y k : Nat) : Prop where
  arg : Blk wr w.heap.size 25 ((mixR r (stays r need) y k).map u16)
  res : Blk wr (w.heap.size + 1) 25 (List.replicate 8 z16)
  acc : Blk wr (w.heap.size + 1 + 1) 85 (rowsV r 9 0)
  below : Below w.heap.size w wr

set_option maxHeartbeats 4000000 in
set_option maxRecDepth 100000 in
theorem worn_any (r : List Nat) (need : Int) (w : World) (hr : r.length = 8) (hx : ∀ k, rdN r k < 65536) (hn : 0 ≤ need ∧ need ≤ 8) :
    Calls Try.prog 69 #[.agg (R16 r), .int .i64 need] w fun e w' => e = .returned (.agg (R16 (wearR r need))) ∧ Below w.heap.size w w' := by
  have HM := Lib.hid (show gridR (stays r need) = wearR r need from rfl)
  go_enter Try.func69, Try.ntmps69
  have hz : (List.replicate 128 (Value.int .i64 0)).toArray = Try.zeroCells85 := by kernel_rfl
  have hacc : ∀ w1 : World, Blk (w1.alloc (.cells Try.zeroCells85 85)) w1.heap.size 85 (rowsV r 0 0) := fun w1 => by
    rw [rowsV_start, ← hz]; exact Blk.new w1 _ _
  clear hz
  go_wp2_with (refine wpList_store_new rfl 85 _ _ rfl Try.zeroCells85 (by show Value.pointer (some ⟨w.heap.size + 1 + 1, 0, none⟩) = _; rw [World.size_alloc, World.size_alloc]) rfl 85 _ (by kernel_rfl) (by kernel_rfl) (by kernel_rfl) ?_)
  go_loopw [6] (fun i wr => ∃ d : Nat, d ≤ 3 ∧ i = .int .i64 ((d : Int) - 1) ∧ WearRel r w wr (3 * d) 0) (fun i _ => (3 - (intOf i + 1)).toNat)
  case atStart => exact ⟨0, by omega, rfl, ((Blk.new w _ _).alloc _).alloc _, (Blk.at_new _ _ _ (by simp) _ _ rfl).alloc _, by have := hacc ((w.alloc (.cells (R16 r) 25)).alloc (.cells (List.replicate 8 z16).toArray 25)); rw [World.size_alloc, World.size_alloc] at this; exact this, below_three _ _ _ _⟩
  case round =>
    obtain ⟨d, hd, rfl, h⟩ := hrel
    clear hacc
    by_cases hld : d < 3
    · obtain ⟨wo, rfl⟩ : ∃ wo : World, wo = wr := ⟨_, rfl⟩
      have hd1 : decide ((d : Int) - 1 ≤ 1) = true := by simp; omega
      go_wp2
      go_loopw [7] (fun i wr => ∃ e : Nat, e ≤ 3 ∧ i = .int .i64 ((e : Int) - 1) ∧ WearRel r w wr (3 * d + e) 0) (fun i _ => (3 - (intOf i + 1)).toNat)
      case atStart => exact ⟨0, by omega, rfl, h⟩
      case round =>
        obtain ⟨e, he, rfl, h⟩ := hrel
        by_cases hle : e < 3
        · have he1 : decide ((e : Int) - 1 ≤ 1) = true := by simp; omega
          have harg := h.arg
          go_wp2_with (first
            | (refine wpList_load_row rfl 25 _ rfl _ rfl 25 (R16 r) _ _ harg Try.underlying25 rfl (by rw [R16_size, hr]; exact szRub) ?_)
            | (go_at_call 62; refine (moved_any r _ _ _ hr hx (by omega) (by omega)).mono ?_; rintro e' w1 ⟨rfl, hb⟩; have h : WearRel r w w1 (3 * d + e) 0 := ⟨h.arg.next hb, h.res.next hb, h.acc.next hb, below_step h.below hb⟩; clear hb))
          clear harg
          go_loopw [26] (fun i wr => ∃ y : Nat, y ≤ 8 ∧ i = .int .i64 y ∧ WearRel r w wr (3 * d + e) (16 * y)) (fun i _ => 8 - (intOf i).toNat)
          case atStart => exact ⟨0, by omega, rfl, h⟩
          case round =>
            obtain ⟨y, hy, rfl, h⟩ := hrel
            by_cases hlt : y < 8
            · obtain ⟨wp, rfl⟩ : ∃ wp : World, wp = wr := ⟨_, rfl⟩
              have hd8 : decide ((y : Int) < 8) = true := by simp; omega
              have hix := rub_at (movR r ((e : Int) - 1) ((d : Int) - 1)) (gridR_length _) y hlt
              go_wp2
              go_loopw [30] (fun i wr => ∃ x : Nat, x ≤ 16 ∧ i = .int .i64 x ∧ WearRel r w wr (3 * d + e) (16 * y + x)) (fun i _ => 16 - (intOf i).toNat)
              case atStart => exact ⟨0, by omega, rfl, h⟩
              case round =>
                obtain ⟨x, hxx, rfl, h⟩ := hrel
                clear hix
                by_cases hlx : x < 16
                · by_cases h4 : 3 * d + e = 4
                  · obtain rfl : d = 1 := by omega
                    obtain rfl : e = 1 := by omega
                    have HN := Lib.hid (rowsV_no r (3 * 1 + 1) y x hlx rfl)
                    go_wp2
                    go_roundw
                    case rel => exact ⟨x + 1, by omega, by go_num, h.arg, h.res, by rw [← Nat.add_assoc, HN.out]; exact h.acc, h.below⟩
                    case measure => simp [intOf]; omega
                  · have hcell := h.acc.cell (16 * y + x) _ (rowsV_at r (3 * d + e) (16 * y + x) (16 * y + x) (by omega))
                    rw [cellF_at r (3 * d + e) y x hlx, Nat.mul_comm 16 y] at hcell
                    have hfree := h.acc.free (y * 16 + x)
                    have hset := Lib.hid (rowsV_set r (3 * d + e) y x hlt hlx)
                    have hbv := bit_and' (rdN (movR r ((e : Int) - 1) ((d : Int) - 1)) y) x (gridR_lt _ y)
                    have htb : (rdN (movR r ((e : Int) - 1) ((d : Int) - 1)) y).testBit x = gq r y x (3 * d + e) := by
                      rw [gq_at r y x d e hle]
                      have h3 : (3 * d + e != 4) = true := by simpa using h4
                      unfold movR
                      rw [rdN_gridR _ y hlt, testBit_bitsN, decide_eq_true hlx, Bool.true_and, h3, Bool.true_and]
                    rw [htb] at hbv
                    have hcl := cnt_le (gq r y x) (3 * d + e)
                    obtain ⟨b, hb⟩ : ∃ b : Nat, b = (if gq r y x (3 * d + e) then 1 else 0) := ⟨_, rfl⟩
                    have hb1 : b ≤ 1 := by rw [hb]; split <;> omega
                    have hbv2 : bits .and .u16 ((rdN (movR r ((e : Int) - 1) ((d : Int) - 1)) y : Int) / 2 ^ x) 1 = (b : Int) := by rw [hbv, hb]; split <;> rfl
                    rw [← hb] at hset
                    clear hbv htb hb
                    by_cases he1' : e = 1
                    · obtain rfl := he1'
                      have hv : wrap64 ((cnt (gq r y x) (3 * d + 1) : Int) + wrap64 (bits BinOp.and IntKind.u16 ((rdN (movR r 0 ((d : Int) - 1)) y : Int) / 2 ^ x) 1)) = (cnt (gq r y x) (3 * d + 1) : Int) + (b : Int) := by
                        have e0 : (((1 : Nat) : Int) - 1) = 0 := by omega
                        rw [e0] at hbv2
                        rw [hbv2, wr_small (n := (b : Int)) (by omega) (by omega), wr_small (by omega) (by omega)]
                      have HV := Lib.hid hv
                      clear hv hbv2
                      have c2 : ((d : Int) - 1 != 0) = true := by simp; omega
                      go_wp2
                      go_region
                      go_wp2
                      go_roundw
                      case rel =>
                        refine ⟨x + 1, by omega, by go_num, (h.arg.other _ _ (by simp; omega)).drew, (h.res.other _ _ (by simp)).drew, ?_, (h.below.setCell (by simp; omega) _).drew⟩
                        rw [← Nat.add_assoc, ← hset.out, Nat.mul_comm y 16, HV.out]
                        exact (h.acc.set _ _).drew
                      case measure => simp [intOf]; omega
                    · have hv : wrap64 ((cnt (gq r y x) (3 * d + e) : Int) + wrap64 (bits BinOp.and IntKind.u16 ((rdN (movR r ((e : Int) - 1) ((d : Int) - 1)) y : Int) / 2 ^ x) 1)) = (cnt (gq r y x) (3 * d + e) : Int) + (b : Int) := by
                        rw [hbv2, wr_small (n := (b : Int)) (by omega) (by omega), wr_small (by omega) (by omega)]
                      have HV := Lib.hid hv
                      clear hv hbv2
                      have c1 : ((e : Int) - 1 != 0) = true := by simp; omega
                      go_wp2
                      go_region
                      go_wp2
                      go_roundw
                      case rel =>
                        refine ⟨x + 1, by omega, by go_num, (h.arg.other _ _ (by simp; omega)).drew, (h.res.other _ _ (by simp)).drew, ?_, (h.below.setCell (by simp; omega) _).drew⟩
                        rw [← Nat.add_assoc, ← hset.out, Nat.mul_comm y 16, HV.out]
                        exact (h.acc.set _ _).drew
                      case measure => simp [intOf]; omega
                · obtain rfl : x = 16 := by omega
                  go_wp2
                  go_roundw
                  case rel => exact ⟨y + 1, by omega, by go_num, by rw [Nat.mul_add]; exact h⟩
                  case measure => simp [intOf]; omega
            · obtain rfl : y = 8 := by omega
              have HN := Lib.hid (rowsV_next r (3 * d + e))
              go_wp2
              go_roundw
              case rel => exact ⟨e + 1, by omega, by go_num, h.arg, h.res, by rw [← Nat.add_assoc, ← HN.out]; exact h.acc, h.below⟩
              case measure => simp [intOf]; omega
        · obtain rfl : e = 3 := by omega
          go_wp2
          go_roundw
          case rel => exact ⟨d + 1, by omega, by go_num, by rw [Nat.mul_add]; exact h⟩
          case measure => simp [intOf]; omega
    · obtain rfl : d = 3 := by omega
      go_wp2
      go_loopw [54] (fun i wr => ∃ y : Nat, y ≤ 8 ∧ i = .int .i64 y ∧ StrikeRel r need w wr y 0) (fun i _ => 8 - (intOf i).toNat)
      case atStart => exact ⟨0, by omega, rfl, by rw [mixR_start r _ hr hx]; exact h.arg, h.res, h.acc, h.below⟩
      case round =>
        obtain ⟨y, hy, rfl, h⟩ := hrel
        by_cases hlt : y < 8
        · obtain ⟨wp, rfl⟩ : ∃ wp : World, wp = wr := ⟨_, rfl⟩
          have hd8 : decide ((y : Int) < 8) = true := by simp; omega
          go_wp2
          go_loopw [57] (fun i wr => ∃ x : Nat, x ≤ 16 ∧ i = .int .i64 x ∧ StrikeRel r need w wr y x) (fun i _ => 16 - (intOf i).toNat)
          case atStart => exact ⟨0, by omega, rfl, h⟩
          case round =>
            obtain ⟨x, hxx, rfl, h⟩ := hrel
            by_cases hlx : x < 16
            · have hcell := h.acc.cell (16 * y + x) _ (rowsV_at r 9 0 (16 * y + x) (by omega))
              rw [cellF_end r 9 y x hlx, Nat.mul_comm 16 y] at hcell
              have hnb := nb_gq r y x
              have hdk : dk r x y = (rdN r y).testBit x := dk_in r x y hlx hlt
              by_cases hlo : (cnt (gq r y x) 9 : Int) < need
              · have HS := Lib.hid (show stays r need y x = false by
                  unfold stays
                  cases hq : dk r x y
                  · rfl
                  · rw [hq] at hnb
                    simp only [if_true] at hnb
                    rw [Bool.true_and]; exact decide_eq_false (by omega))
                have hc3 := h.arg.cell y _ (map_u16_at _ y (by rw [mixR_length]; omega))
                have hf3 := h.arg.free y
                have hand := andNot16p (rdN (mixR r (stays r need) y x) y) x (mixR_lt r _ y x hx y) hlx
                have hwp := wrap16p x hlx
                clear hnb hdk
                go_wp2
                go_region
                go_wp2
                go_roundw
                case rel =>
                  refine ⟨x + 1, by omega, by go_num, ?_, (h.res.other _ _ (by simp)).drew, (h.acc.other _ _ (by simp; omega)).drew, (h.below.setCell (by simp) _).drew⟩
                  rw [← mixR_strike r _ y x hlt hlx HS.out, List.map_set]
                  exact (h.arg.set y _).drew
                case measure => simp [intOf]; omega
              · have HS := Lib.hid (show stays r need y x = (rdN r y).testBit x by
                  unfold stays
                  rw [hdk]
                  rw [hdk] at hnb
                  cases hq : (rdN r y).testBit x
                  · rfl
                  · rw [hq] at hnb
                    simp only [if_true] at hnb
                    rw [Bool.true_and]; exact decide_eq_true (by omega))
                clear hnb hdk
                go_wp2
                go_roundw
                case rel => exact ⟨x + 1, by omega, by go_num, by rw [mixR_keep r _ y x HS.out]; exact h.arg, h.res, h.acc, h.below⟩
                case measure => simp [intOf]; omega
            · obtain rfl : x = 16 := by omega
              have HR := Lib.hid (mixR_row r (stays r need) y hx)
              go_wp2
              go_roundw
              case rel => exact ⟨y + 1, by omega, by go_num, by rw [← HR.out]; exact h.arg, h.res, h.acc, h.below⟩
              case measure => simp [intOf]; omega
        · obtain rfl : y = 8 := by omega
          have hout := h.arg
          rw [mixR_all, HM.out] at hout
          have hl : (wearR r need).length = 8 := gridR_length _
          go_wp2_with (first
            | (refine wpList_load_row rfl 25 _ rfl _ rfl 25 (R16 (wearR r need)) _ _ hout Try.underlying25 rfl (by rw [R16_size, hl]; exact szRub) ?_)
            | (refine wpList_store_row rfl 25 _ _ rfl _ (R16 (wearR r need)) rfl rfl 25 _ h.res (by rw [R16_size, hl]; exact szRub) (by rw [R16_size, hl]; rfl) (one_u16 _) ?_))
          exact bodyPost_ret (v := .agg (R16 (wearR r need))) (results_cell_row rfl _ _ _ 25 (R16 (wearR r need)) _ _ rfl (h.res.setRow_same ((wearR r need).map Go.Proofs.Ytkfjelbcaolepaa.u16)) Try.underlying25 rfl (by rw [R16_size, hl]; exact szRub)) rfl ⟨rfl, below_setRow h.below _ _ (by omega)⟩
end Go.Proofs.Ytkfjelbcaolepaa
