/- Contracts of the rubbings' smallest functions: what is dark, a row's count, the count. Contracts: a rubbing by value is copied; two are compared. Contracts: math/bits on sixteen bits; the rows' counts. Contracts: the counts of all rows, and of all dots, by the program and by the reference. Contracts: the matching of two rubbings; may be worn; mirrored. Contracts: mirrored rubbings. Contracts: a rubbing is moved. -/
import Derived.Test.YtkbmfemncadlnaaGreatDoorProg
import Derived.Test.YtkbmfemncadlnaaGreatDoorGA
import Derived.BigQuiet
import Derived.Deep.QuietTactic
import Derived.Outline
import Derived.Lib.BitFns
import Derived.Lib.Tables
import Derived.StillTailTactics
namespace Go.Proofs.YtkbmfemncadlnaaGreatDoor
open Go Go.RowKit
set_option linter.unusedVariables false
set_option linter.unusedSimpArgs false

/-- A dot is dark; those outside are light. -/
def dk (r : List Nat) (x y : Int) : Bool := decide (0 ≤ x ∧ x ≤ 15 ∧ 0 ≤ y ∧ y ≤ 7) && (rdN r y.toNat).testBit x.toNat

theorem in_any (n lo hi : Int) (w : World) : Calls Tryz.prog 45 #[.int .i64 n, .int .i64 lo, .int .i64 hi] w fun e w' => e = .returned (.bool (inB lo hi n)) ∧ w = w' := by
  by_cases h1 : n ≥ lo
  · by_cases h2 : n ≤ hi
    · go_enter Tryz.func45, Tryz.ntmps45
      go_wp2
      go_ret
      exact ⟨by congr 2; unfold inB; simp; omega, rfl⟩
    · go_enter Tryz.func45, Tryz.ntmps45
      go_wp2
      go_ret
      exact ⟨by congr 2; unfold inB; simp; omega, rfl⟩
  · go_enter Tryz.func45, Tryz.ntmps45
    go_wp2
    go_ret
    exact ⟨by congr 2; unfold inB; simp; omega, rfl⟩

theorem bit_of (n x : Nat) : (((n : Int) / 2 ^ x).tmod 2 == 1) = n.testBit x := by
  have e : ((n : Int) / 2 ^ x).tmod 2 = ((n / 2 ^ x % 2 : Nat) : Int) := by
    rw [Int.tmod_eq_emod_of_nonneg (Int.ediv_nonneg (by omega) (Int.le_of_lt (Int.pow_pos (by decide))))]
    simp
  rw [e, Nat.testBit_eq_decide_div_mod_eq]
  by_cases h : n / 2 ^ x % 2 = 1
  · simp [h]
  · have h' : ¬ (((n / 2 ^ x % 2 : Nat) : Int) = 1) := by omega
    simp only [h, decide_false]
    exact beq_eq_false_iff_ne.2 h'

theorem ret_bool {a b : Bool} (h : a = b) : Ending.returned (.bool a) = .returned (.bool b) := by rw [h]
theorem ret_int {k : IntKind} {a b : Int} (h : a = b) : Ending.returned (.int k a) = .returned (.int k b) := by rw [h]

set_option maxRecDepth 100000 in
theorem dark_any (a : Addr) (r : List Nat) (x y : Int) (w : World) (hr : r.length = 8) (hc : RowE u16 w a r) :
    Calls Tryz.prog 68 #[.pointer (some a), .int .i64 x, .int .i64 y] w fun e w' => e = .returned (.bool (dk r x y)) ∧ w = w' := by
  by_cases h1 : 0 ≤ x ∧ x ≤ 15
  · by_cases h2 : 0 ≤ y ∧ y ≤ 7
    · have hcell := hc.at16 y.toNat (by omega)
      have hb1 := inB_true h1
      have hb2 := inB_true h2
      clear hc
      obtain ⟨h11, h12⟩ := h1
      obtain ⟨h21, h22⟩ := h2
      go_enter Tryz.func68, Tryz.ntmps68
      go_wp2_with (go_at_call 45; refine (in_any _ _ _ _).mono ?_; rintro e w' ⟨rfl, rfl⟩)
      go_ret
      exact ⟨ret_bool ((bit_of _ _).trans (by simp [dk, h11, h12, h21, h22])), rfl⟩
    · have hb1 := inB_true h1
      have hb2 := inB_false h2
      obtain ⟨h11, h12⟩ := h1
      have hd : dk r x y = false := by simp [dk]; omega
      have HD := Lib.hid hd
      clear hd
      go_enter Tryz.func68, Tryz.ntmps68
      go_wp2_with (go_at_call 45; refine (in_any _ _ _ _).mono ?_; rintro e w' ⟨rfl, rfl⟩)
      go_ret
      exact ⟨ret_bool HD.out.symm, rfl⟩
  · have hb1 := inB_false h1
    have hd : dk r x y = false := by simp [dk]; omega
    have HD := Lib.hid hd
    clear hd
    go_enter Tryz.func68, Tryz.ntmps68
    go_wp2_with (go_at_call 45; refine (in_any _ _ _ _).mono ?_; rintro e w' ⟨rfl, rfl⟩)
    go_ret
    exact ⟨ret_bool HD.out.symm, rfl⟩

/-- A row's count. -/
def rowN (r : List Nat) (y : Int) : Nat := cnt (fun x => dk r x y) 16

set_option maxRecDepth 100000 in
theorem row_any (a : Addr) (r : List Nat) (y : Int) (w : World) (hr : r.length = 8) (hc : RowE u16 w a r) :
    Calls Tryz.prog 69 #[.pointer (some a), .int .i64 y] w fun e w' => e = .returned (.int .i64 (rowN r y)) ∧ w = w' := by
  go_enter Tryz.func69, Tryz.ntmps69
  go_wp2
  go_loop [5, 6] (fun n i => ∃ k : Nat, k ≤ 16 ∧ i = .int .i64 k ∧ n = .int .i64 (cnt (fun x => dk r x y) k)) (fun _ i => 16 - (intOf i).toNat)
  case atStart => exact ⟨0, by omega, rfl, rfl⟩
  case round =>
    obtain ⟨k, hk, rfl, rfl⟩ := hrel
    have hle := cnt_le (fun x => dk r x y) k
    by_cases hlt : k < 16
    · cases hd : dk r k y
      all_goals
        have HD := Lib.hid hd
        go_wp2_with (go_at_call 68; refine (dark_any a r _ _ _ hr hc).mono ?_; rintro e w' ⟨rfl, rfl⟩)
        go_round
        case rel => exact ⟨k + 1, by omega, by go_num, by first | rw [cnt_no (p := fun x : Nat => dk r x y) HD.out] | (rw [cnt_yes (p := fun x : Nat => dk r x y) HD.out]; go_num)⟩
        case measure => simp [intOf]; omega
    · obtain rfl : k = 16 := by omega
      go_wp2
      go_ret
      exact ⟨rfl, rfl⟩

def countN (r : List Nat) : Nat := sumN (fun y => rowN r y) 8

theorem rowN_le (r : List Nat) (y : Int) : rowN r y ≤ 16 := cnt_le _ _
set_option maxRecDepth 100000 in
theorem count_any (a : Addr) (r : List Nat) (w : World) (hr : r.length = 8) (hc : RowE u16 w a r) :
    Calls Tryz.prog 38 #[.pointer (some a)] w fun e w' => e = .returned (.int .i64 (countN r)) ∧ w = w' := by
  go_enter Tryz.func38, Tryz.ntmps38
  go_wp2
  go_loop [3, 4] (fun n i => ∃ k : Nat, k ≤ 8 ∧ i = .int .i64 k ∧ n = .int .i64 (sumN (fun y => rowN r y) k)) (fun _ i => 8 - (intOf i).toNat)
  case atStart => exact ⟨0, by omega, rfl, rfl⟩
  case round =>
    obtain ⟨k, hk, rfl, rfl⟩ := hrel
    have hle := sumN_le (fun y => rowN r y) 16 (fun i => rowN_le r i) k
    have hle2 := rowN_le r k
    by_cases hlt : k < 8
    · go_wp2_with (go_at_call 69; refine (row_any a r _ _ hr hc).mono ?_; rintro e w' ⟨rfl, rfl⟩)
      go_round
      case rel => exact ⟨k + 1, by omega, by go_num, by rw [sumN]; go_num⟩
      case measure => simp [intOf]; omega
    · obtain rfl : k = 8 := by omega
      go_wp2
      go_ret
      exact ⟨rfl, rfl⟩
end Go.Proofs.YtkbmfemncadlnaaGreatDoor
namespace Go.Proofs.YtkbmfemncadlnaaGreatDoor
open Go Go.RowKit
set_option linter.unusedVariables false
set_option linter.unusedSimpArgs false

/-- A rubbing's cells. -/
def R16 (r : List Nat) : Array Value := (r.map u16).toArray
theorem R16_size (r : List Nat) : (R16 r).size = r.length := by simp [R16]

theorem szRub : (Tryz.prog.info? 26).map (·.size) = some 8 := by kernel_rfl
theorem szArr8 : (Tryz.prog.info? 25).map (·.size) = some 8 := by kernel_rfl

theorem one_u16 (r : List Nat) : (R16 r).all (·.oneCell') = true := by
  rw [Array.all_eq_true_iff_forall_mem]
  intro v hv
  simp only [R16, List.mem_toArray, List.mem_map] at hv
  obtain ⟨n, _, rfl⟩ := hv
  rfl
def z16 : Value := .int .u16 0

structure ToRubRel (r : List Nat) (w wr : World) (k : Nat) : Prop where
  arg : Blk wr w.heap.size 25 (r.map u16)
  res : Blk wr (w.heap.size + 1) 26 (List.replicate 8 z16)
  out : Blk wr (w.heap.size + 1 + 1) 26 (filled (r.map u16) z16 k)
  below : Below w.heap.size w wr

theorem rub_at (r : List Nat) (hr : r.length = 8) (k : Nat) (hk : k < 8) (w : World) : (Instr.index 26 (.agg (R16 r)) (.int .i64 (k : Int))).run Tryz.prog w = .ok (.int .u16 ((rdN r k : Nat) : Int)) w :=
  run_index_arr (e := 24) (n := 8) Tryz.underlying26 (by kernel_rfl) (by kernel_rfl) (R16 r) .i64 k hk _ (by have := map_u16_at r k (by omega); simpa [R16] using this) w

/-! ### Two rubbings are compared -/
theorem ext8 {a b : List Nat} (ha : a.length = 8) (hb : b.length = 8) (h : ∀ j, j < 8 → rdN a j = rdN b j) : a = b := by
  apply List.ext_getElem (by omega)
  intro i h1 h2
  have := h i (by omega)
  simpa [rdN, List.getD, List.getElem?_eq_getElem h1, List.getElem?_eq_getElem h2] using this

structure EqRubRel (a b : List Nat) (w wr : World) (k : Nat) : Prop where
  one : Blk wr w.heap.size 26 (a.map u16)
  two : Blk wr (w.heap.size + 1) 26 (b.map u16)
  same : ∀ j, j < k → rdN a j = rdN b j
  below : Below w.heap.size w wr

end Go.Proofs.YtkbmfemncadlnaaGreatDoor
namespace Go.Proofs.YtkbmfemncadlnaaGreatDoor
open Go Go.RowKit
set_option linter.unusedVariables false
set_option linter.unusedSimpArgs false

theorem pop8_cnt : ∀ n : Fin 256, Lib.pop8 (n.val : Int) = (cnt n.val.testBit 8 : Int) := by decide +kernel
theorem rev8_bits : ∀ n : Fin 256, Lib.rev8 (n.val : Int) = (bitsN (fun x => n.val.testBit (7 - x)) 8 : Int) := by decide +kernel
theorem u16_and255 (n : Nat) (hn : n < 65536) : bits .and .u16 (n : Int) 255 = (n : Int) % 256 := by
  have := u16_and_nat n 255 hn (by omega)
  rw [show ((255 : Nat) : Int) = 255 from rfl] at this
  rw [this, show n &&& 255 = n % 256 from Nat.and_two_pow_sub_one_eq_mod n 8]; omega
theorem sumN_add (f : Nat → Nat) (a b : Nat) : sumN f (a + b) = sumN f a + sumN (fun x => f (a + x)) b := by
  induction b with
  | zero => simp [sumN]
  | succ b ih => rw [← Nat.add_assoc, sumN, ih, sumN, Nat.add_assoc]
theorem cnt_split (n : Nat) : cnt n.testBit 16 = cnt (n / 256).testBit 8 + cnt (n % 256).testBit 8 := by
  unfold cnt
  rw [show 16 = 8 + 8 from rfl, sumN_add, Nat.add_comm]
  congr 1
  · refine sumN_congr fun i hi => ?_
    rw [show 256 = 2 ^ 8 from rfl, Nat.testBit_div_two_pow, Nat.add_comm]
  · refine sumN_congr fun i hi => ?_
    rw [show 256 = 2 ^ 8 from rfl, Nat.testBit_mod_two_pow]
    simp [hi]

set_option maxRecDepth 100000 in
theorem ones16_any (n : Nat) (hn : n < 65536) (w : World) :
    Calls Tryz.prog 70 #[.int .u16 (n : Int)] w fun e w' => e = .returned (.int .i64 (cnt n.testBit 16)) ∧ ∃ m, w' = w.drewN m := by
  have h1 : 0 ≤ (n : Int) / 256 := by omega
  have h2 : (n : Int) / 256 ≤ 255 := by omega
  have h3 : 0 ≤ (n : Int) % 256 := by omega
  have h4 : (n : Int) % 256 ≤ 255 := by omega
  have hand := u16_and255 n hn
  have p1 := pop8_cnt ⟨n / 256, by omega⟩
  have p2 := pop8_cnt ⟨n % 256, by omega⟩
  simp only at p1 p2
  rw [show ((n / 256 : Nat) : Int) = (n : Int) / 256 from by omega] at p1
  rw [show ((n % 256 : Nat) : Int) = (n : Int) % 256 from by omega] at p2
  have c1 := cnt_le (n / 256).testBit 8
  have c2 := cnt_le (n % 256).testBit 8
  have HS := Lib.hid (cnt_split n)
  go_enter Tryz.func70, Tryz.ntmps70
  go_wp2
  go_quiet (fail)
  go_wp2
  go_ret
  exact ⟨ret_int (by rw [HS.out]; go_num), _, rfl⟩

theorem rev_join (n : Nat) (hn : n < 65536) : bitsN (fun x => (n / 256).testBit (7 - x)) 8 ||| bitsN (fun x => (n % 256).testBit (7 - x)) 8 * 256 = bitsN (fun x => n.testBit (15 - x)) 16 := by
  have c1 := bitsN_lt (fun x => (n / 256).testBit (7 - x)) 8
  have c2 := bitsN_lt (fun x => (n % 256).testBit (7 - x)) 8
  refine eq_of_bits (k := 16) (Nat.or_lt_two_pow (by omega) (by omega)) (bitsN_lt _ _) fun x hx => ?_
  rw [Nat.testBit_or, testBit_bitsN, show 256 = 2 ^ 8 from rfl, Nat.testBit_mul_two_pow, testBit_bitsN, testBit_bitsN, Nat.testBit_div_two_pow, Nat.testBit_mod_two_pow]
  by_cases h : x < 8
  · have h' : ¬ (8 ≤ x) := by omega
    simp only [h, h', hx, decide_true, decide_false, Bool.true_and, Bool.false_and, Bool.or_false]
    congr 1; omega
  · have h1 : 8 ≤ x := by omega
    have h2 : x - 8 < 8 := by omega
    have h3 : 7 - (x - 8) < 8 := by omega
    simp only [h, h1, h2, h3, hx, decide_true, decide_false, Bool.true_and, Bool.false_and, Bool.false_or]
    congr 1; omega

/-! ### A list's sum; the rows' counts; the count -/
def sumI (xs : List Int) (k : Nat) : Int := (xs.take k).foldl (· + ·) 0
theorem sumI_succ (xs : List Int) (k : Nat) (hk : k < xs.length) : sumI xs (k + 1) = sumI xs k + rdI xs k := by
  unfold sumI rdI
  rw [List.take_succ_eq_append_getElem hk, List.foldl_append]
  simp [List.getD, List.getElem?_eq_getElem hk]

set_option maxRecDepth 100000 in
theorem total_small (A : Option Addr) (c : Nat) (xs : List Int) (w : World) (h : SlE i64 w A xs) (hl : xs.length ≤ 1000) (hx : ∀ k, 0 ≤ rdI xs k ∧ rdI xs k ≤ 1000) :
    Calls Tryz.prog 40 #[.slice A xs.length c] w fun e w' => e = .returned (.int .i64 (sumI xs xs.length)) ∧ w = w' := by
  have hb : ∀ k, k ≤ xs.length → 0 ≤ sumI xs k ∧ sumI xs k ≤ 1000 * k := by
    intro k
    induction k with
    | zero => intro _; simp [sumI]
    | succ k ih => intro hk; have := ih (by omega); have := hx k; rw [sumI_succ xs k (by omega)]; omega
  generalize hN : xs.length = N at *
  have HN := Lib.hid hN
  clear hN
  go_enter Tryz.func40, Tryz.ntmps40
  go_wp2
  go_loop [3, 8] (fun n i => ∃ k : Nat, k ≤ N ∧ i = .int .i64 k ∧ n = .int .i64 (sumI xs k)) (fun _ i => N - (intOf i).toNat)
  case atStart => exact ⟨0, by omega, rfl, rfl⟩
  case round =>
    obtain ⟨k, hk, rfl, rfl⟩ := hrel
    have hbk := hb k hk
    have hxk := hx k
    clear hb hx
    by_cases hlt : k < N
    · obtain ⟨a, rfl, hr⟩ := h.some k (by rw [HN.out]; omega)
      have hcell := hr.atI64 k (by rw [HN.out]; omega)
      have HS := Lib.hid (sumI_succ xs k (by rw [HN.out]; omega))
      clear hr h
      go_wp2
      go_round
      case rel => exact ⟨k + 1, by omega, by go_num, by rw [HS.out]⟩
      case measure => simp [intOf]; omega
    · obtain rfl : k = N := by omega
      clear h
      go_wp2
      go_ret
      exact ⟨rfl, rfl⟩
end Go.Proofs.YtkbmfemncadlnaaGreatDoor
namespace Go.Proofs.YtkbmfemncadlnaaGreatDoor
open Go Go.RowKit
set_option linter.unusedVariables false
set_option linter.unusedSimpArgs false

theorem elI64 : El Tryz.prog 47 2 (.int .i64 0) 1 8 := ⟨Tryz.underlying47, by kernel_rfl, rfl, by decide⟩

/-- The numbers f 0 .. f (k - 1). -/
def listN (f : Nat → Int) (k : Nat) : List Int := (List.range k).map f
theorem listN_succ (f : Nat → Int) (k : Nat) : listN f (k + 1) = listN f k ++ [f k] := by simp [listN, List.range_succ]
theorem listN_length (f : Nat → Int) (k : Nat) : (listN f k).length = k := by simp [listN]
theorem listN_congr {f g : Nat → Int} {k : Nat} (h : ∀ i, i < k → f i = g i) : listN f k = listN g k := by
  unfold listN; exact List.map_congr_left fun i hi => h i (List.mem_range.1 hi)

structure DarkRel (r : List Nat) (w wr : World) (v : Value) (k : Nat) : Prop where
  arg : Blk wr w.heap.size 26 (r.map u16)
  own : wr.ownsRow (w.heap.size + 1) 2 1 v k ((listN (fun y => cnt (rdN r y).testBit 16) k).map i64)
  below : Below w.heap.size w wr

set_option maxRecDepth 100000 in
theorem darkRows_impl (r : List Nat) (w : World) (hr : r.length = 8) (hx : ∀ k, rdN r k < 65536) :
    Calls Tryz.prog 41 #[.agg (R16 r)] w fun e w' => ∃ v, e = .returned v ∧ w'.ownsRow (w.heap.size + 1) 2 1 v 8 ((listN (fun y => cnt (rdN r y).testBit 16) 8).map i64) ∧ Below w.heap.size w w' := by
  have hnew : ∀ o, Blk ((w.alloc (.cells (R16 r) 26)).alloc o) w.heap.size 26 (r.map u16) := fun o => (Blk.new w _ _).alloc o
  go_enter Tryz.func41, Tryz.ntmps41
  go_wp2_with (refine wpList_load_row rfl 26 _ rfl _ rfl 26 (R16 r) _ _ (hnew _) Tryz.underlying26 rfl (by rw [R16_size, hr]; exact szRub) ?_)
  go_loopw [3, 8] (fun v i wr => ∃ k : Nat, k ≤ 8 ∧ i = .int .i64 k ∧ DarkRel r w wr v k) (fun _ i _ => 8 - (intOf i).toNat)
  case atStart =>
    exact ⟨0, by omega, rfl, hnew _, own_empty _ _ (by rw [World.size_alloc]) _ _ (Nat.le_refl _) 1, ((Below.refl _ w).alloc (Nat.le_refl _) _).alloc (by rw [World.size_alloc]; omega) _⟩
  case round =>
    obtain ⟨k, hk, rfl, h⟩ := hrel
    by_cases hlt : k < 8
    · have hix := rub_at r hr k hlt
      have hown : ∀ m, (wr.drewN m).ownsRow (w.heap.size + 1) 2 1 u3 k ((listN (fun y => cnt (rdN r y).testBit 16) k).map i64) := fun m => h.own
      have hsz := h.arg.lt
      have hszm : ∀ m, w.heap.size + 1 ≤ (wr.drewN m).heap.size := fun m => by rw [World.heap_drewN]; omega
      go_wp2_with (first
        | (go_at_call 70; refine (ones16_any _ (hx k) _).mono ?_; rintro e w' ⟨rfl, m, rfl⟩)
        | (at_builtin; refine wpList_app1 rfl (.tmp 11) (.tmp 14) _ rfl elI64 (wr.drewN m) _ u3 k _ rfl (hown m) (.int .i64 (cnt (rdN r k).testBit 16)) _ rfl rfl rfl (by unfold maxLen; omega) (by omega) (hszm m) ?_; intro v' w' ho' hg'))
      go_roundw
      case rel =>
        refine ⟨k + 1, by omega, by go_num, (h.arg.drewN _).grown hg' (own_ne (hown m) (by omega)), ?_, below_own (below_drewN h.below _) (hown m) hg' (by omega) (by have := hszm m; omega)⟩
        rw [listN_succ, List.map_append]
        exact ho'
      case measure => simp [intOf]; omega
    · obtain rfl : k = 8 := by omega
      go_wp2
      go_ret
      exact ⟨_, rfl, h.own, h.below⟩

/-! ### The count by rows is the count by dots -/
theorem rowN_bits (r : List Nat) (y : Nat) (hy : y < 8) : rowN r y = cnt (rdN r y).testBit 16 := by
  unfold rowN
  refine cnt_congr fun x hx => ?_
  unfold dk
  have h : 0 ≤ (x : Int) ∧ (x : Int) ≤ 15 ∧ 0 ≤ (y : Int) ∧ (y : Int) ≤ 7 := by omega
  simp only [h, and_self, decide_true, Bool.true_and, Int.toNat_natCast]
theorem sumI_list (f : Nat → Nat) (n k : Nat) (hk : k ≤ n) : sumI (listN (fun i => (f i : Int)) n) k = (sumN f k : Int) := by
  induction k with
  | zero => rfl
  | succ k ih =>
    rw [sumI_succ _ k (by rw [listN_length]; omega), ih (by omega), sumN]
    have : rdI (listN (fun i => (f i : Int)) n) k = f k := by simp [rdI, listN, List.getD, List.getElem?_map, List.getElem?_range (show k < n by omega)]
    rw [this]; omega
theorem rdI_list (f : Nat → Int) (n k : Nat) (hk : k < n) : rdI (listN f n) k = f k := by
  simp [rdI, listN, List.getD, List.getElem?_map, List.getElem?_range hk]
theorem rdI_past (l : List Int) (k : Nat) (hk : l.length ≤ k) : rdI l k = 0 := by simp [rdI, List.getD, List.getElem?_eq_none hk]
theorem sumRows (r : List Nat) : sumI (listN (fun y => (cnt (rdN r y).testBit 16 : Int)) 8) (listN (fun y => (cnt (rdN r y).testBit 16 : Int)) 8).length = (countN r : Int) := by
  rw [listN_length, sumI_list _ 8 8 (Nat.le_refl _)]
  rw [show countN r = sumN (fun y => cnt (rdN r y).testBit 16) 8 from sumN_congr fun i hi => rowN_bits r i hi]

set_option maxRecDepth 100000 in
theorem count_impl (r : List Nat) (w : World) (hr : r.length = 8) (hx : ∀ k, rdN r k < 65536) :
    Calls Tryz.prog 13 #[.agg (R16 r)] w fun e w' => e = .returned (.int .i64 (countN r)) ∧ Below w.heap.size w w' := by
  have hnew := Blk.new w 26 (r.map u16)
  have HS := Lib.hid (sumRows r)
  have hsm : ∀ k, 0 ≤ rdI (listN (fun y => (cnt (rdN r y).testBit 16 : Int)) 8) k ∧ rdI (listN (fun y => (cnt (rdN r y).testBit 16 : Int)) 8) k ≤ 1000 := by
    intro k
    by_cases hk : k < 8
    · rw [rdI_list _ _ _ hk]; have := cnt_le (rdN r k).testBit 16; omega
    · rw [rdI_past _ _ (by rw [listN_length]; omega)]; omega
  go_enter Tryz.func13, Tryz.ntmps13
  go_wp2_with (first
    | (refine wpList_load_row rfl 26 _ rfl _ rfl 26 (R16 r) _ _ hnew Tryz.underlying26 rfl (by rw [R16_size, hr]; exact szRub) ?_)
    | (go_at_call 41; refine (darkRows_impl r _ hr hx).mono ?_; rintro e w1 ⟨v, rfl, ho, hb⟩; obtain ⟨A, c, rfl, _, _, hs⟩ := SlE_own ho)
    | (go_at_call 40; refine (total_small A c _ _ hs (by rw [listN_length]; omega) hsm).mono ?_; rintro e w2 ⟨rfl, rfl⟩))
  go_ret
  exact ⟨ret_int HS.out, ((Below.refl _ w).alloc (Nat.le_refl _) _).trans (hb.mono (by rw [World.size_alloc]; omega))⟩

set_option maxRecDepth 100000 in
theorem count_spec (r : List Nat) (w : World) (hr : r.length = 8) :
    Calls Tryz.prog 12 #[.agg (R16 r)] w fun e w' => e = .returned (.int .i64 (countN r)) ∧ Below w.heap.size w w' := by
  have hnew := (Blk.new w 26 (r.map u16)).row
  go_enter Tryz.func12, Tryz.ntmps12
  go_wp2_with (go_at_call 38; refine (count_any _ r _ hr hnew).mono ?_; rintro e w1 ⟨rfl, rfl⟩)
  go_ret
  exact ⟨rfl, (Below.refl _ w).alloc (Nat.le_refl _) _⟩
end Go.Proofs.YtkbmfemncadlnaaGreatDoor
namespace Go.Proofs.YtkbmfemncadlnaaGreatDoor
open Go Go.RowKit
set_option linter.unusedVariables false
set_option linter.unusedSimpArgs false

/-- The dots that are dark in both. -/
def andR (a b : List Nat) : List Nat := (List.range 8).map fun y => rdN a y &&& rdN b y
theorem andR_length (a b : List Nat) : (andR a b).length = 8 := by simp [andR]
theorem rdN_andR (a b : List Nat) (y : Nat) (hy : y < 8) : rdN (andR a b) y = rdN a y &&& rdN b y := by
  simp [rdN, andR, List.getD, List.getElem?_map, List.getElem?_range hy]
theorem rdN_past (l : List Nat) (k : Nat) (hk : l.length ≤ k) : rdN l k = 0 := by simp [rdN, List.getD, List.getElem?_eq_none hk]
theorem andR_lt (a b : List Nat) (ha : ∀ k, rdN a k < 65536) : ∀ k, rdN (andR a b) k < 65536 := by
  intro k
  by_cases hk : k < 8
  · rw [rdN_andR a b k hk]
    exact Nat.lt_of_le_of_lt Nat.and_le_left (ha k)
  · rw [rdN_past _ _ (by rw [andR_length]; omega)]; omega
theorem set_andR (a b : List Nat) (k : Nat) (ha : a.length = 8) (hk : k < 8) (l : List Nat) (hl : l.length = 8) (h1 : ∀ y, y < k → rdN l y = rdN a y &&& rdN b y) (h2 : ∀ y, k ≤ y → rdN l y = rdN a y) :
    (∀ y, y < k + 1 → rdN (l.set k (rdN a k &&& rdN b k)) y = rdN a y &&& rdN b y) ∧ ∀ y, k + 1 ≤ y → rdN (l.set k (rdN a k &&& rdN b k)) y = rdN a y := by
  have e : ∀ y, rdN (l.set k (rdN a k &&& rdN b k)) y = if y = k then rdN a k &&& rdN b k else rdN l y := by
    intro y
    unfold rdN
    rw [List.getD, List.getElem?_set]
    by_cases h : k = y
    · subst h; simp [show k < l.length by omega]
    · rw [if_neg h, if_neg (fun e => h e.symm)]; rfl
  refine ⟨fun y hy => ?_, fun y hy => ?_⟩
  · rw [e]
    split
    · subst_vars; rfl
    · exact h1 y (by omega)
  · rw [e, if_neg (by omega)]; exact h2 y (by omega)

structure MatchRel (a b : List Nat) (w wr : World) (k : Nat) : Prop where
  one : ∃ l : List Nat, Blk wr w.heap.size 26 (l.map u16) ∧ l.length = 8 ∧ (∀ y, y < k → rdN l y = rdN a y &&& rdN b y) ∧ ∀ y, k ≤ y → rdN l y = rdN a y
  two : Blk wr (w.heap.size + 1) 26 (b.map u16)
  below : Below w.heap.size w wr

theorem and16 (x y : Nat) (hx : x < 65536) (hy : y < 65536) : bits .and .u16 (x : Int) (y : Int) = ((x &&& y : Nat) : Int) := u16_and_nat x y hx hy

set_option maxRecDepth 100000 in
theorem match_impl (a b : List Nat) (w : World) (ha : a.length = 8) (hb : b.length = 8) (xa : ∀ k, rdN a k < 65536) (xb : ∀ k, rdN b k < 65536) :
    Calls Tryz.prog 39 #[.agg (R16 a), .agg (R16 b)] w fun e w' => e = .returned (.int .i64 (countN (andR a b))) ∧ Below w.heap.size w w' := by
  go_enter Tryz.func39, Tryz.ntmps39
  go_wp2
  go_loopw [6] (fun i wr => ∃ k : Nat, k ≤ 8 ∧ i = .int .i64 k ∧ MatchRel a b w wr k) (fun i _ => 8 - (intOf i).toNat)
  case atStart =>
    refine ⟨0, by omega, rfl, ⟨a, ?_, ha, fun y hy => by omega, fun y _ => rfl⟩, ?_, below_two _ _ _⟩
    · exact (Blk.new w _ _).alloc _
    · exact Blk.at_new _ _ _ (by simp) _ _ rfl
  case round =>
    obtain ⟨k, hk, rfl, h⟩ := hrel
    obtain ⟨l, hB1, hl, h1, h2⟩ := h.one
    by_cases hlt : k < 8
    · have hc1 := hB1.cell k _ (map_u16_at l k (by omega))
      have hc2 := h.two.cell k _ (map_u16_at b k (by omega))
      have hf1 := hB1.free k
      have hand := and16 (rdN l k) (rdN b k) (by rw [h2 k (Nat.le_refl _)]; exact xa k) (xb k)
      go_wp2
      go_still_tail 8, (by kernel_rfl)
      go_wp2
      go_roundw
      case rel =>
        obtain ⟨g1, g2⟩ := set_andR a b k ha hlt l hl h1 h2
        refine ⟨k + 1, by omega, by go_num, ⟨l.set k (rdN a k &&& rdN b k), ?_, by simp [hl], g1, g2⟩, (h.two.other _ _ (by simp)).drew, (h.below.setCell (Nat.le_refl _) _).drew⟩
        rw [List.map_set, ← h2 k (Nat.le_refl _)]
        try rw [hand]
        exact (hB1.set k _).drew
      case measure => simp [intOf]; omega
    · obtain rfl : k = 8 := by omega
      have hl' : l = andR a b := ext8 hl (andR_length a b) fun y hy => by rw [rdN_andR a b y hy]; exact h1 y hy
      subst hl'
      have hB := h.below
      go_wp2_with (first
        | (refine wpList_load_row rfl 26 _ rfl _ rfl 26 (R16 (andR a b)) _ _ hB1 Tryz.underlying26 rfl (by rw [R16_size, hl]; exact szRub) ?_)
        | (go_at_call 13; refine (count_impl (andR a b) _ hl (andR_lt a b xa)).mono ?_; rintro e w1 ⟨rfl, hb1⟩; have hB := below_step hB hb1; clear hb1))
      go_ret
      exact ⟨rfl, hB⟩

/-! ### The reference's -/
structure Match2Rel (a b : List Nat) (w wr : World) (k : Nat) : Prop where
  out : ∃ l : List Nat, Blk wr w.heap.size 26 (l.map u16) ∧ l.length = 8 ∧ ∀ y, y < k → rdN l y = rdN a y &&& rdN b y
  below : Below w.heap.size w wr

theorem set_out {l : List Nat} {k : Nat} {f : Nat → Nat} (hl : l.length = 8) (hk : k < 8) (h1 : ∀ y, y < k → rdN l y = f y) : ∀ y, y < k + 1 → rdN (l.set k (f k)) y = f y := by
  intro y hy
  unfold rdN
  rw [List.getD, List.getElem?_set]
  by_cases h : k = y
  · subst h; simp [show k < l.length by omega]
  · rw [if_neg h]; exact h1 y (by omega)

/-! ### May be worn -/
/-- What is dark now is dark in the old one. -/
def wornB (a b : List Nat) : Bool := (List.range 8).all fun y => (List.range 16).all fun x => !(rdN b y).testBit x || (rdN a y).testBit x

theorem all_succ (P : Nat → Prop) (k : Nat) : (∀ x, x < k + 1 → P x) ↔ (∀ x, x < k → P x) ∧ P k :=
  ⟨fun h => ⟨fun x hx => h x (by omega), h k (by omega)⟩, fun ⟨h1, h2⟩ x hx => by
    rcases Nat.lt_succ_iff_lt_or_eq.1 hx with h | rfl
    · exact h1 x h
    · exact h2⟩
theorem cnt_mono (p q : Nat → Bool) (h : ∀ x, p x = true → q x = true) (k : Nat) : cnt p k ≤ cnt q k ∧ (cnt p k = cnt q k ↔ ∀ x, x < k → q x = true → p x = true) := by
  induction k with
  | zero => exact ⟨Nat.le_refl _, fun _ x hx => by omega, fun _ => rfl⟩
  | succ k ih =>
    have hc : ∀ r : Nat → Bool, cnt r (k + 1) = cnt r k + (if r k then 1 else 0) := fun r => rfl
    obtain ⟨ih1, ih2⟩ := ih
    rw [hc p, hc q, all_succ, ← ih2]
    have hk := h k
    cases hp : p k <;> cases hq : q k <;> simp [hp, hq] at hk ⊢ <;> omega
theorem sumN_mono (f g : Nat → Nat) (h : ∀ y, f y ≤ g y) (k : Nat) : sumN f k ≤ sumN g k ∧ (sumN f k = sumN g k ↔ ∀ y, y < k → f y = g y) := by
  induction k with
  | zero => exact ⟨Nat.le_refl _, fun _ x hx => by omega, fun _ => rfl⟩
  | succ k ih =>
    have := h k
    rw [sumN, sumN]
    refine ⟨by omega, fun e y hy => ?_, fun e => by rw [ih.2.2 fun y hy => e y (by omega), e k (by omega)]⟩
    rcases Nat.lt_succ_iff_lt_or_eq.1 hy with h1 | rfl
    · exact ih.2.1 (by omega) y h1
    · omega
theorem countN_eq (r : List Nat) : countN r = sumN (fun y => cnt (rdN r y).testBit 16) 8 := sumN_congr fun i hi => rowN_bits r i hi
theorem worn_iff (a b : List Nat) : (decide (countN (andR a b) = countN b)) = wornB a b := by
  rw [countN_eq, countN_eq]
  have e : sumN (fun y => cnt (rdN (andR a b) y).testBit 16) 8 = sumN (fun y => cnt (rdN a y &&& rdN b y).testBit 16) 8 := sumN_congr fun i hi => by rw [rdN_andR a b i hi]
  rw [e]
  have hm : ∀ y, cnt (rdN a y &&& rdN b y).testBit 16 ≤ cnt (rdN b y).testBit 16 ∧ (cnt (rdN a y &&& rdN b y).testBit 16 = cnt (rdN b y).testBit 16 ↔ ∀ x, x < 16 → (rdN b y).testBit x = true → (rdN a y &&& rdN b y).testBit x = true) :=
    fun y => cnt_mono _ _ (fun x hx => by rw [Nat.testBit_and, Bool.and_eq_true] at hx; exact hx.2) 16
  have h2 := (sumN_mono (fun y => cnt (rdN a y &&& rdN b y).testBit 16) (fun y => cnt (rdN b y).testBit 16) (fun y => (hm y).1) 8).2
  rw [Bool.eq_iff_iff, decide_eq_true_eq, h2]
  unfold wornB
  simp only [List.all_eq_true, List.mem_range, Bool.or_eq_true, Bool.not_eq_true']
  constructor
  · intro h y hy x hx
    have h3 := (hm y).2.1 (h y hy) x hx
    cases hb : (rdN b y).testBit x
    · exact .inl rfl
    · have := h3 hb
      rw [Nat.testBit_and, Bool.and_eq_true] at this
      exact .inr this.1
  · intro h y hy
    refine (hm y).2.2 fun x hx hb => ?_
    rw [Nat.testBit_and, hb, Bool.and_true]
    rcases h y hy x hx with h4 | h4
    · rw [hb] at h4; cases h4
    · exact h4

theorem beq_dec (a b : Nat) : ((a : Int) == (b : Int)) = decide (a = b) := by
  rw [Bool.eq_iff_iff, beq_iff_eq, decide_eq_true_eq]; omega

set_option maxHeartbeats 1000000 in
set_option maxRecDepth 100000 in
theorem worn_impl (a b : List Nat) (w : World) (ha : a.length = 8) (hb : b.length = 8) (xa : ∀ k, rdN a k < 65536) (xb : ∀ k, rdN b k < 65536) :
    Calls Tryz.prog 11 #[.agg (R16 a), .agg (R16 b)] w fun e w' => e = .returned (.bool (wornB a b)) ∧ Below w.heap.size w w' := by
  have HW := Lib.hid (worn_iff a b)
  have h1 : Blk ((w.alloc (.cells (R16 a) 26)).alloc (.cells (R16 b) 26)) w.heap.size 26 (a.map u16) := (Blk.new w _ _).alloc _
  have h2 : Blk ((w.alloc (.cells (R16 a) 26)).alloc (.cells (R16 b) 26)) (w.heap.size + 1) 26 (b.map u16) := Blk.at_new _ _ _ (by simp) _ _ rfl
  have hB := below_two w (.cells (R16 a) 26) (.cells (R16 b) 26)
  go_enter Tryz.func11, Tryz.ntmps11
  go_wp2
  generalize (w.alloc (.cells (R16 a) 26)).alloc (.cells (R16 b) 26) = W at *
  refine region_below W.heap.size (by kernel_rfl) (by kernel_rfl) ?_
  refine below_run (by kernel_rfl) (.agg (R16 a)) (fun w' hw' => exec_load_row 26 (.tmp 2) rfl w.heap.size (by kernel_rfl) 26 (R16 a) _ _ (h1.next hw') Tryz.underlying26 rfl (by rw [R16_size, ha]; exact szRub)) ?_
  refine below_run (by kernel_rfl) (.agg (R16 b)) (fun w' hw' => exec_load_row 26 (.tmp 3) rfl (w.heap.size + 1) (by kernel_rfl) 26 (R16 b) _ _ (h2.next hw') Tryz.underlying26 rfl (by rw [R16_size, hb]; exact szRub)) ?_
  refine below_call (by kernel_rfl) 39 #[.agg (R16 a), .agg (R16 b)] (.int .i64 (countN (andR a b))) (fun w' => by kernel_rfl) (fun w' hw' => (match_impl a b w' ha hb xa xb).mono fun e w1 ⟨he, hb1⟩ => ⟨he, below_step hw' hb1⟩) ?_
  refine below_run (by kernel_rfl) (.agg (R16 b)) (fun w' hw' => exec_load_row 26 (.tmp 3) rfl (w.heap.size + 1) (by kernel_rfl) 26 (R16 b) _ _ (h2.next hw') Tryz.underlying26 rfl (by rw [R16_size, hb]; exact szRub)) ?_
  refine below_call (by kernel_rfl) 13 #[.agg (R16 b)] (.int .i64 (countN b)) (fun w' => by kernel_rfl) (fun w' hw' => (count_impl b w' hb xb).mono fun e w1 ⟨he, hb1⟩ => ⟨he, below_step hw' hb1⟩) ?_
  refine below_run (by kernel_rfl) (.bool ((countN (andR a b) : Int) == (countN b : Int))) (fun w' hw' => by kernel_rfl) ?_
  refine below_run (by kernel_rfl) (.bool ((countN (andR a b) : Int) == (countN b : Int))) (fun w' hw' => by kernel_rfl) ?_
  refine wpQuiet_nil ?_
  intro W' hW'
  simp only [Act.put, List.setIfInBounds_toArray, List.set_cons_succ, List.set_cons_zero]
  go_wp2
  go_ret
  exact ⟨ret_bool ((beq_dec _ _).trans HW.out), below_step hB hW'⟩

theorem andNot16 (x y : Nat) (hx : x < 65536) (hy : y < 65536) : bits .andNot .u16 (x : Int) (y : Int) = ((x &&& (65535 - y) : Nat) : Int) := by
  have := u16_andNot (x : Int) (y : Int) (by omega) (by omega) (by omega) (by omega)
  rw [this]
  simp
theorem testBit_inv (y x : Nat) (hy : y < 65536) (hx : x < 16) : (65535 - y).testBit x = !y.testBit x := by
  have h : 65535 - y = 2 ^ 16 - (y + 1) := by omega
  rw [h, Nat.testBit_two_pow_sub_succ (by omega)]
  simp [hx]
theorem andNot_zero (x y : Nat) (hx : x < 65536) (hy : y < 65536) : (x &&& (65535 - y) = 0) ↔ ∀ i, i < 16 → x.testBit i = true → y.testBit i = true := by
  constructor
  · intro h i hi hxi
    have h1 : (x &&& (65535 - y)).testBit i = false := by rw [h]; simp
    rw [Nat.testBit_and, hxi, testBit_inv y i hy hi, Bool.true_and] at h1
    simpa using h1
  · intro h
    refine eq_of_bits (k := 16) (Nat.and_lt_two_pow _ (by omega)) (by omega) fun i hi => ?_
    rw [Nat.testBit_and, testBit_inv y i hy hi]
    cases hxi : x.testBit i
    · simp
    · rw [h i hi hxi]; simp

structure WornRel (a b : List Nat) (w wr : World) (k : Nat) : Prop where
  one : Blk wr w.heap.size 26 (a.map u16)
  two : Blk wr (w.heap.size + 1) 26 (b.map u16)
  same : ∀ j, j < k → ∀ i, i < 16 → (rdN b j).testBit i = true → (rdN a j).testBit i = true
  below : Below w.heap.size w wr

theorem wornB_true {a b : List Nat} (h : ∀ j, j < 8 → ∀ i, i < 16 → (rdN b j).testBit i = true → (rdN a j).testBit i = true) : wornB a b = true := by
  unfold wornB
  simp only [List.all_eq_true, List.mem_range, Bool.or_eq_true, Bool.not_eq_true']
  intro y hy x hx
  cases hb : (rdN b y).testBit x
  · exact .inl rfl
  · exact .inr (h y hy x hx hb)
theorem wornB_false {a b : List Nat} (j : Nat) (hj : j < 8) (h : ¬ ∀ i, i < 16 → (rdN b j).testBit i = true → (rdN a j).testBit i = true) : wornB a b = false := by
  rw [Bool.eq_false_iff]
  intro h1
  unfold wornB at h1
  simp only [List.all_eq_true, List.mem_range, Bool.or_eq_true, Bool.not_eq_true'] at h1
  refine h fun i hi hb => ?_
  rcases h1 j hj i hi with h2 | h2
  · rw [hb] at h2; cases h2
  · exact h2

end Go.Proofs.YtkbmfemncadlnaaGreatDoor
namespace Go.Proofs.YtkbmfemncadlnaaGreatDoor
open Go Go.RowKit
set_option linter.unusedVariables false
set_option linter.unusedSimpArgs false

/-- The rubbing whose dots are those with p. -/
def gridR (p : Nat → Nat → Bool) : List Nat := (List.range 8).map fun y => bitsN (p y) 16
theorem gridR_length (p : Nat → Nat → Bool) : (gridR p).length = 8 := by simp [gridR]
theorem rdN_gridR (p : Nat → Nat → Bool) (y : Nat) (hy : y < 8) : rdN (gridR p) y = bitsN (p y) 16 := by
  simp [rdN, gridR, List.getD, List.getElem?_map, List.getElem?_range hy]
theorem gridR_lt (p : Nat → Nat → Bool) : ∀ k, rdN (gridR p) k < 65536 := by
  intro k
  by_cases hk : k < 8
  · rw [rdN_gridR p k hk]; exact bitsN_lt (p k) 16
  · rw [rdN_past _ _ (by rw [gridR_length]; omega)]; omega
theorem gridR_congr {p q : Nat → Nat → Bool} (h : ∀ y x, y < 8 → x < 16 → p y x = q y x) : gridR p = gridR q := by
  unfold gridR
  refine List.map_congr_left fun y hy => ?_
  refine eq_of_bits (bitsN_lt _ _) (bitsN_lt _ _) fun x hx => ?_
  rw [testBit_bitsN, testBit_bitsN, h y x (List.mem_range.1 hy) hx]
/-- Any rubbing is the grid of its dots. -/
theorem grid_of (r : List Nat) (hr : r.length = 8) (hx : ∀ k, rdN r k < 65536) : gridR (fun y => (rdN r y).testBit) = r := by
  refine ext8 (gridR_length _) hr fun y hy => ?_
  rw [rdN_gridR _ y hy]
  refine eq_of_bits (k := 16) (bitsN_lt _ _) (hx y) fun x hxx => ?_
  rw [testBit_bitsN]; simp [hxx]
/-- A mirrored rubbing. -/
def mirR (r : List Nat) : List Nat := gridR fun y x => (rdN r y).testBit (15 - x)

/-- A grid that is filled row by row, dot by dot: k dots of row y. -/
def partR (p : Nat → Nat → Bool) (y k : Nat) : List Nat := (List.range 8).map fun j => if j < y then bitsN (p j) 16 else if j = y then bitsN (p j) k else 0
theorem partR_length (p : Nat → Nat → Bool) (y k : Nat) : (partR p y k).length = 8 := by simp [partR]
theorem rdN_partR (p : Nat → Nat → Bool) (y k j : Nat) (hj : j < 8) : rdN (partR p y k) j = if j < y then bitsN (p j) 16 else if j = y then bitsN (p j) k else 0 := by
  simp [rdN, partR, List.getD, List.getElem?_map, List.getElem?_range hj]
theorem partR_start (p : Nat → Nat → Bool) : partR p 0 0 = List.replicate 8 0 := by
  refine ext8 (partR_length _ _ _) (by simp) fun y hy => ?_
  rw [rdN_partR p 0 0 y hy, if_neg (by omega)]
  have : rdN (List.replicate 8 0) y = 0 := by simp only [rdN, List.getD, List.getElem?_replicate]; split <;> rfl
  rw [this]
  split <;> simp [bitsN]
theorem rdN_set (l : List Nat) (k v y : Nat) (hk : k < l.length) : rdN (l.set k v) y = if y = k then v else rdN l y := by
  unfold rdN
  rw [List.getD, List.getElem?_set]
  by_cases h : k = y
  · subst h; simp [hk]
  · rw [if_neg h, if_neg (fun e => h e.symm)]; rfl
theorem partR_row (p : Nat → Nat → Bool) (y : Nat) : partR p y 16 = partR p (y + 1) 0 := by
  unfold partR
  refine List.map_congr_left fun j _ => ?_
  by_cases h1 : j < y
  · rw [if_pos h1, if_pos (by omega)]
  · by_cases h2 : j = y
    · rw [if_neg h1, if_pos h2, if_pos (by omega)]
    · rw [if_neg h1, if_neg h2, if_neg (by omega)]
      split <;> simp [bitsN]
theorem partR_all (p : Nat → Nat → Bool) : partR p 8 0 = gridR p := by
  unfold partR gridR
  refine List.map_congr_left fun j hj => ?_
  rw [if_pos (List.mem_range.1 hj)]
theorem partR_no {p : Nat → Nat → Bool} {y k : Nat} (h : p y k = false) : partR p y (k + 1) = partR p y k := by
  unfold partR
  refine List.map_congr_left fun j _ => ?_
  split
  · rfl
  · split
    · subst_vars; rw [bitsN_no h]
    · rfl
theorem partR_yes {p : Nat → Nat → Bool} {y k : Nat} (hy : y < 8) (h : p y k = true) : (partR p y k).set y (rdN (partR p y k) y ||| 2 ^ k) = partR p y (k + 1) := by
  refine ext8 (by simp [partR]) (partR_length _ _ _) fun i hi => ?_
  rw [rdN_set _ _ _ _ (by rw [partR_length]; exact hy), rdN_partR p y k y hy, rdN_partR p y (k + 1) i hi, rdN_partR p y k i hi, if_neg (by omega : ¬ y < y), if_pos rfl]
  by_cases e : i = y
  · subst e; rw [if_pos rfl, if_neg (by omega), if_pos rfl, bitsN_yes h]
  · rw [if_neg e, if_neg e, if_neg e]

theorem or16 (x y : Nat) (hx : x < 65536) (hy : y < 65536) : bits .or .u16 (x : Int) (y : Int) = ((x ||| y : Nat) : Int) := u16_or_nat x y hx hy
theorem partR_lt (p : Nat → Nat → Bool) (y k : Nat) (hk : k ≤ 16) : ∀ j, rdN (partR p y k) j < 65536 := by
  intro j
  by_cases hj : j < 8
  · rw [rdN_partR p y k j hj]
    split
    · exact bitsN_lt _ 16
    · split
      · exact Nat.lt_of_lt_of_le (bitsN_lt _ k) (Nat.pow_le_pow_right (by decide) hk)
      · omega
  · rw [rdN_past _ _ (by rw [partR_length]; omega)]; omega
theorem or16p (x k : Nat) (hx : x < 65536) (hk : k < 16) : bits .or .u16 (x : Int) ((2 : Int) ^ k) = ((x ||| 2 ^ k : Nat) : Int) := by
  have := or16 x (2 ^ k) hx (Nat.pow_lt_pow_right (by decide) hk)
  rw [← this]; simp
theorem wrap16p (k : Nat) (hk : k < 16) : IntKind.u16.wrap ((2 : Int) ^ k) = (2 : Int) ^ k := by
  have h : 2 ^ k < 2 ^ 16 := Nat.pow_lt_pow_right (by decide) hk
  have e : ((2 : Int) ^ k) = ((2 ^ k : Nat) : Int) := by simp
  rw [e]
  generalize 2 ^ k = m at *
  exact IntWalk.u16_in _ (by omega)
theorem pow_lt16 {k : Nat} (hk : k < 16) : 2 ^ k < 65536 := Nat.pow_lt_pow_right (by decide) hk

structure MirRel (p : Nat → Nat → Bool) (r : List Nat) (w wr : World) (y k : Nat) : Prop where
  arg : Blk wr w.heap.size 26 (r.map u16)
  res : Blk wr (w.heap.size + 1) 26 (List.replicate 8 z16)
  out : Blk wr (w.heap.size + 1 + 1) 26 ((partR p y k).map u16)
  below : Below w.heap.size w wr

theorem dk_in (r : List Nat) (x y : Nat) (hx : x < 16) (hy : y < 8) : dk r x y = (rdN r y).testBit x := by
  unfold dk
  have h : 0 ≤ (x : Int) ∧ (x : Int) ≤ 15 ∧ 0 ≤ (y : Int) ∧ (y : Int) ≤ 7 := by omega
  simp only [h, and_self, decide_true, Bool.true_and, Int.toNat_natCast]

/-! ### The program's: row by row -/
structure Mir2Rel (r : List Nat) (w wr : World) (k : Nat) : Prop where
  arg : ∃ l : List Nat, Blk wr w.heap.size 26 (l.map u16) ∧ l.length = 8 ∧ (∀ y, y < k → rdN l y = bitsN (fun x => (rdN r y).testBit (15 - x)) 16) ∧ ∀ y, k ≤ y → rdN l y = rdN r y
  res : Blk wr (w.heap.size + 1) 26 (List.replicate 8 z16)
  below : Below w.heap.size w wr

end Go.Proofs.YtkbmfemncadlnaaGreatDoor
namespace Go.Proofs.YtkbmfemncadlnaaGreatDoor
open Go Go.RowKit
set_option linter.unusedVariables false
set_option linter.unusedSimpArgs false

theorem within_any (n lo hi : Int) (w : World) : Calls Tryz.prog 34 #[.int .i64 n, .int .i64 lo, .int .i64 hi] w fun e w' => e = .returned (.bool (inB lo hi n)) ∧ w = w' := by
  by_cases h1 : lo ≤ n
  · by_cases h2 : n ≤ hi
    · go_enter Tryz.func34, Tryz.ntmps34
      go_wp2
      go_ret
      exact ⟨by congr 2; unfold inB; simp; omega, rfl⟩
    · go_enter Tryz.func34, Tryz.ntmps34
      go_wp2
      go_ret
      exact ⟨by congr 2; unfold inB; simp; omega, rfl⟩
  · go_enter Tryz.func34, Tryz.ntmps34
    go_wp2
    go_ret
    exact ⟨by congr 2; unfold inB; simp; omega, rfl⟩

/-- A move that is not too far. -/
def mayMove (dx dy : Int) : Bool := inB (-5) 5 dx && inB (-5) 5 dy
theorem mayMove_iff {dx dy : Int} (h : mayMove dx dy = true) : (-5 ≤ dx ∧ dx ≤ 5) ∧ -5 ≤ dy ∧ dy ≤ 5 := by
  unfold mayMove at h; rw [Bool.and_eq_true, inB_iff, inB_iff] at h; exact h
/-- A moved rubbing. -/
def movR (r : List Nat) (dx dy : Int) : List Nat := gridR fun y x => dk r ((x : Int) - dx) ((y : Int) - dy)

structure GridRel (p : Nat → Nat → Bool) (w wr : World) (y k : Nat) : Prop where
  res : Blk wr w.heap.size 26 (List.replicate 8 z16)
  out : Blk wr (w.heap.size + 1) 26 ((partR p y k).map u16)
  below : Below w.heap.size w wr

theorem dk_row (r : List Nat) (x : Int) (y : Nat) (hy : y < 8) : dk r x y = (decide (0 ≤ x ∧ x ≤ 15) && (rdN r y).testBit x.toNat) := by
  unfold dk
  have h : 0 ≤ (y : Int) ∧ (y : Int) ≤ 7 := by omega
  simp only [h, and_true, Int.toNat_natCast]
/-- A row that is shifted to the left, and to the right. -/
theorem row_shl (r : List Nat) (k : Nat) (dx : Int) (hk : k < 8) (h0 : 0 ≤ dx) (h5 : dx ≤ 5) (hx : rdN r k < 65536) :
    IntKind.u16.wrap ((rdN r k : Int) * 2 ^ dx.toNat) = ((bitsN (fun x => dk r ((x : Int) - dx) k) 16 : Nat) : Int) := by
  obtain ⟨d, rfl⟩ := Int.eq_ofNat_of_zero_le h0
  rw [Int.toNat_natCast, IntKind.wrap_u16]
  have e : ((rdN r k : Int) * 2 ^ d) % 65536 = ((rdN r k * 2 ^ d % 2 ^ 16 : Nat) : Int) := by simp
  rw [e]
  congr 1
  refine eq_of_bits (k := 16) (Nat.mod_lt _ (by decide)) (bitsN_lt _ _) fun x hxx => ?_
  rw [Nat.testBit_mod_two_pow, Nat.testBit_mul_two_pow, testBit_bitsN, dk_row r _ k hk]
  simp only [hxx, decide_true, Bool.true_and]
  by_cases h : d ≤ x
  · have e1 : ((x : Int) - (d : Int)).toNat = x - d := by omega
    have e2 : 0 ≤ (x : Int) - (d : Int) ∧ (x : Int) - (d : Int) ≤ 15 := by omega
    simp [h, e1, e2]
  · have e2 : ¬ (0 ≤ (x : Int) - (d : Int) ∧ (x : Int) - (d : Int) ≤ 15) := by omega
    simp only [e2, decide_false, Bool.false_and]
    simp [h]
theorem row_shr (r : List Nat) (k : Nat) (dx : Int) (hk : k < 8) (h0 : dx < 0) (h5 : -5 ≤ dx) (hx : rdN r k < 65536) :
    (rdN r k : Int) / 2 ^ (-dx).toNat = ((bitsN (fun x => dk r ((x : Int) - dx) k) 16 : Nat) : Int) := by
  obtain ⟨d, hd⟩ := Int.eq_ofNat_of_zero_le (show 0 ≤ -dx by omega)
  obtain rfl : dx = -(d : Int) := by omega
  rw [show (-(-(d : Int))).toNat = d by omega]
  have e : (rdN r k : Int) / 2 ^ d = ((rdN r k / 2 ^ d : Nat) : Int) := by simp
  rw [e]
  congr 1
  refine eq_of_bits (k := 16) (Nat.lt_of_le_of_lt (Nat.div_le_self _ _) hx) (bitsN_lt _ _) fun x hxx => ?_
  rw [Nat.testBit_div_two_pow, testBit_bitsN, dk_row r _ k hk]
  simp only [hxx, decide_true, Bool.true_and]
  have e1 : ((x : Int) - -(d : Int)).toNat = d + x := by omega
  rw [e1]
  by_cases h : d + x ≤ 15
  · have e2 : 0 ≤ (x : Int) - -(d : Int) ∧ (x : Int) - -(d : Int) ≤ 15 := by omega
    rw [decide_eq_true e2, Bool.true_and, Nat.add_comm]
  · have e2 : ¬ (0 ≤ (x : Int) - -(d : Int) ∧ (x : Int) - -(d : Int) ≤ 15) := by omega
    simp only [e2, decide_false, Bool.false_and]
    refine Nat.testBit_lt_two_pow (Nat.lt_of_lt_of_le hx ?_)
    rw [show 65536 = 2 ^ 16 from rfl]
    exact Nat.pow_le_pow_right (by decide) (by omega)

structure MovRel (r : List Nat) (dx dy : Int) (w wr : World) (k : Nat) : Prop where
  arg : Blk wr w.heap.size 26 (r.map u16)
  res : Blk wr (w.heap.size + 1) 26 (List.replicate 8 z16)
  out : ∃ l : List Nat, Blk wr (w.heap.size + 1 + 1) 26 (l.map u16) ∧ l.length = 8 ∧ ∀ j : Nat, j < 8 → rdN l j = if 0 ≤ (j : Int) - dy ∧ (j : Int) - dy < k then bitsN (fun x => dk r ((x : Int) - dx) ((j : Int) - dy)) 16 else 0
  below : Below w.heap.size w wr

set_option maxHeartbeats 1000000 in
set_option maxRecDepth 100000 in
theorem moved_any (r : List Nat) (dx dy : Int) (w : World) (hr : r.length = 8) (hx : ∀ k, rdN r k < 65536) (bx : -5 ≤ dx ∧ dx ≤ 5) (bY : -5 ≤ dy ∧ dy ≤ 5) :
    Calls Tryz.prog 67 #[.agg (R16 r), .int .i64 dx, .int .i64 dy] w fun e w' => e = .returned (.agg (R16 (movR r dx dy))) ∧ Below w.heap.size w w' := by
  obtain ⟨bx1, bx2⟩ := bx
  obtain ⟨by1, by2⟩ := bY
  have hnew : Blk (((w.alloc (.cells (R16 r) 26)).alloc (.cells (List.replicate 8 z16).toArray 26)).alloc (.cells (List.replicate 8 z16).toArray 26)) w.heap.size 26 (r.map u16) := ((Blk.new w _ _).alloc _).alloc _
  go_enter Tryz.func67, Tryz.ntmps67
  go_wp2_with (refine wpList_load_row rfl 26 _ rfl _ rfl 26 (R16 r) _ _ hnew Tryz.underlying26 rfl (by rw [R16_size, hr]; exact szRub) ?_)
  go_loopw [13] (fun i wr => ∃ k : Nat, k ≤ 8 ∧ i = .int .i64 k ∧ MovRel r dx dy w wr k) (fun i _ => 8 - (intOf i).toNat)
  case atStart =>
    refine ⟨0, by omega, rfl, hnew, (Blk.at_new _ _ _ (by simp) _ _ rfl).alloc _, ⟨List.replicate 8 0, Blk.at_new _ _ _ (by simp) _ _ rfl, by simp, fun j hj => ?_⟩, below_three _ _ _ _⟩
    rw [if_neg (by omega)]
    simp only [rdN, List.getD, List.getElem?_replicate]; split <;> rfl
  case round =>
    obtain ⟨k, hk, rfl, h⟩ := hrel
    obtain ⟨l, hB1, hl, h1⟩ := h.out
    by_cases hlt : k < 8
    · have hix := rub_at r hr k hlt
      have H1 := Lib.hid h1
      clear h1
      by_cases hin : 0 ≤ (k : Int) + dy ∧ (k : Int) + dy ≤ 7
      · obtain ⟨i1, i2⟩ := hin
        have hin2 : inB 0 7 ((k : Int) + dy) = true := inB_true (by omega)
        have hc1 := hB1.cell ((k : Int) + dy).toNat _ (map_u16_at l _ (by omega))
        have hf1 := hB1.free ((k : Int) + dy).toNat
        have hset : ∀ v, v = bitsN (fun x => dk r ((x : Int) - dx) k) 16 → ∀ j : Nat, j < 8 → rdN (l.set ((k : Int) + dy).toNat v) j = if 0 ≤ (j : Int) - dy ∧ (j : Int) - dy < ((k + 1 : Nat) : Int) then bitsN (fun x => dk r ((x : Int) - dx) ((j : Int) - dy)) 16 else 0 := by
          intro v hv j hj
          rw [rdN_set _ _ _ _ (by omega)]
          by_cases e : j = ((k : Int) + dy).toNat
          · rw [if_pos e, if_pos (by omega), hv]
            have : (j : Int) - dy = k := by omega
            rw [this]
          · rw [if_neg e, H1.out j hj]
            by_cases e1 : 0 ≤ (j : Int) - dy ∧ (j : Int) - dy < k
            · rw [if_pos e1, if_pos (by omega)]
            · rw [if_neg e1, if_neg (by omega)]
        by_cases hpos : 0 ≤ dx
        · have hsh := Lib.hid (row_shl r k dx hlt hpos bx2 (hx k))
          go_wp2_with (go_at_call 34; refine (within_any _ _ _ _).mono ?_; rintro e w' ⟨rfl, rfl⟩)
          go_roundw
          case rel =>
            refine ⟨k + 1, by omega, by go_num, h.arg.other _ _ (by simp; omega), h.res.other _ _ (by simp), ⟨l.set ((k : Int) + dy).toNat (bitsN (fun x => dk r ((x : Int) - dx) k) 16), ?_, by simp [hl], hset _ rfl⟩, h.below.setCell (by simp; omega) _⟩
            rw [List.map_set, hsh.out]
            exact hB1.set _ _
          case measure => simp [intOf]; omega
        · have hsh := Lib.hid (row_shr r k dx hlt (by omega) bx1 (hx k))
          go_wp2_with (go_at_call 34; refine (within_any _ _ _ _).mono ?_; rintro e w' ⟨rfl, rfl⟩)
          go_roundw
          case rel =>
            refine ⟨k + 1, by omega, by go_num, h.arg.other _ _ (by simp; omega), h.res.other _ _ (by simp), ⟨l.set ((k : Int) + dy).toNat (bitsN (fun x => dk r ((x : Int) - dx) k) 16), ?_, by simp [hl], hset _ rfl⟩, h.below.setCell (by simp; omega) _⟩
            rw [List.map_set, hsh.out]
            exact hB1.set _ _
          case measure => simp [intOf]; omega
      · have hin2 : inB 0 7 ((k : Int) + dy) = false := inB_false hin
        go_wp2_with (go_at_call 34; refine (within_any _ _ _ _).mono ?_; rintro e w' ⟨rfl, rfl⟩)
        go_roundw
        case rel =>
          refine ⟨k + 1, by omega, by go_num, h.arg, h.res, ⟨l, hB1, hl, fun j hj => ?_⟩, h.below⟩
          rw [H1.out j hj]
          by_cases e1 : 0 ≤ (j : Int) - dy ∧ (j : Int) - dy < k
          · rw [if_pos e1, if_pos (by omega)]
          · rw [if_neg e1, if_neg (by omega)]
        case measure => simp [intOf]; omega
    · obtain rfl : k = 8 := by omega
      have hm : l = movR r dx dy := by
        refine ext8 hl (gridR_length _) fun j hj => ?_
        rw [h1 j hj, movR, rdN_gridR _ j hj]
        split
        · rfl
        · rename_i hn
          refine (eq_of_bits (k := 16) (bitsN_lt _ _) (by decide) fun x _ => ?_).symm
          rw [testBit_bitsN]
          have : dk r ((x : Int) - dx) ((j : Int) - dy) = false := by unfold dk; simp only [Bool.and_eq_false_iff, decide_eq_false_iff_not]; left; omega
          simp [this]
      subst hm
      clear h1
      go_wp2_with (first
        | (refine wpList_load_row rfl 26 _ rfl _ rfl 26 (R16 (movR r dx dy)) _ _ hB1 Tryz.underlying26 rfl (by rw [R16_size, hl]; exact szRub) ?_)
        | (refine wpList_store_row rfl 26 _ _ rfl _ (R16 (movR r dx dy)) rfl rfl 26 _ h.res (by rw [R16_size, hl]; exact szRub) (by rw [R16_size, hl]; rfl) (one_u16 _) ?_))
      exact bodyPost_ret (v := .agg (R16 (movR r dx dy))) (results_cell_row rfl _ _ _ 26 (R16 (movR r dx dy)) _ _ rfl (h.res.setRow_same ((movR r dx dy).map Go.Proofs.YtkbmfemncadlnaaGreatDoor.u16)) Tryz.underlying26 rfl (by rw [R16_size, hl]; exact szRub)) rfl ⟨rfl, below_setRow h.below _ _ (by omega)⟩

/-! ### MoveRubbing: a rubbing and a code -/
def zR : List Nat := List.replicate 8 0
theorem zR_length : zR.length = 8 := rfl
/-- What MoveRubbing returns: the rubbing, the code. -/
def moveOut (r : List Nat) (dx dy : Int) : List Nat × Int := if mayMove dx dy then (movR r dx dy, 0) else (zR, 2)
theorem moveOut_yes {r : List Nat} {dx dy : Int} (h : mayMove dx dy = true) : moveOut r dx dy = (movR r dx dy, 0) := by simp [moveOut, h]
theorem moveOut_no {r : List Nat} {dx dy : Int} (h : mayMove dx dy = false) : moveOut r dx dy = (zR, 2) := by simp [moveOut, h]

theorem movR_length (r : List Nat) (dx dy : Int) : (movR r dx dy).length = 8 := gridR_length _
theorem moveOut_length (r : List Nat) (dx dy : Int) : (moveOut r dx dy).1.length = 8 := by
  cases hm : mayMove dx dy
  · rw [moveOut_no hm]; exact zR_length
  · rw [moveOut_yes hm]; exact movR_length r dx dy

end Go.Proofs.YtkbmfemncadlnaaGreatDoor
