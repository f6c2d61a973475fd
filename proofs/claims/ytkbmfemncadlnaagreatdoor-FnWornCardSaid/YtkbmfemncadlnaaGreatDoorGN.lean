/- Contracts: gaps that a hand cuts: they are gaps; how far apart two lists of gaps are. Contracts: a slice of numbers is copied; how far apart two lists of gaps are. Contracts: how far apart two lists of gaps are, by the program; both functions of GapsApart. Contracts: GapsApart, by the program and by the reference. Contracts: slices of slices of numbers: their size, a copy of them, two of them compared. Contracts: hands' gaps are checked; the nearest hand, by the program and by the reference. Contracts: the nearest hand. -/
import Derived.Test.YtkbmfemncadlnaaGreatDoorGB
import Derived.BigRegion
import Derived.OwnWalk
namespace Go.Proofs.YtkbmfemncadlnaaGreatDoor
open Go Go.RowKit
set_option linter.unusedVariables false
set_option linter.unusedSimpArgs false

theorem inG_any (n lo hi : Int) (w : World) : Calls Tryz.prog 45 #[.int .i64 n, .int .i64 lo, .int .i64 hi] w fun e w' => e = .returned (.bool (inB lo hi n)) ∧ w = w' := by
  by_cases h1 : n ≥ lo
  · by_cases h2 : n ≤ hi
    · go_enter Tryz.func45, Tryz.ntmps45
      go_wp2
      go_ret
      exact ⟨by congr 2; unfold inB; simp; omega, rfl⟩
    · go_enter Tryz.func45, Tryz.ntmps45
      go_wp2
      go_ret
      exact ⟨by congr 2; unfold inB; simp; omega, rfl⟩
  · go_enter Tryz.func45, Tryz.ntmps45
    go_wp2
    go_ret
    exact ⟨by congr 2; unfold inB; simp; omega, rfl⟩
theorem withinG_any (n lo hi : Int) (w : World) : Calls Tryz.prog 34 #[.int .i64 n, .int .i64 lo, .int .i64 hi] w fun e w' => e = .returned (.bool (inB lo hi n)) ∧ w = w' := by
  by_cases h1 : lo ≤ n
  · by_cases h2 : n ≤ hi
    · go_enter Tryz.func34, Tryz.ntmps34
      go_wp2
      go_ret
      exact ⟨by congr 2; unfold inB; simp; omega, rfl⟩
    · go_enter Tryz.func34, Tryz.ntmps34
      go_wp2
      go_ret
      exact ⟨by congr 2; unfold inB; simp; omega, rfl⟩
  · go_enter Tryz.func34, Tryz.ntmps34
    go_wp2
    go_ret
    exact ⟨by congr 2; unfold inB; simp; omega, rfl⟩
theorem l00Max_dif (z q : Int) (w : World) (hq : q = -z) : Calls Tryz.prog 83 #[.int .i64 z, .int .i64 q] w fun e w' => e = .returned (.int .i64 ((z.natAbs : Nat) : Int)) ∧ w = w' := by
  by_cases h : q < z
  · go_enter Tryz.func83, Tryz.ntmps83
    go_wp2
    go_ret
    exact ⟨ret_int' (by omega), rfl⟩
  · go_enter Tryz.func83, Tryz.ntmps83
    go_wp2
    go_ret
    exact ⟨ret_int' (by omega), rfl⟩

/-- The list is one of gaps. -/
def gapsOk (xs : List Int) : Bool := decide ((∀ k, k < xs.length → inB (-100) 100 (rdI xs k) = true) ∧ xs.length ≤ 30)
theorem gapsOk_no {xs : List Int} {k : Nat} (hk : k < xs.length) (h : inB (-100) 100 (rdI xs k) = false) : gapsOk xs = false := by
  unfold gapsOk
  refine decide_eq_false fun hh => ?_
  rw [hh.1 k hk] at h; cases h
theorem gapsOk_long {xs : List Int} (h : 30 < xs.length) : gapsOk xs = false := by
  unfold gapsOk
  exact decide_eq_false fun hh => by omega
theorem gapsOk_all {xs : List Int} (h : ∀ k, k < xs.length → inB (-100) 100 (rdI xs k) = true) : gapsOk xs = decide (xs.length ≤ 30) := by
  unfold gapsOk
  by_cases hl : xs.length ≤ 30
  · rw [decide_eq_true hl]; exact decide_eq_true ⟨h, hl⟩
  · rw [decide_eq_false hl]; exact decide_eq_false fun hh => hl hh.2
theorem gapsOk_iff {xs : List Int} (h : gapsOk xs = true) : xs.length ≤ 30 ∧ ∀ k, k < xs.length → -100 ≤ rdI xs k ∧ rdI xs k ≤ 100 := by
  unfold gapsOk at h
  have := of_decide_eq_true h
  exact ⟨this.2, fun k hk => inB_iff.1 (this.1 k hk)⟩

/-- The first k are all gaps. -/
def AllIn (xs : List Int) (k : Nat) : Prop := ∀ j, j < k → inB (-100) 100 (rdI xs j) = true
theorem allIn_zero (xs : List Int) : AllIn xs 0 := fun j hj => by omega
theorem allIn_succ {xs : List Int} {k : Nat} (h : AllIn xs k) (hk : inB (-100) 100 (rdI xs k) = true) : AllIn xs (k + 1) := fun j hj => by
  rcases Nat.lt_succ_iff_lt_or_eq.1 hj with h1 | rfl
  · exact h j h1
  · exact hk
set_option maxRecDepth 100000 in
theorem l07Gaps_any (A : Option Addr) (c : Nat) (xs : List Int) (n : Nat) (w : World) (hn : xs.length = n) (hm : n ≤ 1000000000) (h : SlE i64 w A xs) :
    Calls Tryz.prog 59 #[.slice A n c] w fun e w' => e = .returned (.bool (gapsOk xs)) ∧ w = w' := by
  have HN := Lib.hid hn
  clear hn
  go_enter Tryz.func59, Tryz.ntmps59
  go_wp2
  go_loop [3] (fun i => ∃ k : Nat, k ≤ n ∧ i = .int .i64 k ∧ AllIn xs k) (fun i => n - (intOf i).toNat)
  case atStart => exact ⟨0, by omega, rfl, allIn_zero xs⟩
  case round =>
    obtain ⟨k, hk, rfl, hr⟩ := hrel
    by_cases hlt : k < n
    · obtain ⟨a, rfl, hrow⟩ := h.some k (by rw [HN.out]; omega)
      have hcell := hrow.atI64 k (by rw [HN.out]; omega)
      clear hrow h
      cases hi : inB (-100) 100 (rdI xs k)
      · have HF := Lib.hid (gapsOk_no (xs := xs) (by rw [HN.out]; omega) hi)
        have HI := Lib.hid hi
        go_wp2_with (go_at_call 45; refine (inG_any _ _ _ _).mono ?_; rintro e w' ⟨rfl, rfl⟩)
        go_ret
        exact ⟨ret_bool' HF.out.symm, rfl⟩
      · have HI := Lib.hid hi
        go_wp2_with (go_at_call 45; refine (inG_any _ _ _ _).mono ?_; rintro e w' ⟨rfl, rfl⟩)
        go_round
        case rel => exact ⟨k + 1, by omega, by go_num, allIn_succ hr HI.out⟩
        case measure => simp [intOf]; omega
    · obtain rfl : k = n := by omega
      have HF := Lib.hid (gapsOk_all (xs := xs) (fun j hj => hr j (by rw [← HN.out]; exact hj)))
      have HG := Lib.hid (show decide (xs.length ≤ 30) = decide ((k : Int) ≤ 30) by rw [HN.out]; simp; omega)
      clear h
      go_wp2
      go_ret
      exact ⟨ret_bool' (by rw [HF.out, HG.out]), rfl⟩

theorem areGaps1_any (x : Int) (w : World) : Calls Tryz.prog 82 #[.int .i64 x] w fun e w' => e = .returned (.bool (!inB (-100) 100 x)) ∧ w = w' := by
  go_enter Tryz.func82, Tryz.ntmps82
  go_wp2_with (go_at_call 34; refine (withinG_any _ _ _ _).mono ?_; rintro e w' ⟨rfl, rfl⟩)
  go_ret
  exact ⟨rfl, rfl⟩

/-- The first element that is no gap, -1 if there is none. -/
def badAt (xs : List Int) (m : Int) : Prop := (m = -1 ∧ ∀ j, j < xs.length → inB (-100) 100 (rdI xs j) = true) ∨ ∃ k : Nat, m = k ∧ k < xs.length ∧ inB (-100) 100 (rdI xs k) = false

set_option maxRecDepth 100000 in
theorem indexGaps_any (A : Option Addr) (c : Nat) (xs : List Int) (n : Nat) (w : World) (hn : xs.length = n) (hm : n ≤ 1000000000) (h : SlE i64 w A xs) :
    Calls Tryz.prog 93 #[.slice A n c, .func (.func 82) #[] #[]] w fun e w' => ∃ m, e = .returned (.int .i64 m) ∧ badAt xs m ∧ w = w' := by
  have HN := Lib.hid hn
  clear hn
  go_enter Tryz.func93, Tryz.ntmps93
  go_wp2
  go_loop [8] (fun i => ∃ k : Nat, k ≤ n ∧ i = .int .i64 k ∧ AllIn xs k) (fun i => n - (intOf i).toNat)
  case atStart => exact ⟨0, by omega, rfl, allIn_zero xs⟩
  case round =>
    obtain ⟨k, hk, rfl, hr⟩ := hrel
    by_cases hlt : k < n
    · obtain ⟨a, rfl, hrow⟩ := h.some k (by rw [HN.out]; omega)
      have hcell := hrow.atI64 k (by rw [HN.out]; omega)
      clear hrow h
      cases hi : inB (-100) 100 (rdI xs k)
      · have HI := Lib.hid hi
        go_wp2_with (go_at_call 82; refine (areGaps1_any _ _).mono ?_; rintro e w' ⟨rfl, rfl⟩)
        go_ret
        exact ⟨_, rfl, .inr ⟨k, rfl, by rw [HN.out]; omega, HI.out⟩, rfl⟩
      · have HI := Lib.hid hi
        go_wp2_with (go_at_call 82; refine (areGaps1_any _ _).mono ?_; rintro e w' ⟨rfl, rfl⟩)
        go_round
        case rel => exact ⟨k + 1, by omega, by go_num, allIn_succ hr HI.out⟩
        case measure => simp [intOf]; omega
    · obtain rfl : k = n := by omega
      clear h
      go_wp2
      go_ret
      exact ⟨_, rfl, .inl ⟨rfl, fun j hj => hr j (by rw [← HN.out]; exact hj)⟩, rfl⟩

/-- Does it hold an element that is no gap. -/
def hasBad (xs : List Int) : Bool := !decide (∀ k, k < xs.length → inB (-100) 100 (rdI xs k) = true)
theorem badAt_iff {xs : List Int} {m : Int} (h : badAt xs m) : decide (m ≥ 0) = hasBad xs := by
  unfold hasBad
  rcases h with ⟨rfl, h⟩ | ⟨k, rfl, hk, hb⟩
  · rw [decide_eq_true h]; rfl
  · have e1 : decide ((k : Int) ≥ 0) = true := by simp
    have e2 : decide (∀ k, k < xs.length → inB (-100) 100 (rdI xs k) = true) = false := decide_eq_false fun hh => by rw [hh k hk] at hb; cases hb
    rw [e1, e2]; rfl
theorem containsGaps_any (A : Option Addr) (c : Nat) (xs : List Int) (n : Nat) (w : World) (hn : xs.length = n) (hm : n ≤ 1000000000) (h : SlE i64 w A xs) :
    Calls Tryz.prog 81 #[.slice A n c, .func (.func 82) #[] #[]] w fun e w' => e = .returned (.bool (hasBad xs)) ∧ w = w' := by
  go_enter Tryz.func81, Tryz.ntmps81
  go_wp2_with (go_at_call 93; refine (indexGaps_any A c xs n _ hn hm h).mono ?_; rintro e w' ⟨m, rfl, hbad, rfl⟩)
  go_ret
  exact ⟨ret_bool' (badAt_iff hbad), rfl⟩

theorem areGaps_any (A : Option Addr) (c : Nat) (xs : List Int) (n : Nat) (w : World) (hn : xs.length = n) (hm : n ≤ 1000000000) (h : SlE i64 w A xs) :
    Calls Tryz.prog 57 #[.slice A n c] w fun e w' => e = .returned (.bool (gapsOk xs)) ∧ w = w' := by
  have HG := Lib.hid (show gapsOk xs = (decide (n ≤ 30) && !hasBad xs) by
    subst hn
    unfold gapsOk hasBad
    rw [Bool.not_not, Bool.and_comm]
    simp)
  by_cases h30 : n ≤ 30
  · have h30' : (n : Int) ≤ 30 := by omega
    have HD := Lib.hid (decide_eq_true h30)
    go_enter Tryz.func57, Tryz.ntmps57
    go_wp2_with (go_at_call 81; refine (containsGaps_any A c xs n _ hn hm h).mono ?_; rintro e w' ⟨rfl, rfl⟩)
    go_ret
    exact ⟨ret_bool' (by rw [HG.out, HD.out, Bool.true_and]), rfl⟩
  · have h30' : ¬ (n : Int) ≤ 30 := by omega
    have HD := Lib.hid (decide_eq_false h30)
    go_enter Tryz.func57, Tryz.ntmps57
    go_wp2
    go_ret
    exact ⟨ret_bool' (by rw [HG.out, HD.out, Bool.false_and]), rfl⟩
end Go.Proofs.YtkbmfemncadlnaaGreatDoor
namespace Go.Proofs.YtkbmfemncadlnaaGreatDoor
open Go Go.RowKit
set_option linter.unusedVariables false
set_option linter.unusedSimpArgs false

/-- A row whose first j cells have been written. -/
def setV (us vs : List Value) (j : Nat) : List Value := us.take j ++ vs.drop j
theorem setV_zero (us vs : List Value) : setV us vs 0 = vs := by simp [setV]
theorem setV_set (us vs : List Value) (j : Nat) (u : Value) (hu : us[j]? = some u) (hj : j < vs.length) : (setV us vs j).set j u = setV us vs (j + 1) := by
  have hju : j < us.length := (List.getElem?_eq_some_iff.1 hu).1
  have hl : (us.take j).length = j := by simp; omega
  unfold setV
  rw [List.set_append_right _ _ (by omega), hl, Nat.sub_self, List.drop_eq_getElem_cons hj, List.set_cons_zero, List.take_add_one, hu]
  simp
theorem setV_at (us vs : List Value) (j : Nat) (hju : j ≤ us.length) (hj : j < vs.length) : (setV us vs j)[j]? = some vs[j] := by
  have hl : (us.take j).length = j := by simp; omega
  unfold setV
  rw [List.getElem?_append_right (by omega), hl, Nat.sub_self, List.drop_eq_getElem_cons hj]
  rfl
theorem own_at {w : World} {base : Nat} {e : TypeId} {g n c : Nat} {xs : List Value} (h : w.ownsRow base e 1 (.slice (some ⟨g, 0, none⟩) n c) n xs) : base ≤ g ∧ xs.length = n ∧ ∃ cs, Blk w g e (xs ++ cs) := by
  obtain ⟨hl, h⟩ := h
  rcases h with ⟨h1, _⟩ | ⟨g', cap, cur, h1, hg, hh, hc, hm, hs, ht⟩
  · cases h1
  · cases h1
    refine ⟨hg, by omega, cur.toList.drop n, ?_⟩
    unfold Blk
    rw [← ht, Nat.mul_one, List.take_append_drop]
    simpa using hh
theorem elI64' : El Tryz.prog 47 2 (.int .i64 0) 1 8 := ⟨Tryz.underlying47, by kernel_rfl, rfl, by decide⟩

/-- A row of numbers at a block of the call's own. -/
def CopyOut (w : World) (xs : List Int) (n : Nat) (e : Ending) (w' : World) : Prop :=
  ∃ g cs, e = .returned (.slice (some ⟨g, 0, none⟩) n n) ∧ w.heap.size ≤ g ∧ Blk w' g 2 (xs.map i64 ++ cs) ∧ Below w.heap.size w w'

structure CopyRel (g : Nat) (us vs : List Value) (w wr : World) (j : Nat) : Prop where
  blk : Blk wr g 2 (setV us vs j)
  below : Below w.heap.size w wr

/-- How far apart two lists are at one place. -/
def stepN (xs ys : List Int) (i : Nat) : Nat := if i < xs.length ∧ i < ys.length then (rdI xs i - rdI ys i).natAbs else 10
theorem stepN_both {xs ys : List Int} {i : Nat} (h1 : i < xs.length) (h2 : i < ys.length) : stepN xs ys i = (rdI xs i - rdI ys i).natAbs := if_pos ⟨h1, h2⟩
theorem stepN_one {xs ys : List Int} {i : Nat} (h : ¬ (i < xs.length ∧ i < ys.length)) : stepN xs ys i = 10 := if_neg h
/-- How far apart two lists are. -/
def apartN (xs ys : List Int) : Nat := sumN (stepN xs ys) (max xs.length ys.length)
theorem apart_sum (xs ys : List Int) (k : Nat) : sumN (stepN xs ys) (min xs.length ys.length + k) = sumN (stepN xs ys) (min xs.length ys.length) + 10 * k := by
  induction k with
  | zero => rfl
  | succ k ih => rw [← Nat.add_assoc, sumN, ih, stepN_one (by omega)]; omega
theorem apartN_min (xs ys : List Int) : apartN xs ys = sumN (stepN xs ys) (min xs.length ys.length) + 10 * (max xs.length ys.length - min xs.length ys.length) := by
  unfold apartN
  rw [← apart_sum xs ys (max xs.length ys.length - min xs.length ys.length)]
  congr 1
  omega
/-- A list of gaps. -/
structure Gaps (xs : List Int) (n : Nat) : Prop where
  len : xs.length = n
  small : n ≤ 30
  range : ∀ k, k < n → -100 ≤ rdI xs k ∧ rdI xs k ≤ 100
theorem gaps_of {xs : List Int} {n : Nat} (hn : xs.length = n) (h : gapsOk xs = true) : Gaps xs n := by
  subst hn; exact ⟨rfl, (gapsOk_iff h).1, (gapsOk_iff h).2⟩
theorem stepN_le {xs ys : List Int} {n m : Nat} (hx : Gaps xs n) (hy : Gaps ys m) (i : Nat) : stepN xs ys i ≤ 200 := by
  unfold stepN
  split
  · have h1 := hx.range i (by have := hx.len; omega); have h2 := hy.range i (by have := hy.len; omega); omega
  · omega
theorem apartN_le {xs ys : List Int} {n m : Nat} (hx : Gaps xs n) (hy : Gaps ys m) (k : Nat) : sumN (stepN xs ys) k ≤ 200 * k := sumN_le _ 200 (stepN_le hx hy) k

set_option maxHeartbeats 1000000 in
set_option maxRecDepth 100000 in
theorem l07Apart_any (A B : Option Addr) (c d : Nat) (xs ys : List Int) (n m : Nat) (w : World) (hx : Gaps xs n) (hy : Gaps ys m) (ha : SlE i64 w A xs) (hb : SlE i64 w B ys) :
    Calls Tryz.prog 61 #[.slice A n c, .slice B m d] w fun e w' => e = .returned (.int .i64 (apartN xs ys)) ∧ ∃ q, w' = w.drewN q := by
  have HX := Lib.hid hx
  have HY := Lib.hid hy
  have HA := Lib.hid ha
  have HB := Lib.hid hb
  have hn30 := hx.small
  have hm30 := hy.small
  have HNX := Lib.hid hx.len
  have HNY := Lib.hid hy.len
  clear hx hy ha hb
  go_enter Tryz.func61, Tryz.ntmps61
  go_wp2
  go_loopw [5, 6] (fun s i wr => ∃ k : Nat, k ≤ max n m ∧ i = .int .i64 k ∧ s = .int .i64 (sumN (stepN xs ys) k) ∧ ∃ q, wr = w.drewN q) (fun _ i _ => max n m - (intOf i).toNat)
  case atStart => exact ⟨0, by omega, rfl, rfl, 0, rfl⟩
  case round =>
    obtain ⟨k, hk, rfl, rfl, q, rfl⟩ := hrel
    have hle := apartN_le HX.out HY.out k
    by_cases h1 : k < n
    · have h1' : (k : Int) < (n : Int) := by omega
      by_cases h2 : k < m
      · have h2' : (k : Int) < (m : Int) := by omega
        obtain ⟨a, rfl, hra⟩ := HA.out.some k (by rw [HNX.out]; omega)
        obtain ⟨b, rfl, hrb⟩ := HB.out.some k (by rw [HNY.out]; omega)
        have hc1 := hra.atI64 k (by rw [HNX.out]; omega)
        have hc2 := hrb.atI64 k (by rw [HNY.out]; omega)
        have b1 := HX.out.range k h1
        have b2 := HY.out.range k h2
        have HS := Lib.hid (stepN_both (xs := xs) (ys := ys) (i := k) (by rw [HNX.out]; omega) (by rw [HNY.out]; omega))
        clear hra hrb
        go_wp2
        go_quiet ((go_at_call 83; refine (l00Max_dif _ _ _ (by omega)).mono ?_; rintro e w' ⟨rfl, rfl⟩; exact ⟨rfl, _, rfl⟩))
        go_wp2
        go_roundw
        case rel => exact ⟨k + 1, by omega, by go_num, by rw [sumN, HS.out]; go_num, _, rfl⟩
        case measure => simp [intOf]; omega
      · have h2' : ¬ (k : Int) < (m : Int) := by omega
        have HS := Lib.hid (stepN_one (xs := xs) (ys := ys) (i := k) (by rw [HNX.out, HNY.out]; omega))
        go_wp2
        go_roundw
        case rel => exact ⟨k + 1, by omega, by go_num, by rw [sumN, HS.out]; go_num, _, rfl⟩
        case measure => simp [intOf]; omega
    · have h1' : ¬ (k : Int) < (n : Int) := by omega
      by_cases h2 : k < m
      · have h2' : (k : Int) < (m : Int) := by omega
        have HS := Lib.hid (stepN_one (xs := xs) (ys := ys) (i := k) (by rw [HNX.out, HNY.out]; omega))
        go_wp2
        go_roundw
        case rel => exact ⟨k + 1, by omega, by go_num, by rw [sumN, HS.out]; go_num, _, rfl⟩
        case measure => simp [intOf]; omega
      · have h2' : ¬ (k : Int) < (m : Int) := by omega
        have HK := Lib.hid (show apartN xs ys = sumN (stepN xs ys) k by unfold apartN; rw [HNX.out, HNY.out, show max n m = k by omega])
        go_wp2
        go_ret
        exact ⟨by rw [HK.out]; rfl, _, rfl⟩
end Go.Proofs.YtkbmfemncadlnaaGreatDoor
namespace Go.Proofs.YtkbmfemncadlnaaGreatDoor
open Go Go.RowKit
set_option linter.unusedVariables false
set_option linter.unusedSimpArgs false

set_option maxHeartbeats 1000000 in
set_option maxRecDepth 100000 in
theorem apart_impl (A B : Option Addr) (c d : Nat) (xs ys : List Int) (n m : Nat) (w : World) (hx : Gaps xs n) (hy : Gaps ys m) (ha : SlE i64 w A xs) (hb : SlE i64 w B ys) :
    Calls Tryz.prog 58 #[.slice A n c, .slice B m d] w fun e w' => e = .returned (.int .i64 (apartN xs ys)) ∧ ∃ q, w' = w.drewN q := by
  have HX := Lib.hid hx
  have HY := Lib.hid hy
  have HA := Lib.hid ha
  have HB := Lib.hid hb
  have hn30 := hx.small
  have hm30 := hy.small
  have HNX := Lib.hid hx.len
  have HNY := Lib.hid hy.len
  have HAP := Lib.hid (apartN_min xs ys)
  rw [hx.len, hy.len] at HAP
  clear hx hy ha hb
  by_cases hnm : (n : Int) ≤ (m : Int)
  · obtain HK : min n m = n := by omega
    rw [HK] at HAP
    have HAP2 := Lib.hid (show (apartN xs ys : Int) = 10 * ((n : Int) + (m : Int) - 2 * (n : Int)) + (sumN (stepN xs ys) n : Nat) by rw [HAP.out]; omega)
    have HW : 10 * ((n : Int) + (m : Int) - 2 * (n : Int)) ≤ 600 ∧ 0 ≤ 10 * ((n : Int) + (m : Int) - 2 * (n : Int)) := by omega
    clear HAP HK
    go_enter Tryz.func58, Tryz.ntmps58
    go_wp2
    go_loopw [6, 23] (fun s i wr => ∃ k : Nat, k ≤ n ∧ i = .int .i64 k ∧ s = .int .i64 (10 * ((n : Int) + (m : Int) - 2 * (n : Int)) + (sumN (stepN xs ys) k : Nat)) ∧ ∃ q, wr = w.drewN q) (fun _ i _ => n - (intOf i).toNat)
    case atStart => exact ⟨0, by omega, rfl, by simp [sumN] <;> omega, 0, rfl⟩
    case round =>
      obtain ⟨k, hk, rfl, rfl, q, rfl⟩ := hrel
      have hle := apartN_le HX.out HY.out k
      by_cases h1 : k < n
      · obtain ⟨a, rfl, hra⟩ := HA.out.some k (by rw [HNX.out]; omega)
        obtain ⟨b, rfl, hrb⟩ := HB.out.some k (by rw [HNY.out]; omega)
        have hc1 := hra.atI64 k (by rw [HNX.out]; omega)
        have hc2 := hrb.atI64 k (by rw [HNY.out]; omega)
        have b1 := HX.out.range k (by omega)
        have b2 := HY.out.range k (by omega)
        have HS := Lib.hid (stepN_both (xs := xs) (ys := ys) (i := k) (by rw [HNX.out]; omega) (by rw [HNY.out]; omega))
        clear hra hrb
        by_cases hsg : rdI xs k - rdI ys k < rdI ys k - rdI xs k
        · go_wp2
          go_quiet (fail)
          go_wp2
          go_roundw
          case rel => exact ⟨k + 1, by omega, by go_num, by rw [sumN, HS.out]; go_num, _, rfl⟩
          case measure => simp [intOf]; omega
        · go_wp2
          go_quiet (fail)
          go_wp2
          go_roundw
          case rel => exact ⟨k + 1, by omega, by go_num, by rw [sumN, HS.out]; go_num, _, rfl⟩
          case measure => simp [intOf]; omega
      · obtain rfl : k = n := by omega
        go_wp2
        go_ret
        exact ⟨ret_int' HAP2.out.symm, _, rfl⟩
  · obtain HK : min n m = m := by omega
    rw [HK] at HAP
    have HAP2 := Lib.hid (show (apartN xs ys : Int) = 10 * ((n : Int) + (m : Int) - 2 * (m : Int)) + (sumN (stepN xs ys) m : Nat) by rw [HAP.out]; omega)
    have HW : 10 * ((n : Int) + (m : Int) - 2 * (m : Int)) ≤ 600 ∧ 0 ≤ 10 * ((n : Int) + (m : Int) - 2 * (m : Int)) := by omega
    clear HAP HK
    go_enter Tryz.func58, Tryz.ntmps58
    go_wp2
    go_loopw [6, 23] (fun s i wr => ∃ k : Nat, k ≤ m ∧ i = .int .i64 k ∧ s = .int .i64 (10 * ((n : Int) + (m : Int) - 2 * (m : Int)) + (sumN (stepN xs ys) k : Nat)) ∧ ∃ q, wr = w.drewN q) (fun _ i _ => m - (intOf i).toNat)
    case atStart => exact ⟨0, by omega, rfl, by simp [sumN] <;> omega, 0, rfl⟩
    case round =>
      obtain ⟨k, hk, rfl, rfl, q, rfl⟩ := hrel
      have hle := apartN_le HX.out HY.out k
      by_cases h1 : k < m
      · obtain ⟨a, rfl, hra⟩ := HA.out.some k (by rw [HNX.out]; omega)
        obtain ⟨b, rfl, hrb⟩ := HB.out.some k (by rw [HNY.out]; omega)
        have hc1 := hra.atI64 k (by rw [HNX.out]; omega)
        have hc2 := hrb.atI64 k (by rw [HNY.out]; omega)
        have b1 := HX.out.range k (by omega)
        have b2 := HY.out.range k (by omega)
        have HS := Lib.hid (stepN_both (xs := xs) (ys := ys) (i := k) (by rw [HNX.out]; omega) (by rw [HNY.out]; omega))
        clear hra hrb
        by_cases hsg : rdI xs k - rdI ys k < rdI ys k - rdI xs k
        · go_wp2
          go_quiet (fail)
          go_wp2
          go_roundw
          case rel => exact ⟨k + 1, by omega, by go_num, by rw [sumN, HS.out]; go_num, _, rfl⟩
          case measure => simp [intOf]; omega
        · go_wp2
          go_quiet (fail)
          go_wp2
          go_roundw
          case rel => exact ⟨k + 1, by omega, by go_num, by rw [sumN, HS.out]; go_num, _, rfl⟩
          case measure => simp [intOf]; omega
      · obtain rfl : k = m := by omega
        go_wp2
        go_ret
        exact ⟨ret_int' HAP2.out.symm, _, rfl⟩
end Go.Proofs.YtkbmfemncadlnaaGreatDoor
namespace Go.Proofs.YtkbmfemncadlnaaGreatDoor
open Go Go.RowKit
set_option linter.unusedVariables false
set_option linter.unusedSimpArgs false

/-- What GapsApart returns. -/
def apOut (xs ys : List Int) : Int × Int := if gapsOk xs && gapsOk ys then ((apartN xs ys : Int), 0) else (0, 1)
theorem apOut_yes {xs ys : List Int} (h1 : gapsOk xs = true) (h2 : gapsOk ys = true) : apOut xs ys = ((apartN xs ys : Int), 0) := by simp [apOut, h1, h2]
theorem apOut_no1 {xs ys : List Int} (h1 : gapsOk xs = false) : apOut xs ys = (0, 1) := by simp [apOut, h1]
theorem apOut_no2 {xs ys : List Int} (h1 : gapsOk xs = true) (h2 : gapsOk ys = false) : apOut xs ys = (0, 1) := by simp [apOut, h1, h2]

set_option maxRecDepth 100000 in
theorem gapsApart_spec (A B : Option Addr) (c d : Nat) (xs ys : List Int) (n m : Nat) (w : World) (hn : xs.length = n) (hm : ys.length = m) (sn : n ≤ 1000000000) (sm : m ≤ 1000000000) (ha : SlE i64 w A xs) (hb : SlE i64 w B ys) :
    Calls Tryz.prog 31 #[.slice A n c, .slice B m d] w fun e w' => e = .returned (.tuple #[.int .i64 (apOut xs ys).1, .int .i64 (apOut xs ys).2]) ∧ ∃ q, w' = w.drewN q := by
  cases h1 : gapsOk xs
  · have HO := Lib.hid (apOut_no1 (ys := ys) h1)
    have H1 := Lib.hid h1
    go_enter Tryz.func31, Tryz.ntmps31
    go_wp2_with (go_at_call 59; refine (l07Gaps_any A c xs n _ hn sn ha).mono ?_; rintro e w' ⟨rfl, rfl⟩)
    rw [HO.out]
    go_ret2
    exact ⟨rfl, 0, rfl⟩
  · cases h2 : gapsOk ys
    · have HO := Lib.hid (apOut_no2 h1 h2)
      go_enter Tryz.func31, Tryz.ntmps31
      go_wp2_with fail
      go_at_call 59
      refine (l07Gaps_any A c xs n _ hn sn ha).mono ?_
      rintro e w' ⟨rfl, rfl⟩
      go_wp2_with fail
      go_at_call 59
      refine (l07Gaps_any B d ys m _ hm sm hb).mono ?_
      rintro e w' ⟨rfl, rfl⟩
      go_wp2_with fail
      rw [HO.out]
      go_ret2
      exact ⟨rfl, 0, rfl⟩
    · have HO := Lib.hid (apOut_yes h1 h2)
      have gx := gaps_of hn h1
      have gy := gaps_of hm h2
      go_enter Tryz.func31, Tryz.ntmps31
      go_wp2_with fail
      go_at_call 59
      refine (l07Gaps_any A c xs n _ hn sn ha).mono ?_
      rintro e w' ⟨rfl, rfl⟩
      go_wp2_with fail
      go_at_call 59
      refine (l07Gaps_any B d ys m _ hm sm hb).mono ?_
      rintro e w' ⟨rfl, rfl⟩
      go_wp2_with fail
      go_at_call 61
      refine (l07Apart_any A B c d xs ys n m _ gx gy ha hb).mono ?_
      rintro e w' ⟨rfl, q, rfl⟩
      go_wp2_with fail
      rw [HO.out]
      go_ret2
      exact ⟨rfl, _, rfl⟩

set_option maxRecDepth 100000 in
theorem gapsApart_impl (A B : Option Addr) (c d : Nat) (xs ys : List Int) (n m : Nat) (w : World) (hn : xs.length = n) (hm : ys.length = m) (sn : n ≤ 1000000000) (sm : m ≤ 1000000000) (ha : SlE i64 w A xs) (hb : SlE i64 w B ys) :
    Calls Tryz.prog 29 #[.slice A n c, .slice B m d] w fun e w' => e = .returned (.tuple #[.int .i64 (apOut xs ys).1, .int .i64 (apOut xs ys).2]) ∧ ∃ q, w' = w.drewN q := by
  cases h1 : gapsOk xs
  · have HO := Lib.hid (apOut_no1 (ys := ys) h1)
    have H1 := Lib.hid h1
    go_enter Tryz.func29, Tryz.ntmps29
    go_wp2_with (go_at_call 57; refine (areGaps_any A c xs n _ hn sn ha).mono ?_; rintro e w' ⟨rfl, rfl⟩)
    rw [HO.out]
    go_ret2
    exact ⟨rfl, 0, rfl⟩
  · cases h2 : gapsOk ys
    · have HO := Lib.hid (apOut_no2 h1 h2)
      go_enter Tryz.func29, Tryz.ntmps29
      go_wp2_with fail
      go_at_call 57
      refine (areGaps_any A c xs n _ hn sn ha).mono ?_
      rintro e w' ⟨rfl, rfl⟩
      go_wp2_with fail
      go_at_call 57
      refine (areGaps_any B d ys m _ hm sm hb).mono ?_
      rintro e w' ⟨rfl, rfl⟩
      go_wp2_with fail
      rw [HO.out]
      go_ret2
      exact ⟨rfl, 0, rfl⟩
    · have HO := Lib.hid (apOut_yes h1 h2)
      have gx := gaps_of hn h1
      have gy := gaps_of hm h2
      go_enter Tryz.func29, Tryz.ntmps29
      go_wp2_with fail
      go_at_call 57
      refine (areGaps_any A c xs n _ hn sn ha).mono ?_
      rintro e w' ⟨rfl, rfl⟩
      go_wp2_with fail
      go_at_call 57
      refine (areGaps_any B d ys m _ hm sm hb).mono ?_
      rintro e w' ⟨rfl, rfl⟩
      go_wp2_with fail
      go_at_call 58
      refine (apart_impl A B c d xs ys n m _ gx gy ha hb).mono ?_
      rintro e w' ⟨rfl, q, rfl⟩
      go_wp2_with fail
      rw [HO.out]
      go_ret2
      exact ⟨rfl, _, rfl⟩
end Go.Proofs.YtkbmfemncadlnaaGreatDoor
namespace Go.Proofs.YtkbmfemncadlnaaGreatDoor
open Go Go.RowKit
set_option linter.unusedVariables false
set_option linter.unusedSimpArgs false

def rdL (r : List (List Int)) (i : Nat) : List Int := r.getD i []
/-- The slice at A has the slices hs as its elements. -/
def Sl2 (w : World) (A : Option Addr) (hs : List (List Int)) : Prop := ∀ i x, hs[i]? = some x → ∃ a B c, A = some a ∧ w.cell? (a.add i) = some (.slice B x.length c) ∧ SlE i64 w B x
theorem Sl2.nil {w : World} {A : Option Addr} : Sl2 w A [] := fun i x h => by simp at h
theorem Sl2.next {w w' : World} {A : Option Addr} {hs : List (List Int)} (h : Sl2 w A hs) (hb : Below w.heap.size w w') : Sl2 w' A hs := by
  intro i x hx
  obtain ⟨a, B, c, e, h1, h2⟩ := h i x hx
  exact ⟨a, B, c, e, by rw [hb.cell (World.block_lt_of_cell? w _ h1)]; exact h1, h2.next hb⟩
theorem Sl2.drewN {w : World} {A : Option Addr} {hs : List (List Int)} (h : Sl2 w A hs) (q : Nat) : Sl2 (w.drewN q) A hs := h
theorem Sl2.some {w : World} {A : Option Addr} {hs : List (List Int)} (h : Sl2 w A hs) (i : Nat) (hi : i < hs.length) : ∃ a B c, A = some a ∧ w.cell? (a.add i) = some (.slice B (rdL hs i).length c) ∧ SlE i64 w B (rdL hs i) := by
  have := h i (rdL hs i) (by simp [rdL, List.getD, List.getElem?_eq_getElem hi])
  exact this
/-- The first k are short. -/
def AllShort (hs : List (List Int)) (k : Nat) : Prop := ∀ i, i < k → (rdL hs i).length ≤ 1048576
/-- All of it is small. -/
def Small2 (hs : List (List Int)) (n : Nat) : Prop := n ≤ 1048576 ∧ ∀ i, i < n → (rdL hs i).length ≤ 1048576

theorem elS64 : El Tryz.prog 38 47 (.slice none 0 0) 1 24 := ⟨Tryz.underlying38, by kernel_rfl, rfl, by decide⟩

/-- A row of slices, each of the call's own; none of them lies in block g. -/
def Hdrs (w : World) (g : Nat) (hs : List (List Int)) (us : List Value) : Prop :=
  ∀ i u, us[i]? = some u → ∃ B c, u = .slice B (rdL hs i).length c ∧ SlE i64 w B (rdL hs i) ∧ ∀ b, B = some b → b.block ≠ g
theorem Hdrs.nil {w : World} {g : Nat} {hs : List (List Int)} : Hdrs w g hs [] := fun i u h => by simp at h
theorem Hdrs.next {w w' : World} {g : Nat} {hs : List (List Int)} {us : List Value} (h : Hdrs w g hs us) (hb : Below w.heap.size w w') : Hdrs w' g hs us := by
  intro i u hu
  obtain ⟨B, c, e, h1, h2⟩ := h i u hu
  exact ⟨B, c, e, h1.next hb, h2⟩
theorem Hdrs.set {w : World} {g : Nat} {hs : List (List Int)} {us : List Value} (h : Hdrs w g hs us) (i : Nat) (v : Value) : Hdrs (w.setCell ⟨g, i, none⟩ v) g hs us := by
  intro j u hu
  obtain ⟨B, c, e, h1, h2⟩ := h j u hu
  refine ⟨B, c, e, fun k x hk => ?_, h2⟩
  obtain ⟨b, rfl, hc⟩ := h1 k x hk
  have hblk : (b.add k).block = b.block := by unfold Addr.add; split <;> rfl
  exact ⟨b, rfl, by rw [World.cell?_of_block (heap_setCell_other w ⟨g, i, none⟩ (b.add k).block v (by rw [hblk]; exact h2 b rfl))]; exact hc⟩
theorem Hdrs.push {w : World} {g : Nat} {hs : List (List Int)} {us : List Value} (h : Hdrs w g hs us) {B : Option Addr} {c : Nat} (hB : SlE i64 w B (rdL hs us.length)) (hg : ∀ b, B = some b → b.block ≠ g) : Hdrs w g hs (us ++ [.slice B (rdL hs us.length).length c]) := by
  intro i u hu
  by_cases hi : i < us.length
  · rw [List.getElem?_append_left hi] at hu; exact h i u hu
  · rw [List.getElem?_append_right (by omega)] at hu
    have e : i = us.length := by
      have := (List.getElem?_eq_some_iff.1 hu).1
      simp at this; omega
    subst e
    simp at hu
    exact ⟨B, c, hu.symm, hB, hg⟩

structure Copy2Rel (g : Nat) (hs : List (List Int)) (vs : List Value) (w wr : World) (j : Nat) : Prop where
  row : ∃ us : List Value, us.length = j ∧ Blk wr g 47 (us ++ vs.drop j) ∧ Hdrs wr g hs us
  below : Below w.heap.size w wr

/-- A copy: a row of slices at a block of the call's own. -/
def Copy2Out (w : World) (hs : List (List Int)) (n : Nat) (e : Ending) (w' : World) : Prop :=
  ∃ g, e = .returned (.slice (some ⟨g, 0, none⟩) n n) ∧ w.heap.size ≤ g ∧ Sl2 w' (some ⟨g, 0, none⟩) hs ∧ Below w.heap.size w w'
theorem sl2_of {w : World} {g : Nat} {t : TypeId} {hs : List (List Int)} {us cs : List Value} (hl : us.length = hs.length) (h : Blk w g t (us ++ cs)) (hd : Hdrs w g hs us) : Sl2 w (some ⟨g, 0, none⟩) hs := by
  intro i x hx
  have hi : i < hs.length := (List.getElem?_eq_some_iff.1 hx).1
  have hr : rdL hs i = x := by simp [rdL, List.getD, hx]
  obtain ⟨B, c, e, h1, _⟩ := hd i us[i] (List.getElem?_eq_getElem (by omega))
  have hadd : (⟨g, 0, none⟩ : Addr).add i = ⟨g, i, none⟩ := by unfold Addr.add; split <;> simp_all
  rw [hr] at e h1
  refine ⟨⟨g, 0, none⟩, B, c, rfl, ?_, h1⟩
  rw [hadd]
  refine h.cell i _ ?_
  rw [List.getElem?_append_left (by omega), List.getElem?_eq_getElem (by omega), e]

end Go.Proofs.YtkbmfemncadlnaaGreatDoor
namespace Go.Proofs.YtkbmfemncadlnaaGreatDoor
open Go Go.RowKit
set_option linter.unusedVariables false
set_option linter.unusedSimpArgs false

/-- The first k hands are lists of gaps. -/
def AllOk (hs : List (List Int)) (k : Nat) : Prop := ∀ j, j < k → gapsOk (rdL hs j) = true
instance (hs : List (List Int)) (k : Nat) : Decidable (AllOk hs k) := by unfold AllOk; infer_instance
theorem allOk_zero (hs : List (List Int)) : AllOk hs 0 := fun j hj => by omega
theorem allOk_succ {hs : List (List Int)} {k : Nat} (h : AllOk hs k) (hk : gapsOk (rdL hs k) = true) : AllOk hs (k + 1) := fun j hj => by
  rcases Nat.lt_succ_iff_lt_or_eq.1 hj with h1 | rfl
  · exact h j h1
  · exact hk
/-- The code of some hands. -/
def handsCode (hs : List (List Int)) (n : Nat) : Int := if AllOk hs n then (if n ≤ 8 then 0 else 3) else 1
theorem code_bad {hs : List (List Int)} {n k : Nat} (hk : k < n) (h : gapsOk (rdL hs k) = false) : handsCode hs n = 1 := by
  unfold handsCode
  rw [if_neg]
  intro hh; rw [hh k hk] at h; cases h
theorem code_few {hs : List (List Int)} {n : Nat} (h : AllOk hs n) (hn : n ≤ 8) : handsCode hs n = 0 := by
  unfold handsCode; rw [if_pos h, if_pos hn]
theorem code_many {hs : List (List Int)} {n : Nat} (h : AllOk hs n) (hn : ¬ n ≤ 8) : handsCode hs n = 3 := by
  unfold handsCode; rw [if_pos h, if_neg hn]
theorem code_zero {hs : List (List Int)} {n : Nat} (h : handsCode hs n = 0) : AllOk hs n ∧ n ≤ 8 := by
  unfold handsCode at h
  split at h
  · rename_i h1
    split at h
    · rename_i h2; exact ⟨h1, h2⟩
    · cases h
  · cases h

set_option maxRecDepth 100000 in
theorem l07Hands_any (A : Option Addr) (c : Nat) (hs : List (List Int)) (n : Nat) (w : World) (hn : hs.length = n) (hm : Small2 hs n) (h : Sl2 w A hs) :
    Calls Tryz.prog 60 #[.slice A n c] w fun e w' => e = .returned (.int .i64 (handsCode hs n)) ∧ w = w' := by
  have HN := Lib.hid hn
  have H := Lib.hid h
  have hm1 := hm.1
  have HM := Lib.hid hm.2
  clear hn h hm
  go_enter Tryz.func60, Tryz.ntmps60
  go_wp2
  go_loop [3] (fun i => ∃ k : Nat, k ≤ n ∧ i = .int .i64 k ∧ AllOk hs k) (fun i => n - (intOf i).toNat)
  case atStart => exact ⟨0, by omega, rfl, allOk_zero hs⟩
  case round =>
    obtain ⟨k, hk, rfl, hr⟩ := hrel
    by_cases hlt : k < n
    · obtain ⟨a, B, d, rfl, hcell, hsl⟩ := H.out.some k (by rw [HN.out]; omega)
      have hsm := HM.out k hlt
      cases hg : gapsOk (rdL hs k)
      · have HC := Lib.hid (code_bad (n := n) hlt hg)
        go_wp2_with (go_at_call 59; refine (l07Gaps_any B d (rdL hs k) _ _ rfl (by omega) hsl).mono ?_; rintro e w' ⟨rfl, rfl⟩)
        go_ret
        exact ⟨ret_int' HC.out.symm, rfl⟩
      · have HG := Lib.hid hg
        go_wp2_with (go_at_call 59; refine (l07Gaps_any B d (rdL hs k) _ _ rfl (by omega) hsl).mono ?_; rintro e w' ⟨rfl, rfl⟩)
        go_round
        case rel => exact ⟨k + 1, by omega, by go_num, allOk_succ hr HG.out⟩
        case measure => simp [intOf]; omega
    · obtain rfl : k = n := by omega
      by_cases h8 : (k : Int) > 8
      · have HC := Lib.hid (code_many hr (by omega))
        go_wp2
        go_ret
        exact ⟨ret_int' HC.out.symm, rfl⟩
      · have HC := Lib.hid (code_few hr (by omega))
        go_wp2
        go_ret
        exact ⟨ret_int' HC.out.symm, rfl⟩

theorem handCode1_any (B : Option Addr) (d : Nat) (xs : List Int) (m : Nat) (w : World) (hn : xs.length = m) (hm : m ≤ 1000000000) (h : SlE i64 w B xs) :
    Calls Tryz.prog 79 #[.slice B m d] w fun e w' => e = .returned (.bool (!gapsOk xs)) ∧ w = w' := by
  go_enter Tryz.func79, Tryz.ntmps79
  go_wp2_with (go_at_call 57; refine (areGaps_any B d xs m _ hn hm h).mono ?_; rintro e w' ⟨rfl, rfl⟩)
  go_ret
  exact ⟨rfl, rfl⟩

/-- The first hand that is no list of gaps, -1 if there is none. -/
def bad2At (hs : List (List Int)) (n : Nat) (m : Int) : Prop := (m = -1 ∧ AllOk hs n) ∨ ∃ k : Nat, m = k ∧ k < n ∧ gapsOk (rdL hs k) = false
theorem bad2At_iff {hs : List (List Int)} {n : Nat} {m : Int} (h : bad2At hs n m) : decide (m ≥ 0) = !decide (AllOk hs n) := by
  rcases h with ⟨rfl, h⟩ | ⟨k, rfl, hk, hb⟩
  · rw [decide_eq_true h]; rfl
  · have e1 : decide ((k : Int) ≥ 0) = true := by simp
    have e2 : decide (AllOk hs n) = false := decide_eq_false fun hh => by rw [hh k hk] at hb; cases hb
    rw [e1, e2]; rfl

set_option maxRecDepth 100000 in
theorem indexHands_any (A : Option Addr) (c : Nat) (hs : List (List Int)) (n : Nat) (w : World) (hn : hs.length = n) (hm : Small2 hs n) (h : Sl2 w A hs) :
    Calls Tryz.prog 92 #[.slice A n c, .func (.func 79) #[] #[]] w fun e w' => ∃ m, e = .returned (.int .i64 m) ∧ bad2At hs n m ∧ w = w' := by
  have HN := Lib.hid hn
  have H := Lib.hid h
  have hm1 := hm.1
  have HM := Lib.hid hm.2
  clear hn h hm
  go_enter Tryz.func92, Tryz.ntmps92
  go_wp2
  go_loop [8] (fun i => ∃ k : Nat, k ≤ n ∧ i = .int .i64 k ∧ AllOk hs k) (fun i => n - (intOf i).toNat)
  case atStart => exact ⟨0, by omega, rfl, allOk_zero hs⟩
  case round =>
    obtain ⟨k, hk, rfl, hr⟩ := hrel
    by_cases hlt : k < n
    · obtain ⟨a, B, d, rfl, hcell, hsl⟩ := H.out.some k (by rw [HN.out]; omega)
      have hsm := HM.out k hlt
      cases hg : gapsOk (rdL hs k)
      · have HG := Lib.hid hg
        go_wp2_with (go_at_call 79; refine (handCode1_any B d (rdL hs k) _ _ rfl (by omega) hsl).mono ?_; rintro e w' ⟨rfl, rfl⟩)
        go_ret
        exact ⟨_, rfl, .inr ⟨k, rfl, by omega, HG.out⟩, rfl⟩
      · have HG := Lib.hid hg
        go_wp2_with (go_at_call 79; refine (handCode1_any B d (rdL hs k) _ _ rfl (by omega) hsl).mono ?_; rintro e w' ⟨rfl, rfl⟩)
        go_round
        case rel => exact ⟨k + 1, by omega, by go_num, allOk_succ hr HG.out⟩
        case measure => simp [intOf]; omega
    · obtain rfl : k = n := by omega
      go_wp2
      go_ret
      exact ⟨_, rfl, .inl ⟨rfl, hr⟩, rfl⟩

theorem containsHands_any (A : Option Addr) (c : Nat) (hs : List (List Int)) (n : Nat) (w : World) (hn : hs.length = n) (hm : Small2 hs n) (h : Sl2 w A hs) :
    Calls Tryz.prog 78 #[.slice A n c, .func (.func 79) #[] #[]] w fun e w' => e = .returned (.bool (!decide (AllOk hs n))) ∧ w = w' := by
  go_enter Tryz.func78, Tryz.ntmps78
  go_wp2_with (go_at_call 92; refine (indexHands_any A c hs n _ hn hm h).mono ?_; rintro e w' ⟨m, rfl, hbad, rfl⟩)
  go_ret
  exact ⟨ret_bool' (bad2At_iff hbad), rfl⟩

theorem unlessH_any (b : Bool) (x : Int) (w : World) : Calls Tryz.prog 80 #[.bool b, .int .i64 x] w fun e w' => e = .returned (.int .i64 (if b then 0 else x)) ∧ w = w' := by
  cases b
  all_goals
    go_enter Tryz.func80, Tryz.ntmps80
    go_wp2
    go_ret
    exact ⟨rfl, rfl⟩

theorem handCode_any (A : Option Addr) (c : Nat) (hs : List (List Int)) (n : Nat) (w : World) (hn : hs.length = n) (hm : Small2 hs n) (h : Sl2 w A hs) :
    Calls Tryz.prog 56 #[.slice A n c] w fun e w' => e = .returned (.int .i64 (handsCode hs n)) ∧ w = w' := by
  have hm1 := hm.1
  by_cases ha : AllOk hs n
  · have hd := decide_eq_true ha
    by_cases h8 : (n : Int) ≤ 8
    · have HC := Lib.hid (code_few ha (by omega))
      go_enter Tryz.func56, Tryz.ntmps56
      go_wp2_with (first
        | (go_at_call 78; refine (containsHands_any A c hs n _ hn hm h).mono ?_; rintro e w' ⟨rfl, rfl⟩)
        | (go_at_call 80; refine (unlessH_any _ _ _).mono ?_; rintro e w' ⟨rfl, rfl⟩))
      go_ret
      exact ⟨ret_int' HC.out.symm, rfl⟩
    · have HC := Lib.hid (code_many ha (by omega))
      go_enter Tryz.func56, Tryz.ntmps56
      go_wp2_with (first
        | (go_at_call 78; refine (containsHands_any A c hs n _ hn hm h).mono ?_; rintro e w' ⟨rfl, rfl⟩)
        | (go_at_call 80; refine (unlessH_any _ _ _).mono ?_; rintro e w' ⟨rfl, rfl⟩))
      go_ret
      exact ⟨ret_int' HC.out.symm, rfl⟩
  · have hd := decide_eq_false ha
    have HC := Lib.hid (show handsCode hs n = 1 by unfold handsCode; rw [if_neg ha])
    go_enter Tryz.func56, Tryz.ntmps56
    go_wp2_with (go_at_call 78; refine (containsHands_any A c hs n _ hn hm h).mono ?_; rintro e w' ⟨rfl, rfl⟩)
    go_ret
    exact ⟨ret_int' HC.out.symm, rfl⟩
end Go.Proofs.YtkbmfemncadlnaaGreatDoor
namespace Go.Proofs.YtkbmfemncadlnaaGreatDoor
open Go Go.RowKit
set_option linter.unusedVariables false
set_option linter.unusedSimpArgs false

theorem add_zero_addr (a : Addr) : a.add 0 = a := by unfold Addr.add; split <;> simp_all
/-- The first hand, of the first k, that is nearest. -/
def nearI (hs : List (List Int)) (ys : List Int) : Nat → Nat
  | 0 => 0
  | k + 1 => if k = 0 then 0 else if apartN (rdL hs k) ys < apartN (rdL hs (nearI hs ys k)) ys then k else nearI hs ys k
def nearM (hs : List (List Int)) (ys : List Int) (k : Nat) : Nat := apartN (rdL hs (nearI hs ys k)) ys
theorem nearI_one (hs : List (List Int)) (ys : List Int) : nearI hs ys 1 = 0 := rfl
theorem nearI_take {hs : List (List Int)} {ys : List Int} {k : Nat} (hk : k ≠ 0) (h : apartN (rdL hs k) ys < nearM hs ys k) : nearI hs ys (k + 1) = k := by
  unfold nearM at h; rw [nearI, if_neg hk, if_pos h]
theorem nearI_keep {hs : List (List Int)} {ys : List Int} {k : Nat} (hk : k ≠ 0) (h : ¬ apartN (rdL hs k) ys < nearM hs ys k) : nearI hs ys (k + 1) = nearI hs ys k := by
  unfold nearM at h; rw [nearI, if_neg hk, if_neg h]
theorem nearI_lt (hs : List (List Int)) (ys : List Int) (k : Nat) : nearI hs ys k < k + 1 := by
  induction k with
  | zero => simp [nearI]
  | succ k ih =>
    rw [nearI]
    split
    · omega
    · split <;> omega

/-- What NearestHand returns. -/
def nearOut (hs : List (List Int)) (ys : List Int) (n : Nat) : Int × Int × Int :=
  if gapsOk ys then (if handsCode hs n = 0 then (if n = 0 then (0, 0, 6) else ((nearI hs ys n : Int), (nearM hs ys n : Int), 0)) else (0, 0, handsCode hs n)) else (0, 0, 1)
theorem nearOut_bad {hs : List (List Int)} {ys : List Int} {n : Nat} (h : gapsOk ys = false) : nearOut hs ys n = (0, 0, 1) := by simp [nearOut, h]
theorem nearOut_code {hs : List (List Int)} {ys : List Int} {n : Nat} (h : gapsOk ys = true) (hc : ¬ handsCode hs n = 0) : nearOut hs ys n = (0, 0, handsCode hs n) := by simp [nearOut, h, hc]
theorem nearOut_none {hs : List (List Int)} {ys : List Int} {n : Nat} (h : gapsOk ys = true) (h0 : n = 0) : nearOut hs ys n = (0, 0, 6) := by
  have : handsCode hs n = 0 := code_few (fun j hj => by omega) (by omega)
  subst h0
  simp [nearOut, h, this]
theorem nearOut_ok {hs : List (List Int)} {ys : List Int} {n : Nat} (h : gapsOk ys = true) (hc : handsCode hs n = 0) (h0 : ¬ n = 0) : nearOut hs ys n = ((nearI hs ys n : Int), (nearM hs ys n : Int), 0) := by simp [nearOut, h, hc, h0]

set_option maxHeartbeats 1000000 in
set_option maxRecDepth 100000 in
theorem nearest_spec (A B : Option Addr) (c d : Nat) (hs : List (List Int)) (ys : List Int) (n m : Nat) (w : World) (hn : hs.length = n) (hm : Small2 hs n) (h : Sl2 w A hs) (hy : ys.length = m) (sm : m ≤ 1000000000) (hb : SlE i64 w B ys) :
    Calls Tryz.prog 24 #[.slice A n c, .slice B m d] w fun e w' => e = .returned (.tuple #[.int .i64 (nearOut hs ys n).1, .int .i64 (nearOut hs ys n).2.1, .int .i64 (nearOut hs ys n).2.2]) ∧ ∃ q, w' = w.drewN q := by
  have hm1 := hm.1
  cases hg : gapsOk ys
  · have HO := Lib.hid (nearOut_bad (hs := hs) (n := n) hg)
    have HG := Lib.hid hg
    go_enter Tryz.func24, Tryz.ntmps24
    go_wp2_with fail
    go_at_call 59
    refine (l07Gaps_any B d ys m _ hy sm hb).mono ?_
    rintro e w' ⟨rfl, rfl⟩
    go_wp2_with fail
    rw [HO.out]
    go_ret3
    exact ⟨rfl, 0, rfl⟩
  · have HG := Lib.hid hg
    by_cases hc : handsCode hs n = 0
    · obtain ⟨hall, h8⟩ := code_zero hc
      by_cases h0 : n = 0
      · have HO := Lib.hid (nearOut_none (hs := hs) hg h0)
        have hn0 : ((n : Int) == 0) = true := by simp; omega
        clear h0
        go_enter Tryz.func24, Tryz.ntmps24
        go_wp2_with fail
        go_at_call 59
        refine (l07Gaps_any B d ys m _ hy sm hb).mono ?_
        rintro e w' ⟨rfl, rfl⟩
        go_wp2_with fail
        go_at_call 60
        refine (l07Hands_any A c hs n _ hn hm h).mono ?_
        rintro e w' ⟨rfl, rfl⟩
        go_wp2_with fail
        rw [HO.out]
        go_ret3
        exact ⟨rfl, 0, rfl⟩
      · have HO := Lib.hid (nearOut_ok hg hc h0)
        have hn0 : ((n : Int) == 0) = false := by simp; omega
        have gy := gaps_of hy hg
        have HH := Lib.hid h
        have HB := Lib.hid hb
        have HN := Lib.hid hn
        have HALL := Lib.hid hall
        rw [HO.out]
        clear HO
        obtain ⟨a0, B0, d0, rfl, hc0, hs0⟩ := HH.out.some 0 (by rw [HN.out]; omega)
        rw [add_zero_addr] at hc0
        have hp1 : 0 < n := by omega
        have hp2 : (0 : Int) < (n : Int) := by omega
        have hix : ∀ w' : World, (Instr.indexAt 38 (.slice (some a0) n c) (.int .i64 0)).run Tryz.prog w' = .ok (.pointer (some a0)) w' := fun w' => by
          rw [run_indexAt_slice w' 38 a0 n c .i64 0 Tryz.underlying38]
          obtain ⟨i, hi⟩ : ∃ i, Tryz.prog.info? (Tryz.prog.elem 38) = some i := Option.isSome_iff_exists.1 (by kernel_rfl)
          rw [if_pos (by omega), run_sizeOf w' hi]
          simp [add_zero_addr]
        have g0 := gaps_of rfl (HALL.out 0 (by omega))
        go_enter Tryz.func24, Tryz.ntmps24
        go_wp2_with fail
        go_at_call 59
        refine (l07Gaps_any B d ys m _ hy sm hb).mono ?_
        rintro e w' ⟨rfl, rfl⟩
        go_wp2_with fail
        go_at_call 60
        refine (l07Hands_any (some a0) c hs n _ hn hm h).mono ?_
        rintro e w' ⟨rfl, rfl⟩
        go_wp2_with fail
        go_at_call 61
        refine (l07Apart_any B0 B d0 d _ ys _ m _ g0 gy hs0 HB.out).mono ?_
        rintro e w' ⟨rfl, q0, rfl⟩
        clear hc0 hs0 g0
        go_wp2_with fail
        go_loopw [8, 9, 10] (fun b v i wr => ∃ k : Nat, 1 ≤ k ∧ k ≤ n ∧ i = .int .i64 k ∧ b = .int .i64 (nearI hs ys k) ∧ v = .int .i64 (nearM hs ys k) ∧ ∃ q, wr = w.drewN q) (fun _ _ i _ => n - (intOf i).toNat)
        case atStart => exact ⟨1, by omega, by omega, rfl, rfl, rfl, q0, rfl⟩
        case round =>
          obtain ⟨k, hk1, hk, rfl, rfl, rfl, q, rfl⟩ := hrel
          have hlt2 := nearI_lt hs ys k
          by_cases hlt : k < n
          · obtain ⟨a1, B1, d1, ea, hc1, hs1⟩ := HH.out.some k (by rw [HN.out]; omega)
            obtain rfl := Option.some.inj ea
            have g1 := gaps_of rfl (HALL.out k hlt)
            have hc1' : (w.drewN q).cell? (a0.add k) = some (.slice B1 (rdL hs k).length d1) := hc1
            clear hc1
            have s1 : SlE Go.Proofs.YtkbmfemncadlnaaGreatDoor.i64 (w.drewN q) B1 (rdL hs k) := hs1
            have sB : SlE Go.Proofs.YtkbmfemncadlnaaGreatDoor.i64 (w.drewN q) B ys := HB.out
            clear hs1
            by_cases hle : (apartN (rdL hs k) ys : Int) < (nearM hs ys k : Int)
            · have HT := Lib.hid (nearI_take (by omega) (by omega : apartN (rdL hs k) ys < nearM hs ys k))
              have HM := Lib.hid (show nearM hs ys (k + 1) = apartN (rdL hs k) ys by unfold nearM; rw [HT.out])
              go_wp2_with fail
              go_at_call 61
              refine (l07Apart_any B1 B d1 d _ ys _ m _ g1 gy s1 sB).mono ?_
              rintro e w' ⟨rfl, q1, rfl⟩
              go_wp2_with fail
              go_roundw
              case rel => exact ⟨k + 1, by omega, by omega, by go_num, by rw [HT.out], by rw [HM.out], _, rfl⟩
              case measure => simp [intOf]; omega
            · have HT := Lib.hid (nearI_keep (by omega) (by omega : ¬ apartN (rdL hs k) ys < nearM hs ys k))
              have HM := Lib.hid (show nearM hs ys (k + 1) = nearM hs ys k by unfold nearM; rw [HT.out])
              go_wp2_with fail
              go_at_call 61
              refine (l07Apart_any B1 B d1 d _ ys _ m _ g1 gy s1 sB).mono ?_
              rintro e w' ⟨rfl, q1, rfl⟩
              go_wp2_with fail
              go_roundw
              case rel => exact ⟨k + 1, by omega, by omega, by go_num, by rw [HT.out], by rw [HM.out], _, rfl⟩
              case measure => simp [intOf]; omega
          · obtain rfl : k = n := by omega
            go_wp2_with fail
            go_ret3
            exact ⟨rfl, _, rfl⟩
    · have HO := Lib.hid (nearOut_code (hs := hs) hg hc)
      have hcb : (handsCode hs n != 0) = true := by simpa using hc
      go_enter Tryz.func24, Tryz.ntmps24
      go_wp2_with fail
      go_at_call 59
      refine (l07Gaps_any B d ys m _ hy sm hb).mono ?_
      rintro e w' ⟨rfl, rfl⟩
      go_wp2_with fail
      go_at_call 60
      refine (l07Hands_any A c hs n _ hn hm h).mono ?_
      rintro e w' ⟨rfl, rfl⟩
      go_wp2_with fail
      rw [HO.out]
      go_ret3
      exact ⟨rfl, 0, rfl⟩

set_option maxHeartbeats 1000000 in
set_option maxRecDepth 100000 in
theorem nearest_impl (A B : Option Addr) (c d : Nat) (hs : List (List Int)) (ys : List Int) (n m : Nat) (w : World) (hn : hs.length = n) (hm : Small2 hs n) (h : Sl2 w A hs) (hy : ys.length = m) (sm : m ≤ 1000000000) (hb : SlE i64 w B ys) :
    Calls Tryz.prog 23 #[.slice A n c, .slice B m d] w fun e w' => e = .returned (.tuple #[.int .i64 (nearOut hs ys n).1, .int .i64 (nearOut hs ys n).2.1, .int .i64 (nearOut hs ys n).2.2]) ∧ ∃ q, w' = w.drewN q := by
  have hm1 := hm.1
  cases hg : gapsOk ys
  · have HO := Lib.hid (nearOut_bad (hs := hs) (n := n) hg)
    have HG := Lib.hid hg
    by_cases hc1 : handsCode hs n = 1
    · have hcb : (handsCode hs n == 1) = true := by simpa using hc1
      go_enter Tryz.func23, Tryz.ntmps23
      go_wp2_with fail
      go_at_call 56
      refine (handCode_any A c hs n _ hn hm h).mono ?_
      rintro e w' ⟨rfl, rfl⟩
      go_wp2_with fail
      rw [HO.out]
      go_ret3
      exact ⟨rfl, 0, rfl⟩
    · have hcb : (handsCode hs n == 1) = false := by simpa using hc1
      go_enter Tryz.func23, Tryz.ntmps23
      go_wp2_with fail
      go_at_call 56
      refine (handCode_any A c hs n _ hn hm h).mono ?_
      rintro e w' ⟨rfl, rfl⟩
      go_wp2_with fail
      go_at_call 57
      refine (areGaps_any B d ys m _ hy sm hb).mono ?_
      rintro e w' ⟨rfl, rfl⟩
      go_wp2_with fail
      rw [HO.out]
      go_ret3
      exact ⟨rfl, 0, rfl⟩
  · have HG := Lib.hid hg
    by_cases hc : handsCode hs n = 0
    · obtain ⟨hall, h8⟩ := code_zero hc
      by_cases h0 : n = 0
      · have HO := Lib.hid (nearOut_none (hs := hs) hg h0)
        have hn0 : ((n : Int) == 0) = true := by simp; omega
        clear h0
        go_enter Tryz.func23, Tryz.ntmps23
        go_wp2_with fail
        go_at_call 56
        refine (handCode_any A c hs n _ hn hm h).mono ?_
        rintro e w' ⟨rfl, rfl⟩
        go_wp2_with fail
        go_at_call 57
        refine (areGaps_any B d ys m _ hy sm hb).mono ?_
        rintro e w' ⟨rfl, rfl⟩
        go_wp2_with fail
        rw [HO.out]
        go_ret3
        exact ⟨rfl, 0, rfl⟩
      · have HO := Lib.hid (nearOut_ok hg hc h0)
        have hn0 : ((n : Int) == 0) = false := by simp; omega
        have gy := gaps_of hy hg
        have HH := Lib.hid h
        have HB := Lib.hid hb
        have HN := Lib.hid hn
        have HALL := Lib.hid hall
        rw [HO.out]
        clear HO
        go_enter Tryz.func23, Tryz.ntmps23
        go_wp2_with fail
        go_at_call 56
        refine (handCode_any A c hs n _ hn hm h).mono ?_
        rintro e w' ⟨rfl, rfl⟩
        go_wp2_with fail
        go_at_call 57
        refine (areGaps_any B d ys m _ hy sm hb).mono ?_
        rintro e w' ⟨rfl, rfl⟩
        go_wp2_with fail
        go_loopw [8, 9, 33] (fun b v i wr => ∃ k : Nat, k ≤ n ∧ i = .int .i64 k ∧ b = .int .i64 (nearI hs ys k) ∧ v = .int .i64 (if k = 0 then -1 else (nearM hs ys k : Int)) ∧ ∃ q, wr = w.drewN q) (fun _ _ i _ => n - (intOf i).toNat)
        case atStart => exact ⟨0, by omega, rfl, rfl, rfl, 0, rfl⟩
        case round =>
          obtain ⟨k, hk, rfl, rfl, rfl, q, rfl⟩ := hrel
          have hlt2 := nearI_lt hs ys k
          by_cases hlt : k < n
          · obtain ⟨a0, B1, d1, rfl, hc1, hs1⟩ := HH.out.some k (by rw [HN.out]; omega)
            have g1 := gaps_of rfl (HALL.out k hlt)
            have hc1' : (w.drewN q).cell? (a0.add k) = some (.slice B1 (rdL hs k).length d1) := hc1
            clear hc1
            have s1 : SlE Go.Proofs.YtkbmfemncadlnaaGreatDoor.i64 (w.drewN q) B1 (rdL hs k) := hs1
            have sB : SlE Go.Proofs.YtkbmfemncadlnaaGreatDoor.i64 (w.drewN q) B ys := HB.out
            clear hs1
            by_cases hk0 : k = 0
            · subst hk0
              have HT := Lib.hid (nearI_one hs ys)
              have HM := Lib.hid (show nearM hs ys (0 + 1) = apartN (rdL hs 0) ys from rfl)
              rw [add_zero_addr] at hc1'
              simp only [if_true]
              go_wp2_with fail
              go_at_call 58
              refine (apart_impl B1 B d1 d _ ys _ m _ g1 gy s1 sB).mono ?_
              rintro e w' ⟨rfl, q1, rfl⟩
              go_wp2_with fail
              go_roundw
              case rel => exact ⟨0 + 1, by omega, by go_num, by rw [HT.out]; rfl, by rw [HM.out]; rfl, _, rfl⟩
              case measure => simp [intOf]; omega
            · rw [if_neg hk0]
              have hm0 : ¬ (nearM hs ys k : Int) < 0 := by omega
              by_cases hle : (apartN (rdL hs k) ys : Int) < (nearM hs ys k : Int)
              · have HT := Lib.hid (nearI_take hk0 (by omega : apartN (rdL hs k) ys < nearM hs ys k))
                have HM := Lib.hid (show nearM hs ys (k + 1) = apartN (rdL hs k) ys by unfold nearM; rw [HT.out])
                go_wp2_with fail
                go_at_call 58
                refine (apart_impl B1 B d1 d _ ys _ m _ g1 gy s1 sB).mono ?_
                rintro e w' ⟨rfl, q1, rfl⟩
                go_wp2_with fail
                go_roundw
                case rel => exact ⟨k + 1, by omega, by go_num, by rw [HT.out], by rw [if_neg (by omega), HM.out], _, rfl⟩
                case measure => simp [intOf]; omega
              · have HT := Lib.hid (nearI_keep hk0 (by omega : ¬ apartN (rdL hs k) ys < nearM hs ys k))
                have HM := Lib.hid (show nearM hs ys (k + 1) = nearM hs ys k by unfold nearM; rw [HT.out])
                go_wp2_with fail
                go_at_call 58
                refine (apart_impl B1 B d1 d _ ys _ m _ g1 gy s1 sB).mono ?_
                rintro e w' ⟨rfl, q1, rfl⟩
                go_wp2_with fail
                go_roundw
                case rel => exact ⟨k + 1, by omega, by go_num, by rw [HT.out], by rw [if_neg (by omega), HM.out], _, rfl⟩
                case measure => simp [intOf]; omega
          · obtain rfl : k = n := by omega
            rw [if_neg h0]
            go_wp2_with fail
            go_ret3
            exact ⟨rfl, _, rfl⟩
    · have HO := Lib.hid (nearOut_code (hs := hs) hg hc)
      have hcb : (handsCode hs n != 0) = true := by simpa using hc
      by_cases hc1 : handsCode hs n = 1
      · have hcb1 : (handsCode hs n == 1) = true := by simpa using hc1
        rw [hc1] at HO
        go_enter Tryz.func23, Tryz.ntmps23
        go_wp2_with fail
        go_at_call 56
        refine (handCode_any A c hs n _ hn hm h).mono ?_
        rintro e w' ⟨rfl, rfl⟩
        go_wp2_with fail
        rw [HO.out]
        go_ret3
        exact ⟨rfl, 0, rfl⟩
      · have hcb1 : (handsCode hs n == 1) = false := by simpa using hc1
        go_enter Tryz.func23, Tryz.ntmps23
        go_wp2_with fail
        go_at_call 56
        refine (handCode_any A c hs n _ hn hm h).mono ?_
        rintro e w' ⟨rfl, rfl⟩
        go_wp2_with fail
        go_at_call 57
        refine (areGaps_any B d ys m _ hy sm hb).mono ?_
        rintro e w' ⟨rfl, rfl⟩
        go_wp2_with fail
        rw [HO.out]
        go_ret3
        exact ⟨rfl, 0, rfl⟩
end Go.Proofs.YtkbmfemncadlnaaGreatDoor
