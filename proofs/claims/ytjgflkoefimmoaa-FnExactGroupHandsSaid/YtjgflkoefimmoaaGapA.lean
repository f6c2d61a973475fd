/- Contracts: gaps that a hand cuts: they are gaps; how far apart two lists of gaps are. -/
import Derived.Test.YtjgflkoefimmoaaInt
import Derived.BigRegion
namespace Go.Proofs.Ytjgflkoefimmoaa
open Go Go.RowKit

theorem in_any (n lo hi : Int) (w : World) : Calls Try.prog 28 #[.int .i64 n, .int .i64 lo, .int .i64 hi] w fun e w' => e = .returned (.bool (inB lo hi n)) ∧ w = w' := by
  by_cases h1 : n ≥ lo
  · by_cases h2 : n ≤ hi
    · go_enter Try.func28, Try.ntmps28
      go_wp2
      go_ret
      exact ⟨by congr 2; unfold inB; simp; omega, rfl⟩
    · go_enter Try.func28, Try.ntmps28
      go_wp2
      go_ret
      exact ⟨by congr 2; unfold inB; simp; omega, rfl⟩
  · go_enter Try.func28, Try.ntmps28
    go_wp2
    go_ret
    exact ⟨by congr 2; unfold inB; simp; omega, rfl⟩
theorem within_any (n lo hi : Int) (w : World) : Calls Try.prog 32 #[.int .i64 n, .int .i64 lo, .int .i64 hi] w fun e w' => e = .returned (.bool (inB lo hi n)) ∧ w = w' := by
  by_cases h1 : lo ≤ n
  · by_cases h2 : n ≤ hi
    · go_enter Try.func32, Try.ntmps32
      go_wp2
      go_ret
      exact ⟨by congr 2; unfold inB; simp; omega, rfl⟩
    · go_enter Try.func32, Try.ntmps32
      go_wp2
      go_ret
      exact ⟨by congr 2; unfold inB; simp; omega, rfl⟩
  · go_enter Try.func32, Try.ntmps32
    go_wp2
    go_ret
    exact ⟨by congr 2; unfold inB; simp; omega, rfl⟩
theorem l00Max_dif (z q : Int) (w : World) (hq : q = -z) : Calls Try.prog 29 #[.int .i64 z, .int .i64 q] w fun e w' => e = .returned (.int .i64 ((z.natAbs : Nat) : Int)) ∧ w = w' := by
  by_cases h : q < z
  · go_enter Try.func29, Try.ntmps29
    go_wp2
    go_ret
    exact ⟨ret_int' (by omega), rfl⟩
  · go_enter Try.func29, Try.ntmps29
    go_wp2
    go_ret
    exact ⟨ret_int' (by omega), rfl⟩

/-- The list is one of gaps. -/
def gapsOk (xs : List Int) : Bool := decide ((∀ k, k < xs.length → inB (-100) 100 (rdI xs k) = true) ∧ xs.length ≤ 30)
theorem gapsOk_no {xs : List Int} {k : Nat} (hk : k < xs.length) (h : inB (-100) 100 (rdI xs k) = false) : gapsOk xs = false := by
  unfold gapsOk
  refine decide_eq_false fun hh => ?_
  rw [hh.1 k hk] at h; cases h
theorem gapsOk_long {xs : List Int} (h : 30 < xs.length) : gapsOk xs = false := by
  unfold gapsOk
  exact decide_eq_false fun hh => by omega
theorem gapsOk_all {xs : List Int} (h : ∀ k, k < xs.length → inB (-100) 100 (rdI xs k) = true) : gapsOk xs = decide (xs.length ≤ 30) := by
  unfold gapsOk
  by_cases hl : xs.length ≤ 30
  · rw [decide_eq_true hl]; exact decide_eq_true ⟨h, hl⟩
  · rw [decide_eq_false hl]; exact decide_eq_false fun hh => hl hh.2
theorem gapsOk_iff {xs : List Int} (h : gapsOk xs = true) : xs.length ≤ 30 ∧ ∀ k, k < xs.length → -100 ≤ rdI xs k ∧ rdI xs k ≤ 100 := by
  unfold gapsOk at h
  have := of_decide_eq_true h
  exact ⟨this.2, fun k hk => inB_iff.1 (this.1 k hk)⟩

/-- The first k are all gaps. -/
def AllIn (xs : List Int) (k : Nat) : Prop := ∀ j, j < k → inB (-100) 100 (rdI xs j) = true
theorem allIn_zero (xs : List Int) : AllIn xs 0 := fun j hj => by omega
theorem allIn_succ {xs : List Int} {k : Nat} (h : AllIn xs k) (hk : inB (-100) 100 (rdI xs k) = true) : AllIn xs (k + 1) := fun j hj => by
  rcases Nat.lt_succ_iff_lt_or_eq.1 hj with h1 | rfl
  · exact h j h1
  · exact hk
set_option maxRecDepth 100000 in
theorem l07Gaps_any (A : Option Addr) (c : Nat) (xs : List Int) (n : Nat) (w : World) (hn : xs.length = n) (hm : n ≤ 1000000000) (h : SlE i64 w A xs) :
    Calls Try.prog 20 #[.slice A n c] w fun e w' => e = .returned (.bool (gapsOk xs)) ∧ w = w' := by
  have HN := Lib.hid hn
  clear hn
  go_enter Try.func20, Try.ntmps20
  go_wp2
  go_loop [3] (fun i => ∃ k : Nat, k ≤ n ∧ i = .int .i64 k ∧ AllIn xs k) (fun i => n - (intOf i).toNat)
  case atStart => exact ⟨0, by omega, rfl, allIn_zero xs⟩
  case round =>
    obtain ⟨k, hk, rfl, hr⟩ := hrel
    by_cases hlt : k < n
    · obtain ⟨a, rfl, hrow⟩ := h.some k (by rw [HN.out]; omega)
      have hcell := hrow.atI64 k (by rw [HN.out]; omega)
      clear hrow h
      cases hi : inB (-100) 100 (rdI xs k)
      · have HF := Lib.hid (gapsOk_no (xs := xs) (by rw [HN.out]; omega) hi)
        have HI := Lib.hid hi
        go_wp2_with (go_at_call 28; refine (in_any _ _ _ _).mono ?_; rintro e w' ⟨rfl, rfl⟩)
        go_ret
        exact ⟨ret_bool' HF.out.symm, rfl⟩
      · have HI := Lib.hid hi
        go_wp2_with (go_at_call 28; refine (in_any _ _ _ _).mono ?_; rintro e w' ⟨rfl, rfl⟩)
        go_round
        case rel => exact ⟨k + 1, by omega, by go_num, allIn_succ hr HI.out⟩
        case measure => simp [intOf]; omega
    · obtain rfl : k = n := by omega
      have HF := Lib.hid (gapsOk_all (xs := xs) (fun j hj => hr j (by rw [← HN.out]; exact hj)))
      have HG := Lib.hid (show decide (xs.length ≤ 30) = decide ((k : Int) ≤ 30) by rw [HN.out]; simp; omega)
      clear h
      go_wp2
      go_ret
      exact ⟨ret_bool' (by rw [HF.out, HG.out]), rfl⟩

theorem areGaps1_any (x : Int) (w : World) : Calls Try.prog 31 #[.int .i64 x] w fun e w' => e = .returned (.bool (!inB (-100) 100 x)) ∧ w = w' := by
  go_enter Try.func31, Try.ntmps31
  go_wp2_with (go_at_call 32; refine (within_any _ _ _ _).mono ?_; rintro e w' ⟨rfl, rfl⟩)
  go_ret
  exact ⟨rfl, rfl⟩

/-- The first element that is no gap, -1 if there is none. -/
def badAt (xs : List Int) (m : Int) : Prop := (m = -1 ∧ ∀ j, j < xs.length → inB (-100) 100 (rdI xs j) = true) ∨ ∃ k : Nat, m = k ∧ k < xs.length ∧ inB (-100) 100 (rdI xs k) = false

set_option maxRecDepth 100000 in
theorem indexGaps_any (A : Option Addr) (c : Nat) (xs : List Int) (n : Nat) (w : World) (hn : xs.length = n) (hm : n ≤ 1000000000) (h : SlE i64 w A xs) :
    Calls Try.prog 37 #[.slice A n c, .func (.func 31) #[] #[]] w fun e w' => ∃ m, e = .returned (.int .i64 m) ∧ badAt xs m ∧ w = w' := by
  have HN := Lib.hid hn
  clear hn
  go_enter Try.func37, Try.ntmps37
  go_wp2
  go_loop [8] (fun i => ∃ k : Nat, k ≤ n ∧ i = .int .i64 k ∧ AllIn xs k) (fun i => n - (intOf i).toNat)
  case atStart => exact ⟨0, by omega, rfl, allIn_zero xs⟩
  case round =>
    obtain ⟨k, hk, rfl, hr⟩ := hrel
    by_cases hlt : k < n
    · obtain ⟨a, rfl, hrow⟩ := h.some k (by rw [HN.out]; omega)
      have hcell := hrow.atI64 k (by rw [HN.out]; omega)
      clear hrow h
      cases hi : inB (-100) 100 (rdI xs k)
      · have HI := Lib.hid hi
        go_wp2_with (go_at_call 31; refine (areGaps1_any _ _).mono ?_; rintro e w' ⟨rfl, rfl⟩)
        go_ret
        exact ⟨_, rfl, .inr ⟨k, rfl, by rw [HN.out]; omega, HI.out⟩, rfl⟩
      · have HI := Lib.hid hi
        go_wp2_with (go_at_call 31; refine (areGaps1_any _ _).mono ?_; rintro e w' ⟨rfl, rfl⟩)
        go_round
        case rel => exact ⟨k + 1, by omega, by go_num, allIn_succ hr HI.out⟩
        case measure => simp [intOf]; omega
    · obtain rfl : k = n := by omega
      clear h
      go_wp2
      go_ret
      exact ⟨_, rfl, .inl ⟨rfl, fun j hj => hr j (by rw [← HN.out]; exact hj)⟩, rfl⟩

/-- Does it hold an element that is no gap. -/
def hasBad (xs : List Int) : Bool := !decide (∀ k, k < xs.length → inB (-100) 100 (rdI xs k) = true)
theorem badAt_iff {xs : List Int} {m : Int} (h : badAt xs m) : decide (m ≥ 0) = hasBad xs := by
  unfold hasBad
  rcases h with ⟨rfl, h⟩ | ⟨k, rfl, hk, hb⟩
  · rw [decide_eq_true h]; rfl
  · have e1 : decide ((k : Int) ≥ 0) = true := by simp
    have e2 : decide (∀ k, k < xs.length → inB (-100) 100 (rdI xs k) = true) = false := decide_eq_false fun hh => by rw [hh k hk] at hb; cases hb
    rw [e1, e2]; rfl
theorem containsGaps_any (A : Option Addr) (c : Nat) (xs : List Int) (n : Nat) (w : World) (hn : xs.length = n) (hm : n ≤ 1000000000) (h : SlE i64 w A xs) :
    Calls Try.prog 30 #[.slice A n c, .func (.func 31) #[] #[]] w fun e w' => e = .returned (.bool (hasBad xs)) ∧ w = w' := by
  go_enter Try.func30, Try.ntmps30
  go_wp2_with (go_at_call 37; refine (indexGaps_any A c xs n _ hn hm h).mono ?_; rintro e w' ⟨m, rfl, hbad, rfl⟩)
  go_ret
  exact ⟨ret_bool' (badAt_iff hbad), rfl⟩

theorem areGaps_any (A : Option Addr) (c : Nat) (xs : List Int) (n : Nat) (w : World) (hn : xs.length = n) (hm : n ≤ 1000000000) (h : SlE i64 w A xs) :
    Calls Try.prog 22 #[.slice A n c] w fun e w' => e = .returned (.bool (gapsOk xs)) ∧ w = w' := by
  have HG := Lib.hid (show gapsOk xs = (decide (n ≤ 30) && !hasBad xs) by
    subst hn
    unfold gapsOk hasBad
    rw [Bool.not_not, Bool.and_comm]
    simp)
  by_cases h30 : n ≤ 30
  · have h30' : (n : Int) ≤ 30 := by omega
    have HD := Lib.hid (decide_eq_true h30)
    go_enter Try.func22, Try.ntmps22
    go_wp2_with (go_at_call 30; refine (containsGaps_any A c xs n _ hn hm h).mono ?_; rintro e w' ⟨rfl, rfl⟩)
    go_ret
    exact ⟨ret_bool' (by rw [HG.out, HD.out, Bool.true_and]), rfl⟩
  · have h30' : ¬ (n : Int) ≤ 30 := by omega
    have HD := Lib.hid (decide_eq_false h30)
    go_enter Try.func22, Try.ntmps22
    go_wp2
    go_ret
    exact ⟨ret_bool' (by rw [HG.out, HD.out, Bool.false_and]), rfl⟩
end Go.Proofs.Ytjgflkoefimmoaa
