/- Contracts: hands' gaps are checked; the nearest hand, by the program and by the reference. -/
import Derived.Test.YtjgflkoefimmoaaHandA
import Derived.Test.YtjgflkoefimmoaaGapD
namespace Go.Proofs.Ytjgflkoefimmoaa
open Go Go.RowKit

/-- The first k hands are lists of gaps. -/
def AllOk (hs : List (List Int)) (k : Nat) : Prop := ∀ j, j < k → gapsOk (rdL hs j) = true
instance (hs : List (List Int)) (k : Nat) : Decidable (AllOk hs k) := by unfold AllOk; infer_instance
theorem allOk_zero (hs : List (List Int)) : AllOk hs 0 := fun j hj => by omega
theorem allOk_succ {hs : List (List Int)} {k : Nat} (h : AllOk hs k) (hk : gapsOk (rdL hs k) = true) : AllOk hs (k + 1) := fun j hj => by
  rcases Nat.lt_succ_iff_lt_or_eq.1 hj with h1 | rfl
  · exact h j h1
  · exact hk
/-- The code of some hands. -/
def handsCode (hs : List (List Int)) (n : Nat) : Int := if AllOk hs n then (if n ≤ 8 then 0 else 3) else 1
theorem code_bad {hs : List (List Int)} {n k : Nat} (hk : k < n) (h : gapsOk (rdL hs k) = false) : handsCode hs n = 1 := by
  unfold handsCode
  rw [if_neg]
  intro hh; rw [hh k hk] at h; cases h
theorem code_few {hs : List (List Int)} {n : Nat} (h : AllOk hs n) (hn : n ≤ 8) : handsCode hs n = 0 := by
  unfold handsCode; rw [if_pos h, if_pos hn]
theorem code_many {hs : List (List Int)} {n : Nat} (h : AllOk hs n) (hn : ¬ n ≤ 8) : handsCode hs n = 3 := by
  unfold handsCode; rw [if_pos h, if_neg hn]
theorem code_zero {hs : List (List Int)} {n : Nat} (h : handsCode hs n = 0) : AllOk hs n ∧ n ≤ 8 := by
  unfold handsCode at h
  split at h
  · rename_i h1
    split at h
    · rename_i h2; exact ⟨h1, h2⟩
    · cases h
  · cases h

set_option maxRecDepth 100000 in
theorem l07Hands_any (A : Option Addr) (c : Nat) (hs : List (List Int)) (n : Nat) (w : World) (hn : hs.length = n) (hm : Small2 hs n) (h : Sl2 w A hs) :
    Calls Try.prog 25 #[.slice A n c] w fun e w' => e = .returned (.int .i64 (handsCode hs n)) ∧ w = w' := by
  have HN := Lib.hid hn
  have H := Lib.hid h
  have hm1 := hm.1
  have HM := Lib.hid hm.2
  clear hn h hm
  go_enter Try.func25, Try.ntmps25
  go_wp2
  go_loop [3] (fun i => ∃ k : Nat, k ≤ n ∧ i = .int .i64 k ∧ AllOk hs k) (fun i => n - (intOf i).toNat)
  case atStart => exact ⟨0, by omega, rfl, allOk_zero hs⟩
  case round =>
    obtain ⟨k, hk, rfl, hr⟩ := hrel
    by_cases hlt : k < n
    · obtain ⟨a, B, d, rfl, hcell, hsl⟩ := H.out.some k (by rw [HN.out]; omega)
      have hsm := HM.out k hlt
      cases hg : gapsOk (rdL hs k)
      · have HC := Lib.hid (code_bad (n := n) hlt hg)
        go_wp2_with (go_at_call 20; refine (l07Gaps_any B d (rdL hs k) _ _ rfl (by omega) hsl).mono ?_; rintro e w' ⟨rfl, rfl⟩)
        go_ret
        exact ⟨ret_int' HC.out.symm, rfl⟩
      · have HG := Lib.hid hg
        go_wp2_with (go_at_call 20; refine (l07Gaps_any B d (rdL hs k) _ _ rfl (by omega) hsl).mono ?_; rintro e w' ⟨rfl, rfl⟩)
        go_round
        case rel => exact ⟨k + 1, by omega, by go_num, allOk_succ hr HG.out⟩
        case measure => simp [intOf]; omega
    · obtain rfl : k = n := by omega
      by_cases h8 : (k : Int) > 8
      · have HC := Lib.hid (code_many hr (by omega))
        go_wp2
        go_ret
        exact ⟨ret_int' HC.out.symm, rfl⟩
      · have HC := Lib.hid (code_few hr (by omega))
        go_wp2
        go_ret
        exact ⟨ret_int' HC.out.symm, rfl⟩

theorem handCode1_any (B : Option Addr) (d : Nat) (xs : List Int) (m : Nat) (w : World) (hn : xs.length = m) (hm : m ≤ 1000000000) (h : SlE i64 w B xs) :
    Calls Try.prog 34 #[.slice B m d] w fun e w' => e = .returned (.bool (!gapsOk xs)) ∧ w = w' := by
  go_enter Try.func34, Try.ntmps34
  go_wp2_with (go_at_call 22; refine (areGaps_any B d xs m _ hn hm h).mono ?_; rintro e w' ⟨rfl, rfl⟩)
  go_ret
  exact ⟨rfl, rfl⟩

/-- The first hand that is no list of gaps, -1 if there is none. -/
def bad2At (hs : List (List Int)) (n : Nat) (m : Int) : Prop := (m = -1 ∧ AllOk hs n) ∨ ∃ k : Nat, m = k ∧ k < n ∧ gapsOk (rdL hs k) = false
theorem bad2At_iff {hs : List (List Int)} {n : Nat} {m : Int} (h : bad2At hs n m) : decide (m ≥ 0) = !decide (AllOk hs n) := by
  rcases h with ⟨rfl, h⟩ | ⟨k, rfl, hk, hb⟩
  · rw [decide_eq_true h]; rfl
  · have e1 : decide ((k : Int) ≥ 0) = true := by simp
    have e2 : decide (AllOk hs n) = false := decide_eq_false fun hh => by rw [hh k hk] at hb; cases hb
    rw [e1, e2]; rfl

set_option maxRecDepth 100000 in
theorem indexHands_any (A : Option Addr) (c : Nat) (hs : List (List Int)) (n : Nat) (w : World) (hn : hs.length = n) (hm : Small2 hs n) (h : Sl2 w A hs) :
    Calls Try.prog 38 #[.slice A n c, .func (.func 34) #[] #[]] w fun e w' => ∃ m, e = .returned (.int .i64 m) ∧ bad2At hs n m ∧ w = w' := by
  have HN := Lib.hid hn
  have H := Lib.hid h
  have hm1 := hm.1
  have HM := Lib.hid hm.2
  clear hn h hm
  go_enter Try.func38, Try.ntmps38
  go_wp2
  go_loop [8] (fun i => ∃ k : Nat, k ≤ n ∧ i = .int .i64 k ∧ AllOk hs k) (fun i => n - (intOf i).toNat)
  case atStart => exact ⟨0, by omega, rfl, allOk_zero hs⟩
  case round =>
    obtain ⟨k, hk, rfl, hr⟩ := hrel
    by_cases hlt : k < n
    · obtain ⟨a, B, d, rfl, hcell, hsl⟩ := H.out.some k (by rw [HN.out]; omega)
      have hsm := HM.out k hlt
      cases hg : gapsOk (rdL hs k)
      · have HG := Lib.hid hg
        go_wp2_with (go_at_call 34; refine (handCode1_any B d (rdL hs k) _ _ rfl (by omega) hsl).mono ?_; rintro e w' ⟨rfl, rfl⟩)
        go_ret
        exact ⟨_, rfl, .inr ⟨k, rfl, by omega, HG.out⟩, rfl⟩
      · have HG := Lib.hid hg
        go_wp2_with (go_at_call 34; refine (handCode1_any B d (rdL hs k) _ _ rfl (by omega) hsl).mono ?_; rintro e w' ⟨rfl, rfl⟩)
        go_round
        case rel => exact ⟨k + 1, by omega, by go_num, allOk_succ hr HG.out⟩
        case measure => simp [intOf]; omega
    · obtain rfl : k = n := by omega
      go_wp2
      go_ret
      exact ⟨_, rfl, .inl ⟨rfl, hr⟩, rfl⟩

theorem containsHands_any (A : Option Addr) (c : Nat) (hs : List (List Int)) (n : Nat) (w : World) (hn : hs.length = n) (hm : Small2 hs n) (h : Sl2 w A hs) :
    Calls Try.prog 33 #[.slice A n c, .func (.func 34) #[] #[]] w fun e w' => e = .returned (.bool (!decide (AllOk hs n))) ∧ w = w' := by
  go_enter Try.func33, Try.ntmps33
  go_wp2_with (go_at_call 38; refine (indexHands_any A c hs n _ hn hm h).mono ?_; rintro e w' ⟨m, rfl, hbad, rfl⟩)
  go_ret
  exact ⟨ret_bool' (bad2At_iff hbad), rfl⟩

theorem unless_any (b : Bool) (x : Int) (w : World) : Calls Try.prog 35 #[.bool b, .int .i64 x] w fun e w' => e = .returned (.int .i64 (if b then 0 else x)) ∧ w = w' := by
  cases b
  all_goals
    go_enter Try.func35, Try.ntmps35
    go_wp2
    go_ret
    exact ⟨rfl, rfl⟩

theorem handCode_any (A : Option Addr) (c : Nat) (hs : List (List Int)) (n : Nat) (w : World) (hn : hs.length = n) (hm : Small2 hs n) (h : Sl2 w A hs) :
    Calls Try.prog 26 #[.slice A n c] w fun e w' => e = .returned (.int .i64 (handsCode hs n)) ∧ w = w' := by
  have hm1 := hm.1
  by_cases ha : AllOk hs n
  · have hd := decide_eq_true ha
    by_cases h8 : (n : Int) ≤ 8
    · have HC := Lib.hid (code_few ha (by omega))
      go_enter Try.func26, Try.ntmps26
      go_wp2_with (first
        | (go_at_call 33; refine (containsHands_any A c hs n _ hn hm h).mono ?_; rintro e w' ⟨rfl, rfl⟩)
        | (go_at_call 35; refine (unless_any _ _ _).mono ?_; rintro e w' ⟨rfl, rfl⟩))
      go_ret
      exact ⟨ret_int' HC.out.symm, rfl⟩
    · have HC := Lib.hid (code_many ha (by omega))
      go_enter Try.func26, Try.ntmps26
      go_wp2_with (first
        | (go_at_call 33; refine (containsHands_any A c hs n _ hn hm h).mono ?_; rintro e w' ⟨rfl, rfl⟩)
        | (go_at_call 35; refine (unless_any _ _ _).mono ?_; rintro e w' ⟨rfl, rfl⟩))
      go_ret
      exact ⟨ret_int' HC.out.symm, rfl⟩
  · have hd := decide_eq_false ha
    have HC := Lib.hid (show handsCode hs n = 1 by unfold handsCode; rw [if_neg ha])
    go_enter Try.func26, Try.ntmps26
    go_wp2_with (go_at_call 33; refine (containsHands_any A c hs n _ hn hm h).mono ?_; rintro e w' ⟨rfl, rfl⟩)
    go_ret
    exact ⟨ret_int' HC.out.symm, rfl⟩
end Go.Proofs.Ytjgflkoefimmoaa
