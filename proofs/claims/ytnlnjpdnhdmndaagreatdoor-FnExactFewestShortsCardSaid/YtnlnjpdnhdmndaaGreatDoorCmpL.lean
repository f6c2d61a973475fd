/- Contracts: slices.Compare at numbers: less than 0 where one list comes before the other. -/
import Derived.Test.YtnlnjpdnhdmndaaGreatDoorTabB

namespace Go.Proofs.YtnlnjpdnhdmndaaGreatDoor
open Go Go.RowKit
set_option linter.unusedVariables false
set_option linter.unusedSimpArgs false

def cmpI (x y : Int) : Int := if x < y then -1 else if y < x then 1 else 0
theorem isNaN64_any (x : Int) (w : World) : Calls Tryz.prog 69 #[.int .i64 x] w fun e w' => e = .returned (.bool false) ∧ w = w' := by
  have h : (x != x) = false := by simp
  go_enter Tryz.func69, Tryz.ntmps69
  go_wp2
  go_ret
  exact ⟨rfl, rfl⟩
theorem cmp64_any (x y : Int) (w : World) : Calls Tryz.prog 53 #[.int .i64 x, .int .i64 y] w fun e w' => e = .returned (.int .i64 (cmpI x y)) ∧ w' = w := by
  by_cases h1 : x < y
  · have HE := Lib.hid (show cmpI x y = -1 by unfold cmpI; rw [if_pos h1])
    go_enter Tryz.func53, Tryz.ntmps53
    go_wp2_with (go_at_call 69; refine (isNaN64_any _ _).mono ?_; rintro e w' ⟨rfl, rfl⟩)
    go_ret
    exact ⟨by rw [HE.out]; rfl, rfl⟩
  · by_cases h2 : y < x
    · have HE := Lib.hid (show cmpI x y = 1 by unfold cmpI; rw [if_neg h1, if_pos h2])
      go_enter Tryz.func53, Tryz.ntmps53
      go_wp2_with (go_at_call 69; refine (isNaN64_any _ _).mono ?_; rintro e w' ⟨rfl, rfl⟩)
      go_ret
      exact ⟨by rw [HE.out]; rfl, rfl⟩
    · have HE := Lib.hid (show cmpI x y = 0 by unfold cmpI; rw [if_neg h1, if_neg h2])
      go_enter Tryz.func53, Tryz.ntmps53
      go_wp2_with (go_at_call 69; refine (isNaN64_any _ _).mono ?_; rintro e w' ⟨rfl, rfl⟩)
      go_ret
      exact ⟨by rw [HE.out]; rfl, rfl⟩
theorem cmpI_same (x : Int) : cmpI x x = 0 := by unfold cmpI; rw [if_neg (by omega), if_neg (by omega)]
theorem cmpI_ne {x y : Int} (h : x ≠ y) : (cmpI x y != 0) = true ∧ decide (cmpI x y < 0) = decide (x < y) := by
  unfold cmpI
  by_cases h1 : x < y
  · rw [if_pos h1]; simp [h1]
  · rw [if_neg h1, if_pos (by omega)]; simp [h1]

set_option maxHeartbeats 2000000 in
set_option maxRecDepth 100000 in
theorem compareL_any (A B : Option Addr) (n c m d : Nat) (xs ys : List Int) (w : World) (hn : xs.length = n) (hm : ys.length = m) (hnb : n ≤ 1048576) (hmb : m ≤ 1048576) (ha : SlE i64 w A xs) (hb : SlE i64 w B ys) :
    Calls Tryz.prog 33 #[.slice A n c, .slice B m d] w fun e w' => (∃ v, e = .returned (.int .i64 v) ∧ decide (v < 0) = before xs ys) ∧ Below w.heap.size w w' := by
  have HA := Lib.hid ha
  have HB := Lib.hid hb
  have HN := Lib.hid hn
  have HM := Lib.hid hm
  clear ha hb hn hm
  go_enter Tryz.func33, Tryz.ntmps33
  go_wp2
  go_loopw [11] (fun i wr => ∃ k : Nat, k ≤ n ∧ k ≤ m ∧ i = .int .i64 k ∧ SameN xs ys k ∧ Below w.heap.size w wr) (fun i _ => n - (intOf i).toNat)
  case atStart => exact ⟨0, by omega, by omega, rfl, fun j hj => by omega, Below.refl _ _⟩
  case round =>
    obtain ⟨k, hk, hk2, rfl, hs, hbel⟩ := hrel
    have HS := Lib.hid hs
    clear hs
    by_cases h1 : k < n
    · obtain ⟨a, rfl, hra⟩ := (HA.out.next hbel).some k (by rw [HN.out]; exact h1)
      have ca := hra.atI64 k (by rw [HN.out]; exact h1)
      by_cases h2 : k < m
      · obtain ⟨b, rfl, hrb⟩ := (HB.out.next hbel).some k (by rw [HM.out]; exact h2)
        have cb := hrb.atI64 k (by rw [HM.out]; exact h2)
        clear hra hrb
        by_cases he : rdI xs k = rdI ys k
        · have HX := Lib.hid (show SameN xs ys (k + 1) from fun j hj => by
            rcases Nat.lt_succ_iff_lt_or_eq.1 hj with h | rfl
            · exact HS.out j h
            · exact he)
          have hz : (cmpI (rdI xs k) (rdI ys k) != 0) = false := by rw [he, cmpI_same]; rfl
          clear he
          go_wp2_with (go_at_call 53; refine (cmp64_any _ _ _).mono ?_; rintro e w' ⟨rfl, rfl⟩)
          go_roundw
          case rel => exact ⟨k + 1, by omega, by omega, by go_num, HX.out, hbel⟩
          case measure => simp [intOf]; omega
        · have HX := Lib.hid (before_ne xs ys k (by rw [HN.out]; exact h1) (by rw [HM.out]; exact h2) HS.out he)
          obtain ⟨hz, hd⟩ := cmpI_ne he
          have HD := Lib.hid hd
          clear he hd
          go_wp2_with (go_at_call 53; refine (cmp64_any _ _ _).mono ?_; rintro e w' ⟨rfl, rfl⟩)
          go_ret
          exact ⟨⟨_, rfl, HD.out.trans HX.out.symm⟩, hbel⟩
      · have HX := Lib.hid (before_end xs ys (fun j h3 h4 => HS.out j (by rw [HM.out] at h4; omega)))
        rw [HN.out, HM.out] at HX
        have HF := Lib.hid (show decide ((1 : Int) < 0) = decide (n < m) by rw [decide_eq_false (show ¬ n < m by omega)]; rfl)
        have hkm : k = m := by omega
        subst hkm
        clear hra
        go_wp2
        go_ret
        exact ⟨⟨_, rfl, HF.out.trans HX.out.symm⟩, hbel⟩
    · have HX := Lib.hid (before_end xs ys (fun j h3 h4 => HS.out j (by rw [HN.out] at h3; omega)))
      rw [HN.out, HM.out] at HX
      obtain rfl : k = n := by omega
      by_cases h3 : k < m
      · have HF := Lib.hid (show decide ((-1 : Int) < 0) = decide (k < m) by rw [decide_eq_true h3]; rfl)
        go_wp2
        go_ret
        exact ⟨⟨_, rfl, HF.out.trans HX.out.symm⟩, hbel⟩
      · have HF := Lib.hid (show decide ((0 : Int) < 0) = decide (k < m) by rw [decide_eq_false h3]; rfl)
        go_wp2
        go_ret
        exact ⟨⟨_, rfl, HF.out.trans HX.out.symm⟩, hbel⟩
end Go.Proofs.YtnlnjpdnhdmndaaGreatDoor
