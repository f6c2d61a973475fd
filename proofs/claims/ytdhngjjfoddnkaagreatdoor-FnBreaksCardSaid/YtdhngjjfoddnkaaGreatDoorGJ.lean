/- Breaks of words into lines, plain; contracts: breaks are as told, both sides. Contracts: breaks are as told, by the reference. Lines between breaks, and what is left in each, plain. No walk here. Contracts: the lines between breaks, by the reference. Contracts: what is left in the lines between breaks, by the reference. Contracts: breaks are right, by the reference. -/
import Derived.Test.YtdhngjjfoddnkaaGreatDoorGH
import Derived.Test.YtdhngjjfoddnkaaGreatDoorGI
import Derived.Test.YtdhngjjfoddnkaaGreatDoorGA
namespace Go.Proofs.YtdhngjjfoddnkaaGreatDoor
open Go Go.RowKit
set_option linter.unusedVariables false
set_option linter.unusedSimpArgs false

/-- The break at i is as it should be. -/
def brkAt (N : Nat) (xs : List Int) (i : Nat) : Bool := inB 1 ((N : Int) - 1) (rdI xs i) && (decide (i = 0) || decide (rdI xs (i - 1) < rdI xs i))
def BrkN (N : Nat) (xs : List Int) (k : Nat) : Prop := ∀ i, i < k → brkAt N xs i = true
instance (N : Nat) (xs : List Int) (k : Nat) : Decidable (BrkN N xs k) := by unfold BrkN; infer_instance
def told (N : Nat) (xs : List Int) : Bool := decide (BrkN N xs xs.length)
theorem brkN_zero (N : Nat) (xs : List Int) : BrkN N xs 0 := fun i hi => by omega
theorem brkN_succ {N : Nat} {xs : List Int} {k : Nat} (h : BrkN N xs k) (hk : brkAt N xs k = true) : BrkN N xs (k + 1) := fun j hj => by
  rcases Nat.lt_succ_iff_lt_or_eq.1 hj with h1 | rfl
  · exact h j h1
  · exact hk
theorem told_all {N : Nat} {xs : List Int} (h : BrkN N xs xs.length) : told N xs = true := decide_eq_true h
theorem told_bad {N : Nat} {xs : List Int} {k : Nat} (hk : k < xs.length) (h : brkAt N xs k = false) : told N xs = false := decide_eq_false fun hh => by rw [hh k hk] at h; cases h
theorem brkAt_out {N : Nat} {xs : List Int} {k : Nat} (h : inB 1 ((N : Int) - 1) (rdI xs k) = false) : brkAt N xs k = false := by unfold brkAt; rw [h]; rfl
theorem brkAt_first {N : Nat} {xs : List Int} {k : Nat} (h : inB 1 ((N : Int) - 1) (rdI xs k) = true) (h0 : k = 0) : brkAt N xs k = true := by unfold brkAt; rw [h]; simp [h0]
theorem brkAt_more {N : Nat} {xs : List Int} {k : Nat} (h : inB 1 ((N : Int) - 1) (rdI xs k) = true) (h0 : ¬ k = 0) : brkAt N xs k = decide (rdI xs (k - 1) < rdI xs k) := by unfold brkAt; rw [h]; simp [h0]

set_option maxHeartbeats 1000000 in
set_option maxRecDepth 100000 in
theorem told_impl (N : Nat) (A : Option Addr) (c : Nat) (xs : List Int) (n : Nat) (w : World) (hN : N ≤ 60) (hn : xs.length = n) (hm : n ≤ 1048576) (h : SlE i64 w A xs) :
    Calls Tryz.prog 43 #[.int .i64 N, .slice A n c] w fun e w' => e = .returned (.bool (told N xs)) ∧ w = w' := by
  have HS := Lib.hid h
  have HN := Lib.hid hn
  clear h hn
  go_enter Tryz.func43, Tryz.ntmps43
  go_wp2
  go_loop [9] (fun i => ∃ k : Nat, k ≤ n ∧ i = .int .i64 k ∧ BrkN N xs k) (fun i => n - (intOf i).toNat)
  case atStart => exact ⟨0, by omega, rfl, brkN_zero _ _⟩
  case round =>
    obtain ⟨k, hk, rfl, hr⟩ := hrel
    have HR := Lib.hid hr
    clear hr
    by_cases hlt : k < n
    · obtain ⟨a, rfl, hrow⟩ := HS.out.some k (by rw [HN.out]; exact hlt)
      have c1 := hrow.atI64 k (by rw [HN.out]; exact hlt)
      cases hin : inB 1 ((N : Int) - 1) (rdI xs k)
      · have HX := Lib.hid (told_bad (by rw [HN.out]; exact hlt) (brkAt_out hin))
        have HI := Lib.hid hin
        clear hin hrow
        go_wp2_with (go_at_call 47; refine (withinI_any _ _ _ _).mono ?_; rintro e w2 ⟨he, rfl⟩; rw [HI.out] at he; subst he)
        go_ret
        exact ⟨retB HX.out.symm, rfl⟩
      · have HI := Lib.hid hin
        by_cases hk0 : k = 0
        · have HX := Lib.hid (brkN_succ HR.out (brkAt_first hin hk0))
          have hz : ¬ (0 : Int) < (k : Int) := by omega
          clear hin hrow hk0
          go_wp2_with (go_at_call 47; refine (withinI_any _ _ _ _).mono ?_; rintro e w2 ⟨he, rfl⟩; rw [HI.out] at he; subst he)
          go_round
          case rel => exact ⟨k + 1, by omega, by go_num, HX.out⟩
          case measure => simp [intOf]; omega
        · obtain ⟨j, hkj⟩ : ∃ j : Nat, (k : Int) - 1 = (j : Int) := ⟨k - 1, by omega⟩
          have c2 := hrow.atI64 j (by rw [HN.out]; omega)
          have hjn : j < n := by omega
          have hz : (0 : Int) < (k : Int) := by omega
          have hb := brkAt_more (N := N) hin hk0
          rw [show k - 1 = j by omega] at hb
          have HB := Lib.hid hb
          clear hb
          clear hrow hk0 hin
          by_cases hlt2 : rdI xs j < rdI xs k
          · have HX := Lib.hid (brkN_succ HR.out (by rw [HB.out]; exact decide_eq_true hlt2))
            go_wp2_with (go_at_call 47; refine (withinI_any _ _ _ _).mono ?_; rintro e w2 ⟨he, rfl⟩; rw [HI.out] at he; subst he)
            go_round
            case rel => exact ⟨k + 1, by omega, by go_num, HX.out⟩
            case measure => simp [intOf]; omega
          · have HX := Lib.hid (told_bad (N := N) (xs := xs) (k := k) (by rw [HN.out]; exact hlt) (by rw [HB.out]; exact decide_eq_false hlt2))
            go_wp2_with (go_at_call 47; refine (withinI_any _ _ _ _).mono ?_; rintro e w2 ⟨he, rfl⟩; rw [HI.out] at he; subst he)
            go_ret
            exact ⟨retB HX.out.symm, rfl⟩
    · obtain rfl : k = n := by omega
      have HX := Lib.hid (told_all (N := N) (xs := xs) (by rw [HN.out]; exact HR.out))
      go_wp2
      go_ret
      exact ⟨retB HX.out.symm, rfl⟩
end Go.Proofs.YtdhngjjfoddnkaaGreatDoor
namespace Go.Proofs.YtdhngjjfoddnkaaGreatDoor
open Go Go.RowKit
set_option linter.unusedVariables false
set_option linter.unusedSimpArgs false

theorem inS_is {n lo hi : Int} {b : Bool} (w : World) (h : inB lo hi n = b) : Calls Tryz.prog 49 #[.int .i64 n, .int .i64 lo, .int .i64 hi] w fun e w' => e = .returned (.bool b) ∧ Below w.heap.size w w' :=
  (inS_any n lo hi w).mono fun e w' ⟨he, hw⟩ => ⟨by rw [he, h], by rw [← hw]; exact Below.refl _ _⟩
theorem szI64 : (Tryz.prog.info? 2).map (·.size) = some 1 := by kernel_rfl

attribute [local irreducible] wpQuiet in
set_option maxHeartbeats 2000000 in
set_option maxRecDepth 100000 in
theorem told_spec (N : Nat) (A : Option Addr) (c : Nat) (xs : List Int) (n : Nat) (w : World) (hN : N ≤ 60) (hn : xs.length = n) (hm : n ≤ 1048576) (h : SlE i64 w A xs) :
    Calls Tryz.prog 64 #[.int .i64 N, .slice A n c] w fun e w' => e = .returned (.bool (told N xs)) ∧ Below w.heap.size w w' := by
  have HS := Lib.hid h
  have HN := Lib.hid hn
  clear h hn
  go_enter Tryz.func64, Tryz.ntmps64
  go_wp2
  go_loopw [5] (fun i w0 => ∃ k : Nat, k ≤ n ∧ i = .int .i64 k ∧ BrkN N xs k ∧ Below w.heap.size w w0) (fun i _ => n - (intOf i).toNat)
  case atStart => exact ⟨0, by omega, rfl, brkN_zero _ _, Below.refl _ _⟩
  case round =>
    obtain ⟨k, hk, rfl, hr, hbel⟩ := hrel
    have HR := Lib.hid hr
    clear hr
    obtain ⟨w0, hw0⟩ : ∃ w0, w0 = wr := ⟨_, rfl⟩
    subst hw0
    by_cases hlt : k < n
    · obtain ⟨a, rfl, hrow⟩ := (HS.out.next hbel).some k (by rw [HN.out]; exact hlt)
      have HRW := Lib.hid hrow
      clear hrow
      cases hin : inB 1 ((N : Int) - 1) (rdI xs k)
      · have HX := Lib.hid (told_bad (by rw [HN.out]; exact hlt) (brkAt_out hin))
        have HI := Lib.hid hin
        clear hin
        go_wp2
        have hsub : IntKind.i64.wrap ((N : Int) - 1) = (N : Int) - 1 := IntWalk.i64_in _ (by omega)
        refine region_below (w0.heap.size) (by kernel_rfl) (by kernel_rfl) ?_
        refine below_run (by kernel_rfl) (.slice (some a) n c) (fun w' hw' => by kernel_rfl) ?_
        refine below_run (by kernel_rfl) (.int .i64 k) (fun w' hw' => by kernel_rfl) ?_
        refine below_run (by kernel_rfl) (.pointer (some (Addr.add a (k * 1)))) (fun w' hw' => exec_index 32 (.tmp 12) (.tmp 13) rfl a n c (by kernel_rfl) .i64 k (by kernel_rfl) hlt 2 Tryz.underlying32 1 szI64) ?_
        refine below_run (by kernel_rfl) (.int .i64 (rdI xs k)) (fun w' hw' => exec_load1 2 (.tmp 14) rfl (a.add (k * 1)) (by kernel_rfl) (.int .i64 (rdI xs k)) (by rw [Nat.mul_one]; exact (HRW.out.next hw').atI64 k (by rw [HN.out]; exact hlt)) _ Tryz.underlying2 rfl) ?_
        refine below_run (by kernel_rfl) (.int .i64 N) (fun w' hw' => by kernel_rfl) ?_
        refine below_run (by kernel_rfl) (.int .i64 ((N : Int) - 1)) (fun w' hw' => Eq.trans (show (execOp _ _).run _ w' = .ok (.value (.int .i64 (IntKind.i64.wrap ((N : Int) - 1)))) w' by kernel_rfl) (by rw [hsub])) ?_
        refine below_call (by kernel_rfl) 49 #[.int .i64 (rdI xs k), .int .i64 1, .int .i64 ((N : Int) - 1)] (.bool false) (fun w' => by kernel_rfl) (fun w' hw' => (inS_is w' HI.out).mono fun e w1 ⟨he, hb1⟩ => ⟨he, below_step hw' hb1⟩) ?_
        refine below_run (by kernel_rfl) (.bool true) (fun w' hw' => by kernel_rfl) ?_
        refine below_run (by kernel_rfl) (.bool true) (fun w' hw' => by kernel_rfl) ?_
        refine BigFrame.wpQuiet_skip (by kernel_rfl) ?_
        refine BigFrame.wpQuiet_skip (by kernel_rfl) ?_
        refine BigFrame.wpQuiet_skip (by kernel_rfl) ?_
        refine BigFrame.wpQuiet_skip (by kernel_rfl) ?_
        refine BigFrame.wpQuiet_skip (by kernel_rfl) ?_
        refine BigFrame.wpQuiet_skip (by kernel_rfl) ?_
        refine BigFrame.wpQuiet_skip (by kernel_rfl) ?_
        refine BigFrame.wpQuiet_skip (by kernel_rfl) ?_
        refine BigFrame.wpQuiet_skip (by kernel_rfl) ?_
        refine BigFrame.wpQuiet_skip (by kernel_rfl) ?_
        refine BigFrame.wpQuiet_skip (by kernel_rfl) ?_
        refine BigFrame.wpQuiet_skip (by kernel_rfl) ?_
        refine BigFrame.wpQuiet_skip (by kernel_rfl) ?_
        refine BigFrame.wpQuiet_skip (by kernel_rfl) ?_
        refine below_run (by kernel_rfl) (.bool true) (fun w' hw' => by kernel_rfl) ?_
        refine wpQuiet_nil ?_
        intro W3 hW3
        simp only [Act.put, List.setIfInBounds_toArray, List.set_cons_succ, List.set_cons_zero]
        have hbel3 := below_step hbel hW3
        clear hsub hW3
        go_wp2
        go_ret
        exact ⟨retB HX.out.symm, hbel3⟩
      · have HI := Lib.hid hin
        by_cases hk0 : k = 0
        · have HX := Lib.hid (brkN_succ HR.out (brkAt_first hin hk0))
          have hz : decide ((0 : Int) < (k : Int)) = false := decide_eq_false (by omega)
          clear hin hk0
          go_wp2
          have hsub : IntKind.i64.wrap ((N : Int) - 1) = (N : Int) - 1 := IntWalk.i64_in _ (by omega)
          refine region_below (w0.heap.size) (by kernel_rfl) (by kernel_rfl) ?_
          refine below_run (by kernel_rfl) (.slice (some a) n c) (fun w' hw' => by kernel_rfl) ?_
          refine below_run (by kernel_rfl) (.int .i64 k) (fun w' hw' => by kernel_rfl) ?_
          refine below_run (by kernel_rfl) (.pointer (some (Addr.add a (k * 1)))) (fun w' hw' => exec_index 32 (.tmp 12) (.tmp 13) rfl a n c (by kernel_rfl) .i64 k (by kernel_rfl) hlt 2 Tryz.underlying32 1 szI64) ?_
          refine below_run (by kernel_rfl) (.int .i64 (rdI xs k)) (fun w' hw' => exec_load1 2 (.tmp 14) rfl (a.add (k * 1)) (by kernel_rfl) (.int .i64 (rdI xs k)) (by rw [Nat.mul_one]; exact (HRW.out.next hw').atI64 k (by rw [HN.out]; exact hlt)) _ Tryz.underlying2 rfl) ?_
          refine below_run (by kernel_rfl) (.int .i64 N) (fun w' hw' => by kernel_rfl) ?_
          refine below_run (by kernel_rfl) (.int .i64 ((N : Int) - 1)) (fun w' hw' => Eq.trans (show (execOp _ _).run _ w' = .ok (.value (.int .i64 (IntKind.i64.wrap ((N : Int) - 1)))) w' by kernel_rfl) (by rw [hsub])) ?_
          refine below_call (by kernel_rfl) 49 #[.int .i64 (rdI xs k), .int .i64 1, .int .i64 ((N : Int) - 1)] (.bool true) (fun w' => by kernel_rfl) (fun w' hw' => (inS_is w' HI.out).mono fun e w1 ⟨he, hb1⟩ => ⟨he, below_step hw' hb1⟩) ?_
          refine below_run (by kernel_rfl) (.bool false) (fun w' hw' => by kernel_rfl) ?_
          refine below_run (by kernel_rfl) (.bool false) (fun w' hw' => by kernel_rfl) ?_
          refine below_run (by kernel_rfl) (.int .i64 k) (fun w' hw' => by kernel_rfl) ?_
          refine below_run (by kernel_rfl) (.bool false) (fun w' hw' => Eq.trans (show (execOp _ _).run _ w' = .ok (.value (.bool (decide ((0 : Int) < (k : Int))))) w' by kernel_rfl) (by rw [hz])) ?_
          refine below_run (by kernel_rfl) (.bool false) (fun w' hw' => by kernel_rfl) ?_
          refine BigFrame.wpQuiet_skip (by kernel_rfl) ?_
          refine BigFrame.wpQuiet_skip (by kernel_rfl) ?_
          refine BigFrame.wpQuiet_skip (by kernel_rfl) ?_
          refine BigFrame.wpQuiet_skip (by kernel_rfl) ?_
          refine BigFrame.wpQuiet_skip (by kernel_rfl) ?_
          refine BigFrame.wpQuiet_skip (by kernel_rfl) ?_
          refine BigFrame.wpQuiet_skip (by kernel_rfl) ?_
          refine BigFrame.wpQuiet_skip (by kernel_rfl) ?_
          refine BigFrame.wpQuiet_skip (by kernel_rfl) ?_
          refine BigFrame.wpQuiet_skip (by kernel_rfl) ?_
          refine below_run (by kernel_rfl) (.bool false) (fun w' hw' => by kernel_rfl) ?_
          refine below_run (by kernel_rfl) (.bool false) (fun w' hw' => by kernel_rfl) ?_
          refine wpQuiet_nil ?_
          intro W3 hW3
          simp only [Act.put, List.setIfInBounds_toArray, List.set_cons_succ, List.set_cons_zero]
          have hbel3 := below_step hbel hW3
          clear hsub hW3 hz
          go_wp2
          go_roundw
          case rel => exact ⟨k + 1, by omega, by go_num, HX.out, hbel3⟩
          case measure => simp [intOf]; omega
        · obtain ⟨j, hkj⟩ : ∃ j : Nat, (k : Int) - 1 = (j : Int) := ⟨k - 1, by omega⟩
          have hjn : j < n := by omega
          have hz : decide ((0 : Int) < (k : Int)) = true := decide_eq_true (by omega)
          have hb := brkAt_more (N := N) hin hk0
          rw [show k - 1 = j by omega] at hb
          have HB := Lib.hid hb
          have HKJ := Lib.hid (show IntKind.i64.wrap ((k : Int) - 1) = (j : Int) by rw [IntWalk.i64_in _ (by omega)]; exact hkj)
          clear hb hin hk0 hkj
          go_wp2
          have hsub : IntKind.i64.wrap ((N : Int) - 1) = (N : Int) - 1 := IntWalk.i64_in _ (by omega)
          refine region_below (w0.heap.size) (by kernel_rfl) (by kernel_rfl) ?_
          refine below_run (by kernel_rfl) (.slice (some a) n c) (fun w' hw' => by kernel_rfl) ?_
          refine below_run (by kernel_rfl) (.int .i64 k) (fun w' hw' => by kernel_rfl) ?_
          refine below_run (by kernel_rfl) (.pointer (some (Addr.add a (k * 1)))) (fun w' hw' => exec_index 32 (.tmp 12) (.tmp 13) rfl a n c (by kernel_rfl) .i64 k (by kernel_rfl) hlt 2 Tryz.underlying32 1 szI64) ?_
          refine below_run (by kernel_rfl) (.int .i64 (rdI xs k)) (fun w' hw' => exec_load1 2 (.tmp 14) rfl (a.add (k * 1)) (by kernel_rfl) (.int .i64 (rdI xs k)) (by rw [Nat.mul_one]; exact (HRW.out.next hw').atI64 k (by rw [HN.out]; exact hlt)) _ Tryz.underlying2 rfl) ?_
          refine below_run (by kernel_rfl) (.int .i64 N) (fun w' hw' => by kernel_rfl) ?_
          refine below_run (by kernel_rfl) (.int .i64 ((N : Int) - 1)) (fun w' hw' => Eq.trans (show (execOp _ _).run _ w' = .ok (.value (.int .i64 (IntKind.i64.wrap ((N : Int) - 1)))) w' by kernel_rfl) (by rw [hsub])) ?_
          refine below_call (by kernel_rfl) 49 #[.int .i64 (rdI xs k), .int .i64 1, .int .i64 ((N : Int) - 1)] (.bool true) (fun w' => by kernel_rfl) (fun w' hw' => (inS_is w' HI.out).mono fun e w1 ⟨he, hb1⟩ => ⟨he, below_step hw' hb1⟩) ?_
          refine below_run (by kernel_rfl) (.bool false) (fun w' hw' => by kernel_rfl) ?_
          refine below_run (by kernel_rfl) (.bool false) (fun w' hw' => by kernel_rfl) ?_
          refine below_run (by kernel_rfl) (.int .i64 k) (fun w' hw' => by kernel_rfl) ?_
          refine below_run (by kernel_rfl) (.bool true) (fun w' hw' => Eq.trans (show (execOp _ _).run _ w' = .ok (.value (.bool (decide ((0 : Int) < (k : Int))))) w' by kernel_rfl) (by rw [hz])) ?_
          refine below_run (by kernel_rfl) (.bool true) (fun w' hw' => by kernel_rfl) ?_
          refine below_run (by kernel_rfl) (.slice (some a) n c) (fun w' hw' => by kernel_rfl) ?_
          refine below_run (by kernel_rfl) (.int .i64 k) (fun w' hw' => by kernel_rfl) ?_
          refine below_run (by kernel_rfl) (.pointer (some (Addr.add a (k * 1)))) (fun w' hw' => exec_index 32 (.tmp 24) (.tmp 25) rfl a n c (by kernel_rfl) .i64 k (by kernel_rfl) hlt 2 Tryz.underlying32 1 szI64) ?_
          refine below_run (by kernel_rfl) (.int .i64 (rdI xs k)) (fun w' hw' => exec_load1 2 (.tmp 26) rfl (a.add (k * 1)) (by kernel_rfl) (.int .i64 (rdI xs k)) (by rw [Nat.mul_one]; exact (HRW.out.next hw').atI64 k (by rw [HN.out]; exact hlt)) _ Tryz.underlying2 rfl) ?_
          refine below_run (by kernel_rfl) (.slice (some a) n c) (fun w' hw' => by kernel_rfl) ?_
          refine below_run (by kernel_rfl) (.int .i64 k) (fun w' hw' => by kernel_rfl) ?_
          refine below_run (by kernel_rfl) (.int .i64 (j : Int)) (fun w' hw' => Eq.trans (show (execOp _ _).run _ w' = .ok (.value (.int .i64 (IntKind.i64.wrap ((k : Int) - 1)))) w' by kernel_rfl) (by rw [HKJ.out])) ?_
          refine below_run (by kernel_rfl) (.pointer (some (Addr.add a (j * 1)))) (fun w' hw' => exec_index 32 (.tmp 28) (.tmp 30) rfl a n c (by kernel_rfl) .i64 j (by kernel_rfl) hjn 2 Tryz.underlying32 1 szI64) ?_
          refine below_run (by kernel_rfl) (.int .i64 (rdI xs j)) (fun w' hw' => exec_load1 2 (.tmp 31) rfl (a.add (j * 1)) (by kernel_rfl) (.int .i64 (rdI xs j)) (by rw [Nat.mul_one]; exact (HRW.out.next hw').atI64 j (by rw [HN.out]; exact hjn)) _ Tryz.underlying2 rfl) ?_
          by_cases hlt2 : rdI xs j < rdI xs k
          · have HX := Lib.hid (brkN_succ HR.out (by rw [HB.out]; exact decide_eq_true hlt2))
            have hle : decide (rdI xs k ≤ rdI xs j) = false := decide_eq_false (by omega)
            refine below_run (by kernel_rfl) (.bool false) (fun w' hw' => Eq.trans (show (execOp _ _).run _ w' = .ok (.value (.bool (decide (rdI xs k ≤ rdI xs j)))) w' by kernel_rfl) (by rw [hle])) ?_
            refine below_run (by kernel_rfl) (.bool false) (fun w' hw' => by kernel_rfl) ?_
            refine below_run (by kernel_rfl) (.bool false) (fun w' hw' => by kernel_rfl) ?_
            refine wpQuiet_nil ?_
            intro W3 hW3
            simp only [Act.put, List.setIfInBounds_toArray, List.set_cons_succ, List.set_cons_zero]
            have hbel3 := below_step hbel hW3
            clear hsub hW3 hz hle
            go_wp2
            go_roundw
            case rel => exact ⟨k + 1, by omega, by go_num, HX.out, hbel3⟩
            case measure => simp [intOf]; omega
          · have HX := Lib.hid (told_bad (N := N) (xs := xs) (k := k) (by rw [HN.out]; exact hlt) (by rw [HB.out]; exact decide_eq_false hlt2))
            have hle : decide (rdI xs k ≤ rdI xs j) = true := decide_eq_true (by omega)
            refine below_run (by kernel_rfl) (.bool true) (fun w' hw' => Eq.trans (show (execOp _ _).run _ w' = .ok (.value (.bool (decide (rdI xs k ≤ rdI xs j)))) w' by kernel_rfl) (by rw [hle])) ?_
            refine below_run (by kernel_rfl) (.bool true) (fun w' hw' => by kernel_rfl) ?_
            refine below_run (by kernel_rfl) (.bool true) (fun w' hw' => by kernel_rfl) ?_
            refine wpQuiet_nil ?_
            intro W3 hW3
            simp only [Act.put, List.setIfInBounds_toArray, List.set_cons_succ, List.set_cons_zero]
            have hbel3 := below_step hbel hW3
            clear hsub hW3 hz hle
            go_wp2
            go_ret
            exact ⟨retB HX.out.symm, hbel3⟩
    · obtain rfl : k = n := by omega
      have HX := Lib.hid (told_all (N := N) (xs := xs) (by rw [HN.out]; exact HR.out))
      go_wp2
      go_ret
      exact ⟨retB HX.out.symm, hbel⟩
end Go.Proofs.YtdhngjjfoddnkaaGreatDoor
namespace Go.Proofs.YtdhngjjfoddnkaaGreatDoor
open Go Go.RowKit
set_option linter.unusedVariables false
set_option linter.unusedSimpArgs false

/-- Where line i begins and ends. -/
def bkA (xs : List Int) (i : Nat) : Nat := if i = 0 then 0 else (rdI xs (i - 1)).toNat
def bkE (N : Nat) (xs : List Int) (i : Nat) : Nat := if i < xs.length then (rdI xs i).toNat else N
theorem bkA_next {N : Nat} {xs : List Int} {i : Nat} (h : i < xs.length) : bkA xs (i + 1) = bkE N xs i := by unfold bkA bkE; rw [if_neg (by omega), if_pos h, Nat.add_sub_cancel]
theorem bkA_zero (xs : List Int) : bkA xs 0 = 0 := rfl
theorem bkE_last {N : Nat} {xs : List Int} : bkE N xs xs.length = N := by unfold bkE; rw [if_neg (by omega)]
theorem bk_in {N : Nat} {xs : List Int} (h : told N xs = true) {i : Nat} (hi : i < xs.length) : 1 ≤ rdI xs i ∧ rdI xs i ≤ (N : Int) - 1 ∧ (0 < i → rdI xs (i - 1) < rdI xs i) := by
  have h1 := (of_decide_eq_true h : BrkN N xs xs.length) i hi
  unfold brkAt at h1
  simp only [Bool.and_eq_true, Bool.or_eq_true, decide_eq_true_iff] at h1
  have h2 := inB_iff.1 h1.1
  exact ⟨h2.1, h2.2, fun h0 => by rcases h1.2 with h3 | h3 <;> omega⟩
/-- Each line of right breaks holds a word (but where there is no word at all). -/
theorem bk_range {N : Nat} {xs : List Int} (h : told N xs = true) {i : Nat} (hi : i ≤ xs.length) : bkE N xs i ≤ N ∧ (0 < N → bkA xs i < bkE N xs i) ∧ (N = 0 → bkA xs i = 0) := by
  have hA : bkA xs i = 0 ∨ (0 < i ∧ (bkA xs i : Int) = rdI xs (i - 1) ∧ rdI xs (i - 1) ≤ (N : Int) - 1 ∧ 1 ≤ rdI xs (i - 1)) := by
    unfold bkA
    by_cases h0 : i = 0
    · left; rw [if_pos h0]
    · right
      have := bk_in h (show i - 1 < xs.length by omega)
      rw [if_neg h0]
      omega
  unfold bkE
  by_cases hl : i < xs.length
  · have := bk_in h hl
    rw [if_pos hl]
    rcases hA with hA | ⟨h1, h2, h3, h4⟩
    · omega
    · have := this.2.2 h1
      omega
  · rw [if_neg hl]
    rcases hA with hA | ⟨h1, h2, h3, h4⟩
    · omega
    · omega
/-- What is left in line i. -/
def leftAt (f : Fc) (ws : List (List UInt8)) (m : Int) (xs : List Int) (i : Nat) : Int := m - lnW f ws (bkA xs i) (bkE ws.length xs i)
def lefts (f : Fc) (ws : List (List UInt8)) (m : Int) (xs : List Int) (k : Nat) : List Int := (List.range k).map (leftAt f ws m xs)
theorem lefts_zero (f : Fc) (ws : List (List UInt8)) (m : Int) (xs : List Int) : lefts f ws m xs 0 = [] := rfl
theorem lefts_succ (f : Fc) (ws : List (List UInt8)) (m : Int) (xs : List Int) (k : Nat) : lefts f ws m xs (k + 1) = lefts f ws m xs k ++ [leftAt f ws m xs k] := by unfold lefts; rw [List.range_succ, List.map_append]; rfl
theorem lefts_length (f : Fc) (ws : List (List UInt8)) (m : Int) (xs : List Int) (k : Nat) : (lefts f ws m xs k).length = k := by unfold lefts; simp
def RightN (f : Fc) (ws : List (List UInt8)) (m : Int) (xs : List Int) (k : Nat) : Prop := ∀ i, i < k → 0 ≤ leftAt f ws m xs i
instance (f : Fc) (ws : List (List UInt8)) (m : Int) (xs : List Int) (k : Nat) : Decidable (RightN f ws m xs k) := by unfold RightN; infer_instance
/-- The breaks are right. -/
def rightB (f : Fc) (ws : List (List UInt8)) (m : Int) (xs : List Int) : Bool := told ws.length xs && decide (RightN f ws m xs (xs.length + 1))
theorem rightN_zero (f : Fc) (ws : List (List UInt8)) (m : Int) (xs : List Int) : RightN f ws m xs 0 := fun i hi => by omega
theorem rightN_succ {f : Fc} {ws : List (List UInt8)} {m : Int} {xs : List Int} {k : Nat} (h : RightN f ws m xs k) (hk : 0 ≤ leftAt f ws m xs k) : RightN f ws m xs (k + 1) := fun j hj => by
  rcases Nat.lt_succ_iff_lt_or_eq.1 hj with h1 | rfl
  · exact h j h1
  · exact hk
theorem rightB_told {f : Fc} {ws : List (List UInt8)} {m : Int} {xs : List Int} (h : told ws.length xs = false) : rightB f ws m xs = false := by unfold rightB; rw [h]; rfl
theorem rightB_all {f : Fc} {ws : List (List UInt8)} {m : Int} {xs : List Int} (h : told ws.length xs = true) (k : RightN f ws m xs (xs.length + 1)) : rightB f ws m xs = true := by unfold rightB; rw [h, decide_eq_true k]; rfl
theorem rightB_bad {f : Fc} {ws : List (List UInt8)} {m : Int} {xs : List Int} {k : Nat} (hk : k < xs.length + 1) (h : leftAt f ws m xs k < 0) : rightB f ws m xs = false := by
  unfold rightB
  rw [decide_eq_false (fun hh : RightN f ws m xs (xs.length + 1) => by have := hh k hk; omega), Bool.and_false]
theorem rightN_dec {f : Fc} {ws : List (List UInt8)} {m : Int} {xs : List Int} {k : Nat} : decide (RightN f ws m xs (k + 1)) = (decide (RightN f ws m xs k) && decide (0 ≤ leftAt f ws m xs k)) := by
  rw [Bool.eq_iff_iff, Bool.and_eq_true, decide_eq_true_iff, decide_eq_true_iff, decide_eq_true_iff]
  exact ⟨fun h => ⟨fun i hi => h i (by omega), h k (by omega)⟩, fun h => rightN_succ h.1 h.2⟩
/-- Breaks that are told are fewer than the words. -/
theorem told_few {N : Nat} {xs : List Int} (h : told N xs = true) : xs.length ≤ N := by
  have hr : ∀ k, k < xs.length → (k : Int) + 1 ≤ rdI xs k := by
    intro k
    induction k with
    | zero => intro hk; have := bk_in h hk; omega
    | succ k ih =>
      intro hk
      have h1 := ih (by omega)
      have h2 := (bk_in h hk).2.2 (by omega)
      rw [Nat.add_sub_cancel] at h2
      push_cast
      omega
  by_cases h0 : xs.length = 0
  · omega
  · have h1 := hr (xs.length - 1) (by omega)
    have h2 := bk_in h (show xs.length - 1 < xs.length by omega)
    omega
end Go.Proofs.YtdhngjjfoddnkaaGreatDoor
namespace Go.Proofs.YtdhngjjfoddnkaaGreatDoor
open Go Go.RowKit
set_option linter.unusedVariables false
set_option linter.unusedSimpArgs false

theorem exec_sliceG {o : Oper} {a : Act} {w : World} (x lo hi : Operand) (ho : o.op = .slice 39 x (some lo) (some hi) none) (A : Option Addr) (n c l h : Nat) (hx : a.eval x = .slice A n c) (hl : a.eval lo = .int .i64 (l : Int)) (hh : a.eval hi = .int .i64 (h : Int)) (hlh : l ≤ h) (hc : h ≤ c) (hlc : l < c) :
    (execOp a.eval o).run Tryz.prog w = .ok (.value (.slice (A.map (·.add l)) (h - l) (c - l))) w := by
  have hne : ¬ c = l := by omega
  have hz : (Tryz.prog.info? 9).map (·.size) = some 1 := by kernel_rfl
  cases hq : Tryz.prog.info? 9 with
  | none => rw [hq] at hz; cases hz
  | some i =>
    have hi : i.size = 1 := by rw [hq] at hz; simpa using hz
    unfold execOp
    simp [ho, hx, hl, hh, Instr.sliceAt, Instr.slice, Instr.sliceBounds, Instr.sliceBound, asIntOf, Sem.run_bind, run_underlying Tryz.underlying39, hc, hlh, hne, sizeOf, typeInfo, hq, hi]
theorem exec_sliceL {o : Oper} {a : Act} {w : World} (x lo : Operand) (ho : o.op = .slice 39 x (some lo) none none) (A : Option Addr) (n c l : Nat) (hx : a.eval x = .slice A n c) (hl : a.eval lo = .int .i64 (l : Int)) (hlh : l ≤ n) (hc : n ≤ c) (hlc : l < c ∨ l = 0) :
    (execOp a.eval o).run Tryz.prog w = .ok (.value (.slice (A.map (·.add l)) (n - l) (c - l))) w := by
  have hz : (Tryz.prog.info? 9).map (·.size) = some 1 := by kernel_rfl
  cases hq : Tryz.prog.info? 9 with
  | none => rw [hq] at hz; cases hz
  | some i =>
    have hi : i.size = 1 := by rw [hq] at hz; simpa using hz
    have hid : l = 0 → A.map (·.add l) = A := fun e => by
      subst e
      cases A with
      | none => rfl
      | some p => simp [Addr.add]
    unfold execOp
    by_cases hne : c = l
    · have e0 : l = 0 := by omega
      rw [hid e0]
      simp [ho, hx, hl, Instr.sliceAt, Instr.slice, Instr.sliceBounds, Instr.sliceBound, asIntOf, Sem.run_bind, run_underlying Tryz.underlying39, hc, hlh, hne, sizeOf, typeInfo, hq, hi]
    · simp [ho, hx, hl, Instr.sliceAt, Instr.slice, Instr.sliceBounds, Instr.sliceBound, asIntOf, Sem.run_bind, run_underlying Tryz.underlying39, hc, hlh, hne, sizeOf, typeInfo, hq, hi]
/-- Line i as a slice. -/
def lnV (A : Option Addr) (c N : Nat) (xs : List Int) (i : Nat) : Value := .slice (A.map (·.add (bkA xs i))) (bkE N xs i - bkA xs i) (c - bkA xs i)
def lnsV (A : Option Addr) (c N : Nat) (xs : List Int) (k : Nat) : List Value := (List.range k).map (lnV A c N xs)
theorem lnsV_succ (A : Option Addr) (c N : Nat) (xs : List Int) (k : Nat) : lnsV A c N xs (k + 1) = lnsV A c N xs k ++ [lnV A c N xs k] := by unfold lnsV; rw [List.range_succ, List.map_append]; rfl
theorem lnsV_length (A : Option Addr) (c N : Nat) (xs : List Int) (k : Nat) : (lnsV A c N xs k).length = k := by unfold lnsV; simp
theorem elSl : El Tryz.prog 98 39 (.slice none 0 0) 1 24 := ⟨Tryz.underlying98, by kernel_rfl, rfl, by decide⟩
structure LnRel (A : Option Addr) (c N : Nat) (xs : List Int) (w wr : World) (v : Value) (k : Nat) : Prop where
  own : wr.ownsRow w.heap.size 39 1 v k (lnsV A c N xs k)
  below : Below w.heap.size w wr

set_option maxHeartbeats 2000000 in
set_option maxRecDepth 100000 in
theorem lines_spec (A B : Option Addr) (c d N : Nat) (xs : List Int) (n : Nat) (w : World) (hN : N ≤ 60) (hc : N ≤ c) (hn : xs.length = n) (ht : told N xs = true) (h : SlE i64 w B xs) :
    Calls Tryz.prog 65 #[.slice A N c, .slice B n d] w fun e w' => ∃ v, e = .returned v ∧ w'.ownsRow w.heap.size 39 1 v (n + 1) (lnsV A c N xs (n + 1)) ∧ Below w.heap.size w w' := by
  have HS := Lib.hid h
  have HN := Lib.hid hn
  have HT := Lib.hid ht
  have hfew := told_few ht
  rw [hn] at hfew
  clear h hn ht
  go_enter Tryz.func65, Tryz.ntmps65
  go_wp2
  go_loopw [5, 6, 7] (fun v fr i wr => ∃ k : Nat, k ≤ n ∧ i = .int .i64 k ∧ fr = .int .i64 (bkA xs k : Nat) ∧ LnRel A c N xs w wr v k) (fun _ _ i _ => n - (intOf i).toNat)
  case atStart => exact ⟨0, by omega, rfl, rfl, own_empty _ _ rfl _ _ (Nat.le_refl _) 1, below_one _ _⟩
  case round =>
    obtain ⟨k, hk, rfl, rfl, h⟩ := hrel
    have hown := h.own
    have hbel := h.below
    clear h
    have hsz := hbel.size
    have hb := bk_range HT.out (i := k) (by rw [HN.out]; exact hk)
    by_cases hlt : k < n
    · obtain ⟨a, rfl, hrow⟩ := HS.out.some k (by rw [HN.out]; exact hlt)
      have hx := bk_in HT.out (i := k) (by rw [HN.out]; exact hlt)
      have he : bkE N xs k = (rdI xs k).toNat := by unfold bkE; rw [if_pos (by rw [HN.out]; exact hlt)]
      have HCE := Lib.hid (show ∀ w', Below w.heap.size w w' → w'.cell? (a.add k) = some (.int .i64 ((bkE N xs k : Nat) : Int)) from fun w' hb' => by
        rw [(hrow.next hb').atI64 k (by rw [HN.out]; exact hlt), he, Int.toNat_of_nonneg (by omega)])
      have HX := Lib.hid (lnsV_succ A c N xs k)
      have HA := Lib.hid (show bkA xs (k + 1) = bkE N xs k from bkA_next (by rw [HN.out]; exact hlt))
      have HV := Lib.hid (show lnV A c N xs k = .slice (A.map (·.add (bkA xs k))) (bkE N xs k - bkA xs k) (c - bkA xs k) from rfl)
      have hab := hb.2.1 (by omega)
      have hte := hb.1
      clear hrow he hx hb
      generalize bkA xs k = fr at *
      generalize bkE N xs k = te at *
      have c1 := HCE.out _ hbel
      go_wp2_with (first
        | (refine wpList_run rfl _ (exec_sliceG (.tmp 16) (.tmp 17) (.tmp 21) rfl A N c fr te rfl rfl rfl (by omega) (by omega) (by omega)) ?_)
        | (at_builtin; refine wpList_app1 rfl (.tmp 15) (.tmp 23) _ rfl elSl wr w.heap.size u5 k _ rfl hown (.slice (A.map (·.add fr)) (te - fr) (c - fr)) _ rfl rfl rfl (by unfold maxLen; omega) (by omega) hsz ?_; intro v' w' ho' hg'; have hbel2 := below_own hbel hown hg' (Nat.le_refl _) hsz; have c2 := HCE.out _ hbel2))
      go_roundw
      case rel =>
        refine ⟨k + 1, by omega, by go_num, by rw [HA.out], ?_, hbel2⟩
        rw [HX.out, HV.out]
        exact ho'
      case measure => simp [intOf]; omega
    · obtain rfl : k = n := by omega
      have HX := Lib.hid (lnsV_succ A c N xs k)
      have hE : bkE N xs k = N := by have := bkE_last (N := N) (xs := xs); rwa [HN.out] at this
      have HV := Lib.hid (show lnV A c N xs k = .slice (A.map (·.add (bkA xs k))) (N - bkA xs k) (c - bkA xs k) by unfold lnV; rw [hE])
      rw [hE] at hb
      clear hE
      generalize bkA xs k = fr at *
      have h1 : fr ≤ N := by omega
      have h2 : fr < c ∨ fr = 0 := by omega
      clear hb
      go_wp2_with (first
        | (refine wpList_run rfl _ (exec_sliceL (.tmp 30) (.tmp 31) rfl A N c fr rfl rfl h1 hc h2) ?_)
        | (at_builtin; refine wpList_app1 rfl (.tmp 29) (.tmp 33) _ rfl elSl wr w.heap.size u5 k _ rfl hown (.slice (A.map (·.add fr)) (N - fr) (c - fr)) _ rfl rfl rfl (by unfold maxLen; omega) (by omega) hsz ?_; intro v' w' ho' hg'))
      go_ret
      refine ⟨v', rfl, ?_, below_own hbel hown hg' (Nat.le_refl _) hsz⟩
      rw [HX.out, HV.out]
      exact ho'
end Go.Proofs.YtdhngjjfoddnkaaGreatDoor
namespace Go.Proofs.YtdhngjjfoddnkaaGreatDoor
open Go Go.RowKit
set_option linter.unusedVariables false
set_option linter.unusedSimpArgs false

theorem slE_line {w : World} {A : Option Addr} {ws : List (List UInt8)} (h : SlE sv w A ws) (hA : 0 < ws.length → ∃ g, A = some ⟨g, 0, none⟩) (a b : Nat) : SlE sv w (A.map (·.add a)) (cutW ws a b) := by
  by_cases h0 : 0 < ws.length
  · obtain ⟨g, rfl⟩ := hA h0
    have := slE_cut h a b
    rw [Nat.zero_add] at this
    rw [Option.map_some, add_mid, Nat.zero_add]
    exact this
  · have e : ws = [] := List.eq_nil_of_length_eq_zero (by omega)
    subst e
    have : cutW [] a b = [] := by unfold cutW; simp
    rw [this]
    exact SlE.nil
theorem lnsV_at {A : Option Addr} {c N k : Nat} {xs : List Int} {i : Nat} (h : i < k) : (lnsV A c N xs k)[i]? = some (lnV A c N xs i) := by
  unfold lnsV
  rw [List.getElem?_map, List.getElem?_range h]; rfl
/-- What is left, and whether all is right. -/
def LfOut (f : Fc) (ws : List (List UInt8)) (m : Int) (xs : List Int) (w : World) (e : Ending) (w' : World) : Prop :=
  ∃ A n c, e = .returned (.tuple #[.slice A n c, .bool (rightB f ws m xs)]) ∧ Below w.heap.size w w' ∧ (rightB f ws m xs = true → n = xs.length + 1 ∧ OwnS w' w.heap.size w'.heap.size A (lefts f ws m xs (xs.length + 1)))
structure LfRel (f : Fc) (ws : List (List UInt8)) (m : Int) (xs : List Int) (w0 wr : World) (v : Value) (k : Nat) : Prop where
  own : wr.ownsRow w0.heap.size 2 1 v k ((lefts f ws m xs k).map i64)
  below : Below w0.heap.size w0 wr

set_option maxHeartbeats 2000000 in
set_option maxRecDepth 100000 in
theorem left_spec (f : Fc) (p b0 : Nat) (A B : Option Addr) (c d : Nat) (ws : List (List UInt8)) (m : Int) (xs : List Int) (n : Nat) (w : World) (hf : FcT f) (hV : FcV f) (hp : f.pairs.length = p) (hm : p ≤ 1048576) (hw : Ws ws) (hmr : 0 ≤ m ∧ m ≤ 4000) (h : FcAt w b0 f p) (hs : SlE sv w A ws)
    (hA : 0 < ws.length → ∃ g, A = some ⟨g, 0, none⟩) (hc : ws.length ≤ c) (hn : xs.length = n) (hnm : n ≤ 1048576) (hb : SlE i64 w B xs) :
    Calls Tryz.prog 41 #[.pointer (some ⟨b0, 0, none⟩), .slice A ws.length c, .int .i64 m, .slice B n d] w (LfOut f ws m xs w) := by
  have HF := Lib.hid hf
  have HVV := Lib.hid hV
  have HP := Lib.hid hp
  have HA := Lib.hid h
  have HW := Lib.hid hw
  have HSL := Lib.hid hs
  have HG := Lib.hid hA
  have HN := Lib.hid hn
  have HXS := Lib.hid hb
  have hcnt := hw.many
  clear hf hV hp h hw hs hA hn hb
  cases ht : told ws.length xs
  · have HX := Lib.hid (rightB_told (f := f) (m := m) ht)
    have HT := Lib.hid ht
    clear ht
    go_enter Tryz.func41, Tryz.ntmps41
    have hB := below_one w (.cells #[] 2)
    go_wp2_with (go_at_call 64; refine (told_spec ws.length B d xs n _ hcnt HN.out hnm (HXS.out.next hB)).mono ?_; rintro e w1 ⟨he, hb1⟩; rw [HT.out] at he; subst he)
    go_ret2
    exact ⟨_, 0, _, by rw [HX.out]; rfl, below_step hB hb1, (fun h => by rw [HX.out] at h; exact absurd h (by decide))⟩
  · have HT := Lib.hid ht
    have hfew := told_few ht
    rw [HN.out] at hfew
    clear ht
    go_enter Tryz.func41, Tryz.ntmps41
    have hB := below_one w (.cells #[] 2)
    have hown0 := own_empty w w.heap.size rfl w.heap.size 2 (Nat.le_refl _) 1
    go_wp2_with (first
      | (go_at_call 64; refine (told_spec ws.length B d xs n _ hcnt HN.out hnm (HXS.out.next hB)).mono ?_; rintro e w1 ⟨he, hb1⟩; rw [HT.out] at he; subst he)
      | (go_at_call 65; refine (lines_spec A B c d ws.length xs n _ hcnt hc HN.out HT.out ((HXS.out.next hB).next hb1)).mono ?_; rintro e w2 ⟨v2, rfl, hln, hb2⟩))
    have hown2 := own_next (own_next hown0 hb1) hb2
    have hbw1 := below_step hB hb1
    have hbw2 := below_step hbw1 hb2
    have hw1 : w.heap.size < w1.heap.size := by have := hb1.size; simp at this; omega
    obtain ⟨g2, cap2, cs2, rfl, hg2, hblk, _⟩ := own_blk hln (by omega)
    have hne0 : some g2 ≠ some w.heap.size := by intro e; cases e; omega
    clear hln hb1 hb2 hown0 hB hbw1
    go_loopw [10, 12] (fun v i wr => ∃ k : Nat, k ≤ n + 1 ∧ i = .int .i64 k ∧ RightN f ws m xs k ∧ some g2 ≠ v.ownBlock ∧ Blk wr g2 39 (lnsV A c ws.length xs (n + 1) ++ cs2) ∧ LfRel f ws m xs w wr v k) (fun _ i _ => n + 1 - (intOf i).toNat)
    case atStart => exact ⟨0, by omega, rfl, rightN_zero _ _ _ _, hne0, hblk, hown2, hbw2⟩
    clear hne0 hblk hown2 hbw2
    case round =>
      obtain ⟨k, hk, rfl, hr, hne, hblk, h⟩ := hrel
      have HR := Lib.hid hr
      have HNE := Lib.hid hne
      have hown := h.own
      have hbel := h.below
      clear h hr hne
      have hsz := hbel.size
      by_cases hlt : k < n + 1
      · have hb := bk_range HT.out (i := k) (by rw [HN.out]; omega)
        have hrg := lnW_range HVV.out HW.out (bkA xs k) (bkE ws.length xs k)
        have HLA := Lib.hid (show leftAt f ws m xs k = m - lnW f ws (bkA xs k) (bkE ws.length xs k) from rfl)
        have HX := Lib.hid (lefts_succ f ws m xs k)
        have hcell : wr.cell? ⟨g2, k, none⟩ = some (.slice (A.map (·.add (bkA xs k))) (bkE ws.length xs k - bkA xs k) (c - bkA xs k)) := hblk.cell k _ (by
          rw [List.getElem?_append_left (by rw [lnsV_length]; exact hlt), lnsV_at hlt]; rfl)
        have HBL := Lib.hid hblk
        have HSC := Lib.hid (slE_line (HSL.out.next hbel) HG.out (bkA xs k) (bkE ws.length xs k))
        have HCL := Lib.hid (cutW_length (ws := ws) (a := bkA xs k) hb.1)
        have HA3 := Lib.hid (HA.out.next hbel)
        clear hblk hb
        generalize bkA xs k = fr at *
        generalize bkE ws.length xs k = te at *
        by_cases hneg : m - lnW f ws fr te < 0
        · have HB := Lib.hid (rightB_bad (f := f) (ws := ws) (m := m) (xs := xs) (k := k) (by rw [HN.out]; exact hlt) (by rw [HLA.out]; exact hneg))
          go_wp2_with (go_at_call 59; refine (line_specN f p b0 _ _ (cutW ws fr te) (te - fr) _ HF.out HVV.out HP.out hm (HW.out.cut _ _) HA3.out HSC.out HCL.out).mono ?_; rintro e w3 ⟨he, hb3⟩; change e = .returned (.int .i64 (lnW f ws fr te)) at he; subst he; have hbel3 := below_step hbel hb3; clear hb3)
          go_ret2
          exact ⟨_, 0, _, by rw [HB.out]; rfl, step_alloc hbel3 _, (fun h => by rw [HB.out] at h; exact absurd h (by decide))⟩
        · have HRN := Lib.hid (rightN_succ HR.out (by rw [HLA.out]; omega))
          go_wp2_with (first
            | (go_at_call 59; refine (line_specN f p b0 _ _ (cutW ws fr te) (te - fr) _ HF.out HVV.out HP.out hm (HW.out.cut _ _) HA3.out HSC.out HCL.out).mono ?_; rintro e w3 ⟨he, hb3⟩; change e = .returned (.int .i64 (lnW f ws fr te)) at he; subst he; have hown3 := own_next hown hb3; have hbel3 := below_step hbel hb3; have hsz3 := hbel3.size; have HBL3 := Lib.hid (HBL.out.next hb3); clear hb3)
            | (at_builtin; refine wpList_app1B rfl (.tmp 41) (.tmp 43) _ rfl elI w3 w.heap.size u10 k _ rfl hown3 (.int .i64 (m - lnW f ws fr te)) _ rfl rfl rfl (by unfold maxLen; omega) (by omega) hsz3 ?_; intro v' w' ho' hg' hwh))
          go_roundw
          case rel =>
            refine ⟨k + 1, by omega, by go_num, HRN.out, ?_, HBL3.out.grown hg' HNE.out, ?_, below_own hbel3 hown3 hg' (Nat.le_refl _) hsz3⟩
            · rcases hwh with e | ⟨g', hg3, e⟩
              · rw [e]; exact HNE.out
              · rw [e]
                intro e2
                cases e2
                have := HBL3.out.lt
                omega
            · rw [HX.out, HLA.out, List.map_append]
              exact ho'
          case measure => simp [intOf]; omega
      · obtain rfl : k = n + 1 := by omega
        have HB := Lib.hid (rightB_all (f := f) (m := m) HT.out (by rw [HN.out]; exact HR.out))
        clear hblk
        go_wp2
        go_ret2
        obtain ⟨A', c', rfl, hl, ho⟩ := OwnS.of_own hown
        refine ⟨A', _, c', by rw [HB.out]; rfl, hbel, fun _ => ⟨by rw [hl, HN.out], ?_⟩⟩
        rw [HN.out]
        exact ho
end Go.Proofs.YtdhngjjfoddnkaaGreatDoor
namespace Go.Proofs.YtdhngjjfoddnkaaGreatDoor
open Go Go.RowKit
set_option linter.unusedVariables false
set_option linter.unusedSimpArgs false

/-- Whether breaks are right, and a code. -/
def chkB (f : Fc) (l : List UInt8) (m : Int) (xs : List Int) : Bool := decide (askC f l (inB 0 4000 m) = 0) && rightB f (words l) m xs
theorem chkB_no {f : Fc} {l : List UInt8} {m : Int} {xs : List Int} (h : ¬ askC f l (inB 0 4000 m) = 0) : chkB f l m xs = false := by unfold chkB; rw [decide_eq_false h]; rfl
theorem chkB_ok {f : Fc} {l : List UInt8} {m : Int} {xs : List Int} (h : askC f l (inB 0 4000 m) = 0) : chkB f l m xs = rightB f (words l) m xs := by unfold chkB; rw [decide_eq_true h]; rfl
/-- A Bool and a code. -/
def ChkOut (f : Fc) (l : List UInt8) (m : Int) (xs : List Int) (w : World) (e : Ending) (w' : World) : Prop :=
  e = .returned (.tuple #[.bool (chkB f l m xs), .int .i64 (askC f l (inB 0 4000 m))]) ∧ Below w.heap.size w w'

set_option maxHeartbeats 2000000 in
set_option maxRecDepth 100000 in
theorem check_spec (f : Fc) (A B : Option Addr) (n c d k : Nat) (s : ByteArray) (m : Int) (xs : List Int) (w : World) (hf : FcT f) (hn : f.pairs.length = n) (hm : n ≤ 1048576) (hs : s.size ≤ 1048576) (hk : xs.length = k) (hkm : k ≤ 1048576) (h : SlP w A f.pairs) (hb : SlE i64 w B xs) :
    Calls Tryz.prog 19 #[.agg (fcV f (.slice A n c)).toArray, .string s, .int .i64 m, .slice B k d] w (ChkOut f (bs s) m xs w) := by
  have hB := below_one w (.cells (fcV f (.slice A n c)).toArray 28)
  have hkf := Blk.new w 28 (fcV f (.slice A n c))
  have hfa : FcAt (w.alloc (.cells (fcV f (.slice A n c)).toArray 28)) w.heap.size f n := ⟨A, c, hkf, h.next hB⟩
  have HF := Lib.hid hf
  have HN := Lib.hid hn
  have HA := Lib.hid hfa
  have HXS := Lib.hid (hb.next hB)
  have HK := Lib.hid hk
  clear hf hn h hfa hkf hb hk
  obtain ⟨cd, hcd⟩ : ∃ cd, cd = askC f (bs s) (inB 0 4000 m) := ⟨_, rfl⟩
  have HC := Lib.hid hcd
  by_cases h0 : cd = 0
  · obtain ⟨hv, ht, hinn⟩ := askC_zero (hcd.symm.trans h0)
    have hmr := inB_iff.1 hinn
    clear hinn
    have HVV := Lib.hid (validF_iff.1 hv)
    have HW := Lib.hid (ws_words ht)
    subst h0
    have HO := Lib.hid (chkB_ok (xs := xs) hcd.symm)
    clear hv ht hcd
    go_enter Tryz.func19, Tryz.ntmps19
    go_wp2_with (first
      | (go_at_call 36; refine (room2_spec f n w.heap.size s m _ HF.out HN.out hm hs HA.out).mono ?_; rintro e w1 ⟨he, hb⟩; rw [← HC.out] at he; subst he; have hb1 := hb; clear hb)
      | (go_at_call 33; refine (words_spec s _ hs).mono ?_; rintro e w2 ⟨A1, c1, rfl, hc1, hb2, hsl, hA1⟩)
      | (go_at_call 41; refine (left_spec f n w.heap.size A1 B c1 d (words (bs s)) m xs k _ HF.out HVV.out HN.out hm HW.out hmr ((HA.out.next hb1).next hb2) hsl hA1 hc1 HK.out hkm ((HXS.out.next hb1).next hb2)).mono ?_; rintro e w3 ⟨A3, n3, c3, rfl, hb3, _⟩))
    go_ret2
    exact ⟨by rw [HO.out, ← HC.out]; rfl, below_step (below_step (below_step hB hb1) hb2) hb3⟩
  · have HO := Lib.hid (chkB_no (xs := xs) (f := f) (l := bs s) (m := m) (by rw [← hcd]; exact h0))
    clear hcd
    go_enter Tryz.func19, Tryz.ntmps19
    go_wp2_with (go_at_call 36; refine (room2_spec f n w.heap.size s m _ HF.out HN.out hm hs HA.out).mono ?_; rintro e w1 ⟨he, hb⟩; rw [← HC.out] at he; subst he; have hB := below_step hB hb; clear hb)
    go_ret2
    exact ⟨by rw [HO.out, ← HC.out]; rfl, hB⟩
end Go.Proofs.YtdhngjjfoddnkaaGreatDoor
